/- The walk of the law FnAtomText (by gen/mkattl.py). -/
import Derived.Laws.EntriesVeiled
import Derived.Deep.RegionHeld3
import Derived.Deep.RegionWith
import Derived.BigQuiet
import Derived.Deep.DrawnRows
import Derived.WalkKit
import Derived.WalkSpells
import Derived.WalkLawsBesides
import Derived.Lib.Hide
import Derived.Test.YtmhjabjiojfgnaaDoorAtTxP
import Derived.Test.YtmhjabjiojfgnaaDoorDrawT
import Derived.Test.YtmhjabjiojfgnaaDoorAPut
import Derived.Test.YtmhjabjiojfgnaaDoorAPutS
import Derived.Test.YtmhjabjiojfgnaaDoorAGetI
import Derived.Test.YtmhjabjiojfgnaaDoorAGetS
import Derived.Test.YtmhjabjiojfgnaaDoorFsA
namespace Go.Proofs.YtmhjabjiojfgnaaDoor
open Go.RowKit D
set_option linter.unusedVariables false
attribute [local go_sem ↓] Go.wp_at_zero Go.wp_at_succ

theorem D.get_put (a : A) : getI (putA a).data.toList = if atomOk a then (a, true) else (zeroA, false) := by
  by_cases h : atomOk a = true
  · rw [if_pos h]
    have e : (putA a).data.toList = putL a := by unfold putA; rw [if_pos h]
    rw [e, getI_putL h]
  · rw [if_neg h]
    have e : (putA a).data.toList = [] := by unfold putA; rw [if_neg h]
    rw [e]
    rfl
theorem D.ok_small {a : A} (h : atomOk a = true) : bulkA a ≤ 100 := by
  unfold atomOk at h
  simp only [Bool.and_eq_true, decide_eq_true_eq, List.all_eq_true] at h
  have h1 := name_len h.1.1
  have hz : a.name.data.toList.length = a.name.size := Array.length_toList
  have h2 := small_bulk a.args fun t ht => by
    have := (term_no44 (h.2 t ht)).2.2
    have hz : t.name.data.toList.length = t.name.size := Array.length_toList
    omega
  unfold bulkA
  omega
theorem D.putA_size {a : A} (h : bulkA a ≤ 1000) : (putA a).size ≤ 1002 := by
  have h1 := putL_size a
  unfold putA
  split
  · have : (⟨(putL a).toArray⟩ : ByteArray).size = (putL a).length := List.size_toArray
    omega
  · exact Nat.zero_le _
theorem D.put_back {t : ByteArray} (h : (getI t.data.toList).2 = true) : putA (getI t.data.toList).1 = t := by
  obtain ⟨h1, h2⟩ := getI_back h
  unfold putA
  rw [if_pos h1, h2]

set_option maxRecDepth 100000 in
set_option maxHeartbeats 8000000 in
theorem atomTextLaw_walk (xs : List UInt8) (v1 : Value) (bs1 : List Nat) (ys : List UInt8) (v2 : Value) (bs2 : List Nat) (m : Int) (w : World) (h1 : bytesK w [v1] xs bs1) (h2 : bytesK w [v2] ys bs2) (hmx : w.cell? ⟨0, 0, none⟩ = some (.int .i64 m)) :
    Calls Tryd.prog 3 #[v1, v2] w fun e w' => e = .returned (.bool true) ∧ Below w.heap.size w w' := by
  obtain ⟨Ad, cap, rfl, hl, hm⟩ := sliceK_form h1
  obtain ⟨Ae, cape, rfl, hl2, hm2⟩ := sliceK_form h2
  have hlm := nat_ge_max (Nat.le_trans hl hm)
  have hlm2 := nat_ge_max (Nat.le_trans hl2 hm2)
  clear hl hm hl2 hm2
  by_cases hn : xs.length ≤ 1048576
  · by_cases hn2 : ys.length ≤ 1048576
    · have hd := drawAtomPut_any _ xs bs1 w h1 hn
      have HD2 := Lib.hid (fun w' (hb : Below w.heap.size w w') => drawAtomGet_any _ ys bs2 w' (bytesK_good.below h2 hb) hn2)
      have HMX := Lib.hid hmx
      have hn' : ¬ (1048576 : Int) < (xs.length : Int) := by omega
      have hn2' : ¬ (1048576 : Int) < (ys.length : Int) := by omega
      clear h1 h2 hn hn2 hmx
      go_enter Tryd.func3, Tryd.ntmps3
      go_wp2_with fail
      refine hd.mono ?_
      rintro e w1 ⟨a, A1, c1, b1, rfl, hR1, hs1, hs2, hs3, B1⟩
      have hbk := small_atom hs1 hs2 hs3
      have hpz := putA_size (a := a) (by omega)
      have hA1 : Below w1.heap.size w1 (w1.alloc (.cells #[.string a.name, .slice A1 a.args.length c1] 25)) := (Below.refl _ _).alloc (Nat.le_refl _) _
      have C1 := B1.trans (hA1.mono B1.size)
      have x0 : (w1.alloc (.cells #[.string a.name, .slice A1 a.args.length c1] 25)).cell? ⟨w1.heap.size, 0, none⟩ = some (.string a.name) := by go_simp
      have x1 : (w1.alloc (.cells #[.string a.name, .slice A1 a.args.length c1] 25)).cell? ⟨w1.heap.size, 1, none⟩ = some (.slice A1 a.args.length c1) := by go_simp
      have q1 := fun w' (hb : Below w1.heap.size w1 w') => atomPut_impl a _ _ b1 w' (atomK_good.below hR1 hb) (by omega)
      have HQ3 := Lib.hid (fun w' (hb : Below w1.heap.size w1 w') => atomPut_spec a _ _ b1 w' (atomK_good.below hR1 hb) (by omega))
      have HQ4 := Lib.hid (fun w' (hb : Below w1.heap.size w1 w') => atomOk_impl a _ _ b1 w' (atomK_good.below hR1 hb))
      have HQ5 := Lib.hid (fun w' (hb : Below w1.heap.size w1 w') => atomOk_spec a _ _ b1 w' (atomK_good.below hR1 hb))
      have HQ6 := Lib.hid (fun c0 c1 b3 w' (hb : Below w1.heap.size w1 w') (hC : atomK w' [c0, c1] a b3) => fsAtom_any a a _ _ _ _ b3 b1 w' hC (atomK_good.below hR1 hb))
      have HGP := Lib.hid (get_put a)
      have HB1 := Lib.hid B1
      have HPZ := Lib.hid hpz
      have q1a := q1 _ hA1
      clear hd q1 hR1 hs1 hs2 hs3 hbk B1 hpz
      go_wp2_with fail
      refine q1a.mono ?_
      rintro e w2 ⟨rfl, hb2⟩
      have D2 := hA1.trans (hb2.mono hA1.size)
      have C2 := C1.trans (hb2.mono C1.size)
      replace x0 := cell_later hb2 x0
      replace x1 := cell_later hb2 x1
      have q2 := atomGet_impl (putA a) m w2 (by have := HPZ.out; omega) (cell_later C2 HMX.out)
      rw [HGP.out] at q2
      generalize putA a = S at *
      generalize atomOk a = ok at *
      clear q1a hb2 hA1 C1
      cases ok
      · rw [if_neg (by decide)] at q2
        go_wp2_with fail
        refine q2.mono ?_
        rintro e w3 ⟨hb3, cs3, b3, rfl, hR3, hN3⟩
        obtain ⟨A3, c3, rfl⟩ := atom_cells hR3
        dsimp only at hR3 ⊢
        have hA3 : Below w3.heap.size w3 (w3.alloc (.cells #[.string ⟨#[]⟩, .slice A3 0 c3] 25)) := (Below.refl _ _).alloc (Nat.le_refl _) _
        have e3 := hb3.trans (hA3.mono hb3.size)
        have D3 := D2.trans (e3.mono D2.size)
        have C3 := C2.trans (e3.mono C2.size)
        replace x0 := cell_later e3 x0
        replace x1 := cell_later e3 x1
        have y0 : (w3.alloc (.cells #[.string ⟨#[]⟩, .slice A3 0 c3] 25)).cell? ⟨w3.heap.size, 0, none⟩ = some (.string ⟨#[]⟩) := by go_simp
        have y1 : (w3.alloc (.cells #[.string ⟨#[]⟩, .slice A3 0 c3] 25)).cell? ⟨w3.heap.size, 1, none⟩ = some (.slice A3 0 c3) := by go_simp
        have HR3 := Lib.hid (atomK_good.below hR3 hA3)
        clear q2 hb3 hR3 hN3 hA3 e3 D2 C2
        go_wp2
        refine wp_region_held_drew (S := (fun w' => w'.cell? ⟨w1.heap.size, 0, none⟩ = some (.string a.name) ∧ w'.cell? ⟨w1.heap.size, 1, none⟩ = some (.slice A1 a.args.length c1) ∧ w'.cell? ⟨w3.heap.size, 0, none⟩ = some (.string ⟨#[]⟩) ∧ w'.cell? ⟨w3.heap.size, 1, none⟩ = some (.slice A3 0 c3))) (by kernel_rfl) ?_ (fun hHeld => ?_)
        · exact ⟨x0, x1, y0, y1⟩
        refine wpAnyH_take (i := 0) (oi := ⟨_, _, _, _, _, _⟩) (v := ?_) rfl (by kernel_rfl) (by kernel_rfl) (by kernel_rfl) (fun _ _ _ h => h) (Or.inl ⟨by rfl, ?_⟩) (by assumption) ?_
        rotate_left
        · (intro w hSw; (try dsimp only at hSw); go_simp); (first | done | with_reducible rfl)
        try simp only [Act.put, List.setIfInBounds_toArray, List.set_cons_zero, List.set_cons_succ]
        refine wpAnyH_take (i := 1) (oi := ⟨_, _, _, _, _, _⟩) (v := ?_) rfl (by kernel_rfl) (by kernel_rfl) (by kernel_rfl) (fun _ _ _ h => h) (Or.inl ⟨by rfl, ?_⟩) (by assumption) ?_
        rotate_left
        · (intro w hSw; (try dsimp only at hSw); go_simp); (first | done | with_reducible rfl)
        try simp only [Act.put, List.setIfInBounds_toArray, List.set_cons_zero, List.set_cons_succ]
        refine wpAnyH_ready (rs := [2]) (by kernel_rfl) (by simp) ?_
        refine AllReadyH.cons (o := ⟨_, _, _, _, _, _⟩) rfl (fun K hK => ?_) AllReadyH.nil
        rw [if_pos (by rfl)]
        go_simp
        go_at_call 11
        refine (HQ3.out _ D3.drew).mono ?_
        rintro e u1 ⟨rfl, hu1⟩
        have hv1 := ((Below.refl _ _).drew).trans hu1
        have DU1 := D3.trans (hv1.mono D3.size)
        have CU1 := C3.trans (hv1.mono C3.size)
        replace x0 := cell_later hv1 x0
        replace x1 := cell_later hv1 x1
        replace y0 := cell_later hv1 y0
        replace y1 := cell_later hv1 y1
        replace HR3 := Lib.hid (atomK_good.below HR3.out hv1)
        clear hHeld
        refine hK.out _ _ ?_ (fun hHeld => ?_)
        · exact ⟨x0, x1, y0, y1⟩
        clear hK
        clear K
        try simp only [Act.put, List.setIfInBounds_toArray, List.set_cons_zero, List.set_cons_succ]
        refine wpAnyH_take (i := 3) (oi := ⟨_, _, _, _, _, _⟩) (v := ?_) rfl (by kernel_rfl) (by kernel_rfl) (by kernel_rfl) (fun _ _ _ h => h) (Or.inl ⟨by rfl, ?_⟩) (by assumption) ?_
        rotate_left
        · (intro w hSw; (try dsimp only at hSw); go_simp); (first | done | with_reducible rfl)
        try simp only [Act.put, List.setIfInBounds_toArray, List.set_cons_zero, List.set_cons_succ]
        refine wpAnyH_take (i := 4) (oi := ⟨_, _, _, _, _, _⟩) (v := ?_) rfl (by kernel_rfl) (by kernel_rfl) (by kernel_rfl) (fun _ _ _ h => h) (Or.inl ⟨by rfl, ?_⟩) (by assumption) ?_
        rotate_left
        · (intro w hSw; (try dsimp only at hSw); go_simp); (first | done | with_reducible rfl)
        try simp only [Act.put, List.setIfInBounds_toArray, List.set_cons_zero, List.set_cons_succ]
        refine wpAnyH_take (i := 5) (oi := ⟨_, _, _, _, _, _⟩) (v := ?_) rfl (by kernel_rfl) (by kernel_rfl) (by kernel_rfl) (fun _ _ _ h => h) (Or.inl ⟨by rfl, ?_⟩) (by assumption) ?_
        rotate_left
        · (intro w hSw; (try dsimp only at hSw); go_simp); (first | done | with_reducible rfl)
        try simp only [Act.put, List.setIfInBounds_toArray, List.set_cons_zero, List.set_cons_succ]
        refine wpAnyH_take (i := 7) (oi := ⟨_, _, _, _, _, _⟩) (v := ?_) rfl (by kernel_rfl) (by kernel_rfl) (by kernel_rfl) (fun _ _ _ h => h) (Or.inl ⟨by rfl, ?_⟩) (by assumption) ?_
        rotate_left
        · (intro w hSw; (try dsimp only at hSw); go_simp); (first | done | with_reducible rfl)
        try simp only [Act.put, List.setIfInBounds_toArray, List.set_cons_zero, List.set_cons_succ]
        refine wpAnyH_ready (rs := [6]) (by kernel_rfl) (by simp) ?_
        refine AllReadyH.cons (o := ⟨_, _, _, _, _, _⟩) rfl (fun K hK => ?_) AllReadyH.nil
        rw [if_pos (by rfl)]
        go_simp
        go_at_call 12
        refine (HQ4.out _ DU1).mono ?_
        rintro e u2 ⟨rfl, hu2⟩
        have hv2 := hu2
        have DU2 := DU1.trans (hv2.mono DU1.size)
        have CU2 := CU1.trans (hv2.mono CU1.size)
        replace x0 := cell_later hv2 x0
        replace x1 := cell_later hv2 x1
        replace y0 := cell_later hv2 y0
        replace y1 := cell_later hv2 y1
        replace HR3 := Lib.hid (atomK_good.below HR3.out hv2)
        clear hHeld
        refine hK.out _ _ ?_ (fun hHeld => ?_)
        · exact ⟨x0, x1, y0, y1⟩
        clear hK
        clear K
        try simp only [Act.put, List.setIfInBounds_toArray, List.set_cons_zero, List.set_cons_succ]
        refine wpAnyH_ready (rs := [8]) (by kernel_rfl) (by simp) ?_
        refine AllReadyH.cons (o := ⟨_, _, _, _, _, _⟩) rfl (fun K hK => ?_) AllReadyH.nil
        rw [if_pos (by rfl)]
        go_simp
        go_at_call 13
        refine (HQ5.out _ DU2).mono ?_
        rintro e u3 ⟨rfl, hu3⟩
        have hv3 := hu3
        have DU3 := DU2.trans (hv3.mono DU2.size)
        have CU3 := CU2.trans (hv3.mono CU2.size)
        replace x0 := cell_later hv3 x0
        replace x1 := cell_later hv3 x1
        replace y0 := cell_later hv3 y0
        replace y1 := cell_later hv3 y1
        replace HR3 := Lib.hid (atomK_good.below HR3.out hv3)
        clear hHeld
        refine hK.out _ _ ?_ (fun hHeld => ?_)
        · exact ⟨x0, x1, y0, y1⟩
        clear hK
        clear K
        try simp only [Act.put, List.setIfInBounds_toArray, List.set_cons_zero, List.set_cons_succ]
        refine wpAnyH_take (i := 9) (oi := ⟨_, _, _, _, _, _⟩) (v := ?_) rfl (by kernel_rfl) (by kernel_rfl) (by kernel_rfl) (fun _ _ _ h => h) (Or.inl ⟨by rfl, ?_⟩) (by assumption) ?_
        rotate_left
        · (intro w hSw; (try dsimp only at hSw); go_simp); (first | done | with_reducible rfl)
        try simp only [Act.put, List.setIfInBounds_toArray, List.set_cons_zero, List.set_cons_succ]
        refine wpAnyH_take (i := 10) (oi := ⟨_, _, _, _, _, _⟩) (v := ?_) rfl (by kernel_rfl) (by kernel_rfl) (by kernel_rfl) (fun _ _ _ h => h) (Or.inl ⟨by rfl, ?_⟩) (by assumption) ?_
        rotate_left
        · (intro w hSw; (try dsimp only at hSw); go_simp); (first | done | with_reducible rfl)
        try simp only [Act.put, List.setIfInBounds_toArray, List.set_cons_zero, List.set_cons_succ]
        refine wpAnyH_take (i := 11) (oi := ⟨_, _, _, _, _, _⟩) (v := ?_) rfl (by kernel_rfl) (by kernel_rfl) (by kernel_rfl) (fun _ _ _ h => h) (Or.inl ⟨by rfl, ?_⟩) (by assumption) ?_
        rotate_left
        · (intro w hSw; (try dsimp only at hSw); go_simp); (first | done | with_reducible rfl)
        try simp only [Act.put, List.setIfInBounds_toArray, List.set_cons_zero, List.set_cons_succ]
        refine wpAnyH_take (i := 12) (oi := ⟨_, _, _, _, _, _⟩) (v := ?_) rfl (by kernel_rfl) (by kernel_rfl) (by kernel_rfl) (fun _ _ _ h => h) (Or.inl ⟨by rfl, ?_⟩) (by assumption) ?_
        rotate_left
        · (intro w hSw; (try dsimp only at hSw); go_simp); (first | done | with_reducible rfl)
        try simp only [Act.put, List.setIfInBounds_toArray, List.set_cons_zero, List.set_cons_succ]
        refine wpAnyH_take (i := 13) (oi := ⟨_, _, _, _, _, _⟩) (v := ?_) rfl (by kernel_rfl) (by kernel_rfl) (by kernel_rfl) (fun _ _ _ h => h) (Or.inl ⟨by rfl, ?_⟩) (by assumption) ?_
        rotate_left
        · (intro w hSw; (try dsimp only at hSw); go_simp); (first | done | with_reducible rfl)
        try simp only [Act.put, List.setIfInBounds_toArray, List.set_cons_zero, List.set_cons_succ]
        refine wpAnyH_ready (rs := [14]) (by kernel_rfl) (by simp) ?_
        refine AllReadyH.cons (o := ⟨_, _, _, _, _, _⟩) rfl (fun K hK => ?_) AllReadyH.nil
        rw [if_pos (by rfl)]
        go_simp
        go_at_call 13
        refine (HQ5.out _ DU3).mono ?_
        rintro e u4 ⟨rfl, hu4⟩
        have hv4 := hu4
        have DU4 := DU3.trans (hv4.mono DU3.size)
        have CU4 := CU3.trans (hv4.mono CU3.size)
        replace x0 := cell_later hv4 x0
        replace x1 := cell_later hv4 x1
        replace y0 := cell_later hv4 y0
        replace y1 := cell_later hv4 y1
        replace HR3 := Lib.hid (atomK_good.below HR3.out hv4)
        clear hHeld
        refine hK.out _ _ ?_ (fun hHeld => ?_)
        · exact ⟨x0, x1, y0, y1⟩
        clear hK
        clear K
        try simp only [Act.put, List.setIfInBounds_toArray, List.set_cons_zero, List.set_cons_succ]
        refine wpAnyH_take (i := 15) (oi := ⟨_, _, _, _, _, _⟩) (v := ?_) rfl (by kernel_rfl) (by kernel_rfl) (by kernel_rfl) (fun _ _ _ h => h) (Or.inl ⟨by rfl, ?_⟩) (by assumption) ?_
        rotate_left
        · (intro w hSw; (try dsimp only at hSw); go_simp); (first | done | with_reducible rfl)
        try simp only [Act.put, List.setIfInBounds_toArray, List.set_cons_zero, List.set_cons_succ]
        refine wpAnyH_take (i := 16) (oi := ⟨_, _, _, _, _, _⟩) (v := ?_) rfl (by kernel_rfl) (by kernel_rfl) (by kernel_rfl) (fun _ _ _ h => h) (Or.inl ⟨by rfl, ?_⟩) (by assumption) ?_
        rotate_left
        · (intro w hSw; (try dsimp only at hSw); go_simp); (first | done | with_reducible rfl)
        try simp only [Act.put, List.setIfInBounds_toArray, List.set_cons_zero, List.set_cons_succ]
        refine wpAnyH_take (i := 17) (oi := ⟨_, _, _, _, _, _⟩) (v := ?_) rfl (by kernel_rfl) (by kernel_rfl) (by kernel_rfl) (fun _ _ _ h => h) (Or.inl ⟨by rfl, ?_⟩) (by assumption) ?_
        rotate_left
        · (intro w hSw; (try dsimp only at hSw); go_simp); (first | done | with_reducible rfl)
        try simp only [Act.put, List.setIfInBounds_toArray, List.set_cons_zero, List.set_cons_succ]
        refine wpAnyH_take (i := 18) (oi := ⟨_, _, _, _, _, _⟩) (v := ?_) rfl (by kernel_rfl) (by kernel_rfl) (by kernel_rfl) (fun _ _ _ h => h) (Or.inl ⟨by rfl, ?_⟩) (by assumption) ?_
        rotate_left
        · (intro w hSw; (try dsimp only at hSw); go_simp); (first | done | with_reducible rfl)
        try simp only [Act.put, List.setIfInBounds_toArray, List.set_cons_zero, List.set_cons_succ]
        refine wpAnyH_take (i := 19) (oi := ⟨_, _, _, _, _, _⟩) (v := ?_) rfl (by kernel_rfl) (by kernel_rfl) (by kernel_rfl) (fun _ _ _ h => h) (Or.inl ⟨by rfl, ?_⟩) (by assumption) ?_
        rotate_left
        · (intro w hSw; (try dsimp only at hSw); go_simp); (first | done | with_reducible rfl)
        try simp only [Act.put, List.setIfInBounds_toArray, List.set_cons_zero, List.set_cons_succ]
        refine wpAnyH_take (i := 20) (oi := ⟨_, _, _, _, _, _⟩) (v := undef) rfl (by kernel_rfl) (by kernel_rfl) (by kernel_rfl) (fun _ _ _ h => h) (Or.inr ⟨by kernel_rfl, rfl⟩) (by assumption) ?_
        try simp only [Act.put, List.setIfInBounds_toArray, List.set_cons_zero, List.set_cons_succ]
        refine wpAnyH_take (i := 21) (oi := ⟨_, _, _, _, _, _⟩) (v := undef) rfl (by kernel_rfl) (by kernel_rfl) (by kernel_rfl) (fun _ _ _ h => h) (Or.inr ⟨by kernel_rfl, rfl⟩) (by assumption) ?_
        try simp only [Act.put, List.setIfInBounds_toArray, List.set_cons_zero, List.set_cons_succ]
        refine wpAnyH_take (i := 22) (oi := ⟨_, _, _, _, _, _⟩) (v := undef) rfl (by kernel_rfl) (by kernel_rfl) (by kernel_rfl) (fun _ _ _ h => h) (Or.inr ⟨by kernel_rfl, rfl⟩) (by assumption) ?_
        try simp only [Act.put, List.setIfInBounds_toArray, List.set_cons_zero, List.set_cons_succ]
        refine wpAnyH_take (i := 23) (oi := ⟨_, _, _, _, _, _⟩) (v := undef) rfl (by kernel_rfl) (by kernel_rfl) (by kernel_rfl) (fun _ _ _ h => h) (Or.inr ⟨by kernel_rfl, rfl⟩) (by assumption) ?_
        try simp only [Act.put, List.setIfInBounds_toArray, List.set_cons_zero, List.set_cons_succ]
        refine wpAnyH_take (i := 24) (oi := ⟨_, _, _, _, _, _⟩) (v := ?_) rfl (by kernel_rfl) (by kernel_rfl) (by kernel_rfl) (fun _ _ _ h => h) (Or.inl ⟨by rfl, ?_⟩) (by assumption) ?_
        rotate_left
        · (intro w hSw; (try dsimp only at hSw); go_simp); (first | done | with_reducible rfl)
        try simp only [Act.put, List.setIfInBounds_toArray, List.set_cons_zero, List.set_cons_succ]
        refine wpAnyH_take (i := 25) (oi := ⟨_, _, _, _, _, _⟩) (v := ?_) rfl (by kernel_rfl) (by kernel_rfl) (by kernel_rfl) (fun _ _ _ h => h) (Or.inl ⟨by rfl, ?_⟩) (by assumption) ?_
        rotate_left
        · (intro w hSw; (try dsimp only at hSw); go_simp); (first | done | with_reducible rfl)
        try simp only [Act.put, List.setIfInBounds_toArray, List.set_cons_zero, List.set_cons_succ]
        clear hHeld
        refine wpAnyH_done (by kernel_rfl) ?_ _
        have hd2 := HD2.out _ CU4
        have CC := CU4
        clear HQ3 HQ4 HQ5 HQ6 HR3 HD2 HGP HPZ x0 x1 y0 y1 D3 C3 DU1 CU1
        go_wp2_with fail
        refine hd2.mono ?_
        rintro e w5 ⟨t, rfl, ht, hb5⟩
        have B5 := CC.trans (hb5.mono CC.size)
        have q7 := atomGet_impl t m w5 (by omega) (cell_later B5 HMX.out)
        have q8 := fun w' => atomGet_spec t w' (by omega)
        simp only [getS_getI] at q8
        have HBK := Lib.hid (put_back (t := t))
        have HOK := Lib.hid (fun h => ok_small (getI_back (t := t.data.toList) h).1)
        generalize getI t.data.toList = V at *
        obtain ⟨y, fine⟩ := V
        try dsimp only at q7 q8
        clear hd2 hb5 ht HMX
        go_wp2_with fail
        refine q7.mono ?_
        rintro e w6 ⟨hb6, cs6, b6, rfl, hR6, hN6⟩
        obtain ⟨A6, c6, rfl⟩ := atom_cells hR6
        dsimp only at hR6 ⊢
        have hA6 : Below w6.heap.size w6 (w6.alloc (.cells #[.string y.name, .slice A6 y.args.length c6] 25)) := (Below.refl _ _).alloc (Nat.le_refl _) _
        have e6 := hb6.trans (hA6.mono hb6.size)
        have B6 := B5.trans (e6.mono B5.size)
        have y0 : (w6.alloc (.cells #[.string y.name, .slice A6 y.args.length c6] 25)).cell? ⟨w6.heap.size, 0, none⟩ = some (.string y.name) := by go_simp
        have y1 : (w6.alloc (.cells #[.string y.name, .slice A6 y.args.length c6] 25)).cell? ⟨w6.heap.size, 1, none⟩ = some (.slice A6 y.args.length c6) := by go_simp
        have HR6 := Lib.hid (atomK_good.below hR6 hA6)
        have q8a := q8 (w6.alloc (.cells #[.string y.name, .slice A6 y.args.length c6] 25))
        clear q7 q8 hb6 hR6 hN6 hA6 e6 B5
        go_wp2_with fail
        refine q8a.mono ?_
        rintro e w7 ⟨hb7, cs7, b7, rfl, hR7⟩
        obtain ⟨A7, c7, rfl⟩ := atom_cells hR7
        dsimp only at hR7 ⊢
        have hA7 : Below w7.heap.size w7 (w7.alloc (.cells #[.string y.name, .slice A7 y.args.length c7] 25)) := (Below.refl _ _).alloc (Nat.le_refl _) _
        have e7 := hb7.trans (hA7.mono hb7.size)
        have B7 := B6.trans (e7.mono B6.size)
        replace y0 := cell_later e7 y0
        replace y1 := cell_later e7 y1
        have z0 : (w7.alloc (.cells #[.string y.name, .slice A7 y.args.length c7] 25)).cell? ⟨w7.heap.size, 0, none⟩ = some (.string y.name) := by go_simp
        have z1 : (w7.alloc (.cells #[.string y.name, .slice A7 y.args.length c7] 25)).cell? ⟨w7.heap.size, 1, none⟩ = some (.slice A7 y.args.length c7) := by go_simp
        have HR7 := Lib.hid (atomK_good.below hR7 hA7)
        replace HR6 := Lib.hid (atomK_good.below HR6.out e7)
        have qf := fsAtom_any y y _ _ _ _ b6 b7 _ HR6.out HR7.out
        have qp := fun (hf : fine = true) w' hb => atomPut_impl y _ _ b6 w' (atomK_good.below HR6.out hb) (by have := HOK.out hf; omega)
        clear q8a hb7 hR7 hA7 e7 B6
        cases fine
        · go_wp2_with fail
          refine qf.mono ?_
          rintro e v1 ⟨r1, rfl, hr1, hv1⟩
          obtain rfl : r1 = true := (by first | exact hr1.2 rfl | exact hr1.2 trivial)
          clear hr1
          have BV1 := B7.trans (hv1.mono B7.size)
          replace y0 := cell_later hv1 y0
          replace y1 := cell_later hv1 y1
          go_wp2
          go_ret
          exact ⟨rfl, BV1⟩
        · go_wp2_with fail
          refine qf.mono ?_
          rintro e v1 ⟨r1, rfl, hr1, hv1⟩
          obtain rfl : r1 = true := (by first | exact hr1.2 rfl | exact hr1.2 trivial)
          clear hr1
          have BV1 := B7.trans (hv1.mono B7.size)
          replace y0 := cell_later hv1 y0
          replace y1 := cell_later hv1 y1
          have qp1 := qp (by first | exact trivial | rfl) _ hv1
          go_wp2_with fail
          refine qp1.mono ?_
          rintro e v2 ⟨rfl, hv2⟩
          have BV2 := BV1.trans (hv2.mono BV1.size)
          go_wp2
          go_ret
          exact ⟨ret_bool (by have := HBK.out (by first | exact trivial | rfl); rw [this]; simp), BV2⟩
      · rw [if_pos rfl] at q2
        go_wp2_with fail
        refine q2.mono ?_
        rintro e w3 ⟨hb3, cs3, b3, rfl, hR3, hN3⟩
        obtain ⟨A3, c3, rfl⟩ := atom_cells hR3
        dsimp only at hR3 ⊢
        have hA3 : Below w3.heap.size w3 (w3.alloc (.cells #[.string a.name, .slice A3 a.args.length c3] 25)) := (Below.refl _ _).alloc (Nat.le_refl _) _
        have e3 := hb3.trans (hA3.mono hb3.size)
        have D3 := D2.trans (e3.mono D2.size)
        have C3 := C2.trans (e3.mono C2.size)
        replace x0 := cell_later e3 x0
        replace x1 := cell_later e3 x1
        have y0 : (w3.alloc (.cells #[.string a.name, .slice A3 a.args.length c3] 25)).cell? ⟨w3.heap.size, 0, none⟩ = some (.string a.name) := by go_simp
        have y1 : (w3.alloc (.cells #[.string a.name, .slice A3 a.args.length c3] 25)).cell? ⟨w3.heap.size, 1, none⟩ = some (.slice A3 a.args.length c3) := by go_simp
        have HR3 := Lib.hid (atomK_good.below hR3 hA3)
        clear q2 hb3 hR3 hN3 hA3 e3 D2 C2
        go_wp2
        refine wp_region_held_drew (S := (fun w' => w'.cell? ⟨w1.heap.size, 0, none⟩ = some (.string a.name) ∧ w'.cell? ⟨w1.heap.size, 1, none⟩ = some (.slice A1 a.args.length c1) ∧ w'.cell? ⟨w3.heap.size, 0, none⟩ = some (.string a.name) ∧ w'.cell? ⟨w3.heap.size, 1, none⟩ = some (.slice A3 a.args.length c3))) (by kernel_rfl) ?_ (fun hHeld => ?_)
        · exact ⟨x0, x1, y0, y1⟩
        refine wpAnyH_take (i := 0) (oi := ⟨_, _, _, _, _, _⟩) (v := ?_) rfl (by kernel_rfl) (by kernel_rfl) (by kernel_rfl) (fun _ _ _ h => h) (Or.inl ⟨by rfl, ?_⟩) (by assumption) ?_
        rotate_left
        · (intro w hSw; (try dsimp only at hSw); go_simp); (first | done | with_reducible rfl)
        try simp only [Act.put, List.setIfInBounds_toArray, List.set_cons_zero, List.set_cons_succ]
        refine wpAnyH_take (i := 1) (oi := ⟨_, _, _, _, _, _⟩) (v := ?_) rfl (by kernel_rfl) (by kernel_rfl) (by kernel_rfl) (fun _ _ _ h => h) (Or.inl ⟨by rfl, ?_⟩) (by assumption) ?_
        rotate_left
        · (intro w hSw; (try dsimp only at hSw); go_simp); (first | done | with_reducible rfl)
        try simp only [Act.put, List.setIfInBounds_toArray, List.set_cons_zero, List.set_cons_succ]
        refine wpAnyH_ready (rs := [2]) (by kernel_rfl) (by simp) ?_
        refine AllReadyH.cons (o := ⟨_, _, _, _, _, _⟩) rfl (fun K hK => ?_) AllReadyH.nil
        rw [if_pos (by rfl)]
        go_simp
        go_at_call 11
        refine (HQ3.out _ D3.drew).mono ?_
        rintro e u1 ⟨rfl, hu1⟩
        have hv1 := ((Below.refl _ _).drew).trans hu1
        have DU1 := D3.trans (hv1.mono D3.size)
        have CU1 := C3.trans (hv1.mono C3.size)
        replace x0 := cell_later hv1 x0
        replace x1 := cell_later hv1 x1
        replace y0 := cell_later hv1 y0
        replace y1 := cell_later hv1 y1
        replace HR3 := Lib.hid (atomK_good.below HR3.out hv1)
        clear hHeld
        refine hK.out _ _ ?_ (fun hHeld => ?_)
        · exact ⟨x0, x1, y0, y1⟩
        clear hK
        clear K
        try simp only [Act.put, List.setIfInBounds_toArray, List.set_cons_zero, List.set_cons_succ]
        refine wpAnyH_take (i := 3) (oi := ⟨_, _, _, _, _, _⟩) (v := ?_) rfl (by kernel_rfl) (by kernel_rfl) (by kernel_rfl) (fun _ _ _ h => h) (Or.inl ⟨by rfl, ?_⟩) (by assumption) ?_
        rotate_left
        · (intro w hSw; (try dsimp only at hSw); go_simp); (first | done | with_reducible rfl)
        try simp only [Act.put, List.setIfInBounds_toArray, List.set_cons_zero, List.set_cons_succ]
        refine wpAnyH_take (i := 4) (oi := ⟨_, _, _, _, _, _⟩) (v := ?_) rfl (by kernel_rfl) (by kernel_rfl) (by kernel_rfl) (fun _ _ _ h => h) (Or.inl ⟨by rfl, ?_⟩) (by assumption) ?_
        rotate_left
        · (intro w hSw; (try dsimp only at hSw); go_simp); (first | done | with_reducible rfl)
        try simp only [Act.put, List.setIfInBounds_toArray, List.set_cons_zero, List.set_cons_succ]
        refine wpAnyH_take (i := 5) (oi := ⟨_, _, _, _, _, _⟩) (v := ?_) rfl (by kernel_rfl) (by kernel_rfl) (by kernel_rfl) (fun _ _ _ h => h) (Or.inl ⟨by rfl, ?_⟩) (by assumption) ?_
        rotate_left
        · (intro w hSw; (try dsimp only at hSw); go_simp); (first | done | with_reducible rfl)
        try simp only [Act.put, List.setIfInBounds_toArray, List.set_cons_zero, List.set_cons_succ]
        refine wpAnyH_take (i := 7) (oi := ⟨_, _, _, _, _, _⟩) (v := ?_) rfl (by kernel_rfl) (by kernel_rfl) (by kernel_rfl) (fun _ _ _ h => h) (Or.inl ⟨by rfl, ?_⟩) (by assumption) ?_
        rotate_left
        · (intro w hSw; (try dsimp only at hSw); go_simp); (first | done | with_reducible rfl)
        try simp only [Act.put, List.setIfInBounds_toArray, List.set_cons_zero, List.set_cons_succ]
        refine wpAnyH_ready (rs := [6]) (by kernel_rfl) (by simp) ?_
        refine AllReadyH.cons (o := ⟨_, _, _, _, _, _⟩) rfl (fun K hK => ?_) AllReadyH.nil
        rw [if_pos (by rfl)]
        go_simp
        go_at_call 12
        refine (HQ4.out _ DU1).mono ?_
        rintro e u2 ⟨rfl, hu2⟩
        have hv2 := hu2
        have DU2 := DU1.trans (hv2.mono DU1.size)
        have CU2 := CU1.trans (hv2.mono CU1.size)
        replace x0 := cell_later hv2 x0
        replace x1 := cell_later hv2 x1
        replace y0 := cell_later hv2 y0
        replace y1 := cell_later hv2 y1
        replace HR3 := Lib.hid (atomK_good.below HR3.out hv2)
        clear hHeld
        refine hK.out _ _ ?_ (fun hHeld => ?_)
        · exact ⟨x0, x1, y0, y1⟩
        clear hK
        clear K
        try simp only [Act.put, List.setIfInBounds_toArray, List.set_cons_zero, List.set_cons_succ]
        refine wpAnyH_ready (rs := [8]) (by kernel_rfl) (by simp) ?_
        refine AllReadyH.cons (o := ⟨_, _, _, _, _, _⟩) rfl (fun K hK => ?_) AllReadyH.nil
        rw [if_pos (by rfl)]
        go_simp
        go_at_call 13
        refine (HQ5.out _ DU2).mono ?_
        rintro e u3 ⟨rfl, hu3⟩
        have hv3 := hu3
        have DU3 := DU2.trans (hv3.mono DU2.size)
        have CU3 := CU2.trans (hv3.mono CU2.size)
        replace x0 := cell_later hv3 x0
        replace x1 := cell_later hv3 x1
        replace y0 := cell_later hv3 y0
        replace y1 := cell_later hv3 y1
        replace HR3 := Lib.hid (atomK_good.below HR3.out hv3)
        clear hHeld
        refine hK.out _ _ ?_ (fun hHeld => ?_)
        · exact ⟨x0, x1, y0, y1⟩
        clear hK
        clear K
        try simp only [Act.put, List.setIfInBounds_toArray, List.set_cons_zero, List.set_cons_succ]
        refine wpAnyH_take (i := 9) (oi := ⟨_, _, _, _, _, _⟩) (v := ?_) rfl (by kernel_rfl) (by kernel_rfl) (by kernel_rfl) (fun _ _ _ h => h) (Or.inl ⟨by rfl, ?_⟩) (by assumption) ?_
        rotate_left
        · (intro w hSw; (try dsimp only at hSw); go_simp); (first | done | with_reducible rfl)
        try simp only [Act.put, List.setIfInBounds_toArray, List.set_cons_zero, List.set_cons_succ]
        refine wpAnyH_take (i := 10) (oi := ⟨_, _, _, _, _, _⟩) (v := ?_) rfl (by kernel_rfl) (by kernel_rfl) (by kernel_rfl) (fun _ _ _ h => h) (Or.inl ⟨by rfl, ?_⟩) (by assumption) ?_
        rotate_left
        · (intro w hSw; (try dsimp only at hSw); go_simp); (first | done | with_reducible rfl)
        try simp only [Act.put, List.setIfInBounds_toArray, List.set_cons_zero, List.set_cons_succ]
        refine wpAnyH_take (i := 11) (oi := ⟨_, _, _, _, _, _⟩) (v := ?_) rfl (by kernel_rfl) (by kernel_rfl) (by kernel_rfl) (fun _ _ _ h => h) (Or.inl ⟨by rfl, ?_⟩) (by assumption) ?_
        rotate_left
        · (intro w hSw; (try dsimp only at hSw); go_simp); (first | done | with_reducible rfl)
        try simp only [Act.put, List.setIfInBounds_toArray, List.set_cons_zero, List.set_cons_succ]
        refine wpAnyH_take (i := 12) (oi := ⟨_, _, _, _, _, _⟩) (v := ?_) rfl (by kernel_rfl) (by kernel_rfl) (by kernel_rfl) (fun _ _ _ h => h) (Or.inl ⟨by rfl, ?_⟩) (by assumption) ?_
        rotate_left
        · (intro w hSw; (try dsimp only at hSw); go_simp); (first | done | with_reducible rfl)
        try simp only [Act.put, List.setIfInBounds_toArray, List.set_cons_zero, List.set_cons_succ]
        refine wpAnyH_take (i := 13) (oi := ⟨_, _, _, _, _, _⟩) (v := ?_) rfl (by kernel_rfl) (by kernel_rfl) (by kernel_rfl) (fun _ _ _ h => h) (Or.inl ⟨by rfl, ?_⟩) (by assumption) ?_
        rotate_left
        · (intro w hSw; (try dsimp only at hSw); go_simp); (first | done | with_reducible rfl)
        try simp only [Act.put, List.setIfInBounds_toArray, List.set_cons_zero, List.set_cons_succ]
        refine wpAnyH_ready (rs := [14]) (by kernel_rfl) (by simp) ?_
        refine AllReadyH.cons (o := ⟨_, _, _, _, _, _⟩) rfl (fun K hK => ?_) AllReadyH.nil
        rw [if_pos (by rfl)]
        go_simp
        go_at_call 13
        refine (HQ5.out _ DU3).mono ?_
        rintro e u4 ⟨rfl, hu4⟩
        have hv4 := hu4
        have DU4 := DU3.trans (hv4.mono DU3.size)
        have CU4 := CU3.trans (hv4.mono CU3.size)
        replace x0 := cell_later hv4 x0
        replace x1 := cell_later hv4 x1
        replace y0 := cell_later hv4 y0
        replace y1 := cell_later hv4 y1
        replace HR3 := Lib.hid (atomK_good.below HR3.out hv4)
        clear hHeld
        refine hK.out _ _ ?_ (fun hHeld => ?_)
        · exact ⟨x0, x1, y0, y1⟩
        clear hK
        clear K
        try simp only [Act.put, List.setIfInBounds_toArray, List.set_cons_zero, List.set_cons_succ]
        refine wpAnyH_take (i := 15) (oi := ⟨_, _, _, _, _, _⟩) (v := ?_) rfl (by kernel_rfl) (by kernel_rfl) (by kernel_rfl) (fun _ _ _ h => h) (Or.inl ⟨by rfl, ?_⟩) (by assumption) ?_
        rotate_left
        · (intro w hSw; (try dsimp only at hSw); go_simp); (first | done | with_reducible rfl)
        try simp only [Act.put, List.setIfInBounds_toArray, List.set_cons_zero, List.set_cons_succ]
        refine wpAnyH_take (i := 16) (oi := ⟨_, _, _, _, _, _⟩) (v := ?_) rfl (by kernel_rfl) (by kernel_rfl) (by kernel_rfl) (fun _ _ _ h => h) (Or.inl ⟨by rfl, ?_⟩) (by assumption) ?_
        rotate_left
        · (intro w hSw; (try dsimp only at hSw); go_simp); (first | done | with_reducible rfl)
        try simp only [Act.put, List.setIfInBounds_toArray, List.set_cons_zero, List.set_cons_succ]
        refine wpAnyH_take (i := 17) (oi := ⟨_, _, _, _, _, _⟩) (v := ?_) rfl (by kernel_rfl) (by kernel_rfl) (by kernel_rfl) (fun _ _ _ h => h) (Or.inl ⟨by rfl, ?_⟩) (by assumption) ?_
        rotate_left
        · (intro w hSw; (try dsimp only at hSw); go_simp); (first | done | with_reducible rfl)
        try simp only [Act.put, List.setIfInBounds_toArray, List.set_cons_zero, List.set_cons_succ]
        refine wpAnyH_take (i := 18) (oi := ⟨_, _, _, _, _, _⟩) (v := ?_) rfl (by kernel_rfl) (by kernel_rfl) (by kernel_rfl) (fun _ _ _ h => h) (Or.inl ⟨by rfl, ?_⟩) (by assumption) ?_
        rotate_left
        · (intro w hSw; (try dsimp only at hSw); go_simp); (first | done | with_reducible rfl)
        try simp only [Act.put, List.setIfInBounds_toArray, List.set_cons_zero, List.set_cons_succ]
        refine wpAnyH_take (i := 19) (oi := ⟨_, _, _, _, _, _⟩) (v := ?_) rfl (by kernel_rfl) (by kernel_rfl) (by kernel_rfl) (fun _ _ _ h => h) (Or.inl ⟨by rfl, ?_⟩) (by assumption) ?_
        rotate_left
        · (intro w hSw; (try dsimp only at hSw); go_simp); (first | done | with_reducible rfl)
        try simp only [Act.put, List.setIfInBounds_toArray, List.set_cons_zero, List.set_cons_succ]
        refine wpAnyH_take (i := 20) (oi := ⟨_, _, _, _, _, _⟩) (v := ?_) rfl (by kernel_rfl) (by kernel_rfl) (by kernel_rfl) (fun _ _ _ h => h) (Or.inl ⟨by rfl, ?_⟩) (by assumption) ?_
        rotate_left
        · (intro w hSw; (try dsimp only at hSw); go_simp); (first | done | with_reducible rfl)
        try simp only [Act.put, List.setIfInBounds_toArray, List.set_cons_zero, List.set_cons_succ]
        refine wpAnyH_take (i := 21) (oi := ⟨_, _, _, _, _, _⟩) (v := ?_) rfl (by kernel_rfl) (by kernel_rfl) (by kernel_rfl) (fun _ _ _ h => h) (Or.inl ⟨by rfl, ?_⟩) (by assumption) ?_
        rotate_left
        · (intro w hSw; (try dsimp only at hSw); go_simp); (first | done | with_reducible rfl)
        try simp only [Act.put, List.setIfInBounds_toArray, List.set_cons_zero, List.set_cons_succ]
        refine wpAnyH_ready (rs := [22]) (by kernel_rfl) (by simp) ?_
        refine AllReadyH.cons (o := ⟨_, _, _, _, _, _⟩) rfl (fun K hK => ?_) AllReadyH.nil
        rw [if_pos (by rfl)]
        go_simp
        go_at_call 14
        refine (HQ6.out _ _ _ _ DU4 HR3.out).mono ?_
        rintro e u5 ⟨r5, rfl, hr5, hu5⟩
        obtain rfl : r5 = true := (by first | exact hr5.2 rfl | exact hr5.2 trivial)
        clear hr5
        have hv5 := hu5
        have DU5 := DU4.trans (hv5.mono DU4.size)
        have CU5 := CU4.trans (hv5.mono CU4.size)
        replace x0 := cell_later hv5 x0
        replace x1 := cell_later hv5 x1
        replace y0 := cell_later hv5 y0
        replace y1 := cell_later hv5 y1
        replace HR3 := Lib.hid (atomK_good.below HR3.out hv5)
        clear hHeld
        refine hK.out _ _ ?_ (fun hHeld => ?_)
        · exact ⟨x0, x1, y0, y1⟩
        clear hK
        clear K
        try simp only [Act.put, List.setIfInBounds_toArray, List.set_cons_zero, List.set_cons_succ]
        refine wpAnyH_take (i := 23) (oi := ⟨_, _, _, _, _, _⟩) (v := ?_) rfl (by kernel_rfl) (by kernel_rfl) (by kernel_rfl) (fun _ _ _ h => h) (Or.inl ⟨by rfl, ?_⟩) (by assumption) ?_
        rotate_left
        · (intro w hSw; (try dsimp only at hSw); go_simp); (first | done | with_reducible rfl)
        try simp only [Act.put, List.setIfInBounds_toArray, List.set_cons_zero, List.set_cons_succ]
        refine wpAnyH_take (i := 24) (oi := ⟨_, _, _, _, _, _⟩) (v := ?_) rfl (by kernel_rfl) (by kernel_rfl) (by kernel_rfl) (fun _ _ _ h => h) (Or.inl ⟨by rfl, ?_⟩) (by assumption) ?_
        rotate_left
        · (intro w hSw; (try dsimp only at hSw); go_simp); (first | done | with_reducible rfl)
        try simp only [Act.put, List.setIfInBounds_toArray, List.set_cons_zero, List.set_cons_succ]
        refine wpAnyH_take (i := 25) (oi := ⟨_, _, _, _, _, _⟩) (v := ?_) rfl (by kernel_rfl) (by kernel_rfl) (by kernel_rfl) (fun _ _ _ h => h) (Or.inl ⟨by rfl, ?_⟩) (by assumption) ?_
        rotate_left
        · (intro w hSw; (try dsimp only at hSw); go_simp); (first | done | with_reducible rfl)
        try simp only [Act.put, List.setIfInBounds_toArray, List.set_cons_zero, List.set_cons_succ]
        clear hHeld
        refine wpAnyH_done (by kernel_rfl) ?_ _
        have hd2 := HD2.out _ CU5
        have CC := CU5
        clear HQ3 HQ4 HQ5 HQ6 HR3 HD2 HGP HPZ x0 x1 y0 y1 D3 C3 DU1 CU1
        go_wp2_with fail
        refine hd2.mono ?_
        rintro e w5 ⟨t, rfl, ht, hb5⟩
        have B5 := CC.trans (hb5.mono CC.size)
        have q7 := atomGet_impl t m w5 (by omega) (cell_later B5 HMX.out)
        have q8 := fun w' => atomGet_spec t w' (by omega)
        simp only [getS_getI] at q8
        have HBK := Lib.hid (put_back (t := t))
        have HOK := Lib.hid (fun h => ok_small (getI_back (t := t.data.toList) h).1)
        generalize getI t.data.toList = V at *
        obtain ⟨y, fine⟩ := V
        try dsimp only at q7 q8
        clear hd2 hb5 ht HMX
        go_wp2_with fail
        refine q7.mono ?_
        rintro e w6 ⟨hb6, cs6, b6, rfl, hR6, hN6⟩
        obtain ⟨A6, c6, rfl⟩ := atom_cells hR6
        dsimp only at hR6 ⊢
        have hA6 : Below w6.heap.size w6 (w6.alloc (.cells #[.string y.name, .slice A6 y.args.length c6] 25)) := (Below.refl _ _).alloc (Nat.le_refl _) _
        have e6 := hb6.trans (hA6.mono hb6.size)
        have B6 := B5.trans (e6.mono B5.size)
        have y0 : (w6.alloc (.cells #[.string y.name, .slice A6 y.args.length c6] 25)).cell? ⟨w6.heap.size, 0, none⟩ = some (.string y.name) := by go_simp
        have y1 : (w6.alloc (.cells #[.string y.name, .slice A6 y.args.length c6] 25)).cell? ⟨w6.heap.size, 1, none⟩ = some (.slice A6 y.args.length c6) := by go_simp
        have HR6 := Lib.hid (atomK_good.below hR6 hA6)
        have q8a := q8 (w6.alloc (.cells #[.string y.name, .slice A6 y.args.length c6] 25))
        clear q7 q8 hb6 hR6 hN6 hA6 e6 B5
        go_wp2_with fail
        refine q8a.mono ?_
        rintro e w7 ⟨hb7, cs7, b7, rfl, hR7⟩
        obtain ⟨A7, c7, rfl⟩ := atom_cells hR7
        dsimp only at hR7 ⊢
        have hA7 : Below w7.heap.size w7 (w7.alloc (.cells #[.string y.name, .slice A7 y.args.length c7] 25)) := (Below.refl _ _).alloc (Nat.le_refl _) _
        have e7 := hb7.trans (hA7.mono hb7.size)
        have B7 := B6.trans (e7.mono B6.size)
        replace y0 := cell_later e7 y0
        replace y1 := cell_later e7 y1
        have z0 : (w7.alloc (.cells #[.string y.name, .slice A7 y.args.length c7] 25)).cell? ⟨w7.heap.size, 0, none⟩ = some (.string y.name) := by go_simp
        have z1 : (w7.alloc (.cells #[.string y.name, .slice A7 y.args.length c7] 25)).cell? ⟨w7.heap.size, 1, none⟩ = some (.slice A7 y.args.length c7) := by go_simp
        have HR7 := Lib.hid (atomK_good.below hR7 hA7)
        replace HR6 := Lib.hid (atomK_good.below HR6.out e7)
        have qf := fsAtom_any y y _ _ _ _ b6 b7 _ HR6.out HR7.out
        have qp := fun (hf : fine = true) w' hb => atomPut_impl y _ _ b6 w' (atomK_good.below HR6.out hb) (by have := HOK.out hf; omega)
        clear q8a hb7 hR7 hA7 e7 B6
        cases fine
        · go_wp2_with fail
          refine qf.mono ?_
          rintro e v1 ⟨r1, rfl, hr1, hv1⟩
          obtain rfl : r1 = true := (by first | exact hr1.2 rfl | exact hr1.2 trivial)
          clear hr1
          have BV1 := B7.trans (hv1.mono B7.size)
          replace y0 := cell_later hv1 y0
          replace y1 := cell_later hv1 y1
          go_wp2
          go_ret
          exact ⟨rfl, BV1⟩
        · go_wp2_with fail
          refine qf.mono ?_
          rintro e v1 ⟨r1, rfl, hr1, hv1⟩
          obtain rfl : r1 = true := (by first | exact hr1.2 rfl | exact hr1.2 trivial)
          clear hr1
          have BV1 := B7.trans (hv1.mono B7.size)
          replace y0 := cell_later hv1 y0
          replace y1 := cell_later hv1 y1
          have qp1 := qp (by first | exact trivial | rfl) _ hv1
          go_wp2_with fail
          refine qp1.mono ?_
          rintro e v2 ⟨rfl, hv2⟩
          have BV2 := BV1.trans (hv2.mono BV1.size)
          go_wp2
          go_ret
          exact ⟨ret_bool (by have := HBK.out (by first | exact trivial | rfl); rw [this]; simp), BV2⟩
    · have hn2' : (1048576 : Int) < (ys.length : Int) := by omega
      have hn' : ¬ (1048576 : Int) < (xs.length : Int) := by omega
      clear h1 h2
      go_enter Tryd.func3, Tryd.ntmps3
      go_wp2
      go_ret
      exact ⟨rfl, Below.refl _ _⟩
  · have hn' : (1048576 : Int) < (xs.length : Int) := by omega
    clear h1 h2
    go_enter Tryd.func3, Tryd.ntmps3
    go_wp2
    go_ret
    exact ⟨rfl, Below.refl _ _⟩

  end Go.Proofs.YtmhjabjiojfgnaaDoor
