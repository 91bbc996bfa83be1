/- Of the proof of FnExactOnce: WoS. -/
import Derived.WalkKit
import Derived.Lib.Hide
import Derived.WalkSpells
import Derived.WalkLawsBesides
import Derived.BigQuiet
import Derived.Deep.QuietTactic
import Derived.Deep.RegionHeld3
import Derived.Deep.AppendLies
import Derived.Deep.Cut
import Derived.Test.YtjjfafgaphloaaaGreatDoorProg
import Derived.Test.YtjjfafgaphloaaaGreatDoorM08
import Derived.Test.YtjjfafgaphloaaaGreatDoorM18
import Derived.Test.YtjjfafgaphloaaaGreatDoorM15
namespace Go.Proofs.YtjjfafgaphloaaaGreatDoor
open Go.RowKit D
set_option linter.unusedVariables false
attribute [local go_sem ↓] Go.wp_at_zero Go.wp_at_succ
theorem infoBindW : (Tryz.prog.info? 140).map (fun i => (i.zero, i.size, i.bytes)) = some (some (.agg #[.slice none 0 0, .slice none 0 0]), 2, 48) := by kernel_rfl

theorem D.bindK_ones : Ones 2 bindK := fun h => by
  obtain ⟨s, v, b1, b2, rfl, _, h1, h2⟩ := h
  obtain ⟨A1, p1, rfl, _⟩ := sliceK_form h1
  obtain ⟨A2, p2, rfl, _⟩ := sliceK_form h2
  simp [Value.oneCell']

theorem D.binds_el {w : World} {Ad : Option Addr} {len cap k : Nat} {xs : List Bd} {bs : List Nat} (h : bindsK w [.slice Ad len cap] xs bs) (hk : k < xs.length) :
    ∃ b o A1 p1 A2 p2 bk, Ad = some ⟨b, o, none⟩ ∧ b ∈ bs ∧ w.cell? ⟨b, o + k * 2, none⟩ = some (.slice A1 xs[k].length p1) ∧ w.cell? ⟨b, o + k * 2 + 1, none⟩ = some (.slice A2 xs[k].length p2) ∧ bindK w [.slice A1 xs[k].length p1, .slice A2 xs[k].length p2] xs[k] bk ∧ ∀ c ∈ bk, c ∈ bs := by
  obtain ⟨b, o, cs, bk, rfl, hb, hcs, hcell, hR, hsub⟩ := sliceK_at h hk
  obtain ⟨A1, p1, A2, p2, rfl⟩ := bind_cells hR
  exact ⟨b, o, A1, p1, A2, p2, bk, rfl, hb, by simpa using hcell 0 _ rfl, by simpa [Nat.add_assoc] using hcell 1 _ rfl, hR, hsub⟩

/-- The first parts of a body, for one binding. -/
theorem D.freeB_snoc (list : List A) (body : List Pt) (b : Bd) (k : Nat) (h : k < body.length) : freeB list (body.take (k + 1)) b = (freeB list (body.take k) b && (!body[k].no || !hasB list (fillB body[k].atom b))) := by
  unfold freeB
  rw [List.take_succ_eq_append_getElem h, List.all_append]
  simp

set_option maxRecDepth 100000 in
set_option maxHeartbeats 4000000 in
theorem without_any (list : List A) (body : List Pt) (all : List Bd) (v0 v1 v2 : Value) (bl bb ba : List Nat) (w : World) (hl : atomsK w [v0] list bl) (hb : partsK w [v1] body bb) (h : bindsK w [v2] all ba)
    (hasc : asc list = true) (hn : all.length ≤ 10000000000) (hbl : ∀ p ∈ body, p.atom.args.length ≤ 1000000) :
    Calls Tryz.prog 112 #[v0, v1, v2] w fun e w' => Below w.heap.size w w' ∧ ∃ v bs, e = .returned v ∧ bindsK w' [v] (all.filter (freeB list body)) bs := by
  obtain ⟨Al, pl, rfl, hl1, hl2⟩ := sliceK_form hl
  obtain ⟨Ab, pb, rfl, hb1, hb2⟩ := sliceK_form hb
  obtain ⟨Aa, pa, rfl, ha1, ha2⟩ := sliceK_form h
  obtain ⟨i0, hi, hz0, hz1, hz2⟩ := info_parts infoBindW
  have hlm := nat_ge_max (Nat.le_trans hb1 hb2)
  have hlm2 := nat_ge_max (Nat.le_trans ha1 ha2)
  have HL := Lib.hid hl
  have HB := Lib.hid hb
  have HA := Lib.hid h
  have HBL := Lib.hid hbl
  clear hl hb h hl1 hl2 hb2 ha2 hbl
  have hA0 : Below w.heap.size w (w.alloc (.cells #[] 140)) := (Below.refl _ _).alloc (Nat.le_refl _) _
  have hE : Coll 2 bindK w.heap.size 140 (w.alloc (.cells #[] 140)) (.slice (some ⟨w.heap.size, 0, none⟩) 0 0) [] [] [] := Coll.empty (heap_alloc_new w _) (Nat.le_refl _)
  go_enter Tryz.func112, Tryz.ntmps112
  go_wp2_with fail
  generalize w.alloc (.cells #[] 140) = w0 at *
  go_loopw [7, 8, 9, 10] (fun o i _ _ wr => ∃ (k : Nat) (Am : Option Addr) (cm : Nat) (L : List Value) (bs : List Nat), k ≤ all.length ∧ i = .int .i64 k ∧ o = .slice Am ((all.take k).filter (freeB list body)).length cm ∧ Hid (Coll 2 bindK w.heap.size 140 wr (.slice Am ((all.take k).filter (freeB list body)).length cm) L ((all.take k).filter (freeB list body)) bs) ∧ Hid (Below w.heap.size w wr)) (fun _ i _ _ _ => all.length - (intOf i).toNat)
  case atStart => exact ⟨0, _, _, _, _, Nat.zero_le _, rfl, rfl, Lib.hid hE, Lib.hid hA0⟩
  case round =>
    obtain ⟨k, Am, cm, L, bs, hk, rfl, rfl, hC, hBw⟩ := hrel
    clear hE hA0
    by_cases hlt : k < all.length
    · have hk0 : (0 : Int) ≤ (k : Int) := by omega
      have hk1 : (k : Int) < (all.length : Int) := by omega
      have HSN : Hid ((all.take (k + 1)).filter (freeB list body) = (all.take k).filter (freeB list body) ++ (if freeB list body all[k] then [all[k]] else [])) := Lib.hid (by
        rw [List.take_succ_eq_append_getElem hlt, List.filter_append]
        congr 1
        by_cases hf : freeB list body all[k] = true
        · simp [List.filter, hf]
        · simp [List.filter, hf])
      have HLEN : Hid (((all.take k).filter (freeB list body)).length ≤ k) := Lib.hid (Nat.le_trans (List.length_filter_le _ _) (by simp; omega))
      generalize hys : (all.take k).filter (freeB list body) = ys at *
      generalize hb0 : all[k] = b0 at *
      clear hys
      generalize wr = wo at *
      go_wp2_with fail
      go_loopw [9, 10] (fun ok i wr => ∃ (j : Nat), j ≤ body.length ∧ i = .int .i64 j ∧ ok = .bool (freeB list (body.take j) b0) ∧ Hid (Below wo.heap.size wo wr)) (fun _ i _ => body.length - (intOf i).toNat)
      case atStart => exact ⟨0, Nat.zero_le _, rfl, rfl, Lib.hid (Below.refl _ _)⟩
      case round =>
        obtain ⟨j, hj, rfl, rfl, hB2⟩ := hrel
        have hBW2 := hBw.out.trans (hB2.out.mono hBw.out.size)
        by_cases hjt : j < body.length
        · obtain ⟨pb1, po, Ae, ce, bk, rfl, _, e0, e1, e2, hel, _⟩ := parts_el (partsK_good.below HB.out hBW2) hjt
          obtain ⟨ab1, ao, A1, p1, A2, p2, bq, rfl, _, d0, d1, hbd, _⟩ := binds_el (bindsK_good.below HA.out hBW2) hlt
          rw [hb0] at d0 d1 hbd
          have hj0 : (0 : Int) ≤ (j : Int) := by omega
          have hj1 : (j : Int) < (body.length : Int) := by omega
          have HFS := Lib.hid (freeB_snoc list body b0 j hjt)
          have HJT := Lib.hid hjt
          have HAL := Lib.hid (HBL.out _ (List.getElem_mem hjt))
          generalize body[j] = p at *
          obtain ⟨pno, px⟩ := p
          dsimp only at *
          cases hfb : freeB list (body.take j) b0 with
          | false =>
            have HZ : Hid (freeB list (body.take (j + 1)) b0 = false) := Lib.hid (by rw [HFS.out, hfb]; rfl)
            clear HFS hfb e0 e1 e2 hel d0 d1 hbd
            go_wp2_with fail
            go_quiet (fail)
            go_wp2
            go_roundw
            case rel => exact ⟨j + 1, hjt, by go_num, by rw [HZ.out], Lib.hid (below_drewN hB2.out _)⟩
            case measure => simp [intOf]; omega
          | true =>
            cases pno with
            | false =>
              have HZ : Hid (freeB list (body.take (j + 1)) b0 = true) := Lib.hid (by rw [HFS.out, hfb]; rfl)
              clear HFS hfb e1 e2 hel d0 d1 hbd
              go_wp2_with fail
              go_quiet (fail)
              go_wp2
              go_roundw
              case rel => exact ⟨j + 1, hjt, by go_num, by rw [HZ.out], Lib.hid (below_drewN hB2.out _)⟩
              case measure => simp [intOf]; omega
            | true =>
              have HZ : Hid (freeB list (body.take (j + 1)) b0 = !hasB list (fillB px b0)) := Lib.hid (by rw [HFS.out, hfb]; simp)
              have hat : atomK wr [.string px.name, .slice Ae px.args.length ce] px bk := by
                obtain ⟨t, hcs, h1, h2⟩ := hel
                simp only [List.cons.injEq, true_and, and_true] at hcs
                subst hcs
                exact ⟨_, rfl, h1, h2⟩
              have hD : Below wr.heap.size wr wr.drew := Below.drew (Below.refl _ _)
              have q1 := fun w' (hb : Below wr.heap.size wr w') => fill_any px b0 _ _ _ _ bk bq w' (atomK_good.below hat hb) (bindK_good.below hbd hb) HAL.out
              have q2 := fun w' (hb : Below wr.heap.size wr w') d0 d1 b5 (h5 : atomK w' [d0, d1] (fillB px b0) b5) => l3Has_any list (fillB px b0) _ d0 d1 bl b5 w' (atomsK_good.below HL.out (hBW2.trans (hb.mono hBW2.size))) h5 hasc
              have Q1 := Lib.hid q1
              have Q2 := Lib.hid q2
              clear HFS hfb hel hbd q1 q2 hat
              go_wp2_with fail
              go_region_held3 (fun w' => w'.cell? ⟨pb1, po + j * 3, none⟩ = some (.bool true) ∧ w'.cell? ⟨pb1, po + j * 3 + 1, none⟩ = some (.string px.name) ∧ w'.cell? ⟨pb1, po + j * 3 + 2, none⟩ = some (.slice Ae px.args.length ce) ∧ w'.cell? ⟨ab1, ao + k * 2, none⟩ = some (.slice A1 b0.length p1) ∧ w'.cell? ⟨ab1, ao + k * 2 + 1, none⟩ = some (.slice A2 b0.length p2))
                (first | go_keep | exact hq | exact hq2)
                (first
                  | (go_at_call 74; refine (Q1.out _ hD).mono ?_; rintro e w5 ⟨hb5, g0, g1, b5, rfl, h5, _⟩; have B5 := hD.trans (hb5.mono hD.size); have hq := And.intro (cell_later B5 e0) (And.intro (cell_later B5 e1) (And.intro (cell_later B5 e2) (And.intro (cell_later B5 d0) (cell_later B5 d1)))))
                  | (go_at_call 159; refine (Q2.out _ B5 _ _ _ h5).mono ?_; rintro e w6 ⟨rfl, hb6⟩; have B6 := B5.trans (hb6.mono B5.size); have hq2 := And.intro (cell_later B6 e0) (And.intro (cell_later B6 e1) (And.intro (cell_later B6 e2) (And.intro (cell_later B6 d0) (cell_later B6 d1))))))
              have HB6 := Lib.hid (hB2.out.trans (B6.mono hB2.out.size))
              clear Q1 Q2 hq hq2 h5 hb5 hb6 B5 B6 e0 e1 e2 d0 d1
              go_wp2
              go_roundw
              case rel => exact ⟨j + 1, hjt, by go_num, by rw [HZ.out], HB6⟩
              case measure => simp [intOf]; omega
        · have he : j = body.length := by omega
          have hj1 : ¬ (j : Int) < (body.length : Int) := by omega
          have HFR : Hid (freeB list (body.take j) b0 = freeB list body b0) := Lib.hid (by rw [he, List.take_of_length_le (Nat.le_refl _)])
          have HC2 := Lib.hid (hC.out.below bindK_good hB2.out)
          have HBW2 := Lib.hid hBW2
          clear he hj
          cases hfb : freeB list (body.take j) b0 with
          | false =>
            have HE : Hid ((all.take (k + 1)).filter (freeB list body) = ys) := Lib.hid (by rw [HSN.out, ← HFR.out, hfb]; simp)
            clear hfb HSN HFR
            go_wp2
            go_roundw
            case rel => exact ⟨k + 1, Am, cm, L, bs, hlt, by go_num, by rw [HE.out], by rw [HE.out]; exact HC2, HBW2⟩
            case measure => simp [intOf]; omega
          | true =>
            have HE : Hid ((all.take (k + 1)).filter (freeB list body) = ys ++ [b0]) := Lib.hid (by rw [HSN.out, ← HFR.out, hfb]; simp)
            obtain ⟨ab1, ao, A1, p1, A2, p2, bq, rfl, _, d0, d1, hbd, hsub⟩ := binds_el (bindsK_good.below HA.out hBW2) hlt
            rw [hb0] at d0 d1 hbd
            clear hfb HSN HFR
            have hAt : Below wr.heap.size wr (wr.alloc (.cells #[.slice A1 b0.length p1, .slice A2 b0.length p2] 140)) := (Below.refl _ _).alloc (Nat.le_refl _) _
            have hfar : ∀ c ∈ bq, (Value.slice Am ys.length cm).ownBlock ≠ some c := fun c hc e => by
              have h1 := (own_inn HC2.out.own c e).1
              have h2 := bindsK_good.lt HA.out c (hsub c hc)
              omega
            have HLL : Hid (Coll 2 bindK w.heap.size 140 (wr.alloc (.cells #[.slice A1 b0.length p1, .slice A2 b0.length p2] 140)) (.slice Am ys.length cm) L ys bs ∧ Rowed 2 bindK (wr.alloc (.cells #[.slice A1 b0.length p1, .slice A2 b0.length p2] 140)) [.slice A1 b0.length p1, .slice A2 b0.length p2] [b0] bq ∧ Lies (wr.alloc (.cells #[.slice A1 b0.length p1, .slice A2 b0.length p2] 140)) (some ⟨wr.heap.size, 0, none⟩) [.slice A1 b0.length p1, .slice A2 b0.length p2] ∧ Below w.heap.size w (wr.alloc (.cells #[.slice A1 b0.length p1, .slice A2 b0.length p2] 140)) ∧ w.heap.size ≤ (wr.alloc (.cells #[.slice A1 b0.length p1, .slice A2 b0.length p2] 140)).heap.size ∧ ∀ c ∈ bq, (Value.slice Am ys.length cm).ownBlock ≠ some c) :=
              Lib.hid ⟨HC2.out.below bindK_good hAt, Rowed.one_el bindK_ones (bindK_good.below hbd hAt), lies_block (heap_alloc_new wr _), HBW2.out.trans (hAt.mono HBW2.out.size), Nat.le_trans HBW2.out.size hAt.size, hfar⟩
            have H63 : Hid (ys.length + 1 ≤ maxLen) := Lib.hid (by have := HLEN.out; unfold maxLen; omega)
            have HBY : Hid ((ys.length + 1) * 48 ≤ 140737488355328) := Lib.hid (by have := HLEN.out; omega)
            clear hAt hfar hbd hC hBw hBW2 hB2 HC2
            go_wp2_with (at_builtin; refine wpList_coll rfl _ _ _ rfl w.heap.size 140 i0 (.agg #[.slice none 0 0, .slice none 0 0]) 2 48 Tryz.underlying135 hi hz0 hz1 hz2 rfl (Nat.zero_lt_succ 1) bindK_good (.slice Am ys.length cm) ys.length L _ bs rfl HLL.out.1 rfl (some ⟨wr.heap.size, 0, none⟩) 1 1 _ [b0] bq rfl HLL.out.2.1 rfl HLL.out.2.2.1 HLL.out.2.2.2.2.2 H63.out HBY.out w w.heap.size HLL.out.2.2.2.1 (Nat.le_refl _) HLL.out.2.2.2.2.1 ?_; intro A4 c4 w4 hC4 hB4 hS4 hG4; have HZ := Lib.hid (And.intro hC4 hB4); clear hC4 hB4 hS4 hG4)
            go_roundw
            case rel => exact ⟨k + 1, A4, c4, _, _, hlt, by go_num, by rw [HE.out, List.length_append]; rfl, by rw [HE.out, List.length_append]; exact Lib.hid HZ.out.1, Lib.hid HZ.out.2⟩
            case measure => simp [intOf]; omega
    · have he : k = all.length := by omega
      have hk1 : ¬ (k : Int) < (all.length : Int) := by omega
      have HR : Hid (∃ b2, bindsK wr [.slice Am ((all.take k).filter (freeB list body)).length cm] (all.filter (freeB list body)) b2) := Lib.hid (by
        obtain ⟨b2, h2, _⟩ := hC.out.slice
        rw [he, List.take_of_length_le (Nat.le_refl _)] at h2
        rw [he, List.take_of_length_le (Nat.le_refl _)]
        exact ⟨b2, h2⟩)
      clear hC he hk
      go_wp2
      go_ret
      exact ⟨hBw.out, _, rfl, HR.out⟩

end Go.Proofs.YtjjfafgaphloaaaGreatDoor
