/- Of the proof of FnExactProofNeeds: CopyA, PfP, Eq, Cmp, At, L3A, Mark. -/
import Derived.Test.YtlmngncogomgeaaM04
import Derived.Test.YtlmngncogomgeaaM07
import Derived.Test.YtlmngncogomgeaaM01
import Derived.Test.YtlmngncogomgeaaM05
namespace Go.Proofs.Ytlmngncogomgeaa
open Go.RowKit D
set_option linter.unusedVariables false
set_option maxRecDepth 100000 in
set_option maxHeartbeats 1000000 in
theorem copyAtom_any (a : A) (c0 c1 : Value) (bs : List Nat) (w : World) (h : atomK w [c0, c1] a bs) (hn : a.args.length ≤ 16777216) :
    Calls Try.prog 41 #[.agg #[c0, c1]] w (MakesA atomK a w.heap.size w) := by
  have ht := atom_args h
  have hnm : a.name.size ≤ maxLen := by obtain ⟨_, _, hn, _⟩ := h; exact hn
  obtain ⟨Ad, cap, rfl, rfl⟩ := atom_cells2 h
  obtain ⟨i0, hi, hz0, hz1, hz2⟩ := info_parts infoTerm3
  by_cases h0 : a.args.length = 0
  · have hl : ((a.args.length : Int) == 0) = true := beq_iff_eq.2 (by omega)
    have hx : a.args = [] := List.length_eq_zero_iff.1 h0
    have HX := Lib.hid hx
    clear h ht h0 hx hi hz0 hz1 hz2
    go_enter Try.func41, Try.ntmps41
    go_wp2
    refine bodyPost_ret (v := .agg #[.string a.name, .slice none 0 0]) (by simp [results, Try.results41, go_sem]) rfl ⟨?_, _, [], rfl, ⟨_, rfl, hnm, by rw [HX.out]; exact terms_none _⟩, New.nil _ _⟩
    repeat (first | exact Below.refl _ _ | (refine Below.setCell ?_ (by first | (simp; done) | (simp; omega)) _) | (refine Below.alloc ?_ (by first | (simp; done) | (simp; omega)) _))
  · have hl : ((a.args.length : Int) == 0) = false := beq_eq_false_iff_ne.2 (by omega)
    obtain ⟨L, b2, hrow, _, hsrc⟩ := sliceK_row termK_ones (by omega) ht
    obtain ⟨b, o, rfl, hbb, hcell⟩ := hsrc (by intro e; rw [e] at h0; exact h0 rfl)
    have hblt := termsK_good.lt ht b hbb
    have hLl := hrow.len
    have hone := hrow.one
    have HR := Lib.hid hrow
    have HL := Lib.hid hLl
    have HC := Lib.hid hcell
    have HO := Lib.hid hone
    clear h ht h0 hrow hLl hone hcell hsrc
    go_enter Try.func41, Try.ntmps41
    go_wp2_with (first
      | (at_make; refine wpList_make_full _ rfl _ _ _ rfl (w.heap.size + 2) 78 i0 _ 2 Try.underlying31 hi hz0 hz1 _ _ _ _ a.args.length rfl rfl rfl rfl (by rw [hz2]; omega) (by unfold maxLen; omega) (by simp) ?_; intro w1 hown hgrow; have hW := (Below.refl _ _).grown hgrow (Nat.le_refl _) (fun _ e => by cases e); have x0 : w1.cell? ⟨w.heap.size, 0, none⟩ = some (.string a.name) := cell_later hW (by go_simp); have x1 : w1.cell? ⟨w.heap.size, 1, none⟩ = some (.slice (some ⟨b, o, none⟩) a.args.length cap) := cell_later hW (by go_simp); have r0 : w1.cell? ⟨w.heap.size + 1, 0, none⟩ = some (.string ⟨#[]⟩) := cell_later hW (by go_simp); have r1 : w1.cell? ⟨w.heap.size + 1, 1, none⟩ = some (.slice none 0 0) := cell_later hW (by go_simp); have f0 : w1.frozen? ⟨w.heap.size + 1, 0, none⟩ = false := (hW.frozen (p := ⟨w.heap.size + 1, 0, none⟩) (by simp)).trans (by go_simp); have f1 : w1.frozen? ⟨w.heap.size + 1, 1, none⟩ = false := (hW.frozen (p := ⟨w.heap.size + 1, 1, none⟩) (by simp)).trans (by go_simp); have B1 : Below w.heap.size w w1 := (((Below.refl _ _).alloc (Nat.le_refl _) _).alloc (by simp) _).trans (hW.mono (by simp; omega)); simp only [World.size_alloc] at hown)
      | ((with_reducible refine wpList_copy_n rfl (.tmp 15) (.tmp 17) _ _ rfl (w.heap.size + 2) 78 2 a.args.length a.args.length Try.underlying31 sizeTerm _ _ hown ⟨b, o, none⟩ cap L HL.out ?_ HO.out ?_ ?_ ?_); exact (fun j v hj => by rw [addr_add]; exact (B1.cell (p := ⟨b, o + j, none⟩) hblt).trans (HC.out j v hj)); rfl; rfl; intro w2 hown2 hgrow2; have y0 := hgrow2.cell x0 (by simp; omega); have s0 := hgrow2.cell r0 (by simp); have s1 := hgrow2.cell r1 (by simp); have g0 := (hgrow2.frozen_far ⟨w.heap.size + 1, 0, none⟩ (lt_of_cell r0) (by simp)).trans f0; have g1 := (hgrow2.frozen_far ⟨w.heap.size + 1, 1, none⟩ (lt_of_cell r1) (by simp)).trans f1))
    obtain ⟨b3, hR3, hN3⟩ := terms_own HR.out hown2
    have hne : ∀ c ∈ b3, c ≠ w.heap.size + 1 := fun c hc e => by have := (hN3.own c hc).1; omega
    have B2 : Below w.heap.size w w2 := B1.grown hgrow2 B1.size (fun k e => by cases e; omega)
    refine bodyPost_ret (v := .agg #[.string a.name, .slice (some ⟨w.heap.size + 1 + 1, 0, none⟩) a.args.length a.args.length]) (by simp [results, Try.results41, go_sem, s0, s1]) rfl ⟨(B2.setCell (by simp) _).setCell (by simp) _, _, b3, rfl, ⟨_, rfl, hnm, termsK_good.keep hR3 fun c hc => ?_⟩, (hN3.mono (by omega)).keep fun c hc => ?_⟩
    all_goals rw [Below.heap_setCell _ _ _ _ (hne c hc), Below.heap_setCell _ _ _ _ (hne c hc)]

theorem D.kids_le (p : Pf) : p.kids.length + 1 ≤ sizePf p := by
  have h : ∀ ks : List Pf, ks.length ≤ sumL sizePf ks := by
    intro ks
    induction ks with
    | nil => exact Nat.le_refl _
    | cons k ks ih =>
      have := sizePf_pos k
      simp only [sumL, List.map_cons, List.sum_cons, List.length_cons] at *
      omega
  rw [sizePf_eq]
  have := h p.kids
  omega

end Go.Proofs.Ytlmngncogomgeaa
namespace Go.Proofs.Ytlmngncogomgeaa
open Go.RowKit D
set_option linter.unusedVariables false
attribute [local go_sem ↓] Go.wp_at_zero Go.wp_at_succ
set_option maxHeartbeats 400000 in
theorem szAtom_any (a : A) (c0 c1 : Value) (bs : List Nat) (left : Int) (w : World) (h : atomK w [c0, c1] a bs) (h0 : 0 ≤ left) (h1 : left ≤ 1048576) :
    Calls Try.prog 13 #[.agg #[c0, c1], .int .i64 left] w (Left left (bulkA a) w.heap.size w) := by
  obtain ⟨s1, hcs, hnm, ht⟩ := h
  simp only [List.cons.injEq, and_true] at hcs
  obtain ⟨rfl, rfl⟩ := hcs
  have hq := fun w' (hb : Below w.heap.size w w') (h0 : 0 ≤ left - (a.name.size : Int)) => szTermS_any a.args c1 bs (left - (a.name.size : Int)) w' (termsK_good.below ht hb) h0 (by omega)
  have hbk : bulkA a = a.name.size + a.args.length + bulkTs a.args := rfl
  have HB := Lib.hid hbk
  have hnm' := nat_ge_max hnm
  clear ht hbk hnm
  go_enter Try.func13, Try.ntmps13
  go_wp2_with fail
  · go_ret
    exact ⟨(Below.refl _ _).alloc (Nat.le_refl _) _, _, rfl, .inl rfl⟩
  · refine (hq _ ((Below.refl _ _).alloc (Nat.le_refl _) _) (by assumption)).mono ?_
    rintro e w' ⟨hb', r, rfl, hr⟩
    have hB : Below w.heap.size w w' := ((Below.refl _ _).alloc (Nat.le_refl _) _).trans (hb'.mono (by simp))
    go_wp2
    · rcases hr with rfl | ⟨_, _⟩
      · go_ret
        exact ⟨hB, _, rfl, .inl rfl⟩
      · exfalso; omega
    · rcases hr with rfl | ⟨hr0, hr1⟩
      · exfalso; omega
      · go_ret
        have := HB.out
        exact ⟨hB, _, rfl, .inr ⟨hr0, by omega⟩⟩

set_option maxHeartbeats 400000 in
theorem toAtom_any (a : A) (c0 c1 : Value) (bs : List Nat) (w : World) (h : atomK w [c0, c1] a bs) (hn : a.args.length ≤ 1048576) :
    Calls Try.prog 17 #[.agg #[c0, c1]] w (MakesA atomK a w.heap.size w) := by
  obtain ⟨s1, hcs, hnm, ht⟩ := h
  simp only [List.cons.injEq, and_true] at hcs
  obtain ⟨rfl, rfl⟩ := hcs
  have hq := fun w' (hb : Below w.heap.size w w') => toTermS_any a.args c1 bs w' (termsK_good.below ht hb) hn
  clear ht
  go_enter Try.func17, Try.ntmps17
  go_wp2_with fail
  refine (hq _ (by repeat (first | exact Below.refl _ _ | (refine Below.setCell ?_ (by first | (simp; done) | (simp; omega)) _) | (refine Below.alloc ?_ (by first | (simp; done) | (simp; omega)) _)))).mono ?_
  rintro e w' ⟨hb', v, bs', rfl, hR, hN⟩
  obtain ⟨Ad, cap, rfl, _, _⟩ := sliceK_form hR
  have hB : Below w.heap.size w w' := Below.trans (by repeat (first | exact Below.refl _ _ | (refine Below.setCell ?_ (by first | (simp; done) | (simp; omega)) _) | (refine Below.alloc ?_ (by first | (simp; done) | (simp; omega)) _))) (hb'.mono (by first | (simp; done) | (simp; omega)))
  have k0 : w'.cell? ⟨w.heap.size + 1 + 1, 0, none⟩ = some (.string a.name) := cell_later hb' (by go_simp)
  have k1 : w'.cell? ⟨w.heap.size + 1 + 1, 1, none⟩ = some (.slice none 0 0) := cell_later hb' (by go_simp)
  have k2 : w'.cell? ⟨w.heap.size + 1, 0, none⟩ = some (.string ⟨#[]⟩) := cell_later hb' (by go_simp)
  have k3 : w'.cell? ⟨w.heap.size + 1, 1, none⟩ = some (.slice none 0 0) := cell_later hb' (by go_simp)
  have f0 : w'.frozen? ⟨w.heap.size + 1 + 1, 1, none⟩ = false := (hb'.frozen (p := ⟨w.heap.size + 1 + 1, 1, none⟩) (by simp)).trans (by go_simp)
  have f1 : w'.frozen? ⟨w.heap.size + 1, 0, none⟩ = false := (hb'.frozen (p := ⟨w.heap.size + 1, 0, none⟩) (by simp)).trans (by go_simp)
  have f2 : w'.frozen? ⟨w.heap.size + 1, 1, none⟩ = false := (hb'.frozen (p := ⟨w.heap.size + 1, 1, none⟩) (by simp)).trans (by go_simp)
  have hge : ∀ b ∈ bs', w.heap.size + 1 + 1 < b := fun b hb => by have := (hN.own b hb).1; simp at this; omega
  go_wp2
  exact bodyPost_ret (v := .agg #[.string a.name, .slice Ad a.args.length cap]) (by simp [results, Try.results17, go_sem, k2, k3]) rfl
    ⟨((hB.setCell (by simp; omega) _).setCell (by simp) _).setCell (by simp) _, _, bs', rfl,
      ⟨_, rfl, hnm, termsK_good.keep hR fun b hb => by have := hge b hb; rw [Below.heap_setCell _ _ _ _ (by simp; omega), Below.heap_setCell _ _ _ _ (by simp; omega), Below.heap_setCell _ _ _ _ (by simp; omega)]⟩,
      (hN.keep fun b hb => by have := hge b hb; rw [Below.heap_setCell _ _ _ _ (by simp; omega), Below.heap_setCell _ _ _ _ (by simp; omega), Below.heap_setCell _ _ _ _ (by simp; omega)]).mono (by simp; omega)⟩

theorem compare_any (a b : ByteArray) (w : World) :
    Calls Try.prog 38 #[.string a, .string b] w fun e w' => e = .returned (.int .i64 (cmpS a b)) ∧ w' = w := by
  rw [← compare_cmpS]
  exact Try.strings_Compare a b w

set_option maxHeartbeats 2000000 in
theorem l3At_any (xs : List A) (a : A) (v d0 d1 : Value) (bs b2 : List Nat) (w : World) (h : atomsK w [v] xs bs) (h2 : atomK w [d0, d1] a b2) (hs : asc xs = true) :
    Calls Try.prog 44 #[v, .agg #[d0, d1]] w fun e w' => e = .returned (.tuple #[.int .i64 (pl xs a), .bool (hasB xs a)]) ∧ Below w.heap.size w w' := by
  obtain ⟨Ad, cap, rfl, hl, hm⟩ := sliceK_form h
  obtain ⟨Aa, ca, rfl, rfl⟩ := atom_cells2 h2
  have hlm := nat_ge_max (Nat.le_trans hl hm)
  clear hm
  have hA0 : Below w.heap.size w (w.alloc (.cells #[.string a.name, .slice Aa a.args.length ca] 33)) := (Below.refl _ _).alloc (Nat.le_refl _) _
  go_enter Try.func44, Try.ntmps44
  go_wp2
  go_loopw [6] (fun i wr => ∃ k : Nat, k ≤ xs.length ∧ i = .int .i64 k ∧ ltTo xs a k ∧ Below w.heap.size w wr ∧ wr.cell? ⟨w.heap.size, 0, none⟩ = some (.string a.name) ∧ wr.cell? ⟨w.heap.size, 1, none⟩ = some (.slice Aa a.args.length ca) ∧ w.heap.size < wr.heap.size) (fun i _ => xs.length - (intOf i).toNat)
  case atStart => exact ⟨0, Nat.zero_le _, rfl, ltTo_zero _ _, hA0, by go_simp, by go_simp, by simp⟩
  case round =>
    obtain ⟨k, hk, rfl, hall, hb, s0, s1, hgt⟩ := hrel
    have HA := Lib.hid hall
    clear hall hA0
    by_cases hlt : k < xs.length
    · have hk0 : (0 : Int) ≤ (k : Int) := by omega
      have hk1 : (k : Int) < (xs.length : Int) := by omega
      obtain ⟨b, o, Ae, ce, bk, rfl, _, c0, c1, hel, _⟩ := atoms_el (atomsK_good.below h hb) hlt
      have hD : Below wr.heap.size wr wr.drew := Below.drew (Below.refl _ _)
      have hcm := fun w' (hb' : Below wr.heap.size wr w') => l1Cmp_any xs[k] a _ _ _ _ bk b2 w' (atomK_good.below hel hb') (atomK_good.below h2 (hb.trans (hb'.mono hb.size)))
      clear h h2 hel
      by_cases hc : cmpA xs[k] a < 0
      · have HC := Lib.hid (ltTo_step HA.out hlt hc)
        go_wp2
        go_region_held3 (fun w' => w'.cell? ⟨b, o + k * 2, none⟩ = some (.string xs[k].name) ∧ w'.cell? ⟨b, o + k * 2 + 1, none⟩ = some (.slice Ae xs[k].args.length ce) ∧ w'.cell? ⟨w.heap.size, 0, none⟩ = some (.string a.name) ∧ w'.cell? ⟨w.heap.size, 1, none⟩ = some (.slice Aa a.args.length ca))
          (first | go_keep | exact ⟨y0, y1, y2, y3⟩)
          (first | (go_at_call 50; refine (hcm _ hD).mono ?_; rintro e w2 ⟨rfl, hw2⟩; have y0 := cell_later hw2 c0; have y1 := cell_later hw2 c1; have y2 := cell_later hw2 s0; have y3 := cell_later hw2 s1))
        have B2 := hb.trans ((hD.trans hw2).mono hb.size)
        clear hcm
        go_wp2
        go_roundw
        case rel => exact ⟨k + 1, by omega, by go_num, HC.out, B2, y2, y3, Nat.lt_of_lt_of_le hgt (hD.trans hw2).size⟩
        case measure => simp [intOf]; omega
      · have HP := Lib.hid (place_of hs hk HA.out (fun _ => hc))
        have HH := Lib.hid (has_at hs hlt HA.out hc)
        go_wp2
        go_region_held3 (fun w' => w'.cell? ⟨b, o + k * 2, none⟩ = some (.string xs[k].name) ∧ w'.cell? ⟨b, o + k * 2 + 1, none⟩ = some (.slice Ae xs[k].args.length ce) ∧ w'.cell? ⟨w.heap.size, 0, none⟩ = some (.string a.name) ∧ w'.cell? ⟨w.heap.size, 1, none⟩ = some (.slice Aa a.args.length ca))
          (first | go_keep | exact ⟨y0, y1, y2, y3⟩)
          (first | (go_at_call 50; refine (hcm _ hD).mono ?_; rintro e w2 ⟨rfl, hw2⟩; have y0 := cell_later hw2 c0; have y1 := cell_later hw2 c1; have y2 := cell_later hw2 s0; have y3 := cell_later hw2 s1))
        have B2 := hb.trans ((hD.trans hw2).mono hb.size)
        have hE := hD.trans hw2
        have hcm2 := hcm _ (hE.trans ((Below.refl _ _).drew.mono hE.size))
        have hD2 : Below w2.heap.size w2 w2.drew := Below.drew (Below.refl _ _)
        clear hcm
        go_wp2
        go_region_held3 (fun w' => w'.cell? ⟨b, o + k * 2, none⟩ = some (.string xs[k].name) ∧ w'.cell? ⟨b, o + k * 2 + 1, none⟩ = some (.slice Ae xs[k].args.length ce) ∧ w'.cell? ⟨w.heap.size, 0, none⟩ = some (.string a.name) ∧ w'.cell? ⟨w.heap.size, 1, none⟩ = some (.slice Aa a.args.length ca))
          (first | go_keep | exact ⟨z0, z1, z2, z3⟩)
          (first | (go_at_call 50; refine (hcm2).mono ?_; rintro e w3 ⟨rfl, hw3⟩; have z0 := cell_later hw3 y0; have z1 := cell_later hw3 y1; have z2 := cell_later hw3 y2; have z3 := cell_later hw3 y3))
        have B3 := B2.trans ((hD2.trans hw3).mono B2.size)
        go_wp2
        go_ret2
        exact ⟨by rw [← HP.out, HH.out]; rfl, B3⟩
    · have he := Lib.hid (show k = xs.length by omega)
      have hk1 : decide ((k : Int) < (xs.length : Int)) = false := decide_eq_false (by omega)
      go_wp2
      go_quiet (fail)
      go_wp2
      go_quiet (fail)
      go_wp2
      go_ret2
      have hA := HA.out
      refine ⟨?_, below_drewN (below_drewN hb _) _⟩
      rw [← place_of hs hk hA (fun h => absurd h hlt), has_end (by rw [← he.out]; exact hA)]
      rfl

theorem D.own_two {a k n c o : Nat} (e : (Value.slice (some ⟨a + 1 + 1, o, none⟩) n c).ownBlock = some k) : a ≤ k := by
  have : a + 1 + 1 = k := by simpa [Value.ownBlock] using e
  omega

set_option maxRecDepth 100000 in
set_option maxHeartbeats 1000000 in
theorem l3Atom_any (a : A) (c0 c1 : Value) (bs : List Nat) (w : World) (h : atomK w [c0, c1] a bs) (hn : a.args.length ≤ 16777216) :
    Calls Try.prog 34 #[.agg #[c0, c1]] w (MakesA atomK a w.heap.size w) := by
  have ht := atom_args h
  have hnm : a.name.size ≤ maxLen := by obtain ⟨_, _, hn, _⟩ := h; exact hn
  obtain ⟨Ad, cap, rfl, rfl⟩ := atom_cells2 h
  obtain ⟨i0, hi, hz0, hz1, hz2⟩ := info_parts infoTerm3
  obtain ⟨L, b2, hrow, _, hsrc⟩ := sliceK_row termK_ones (by omega) ht
  have HL := Lib.hid (fun w' (hb : Below w.heap.size w w') => row_lies hrow (by omega) hsrc (termsK_good.lt ht) hb)
  have HR := Lib.hid hrow
  clear h ht hrow hsrc
  have hA := ((Below.refl w.heap.size w).alloc (Nat.le_refl _) (.cells #[.string a.name, .slice Ad a.args.length cap] 33)).alloc (by simp) (.cells #[.string ⟨#[]⟩, .slice none 0 0] 33)
  have HE : Hid ((((w.alloc (.cells #[.string a.name, .slice Ad a.args.length cap] 33)).alloc (.cells #[.string ⟨#[]⟩, .slice none 0 0] 33)).alloc (.cells #[] 78)).heap[w.heap.size + 1 + 1]? = some (.cells #[] 78 (0, 0))) := Lib.hid (by
    have := heap_alloc_new ((w.alloc (.cells #[.string a.name, .slice Ad a.args.length cap] 33)).alloc (.cells #[.string ⟨#[]⟩, .slice none 0 0] 33)) (.cells #[] 78)
    simpa using this)
  have HO : Hid ((((w.alloc (.cells #[.string a.name, .slice Ad a.args.length cap] 33)).alloc (.cells #[.string ⟨#[]⟩, .slice none 0 0] 33)).alloc (.cells #[] 78)).ownsRow (w.heap.size + 2) 78 2 (.slice (some ⟨w.heap.size + 1 + 1, 0, none⟩) 0 0) 0 []) := Lib.hid (own_empty HE.out (by omega))
  have HI : Hid (Lies (((w.alloc (.cells #[.string a.name, .slice Ad a.args.length cap] 33)).alloc (.cells #[.string ⟨#[]⟩, .slice none 0 0] 33)).alloc (.cells #[] 78)) Ad L) := Lib.hid (HL.out _ (hA.alloc (by simp <;> omega) _))
  have hlen := HR.out.len
  have hone := HR.out.one
  have h63 : 0 + a.args.length ≤ maxLen := by unfold maxLen; omega
  have hby : (0 + a.args.length) * 24 ≤ 140737488355328 := by omega
  have hbs : w.heap.size + 2 ≤ (((w.alloc (.cells #[.string a.name, .slice Ad a.args.length cap] 33)).alloc (.cells #[.string ⟨#[]⟩, .slice none 0 0] 33)).alloc (.cells #[] 78)).heap.size := by simp
  have H1 := Lib.hid hlen
  have H2 := Lib.hid hone
  have H3 := Lib.hid h63
  have H4 := Lib.hid hby
  have H5 := Lib.hid hbs
  have X0 : Hid ((((w.alloc (.cells #[.string a.name, .slice Ad a.args.length cap] 33)).alloc (.cells #[.string ⟨#[]⟩, .slice none 0 0] 33)).alloc (.cells #[] 78)).cell? ⟨w.heap.size, 0, none⟩ = some (.string a.name)) := Lib.hid (by go_simp)
  have X1 : Hid ((((w.alloc (.cells #[.string a.name, .slice Ad a.args.length cap] 33)).alloc (.cells #[.string ⟨#[]⟩, .slice none 0 0] 33)).alloc (.cells #[] 78)).cell? ⟨w.heap.size, 1, none⟩ = some (.slice Ad a.args.length cap)) := Lib.hid (by go_simp)
  have X2 : Hid ((((w.alloc (.cells #[.string a.name, .slice Ad a.args.length cap] 33)).alloc (.cells #[.string ⟨#[]⟩, .slice none 0 0] 33)).alloc (.cells #[] 78)).cell? ⟨w.heap.size + 1, 0, none⟩ = some (.string ⟨#[]⟩)) := Lib.hid (by go_simp)
  have X3 : Hid ((((w.alloc (.cells #[.string a.name, .slice Ad a.args.length cap] 33)).alloc (.cells #[.string ⟨#[]⟩, .slice none 0 0] 33)).alloc (.cells #[] 78)).cell? ⟨w.heap.size + 1, 1, none⟩ = some (.slice none 0 0)) := Lib.hid (by go_simp)
  have F0 : Hid ((((w.alloc (.cells #[.string a.name, .slice Ad a.args.length cap] 33)).alloc (.cells #[.string ⟨#[]⟩, .slice none 0 0] 33)).alloc (.cells #[] 78)).frozen? ⟨w.heap.size + 1, 0, none⟩ = false) := Lib.hid (by go_simp)
  have F1 : Hid ((((w.alloc (.cells #[.string a.name, .slice Ad a.args.length cap] 33)).alloc (.cells #[.string ⟨#[]⟩, .slice none 0 0] 33)).alloc (.cells #[] 78)).frozen? ⟨w.heap.size + 1, 1, none⟩ = false) := Lib.hid (by go_simp)
  clear hlen hone h63 hby hbs HE HL
  go_enter Try.func34, Try.ntmps34
  go_wp2
  go_region_held3 (fun w' => w'.cell? ⟨w.heap.size, 0, none⟩ = some (.string a.name) ∧ w'.cell? ⟨w.heap.size, 1, none⟩ = some (.slice Ad a.args.length cap))
    (first | go_keep | exact ⟨q0, q1⟩)
    ((refine step_app (by rfl) _ _ _ (by rfl) (w.heap.size + 2) 78 i0 (.agg #[.bool false, .string ⟨#[]⟩]) 2 24 Try.underlying31 hi hz0 hz1 hz2 rfl (by omega) (.slice (some ⟨w.heap.size + 1 + 1, 0, none⟩) 0 0) 0 [] (by rfl) HO.out Ad a.args.length cap L (by rfl) H1.out HI.out H2.out H3.out H4.out H5.out ?_; intro A1 cp w1 hown hgrow hloc; clear hloc; simp only [Nat.zero_add, List.nil_append] at hown ⊢; have q0 := hgrow.cell X0.out (own_ne (a := w.heap.size) (b := w.heap.size + 1 + 1) (by omega)); have q1 := hgrow.cell X1.out (own_ne (a := w.heap.size) (b := w.heap.size + 1 + 1) (by omega)); have q2 := hgrow.cell X2.out (own_ne (a := w.heap.size + 1) (b := w.heap.size + 1 + 1) (by omega)); have q3 := hgrow.cell X3.out (own_ne (a := w.heap.size + 1) (b := w.heap.size + 1 + 1) (by omega)); have g0 := (hgrow.frozen_far _ (lt_of_cell X2.out) (own_ne (a := w.heap.size + 1) (b := w.heap.size + 1 + 1) (by omega))).trans F0.out; have g1 := (hgrow.frozen_far _ (lt_of_cell X3.out) (own_ne (a := w.heap.size + 1) (b := w.heap.size + 1 + 1) (by omega))).trans F1.out))
  obtain ⟨b3, hR3, hN3⟩ := terms_own HR.out hown
  have hne : ∀ c ∈ b3, c ≠ w.heap.size + 1 := fun c hc e => by have := (hN3.own c hc).1; omega
  have B2 : Below w.heap.size w w1 := (hA.alloc (by simp <;> omega) _).drew.grown hgrow (by simp <;> omega) (fun k e => own_two e)
  go_wp2
  refine bodyPost_ret (v := .agg #[.string a.name, .slice A1 a.args.length cp]) (by simp [results, Try.results34, go_sem, q2, q3]) rfl ⟨(B2.setCell (by simp) _).setCell (by simp) _, _, b3, rfl, ⟨_, rfl, hnm, termsK_good.keep hR3 fun c hc => ?_⟩, (hN3.mono (by omega)).keep fun c hc => ?_⟩
  all_goals rw [Below.heap_setCell _ _ _ _ (hne c hc), Below.heap_setCell _ _ _ _ (hne c hc)]

set_option maxHeartbeats 1000000 in
theorem heldTermS_any (ts : List T) (v : Value) (bs : List Nat) (k : Nat) (w : World) (h : termsK w [v] (markTs ts k) bs) (hk : k + 2 * ts.length ≤ 1000000000000) :
    Calls Try.prog 32 #[v, .int .i64 k] w (Held (k + 2 * ts.length) w) := by
  obtain ⟨Ad, cap, rfl, hl, hm⟩ := sliceK_form h
  have hzl := markTs_length ts k
  rw [hzl] at h hl ⊢
  clear hm hl
  go_enter Try.func32, Try.ntmps32
  go_wp2
  go_loopw [1, 5] (fun q j wr => ∃ i : Nat, i ≤ ts.length ∧ j = .int .i64 i ∧ q = .int .i64 (k + 2 * i : Nat) ∧ Below w.heap.size w wr) (fun _ j _ => ts.length - (intOf j).toNat)
  case atStart => exact ⟨0, Nat.zero_le _, rfl, rfl, Below.refl _ _⟩
  case round =>
    obtain ⟨i, hi, rfl, rfl, hb⟩ := hrel
    by_cases hlt : i < ts.length
    · obtain ⟨b, o, rfl, _, c0, c1, hnm⟩ := terms_at (termsK_good.below h hb) (k := i) (by rw [hzl]; exact hlt)
      rw [markTs_at hlt] at c0 c1
      clear h hzl hnm
      have hlt' : (i : Int) < (ts.length : Int) := by omega
      have hk0 : (0 : Int) ≤ (i : Int) := by omega
      obtain ⟨q, hq⟩ : ∃ q, q = k + 2 * i := ⟨_, rfl⟩
      rw [← hq] at c0 c1 ⊢
      have hq1 : q + 1 ≤ 1000000000000 := by omega
      have HQ := Lib.hid hq
      clear hq
      dsimp only [mkT] at c0 c1
      have d0 : (0 : Int) ≤ (q : Int) + 1 := by omega
      have hx : ((q : Int) % 3 == 0) = decide (q % 3 = 0) := by
        rw [Bool.eq_iff_iff, beq_iff_eq, decide_eq_true_eq]; omega
      rw [← hx] at c0
      clear hx
      go_wp2
      go_region_held3 (fun w' => w'.cell? ⟨b, o + i * 2 + 1, none⟩ = some (.string (markText (q + 1)))) (first | go_keep | exact cell_later hw2 c1)
        (first | (go_at_call 30; refine (markText_any (q + 1) _ (by omega)).mono ?_; rintro e w2 ⟨rfl, hw2⟩))
      have B2 := hb.trans (((Below.refl _ _).drew.trans hw2).mono hb.size)
      go_wp2
      go_roundw
      case rel => exact ⟨i + 1, by omega, by go_num, by have := HQ.out; go_num, B2⟩
      case measure => simp [intOf]; omega
    · have he : i = ts.length := by omega
      subst he
      go_wp2
      go_ret
      exact ⟨rfl, hb⟩

end Go.Proofs.Ytlmngncogomgeaa
