/- The walk of the law FnExactProofPut. -/
import Derived.Test.YtoekllcfmnnibaaDoorHPrf
import Derived.Test.YtoekllcfmnnibaaDoorPPutJ
namespace Go.Proofs.YtoekllcfmnnibaaDoor
open Go.RowKit D
set_option linter.unusedVariables false
attribute [local go_sem ↓] Go.wp_at_zero Go.wp_at_succ

set_option maxHeartbeats 1000000 in
theorem exactProofPut_walk (a : Pf) (c0 c1 c2 c3 : Value) (bs : List Nat) (w : World) (h0 : ∃ n, proofK n w [c0, c1, c2, c3] a bs) (htab : Lib.TabIs Tryd.prog w "internal/strconv.uint64pow10" .u64 Lib.pow10Tab) :
    Calls Tryd.prog 3 #[.agg #[c0, c1, c2, c3]] w fun e w' => e = .returned (.bool true) ∧ Below w.heap.size w w' := by
  obtain ⟨n, h⟩ := h0
  have HTB := Lib.hid (Lib.tabBelow_of_tabIs htab)
  obtain ⟨Ad, cap, Ae, cape, rfl, rfl, rfl, rfl⟩ : ∃ Ad cap Ae cape, c0 = .string a.fact.name ∧ c1 = .slice Ad a.fact.args.length cap ∧ c2 = .int .i64 a.rule ∧ c3 = .slice Ae a.kids.length cape := by
    obtain ⟨Ad, cap, Ae, cape, e⟩ := proof_cells (cs := #[c0, c1, c2, c3]) h
    simp only [Array.mk.injEq, List.cons.injEq, and_true] at e
    exact ⟨Ad, cap, Ae, cape, e⟩
  have hsz := fun w' (hb : Below w.heap.size w w') => szProof_any n a _ _ _ _ bs 1048576 w' ((proofK_good n).below h hb) (by omega) (by omega)
  have hto := fun (hl : bulkPf a ≤ 1048576) w' (hb : Below w.heap.size w w') => toProof_b n a _ _ _ _ bs w' ((proofK_good n).below h hb) (by exact hl)
  have HSB := Lib.hid (sizePf_le a)
  clear h
  go_enter Tryd.func3, Tryd.ntmps3
  go_wp2_with fail
  refine (hsz _ ((Below.refl _ _).alloc (Nat.le_refl _) _)).mono ?_
  rintro e w1 ⟨hb1, r, rfl, hr⟩
  have B1 : Below w.heap.size w w1 := ((Below.refl _ _).alloc (Nat.le_refl _) _).trans (hb1.mono (by simp))
  have x0 : w1.cell? ⟨w.heap.size, 0, none⟩ = some (.string a.fact.name) := cell_later hb1 (by go_simp)
  have x1 : w1.cell? ⟨w.heap.size, 1, none⟩ = some (.slice Ad a.fact.args.length cap) := cell_later hb1 (by go_simp)
  have x2 : w1.cell? ⟨w.heap.size, 2, none⟩ = some (.int .i64 a.rule) := cell_later hb1 (by go_simp)
  have x3 : w1.cell? ⟨w.heap.size, 3, none⟩ = some (.slice Ae a.kids.length cape) := cell_later hb1 (by go_simp)
  clear hsz
  rcases hr with rfl | ⟨hr0, hr1⟩
  · go_wp2
    go_ret
    exact ⟨rfl, B1⟩
  · have hbk : sizePf a ≤ 16777216 := by have := HSB.out; omega
    have hbu : bulkPf a ≤ 1048576 := by omega
    have hT := hto (by omega)
    clear hto hr1
    go_wp2_with fail
    refine (hT _ B1).mono ?_
    rintro e w2 ⟨hb2, cs2, bs2, rfl, hR2, hN2⟩
    obtain ⟨Ad2, cap2, Ae2, cape2, rfl⟩ := proof_cells hR2
    have B2 := B1.trans (hb2.mono B1.size)
    have x0' := cell_later hb2 x0
    have x1' := cell_later hb2 x1
    have x2' := cell_later hb2 x2
    have x3' := cell_later hb2 x3
    go_wp2_with fail
    refine (proofPut_spec n a _ _ _ _ bs2 _ hR2 hbk hbu).mono ?_
    rintro e w3 ⟨rfl, hb3⟩
    have B3 := B2.trans (hb3.mono B2.size)
    have y0 := cell_later hb3 x0'
    have y1 := cell_later hb3 x1'
    have y2 := cell_later hb3 x2'
    have y3 := cell_later hb3 x3'
    clear hR2 hN2 x0 x0' x1 x1' x2 x2' x3 x3'
    go_wp2_with fail
    refine (hT _ B3).mono ?_
    rintro e w4 ⟨hb4, cs4, bs4, rfl, hR4, hN4⟩
    obtain ⟨Ad4, cap4, Ae4, cape4, rfl⟩ := proof_cells hR4
    have B4 := B3.trans (hb4.mono B3.size)
    have z0 := cell_later hb4 y0
    have z1 := cell_later hb4 y1
    have z2 := cell_later hb4 y2
    have z3 := cell_later hb4 y3
    clear y0 y1 y2 y3
    go_wp2_with fail
    have hA4 : Below w4.heap.size w4 (w4.alloc (.cells #[.string a.fact.name, .slice Ad4 a.fact.args.length cap4, .int .i64 a.rule, .slice Ae4 a.kids.length cape4] 35)) := (Below.refl _ _).alloc (Nat.le_refl _) _
    refine (proofPut_impl n a _ _ _ _ bs4 _ ((proofK_good n).below hR4 hA4) (hN4.below hA4).wri hbk hbu (fun w' hb' => HTB.out w' ((B4.trans (hA4.mono B4.size)).trans (hb'.mono (Nat.le_trans B4.size hA4.size))))).mono ?_
    rintro e w5 ⟨rfl, hb5⟩
    have hB5 := hA4.trans (hb5.mono hA4.size)
    have B5 := B4.trans (hB5.mono B4.size)
    have hR5 := Lib.hid ((proofK_good n).below hR4 hB5)
    have u0 := cell_later hB5 z0
    have u1 := cell_later hB5 z1
    have u2 := cell_later hB5 z2
    have u3 := cell_later hB5 z3
    have g0 : w5.cell? ⟨w4.heap.size, 0, none⟩ = some (.string a.fact.name) := cell_later hb5 (by go_simp)
    have g1 : w5.cell? ⟨w4.heap.size, 1, none⟩ = some (.slice Ad4 a.fact.args.length cap4) := cell_later hb5 (by go_simp)
    have g2 : w5.cell? ⟨w4.heap.size, 2, none⟩ = some (.int .i64 a.rule) := cell_later hb5 (by go_simp)
    have g3 : w5.cell? ⟨w4.heap.size, 3, none⟩ = some (.slice Ae4 a.kids.length cape4) := cell_later hb5 (by go_simp)
    clear hR4 hN4 z0 z1 z2 z3 hA4
    go_wp2_with fail
    go_region_held3 (fun w' => w'.cell? ⟨w.heap.size, 0, none⟩ = some (.string a.fact.name) ∧ w'.cell? ⟨w.heap.size, 1, none⟩ = some (.slice Ad a.fact.args.length cap) ∧ w'.cell? ⟨w.heap.size, 2, none⟩ = some (.int .i64 a.rule) ∧ w'.cell? ⟨w.heap.size, 3, none⟩ = some (.slice Ae a.kids.length cape) ∧ w'.cell? ⟨w4.heap.size, 0, none⟩ = some (.string a.fact.name) ∧ w'.cell? ⟨w4.heap.size, 1, none⟩ = some (.slice Ad4 a.fact.args.length cap4) ∧ w'.cell? ⟨w4.heap.size, 2, none⟩ = some (.int .i64 a.rule) ∧ w'.cell? ⟨w4.heap.size, 3, none⟩ = some (.slice Ae4 a.kids.length cape4))
      (first | go_keep | exact ⟨cell_later hb6 u0, cell_later hb6 u1, cell_later hb6 u2, cell_later hb6 u3, cell_later hb6 g0, cell_later hb6 g1, cell_later hb6 g2, cell_later hb6 g3⟩ | exact ⟨cell_later hb7 q0, cell_later hb7 q1, cell_later hb7 q2, cell_later hb7 q3, cell_later hb7 q4, cell_later hb7 q5, cell_later hb7 q6, cell_later hb7 q7⟩)
      (first
        | (go_at_call 6; refine (hT _ B5.drew).mono ?_; rintro e w6 ⟨hb6, cs6, bs6, rfl, hR6, hN6⟩; obtain ⟨Ad6, cap6, Ae6, cape6, rfl⟩ := proof_cells hR6; have hc6 : Below w5.heap.size w5 w6 := Below.trans (Below.drew (Below.refl _ _)) hb6)
        | (go_at_call 8; refine (eqProof_same n a _ _ _ _ _ _ _ _ bs4 _ _ ((proofK_good n).below hR5.out hc6) hR6).mono ?_; rintro e w7 ⟨rfl, hb7⟩; have q0 := cell_later hb6 u0; have q1 := cell_later hb6 u1; have q2 := cell_later hb6 u2; have q3 := cell_later hb6 u3; have q4 := cell_later hb6 g0; have q5 := cell_later hb6 g1; have q6 := cell_later hb6 g2; have q7 := cell_later hb6 g3))
    have B7 := (B5.trans (hc6.mono B5.size)).trans (hb7.mono (Nat.le_trans B5.size hc6.size))
    clear hT hR5 hR6 hN6
    go_wp2
    go_ret
    exact ⟨rfl, B7⟩

end Go.Proofs.YtoekllcfmnnibaaDoor
