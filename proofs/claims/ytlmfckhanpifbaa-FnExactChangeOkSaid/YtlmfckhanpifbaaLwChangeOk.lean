/- The walk of the law FnExactChangeOk. -/
import Derived.Test.YtlmfckhanpifbaaChI
import Derived.Test.YtlmfckhanpifbaaHChange
namespace Go.Proofs.Ytlmfckhanpifbaa
open Go.RowKit D
set_option linter.unusedVariables false
attribute [local go_sem ↓] Go.wp_at_zero Go.wp_at_succ

set_option maxHeartbeats 1000000 in
theorem exactChangeOk_walk (a : Ch) (c0 c1 : Value) (bs : List Nat) (w : World) (h : changeK w [c0, c1] a bs) :
    Calls Try.prog 3 #[.agg #[c0, c1]] w fun e w' => e = .returned (.bool true) ∧ Below w.heap.size w w' := by
  obtain ⟨Ad, cap, Ae, cape, rfl, rfl⟩ := change_cells2 h
  have hsz := fun w' (hb : Below w.heap.size w w') => szChange_any a _ _ bs 1048576 w' (changeK_good.below h hb) (by omega) (by omega)
  have hto := fun (hl : bulkC a ≤ 1048576) w' (hb : Below w.heap.size w w') => toChange_b a _ _ bs w' (changeK_good.below h hb) (by exact hl)
  clear h
  go_enter Try.func3, Try.ntmps3
  go_wp2_with fail
  refine (hsz _ ((Below.refl _ _).alloc (Nat.le_refl _) _)).mono ?_
  rintro e w1 ⟨hb1, r, rfl, hr⟩
  have B1 : Below w.heap.size w w1 := ((Below.refl _ _).alloc (Nat.le_refl _) _).trans (hb1.mono (by simp))
  have x0 : w1.cell? ⟨w.heap.size, 0, none⟩ = some (.slice Ad a.comes.length cap) := cell_later hb1 (by go_simp)
  have x1 : w1.cell? ⟨w.heap.size, 1, none⟩ = some (.slice Ae a.goes.length cape) := cell_later hb1 (by go_simp)
  clear hsz
  rcases hr with rfl | ⟨hr0, hr1⟩
  · go_wp2
    go_ret
    exact ⟨rfl, B1⟩
  · have hbk : bulkC a ≤ 16777216 := by omega
    have hT := hto (by omega)
    clear hto hr1
    go_wp2_with fail
    refine (hT _ B1).mono ?_
    rintro e w2 ⟨hb2, cs2, bs2, rfl, hR2, hN2⟩
    obtain ⟨Ad2, cap2, Ae2, cape2, rfl⟩ := change_cells hR2
    have B2 := B1.trans (hb2.mono B1.size)
    have x0' := cell_later hb2 x0
    have x1' := cell_later hb2 x1
    go_wp2_with fail
    refine (changeOk_spec a _ _ bs2 _ hR2).mono ?_
    rintro e w3 ⟨rfl, hb3⟩
    have B3 := B2.trans (hb3.mono B2.size)
    have y0 := cell_later hb3 x0'
    have y1 := cell_later hb3 x1'
    clear hR2 hN2 x0 x0' x1 x1'
    go_wp2_with fail
    refine (hT _ B3).mono ?_
    rintro e w4 ⟨hb4, cs4, bs4, rfl, hR4, hN4⟩
    obtain ⟨Ad4, cap4, Ae4, cape4, rfl⟩ := change_cells hR4
    have B4 := B3.trans (hb4.mono B3.size)
    have z0 := cell_later hb4 y0
    have z1 := cell_later hb4 y1
    clear y0 y1
    go_wp2_with fail
    have hA4 : Below w4.heap.size w4 (w4.alloc (.cells #[.slice Ad4 a.comes.length cap4, .slice Ae4 a.goes.length cape4] 29)) := (Below.refl _ _).alloc (Nat.le_refl _) _
    refine (changeOk_impl a _ _ bs4 _ (changeK_good.below hR4 hA4)).mono ?_
    rintro e w5 ⟨rfl, hb5⟩
    have hB5 := hA4.trans (hb5.mono hA4.size)
    have B5 := B4.trans (hB5.mono B4.size)
    have hR5 := Lib.hid (changeK_good.below hR4 hB5)
    have u0 := cell_later hB5 z0
    have u1 := cell_later hB5 z1
    have g0 : w5.cell? ⟨w4.heap.size, 0, none⟩ = some (.slice Ad4 a.comes.length cap4) := cell_later hb5 (by go_simp)
    have g1 : w5.cell? ⟨w4.heap.size, 1, none⟩ = some (.slice Ae4 a.goes.length cape4) := cell_later hb5 (by go_simp)
    clear hR4 hN4 z0 z1 hA4
    go_wp2_with fail
    go_region_held3 (fun w' => w'.cell? ⟨w.heap.size, 0, none⟩ = some (.slice Ad a.comes.length cap) ∧ w'.cell? ⟨w.heap.size, 1, none⟩ = some (.slice Ae a.goes.length cape) ∧ w'.cell? ⟨w4.heap.size, 0, none⟩ = some (.slice Ad4 a.comes.length cap4) ∧ w'.cell? ⟨w4.heap.size, 1, none⟩ = some (.slice Ae4 a.goes.length cape4))
      (first | go_keep | exact ⟨cell_later hb6 u0, cell_later hb6 u1, cell_later hb6 g0, cell_later hb6 g1⟩ | exact ⟨cell_later hb7 q0, cell_later hb7 q1, cell_later hb7 q2, cell_later hb7 q3⟩)
      (first
        | (go_at_call 6; refine (hT _ B5.drew).mono ?_; rintro e w6 ⟨hb6, cs6, bs6, rfl, hR6, hN6⟩; obtain ⟨Ad6, cap6, Ae6, cape6, rfl⟩ := change_cells hR6; have hc6 : Below w5.heap.size w5 w6 := Below.trans (Below.drew (Below.refl _ _)) hb6)
        | (go_at_call 8; refine (eqChange_same a _ _ _ _ bs4 _ _ (changeK_good.below hR5.out hc6) hR6).mono ?_; rintro e w7 ⟨rfl, hb7⟩; have q0 := cell_later hb6 u0; have q1 := cell_later hb6 u1; have q2 := cell_later hb6 g0; have q3 := cell_later hb6 g1))
    have B7 := (B5.trans (hc6.mono B5.size)).trans (hb7.mono (Nat.le_trans B5.size hc6.size))
    clear hT hR5 hR6 hN6
    go_wp2
    go_ret
    exact ⟨rfl, B7⟩

end Go.Proofs.Ytlmfckhanpifbaa
