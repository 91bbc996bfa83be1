/- The walk of the law FnExactChangeBoth. -/
import Derived.Laws.EntriesVeiled
import Derived.Deep.RegionHeld3
import Derived.Deep.RegionWith
import Derived.BigQuiet
import Derived.Deep.DrawnRows
import Derived.WalkKit
import Derived.WalkSpells
import Derived.WalkLawsBesides
import Derived.Lib.Hide
import Derived.Deep.DeepCutAuto
import Derived.Test.YtlmimajgifidhaaBothS
import Derived.Test.YtlmimajgifidhaaChB
import Derived.Test.YtlmimajgifidhaaMarkC
import Derived.Test.YtlmimajgifidhaaHChange
import Derived.Test.YtlmimajgifidhaaBothP
namespace Go.Proofs.Ytlmimajgifidhaa
open Go.RowKit D
set_option linter.unusedVariables false
attribute [local go_sem ↓] Go.wp_at_zero Go.wp_at_succ

set_option maxRecDepth 100000 in
set_option maxHeartbeats 4000000 in
theorem exactChangeBoth_walk (a0 : Ch) (c00 c01 : Value) (p0 : List Nat) (a1 : Ch) (c10 c11 : Value) (p1 : List Nat) (w : World) (h0 : changeK w [c00, c01] a0 p0) (h1 : changeK w [c10, c11] a1 p1) :
    Calls Try.prog 3 #[.agg #[c00, c01], .agg #[c10, c11]] w fun e w' => e = .returned (.bool true) ∧ Below w.heap.size w w' := by
  obtain ⟨Adq0, capq0, Aeq0, capeq0, rfl, rfl⟩ := change_cells2 h0
  obtain ⟨Adq1, capq1, Aeq1, capeq1, rfl, rfl⟩ := change_cells2 h1
  have sz0 := fun l (g0 : 0 ≤ l) (g1 : l ≤ 1048576) w' (hb : Below w.heap.size w w') => szChange_any a0 _ _ p0 l w' (changeK_good.below h0 hb) g0 g1
  have to0 := fun (hl : bulkC a0 ≤ 1048576) w' (hb : Below w.heap.size w w') => toChange_b a0 _ _ p0 w' (changeK_good.below h0 hb) hl
  have sz1 := fun l (g0 : 0 ≤ l) (g1 : l ≤ 1048576) w' (hb : Below w.heap.size w w') => szChange_any a1 _ _ p1 l w' (changeK_good.below h1 hb) g0 g1
  have to1 := fun (hl : bulkC a1 ≤ 1048576) w' (hb : Below w.heap.size w w') => toChange_b a1 _ _ p1 w' (changeK_good.below h1 hb) hl
  have hVB := bothL_bound a0 a1
  clear h0 h1
  have B0 := ((Below.refl w.heap.size w).alloc (Nat.le_refl _) (.cells #[.slice Adq0 a0.comes.length capq0, .slice Aeq0 a0.goes.length capeq0] 24)).alloc (by simp) (.cells #[.slice Adq1 a1.comes.length capq1, .slice Aeq1 a1.goes.length capeq1] 24)
  go_enter Try.func3, Try.ntmps3
  go_wp2_with fail
  refine (sz0 _ (by omega) (by omega) _ B0).mono ?_
  rintro e w1 ⟨hb1, r1, rfl, hr1⟩
  have B1 := B0.trans (hb1.mono B0.size)
  have y00 : w1.cell? ⟨w.heap.size, 0, none⟩ = some (.slice Adq0 a0.comes.length capq0) := cell_later hb1 (by go_simp)
  have y01 : w1.cell? ⟨w.heap.size, 1, none⟩ = some (.slice Aeq0 a0.goes.length capeq0) := cell_later hb1 (by go_simp)
  have y10 : w1.cell? ⟨w.heap.size + 1, 0, none⟩ = some (.slice Adq1 a1.comes.length capq1) := cell_later hb1 (by go_simp)
  have y11 : w1.cell? ⟨w.heap.size + 1, 1, none⟩ = some (.slice Aeq1 a1.goes.length capeq1) := cell_later hb1 (by go_simp)
  clear sz0
  rcases hr1 with rfl | ⟨hr1a, hr1b⟩
  · go_wp2
    go_ret
    exact ⟨rfl, B1⟩
  · skip
    go_wp2_with fail
    refine (sz1 _ (by omega) (by omega) _ B1).mono ?_
    rintro e w2 ⟨hb2, r2, rfl, hr2⟩
    have B2 := B1.trans (hb2.mono B1.size)
    replace y00 := cell_later hb2 y00
    replace y01 := cell_later hb2 y01
    replace y10 := cell_later hb2 y10
    replace y11 := cell_later hb2 y11
    clear sz1
    rcases hr2 with rfl | ⟨hr2a, hr2b⟩
    · go_wp2
      go_ret
      exact ⟨rfl, B2⟩
    · skip
      have T0 := to0 (by omega)
      have HT0 := Lib.hid T0
      have HB0 : Hid (bulkC a0 ≤ 1048576) := Lib.hid (by omega)
      have T1 := to1 (by omega)
      have HT1 := Lib.hid T1
      have HB1 : Hid (bulkC a1 ≤ 1048576) := Lib.hid (by omega)
      have HVB := Lib.hid hVB
      clear hVB to0 T0 to1 T1 hr1b hr2b
      go_upto_region 8 with fail
      go_cut [6, 7] (fun s6 s7 wx => ∃ (t : Nat) (X1 X2 : Option Addr) (n1 n2 : Nat) (bb : List Nat), s6 = .pointer (some ⟨t, 0, none⟩) ∧ s7 = .bool (bothL a0 a1).2 ∧ wx.cell? ⟨t, 0, none⟩ = some (.slice X1 (bothL a0 a1).1.comes.length n1) ∧ wx.cell? ⟨t, 1, none⟩ = some (.slice X2 (bothL a0 a1).1.goes.length n2) ∧ changeK wx [.slice X1 (bothL a0 a1).1.comes.length n1, .slice X2 (bothL a0 a1).1.goes.length n2] (bothL a0 a1).1 bb ∧ Below w2.heap.size w2 wx ∧ t < wx.heap.size)
      case first =>
        have C0 : Below w2.heap.size w2 w2 := Below.refl _ _
        have HNY0 : Hid (w.heap.size < w2.heap.size) := Lib.hid (lt_of_cell y00)
        have HNY1 : Hid (w.heap.size + 1 < w2.heap.size) := Lib.hid (lt_of_cell y10)
        go_region_held3 (fun w' => w'.cell? ⟨w.heap.size, 0, none⟩ = some (.slice Adq0 a0.comes.length capq0) ∧ w'.cell? ⟨w.heap.size, 1, none⟩ = some (.slice Aeq0 a0.goes.length capeq0) ∧ w'.cell? ⟨w.heap.size + 1, 0, none⟩ = some (.slice Adq1 a1.comes.length capq1) ∧ w'.cell? ⟨w.heap.size + 1, 1, none⟩ = some (.slice Aeq1 a1.goes.length capeq1)) (first | go_keep | exact ⟨y00, y01, y10, y11⟩ | (refine ⟨?_, ?_, ?_, ?_⟩ <;> go_simp))
          (first
            | (go_at_call 8; have hBB := B2.trans (Below.mono (C0.drew) B2.size); have hz := HT0.out _ hBB; (with_reducible refine Calls.mono hz ?_); clear hz hBB; rintro e w3 ⟨hb3, cs3, bs3, rfl, hR3, hN3⟩; obtain ⟨Ad3, cap3, Ae3, cape3, rfl⟩ := change_cells hR3; clear hN3; have C3 := Below.trans (C0.drew) (hb3.mono (Below.size (C0.drew))); replace y00 := cell_later hb3 y00; replace y01 := cell_later hb3 y01; replace y10 := cell_later hb3 y10; replace y11 := cell_later hb3 y11; (try (replace HT := Lib.hid (blk_later hb3 HT.out); replace u0 : _ = some (Value.slice none 0 0) := blk_cell (o := 0) HT.out; replace u1 : _ = some (Value.slice none 0 0) := blk_cell (o := 1) HT.out; replace uf0 := blk_frozen (o := 0) HT.out; replace uf1 := blk_frozen (o := 1) HT.out)))
            | (go_at_call 8; have hAp : Below w2.heap.size w2 (w2.alloc (.cells #[.slice none 0 0, .slice none 0 0] 28)).drew := ((Below.refl _ _).alloc (Nat.le_refl _) _).drew; have hAt : Below w2.heap.size w2 (w2.alloc (.cells #[.slice none 0 0, .slice none 0 0] 28)).drew := (C0.alloc C0.size _).drew; have hBB := B2.trans (Below.mono hAt B2.size); have hz := HT0.out _ hBB; (with_reducible refine Calls.mono hz ?_); clear hz hBB; rintro e w3 ⟨hb3, cs3, bs3, rfl, hR3, hN3⟩; obtain ⟨Ad3, cap3, Ae3, cape3, rfl⟩ := change_cells hR3; clear hN3; have C3 := Below.trans hAt (hb3.mono (Below.size hAt)); replace y00 := cell_later hb3 (cell_later hAp y00); replace y01 := cell_later hb3 (cell_later hAp y01); replace y10 := cell_later hb3 (cell_later hAp y10); replace y11 := cell_later hb3 (cell_later hAp y11); have HT := Lib.hid (blk_later hb3 (heap_alloc_new w2 (.cells #[.slice none 0 0, .slice none 0 0] 28))); have HQT : Hid (w2.heap.size ≤ w2.heap.size) := Lib.hid (Below.size C0); have u0 : _ = some (Value.slice none 0 0) := blk_cell (o := 0) HT.out; have u1 : _ = some (Value.slice none 0 0) := blk_cell (o := 1) HT.out; have uf0 := blk_frozen (o := 0) HT.out; have uf1 := blk_frozen (o := 1) HT.out; have hq0 : ¬ (w.heap.size = w2.heap.size) := (by have := HNY0.out; have := HQT.out; omega); have hq0r : ¬ (w2.heap.size = w.heap.size) := (by have := HNY0.out; have := HQT.out; omega); have hq1 : ¬ (w.heap.size + 1 = w2.heap.size) := (by have := HNY1.out; have := HQT.out; omega); have hq1r : ¬ (w2.heap.size = w.heap.size + 1) := (by have := HNY1.out; have := HQT.out; omega); clear hAp hAt)
            | (go_at_call 8; have hBB := B2.trans (Below.mono (C3) B2.size); have hz := HT1.out _ hBB; (with_reducible refine Calls.mono hz ?_); clear hz hBB; rintro e w4 ⟨hb4, cs4, bs4, rfl, hR4, hN4⟩; obtain ⟨Ad4, cap4, Ae4, cape4, rfl⟩ := change_cells hR4; clear hN4; have C4 := Below.trans (C3) (hb4.mono (Below.size (C3))); replace y00 := cell_later hb4 y00; replace y01 := cell_later hb4 y01; replace y10 := cell_later hb4 y10; replace y11 := cell_later hb4 y11; (try (replace HT := Lib.hid (blk_later hb4 HT.out); replace u0 : _ = some (Value.slice none 0 0) := blk_cell (o := 0) HT.out; replace u1 : _ = some (Value.slice none 0 0) := blk_cell (o := 1) HT.out; replace uf0 := blk_frozen (o := 0) HT.out; replace uf1 := blk_frozen (o := 1) HT.out)); replace hR3 := changeK_good.below hR3 hb4)
            | (go_at_call 8; have hAp : Below w3.heap.size w3 (w3.alloc (.cells #[.slice none 0 0, .slice none 0 0] 28)) := ((Below.refl _ _).alloc (Nat.le_refl _) _); have hAt : Below w2.heap.size w2 (w3.alloc (.cells #[.slice none 0 0, .slice none 0 0] 28)) := (C3.alloc C3.size _); have hBB := B2.trans (Below.mono hAt B2.size); have hz := HT1.out _ hBB; (with_reducible refine Calls.mono hz ?_); clear hz hBB; rintro e w4 ⟨hb4, cs4, bs4, rfl, hR4, hN4⟩; obtain ⟨Ad4, cap4, Ae4, cape4, rfl⟩ := change_cells hR4; clear hN4; have C4 := Below.trans hAt (hb4.mono (Below.size hAt)); replace y00 := cell_later hb4 (cell_later hAp y00); replace y01 := cell_later hb4 (cell_later hAp y01); replace y10 := cell_later hb4 (cell_later hAp y10); replace y11 := cell_later hb4 (cell_later hAp y11); have HT := Lib.hid (blk_later hb4 (heap_alloc_new w3 (.cells #[.slice none 0 0, .slice none 0 0] 28))); have HQT : Hid (w2.heap.size ≤ w3.heap.size) := Lib.hid (Below.size C3); have u0 : _ = some (Value.slice none 0 0) := blk_cell (o := 0) HT.out; have u1 : _ = some (Value.slice none 0 0) := blk_cell (o := 1) HT.out; have uf0 := blk_frozen (o := 0) HT.out; have uf1 := blk_frozen (o := 1) HT.out; have hq0 : ¬ (w.heap.size = w3.heap.size) := (by have := HNY0.out; have := HQT.out; omega); have hq0r : ¬ (w3.heap.size = w.heap.size) := (by have := HNY0.out; have := HQT.out; omega); have hq1 : ¬ (w.heap.size + 1 = w3.heap.size) := (by have := HNY1.out; have := HQT.out; omega); have hq1r : ¬ (w3.heap.size = w.heap.size + 1) := (by have := HNY1.out; have := HQT.out; omega); replace hR3 := changeK_good.below (changeK_good.below hR3 hAp) hb4; clear hAp hAt)
            | (go_at_call 7; have hBB := B2.trans (Below.mono (C4) B2.size); have hz := changeBoth_spec a0 a1 _ _ _ _ bs3 bs4 _ hR3 hR4; (with_reducible refine Calls.mono hz ?_); clear hz hBB; rintro e w5 ⟨hb5, cs5, bs5, rfl, hR5⟩; obtain ⟨Ad5, cap5, Ae5, cape5, rfl⟩ := change_cells hR5; have C5 := Below.trans (C4) (hb5.mono (Below.size (C4))); replace y00 := cell_later hb5 y00; replace y01 := cell_later hb5 y01; replace y10 := cell_later hb5 y10; replace y11 := cell_later hb5 y11; (try (replace HT := Lib.hid (blk_later hb5 HT.out); replace u0 : _ = some (Value.slice none 0 0) := blk_cell (o := 0) HT.out; replace u1 : _ = some (Value.slice none 0 0) := blk_cell (o := 1) HT.out; replace uf0 := blk_frozen (o := 0) HT.out; replace uf1 := blk_frozen (o := 1) HT.out)))
            | (go_at_call 7; have hAp : Below w4.heap.size w4 (w4.alloc (.cells #[.slice none 0 0, .slice none 0 0] 28)) := ((Below.refl _ _).alloc (Nat.le_refl _) _); have hAt : Below w2.heap.size w2 (w4.alloc (.cells #[.slice none 0 0, .slice none 0 0] 28)) := (C4.alloc C4.size _); have hBB := B2.trans (Below.mono hAt B2.size); have hz := changeBoth_spec a0 a1 _ _ _ _ bs3 bs4 _ (changeK_good.below hR3 hAp) (changeK_good.below hR4 hAp); (with_reducible refine Calls.mono hz ?_); clear hz hBB; rintro e w5 ⟨hb5, cs5, bs5, rfl, hR5⟩; obtain ⟨Ad5, cap5, Ae5, cape5, rfl⟩ := change_cells hR5; have C5 := Below.trans hAt (hb5.mono (Below.size hAt)); replace y00 := cell_later hb5 (cell_later hAp y00); replace y01 := cell_later hb5 (cell_later hAp y01); replace y10 := cell_later hb5 (cell_later hAp y10); replace y11 := cell_later hb5 (cell_later hAp y11); have HT := Lib.hid (blk_later hb5 (heap_alloc_new w4 (.cells #[.slice none 0 0, .slice none 0 0] 28))); have HQT : Hid (w2.heap.size ≤ w4.heap.size) := Lib.hid (Below.size C4); have u0 : _ = some (Value.slice none 0 0) := blk_cell (o := 0) HT.out; have u1 : _ = some (Value.slice none 0 0) := blk_cell (o := 1) HT.out; have uf0 := blk_frozen (o := 0) HT.out; have uf1 := blk_frozen (o := 1) HT.out; have hq0 : ¬ (w.heap.size = w4.heap.size) := (by have := HNY0.out; have := HQT.out; omega); have hq0r : ¬ (w4.heap.size = w.heap.size) := (by have := HNY0.out; have := HQT.out; omega); have hq1 : ¬ (w.heap.size + 1 = w4.heap.size) := (by have := HNY1.out; have := HQT.out; omega); have hq1r : ¬ (w4.heap.size = w.heap.size + 1) := (by have := HNY1.out; have := HQT.out; omega); clear hAp hAt))
        all_goals
          obtain ⟨d1, d2, rfl, hC, hD⟩ := change_parts hR5
          first
            | (have hE := cut_early (c := (bothL a0 a1).1) HT.out C5 (HQT.out) hC hD)
            | (have hE := cut_late (ty := 28) (c := (bothL a0 a1).1) C5 C5.size hC hD)
          obtain ⟨E1, E2, E3, E4, E5, E6⟩ := hE
          clear hC hD hR5
          go_wp2_with fail
          go_meet
          exact ⟨_, _, _, _, _, _, rfl, rfl, E1, E2, E3, E4, E5⟩
      case rest =>
        obtain ⟨t5, Ad5, Ae5, cap5, cape5, bs5, rfl, rfl, g0t, g1t, hR5, hq5, ht5⟩ := hcut
        obtain ⟨w5, hw5⟩ : ∃ W, W = wc := ⟨wc, rfl⟩
        subst hw5
        have B5 := B2.trans (hq5.mono B2.size)
        replace y00 := cell_later hq5 y00
        replace y01 := cell_later hq5 y01
        replace y10 := cell_later hq5 y10
        replace y11 := cell_later hq5 y11
        have U5 := Lib.hid (changeK_good.lt hR5)
        have R5 := Lib.hid hR5
        clear hR5
        have Q0 : Hid (w.heap.size + 2 ≤ w5.heap.size) := Lib.hid (by have := B5.size; have h1 : w.heap.size + 1 < w5.heap.size := lt_of_cell y11;  omega)
        have z0 := g0t
        have z1 := g1t
        clear g0t g1t
        have QT : Hid (t5 < w5.heap.size) := Lib.hid ht5
        clear ht5
        go_wp2_with fail
        refine (HT0.out _ B5).mono ?_
        rintro e w6 ⟨hc6, cs6, bs6, rfl, hR6, hN6⟩
        obtain ⟨Ad6, cap6, Ae6, cape6, rfl⟩ := change_cells hR6
        have hb6 := hc6
        have B6 := B5.trans (hb6.mono B5.size)
        replace y00 := cell_later hb6 y00
        replace y01 := cell_later hb6 y01
        replace y10 := cell_later hb6 y10
        replace y11 := cell_later hb6 y11
        replace z0 := cell_later hb6 z0
        replace z1 := cell_later hb6 z1
        replace R5 := Lib.hid (changeK_good.below R5.out hb6)
        have Q2 : Hid (w5.heap.size ≤ w6.heap.size) := Lib.hid hb6.size
        have L6 : Hid (∀ b ∈ bs6, w5.heap.size ≤ b) := Lib.hid fun b hb => (hN6.own b hb).1
        have U6 := Lib.hid (changeK_good.lt hR6)
        have N6 := Lib.hid hN6
        have R6 := Lib.hid hR6
        clear hR6 hN6
        have Z6 : Hid (w5.heap.size ≤ w6.heap.size) := Lib.hid hb6.size
        have zl6y00 : w.heap.size < w6.heap.size := lt_of_cell y00
        have zl6y10 : w.heap.size + 1 < w6.heap.size := lt_of_cell y10
        have zl6z0 : t5 < w6.heap.size := lt_of_cell z0
        go_wp2_with fail
        have hA6 : Below w6.heap.size w6 (w6.alloc (.cells #[.slice Ad6 a0.comes.length cap6, .slice Ae6 a0.goes.length cape6] 28)) := (Below.refl _ _).alloc (Nat.le_refl _) _
        refine (HT1.out _ (B6.trans (hA6.mono B6.size))).mono ?_
        rintro e w7 ⟨hc7, cs7, bs7, rfl, hR7, hN7⟩
        obtain ⟨Ad7, cap7, Ae7, cape7, rfl⟩ := change_cells hR7
        have hb7 : Below w6.heap.size w6 w7 := hA6.trans (hc7.mono hA6.size)
        have B7 := B6.trans (hb7.mono B6.size)
        replace y00 := cell_later hb7 y00
        replace y01 := cell_later hb7 y01
        replace y10 := cell_later hb7 y10
        replace y11 := cell_later hb7 y11
        replace z0 := cell_later hb7 z0
        replace z1 := cell_later hb7 z1
        replace R5 := Lib.hid (changeK_good.below R5.out hb7)
        replace R6 := Lib.hid (changeK_good.below R6.out hb7)
        replace N6 := Lib.hid (N6.out.below hb7)
        replace Z6 := Lib.hid (Nat.le_trans Z6.out hb7.size)
        have x00 : w7.cell? ⟨w6.heap.size, 0, none⟩ = some (.slice Ad6 a0.comes.length cap6) := cell_later hc7 (by go_simp)
        have x01 : w7.cell? ⟨w6.heap.size, 1, none⟩ = some (.slice Ae6 a0.goes.length cape6) := cell_later hc7 (by go_simp)
        have Q3 : Hid (w6.heap.size + 1 ≤ w7.heap.size) := Lib.hid (by have := hc7.size; simp at this; omega)
        have L7 : Hid (∀ b ∈ bs7, w6.heap.size + 1 ≤ b) := Lib.hid fun b hb => by have := (hN7.own b hb).1; simp at this; omega
        have U7 := Lib.hid (changeK_good.lt hR7)
        have N7 := Lib.hid hN7
        have R7 := Lib.hid hR7
        clear hR7 hN7
        have Z7 : Hid ((w6.alloc (.cells #[.slice Ad6 a0.comes.length cap6, .slice Ae6 a0.goes.length cape6] 28)).heap.size ≤ w7.heap.size) := Lib.hid hc7.size
        have zl7y00 : w.heap.size < w7.heap.size := lt_of_cell y00
        have zl7y10 : w.heap.size + 1 < w7.heap.size := lt_of_cell y10
        have zl7z0 : t5 < w7.heap.size := lt_of_cell z0
        have zl7x00 : w6.heap.size < w7.heap.size := lt_of_cell x00
        go_wp2_with fail
        have hA7 : Below w7.heap.size w7 (w7.alloc (.cells #[.slice Ad7 a1.comes.length cap7, .slice Ae7 a1.goes.length cape7] 28)) := (Below.refl _ _).alloc (Nat.le_refl _) _
        refine (changeBoth_impl a0 a1 _ _ _ _ bs6 bs7 _ (changeK_good.below R6.out hA7) (changeK_good.below R7.out hA7)).mono ?_
        rintro e w8 ⟨hc8, cs8, bs8, rfl, hR8, hN8⟩
        obtain ⟨Ad8, cap8, Ae8, cape8, rfl⟩ := change_cells hR8
        have hb8 : Below w7.heap.size w7 w8 := hA7.trans (hc8.mono hA7.size)
        have B8 := B7.trans (hb8.mono B7.size)
        replace y00 := cell_later hb8 y00
        replace y01 := cell_later hb8 y01
        replace y10 := cell_later hb8 y10
        replace y11 := cell_later hb8 y11
        replace z0 := cell_later hb8 z0
        replace z1 := cell_later hb8 z1
        replace x00 := cell_later hb8 x00
        replace x01 := cell_later hb8 x01
        replace R5 := Lib.hid (changeK_good.below R5.out hb8)
        replace R6 := Lib.hid (changeK_good.below R6.out hb8)
        replace R7 := Lib.hid (changeK_good.below R7.out hb8)
        replace N6 := Lib.hid (N6.out.below hb8)
        replace N7 := Lib.hid (N7.out.below hb8)
        replace Z6 := Lib.hid (Nat.le_trans Z6.out hb8.size)
        replace Z7 := Lib.hid (Nat.le_trans Z7.out hb8.size)
        have x10 : w8.cell? ⟨w7.heap.size, 0, none⟩ = some (.slice Ad7 a1.comes.length cap7) := cell_later hc8 (by go_simp)
        have x11 : w8.cell? ⟨w7.heap.size, 1, none⟩ = some (.slice Ae7 a1.goes.length cape7) := cell_later hc8 (by go_simp)
        have Q4 : Hid (w7.heap.size + 1 ≤ w8.heap.size) := Lib.hid (by have := hc8.size; simp at this; omega)
        have L8 : Hid (∀ b ∈ bs8, w7.heap.size + 1 ≤ b) := Lib.hid fun b hb => by have := (hN8.own b hb).1; simp at this; omega
        have U8 := Lib.hid (changeK_good.lt hR8)
        have N8 := Lib.hid hN8
        have R8 := Lib.hid hR8
        clear hR8 hN8
        have zl8y00 : w.heap.size < w8.heap.size := lt_of_cell y00
        have zl8y10 : w.heap.size + 1 < w8.heap.size := lt_of_cell y10
        have zl8z0 : t5 < w8.heap.size := lt_of_cell z0
        have zl8x00 : w6.heap.size < w8.heap.size := lt_of_cell x00
        have zl8x10 : w7.heap.size < w8.heap.size := lt_of_cell x10
        go_wp2_with fail
        have hA8 : Below w8.heap.size w8 (w8.alloc (.cells #[.slice Ad8 (bothL a0 a1).1.comes.length cap8, .slice Ae8 (bothL a0 a1).1.goes.length cape8] 28)) := (Below.refl _ _).alloc (Nat.le_refl _) _
        refine (eqChange_same (bothL a0 a1).1 _ _ _ _ bs8 bs5 _ (changeK_good.below R8.out hA8) (changeK_good.below R5.out hA8)).mono ?_
        rintro e w9 ⟨rfl, hc9⟩
        have hb9 : Below w8.heap.size w8 w9 := hA8.trans (hc9.mono hA8.size)
        have B9 := B8.trans (hb9.mono B8.size)
        replace y00 := cell_later hb9 y00
        replace y01 := cell_later hb9 y01
        replace y10 := cell_later hb9 y10
        replace y11 := cell_later hb9 y11
        replace z0 := cell_later hb9 z0
        replace z1 := cell_later hb9 z1
        replace x00 := cell_later hb9 x00
        replace x01 := cell_later hb9 x01
        replace x10 := cell_later hb9 x10
        replace x11 := cell_later hb9 x11
        replace R5 := Lib.hid (changeK_good.below R5.out hb9)
        replace R6 := Lib.hid (changeK_good.below R6.out hb9)
        replace R7 := Lib.hid (changeK_good.below R7.out hb9)
        replace R8 := Lib.hid (changeK_good.below R8.out hb9)
        replace N6 := Lib.hid (N6.out.below hb9)
        replace N7 := Lib.hid (N7.out.below hb9)
        replace N8 := Lib.hid (N8.out.below hb9)
        replace Z6 := Lib.hid (Nat.le_trans Z6.out hb9.size)
        replace Z7 := Lib.hid (Nat.le_trans Z7.out hb9.size)
        have g0 : w9.cell? ⟨w8.heap.size, 0, none⟩ = some (.slice Ad8 (bothL a0 a1).1.comes.length cap8) := cell_later hc9 (by go_simp)
        have g1 : w9.cell? ⟨w8.heap.size, 1, none⟩ = some (.slice Ae8 (bothL a0 a1).1.goes.length cape8) := cell_later hc9 (by go_simp)
        go_wp2_with fail
        go_region_held3 (fun w' => w'.cell? ⟨w.heap.size, 0, none⟩ = some (.slice Adq0 a0.comes.length capq0) ∧ w'.cell? ⟨w.heap.size, 1, none⟩ = some (.slice Aeq0 a0.goes.length capeq0) ∧ w'.cell? ⟨w6.heap.size, 0, none⟩ = some (.slice Ad6 a0.comes.length cap6) ∧ w'.cell? ⟨w6.heap.size, 1, none⟩ = some (.slice Ae6 a0.goes.length cape6)) (first | go_keep | exact ⟨y00, y01, x00, x01⟩)
          (first
            | (go_at_call 8; refine (HT0.out _ B9.drew).mono ?_; rintro e w10 ⟨hb10, cs10, bs10, rfl, hR10, hN10⟩; obtain ⟨Ad10, cap10, Ae10, cape10, rfl⟩ := change_cells hR10; have hc10 : Below w9.heap.size w9 w10 := Below.trans (Below.drew (Below.refl _ _)) hb10; replace y00 := cell_later hb10 y00; replace y01 := cell_later hb10 y01; replace y10 := cell_later hb10 y10; replace y11 := cell_later hb10 y11; replace z0 := cell_later hb10 z0; replace z1 := cell_later hb10 z1; replace x00 := cell_later hb10 x00; replace x01 := cell_later hb10 x01; replace x10 := cell_later hb10 x10; replace x11 := cell_later hb10 x11; replace g0 := cell_later hb10 g0; replace g1 := cell_later hb10 g1)
            | (go_at_call 10; refine (eqChange_same a0 _ _ _ _ bs6 _ _ (changeK_good.below R6.out hc10) hR10).mono ?_; rintro e w11 ⟨rfl, hb11⟩; replace y00 := cell_later hb11 y00; replace y01 := cell_later hb11 y01; replace y10 := cell_later hb11 y10; replace y11 := cell_later hb11 y11; replace z0 := cell_later hb11 z0; replace z1 := cell_later hb11 z1; replace x00 := cell_later hb11 x00; replace x01 := cell_later hb11 x01; replace x10 := cell_later hb11 x10; replace x11 := cell_later hb11 x11; replace g0 := cell_later hb11 g0; replace g1 := cell_later hb11 g1))
        have hq11 : Below w9.heap.size w9 w11 := hc10.trans (hb11.mono hc10.size)
        have B11 := B9.trans (hq11.mono B9.size)
        clear hR10 hN10
        replace R5 := Lib.hid (changeK_good.below R5.out hq11)
        replace R6 := Lib.hid (changeK_good.below R6.out hq11)
        replace R7 := Lib.hid (changeK_good.below R7.out hq11)
        replace R8 := Lib.hid (changeK_good.below R8.out hq11)
        replace N6 := Lib.hid (N6.out.below hq11)
        replace N7 := Lib.hid (N7.out.below hq11)
        replace N8 := Lib.hid (N8.out.below hq11)
        replace Z6 := Lib.hid (Nat.le_trans Z6.out hq11.size)
        replace Z7 := Lib.hid (Nat.le_trans Z7.out hq11.size)
        go_wp2_with fail
        go_region_held3 (fun w' => w'.cell? ⟨w.heap.size + 1, 0, none⟩ = some (.slice Adq1 a1.comes.length capq1) ∧ w'.cell? ⟨w.heap.size + 1, 1, none⟩ = some (.slice Aeq1 a1.goes.length capeq1) ∧ w'.cell? ⟨w7.heap.size, 0, none⟩ = some (.slice Ad7 a1.comes.length cap7) ∧ w'.cell? ⟨w7.heap.size, 1, none⟩ = some (.slice Ae7 a1.goes.length cape7)) (first | go_keep | exact ⟨y10, y11, x10, x11⟩)
          (first
            | (go_at_call 8; refine (HT1.out _ B11.drew).mono ?_; rintro e w12 ⟨hb12, cs12, bs12, rfl, hR12, hN12⟩; obtain ⟨Ad12, cap12, Ae12, cape12, rfl⟩ := change_cells hR12; have hc12 : Below w11.heap.size w11 w12 := Below.trans (Below.drew (Below.refl _ _)) hb12; replace y00 := cell_later hb12 y00; replace y01 := cell_later hb12 y01; replace y10 := cell_later hb12 y10; replace y11 := cell_later hb12 y11; replace z0 := cell_later hb12 z0; replace z1 := cell_later hb12 z1; replace x00 := cell_later hb12 x00; replace x01 := cell_later hb12 x01; replace x10 := cell_later hb12 x10; replace x11 := cell_later hb12 x11; replace g0 := cell_later hb12 g0; replace g1 := cell_later hb12 g1)
            | (go_at_call 10; refine (eqChange_same a1 _ _ _ _ bs7 _ _ (changeK_good.below R7.out hc12) hR12).mono ?_; rintro e w13 ⟨rfl, hb13⟩; replace y00 := cell_later hb13 y00; replace y01 := cell_later hb13 y01; replace y10 := cell_later hb13 y10; replace y11 := cell_later hb13 y11; replace z0 := cell_later hb13 z0; replace z1 := cell_later hb13 z1; replace x00 := cell_later hb13 x00; replace x01 := cell_later hb13 x01; replace x10 := cell_later hb13 x10; replace x11 := cell_later hb13 x11; replace g0 := cell_later hb13 g0; replace g1 := cell_later hb13 g1))
        have hq13 : Below w11.heap.size w11 w13 := hc12.trans (hb13.mono hc12.size)
        have B13 := B11.trans (hq13.mono B11.size)
        clear hR12 hN12
        replace R5 := Lib.hid (changeK_good.below R5.out hq13)
        replace R6 := Lib.hid (changeK_good.below R6.out hq13)
        replace R7 := Lib.hid (changeK_good.below R7.out hq13)
        replace R8 := Lib.hid (changeK_good.below R8.out hq13)
        replace N6 := Lib.hid (N6.out.below hq13)
        replace N7 := Lib.hid (N7.out.below hq13)
        replace N8 := Lib.hid (N8.out.below hq13)
        replace Z6 := Lib.hid (Nat.le_trans Z6.out hq13.size)
        replace Z7 := Lib.hid (Nat.le_trans Z7.out hq13.size)
        go_wp2_with fail
        refine (markChange_any a0 _ _ bs6 1 _ _ R6.out N6.out (by have := HB0.out; have := HB1.out; have := cntC_le a0;  omega)).mono ?_
        rintro e w14 ⟨hk14, _, _, hK14⟩
        obtain ⟨k14, he14⟩ : ∃ n : Nat, n = 1 + cntC a0 := ⟨_, rfl⟩
        rw [← he14] at hk14
        have kbk14 : Hid (k14 ≤ 10000000) := Lib.hid (by have := HB0.out; have := HB1.out; have := cntC_le a0;  omega)
        have knk14 : ¬ ((k14 : Int) < 0) := by omega
        clear he14
        subst hk14
        replace y00 := hK14.cell (by intro hb; have h1 : w.heap.size ∈ bs6 := hb; have := L6.out _ h1; have := U6.out _ h1; have := Q0.out; have := QT.out; have := Q2.out; have := Q3.out; have := Q4.out; omega) y00
        replace y01 := hK14.cell (by intro hb; have h1 : w.heap.size ∈ bs6 := hb; have := L6.out _ h1; have := U6.out _ h1; have := Q0.out; have := QT.out; have := Q2.out; have := Q3.out; have := Q4.out; omega) y01
        replace y10 := hK14.cell (by intro hb; have h1 : w.heap.size + 1 ∈ bs6 := hb; have := L6.out _ h1; have := U6.out _ h1; have := Q0.out; have := QT.out; have := Q2.out; have := Q3.out; have := Q4.out; omega) y10
        replace y11 := hK14.cell (by intro hb; have h1 : w.heap.size + 1 ∈ bs6 := hb; have := L6.out _ h1; have := U6.out _ h1; have := Q0.out; have := QT.out; have := Q2.out; have := Q3.out; have := Q4.out; omega) y11
        replace z0 := hK14.cell (by intro hb; have h1 : t5 ∈ bs6 := hb; have := L6.out _ h1; have := U6.out _ h1; have := Q0.out; have := QT.out; have := Q2.out; have := Q3.out; have := Q4.out; omega) z0
        replace z1 := hK14.cell (by intro hb; have h1 : t5 ∈ bs6 := hb; have := L6.out _ h1; have := U6.out _ h1; have := Q0.out; have := QT.out; have := Q2.out; have := Q3.out; have := Q4.out; omega) z1
        replace x00 := hK14.cell (by intro hb; have h1 : w6.heap.size ∈ bs6 := hb; have := L6.out _ h1; have := U6.out _ h1; have := Q0.out; have := QT.out; have := Q2.out; have := Q3.out; have := Q4.out; omega) x00
        replace x01 := hK14.cell (by intro hb; have h1 : w6.heap.size ∈ bs6 := hb; have := L6.out _ h1; have := U6.out _ h1; have := Q0.out; have := QT.out; have := Q2.out; have := Q3.out; have := Q4.out; omega) x01
        replace x10 := hK14.cell (by intro hb; have h1 : w7.heap.size ∈ bs6 := hb; have := L6.out _ h1; have := U6.out _ h1; have := Q0.out; have := QT.out; have := Q2.out; have := Q3.out; have := Q4.out; omega) x10
        replace x11 := hK14.cell (by intro hb; have h1 : w7.heap.size ∈ bs6 := hb; have := L6.out _ h1; have := U6.out _ h1; have := Q0.out; have := QT.out; have := Q2.out; have := Q3.out; have := Q4.out; omega) x11
        replace g0 := hK14.cell (by intro hb; have h1 : w8.heap.size ∈ bs6 := hb; have := L6.out _ h1; have := U6.out _ h1; have := Q0.out; have := QT.out; have := Q2.out; have := Q3.out; have := Q4.out; omega) g0
        replace g1 := hK14.cell (by intro hb; have h1 : w8.heap.size ∈ bs6 := hb; have := L6.out _ h1; have := U6.out _ h1; have := Q0.out; have := QT.out; have := Q2.out; have := Q3.out; have := Q4.out; omega) g1
        replace R5 := Lib.hid (Good.kept changeK_good R5.out hK14 (fun b hb hc => by have := U5.out _ hb; have := L6.out _ hc; have := U6.out _ hc; have := Q0.out; have := QT.out; have := Q2.out; have := Q3.out; have := Q4.out; omega))
        replace R7 := Lib.hid (Good.kept changeK_good R7.out hK14 (fun b hb hc => by have := L7.out _ hb; have := U7.out _ hb; have := L6.out _ hc; have := U6.out _ hc; have := Q0.out; have := QT.out; have := Q2.out; have := Q3.out; have := Q4.out; omega))
        replace R8 := Lib.hid (Good.kept changeK_good R8.out hK14 (fun b hb hc => by have := L8.out _ hb; have := U8.out _ hb; have := L6.out _ hc; have := U6.out _ hc; have := Q0.out; have := QT.out; have := Q2.out; have := Q3.out; have := Q4.out; omega))
        replace N7 := Lib.hid (New.kept N7.out hK14 (fun b hb hc => by have := L7.out _ hb; have := U7.out _ hb; have := L6.out _ hc; have := U6.out _ hc; have := Q0.out; have := QT.out; have := Q2.out; have := Q3.out; have := Q4.out; omega))
        replace N8 := Lib.hid (New.kept N8.out hK14 (fun b hb hc => by have := L8.out _ hb; have := U8.out _ hb; have := L6.out _ hc; have := U6.out _ hc; have := Q0.out; have := QT.out; have := Q2.out; have := Q3.out; have := Q4.out; omega))
        replace Z6 := Lib.hid (Nat.le_trans Z6.out hK14.size)
        replace Z7 := Lib.hid (Nat.le_trans Z7.out hK14.size)
        clear R6 N6
        have B14 := B13.trans (hK14.below (fun b hb => by have := L6.out _ hb; have := U6.out _ hb; have := B13.size; have := Q0.out; have := QT.out; have := Q2.out; have := Q3.out; have := Q4.out; omega) B13.size)
        clear x00 x01
        go_wp2_with fail
        refine (markChange_any a1 _ _ bs7 k14 _ _ R7.out N7.out (by have := kbk14.out; have := HB0.out; have := HB1.out; have := cntC_le a1;  omega)).mono ?_
        rintro e w15 ⟨hk15, _, _, hK15⟩
        obtain ⟨k15, he15⟩ : ∃ n : Nat, n = k14 + cntC a1 := ⟨_, rfl⟩
        rw [← he15] at hk15
        have kbk15 : Hid (k15 ≤ 20000000) := Lib.hid (by have := kbk14.out; have := HB0.out; have := HB1.out; have := cntC_le a1;  omega)
        have knk15 : ¬ ((k15 : Int) < 0) := by omega
        clear he15
        subst hk15
        replace y00 := hK15.cell (by intro hb; have h1 : w.heap.size ∈ bs7 := hb; have := L7.out _ h1; have := U7.out _ h1; have := Q0.out; have := QT.out; have := Q2.out; have := Q3.out; have := Q4.out; omega) y00
        replace y01 := hK15.cell (by intro hb; have h1 : w.heap.size ∈ bs7 := hb; have := L7.out _ h1; have := U7.out _ h1; have := Q0.out; have := QT.out; have := Q2.out; have := Q3.out; have := Q4.out; omega) y01
        replace y10 := hK15.cell (by intro hb; have h1 : w.heap.size + 1 ∈ bs7 := hb; have := L7.out _ h1; have := U7.out _ h1; have := Q0.out; have := QT.out; have := Q2.out; have := Q3.out; have := Q4.out; omega) y10
        replace y11 := hK15.cell (by intro hb; have h1 : w.heap.size + 1 ∈ bs7 := hb; have := L7.out _ h1; have := U7.out _ h1; have := Q0.out; have := QT.out; have := Q2.out; have := Q3.out; have := Q4.out; omega) y11
        replace z0 := hK15.cell (by intro hb; have h1 : t5 ∈ bs7 := hb; have := L7.out _ h1; have := U7.out _ h1; have := Q0.out; have := QT.out; have := Q2.out; have := Q3.out; have := Q4.out; omega) z0
        replace z1 := hK15.cell (by intro hb; have h1 : t5 ∈ bs7 := hb; have := L7.out _ h1; have := U7.out _ h1; have := Q0.out; have := QT.out; have := Q2.out; have := Q3.out; have := Q4.out; omega) z1
        replace x10 := hK15.cell (by intro hb; have h1 : w7.heap.size ∈ bs7 := hb; have := L7.out _ h1; have := U7.out _ h1; have := Q0.out; have := QT.out; have := Q2.out; have := Q3.out; have := Q4.out; omega) x10
        replace x11 := hK15.cell (by intro hb; have h1 : w7.heap.size ∈ bs7 := hb; have := L7.out _ h1; have := U7.out _ h1; have := Q0.out; have := QT.out; have := Q2.out; have := Q3.out; have := Q4.out; omega) x11
        replace g0 := hK15.cell (by intro hb; have h1 : w8.heap.size ∈ bs7 := hb; have := L7.out _ h1; have := U7.out _ h1; have := Q0.out; have := QT.out; have := Q2.out; have := Q3.out; have := Q4.out; omega) g0
        replace g1 := hK15.cell (by intro hb; have h1 : w8.heap.size ∈ bs7 := hb; have := L7.out _ h1; have := U7.out _ h1; have := Q0.out; have := QT.out; have := Q2.out; have := Q3.out; have := Q4.out; omega) g1
        replace R5 := Lib.hid (Good.kept changeK_good R5.out hK15 (fun b hb hc => by have := U5.out _ hb; have := L7.out _ hc; have := U7.out _ hc; have := Q0.out; have := QT.out; have := Q2.out; have := Q3.out; have := Q4.out; omega))
        replace R8 := Lib.hid (Good.kept changeK_good R8.out hK15 (fun b hb hc => by have := L8.out _ hb; have := U8.out _ hb; have := L7.out _ hc; have := U7.out _ hc; have := Q0.out; have := QT.out; have := Q2.out; have := Q3.out; have := Q4.out; omega))
        replace N8 := Lib.hid (New.kept N8.out hK15 (fun b hb hc => by have := L8.out _ hb; have := U8.out _ hb; have := L7.out _ hc; have := U7.out _ hc; have := Q0.out; have := QT.out; have := Q2.out; have := Q3.out; have := Q4.out; omega))
        replace Z6 := Lib.hid (Nat.le_trans Z6.out hK15.size)
        replace Z7 := Lib.hid (Nat.le_trans Z7.out hK15.size)
        clear R7 N7
        have B15 := B14.trans (hK15.below (fun b hb => by have := L7.out _ hb; have := U7.out _ hb; have := B14.size; have := Q0.out; have := QT.out; have := Q2.out; have := Q3.out; have := Q4.out; omega) B14.size)
        clear x10 x11
        go_wp2_with fail
        refine (eqChange_same (bothL a0 a1).1 _ _ _ _ bs8 bs5 _ R8.out R5.out).mono ?_
        rintro e w16 ⟨rfl, hc16⟩
        have hb16 := hc16
        have B16 := B15.trans (hb16.mono B15.size)
        replace y00 := cell_later hb16 y00
        replace y01 := cell_later hb16 y01
        replace y10 := cell_later hb16 y10
        replace y11 := cell_later hb16 y11
        replace z0 := cell_later hb16 z0
        replace z1 := cell_later hb16 z1
        replace g0 := cell_later hb16 g0
        replace g1 := cell_later hb16 g1
        replace R5 := Lib.hid (changeK_good.below R5.out hb16)
        replace R8 := Lib.hid (changeK_good.below R8.out hb16)
        replace N8 := Lib.hid (N8.out.below hb16)
        replace Z6 := Lib.hid (Nat.le_trans Z6.out hb16.size)
        replace Z7 := Lib.hid (Nat.le_trans Z7.out hb16.size)
        go_wp2_with fail
        refine (markChange_any (bothL a0 a1).1 _ _ bs8 1 _ _ R8.out N8.out (by have := HVB.out; omega)).mono ?_
        rintro e w17 ⟨hk17, hR17, _, hK17⟩
        have MH : ∀ w', Below w17.heap.size w17 w' → Calls Try.prog 12 #[.agg #[.slice Ad8 (bothL a0 a1).1.comes.length cap8, .slice Ae8 (bothL a0 a1).1.goes.length cape8], .int .i64 1] w' (Held (1 + cntC (bothL a0 a1).1) w') := fun w' hb => heldChange_any (bothL a0 a1).1 _ _ bs8 1 w' (changeK_good.below hR17 hb) (by have := HVB.out; omega)
        obtain ⟨n, hn⟩ : ∃ n : Nat, n = 1 + cntC (bothL a0 a1).1 := ⟨_, rfl⟩
        rw [← hn] at hk17
        rw [← hn] at MH
        subst hk17
        have hn0 : ¬ ((n : Int) < 0) := by omega
        clear hn
        have HMH := Lib.hid MH
        clear MH hR17
        replace y00 := hK17.cell (by intro hb; have h1 : w.heap.size ∈ bs8 := hb; have := L8.out _ h1; have := U8.out _ h1; have := Q0.out; have := QT.out; have := Q2.out; have := Q3.out; have := Q4.out; omega) y00
        replace y01 := hK17.cell (by intro hb; have h1 : w.heap.size ∈ bs8 := hb; have := L8.out _ h1; have := U8.out _ h1; have := Q0.out; have := QT.out; have := Q2.out; have := Q3.out; have := Q4.out; omega) y01
        replace y10 := hK17.cell (by intro hb; have h1 : w.heap.size + 1 ∈ bs8 := hb; have := L8.out _ h1; have := U8.out _ h1; have := Q0.out; have := QT.out; have := Q2.out; have := Q3.out; have := Q4.out; omega) y10
        replace y11 := hK17.cell (by intro hb; have h1 : w.heap.size + 1 ∈ bs8 := hb; have := L8.out _ h1; have := U8.out _ h1; have := Q0.out; have := QT.out; have := Q2.out; have := Q3.out; have := Q4.out; omega) y11
        replace z0 := hK17.cell (by intro hb; have h1 : t5 ∈ bs8 := hb; have := L8.out _ h1; have := U8.out _ h1; have := Q0.out; have := QT.out; have := Q2.out; have := Q3.out; have := Q4.out; omega) z0
        replace z1 := hK17.cell (by intro hb; have h1 : t5 ∈ bs8 := hb; have := L8.out _ h1; have := U8.out _ h1; have := Q0.out; have := QT.out; have := Q2.out; have := Q3.out; have := Q4.out; omega) z1
        replace g0 := hK17.cell (by intro hb; have h1 : w8.heap.size ∈ bs8 := hb; have := L8.out _ h1; have := U8.out _ h1; have := Q0.out; have := QT.out; have := Q2.out; have := Q3.out; have := Q4.out; omega) g0
        replace g1 := hK17.cell (by intro hb; have h1 : w8.heap.size ∈ bs8 := hb; have := L8.out _ h1; have := U8.out _ h1; have := Q0.out; have := QT.out; have := Q2.out; have := Q3.out; have := Q4.out; omega) g1
        replace R5 := Lib.hid (Good.kept changeK_good R5.out hK17 (fun b hb hc => by have := U5.out _ hb; have := L8.out _ hc; have := U8.out _ hc; have := Q0.out; have := QT.out; have := Q2.out; have := Q3.out; have := Q4.out; omega))
        replace Z6 := Lib.hid (Nat.le_trans Z6.out hK17.size)
        replace Z7 := Lib.hid (Nat.le_trans Z7.out hK17.size)
        clear R8 N8
        have B17 := B16.trans (hK17.below (fun b hb => by have := L8.out _ hb; have := U8.out _ hb; have := B16.size; have := Q0.out; have := QT.out; have := Q2.out; have := Q3.out; have := Q4.out; omega) B16.size)
        go_wp2_with fail
        refine (HMH.out _ (Below.refl _ _)).mono ?_
        rintro e w18 ⟨rfl, hb18⟩
        have B18 := B17.trans (hb18.mono B17.size)
        replace y00 := cell_later hb18 y00
        replace y01 := cell_later hb18 y01
        replace y10 := cell_later hb18 y10
        replace y11 := cell_later hb18 y11
        replace z0 := cell_later hb18 z0
        replace z1 := cell_later hb18 z1
        replace g0 := cell_later hb18 g0
        replace g1 := cell_later hb18 g1
        replace R5 := Lib.hid (changeK_good.below R5.out hb18)
        replace Z6 := Lib.hid (Nat.le_trans Z6.out hb18.size)
        replace Z7 := Lib.hid (Nat.le_trans Z7.out hb18.size)
        have HM : Hid (Below w17.heap.size w17 w18) := Lib.hid hb18
        go_upto_region 31 with fail
        go_cut [15, 16] (fun s15 s16 wx => ∃ (t : Nat) (X1 X2 : Option Addr) (n1 n2 : Nat) (bb : List Nat), s15 = .pointer (some ⟨t, 0, none⟩) ∧ s16 = .bool (bothL a0 a1).2 ∧ wx.cell? ⟨t, 0, none⟩ = some (.slice X1 (bothL a0 a1).1.comes.length n1) ∧ wx.cell? ⟨t, 1, none⟩ = some (.slice X2 (bothL a0 a1).1.goes.length n2) ∧ changeK wx [.slice X1 (bothL a0 a1).1.comes.length n1, .slice X2 (bothL a0 a1).1.goes.length n2] (bothL a0 a1).1 bb ∧ New w18.heap.size wx bb ∧ Below w18.heap.size w18 wx ∧ t < wx.heap.size)
        case first =>
          clear z0
          clear z1
          clear g0
          clear g1
          have C0 : Below w18.heap.size w18 w18 := Below.refl _ _
          have HNY0 : Hid (w.heap.size < w18.heap.size) := Lib.hid (lt_of_cell y00)
          have HNY1 : Hid (w.heap.size + 1 < w18.heap.size) := Lib.hid (lt_of_cell y10)
          go_region_held3 (fun w' => w'.cell? ⟨w.heap.size, 0, none⟩ = some (.slice Adq0 a0.comes.length capq0) ∧ w'.cell? ⟨w.heap.size, 1, none⟩ = some (.slice Aeq0 a0.goes.length capeq0) ∧ w'.cell? ⟨w.heap.size + 1, 0, none⟩ = some (.slice Adq1 a1.comes.length capq1) ∧ w'.cell? ⟨w.heap.size + 1, 1, none⟩ = some (.slice Aeq1 a1.goes.length capeq1)) (first | go_keep | exact ⟨y00, y01, y10, y11⟩ | (refine ⟨?_, ?_, ?_, ?_⟩ <;> go_simp))
            (first
              | (go_at_call 8; have hBB := B18.trans (Below.mono (C0.drew) B18.size); have hz := HT0.out _ hBB; (with_reducible refine Calls.mono hz ?_); clear hz hBB; rintro e w19 ⟨hb19, cs19, bs19, rfl, hR19, hN19⟩; obtain ⟨Ad19, cap19, Ae19, cape19, rfl⟩ := change_cells hR19; clear hN19; have C19 := Below.trans (C0.drew) (hb19.mono (Below.size (C0.drew))); replace y00 := cell_later hb19 y00; replace y01 := cell_later hb19 y01; replace y10 := cell_later hb19 y10; replace y11 := cell_later hb19 y11; (try (replace HT := Lib.hid (blk_later hb19 HT.out); replace u0 : _ = some (Value.slice none 0 0) := blk_cell (o := 0) HT.out; replace u1 : _ = some (Value.slice none 0 0) := blk_cell (o := 1) HT.out; replace uf0 := blk_frozen (o := 0) HT.out; replace uf1 := blk_frozen (o := 1) HT.out)))
              | (go_at_call 8; have hAp : Below w18.heap.size w18 (w18.alloc (.cells #[.slice none 0 0, .slice none 0 0] 28)).drew := ((Below.refl _ _).alloc (Nat.le_refl _) _).drew; have hAt : Below w18.heap.size w18 (w18.alloc (.cells #[.slice none 0 0, .slice none 0 0] 28)).drew := (C0.alloc C0.size _).drew; have hBB := B18.trans (Below.mono hAt B18.size); have hz := HT0.out _ hBB; (with_reducible refine Calls.mono hz ?_); clear hz hBB; rintro e w19 ⟨hb19, cs19, bs19, rfl, hR19, hN19⟩; obtain ⟨Ad19, cap19, Ae19, cape19, rfl⟩ := change_cells hR19; clear hN19; have C19 := Below.trans hAt (hb19.mono (Below.size hAt)); replace y00 := cell_later hb19 (cell_later hAp y00); replace y01 := cell_later hb19 (cell_later hAp y01); replace y10 := cell_later hb19 (cell_later hAp y10); replace y11 := cell_later hb19 (cell_later hAp y11); have HT := Lib.hid (blk_later hb19 (heap_alloc_new w18 (.cells #[.slice none 0 0, .slice none 0 0] 28))); have HQT : Hid (w18.heap.size ≤ w18.heap.size) := Lib.hid (Below.size C0); have u0 : _ = some (Value.slice none 0 0) := blk_cell (o := 0) HT.out; have u1 : _ = some (Value.slice none 0 0) := blk_cell (o := 1) HT.out; have uf0 := blk_frozen (o := 0) HT.out; have uf1 := blk_frozen (o := 1) HT.out; have hq0 : ¬ (w.heap.size = w18.heap.size) := (by have := HNY0.out; have := HQT.out; omega); have hq0r : ¬ (w18.heap.size = w.heap.size) := (by have := HNY0.out; have := HQT.out; omega); have hq1 : ¬ (w.heap.size + 1 = w18.heap.size) := (by have := HNY1.out; have := HQT.out; omega); have hq1r : ¬ (w18.heap.size = w.heap.size + 1) := (by have := HNY1.out; have := HQT.out; omega); clear hAp hAt)
              | (go_at_call 8; have hBB := B18.trans (Below.mono (C19) B18.size); have hz := HT1.out _ hBB; (with_reducible refine Calls.mono hz ?_); clear hz hBB; rintro e w20 ⟨hb20, cs20, bs20, rfl, hR20, hN20⟩; obtain ⟨Ad20, cap20, Ae20, cape20, rfl⟩ := change_cells hR20; clear hN20; have C20 := Below.trans (C19) (hb20.mono (Below.size (C19))); replace y00 := cell_later hb20 y00; replace y01 := cell_later hb20 y01; replace y10 := cell_later hb20 y10; replace y11 := cell_later hb20 y11; (try (replace HT := Lib.hid (blk_later hb20 HT.out); replace u0 : _ = some (Value.slice none 0 0) := blk_cell (o := 0) HT.out; replace u1 : _ = some (Value.slice none 0 0) := blk_cell (o := 1) HT.out; replace uf0 := blk_frozen (o := 0) HT.out; replace uf1 := blk_frozen (o := 1) HT.out)); replace hR19 := changeK_good.below hR19 hb20)
              | (go_at_call 8; have hAp : Below w19.heap.size w19 (w19.alloc (.cells #[.slice none 0 0, .slice none 0 0] 28)) := ((Below.refl _ _).alloc (Nat.le_refl _) _); have hAt : Below w18.heap.size w18 (w19.alloc (.cells #[.slice none 0 0, .slice none 0 0] 28)) := (C19.alloc C19.size _); have hBB := B18.trans (Below.mono hAt B18.size); have hz := HT1.out _ hBB; (with_reducible refine Calls.mono hz ?_); clear hz hBB; rintro e w20 ⟨hb20, cs20, bs20, rfl, hR20, hN20⟩; obtain ⟨Ad20, cap20, Ae20, cape20, rfl⟩ := change_cells hR20; clear hN20; have C20 := Below.trans hAt (hb20.mono (Below.size hAt)); replace y00 := cell_later hb20 (cell_later hAp y00); replace y01 := cell_later hb20 (cell_later hAp y01); replace y10 := cell_later hb20 (cell_later hAp y10); replace y11 := cell_later hb20 (cell_later hAp y11); have HT := Lib.hid (blk_later hb20 (heap_alloc_new w19 (.cells #[.slice none 0 0, .slice none 0 0] 28))); have HQT : Hid (w18.heap.size ≤ w19.heap.size) := Lib.hid (Below.size C19); have u0 : _ = some (Value.slice none 0 0) := blk_cell (o := 0) HT.out; have u1 : _ = some (Value.slice none 0 0) := blk_cell (o := 1) HT.out; have uf0 := blk_frozen (o := 0) HT.out; have uf1 := blk_frozen (o := 1) HT.out; have hq0 : ¬ (w.heap.size = w19.heap.size) := (by have := HNY0.out; have := HQT.out; omega); have hq0r : ¬ (w19.heap.size = w.heap.size) := (by have := HNY0.out; have := HQT.out; omega); have hq1 : ¬ (w.heap.size + 1 = w19.heap.size) := (by have := HNY1.out; have := HQT.out; omega); have hq1r : ¬ (w19.heap.size = w.heap.size + 1) := (by have := HNY1.out; have := HQT.out; omega); replace hR19 := changeK_good.below (changeK_good.below hR19 hAp) hb20; clear hAp hAt)
              | (go_at_call 9; have hBB := B18.trans (Below.mono (C20) B18.size); have hz := changeBoth_impl a0 a1 _ _ _ _ bs19 bs20 _ hR19 hR20; (with_reducible refine Calls.mono hz ?_); clear hz hBB; rintro e w21 ⟨hb21, cs21, bs21, rfl, hR21, hN21⟩; obtain ⟨Ad21, cap21, Ae21, cape21, rfl⟩ := change_cells hR21; have C21 := Below.trans (C20) (hb21.mono (Below.size (C20))); replace y00 := cell_later hb21 y00; replace y01 := cell_later hb21 y01; replace y10 := cell_later hb21 y10; replace y11 := cell_later hb21 y11; (try (replace HT := Lib.hid (blk_later hb21 HT.out); replace u0 : _ = some (Value.slice none 0 0) := blk_cell (o := 0) HT.out; replace u1 : _ = some (Value.slice none 0 0) := blk_cell (o := 1) HT.out; replace uf0 := blk_frozen (o := 0) HT.out; replace uf1 := blk_frozen (o := 1) HT.out)))
              | (go_at_call 9; have hAp : Below w20.heap.size w20 (w20.alloc (.cells #[.slice none 0 0, .slice none 0 0] 28)) := ((Below.refl _ _).alloc (Nat.le_refl _) _); have hAt : Below w18.heap.size w18 (w20.alloc (.cells #[.slice none 0 0, .slice none 0 0] 28)) := (C20.alloc C20.size _); have hBB := B18.trans (Below.mono hAt B18.size); have hz := changeBoth_impl a0 a1 _ _ _ _ bs19 bs20 _ (changeK_good.below hR19 hAp) (changeK_good.below hR20 hAp); (with_reducible refine Calls.mono hz ?_); clear hz hBB; rintro e w21 ⟨hb21, cs21, bs21, rfl, hR21, hN21⟩; obtain ⟨Ad21, cap21, Ae21, cape21, rfl⟩ := change_cells hR21; have C21 := Below.trans hAt (hb21.mono (Below.size hAt)); replace y00 := cell_later hb21 (cell_later hAp y00); replace y01 := cell_later hb21 (cell_later hAp y01); replace y10 := cell_later hb21 (cell_later hAp y10); replace y11 := cell_later hb21 (cell_later hAp y11); have HT := Lib.hid (blk_later hb21 (heap_alloc_new w20 (.cells #[.slice none 0 0, .slice none 0 0] 28))); have HQT : Hid (w18.heap.size ≤ w20.heap.size) := Lib.hid (Below.size C20); have u0 : _ = some (Value.slice none 0 0) := blk_cell (o := 0) HT.out; have u1 : _ = some (Value.slice none 0 0) := blk_cell (o := 1) HT.out; have uf0 := blk_frozen (o := 0) HT.out; have uf1 := blk_frozen (o := 1) HT.out; have hq0 : ¬ (w.heap.size = w20.heap.size) := (by have := HNY0.out; have := HQT.out; omega); have hq0r : ¬ (w20.heap.size = w.heap.size) := (by have := HNY0.out; have := HQT.out; omega); have hq1 : ¬ (w.heap.size + 1 = w20.heap.size) := (by have := HNY1.out; have := HQT.out; omega); have hq1r : ¬ (w20.heap.size = w.heap.size + 1) := (by have := HNY1.out; have := HQT.out; omega); clear hAp hAt))
          all_goals
            obtain ⟨d1, d2, rfl, hC, hD⟩ := change_parts hR21
            first
              | (have hE := cut_early (c := (bothL a0 a1).1) HT.out C21 (HQT.out) hC hD)
              | (have hE := cut_late (ty := 28) (c := (bothL a0 a1).1) C21 C21.size hC hD)
            obtain ⟨E1, E2, E3, E4, E5, E6⟩ := hE
            have E7 := E6 w18.heap.size (hN21.mono (by first | exact C20.size | (have := C20.size; simp; omega)))
            clear hC hD hR21
            go_wp2_with fail
            go_meet
            exact ⟨_, _, _, _, _, _, rfl, rfl, E1, E2, E3, E7, E4, E5⟩
        case rest =>
          obtain ⟨t21, Ad21, Ae21, cap21, cape21, bs21, rfl, rfl, g0t, g1t, hR21, hN21, hq21, ht21⟩ := hcut
          obtain ⟨w21, hw21⟩ : ∃ W, W = wc := ⟨wc, rfl⟩
          subst hw21
          have B21 := B18.trans (hq21.mono B18.size)
          replace y00 := cell_later hq21 y00
          replace y01 := cell_later hq21 y01
          replace y10 := cell_later hq21 y10
          replace y11 := cell_later hq21 y11
          replace z0 := cell_later hq21 z0
          replace z1 := cell_later hq21 z1
          replace g0 := cell_later hq21 g0
          replace g1 := cell_later hq21 g1
          replace R5 := Lib.hid (changeK_good.below R5.out hq21)
          replace Z6 := Lib.hid (Nat.le_trans Z6.out hq21.size)
          replace Z7 := Lib.hid (Nat.le_trans Z7.out hq21.size)
          replace HM := Lib.hid (HM.out.trans (hq21.mono HM.out.size))
          have hR21' := Lib.hid hR21
          clear hR21 hN21
          have R21 := hR21'
          clear hR21'
          go_wp2_with fail
          refine (eqChange_same (bothL a0 a1).1 _ _ _ _ bs21 bs5 _ R21.out R5.out).mono ?_
          rintro e w22 ⟨rfl, hc22⟩
          clear R5 R21
          have hb22 := hc22
          have B22 := B21.trans (hb22.mono B21.size)
          replace y00 := cell_later hb22 y00
          replace y01 := cell_later hb22 y01
          replace y10 := cell_later hb22 y10
          replace y11 := cell_later hb22 y11
          replace z0 := cell_later hb22 z0
          replace z1 := cell_later hb22 z1
          replace g0 := cell_later hb22 g0
          replace g1 := cell_later hb22 g1
          replace Z6 := Lib.hid (Nat.le_trans Z6.out hb22.size)
          replace Z7 := Lib.hid (Nat.le_trans Z7.out hb22.size)
          replace HM := Lib.hid (HM.out.trans (hb22.mono HM.out.size))
          go_wp2_with fail
          refine (HMH.out _ HM.out).mono ?_
          rintro e w23 ⟨rfl, hb23⟩
          have B23 := B22.trans (hb23.mono B22.size)
          go_wp2
          go_ret
          exact ⟨rfl, B23⟩

end Go.Proofs.Ytlmimajgifidhaa
