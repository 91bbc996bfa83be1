/- The walk of the law FnExactChangeDo. -/
import Derived.Laws.EntriesVeiled
import Derived.Deep.RegionHeld3
import Derived.Deep.RegionWith
import Derived.BigQuiet
import Derived.Deep.DrawnRows
import Derived.WalkKit
import Derived.WalkSpells
import Derived.WalkLawsBesides
import Derived.Lib.Hide
import Derived.Test.YtgpkbmfhbicceaaDoS
import Derived.Test.YtgpkbmfhbicceaaDoI
import Derived.Test.YtgpkbmfhbicceaaResB
import Derived.Test.YtgpkbmfhbicceaaMarkC
import Derived.Test.YtgpkbmfhbicceaaHChange
namespace Go.Proofs.Ytgpkbmfhbicceaa
open Go.RowKit D
set_option linter.unusedVariables false
attribute [local go_sem ↓] Go.wp_at_zero Go.wp_at_succ

set_option maxHeartbeats 4000000 in
theorem exactChangeDo_walk (a0 : List A) (c0 : Value) (p0 : List Nat) (a1 : Ch) (c10 c11 : Value) (p1 : List Nat) (w : World) (h0 : atomsK w [c0] a0 p0) (h1 : changeK w [c10, c11] a1 p1) :
    Calls Try.prog 5 #[c0, .agg #[c10, c11]] w fun e w' => e = .returned (.bool true) ∧ Below w.heap.size w w' := by
  obtain ⟨Adq0, capq0, rfl, hlq0, hmq0⟩ := sliceK_form h0
  obtain ⟨Adq1, capq1, Aeq1, capeq1, rfl, rfl⟩ := change_cells2 h1
  have sz0 := fun l (g0 : 0 ≤ l) (g1 : l ≤ 1048576) w' (hb : Below w.heap.size w w') => szAtomS_any a0 _ p0 l w' (atomsK_good.below h0 hb) g0 g1
  have to0 := fun (hl : bulkAs a0 ≤ 1048576) w' (hb : Below w.heap.size w w') => toAtomS_any a0 _ p0 w' (atomsK_good.below h0 hb) hl
  have sz1 := fun l (g0 : 0 ≤ l) (g1 : l ≤ 1048576) w' (hb : Below w.heap.size w w') => szChange_any a1 _ _ p1 l w' (changeK_good.below h1 hb) g0 g1
  have to1 := fun (hl : bulkC a1 ≤ 1048576) w' (hb : Below w.heap.size w w') => toChange_b a1 _ _ p1 w' (changeK_good.below h1 hb) hl
  have lm0 := nat_ge_max (Nat.le_trans hlq0 hmq0)
  have hVB := doL_bound a0 a1
  clear h0 h1
  have B0 := (Below.refl w.heap.size w).alloc (Nat.le_refl _) (.cells #[.slice Adq1 a1.comes.length capq1, .slice Aeq1 a1.goes.length capeq1] 48)
  go_enter Try.func5, Try.ntmps5
  go_wp2_with fail
  refine (sz0 _ (by omega) (by omega) _ B0).mono ?_
  rintro e w1 ⟨hb1, r1, rfl, hr1⟩
  have B1 := B0.trans (hb1.mono B0.size)
  have y10 : w1.cell? ⟨w.heap.size, 0, none⟩ = some (.slice Adq1 a1.comes.length capq1) := cell_later hb1 (by go_simp)
  have y11 : w1.cell? ⟨w.heap.size, 1, none⟩ = some (.slice Aeq1 a1.goes.length capeq1) := cell_later hb1 (by go_simp)
  clear sz0
  rcases hr1 with rfl | ⟨hr1a, hr1b⟩
  · go_wp2
    go_ret
    exact ⟨rfl, B1⟩
  · skip
    go_wp2_with fail
    refine (sz1 _ (by omega) (by omega) _ B1).mono ?_
    rintro e w2 ⟨hb2, r2, rfl, hr2⟩
    have B2 := B1.trans (hb2.mono B1.size)
    replace y10 := cell_later hb2 y10
    replace y11 := cell_later hb2 y11
    clear sz1
    rcases hr2 with rfl | ⟨hr2a, hr2b⟩
    · go_wp2
      go_ret
      exact ⟨rfl, B2⟩
    · skip
      have T0 := to0 (by omega)
      have HT0 := Lib.hid T0
      have HB0 : Hid (bulkAs a0 ≤ 1048576) := Lib.hid (by omega)
      have T1 := to1 (by omega)
      have HT1 := Lib.hid T1
      have HB1 : Hid (bulkC a1 ≤ 1048576) := Lib.hid (by omega)
      have HVB := Lib.hid hVB
      clear hVB to0 T0 to1 T1 hr1b hr2b
      go_wp2_with fail
      go_region_held3 (fun w' => w'.cell? ⟨w.heap.size, 0, none⟩ = some (.slice Adq1 a1.comes.length capq1) ∧ w'.cell? ⟨w.heap.size, 1, none⟩ = some (.slice Aeq1 a1.goes.length capeq1)) (first | go_keep | exact ⟨y10, y11⟩)
        (first
          | (go_at_call 10; refine (HT0.out _ B2.drew).mono ?_; rintro e w3 ⟨hb3, v3, bs3, rfl, hR3, hN3⟩; obtain ⟨Ad3, cap3, rfl, _, _⟩ := sliceK_form hR3; have B3 : Below w.heap.size w w3 := B2.drew.trans (hb3.mono B2.drew.size); replace y10 := cell_later hb3 y10; replace y11 := cell_later hb3 y11)
          | (go_at_call 25; refine (HT1.out _ B3).mono ?_; rintro e w4 ⟨hb4, cs4, bs4, rfl, hR4, hN4⟩; obtain ⟨Ad4, cap4, Ae4, cape4, rfl⟩ := change_cells hR4; have B4 : Below w.heap.size w w4 := B3.trans (hb4.mono B3.size); replace y10 := cell_later hb4 y10; replace y11 := cell_later hb4 y11; replace hR3 := atomsK_good.below hR3 hb4)
          | (go_at_call 24; refine (changeDo_spec a0 a1 _ _ _ bs3 bs4 _ hR3 hR4).mono ?_; rintro e w5 ⟨hb5, v5, bs5, rfl, hR5⟩; obtain ⟨Ad5, cap5, rfl, _, _⟩ := sliceK_form hR5; have B5 := B4.trans (hb5.mono B4.size); replace y10 := cell_later hb5 y10; replace y11 := cell_later hb5 y11))
      have hq5 : Below w2.heap.size w2 w5 := below_chain3 (w := w2) hb3 hb4 hb5
      clear hR3 hN3
      clear hR4 hN4
      have U5 := Lib.hid (atomsK_good.lt hR5)
      have R5 := Lib.hid hR5
      clear hR5
      have Q0 : Hid (w.heap.size + 1 ≤ w5.heap.size) := Lib.hid (by have := B5.size; have h1 : w.heap.size < w5.heap.size := lt_of_cell y11;  omega)
      go_wp2_with fail
      refine (HT0.out _ B5).mono ?_
      rintro e w6 ⟨hc6, v6, bs6, rfl, hR6, hN6⟩
      obtain ⟨Ad6, cap6, rfl, _, _⟩ := sliceK_form hR6
      have hb6 := hc6
      have B6 := B5.trans (hb6.mono B5.size)
      replace y10 := cell_later hb6 y10
      replace y11 := cell_later hb6 y11
      replace R5 := Lib.hid (atomsK_good.below R5.out hb6)
      have Q1 : Hid (w5.heap.size ≤ w6.heap.size) := Lib.hid hb6.size
      have L6 : Hid (∀ b ∈ bs6, w5.heap.size ≤ b) := Lib.hid fun b hb => (hN6.own b hb).1
      have U6 := Lib.hid (atomsK_good.lt hR6)
      have N6 := Lib.hid hN6
      have R6 := Lib.hid hR6
      clear hR6 hN6
      have Z6 : Hid (w5.heap.size ≤ w6.heap.size) := Lib.hid hb6.size
      go_wp2_with fail
      refine (HT1.out _ B6).mono ?_
      rintro e w7 ⟨hc7, cs7, bs7, rfl, hR7, hN7⟩
      obtain ⟨Ad7, cap7, Ae7, cape7, rfl⟩ := change_cells hR7
      have hb7 := hc7
      have B7 := B6.trans (hb7.mono B6.size)
      replace y10 := cell_later hb7 y10
      replace y11 := cell_later hb7 y11
      replace R5 := Lib.hid (atomsK_good.below R5.out hb7)
      replace R6 := Lib.hid (atomsK_good.below R6.out hb7)
      replace N6 := Lib.hid (N6.out.below hb7)
      replace Z6 := Lib.hid (Nat.le_trans Z6.out hb7.size)
      have Q2 : Hid (w6.heap.size ≤ w7.heap.size) := Lib.hid hb7.size
      have L7 : Hid (∀ b ∈ bs7, w6.heap.size ≤ b) := Lib.hid fun b hb => (hN7.own b hb).1
      have U7 := Lib.hid (changeK_good.lt hR7)
      have N7 := Lib.hid hN7
      have R7 := Lib.hid hR7
      clear hR7 hN7
      have Z7 : Hid (w6.heap.size ≤ w7.heap.size) := Lib.hid hb7.size
      go_wp2_with fail
      have hA7 : Below w7.heap.size w7 (w7.alloc (.cells #[.slice Ad7 a1.comes.length cap7, .slice Ae7 a1.goes.length cape7] 42)) := (Below.refl _ _).alloc (Nat.le_refl _) _
      refine (changeDo_impl a0 a1 _ _ _ bs6 bs7 _ (atomsK_good.below R6.out hA7) (changeK_good.below R7.out hA7)).mono ?_
      rintro e w8 ⟨hc8, v8, bs8, rfl, hR8, hN8⟩
      obtain ⟨Ad8, cap8, rfl, _, _⟩ := sliceK_form hR8
      have hb8 : Below w7.heap.size w7 w8 := hA7.trans (hc8.mono hA7.size)
      have B8 := B7.trans (hb8.mono B7.size)
      replace y10 := cell_later hb8 y10
      replace y11 := cell_later hb8 y11
      replace R5 := Lib.hid (atomsK_good.below R5.out hb8)
      replace R6 := Lib.hid (atomsK_good.below R6.out hb8)
      replace R7 := Lib.hid (changeK_good.below R7.out hb8)
      replace N6 := Lib.hid (N6.out.below hb8)
      replace N7 := Lib.hid (N7.out.below hb8)
      replace Z6 := Lib.hid (Nat.le_trans Z6.out hb8.size)
      replace Z7 := Lib.hid (Nat.le_trans Z7.out hb8.size)
      have x10 : w8.cell? ⟨w7.heap.size, 0, none⟩ = some (.slice Ad7 a1.comes.length cap7) := cell_later hc8 (by go_simp)
      have x11 : w8.cell? ⟨w7.heap.size, 1, none⟩ = some (.slice Ae7 a1.goes.length cape7) := cell_later hc8 (by go_simp)
      have Q3 : Hid (w7.heap.size + 1 ≤ w8.heap.size) := Lib.hid (by have := hc8.size; simp at this; omega)
      have L8 : Hid (∀ b ∈ bs8, w7.heap.size + 1 ≤ b) := Lib.hid fun b hb => by have := (hN8.own b hb).1; simp at this; omega
      have U8 := Lib.hid (atomsK_good.lt hR8)
      have N8 := Lib.hid hN8
      have R8 := Lib.hid hR8
      clear hR8 hN8
      go_wp2_with fail
      refine (eqAtomS_same (doL a0 a1) _ _ bs8 bs5 _ R8.out R5.out).mono ?_
      rintro e w9 ⟨rfl, hc9⟩
      have hb9 := hc9
      have B9 := B8.trans (hb9.mono B8.size)
      replace y10 := cell_later hb9 y10
      replace y11 := cell_later hb9 y11
      replace x10 := cell_later hb9 x10
      replace x11 := cell_later hb9 x11
      replace R5 := Lib.hid (atomsK_good.below R5.out hb9)
      replace R6 := Lib.hid (atomsK_good.below R6.out hb9)
      replace R7 := Lib.hid (changeK_good.below R7.out hb9)
      replace R8 := Lib.hid (atomsK_good.below R8.out hb9)
      replace N6 := Lib.hid (N6.out.below hb9)
      replace N7 := Lib.hid (N7.out.below hb9)
      replace N8 := Lib.hid (N8.out.below hb9)
      replace Z6 := Lib.hid (Nat.le_trans Z6.out hb9.size)
      replace Z7 := Lib.hid (Nat.le_trans Z7.out hb9.size)
      go_wp2_with fail
      refine (HT0.out _ B9).mono ?_
      rintro e w10 ⟨hb10, v10, bs10, rfl, hR10, hN10⟩
      obtain ⟨Ad10, cap10, rfl, _, _⟩ := sliceK_form hR10
      have B10 := B9.trans (hb10.mono B9.size)
      replace y10 := cell_later hb10 y10
      replace y11 := cell_later hb10 y11
      replace x10 := cell_later hb10 x10
      replace x11 := cell_later hb10 x11
      replace R5 := Lib.hid (atomsK_good.below R5.out hb10)
      replace R6 := Lib.hid (atomsK_good.below R6.out hb10)
      replace R7 := Lib.hid (changeK_good.below R7.out hb10)
      replace R8 := Lib.hid (atomsK_good.below R8.out hb10)
      replace N6 := Lib.hid (N6.out.below hb10)
      replace N7 := Lib.hid (N7.out.below hb10)
      replace N8 := Lib.hid (N8.out.below hb10)
      replace Z6 := Lib.hid (Nat.le_trans Z6.out hb10.size)
      replace Z7 := Lib.hid (Nat.le_trans Z7.out hb10.size)
      go_wp2_with fail
      refine (eqAtomS_same a0 _ _ bs6 bs10 _ R6.out hR10).mono ?_
      rintro e w11 ⟨rfl, hb11⟩
      have B11 := B10.trans (hb11.mono B10.size)
      clear hR10 hN10
      replace y10 := cell_later hb11 y10
      replace y11 := cell_later hb11 y11
      replace x10 := cell_later hb11 x10
      replace x11 := cell_later hb11 x11
      replace R5 := Lib.hid (atomsK_good.below R5.out hb11)
      replace R6 := Lib.hid (atomsK_good.below R6.out hb11)
      replace R7 := Lib.hid (changeK_good.below R7.out hb11)
      replace R8 := Lib.hid (atomsK_good.below R8.out hb11)
      replace N6 := Lib.hid (N6.out.below hb11)
      replace N7 := Lib.hid (N7.out.below hb11)
      replace N8 := Lib.hid (N8.out.below hb11)
      replace Z6 := Lib.hid (Nat.le_trans Z6.out hb11.size)
      replace Z7 := Lib.hid (Nat.le_trans Z7.out hb11.size)
      go_wp2_with fail
      go_region_held3 (fun w' => w'.cell? ⟨w.heap.size, 0, none⟩ = some (.slice Adq1 a1.comes.length capq1) ∧ w'.cell? ⟨w.heap.size, 1, none⟩ = some (.slice Aeq1 a1.goes.length capeq1) ∧ w'.cell? ⟨w7.heap.size, 0, none⟩ = some (.slice Ad7 a1.comes.length cap7) ∧ w'.cell? ⟨w7.heap.size, 1, none⟩ = some (.slice Ae7 a1.goes.length cape7)) (first | go_keep | exact ⟨y10, y11, x10, x11⟩)
        (first
          | (go_at_call 25; refine (HT1.out _ B11.drew).mono ?_; rintro e w12 ⟨hb12, cs12, bs12, rfl, hR12, hN12⟩; obtain ⟨Ad12, cap12, Ae12, cape12, rfl⟩ := change_cells hR12; have hc12 : Below w11.heap.size w11 w12 := Below.trans (Below.drew (Below.refl _ _)) hb12; replace y10 := cell_later hb12 y10; replace y11 := cell_later hb12 y11; replace x10 := cell_later hb12 x10; replace x11 := cell_later hb12 x11)
          | (go_at_call 20; refine (eqChange_same a1 _ _ _ _ bs7 _ _ (changeK_good.below R7.out hc12) hR12).mono ?_; rintro e w13 ⟨rfl, hb13⟩; replace y10 := cell_later hb13 y10; replace y11 := cell_later hb13 y11; replace x10 := cell_later hb13 x10; replace x11 := cell_later hb13 x11))
      have hq13 : Below w11.heap.size w11 w13 := hc12.trans (hb13.mono hc12.size)
      have B13 := B11.trans (hq13.mono B11.size)
      clear hR12 hN12
      replace R5 := Lib.hid (atomsK_good.below R5.out hq13)
      replace R6 := Lib.hid (atomsK_good.below R6.out hq13)
      replace R7 := Lib.hid (changeK_good.below R7.out hq13)
      replace R8 := Lib.hid (atomsK_good.below R8.out hq13)
      replace N6 := Lib.hid (N6.out.below hq13)
      replace N7 := Lib.hid (N7.out.below hq13)
      replace N8 := Lib.hid (N8.out.below hq13)
      replace Z6 := Lib.hid (Nat.le_trans Z6.out hq13.size)
      replace Z7 := Lib.hid (Nat.le_trans Z7.out hq13.size)
      go_wp2_with fail
      refine (markAtomS_any a0 _ bs6 1 _ _ R6.out N6.out (by have := HB0.out; have := HB1.out; have := cntAs_le a0;  omega)).mono ?_
      rintro e w14 ⟨hk14, _, _, hK14⟩
      obtain ⟨k14, he14⟩ : ∃ n : Nat, n = 1 + sumL cntA a0 := ⟨_, rfl⟩
      rw [← he14] at hk14
      have kbk14 : Hid (k14 ≤ 10000000) := Lib.hid (by have := HB0.out; have := HB1.out; have := cntAs_le a0;  omega)
      have knk14 : ¬ ((k14 : Int) < 0) := by omega
      clear he14
      subst hk14
      replace y10 := hK14.cell (by intro hb; have h1 : w.heap.size ∈ bs6 := hb; have := L6.out _ h1; have := U6.out _ h1; have := Q0.out; have := Q1.out; have := Q2.out; have := Q3.out; omega) y10
      replace y11 := hK14.cell (by intro hb; have h1 : w.heap.size ∈ bs6 := hb; have := L6.out _ h1; have := U6.out _ h1; have := Q0.out; have := Q1.out; have := Q2.out; have := Q3.out; omega) y11
      replace x10 := hK14.cell (by intro hb; have h1 : w7.heap.size ∈ bs6 := hb; have := L6.out _ h1; have := U6.out _ h1; have := Q0.out; have := Q1.out; have := Q2.out; have := Q3.out; omega) x10
      replace x11 := hK14.cell (by intro hb; have h1 : w7.heap.size ∈ bs6 := hb; have := L6.out _ h1; have := U6.out _ h1; have := Q0.out; have := Q1.out; have := Q2.out; have := Q3.out; omega) x11
      replace R5 := Lib.hid (Good.kept atomsK_good R5.out hK14 (fun b hb hc => by have := U5.out _ hb; have := L6.out _ hc; have := U6.out _ hc; have := Q0.out; have := Q1.out; have := Q2.out; have := Q3.out; omega))
      replace R7 := Lib.hid (Good.kept changeK_good R7.out hK14 (fun b hb hc => by have := L7.out _ hb; have := U7.out _ hb; have := L6.out _ hc; have := U6.out _ hc; have := Q0.out; have := Q1.out; have := Q2.out; have := Q3.out; omega))
      replace R8 := Lib.hid (Good.kept atomsK_good R8.out hK14 (fun b hb hc => by have := L8.out _ hb; have := U8.out _ hb; have := L6.out _ hc; have := U6.out _ hc; have := Q0.out; have := Q1.out; have := Q2.out; have := Q3.out; omega))
      replace N7 := Lib.hid (New.kept N7.out hK14 (fun b hb hc => by have := L7.out _ hb; have := U7.out _ hb; have := L6.out _ hc; have := U6.out _ hc; have := Q0.out; have := Q1.out; have := Q2.out; have := Q3.out; omega))
      replace N8 := Lib.hid (New.kept N8.out hK14 (fun b hb hc => by have := L8.out _ hb; have := U8.out _ hb; have := L6.out _ hc; have := U6.out _ hc; have := Q0.out; have := Q1.out; have := Q2.out; have := Q3.out; omega))
      replace Z6 := Lib.hid (Nat.le_trans Z6.out hK14.size)
      replace Z7 := Lib.hid (Nat.le_trans Z7.out hK14.size)
      clear R6 N6
      have B14 := B13.trans (hK14.below (fun b hb => by have := L6.out _ hb; have := U6.out _ hb; have := B13.size; have := Q0.out; have := Q1.out; have := Q2.out; have := Q3.out; omega) B13.size)
      go_wp2_with fail
      refine (markChange_any a1 _ _ bs7 k14 _ _ R7.out N7.out (by have := kbk14.out; have := HB0.out; have := HB1.out; have := cntC_le a1;  omega)).mono ?_
      rintro e w15 ⟨hk15, _, _, hK15⟩
      obtain ⟨k15, he15⟩ : ∃ n : Nat, n = k14 + cntC a1 := ⟨_, rfl⟩
      rw [← he15] at hk15
      have kbk15 : Hid (k15 ≤ 20000000) := Lib.hid (by have := kbk14.out; have := HB0.out; have := HB1.out; have := cntC_le a1;  omega)
      have knk15 : ¬ ((k15 : Int) < 0) := by omega
      clear he15
      subst hk15
      replace y10 := hK15.cell (by intro hb; have h1 : w.heap.size ∈ bs7 := hb; have := L7.out _ h1; have := U7.out _ h1; have := Q0.out; have := Q1.out; have := Q2.out; have := Q3.out; omega) y10
      replace y11 := hK15.cell (by intro hb; have h1 : w.heap.size ∈ bs7 := hb; have := L7.out _ h1; have := U7.out _ h1; have := Q0.out; have := Q1.out; have := Q2.out; have := Q3.out; omega) y11
      replace x10 := hK15.cell (by intro hb; have h1 : w7.heap.size ∈ bs7 := hb; have := L7.out _ h1; have := U7.out _ h1; have := Q0.out; have := Q1.out; have := Q2.out; have := Q3.out; omega) x10
      replace x11 := hK15.cell (by intro hb; have h1 : w7.heap.size ∈ bs7 := hb; have := L7.out _ h1; have := U7.out _ h1; have := Q0.out; have := Q1.out; have := Q2.out; have := Q3.out; omega) x11
      replace R5 := Lib.hid (Good.kept atomsK_good R5.out hK15 (fun b hb hc => by have := U5.out _ hb; have := L7.out _ hc; have := U7.out _ hc; have := Q0.out; have := Q1.out; have := Q2.out; have := Q3.out; omega))
      replace R8 := Lib.hid (Good.kept atomsK_good R8.out hK15 (fun b hb hc => by have := L8.out _ hb; have := U8.out _ hb; have := L7.out _ hc; have := U7.out _ hc; have := Q0.out; have := Q1.out; have := Q2.out; have := Q3.out; omega))
      replace N8 := Lib.hid (New.kept N8.out hK15 (fun b hb hc => by have := L8.out _ hb; have := U8.out _ hb; have := L7.out _ hc; have := U7.out _ hc; have := Q0.out; have := Q1.out; have := Q2.out; have := Q3.out; omega))
      replace Z6 := Lib.hid (Nat.le_trans Z6.out hK15.size)
      replace Z7 := Lib.hid (Nat.le_trans Z7.out hK15.size)
      clear R7 N7
      have B15 := B14.trans (hK15.below (fun b hb => by have := L7.out _ hb; have := U7.out _ hb; have := B14.size; have := Q0.out; have := Q1.out; have := Q2.out; have := Q3.out; omega) B14.size)
      clear x10 x11
      go_wp2_with fail
      refine (eqAtomS_same (doL a0 a1) _ _ bs8 bs5 _ R8.out R5.out).mono ?_
      rintro e w16 ⟨rfl, hc16⟩
      have hb16 := hc16
      have B16 := B15.trans (hb16.mono B15.size)
      replace y10 := cell_later hb16 y10
      replace y11 := cell_later hb16 y11
      replace R5 := Lib.hid (atomsK_good.below R5.out hb16)
      replace R8 := Lib.hid (atomsK_good.below R8.out hb16)
      replace N8 := Lib.hid (N8.out.below hb16)
      replace Z6 := Lib.hid (Nat.le_trans Z6.out hb16.size)
      replace Z7 := Lib.hid (Nat.le_trans Z7.out hb16.size)
      go_wp2_with fail
      refine (markAtomS_any (doL a0 a1) _ bs8 1 _ _ R8.out N8.out (by have := HVB.out; omega)).mono ?_
      rintro e w17 ⟨hk17, hR17, _, hK17⟩
      have MH : ∀ w', Below w17.heap.size w17 w' → Calls Try.prog 17 #[.slice Ad8 (doL a0 a1).length cap8, .int .i64 1] w' (Held (1 + sumL cntA (doL a0 a1)) w') := fun w' hb => heldAtomS_any (doL a0 a1) _ bs8 1 w' (atomsK_good.below hR17 hb) (by have := HVB.out; omega)
      obtain ⟨n, hn⟩ : ∃ n : Nat, n = 1 + sumL cntA (doL a0 a1) := ⟨_, rfl⟩
      rw [← hn] at hk17
      rw [← hn] at MH
      subst hk17
      have hn0 : ¬ ((n : Int) < 0) := by omega
      clear hn
      have HMH := Lib.hid MH
      clear MH hR17
      replace y10 := hK17.cell (by intro hb; have h1 : w.heap.size ∈ bs8 := hb; have := L8.out _ h1; have := U8.out _ h1; have := Q0.out; have := Q1.out; have := Q2.out; have := Q3.out; omega) y10
      replace y11 := hK17.cell (by intro hb; have h1 : w.heap.size ∈ bs8 := hb; have := L8.out _ h1; have := U8.out _ h1; have := Q0.out; have := Q1.out; have := Q2.out; have := Q3.out; omega) y11
      replace R5 := Lib.hid (Good.kept atomsK_good R5.out hK17 (fun b hb hc => by have := U5.out _ hb; have := L8.out _ hc; have := U8.out _ hc; have := Q0.out; have := Q1.out; have := Q2.out; have := Q3.out; omega))
      replace Z6 := Lib.hid (Nat.le_trans Z6.out hK17.size)
      replace Z7 := Lib.hid (Nat.le_trans Z7.out hK17.size)
      clear R8 N8
      have B17 := B16.trans (hK17.below (fun b hb => by have := L8.out _ hb; have := U8.out _ hb; have := B16.size; have := Q0.out; have := Q1.out; have := Q2.out; have := Q3.out; omega) B16.size)
      go_wp2_with fail
      refine (HMH.out _ (Below.refl _ _)).mono ?_
      rintro e w18 ⟨rfl, hb18⟩
      have B18 := B17.trans (hb18.mono B17.size)
      replace y10 := cell_later hb18 y10
      replace y11 := cell_later hb18 y11
      replace R5 := Lib.hid (atomsK_good.below R5.out hb18)
      replace Z6 := Lib.hid (Nat.le_trans Z6.out hb18.size)
      replace Z7 := Lib.hid (Nat.le_trans Z7.out hb18.size)
      have HM : Hid (Below w17.heap.size w17 w18) := Lib.hid hb18
      go_wp2_with fail
      go_region_held3 (fun w' => w'.cell? ⟨w.heap.size, 0, none⟩ = some (.slice Adq1 a1.comes.length capq1) ∧ w'.cell? ⟨w.heap.size, 1, none⟩ = some (.slice Aeq1 a1.goes.length capeq1)) (first | go_keep | exact ⟨y10, y11⟩)
        (first
          | (go_at_call 10; refine (HT0.out _ B18.drew).mono ?_; rintro e w19 ⟨hb19, v19, bs19, rfl, hR19, hN19⟩; obtain ⟨Ad19, cap19, rfl, _, _⟩ := sliceK_form hR19; have B19 : Below w.heap.size w w19 := B18.drew.trans (hb19.mono B18.drew.size); replace y10 := cell_later hb19 y10; replace y11 := cell_later hb19 y11)
          | (go_at_call 25; refine (HT1.out _ B19).mono ?_; rintro e w20 ⟨hb20, cs20, bs20, rfl, hR20, hN20⟩; obtain ⟨Ad20, cap20, Ae20, cape20, rfl⟩ := change_cells hR20; have B20 : Below w.heap.size w w20 := B19.trans (hb20.mono B19.size); replace y10 := cell_later hb20 y10; replace y11 := cell_later hb20 y11; replace hR19 := atomsK_good.below hR19 hb20)
          | (go_at_call 26; refine (changeDo_impl a0 a1 _ _ _ bs19 bs20 _ hR19 hR20).mono ?_; rintro e w21 ⟨hb21, v21, bs21, rfl, hR21, hN21⟩; obtain ⟨Ad21, cap21, rfl, _, _⟩ := sliceK_form hR21; have B21 := B20.trans (hb21.mono B20.size); replace y10 := cell_later hb21 y10; replace y11 := cell_later hb21 y11))
      have hq21 : Below w18.heap.size w18 w21 := below_chain3 (w := w18) hb19 hb20 hb21
      clear hR19 hN19
      clear hR20 hN20
      replace R5 := Lib.hid (atomsK_good.below R5.out hq21)
      replace Z6 := Lib.hid (Nat.le_trans Z6.out hq21.size)
      replace Z7 := Lib.hid (Nat.le_trans Z7.out hq21.size)
      replace HM := Lib.hid (HM.out.trans (hq21.mono HM.out.size))
      have hR21' := Lib.hid hR21
      clear hR21 hN21
      have R21 := hR21'
      clear hR21'
      go_wp2_with fail
      refine (eqAtomS_same (doL a0 a1) _ _ bs21 bs5 _ R21.out R5.out).mono ?_
      rintro e w22 ⟨rfl, hc22⟩
      clear R5 R21
      have hb22 := hc22
      have B22 := B21.trans (hb22.mono B21.size)
      replace y10 := cell_later hb22 y10
      replace y11 := cell_later hb22 y11
      replace Z6 := Lib.hid (Nat.le_trans Z6.out hb22.size)
      replace Z7 := Lib.hid (Nat.le_trans Z7.out hb22.size)
      replace HM := Lib.hid (HM.out.trans (hb22.mono HM.out.size))
      go_wp2_with fail
      refine (HMH.out _ HM.out).mono ?_
      rintro e w23 ⟨rfl, hb23⟩
      have B23 := B22.trans (hb23.mono B22.size)
      go_wp2
      go_ret
      exact ⟨rfl, B23⟩

end Go.Proofs.Ytgpkbmfhbicceaa
