/- The walk of the law FnExactAskRule. -/
import Derived.Laws.EntriesVeiled
import Derived.Deep.RegionHeld3
import Derived.Deep.RegionWith
import Derived.BigQuiet
import Derived.Deep.DrawnRows
import Derived.WalkKit
import Derived.WalkSpells
import Derived.WalkLawsBesides
import Derived.Lib.Hide
import Derived.Test.YtbcepahpehadeaaAskRS
import Derived.Test.YtbcepahpehadeaaAskRI
import Derived.Test.YtbcepahpehadeaaAskRC
import Derived.Test.YtbcepahpehadeaaCnt
import Derived.Test.YtbcepahpehadeaaMarkP
import Derived.Test.YtbcepahpehadeaaHPartS
import Derived.Test.YtbcepahpehadeaaEqP
import Derived.Test.YtbcepahpehadeaaEqR
namespace Go.Proofs.Ytbcepahpehadeaa
open Go.RowKit D
set_option linter.unusedVariables false
attribute [local go_sem ↓] Go.wp_at_zero Go.wp_at_succ

set_option maxRecDepth 100000 in
set_option maxHeartbeats 4000000 in
theorem exactAskRule_core (s0 : ByteArray) (a0 : List Pt) (c0 : Value) (p0 : List Nat) (w : World) (h0 : partsK w [c0] a0 p0) (hns0 : s0.size ≤ 1048576) :
    Calls Try.prog 4 #[.string s0, c0] w fun e w' => e = .returned (.bool true) ∧ Below w.heap.size w w' := by
  have his0 : ¬ (1048576 : Int) < (s0.size : Int) := by omega
  have HNs0 := Lib.hid hns0
  clear hns0
  obtain ⟨Adq0, capq0, rfl, hlq0, hmq0⟩ := sliceK_form h0
  have sz0 := fun l (g0 : 0 ≤ l) (g1 : l ≤ 1048576) w' (hb : Below w.heap.size w w') => szPartS_any a0 _ p0 l w' (partsK_good.below h0 hb) g0 g1
  have to0 := fun (hl : bulkPts a0 ≤ 1048576) w' (hb : Below w.heap.size w w') => toPartS_any a0 _ p0 w' (partsK_good.below h0 hb) hl
  have lm0 := nat_ge_max (Nat.le_trans hlq0 hmq0)
  have hVB := D.askV_marks s0 a0
  clear h0
  have B0 := Below.refl w.heap.size w
  go_enter Try.func4, Try.ntmps4
  go_wp2_with fail
  refine (sz0 _ (by omega) (by omega) _ B0).mono ?_
  rintro e w1 ⟨hb1, r1, rfl, hr1⟩
  have B1 := B0.trans (hb1.mono B0.size)
  clear sz0
  rcases hr1 with rfl | ⟨hr1a, hr1b⟩
  · go_wp2
    go_ret
    exact ⟨rfl, B1⟩
  · skip
    have T0 := to0 (by omega)
    have HT0 := Lib.hid T0
    have HB0 : Hid (bulkPts a0 ≤ 1048576) := Lib.hid (by omega)
    have HVB := Lib.hid hVB
    clear hVB to0 T0 hr1b
    go_wp2_with fail
    refine (HT0.out _ B1).mono ?_
    rintro e w2 ⟨hb2, v2, bs2, rfl, hR2, hN2⟩
    obtain ⟨Ad2, cap2, rfl, _, _⟩ := sliceK_form hR2
    have B2 := B1.trans (hb2.mono B1.size)
    go_wp2_with fail
    refine (askRule_spec s0 a0 _ bs2 _ hR2 (by have := HNs0.out; unfold maxLen; omega)).mono ?_
    rintro e w3 ⟨hb3, cs3, bs3, rfl, hR3⟩
    obtain ⟨Ad3, cap3, Ae3, cape3, rfl⟩ := rule_cells hR3
    have B3 := B2.trans (hb3.mono B2.size)
    have hq3 : Below w2.heap.size w2 w3 := hb3
    clear hR2 hN2
    have US := Lib.hid (ruleK_good.lt hR3)
    have RS := Lib.hid hR3
    clear hR3
    have Q0 : Hid (w.heap.size + 0 ≤ w3.heap.size) := Lib.hid (by have := B3.size;  omega)
    go_wp2_with fail
    have hA3 : Below w3.heap.size w3 (w3.alloc (.cells #[.string (askRuleV s0 a0).1.head.name, .slice Ad3 (askRuleV s0 a0).1.head.args.length cap3, .slice Ae3 (askRuleV s0 a0).1.body.length cape3] 37)) := (Below.refl _ _).alloc (Nat.le_refl _) _
    refine (HT0.out _ (B3.trans (hA3.mono B3.size))).mono ?_
    rintro e w4 ⟨hc4, v4, bs4, rfl, hR4, hN4⟩
    obtain ⟨Ad4, cap4, rfl, _, _⟩ := sliceK_form hR4
    have hb4 : Below w3.heap.size w3 w4 := hA3.trans (hc4.mono hA3.size)
    have B4 := B3.trans (hb4.mono B3.size)
    replace RS := Lib.hid (ruleK_good.below RS.out hb4)
    have z0 : w4.cell? ⟨w3.heap.size, 0, none⟩ = some (.string (askRuleV s0 a0).1.head.name) := cell_later hc4 (by go_simp)
    have z1 : w4.cell? ⟨w3.heap.size, 1, none⟩ = some (.slice Ad3 (askRuleV s0 a0).1.head.args.length cap3) := cell_later hc4 (by go_simp)
    have z2 : w4.cell? ⟨w3.heap.size, 2, none⟩ = some (.slice Ae3 (askRuleV s0 a0).1.body.length cape3) := cell_later hc4 (by go_simp)
    have Q1 : Hid (w3.heap.size + 1 ≤ w4.heap.size) := Lib.hid (by have := hc4.size; simp at this; omega)
    have L4 : Hid (∀ b ∈ bs4, w3.heap.size + 1 ≤ b) := Lib.hid fun b hb => by have := (hN4.own b hb).1; simp at this; omega
    have U4 := Lib.hid (partsK_good.lt hR4)
    have N4 := Lib.hid hN4
    have R4 := Lib.hid hR4
    clear hR4 hN4
    have Z4 : Hid ((w3.alloc (.cells #[.string (askRuleV s0 a0).1.head.name, .slice Ad3 (askRuleV s0 a0).1.head.args.length cap3, .slice Ae3 (askRuleV s0 a0).1.body.length cape3] 37)).heap.size ≤ w4.heap.size) := Lib.hid hc4.size
    go_wp2_with fail
    refine (askRule_impl s0 a0 _ bs4 _ R4.out (by have := HNs0.out; unfold maxLen; omega)).mono ?_
    rintro e w5 ⟨hc5, cs5, bs5, rfl, hR5, hN5⟩
    obtain ⟨Ad5, cap5, Ae5, cape5, rfl⟩ := rule_cells hR5
    have hb5 := hc5
    have B5 := B4.trans (hb5.mono B4.size)
    replace z0 := cell_later hb5 z0
    replace z1 := cell_later hb5 z1
    replace z2 := cell_later hb5 z2
    replace RS := Lib.hid (ruleK_good.below RS.out hb5)
    replace R4 := Lib.hid (partsK_good.below R4.out hb5)
    replace N4 := Lib.hid (N4.out.below hb5)
    replace Z4 := Lib.hid (Nat.le_trans Z4.out hb5.size)
    have Q2 : Hid (w4.heap.size ≤ w5.heap.size) := Lib.hid hb5.size
    have L5 : Hid (∀ b ∈ bs5, w4.heap.size ≤ b) := Lib.hid fun b hb => (hN5.own b hb).1
    have U5 := Lib.hid (ruleK_good.lt hR5)
    have N5 := Lib.hid hN5
    have R5 := Lib.hid hR5
    clear hR5 hN5
    have zl5z0 : w3.heap.size < w5.heap.size := lt_of_cell z0
    go_wp2_with fail
    have hA5 : Below w5.heap.size w5 (w5.alloc (.cells #[.string (askRuleV s0 a0).1.head.name, .slice Ad5 (askRuleV s0 a0).1.head.args.length cap5, .slice Ae5 (askRuleV s0 a0).1.body.length cape5] 37)) := (Below.refl _ _).alloc (Nat.le_refl _) _
    refine (eqRule_same (askRuleV s0 a0).1 _ _ _ _ _ _ bs5 bs3 _ (ruleK_good.below R5.out hA5) (ruleK_good.below RS.out hA5)).mono ?_
    rintro e w6 ⟨rfl, hc6⟩
    have hb6 : Below w5.heap.size w5 w6 := hA5.trans (hc6.mono hA5.size)
    have B6 := B5.trans (hb6.mono B5.size)
    replace z0 := cell_later hb6 z0
    replace z1 := cell_later hb6 z1
    replace z2 := cell_later hb6 z2
    replace RS := Lib.hid (ruleK_good.below RS.out hb6)
    replace R4 := Lib.hid (partsK_good.below R4.out hb6)
    replace R5 := Lib.hid (ruleK_good.below R5.out hb6)
    replace N4 := Lib.hid (N4.out.below hb6)
    replace N5 := Lib.hid (N5.out.below hb6)
    replace Z4 := Lib.hid (Nat.le_trans Z4.out hb6.size)
    have g0 : w6.cell? ⟨w5.heap.size, 0, none⟩ = some (.string (askRuleV s0 a0).1.head.name) := cell_later hc6 (by go_simp)
    have g1 : w6.cell? ⟨w5.heap.size, 1, none⟩ = some (.slice Ad5 (askRuleV s0 a0).1.head.args.length cap5) := cell_later hc6 (by go_simp)
    have g2 : w6.cell? ⟨w5.heap.size, 2, none⟩ = some (.slice Ae5 (askRuleV s0 a0).1.body.length cape5) := cell_later hc6 (by go_simp)
    go_wp2_with fail
    refine (HT0.out _ B6).mono ?_
    rintro e w7 ⟨hb7, v7, bs7, rfl, hR7, hN7⟩
    obtain ⟨Ad7, cap7, rfl, _, _⟩ := sliceK_form hR7
    have B7 := B6.trans (hb7.mono B6.size)
    replace z0 := cell_later hb7 z0
    replace z1 := cell_later hb7 z1
    replace z2 := cell_later hb7 z2
    replace g0 := cell_later hb7 g0
    replace g1 := cell_later hb7 g1
    replace g2 := cell_later hb7 g2
    replace RS := Lib.hid (ruleK_good.below RS.out hb7)
    replace R4 := Lib.hid (partsK_good.below R4.out hb7)
    replace R5 := Lib.hid (ruleK_good.below R5.out hb7)
    replace N4 := Lib.hid (N4.out.below hb7)
    replace N5 := Lib.hid (N5.out.below hb7)
    replace Z4 := Lib.hid (Nat.le_trans Z4.out hb7.size)
    go_wp2_with fail
    refine (eqPartS_same a0 _ _ bs4 bs7 _ R4.out hR7).mono ?_
    rintro e w8 ⟨rfl, hb8⟩
    have B8 := B7.trans (hb8.mono B7.size)
    clear hR7 hN7
    replace z0 := cell_later hb8 z0
    replace z1 := cell_later hb8 z1
    replace z2 := cell_later hb8 z2
    replace g0 := cell_later hb8 g0
    replace g1 := cell_later hb8 g1
    replace g2 := cell_later hb8 g2
    replace RS := Lib.hid (ruleK_good.below RS.out hb8)
    replace R4 := Lib.hid (partsK_good.below R4.out hb8)
    replace R5 := Lib.hid (ruleK_good.below R5.out hb8)
    replace N4 := Lib.hid (N4.out.below hb8)
    replace N5 := Lib.hid (N5.out.below hb8)
    replace Z4 := Lib.hid (Nat.le_trans Z4.out hb8.size)
    go_wp2_with fail
    refine (markPartS_any a0 _ bs4 1 _ _ R4.out N4.out (by have := HB0.out; have := cntPs_le a0;  omega)).mono ?_
    rintro e w9 ⟨hk9, _, _, hK9⟩
    obtain ⟨k9, he9⟩ : ∃ n : Nat, n = 1 + sumL cntP a0 := ⟨_, rfl⟩
    rw [← he9] at hk9
    have kbk9 : Hid (k9 ≤ 10000000) := Lib.hid (by have := HB0.out; have := cntPs_le a0;  omega)
    have knk9 : ¬ ((k9 : Int) < 0) := by omega
    clear he9
    subst hk9
    replace z0 := hK9.cell (by intro hb; have h1 : w3.heap.size ∈ bs4 := hb; have := L4.out _ h1; have := U4.out _ h1; have := Q0.out; have := Q1.out; have := Q2.out; omega) z0
    replace z1 := hK9.cell (by intro hb; have h1 : w3.heap.size ∈ bs4 := hb; have := L4.out _ h1; have := U4.out _ h1; have := Q0.out; have := Q1.out; have := Q2.out; omega) z1
    replace z2 := hK9.cell (by intro hb; have h1 : w3.heap.size ∈ bs4 := hb; have := L4.out _ h1; have := U4.out _ h1; have := Q0.out; have := Q1.out; have := Q2.out; omega) z2
    replace g0 := hK9.cell (by intro hb; have h1 : w5.heap.size ∈ bs4 := hb; have := L4.out _ h1; have := U4.out _ h1; have := Q0.out; have := Q1.out; have := Q2.out; omega) g0
    replace g1 := hK9.cell (by intro hb; have h1 : w5.heap.size ∈ bs4 := hb; have := L4.out _ h1; have := U4.out _ h1; have := Q0.out; have := Q1.out; have := Q2.out; omega) g1
    replace g2 := hK9.cell (by intro hb; have h1 : w5.heap.size ∈ bs4 := hb; have := L4.out _ h1; have := U4.out _ h1; have := Q0.out; have := Q1.out; have := Q2.out; omega) g2
    replace RS := Lib.hid (Good.kept ruleK_good RS.out hK9 (fun b hb hc => by have := US.out _ hb; have := L4.out _ hc; have := U4.out _ hc; have := Q0.out; have := Q1.out; have := Q2.out; omega))
    replace R5 := Lib.hid (Good.kept ruleK_good R5.out hK9 (fun b hb hc => by have := L5.out _ hb; have := U5.out _ hb; have := L4.out _ hc; have := U4.out _ hc; have := Q0.out; have := Q1.out; have := Q2.out; omega))
    replace N5 := Lib.hid (New.kept N5.out hK9 (fun b hb hc => by have := L5.out _ hb; have := U5.out _ hb; have := L4.out _ hc; have := U4.out _ hc; have := Q0.out; have := Q1.out; have := Q2.out; omega))
    replace Z4 := Lib.hid (Nat.le_trans Z4.out hK9.size)
    clear R4 N4
    have B9 := B8.trans (hK9.below (fun b hb => by have := L4.out _ hb; have := U4.out _ hb; have := B8.size; have := Q0.out; have := Q1.out; have := Q2.out; omega) B8.size)
    go_wp2_with fail
    refine (eqRule_same (askRuleV s0 a0).1 _ _ _ _ _ _ bs5 bs3 _ R5.out RS.out).mono ?_
    rintro e w10 ⟨rfl, hc10⟩
    have hb10 := hc10
    have B10 := B9.trans (hb10.mono B9.size)
    replace z0 := cell_later hb10 z0
    replace z1 := cell_later hb10 z1
    replace z2 := cell_later hb10 z2
    replace g0 := cell_later hb10 g0
    replace g1 := cell_later hb10 g1
    replace g2 := cell_later hb10 g2
    replace RS := Lib.hid (ruleK_good.below RS.out hb10)
    replace R5 := Lib.hid (ruleK_good.below R5.out hb10)
    replace N5 := Lib.hid (N5.out.below hb10)
    replace Z4 := Lib.hid (Nat.le_trans Z4.out hb10.size)
    go_wp2_with fail
    refine (markRule_any (askRuleV s0 a0).1 _ _ _ bs5 1 0 _ R5.out (N5.out.mono (Nat.zero_le _)) (Nat.zero_le _) (by have := HVB.out; omega)).mono ?_
    rintro e w11 ⟨hk11, hR11, _, hK11⟩
    have MH : ∀ w', Below w11.heap.size w11 w' → Calls Try.prog 18 #[.agg #[.string (askRuleV s0 a0).1.head.name, .slice Ad5 (askRuleV s0 a0).1.head.args.length cap5, .slice Ae5 (askRuleV s0 a0).1.body.length cape5], .int .i64 1] w' (Held (1 + cntR (askRuleV s0 a0).1) w') := fun w' hb => heldRule_any (askRuleV s0 a0).1 _ _ _ bs5 1 w' (ruleK_good.below hR11 hb) (by have := HVB.out; omega)
    obtain ⟨n, hn⟩ : ∃ n : Nat, n = 1 + cntR (askRuleV s0 a0).1 := ⟨_, rfl⟩
    rw [← hn] at hk11
    rw [← hn] at MH
    subst hk11
    have hn0 : ¬ ((n : Int) < 0) := by omega
    clear hn
    have HMH := Lib.hid MH
    clear MH hR11
    replace z0 := hK11.cell (by intro hb; have h1 : w3.heap.size ∈ bs5 := hb; have := L5.out _ h1; have := U5.out _ h1; have := Q0.out; have := Q1.out; have := Q2.out; omega) z0
    replace z1 := hK11.cell (by intro hb; have h1 : w3.heap.size ∈ bs5 := hb; have := L5.out _ h1; have := U5.out _ h1; have := Q0.out; have := Q1.out; have := Q2.out; omega) z1
    replace z2 := hK11.cell (by intro hb; have h1 : w3.heap.size ∈ bs5 := hb; have := L5.out _ h1; have := U5.out _ h1; have := Q0.out; have := Q1.out; have := Q2.out; omega) z2
    replace g0 := hK11.cell (by intro hb; have h1 : w5.heap.size ∈ bs5 := hb; have := L5.out _ h1; have := U5.out _ h1; have := Q0.out; have := Q1.out; have := Q2.out; omega) g0
    replace g1 := hK11.cell (by intro hb; have h1 : w5.heap.size ∈ bs5 := hb; have := L5.out _ h1; have := U5.out _ h1; have := Q0.out; have := Q1.out; have := Q2.out; omega) g1
    replace g2 := hK11.cell (by intro hb; have h1 : w5.heap.size ∈ bs5 := hb; have := L5.out _ h1; have := U5.out _ h1; have := Q0.out; have := Q1.out; have := Q2.out; omega) g2
    replace RS := Lib.hid (Good.kept ruleK_good RS.out hK11 (fun b hb hc => by have := US.out _ hb; have := L5.out _ hc; have := U5.out _ hc; have := Q0.out; have := Q1.out; have := Q2.out; omega))
    replace Z4 := Lib.hid (Nat.le_trans Z4.out hK11.size)
    clear R5 N5
    have B11 := B10.trans (hK11.below (fun b hb => by have := L5.out _ hb; have := U5.out _ hb; have := B10.size; have := Q0.out; have := Q1.out; have := Q2.out; omega) B10.size)
    go_wp2_with fail
    refine (HMH.out _ (Below.refl _ _)).mono ?_
    rintro e w12 ⟨rfl, hb12⟩
    have B12 := B11.trans (hb12.mono B11.size)
    replace z0 := cell_later hb12 z0
    replace z1 := cell_later hb12 z1
    replace z2 := cell_later hb12 z2
    replace g0 := cell_later hb12 g0
    replace g1 := cell_later hb12 g1
    replace g2 := cell_later hb12 g2
    replace RS := Lib.hid (ruleK_good.below RS.out hb12)
    replace Z4 := Lib.hid (Nat.le_trans Z4.out hb12.size)
    have HM : Hid (Below w11.heap.size w11 w12) := Lib.hid hb12
    go_wp2_with fail
    refine (HT0.out _ B12).mono ?_
    rintro e w13 ⟨hb13, v13, bs13, rfl, hR13, hN13⟩
    obtain ⟨Ad13, cap13, rfl, _, _⟩ := sliceK_form hR13
    have B13 := B12.trans (hb13.mono B12.size)
    replace z0 := cell_later hb13 z0
    replace z1 := cell_later hb13 z1
    replace z2 := cell_later hb13 z2
    replace g0 := cell_later hb13 g0
    replace g1 := cell_later hb13 g1
    replace g2 := cell_later hb13 g2
    replace RS := Lib.hid (ruleK_good.below RS.out hb13)
    replace Z4 := Lib.hid (Nat.le_trans Z4.out hb13.size)
    replace HM := Lib.hid (HM.out.trans (hb13.mono HM.out.size))
    go_wp2_with fail
    refine (askRule_impl s0 a0 _ bs13 _ hR13 (by have := HNs0.out; unfold maxLen; omega)).mono ?_
    rintro e w14 ⟨hb14, cs14, bs14, rfl, hR14, hN14⟩
    obtain ⟨Ad14, cap14, Ae14, cape14, rfl⟩ := rule_cells hR14
    have B14 := B13.trans (hb14.mono B13.size)
    replace z0 := cell_later hb14 z0
    replace z1 := cell_later hb14 z1
    replace z2 := cell_later hb14 z2
    replace g0 := cell_later hb14 g0
    replace g1 := cell_later hb14 g1
    replace g2 := cell_later hb14 g2
    replace RS := Lib.hid (ruleK_good.below RS.out hb14)
    replace Z4 := Lib.hid (Nat.le_trans Z4.out hb14.size)
    have hq14 : Below w13.heap.size w13 w14 := hb14
    clear hR13 hN13
    replace HM := Lib.hid (HM.out.trans (hq14.mono HM.out.size))
    have hR14' := Lib.hid hR14
    clear hR14 hN14
    have R14 := hR14'
    clear hR14'
    have zl14z0 : w3.heap.size < w14.heap.size := lt_of_cell z0
    have zl14g0 : w5.heap.size < w14.heap.size := lt_of_cell g0
    go_wp2_with fail
    have hA14 : Below w14.heap.size w14 (w14.alloc (.cells #[.string (askRuleV s0 a0).1.head.name, .slice Ad14 (askRuleV s0 a0).1.head.args.length cap14, .slice Ae14 (askRuleV s0 a0).1.body.length cape14] 37)) := (Below.refl _ _).alloc (Nat.le_refl _) _
    refine (eqRule_same (askRuleV s0 a0).1 _ _ _ _ _ _ bs14 bs3 _ (ruleK_good.below R14.out hA14) (ruleK_good.below RS.out hA14)).mono ?_
    rintro e w15 ⟨rfl, hc15⟩
    clear RS R14
    have hb15 : Below w14.heap.size w14 w15 := hA14.trans (hc15.mono hA14.size)
    have B15 := B14.trans (hb15.mono B14.size)
    replace z0 := cell_later hb15 z0
    replace z1 := cell_later hb15 z1
    replace z2 := cell_later hb15 z2
    replace g0 := cell_later hb15 g0
    replace g1 := cell_later hb15 g1
    replace g2 := cell_later hb15 g2
    replace Z4 := Lib.hid (Nat.le_trans Z4.out hb15.size)
    have h0 : w15.cell? ⟨w14.heap.size, 0, none⟩ = some (.string (askRuleV s0 a0).1.head.name) := cell_later hc15 (by go_simp)
    have h1 : w15.cell? ⟨w14.heap.size, 1, none⟩ = some (.slice Ad14 (askRuleV s0 a0).1.head.args.length cap14) := cell_later hc15 (by go_simp)
    have h2 : w15.cell? ⟨w14.heap.size, 2, none⟩ = some (.slice Ae14 (askRuleV s0 a0).1.body.length cape14) := cell_later hc15 (by go_simp)
    replace HM := Lib.hid (HM.out.trans (hb15.mono HM.out.size))
    go_wp2_with fail
    refine (HMH.out _ HM.out).mono ?_
    rintro e w16 ⟨rfl, hb16⟩
    have B16 := B15.trans (hb16.mono B15.size)
    go_wp2
    go_ret
    exact ⟨rfl, B16⟩

set_option maxHeartbeats 400000 in
theorem exactAskRule_walk (s0 : ByteArray) (a0 : List Pt) (c0 : Value) (p0 : List Nat) (w : World) (h0 : partsK w [c0] a0 p0) :
    Calls Try.prog 4 #[.string s0, c0] w fun e w' => e = .returned (.bool true) ∧ Below w.heap.size w w' := by
  by_cases hn : s0.size ≤ 1048576
  · exact exactAskRule_core s0 a0 _ p0 w h0 hn
  · have hi : (1048576 : Int) < (s0.size : Int) := by omega
    obtain ⟨Adq0, capq0, rfl, hlq0, hmq0⟩ := sliceK_form h0
    clear h0
    go_enter Try.func4, Try.ntmps4
    go_wp2
    go_ret
    exact ⟨rfl, Below.refl _ _⟩

end Go.Proofs.Ytbcepahpehadeaa
