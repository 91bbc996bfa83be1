/- The walk of the law FnExactProgNeeds. -/
import Derived.Laws.EntriesVeiled
import Derived.Deep.RegionHeld3
import Derived.Deep.RegionWith
import Derived.BigQuiet
import Derived.Deep.DrawnRows
import Derived.WalkKit
import Derived.WalkSpells
import Derived.WalkLawsBesides
import Derived.Lib.Hide
import Derived.Test.YtbcepahpehadeaaGreatDoorNeedS
import Derived.Test.YtbcepahpehadeaaGreatDoorNeedI
import Derived.Test.YtbcepahpehadeaaGreatDoorMarkT
import Derived.Test.YtbcepahpehadeaaGreatDoorMarkRs
import Derived.Test.YtbcepahpehadeaaGreatDoorHRuleS
namespace Go.Proofs.YtbcepahpehadeaaGreatDoor
open Go.RowKit D
set_option linter.unusedVariables false
attribute [local go_sem ↓] Go.wp_at_zero Go.wp_at_succ

set_option maxRecDepth 100000 in
set_option maxHeartbeats 4000000 in
theorem exactProgNeeds_core (a0 : List Ru) (c0 : Value) (p0 : List Nat) (s1 : ByteArray) (w : World) (h0 : rulesK w [c0] a0 p0) (hg : LaidE w) (hns1 : s1.size ≤ 1048576) :
    Calls Tryz.prog 5 #[c0, .string s1] w fun e w' => e = .returned (.bool true) ∧ Below w.heap.size w w' := by
  have HG := Lib.hid hg
  clear hg
  have his1 : ¬ (1048576 : Int) < (s1.size : Int) := by omega
  have HNs1 := Lib.hid hns1
  clear hns1
  obtain ⟨Adq0, capq0, rfl, hlq0, hmq0⟩ := sliceK_form h0
  have sz0 := fun l (g0 : 0 ≤ l) (g1 : l ≤ 1048576) w' (hb : Below w.heap.size w w') => szRuleS_any a0 _ p0 l w' (rulesK_good.below h0 hb) g0 g1
  have to0 := fun (hl : bulkRs a0 ≤ 1048576) w' (hb : Below w.heap.size w w') => toRuleS_any a0 _ p0 w' (rulesK_good.below h0 hb) hl
  have lm0 := nat_ge_max (Nat.le_trans hlq0 hmq0)
  have hVB := needsV_len a0 s1
  clear h0
  have B0 := Below.refl w.heap.size w
  go_enter Tryz.func5, Tryz.ntmps5
  go_wp2_with fail
  refine (sz0 _ (by omega) (by omega) _ B0).mono ?_
  rintro e w1 ⟨hb1, r1, rfl, hr1⟩
  have B1 := B0.trans (hb1.mono B0.size)
  clear sz0
  rcases hr1 with rfl | ⟨hr1a, hr1b⟩
  · go_wp2
    go_ret
    exact ⟨rfl, B1⟩
  · skip
    have T0 := to0 (by omega)
    have HT0 := Lib.hid T0
    have HB0 : Hid (bulkRs a0 ≤ 1048576) := Lib.hid (by omega)
    have HVB := Lib.hid hVB
    clear hVB to0 T0 hr1b
    go_wp2_with fail
    refine (HT0.out _ B1).mono ?_
    rintro e w2 ⟨hb2, v2, bs2, rfl, hR2, hN2⟩
    obtain ⟨Ad2, cap2, rfl, _, _⟩ := sliceK_form hR2
    have B2 := B1.trans (hb2.mono B1.size)
    go_wp2_with fail
    refine (progNeeds_spec a0 s1 _ bs2 _ hR2 (by have := HNs1.out; unfold maxLen; omega)).mono ?_
    rintro e w3 ⟨hb3, v3, bs3, rfl, hR3⟩
    obtain ⟨Ad3, cap3, rfl, _, _⟩ := sliceK_form hR3
    have B3 := B2.trans (hb3.mono B2.size)
    have hq3 : Below w2.heap.size w2 w3 := hb3
    clear hR2 hN2
    have US := Lib.hid (strsK_good.lt hR3)
    have RS := Lib.hid hR3
    clear hR3
    have Q0 : Hid (w.heap.size + 0 ≤ w3.heap.size) := Lib.hid (by have := B3.size;  omega)
    go_wp2_with fail
    refine (HT0.out _ B3).mono ?_
    rintro e w4 ⟨hc4, v4, bs4, rfl, hR4, hN4⟩
    obtain ⟨Ad4, cap4, rfl, _, _⟩ := sliceK_form hR4
    have hb4 := hc4
    have B4 := B3.trans (hb4.mono B3.size)
    replace RS := Lib.hid (strsK_good.below RS.out hb4)
    have Q1 : Hid (w3.heap.size ≤ w4.heap.size) := Lib.hid hb4.size
    have L4 : Hid (∀ b ∈ bs4, w3.heap.size ≤ b) := Lib.hid fun b hb => (hN4.own b hb).1
    have U4 := Lib.hid (rulesK_good.lt hR4)
    have N4 := Lib.hid hN4
    have R4 := Lib.hid hR4
    clear hR4 hN4
    have Z4 : Hid (w3.heap.size ≤ w4.heap.size) := Lib.hid hb4.size
    go_wp2_with fail
    refine (progNeeds_impl a0 s1 _ bs4 _ R4.out (HG.out.below B4) (by have := HNs1.out; unfold maxLen; omega)).mono ?_
    rintro e w5 ⟨hc5, v5, bs5, rfl, hR5, hN5⟩
    obtain ⟨Ad5, cap5, rfl, _, _⟩ := sliceK_form hR5
    have hb5 := hc5
    have B5 := B4.trans (hb5.mono B4.size)
    replace RS := Lib.hid (strsK_good.below RS.out hb5)
    replace R4 := Lib.hid (rulesK_good.below R4.out hb5)
    replace N4 := Lib.hid (N4.out.below hb5)
    replace Z4 := Lib.hid (Nat.le_trans Z4.out hb5.size)
    have Q2 : Hid (w4.heap.size ≤ w5.heap.size) := Lib.hid hb5.size
    have L5 : Hid (∀ b ∈ bs5, w4.heap.size ≤ b) := Lib.hid fun b hb => (hN5.own b hb).1
    have U5 := Lib.hid (strsK_good.lt hR5)
    have N5 := Lib.hid hN5
    have R5 := Lib.hid hR5
    clear hR5 hN5
    go_wp2_with fail
    refine (eqStringS_same (needsV a0 s1) _ _ bs5 bs3 _ R5.out RS.out).mono ?_
    rintro e w6 ⟨rfl, hc6⟩
    have hb6 := hc6
    have B6 := B5.trans (hb6.mono B5.size)
    replace RS := Lib.hid (strsK_good.below RS.out hb6)
    replace R4 := Lib.hid (rulesK_good.below R4.out hb6)
    replace R5 := Lib.hid (strsK_good.below R5.out hb6)
    replace N4 := Lib.hid (N4.out.below hb6)
    replace N5 := Lib.hid (N5.out.below hb6)
    replace Z4 := Lib.hid (Nat.le_trans Z4.out hb6.size)
    go_wp2_with fail
    refine (HT0.out _ B6).mono ?_
    rintro e w7 ⟨hb7, v7, bs7, rfl, hR7, hN7⟩
    obtain ⟨Ad7, cap7, rfl, _, _⟩ := sliceK_form hR7
    have B7 := B6.trans (hb7.mono B6.size)
    replace RS := Lib.hid (strsK_good.below RS.out hb7)
    replace R4 := Lib.hid (rulesK_good.below R4.out hb7)
    replace R5 := Lib.hid (strsK_good.below R5.out hb7)
    replace N4 := Lib.hid (N4.out.below hb7)
    replace N5 := Lib.hid (N5.out.below hb7)
    replace Z4 := Lib.hid (Nat.le_trans Z4.out hb7.size)
    go_wp2_with fail
    refine (eqRuleS_same a0 _ _ bs4 bs7 _ R4.out hR7).mono ?_
    rintro e w8 ⟨rfl, hb8⟩
    have B8 := B7.trans (hb8.mono B7.size)
    clear hR7 hN7
    replace RS := Lib.hid (strsK_good.below RS.out hb8)
    replace R4 := Lib.hid (rulesK_good.below R4.out hb8)
    replace R5 := Lib.hid (strsK_good.below R5.out hb8)
    replace N4 := Lib.hid (N4.out.below hb8)
    replace N5 := Lib.hid (N5.out.below hb8)
    replace Z4 := Lib.hid (Nat.le_trans Z4.out hb8.size)
    go_wp2_with fail
    refine (markRuleS_any a0 _ bs4 1 _ _ R4.out N4.out (by have := HB0.out; have := cntRs_le a0;  omega)).mono ?_
    rintro e w9 ⟨hk9, _, _, hK9⟩
    obtain ⟨k9, he9⟩ : ∃ n : Nat, n = 1 + sumL cntRu a0 := ⟨_, rfl⟩
    rw [← he9] at hk9
    have kbk9 : Hid (k9 ≤ 10000000) := Lib.hid (by have := HB0.out; have := cntRs_le a0;  omega)
    have knk9 : ¬ ((k9 : Int) < 0) := by omega
    clear he9
    subst hk9
    replace RS := Lib.hid (Good.kept strsK_good RS.out hK9 (fun b hb hc => by have := US.out _ hb; have := L4.out _ hc; have := U4.out _ hc; have := Q0.out; have := Q1.out; have := Q2.out; omega))
    replace R5 := Lib.hid (Good.kept strsK_good R5.out hK9 (fun b hb hc => by have := L5.out _ hb; have := U5.out _ hb; have := L4.out _ hc; have := U4.out _ hc; have := Q0.out; have := Q1.out; have := Q2.out; omega))
    replace N5 := Lib.hid (New.kept N5.out hK9 (fun b hb hc => by have := L5.out _ hb; have := U5.out _ hb; have := L4.out _ hc; have := U4.out _ hc; have := Q0.out; have := Q1.out; have := Q2.out; omega))
    replace Z4 := Lib.hid (Nat.le_trans Z4.out hK9.size)
    clear R4 N4
    have B9 := B8.trans (hK9.below (fun b hb => by have := L4.out _ hb; have := U4.out _ hb; have := B8.size; have := Q0.out; have := Q1.out; have := Q2.out; omega) B8.size)
    go_wp2_with fail
    refine (eqStringS_same (needsV a0 s1) _ _ bs5 bs3 _ R5.out RS.out).mono ?_
    rintro e w10 ⟨rfl, hc10⟩
    have hb10 := hc10
    have B10 := B9.trans (hb10.mono B9.size)
    replace RS := Lib.hid (strsK_good.below RS.out hb10)
    replace R5 := Lib.hid (strsK_good.below R5.out hb10)
    replace N5 := Lib.hid (N5.out.below hb10)
    replace Z4 := Lib.hid (Nat.le_trans Z4.out hb10.size)
    go_wp2_with fail
    refine (markStringS_any (needsV a0 s1) _ bs5 1 _ _ R5.out N5.out (by have := HVB.out; omega)).mono ?_
    rintro e w11 ⟨hk11, hR11, _, hK11⟩
    have MH : ∀ w', Below w11.heap.size w11 w' → Calls Tryz.prog 20 #[.slice Ad5 (needsV a0 s1).length cap5, .int .i64 1] w' (Held (1 + ((needsV a0 s1)).length) w') := fun w' hb => heldStringS_any (needsV a0 s1) _ bs5 1 w' (strsK_good.below hR11 hb) (by have := HVB.out; omega)
    obtain ⟨n, hn⟩ : ∃ n : Nat, n = 1 + ((needsV a0 s1)).length := ⟨_, rfl⟩
    rw [← hn] at hk11
    rw [← hn] at MH
    subst hk11
    have hn0 : ¬ ((n : Int) < 0) := by omega
    clear hn
    have HMH := Lib.hid MH
    clear MH hR11
    replace RS := Lib.hid (Good.kept strsK_good RS.out hK11 (fun b hb hc => by have := US.out _ hb; have := L5.out _ hc; have := U5.out _ hc; have := Q0.out; have := Q1.out; have := Q2.out; omega))
    replace Z4 := Lib.hid (Nat.le_trans Z4.out hK11.size)
    clear R5 N5
    have B11 := B10.trans (hK11.below (fun b hb => by have := L5.out _ hb; have := U5.out _ hb; have := B10.size; have := Q0.out; have := Q1.out; have := Q2.out; omega) B10.size)
    go_wp2_with fail
    refine (HMH.out _ (Below.refl _ _)).mono ?_
    rintro e w12 ⟨rfl, hb12⟩
    have B12 := B11.trans (hb12.mono B11.size)
    replace RS := Lib.hid (strsK_good.below RS.out hb12)
    replace Z4 := Lib.hid (Nat.le_trans Z4.out hb12.size)
    have HM : Hid (Below w11.heap.size w11 w12) := Lib.hid hb12
    go_wp2_with fail
    refine (HT0.out _ B12).mono ?_
    rintro e w13 ⟨hb13, v13, bs13, rfl, hR13, hN13⟩
    obtain ⟨Ad13, cap13, rfl, _, _⟩ := sliceK_form hR13
    have B13 := B12.trans (hb13.mono B12.size)
    replace RS := Lib.hid (strsK_good.below RS.out hb13)
    replace Z4 := Lib.hid (Nat.le_trans Z4.out hb13.size)
    replace HM := Lib.hid (HM.out.trans (hb13.mono HM.out.size))
    go_wp2_with fail
    refine (progNeeds_impl a0 s1 _ bs13 _ hR13 (HG.out.below B13) (by have := HNs1.out; unfold maxLen; omega)).mono ?_
    rintro e w14 ⟨hb14, v14, bs14, rfl, hR14, hN14⟩
    obtain ⟨Ad14, cap14, rfl, _, _⟩ := sliceK_form hR14
    have B14 := B13.trans (hb14.mono B13.size)
    replace RS := Lib.hid (strsK_good.below RS.out hb14)
    replace Z4 := Lib.hid (Nat.le_trans Z4.out hb14.size)
    have hq14 : Below w13.heap.size w13 w14 := hb14
    clear hR13 hN13
    replace HM := Lib.hid (HM.out.trans (hq14.mono HM.out.size))
    have hR14' := Lib.hid hR14
    clear hR14 hN14
    have R14 := hR14'
    clear hR14'
    go_wp2_with fail
    refine (eqStringS_same (needsV a0 s1) _ _ bs14 bs3 _ R14.out RS.out).mono ?_
    rintro e w15 ⟨rfl, hc15⟩
    clear RS R14
    have hb15 := hc15
    have B15 := B14.trans (hb15.mono B14.size)
    replace Z4 := Lib.hid (Nat.le_trans Z4.out hb15.size)
    replace HM := Lib.hid (HM.out.trans (hb15.mono HM.out.size))
    go_wp2_with fail
    refine (HMH.out _ HM.out).mono ?_
    rintro e w16 ⟨rfl, hb16⟩
    have B16 := B15.trans (hb16.mono B15.size)
    go_wp2
    go_ret
    exact ⟨rfl, B16⟩

set_option maxHeartbeats 400000 in
theorem exactProgNeeds_walk (a0 : List Ru) (c0 : Value) (p0 : List Nat) (s1 : ByteArray) (w : World) (h0 : rulesK w [c0] a0 p0) (hg : LaidE w) :
    Calls Tryz.prog 5 #[c0, .string s1] w fun e w' => e = .returned (.bool true) ∧ Below w.heap.size w w' := by
  by_cases hn : s1.size ≤ 1048576
  · exact exactProgNeeds_core a0 _ p0 s1 w h0 hg hn
  · have hi : (1048576 : Int) < (s1.size : Int) := by omega
    obtain ⟨Adq0, capq0, rfl, hlq0, hmq0⟩ := sliceK_form h0
    clear h0
    go_enter Tryz.func5, Tryz.ntmps5
    go_wp2
    go_ret
    exact ⟨rfl, Below.refl _ _⟩

end Go.Proofs.YtbcepahpehadeaaGreatDoor
