/- Of the proof of FnExactOnce: LwOnce. -/
import Derived.Laws.EntriesVeiled
import Derived.Deep.RegionHeld3
import Derived.Deep.RegionWith
import Derived.BigQuiet
import Derived.Deep.DrawnRows
import Derived.WalkKit
import Derived.WalkSpells
import Derived.WalkLawsBesides
import Derived.Lib.Hide
import Derived.Test.YtjjfafgaphloaaaGreatDoorM46
import Derived.Test.YtjjfafgaphloaaaGreatDoorM38
import Derived.Test.YtjjfafgaphloaaaGreatDoorM16
import Derived.Test.YtjjfafgaphloaaaGreatDoorM17
import Derived.Test.YtjjfafgaphloaaaGreatDoorM21
import Derived.Test.YtjjfafgaphloaaaGreatDoorM34
namespace Go.Proofs.YtjjfafgaphloaaaGreatDoor
open Go.RowKit D
set_option linter.unusedVariables false
attribute [local go_sem ↓] Go.wp_at_zero Go.wp_at_succ
set_option maxRecDepth 100000 in
set_option maxHeartbeats 4000000 in
theorem exactOnce_walk (a0 : List Ru) (c0 : Value) (p0 : List Nat) (a1 : List A) (c1 : Value) (p1 : List Nat) (w : World) (h0 : rulesK w [c0] a0 p0) (h1 : atomsK w [c1] a1 p1) (hg : LaidE w) :
    Calls Tryz.prog 4 #[c0, c1] w fun e w' => e = .returned (.bool true) ∧ Below w.heap.size w w' := by
  have HG := Lib.hid hg
  clear hg
  obtain ⟨Adq0, capq0, rfl, hlq0, hmq0⟩ := sliceK_form h0
  obtain ⟨Adq1, capq1, rfl, hlq1, hmq1⟩ := sliceK_form h1
  have sz0 := fun l (g0 : 0 ≤ l) (g1 : l ≤ 1048576) w' (hb : Below w.heap.size w w') => szRuleS_any a0 _ p0 l w' (rulesK_good.below h0 hb) g0 g1
  have to0 := fun (hl : bulkRs a0 ≤ 1048576) w' (hb : Below w.heap.size w w') => toRuleS_any a0 _ p0 w' (rulesK_good.below h0 hb) hl
  have sz1 := fun l (g0 : 0 ≤ l) (g1 : l ≤ 1048576) w' (hb : Below w.heap.size w w') => szAtomS_any a1 _ p1 l w' (atomsK_good.below h1 hb) g0 g1
  have to1 := fun (hl : bulkAs a1 ≤ 1048576) w' (hb : Below w.heap.size w w') => toAtomS_any a1 _ p1 w' (atomsK_good.below h1 hb) hl
  have lm0 := nat_ge_max (Nat.le_trans hlq0 hmq0)
  have lm1 := nat_ge_max (Nat.le_trans hlq1 hmq1)
  have hVB := onceV_cnt a0 a1
  clear h0 h1
  have B0 := Below.refl w.heap.size w
  go_enter Tryz.func4, Tryz.ntmps4
  go_wp2_with fail
  refine (sz0 _ (by omega) (by omega) _ B0).mono ?_
  rintro e w1 ⟨hb1, r1, rfl, hr1⟩
  have B1 := B0.trans (hb1.mono B0.size)
  clear sz0
  rcases hr1 with rfl | ⟨hr1a, hr1b⟩
  · go_wp2
    go_ret
    exact ⟨rfl, B1⟩
  · skip
    go_wp2_with fail
    refine (sz1 _ (by omega) (by omega) _ B1).mono ?_
    rintro e w2 ⟨hb2, r2, rfl, hr2⟩
    have B2 := B1.trans (hb2.mono B1.size)
    clear sz1
    rcases hr2 with rfl | ⟨hr2a, hr2b⟩
    · go_wp2
      go_ret
      exact ⟨rfl, B2⟩
    · skip
      have T0 := to0 (by omega)
      have HT0 := Lib.hid T0
      have HB0 : Hid (bulkRs a0 ≤ 1048576) := Lib.hid (by omega)
      have T1 := to1 (by omega)
      have HT1 := Lib.hid T1
      have HB1 : Hid (bulkAs a1 ≤ 1048576) := Lib.hid (by omega)
      have HVB := Lib.hid hVB
      clear hVB to0 T0 to1 T1 hr1b hr2b
      go_wp2_with fail
      refine (HT0.out _ B2).mono ?_
      rintro e w3 ⟨hb3, v3, bs3, rfl, hR3, hN3⟩
      obtain ⟨Ad3, cap3, rfl, _, _⟩ := sliceK_form hR3
      have B3 := B2.trans (hb3.mono B2.size)
      go_wp2_with fail
      refine (HT1.out _ B3).mono ?_
      rintro e w4 ⟨hb4, v4, bs4, rfl, hR4, hN4⟩
      obtain ⟨Ad4, cap4, rfl, _, _⟩ := sliceK_form hR4
      have B4 := B3.trans (hb4.mono B3.size)
      replace hR3 := rulesK_good.below hR3 hb4
      go_wp2_with fail
      refine (once_spec a0 a1 _ _ bs3 bs4 _ hR3 hR4).mono ?_
      rintro e w5 ⟨hb5, v5, bs5, rfl, hR5⟩
      obtain ⟨Ad5, cap5, rfl, _, _⟩ := sliceK_form hR5
      have B5 := B4.trans (hb5.mono B4.size)
      have hq5 : Below w4.heap.size w4 w5 := hb5
      clear hR3 hN3 hR4 hN4
      have US := Lib.hid (atomsK_good.lt hR5)
      have RS := Lib.hid hR5
      clear hR5
      have Q0 : Hid (w.heap.size + 0 ≤ w5.heap.size) := Lib.hid (by have := B5.size;  omega)
      go_wp2_with fail
      refine (HT0.out _ B5).mono ?_
      rintro e w6 ⟨hc6, v6, bs6, rfl, hR6, hN6⟩
      obtain ⟨Ad6, cap6, rfl, _, _⟩ := sliceK_form hR6
      have hb6 := hc6
      have B6 := B5.trans (hb6.mono B5.size)
      replace RS := Lib.hid (atomsK_good.below RS.out hb6)
      have Q1 : Hid (w5.heap.size ≤ w6.heap.size) := Lib.hid hb6.size
      have L6 : Hid (∀ b ∈ bs6, w5.heap.size ≤ b) := Lib.hid fun b hb => (hN6.own b hb).1
      have U6 := Lib.hid (rulesK_good.lt hR6)
      have N6 := Lib.hid hN6
      have R6 := Lib.hid hR6
      clear hR6 hN6
      have Z6 : Hid (w5.heap.size ≤ w6.heap.size) := Lib.hid hb6.size
      go_wp2_with fail
      refine (HT1.out _ B6).mono ?_
      rintro e w7 ⟨hc7, v7, bs7, rfl, hR7, hN7⟩
      obtain ⟨Ad7, cap7, rfl, _, _⟩ := sliceK_form hR7
      have hb7 := hc7
      have B7 := B6.trans (hb7.mono B6.size)
      replace RS := Lib.hid (atomsK_good.below RS.out hb7)
      replace R6 := Lib.hid (rulesK_good.below R6.out hb7)
      replace N6 := Lib.hid (N6.out.below hb7)
      replace Z6 := Lib.hid (Nat.le_trans Z6.out hb7.size)
      have Q2 : Hid (w6.heap.size ≤ w7.heap.size) := Lib.hid hb7.size
      have L7 : Hid (∀ b ∈ bs7, w6.heap.size ≤ b) := Lib.hid fun b hb => (hN7.own b hb).1
      have U7 := Lib.hid (atomsK_good.lt hR7)
      have N7 := Lib.hid hN7
      have R7 := Lib.hid hR7
      clear hR7 hN7
      have Z7 : Hid (w6.heap.size ≤ w7.heap.size) := Lib.hid hb7.size
      go_wp2_with fail
      refine (once_impl a0 a1 _ _ bs6 bs7 _ R6.out R7.out (HG.out.below B7)).mono ?_
      rintro e w8 ⟨hc8, v8, bs8, rfl, hR8, hN8⟩
      obtain ⟨Ad8, cap8, rfl, _, _⟩ := sliceK_form hR8
      have hb8 := hc8
      have B8 := B7.trans (hb8.mono B7.size)
      replace RS := Lib.hid (atomsK_good.below RS.out hb8)
      replace R6 := Lib.hid (rulesK_good.below R6.out hb8)
      replace R7 := Lib.hid (atomsK_good.below R7.out hb8)
      replace N6 := Lib.hid (N6.out.below hb8)
      replace N7 := Lib.hid (N7.out.below hb8)
      replace Z6 := Lib.hid (Nat.le_trans Z6.out hb8.size)
      replace Z7 := Lib.hid (Nat.le_trans Z7.out hb8.size)
      have Q3 : Hid (w7.heap.size ≤ w8.heap.size) := Lib.hid hb8.size
      have L8 : Hid (∀ b ∈ bs8, w7.heap.size ≤ b) := Lib.hid fun b hb => (hN8.own b hb).1
      have U8 := Lib.hid (atomsK_good.lt hR8)
      have N8 := Lib.hid hN8
      have R8 := Lib.hid hR8
      clear hR8 hN8
      go_wp2_with fail
      refine (eqAtomS_same (onceV a0 a1) _ _ bs8 bs5 _ R8.out RS.out).mono ?_
      rintro e w9 ⟨rfl, hc9⟩
      have hb9 := hc9
      have B9 := B8.trans (hb9.mono B8.size)
      replace RS := Lib.hid (atomsK_good.below RS.out hb9)
      replace R6 := Lib.hid (rulesK_good.below R6.out hb9)
      replace R7 := Lib.hid (atomsK_good.below R7.out hb9)
      replace R8 := Lib.hid (atomsK_good.below R8.out hb9)
      replace N6 := Lib.hid (N6.out.below hb9)
      replace N7 := Lib.hid (N7.out.below hb9)
      replace N8 := Lib.hid (N8.out.below hb9)
      replace Z6 := Lib.hid (Nat.le_trans Z6.out hb9.size)
      replace Z7 := Lib.hid (Nat.le_trans Z7.out hb9.size)
      go_wp2_with fail
      refine (HT0.out _ B9).mono ?_
      rintro e w10 ⟨hb10, v10, bs10, rfl, hR10, hN10⟩
      obtain ⟨Ad10, cap10, rfl, _, _⟩ := sliceK_form hR10
      have B10 := B9.trans (hb10.mono B9.size)
      replace RS := Lib.hid (atomsK_good.below RS.out hb10)
      replace R6 := Lib.hid (rulesK_good.below R6.out hb10)
      replace R7 := Lib.hid (atomsK_good.below R7.out hb10)
      replace R8 := Lib.hid (atomsK_good.below R8.out hb10)
      replace N6 := Lib.hid (N6.out.below hb10)
      replace N7 := Lib.hid (N7.out.below hb10)
      replace N8 := Lib.hid (N8.out.below hb10)
      replace Z6 := Lib.hid (Nat.le_trans Z6.out hb10.size)
      replace Z7 := Lib.hid (Nat.le_trans Z7.out hb10.size)
      go_wp2_with fail
      refine (eqRuleS_same a0 _ _ bs6 bs10 _ R6.out hR10).mono ?_
      rintro e w11 ⟨rfl, hb11⟩
      have B11 := B10.trans (hb11.mono B10.size)
      clear hR10 hN10
      replace RS := Lib.hid (atomsK_good.below RS.out hb11)
      replace R6 := Lib.hid (rulesK_good.below R6.out hb11)
      replace R7 := Lib.hid (atomsK_good.below R7.out hb11)
      replace R8 := Lib.hid (atomsK_good.below R8.out hb11)
      replace N6 := Lib.hid (N6.out.below hb11)
      replace N7 := Lib.hid (N7.out.below hb11)
      replace N8 := Lib.hid (N8.out.below hb11)
      replace Z6 := Lib.hid (Nat.le_trans Z6.out hb11.size)
      replace Z7 := Lib.hid (Nat.le_trans Z7.out hb11.size)
      go_wp2_with fail
      refine (HT1.out _ B11).mono ?_
      rintro e w12 ⟨hb12, v12, bs12, rfl, hR12, hN12⟩
      obtain ⟨Ad12, cap12, rfl, _, _⟩ := sliceK_form hR12
      have B12 := B11.trans (hb12.mono B11.size)
      replace RS := Lib.hid (atomsK_good.below RS.out hb12)
      replace R6 := Lib.hid (rulesK_good.below R6.out hb12)
      replace R7 := Lib.hid (atomsK_good.below R7.out hb12)
      replace R8 := Lib.hid (atomsK_good.below R8.out hb12)
      replace N6 := Lib.hid (N6.out.below hb12)
      replace N7 := Lib.hid (N7.out.below hb12)
      replace N8 := Lib.hid (N8.out.below hb12)
      replace Z6 := Lib.hid (Nat.le_trans Z6.out hb12.size)
      replace Z7 := Lib.hid (Nat.le_trans Z7.out hb12.size)
      go_wp2_with fail
      refine (eqAtomS_same a1 _ _ bs7 bs12 _ R7.out hR12).mono ?_
      rintro e w13 ⟨rfl, hb13⟩
      have B13 := B12.trans (hb13.mono B12.size)
      clear hR12 hN12
      replace RS := Lib.hid (atomsK_good.below RS.out hb13)
      replace R6 := Lib.hid (rulesK_good.below R6.out hb13)
      replace R7 := Lib.hid (atomsK_good.below R7.out hb13)
      replace R8 := Lib.hid (atomsK_good.below R8.out hb13)
      replace N6 := Lib.hid (N6.out.below hb13)
      replace N7 := Lib.hid (N7.out.below hb13)
      replace N8 := Lib.hid (N8.out.below hb13)
      replace Z6 := Lib.hid (Nat.le_trans Z6.out hb13.size)
      replace Z7 := Lib.hid (Nat.le_trans Z7.out hb13.size)
      go_wp2_with fail
      refine (markRuleS_any a0 _ bs6 1 _ _ R6.out N6.out (by have := HB0.out; have := HB1.out; have := cntRs_le a0;  omega)).mono ?_
      rintro e w14 ⟨hk14, _, _, hK14⟩
      obtain ⟨k14, he14⟩ : ∃ n : Nat, n = 1 + sumL cntRu a0 := ⟨_, rfl⟩
      rw [← he14] at hk14
      have kbk14 : Hid (k14 ≤ 10000000) := Lib.hid (by have := HB0.out; have := HB1.out; have := cntRs_le a0;  omega)
      have knk14 : ¬ ((k14 : Int) < 0) := by omega
      clear he14
      subst hk14
      replace RS := Lib.hid (Good.kept atomsK_good RS.out hK14 (fun b hb hc => by have := US.out _ hb; have := L6.out _ hc; have := U6.out _ hc; have := Q0.out; have := Q1.out; have := Q2.out; have := Q3.out; omega))
      replace R7 := Lib.hid (Good.kept atomsK_good R7.out hK14 (fun b hb hc => by have := L7.out _ hb; have := U7.out _ hb; have := L6.out _ hc; have := U6.out _ hc; have := Q0.out; have := Q1.out; have := Q2.out; have := Q3.out; omega))
      replace R8 := Lib.hid (Good.kept atomsK_good R8.out hK14 (fun b hb hc => by have := L8.out _ hb; have := U8.out _ hb; have := L6.out _ hc; have := U6.out _ hc; have := Q0.out; have := Q1.out; have := Q2.out; have := Q3.out; omega))
      replace N7 := Lib.hid (New.kept N7.out hK14 (fun b hb hc => by have := L7.out _ hb; have := U7.out _ hb; have := L6.out _ hc; have := U6.out _ hc; have := Q0.out; have := Q1.out; have := Q2.out; have := Q3.out; omega))
      replace N8 := Lib.hid (New.kept N8.out hK14 (fun b hb hc => by have := L8.out _ hb; have := U8.out _ hb; have := L6.out _ hc; have := U6.out _ hc; have := Q0.out; have := Q1.out; have := Q2.out; have := Q3.out; omega))
      replace Z6 := Lib.hid (Nat.le_trans Z6.out hK14.size)
      replace Z7 := Lib.hid (Nat.le_trans Z7.out hK14.size)
      clear R6 N6
      have B14 := B13.trans (hK14.below (fun b hb => by have := L6.out _ hb; have := U6.out _ hb; have := B13.size; have := Q0.out; have := Q1.out; have := Q2.out; have := Q3.out; omega) B13.size)
      go_wp2_with fail
      refine (markAtomS_any a1 _ bs7 k14 _ _ R7.out N7.out (by have := kbk14.out; have := HB0.out; have := HB1.out; have := cntAs_le a1;  omega)).mono ?_
      rintro e w15 ⟨hk15, _, _, hK15⟩
      obtain ⟨k15, he15⟩ : ∃ n : Nat, n = k14 + sumL cntA a1 := ⟨_, rfl⟩
      rw [← he15] at hk15
      have kbk15 : Hid (k15 ≤ 20000000) := Lib.hid (by have := kbk14.out; have := HB0.out; have := HB1.out; have := cntAs_le a1;  omega)
      have knk15 : ¬ ((k15 : Int) < 0) := by omega
      clear he15
      subst hk15
      replace RS := Lib.hid (Good.kept atomsK_good RS.out hK15 (fun b hb hc => by have := US.out _ hb; have := L7.out _ hc; have := U7.out _ hc; have := Q0.out; have := Q1.out; have := Q2.out; have := Q3.out; omega))
      replace R8 := Lib.hid (Good.kept atomsK_good R8.out hK15 (fun b hb hc => by have := L8.out _ hb; have := U8.out _ hb; have := L7.out _ hc; have := U7.out _ hc; have := Q0.out; have := Q1.out; have := Q2.out; have := Q3.out; omega))
      replace N8 := Lib.hid (New.kept N8.out hK15 (fun b hb hc => by have := L8.out _ hb; have := U8.out _ hb; have := L7.out _ hc; have := U7.out _ hc; have := Q0.out; have := Q1.out; have := Q2.out; have := Q3.out; omega))
      replace Z6 := Lib.hid (Nat.le_trans Z6.out hK15.size)
      replace Z7 := Lib.hid (Nat.le_trans Z7.out hK15.size)
      clear R7 N7
      have B15 := B14.trans (hK15.below (fun b hb => by have := L7.out _ hb; have := U7.out _ hb; have := B14.size; have := Q0.out; have := Q1.out; have := Q2.out; have := Q3.out; omega) B14.size)
      go_wp2_with fail
      refine (eqAtomS_same (onceV a0 a1) _ _ bs8 bs5 _ R8.out RS.out).mono ?_
      rintro e w16 ⟨rfl, hc16⟩
      have hb16 := hc16
      have B16 := B15.trans (hb16.mono B15.size)
      replace RS := Lib.hid (atomsK_good.below RS.out hb16)
      replace R8 := Lib.hid (atomsK_good.below R8.out hb16)
      replace N8 := Lib.hid (N8.out.below hb16)
      replace Z6 := Lib.hid (Nat.le_trans Z6.out hb16.size)
      replace Z7 := Lib.hid (Nat.le_trans Z7.out hb16.size)
      go_wp2_with fail
      refine (markAtomS_any (onceV a0 a1) _ bs8 1 _ _ R8.out N8.out (by have := HVB.out; omega)).mono ?_
      rintro e w17 ⟨hk17, hR17, _, hK17⟩
      have MH : ∀ w', Below w17.heap.size w17 w' → Calls Tryz.prog 20 #[.slice Ad8 (onceV a0 a1).length cap8, .int .i64 1] w' (Held (1 + sumL cntA (onceV a0 a1)) w') := fun w' hb => heldAtomS_any (onceV a0 a1) _ bs8 1 w' (atomsK_good.below hR17 hb) (by have := HVB.out; omega)
      obtain ⟨n, hn⟩ : ∃ n : Nat, n = 1 + sumL cntA (onceV a0 a1) := ⟨_, rfl⟩
      rw [← hn] at hk17
      rw [← hn] at MH
      subst hk17
      have hn0 : ¬ ((n : Int) < 0) := by omega
      clear hn
      have HMH := Lib.hid MH
      clear MH hR17
      replace RS := Lib.hid (Good.kept atomsK_good RS.out hK17 (fun b hb hc => by have := US.out _ hb; have := L8.out _ hc; have := U8.out _ hc; have := Q0.out; have := Q1.out; have := Q2.out; have := Q3.out; omega))
      replace Z6 := Lib.hid (Nat.le_trans Z6.out hK17.size)
      replace Z7 := Lib.hid (Nat.le_trans Z7.out hK17.size)
      clear R8 N8
      have B17 := B16.trans (hK17.below (fun b hb => by have := L8.out _ hb; have := U8.out _ hb; have := B16.size; have := Q0.out; have := Q1.out; have := Q2.out; have := Q3.out; omega) B16.size)
      go_wp2_with fail
      refine (HMH.out _ (Below.refl _ _)).mono ?_
      rintro e w18 ⟨rfl, hb18⟩
      have B18 := B17.trans (hb18.mono B17.size)
      replace RS := Lib.hid (atomsK_good.below RS.out hb18)
      replace Z6 := Lib.hid (Nat.le_trans Z6.out hb18.size)
      replace Z7 := Lib.hid (Nat.le_trans Z7.out hb18.size)
      have HM : Hid (Below w17.heap.size w17 w18) := Lib.hid hb18
      go_wp2_with fail
      refine (HT0.out _ B18).mono ?_
      rintro e w19 ⟨hb19, v19, bs19, rfl, hR19, hN19⟩
      obtain ⟨Ad19, cap19, rfl, _, _⟩ := sliceK_form hR19
      have B19 := B18.trans (hb19.mono B18.size)
      replace RS := Lib.hid (atomsK_good.below RS.out hb19)
      replace Z6 := Lib.hid (Nat.le_trans Z6.out hb19.size)
      replace Z7 := Lib.hid (Nat.le_trans Z7.out hb19.size)
      replace HM := Lib.hid (HM.out.trans (hb19.mono HM.out.size))
      go_wp2_with fail
      refine (HT1.out _ B19).mono ?_
      rintro e w20 ⟨hb20, v20, bs20, rfl, hR20, hN20⟩
      obtain ⟨Ad20, cap20, rfl, _, _⟩ := sliceK_form hR20
      have B20 := B19.trans (hb20.mono B19.size)
      replace RS := Lib.hid (atomsK_good.below RS.out hb20)
      replace Z6 := Lib.hid (Nat.le_trans Z6.out hb20.size)
      replace Z7 := Lib.hid (Nat.le_trans Z7.out hb20.size)
      replace hR19 := rulesK_good.below hR19 hb20
      replace HM := Lib.hid (HM.out.trans (hb20.mono HM.out.size))
      go_wp2_with fail
      refine (once_impl a0 a1 _ _ bs19 bs20 _ hR19 hR20 (HG.out.below B20)).mono ?_
      rintro e w21 ⟨hb21, v21, bs21, rfl, hR21, hN21⟩
      obtain ⟨Ad21, cap21, rfl, _, _⟩ := sliceK_form hR21
      have B21 := B20.trans (hb21.mono B20.size)
      replace RS := Lib.hid (atomsK_good.below RS.out hb21)
      replace Z6 := Lib.hid (Nat.le_trans Z6.out hb21.size)
      replace Z7 := Lib.hid (Nat.le_trans Z7.out hb21.size)
      have hq21 : Below w20.heap.size w20 w21 := hb21
      clear hR19 hN19 hR20 hN20
      replace HM := Lib.hid (HM.out.trans (hq21.mono HM.out.size))
      have hR21' := Lib.hid hR21
      clear hR21 hN21
      have R21 := hR21'
      clear hR21'
      go_wp2_with fail
      refine (eqAtomS_same (onceV a0 a1) _ _ bs21 bs5 _ R21.out RS.out).mono ?_
      rintro e w22 ⟨rfl, hc22⟩
      clear RS R21
      have hb22 := hc22
      have B22 := B21.trans (hb22.mono B21.size)
      replace Z6 := Lib.hid (Nat.le_trans Z6.out hb22.size)
      replace Z7 := Lib.hid (Nat.le_trans Z7.out hb22.size)
      replace HM := Lib.hid (HM.out.trans (hb22.mono HM.out.size))
      go_wp2_with fail
      refine (HMH.out _ HM.out).mono ?_
      rintro e w23 ⟨rfl, hb23⟩
      have B23 := B22.trans (hb23.mono B22.size)
      go_wp2
      go_ret
      exact ⟨rfl, B23⟩

end Go.Proofs.YtjjfafgaphloaaaGreatDoor
