/- The walk of the law FnExactFactsFit. -/
import Derived.Laws.EntriesVeiled
import Derived.Deep.RegionHeld3
import Derived.Deep.RegionWith
import Derived.BigQuiet
import Derived.Deep.DrawnRows
import Derived.WalkKit
import Derived.WalkSpells
import Derived.WalkLawsBesides
import Derived.Lib.Hide
import Derived.Test.YtbcepahpehadeaaGreatDoorFit
import Derived.Test.YtbcepahpehadeaaGreatDoorHAtomS
import Derived.Test.YtbcepahpehadeaaGreatDoorHRuleS
namespace Go.Proofs.YtbcepahpehadeaaGreatDoor
open Go.RowKit D
set_option linter.unusedVariables false
attribute [local go_sem ↓] Go.wp_at_zero Go.wp_at_succ

set_option maxHeartbeats 1000000 in
theorem exactFactsFit_walk (rs : List Ru) (v : Value) (bs : List Nat) (xs : List A) (vx : Value) (bx : List Nat) (w : World) (h : rulesK w [v] rs bs) (hx : atomsK w [vx] xs bx) (hg : LaidE w) :
    Calls Tryz.prog 3 #[v, vx] w fun e w' => e = .returned (.bool true) ∧ Below w.heap.size w w' := by
  obtain ⟨Ad, cap, rfl, hl, hm⟩ := sliceK_form h
  obtain ⟨Ax, capx, rfl, hlx, hmx⟩ := sliceK_form hx
  have hsz := szRuleS_any rs _ bs 1048576 w h (by omega) (by omega)
  have HSX := Lib.hid fun l (g0 : 0 ≤ l) (g1 : l ≤ 1048576) w' (hb : Below w.heap.size w w') => szAtomS_any xs _ bx l w' (atomsK_good.below hx hb) g0 g1
  have hto := fun (hl : bulkRs rs ≤ 1048576) w' (hb : Below w.heap.size w w') => toRuleS_any rs _ bs w' (rulesK_good.below h hb) hl
  have htx := fun (hl : bulkAs xs ≤ 1048576) w' (hb : Below w.heap.size w w') => toAtomS_any xs _ bx w' (atomsK_good.below hx hb) hl
  have HG := Lib.hid hg
  clear h hx hm hmx hg
  go_enter Tryz.func3, Tryz.ntmps3
  go_wp2_with fail
  refine hsz.mono ?_
  rintro e w1 ⟨B1, r, rfl, hr⟩
  clear hsz
  rcases hr with rfl | ⟨hr0, hr1⟩
  · go_wp2
    go_ret
    exact ⟨rfl, B1⟩
  · skip
    go_wp2_with fail
    refine (HSX.out _ (by omega) (by omega) _ B1).mono ?_
    rintro e w2 ⟨hb2, r2, rfl, hr2⟩
    have B2 := B1.trans (hb2.mono B1.size)
    clear HSX
    rcases hr2 with rfl | ⟨hr20, hr21⟩
    · go_wp2
      go_ret
      exact ⟨rfl, B2⟩
    · have HT := Lib.hid (hto (by omega))
      have HX := Lib.hid (htx (by omega))
      clear hto htx hr1 hr21
      go_wp2_with fail
      refine (HT.out _ B2).mono ?_
      rintro e w3 ⟨hb3, v3, bs3, rfl, hR3, hN3⟩
      have B3 := B2.trans (hb3.mono B2.size)
      obtain ⟨Ad3, cap3, rfl, _, _⟩ := sliceK_form hR3
      go_wp2_with fail
      refine (HX.out _ B3).mono ?_
      rintro e w4 ⟨hb4, v4, bs4, rfl, hR4, hN4⟩
      have B4 := B3.trans (hb4.mono B3.size)
      obtain ⟨Ad4, cap4, rfl, _, _⟩ := sliceK_form hR4
      go_wp2_with fail
      refine (factsFit_spec rs xs _ _ bs3 bs4 _ (rulesK_good.below hR3 hb4) hR4).mono ?_
      rintro e w5 ⟨rfl, hb5⟩
      have B5 := B4.trans (hb5.mono B4.size)
      clear hR3 hN3 hR4 hN4
      go_wp2_with fail
      refine (HT.out _ B5).mono ?_
      rintro e w6 ⟨hb6, v6, bs6, rfl, hR6, hN6⟩
      have B6 := B5.trans (hb6.mono B5.size)
      obtain ⟨Ad6, cap6, rfl, _, _⟩ := sliceK_form hR6
      go_wp2_with fail
      refine (HX.out _ B6).mono ?_
      rintro e w7 ⟨hb7, v7, bs7, rfl, hR7, hN7⟩
      have B7 := B6.trans (hb7.mono B6.size)
      obtain ⟨Ad7, cap7, rfl, _, _⟩ := sliceK_form hR7
      have R6 := Lib.hid (rulesK_good.below hR6 hb7)
      have R7 := Lib.hid hR7
      clear hR6 hN6 hR7 hN7
      go_wp2_with fail
      refine (factsFit_impl rs xs _ _ bs6 bs7 _ R6.out R7.out (HG.out.below B7)).mono ?_
      rintro e w8 ⟨rfl, hb8⟩
      have B8 := B7.trans (hb8.mono B7.size)
      replace R6 := Lib.hid (rulesK_good.below R6.out hb8)
      replace R7 := Lib.hid (atomsK_good.below R7.out hb8)
      go_wp2_with fail
      refine (HT.out _ B8).mono ?_
      rintro e w9 ⟨hb9, v9, bs9, rfl, hR9, hN9⟩
      have B9 := B8.trans (hb9.mono B8.size)
      obtain ⟨Ad9, cap9, rfl, _, _⟩ := sliceK_form hR9
      have R9 := Lib.hid hR9
      replace R6 := Lib.hid (rulesK_good.below R6.out hb9)
      replace R7 := Lib.hid (atomsK_good.below R7.out hb9)
      clear hR9 hN9
      go_wp2_with fail
      refine (eqRuleS_same rs _ _ bs6 bs9 _ R6.out R9.out).mono ?_
      rintro e w10 ⟨rfl, hb10⟩
      have B10 := B9.trans (hb10.mono B9.size)
      replace R7 := Lib.hid (atomsK_good.below R7.out hb10)
      go_wp2_with fail
      refine (HX.out _ B10).mono ?_
      rintro e w11 ⟨hb11, v11, bs11, rfl, hR11, hN11⟩
      have B11 := B10.trans (hb11.mono B10.size)
      obtain ⟨Ad11, cap11, rfl, _, _⟩ := sliceK_form hR11
      have R11 := Lib.hid hR11
      replace R7 := Lib.hid (atomsK_good.below R7.out hb11)
      clear hR11 hN11
      go_wp2_with fail
      refine (eqAtomS_same xs _ _ bs7 bs11 _ R7.out R11.out).mono ?_
      rintro e w12 ⟨rfl, hb12⟩
      have B12 := B11.trans (hb12.mono B11.size)
      go_wp2
      go_ret
      exact ⟨rfl, B12⟩

end Go.Proofs.YtbcepahpehadeaaGreatDoor
