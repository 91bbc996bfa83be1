/- The walk of the law FnExactProgCheck. -/
import Derived.Laws.EntriesVeiled
import Derived.Deep.RegionHeld3
import Derived.Deep.RegionWith
import Derived.BigQuiet
import Derived.Deep.DrawnRows
import Derived.WalkKit
import Derived.WalkSpells
import Derived.WalkLawsBesides
import Derived.Lib.Hide
import Derived.Lib.IndexBytes
import Derived.Deep.Slices
import Derived.Deep.Fields
import Derived.ChangeSame
import Derived.Deep.Draws
import Derived.Lib.Bytealg
import Derived.Test.YtbcepahpehadeaaDoorProgC
import Derived.Test.YtbcepahpehadeaaDoorChkS
import Derived.Test.YtbcepahpehadeaaDoorHRuleS
namespace Go.Proofs.YtbcepahpehadeaaDoor
open Go.RowKit D
set_option linter.unusedVariables false
attribute [local go_sem ↓] Go.wp_at_zero Go.wp_at_succ

set_option maxHeartbeats 1000000 in
theorem exactProgCheck_walk (xs : List Ru) (v : Value) (bs : List Nat) (w : World) (h : rulesK w [v] xs bs) (hg : LaidE w) :
    Calls Tryd.prog 3 #[v] w fun e w' => e = .returned (.bool true) ∧ Below w.heap.size w w' := by
  obtain ⟨Ad, cap, rfl, hl, hm⟩ := sliceK_form h
  have hsz := szRuleS_any xs _ bs 1048576 w h (by omega) (by omega)
  have hto := fun (hl : bulkRs xs ≤ 1048576) w' (hb : Below w.heap.size w w') => toRuleS_any xs _ bs w' (rulesK_good.below h hb) hl
  have HG := Lib.hid hg
  clear h hm hg
  go_enter Tryd.func3, Tryd.ntmps3
  go_wp2_with fail
  refine hsz.mono ?_
  rintro e w1 ⟨B1, r, rfl, hr⟩
  rcases hr with rfl | ⟨hr0, hr1⟩
  · go_wp2
    go_ret
    exact ⟨rfl, B1⟩
  · have hT := hto (by omega)
    clear hto hr1 hsz
    go_wp2_with fail
    refine (hT _ B1).mono ?_
    rintro e w2 ⟨hb2, v2, bs2, rfl, hR2, hN2⟩
    have B2 := B1.trans (hb2.mono B1.size)
    obtain ⟨Ad2, cap2, rfl, _, _⟩ := sliceK_form hR2
    go_wp2_with fail
    refine (progCheck_spec xs _ bs2 _ hR2).mono ?_
    rintro e w3 ⟨rfl, hb3⟩
    have B3 := B2.trans (hb3.mono B2.size)
    clear hR2 hN2
    go_wp2_with fail
    refine (hT _ B3).mono ?_
    rintro e w4 ⟨hb4, v4, bs4, rfl, hR4, hN4⟩
    have B4 := B3.trans (hb4.mono B3.size)
    obtain ⟨Ad4, cap4, rfl, _, _⟩ := sliceK_form hR4
    go_wp2_with fail
    refine (progCheck_impl xs _ bs4 _ hR4 (HG.out.below B4)).mono ?_
    rintro e w5 ⟨rfl, hb5⟩
    have B5 := B4.trans (hb5.mono B4.size)
    have hR5 := Lib.hid (rulesK_good.below hR4 hb5)
    clear hR4 hN4
    go_wp2_with fail
    refine (hT _ B5).mono ?_
    rintro e w6 ⟨hb6, v6, bs6, rfl, hR6, hN6⟩
    have B6 := B5.trans (hb6.mono B5.size)
    obtain ⟨Ad6, cap6, rfl, _, _⟩ := sliceK_form hR6
    have hq := eqRuleS_same xs _ _ bs4 bs6 w6 (rulesK_good.below hR5.out hb6) hR6
    clear hR6 hN6 hT hR5
    go_wp2_with fail
    refine hq.mono ?_
    rintro e w7 ⟨rfl, hb7⟩
    have B7 := B6.trans (hb7.mono B6.size)
    go_wp2
    go_ret
    exact ⟨rfl, B7⟩

end Go.Proofs.YtbcepahpehadeaaDoor
