/- The walk of the law FnExactProgHeads. -/
import Derived.Laws.EntriesVeiled
import Derived.Deep.RegionHeld3
import Derived.Deep.RegionWith
import Derived.BigQuiet
import Derived.Deep.DrawnRows
import Derived.WalkKit
import Derived.WalkSpells
import Derived.WalkLawsBesides
import Derived.Lib.Hide
import Derived.Lib.IndexBytes
import Derived.Deep.Slices
import Derived.Deep.Fields
import Derived.ChangeSame
import Derived.Deep.Draws
import Derived.Lib.Bytealg
import Derived.Test.YtbcepahpehadeaaDoorHdI
import Derived.Test.YtbcepahpehadeaaDoorHdS
import Derived.Test.YtbcepahpehadeaaDoorHRuleS
namespace Go.Proofs.YtbcepahpehadeaaDoor
open Go.RowKit D
set_option linter.unusedVariables false
attribute [local go_sem ↓] Go.wp_at_zero Go.wp_at_succ

set_option maxHeartbeats 1000000 in
theorem exactProgHeads_core (s0 : ByteArray) (xs : List Ru) (v : Value) (bs : List Nat) (w : World) (h : rulesK w [v] xs bs) (hg : LaidE w) (hns : s0.size ≤ 1048576) :
    Calls Tryd.prog 5 #[v, .string s0] w fun e w' => e = .returned (.bool true) ∧ Below w.heap.size w w' := by
  obtain ⟨Ad, cap, rfl, hl, hm⟩ := sliceK_form h
  have hsz := szRuleS_any xs _ bs 1048576 w h (by omega) (by omega)
  have hto := fun (hl : bulkRs xs ≤ 1048576) w' (hb : Below w.heap.size w w') => toRuleS_any xs _ bs w' (rulesK_good.below h hb) hl
  have HG := Lib.hid hg
  have HNS := Lib.hid hns
  have his : ¬ (1048576 : Int) < (s0.size : Int) := by omega
  clear h hm hg hns
  go_enter Tryd.func5, Tryd.ntmps5
  go_wp2_with fail
  refine hsz.mono ?_
  rintro e w1 ⟨B1, r, rfl, hr⟩
  rcases hr with rfl | ⟨hr0, hr1⟩
  · go_wp2
    go_ret
    exact ⟨rfl, B1⟩
  · have hT := hto (by omega)
    clear hto hr1 hsz
    go_wp2_with fail
    refine (hT _ B1).mono ?_
    rintro e w2 ⟨hb2, v2, bs2, rfl, hR2, hN2⟩
    have B2 := B1.trans (hb2.mono B1.size)
    obtain ⟨Ad2, cap2, rfl, _, _⟩ := sliceK_form hR2
    go_wp2_with fail
    refine (progHeads_spec xs s0 _ bs2 _ hR2).mono ?_
    rintro e w3 ⟨rfl, hb3⟩
    have B3 := B2.trans (hb3.mono B2.size)
    clear hR2 hN2
    go_wp2_with fail
    refine (hT _ B3).mono ?_
    rintro e w4 ⟨hb4, v4, bs4, rfl, hR4, hN4⟩
    have B4 := B3.trans (hb4.mono B3.size)
    obtain ⟨Ad4, cap4, rfl, _, _⟩ := sliceK_form hR4
    go_wp2_with fail
    refine (progHeads_impl xs s0 _ bs4 _ hR4 (HG.out.below B4) (by have := HNS.out; unfold maxLen; omega)).mono ?_
    rintro e w5 ⟨rfl, hb5⟩
    have B5 := B4.trans (hb5.mono B4.size)
    have hR5 := Lib.hid (rulesK_good.below hR4 hb5)
    clear hR4 hN4
    go_wp2_with fail
    refine (hT _ B5).mono ?_
    rintro e w6 ⟨hb6, v6, bs6, rfl, hR6, hN6⟩
    have B6 := B5.trans (hb6.mono B5.size)
    obtain ⟨Ad6, cap6, rfl, _, _⟩ := sliceK_form hR6
    have hq := eqRuleS_same xs _ _ bs4 bs6 w6 (rulesK_good.below hR5.out hb6) hR6
    clear hR6 hN6 hT hR5
    go_wp2_with fail
    refine hq.mono ?_
    rintro e w7 ⟨rfl, hb7⟩
    have B7 := B6.trans (hb7.mono B6.size)
    go_wp2
    go_ret
    exact ⟨rfl, B7⟩

theorem exactProgHeads_walk (xs : List Ru) (v : Value) (bs : List Nat) (s0 : ByteArray) (w : World) (h : rulesK w [v] xs bs) (hg : LaidE w) :
    Calls Tryd.prog 5 #[v, .string s0] w fun e w' => e = .returned (.bool true) ∧ Below w.heap.size w w' := by
  by_cases hs : s0.size ≤ 1048576
  · exact exactProgHeads_core s0 xs v bs w h hg hs
  · have his : (1048576 : Int) < (s0.size : Int) := by omega
    obtain ⟨Ad, cap, rfl, hl, hm⟩ := sliceK_form h
    clear h hg hs hl hm
    go_enter Tryd.func5, Tryd.ntmps5
    go_wp2
    go_ret
    exact ⟨rfl, Below.refl _ _⟩

end Go.Proofs.YtbcepahpehadeaaDoor
