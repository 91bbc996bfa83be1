/- The walk of impl.AskGet. -/
import Derived.WalkKit
import Derived.Lib.Hide
import Derived.WalkSpells
import Derived.WalkLawsBesides
import Derived.BigQuiet
import Derived.Deep.RegionHeld3
import Derived.Deep.RegionWith
import Derived.Deep.DrawnRows
import Derived.Test.YtmhjabjiojfgnaaDoorProg
import Derived.Test.YtmhjabjiojfgnaaDoorRGetI
import Derived.Test.YtmhjabjiojfgnaaDoorAskGP
import Derived.Test.YtmhjabjiojfgnaaDoorBound
namespace Go.Proofs.YtmhjabjiojfgnaaDoor
open Go.RowKit D
set_option linter.unusedVariables false
attribute [local go_sem ↓] Go.wp_at_zero Go.wp_at_succ

theorem D.amake_none {w W : World} (hb : Below w.heap.size w W) : MakesPs none w.heap.size w (.returned (.tuple #[.slice none 0 0, .bool false])) W :=
  ⟨hb, _, [], rfl, ⟨none, 0, rfl, Nat.le_refl _, Nat.zero_le _, fun _ => rfl, fun h => absurd rfl h⟩, New.nil _ _⟩

set_option maxRecDepth 100000 in
set_option maxHeartbeats 2000000 in
theorem askGet_impl (s : ByteArray) (m : Int) (w : World) (hs : s.size ≤ 1048576) (hm : w.cell? ⟨0, 0, none⟩ = some (.int .i64 m)) :
    Calls Tryd.prog 23 #[.string s] w (MakesPs (askI s.data.toList) w.heap.size w) := by
  obtain ⟨t, rfl⟩ : ∃ t, s = toB t := ⟨s.data.toList, (toB_of s).symm⟩
  rw [toB_data]
  have hts : t.length ≤ 1048576 := by have h1 : (toB t).size = t.length := List.size_toArray; omega
  have hbg := bodyGet_any t m w hts hm
  have HG : Hid (askI t = match bodyI 4 t with | some ps => if askOk ps then some ps else none | none => none) := Lib.hid rfl
  generalize askI t = G at *
  generalize bodyI 4 t = bo at *
  generalize toB t = s at *
  clear hm hs hts
  go_enter Tryd.func23, Tryd.ntmps23
  go_wp2_with fail
  refine hbg.mono ?_
  rintro e w1 ⟨hb1, v1, b1, rfl, hR1, hN1⟩
  obtain ⟨A1, c1, rfl, _⟩ := sliceK_form hR1
  have HB1 := Lib.hid hb1
  clear hbg hb1
  cases bo with
  | none =>
    have HGN : Hid (G = none) := Lib.hid HG.out
    clear HG hR1 hN1
    go_wp2
    go_ret2
    rw [HGN.out]
    exact amake_none HB1.out
  | some ps =>
    have hok := askOk_impl ps _ b1 w1 hR1
    have HR1 := Lib.hid (And.intro hR1 hN1)
    have HG2 : Hid (G = if askOk ps then some ps else none) := Lib.hid HG.out
    clear HG hR1 hN1
    generalize askOk ps = k at *
    go_wp2_with fail
    refine hok.mono ?_
    rintro e w2 ⟨rfl, hb2⟩
    have HB2 := Lib.hid (HB1.out.trans (hb2.mono HB1.out.size))
    have HR2 := Lib.hid (And.intro (partsK_good.below HR1.out.1 hb2) (HR1.out.2.below hb2))
    clear hok hb2
    cases k
    · have HGN : Hid (G = none) := Lib.hid HG2.out
      go_wp2
      go_ret2
      rw [HGN.out]
      exact amake_none HB2.out
    · have HGE : Hid (G = some ps) := Lib.hid HG2.out
      go_wp2
      go_ret2
      rw [HGE.out]
      exact ⟨HB2.out, _, b1, rfl, HR2.out.1, HR2.out.2⟩

end Go.Proofs.YtmhjabjiojfgnaaDoor
