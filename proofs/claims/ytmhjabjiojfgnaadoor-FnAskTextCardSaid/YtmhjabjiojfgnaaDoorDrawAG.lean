/- The walk of DrawAskGet. -/
import Derived.Laws.EntriesVeiled
import Derived.Deep.RegionHeld3
import Derived.Deep.RegionWith
import Derived.Deep.RegionLaw
import Derived.BigQuiet
import Derived.Deep.QuietTactic
import Derived.Deep.DrawnRows
import Derived.WalkKit
import Derived.WalkSpells
import Derived.WalkLawsBesides
import Derived.Lib.Hide
import Derived.Test.YtmhjabjiojfgnaaDoorCutD
import Derived.Test.YtmhjabjiojfgnaaDoorDrawB
import Derived.Test.YtmhjabjiojfgnaaDoorDrawS
import Derived.Test.YtmhjabjiojfgnaaDoorAskP
namespace Go.Proofs.YtmhjabjiojfgnaaDoor
open Go.RowKit D
set_option linter.unusedVariables false
attribute [local go_sem ↓] Go.wp_at_zero Go.wp_at_succ

set_option maxRecDepth 100000 in
set_option maxHeartbeats 1000000 in
theorem drawAskGet_any (v : Value) (cs : List UInt8) (bs : List Nat) (w : World) (h : bytesK w [v] cs bs) (hn : cs.length ≤ 1048576) :
    Calls Tryd.prog 38 #[v] w (TextR 1000 w) := by
  have ho := open_any v cs bs w h hn
  clear h
  go_enter Tryd.func38, Tryd.ntmps38
  go_wp2_with fail
  refine ho.mono ?_
  rintro e w3 ⟨rfl, hR, hb⟩
  have HB := Lib.hid hb
  have hA3 : Below w3.heap.size w3 (w3.alloc (.cells #[.string ⟨#[101]⟩, .string ⟨#[112]⟩, .string ⟨#[122]⟩] 9)) := (Below.refl _ _).alloc (Nat.le_refl _) _
  have hgl := hR.lt
  have h3 := l10Body_any _ 0 [⟨#[101]⟩, ⟨#[112]⟩, ⟨#[122]⟩] 3 w3.heap.size _ (hR.below hA3) (heap_alloc_new w3 _) (Nat.ne_of_lt hgl) (by omega) rfl (by decide) (by decide) (by decide)
  replace HB := Lib.hid (HB.out.trans (hA3.mono HB.out.size))
  clear hR hA3 ho hb
  go_wp2_with fail
  refine h3.mono ?_
  rintro e w4 ⟨xs, v4, p4, rfl, hx1, hx3, hp4, hF⟩
  obtain ⟨A4, c4, rfl⟩ := hF.shape
  obtain ⟨b4, hs4, _⟩ := hF.parts
  have hbk := body_bulk hF.small
  have h4 := l5Text_any xs _ _ w4 hs4 (by omega)
  have hsz : (⟨(bodyL xs).toArray⟩ : ByteArray).size ≤ 984 := by
    have e1 : (⟨(bodyL xs).toArray⟩ : ByteArray).size = (bodyL xs).length := List.size_toArray
    have e2 := bodyL_small xs hF.small
    omega
  replace HB := Lib.hid (HB.out.trans (hF.kept.below (by simp) HB.out.size))
  have HR4 := Lib.hid hF.rdr
  clear h3 hF hs4 hbk
  go_wp2_with fail
  refine h4.mono ?_
  rintro e w5 ⟨rfl, hb5⟩
  have h5 := l10Cut_any _ p4 ⟨(bodyL xs).toArray⟩ w5 (HR4.out.below hb5) (by omega) (by omega)
  replace HB := Lib.hid (HB.out.trans (hb5.mono HB.out.size))
  clear h4 hb5
  generalize (⟨(bodyL xs).toArray⟩ : ByteArray) = s4 at *
  go_wp2_with fail
  refine h5.mono ?_
  rintro e w6 ⟨t, p5, rfl, ht, _, _, hK⟩
  replace HB := Lib.hid (HB.out.trans (hK.below (by simp) HB.out.size))
  clear h5 hK
  go_wp2
  go_ret
  exact ⟨t, rfl, by omega, HB.out⟩

end Go.Proofs.YtmhjabjiojfgnaaDoor
