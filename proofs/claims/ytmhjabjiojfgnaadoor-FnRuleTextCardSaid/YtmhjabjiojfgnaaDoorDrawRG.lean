/- The walk of DrawRuleGet. -/
import Derived.Laws.EntriesVeiled
import Derived.Deep.RegionHeld3
import Derived.Deep.RegionWith
import Derived.Deep.RegionLaw
import Derived.BigQuiet
import Derived.Deep.QuietTactic
import Derived.Deep.DrawnRows
import Derived.WalkKit
import Derived.WalkSpells
import Derived.WalkLawsBesides
import Derived.Lib.Hide
import Derived.Test.YtmhjabjiojfgnaaDoorCutD
import Derived.Test.YtmhjabjiojfgnaaDoorDrawB
import Derived.Test.YtmhjabjiojfgnaaDoorDrawS
import Derived.Test.YtmhjabjiojfgnaaDoorRPut3
namespace Go.Proofs.YtmhjabjiojfgnaaDoor
open Go.RowKit D
set_option linter.unusedVariables false
attribute [local go_sem ↓] Go.wp_at_zero Go.wp_at_succ

set_option maxRecDepth 100000 in
set_option maxHeartbeats 1000000 in
theorem drawRuleGet_any (v : Value) (cs : List UInt8) (bs : List Nat) (w : World) (h : bytesK w [v] cs bs) (hn : cs.length ≤ 1048576) :
    Calls Tryd.prog 31 #[v] w (TextR 1000 w) := by
  have ho := open_any v cs bs w h hn
  clear h
  go_enter Tryd.func31, Tryd.ntmps31
  go_wp2_with fail
  refine ho.mono ?_
  rintro e w1 ⟨rfl, hR, hb⟩
  have HB := Lib.hid hb
  have hgl1 := hR.lt
  have h2 := l10Atom_s ⟨#[116]⟩ true _ 0 w1 hR (by decide) (by decide)
  clear ho hR hb
  go_wp2_with fail
  refine h2.mono ?_
  rintro e w3 ⟨a, v2, L, p', rfl, hs2, hl, hC, hR, hp, hK, hsm⟩
  obtain ⟨Av, cv, rfl⟩ := own_shape hC.own
  replace HB := Lib.hid (HB.out.trans (hK.below (by simp) HB.out.size))
  have hA3 : Below w3.heap.size w3 (w3.alloc (.cells #[.string ⟨#[101]⟩, .string ⟨#[112]⟩, .string ⟨#[122]⟩] 9)) := (Below.refl _ _).alloc (Nat.le_refl _) _
  have hgl := hR.lt
  have h3 := l10Body_any _ p' [⟨#[101]⟩, ⟨#[112]⟩, ⟨#[122]⟩] 3 w3.heap.size _ (hR.below hA3) (heap_alloc_new w3 _) (Nat.ne_of_lt hgl) (by omega) rfl (by decide) (by decide) (by decide)
  have HC := Lib.hid (hC.below termK_good hA3)
  replace HB := Lib.hid (HB.out.trans (hA3.mono HB.out.size))
  have HSM := Lib.hid (And.intro hs2 (And.intro hl hsm))
  clear h2 hC hR hK hA3 hs2 hl hsm
  go_wp2_with fail
  refine h3.mono ?_
  rintro e w4 ⟨xs, v4, p4, rfl, hx1, hx3, hp4, hF⟩
  obtain ⟨A4, c4, rfl⟩ := hF.shape
  obtain ⟨b9, hs9, _⟩ := (HC.out.keptG termK_good hF.kept (by omega) (by simp)).slice
  obtain ⟨b4, hs4, _⟩ := hF.parts
  have hrl : ruleK w4 [.string a.name, .slice Av a.args.length cv, .slice A4 xs.length c4] ⟨a, xs⟩ (b9 ++ b4) := ⟨_, _, b9, b4, rfl, Nat.le_trans HSM.out.1 (by decide), rfl, hs9, hs4⟩
  have hbk := body_bulk hF.small
  have hak := small_atom2 HSM.out.1 HSM.out.2.1 HSM.out.2.2
  have h4 := l1RulePut_any ⟨a, xs⟩ _ _ _ _ w4 hrl (by unfold bulkR; dsimp only; omega)
  have hsz : (⟨(ruleL ⟨a, xs⟩).toArray⟩ : ByteArray).size ≤ 984 := by
    have e1 : (⟨(ruleL ⟨a, xs⟩).toArray⟩ : ByteArray).size = (ruleL ⟨a, xs⟩).length := List.size_toArray
    have e2 := ruleL_small a xs HSM.out.1 HSM.out.2.1 HSM.out.2.2 hF.small
    omega
  replace HB := Lib.hid (HB.out.trans (hF.kept.below (by simp) HB.out.size))
  have HR4 := Lib.hid hF.rdr
  clear h3 hF hs9 hs4 hrl hbk hak HC
  go_wp2_with fail
  refine h4.mono ?_
  rintro e w5 ⟨rfl, hb5⟩
  have h5 := l10Cut_any _ p4 ⟨(ruleL ⟨a, xs⟩).toArray⟩ w5 (HR4.out.below hb5) (by omega) (by omega)
  replace HB := Lib.hid (HB.out.trans (hb5.mono HB.out.size))
  clear h4 hb5
  generalize (⟨(ruleL ⟨a, xs⟩).toArray⟩ : ByteArray) = s4 at *
  go_wp2_with fail
  refine h5.mono ?_
  rintro e w6 ⟨t, p5, rfl, ht, _, _, hK⟩
  replace HB := Lib.hid (HB.out.trans (hK.below (by simp) HB.out.size))
  clear h5 hK
  go_wp2
  go_ret
  exact ⟨t, rfl, by omega, HB.out⟩

end Go.Proofs.YtmhjabjiojfgnaaDoor
