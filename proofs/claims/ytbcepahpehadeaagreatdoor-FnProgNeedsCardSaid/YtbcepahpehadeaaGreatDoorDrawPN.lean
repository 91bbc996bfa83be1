/- The walks of spec.DrawProgHeads, spec.DrawProgNeeds. -/
import Derived.Laws.EntriesVeiled
import Derived.Deep.RegionHeld3
import Derived.Deep.RegionWith
import Derived.BigQuiet
import Derived.Deep.QuietTactic
import Derived.Deep.DrawnRows
import Derived.WalkKit
import Derived.WalkSpells
import Derived.WalkLawsBesides
import Derived.Lib.Hide
import Derived.Test.YtbcepahpehadeaaGreatDoorDrawAR
import Derived.Test.YtbcepahpehadeaaGreatDoorRuO
namespace Go.Proofs.YtbcepahpehadeaaGreatDoor
open Go.RowKit D
set_option linter.unusedVariables false
attribute [local go_sem ↓] Go.wp_at_zero Go.wp_at_succ

/-- Drawn rules that lie in memory, and a text. -/
def RulesSO (m : Nat) (w : World) (e : Ending) (w' : World) : Prop := ∃ (xs : List Ru) (A : Option Addr) (c : Nat) (bs : List Nat) (s : ByteArray), e = .returned (.tuple #[.slice A xs.length c, .string s]) ∧ rulesK w' [.slice A xs.length c] xs bs ∧ xs.length ≤ m ∧ (∀ x ∈ xs, RuS x) ∧ Sm s ∧ Below w.heap.size w w'
set_option maxHeartbeats 1000000 in
theorem drawProgHeads_any (v : Value) (cs : List UInt8) (bs : List Nat) (w : World) (h : bytesK w [v] cs bs) (hn : cs.length ≤ 1048576) :
    Calls Tryz.prog 48 #[v] w (RulesSO 9 w) := by
  have ho := open_any v cs bs w h hn
  clear h
  go_enter Tryz.func48, Tryz.ntmps48
  go_wp2_with fail
  refine ho.mono ?_
  rintro e w1 ⟨rfl, hR, hb⟩
  have HB := Lib.hid hb
  have hd := l10AnyRules_any _ 0 w1 hR (by omega)
  clear ho hb
  go_wp2_with fail
  refine hd.mono ?_
  rintro e w2 ⟨xs, v2, q, rfl, hx, hq, hI⟩
  have HI := Lib.hid hI
  have HX := Lib.hid hx
  have hof := of_lit _ q [⟨#[101]⟩, ⟨#[112]⟩, ⟨#[113]⟩, ⟨#[114]⟩, ⟨#[115]⟩, ⟨#[116]⟩, ⟨#[117]⟩, ⟨#[]⟩, ⟨#[122, 122]⟩] 9 w2 HI.out.rdr (by omega) rfl (by decide) (by decide) (by decide)
  clear hd hq hx hI
  go_wp2_with fail
  refine hof.mono ?_
  rintro e w3 ⟨s, rfl, hs, hR3, hK3⟩
  have HI3 := Lib.hid (HI.out.call hR3 hK3)
  obtain ⟨xs', A, c, b, e1, e2, e3, e4, e5⟩ := rulesO_of HB.out rfl HX.out HI3.out
  injection e1 with e1
  subst e1
  have HZ := Lib.hid (And.intro e2 (And.intro e3 (And.intro e4 (And.intro hs e5))))
  clear hof hs hR3 hK3 e2 e3 e4 e5
  go_wp2
  go_ret2
  exact ⟨xs', A, c, b, s, rfl, HZ.out⟩
set_option maxHeartbeats 1000000 in
theorem drawProgNeeds_any (v : Value) (cs : List UInt8) (bs : List Nat) (w : World) (h : bytesK w [v] cs bs) (hn : cs.length ≤ 1048576) :
    Calls Tryz.prog 23 #[v] w (RulesSO 9 w) := by
  have ho := drawProgHeads_any v cs bs w h hn
  clear h
  go_enter Tryz.func23, Tryz.ntmps23
  go_wp2_with fail
  refine ho.mono ?_
  rintro e w1 ⟨xs, A, c, b, s, rfl, hz⟩
  have HZ := Lib.hid hz
  clear ho hz
  go_wp2
  go_ret2
  exact ⟨xs, A, c, b, s, rfl, HZ.out⟩

end Go.Proofs.YtbcepahpehadeaaGreatDoor
