/- The draw of facts (by gen/mkchbl.py). -/
import Derived.Laws.EntriesVeiled
import Derived.Deep.RegionHeld3
import Derived.Deep.RegionWith
import Derived.Deep.RegionLaw
import Derived.BigQuiet
import Derived.Deep.QuietTactic
import Derived.Deep.DrawnRows
import Derived.WalkKit
import Derived.WalkSpells
import Derived.WalkLawsBesides
import Derived.Lib.Hide
import Derived.Test.YtlmimajgifidhaaDraw5
namespace Go.Proofs.Ytlmimajgifidhaa
open Go.RowKit D
set_option linter.unusedVariables false
attribute [local go_sem ↓] Go.wp_at_zero Go.wp_at_succ

/-- Drawn facts, whatever they are. -/
def FactsOkD (w : World) (e : Ending) (w' : World) : Prop := ∃ (xs : List A) (v : Value) (bs : List Nat), e = .returned v ∧ atomsK w' [v] xs bs ∧ xs.length ≤ 50 ∧ (∀ x ∈ xs, x.args.length ≤ 4) ∧ Below w.heap.size w w'

set_option maxRecDepth 100000 in
set_option maxHeartbeats 1000000 in
theorem drawFactsOk_any (v : Value) (cs : List UInt8) (bs : List Nat) (w : World) (h : bytesK w [v] cs bs) (hn : cs.length ≤ 1048576) :
    Calls Try.prog 24 #[v] w (FactsOkD w) := by
  have ho := open_any v cs bs _ h hn
  clear h
  go_enter Try.func24, Try.ntmps24
  go_wp2_with fail
  refine ho.mono ?_
  rintro e w1 ⟨rfl, hR, hb⟩
  have hd := l10AnyFacts_any w.heap.size 0 w1 hR (by omega)
  have HB := Lib.hid hb
  clear ho hR hb
  go_wp2_with fail
  refine hd.mono ?_
  rintro e w2 ⟨xs, v2, b1, p2, rfl, ⟨hat, hfar⟩, hx, hsm, hR2, hp2, hK2⟩
  have HD : Hid (FactsOkD w (.returned v2) w2) := Lib.hid ⟨xs, v2, b1, rfl, hat, hx, hsm, HB.out.trans (hK2.below (by simp) HB.out.size)⟩
  obtain ⟨A1, c1, rfl, _, _⟩ := sliceK_form hat
  clear hd hat hfar hx hsm hR2 hp2 hK2
  go_wp2
  go_ret
  exact HD.out

end Go.Proofs.Ytlmimajgifidhaa
