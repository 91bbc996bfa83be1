/- The draw of two lists of facts. -/
import Derived.Laws.EntriesVeiled
import Derived.Deep.RegionHeld3
import Derived.Deep.RegionWith
import Derived.BigQuiet
import Derived.Deep.QuietTactic
import Derived.Deep.DrawnRows
import Derived.WalkKit
import Derived.WalkSpells
import Derived.WalkLawsBesides
import Derived.Lib.Hide
import Derived.Test.YtbppnelbjklpeaaDraw5
namespace Go.Proofs.Ytbppnelbjklpeaa
open Go.RowKit D
set_option linter.unusedVariables false
attribute [local go_sem ↓] Go.wp_at_zero Go.wp_at_succ

/-- Two drawn lists. -/
def ListsD (w : World) (e : Ending) (w' : World) : Prop := ∃ (xs ys : List A) (v1 v2 : Value) (b1 b2 : List Nat), e = .returned (.tuple #[v1, v2]) ∧ atomsK w' [v1] xs b1 ∧ atomsK w' [v2] ys b2 ∧ xs.length ≤ 50 ∧ ys.length ≤ 50 ∧ (∀ x ∈ xs, x.args.length ≤ 4) ∧ (∀ x ∈ ys, x.args.length ≤ 4) ∧ Below w.heap.size w w'

set_option maxRecDepth 100000 in
set_option maxHeartbeats 1000000 in
theorem drawChangeOf_any (v : Value) (cs : List UInt8) (bs : List Nat) (w : World) (h : bytesK w [v] cs bs) (hn : cs.length ≤ 1048576) :
    Calls Try.prog 22 #[v] w (ListsD w) := by
  have ho := open_any v cs bs _ h hn
  clear h
  go_enter Try.func22, Try.ntmps22
  go_wp2_with fail
  refine ho.mono ?_
  rintro e w1 ⟨rfl, hR, hb⟩
  have hgz := hR.lt
  have hd := l10AnyFacts_any w.heap.size 0 w1 hR (by omega)
  have HB := Lib.hid hb
  clear ho hR hb
  go_wp2_with fail
  refine hd.mono ?_
  rintro e w2 ⟨xs, v2, b1, p2, rfl, ⟨hat, hfar⟩, hx, hsm, hR2, hp2, hK2⟩
  have ha := atoms_apartN hR2.noSB hat
  have hd2 := l10AnyFacts_any w.heap.size p2 w2 hR2 (by omega)
  have HX := Lib.hid (And.intro hat (And.intro ha (And.intro hx (And.intro hsm hK2))))
  obtain ⟨A1, c1, rfl, _, _⟩ := sliceK_form hat
  clear hd hat hfar hx hsm hR2 hp2 hK2 ha
  go_wp2_with fail
  refine hd2.mono ?_
  rintro e w3 ⟨ys, v3, b2, p3, rfl, ⟨hat3, hfar3⟩, hx3, hsm3, hR3, hp3, hK3⟩
  have HD : Hid (ListsD w (.returned (.tuple #[.slice A1 xs.length c1, v3])) w3) := Lib.hid ⟨xs, ys, _, _, b1, b2, rfl, Good.kept atomsK_good HX.out.1 hK3 (fun b hb => by simp; intro e; exact HX.out.2.1 (e ▸ hb)), hat3, HX.out.2.2.1, hx3, HX.out.2.2.2.1, hsm3, HB.out.trans ((HX.out.2.2.2.2.trans hK3).below (by simp) HB.out.size)⟩
  obtain ⟨A2, c2, rfl, _, _⟩ := sliceK_form hat3
  clear hd2 hat3 hfar3 hx3 hsm3 hR3 hp3 hK3
  go_wp2
  go_ret2
  exact HD.out

end Go.Proofs.Ytbppnelbjklpeaa
