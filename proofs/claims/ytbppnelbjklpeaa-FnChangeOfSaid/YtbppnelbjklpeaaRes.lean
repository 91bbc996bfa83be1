/- Plain words for results of facts and a yes or no. -/
import Derived.Test.YtbppnelbjklpeaaSet
import Derived.Test.YtbppnelbjklpeaaFp
namespace Go.Proofs.Ytbppnelbjklpeaa
open Go.RowKit D
set_option linter.unusedVariables false

/-- Facts and a yes or no: read; in new memory. -/
def D.ReadsB {α : Type} (R : Rel α) (p : α × Bool) (B : Nat) (w : World) (e : Ending) (w' : World) : Prop := Below B w w' ∧ ∃ v bs, e = .returned (.tuple #[v, .bool p.2]) ∧ R w' [v] p.1 bs
def D.MakesB {α : Type} (R : Rel α) (p : α × Bool) (B : Nat) (w : World) (e : Ending) (w' : World) : Prop := Below B w w' ∧ ∃ v bs, e = .returned (.tuple #[v, .bool p.2]) ∧ R w' [v] p.1 bs ∧ New B w' bs
def D.goneL (xs : List A) (a : A) : List A × Bool := if factsOk xs = true then (if (hasB xs a && isFactB a) = true then (delA xs a, true) else (xs, false)) else ([], false)
def D.addL (xs : List A) (a : A) : List A × Bool := if factsOk xs = true then (if (isFactB a && !hasB xs a && decide (xs.length < 300)) = true then (insA xs a, true) else (xs, false)) else ([], false)
theorem D.fact_args {a : A} (h : isFactB a = true) : a.args.length ≤ 3 := by
  unfold isFactB atomOk at h
  simp only [Bool.and_eq_true, decide_eq_true_eq] at h
  exact h.1.1.2
theorem D.atoms_empty {w : World} {g : Nat} : atomsK w [.slice (some ⟨g, 0, none⟩) 0 0] [] [] := ⟨_, 0, rfl, Nat.le_refl _, Nat.zero_le _, fun _ => rfl, fun h => absurd rfl h⟩

end Go.Proofs.Ytbppnelbjklpeaa
