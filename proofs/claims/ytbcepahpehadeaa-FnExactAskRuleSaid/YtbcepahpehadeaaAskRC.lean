/- How many marks a rule that asks takes: plain. -/
import Derived.Test.YtbcepahpehadeaaAskRP
import Derived.Test.YtbcepahpehadeaaMarkR
namespace Go.Proofs.Ytbcepahpehadeaa
open Go.RowKit D
theorem D.askV_marks (nm : ByteArray) (ps : List Pt) : cntR (askRuleV nm ps).1 ≤ 900000000 := by
  obtain ⟨h1, h2, h3⟩ := askV_cnt nm ps
  have key : ∀ l : List Pt, sumL cntP l = 2 * l.length + 2 * sumL (fun p => p.atom.args.length) l := by
    intro l
    induction l with
    | nil => rfl
    | cons p l ih =>
      have e : cntP p = 2 + 2 * p.atom.args.length := rfl
      simp only [sumL, List.map_cons, List.sum_cons, List.length_cons] at *
      omega
  have := key (askRuleV nm ps).1.body
  unfold cntR
  omega
end Go.Proofs.Ytbcepahpehadeaa
