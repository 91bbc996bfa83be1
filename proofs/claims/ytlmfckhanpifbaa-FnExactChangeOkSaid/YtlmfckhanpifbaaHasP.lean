/- Plain words of FactsHas. -/
import Derived.Test.YtlmfckhanpifbaaAt
namespace Go.Proofs.Ytlmfckhanpifbaa
open Go.RowKit D
set_option linter.unusedVariables false

namespace D
def factsHas (xs : List A) (a : A) : Bool := factsOk xs && isFactB a && hasB xs a
theorem factsOk_asc {xs : List A} (h : factsOk xs = true) : asc xs = true := by
  unfold factsOk at h; simp only [Bool.and_eq_true] at h; exact h.2
theorem factsOk_len {xs : List A} (h : factsOk xs = true) : xs.length ≤ 300 := by
  unfold factsOk at h; simp only [Bool.and_eq_true, decide_eq_true_eq] at h; exact h.1.1
theorem factsOk_fact {xs : List A} (h : factsOk xs = true) : ∀ x ∈ xs, isFactB x = true := by
  unfold factsOk at h; simp only [Bool.and_eq_true, List.all_eq_true] at h; exact h.1.2
end D

end Go.Proofs.Ytlmfckhanpifbaa
