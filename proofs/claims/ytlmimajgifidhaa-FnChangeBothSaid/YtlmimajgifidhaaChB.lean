/- The change between facts is small: plain. -/
import Derived.Test.YtlmimajgifidhaaChP
import Derived.Test.YtlmimajgifidhaaKind
import Derived.Test.YtlmimajgifidhaaMarkC
namespace Go.Proofs.Ytlmimajgifidhaa
open Go.RowKit D
set_option linter.unusedVariables false

theorem D.cnt_less {xs : List A} (h : factsOk xs = true) (ys : List A) : sumL cntA (lessL xs ys) ≤ 2100 := by
  have h1 := cnt_facts (lessL xs ys) (fun x hx => factsOk_fact h x (mem_less hx))
  have h2 : (lessL xs ys).length ≤ xs.length := List.length_filter_le _ _
  have := factsOk_len h
  omega
theorem D.ofL_bound (xs ys : List A) : cntC (ofL xs ys) ≤ 900000000 := by
  unfold ofL
  split
  · rename_i h
    rw [Bool.and_eq_true] at h
    have h1 := cnt_less h.2 xs
    have h2 := cnt_less h.1 ys
    show sumL cntA (lessL ys xs) + sumL cntA (lessL xs ys) ≤ _
    omega
  · simp [cntC, sumL]

end Go.Proofs.Ytlmimajgifidhaa
