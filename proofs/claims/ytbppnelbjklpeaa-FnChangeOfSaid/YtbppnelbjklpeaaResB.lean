/- Results of facts have few terms: plain. -/
import Derived.Test.YtbppnelbjklpeaaRes
import Derived.Test.YtbppnelbjklpeaaMk
namespace Go.Proofs.Ytbppnelbjklpeaa
open Go.RowKit D
set_option linter.unusedVariables false

theorem D.cnt_facts : ∀ (xs : List A), (∀ x ∈ xs, isFactB x = true) → sumL cntA xs ≤ 7 * xs.length
  | [], _ => by simp [sumL]
  | x :: xs, h => by
    have h1 := cnt_facts xs (fun y hy => h y (List.mem_cons_of_mem _ hy))
    have h2 := fact_args (h x (List.mem_cons_self ..))
    simp only [sumL, List.map_cons, List.sum_cons, List.length_cons] at *
    unfold cntA at *
    omega
theorem D.goneL_bound (xs : List A) (a : A) : sumL cntA (goneL xs a).1 ≤ 900000000 := by
  unfold goneL
  split
  · rename_i hf
    have hl := factsOk_len hf
    split
    · have h1 := cnt_facts (delA xs a) (fun x hx => factsOk_fact hf x (mem_del hx))
      have h3 : (delA xs a).length ≤ xs.length := by unfold delA; split <;> simp <;> omega
      show sumL cntA (delA xs a) ≤ _
      omega
    · have h1 := cnt_facts xs (factsOk_fact hf)
      show sumL cntA xs ≤ _
      omega
  · simp [sumL]
theorem D.addL_bound (xs : List A) (a : A) : sumL cntA (addL xs a).1 ≤ 900000000 := by
  unfold addL
  split
  · rename_i hf
    have hl := factsOk_len hf
    split
    · rename_i hc
      simp only [Bool.and_eq_true] at hc
      have h1 := cnt_facts (insA xs a) (fun x hx => by rcases mem_ins hx with hx | rfl; exact factsOk_fact hf x hx; exact hc.1.1)
      have := ins_length_le xs a
      show sumL cntA (insA xs a) ≤ _
      omega
    · have h1 := cnt_facts xs (factsOk_fact hf)
      show sumL cntA xs ≤ _
      omega
  · simp [sumL]
theorem below_chain1 {w a : World} (ha : Below w.drew.heap.size w.drew a) : Below w.heap.size w a := (Below.drew (Below.refl w.heap.size w)).trans ha
theorem below_chain2 {w a b : World} (ha : Below w.drew.heap.size w.drew a) (hb : Below a.heap.size a b) : Below w.heap.size w b := (below_chain1 ha).trans (hb.mono (below_chain1 ha).size)
theorem below_chain3 {w a b c : World} (ha : Below w.drew.heap.size w.drew a) (hb : Below a.heap.size a b) (hc : Below b.heap.size b c) : Below w.heap.size w c := (below_chain2 ha hb).trans (hc.mono (below_chain2 ha hb).size)

end Go.Proofs.Ytbppnelbjklpeaa
