/- The change from facts to others leads there: plain. -/
import Derived.Test.YtbppnelbjklpeaaDoP
import Derived.Test.YtbppnelbjklpeaaGoneP
namespace Go.Proofs.Ytbppnelbjklpeaa
open Go.RowKit D
set_option linter.unusedVariables false

theorem D.less_self (xs : List A) : lessL xs xs = [] := by
  unfold lessL
  rw [List.filter_eq_nil_iff]
  intro x hx
  rw [hasB_mem hx]; simp
theorem D.of_not {xs ys : List A} {x : A} (hx : x ∈ xs) : x ∉ lessL ys xs := by
  intro h
  have := (List.mem_filter.1 h).2
  rw [hasB_mem hx] at this; simp at this
theorem D.of_iff {xs ys : List A} (hy : ∀ y ∈ ys, isFactB y = true) {x : A} (hx : x ∈ xs) (hf : isFactB x = true) : x ∈ lessL xs ys ↔ x ∉ ys := by
  constructor
  · intro h hm
    have := (List.mem_filter.1 h).2
    rw [hasB_mem hm] at this; simp at this
  · intro h
    refine List.mem_filter.2 ⟨hx, ?_⟩
    cases hb : hasB ys x
    · rfl
    · exact absurd ((hasB_fact hy hf).1 hb) h
theorem D.less_ok {xs : List A} (h : factsOk xs = true) (ys : List A) : factsOk (lessL xs ys) = true :=
  factsOk_mk (Nat.le_trans (List.length_filter_le _ _) (factsOk_len h)) (fun x hx => factsOk_fact h x (mem_less hx)) (asc_less (factsOk_asc h))
theorem D.of_ok {xs ys : List A} (hx : factsOk xs = true) (hy : factsOk ys = true) : changeOk ⟨lessL ys xs, lessL xs ys⟩ = true := by
  unfold changeOk
  rw [less_ok hy xs, less_ok hx ys]
  have : meets (lessL ys xs) (lessL xs ys) = false := by
    unfold meets
    rw [List.any_eq_false]
    intro x hm h
    rw [hasB_less] at h
    have := (List.mem_filter.1 hm).2
    simp only [Bool.and_eq_true, Bool.not_eq_true'] at h this
    rw [h.1] at this; cases this
  rw [this]; rfl
theorem D.behind_of {xs ys : List A} (hx : factsOk xs = true) (hy : factsOk ys = true) : behind xs ⟨lessL ys xs, lessL xs ys⟩ = ys := by
  refine asc_ext (behind_asc _ (factsOk_asc hx)) (factsOk_asc hy) (behind_facts hx (of_ok hx hy)) (factsOk_fact hy) fun a => ?_
  unfold behind
  rw [hasB_puts, hasB_less, hasB_less, hasB_less]
  cases hasB xs a <;> cases hasB ys a <;> rfl
theorem D.doL_of {xs ys : List A} (hx : factsOk xs = true) (hy : factsOk ys = true) : doL xs ⟨lessL ys xs, lessL xs ys⟩ = ys := by
  unfold doL
  rw [hx, of_ok hx hy, behind_of hx hy]
  simp [factsOk_len hy]

end Go.Proofs.Ytbppnelbjklpeaa
