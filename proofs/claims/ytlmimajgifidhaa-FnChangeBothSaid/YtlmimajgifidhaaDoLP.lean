/- Behind a change what comes is there, and what goes is not; two changes one behind the other: plain. -/
import Derived.Test.YtlmimajgifidhaaDoP
import Derived.Test.YtlmimajgifidhaaBothP
namespace Go.Proofs.Ytlmimajgifidhaa
open Go.RowKit D
set_option linter.unusedVariables false

theorem D.meets_not {xs ys : List A} (h : meets xs ys = false) {a : A} (ha : hasB xs a = true) (hf : ∀ x ∈ xs, isFactB x = true) (hg : isFactB a = true) : hasB ys a = false := by
  have hm := (hasB_fact hf hg).1 ha
  unfold meets at h
  have := List.any_eq_false.1 h a hm
  simpa using this
theorem D.change_apart {c : Ch} (h : changeOk c = true) : meets c.comes c.goes = false := by
  unfold changeOk at h; simp only [Bool.and_eq_true, Bool.not_eq_true'] at h; exact h.2
theorem D.hasB_behind (xs : List A) (c : Ch) (a : A) : hasB (behind xs c) a = (hasB xs a && !hasB c.goes a || hasB c.comes a) := by unfold behind; rw [hasB_puts, hasB_less]
theorem D.doL_behind {xs : List A} {c : Ch} (hx : factsOk xs = true) (hc : changeOk c = true) (hl : xs.length + c.comes.length ≤ 300) : doL xs c = behind xs c := by
  have := behind_len xs c
  unfold doL; rw [hx, hc, Bool.and_self, if_pos rfl, if_pos (by omega)]
theorem D.do_facts {xs : List A} {c : Ch} (hx : factsOk xs = true) (hc : changeOk c = true) (hl : xs.length ≤ 50) (hl2 : c.comes.length ≤ 50) :
    (∀ t ∈ xs, (t ∈ doL xs c ↔ t ∉ c.goes)) ∧ (∀ t ∈ c.comes, t ∈ doL xs c) ∧ factsOk (doL xs c) = true ∧ doL (doL xs c) c = doL xs c := by
  have hlen := behind_len xs c
  have hbf := behind_facts hx hc
  have hco := change_oks hc
  have hok : factsOk (behind xs c) = true := by rw [behind_ok hx hc]; simp; omega
  rw [doL_behind hx hc (by omega)]
  refine ⟨fun t ht => ?_, fun t ht => ?_, hok, ?_⟩
  · have hf := factsOk_fact hx t ht
    rw [← hasB_fact hbf hf, hasB_behind, hasB_mem ht, ← hasB_fact (factsOk_fact hco.2) hf]
    cases hg : hasB c.goes t
    · simp
    · have : hasB c.comes t = false := by
        cases hm : hasB c.comes t
        · rfl
        · rw [meets_not (change_apart hc) hm (factsOk_fact hco.1) hf] at hg; cases hg
      simp [this]
  · have hf := factsOk_fact hco.1 t ht
    rw [← hasB_fact hbf hf, hasB_behind, hasB_mem ht]; simp
  · rw [doL_behind hok hc (by omega)]
    refine asc_ext (behind_asc _ (factsOk_asc hok)) (factsOk_asc hok) (behind_facts hok hc) hbf fun a => ?_
    rw [hasB_behind, hasB_behind]
    cases hasB xs a <;> cases hasB c.goes a <;> cases hasB c.comes a <;> rfl
theorem D.both_facts {xs : List A} {a b : Ch} (hx : factsOk xs = true) (ha : changeOk a = true) (hb : changeOk b = true) (hc : changeOk (bothC a b) = true) (hl : xs.length ≤ 50) (l1 : a.comes.length ≤ 50) (l2 : b.comes.length ≤ 50) :
    doL xs (bothC a b) = doL (doL xs a) b := by
  have h0 : (bothC a b).comes.length ≤ a.comes.length + b.comes.length := by
    have h1 := puts_length b.comes (lessL a.comes b.goes)
    have h2 : (lessL a.comes b.goes).length ≤ a.comes.length := List.length_filter_le _ _
    show (putsA (lessL a.comes b.goes) b.comes).length ≤ _
    omega
  have hlen := behind_len xs a
  have hok : factsOk (behind xs a) = true := by rw [behind_ok hx ha]; simp; omega
  rw [doL_behind hx hc (by omega), doL_behind hx ha (by omega), doL_behind hok hb (by omega)]
  refine asc_ext (behind_asc _ (factsOk_asc hx)) (behind_asc _ (factsOk_asc hok)) (behind_facts hx hc) (behind_facts hok hb) fun x => ?_
  rw [hasB_behind, hasB_behind, hasB_behind]
  show (hasB xs x && !hasB (putsA (lessL a.goes b.comes) b.goes) x || hasB (putsA (lessL a.comes b.goes) b.comes) x) = _
  rw [hasB_puts, hasB_puts, hasB_less, hasB_less]
  cases hasB xs x <;> cases hasB a.goes x <;> cases hasB a.comes x <;> cases hasB b.goes x <;> cases hasB b.comes x <;> rfl

end Go.Proofs.Ytlmimajgifidhaa
