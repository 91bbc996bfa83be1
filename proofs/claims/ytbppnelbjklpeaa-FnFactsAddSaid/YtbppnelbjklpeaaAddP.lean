/- Added and taken away again: plain. -/
import Derived.Test.YtbppnelbjklpeaaGoneP
namespace Go.Proofs.Ytbppnelbjklpeaa
open Go.RowKit D
set_option linter.unusedVariables false

theorem D.ins_ok {xs : List A} (h : factsOk xs = true) {a : A} (ha : isFactB a = true) (hl : xs.length < 300) : factsOk (insA xs a) = true :=
  factsOk_mk (by have := ins_length_le xs a; omega) (fun x hx => by rcases mem_ins hx with hx | rfl; exact factsOk_fact h x hx; exact ha) (asc_ins (factsOk_asc h) a)
theorem D.ins_has (xs : List A) (a : A) : hasB (insA xs a) a = true := by rw [hasB_ins, cmpA_refl]; simp
theorem D.del_ins {xs : List A} (h : factsOk xs = true) {a : A} (ha : isFactB a = true) (hm : hasB xs a = false) : delA (insA xs a) a = xs := by
  have hs := asc_ins (factsOk_asc h) a
  refine asc_ext (asc_del hs a) (factsOk_asc h) (fun x hx => ?_) (factsOk_fact h) fun b => ?_
  · rcases mem_ins (mem_del hx) with hx | rfl
    · exact factsOk_fact h x hx
    · exact ha
  · rw [hasB_del hs, hasB_ins]
    by_cases hc : cmpA a b = 0
    · simp [hc, ← hasB_congr hc, hm]
    · simp [hc]
theorem D.again_add {xs : List A} (h : factsOk xs = true) {a : A} (ha : isFactB a = true) (hl : xs.length < 300) : addL (insA xs a) a = (insA xs a, false) := by
  unfold addL
  rw [ins_ok h ha hl, ins_has xs a]
  simp
theorem D.gone_ins {xs : List A} (h : factsOk xs = true) {a : A} (ha : isFactB a = true) (hl : xs.length < 300) (hm : hasB xs a = false) : goneL (insA xs a) a = (xs, true) := by
  unfold goneL
  rw [ins_ok h ha hl, ins_has xs a, ha, del_ins h ha hm]
  simp
theorem D.has_ins {xs : List A} (h : factsOk xs = true) {a : A} (ha : isFactB a = true) (hl : xs.length < 300) : factsHas (insA xs a) a = true := by
  unfold factsHas
  rw [ins_ok h ha hl, ins_has xs a, ha]
  rfl
theorem D.add_cases (xs : List A) (a : A) : (factsOk xs = false ∧ addL xs a = ([], false)) ∨ (factsOk xs = true ∧ addL xs a = (xs, false)) ∨ (factsOk xs = true ∧ isFactB a = true ∧ hasB xs a = false ∧ xs.length < 300 ∧ addL xs a = (insA xs a, true)) := by
  unfold addL
  cases h : factsOk xs
  · exact .inl ⟨rfl, rfl⟩
  · by_cases hc : (isFactB a && !hasB xs a && decide (xs.length < 300)) = true
    · rw [if_pos rfl, if_pos hc]
      simp only [Bool.and_eq_true, Bool.not_eq_true', decide_eq_true_eq] at hc
      exact .inr (.inr ⟨rfl, hc.1.1, hc.1.2, hc.2, rfl⟩)
    · rw [if_pos rfl, if_neg hc]
      exact .inr (.inl ⟨rfl, rfl⟩)

end Go.Proofs.Ytbppnelbjklpeaa
