/- Taken away and added again: plain. -/
import Derived.Test.YtbppnelbjklpeaaRes
namespace Go.Proofs.Ytbppnelbjklpeaa
open Go.RowKit D
set_option linter.unusedVariables false

theorem D.factsOk_mk {xs : List A} (h1 : xs.length ≤ 300) (h2 : ∀ x ∈ xs, isFactB x = true) (h3 : asc xs = true) : factsOk xs = true := by
  rw [factsOk_eq]
  have : okB xs = true := by unfold okB; rw [Bool.and_eq_true]; exact ⟨List.all_eq_true.2 h2, h3⟩
  rw [this]; simp [h1]
theorem D.del_le (xs : List A) (a : A) : (delA xs a).length ≤ xs.length := by unfold delA; split <;> simp <;> omega
theorem D.del_ok {xs : List A} (h : factsOk xs = true) (a : A) : factsOk (delA xs a) = true :=
  factsOk_mk (Nat.le_trans (del_le xs a) (factsOk_len h)) (fun x hx => factsOk_fact h x (mem_del hx)) (asc_del (factsOk_asc h) a)
theorem D.del_has {xs : List A} (h : factsOk xs = true) (a : A) : hasB (delA xs a) a = false := by
  rw [hasB_del (factsOk_asc h), cmpA_refl]; simp
theorem D.ins_del {xs : List A} (h : factsOk xs = true) {a : A} (ha : isFactB a = true) (hm : hasB xs a = true) : insA (delA xs a) a = xs := by
  refine asc_ext (asc_ins (asc_del (factsOk_asc h) a) a) (factsOk_asc h) (fun x hx => ?_) (factsOk_fact h) fun b => ?_
  · rcases mem_ins hx with hx | rfl
    · exact factsOk_fact h x (mem_del hx)
    · exact ha
  · rw [hasB_ins, hasB_del (factsOk_asc h)]
    by_cases hc : cmpA a b = 0
    · simp [hc, ← hasB_congr hc, hm]
    · simp [hc]
theorem D.add_del {xs : List A} (h : factsOk xs = true) {a : A} (ha : isFactB a = true) (hm : hasB xs a = true) : addL (delA xs a) a = (xs, true) := by
  have h1 := del_length (factsOk_asc h) hm
  have h2 := factsOk_len h
  unfold addL
  rw [del_ok h a, del_has h a, ha, ins_del h ha hm]
  have h3 : (delA xs a).length < 300 := by omega
  simp [h3]
theorem D.gone_cases (xs : List A) (a : A) : (factsOk xs = false ∧ goneL xs a = ([], false)) ∨ (factsOk xs = true ∧ (isFactB a && hasB xs a) = false ∧ goneL xs a = (xs, false)) ∨ (factsOk xs = true ∧ isFactB a = true ∧ hasB xs a = true ∧ goneL xs a = (delA xs a, true)) := by
  unfold goneL
  cases h : factsOk xs
  · exact .inl ⟨rfl, rfl⟩
  · cases h1 : hasB xs a <;> cases h2 : isFactB a
    · exact .inr (.inl ⟨rfl, rfl, rfl⟩)
    · exact .inr (.inl ⟨rfl, rfl, rfl⟩)
    · exact .inr (.inl ⟨rfl, rfl, rfl⟩)
    · exact .inr (.inr ⟨rfl, rfl, rfl, rfl⟩)

end Go.Proofs.Ytbppnelbjklpeaa
