/- Where a fact stands in a list in order: plain; the walks of l3At, l3Has. -/
import Derived.Test.YtlmfckhanpifbaaFacts3
namespace Go.Proofs.Ytlmfckhanpifbaa
open Go.RowKit D
set_option linter.unusedVariables false
attribute [local go_sem ↓] Go.wp_at_zero Go.wp_at_succ

namespace D
theorem cmpA_lt_le {a b d : A} (h1 : cmpA a b < 0) (h2 : cmpA b d ≤ 0) : cmpA a d < 0 := by
  rw [cmpA_lex] at *
  exact (lexL_is cmpS_is).lt_of_lt_le h1 h2
theorem asc_lt {xs : List A} (hs : asc xs = true) {i j : Nat} (hj : j < xs.length) (hij : i < j) : cmpA (xs[i]'(by omega)) xs[j] < 0 := by
  induction j with
  | zero => omega
  | succ j ih =>
    have h1 := (asc_iff xs).1 hs j hj
    by_cases e : i = j
    · subst e; exact h1
    · exact cmpA_lt_le (ih (by omega) (by omega)) (by omega)
def lessA (a x : A) : Bool := decide (cmpA x a < 0)
def pl (xs : List A) (a : A) : Nat := xs.countP (lessA a)
def hasB (xs : List A) (a : A) : Bool := xs.any (fun x => decide (cmpA x a = 0))
def ltTo (xs : List A) (a : A) (k : Nat) : Prop := ∀ j (h : j < xs.length), j < k → cmpA xs[j] a < 0
theorem ltTo_zero (xs : List A) (a : A) : ltTo xs a 0 := fun _ _ h => absurd h (Nat.not_lt_zero _)
theorem ltTo_step {xs : List A} {a : A} {k : Nat} (H : ltTo xs a k) (hk : k < xs.length) (h : cmpA xs[k] a < 0) : ltTo xs a (k + 1) := fun j hj hjk => by
  by_cases e : j = k
  · subst e; exact h
  · exact H j hj (by omega)
theorem not_lt_from {xs : List A} {a : A} {k : Nat} (hs : asc xs = true) (hk : k < xs.length) (h : ¬ cmpA xs[k] a < 0) {j : Nat} (hj : j < xs.length) (hkj : k ≤ j) : ¬ cmpA xs[j] a < 0 := fun hc => by
  by_cases e : k = j
  · subst e; exact h hc
  · exact h (cmpA_lt_le (asc_lt hs hj (by omega)) (by omega))
theorem place_of {xs : List A} {a : A} {k : Nat} (hs : asc xs = true) (hk : k ≤ xs.length) (h1 : ltTo xs a k) (h2 : ∀ h : k < xs.length, ¬ cmpA xs[k] a < 0) : k = pl xs a := by
  unfold pl
  conv => rhs; rw [← List.take_append_drop k xs]
  rw [List.countP_append, List.countP_eq_length.2, List.countP_eq_zero.2]
  · simp; omega
  · intro y hy
    obtain ⟨j, hj, rfl⟩ := List.mem_iff_getElem.1 hy
    rw [List.length_drop] at hj
    rw [List.getElem_drop]
    have := not_lt_from hs (by omega) (h2 (by omega)) (j := k + j) (by omega) (by omega)
    simp [lessA]; omega
  · intro y hy
    obtain ⟨j, hj, rfl⟩ := List.mem_iff_getElem.1 hy
    rw [List.length_take] at hj
    rw [List.getElem_take]
    simp only [lessA, decide_eq_true_eq]
    exact h1 j (by omega) (by omega)
theorem has_at {xs : List A} {a : A} {k : Nat} (hs : asc xs = true) (hk : k < xs.length) (h1 : ltTo xs a k) (h2 : ¬ cmpA xs[k] a < 0) : hasB xs a = decide (cmpA xs[k] a = 0) := by
  by_cases hc : cmpA xs[k] a = 0
  · rw [decide_eq_true hc]; unfold hasB; rw [List.any_eq_true]; exact ⟨_, List.getElem_mem hk, by simpa using hc⟩
  · rw [decide_eq_false hc]; unfold hasB; rw [List.any_eq_false]
    intro y hy hcy
    obtain ⟨j, hj, rfl⟩ := List.mem_iff_getElem.1 hy
    simp only [decide_eq_true_eq] at hcy
    rcases Nat.lt_trichotomy j k with h | h | h
    · have := h1 j hj h; omega
    · subst h; exact hc hcy
    · exact h2 (cmpA_lt_le (asc_lt hs hj h) (by omega))
theorem has_end {xs : List A} {a : A} (h1 : ltTo xs a xs.length) : hasB xs a = false := by
  unfold hasB; rw [List.any_eq_false]
  intro y hy hcy
  obtain ⟨j, hj, rfl⟩ := List.mem_iff_getElem.1 hy
  simp only [decide_eq_true_eq] at hcy
  have := h1 j hj hj; omega
end D

end Go.Proofs.Ytlmfckhanpifbaa
