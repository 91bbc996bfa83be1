/- Two lists in order, merged: plain. -/
import Derived.Laws.EntriesVeiled
import Derived.Deep.RegionHeld3
import Derived.Deep.RegionWith
import Derived.BigQuiet
import Derived.Deep.DrawnRows
import Derived.WalkKit
import Derived.WalkSpells
import Derived.WalkLawsBesides
import Derived.Lib.Hide
import Derived.Lib.IndexBytes
import Derived.Deep.Slices
import Derived.Deep.Fields
import Derived.ChangeSame
import Derived.Deep.Draws
import Derived.Lib.Bytealg
import Derived.Test.YtbppnelbjklpeaaFp
namespace Go.Proofs.Ytbppnelbjklpeaa
open Go.RowKit D
set_option linter.unusedVariables false

namespace D
def mergeL : List A → List A → List (A × Nat)
  | [], [] => []
  | [], y :: ys => (y, 1) :: mergeL [] ys
  | x :: xs, [] => (x, 0) :: mergeL xs []
  | x :: xs, y :: ys => if cmpA x y < 0 then (x, 0) :: mergeL xs (y :: ys) else if 0 < cmpA x y then (y, 1) :: mergeL (x :: xs) ys else (x, 2) :: mergeL xs ys
termination_by xs ys => xs.length + ys.length
theorem mergeL_lt {x y : A} {xs ys : List A} (h : cmpA x y < 0) : mergeL (x :: xs) (y :: ys) = (x, 0) :: mergeL xs (y :: ys) := by rw [mergeL, if_pos h]
theorem mergeL_gt {x y : A} {xs ys : List A} (h : 0 < cmpA x y) : mergeL (x :: xs) (y :: ys) = (y, 1) :: mergeL (x :: xs) ys := by rw [mergeL, if_neg (by omega), if_pos h]
theorem mergeL_eq {x y : A} {xs ys : List A} (h1 : ¬ cmpA x y < 0) (h2 : ¬ 0 < cmpA x y) : mergeL (x :: xs) (y :: ys) = (x, 2) :: mergeL xs ys := by rw [mergeL, if_neg h1, if_neg h2]
theorem cmpA_anti (a b : A) : cmpA b a = - cmpA a b := by rw [cmpA_lex, cmpA_lex]; exact (lexL_is cmpS_is).anti _ _
theorem cmpA_le_lt {a b d : A} (h1 : cmpA a b ≤ 0) (h2 : cmpA b d < 0) : cmpA a d < 0 := by
  have h3 : cmpA d b > 0 := by rw [cmpA_anti]; omega
  by_cases h : cmpA a d < 0
  · exact h
  · exfalso
    have h4 : cmpA d a ≤ 0 := by rw [cmpA_anti a d]; omega
    rw [cmpA_lex] at h1 h3 h4
    have := (lexL_is cmpS_is).trans _ _ _ h4 h1
    omega
theorem asc_head {x : A} {xs : List A} (h : asc (x :: xs) = true) : ∀ y ∈ xs, cmpA x y < 0 := by
  intro y hy
  obtain ⟨j, hj, rfl⟩ := List.mem_iff_getElem.1 hy
  exact asc_lt h (i := 0) (j := j + 1) (by simp; omega) (by omega)
theorem asc_tail {x : A} {xs : List A} (h : asc (x :: xs) = true) : asc xs = true := by
  cases xs with
  | nil => rfl
  | cons y ys => simp only [asc, Bool.and_eq_true] at h; exact h.2
theorem hasB_not {ys : List A} {x : A} (h : ∀ y ∈ ys, cmpA x y < 0) : hasB ys x = false := by
  unfold hasB; rw [List.any_eq_false]
  intro y hy hc
  have := h y hy
  simp only [decide_eq_true_eq] at hc
  rw [cmpA_anti y x] at this
  omega
theorem meets_nil (xs : List A) : meets xs [] = false := by
  unfold meets; rw [List.any_eq_false]; intro x _; simp [hasB]
theorem merge_meets : ∀ (n : Nat) (xs ys : List A), xs.length + ys.length ≤ n → asc xs = true → asc ys = true → (mergeL xs ys).any (fun p => p.2 == 2) = meets xs ys := by
  intro n
  induction n with
  | zero =>
    intro xs ys hn _ _
    obtain rfl : xs = [] := List.length_eq_zero_iff.1 (by omega)
    obtain rfl : ys = [] := List.length_eq_zero_iff.1 (by omega)
    rw [mergeL]; rfl
  | succ n ih =>
    intro xs ys hn hx hy
    match xs, ys with
    | [], [] => rw [mergeL]; rfl
    | [], y :: ys => rw [mergeL, List.any_cons, ih [] ys (by simp at hn ⊢; omega) rfl (asc_tail hy)]; rfl
    | x :: xs, [] => rw [mergeL, List.any_cons, ih xs [] (by simp at hn ⊢; omega) (asc_tail hx) rfl, meets_nil, meets_nil]; rfl
    | x :: xs, y :: ys =>
      by_cases h1 : cmpA x y < 0
      · rw [mergeL_lt h1, List.any_cons, ih xs (y :: ys) (by simp at hn ⊢; omega) (asc_tail hx) hy]
        have : hasB (y :: ys) x = false := hasB_not (fun z hz => by
          rcases List.mem_cons.1 hz with rfl | hz
          · exact h1
          · exact cmpA_lt_le h1 (by have := asc_head hy z hz; omega))
        simp [meets, this]
      · by_cases h2 : 0 < cmpA x y
        · rw [mergeL_gt h2, List.any_cons, ih (x :: xs) ys (by simp at hn ⊢; omega) hx (asc_tail hy)]
          have hyx : cmpA y x < 0 := by rw [cmpA_anti x y]; omega
          have hz : ∀ z ∈ x :: xs, hasB (y :: ys) z = hasB ys z := fun z hz => by
            have : cmpA y z < 0 := by
              rcases List.mem_cons.1 hz with rfl | hz
              · exact hyx
              · exact cmpA_lt_le hyx (by have := asc_head hx z hz; omega)
            have h0 : decide (cmpA y z = 0) = false := decide_eq_false (by omega)
            simp [hasB, h0]
          have : (x :: xs).any (hasB (y :: ys)) = (x :: xs).any (hasB ys) := by
            rw [Bool.eq_iff_iff]; simp only [List.any_eq_true]
            exact ⟨fun ⟨z, hz1, hz2⟩ => ⟨z, hz1, by rw [← hz z hz1]; exact hz2⟩, fun ⟨z, hz1, hz2⟩ => ⟨z, hz1, by rw [hz z hz1]; exact hz2⟩⟩
          unfold meets
          rw [this]; simp
        · rw [mergeL_eq h1 h2, List.any_cons]
          have : decide (cmpA y x = 0) = true := decide_eq_true (by rw [cmpA_anti x y]; omega)
          simp [meets, hasB, this]
end D

end Go.Proofs.Ytbppnelbjklpeaa
