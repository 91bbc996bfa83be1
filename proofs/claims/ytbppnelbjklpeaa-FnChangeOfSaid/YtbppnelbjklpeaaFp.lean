/- Facts, facts in order, where a fact stands, changes: plain. -/
import Derived.Test.YtbppnelbjklpeaaOrd
import Derived.Test.YtbppnelbjklpeaaEl
namespace Go.Proofs.Ytbppnelbjklpeaa
open Go.RowKit D
set_option linter.unusedVariables false

namespace D
section
def anyVar (ts : List T) : Bool := ts.any (·.var)
def isFactB (a : A) : Bool := atomOk a && !anyVar a.args
def asc : List A → Bool
  | [] => true
  | [_] => true
  | a :: b :: r => decide (cmpA a b < 0) && asc (b :: r)
theorem asc_iff (xs : List A) : asc xs = true ↔ ∀ i (h : i + 1 < xs.length), cmpA xs[i] xs[i + 1] < 0 := by
  induction xs with
  | nil => simp [asc]
  | cons a r ih =>
    cases r with
    | nil => simp [asc]
    | cons b r =>
      simp only [asc, Bool.and_eq_true, decide_eq_true_eq, ih]
      constructor
      · rintro ⟨h1, h2⟩ i hi
        cases i with
        | zero => exact h1
        | succ i => exact h2 i (by simp at hi ⊢; omega)
      · intro h
        exact ⟨h 0 (by simp), fun i hi => h (i + 1) (by simp at hi ⊢; omega)⟩
theorem asc_bad (xs : List A) (k : Nat) (h : k + 1 < xs.length) (hc : ¬ cmpA xs[k] xs[k + 1] < 0) : asc xs = false := by
  rw [Bool.eq_false_iff]
  intro ha
  exact hc ((asc_iff xs).1 ha k h)
def factsOk (xs : List A) : Bool := decide (xs.length ≤ 300) && xs.all isFactB && asc xs
theorem anyVar_bad (ts : List T) (k : Nat) (h : k < ts.length) (hv : ts[k].var = true) : anyVar ts = true := by
  unfold anyVar; rw [List.any_eq_true]; exact ⟨_, List.getElem_mem h, hv⟩
theorem anyVar_snoc (ts : List T) (k : Nat) (h : k < ts.length) : anyVar (ts.take (k + 1)) = (anyVar (ts.take k) || ts[k].var) := by
  unfold anyVar; rw [List.take_succ_eq_append_getElem h, List.any_append]; simp
end

section
def okB (xs : List A) : Bool := xs.all isFactB && asc xs
def okTo (xs : List A) (k : Nat) : Prop := ∀ j (h : j < xs.length), j < k → isFactB xs[j] = true ∧ (∀ h' : 0 < j, cmpA (xs[j - 1]'(by omega)) xs[j] < 0)
def facTo (xs : List A) (k : Nat) : Prop := ∀ j (h : j < xs.length), j < k → isFactB xs[j] = true
def ascTo (xs : List A) (k : Nat) : Prop := ∀ j (h : j < xs.length), j < k → ∀ h' : 0 < j, cmpA (xs[j - 1]'(by omega)) xs[j] < 0
theorem okTo_zero (xs : List A) : okTo xs 0 := fun _ _ h => absurd h (Nat.not_lt_zero _)
theorem facTo_zero (xs : List A) : facTo xs 0 := fun _ _ h => absurd h (Nat.not_lt_zero _)
theorem ascTo_one (xs : List A) : ascTo xs 1 := fun j _ h h' => by omega
theorem okTo_one {xs : List A} (h0 : 0 < xs.length) (h : isFactB xs[0] = true) : okTo xs 1 := fun j hj hk => by
  have : j = 0 := by omega
  subst this
  exact ⟨h, fun h' => absurd h' (Nat.lt_irrefl _)⟩
theorem okTo_step {xs : List A} {k : Nat} (H : okTo xs (k + 1)) (hk : k + 1 < xs.length) (h : isFactB xs[k + 1] = true) (hc : cmpA xs[k] xs[k + 1] < 0) : okTo xs (k + 1 + 1) := fun j hj hjk => by
  by_cases e : j = k + 1
  · subst e; exact ⟨h, fun _ => hc⟩
  · exact H j hj (by omega)
theorem facTo_step {xs : List A} {k : Nat} (H : facTo xs k) (hk : k < xs.length) (h : isFactB xs[k] = true) : facTo xs (k + 1) := fun j hj hjk => by
  by_cases e : j = k
  · subst e; exact h
  · exact H j hj (by omega)
theorem ascTo_step {xs : List A} {k : Nat} (H : ascTo xs (k + 1)) (hk : k + 1 < xs.length) (hc : cmpA xs[k] xs[k + 1] < 0) : ascTo xs (k + 1 + 1) := fun j hj hjk => by
  by_cases e : j = k + 1
  · subst e; exact fun _ => hc
  · exact H j hj (by omega)
theorem okB_iff (xs : List A) : okB xs = true ↔ facTo xs xs.length ∧ ascTo xs xs.length := by
  unfold okB
  rw [Bool.and_eq_true, List.all_eq_true, asc_iff]
  constructor
  · rintro ⟨h1, h2⟩
    refine ⟨fun j hj _ => h1 _ (List.getElem_mem hj), fun j hj _ h0 => ?_⟩
    obtain ⟨i, rfl⟩ : ∃ i, j = i + 1 := ⟨j - 1, by omega⟩
    exact h2 i hj
  · rintro ⟨h1, h2⟩
    refine ⟨fun x hx => ?_, fun i hi => h2 (i + 1) hi hi (by omega)⟩
    obtain ⟨j, hj, rfl⟩ := List.mem_iff_getElem.1 hx
    exact h1 j hj hj
theorem okB_end {xs : List A} (H : okTo xs xs.length) : okB xs = true := (okB_iff xs).2 ⟨fun j hj hk => (H j hj hk).1, fun j hj hk => (H j hj hk).2⟩
theorem okB_bad {xs : List A} {k : Nat} (hk : k < xs.length) (h : isFactB xs[k] = false) : okB xs = false := by
  rw [Bool.eq_false_iff]; intro ha
  have := ((okB_iff xs).1 ha).1 k hk hk
  rw [h] at this; cases this
theorem okB_bad2 {xs : List A} {k : Nat} (hk : k + 1 < xs.length) (h : ¬ cmpA xs[k] xs[k + 1] < 0) : okB xs = false := by
  rw [Bool.eq_false_iff]; intro ha
  exact h (((okB_iff xs).1 ha).2 (k + 1) hk hk (by omega))
theorem asc_end {xs : List A} (H : ascTo xs xs.length) : asc xs = true := (asc_iff xs).2 fun i hi => H (i + 1) hi hi (by omega)
theorem factsOk_eq (xs : List A) : factsOk xs = (okB xs && decide (xs.length ≤ 300)) := by
  unfold factsOk okB; cases decide (xs.length ≤ 300) <;> simp
variable {w : World} {Ad : Option Addr} {len cap : Nat} {bs : List Nat} {k : Nat}
theorem atoms_two {xs : List A} {j : Nat} (h : atomsK w [.slice Ad len cap] xs bs) (hj : j < xs.length) (hk : k < xs.length) :
    ∃ b o Ae ce bk Af cf bm, Ad = some ⟨b, o, none⟩ ∧
      w.cell? ⟨b, o + j * 2, none⟩ = some (.string xs[j].name) ∧ w.cell? ⟨b, o + j * 2 + 1, none⟩ = some (.slice Ae xs[j].args.length ce) ∧ atomK w [.string xs[j].name, .slice Ae xs[j].args.length ce] xs[j] bk ∧
      w.cell? ⟨b, o + k * 2, none⟩ = some (.string xs[k].name) ∧ w.cell? ⟨b, o + k * 2 + 1, none⟩ = some (.slice Af xs[k].args.length cf) ∧ atomK w [.string xs[k].name, .slice Af xs[k].args.length cf] xs[k] bm := by
  obtain ⟨b, o, Ae, ce, bk, rfl, _, c0, c1, hel, _⟩ := atoms_el h hj
  obtain ⟨b', o', Af, cf, bm, e, _, d0, d1, hel', _⟩ := atoms_el h hk
  cases e
  exact ⟨b, o, Ae, ce, bk, Af, cf, bm, rfl, c0, c1, hel, d0, d1, hel'⟩
end

section
theorem cmpA_lt_le {a b d : A} (h1 : cmpA a b < 0) (h2 : cmpA b d ≤ 0) : cmpA a d < 0 := by
  rw [cmpA_lex] at *
  exact (lexL_is cmpS_is).lt_of_lt_le h1 h2
theorem asc_lt {xs : List A} (hs : asc xs = true) {i j : Nat} (hj : j < xs.length) (hij : i < j) : cmpA (xs[i]'(by omega)) xs[j] < 0 := by
  induction j with
  | zero => omega
  | succ j ih =>
    have h1 := (asc_iff xs).1 hs j hj
    by_cases e : i = j
    · subst e; exact h1
    · exact cmpA_lt_le (ih (by omega) (by omega)) (by omega)
def lessA (a x : A) : Bool := decide (cmpA x a < 0)
def pl (xs : List A) (a : A) : Nat := xs.countP (lessA a)
def hasB (xs : List A) (a : A) : Bool := xs.any (fun x => decide (cmpA x a = 0))
def ltTo (xs : List A) (a : A) (k : Nat) : Prop := ∀ j (h : j < xs.length), j < k → cmpA xs[j] a < 0
theorem ltTo_zero (xs : List A) (a : A) : ltTo xs a 0 := fun _ _ h => absurd h (Nat.not_lt_zero _)
theorem ltTo_step {xs : List A} {a : A} {k : Nat} (H : ltTo xs a k) (hk : k < xs.length) (h : cmpA xs[k] a < 0) : ltTo xs a (k + 1) := fun j hj hjk => by
  by_cases e : j = k
  · subst e; exact h
  · exact H j hj (by omega)
theorem not_lt_from {xs : List A} {a : A} {k : Nat} (hs : asc xs = true) (hk : k < xs.length) (h : ¬ cmpA xs[k] a < 0) {j : Nat} (hj : j < xs.length) (hkj : k ≤ j) : ¬ cmpA xs[j] a < 0 := fun hc => by
  by_cases e : k = j
  · subst e; exact h hc
  · exact h (cmpA_lt_le (asc_lt hs hj (by omega)) (by omega))
theorem place_of {xs : List A} {a : A} {k : Nat} (hs : asc xs = true) (hk : k ≤ xs.length) (h1 : ltTo xs a k) (h2 : ∀ h : k < xs.length, ¬ cmpA xs[k] a < 0) : k = pl xs a := by
  unfold pl
  conv => rhs; rw [← List.take_append_drop k xs]
  rw [List.countP_append, List.countP_eq_length.2, List.countP_eq_zero.2]
  · simp; omega
  · intro y hy
    obtain ⟨j, hj, rfl⟩ := List.mem_iff_getElem.1 hy
    rw [List.length_drop] at hj
    rw [List.getElem_drop]
    have := not_lt_from hs (by omega) (h2 (by omega)) (j := k + j) (by omega) (by omega)
    simp [lessA]; omega
  · intro y hy
    obtain ⟨j, hj, rfl⟩ := List.mem_iff_getElem.1 hy
    rw [List.length_take] at hj
    rw [List.getElem_take]
    simp only [lessA, decide_eq_true_eq]
    exact h1 j (by omega) (by omega)
theorem has_at {xs : List A} {a : A} {k : Nat} (hs : asc xs = true) (hk : k < xs.length) (h1 : ltTo xs a k) (h2 : ¬ cmpA xs[k] a < 0) : hasB xs a = decide (cmpA xs[k] a = 0) := by
  by_cases hc : cmpA xs[k] a = 0
  · rw [decide_eq_true hc]; unfold hasB; rw [List.any_eq_true]; exact ⟨_, List.getElem_mem hk, by simpa using hc⟩
  · rw [decide_eq_false hc]; unfold hasB; rw [List.any_eq_false]
    intro y hy hcy
    obtain ⟨j, hj, rfl⟩ := List.mem_iff_getElem.1 hy
    simp only [decide_eq_true_eq] at hcy
    rcases Nat.lt_trichotomy j k with h | h | h
    · have := h1 j hj h; omega
    · subst h; exact hc hcy
    · exact h2 (cmpA_lt_le (asc_lt hs hj h) (by omega))
theorem has_end {xs : List A} {a : A} (h1 : ltTo xs a xs.length) : hasB xs a = false := by
  unfold hasB; rw [List.any_eq_false]
  intro y hy hcy
  obtain ⟨j, hj, rfl⟩ := List.mem_iff_getElem.1 hy
  simp only [decide_eq_true_eq] at hcy
  have := h1 j hj hj; omega
end

section
def factsHas (xs : List A) (a : A) : Bool := factsOk xs && isFactB a && hasB xs a
theorem factsOk_asc {xs : List A} (h : factsOk xs = true) : asc xs = true := by
  unfold factsOk at h; simp only [Bool.and_eq_true] at h; exact h.2
theorem factsOk_len {xs : List A} (h : factsOk xs = true) : xs.length ≤ 300 := by
  unfold factsOk at h; simp only [Bool.and_eq_true, decide_eq_true_eq] at h; exact h.1.1
theorem factsOk_fact {xs : List A} (h : factsOk xs = true) : ∀ x ∈ xs, isFactB x = true := by
  unfold factsOk at h; simp only [Bool.and_eq_true, List.all_eq_true] at h; exact h.1.2
end

section
def meets (xs ys : List A) : Bool := xs.any (hasB ys)
def changeOk (c : Ch) : Bool := factsOk c.comes && factsOk c.goes && !meets c.comes c.goes
theorem meets_bad {xs ys : List A} {k : Nat} (hk : k < xs.length) (h : hasB ys xs[k] = true) : meets xs ys = true := by
  unfold meets; rw [List.any_eq_true]; exact ⟨_, List.getElem_mem hk, h⟩
theorem meets_snoc {xs ys : List A} {k : Nat} (hk : k < xs.length) : meets (xs.take (k + 1)) ys = (meets (xs.take k) ys || hasB ys xs[k]) := by
  unfold meets; rw [List.take_succ_eq_append_getElem hk, List.any_append]; simp
end
end D

end Go.Proofs.Ytbppnelbjklpeaa
