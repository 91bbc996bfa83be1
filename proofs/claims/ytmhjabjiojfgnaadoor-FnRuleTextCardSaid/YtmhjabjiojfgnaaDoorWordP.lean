/- Sizes of what is read from words: plain. -/
import Derived.Test.YtmhjabjiojfgnaaDoorRGetP
namespace Go.Proofs.YtmhjabjiojfgnaaDoor.D
open Go.RowKit Go.Lib
set_option linter.unusedVariables false

theorem argsL_ge (ts : List T) : bulkTs ts + ts.length ≤ (argsL ts).length + 1 := by
  have key : ∀ (ts : List T) (n : Nat), bulkTs ts + ts.length ≤ ((ts.zipIdx n).flatMap fun x => (if x.2 = 0 then [] else [44]) ++ x.1.name.data.toList).length + (if n = 0 then 1 else 0) := by
    intro ts
    induction ts with
    | nil => intro n; simp [bulkTs]
    | cons t r ih =>
      intro n
      have h := ih (n + 1)
      rw [if_neg (Nat.succ_ne_zero n)] at h
      have e : bulkTs (t :: r) = t.name.size + bulkTs r := by simp [bulkTs]
      have e2 : t.name.data.toList.length = t.name.size := Array.length_toList
      rw [List.zipIdx_cons, List.flatMap_cons, List.length_append, List.length_append, e, e2, List.length_cons]
      by_cases hn : n = 0
      · subst hn; simp only [if_true, List.length_nil]; omega
      · rw [if_neg hn, if_neg hn]; simp only [List.length_cons, List.length_nil]; omega
  have := key ts 0
  simpa [argsL] using this
theorem bulkA_putL (a : A) : bulkA a ≤ (putL a).length := by
  have h := argsL_ge a.args
  have e : a.name.data.toList.length = a.name.size := Array.length_toList
  unfold bulkA putL
  simp only [List.length_append, List.length_cons, List.length_nil]
  omega
theorem getS_bulk {t : List UInt8} (h : (getS t).2 = true) : bulkA (getS t).1 ≤ t.length := by
  rw [getS_getI] at h ⊢
  have h1 := (getI_back h).2
  have := bulkA_putL (getI t).1
  rw [h1] at this
  exact this
theorem words_bulk : ∀ (n : Nat) (ws : List (List UInt8)) (ps : List Pt), ws.length ≤ n → wordsS ws = some ps → bulkPts ps ≤ (ws.map fun w => w.length + 1).sum ∧ ps.length ≤ ws.length := by
  intro n
  induction n with
  | zero =>
    intro ws ps hn h
    have : ws = [] := List.length_eq_zero_iff.1 (by omega)
    subst this
    unfold wordsS at h
    injection h with h
    subst h
    simp [bulkPts, sumL]
  | succ n ih =>
    intro ws ps hn h
    have one : ∀ (no : Bool) (w : List UInt8) (r : List (List UInt8)) (pre : Nat), r.length ≤ n → oneS no w (wordsS r) = some ps → (bulkPts ps ≤ (w.length + 1) + (r.map fun w => w.length + 1).sum) ∧ ps.length ≤ r.length + 1 := by
      intro no w r pre hr h1
      unfold oneS at h1
      split at h1
      · rename_i hg
        cases hq : wordsS r with
        | none => rw [hq] at h1; cases h1
        | some qs =>
          rw [hq] at h1
          injection h1 with h1
          subst h1
          have := ih r qs hr hq
          have hb := getS_bulk hg
          have e : bulkPts (⟨no, (getS w).1⟩ :: qs) = 1 + (bulkA (getS w).1 + bulkPts qs) := by
            simp [bulkPts, sumL, bulkPt]; omega
          rw [e]
          simp only [List.length_cons]
          omega
      · cases h1
    cases ws with
    | nil =>
      unfold wordsS at h
      injection h with h
      subst h
      simp [bulkPts, sumL]
    | cons w r =>
      have hdrop : ∀ r : List (List UInt8), (r.drop 1).length ≤ r.length ∧ ((r.drop 1).map fun w => w.length + 1).sum ≤ (r.map fun w => w.length + 1).sum := by
        intro r
        cases r with
        | nil => simp
        | cons x r => simp
      simp only [List.length_cons] at hn
      by_cases hw : w = notW ∧ r ≠ []
      · obtain ⟨rfl, hne⟩ := hw
        cases r with
        | nil => exact absurd rfl hne
        | cons x r =>
          rw [wordsS_not] at h
          have h1 := hdrop r
          simp only [List.length_cons] at hn
          have := one _ _ _ 0 (by omega) h
          simp only [List.map_cons, List.sum_cons, List.length_cons]
          omega
      · have hw2 : w ≠ notW ∨ r = [] := by
          by_cases e : w = notW
          · right; exact Classical.byContradiction fun he => hw ⟨e, he⟩
          · exact .inl e
        rw [wordsS_pos hw2] at h
        have h1 := hdrop r
        have := one _ _ _ 0 (by omega) h
        simp only [List.map_cons, List.sum_cons, List.length_cons]
        omega
theorem sum_join (c : UInt8) : ∀ (ws : List (List UInt8)), (ws.map fun w => w.length + 1).sum ≤ (joinL c ws).length + 1
  | [] => by simp
  | [p] => by simp [joinL]
  | p :: q :: r => by
    have := sum_join c (q :: r)
    have e : joinL c (p :: q :: r) = p ++ c :: joinL c (q :: r) := rfl
    rw [e, List.map_cons, List.sum_cons]
    simp only [List.length_append, List.length_cons]
    omega
theorem sum_split (c : UInt8) (t : List UInt8) : ((splitL c t).map fun w => w.length + 1).sum ≤ t.length + 1 := by
  have := sum_join c (splitL c t)
  rwa [joinL_split] at this

/-! A step through the words. -/
theorem drop_one {α : Type} {ws : List α} {k : Nat} (h : k < ws.length) : ws.drop k = ws[k] :: ws.drop (k + 1) := List.drop_eq_getElem_cons h
theorem words_at_not {ws : List (List UInt8)} {k : Nat} (h : k + 1 < ws.length) (hw : ws[k] = notW) : wordsS (ws.drop k) = oneS true ws[k + 1] (wordsS (ws.drop (k + 3))) := by
  rw [drop_one (show k < ws.length by omega), drop_one h, hw, wordsS_not, List.drop_drop]
theorem words_at_pos {ws : List (List UInt8)} {k : Nat} (h : k < ws.length) (hw : ws[k] ≠ notW ∨ ¬ k + 1 < ws.length) : wordsS (ws.drop k) = oneS false ws[k] (wordsS (ws.drop (k + 2))) := by
  rw [drop_one h, wordsS_pos, List.drop_drop]
  rcases hw with hw | hw
  · exact .inl hw
  · right; exact List.drop_of_length_le (by omega)
theorem words_end {ws : List (List UInt8)} {k : Nat} (h : ws.length ≤ k) : wordsS (ws.drop k) = some [] := by
  rw [List.drop_of_length_le h]; unfold wordsS; rfl
theorem one_step {ws ps : Option (List Pt)} {no : Bool} {w : List UInt8} {qs : List Pt} (hg : (getS w).2 = true) (h : ws = (oneS no w ps).map (qs ++ ·)) : ws = ps.map (qs ++ [⟨no, (getS w).1⟩] ++ ·) := by
  rw [h]; unfold oneS; rw [if_pos hg]
  cases ps with
  | none => rfl
  | some x => simp
theorem one_stop {ws ps : Option (List Pt)} {no : Bool} {w : List UInt8} {qs : List Pt} (hg : (getS w).2 = false) (h : ws = (oneS no w ps).map (qs ++ ·)) : ws = none := by
  rw [h]; unfold oneS; rw [if_neg (by rw [hg]; exact Bool.false_ne_true)]; rfl

end Go.Proofs.YtmhjabjiojfgnaaDoor.D
