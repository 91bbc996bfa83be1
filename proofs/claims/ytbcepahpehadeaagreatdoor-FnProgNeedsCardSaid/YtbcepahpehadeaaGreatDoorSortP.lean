/- Names of variables, sorted, each once: plain. -/
import Derived.Lib.SlicesCompact
import Derived.Sort.KeysCollected
import Derived.Test.YtbcepahpehadeaaGreatDoorVarP
namespace Go.Proofs.YtbcepahpehadeaaGreatDoor.D
open Go.RowKit
set_option linter.unusedVariables false

theorem ltU_iff : ∀ (l m : List UInt8), l < m ↔ lexL cmpU l m < 0
  | [], [] => by simp [lexL]
  | [], b :: m => by simp [lexL]
  | a :: l, [] => by simp [lexL]
  | a :: l, b :: m => by
    have e : lexL cmpU (a :: l) (b :: m) = if cmpU a b = 0 then lexL cmpU l m else cmpU a b := rfl
    rw [List.cons_lt_cons_iff, ltU_iff l m, e]
    by_cases h : a = b
    · subst h
      have h0 : cmpU a a = 0 := cmpU_is.refl a
      rw [if_pos h0]
      simp
    · have hn : ¬ cmpU a b = 0 := fun e => h ((cmpU_is.eq a b).1 e)
      rw [if_neg hn]
      have h1 : a < b ↔ cmpU a b < 0 := by
        unfold cmpU
        by_cases hab : a < b
        · simp [hab]
        · rw [if_neg hab]
          constructor
          · exact fun h2 => absurd h2 hab
          · intro h2; split at h2 <;> omega
      rw [h1]
      constructor
      · rintro (h2 | ⟨h2, _⟩)
        · exact h2
        · exact absurd h2 h
      · exact .inl

theorem leB_le {x y : List UInt8} : leB x y = true ↔ x ≤ y := by simp [leB]

theorem sorted_sort (ss : List (List UInt8)) : (ss.mergeSort leB).Pairwise (fun a b => a ≤ b) := by
  have tr : ∀ a b c : List UInt8, leB a b = true → leB b c = true → leB a c = true := fun a b c h1 h2 => by simp only [leB, decide_eq_true_eq] at *; exact List.le_trans h1 h2
  have to : ∀ a b : List UInt8, (leB a b || leB b a) = true := fun a b => by simp only [leB, Bool.or_eq_true, decide_eq_true_eq]; exact List.le_total a b
  exact (List.pairwise_mergeSort tr to ss).imp fun h => leB_le.1 h

/-- The list sorted, of equal neighbours one: ascending. -/
theorem compact_asc {s : List (List UInt8)} (h : s.Pairwise (fun a b => a ≤ b)) : (Lib.compact s).Pairwise (fun a b => a < b) := by
  unfold Lib.compact Lib.compactUpTo
  have hat : ∀ i, i < s.length → s.toArray[i]! = s[i]! := fun i hi => by simp
  refine List.pairwise_map.2 ?_
  refine ((List.pairwise_lt_range (n := s.length)).filter _).imp_of_mem ?_
  intro i j hi hj hij
  have hj' := List.mem_filter.1 hj
  have hjl : j < s.length := List.mem_range.1 hj'.1
  have hk : j = 0 ∨ s.toArray[j]! ≠ s.toArray[j - 1]! := by simpa [Lib.keeps] using hj'.2
  have hne : s.toArray[j]! ≠ s.toArray[j - 1]! := hk.resolve_left (by omega)
  have hw := List.pairwise_iff_getElem.1 h
  have e1 : s.toArray[i]! = s[i]'(by omega) := by rw [getElem!_pos _ _ (by simp; omega)]; simp
  have e2 : s.toArray[j]! = s[j]'hjl := by rw [getElem!_pos _ _ (by simp; omega)]; simp
  have e3 : s.toArray[j - 1]! = s[j - 1]'(by omega) := by rw [getElem!_pos _ _ (by simp; omega)]; simp
  rw [e1, e2]
  rw [e2, e3] at hne
  have h1 : s[i]'(by omega) ≤ s[j - 1]'(by omega) := by
    by_cases e : i = j - 1
    · subst e; exact List.le_refl _
    · exact hw i (j - 1) (by omega) (by omega) (by omega)
  have h2 : s[j - 1]'(by omega) ≤ s[j]'hjl := hw (j - 1) j (by omega) hjl (by omega)
  have h3 : s[i]'(by omega) ≤ s[j]'hjl := List.le_trans h1 h2
  rw [← List.not_le]
  intro h4
  exact hne (List.le_antisymm (List.le_trans h4 h1) h2)

theorem compact_mem (s : List (List UInt8)) (x : List UInt8) : x ∈ Lib.compact s ↔ x ∈ s := by
  unfold Lib.compact Lib.compactUpTo
  constructor
  · intro h
    obtain ⟨j, hj, rfl⟩ := List.mem_map.1 h
    have hjl : j < s.length := List.mem_range.1 (List.mem_filter.1 hj).1
    rw [getElem!_pos _ _ (by simpa using hjl)]
    simp
  · intro h
    obtain ⟨j, hj, rfl⟩ := List.mem_iff_getElem.1 h
    have key : ∀ (j : Nat) (hj : j < s.length), ∃ i ∈ (List.range s.length).filter (Lib.keeps s.toArray), s.toArray[i]! = s.toArray[j]! := by
      intro j
      induction j with
      | zero => intro hj; exact ⟨0, List.mem_filter.2 ⟨List.mem_range.2 hj, by simp [Lib.keeps]⟩, rfl⟩
      | succ j ih =>
        intro hj
        by_cases e : s.toArray[j + 1]! = s.toArray[j]!
        · obtain ⟨i, hi, he⟩ := ih (by omega)
          exact ⟨i, hi, by rw [he, e]⟩
        · exact ⟨j + 1, List.mem_filter.2 ⟨List.mem_range.2 hj, by simp only [Lib.keeps, decide_eq_true_eq]; exact .inr e⟩, rfl⟩
    obtain ⟨i, hi, he⟩ := key j hj
    refine List.mem_map.2 ⟨i, hi, ?_⟩
    rw [he, getElem!_pos _ _ (by simpa using hj)]
    simp

theorem compact_le (s : List (List UInt8)) : (Lib.compact s).length ≤ s.length := by
  unfold Lib.compact Lib.compactUpTo
  rw [List.length_map]
  exact Nat.le_trans (List.length_filter_le _ _) (by simp)

theorem bytes_inj {a b : ByteArray} (h : a.data.toList = b.data.toList) : a = b := by
  cases a; cases b; simp at h; rw [h]

/-- Two ascending lists of the same members are one. -/
theorem asc_one {xs ys : List (List UInt8)} (hx : xs.Pairwise (fun a b => a < b)) (hy : ys.Pairwise (fun a b => a < b)) (hm : ∀ x, x ∈ xs ↔ x ∈ ys) : xs = ys := by
  have n1 : xs.Nodup := hx.imp fun {a b} h e => by subst e; exact List.lt_irrefl _ h
  have n2 : ys.Nodup := hy.imp fun {a b} h e => by subst e; exact List.lt_irrefl _ h
  refine List.Perm.eq_of_pairwise (le := fun a b => a < b) (fun a b _ _ h1 h2 => absurd (List.lt_trans h1 h2) (List.lt_irrefl _)) hx hy ((List.perm_ext_iff_of_nodup n1 n2).2 hm)

theorem compact_sorted {ss : List (List UInt8)} {xs : List ByteArray} (hx : ascS xs) (hm : ∀ b, b ∈ ss ↔ ∃ x ∈ xs, x.data.toList = b) : Lib.compact (ss.mergeSort fun x y => decide (x ≤ y)) = xs.map (·.data.toList) := by
  refine asc_one (compact_asc (sorted_sort ss)) ?_ ?_
  · exact List.pairwise_map.2 (hx.imp fun {a b} h => (ltU_iff _ _).2 h)
  · intro b
    rw [compact_mem, (List.mergeSort_perm ss leB).mem_iff, hm]
    simp

/-- The names of the variables, as they come. -/
def namesTs (ts : List T) : List ByteArray := (ts.filter (·.var)).map (·.name)
def namesPs (ps : List Pt) : List ByteArray := ps.flatMap fun p => namesTs p.atom.args
theorem namesTs_snoc (ts : List T) (k : Nat) (h : k < ts.length) : namesTs (ts.take (k + 1)) = namesTs (ts.take k) ++ (if ts[k].var then [ts[k].name] else []) := by
  unfold namesTs
  rw [List.take_succ_eq_append_getElem h, List.filter_append, List.map_append]
  congr 1
  cases hv : ts[k].var <;> simp [hv]
theorem namesPs_snoc (ps : List Pt) (k : Nat) (h : k < ps.length) : namesPs (ps.take (k + 1)) = namesPs (ps.take k) ++ namesTs ps[k].atom.args := by
  unfold namesPs
  rw [List.take_succ_eq_append_getElem h, List.flatMap_append]
  simp
theorem namesTs_mem (ts : List T) (x : ByteArray) : x ∈ namesTs ts ↔ varIn x ts := by
  unfold namesTs varIn
  simp only [List.mem_map, List.mem_filter]
  constructor
  · rintro ⟨t, ⟨h1, h2⟩, h3⟩; exact ⟨t, h1, h2, h3⟩
  · rintro ⟨t, h1, h2, h3⟩; exact ⟨t, ⟨h1, h2⟩, h3⟩
theorem namesPs_mem (ps : List Pt) (x : ByteArray) : x ∈ namesPs ps ↔ ∃ p ∈ ps, varIn x p.atom.args := by
  unfold namesPs
  simp only [List.mem_flatMap, namesTs_mem]
theorem namesTs_len (ts : List T) : (namesTs ts).length ≤ ts.length := by
  unfold namesTs; rw [List.length_map]; exact List.length_filter_le _ _
theorem namesPs_len : ∀ (ps : List Pt), (namesPs ps).length ≤ sumL (fun p => p.atom.args.length) ps
  | [] => by simp [namesPs]
  | p :: ps => by
    have h1 := namesPs_len ps
    have h2 := namesTs_len p.atom.args
    simp only [namesPs, sumL, List.flatMap_cons, List.length_append, List.map_cons, List.sum_cons] at *
    omega
theorem sorted_names (ps : List Pt) : Lib.compact (((namesPs ps).map (·.data.toList)).mergeSort fun x y => decide (x ≤ y)) = (bodyVars ps).map (·.data.toList) := by
  refine compact_sorted (varsPs_asc ps ascS_nil) fun b => ?_
  simp only [List.mem_map, namesPs_mem]
  constructor
  · rintro ⟨x, h, rfl⟩; exact ⟨x, (varsPs_mem ps [] x).2 (.inr h), rfl⟩
  · rintro ⟨x, h, rfl⟩
    refine ⟨x, ?_, rfl⟩
    rcases (varsPs_mem ps [] x).1 h with h | h
    · simp at h
    · exact h
theorem bodyVars_len (ps : List Pt) : (bodyVars ps).length ≤ (namesPs ps).length := by
  have h1 := congrArg List.length (sorted_names ps)
  have h2 := compact_le (((namesPs ps).map (·.data.toList)).mergeSort fun x y => decide (x ≤ y))
  rw [List.length_mergeSort] at h2
  simp only [List.length_map] at h1 h2
  omega

end Go.Proofs.YtbcepahpehadeaaGreatDoor.D
