/- An atom is read back from its text: plain. -/
import Derived.Test.YtmhjabjiojfgnaaDoorAGetP
namespace Go.Proofs.YtmhjabjiojfgnaaDoor.D
open Go.RowKit Go.Lib
set_option linter.unusedVariables false

theorem low_big {c : UInt8} (h : low c = true) : big c = false := by
  cases hb : big c
  · rfl
  · exfalso
    have h1 := (big_int c).1 hb
    have : low c = false := (low_int c).2 (by omega)
    rw [this] at h; cases h
theorem name_cap {s : ByteArray} (h : nameOk s = true) : capB s = false := by
  unfold nameOk lows at h
  simp only [Bool.and_eq_true] at h
  unfold capB
  cases hs : s.data.toList with
  | nil => simp [big]
  | cons x xs =>
    have := List.all_eq_true.1 h.1.2 x (by rw [hs]; exact List.mem_cons_self ..)
    simp [low_big this]
theorem term_arg {t : T} (h : termOk t = true) : argT t.name = t := by
  unfold argT
  unfold termOk at h
  obtain ⟨v, s⟩ := t
  cases v
  · have := name_cap (s := s) (by simpa using h)
    show (⟨capB s, s⟩ : T) = ⟨false, s⟩
    rw [this]
  · have h1 : varOk s = true := by simpa using h
    unfold varOk at h1
    simp only [Bool.and_eq_true] at h1
    show (⟨capB s, s⟩ : T) = ⟨true, s⟩
    rw [h1.1.2]
theorem term_no44 {t : T} (h : termOk t = true) : (44 : UInt8) ∉ t.name.data.toList ∧ t.name.data.toList ≠ [] ∧ t.name.data.toList.length ≤ 8 := by
  have hz : t.name.data.toList.length = t.name.size := Array.length_toList
  unfold termOk at h
  split at h
  · unfold varOk at h
    simp only [Bool.and_eq_true, decide_eq_true_eq] at h
    have h1 := h.1.2
    unfold capB at h1
    simp only [Bool.and_eq_true, decide_eq_true_eq] at h1
    refine ⟨?_, by intro e; rw [e] at hz; simp at hz; omega, by omega⟩
    intro hm
    cases hs : t.name.data.toList with
    | nil => rw [hs] at hm; simp at hm
    | cons x xs =>
      rw [hs] at hm h1 h
      rcases List.mem_cons.1 hm with e | hm
      · have h2 := h1.2
        rw [← e] at h2
        exact absurd (show big 44 = true from h2) (by decide)
      · exact (low_not _ (List.all_eq_true.1 h.2 _ hm)).2.2.1 rfl
  · unfold nameOk at h
    simp only [Bool.and_eq_true, decide_eq_true_eq] at h
    refine ⟨?_, by intro e; rw [e] at hz; simp at hz; omega, by omega⟩
    intro hm
    exact (low_not _ (List.all_eq_true.1 h.1.2 _ hm)).2.2.1 rfl
theorem atom_of {a : A} (h : atomOk a = true) : atomOf a.name.data.toList (argsL a.args) = a := by
  unfold atomOk at h
  simp only [Bool.and_eq_true] at h
  have hall := List.all_eq_true.1 h.2
  have e : a.args = (a.args.map fun t => t.name.data.toList).map fun w => argT (toB w) := by
    rw [List.map_map]
    conv => lhs; rw [← List.map_id a.args]
    refine List.map_congr_left fun t ht => ?_
    show t = argT (toB t.name.data.toList)
    rw [toB_of, term_arg (hall t ht)]
  have ej : argsL a.args = joinL 44 (a.args.map fun t => t.name.data.toList) := by
    conv => lhs; rw [e]
    rw [argsL_join]
  unfold atomOf
  obtain ⟨nm, args⟩ := a
  dsimp only at *
  rw [toB_of]
  cases args with
  | nil => rw [ej]; rfl
  | cons t r =>
    have hne : joinL 44 ((t :: r).map fun t => t.name.data.toList) ≠ [] := by
      have ht := (term_no44 (hall t (List.mem_cons_self ..))).2.1
      cases r with
      | nil => exact ht
      | cons u r => exact List.append_ne_nil_of_left_ne_nil ht _
    rw [if_neg (by rw [ej]; exact hne), ej, splitL_join]
    · rw [← e]
    · simp
    · intro p hp
      obtain ⟨u, hu, rfl⟩ := List.mem_map.1 hp
      exact (term_no44 (hall u hu)).1
theorem join_le : ∀ (ps : List (List UInt8)), (∀ p ∈ ps, p.length ≤ 8) → (joinL 44 ps).length ≤ 9 * ps.length
  | [], _ => by simp [joinL]
  | [p], h => by have := h p (List.mem_cons_self ..); simp [joinL]; omega
  | p :: q :: r, h => by
    have h1 := h p (List.mem_cons_self ..)
    have h2 := join_le (q :: r) fun x hx => h x (List.mem_cons_of_mem _ hx)
    show (p ++ 44 :: joinL 44 (q :: r)).length ≤ _
    rw [List.length_append, List.length_cons]
    simp only [List.length_cons] at *
    omega
theorem args_le {a : A} (h : atomOk a = true) : (argsL a.args).length ≤ 27 := by
  have h0 := h
  unfold atomOk at h
  simp only [Bool.and_eq_true, decide_eq_true_eq] at h
  have hall := List.all_eq_true.1 h.2
  have := atom_of h0
  have e : a.args = (a.args.map fun t => t.name.data.toList).map fun w => argT (toB w) := by
    rw [List.map_map]
    conv => lhs; rw [← List.map_id a.args]
    refine List.map_congr_left fun t ht => ?_
    show t = argT (toB t.name.data.toList)
    rw [toB_of, term_arg (hall t ht)]
  rw [e, argsL_join]
  have := join_le (a.args.map fun t => t.name.data.toList) fun p hp => by
    obtain ⟨u, hu, rfl⟩ := List.mem_map.1 hp
    exact (term_no44 (hall u hu)).2.2
  rw [List.length_map] at this
  omega
theorem name_len {s : ByteArray} (h : nameOk s = true) : s.data.toList.length ≤ 8 ∧ 1 ≤ s.data.toList.length := by
  have hz : s.data.toList.length = s.size := Array.length_toList
  unfold nameOk at h
  simp only [Bool.and_eq_true, decide_eq_true_eq] at h
  omega
theorem putL_le37 {a : A} (h : atomOk a = true) : (putL a).length ≤ 37 := by
  have h1 := args_le h
  unfold atomOk at h
  simp only [Bool.and_eq_true] at h
  have h2 := name_len h.1.1
  unfold putL
  simp only [List.length_append, List.length_singleton]
  omega
theorem getI_putL {a : A} (h : atomOk a = true) : getI (putL a) = (a, true) := by
  have hl := putL_le37 h
  have hc : cut (putL a) [40] = (a.name.data.toList, argsL a.args ++ [41], true) := by
    have hn : (40 : UInt8) ∉ a.name.data.toList := by
      unfold atomOk at h
      simp only [Bool.and_eq_true] at h
      exact name_not h.1.1
    rcases cut_is (putL a) 40 with ⟨h1, _⟩ | ⟨x, y, h1, h2, h3⟩
    · exact absurd (by unfold putL; simp) h1
    · have e : a.name.data.toList ++ 40 :: (argsL a.args ++ [41]) = x ++ 40 :: y := by rw [← h1]; unfold putL; simp
      have hs1 := splitL_hit (argsL a.args ++ [41]) hn
      rw [e, splitL_hit y h2] at hs1
      injection hs1 with e1 _
      rw [h3]
      subst e1
      rw [List.append_cancel_left_eq] at e
      injection e with _ e
      rw [e]
  unfold getI
  rw [if_neg (by omega), hc]
  show (if true = true ∧ (argsL a.args ++ [41]).getLast? = some 41 then _ else _) = _
  rw [if_pos ⟨rfl, by simp⟩]
  show (if atomOk (atomOf a.name.data.toList (argsL a.args ++ [41]).dropLast) = true then _ else _) = _
  rw [List.dropLast_concat, atom_of h, if_pos h]
theorem getI_back {t : List UInt8} (h : (getI t).2 = true) : atomOk (getI t).1 = true ∧ putL (getI t).1 = t := by
  unfold getI at h ⊢
  split at h
  · cases h
  · split at h
    · rename_i hl hc
      split at h
      · rename_i ho
        rw [if_neg hl, if_pos hc, if_pos ho]
        refine ⟨ho, ?_⟩
        rcases cut_is t 40 with ⟨h1, h2⟩ | ⟨a, b, h1, h2, h3⟩
        · rw [h2] at hc; exact absurd hc.1 (by simp)
        · rw [h3] at hc ⊢
          dsimp only at hc ⊢
          rw [putL_atomOf]
          conv => rhs; rw [h1, last_split hc.2]
          simp
      · cases h
    · cases h
theorem getI_no {t : List UInt8} (h : (getI t).2 = false) : (getI t).1 = zeroA := by
  unfold getI at h ⊢
  split
  · rfl
  · rename_i hl
    rw [if_neg hl] at h
    split
    · rename_i hc
      rw [if_pos hc] at h
      split
      · rename_i ho; rw [if_pos ho] at h; cases h
      · rfl
    · rfl

end Go.Proofs.YtmhjabjiojfgnaaDoor.D
