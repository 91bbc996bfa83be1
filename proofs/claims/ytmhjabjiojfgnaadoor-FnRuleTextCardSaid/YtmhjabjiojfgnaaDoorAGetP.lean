/- An atom read from its text: plain. -/
import Derived.Test.YtmhjabjiojfgnaaDoorSplP
import Derived.Test.YtmhjabjiojfgnaaDoorPut
namespace Go.Proofs.YtmhjabjiojfgnaaDoor.D
open Go.RowKit Go.Lib
set_option linter.unusedVariables false

def argT (s : ByteArray) : T := ⟨capB s, s⟩
def zeroA : A := ⟨⟨#[]⟩, []⟩
def atomOf (nm inner : List UInt8) : A := ⟨toB nm, if inner = [] then [] else (splitL 44 inner).map fun w => argT (toB w)⟩
/-- As the reference reads it. -/
def getS (t : List UInt8) : A × Bool := match splitL 40 t with
  | [nm, rest] => if t.length ≤ 1500 ∧ rest ≠ [] then (if (if atomOk (atomOf nm rest.dropLast) then putL (atomOf nm rest.dropLast) else []) = t then (atomOf nm rest.dropLast, true) else (zeroA, false)) else (zeroA, false)
  | _ => (zeroA, false)
/-- As the program reads it. -/
def getI (t : List UInt8) : A × Bool := if 1500 < t.length then (zeroA, false) else
  if (cut t [40]).2.2 = true ∧ (cut t [40]).2.1.getLast? = some 41 then (if atomOk (atomOf (cut t [40]).1 (cut t [40]).2.1.dropLast) then (atomOf (cut t [40]).1 (cut t [40]).2.1.dropLast, true) else (zeroA, false)) else (zeroA, false)

theorem argsL_join : ∀ (ws : List (List UInt8)), argsL (ws.map fun w => argT (toB w)) = joinL 44 ws := by
  have key : ∀ (ws : List (List UInt8)) (n : Nat), ((ws.map fun w => argT (toB w)).zipIdx n).flatMap (fun x => (if x.2 = 0 then [] else [44]) ++ x.1.name.data.toList) = (if n = 0 then joinL 44 ws else if ws = [] then [] else 44 :: joinL 44 ws) := by
    intro ws
    induction ws with
    | nil => intro n; split <;> rfl
    | cons p ps ih =>
      intro n
      rw [List.map_cons, List.zipIdx_cons, List.flatMap_cons, ih (n + 1), if_neg (Nat.succ_ne_zero n)]
      cases ps with
      | nil =>
        by_cases hn : n = 0
        · subst hn; simp [joinL, argT, toB]
        · simp [hn, joinL, argT, toB]
      | cons q r =>
        by_cases hn : n = 0
        · subst hn; simp [joinL, argT, toB]
        · simp [hn, joinL, argT, toB]
  intro ws
  have := key ws 0
  simpa [argsL] using this
theorem putL_atomOf (nm inner : List UInt8) : putL (atomOf nm inner) = nm ++ [40] ++ inner ++ [41] := by
  unfold putL atomOf
  show (toB nm).data.toList ++ [40] ++ argsL (if inner = [] then [] else (splitL 44 inner).map fun w => argT (toB w)) ++ [41] = _
  rw [toB_data]
  by_cases h : inner = []
  · rw [if_pos h, h]; rfl
  · rw [if_neg h, argsL_join, joinL_split]
theorem low_not (c : UInt8) (h : low c = true) : c ≠ 40 ∧ c ≠ 41 ∧ c ≠ 44 ∧ c ≠ 32 := by
  refine ⟨?_, ?_, ?_, ?_⟩ <;> (intro e; subst e; exact absurd h (by decide))
theorem name_not {s : ByteArray} (h : nameOk s = true) : (40 : UInt8) ∉ s.data.toList := by
  unfold nameOk at h
  simp only [Bool.and_eq_true] at h
  intro hm
  exact (low_not _ (List.all_eq_true.1 h.1.2 _ hm)).1 rfl
theorem var_not {s : ByteArray} (h : varOk s = true) : (40 : UInt8) ∉ s.data.toList := by
  unfold varOk at h
  simp only [Bool.and_eq_true] at h
  intro hm
  have h1 := h.1.2
  unfold capB at h1
  simp only [Bool.and_eq_true] at h1
  cases hs : s.data.toList with
  | nil => rw [hs] at hm; simp at hm
  | cons x xs =>
    rw [hs] at hm h1 h
    rcases List.mem_cons.1 hm with e | hm
    · have h2 := h1.2
      rw [← e] at h2
      exact absurd (show big 40 = true from h2) (by decide)
    · exact (low_not _ (List.all_eq_true.1 h.2 _ hm)).1 rfl
theorem term_not {t : T} (h : termOk t = true) : (40 : UInt8) ∉ t.name.data.toList := by
  unfold termOk at h
  split at h
  · exact var_not h
  · exact name_not h
theorem join_not {c d : UInt8} (hcd : d ≠ c) : ∀ {ps : List (List UInt8)}, (∀ p ∈ ps, d ∉ p) → d ∉ joinL c ps
  | [], _ => by simp [joinL]
  | [p], h => h p (List.mem_cons_self ..)
  | p :: q :: r, h => by
    show d ∉ p ++ c :: joinL c (q :: r)
    intro hm
    rcases List.mem_append.1 hm with hm | hm
    · exact h p (List.mem_cons_self ..) hm
    · rcases List.mem_cons.1 hm with e | hm
      · exact hcd e
      · exact join_not hcd (ps := q :: r) (fun x hx => h x (List.mem_cons_of_mem _ hx)) hm
theorem inner_not {nm inner : List UInt8} (h : atomOk (atomOf nm inner) = true) : (40 : UInt8) ∉ inner := by
  unfold atomOk at h
  simp only [Bool.and_eq_true] at h
  by_cases hi : inner = []
  · rw [hi]; simp
  · have h2 := h.2
    have e : (atomOf nm inner).args = (splitL 44 inner).map fun w => argT (toB w) := by unfold atomOf; rw [if_neg hi]
    rw [e] at h2
    rw [← joinL_split 44 inner]
    refine join_not (by decide) fun p hp => ?_
    have := List.all_eq_true.1 h2 (argT (toB p)) (List.mem_map.2 ⟨p, hp, rfl⟩)
    exact term_not this
theorem last_split {l : List UInt8} (h : l.getLast? = some 41) : l = l.dropLast ++ [41] := by
  have hne : l ≠ [] := by intro e; subst e; simp at h
  have := List.dropLast_concat_getLast hne
  rw [List.getLast?_eq_some_getLast hne] at h
  injection h with h
  rw [h] at this
  exact this.symm
theorem getS_getI (t : List UInt8) : getS t = getI t := by
  unfold getS getI
  rcases cut_is t 40 with ⟨h1, h2⟩ | ⟨a, b, h1, h2, h3⟩
  · rw [splitL_miss h1, h2]
    simp
  · rw [h3]
    by_cases hl : 1500 < t.length
    · rw [if_pos hl]
      split
      · rw [if_neg (by intro h; omega)]
      · rfl
    · rw [if_neg hl]
      by_cases hc : b.getLast? = some 41
      · rw [if_pos ⟨rfl, hc⟩]
        have hb := last_split hc
        by_cases ho : atomOk (atomOf a b.dropLast) = true
        · rw [if_pos ho]
          have hni := inner_not ho
          have hs : splitL 40 t = [a, b] := by
            rw [h1, splitL_hit b h2, splitL_miss (by
              rw [hb]
              intro hm
              rcases List.mem_append.1 hm with hm | hm
              · exact hni hm
              · exact absurd (List.mem_singleton.1 hm) (by decide))]
          rw [hs]
          have hne : b ≠ [] := by intro e; subst e; simp at hc
          show (if t.length ≤ 1500 ∧ b ≠ [] then _ else _) = _
          rw [if_pos ⟨by omega, hne⟩, if_pos ho, putL_atomOf, if_pos]
          conv => rhs; rw [h1, hb]
          simp
        · rw [if_neg ho]
          split
          · rename_i nm rest hs
            split
            · rename_i hr
              have hpe : nm = a ∧ rest = b ∨ ¬ (nm = a ∧ rest = b) := Classical.em _
              have hsp : splitL 40 t = a :: splitL 40 b := by rw [h1, splitL_hit b h2]
              rw [hsp] at hs
              injection hs with e1 e2
              have e3 : joinL 40 (splitL 40 b) = b := joinL_split 40 b
              rw [e2] at e3
              have e4 : rest = b := e3
              subst e1 e4
              rw [if_neg ho]
              rw [if_neg (by intro e; rw [h1] at e; simp at e)]
            · rfl
          · rfl
      · rw [if_neg (by intro h; exact hc h.2)]
        split
        · rename_i nm rest hs
          split
          · rename_i hr
            have hsp : splitL 40 t = a :: splitL 40 b := by rw [h1, splitL_hit b h2]
            rw [hsp] at hs
            injection hs with e1 e2
            have e3 : joinL 40 (splitL 40 b) = b := joinL_split 40 b
            rw [e2] at e3
            have e4 : rest = b := e3
            subst e1 e4
            rw [if_neg]
            intro e
            split at e
            · rw [putL_atomOf] at e
              apply hc
              have hl2 : (a ++ 40 :: rest).getLast? = some 41 := by rw [← h1, ← e, List.getLast?_append]; rfl
              have hne := hr.2
              rw [List.getLast?_append, List.getLast?_cons] at hl2
              cases hg : rest.getLast? with
              | none => exact absurd (List.getLast?_eq_none_iff.1 hg) hne
              | some y => rw [hg] at hl2; simpa using hl2
            · rw [h1] at e; simp at e
          · rfl
        · rfl

end Go.Proofs.YtmhjabjiojfgnaaDoor.D
