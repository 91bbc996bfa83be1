/- Texts cut at a byte; the library's words for it: plain. -/
import Derived.WalkKit
import Derived.Lib.Hide
import Derived.Lib.Index
import Derived.Lib.IndexMore
import Derived.Lib.Split
import Derived.Lib.SplitLaws
import Derived.Lib.CountLaws
import Derived.Lib.CutLaws
import Derived.Test.YtmhjabjiojfgnaaDoorKind
namespace Go.Proofs.YtmhjabjiojfgnaaDoor.D
open Go.RowKit Go.Lib
set_option linter.unusedVariables false

/-- The pieces of a text between the bytes c. -/
def splitL (c : UInt8) : List UInt8 → List (List UInt8)
  | [] => [[]]
  | x :: xs => if x = c then [] :: splitL c xs else match splitL c xs with
    | [] => [[x]]
    | p :: ps => (x :: p) :: ps
def toB (l : List UInt8) : ByteArray := ⟨l.toArray⟩
theorem toB_data (l : List UInt8) : (toB l).data.toList = l := rfl
theorem toB_of (s : ByteArray) : toB s.data.toList = s := by obtain ⟨⟨l⟩⟩ := s; rfl
theorem toB_inj {a b : List UInt8} (h : toB a = toB b) : a = b := by have := congrArg (fun s : ByteArray => s.data.toList) h; simpa [toB] using this
theorem splitL_ne (c : UInt8) (l : List UInt8) : splitL c l ≠ [] := by
  cases l with
  | nil => simp [splitL]
  | cons x xs =>
    unfold splitL
    split
    · simp
    · split <;> simp
theorem splitL_miss {c : UInt8} : ∀ {l : List UInt8}, c ∉ l → splitL c l = [l]
  | [], _ => rfl
  | x :: xs, h => by
    have hx : x ≠ c := fun e => h (e ▸ List.mem_cons_self ..)
    have ih := splitL_miss (l := xs) (fun hm => h (List.mem_cons_of_mem _ hm))
    unfold splitL
    rw [if_neg hx, ih]
theorem splitL_hit {c : UInt8} : ∀ {a : List UInt8} (b : List UInt8), c ∉ a → splitL c (a ++ c :: b) = a :: splitL c b
  | [], b, _ => by rw [List.nil_append]; conv => lhs; unfold splitL; rw [if_pos rfl]
  | x :: xs, b, h => by
    have hx : x ≠ c := fun e => h (e ▸ List.mem_cons_self ..)
    have ih := splitL_hit (a := xs) b (fun hm => h (List.mem_cons_of_mem _ hm))
    rw [List.cons_append]
    conv => lhs; unfold splitL
    rw [if_neg hx, ih]
theorem splitL_not {c : UInt8} : ∀ {l : List UInt8}, ∀ p ∈ splitL c l, c ∉ p
  | [], p, hp => by simp [splitL] at hp; subst hp; simp
  | x :: xs, p, hp => by
    unfold splitL at hp
    have ih := splitL_not (c := c) (l := xs)
    split at hp
    · rcases List.mem_cons.1 hp with rfl | hp
      · simp
      · exact ih p hp
    · rename_i hx
      split at hp
      · rename_i he
        exact absurd he (splitL_ne c xs)
      · rename_i q qs he
        rw [he] at ih
        rcases List.mem_cons.1 hp with rfl | hp
        · intro hm
          rcases List.mem_cons.1 hm with e | hm
          · exact hx e.symm
          · exact ih q (List.mem_cons_self ..) hm
        · exact ih p (List.mem_cons_of_mem _ hp)
/-- The pieces put together again. -/
def joinL (c : UInt8) : List (List UInt8) → List UInt8
  | [] => []
  | [p] => p
  | p :: q :: r => p ++ c :: joinL c (q :: r)
theorem joinL_split (c : UInt8) : ∀ l : List UInt8, joinL c (splitL c l) = l
  | [] => rfl
  | x :: xs => by
    have ih := joinL_split c xs
    unfold splitL
    split
    · rename_i h
      cases hs : splitL c xs with
      | nil => exact absurd hs (splitL_ne c xs)
      | cons p ps => rw [hs] at ih; show [] ++ c :: joinL c (p :: ps) = _; rw [ih, h]; rfl
    · cases hs : splitL c xs with
      | nil => exact absurd hs (splitL_ne c xs)
      | cons p ps =>
        rw [hs] at ih
        cases ps with
        | nil => show x :: p = x :: xs; rw [show p = xs from ih]
        | cons q r => show x :: (p ++ c :: joinL c (q :: r)) = x :: xs; rw [show p ++ c :: joinL c (q :: r) = xs from ih]
theorem splitL_join (c : UInt8) : ∀ (ps : List (List UInt8)), ps ≠ [] → (∀ p ∈ ps, c ∉ p) → splitL c (joinL c ps) = ps
  | [], h, _ => absurd rfl h
  | [p], _, hn => splitL_miss (hn p (List.mem_cons_self ..))
  | p :: q :: r, _, hn => by
    show splitL c (p ++ c :: joinL c (q :: r)) = _
    rw [splitL_hit _ (hn p (List.mem_cons_self ..)), splitL_join c (q :: r) (by simp) (fun x hx => hn x (List.mem_cons_of_mem _ hx))]

theorem index_one : ∀ (l : List UInt8) (c : UInt8), (index l [c] = -1 ∧ c ∉ l) ∨ ∃ a b, l = a ++ c :: b ∧ c ∉ a ∧ index l [c] = (a.length : Int)
  | [], c => by left; simp [index]
  | x :: xs, c => by
    by_cases hx : x = c
    · right
      subst hx
      exact ⟨[], xs, rfl, by simp, by simp [index, List.isPrefixOf]⟩
    · have hp : List.isPrefixOf [c] (x :: xs) = false := by simp [List.isPrefixOf]; exact fun e => hx e.symm
      rcases index_one xs c with ⟨h1, h2⟩ | ⟨a, b, h1, h2, h3⟩
      · left
        refine ⟨?_, fun hm => ?_⟩
        · unfold index; rw [hp, h1]; rfl
        · rcases List.mem_cons.1 hm with e | hm
          · exact hx e.symm
          · exact h2 hm
      · right
        refine ⟨x :: a, b, by rw [h1]; rfl, fun hm => ?_, ?_⟩
        · rcases List.mem_cons.1 hm with e | hm
          · exact hx e.symm
          · exact h2 hm
        · unfold index
          rw [hp, h3]
          have : ((a.length : Int) == -1) = false := by
            rw [beq_eq_false_iff_ne]; omega
          rw [this]
          simp
theorem indexB_list (s : ByteArray) (c : UInt8) : indexB s (toB [c]) = index s.data.toList [c] := rfl
theorem extract_take (s : ByteArray) (n : Nat) : (s.extract 0 n).data.toList = s.data.toList.take n := by simp [ByteArray.data_extract]
theorem extract_drop (s : ByteArray) (n : Nat) : (s.extract n s.size).data.toList = s.data.toList.drop n := by
  rw [ByteArray.data_extract, Array.toList_extract, List.extract_eq_take_drop]
  rw [List.take_of_length_le]
  simp
theorem splitB_is : ∀ (n : Nat) (s : ByteArray) (c : UInt8), s.size ≤ n → splitB (toB [c]) 0 (countB s (toB [c])) s = (splitL c s.data.toList).map toB := by
  intro n
  induction n with
  | zero =>
    intro s c hn
    have he : s.data.toList = [] := List.length_eq_zero_iff.1 (by have : s.data.toList.length = s.size := Array.length_toList; omega)
    have hi : indexB s (toB [c]) = -1 := by rw [indexB_list, he]; rfl
    rw [splitB_miss _ _ _ _ hi, he]
    show [s] = [toB []]
    rw [← he, toB_of]
  | succ n ih =>
    intro s c hn
    rcases index_one s.data.toList c with ⟨h1, h2⟩ | ⟨a, b, h1, h2, h3⟩
    · have hi : indexB s (toB [c]) = -1 := by rw [indexB_list, h1]
      rw [splitB_miss _ _ _ _ hi, splitL_miss h2]
      show [s] = [toB s.data.toList]
      rw [toB_of]
    · have hi : indexB s (toB [c]) = (a.length : Int) := by rw [indexB_list, h3]
      have hz : (toB [c]).size = 1 := rfl
      have hlen : s.data.toList.length = s.size := Array.length_toList
      have hl2 : s.size = a.length + (b.length + 1) := by rw [← hlen, h1]; simp
      rw [countB_hit s (toB [c]) a.length (by rw [hz]; exact Nat.le_refl _) hi, Nat.add_comm 1, splitB_hit _ _ _ _ _ hi, hz]
      have hd : (s.extract (a.length + 1) s.size).data.toList = b := by rw [extract_drop, h1]; simp
      have ht : s.extract 0 (a.length + 0) = toB a := by
        rw [← toB_of (s.extract 0 (a.length + 0)), extract_take, h1]; simp
      rw [ih _ c (by have : (s.extract (a.length + 1) s.size).data.toList.length = (s.extract (a.length + 1) s.size).size := Array.length_toList; rw [hd] at this; omega), hd, ht, h1, splitL_hit _ h2]
      rfl
theorem cut_is (l : List UInt8) (c : UInt8) : (c ∉ l ∧ cut l [c] = (l, [], false)) ∨ ∃ a b, l = a ++ c :: b ∧ c ∉ a ∧ cut l [c] = (a, b, true) := by
  rcases index_one l c with ⟨h1, h2⟩ | ⟨a, b, h1, h2, h3⟩
  · left
    exact ⟨h2, by unfold cut; rw [h1]; rfl⟩
  · right
    refine ⟨a, b, h1, h2, ?_⟩
    unfold cut
    rw [h3, if_pos (by omega)]
    have e : ((a.length : Int)).toNat = a.length := by omega
    rw [e, h1]
    simp

end Go.Proofs.YtmhjabjiojfgnaaDoor.D
