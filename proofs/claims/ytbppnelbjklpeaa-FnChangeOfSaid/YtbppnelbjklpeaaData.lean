/- Plain data and plain functions of the laws of springhead: no program is named here. -/
import Derived.WalkKit
import Derived.Lib.IndexBytes
namespace Go.Proofs.Ytbppnelbjklpeaa.D
open Go.RowKit

/-- A small letter or a figure. -/
def low (c : UInt8) : Bool := (97 ≤ c && c ≤ 122) || (48 ≤ c && c ≤ 57)
def lows (l : List UInt8) : Bool := l.all low
/-- A name is ok. -/
def nameOk (s : ByteArray) : Bool := decide (1 ≤ s.size) && decide (s.size ≤ 8) && lows s.data.toList && !(s.toList == [110, 111, 116])

theorem low_int (c : UInt8) : low c = false ↔ ((c.toNat : Int) < 97 ∨ 122 < (c.toNat : Int)) ∧ ((c.toNat : Int) < 48 ∨ 57 < (c.toNat : Int)) := by
  unfold low
  simp only [Bool.or_eq_false_iff, Bool.and_eq_false_iff, decide_eq_false_iff_not, UInt8.le_iff_toNat_le, Nat.not_le]
  have h97 : (97 : UInt8).toNat = 97 := rfl
  have h122 : (122 : UInt8).toNat = 122 := rfl
  have h48 : (48 : UInt8).toNat = 48 := rfl
  have h57 : (57 : UInt8).toNat = 57 := rfl
  rw [h97, h122, h48, h57]
  omega

theorem take_snoc (s : ByteArray) (k : Nat) (h : k < s.size) : s.data.toList.take (k + 1) = s.data.toList.take k ++ [s[k]] := by
  rw [List.take_succ_eq_append_getElem (by simpa using h)]; rfl

theorem lows_snoc (s : ByteArray) (k : Nat) (h : k < s.size) (h0 : lows (s.data.toList.take k) = true) : lows (s.data.toList.take (k + 1)) = low s[k] := by
  rw [take_snoc s k h]; unfold lows at *; simp [List.all_append, h0]

theorem lows_bad (s : ByteArray) (k : Nat) (h : k < s.size) (h0 : low s[k] = false) : lows s.data.toList = false := by
  unfold lows
  rw [List.all_eq_false]
  exact ⟨s[k], by rw [show s[k] = s.data.toList[k]'(by simpa using h) from rfl]; exact List.getElem_mem _, by simp [h0]⟩

theorem lows_all (s : ByteArray) : lows (s.data.toList.take s.size) = lows s.data.toList := by
  rw [List.take_of_length_le (by simp)]

def big (c : UInt8) : Bool := 65 ≤ c && c ≤ 90
/-- A text begins with a capital letter. -/
def capB (s : ByteArray) : Bool := decide (0 < s.size) && big (s.data.toList.headD 0)
/-- A text is the name of a variable. -/
def varOk (s : ByteArray) : Bool := decide (s.size ≤ 8) && capB s && lows s.data.toList.tail

theorem big_int (c : UInt8) : big c = true ↔ 65 ≤ (c.toNat : Int) ∧ (c.toNat : Int) ≤ 90 := by
  unfold big
  simp only [Bool.and_eq_true, decide_eq_true_eq, UInt8.le_iff_toNat_le]
  have h65 : (65 : UInt8).toNat = 65 := rfl
  have h90 : (90 : UInt8).toNat = 90 := rfl
  rw [h65, h90]
  omega
theorem headD_at (s : ByteArray) (h : 0 < s.size) : s.data.toList.headD 0 = s[0] := by
  have h' : 0 < s.data.toList.length := by simpa using h
  rw [show s[0] = s.data.toList[0]'h' from rfl]
  rw [List.headD_eq_head?_getD, List.head?_eq_getElem?, List.getElem?_eq_getElem h']
  rfl
theorem nonempty_at (s : ByteArray) (h : 0 < s.size) : s.toList.isEmpty = false := by
  rw [ByteArray.toList_eq, List.isEmpty_eq_false_iff]
  intro e
  have : s.data.toList.length = 0 := by rw [e]; rfl
  simp at this
  have h' : s.data.size = 0 := by simp [this]
  have : s.size = s.data.size := rfl
  omega
theorem empty_at (s : ByteArray) (h : ¬ 0 < s.size) : s.toList.isEmpty = true := by
  rw [ByteArray.toList_eq, List.isEmpty_iff, ← List.length_eq_zero_iff]
  have : s.size = s.data.size := rfl
  simp
  have : s.data.size = 0 := by omega
  simpa using this

theorem capB_pos {s : ByteArray} (h : capB s = true) : (1 : Int) ≤ (s.size : Int) := by
  unfold capB at h; simp at h; omega
theorem tail_at (s : ByteArray) : (s.extract 1 s.size).data.toList = s.data.toList.tail := by
  rw [Lib.extract_to_end, List.drop_one]

theorem ret_bool {a b : Bool} (h : a = b) : Ending.returned (.bool a) = .returned (.bool b) := by rw [h]
theorem ret_int {k : IntKind} {a b : Int} (h : a = b) : Ending.returned (.int k a) = .returned (.int k b) := by rw [h]
theorem ret_str {a b : ByteArray} (h : a = b) : Ending.returned (.string a) = .returned (.string b) := by rw [h]

end Go.Proofs.Ytbppnelbjklpeaa.D
