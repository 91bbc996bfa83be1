/- The walks of the functions that write an atom as a text. -/
import Derived.WalkKit
import Derived.WalkSpells
import Derived.WalkLawsBesides
import Derived.Lib.Hide
import Derived.Lib.IndexBytes
import Derived.Deep.Slices
import Derived.Deep.Fields
import Derived.ChangeSame
import Derived.Deep.Draws
import Derived.Test.YtoekllcfmnnibaaDoorProg
import Derived.Test.YtoekllcfmnnibaaDoorKind
namespace Go.Proofs.YtoekllcfmnnibaaDoor
open Go.RowKit D
set_option linter.unusedVariables false

namespace D
/-- The terms of an atom as a text. -/
def argsL (ts : List T) : List UInt8 := ts.zipIdx.flatMap fun x => (if x.2 = 0 then [] else [44]) ++ x.1.name.data.toList
def putL (a : A) : List UInt8 := a.name.data.toList ++ [40] ++ argsL a.args ++ [41]
theorem argsL_snoc (ts : List T) (k : Nat) (h : k < ts.length) : argsL (ts.take (k + 1)) = argsL (ts.take k) ++ ((if k = 0 then [] else [44]) ++ ts[k].name.data.toList) := by
  unfold argsL
  rw [List.take_succ_eq_append_getElem h, List.zipIdx_append, List.flatMap_append]
  have : (ts.take k).length = k := by simp; omega
  simp [this]
theorem argsL_le (ts : List T) : (argsL ts).length ≤ bulkTs ts + ts.length := by
  have : ∀ (ts : List T) (n : Nat), ((ts.zipIdx n).flatMap fun x => (if x.2 = 0 then [] else [44]) ++ x.1.name.data.toList).length ≤ bulkTs ts + ts.length := by
    intro ts
    induction ts with
    | nil => intro n; simp [bulkTs]
    | cons t r ih =>
      intro n
      have := ih (n + 1)
      simp only [List.zipIdx_cons, List.flatMap_cons, List.length_append, bulkTs, List.map_cons, List.sum_cons, List.length_cons] at *
      have hs : t.name.data.toList.length = t.name.size := Array.length_toList
      split <;> simp at * <;> omega
  exact this ts 0
theorem bulkTs_take (ts : List T) (k : Nat) : bulkTs (ts.take k) ≤ bulkTs ts := by
  have := List.take_append_drop k ts
  have h : bulkTs ts = bulkTs (ts.take k) + bulkTs (ts.drop k) := by
    conv => lhs; rw [← this]
    unfold bulkTs
    rw [List.map_append, List.sum_append]
  omega
end D

set_option maxHeartbeats 400000 in
theorem l1Put_any (a : A) (c0 c1 : Value) (bs : List Nat) (w : World) (h : atomK w [c0, c1] a bs) (hn : bulkA a ≤ 16777216) :
    Calls Tryd.prog 21 #[.agg #[c0, c1]] w fun e w' => e = .returned (.string ⟨(putL a).toArray⟩) ∧ Below w.heap.size w w' := by
  obtain ⟨s, hcs, hnm, ht⟩ := h
  simp only [List.cons.injEq, and_true] at hcs
  obtain ⟨rfl, rfl⟩ := hcs
  obtain ⟨Ad, cap, rfl, hl, hm⟩ := sliceK_form ht
  have hlm := nat_ge_max (Nat.le_trans hl hm)
  clear hm
  have hbk : a.name.size + a.args.length + bulkTs a.args ≤ 16777216 := hn
  have hb1 : a.name.size ≤ 16777216 := by omega
  go_enter Tryd.func21, Tryd.ntmps21
  go_wp2
  go_loopw [3, 4] (fun v i wr => ∃ (k : Nat) (s : ByteArray), k ≤ a.args.length ∧ i = .int .i64 k ∧ v = .string s ∧ s.data.toList = a.name.data.toList ++ [40] ++ argsL (a.args.take k) ∧ wr = w.alloc (.cells #[.string a.name, .slice Ad a.args.length cap] 32)) (fun _ i _ => a.args.length - (intOf i).toNat)
  case atStart => exact ⟨0, _, Nat.zero_le _, rfl, rfl, by simp [argsL], rfl⟩
  case round =>
    obtain ⟨k, s, hk, rfl, rfl, hs, rfl⟩ := hrel
    have hsz : s.size ≤ 33554432 := by
      have h1 := congrArg List.length hs
      have h2 := argsL_le (a.args.take k)
      have h3 := bulkTs_take a.args k
      have h4 : a.name.data.toList.length = a.name.size := Array.length_toList
      have h5 : s.data.toList.length = s.size := Array.length_toList
      simp only [List.length_append, List.length_cons, List.length_nil, List.length_take] at h1 h2
      omega
    have HS := Lib.hid hs
    clear hs
    by_cases hlt : k < a.args.length
    · obtain ⟨b, o, rfl, _, c0, c1, hnm⟩ := terms_at (termsK_good.below ht ((Below.refl _ _).alloc (Nat.le_refl _) (.cells #[.string a.name, .slice Ad a.args.length cap] 32))) hlt
      have h2 : a.args[k].name.size ≤ 16777216 := by
        have := bulkTs_snoc a.args k hlt
        have := bulkTs_take a.args (k + 1)
        omega
      have HT := Lib.hid (argsL_snoc a.args k hlt)
      clear ht
      generalize a.args[k] = t at *
      by_cases hk0 : k = 0
      · have hk1 : ¬ (0 : Int) < (k : Int) := by omega
        have HK := Lib.hid hk0
        clear hk0
        go_wp2
        go_roundw
        case rel => exact ⟨k + 1, _, by omega, by go_num, rfl, by rw [HT.out, ByteArray.data_append, Array.toList_append, HS.out]; simp [HK.out], (by simp)⟩
        case measure => simp [intOf]; omega
      · have hk1 : (0 : Int) < (k : Int) := by omega
        go_wp2
        go_roundw
        case rel => exact ⟨k + 1, _, by omega, by go_num, rfl, by rw [HT.out, ByteArray.data_append, ByteArray.data_append, Array.toList_append, Array.toList_append, HS.out]; simp [hk0], (by simp)⟩
        case measure => simp [intOf]; omega
    · have he := Lib.hid (show k = a.args.length by omega)
      go_wp2
      go_ret
      exact ⟨ret_str (WideShapes.bytes_inj (by rw [ByteArray.data_append, Array.toList_append, HS.out, he.out, List.take_of_length_le (Nat.le_refl _)]; rfl)), (Below.refl _ _).alloc (Nat.le_refl _) _⟩

end Go.Proofs.YtoekllcfmnnibaaDoor
