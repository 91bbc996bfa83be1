/- The walk of fsText. -/
import Derived.Laws.EntriesVeiled
import Derived.Deep.RegionHeld3
import Derived.Deep.RegionWith
import Derived.BigQuiet
import Derived.Deep.QuietTactic
import Derived.Deep.DrawnRows
import Derived.WalkKit
import Derived.WalkSpells
import Derived.WalkLawsBesides
import Derived.Lib.Hide
import Derived.Test.YtbcepahpehadeaaGreatDoorArgsS
namespace Go.Proofs.YtbcepahpehadeaaGreatDoor
open Go.RowKit D
set_option linter.unusedVariables false
attribute [local go_sem ↓] Go.wp_at_zero Go.wp_at_succ

theorem D.mem_of_takeS {xs : List ByteArray} {s : ByteArray} (h : ∀ j (h : j < xs.length), xs[j] ≠ s) : s ∉ xs := fun hm => by
  obtain ⟨j, hj, e⟩ := List.mem_iff_getElem.1 hm
  exact h j hj e
set_option maxHeartbeats 400000 in
theorem fsText_any (xs : List ByteArray) (s : ByteArray) (v : Value) (bs : List Nat) (w : World) (h : strsK w [v] xs bs) :
    Calls Tryz.prog 27 #[v, .string s] w fun e w' => e = .returned (.bool (decide (s ∈ xs))) ∧ Below w.heap.size w w' := by
  obtain ⟨Ad, cap, rfl, hl, hm⟩ := sliceK_form h
  have hlm := nat_ge_max (Nat.le_trans hl hm)
  clear hm hl
  go_enter Tryz.func27, Tryz.ntmps27
  go_wp2
  go_loopw [5] (fun i wr => ∃ k : Nat, k ≤ xs.length ∧ i = .int .i64 k ∧ (∀ j (h : j < xs.length), j < k → xs[j] ≠ s) ∧ Below w.heap.size w wr) (fun i _ => xs.length - (intOf i).toNat)
  case atStart => exact ⟨0, Nat.zero_le _, rfl, fun j _ h => by omega, Below.refl _ _⟩
  case round =>
    obtain ⟨k, hk, rfl, hall, hb⟩ := hrel
    have HA := Lib.hid hall
    clear hall
    by_cases hlt : k < xs.length
    · obtain ⟨b, o, rfl, _, c0, hnm⟩ := strs_at (strsK_good.below h hb) hlt
      have hlt' : (k : Int) < (xs.length : Int) := by omega
      have hk0 : (0 : Int) ≤ (k : Int) := by omega
      have HY : Hid (xs[k] = s → decide (s ∈ xs) = true) := Lib.hid (fun e => by rw [← e]; simp)
      have HN : Hid (xs[k] ≠ s → ∀ j (h : j < xs.length), j < k + 1 → xs[j] ≠ s) := Lib.hid (fun e j hj hjk => by
        by_cases h2 : j = k
        · subst h2; exact e
        · exact HA.out j hj (by omega))
      clear h
      have HLT := Lib.hid hlt
      generalize xs[k] = t at *
      clear hlt
      cases hs : (t.toList == s.toList)
      · have HNN := Lib.hid (HN.out (by rw [name_eq] at hs; simpa using hs))
        go_wp2
        go_roundw
        case rel => exact ⟨k + 1, HLT.out, by go_num, HNN.out, hb⟩
        case measure => have := HLT.out; simp [intOf]; omega
      · have HYY := Lib.hid (HY.out (by rw [name_eq] at hs; simpa using hs))
        go_wp2
        go_ret
        exact ⟨congrArg (fun b => Ending.returned (Value.bool b)) HYY.out.symm, hb⟩
    · have he : k = xs.length := by omega
      subst he
      have HF : Hid (decide (s ∈ xs) = false) := Lib.hid (by simpa using mem_of_takeS fun j hj => HA.out j hj hj)
      go_wp2
      go_ret
      exact ⟨congrArg (fun b => Ending.returned (Value.bool b)) HF.out.symm, hb⟩

end Go.Proofs.YtbcepahpehadeaaGreatDoor
