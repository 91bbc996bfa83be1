/- The walk of spec.l1Dec at a number that is not negative. -/
import Derived.WalkKit
import Derived.Lib.Hide
import Derived.WalkSpells
import Derived.WalkLawsBesides
import Derived.Deep.RegionWith
import Derived.Deep.RegionLaw
import Derived.Laws.BytesArg
import Derived.Lib.ItoaNum
import Derived.Lib.ItoaLen
import Derived.Test.YtoekllcfmnnibaaDoorProg
import Derived.Test.YtoekllcfmnnibaaDoorKind
namespace Go.Proofs.YtoekllcfmnnibaaDoor
open Go.RowKit D
set_option linter.unusedVariables false
attribute [local go_sem ↓] Go.wp_at_zero Go.wp_at_succ

theorem convOneS (w : World) (n : Int) : (convert 48 9 (.slice (some ⟨w.heap.size, 0, none⟩) 1 1)).run Tryd.prog (w.alloc (.cells #[.int .u8 n] 5)) = .ok (.string (strOfNums [n])) (w.alloc (.cells #[.int .u8 n] 5)) :=
  run_convert_bytes_arg _ 48 5 Tryd.underlying48 Tryd.underlying5 w.heap.size 0 1 1 [n] rfl (fun i hi => by
    obtain rfl : i = 0 := by omega
    simp) 9 Tryd.underlying9

theorem D.dec_last {n : Nat} (hn : ¬ n < 10) : (⟨(Lib.decDigits (n / 10)).toArray⟩ : ByteArray) ++ strOfNums [48 + (n : Int) % 10] = ⟨(Lib.decDigits n).toArray⟩ := by
  have h3 : UInt8.ofNat (48 + (n : Int) % 10).toNat = UInt8.ofNat (48 + n % 10) := by congr 1 <;> omega
  have h4 : Lib.decDigits n = Lib.decDigits (n / 10) ++ [UInt8.ofNat (48 + n % 10)] := by
    conv => lhs; rw [Lib.decDigits, dif_neg hn]
  rw [h4]
  unfold strOfNums
  simp only [List.map_cons, List.map_nil, h3]
  refine ByteArray.ext (Array.toList_inj.1 ?_)
  simp [ByteArray.data_append]

set_option maxRecDepth 100000 in
set_option maxHeartbeats 1000000 in
theorem l1Dec_any : ∀ (n : Nat) (w : World) (h : n ≤ 9223372036854775807), Calls Tryd.prog 22 #[.int .i64 n] w fun e w' => e = .returned (.string ⟨(Lib.decDigits n).toArray⟩) ∧ Below w.heap.size w w' := by
  intro n
  induction n using Nat.strongRecOn with
  | _ n ih =>
  intro w h
  have kc := convOneS
  by_cases hn : n < 10
  · have hi : n = 0 ∨ n = 1 ∨ n = 2 ∨ n = 3 ∨ n = 4 ∨ n = 5 ∨ n = 6 ∨ n = 7 ∨ n = 8 ∨ n = 9 := by omega
    clear ih
    rcases hi with rfl | rfl | rfl | rfl | rfl | rfl | rfl | rfl | rfl | rfl
    all_goals
      go_enter Tryd.func22, Tryd.ntmps22
      go_wp2
      go_ret
      exact ⟨by rw [Lib.decDigits, dif_pos (by omega)]; rfl, (Below.refl _ _).alloc (Nat.le_refl _) _⟩
  · have hwr : IntKind.i64.wrap ((n : Int) / 10) = ((n / 10 : Nat) : Int) := by
      unfold IntKind.wrap
      have h1 : (IntKind.i64.bits) = 64 := rfl
      have h2 : (IntKind.i64.signed) = true := rfl
      simp only [h1, h2, Bool.true_and, decide_eq_true_eq]
      have h3 : ((n : Int) / 10) % 2 ^ 64 = (n : Int) / 10 := Int.emod_eq_of_lt (by omega) (by omega)
      rw [h3, if_neg (by omega)]
      omega
    have hq : ∀ w, Calls Tryd.prog 22 #[.int .i64 (IntKind.i64.wrap ((n : Int) / 10))] w fun e w' => ∃ s : ByteArray, e = .returned (.string s) ∧ Hid (s = ⟨(Lib.decDigits (n / 10)).toArray⟩) ∧ s.size ≤ 21 ∧ Below w.heap.size w w' := by
      intro w
      rw [hwr]
      refine (ih (n / 10) (by omega) w (by omega)).mono ?_
      rintro e w' ⟨rfl, hb⟩
      refine ⟨_, rfl, Lib.hid rfl, ?_, hb⟩
      have h1 := Lib.itoa_length_le ((n / 10 : Nat) : Int) (by omega) (by omega)
      unfold Lib.itoa at h1
      rw [if_neg (by omega)] at h1
      have h2 : (((n / 10 : Nat) : Int)).toNat = n / 10 := by omega
      rw [h2] at h1
      simpa [ByteArray.size] using h1
    have hs1 : ∀ x, (strOfNums [x]).size = 1 := fun x => rfl
    have hn1 : ¬ (n : Int) < 10 := by omega
    have hn2 : ¬ (n : Int) < -9223372036854775807 := by omega
    have hn3 : ¬ (n : Int) < 0 := by omega
    have hd : ∃ d, n % 10 = d ∧ d < 10 := ⟨_, rfl, by omega⟩
    clear ih hwr
    have hc : ∀ (w : World) (b : Nat) (x : Int), w.cell? ⟨b, 0, none⟩ = some (.int .u8 x) → (convert 48 9 (.slice (some ⟨b, 0, none⟩) 1 1)).run Tryd.prog w = .ok (.string (strOfNums [x])) w := fun w b x hx =>
      run_convert_bytes_arg _ 48 5 Tryd.underlying48 Tryd.underlying5 b 0 1 1 [x] rfl (fun i hi => by
        obtain rfl : i = 0 := by omega
        simpa using hx) 9 Tryd.underlying9
    go_enter Tryd.func22, Tryd.ntmps22
    go_wp2
    go_region_with (go_at_call 22; refine (hq _).mono ?_; rintro e w1 ⟨s, rfl, hs, hss, hb1⟩; have kc9 := fun h => hc w1 w.heap.size (IntKind.u8.wrap (IntKind.i64.wrap (48 + (n : Int).tmod 10))) (cell_later hb1 h))
    all_goals
      have hz : s ++ strOfNums [48 + (n : Int) % 10] = ⟨(Lib.decDigits n).toArray⟩ := by
        rw [hs.out]; exact dec_last hn
      have HZ := Lib.hid hz
      have HB := Lib.hid hb1
      clear hs hz hb1 hc kc hq
      go_wp2
      go_ret
      refine ⟨by rw [← HZ.out]; rfl, ?_⟩
      first
        | exact Below.alloc (Below.trans (Below.drew (Below.refl _ _)) HB.out) (Nat.le_trans (Nat.le_refl _) HB.out.size) _
        | exact Below.trans (Below.alloc (Below.drew (Below.refl _ _)) (Nat.le_refl _) _) (HB.out.mono (by simp))

end Go.Proofs.YtoekllcfmnnibaaDoor
