/- The walk of spec.l2Args. -/
import Derived.WalkKit
import Derived.Lib.Hide
import Derived.WalkSpells
import Derived.WalkLawsBesides
import Derived.BigQuiet
import Derived.Deep.RegionHeld3
import Derived.Deep.RegionWith
import Derived.Deep.DrawnRows
import Derived.Test.YtbcepahpehadeaaGreatDoorAtomsS
import Derived.Test.YtbcepahpehadeaaGreatDoorSortP
namespace Go.Proofs.YtbcepahpehadeaaGreatDoor
open Go.RowKit D
set_option linter.unusedVariables false
attribute [local go_sem ↓] Go.wp_at_zero Go.wp_at_succ

theorem D.below_drewN {B : Nat} {a w : World} (h : Below B a w) (n : Nat) : Below B a (w.drewN n) := ⟨h.os, h.tape, h.output, h.size, h.block⟩

theorem D.name_eq (a b : ByteArray) : (a.toList == b.toList) = decide (a = b) := by
  rw [ByteArray.toList_eq, ByteArray.toList_eq, Bool.eq_iff_iff]
  simp only [beq_iff_eq, decide_eq_true_eq]
  exact ⟨bytes_inj, fun h => by rw [h]⟩

set_option maxRecDepth 100000 in
set_option maxHeartbeats 2000000 in
theorem l2Args_any (rs : List Ru) (v : Value) (bs : List Nat) (w : World) (h : rulesK w [v] rs bs) (hn : (allAtoms rs).length ≤ 1000000) :
    Calls Tryz.prog 54 #[v] w fun e w' => e = .returned (.bool (alikeB (allAtoms rs))) ∧ Below w.heap.size w w' := by
  obtain ⟨Ad, cap, rfl, hl, hm⟩ := sliceK_form h
  have hlm := nat_ge_max (Nat.le_trans hl hm)
  have c1 := l2Atoms_any rs _ bs w h hn
  generalize allAtoms rs = xs at *
  clear hl hm h
  go_enter Tryz.func54, Tryz.ntmps54
  go_wp2_with fail
  refine c1.mono ?_
  rintro e w1 ⟨hB, v1, b2, rfl, hx⟩
  obtain ⟨A1, cap1, rfl, hl1, hm1⟩ := sliceK_form hx
  have hlm1 := nat_ge_max (Nat.le_trans hl1 hm1)
  clear c1 hl1 hm1
  go_wp2
  go_loopw [4] (fun i wr => ∃ k : Nat, k ≤ xs.length ∧ i = .int .i64 k ∧ (∀ i, (hi : i < xs.length) → i < k → ∀ j, (hj : j < i) → clash xs[i] (xs[j]'(by omega)) = false) ∧ Below w1.heap.size w1 wr) (fun i _ => xs.length - (intOf i).toNat)
  case atStart => exact ⟨0, Nat.zero_le _, rfl, fun i _ h => by omega, Below.refl _ _⟩
  case round =>
    obtain ⟨k, hk, rfl, hall, hb⟩ := hrel
    have HA := Lib.hid hall
    have HB := Lib.hid hb
    clear hall hb
    by_cases hlt : k < xs.length
    · have hk0 : (0 : Int) ≤ (k : Int) := by omega
      have hk1 : (k : Int) < (xs.length : Int) := by omega
      go_wp2
      go_loopw [5] (fun i wr => ∃ j : Nat, j ≤ k ∧ i = .int .i64 j ∧ (∀ i, (hi : i < xs.length) → i < j → clash xs[k] xs[i] = false) ∧ Below w1.heap.size w1 wr) (fun i _ => k - (intOf i).toNat)
      case atStart => exact ⟨0, Nat.zero_le _, rfl, fun i _ h => by omega, HB.out⟩
      case round =>
        obtain ⟨j, hj, rfl, hin, hb⟩ := hrel
        have HI := Lib.hid hin
        have HB2 := Lib.hid hb
        clear hin
        by_cases hjk : j < k
        · have hj0 : (0 : Int) ≤ (j : Int) := by omega
          have hj1 : (j : Int) < (k : Int) := by omega
          have hj2 : (j : Int) < (xs.length : Int) := by omega
          have hjl : j < xs.length := by omega
          obtain ⟨b, o, Ae, ce, _, rfl, _, d0, d1, _, _⟩ := atoms_el (atomsK_good.below hx hb) hlt
          obtain ⟨b', o', Af, cf, _, e9, _, f0, f1, _, _⟩ := atoms_el (atomsK_good.below hx hb) hjl
          obtain ⟨rfl, rfl⟩ : b = b' ∧ o = o' := by simpa using e9
          have HBAD := Lib.hid (alike_no (xs := xs) hlt hjl)
          have HOKJ : Hid (clash xs[k] xs[j] = false → ∀ i, (hi : i < xs.length) → i < j + 1 → clash xs[k] xs[i] = false) := Lib.hid fun h i h9 hi => by
            by_cases e : i = j
            · subst e; exact h
            · exact HI.out i h9 (by omega)
          have HC : Hid (clash xs[k] xs[j] = (decide (xs[k].name = xs[j].name) && decide (xs[k].args.length ≠ xs[j].args.length))) := Lib.hid rfl
          clear hx hb e9
          generalize xs[k] = x at *
          generalize xs[j] = y at *
          obtain ⟨xn, xa⟩ := x
          obtain ⟨yn, ya⟩ := y
          dsimp only at *
          cases hs : (xn.toList == yn.toList)
          · have HZ := Lib.hid (HOKJ.out (by rw [HC.out, ← name_eq, hs]; rfl))
            clear HOKJ HBAD HC HI HA HB
            go_wp2
            go_quiet (fail)
            go_wp2
            go_roundw
            case rel => exact ⟨j + 1, hjk, by go_num, HZ.out, below_drewN HB2.out _⟩
            case measure => simp [intOf]; omega
          · by_cases hle : xa.length = ya.length
            · have HZ := Lib.hid (HOKJ.out (by rw [HC.out, hle]; simp))
              have hd : (xa.length : Int) = (ya.length : Int) := by omega
              clear HOKJ HBAD HC HI HA HB
              go_wp2
              go_quiet (fail)
              go_wp2
              go_roundw
              case rel => exact ⟨j + 1, hjk, by go_num, HZ.out, below_drewN HB2.out _⟩
              case measure => simp [intOf]; omega
            · have HZ := Lib.hid (HBAD.out (by rw [HC.out, ← name_eq, hs]; simpa using hle))
              have hd : ¬ (xa.length : Int) = (ya.length : Int) := by omega
              have HBW := Lib.hid hB
              clear HOKJ HBAD HC HI HA HB
              go_wp2
              go_quiet (fail)
              go_wp2
              go_ret
              exact ⟨ret_bool HZ.out.symm, HBW.out.trans ((below_drewN HB2.out _).mono HBW.out.size)⟩
        · have he : j = k := by omega
          have hj1 : ¬ (j : Int) < (k : Int) := by omega
          have HZ : Hid (∀ i, (hi : i < xs.length) → i < k + 1 → ∀ j, (hj : j < i) → clash xs[i] (xs[j]'(by omega)) = false) := Lib.hid fun i hi h1 j2 h2 => by
            by_cases e : i = k
            · subst e; exact HI.out j2 (by omega) (by omega)
            · exact HA.out i hi (by omega) j2 h2
          clear HI HA HB he
          go_wp2
          go_roundw
          case rel => exact ⟨k + 1, hlt, by go_num, HZ.out, HB2.out⟩
          case measure => simp [intOf]; omega
    · have he : k = xs.length := by omega
      have hk1 : ¬ (k : Int) < (xs.length : Int) := by omega
      have HZ : Hid (alikeB xs = true) := Lib.hid (alike_yes fun i hi j hj => HA.out i hi (by omega) j hj)
      clear HA hx
      go_wp2
      go_ret
      exact ⟨ret_bool HZ.out.symm, hB.trans (HB.out.mono hB.size)⟩

end Go.Proofs.YtbcepahpehadeaaGreatDoor
