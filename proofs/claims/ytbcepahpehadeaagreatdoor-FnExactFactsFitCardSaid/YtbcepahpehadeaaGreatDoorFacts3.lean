/- The walks of FactsOk, the program's and the reference's. -/
import Derived.Laws.EntriesVeiled
import Derived.Deep.RegionHeld3
import Derived.Deep.RegionWith
import Derived.BigQuiet
import Derived.Deep.DrawnRows
import Derived.WalkKit
import Derived.WalkSpells
import Derived.WalkLawsBesides
import Derived.Lib.Hide
import Derived.Lib.IndexBytes
import Derived.Deep.Slices
import Derived.Deep.Fields
import Derived.ChangeSame
import Derived.Deep.Draws
import Derived.Lib.Bytealg
import Derived.Test.YtbcepahpehadeaaGreatDoorFacts
import Derived.Test.YtbcepahpehadeaaGreatDoorFacts2
namespace Go.Proofs.YtbcepahpehadeaaGreatDoor
open Go.RowKit D
set_option linter.unusedVariables false
attribute [local go_sem ↓] Go.wp_at_zero Go.wp_at_succ

set_option maxHeartbeats 400000 in
theorem factsOk_spec (xs : List A) (v : Value) (bs : List Nat) (w : World) (h : atomsK w [v] xs bs) :
    Calls Tryz.prog 31 #[v] w fun e w' => e = .returned (.bool (factsOk xs)) ∧ Below w.heap.size w w' := by
  obtain ⟨Ad, cap, rfl, hl, hm⟩ := sliceK_form h
  have hk := l3Ok_any xs _ bs 300 w h (by omega)
  rw [← factsOk_eq] at hk
  generalize factsOk xs = r at *
  clear h hm
  go_enter Tryz.func31, Tryz.ntmps31
  go_wp2_with fail
  refine hk.mono ?_
  rintro e w1 ⟨rfl, hb1⟩
  go_wp2
  go_ret
  exact ⟨rfl, hb1⟩

set_option maxHeartbeats 1000000 in
theorem factsOk_impl (xs : List A) (v : Value) (bs : List Nat) (w : World) (h : atomsK w [v] xs bs) :
    Calls Tryz.prog 36 #[v] w fun e w' => e = .returned (.bool (factsOk xs)) ∧ Below w.heap.size w w' := by
  obtain ⟨Ad, cap, rfl, hl, hm⟩ := sliceK_form h
  have hlm := nat_ge_max (Nat.le_trans hl hm)
  clear hm
  by_cases hle : xs.length ≤ 300
  · have hle' : ¬ (300 : Int) < (xs.length : Int) := by omega
    have hle2 : ¬ 300 < xs.length := by omega
    have HE : Hid (factsOk xs = okB xs) := Lib.hid (by rw [factsOk_eq, decide_eq_true hle, Bool.and_true])
    clear hle
    go_enter Tryz.func36, Tryz.ntmps36
    go_wp2
    go_loopw [10] (fun i wr => ∃ k : Nat, k ≤ xs.length ∧ i = .int .i64 k ∧ facTo xs k ∧ Below w.heap.size w wr) (fun i _ => xs.length - (intOf i).toNat)
    case atStart => exact ⟨0, Nat.zero_le _, rfl, facTo_zero _, Below.refl _ _⟩
    case round =>
      obtain ⟨k, hk, rfl, hall, hb⟩ := hrel
      have HA := Lib.hid hall
      clear hall
      by_cases hlt : k < xs.length
      · have hk0 : (0 : Int) ≤ (k : Int) := by omega
        have hk1 : (k : Int) < (xs.length : Int) := by omega
        obtain ⟨b, o, Ae, ce, bk, rfl, _, c0, c1, hel, _⟩ := atoms_el (atomsK_good.below h hb) hlt
        have hA : Below wr.heap.size wr (wr.alloc (.cells #[.string xs[k].name, .slice Ae xs[k].args.length ce] 48)) := (Below.refl _ _).alloc (Nat.le_refl _) _
        have hg := isFact_any xs[k] _ _ bk _ (atomK_good.below hel hA)
        have HF1 := Lib.hid (fun hf => facTo_step (k := k) HA.out hlt hf)
        have HF2 := Lib.hid (fun hf => okB_bad hlt hf)
        generalize isFactB xs[k] = x at *
        clear h hel
        go_wp2_with fail
        refine hg.mono ?_
        rintro e w' ⟨rfl, hb'⟩
        have B' := hb.trans ((hA.trans (hb'.mono hA.size)).mono hb.size)
        cases x
        · go_wp2
          go_ret
          exact ⟨ret_bool (by rw [HE.out, HF2.out (by simp)]), B'⟩
        · go_wp2
          go_roundw
          case rel => exact ⟨k + 1, by omega, by go_num, HF1.out (by simp), B'⟩
          case measure => simp [intOf]; omega
      · have he : k = xs.length := by omega
        have HO : Hid (okB xs = asc xs) := Lib.hid (by
          have hf := HA.out
          rw [he] at hf
          unfold okB
          rw [show xs.all isFactB = true from by
            rw [List.all_eq_true]; intro y hy
            obtain ⟨j, hj, rfl⟩ := List.mem_iff_getElem.1 hy
            exact hf j hj hj, Bool.true_and])
        have he' : ¬ (k : Int) < (xs.length : Int) := by omega
        have hs := sortedFacts_any Ad xs.length cap wr
        have has := fun w' (hb' : Below wr.heap.size wr w') => ascends_any xs _ bs w' (atomsK_good.below (atomsK_good.below h hb) hb')
        clear h he HA
        go_wp2_with fail
        refine hs.mono ?_
        rintro e w1 ⟨rfl, hb1⟩
        go_wp2_with fail
        refine (has _ hb1).mono ?_
        rintro e w2 ⟨rfl, hb2⟩
        go_wp2
        go_ret
        exact ⟨ret_bool (by rw [HE.out, HO.out]), hb.trans ((hb1.trans (hb2.mono hb1.size)).mono hb.size)⟩
  · have hle' : (300 : Int) < (xs.length : Int) := by omega
    have hle2 : 300 < xs.length := by omega
    have HE : Hid (factsOk xs = false) := Lib.hid (by rw [factsOk_eq, decide_eq_false hle, Bool.and_false])
    clear hle h
    go_enter Tryz.func36, Tryz.ntmps36
    go_wp2
    go_ret
    exact ⟨ret_bool HE.out.symm, Below.refl _ _⟩

end Go.Proofs.YtbcepahpehadeaaGreatDoor
