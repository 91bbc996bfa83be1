/- The walks of ProgStrata, the program's and the reference's. -/
import Derived.WalkKit
import Derived.Lib.Hide
import Derived.WalkSpells
import Derived.WalkLawsBesides
import Derived.BigQuiet
import Derived.Test.YtbcepahpehadeaaDoorHdI
import Derived.Test.YtbcepahpehadeaaDoorChkS
namespace Go.Proofs.YtbcepahpehadeaaDoor
open Go.RowKit D
set_option linter.unusedVariables false
attribute [local go_sem ↓] Go.wp_at_zero Go.wp_at_succ

def D.strataV (rs : List Ru) : List Nat := if progC rs = 0 then levelsL rs else []
theorem D.strata_len (rs : List Ru) : (strataV rs).length ≤ 900000000 := by
  unfold strataV
  split
  · rename_i h; rw [levels_len]; have := ((fine_iff rs).1 h).few; omega
  · simp

set_option maxHeartbeats 1000000 in
theorem progStrata_impl (rs : List Ru) (v : Value) (bs : List Nat) (w : World) (h : rulesK w [v] rs bs) (hg : LaidE w) :
    Calls Tryd.prog 17 #[v] w (Makes intsK (strataV rs) w.heap.size w) := by
  have c1 := progFine_any rs v bs w h hg
  have C2 := Lib.hid fun w' (hb : Below w.heap.size w w') (hf : rs.length ≤ 8) (hok : rs.all ruleOk = true) => strataOf_any rs v bs w' (rulesK_good.below h hb) hf hok
  clear h hg
  by_cases hp : progC rs = 0
  · have hfi := (fine_iff rs).1 hp
    have HZ : Hid (strataV rs = levelsL rs) := Lib.hid (by unfold strataV; rw [if_pos hp])
    have HF := Lib.hid hfi
    rw [decide_eq_true hp] at c1
    clear hp hfi
    go_enter Tryd.func17, Tryd.ntmps17
    go_wp2_with fail
    refine c1.mono ?_
    rintro e w1 ⟨rfl, hb1⟩
    clear c1
    go_wp2_with fail
    refine (C2.out _ hb1 HF.out.few HF.out.ok).mono ?_
    rintro e w2 ⟨hb2, hr⟩
    have B2 := hb1.trans (hb2.mono hb1.size)
    rcases hr with ⟨hc, _⟩ | ⟨_, v', bs', rfl, hv, hN⟩
    · rw [HF.out.no] at hc; simp at hc
    · have HW : Hid (Makes intsK (strataV rs) w.heap.size w (.returned v') w2) := Lib.hid ⟨B2, v', bs', rfl, by rw [HZ.out]; exact hv, hN.mono hb1.size⟩
      clear hv hN B2 hb2 hb1
      go_wp2
      go_ret
      exact HW.out
  · have HZ : Hid (strataV rs = []) := Lib.hid (by unfold strataV; rw [if_neg hp])
    rw [decide_eq_false hp] at c1
    clear hp C2
    go_enter Tryd.func17, Tryd.ntmps17
    go_wp2_with fail
    refine c1.mono ?_
    rintro e w1 ⟨rfl, hb1⟩
    go_wp2
    go_ret
    exact ⟨hb1, _, [], rfl, by rw [HZ.out]; exact ⟨_, _, rfl, Nat.le_refl _, Nat.zero_le _, fun _ => rfl, fun h => absurd rfl h⟩, New.nil _ _⟩

set_option maxHeartbeats 1000000 in
theorem progStrata_spec (rs : List Ru) (v : Value) (bs : List Nat) (w : World) (h : rulesK w [v] rs bs) :
    Calls Tryd.prog 16 #[v] w fun e w' => Below w.heap.size w w' ∧ ∃ v' bs', e = .returned v' ∧ intsK w' [v'] (strataV rs) bs' := by
  have c1 := progCheck_spec rs v bs w h
  have C2 := Lib.hid fun w' (hb : Below w.heap.size w w') (hf : rs.length ≤ 8) (hok : rs.all ruleOk = true) => l2Levels_any rs v bs w' (rulesK_good.below h hb) hf hok
  have hle : (progC rs : Int) ≤ 5 := by have := progC_le rs; omega
  clear h
  by_cases hp : progC rs = 0
  · have hfi := (fine_iff rs).1 hp
    have HZ : Hid (strataV rs = levelsL rs) := Lib.hid (by unfold strataV; rw [if_pos hp])
    have HF := Lib.hid hfi
    rw [hp] at c1
    clear hp hfi
    go_enter Tryd.func16, Tryd.ntmps16
    go_wp2_with fail
    refine c1.mono ?_
    rintro e w1 ⟨rfl, hb1⟩
    clear c1
    go_wp2_with fail
    refine (C2.out _ hb1 HF.out.few HF.out.ok).mono ?_
    rintro e w2 ⟨hb2, rfl, hI, _⟩
    have B2 := hb1.trans (hb2.mono hb1.size)
    obtain ⟨b', q1, _, _⟩ := ints_of_blk hI.blk (by rw [levels_len]; have := HF.out.few; unfold maxLen; omega)
    rw [levels_len] at q1
    have HW : Hid (Below w.heap.size w w2 ∧ ∃ bs', intsK w2 [.slice (some ⟨w1.heap.size, 0, none⟩) rs.length rs.length] (strataV rs) bs') := Lib.hid ⟨B2, b', by rw [HZ.out]; exact q1⟩
    clear hI q1 B2 hb2
    go_wp2
    go_ret
    obtain ⟨r1, b', r2⟩ := HW.out
    exact ⟨r1, _, b', rfl, r2⟩
  · have HZ : Hid (strataV rs = []) := Lib.hid (by unfold strataV; rw [if_neg hp])
    have h1 : ¬ ((progC rs : Nat) : Int) = 0 := by omega
    clear hp C2
    generalize progC rs = c at *
    go_enter Tryd.func16, Tryd.ntmps16
    go_wp2_with fail
    refine c1.mono ?_
    rintro e w1 ⟨rfl, hb1⟩
    have B2 := hb1.alloc hb1.size (.cells #[] 3)
    go_wp2
    go_ret
    exact ⟨B2, _, [], rfl, by rw [HZ.out]; exact ⟨_, _, rfl, Nat.le_refl _, Nat.zero_le _, fun _ => rfl, fun h => absurd rfl h⟩⟩

end Go.Proofs.YtbcepahpehadeaaDoor
