/- The walk of bodyOk. -/
import Derived.Deep.RegionHeld3
import Derived.Deep.RegionWith
import Derived.BigQuiet
import Derived.Deep.DrawnRows
import Derived.WalkKit
import Derived.WalkSpells
import Derived.WalkLawsBesides
import Derived.Lib.Hide
import Derived.Lib.IndexBytes
import Derived.Deep.Slices
import Derived.Deep.Fields
import Derived.ChangeSame
import Derived.Deep.Draws
import Derived.Test.YtbcepahpehadeaaGreatDoorAtom
import Derived.Test.YtbcepahpehadeaaGreatDoorKind
namespace Go.Proofs.YtbcepahpehadeaaGreatDoor
open Go.RowKit D
set_option linter.unusedVariables false
attribute [local go_sem ↓] Go.wp_at_zero Go.wp_at_succ

namespace D
def bodyOkB (ps : List Pt) : Bool := decide (ps.length ≤ 4) && ps.all fun p => atomOk p.atom
def ruleOk (r : Ru) : Bool := bodyOkB r.body && atomOk r.head
end D

set_option maxHeartbeats 400000 in
theorem bodyOk_any (ps : List Pt) (v : Value) (bs : List Nat) (w : World) (h : partsK w [v] ps bs) :
    Calls Tryz.prog 82 #[v] w fun e w' => e = .returned (.bool (bodyOkB ps)) ∧ Below w.heap.size w w' := by
  obtain ⟨Ad, cap, rfl, hl, hm⟩ := sliceK_form h
  have hlm := nat_ge_max (Nat.le_trans hl hm)
  clear hm
  unfold bodyOkB
  by_cases h4 : ps.length ≤ 4
  · go_enter Tryz.func82, Tryz.ntmps82
    go_wp2
    go_loopw [10] (fun i wr => ∃ k : Nat, k ≤ ps.length ∧ i = .int .i64 k ∧ (ps.take k).all (fun p => atomOk p.atom) = true ∧ Below w.heap.size w wr) (fun i _ => ps.length - (intOf i).toNat)
    case atStart => exact ⟨0, Nat.zero_le _, rfl, rfl, Below.refl _ _⟩
    case round =>
      obtain ⟨k, hk, rfl, hall, hb⟩ := hrel
      have HA := Lib.hid hall
      clear hall
      by_cases hlt : k < ps.length
      · obtain ⟨b0, o, Ae, ce, bk, rfl, _, d0, d1, d2, hel, _⟩ := parts_el (partsK_good.below h hb) hlt
        have hA := (Below.refl wr.heap.size wr).alloc (Nat.le_refl _) (.cells #[.bool ps[k].no, .string ps[k].atom.name, .slice Ae ps[k].atom.args.length ce] 54)
        have hat := atomK_good.below (part_atom hel) hA
        clear h hel
        go_wp2_with fail
        refine (atomOk_impl ps[k].atom _ _ bk _ hat).mono ?_
        rintro e w' ⟨rfl, hb'⟩
        have B' := (hb.trans (hA.mono hb.size)).trans (hb'.mono (by have := hA.size; have := hb.size; omega))
        clear hat hA
        by_cases hx : atomOk ps[k].atom = true
        · have hx1 : (!atomOk ps[k].atom) = false := by simp [hx]
          have HX := Lib.hid hx
          clear hx
          go_wp2
          go_roundw
          case rel => exact ⟨k + 1, by omega, by go_num, by rw [all_take_snoc ps k hlt, HA.out]; exact HX.out, B'⟩
          case measure => simp [intOf]; omega
        · have hx1 : (!atomOk ps[k].atom) = true := by simpa using hx
          have HX := Lib.hid hx
          clear hx
          go_wp2
          go_ret
          exact ⟨ret_bool (by rw [all_bad ps k hlt (by simpa using HX.out)]; simp), B'⟩
      · have he := Lib.hid (show k = ps.length by omega)
        go_wp2
        go_ret
        exact ⟨ret_bool (by have := HA.out; rw [he.out, List.take_of_length_le (Nat.le_refl _)] at this; rw [this]; simp; omega), hb⟩
  · go_enter Tryz.func82, Tryz.ntmps82
    go_wp2
    go_ret
    exact ⟨ret_bool (by simp; omega), Below.refl _ _⟩

end Go.Proofs.YtbcepahpehadeaaGreatDoor
