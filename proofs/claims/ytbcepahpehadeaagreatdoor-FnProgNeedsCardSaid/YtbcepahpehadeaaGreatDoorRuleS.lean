/- The walk of spec.l1Rule. -/
import Derived.Deep.RegionHeld3
import Derived.Deep.RegionWith
import Derived.BigQuiet
import Derived.Deep.DrawnRows
import Derived.WalkKit
import Derived.WalkSpells
import Derived.WalkLawsBesides
import Derived.Lib.Hide
import Derived.Lib.IndexBytes
import Derived.Deep.Slices
import Derived.Deep.Fields
import Derived.ChangeSame
import Derived.Deep.Draws
import Derived.Test.YtbcepahpehadeaaGreatDoorAtom
import Derived.Test.YtbcepahpehadeaaGreatDoorKind
import Derived.Test.YtbcepahpehadeaaGreatDoorBody
namespace Go.Proofs.YtbcepahpehadeaaGreatDoor
open Go.RowKit D
set_option linter.unusedVariables false
attribute [local go_sem ↓] Go.wp_at_zero Go.wp_at_succ

set_option maxHeartbeats 1000000 in
theorem l1Rule_any (r : Ru) (c0 c1 c2 : Value) (bs : List Nat) (w : World) (h : ruleK w [c0, c1, c2] r bs) :
    Calls Tryz.prog 53 #[.agg #[c0, c1, c2]] w fun e w' => e = .returned (.bool (ruleOk r)) ∧ Below w.heap.size w w' := by
  obtain ⟨b1, b2, rfl, hp, hq⟩ := rule_parts h
  obtain ⟨Ad, cap, Ae, cape, rfl, rfl, rfl⟩ := rule_cells2 h
  obtain ⟨_, _, hv, hl, hm⟩ := sliceK_form hq
  have hlm := nat_ge_max (Nat.le_trans hl hm)
  have hok := fun w' (hb : Below w.heap.size w w') => atomOk_spec r.head _ _ b1 w' (atomK_good.below hp hb)
  have hr : ruleOk r = (decide (r.body.length ≤ 4) && r.body.all (fun p => atomOk p.atom) && atomOk r.head) := rfl
  rw [hr]
  clear h hp hv hl hm hr
  generalize atomOk r.head = b at *
  have hA := (Below.refl w.heap.size w).alloc (Nat.le_refl _) (.cells #[.string r.head.name, .slice Ad r.head.args.length cap, .slice Ae r.body.length cape] 51)
  go_enter Tryz.func53, Tryz.ntmps53
  go_wp2
  go_loopw [3] (fun i wr => ∃ k : Nat, k ≤ r.body.length ∧ i = .int .i64 k ∧ (r.body.take k).all (fun p => atomOk p.atom) = true ∧ Below w.heap.size w wr ∧ wr.cell? ⟨w.heap.size, 0, none⟩ = some (.string r.head.name) ∧ wr.cell? ⟨w.heap.size, 1, none⟩ = some (.slice Ad r.head.args.length cap) ∧ wr.cell? ⟨w.heap.size, 2, none⟩ = some (.slice Ae r.body.length cape) ∧ w.heap.size < wr.heap.size) (fun i _ => r.body.length - (intOf i).toNat)
  case atStart => exact ⟨0, Nat.zero_le _, rfl, rfl, hA, by go_simp, by go_simp, by go_simp, by simp⟩
  case round =>
    obtain ⟨k, hk, rfl, hall, hb, x0, x1, x2, hsz⟩ := hrel
    have HA := Lib.hid hall
    clear hall hA
    by_cases hlt : k < r.body.length
    · obtain ⟨bb, o, Af, cf, bk, rfl, _, d0, d1, d2, hel, _⟩ := parts_el (partsK_good.below hq hb) hlt
      have hat := part_atom hel
      clear hq hel
      go_wp2_with fail
      refine (atomOk_spec r.body[k].atom _ _ bk _ hat).mono ?_
      rintro e w' ⟨rfl, hb'⟩
      have B' := hb.trans (hb'.mono hb.size)
      have y0 := cell_later hb' x0
      have y1 := cell_later hb' x1
      have y2 := cell_later hb' x2
      have S' : w.heap.size < w'.heap.size := by have := hb'.size; omega
      clear hat x0 x1 x2
      by_cases hx : atomOk r.body[k].atom = true
      · have hx1 : (!atomOk r.body[k].atom) = false := by simp [hx]
        have HX := Lib.hid hx
        clear hx
        go_wp2
        go_roundw
        case rel => exact ⟨k + 1, by omega, by go_num, by rw [all_take_snoc r.body k hlt, HA.out]; exact HX.out, B', y0, y1, y2, S'⟩
        case measure => simp [intOf]; omega
      · have hx1 : (!atomOk r.body[k].atom) = true := by simpa using hx
        have HX := Lib.hid hx
        clear hx
        go_wp2
        go_ret
        exact ⟨ret_bool (by rw [all_bad r.body k hlt (by simpa using HX.out)]; simp), B'⟩
    · have he := Lib.hid (show k = r.body.length by omega)
      have ha : Hid (r.body.all (fun p => atomOk p.atom) = true) := by have := HA.out; rw [he.out, List.take_of_length_le (Nat.le_refl _)] at this; exact this
      go_wp2_with fail
      refine (hok _ hb).mono ?_
      rintro e w' ⟨rfl, hb'⟩
      have B' := hb.trans (hb'.mono hb.size)
      have y2 := cell_later hb' x2
      clear x0 x1 x2 hok
      cases b
      all_goals
        go_wp2
        go_ret
        exact ⟨ret_bool (by rw [ha.out]; first | (simp; done) | (rw [Bool.eq_iff_iff]; simp; omega)), B'⟩

end Go.Proofs.YtbcepahpehadeaaGreatDoor
