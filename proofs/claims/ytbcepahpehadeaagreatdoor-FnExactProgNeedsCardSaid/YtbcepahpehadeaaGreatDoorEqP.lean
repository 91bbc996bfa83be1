/- The walks of eqPart, eqPartS. -/
import Derived.Deep.RegionHeld3
import Derived.Deep.RegionWith
import Derived.BigQuiet
import Derived.Deep.DrawnRows
import Derived.WalkKit
import Derived.WalkSpells
import Derived.WalkLawsBesides
import Derived.Lib.Hide
import Derived.Lib.IndexBytes
import Derived.Deep.Slices
import Derived.Deep.Fields
import Derived.ChangeSame
import Derived.Deep.Draws
import Derived.Test.YtbcepahpehadeaaGreatDoorEqA
namespace Go.Proofs.YtbcepahpehadeaaGreatDoor
open Go.RowKit D
set_option linter.unusedVariables false
attribute [local go_sem ↓] Go.wp_at_zero Go.wp_at_succ

set_option maxHeartbeats 400000 in
theorem eqPart_same (p : Pt) (c0 c1 c2 d0 d1 d2 : Value) (b1 b2 : List Nat) (w : World) (h1 : partK w [c0, c1, c2] p b1) (h2 : partK w [d0, d1, d2] p b2) :
    Calls Tryz.prog 91 #[.agg #[c0, c1, c2], .agg #[d0, d1, d2]] w (Yes w.heap.size w) := by
  have a1 := part_atom h1
  have a2 := part_atom h2
  obtain ⟨Ad, cap, rfl, rfl, rfl⟩ := part_cells2 h1
  obtain ⟨Ae, cape, rfl, rfl, rfl⟩ := part_cells2 h2
  have hq := fun w' (hb : Below w.heap.size w w') => eqAtom_same p.atom _ _ _ _ b1 b2 w' (atomK_good.below a1 hb) (atomK_good.below a2 hb)
  clear h1 h2 a1 a2
  have hA := ((Below.refl w.heap.size w).alloc (Nat.le_refl _) (.cells #[.bool p.no, .string p.atom.name, .slice Ad p.atom.args.length cap] 54)).alloc (by simp) (.cells #[.bool p.no, .string p.atom.name, .slice Ae p.atom.args.length cape] 54)
  go_enter Tryz.func91, Tryz.ntmps91
  go_wp2_with fail
  refine (hq _ hA).mono ?_
  rintro e w' ⟨rfl, hb'⟩
  go_wp2
  go_ret
  exact ⟨rfl, hA.trans (hb'.mono hA.size)⟩

set_option maxHeartbeats 400000 in
theorem eqPartS_same (ts : List Pt) (v1 v2 : Value) (b1 b2 : List Nat) (w : World) (h1 : partsK w [v1] ts b1) (h2 : partsK w [v2] ts b2) :
    Calls Tryz.prog 66 #[v1, v2] w (Yes w.heap.size w) := by
  obtain ⟨Ad, cap, rfl, hl, hm⟩ := sliceK_form h1
  obtain ⟨Ad2, cap2, rfl, hl2, hm2⟩ := sliceK_form h2
  have hlm := nat_ge_max (Nat.le_trans hl hm)
  clear hm hm2
  go_enter Tryz.func66, Tryz.ntmps66
  go_wp2
  go_loopw [5] (fun i wr => ∃ k : Nat, k ≤ ts.length ∧ i = .int .i64 k ∧ Below w.heap.size w wr) (fun i _ => ts.length - (intOf i).toNat)
  case atStart => exact ⟨0, Nat.zero_le _, rfl, Below.refl _ _⟩
  case round =>
    obtain ⟨k, hk, rfl, hb⟩ := hrel
    by_cases hlt : k < ts.length
    · obtain ⟨b, o, Ae, ce, bk, rfl, _, c0, c1, c2, hel, _⟩ := parts_el (partsK_good.below h1 hb) hlt
      obtain ⟨b', o', Ae', ce', bk', rfl, _, d0, d1, d2, hel', _⟩ := parts_el (partsK_good.below h2 hb) hlt
      clear h1 h2
      have H1 := Lib.hid (partK_good.below hel (Below.drew (Below.refl _ _)))
      have H2 := Lib.hid (partK_good.below hel' (Below.drew (Below.refl _ _)))
      have hlt' : (k : Int) < (ts.length : Int) := by omega
      have hk0 : (0 : Int) ≤ (k : Int) := by omega
      clear hel hel'
      go_wp2
      go_region_held3 (fun w' => w'.cell? ⟨b, o + k * 3, none⟩ = some (.bool ts[k].no) ∧ w'.cell? ⟨b, o + k * 3 + 1, none⟩ = some (.string ts[k].atom.name) ∧ w'.cell? ⟨b, o + k * 3 + 2, none⟩ = some (.slice Ae ts[k].atom.args.length ce) ∧ w'.cell? ⟨b', o' + k * 3, none⟩ = some (.bool ts[k].no) ∧ w'.cell? ⟨b', o' + k * 3 + 1, none⟩ = some (.string ts[k].atom.name) ∧ w'.cell? ⟨b', o' + k * 3 + 2, none⟩ = some (.slice Ae' ts[k].atom.args.length ce')) (first | go_keep | exact ⟨cell_later hb' c0, cell_later hb' c1, cell_later hb' c2, cell_later hb' d0, cell_later hb' d1, cell_later hb' d2⟩)
        (first | (go_at_call 91; refine (eqPart_same ts[k] _ _ _ _ _ _ bk bk' _ H1.out H2.out).mono ?_; rintro e w' ⟨rfl, hb'⟩))
      go_wp2
      go_roundw
      case rel => exact ⟨k + 1, by omega, by go_num, hb.trans ((Below.drew (Below.refl _ _)).trans (hb'.mono hb.size))⟩
      case measure => simp [intOf]; omega
    · have he : k = ts.length := by omega
      subst he
      go_wp2
      go_ret
      exact ⟨rfl, hb⟩

end Go.Proofs.YtbcepahpehadeaaGreatDoor
