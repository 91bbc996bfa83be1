/- The walk of eqRule. -/
import Derived.Deep.RegionHeld3
import Derived.Deep.RegionWith
import Derived.BigQuiet
import Derived.Deep.DrawnRows
import Derived.WalkKit
import Derived.WalkSpells
import Derived.WalkLawsBesides
import Derived.Lib.Hide
import Derived.Lib.IndexBytes
import Derived.Deep.Slices
import Derived.Deep.Fields
import Derived.ChangeSame
import Derived.Deep.Draws
import Derived.Test.YtbcepahpehadeaaGreatDoorEqP
namespace Go.Proofs.YtbcepahpehadeaaGreatDoor
open Go.RowKit D
set_option linter.unusedVariables false
attribute [local go_sem ↓] Go.wp_at_zero Go.wp_at_succ

set_option maxHeartbeats 400000 in
theorem eqRule_same (r : Ru) (c0 c1 c2 d0 d1 d2 : Value) (b1 b2 : List Nat) (w : World) (h1 : ruleK w [c0, c1, c2] r b1) (h2 : ruleK w [d0, d1, d2] r b2) :
    Calls Tryz.prog 39 #[.agg #[c0, c1, c2], .agg #[d0, d1, d2]] w (Yes w.heap.size w) := by
  obtain ⟨b11, b12, rfl, p1, q1⟩ := rule_parts h1
  obtain ⟨b21, b22, rfl, p2, q2⟩ := rule_parts h2
  obtain ⟨Ad, cap, Ae, cape, rfl, rfl, rfl⟩ := rule_cells2 h1
  obtain ⟨Ad2, cap2, Ae2, cape2, rfl, rfl, rfl⟩ := rule_cells2 h2
  have e1 := fun w' (hb : Below w.heap.size w w') => eqAtom_same r.head _ _ _ _ b11 b21 w' (atomK_good.below p1 hb) (atomK_good.below p2 hb)
  have e2 := fun w' (hb : Below w.heap.size w w') => eqPartS_same r.body _ _ b12 b22 w' (partsK_good.below q1 hb) (partsK_good.below q2 hb)
  clear h1 h2 p1 p2 q1 q2
  have hA := ((Below.refl w.heap.size w).alloc (Nat.le_refl _) (.cells #[.string r.head.name, .slice Ad r.head.args.length cap, .slice Ae r.body.length cape] 51)).alloc (by simp) (.cells #[.string r.head.name, .slice Ad2 r.head.args.length cap2, .slice Ae2 r.body.length cape2] 51)
  go_enter Tryz.func39, Tryz.ntmps39
  go_wp2_with fail
  refine (e1 _ hA).mono ?_
  rintro e w1 ⟨rfl, hb1⟩
  have B1 := hA.trans (hb1.mono hA.size)
  have x0 : w1.cell? ⟨w.heap.size, 0, none⟩ = some (.string r.head.name) := cell_later hb1 (by go_simp)
  have y0 : w1.cell? ⟨w.heap.size + 1, 0, none⟩ = some (.string r.head.name) := cell_later hb1 (by go_simp)
  have x1 : w1.cell? ⟨w.heap.size, 1, none⟩ = some (.slice Ad r.head.args.length cap) := cell_later hb1 (by go_simp)
  have y1 : w1.cell? ⟨w.heap.size + 1, 1, none⟩ = some (.slice Ad2 r.head.args.length cap2) := cell_later hb1 (by go_simp)
  have x2 : w1.cell? ⟨w.heap.size, 2, none⟩ = some (.slice Ae r.body.length cape) := cell_later hb1 (by go_simp)
  have y2 : w1.cell? ⟨w.heap.size + 1, 2, none⟩ = some (.slice Ae2 r.body.length cape2) := cell_later hb1 (by go_simp)
  clear e1 hA
  go_wp2_with fail
  refine (e2 _ B1).mono ?_
  rintro e w2 ⟨rfl, hb2⟩
  go_wp2
  go_ret
  exact ⟨rfl, B1.trans (hb2.mono B1.size)⟩

end Go.Proofs.YtbcepahpehadeaaGreatDoor
