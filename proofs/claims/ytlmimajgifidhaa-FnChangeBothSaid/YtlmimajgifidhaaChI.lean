/- The walk of the program's ChangeOk. -/
import Derived.RangeFuncNested
import Derived.RangeFuncBound
import Derived.RangeFuncCalls
import Derived.RangeFuncLeaves
import Derived.Shelf.Abstract
import Derived.Shelf.RegionOpen
import Derived.OwnWalkIn
import Derived.TacticsInMore
import Derived.LoopNIn
import Derived.LoopIn
import Derived.Laws.EntriesVeiled
import Derived.Deep.RegionHeld3
import Derived.Deep.RegionWith
import Derived.BigQuiet
import Derived.Deep.DrawnRows
import Derived.WalkKit
import Derived.WalkSpells
import Derived.WalkLawsBesides
import Derived.Lib.Hide
import Derived.Lib.IndexBytes
import Derived.Deep.Slices
import Derived.Deep.Fields
import Derived.ChangeSame
import Derived.Deep.Draws
import Derived.Lib.Bytealg
import Derived.Test.YtlmimajgifidhaaCommon
import Derived.Test.YtlmimajgifidhaaFacts3
namespace Go.Proofs.Ytlmimajgifidhaa
open Go.RowKit D
set_option linter.unusedVariables false
attribute [local go_sem ↓] Go.wp_at_zero Go.wp_at_succ

set_option maxHeartbeats 1000000 in
theorem changeOk_impl (c : Ch) (c0 c1 : Value) (bs : List Nat) (w : World) (h : changeK w [c0, c1] c bs) :
    Calls Try.prog 17 #[.agg #[c0, c1]] w fun e w' => e = .returned (.bool (changeOk c)) ∧ Below w.heap.size w w' := by
  obtain ⟨Ad, cap, Ae, cape, rfl, rfl⟩ := change_cells2 h
  obtain ⟨b1, b2, rfl, ht, hp⟩ := change_parts h
  have k1 := fun w' (hb : Below w.heap.size w w') => factsOk_impl c.comes _ b1 w' (atomsK_good.below ht hb)
  have k2 := fun w' (hb : Below w.heap.size w w') => factsOk_impl c.goes _ b2 w' (atomsK_good.below hp hb)
  have k3 := fun w' (hb : Below w.heap.size w w') => common_any c.comes c.goes _ _ b1 b2 w' (atomsK_good.below ht hb) (atomsK_good.below hp hb)
  have HE : Hid (changeOk c = (factsOk c.comes && factsOk c.goes && !meets c.comes c.goes)) := Lib.hid rfl
  have HM := fun (hx : factsOk c.comes = true) (hy : factsOk c.goes = true) => merge_meets _ c.comes c.goes (Nat.le_refl _) (factsOk_asc hx) (factsOk_asc hy)
  generalize factsOk c.comes = x at *
  generalize factsOk c.goes = y at *
  generalize (mergeL c.comes c.goes).any (fun p => p.2 == 2) = z at *
  generalize meets c.comes c.goes = m at *
  clear h ht hp
  have hA := (Below.refl w.heap.size w).alloc (Nat.le_refl _) (.cells #[.slice Ad c.comes.length cap, .slice Ae c.goes.length cape] 28)
  go_enter Try.func17, Try.ntmps17
  go_wp2_with fail
  refine (k1 _ hA).mono ?_
  rintro e w1 ⟨rfl, hb1⟩
  have B1 := hA.trans (hb1.mono hA.size)
  have x0 : w1.cell? ⟨w.heap.size, 0, none⟩ = some (.slice Ad c.comes.length cap) := cell_later hb1 (by go_simp)
  have x1 : w1.cell? ⟨w.heap.size, 1, none⟩ = some (.slice Ae c.goes.length cape) := cell_later hb1 (by go_simp)
  clear k1 hA
  cases x
  · clear HM
    go_wp2
    go_ret
    exact ⟨ret_bool (by rw [HE.out]; rfl), B1⟩
  · go_wp2_with fail
    refine (k2 _ B1).mono ?_
    rintro e w2 ⟨rfl, hb2⟩
    have B2 := B1.trans (hb2.mono B1.size)
    have y0 := cell_later hb2 x0
    have y1 := cell_later hb2 x1
    clear k2 x0 x1
    cases y
    · clear HM
      go_wp2
      go_ret
      exact ⟨ret_bool (by rw [HE.out]; rfl), B2⟩
    · obtain rfl : z = m := HM (by simp) (by simp)
      clear HM
      go_wp2_with fail
      refine (k3 _ B2).mono ?_
      rintro e w3 ⟨rfl, hb3⟩
      go_wp2
      go_ret
      exact ⟨ret_bool (by rw [HE.out]; simp), B2.trans (hb3.mono B2.size)⟩

end Go.Proofs.Ytlmimajgifidhaa
