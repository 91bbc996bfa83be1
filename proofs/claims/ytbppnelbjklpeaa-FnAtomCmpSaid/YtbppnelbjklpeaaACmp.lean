/- The walks of AtomCmp, the program's and the reference's. -/
import Derived.Deep.RegionHeld3
import Derived.Deep.RegionWith
import Derived.BigQuiet
import Derived.Deep.DrawnRows
import Derived.WalkKit
import Derived.WalkSpells
import Derived.WalkLawsBesides
import Derived.Lib.Hide
import Derived.Lib.IndexBytes
import Derived.Deep.Slices
import Derived.Deep.Fields
import Derived.ChangeSame
import Derived.Deep.Draws
import Derived.Lib.Bytealg
import Derived.Test.YtbppnelbjklpeaaCmp
import Derived.Test.YtbppnelbjklpeaaAtom
namespace Go.Proofs.Ytbppnelbjklpeaa
open Go.RowKit D
set_option linter.unusedVariables false

def D.acmp (a b : A) : Int := if atomOk a && atomOk b then cmpA a b else 0

set_option maxHeartbeats 1000000 in
theorem atomCmp_spec (a b : A) (c0 c1 d0 d1 : Value) (b1 b2 : List Nat) (w : World) (h1 : atomK w [c0, c1] a b1) (h2 : atomK w [d0, d1] b b2) :
    Calls Try.prog 10 #[.agg #[c0, c1], .agg #[d0, d1]] w fun e w' => e = .returned (.int .i64 (acmp a b)) ∧ Below w.heap.size w w' := by
  obtain ⟨Ad, cap, rfl, rfl⟩ := atom_cells2 h1
  obtain ⟨Ae, cape, rfl, rfl⟩ := atom_cells2 h2
  have k1 := fun w' (hb : Below w.heap.size w w') => atomOk_spec a _ _ b1 w' (atomK_good.below h1 hb)
  have k2 := fun w' (hb : Below w.heap.size w w') => atomOk_spec b _ _ b2 w' (atomK_good.below h2 hb)
  have k3 := fun w' (hb : Below w.heap.size w w') => l1Cmp_any a b _ _ _ _ b1 b2 w' (atomK_good.below h1 hb) (atomK_good.below h2 hb)
  unfold acmp
  generalize atomOk a = x at *
  generalize atomOk b = y at *
  clear h1 h2
  have hA := ((Below.refl w.heap.size w).alloc (Nat.le_refl _) (.cells #[.string a.name, .slice Ad a.args.length cap] 25)).alloc (by simp) (.cells #[.string b.name, .slice Ae b.args.length cape] 25)
  go_enter Try.func10, Try.ntmps10
  go_wp2_with fail
  refine (k1 _ hA).mono ?_
  rintro e w1 ⟨rfl, hb1⟩
  have B1 := hA.trans (hb1.mono hA.size)
  have x0 : w1.cell? ⟨w.heap.size, 0, none⟩ = some (.string a.name) := cell_later hb1 (by go_simp)
  have x1 : w1.cell? ⟨w.heap.size, 1, none⟩ = some (.slice Ad a.args.length cap) := cell_later hb1 (by go_simp)
  have y0 : w1.cell? ⟨w.heap.size + 1, 0, none⟩ = some (.string b.name) := cell_later hb1 (by go_simp)
  have y1 : w1.cell? ⟨w.heap.size + 1, 1, none⟩ = some (.slice Ae b.args.length cape) := cell_later hb1 (by go_simp)
  clear k1 hA
  cases x
  · go_wp2
    go_ret
    exact ⟨rfl, B1⟩
  · go_wp2_with fail
    refine (k2 _ B1).mono ?_
    rintro e w2 ⟨rfl, hb2⟩
    have B2 := B1.trans (hb2.mono B1.size)
    have x0' := cell_later hb2 x0
    have x1' := cell_later hb2 x1
    have y0' := cell_later hb2 y0
    have y1' := cell_later hb2 y1
    clear k2 x0 x1 y0 y1
    cases y
    · go_wp2
      go_ret
      exact ⟨rfl, B2⟩
    · go_wp2_with fail
      refine (k3 _ B2).mono ?_
      rintro e w3 ⟨rfl, hb3⟩
      go_wp2
      go_ret
      exact ⟨rfl, B2.trans (hb3.mono B2.size)⟩

set_option maxHeartbeats 1000000 in
theorem atomCmp_impl (a b : A) (c0 c1 d0 d1 : Value) (b1 b2 : List Nat) (w : World) (h1 : atomK w [c0, c1] a b1) (h2 : atomK w [d0, d1] b b2) :
    Calls Try.prog 9 #[.agg #[c0, c1], .agg #[d0, d1]] w fun e w' => e = .returned (.int .i64 (acmp a b)) ∧ Below w.heap.size w w' := by
  obtain ⟨Ad, cap, rfl, rfl⟩ := atom_cells2 h1
  obtain ⟨Ae, cape, rfl, rfl⟩ := atom_cells2 h2
  have k1 := fun w' (hb : Below w.heap.size w w') => atomOk_impl a _ _ b1 w' (atomK_good.below h1 hb)
  have k2 := fun w' (hb : Below w.heap.size w w') => atomOk_impl b _ _ b2 w' (atomK_good.below h2 hb)
  have k3 := fun w' (hb : Below w.heap.size w w') => atomOrder_any a b _ _ _ _ b1 b2 w' (atomK_good.below h1 hb) (atomK_good.below h2 hb)
  unfold acmp
  generalize atomOk a = x at *
  generalize atomOk b = y at *
  clear h1 h2
  have hA := ((Below.refl w.heap.size w).alloc (Nat.le_refl _) (.cells #[.string a.name, .slice Ad a.args.length cap] 25)).alloc (by simp) (.cells #[.string b.name, .slice Ae b.args.length cape] 25)
  go_enter Try.func9, Try.ntmps9
  go_wp2_with fail
  refine (k1 _ hA).mono ?_
  rintro e w1 ⟨rfl, hb1⟩
  have B1 := hA.trans (hb1.mono hA.size)
  have x0 : w1.cell? ⟨w.heap.size, 0, none⟩ = some (.string a.name) := cell_later hb1 (by go_simp)
  have x1 : w1.cell? ⟨w.heap.size, 1, none⟩ = some (.slice Ad a.args.length cap) := cell_later hb1 (by go_simp)
  have y0 : w1.cell? ⟨w.heap.size + 1, 0, none⟩ = some (.string b.name) := cell_later hb1 (by go_simp)
  have y1 : w1.cell? ⟨w.heap.size + 1, 1, none⟩ = some (.slice Ae b.args.length cape) := cell_later hb1 (by go_simp)
  clear k1 hA
  cases x
  · go_wp2
    go_ret
    exact ⟨rfl, B1⟩
  · go_wp2_with fail
    refine (k2 _ B1).mono ?_
    rintro e w2 ⟨rfl, hb2⟩
    have B2 := B1.trans (hb2.mono B1.size)
    have x0' := cell_later hb2 x0
    have x1' := cell_later hb2 x1
    have y0' := cell_later hb2 y0
    have y1' := cell_later hb2 y1
    clear k2 x0 x1 y0 y1
    cases y
    · go_wp2
      go_ret
      exact ⟨rfl, B2⟩
    · go_wp2_with fail
      refine (k3 _ B2).mono ?_
      rintro e w3 ⟨rfl, hb3⟩
      go_wp2
      go_ret
      exact ⟨rfl, B2.trans (hb3.mono B2.size)⟩

end Go.Proofs.Ytbppnelbjklpeaa
