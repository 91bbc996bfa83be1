/- The walk of the reference's AtomPut. -/
import Derived.WalkKit
import Derived.WalkSpells
import Derived.WalkLawsBesides
import Derived.Lib.Hide
import Derived.Lib.IndexBytes
import Derived.Deep.Slices
import Derived.Deep.Fields
import Derived.ChangeSame
import Derived.Deep.Draws
import Derived.Deep.RegionHeld3
import Derived.Deep.RegionWith
import Derived.BigQuiet
import Derived.Deep.DrawnRows
import Derived.Test.YtmhjabjiojfgnaaDoorAtom
import Derived.Test.YtmhjabjiojfgnaaDoorPut
namespace Go.Proofs.YtmhjabjiojfgnaaDoor
open Go.RowKit D
set_option linter.unusedVariables false

def D.putA (a : A) : ByteArray := if atomOk a then ⟨(putL a).toArray⟩ else ⟨#[]⟩

set_option maxHeartbeats 400000 in
theorem atomPut_spec (a : A) (c0 c1 : Value) (bs : List Nat) (w : World) (h : atomK w [c0, c1] a bs) (hn : bulkA a ≤ 16777216) :
    Calls Tryd.prog 11 #[.agg #[c0, c1]] w fun e w' => e = .returned (.string (putA a)) ∧ Below w.heap.size w w' := by
  obtain ⟨Ad, cap, rfl, rfl⟩ := atom_cells2 h
  have hok := fun w' (hb : Below w.heap.size w w') => atomOk_spec a _ _ bs w' (atomK_good.below h hb)
  have hpt := fun w' (hb : Below w.heap.size w w') => l1Put_any a _ _ bs w' (atomK_good.below h hb) hn
  unfold putA
  generalize atomOk a = b at *
  clear h
  have hA := (Below.refl w.heap.size w).alloc (Nat.le_refl _) (.cells #[.string a.name, .slice Ad a.args.length cap] 25)
  go_enter Tryd.func11, Tryd.ntmps11
  go_wp2_with fail
  refine (hok _ hA).mono ?_
  rintro e w1 ⟨rfl, hb1⟩
  have B1 := hA.trans (hb1.mono hA.size)
  have x0 : w1.cell? ⟨w.heap.size, 0, none⟩ = some (.string a.name) := cell_later hb1 (by go_simp)
  have x1 : w1.cell? ⟨w.heap.size, 1, none⟩ = some (.slice Ad a.args.length cap) := cell_later hb1 (by go_simp)
  cases b
  · go_wp2
    go_ret
    exact ⟨rfl, B1⟩
  · go_wp2_with fail
    refine (hpt _ B1).mono ?_
    rintro e w2 ⟨rfl, hb2⟩
    go_wp2
    go_ret
    exact ⟨rfl, B1.trans (hb2.mono B1.size)⟩

end Go.Proofs.YtmhjabjiojfgnaaDoor
