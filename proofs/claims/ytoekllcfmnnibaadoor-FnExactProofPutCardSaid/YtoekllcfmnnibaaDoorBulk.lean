/- toAtom, by how much an atom holds. -/
import Derived.Deep.RegionHeld3
import Derived.Deep.RegionWith
import Derived.BigQuiet
import Derived.Deep.DrawnRows
import Derived.WalkKit
import Derived.WalkSpells
import Derived.WalkLawsBesides
import Derived.Lib.Hide
import Derived.Lib.IndexBytes
import Derived.Deep.Slices
import Derived.Deep.Fields
import Derived.ChangeSame
import Derived.Deep.Draws
import Derived.Test.YtoekllcfmnnibaaDoorKind
import Derived.Test.YtoekllcfmnnibaaDoorEq
namespace Go.Proofs.YtoekllcfmnnibaaDoor
open Go.RowKit D
theorem toAtom_b (a : A) (c0 c1 : Value) (bs : List Nat) (w : World) (h : atomK w [c0, c1] a bs) (hn : bulkA a ≤ 1048576) :
    Calls Tryd.prog 13 #[.agg #[c0, c1]] w (MakesA atomK a w.heap.size w) := toAtom_any a c0 c1 bs w h (by unfold bulkA at hn; omega)
end Go.Proofs.YtoekllcfmnnibaaDoor
