/- A proof that comes in reads as plain data, to whatever depth. -/
import Derived.Test.YtoekllcfmnnibaaDoorArgs
import Derived.Test.YtoekllcfmnnibaaDoorPrfO
namespace Go.Proofs.YtoekllcfmnnibaaDoor
open Go.RowKit D Go.ChangeShapes Go.WideShapes
set_option linter.unusedVariables false

theorem opProof : Opens Tryd.prog 27 (fun w cs p bs => ∃ n, proofK n w cs p bs) := fun H enc w spare held fuel cs y h => by
  have h1 := opensF_proof Tryd.underlying27 (by kernel_rfl) opAtom Tryd.underlying3 Tryd.underlying25 (by kernel_rfl) (by kernel_rfl) (by kernel_rfl) rfl rfl rfl fuel
  obtain ⟨x, bs, hx⟩ := h1 H enc w spare held fuel cs y (Nat.le_refl _) h
  exact ⟨x, bs, fuel, hx⟩

end Go.Proofs.YtoekllcfmnnibaaDoor
