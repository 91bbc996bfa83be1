/- A proof that comes in reads as plain data, to whatever depth. -/
import Derived.Test.YtoekllcfmnnibaaArgs
import Derived.Test.YtoekllcfmnnibaaPrfO
namespace Go.Proofs.Ytoekllcfmnnibaa
open Go.RowKit D Go.ChangeShapes Go.WideShapes
set_option linter.unusedVariables false

theorem opProof : Opens Try.prog 27 (fun w cs p bs => ∃ n, proofK n w cs p bs) := fun H enc w spare held fuel cs y h => by
  have h1 := opensF_proof Try.underlying27 (by kernel_rfl) opAtom Try.underlying3 Try.underlying25 (by kernel_rfl) (by kernel_rfl) (by kernel_rfl) rfl rfl rfl fuel
  obtain ⟨x, bs, hx⟩ := h1 H enc w spare held fuel cs y (Nat.le_refl _) h
  exact ⟨x, bs, fuel, hx⟩

end Go.Proofs.Ytoekllcfmnnibaa
