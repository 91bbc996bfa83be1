/- How the arguments of the laws read as plain data. -/
import Derived.Test.YtoekllcfmnnibaaDoorRows
import Derived.Test.YtoekllcfmnnibaaDoorOpen
import Derived.ProofKit
import Derived.OpenShut
import Derived.ShutString
import Derived.ChangeOld
namespace Go.Proofs.YtoekllcfmnnibaaDoor
open Go.RowKit D Go.ChangeShapes Go.WideShapes
set_option linter.unusedVariables false

theorem own : ownKnob Tryd.prog.godebug = none := by kernel_rfl
theorem laidOut : laidOutB Tryd.prog = true := by kernel_rfl
theorem open_in {α : Type} {P : Program} {t : TypeId} {R : Rel α} (hO : Opens P t R) {H : Type} {enc : TypeId × Value → H} {w : World} {spare : Nat → Bool} {held : Bool} {v : Value} {d : DataW H} {ps : List MemPlace}
    (h : DataW.Trod enc P w 0 spare held t v d ps) : ∃ x bs, R w v.cells.toList x bs := by
  obtain ⟨fuel, hf⟩ := h
  exact hO H enc w spare held fuel _ _ hf
theorem agg2 {cs : Array Value} {n : Nat} (h : cs.size = n) (hn : n = 2) : ∃ a b, cs = #[a, b] := by
  obtain ⟨l⟩ := cs
  subst hn
  match l, h with
  | [a, b], _ => exact ⟨a, b, rfl⟩
theorem agg3 {cs : Array Value} {n : Nat} (h : cs.size = n) (hn : n = 3) : ∃ a b c, cs = #[a, b, c] := by
  obtain ⟨l⟩ := cs
  subst hn
  match l, h with
  | [a, b, c], _ => exact ⟨a, b, c, rfl⟩
theorem agg4 {cs : Array Value} {n : Nat} (h : cs.size = n) (hn : n = 4) : ∃ a b c d, cs = #[a, b, c, d] := by
  obtain ⟨l⟩ := cs
  subst hn
  match l, h with
  | [a, b, c, d], _ => exact ⟨a, b, c, d, rfl⟩

theorem opBytes : Opens Tryd.prog 48 bytesK := opens_slice Tryd.underlying48 (by kernel_rfl) (by omega) (opens_byte Tryd.underlying5)
theorem opTerm : Opens Tryd.prog 68 termK := opens_term Tryd.underlying68 (by kernel_rfl) Tryd.underlying4 Tryd.underlying9 (by kernel_rfl) (by kernel_rfl) rfl rfl
theorem opTerms : Opens Tryd.prog 22 termsK := opens_slice Tryd.underlying22 (by kernel_rfl) (by omega) opTerm
theorem opAtom : Opens Tryd.prog 24 atomK := opens_atom Tryd.underlying24 (by kernel_rfl) Tryd.underlying9 opTerms (by kernel_rfl) (by kernel_rfl) rfl rfl

end Go.Proofs.YtoekllcfmnnibaaDoor
