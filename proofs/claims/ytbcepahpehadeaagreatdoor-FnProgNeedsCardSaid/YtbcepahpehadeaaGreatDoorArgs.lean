/- How the arguments of the laws read as plain data. -/
import Derived.Test.YtbcepahpehadeaaGreatDoorRows
import Derived.Test.YtbcepahpehadeaaGreatDoorOpen
import Derived.ProofKit
import Derived.OpenShut
import Derived.ShutString
import Derived.ChangeOld
namespace Go.Proofs.YtbcepahpehadeaaGreatDoor
open Go.RowKit D Go.ChangeShapes Go.WideShapes
set_option linter.unusedVariables false

theorem own : ownKnob Tryz.prog.godebug = none := by kernel_rfl
theorem laidOut : laidOutB Tryz.prog = true := by kernel_rfl
theorem open_in {α : Type} {P : Program} {t : TypeId} {R : Rel α} (hO : Opens P t R) {H : Type} {enc : TypeId × Value → H} {w : World} {spare : Nat → Bool} {held : Bool} {v : Value} {d : DataW H} {ps : List MemPlace}
    (h : DataW.Trod enc P w 0 spare held t v d ps) : ∃ x bs, R w v.cells.toList x bs := by
  obtain ⟨fuel, hf⟩ := h
  exact hO H enc w spare held fuel _ _ hf
theorem agg2 {cs : Array Value} {n : Nat} (h : cs.size = n) (hn : n = 2) : ∃ a b, cs = #[a, b] := by
  obtain ⟨l⟩ := cs
  subst hn
  match l, h with
  | [a, b], _ => exact ⟨a, b, rfl⟩
theorem agg3 {cs : Array Value} {n : Nat} (h : cs.size = n) (hn : n = 3) : ∃ a b c, cs = #[a, b, c] := by
  obtain ⟨l⟩ := cs
  subst hn
  match l, h with
  | [a, b, c], _ => exact ⟨a, b, c, rfl⟩
theorem agg4 {cs : Array Value} {n : Nat} (h : cs.size = n) (hn : n = 4) : ∃ a b c d, cs = #[a, b, c, d] := by
  obtain ⟨l⟩ := cs
  subst hn
  match l, h with
  | [a, b, c, d], _ => exact ⟨a, b, c, d, rfl⟩

theorem opBytes : Opens Tryz.prog 42 bytesK := opens_slice Tryz.underlying42 (by kernel_rfl) (by omega) (opens_byte Tryz.underlying5)
theorem opTerm : Opens Tryz.prog 110 termK := opens_term Tryz.underlying110 (by kernel_rfl) Tryz.underlying4 Tryz.underlying9 (by kernel_rfl) (by kernel_rfl) rfl rfl
theorem opTerms : Opens Tryz.prog 57 termsK := opens_slice Tryz.underlying57 (by kernel_rfl) (by omega) opTerm
theorem opAtom : Opens Tryz.prog 59 atomK := opens_atom Tryz.underlying59 (by kernel_rfl) Tryz.underlying9 opTerms (by kernel_rfl) (by kernel_rfl) rfl rfl
theorem opAtoms : Opens Tryz.prog 23 atomsK := opens_slice Tryz.underlying23 (by kernel_rfl) (by omega) opAtom
theorem opPart : Opens Tryz.prog 108 partK := opens_part Tryz.underlying108 (by kernel_rfl) Tryz.underlying4 opAtom (by kernel_rfl) (by kernel_rfl) rfl rfl
theorem opParts : Opens Tryz.prog 60 partsK := opens_slice Tryz.underlying60 (by kernel_rfl) (by omega) opPart
theorem opRule : Opens Tryz.prog 62 ruleK := opens_rule Tryz.underlying62 (by kernel_rfl) opAtom opParts (by kernel_rfl) (by kernel_rfl) rfl rfl
theorem opRules : Opens Tryz.prog 22 rulesK := opens_slice Tryz.underlying22 (by kernel_rfl) (by omega) opRule

end Go.Proofs.YtbcepahpehadeaaGreatDoor
