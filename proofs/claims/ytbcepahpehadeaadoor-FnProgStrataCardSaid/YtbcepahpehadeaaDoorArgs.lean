/- How the arguments of the laws read as plain data. -/
import Derived.Test.YtbcepahpehadeaaDoorRows
import Derived.Test.YtbcepahpehadeaaDoorOpen
import Derived.ProofKit
import Derived.OpenShut
import Derived.ShutString
import Derived.ChangeOld
namespace Go.Proofs.YtbcepahpehadeaaDoor
open Go.RowKit D Go.ChangeShapes Go.WideShapes
set_option linter.unusedVariables false

theorem own : ownKnob Tryd.prog.godebug = none := by kernel_rfl
theorem laidOut : laidOutB Tryd.prog = true := by kernel_rfl
theorem open_in {α : Type} {P : Program} {t : TypeId} {R : Rel α} (hO : Opens P t R) {H : Type} {enc : TypeId × Value → H} {w : World} {spare : Nat → Bool} {held : Bool} {v : Value} {d : DataW H} {ps : List MemPlace}
    (h : DataW.Trod enc P w 0 spare held t v d ps) : ∃ x bs, R w v.cells.toList x bs := by
  obtain ⟨fuel, hf⟩ := h
  exact hO H enc w spare held fuel _ _ hf
theorem agg2 {cs : Array Value} {n : Nat} (h : cs.size = n) (hn : n = 2) : ∃ a b, cs = #[a, b] := by
  obtain ⟨l⟩ := cs
  subst hn
  match l, h with
  | [a, b], _ => exact ⟨a, b, rfl⟩
theorem agg3 {cs : Array Value} {n : Nat} (h : cs.size = n) (hn : n = 3) : ∃ a b c, cs = #[a, b, c] := by
  obtain ⟨l⟩ := cs
  subst hn
  match l, h with
  | [a, b, c], _ => exact ⟨a, b, c, rfl⟩
theorem agg4 {cs : Array Value} {n : Nat} (h : cs.size = n) (hn : n = 4) : ∃ a b c d, cs = #[a, b, c, d] := by
  obtain ⟨l⟩ := cs
  subst hn
  match l, h with
  | [a, b, c, d], _ => exact ⟨a, b, c, d, rfl⟩

theorem opBytes : Opens Tryd.prog 29 bytesK := opens_slice Tryd.underlying29 (by kernel_rfl) (by omega) (opens_byte Tryd.underlying5)
theorem opTerm : Opens Tryd.prog 151 termK := opens_term Tryd.underlying151 (by kernel_rfl) Tryd.underlying4 Tryd.underlying9 (by kernel_rfl) (by kernel_rfl) rfl rfl
theorem opTerms : Opens Tryd.prog 50 termsK := opens_slice Tryd.underlying50 (by kernel_rfl) (by omega) opTerm
theorem opAtom : Opens Tryd.prog 52 atomK := opens_atom Tryd.underlying52 (by kernel_rfl) Tryd.underlying9 opTerms (by kernel_rfl) (by kernel_rfl) rfl rfl
theorem opPart : Opens Tryd.prog 120 partK := opens_part Tryd.underlying120 (by kernel_rfl) Tryd.underlying4 opAtom (by kernel_rfl) (by kernel_rfl) rfl rfl
theorem opParts : Opens Tryd.prog 53 partsK := opens_slice Tryd.underlying53 (by kernel_rfl) (by omega) opPart
theorem opRule : Opens Tryd.prog 55 ruleK := opens_rule Tryd.underlying55 (by kernel_rfl) opAtom opParts (by kernel_rfl) (by kernel_rfl) rfl rfl
theorem opRules : Opens Tryd.prog 22 rulesK := opens_slice Tryd.underlying22 (by kernel_rfl) (by omega) opRule

end Go.Proofs.YtbcepahpehadeaaDoor
