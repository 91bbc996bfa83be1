/-
  DERIVED. GIVEN WITH THE SEED: THE CARDS: each row of YtlmimajgifidhabDoorRows.lean that lists a variable, with what it lists TIED to the program's text (the seventh form; the later family's looks); each row that meets fmt, with fmt's text TOLD by the authors' own Lean function (tested against real Go, not proved from fmt's source: count such statements apart). THE CARD IS WHAT COUNTS. Prove the row's statement (the work); the ties are given (YtlmimajgifidhabDoorTie.lean); close each card by the builder's one call (the guide's Derived/Test/ToyasCard.lean, 'card_holds'). Laid BY PROGRAM, IN A SANDBOX (cutbox-door.mjs). By AI agents, Wed Nov 11 2026. No macro, syntax, notation, axiom, sorry.
-/
import Derived.Test.YtlmimajgifidhabDoorRows
import GoSem.ClaimSeven
namespace Go.Proofs.YtlmimajgifidhabDoor
namespace Rows

/-- THE TIED CARD OF 'laws.FnExactAtomGet'. -/
def fnExactAtomGetCard : Claim7 := { stood := { row := fnExactAtomGetRow, standIns := [], harness := (true, "bf0af308c712727e90d58b85edd774a6b7a7632c6e8896e68b58bd1c1b04b302"), looks := true }, kinds := [], alts := [], laidByText := true, laidKinds := [.data, .pinned], laidTests := true, laidLooks := .later }
def FnExactAtomGetCardSaid : Prop := Claim7.holds Tryd.pinned (.plain (OpenSpec.ofChange fnExactAtomGetSpec)) fnExactAtomGetCard

/-- THE SECOND FORM's CARD OF 'laws.FnExactAtomGet'. -/
def fnExactAtomGetUptoCard : Claim7 := { stood := { row := fnExactAtomGetUptoRow, standIns := [], harness := (true, "bf0af308c712727e90d58b85edd774a6b7a7632c6e8896e68b58bd1c1b04b302"), looks := true }, kinds := [], alts := [], laidByText := true, laidKinds := [.data, .pinned], laidTests := true, laidLooks := .later }
def FnExactAtomGetUptoCardSaid : Prop := Claim7.holds Tryd.pinned (.plain (OpenSpec.upto fnExactAtomGetSpec)) fnExactAtomGetUptoCard
end Rows
end Go.Proofs.YtlmimajgifidhabDoor
