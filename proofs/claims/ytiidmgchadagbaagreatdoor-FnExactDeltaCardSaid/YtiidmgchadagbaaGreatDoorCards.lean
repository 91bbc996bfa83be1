/-
  DERIVED. GIVEN WITH THE SEED: THE CARDS: each row of YtiidmgchadagbaaGreatDoorRows.lean that lists a variable, with what it lists TIED to the program's text (the seventh form; the later family's looks); each row that meets fmt, with fmt's text TOLD by the authors' own Lean function (tested against real Go, not proved from fmt's source: count such statements apart). THE CARD IS WHAT COUNTS. Prove the row's statement (the work); the ties are given (YtiidmgchadagbaaGreatDoorTie.lean); close each card by the builder's one call (the guide's Derived/Test/ToyasCard.lean, 'card_holds'). Laid BY PROGRAM, IN A SANDBOX (cutbox-door.mjs). By AI agents, Wed Nov 11 2026. No macro, syntax, notation, axiom, sorry.
-/
import Derived.Test.YtiidmgchadagbaaGreatDoorRows
import GoSem.ClaimSeven
namespace Go.Proofs.YtiidmgchadagbaaGreatDoor
namespace Rows

/-- THE TIED CARD OF 'laws.FnExactEval'. -/
def fnExactEvalCard : Claim7 := { stood := { row := fnExactEvalRow, standIns := [], harness := (true, "fe6f87afaf392d7064fb9671036ff4de71a76ec82f30cba20c9fb4fba41e10ec"), looks := true }, kinds := [], alts := [], laidByText := true, laidKinds := [.handle], laidTests := true, laidLooks := .later }
def FnExactEvalCardSaid : Prop := Claim7.holds Tryz.pinned (.plain (OpenSpec.ofChange fnExactEvalSpec)) fnExactEvalCard

/-- THE TIED CARD OF 'laws.FnExactRounds'. -/
def fnExactRoundsCard : Claim7 := { stood := { row := fnExactRoundsRow, standIns := [], harness := (true, "fe6f87afaf392d7064fb9671036ff4de71a76ec82f30cba20c9fb4fba41e10ec"), looks := true }, kinds := [], alts := [], laidByText := true, laidKinds := [.handle], laidTests := true, laidLooks := .later }
def FnExactRoundsCardSaid : Prop := Claim7.holds Tryz.pinned (.plain (OpenSpec.ofChange fnExactRoundsSpec)) fnExactRoundsCard

/-- THE TIED CARD OF 'laws.FnExactDelta'. -/
def fnExactDeltaCard : Claim7 := { stood := { row := fnExactDeltaRow, standIns := [], harness := (true, "fe6f87afaf392d7064fb9671036ff4de71a76ec82f30cba20c9fb4fba41e10ec"), looks := true }, kinds := [], alts := [], laidByText := true, laidKinds := [.handle], laidTests := true, laidLooks := .later }
def FnExactDeltaCardSaid : Prop := Claim7.holds Tryz.pinned (.plain (OpenSpec.ofChange fnExactDeltaSpec)) fnExactDeltaCard

/-- THE SECOND FORM's CARD OF 'laws.FnExactEval'. -/
def fnExactEvalUptoCard : Claim7 := { stood := { row := fnExactEvalUptoRow, standIns := [], harness := (true, "fe6f87afaf392d7064fb9671036ff4de71a76ec82f30cba20c9fb4fba41e10ec"), looks := true }, kinds := [], alts := [], laidByText := true, laidKinds := [.handle], laidTests := true, laidLooks := .later }
def FnExactEvalUptoCardSaid : Prop := Claim7.holds Tryz.pinned (.plain (OpenSpec.upto fnExactEvalSpec)) fnExactEvalUptoCard

/-- THE SECOND FORM's CARD OF 'laws.FnExactRounds'. -/
def fnExactRoundsUptoCard : Claim7 := { stood := { row := fnExactRoundsUptoRow, standIns := [], harness := (true, "fe6f87afaf392d7064fb9671036ff4de71a76ec82f30cba20c9fb4fba41e10ec"), looks := true }, kinds := [], alts := [], laidByText := true, laidKinds := [.handle], laidTests := true, laidLooks := .later }
def FnExactRoundsUptoCardSaid : Prop := Claim7.holds Tryz.pinned (.plain (OpenSpec.upto fnExactRoundsSpec)) fnExactRoundsUptoCard

/-- THE SECOND FORM's CARD OF 'laws.FnExactDelta'. -/
def fnExactDeltaUptoCard : Claim7 := { stood := { row := fnExactDeltaUptoRow, standIns := [], harness := (true, "fe6f87afaf392d7064fb9671036ff4de71a76ec82f30cba20c9fb4fba41e10ec"), looks := true }, kinds := [], alts := [], laidByText := true, laidKinds := [.handle], laidTests := true, laidLooks := .later }
def FnExactDeltaUptoCardSaid : Prop := Claim7.holds Tryz.pinned (.plain (OpenSpec.upto fnExactDeltaSpec)) fnExactDeltaUptoCard
end Rows
end Go.Proofs.YtiidmgchadagbaaGreatDoor
