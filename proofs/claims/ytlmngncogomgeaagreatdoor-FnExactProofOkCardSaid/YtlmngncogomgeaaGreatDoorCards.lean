/-
  DERIVED. GIVEN WITH THE SEED: THE CARDS: each row of YtlmngncogomgeaaGreatDoorRows.lean that lists a variable, with what it lists TIED to the program's text (the seventh form; the later family's looks); each row that meets fmt, with fmt's text TOLD by the authors' own Lean function (tested against real Go, not proved from fmt's source: count such statements apart). THE CARD IS WHAT COUNTS. Prove the row's statement (the work); the ties are given (YtlmngncogomgeaaGreatDoorTie.lean); close each card by the builder's one call (the guide's Derived/Test/ToyasCard.lean, 'card_holds'). Laid BY PROGRAM, IN A SANDBOX (cutbox-door.mjs). By AI agents, Wed Nov 11 2026. No macro, syntax, notation, axiom, sorry.
-/
import Derived.Test.YtlmngncogomgeaaGreatDoorRows
import GoSem.ClaimSeven
namespace Go.Proofs.YtlmngncogomgeaaGreatDoor
namespace Rows

/-- THE TIED CARD OF 'laws.FnExactProofOk'. -/
def fnExactProofOkCard : Claim7 := { stood := { row := fnExactProofOkRow, standIns := [], harness := (true, "8a34667bd145f1662f7f9ef8ec2da70531e5f97f67de93823076c2544108aa37"), looks := true }, kinds := [], alts := [], laidByText := true, laidKinds := [.handle], laidTests := true, laidLooks := .later }
def FnExactProofOkCardSaid : Prop := Claim7.holds Tryz.pinned (.plain (OpenSpec.ofChange fnExactProofOkSpec)) fnExactProofOkCard

/-- THE TIED CARD OF 'laws.FnProofOk'. -/
def fnProofOkCard : Claim7 := { stood := { row := fnProofOkRow, standIns := [], harness := (true, "8a34667bd145f1662f7f9ef8ec2da70531e5f97f67de93823076c2544108aa37"), looks := true }, kinds := [], alts := [], laidByText := true, laidKinds := [.handle], laidTests := true, laidLooks := .later }
def FnProofOkCardSaid : Prop := Claim7.holds Tryz.pinned (.plain (OpenSpec.ofChange fnProofOkSpec)) fnProofOkCard

/-- THE TIED CARD OF 'laws.FnProofPut'. -/
def fnProofPutCard : Claim7 := { stood := { row := fnProofPutRow, standIns := [], harness := (true, "8a34667bd145f1662f7f9ef8ec2da70531e5f97f67de93823076c2544108aa37"), looks := true }, kinds := [], alts := [], laidByText := true, laidKinds := [.data, .data, .data], laidTests := true, laidLooks := .later }
def FnProofPutCardSaid : Prop := Claim7.holds Tryz.pinned (.plain (OpenSpec.ofChange fnProofPutSpec)) fnProofPutCard

/-- THE TIED CARD OF 'laws.FnProofRound'. -/
def fnProofRoundCard : Claim7 := { stood := { row := fnProofRoundRow, standIns := [], harness := (true, "8a34667bd145f1662f7f9ef8ec2da70531e5f97f67de93823076c2544108aa37"), looks := true }, kinds := [], alts := [], laidByText := true, laidKinds := [.handle], laidTests := true, laidLooks := .later }
def FnProofRoundCardSaid : Prop := Claim7.holds Tryz.pinned (.plain (OpenSpec.ofChange fnProofRoundSpec)) fnProofRoundCard

/-- THE SECOND FORM's CARD OF 'laws.FnExactProofOk'. -/
def fnExactProofOkUptoCard : Claim7 := { stood := { row := fnExactProofOkUptoRow, standIns := [], harness := (true, "8a34667bd145f1662f7f9ef8ec2da70531e5f97f67de93823076c2544108aa37"), looks := true }, kinds := [], alts := [], laidByText := true, laidKinds := [.handle], laidTests := true, laidLooks := .later }
def FnExactProofOkUptoCardSaid : Prop := Claim7.holds Tryz.pinned (.plain (OpenSpec.upto fnExactProofOkSpec)) fnExactProofOkUptoCard

/-- THE SECOND FORM's CARD OF 'laws.FnProofOk'. -/
def fnProofOkUptoCard : Claim7 := { stood := { row := fnProofOkUptoRow, standIns := [], harness := (true, "8a34667bd145f1662f7f9ef8ec2da70531e5f97f67de93823076c2544108aa37"), looks := true }, kinds := [], alts := [], laidByText := true, laidKinds := [.handle], laidTests := true, laidLooks := .later }
def FnProofOkUptoCardSaid : Prop := Claim7.holds Tryz.pinned (.plain (OpenSpec.upto fnProofOkSpec)) fnProofOkUptoCard

/-- THE SECOND FORM's CARD OF 'laws.FnProofPut'. -/
def fnProofPutUptoCard : Claim7 := { stood := { row := fnProofPutUptoRow, standIns := [], harness := (true, "8a34667bd145f1662f7f9ef8ec2da70531e5f97f67de93823076c2544108aa37"), looks := true }, kinds := [], alts := [], laidByText := true, laidKinds := [.data, .data, .data], laidTests := true, laidLooks := .later }
def FnProofPutUptoCardSaid : Prop := Claim7.holds Tryz.pinned (.plain (OpenSpec.upto fnProofPutSpec)) fnProofPutUptoCard

/-- THE SECOND FORM's CARD OF 'laws.FnProofRound'. -/
def fnProofRoundUptoCard : Claim7 := { stood := { row := fnProofRoundUptoRow, standIns := [], harness := (true, "8a34667bd145f1662f7f9ef8ec2da70531e5f97f67de93823076c2544108aa37"), looks := true }, kinds := [], alts := [], laidByText := true, laidKinds := [.handle], laidTests := true, laidLooks := .later }
def FnProofRoundUptoCardSaid : Prop := Claim7.holds Tryz.pinned (.plain (OpenSpec.upto fnProofRoundSpec)) fnProofRoundUptoCard
end Rows
end Go.Proofs.YtlmngncogomgeaaGreatDoor
