/-
  DERIVED. GIVEN WITH THE SEED: THE CARDS: each row of YtkjinanbccloeaaGreatDoorRows.lean that lists a variable, with what it lists TIED to the program's text (the seventh form; the later family's looks); each row that meets fmt, with fmt's text TOLD by the authors' own Lean function (tested against real Go, not proved from fmt's source: count such statements apart). THE CARD IS WHAT COUNTS. Prove the row's statement (the work); the ties are given (YtkjinanbccloeaaGreatDoorTie.lean); close each card by the builder's one call (the guide's Derived/Test/ToyasCard.lean, 'card_holds'). Laid BY PROGRAM, IN A SANDBOX (cutbox-door.mjs). By AI agents, Wed Nov 11 2026. No macro, syntax, notation, axiom, sorry.
-/
import Derived.Test.YtkjinanbccloeaaGreatDoorRows
import GoSem.ClaimSeven
namespace Go.Proofs.YtkjinanbccloeaaGreatDoor
namespace Rows

/-- THE TIED CARD OF 'laws.FnEval'. -/
def fnEvalCard : Claim7 := { stood := { row := fnEvalRow, standIns := [], harness := (true, "972a932519fa715ca83c192890910983cbf2c45aa5e4d223727d54920ac30e97"), looks := true }, kinds := [], alts := [], laidByText := true, laidKinds := [.handle], laidTests := true, laidLooks := .later }
def FnEvalCardSaid : Prop := Claim7.holds Tryz.pinned (.plain (OpenSpec.ofChange fnEvalSpec)) fnEvalCard

/-- THE TIED CARD OF 'laws.FnEvalOrder'. -/
def fnEvalOrderCard : Claim7 := { stood := { row := fnEvalOrderRow, standIns := [], harness := (true, "972a932519fa715ca83c192890910983cbf2c45aa5e4d223727d54920ac30e97"), looks := true }, kinds := [], alts := [], laidByText := true, laidKinds := [.handle], laidTests := true, laidLooks := .later }
def FnEvalOrderCardSaid : Prop := Claim7.holds Tryz.pinned (.plain (OpenSpec.ofChange fnEvalOrderSpec)) fnEvalOrderCard

/-- THE TIED CARD OF 'laws.FnEvalMore'. -/
def fnEvalMoreCard : Claim7 := { stood := { row := fnEvalMoreRow, standIns := [], harness := (true, "972a932519fa715ca83c192890910983cbf2c45aa5e4d223727d54920ac30e97"), looks := true }, kinds := [], alts := [], laidByText := true, laidKinds := [.handle], laidTests := true, laidLooks := .later }
def FnEvalMoreCardSaid : Prop := Claim7.holds Tryz.pinned (.plain (OpenSpec.ofChange fnEvalMoreSpec)) fnEvalMoreCard

/-- THE TIED CARD OF 'laws.FnEvalNeeds'. -/
def fnEvalNeedsCard : Claim7 := { stood := { row := fnEvalNeedsRow, standIns := [], harness := (true, "972a932519fa715ca83c192890910983cbf2c45aa5e4d223727d54920ac30e97"), looks := true }, kinds := [], alts := [], laidByText := true, laidKinds := [.handle], laidTests := true, laidLooks := .later }
def FnEvalNeedsCardSaid : Prop := Claim7.holds Tryz.pinned (.plain (OpenSpec.ofChange fnEvalNeedsSpec)) fnEvalNeedsCard

/-- THE TIED CARD OF 'laws.FnEvalOnly'. -/
def fnEvalOnlyCard : Claim7 := { stood := { row := fnEvalOnlyRow, standIns := [], harness := (true, "972a932519fa715ca83c192890910983cbf2c45aa5e4d223727d54920ac30e97"), looks := true }, kinds := [], alts := [], laidByText := true, laidKinds := [.handle], laidTests := true, laidLooks := .later }
def FnEvalOnlyCardSaid : Prop := Claim7.holds Tryz.pinned (.plain (OpenSpec.ofChange fnEvalOnlySpec)) fnEvalOnlyCard

/-- THE TIED CARD OF 'laws.FnDelta'. -/
def fnDeltaCard : Claim7 := { stood := { row := fnDeltaRow, standIns := [], harness := (true, "972a932519fa715ca83c192890910983cbf2c45aa5e4d223727d54920ac30e97"), looks := true }, kinds := [], alts := [], laidByText := true, laidKinds := [.handle], laidTests := true, laidLooks := .later }
def FnDeltaCardSaid : Prop := Claim7.holds Tryz.pinned (.plain (OpenSpec.ofChange fnDeltaSpec)) fnDeltaCard

/-- THE TIED CARD OF 'laws.FnDeltaBoth'. -/
def fnDeltaBothCard : Claim7 := { stood := { row := fnDeltaBothRow, standIns := [], harness := (true, "972a932519fa715ca83c192890910983cbf2c45aa5e4d223727d54920ac30e97"), looks := true }, kinds := [], alts := [], laidByText := true, laidKinds := [.handle], laidTests := true, laidLooks := .later }
def FnDeltaBothCardSaid : Prop := Claim7.holds Tryz.pinned (.plain (OpenSpec.ofChange fnDeltaBothSpec)) fnDeltaBothCard

/-- THE TIED CARD OF 'laws.FnDeltaNeeds'. -/
def fnDeltaNeedsCard : Claim7 := { stood := { row := fnDeltaNeedsRow, standIns := [], harness := (true, "972a932519fa715ca83c192890910983cbf2c45aa5e4d223727d54920ac30e97"), looks := true }, kinds := [], alts := [], laidByText := true, laidKinds := [.handle], laidTests := true, laidLooks := .later }
def FnDeltaNeedsCardSaid : Prop := Claim7.holds Tryz.pinned (.plain (OpenSpec.ofChange fnDeltaNeedsSpec)) fnDeltaNeedsCard

/-- THE TIED CARD OF 'laws.FnExactProofOk'. -/
def fnExactProofOkCard : Claim7 := { stood := { row := fnExactProofOkRow, standIns := [], harness := (true, "972a932519fa715ca83c192890910983cbf2c45aa5e4d223727d54920ac30e97"), looks := true }, kinds := [], alts := [], laidByText := true, laidKinds := [.handle], laidTests := true, laidLooks := .later }
def FnExactProofOkCardSaid : Prop := Claim7.holds Tryz.pinned (.plain (OpenSpec.ofChange fnExactProofOkSpec)) fnExactProofOkCard

/-- THE SECOND FORM's CARD OF 'laws.FnEval'. -/
def fnEvalUptoCard : Claim7 := { stood := { row := fnEvalUptoRow, standIns := [], harness := (true, "972a932519fa715ca83c192890910983cbf2c45aa5e4d223727d54920ac30e97"), looks := true }, kinds := [], alts := [], laidByText := true, laidKinds := [.handle], laidTests := true, laidLooks := .later }
def FnEvalUptoCardSaid : Prop := Claim7.holds Tryz.pinned (.plain (OpenSpec.upto fnEvalSpec)) fnEvalUptoCard

/-- THE SECOND FORM's CARD OF 'laws.FnEvalOrder'. -/
def fnEvalOrderUptoCard : Claim7 := { stood := { row := fnEvalOrderUptoRow, standIns := [], harness := (true, "972a932519fa715ca83c192890910983cbf2c45aa5e4d223727d54920ac30e97"), looks := true }, kinds := [], alts := [], laidByText := true, laidKinds := [.handle], laidTests := true, laidLooks := .later }
def FnEvalOrderUptoCardSaid : Prop := Claim7.holds Tryz.pinned (.plain (OpenSpec.upto fnEvalOrderSpec)) fnEvalOrderUptoCard

/-- THE SECOND FORM's CARD OF 'laws.FnEvalMore'. -/
def fnEvalMoreUptoCard : Claim7 := { stood := { row := fnEvalMoreUptoRow, standIns := [], harness := (true, "972a932519fa715ca83c192890910983cbf2c45aa5e4d223727d54920ac30e97"), looks := true }, kinds := [], alts := [], laidByText := true, laidKinds := [.handle], laidTests := true, laidLooks := .later }
def FnEvalMoreUptoCardSaid : Prop := Claim7.holds Tryz.pinned (.plain (OpenSpec.upto fnEvalMoreSpec)) fnEvalMoreUptoCard

/-- THE SECOND FORM's CARD OF 'laws.FnEvalNeeds'. -/
def fnEvalNeedsUptoCard : Claim7 := { stood := { row := fnEvalNeedsUptoRow, standIns := [], harness := (true, "972a932519fa715ca83c192890910983cbf2c45aa5e4d223727d54920ac30e97"), looks := true }, kinds := [], alts := [], laidByText := true, laidKinds := [.handle], laidTests := true, laidLooks := .later }
def FnEvalNeedsUptoCardSaid : Prop := Claim7.holds Tryz.pinned (.plain (OpenSpec.upto fnEvalNeedsSpec)) fnEvalNeedsUptoCard

/-- THE SECOND FORM's CARD OF 'laws.FnEvalOnly'. -/
def fnEvalOnlyUptoCard : Claim7 := { stood := { row := fnEvalOnlyUptoRow, standIns := [], harness := (true, "972a932519fa715ca83c192890910983cbf2c45aa5e4d223727d54920ac30e97"), looks := true }, kinds := [], alts := [], laidByText := true, laidKinds := [.handle], laidTests := true, laidLooks := .later }
def FnEvalOnlyUptoCardSaid : Prop := Claim7.holds Tryz.pinned (.plain (OpenSpec.upto fnEvalOnlySpec)) fnEvalOnlyUptoCard

/-- THE SECOND FORM's CARD OF 'laws.FnDelta'. -/
def fnDeltaUptoCard : Claim7 := { stood := { row := fnDeltaUptoRow, standIns := [], harness := (true, "972a932519fa715ca83c192890910983cbf2c45aa5e4d223727d54920ac30e97"), looks := true }, kinds := [], alts := [], laidByText := true, laidKinds := [.handle], laidTests := true, laidLooks := .later }
def FnDeltaUptoCardSaid : Prop := Claim7.holds Tryz.pinned (.plain (OpenSpec.upto fnDeltaSpec)) fnDeltaUptoCard

/-- THE SECOND FORM's CARD OF 'laws.FnDeltaBoth'. -/
def fnDeltaBothUptoCard : Claim7 := { stood := { row := fnDeltaBothUptoRow, standIns := [], harness := (true, "972a932519fa715ca83c192890910983cbf2c45aa5e4d223727d54920ac30e97"), looks := true }, kinds := [], alts := [], laidByText := true, laidKinds := [.handle], laidTests := true, laidLooks := .later }
def FnDeltaBothUptoCardSaid : Prop := Claim7.holds Tryz.pinned (.plain (OpenSpec.upto fnDeltaBothSpec)) fnDeltaBothUptoCard

/-- THE SECOND FORM's CARD OF 'laws.FnDeltaNeeds'. -/
def fnDeltaNeedsUptoCard : Claim7 := { stood := { row := fnDeltaNeedsUptoRow, standIns := [], harness := (true, "972a932519fa715ca83c192890910983cbf2c45aa5e4d223727d54920ac30e97"), looks := true }, kinds := [], alts := [], laidByText := true, laidKinds := [.handle], laidTests := true, laidLooks := .later }
def FnDeltaNeedsUptoCardSaid : Prop := Claim7.holds Tryz.pinned (.plain (OpenSpec.upto fnDeltaNeedsSpec)) fnDeltaNeedsUptoCard

/-- THE SECOND FORM's CARD OF 'laws.FnExactProofOk'. -/
def fnExactProofOkUptoCard : Claim7 := { stood := { row := fnExactProofOkUptoRow, standIns := [], harness := (true, "972a932519fa715ca83c192890910983cbf2c45aa5e4d223727d54920ac30e97"), looks := true }, kinds := [], alts := [], laidByText := true, laidKinds := [.handle], laidTests := true, laidLooks := .later }
def FnExactProofOkUptoCardSaid : Prop := Claim7.holds Tryz.pinned (.plain (OpenSpec.upto fnExactProofOkSpec)) fnExactProofOkUptoCard
end Rows
end Go.Proofs.YtkjinanbccloeaaGreatDoor
