/-
  DERIVED. GIVEN WITH THE SEED: THE CARDS: each row of YtbcepahpehadeaaGreatDoorRows.lean that lists a variable, with what it lists TIED to the program's text (the seventh form; the later family's looks); each row that meets fmt, with fmt's text TOLD by the authors' own Lean function (tested against real Go, not proved from fmt's source: count such statements apart). THE CARD IS WHAT COUNTS. Prove the row's statement (the work); the ties are given (YtbcepahpehadeaaGreatDoorTie.lean); close each card by the builder's one call (the guide's Derived/Test/ToyasCard.lean, 'card_holds'). Laid BY PROGRAM, IN A SANDBOX (cutbox-door.mjs). By AI agents, Wed Nov 11 2026. No macro, syntax, notation, axiom, sorry.
-/
import Derived.Test.YtbcepahpehadeaaGreatDoorRows
import GoSem.ClaimSeven
namespace Go.Proofs.YtbcepahpehadeaaGreatDoor
namespace Rows

/-- THE TIED CARD OF 'laws.FnExactFactsFit'. -/
def fnExactFactsFitCard : Claim7 := { stood := { row := fnExactFactsFitRow, standIns := [], harness := (true, "1148b5be0ec969cd0891a9710574374bf1f3748879513e99f3f013d46d2f0d10"), looks := true }, kinds := [], alts := [], laidByText := true, laidKinds := [.handle], laidTests := true, laidLooks := .later }
def FnExactFactsFitCardSaid : Prop := Claim7.holds Tryz.pinned (.plain (OpenSpec.ofChange fnExactFactsFitSpec)) fnExactFactsFitCard

/-- THE TIED CARD OF 'laws.FnExactProgNames'. -/
def fnExactProgNamesCard : Claim7 := { stood := { row := fnExactProgNamesRow, standIns := [], harness := (true, "1148b5be0ec969cd0891a9710574374bf1f3748879513e99f3f013d46d2f0d10"), looks := true }, kinds := [], alts := [], laidByText := true, laidKinds := [.handle], laidTests := true, laidLooks := .later }
def FnExactProgNamesCardSaid : Prop := Claim7.holds Tryz.pinned (.plain (OpenSpec.ofChange fnExactProgNamesSpec)) fnExactProgNamesCard

/-- THE TIED CARD OF 'laws.FnExactProgNeeds'. -/
def fnExactProgNeedsCard : Claim7 := { stood := { row := fnExactProgNeedsRow, standIns := [], harness := (true, "1148b5be0ec969cd0891a9710574374bf1f3748879513e99f3f013d46d2f0d10"), looks := true }, kinds := [], alts := [], laidByText := true, laidKinds := [.handle], laidTests := true, laidLooks := .later }
def FnExactProgNeedsCardSaid : Prop := Claim7.holds Tryz.pinned (.plain (OpenSpec.ofChange fnExactProgNeedsSpec)) fnExactProgNeedsCard

/-- THE TIED CARD OF 'laws.FnProgNeeds'. -/
def fnProgNeedsCard : Claim7 := { stood := { row := fnProgNeedsRow, standIns := [], harness := (true, "1148b5be0ec969cd0891a9710574374bf1f3748879513e99f3f013d46d2f0d10"), looks := true }, kinds := [], alts := [], laidByText := true, laidKinds := [.handle], laidTests := true, laidLooks := .later }
def FnProgNeedsCardSaid : Prop := Claim7.holds Tryz.pinned (.plain (OpenSpec.ofChange fnProgNeedsSpec)) fnProgNeedsCard

/-- THE SECOND FORM's CARD OF 'laws.FnExactFactsFit'. -/
def fnExactFactsFitUptoCard : Claim7 := { stood := { row := fnExactFactsFitUptoRow, standIns := [], harness := (true, "1148b5be0ec969cd0891a9710574374bf1f3748879513e99f3f013d46d2f0d10"), looks := true }, kinds := [], alts := [], laidByText := true, laidKinds := [.handle], laidTests := true, laidLooks := .later }
def FnExactFactsFitUptoCardSaid : Prop := Claim7.holds Tryz.pinned (.plain (OpenSpec.upto fnExactFactsFitSpec)) fnExactFactsFitUptoCard

/-- THE SECOND FORM's CARD OF 'laws.FnExactProgNames'. -/
def fnExactProgNamesUptoCard : Claim7 := { stood := { row := fnExactProgNamesUptoRow, standIns := [], harness := (true, "1148b5be0ec969cd0891a9710574374bf1f3748879513e99f3f013d46d2f0d10"), looks := true }, kinds := [], alts := [], laidByText := true, laidKinds := [.handle], laidTests := true, laidLooks := .later }
def FnExactProgNamesUptoCardSaid : Prop := Claim7.holds Tryz.pinned (.plain (OpenSpec.upto fnExactProgNamesSpec)) fnExactProgNamesUptoCard

/-- THE SECOND FORM's CARD OF 'laws.FnExactProgNeeds'. -/
def fnExactProgNeedsUptoCard : Claim7 := { stood := { row := fnExactProgNeedsUptoRow, standIns := [], harness := (true, "1148b5be0ec969cd0891a9710574374bf1f3748879513e99f3f013d46d2f0d10"), looks := true }, kinds := [], alts := [], laidByText := true, laidKinds := [.handle], laidTests := true, laidLooks := .later }
def FnExactProgNeedsUptoCardSaid : Prop := Claim7.holds Tryz.pinned (.plain (OpenSpec.upto fnExactProgNeedsSpec)) fnExactProgNeedsUptoCard

/-- THE SECOND FORM's CARD OF 'laws.FnProgNeeds'. -/
def fnProgNeedsUptoCard : Claim7 := { stood := { row := fnProgNeedsUptoRow, standIns := [], harness := (true, "1148b5be0ec969cd0891a9710574374bf1f3748879513e99f3f013d46d2f0d10"), looks := true }, kinds := [], alts := [], laidByText := true, laidKinds := [.handle], laidTests := true, laidLooks := .later }
def FnProgNeedsUptoCardSaid : Prop := Claim7.holds Tryz.pinned (.plain (OpenSpec.upto fnProgNeedsSpec)) fnProgNeedsUptoCard
end Rows
end Go.Proofs.YtbcepahpehadeaaGreatDoor
