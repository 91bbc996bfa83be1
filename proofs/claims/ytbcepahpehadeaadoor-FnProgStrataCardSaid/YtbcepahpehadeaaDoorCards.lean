/-
  DERIVED. GIVEN WITH THE SEED: THE CARDS: each row of YtbcepahpehadeaaDoorRows.lean that lists a variable, with what it lists TIED to the program's text (the seventh form; the later family's looks); each row that meets fmt, with fmt's text TOLD by the authors' own Lean function (tested against real Go, not proved from fmt's source: count such statements apart). THE CARD IS WHAT COUNTS. Prove the row's statement (the work); the ties are given (YtbcepahpehadeaaDoorTie.lean); close each card by the builder's one call (the guide's Derived/Test/ToyasCard.lean, 'card_holds'). Laid BY PROGRAM, IN A SANDBOX (cutbox-door.mjs). By AI agents, Wed Nov 11 2026. No macro, syntax, notation, axiom, sorry.
-/
import Derived.Test.YtbcepahpehadeaaDoorRows
import GoSem.ClaimSeven
namespace Go.Proofs.YtbcepahpehadeaaDoor
namespace Rows

/-- THE TIED CARD OF 'laws.FnExactProgCheck'. -/
def fnExactProgCheckCard : Claim7 := { stood := { row := fnExactProgCheckRow, standIns := [], harness := (true, "b0e742227f2af7ddeca6a04619843787ce2206495e681257309d35e9e3aceced"), looks := true }, kinds := [], alts := [], laidByText := true, laidKinds := [.handle], laidTests := true, laidLooks := .later }
def FnExactProgCheckCardSaid : Prop := Claim7.holds Tryd.pinned (.plain (OpenSpec.ofChange fnExactProgCheckSpec)) fnExactProgCheckCard

/-- THE TIED CARD OF 'laws.FnProgCheck'. -/
def fnProgCheckCard : Claim7 := { stood := { row := fnProgCheckRow, standIns := [], harness := (true, "b0e742227f2af7ddeca6a04619843787ce2206495e681257309d35e9e3aceced"), looks := true }, kinds := [], alts := [], laidByText := true, laidKinds := [.handle], laidTests := true, laidLooks := .later }
def FnProgCheckCardSaid : Prop := Claim7.holds Tryd.pinned (.plain (OpenSpec.ofChange fnProgCheckSpec)) fnProgCheckCard

/-- THE TIED CARD OF 'laws.FnExactProgHeads'. -/
def fnExactProgHeadsCard : Claim7 := { stood := { row := fnExactProgHeadsRow, standIns := [], harness := (true, "b0e742227f2af7ddeca6a04619843787ce2206495e681257309d35e9e3aceced"), looks := true }, kinds := [], alts := [], laidByText := true, laidKinds := [.handle], laidTests := true, laidLooks := .later }
def FnExactProgHeadsCardSaid : Prop := Claim7.holds Tryd.pinned (.plain (OpenSpec.ofChange fnExactProgHeadsSpec)) fnExactProgHeadsCard

/-- THE TIED CARD OF 'laws.FnExactProgStrata'. -/
def fnExactProgStrataCard : Claim7 := { stood := { row := fnExactProgStrataRow, standIns := [], harness := (true, "b0e742227f2af7ddeca6a04619843787ce2206495e681257309d35e9e3aceced"), looks := true }, kinds := [], alts := [], laidByText := true, laidKinds := [.handle], laidTests := true, laidLooks := .later }
def FnExactProgStrataCardSaid : Prop := Claim7.holds Tryd.pinned (.plain (OpenSpec.ofChange fnExactProgStrataSpec)) fnExactProgStrataCard

/-- THE TIED CARD OF 'laws.FnProgStrata'. -/
def fnProgStrataCard : Claim7 := { stood := { row := fnProgStrataRow, standIns := [], harness := (true, "b0e742227f2af7ddeca6a04619843787ce2206495e681257309d35e9e3aceced"), looks := true }, kinds := [], alts := [], laidByText := true, laidKinds := [.handle], laidTests := true, laidLooks := .later }
def FnProgStrataCardSaid : Prop := Claim7.holds Tryd.pinned (.plain (OpenSpec.ofChange fnProgStrataSpec)) fnProgStrataCard

/-- THE SECOND FORM's CARD OF 'laws.FnExactProgCheck'. -/
def fnExactProgCheckUptoCard : Claim7 := { stood := { row := fnExactProgCheckUptoRow, standIns := [], harness := (true, "b0e742227f2af7ddeca6a04619843787ce2206495e681257309d35e9e3aceced"), looks := true }, kinds := [], alts := [], laidByText := true, laidKinds := [.handle], laidTests := true, laidLooks := .later }
def FnExactProgCheckUptoCardSaid : Prop := Claim7.holds Tryd.pinned (.plain (OpenSpec.upto fnExactProgCheckSpec)) fnExactProgCheckUptoCard

/-- THE SECOND FORM's CARD OF 'laws.FnProgCheck'. -/
def fnProgCheckUptoCard : Claim7 := { stood := { row := fnProgCheckUptoRow, standIns := [], harness := (true, "b0e742227f2af7ddeca6a04619843787ce2206495e681257309d35e9e3aceced"), looks := true }, kinds := [], alts := [], laidByText := true, laidKinds := [.handle], laidTests := true, laidLooks := .later }
def FnProgCheckUptoCardSaid : Prop := Claim7.holds Tryd.pinned (.plain (OpenSpec.upto fnProgCheckSpec)) fnProgCheckUptoCard

/-- THE SECOND FORM's CARD OF 'laws.FnExactProgHeads'. -/
def fnExactProgHeadsUptoCard : Claim7 := { stood := { row := fnExactProgHeadsUptoRow, standIns := [], harness := (true, "b0e742227f2af7ddeca6a04619843787ce2206495e681257309d35e9e3aceced"), looks := true }, kinds := [], alts := [], laidByText := true, laidKinds := [.handle], laidTests := true, laidLooks := .later }
def FnExactProgHeadsUptoCardSaid : Prop := Claim7.holds Tryd.pinned (.plain (OpenSpec.upto fnExactProgHeadsSpec)) fnExactProgHeadsUptoCard

/-- THE SECOND FORM's CARD OF 'laws.FnExactProgStrata'. -/
def fnExactProgStrataUptoCard : Claim7 := { stood := { row := fnExactProgStrataUptoRow, standIns := [], harness := (true, "b0e742227f2af7ddeca6a04619843787ce2206495e681257309d35e9e3aceced"), looks := true }, kinds := [], alts := [], laidByText := true, laidKinds := [.handle], laidTests := true, laidLooks := .later }
def FnExactProgStrataUptoCardSaid : Prop := Claim7.holds Tryd.pinned (.plain (OpenSpec.upto fnExactProgStrataSpec)) fnExactProgStrataUptoCard

/-- THE SECOND FORM's CARD OF 'laws.FnProgStrata'. -/
def fnProgStrataUptoCard : Claim7 := { stood := { row := fnProgStrataUptoRow, standIns := [], harness := (true, "b0e742227f2af7ddeca6a04619843787ce2206495e681257309d35e9e3aceced"), looks := true }, kinds := [], alts := [], laidByText := true, laidKinds := [.handle], laidTests := true, laidLooks := .later }
def FnProgStrataUptoCardSaid : Prop := Claim7.holds Tryd.pinned (.plain (OpenSpec.upto fnProgStrataSpec)) fnProgStrataUptoCard
end Rows
end Go.Proofs.YtbcepahpehadeaaDoor
