/-
  DERIVED. GIVEN WITH THE SEED: THE CARDS: each row of YtjjfafgaphloaaaGreatDoorRows.lean that lists a variable, with what it lists TIED to the program's text (the seventh form; the later family's looks); each row that meets fmt, with fmt's text TOLD by the authors' own Lean function (tested against real Go, not proved from fmt's source: count such statements apart). THE CARD IS WHAT COUNTS. Prove the row's statement (the work); the ties are given (YtjjfafgaphloaaaGreatDoorTie.lean); close each card by the builder's one call (the guide's Derived/Test/ToyasCard.lean, 'card_holds'). Laid BY PROGRAM, IN A SANDBOX (cutbox-door.mjs). By AI agents, Wed Nov 11 2026. No macro, syntax, notation, axiom, sorry.
-/
import Derived.Test.YtjjfafgaphloaaaGreatDoorRows
import GoSem.ClaimSeven
namespace Go.Proofs.YtjjfafgaphloaaaGreatDoor
namespace Rows

/-- THE TIED CARD OF 'laws.FnOnce'. -/
def fnOnceCard : Claim7 := { stood := { row := fnOnceRow, standIns := [], harness := (true, "77247cf31e1fda2b97211a8508b42220f74c11f83918a0bad80d77ef5c9d3902"), looks := true }, kinds := [], alts := [], laidByText := true, laidKinds := [.handle], laidTests := true, laidLooks := .later }
def FnOnceCardSaid : Prop := Claim7.holds Tryz.pinned (.plain (OpenSpec.ofChange fnOnceSpec)) fnOnceCard

/-- THE TIED CARD OF 'laws.FnExactOnce'. -/
def fnExactOnceCard : Claim7 := { stood := { row := fnExactOnceRow, standIns := [], harness := (true, "77247cf31e1fda2b97211a8508b42220f74c11f83918a0bad80d77ef5c9d3902"), looks := true }, kinds := [], alts := [], laidByText := true, laidKinds := [.handle], laidTests := true, laidLooks := .later }
def FnExactOnceCardSaid : Prop := Claim7.holds Tryz.pinned (.plain (OpenSpec.ofChange fnExactOnceSpec)) fnExactOnceCard

/-- THE SECOND FORM's CARD OF 'laws.FnOnce'. -/
def fnOnceUptoCard : Claim7 := { stood := { row := fnOnceUptoRow, standIns := [], harness := (true, "77247cf31e1fda2b97211a8508b42220f74c11f83918a0bad80d77ef5c9d3902"), looks := true }, kinds := [], alts := [], laidByText := true, laidKinds := [.handle], laidTests := true, laidLooks := .later }
def FnOnceUptoCardSaid : Prop := Claim7.holds Tryz.pinned (.plain (OpenSpec.upto fnOnceSpec)) fnOnceUptoCard

/-- THE SECOND FORM's CARD OF 'laws.FnExactOnce'. -/
def fnExactOnceUptoCard : Claim7 := { stood := { row := fnExactOnceUptoRow, standIns := [], harness := (true, "77247cf31e1fda2b97211a8508b42220f74c11f83918a0bad80d77ef5c9d3902"), looks := true }, kinds := [], alts := [], laidByText := true, laidKinds := [.handle], laidTests := true, laidLooks := .later }
def FnExactOnceUptoCardSaid : Prop := Claim7.holds Tryz.pinned (.plain (OpenSpec.upto fnExactOnceSpec)) fnExactOnceUptoCard
end Rows
end Go.Proofs.YtjjfafgaphloaaaGreatDoor
