/-
  NARROWER THAN 'FOR EVERY INPUT', by the rows' own cells (each row's printed sentence says how): FnExactProgCheck: laid · FnProgCheck: laid · FnExactProgHeads: laid · FnExactProgStrata: laid · FnProgStrata: laid.
  DERIVED. THE GIVEN ROWS OF THIS SEAT. 5 by the template 'for every input the law returns true; each argument reads behind the call as it read before'; 0 by the template 'total and deterministic' (their statements: YtbcepahpehadeaaDoorTotals.lean).
  GIVEN WITH THE SEED: the statements are not yours to turn. If you find one false, say at which input.
  Laid BY PROGRAM, IN A SANDBOX (cutbox-rows.mjs): the forced cells as the released guide's own fill.sh prints them over the translation 8913bc9aaa8882e9… (all of the seat's roots in one cut). By AI agents, Wed Nov 11 2026. No macro, syntax, notation, axiom, sorry.
-/
import Derived.Test.YtbcepahpehadeaaDoorChecked
import GoSem.Claim
import GoSem.ClaimJoined
import GoSem.ClaimMapViews
import Derived.JoinedTies
import Derived.KernelRfl
namespace Go.Proofs.YtbcepahpehadeaaDoor
/- THE CELL 'sum', in the pinned program and in every row, IS THE sha256 OF THE DUMP (.gsa) THAT YtbcepahpehadeaaDoorProg.lean LOADS. Nothing in Lean hashes anything: it is a label: what it is worth is what the hold of that sum in a sandbox is worth. -/
noncomputable def Tryd.pinned : Pinned := { name := "ytbcepahpehadeaadoor", sum := "8913bc9aaa8882e962ab3c77198020e4dbdd9a3fb859917ecf9881d765f60254", checked := Tryd.checked }
namespace Rows
def none {H : Type} : Left H := { results := [], args := [] }

/- WHAT THE LISTED PACKAGE-LEVEL VARIABLES READ AS WHEN THE CALL BEGINS. Each datum BY PROGRAM (the guide's laid-datum.mjs) off the statement by which the dump's own 'gosem.cut.vars' lays the variable. In a bare row this is a premise. The card (YtbcepahpehadeaaDoorCards.lean) ties it to the program's text. -/
def laid_errors_errorType {H : Type} : DataW H := .iface "internal/reflectlite.rtype" (.agg [.ptr (.lit (.string [101, 114, 114, 111, 114]))])

/-- 'laws.FnExactProgCheck': WHATEVER THE INPUT: true; the input reads as it did. -/
def fnExactProgCheckSpec : ChangeSpec := { name := "fnExactProgCheck", fn := fun _ => fun
  | [d] => { results := [.lit (.bool true)], args := [d] }
  | _ => none }
def fnExactProgCheckRow : OpenClaim := { program := "ytbcepahpehadeaadoor", sum := "8913bc9aaa8882e962ab3c77198020e4dbdd9a3fb859917ecf9881d765f60254", func := "loop.example/springhead/laws.FnExactProgCheck", spec := "fnExactProgCheck", inPlace := ["internal/reflectlite.ValueOf", "(internal/reflectlite.Value).Type", "(internal/reflectlite.Value).IsNil", "internal/reflectlite.TypeOf", "(internal/reflectlite.Value).Elem", "(internal/reflectlite.Value).Set"], unfollowed := true, recurses := true, named := ["errors.errorType"], apart := false, laid := [("errors.errorType", laid_errors_errorType)] }
def FnExactProgCheckSaid : Prop := fnExactProgCheckRow.holds Tryd.pinned (OpenSpec.ofChange fnExactProgCheckSpec)

/-- ITS FALSE NEIGHBOUR: 'it returns false'. Refute it at one input. -/
def fnExactProgCheckWrong : ChangeSpec := { name := "fnExactProgCheck", fn := fun _ => fun
  | [d] => { results := [.lit (.bool false)], args := [d] }
  | _ => none }
def FnExactProgCheckWrongFalsely : Prop := fnExactProgCheckRow.holds Tryd.pinned (OpenSpec.ofChange fnExactProgCheckWrong)

/-- 'laws.FnProgCheck': WHATEVER THE INPUT: true; the input reads as it did. -/
def fnProgCheckSpec : ChangeSpec := { name := "fnProgCheck", fn := fun _ => fun
  | [d] => { results := [.lit (.bool true)], args := [d] }
  | _ => none }
def fnProgCheckRow : OpenClaim := { program := "ytbcepahpehadeaadoor", sum := "8913bc9aaa8882e962ab3c77198020e4dbdd9a3fb859917ecf9881d765f60254", func := "loop.example/springhead/laws.FnProgCheck", spec := "fnProgCheck", inPlace := ["internal/reflectlite.ValueOf", "(internal/reflectlite.Value).Type", "(internal/reflectlite.Value).IsNil", "internal/reflectlite.TypeOf", "(internal/reflectlite.Value).Elem", "(internal/reflectlite.Value).Set"], unfollowed := true, recurses := true, named := ["errors.errorType"], apart := false, laid := [("errors.errorType", laid_errors_errorType)] }
def FnProgCheckSaid : Prop := fnProgCheckRow.holds Tryd.pinned (OpenSpec.ofChange fnProgCheckSpec)

/-- ITS FALSE NEIGHBOUR: 'it returns false'. Refute it at one input. -/
def fnProgCheckWrong : ChangeSpec := { name := "fnProgCheck", fn := fun _ => fun
  | [d] => { results := [.lit (.bool false)], args := [d] }
  | _ => none }
def FnProgCheckWrongFalsely : Prop := fnProgCheckRow.holds Tryd.pinned (OpenSpec.ofChange fnProgCheckWrong)

/-- 'laws.FnExactProgHeads': WHATEVER THE INPUT: true; the input reads as it did. -/
def fnExactProgHeadsSpec : ChangeSpec := { name := "fnExactProgHeads", fn := fun _ => fun
  | [d1, d2] => { results := [.lit (.bool true)], args := [d1, d2] }
  | _ => none }
def fnExactProgHeadsRow : OpenClaim := { program := "ytbcepahpehadeaadoor", sum := "8913bc9aaa8882e962ab3c77198020e4dbdd9a3fb859917ecf9881d765f60254", func := "loop.example/springhead/laws.FnExactProgHeads", spec := "fnExactProgHeads", inPlace := ["internal/reflectlite.ValueOf", "(internal/reflectlite.Value).Type", "(internal/reflectlite.Value).IsNil", "internal/reflectlite.TypeOf", "(internal/reflectlite.Value).Elem", "(internal/reflectlite.Value).Set"], unfollowed := true, recurses := true, named := ["errors.errorType"], apart := false, laid := [("errors.errorType", laid_errors_errorType)] }
def FnExactProgHeadsSaid : Prop := fnExactProgHeadsRow.holds Tryd.pinned (OpenSpec.ofChange fnExactProgHeadsSpec)

/-- ITS FALSE NEIGHBOUR: 'it returns false'. Refute it at one input. -/
def fnExactProgHeadsWrong : ChangeSpec := { name := "fnExactProgHeads", fn := fun _ => fun
  | [d1, d2] => { results := [.lit (.bool false)], args := [d1, d2] }
  | _ => none }
def FnExactProgHeadsWrongFalsely : Prop := fnExactProgHeadsRow.holds Tryd.pinned (OpenSpec.ofChange fnExactProgHeadsWrong)

/-- 'laws.FnExactProgStrata': WHATEVER THE INPUT: true; the input reads as it did. -/
def fnExactProgStrataSpec : ChangeSpec := { name := "fnExactProgStrata", fn := fun _ => fun
  | [d] => { results := [.lit (.bool true)], args := [d] }
  | _ => none }
def fnExactProgStrataRow : OpenClaim := { program := "ytbcepahpehadeaadoor", sum := "8913bc9aaa8882e962ab3c77198020e4dbdd9a3fb859917ecf9881d765f60254", func := "loop.example/springhead/laws.FnExactProgStrata", spec := "fnExactProgStrata", inPlace := ["internal/reflectlite.ValueOf", "(internal/reflectlite.Value).Type", "(internal/reflectlite.Value).IsNil", "internal/reflectlite.TypeOf", "(internal/reflectlite.Value).Elem", "(internal/reflectlite.Value).Set"], unfollowed := true, recurses := true, named := ["errors.errorType"], apart := false, laid := [("errors.errorType", laid_errors_errorType)] }
def FnExactProgStrataSaid : Prop := fnExactProgStrataRow.holds Tryd.pinned (OpenSpec.ofChange fnExactProgStrataSpec)

/-- ITS FALSE NEIGHBOUR: 'it returns false'. Refute it at one input. -/
def fnExactProgStrataWrong : ChangeSpec := { name := "fnExactProgStrata", fn := fun _ => fun
  | [d] => { results := [.lit (.bool false)], args := [d] }
  | _ => none }
def FnExactProgStrataWrongFalsely : Prop := fnExactProgStrataRow.holds Tryd.pinned (OpenSpec.ofChange fnExactProgStrataWrong)

/-- 'laws.FnProgStrata': WHATEVER THE INPUT: true; the input reads as it did. -/
def fnProgStrataSpec : ChangeSpec := { name := "fnProgStrata", fn := fun _ => fun
  | [d] => { results := [.lit (.bool true)], args := [d] }
  | _ => none }
def fnProgStrataRow : OpenClaim := { program := "ytbcepahpehadeaadoor", sum := "8913bc9aaa8882e962ab3c77198020e4dbdd9a3fb859917ecf9881d765f60254", func := "loop.example/springhead/laws.FnProgStrata", spec := "fnProgStrata", inPlace := ["internal/reflectlite.ValueOf", "(internal/reflectlite.Value).Type", "(internal/reflectlite.Value).IsNil", "internal/reflectlite.TypeOf", "(internal/reflectlite.Value).Elem", "(internal/reflectlite.Value).Set"], unfollowed := true, recurses := true, named := ["errors.errorType"], apart := false, laid := [("errors.errorType", laid_errors_errorType)] }
def FnProgStrataSaid : Prop := fnProgStrataRow.holds Tryd.pinned (OpenSpec.ofChange fnProgStrataSpec)

/-- ITS FALSE NEIGHBOUR: 'it returns false'. Refute it at one input. -/
def fnProgStrataWrong : ChangeSpec := { name := "fnProgStrata", fn := fun _ => fun
  | [d] => { results := [.lit (.bool false)], args := [d] }
  | _ => none }
def FnProgStrataWrongFalsely : Prop := fnProgStrataRow.holds Tryd.pinned (OpenSpec.ofChange fnProgStrataWrong)

/- THE SECOND FORM. 'bulk': how many values and letters a reading holds, each counted each time it is reached (what is shared counts as often as it is met; a slice's spare places count too). A statement '..UptoSaid' is the law's where the arguments, and the package variables that the reading takes, are together of bulk at most 1048576: NARROWER than '..Said'. Prove '..Said' where nothing that the law and all that it calls make is longer than what came in: it says more and counts as full. Else prove '..UptoSaid'. A law counts once. -/
mutual
def uptoBulk {H : Type} : DataW H → Nat
  | .lit (.string bytes) => bytes.length + 1
  | .lit _ => 1
  | .nil => 1
  | .ptr d => uptoBulk d + 1
  | .slice elems spare => uptoBulkAll elems + uptoBulkAll spare + 1
  | .agg parts => uptoBulkAll parts + 1
  | .iface _ d => uptoBulk d + 1
  | .map entries => uptoBulkEntries entries + 1
  | .held _ => 1
def uptoBulkAll {H : Type} : List (DataW H) → Nat
  | [] => 0
  | d :: r => uptoBulk d + uptoBulkAll r
def uptoBulkEntries {H : Type} : List (Lit × DataW H) → Nat
  | [] => 0
  | x :: r => uptoBulkEntry x + uptoBulkEntries r
def uptoBulkEntry {H : Type} : Lit × DataW H → Nat
  | (.string bytes, d) => bytes.length + uptoBulk d + 1
  | (_, d) => uptoBulk d + 1
 end
def uptoSmall : (H : Type) → List (DataW H) → Bool := fun _ ds => decide (uptoBulkAll ds ≤ 1048576)
def OpenSpec.upto (s : _root_.Go.ChangeSpec) : _root_.Go.OpenSpec := { _root_.Go.OpenSpec.ofChange s with cond := some uptoSmall }

/-- 'laws.FnExactProgCheck', WHERE WHAT IT READS IS OF BULK AT MOST 1048576: true; the input reads as it did. -/
def fnExactProgCheckUptoRow : OpenClaim := { program := "ytbcepahpehadeaadoor", sum := "8913bc9aaa8882e962ab3c77198020e4dbdd9a3fb859917ecf9881d765f60254", func := "loop.example/springhead/laws.FnExactProgCheck", spec := "fnExactProgCheck", inPlace := ["internal/reflectlite.ValueOf", "(internal/reflectlite.Value).Type", "(internal/reflectlite.Value).IsNil", "internal/reflectlite.TypeOf", "(internal/reflectlite.Value).Elem", "(internal/reflectlite.Value).Set"], unfollowed := true, recurses := true, named := ["errors.errorType"], apart := false, laid := [("errors.errorType", laid_errors_errorType)], narrowed := true }
def FnExactProgCheckUptoSaid : Prop := fnExactProgCheckUptoRow.holds Tryd.pinned (OpenSpec.upto fnExactProgCheckSpec)

/-- 'laws.FnProgCheck', WHERE WHAT IT READS IS OF BULK AT MOST 1048576: true; the input reads as it did. -/
def fnProgCheckUptoRow : OpenClaim := { program := "ytbcepahpehadeaadoor", sum := "8913bc9aaa8882e962ab3c77198020e4dbdd9a3fb859917ecf9881d765f60254", func := "loop.example/springhead/laws.FnProgCheck", spec := "fnProgCheck", inPlace := ["internal/reflectlite.ValueOf", "(internal/reflectlite.Value).Type", "(internal/reflectlite.Value).IsNil", "internal/reflectlite.TypeOf", "(internal/reflectlite.Value).Elem", "(internal/reflectlite.Value).Set"], unfollowed := true, recurses := true, named := ["errors.errorType"], apart := false, laid := [("errors.errorType", laid_errors_errorType)], narrowed := true }
def FnProgCheckUptoSaid : Prop := fnProgCheckUptoRow.holds Tryd.pinned (OpenSpec.upto fnProgCheckSpec)

/-- 'laws.FnExactProgHeads', WHERE WHAT IT READS IS OF BULK AT MOST 1048576: true; the input reads as it did. -/
def fnExactProgHeadsUptoRow : OpenClaim := { program := "ytbcepahpehadeaadoor", sum := "8913bc9aaa8882e962ab3c77198020e4dbdd9a3fb859917ecf9881d765f60254", func := "loop.example/springhead/laws.FnExactProgHeads", spec := "fnExactProgHeads", inPlace := ["internal/reflectlite.ValueOf", "(internal/reflectlite.Value).Type", "(internal/reflectlite.Value).IsNil", "internal/reflectlite.TypeOf", "(internal/reflectlite.Value).Elem", "(internal/reflectlite.Value).Set"], unfollowed := true, recurses := true, named := ["errors.errorType"], apart := false, laid := [("errors.errorType", laid_errors_errorType)], narrowed := true }
def FnExactProgHeadsUptoSaid : Prop := fnExactProgHeadsUptoRow.holds Tryd.pinned (OpenSpec.upto fnExactProgHeadsSpec)

/-- 'laws.FnExactProgStrata', WHERE WHAT IT READS IS OF BULK AT MOST 1048576: true; the input reads as it did. -/
def fnExactProgStrataUptoRow : OpenClaim := { program := "ytbcepahpehadeaadoor", sum := "8913bc9aaa8882e962ab3c77198020e4dbdd9a3fb859917ecf9881d765f60254", func := "loop.example/springhead/laws.FnExactProgStrata", spec := "fnExactProgStrata", inPlace := ["internal/reflectlite.ValueOf", "(internal/reflectlite.Value).Type", "(internal/reflectlite.Value).IsNil", "internal/reflectlite.TypeOf", "(internal/reflectlite.Value).Elem", "(internal/reflectlite.Value).Set"], unfollowed := true, recurses := true, named := ["errors.errorType"], apart := false, laid := [("errors.errorType", laid_errors_errorType)], narrowed := true }
def FnExactProgStrataUptoSaid : Prop := fnExactProgStrataUptoRow.holds Tryd.pinned (OpenSpec.upto fnExactProgStrataSpec)

/-- 'laws.FnProgStrata', WHERE WHAT IT READS IS OF BULK AT MOST 1048576: true; the input reads as it did. -/
def fnProgStrataUptoRow : OpenClaim := { program := "ytbcepahpehadeaadoor", sum := "8913bc9aaa8882e962ab3c77198020e4dbdd9a3fb859917ecf9881d765f60254", func := "loop.example/springhead/laws.FnProgStrata", spec := "fnProgStrata", inPlace := ["internal/reflectlite.ValueOf", "(internal/reflectlite.Value).Type", "(internal/reflectlite.Value).IsNil", "internal/reflectlite.TypeOf", "(internal/reflectlite.Value).Elem", "(internal/reflectlite.Value).Set"], unfollowed := true, recurses := true, named := ["errors.errorType"], apart := false, laid := [("errors.errorType", laid_errors_errorType)], narrowed := true }
def FnProgStrataUptoSaid : Prop := fnProgStrataUptoRow.holds Tryd.pinned (OpenSpec.upto fnProgStrataSpec)

end Rows
end Go.Proofs.YtbcepahpehadeaaDoor
