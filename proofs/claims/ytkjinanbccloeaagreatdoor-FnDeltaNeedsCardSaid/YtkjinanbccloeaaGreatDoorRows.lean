/-
  NARROWER THAN 'FOR EVERY INPUT', by the rows' own cells (each row's printed sentence says how): FnEval: laid · FnEvalOrder: laid · FnEvalMore: laid · FnEvalNeeds: laid · FnEvalOnly: laid · FnDelta: laid · FnDeltaBoth: laid · FnDeltaNeeds: laid · FnExactProofOk: loops, laid.
  DERIVED. THE GIVEN ROWS OF THIS SEAT. 9 by the template 'for every input the law returns true; each argument reads behind the call as it read before'; 0 by the template 'total and deterministic' (their statements: YtkjinanbccloeaaGreatDoorTotals.lean).
  GIVEN WITH THE SEED: the statements are not yours to turn. If you find one false, say at which input.
  Laid BY PROGRAM, IN A SANDBOX (cutbox-rows.mjs): the forced cells as the released guide's own fill.sh prints them over the translation 955c8795881b4f9d… (all of the seat's roots in one cut). By AI agents, Wed Nov 11 2026. No macro, syntax, notation, axiom, sorry.
-/
import Derived.Test.YtkjinanbccloeaaGreatDoorChecked
import GoSem.Claim
import GoSem.ClaimJoined
import GoSem.ClaimMapViews
import Derived.JoinedTies
import Derived.KernelRfl
namespace Go.Proofs.YtkjinanbccloeaaGreatDoor
/- THE CELL 'sum', in the pinned program and in every row, IS THE sha256 OF THE DUMP (.gsa) THAT YtkjinanbccloeaaGreatDoorProg.lean LOADS. Nothing in Lean hashes anything: it is a label: what it is worth is what the hold of that sum in a sandbox is worth. -/
noncomputable def Tryz.pinned : Pinned := { name := "ytkjinanbccloeaagreatdoor", sum := "955c8795881b4f9db27859aac5778195cb55fe6c663b2e07928ae1fa9555d239", checked := Tryz.checked }
namespace Rows
def none {H : Type} : Left H := { results := [], args := [] }

/- WHAT THE LISTED PACKAGE-LEVEL VARIABLES READ AS WHEN THE CALL BEGINS. Each datum BY PROGRAM (the guide's laid-datum.mjs) off the statement by which the dump's own 'gosem.cut.vars' lays the variable. In a bare row this is a premise. The card (YtkjinanbccloeaaGreatDoorCards.lean) ties it to the program's text. -/
def laid_errors_errorType {H : Type} : DataW H := .iface "internal/reflectlite.rtype" (.agg [.ptr (.lit (.string [101, 114, 114, 111, 114]))])

/-- 'laws.FnEval': WHATEVER THE INPUT: true; the input reads as it did. -/
def fnEvalSpec : ChangeSpec := { name := "fnEval", fn := fun _ => fun
  | [d] => { results := [.lit (.bool true)], args := [d] }
  | _ => none }
def fnEvalRow : OpenClaim := { program := "ytkjinanbccloeaagreatdoor", sum := "955c8795881b4f9db27859aac5778195cb55fe6c663b2e07928ae1fa9555d239", func := "loop.example/springhead/laws.FnEval", spec := "fnEval", inPlace := ["internal/reflectlite.ValueOf", "(internal/reflectlite.Value).Type", "(internal/reflectlite.Value).IsNil", "internal/reflectlite.TypeOf", "(internal/reflectlite.Value).Elem", "(internal/reflectlite.Value).Set", "internal/bytealg.abigen_runtime_cmpstring", "internal/abi.NoEscape"], unfollowed := true, recurses := true, named := ["errors.errorType"], plainKeys := false, apart := false, laid := [("errors.errorType", laid_errors_errorType)] }
def FnEvalSaid : Prop := fnEvalRow.holds Tryz.pinned (OpenSpec.ofChange fnEvalSpec)

/-- ITS FALSE NEIGHBOUR: 'it returns false'. Refute it at one input. -/
def fnEvalWrong : ChangeSpec := { name := "fnEval", fn := fun _ => fun
  | [d] => { results := [.lit (.bool false)], args := [d] }
  | _ => none }
def FnEvalWrongFalsely : Prop := fnEvalRow.holds Tryz.pinned (OpenSpec.ofChange fnEvalWrong)

/-- 'laws.FnEvalOrder': WHATEVER THE INPUT: true; the input reads as it did. -/
def fnEvalOrderSpec : ChangeSpec := { name := "fnEvalOrder", fn := fun _ => fun
  | [d] => { results := [.lit (.bool true)], args := [d] }
  | _ => none }
def fnEvalOrderRow : OpenClaim := { program := "ytkjinanbccloeaagreatdoor", sum := "955c8795881b4f9db27859aac5778195cb55fe6c663b2e07928ae1fa9555d239", func := "loop.example/springhead/laws.FnEvalOrder", spec := "fnEvalOrder", inPlace := ["internal/reflectlite.ValueOf", "(internal/reflectlite.Value).Type", "(internal/reflectlite.Value).IsNil", "internal/reflectlite.TypeOf", "(internal/reflectlite.Value).Elem", "(internal/reflectlite.Value).Set", "internal/bytealg.abigen_runtime_cmpstring", "internal/abi.NoEscape"], unfollowed := true, recurses := true, named := ["errors.errorType"], plainKeys := false, apart := false, laid := [("errors.errorType", laid_errors_errorType)] }
def FnEvalOrderSaid : Prop := fnEvalOrderRow.holds Tryz.pinned (OpenSpec.ofChange fnEvalOrderSpec)

/-- ITS FALSE NEIGHBOUR: 'it returns false'. Refute it at one input. -/
def fnEvalOrderWrong : ChangeSpec := { name := "fnEvalOrder", fn := fun _ => fun
  | [d] => { results := [.lit (.bool false)], args := [d] }
  | _ => none }
def FnEvalOrderWrongFalsely : Prop := fnEvalOrderRow.holds Tryz.pinned (OpenSpec.ofChange fnEvalOrderWrong)

/-- 'laws.FnEvalMore': WHATEVER THE INPUT: true; the input reads as it did. -/
def fnEvalMoreSpec : ChangeSpec := { name := "fnEvalMore", fn := fun _ => fun
  | [d1, d2] => { results := [.lit (.bool true)], args := [d1, d2] }
  | _ => none }
def fnEvalMoreRow : OpenClaim := { program := "ytkjinanbccloeaagreatdoor", sum := "955c8795881b4f9db27859aac5778195cb55fe6c663b2e07928ae1fa9555d239", func := "loop.example/springhead/laws.FnEvalMore", spec := "fnEvalMore", inPlace := ["internal/reflectlite.ValueOf", "(internal/reflectlite.Value).Type", "(internal/reflectlite.Value).IsNil", "internal/reflectlite.TypeOf", "(internal/reflectlite.Value).Elem", "(internal/reflectlite.Value).Set", "internal/bytealg.abigen_runtime_cmpstring", "internal/abi.NoEscape"], unfollowed := true, recurses := true, named := ["errors.errorType"], plainKeys := false, apart := false, laid := [("errors.errorType", laid_errors_errorType)] }
def FnEvalMoreSaid : Prop := fnEvalMoreRow.holds Tryz.pinned (OpenSpec.ofChange fnEvalMoreSpec)

/-- ITS FALSE NEIGHBOUR: 'it returns false'. Refute it at one input. -/
def fnEvalMoreWrong : ChangeSpec := { name := "fnEvalMore", fn := fun _ => fun
  | [d1, d2] => { results := [.lit (.bool false)], args := [d1, d2] }
  | _ => none }
def FnEvalMoreWrongFalsely : Prop := fnEvalMoreRow.holds Tryz.pinned (OpenSpec.ofChange fnEvalMoreWrong)

/-- 'laws.FnEvalNeeds': WHATEVER THE INPUT: true; the input reads as it did. -/
def fnEvalNeedsSpec : ChangeSpec := { name := "fnEvalNeeds", fn := fun _ => fun
  | [d1, d2] => { results := [.lit (.bool true)], args := [d1, d2] }
  | _ => none }
def fnEvalNeedsRow : OpenClaim := { program := "ytkjinanbccloeaagreatdoor", sum := "955c8795881b4f9db27859aac5778195cb55fe6c663b2e07928ae1fa9555d239", func := "loop.example/springhead/laws.FnEvalNeeds", spec := "fnEvalNeeds", inPlace := ["internal/reflectlite.ValueOf", "(internal/reflectlite.Value).Type", "(internal/reflectlite.Value).IsNil", "internal/reflectlite.TypeOf", "(internal/reflectlite.Value).Elem", "(internal/reflectlite.Value).Set", "internal/bytealg.abigen_runtime_cmpstring", "internal/abi.NoEscape"], unfollowed := true, recurses := true, named := ["errors.errorType"], plainKeys := false, apart := false, laid := [("errors.errorType", laid_errors_errorType)] }
def FnEvalNeedsSaid : Prop := fnEvalNeedsRow.holds Tryz.pinned (OpenSpec.ofChange fnEvalNeedsSpec)

/-- ITS FALSE NEIGHBOUR: 'it returns false'. Refute it at one input. -/
def fnEvalNeedsWrong : ChangeSpec := { name := "fnEvalNeeds", fn := fun _ => fun
  | [d1, d2] => { results := [.lit (.bool false)], args := [d1, d2] }
  | _ => none }
def FnEvalNeedsWrongFalsely : Prop := fnEvalNeedsRow.holds Tryz.pinned (OpenSpec.ofChange fnEvalNeedsWrong)

/-- 'laws.FnEvalOnly': WHATEVER THE INPUT: true; the input reads as it did. -/
def fnEvalOnlySpec : ChangeSpec := { name := "fnEvalOnly", fn := fun _ => fun
  | [d] => { results := [.lit (.bool true)], args := [d] }
  | _ => none }
def fnEvalOnlyRow : OpenClaim := { program := "ytkjinanbccloeaagreatdoor", sum := "955c8795881b4f9db27859aac5778195cb55fe6c663b2e07928ae1fa9555d239", func := "loop.example/springhead/laws.FnEvalOnly", spec := "fnEvalOnly", inPlace := ["internal/reflectlite.ValueOf", "(internal/reflectlite.Value).Type", "(internal/reflectlite.Value).IsNil", "internal/reflectlite.TypeOf", "(internal/reflectlite.Value).Elem", "(internal/reflectlite.Value).Set", "internal/bytealg.abigen_runtime_cmpstring", "internal/abi.NoEscape"], unfollowed := true, recurses := true, named := ["errors.errorType"], plainKeys := false, apart := false, laid := [("errors.errorType", laid_errors_errorType)] }
def FnEvalOnlySaid : Prop := fnEvalOnlyRow.holds Tryz.pinned (OpenSpec.ofChange fnEvalOnlySpec)

/-- ITS FALSE NEIGHBOUR: 'it returns false'. Refute it at one input. -/
def fnEvalOnlyWrong : ChangeSpec := { name := "fnEvalOnly", fn := fun _ => fun
  | [d] => { results := [.lit (.bool false)], args := [d] }
  | _ => none }
def FnEvalOnlyWrongFalsely : Prop := fnEvalOnlyRow.holds Tryz.pinned (OpenSpec.ofChange fnEvalOnlyWrong)

/-- 'laws.FnDelta': WHATEVER THE INPUT: true; the input reads as it did. -/
def fnDeltaSpec : ChangeSpec := { name := "fnDelta", fn := fun _ => fun
  | [d] => { results := [.lit (.bool true)], args := [d] }
  | _ => none }
def fnDeltaRow : OpenClaim := { program := "ytkjinanbccloeaagreatdoor", sum := "955c8795881b4f9db27859aac5778195cb55fe6c663b2e07928ae1fa9555d239", func := "loop.example/springhead/laws.FnDelta", spec := "fnDelta", inPlace := ["internal/reflectlite.ValueOf", "(internal/reflectlite.Value).Type", "(internal/reflectlite.Value).IsNil", "internal/reflectlite.TypeOf", "(internal/reflectlite.Value).Elem", "(internal/reflectlite.Value).Set", "internal/bytealg.abigen_runtime_cmpstring", "internal/abi.NoEscape"], unfollowed := true, recurses := true, named := ["errors.errorType"], plainKeys := false, apart := false, laid := [("errors.errorType", laid_errors_errorType)] }
def FnDeltaSaid : Prop := fnDeltaRow.holds Tryz.pinned (OpenSpec.ofChange fnDeltaSpec)

/-- ITS FALSE NEIGHBOUR: 'it returns false'. Refute it at one input. -/
def fnDeltaWrong : ChangeSpec := { name := "fnDelta", fn := fun _ => fun
  | [d] => { results := [.lit (.bool false)], args := [d] }
  | _ => none }
def FnDeltaWrongFalsely : Prop := fnDeltaRow.holds Tryz.pinned (OpenSpec.ofChange fnDeltaWrong)

/-- 'laws.FnDeltaBoth': WHATEVER THE INPUT: true; the input reads as it did. -/
def fnDeltaBothSpec : ChangeSpec := { name := "fnDeltaBoth", fn := fun _ => fun
  | [d1, d2] => { results := [.lit (.bool true)], args := [d1, d2] }
  | _ => none }
def fnDeltaBothRow : OpenClaim := { program := "ytkjinanbccloeaagreatdoor", sum := "955c8795881b4f9db27859aac5778195cb55fe6c663b2e07928ae1fa9555d239", func := "loop.example/springhead/laws.FnDeltaBoth", spec := "fnDeltaBoth", inPlace := ["internal/reflectlite.ValueOf", "(internal/reflectlite.Value).Type", "(internal/reflectlite.Value).IsNil", "internal/reflectlite.TypeOf", "(internal/reflectlite.Value).Elem", "(internal/reflectlite.Value).Set", "internal/bytealg.abigen_runtime_cmpstring", "internal/abi.NoEscape"], unfollowed := true, recurses := true, named := ["errors.errorType"], plainKeys := false, apart := false, laid := [("errors.errorType", laid_errors_errorType)] }
def FnDeltaBothSaid : Prop := fnDeltaBothRow.holds Tryz.pinned (OpenSpec.ofChange fnDeltaBothSpec)

/-- ITS FALSE NEIGHBOUR: 'it returns false'. Refute it at one input. -/
def fnDeltaBothWrong : ChangeSpec := { name := "fnDeltaBoth", fn := fun _ => fun
  | [d1, d2] => { results := [.lit (.bool false)], args := [d1, d2] }
  | _ => none }
def FnDeltaBothWrongFalsely : Prop := fnDeltaBothRow.holds Tryz.pinned (OpenSpec.ofChange fnDeltaBothWrong)

/-- 'laws.FnDeltaNeeds': WHATEVER THE INPUT: true; the input reads as it did. -/
def fnDeltaNeedsSpec : ChangeSpec := { name := "fnDeltaNeeds", fn := fun _ => fun
  | [d1, d2] => { results := [.lit (.bool true)], args := [d1, d2] }
  | _ => none }
def fnDeltaNeedsRow : OpenClaim := { program := "ytkjinanbccloeaagreatdoor", sum := "955c8795881b4f9db27859aac5778195cb55fe6c663b2e07928ae1fa9555d239", func := "loop.example/springhead/laws.FnDeltaNeeds", spec := "fnDeltaNeeds", inPlace := ["internal/reflectlite.ValueOf", "(internal/reflectlite.Value).Type", "(internal/reflectlite.Value).IsNil", "internal/reflectlite.TypeOf", "(internal/reflectlite.Value).Elem", "(internal/reflectlite.Value).Set", "internal/bytealg.abigen_runtime_cmpstring", "internal/abi.NoEscape"], unfollowed := true, recurses := true, named := ["errors.errorType"], plainKeys := false, apart := false, laid := [("errors.errorType", laid_errors_errorType)] }
def FnDeltaNeedsSaid : Prop := fnDeltaNeedsRow.holds Tryz.pinned (OpenSpec.ofChange fnDeltaNeedsSpec)

/-- ITS FALSE NEIGHBOUR: 'it returns false'. Refute it at one input. -/
def fnDeltaNeedsWrong : ChangeSpec := { name := "fnDeltaNeeds", fn := fun _ => fun
  | [d1, d2] => { results := [.lit (.bool false)], args := [d1, d2] }
  | _ => none }
def FnDeltaNeedsWrongFalsely : Prop := fnDeltaNeedsRow.holds Tryz.pinned (OpenSpec.ofChange fnDeltaNeedsWrong)

/-- 'laws.FnExactProofOk': WHATEVER THE INPUT: true; the input reads as it did. -/
def fnExactProofOkSpec : ChangeSpec := { name := "fnExactProofOk", fn := fun _ => fun
  | [d1, d2, d3] => { results := [.lit (.bool true)], args := [d1, d2, d3] }
  | _ => none }
def fnExactProofOkRow : OpenClaim := { program := "ytkjinanbccloeaagreatdoor", sum := "955c8795881b4f9db27859aac5778195cb55fe6c663b2e07928ae1fa9555d239", func := "loop.example/springhead/laws.FnExactProofOk", spec := "fnExactProofOk", inPlace := ["internal/reflectlite.ValueOf", "(internal/reflectlite.Value).Type", "(internal/reflectlite.Value).IsNil", "internal/reflectlite.TypeOf", "(internal/reflectlite.Value).Elem", "(internal/reflectlite.Value).Set", "internal/bytealg.abigen_runtime_cmpstring", "internal/abi.NoEscape"], unfollowed := true, recurses := true, named := ["errors.errorType"], loops := true, plainKeys := false, apart := false, laid := [("errors.errorType", laid_errors_errorType)] }
def FnExactProofOkSaid : Prop := fnExactProofOkRow.holds Tryz.pinned (OpenSpec.ofChange fnExactProofOkSpec)

/-- ITS FALSE NEIGHBOUR: 'it returns false'. Refute it at one input. -/
def fnExactProofOkWrong : ChangeSpec := { name := "fnExactProofOk", fn := fun _ => fun
  | [d1, d2, d3] => { results := [.lit (.bool false)], args := [d1, d2, d3] }
  | _ => none }
def FnExactProofOkWrongFalsely : Prop := fnExactProofOkRow.holds Tryz.pinned (OpenSpec.ofChange fnExactProofOkWrong)

/- THE SECOND FORM. 'bulk': how many values and letters a reading holds, each counted each time it is reached (what is shared counts as often as it is met; a slice's spare places count too). A statement '..UptoSaid' is the law's where the arguments, and the package variables that the reading takes, are together of bulk at most 1048576: NARROWER than '..Said'. Prove '..Said' where nothing that the law and all that it calls make is longer than what came in: it says more and counts as full. Else prove '..UptoSaid'. A law counts once. -/
mutual
def uptoBulk {H : Type} : DataW H → Nat
  | .lit (.string bytes) => bytes.length + 1
  | .lit _ => 1
  | .nil => 1
  | .ptr d => uptoBulk d + 1
  | .slice elems spare => uptoBulkAll elems + uptoBulkAll spare + 1
  | .agg parts => uptoBulkAll parts + 1
  | .iface _ d => uptoBulk d + 1
  | .map entries => uptoBulkEntries entries + 1
  | .held _ => 1
def uptoBulkAll {H : Type} : List (DataW H) → Nat
  | [] => 0
  | d :: r => uptoBulk d + uptoBulkAll r
def uptoBulkEntries {H : Type} : List (Lit × DataW H) → Nat
  | [] => 0
  | x :: r => uptoBulkEntry x + uptoBulkEntries r
def uptoBulkEntry {H : Type} : Lit × DataW H → Nat
  | (.string bytes, d) => bytes.length + uptoBulk d + 1
  | (_, d) => uptoBulk d + 1
 end
def uptoSmall : (H : Type) → List (DataW H) → Bool := fun _ ds => decide (uptoBulkAll ds ≤ 1048576)
def OpenSpec.upto (s : _root_.Go.ChangeSpec) : _root_.Go.OpenSpec := { _root_.Go.OpenSpec.ofChange s with cond := some uptoSmall }

/-- 'laws.FnEval', WHERE WHAT IT READS IS OF BULK AT MOST 1048576: true; the input reads as it did. -/
def fnEvalUptoRow : OpenClaim := { program := "ytkjinanbccloeaagreatdoor", sum := "955c8795881b4f9db27859aac5778195cb55fe6c663b2e07928ae1fa9555d239", func := "loop.example/springhead/laws.FnEval", spec := "fnEval", inPlace := ["internal/reflectlite.ValueOf", "(internal/reflectlite.Value).Type", "(internal/reflectlite.Value).IsNil", "internal/reflectlite.TypeOf", "(internal/reflectlite.Value).Elem", "(internal/reflectlite.Value).Set", "internal/bytealg.abigen_runtime_cmpstring", "internal/abi.NoEscape"], unfollowed := true, recurses := true, named := ["errors.errorType"], plainKeys := false, apart := false, laid := [("errors.errorType", laid_errors_errorType)], narrowed := true }
def FnEvalUptoSaid : Prop := fnEvalUptoRow.holds Tryz.pinned (OpenSpec.upto fnEvalSpec)

/-- 'laws.FnEvalOrder', WHERE WHAT IT READS IS OF BULK AT MOST 1048576: true; the input reads as it did. -/
def fnEvalOrderUptoRow : OpenClaim := { program := "ytkjinanbccloeaagreatdoor", sum := "955c8795881b4f9db27859aac5778195cb55fe6c663b2e07928ae1fa9555d239", func := "loop.example/springhead/laws.FnEvalOrder", spec := "fnEvalOrder", inPlace := ["internal/reflectlite.ValueOf", "(internal/reflectlite.Value).Type", "(internal/reflectlite.Value).IsNil", "internal/reflectlite.TypeOf", "(internal/reflectlite.Value).Elem", "(internal/reflectlite.Value).Set", "internal/bytealg.abigen_runtime_cmpstring", "internal/abi.NoEscape"], unfollowed := true, recurses := true, named := ["errors.errorType"], plainKeys := false, apart := false, laid := [("errors.errorType", laid_errors_errorType)], narrowed := true }
def FnEvalOrderUptoSaid : Prop := fnEvalOrderUptoRow.holds Tryz.pinned (OpenSpec.upto fnEvalOrderSpec)

/-- 'laws.FnEvalMore', WHERE WHAT IT READS IS OF BULK AT MOST 1048576: true; the input reads as it did. -/
def fnEvalMoreUptoRow : OpenClaim := { program := "ytkjinanbccloeaagreatdoor", sum := "955c8795881b4f9db27859aac5778195cb55fe6c663b2e07928ae1fa9555d239", func := "loop.example/springhead/laws.FnEvalMore", spec := "fnEvalMore", inPlace := ["internal/reflectlite.ValueOf", "(internal/reflectlite.Value).Type", "(internal/reflectlite.Value).IsNil", "internal/reflectlite.TypeOf", "(internal/reflectlite.Value).Elem", "(internal/reflectlite.Value).Set", "internal/bytealg.abigen_runtime_cmpstring", "internal/abi.NoEscape"], unfollowed := true, recurses := true, named := ["errors.errorType"], plainKeys := false, apart := false, laid := [("errors.errorType", laid_errors_errorType)], narrowed := true }
def FnEvalMoreUptoSaid : Prop := fnEvalMoreUptoRow.holds Tryz.pinned (OpenSpec.upto fnEvalMoreSpec)

/-- 'laws.FnEvalNeeds', WHERE WHAT IT READS IS OF BULK AT MOST 1048576: true; the input reads as it did. -/
def fnEvalNeedsUptoRow : OpenClaim := { program := "ytkjinanbccloeaagreatdoor", sum := "955c8795881b4f9db27859aac5778195cb55fe6c663b2e07928ae1fa9555d239", func := "loop.example/springhead/laws.FnEvalNeeds", spec := "fnEvalNeeds", inPlace := ["internal/reflectlite.ValueOf", "(internal/reflectlite.Value).Type", "(internal/reflectlite.Value).IsNil", "internal/reflectlite.TypeOf", "(internal/reflectlite.Value).Elem", "(internal/reflectlite.Value).Set", "internal/bytealg.abigen_runtime_cmpstring", "internal/abi.NoEscape"], unfollowed := true, recurses := true, named := ["errors.errorType"], plainKeys := false, apart := false, laid := [("errors.errorType", laid_errors_errorType)], narrowed := true }
def FnEvalNeedsUptoSaid : Prop := fnEvalNeedsUptoRow.holds Tryz.pinned (OpenSpec.upto fnEvalNeedsSpec)

/-- 'laws.FnEvalOnly', WHERE WHAT IT READS IS OF BULK AT MOST 1048576: true; the input reads as it did. -/
def fnEvalOnlyUptoRow : OpenClaim := { program := "ytkjinanbccloeaagreatdoor", sum := "955c8795881b4f9db27859aac5778195cb55fe6c663b2e07928ae1fa9555d239", func := "loop.example/springhead/laws.FnEvalOnly", spec := "fnEvalOnly", inPlace := ["internal/reflectlite.ValueOf", "(internal/reflectlite.Value).Type", "(internal/reflectlite.Value).IsNil", "internal/reflectlite.TypeOf", "(internal/reflectlite.Value).Elem", "(internal/reflectlite.Value).Set", "internal/bytealg.abigen_runtime_cmpstring", "internal/abi.NoEscape"], unfollowed := true, recurses := true, named := ["errors.errorType"], plainKeys := false, apart := false, laid := [("errors.errorType", laid_errors_errorType)], narrowed := true }
def FnEvalOnlyUptoSaid : Prop := fnEvalOnlyUptoRow.holds Tryz.pinned (OpenSpec.upto fnEvalOnlySpec)

/-- 'laws.FnDelta', WHERE WHAT IT READS IS OF BULK AT MOST 1048576: true; the input reads as it did. -/
def fnDeltaUptoRow : OpenClaim := { program := "ytkjinanbccloeaagreatdoor", sum := "955c8795881b4f9db27859aac5778195cb55fe6c663b2e07928ae1fa9555d239", func := "loop.example/springhead/laws.FnDelta", spec := "fnDelta", inPlace := ["internal/reflectlite.ValueOf", "(internal/reflectlite.Value).Type", "(internal/reflectlite.Value).IsNil", "internal/reflectlite.TypeOf", "(internal/reflectlite.Value).Elem", "(internal/reflectlite.Value).Set", "internal/bytealg.abigen_runtime_cmpstring", "internal/abi.NoEscape"], unfollowed := true, recurses := true, named := ["errors.errorType"], plainKeys := false, apart := false, laid := [("errors.errorType", laid_errors_errorType)], narrowed := true }
def FnDeltaUptoSaid : Prop := fnDeltaUptoRow.holds Tryz.pinned (OpenSpec.upto fnDeltaSpec)

/-- 'laws.FnDeltaBoth', WHERE WHAT IT READS IS OF BULK AT MOST 1048576: true; the input reads as it did. -/
def fnDeltaBothUptoRow : OpenClaim := { program := "ytkjinanbccloeaagreatdoor", sum := "955c8795881b4f9db27859aac5778195cb55fe6c663b2e07928ae1fa9555d239", func := "loop.example/springhead/laws.FnDeltaBoth", spec := "fnDeltaBoth", inPlace := ["internal/reflectlite.ValueOf", "(internal/reflectlite.Value).Type", "(internal/reflectlite.Value).IsNil", "internal/reflectlite.TypeOf", "(internal/reflectlite.Value).Elem", "(internal/reflectlite.Value).Set", "internal/bytealg.abigen_runtime_cmpstring", "internal/abi.NoEscape"], unfollowed := true, recurses := true, named := ["errors.errorType"], plainKeys := false, apart := false, laid := [("errors.errorType", laid_errors_errorType)], narrowed := true }
def FnDeltaBothUptoSaid : Prop := fnDeltaBothUptoRow.holds Tryz.pinned (OpenSpec.upto fnDeltaBothSpec)

/-- 'laws.FnDeltaNeeds', WHERE WHAT IT READS IS OF BULK AT MOST 1048576: true; the input reads as it did. -/
def fnDeltaNeedsUptoRow : OpenClaim := { program := "ytkjinanbccloeaagreatdoor", sum := "955c8795881b4f9db27859aac5778195cb55fe6c663b2e07928ae1fa9555d239", func := "loop.example/springhead/laws.FnDeltaNeeds", spec := "fnDeltaNeeds", inPlace := ["internal/reflectlite.ValueOf", "(internal/reflectlite.Value).Type", "(internal/reflectlite.Value).IsNil", "internal/reflectlite.TypeOf", "(internal/reflectlite.Value).Elem", "(internal/reflectlite.Value).Set", "internal/bytealg.abigen_runtime_cmpstring", "internal/abi.NoEscape"], unfollowed := true, recurses := true, named := ["errors.errorType"], plainKeys := false, apart := false, laid := [("errors.errorType", laid_errors_errorType)], narrowed := true }
def FnDeltaNeedsUptoSaid : Prop := fnDeltaNeedsUptoRow.holds Tryz.pinned (OpenSpec.upto fnDeltaNeedsSpec)

/-- 'laws.FnExactProofOk', WHERE WHAT IT READS IS OF BULK AT MOST 1048576: true; the input reads as it did. -/
def fnExactProofOkUptoRow : OpenClaim := { program := "ytkjinanbccloeaagreatdoor", sum := "955c8795881b4f9db27859aac5778195cb55fe6c663b2e07928ae1fa9555d239", func := "loop.example/springhead/laws.FnExactProofOk", spec := "fnExactProofOk", inPlace := ["internal/reflectlite.ValueOf", "(internal/reflectlite.Value).Type", "(internal/reflectlite.Value).IsNil", "internal/reflectlite.TypeOf", "(internal/reflectlite.Value).Elem", "(internal/reflectlite.Value).Set", "internal/bytealg.abigen_runtime_cmpstring", "internal/abi.NoEscape"], unfollowed := true, recurses := true, named := ["errors.errorType"], loops := true, plainKeys := false, apart := false, laid := [("errors.errorType", laid_errors_errorType)], narrowed := true }
def FnExactProofOkUptoSaid : Prop := fnExactProofOkUptoRow.holds Tryz.pinned (OpenSpec.upto fnExactProofOkSpec)

end Rows
end Go.Proofs.YtkjinanbccloeaaGreatDoor
