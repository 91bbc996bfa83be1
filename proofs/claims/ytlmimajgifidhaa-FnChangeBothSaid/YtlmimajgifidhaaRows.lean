/-
  No cell of these rows narrows 'for every input' (looked for: loops, veiled, ifaces, maps, wideKeys, modest, calm, conditions, laid).
  DERIVED. THE GIVEN ROWS OF THIS SEAT. 3 by the template 'for every input the law returns true; each argument reads behind the call as it read before'; 0 by the template 'total and deterministic' (their statements: YtlmimajgifidhaaTotals.lean).
  GIVEN WITH THE SEED: the statements are not yours to turn. If you find one false, say at which input.
  Laid BY PROGRAM, IN A SANDBOX (cutbox-rows.mjs): the forced cells as the released guide's own fill.sh prints them over the translation e6239915b324925c… (all of the seat's roots in one cut). By AI agents, Wed Nov 11 2026. No macro, syntax, notation, axiom, sorry.
-/
import Derived.Test.YtlmimajgifidhaaChecked
import GoSem.Claim
import GoSem.ClaimJoined
import GoSem.ClaimMapViews
import Derived.JoinedTies
import Derived.KernelRfl
namespace Go.Proofs.Ytlmimajgifidhaa
/- THE CELL 'sum', in the pinned program and in every row, IS THE sha256 OF THE DUMP (.gsa) THAT YtlmimajgifidhaaProg.lean LOADS. Nothing in Lean hashes anything: it is a label: what it is worth is what the hold of that sum in a sandbox is worth. -/
noncomputable def Try.pinned : Pinned := { name := "ytlmimajgifidhaa", sum := "e6239915b324925cbcf662112d9c415058df8e1adaadca6b6e7315f5d94ce632", checked := Try.checked }
namespace Rows
def none {H : Type} : Left H := { results := [], args := [] }

/-- 'laws.FnExactChangeBoth': WHATEVER THE INPUT: true; the input reads as it did. -/
def fnExactChangeBothSpec : ChangeSpec := { name := "fnExactChangeBoth", fn := fun _ => fun
  | [d1, d2] => { results := [.lit (.bool true)], args := [d1, d2] }
  | _ => none }
def fnExactChangeBothRow : OpenClaim := { program := "ytlmimajgifidhaa", sum := "e6239915b324925cbcf662112d9c415058df8e1adaadca6b6e7315f5d94ce632", func := "loop.example/springhead/laws.FnExactChangeBoth", spec := "fnExactChangeBoth", inPlace := ["internal/bytealg.abigen_runtime_cmpstring"], unfollowed := true, recurses := true, apart := false }
def FnExactChangeBothSaid : Prop := fnExactChangeBothRow.holds Try.pinned (OpenSpec.ofChange fnExactChangeBothSpec)

/-- ITS FALSE NEIGHBOUR: 'it returns false'. Refute it at one input. -/
def fnExactChangeBothWrong : ChangeSpec := { name := "fnExactChangeBoth", fn := fun _ => fun
  | [d1, d2] => { results := [.lit (.bool false)], args := [d1, d2] }
  | _ => none }
def FnExactChangeBothWrongFalsely : Prop := fnExactChangeBothRow.holds Try.pinned (OpenSpec.ofChange fnExactChangeBothWrong)

/-- 'laws.FnChangeDo': WHATEVER THE INPUT: true; the input reads as it did. -/
def fnChangeDoSpec : ChangeSpec := { name := "fnChangeDo", fn := fun _ => fun
  | [d] => { results := [.lit (.bool true)], args := [d] }
  | _ => none }
def fnChangeDoRow : OpenClaim := { program := "ytlmimajgifidhaa", sum := "e6239915b324925cbcf662112d9c415058df8e1adaadca6b6e7315f5d94ce632", func := "loop.example/springhead/laws.FnChangeDo", spec := "fnChangeDo", inPlace := ["internal/bytealg.abigen_runtime_cmpstring"], unfollowed := true, recurses := true, apart := false }
def FnChangeDoSaid : Prop := fnChangeDoRow.holds Try.pinned (OpenSpec.ofChange fnChangeDoSpec)

/-- ITS FALSE NEIGHBOUR: 'it returns false'. Refute it at one input. -/
def fnChangeDoWrong : ChangeSpec := { name := "fnChangeDo", fn := fun _ => fun
  | [d] => { results := [.lit (.bool false)], args := [d] }
  | _ => none }
def FnChangeDoWrongFalsely : Prop := fnChangeDoRow.holds Try.pinned (OpenSpec.ofChange fnChangeDoWrong)

/-- 'laws.FnChangeBoth': WHATEVER THE INPUT: true; the input reads as it did. -/
def fnChangeBothSpec : ChangeSpec := { name := "fnChangeBoth", fn := fun _ => fun
  | [d1, d2] => { results := [.lit (.bool true)], args := [d1, d2] }
  | _ => none }
def fnChangeBothRow : OpenClaim := { program := "ytlmimajgifidhaa", sum := "e6239915b324925cbcf662112d9c415058df8e1adaadca6b6e7315f5d94ce632", func := "loop.example/springhead/laws.FnChangeBoth", spec := "fnChangeBoth", inPlace := ["internal/bytealg.abigen_runtime_cmpstring"], unfollowed := true, recurses := true, apart := false }
def FnChangeBothSaid : Prop := fnChangeBothRow.holds Try.pinned (OpenSpec.ofChange fnChangeBothSpec)

/-- ITS FALSE NEIGHBOUR: 'it returns false'. Refute it at one input. -/
def fnChangeBothWrong : ChangeSpec := { name := "fnChangeBoth", fn := fun _ => fun
  | [d1, d2] => { results := [.lit (.bool false)], args := [d1, d2] }
  | _ => none }
def FnChangeBothWrongFalsely : Prop := fnChangeBothRow.holds Try.pinned (OpenSpec.ofChange fnChangeBothWrong)

/- THE SECOND FORM. 'bulk': how many values and letters a reading holds, each counted each time it is reached (what is shared counts as often as it is met; a slice's spare places count too). A statement '..UptoSaid' is the law's where the arguments, and the package variables that the reading takes, are together of bulk at most 1048576: NARROWER than '..Said'. Prove '..Said' where nothing that the law and all that it calls make is longer than what came in: it says more and counts as full. Else prove '..UptoSaid'. A law counts once. -/
mutual
def uptoBulk {H : Type} : DataW H → Nat
  | .lit (.string bytes) => bytes.length + 1
  | .lit _ => 1
  | .nil => 1
  | .ptr d => uptoBulk d + 1
  | .slice elems spare => uptoBulkAll elems + uptoBulkAll spare + 1
  | .agg parts => uptoBulkAll parts + 1
  | .iface _ d => uptoBulk d + 1
  | .map entries => uptoBulkEntries entries + 1
  | .held _ => 1
def uptoBulkAll {H : Type} : List (DataW H) → Nat
  | [] => 0
  | d :: r => uptoBulk d + uptoBulkAll r
def uptoBulkEntries {H : Type} : List (Lit × DataW H) → Nat
  | [] => 0
  | x :: r => uptoBulkEntry x + uptoBulkEntries r
def uptoBulkEntry {H : Type} : Lit × DataW H → Nat
  | (.string bytes, d) => bytes.length + uptoBulk d + 1
  | (_, d) => uptoBulk d + 1
 end
def uptoSmall : (H : Type) → List (DataW H) → Bool := fun _ ds => decide (uptoBulkAll ds ≤ 1048576)
def OpenSpec.upto (s : _root_.Go.ChangeSpec) : _root_.Go.OpenSpec := { _root_.Go.OpenSpec.ofChange s with cond := some uptoSmall }

/-- 'laws.FnExactChangeBoth', WHERE WHAT IT READS IS OF BULK AT MOST 1048576: true; the input reads as it did. -/
def fnExactChangeBothUptoRow : OpenClaim := { program := "ytlmimajgifidhaa", sum := "e6239915b324925cbcf662112d9c415058df8e1adaadca6b6e7315f5d94ce632", func := "loop.example/springhead/laws.FnExactChangeBoth", spec := "fnExactChangeBoth", inPlace := ["internal/bytealg.abigen_runtime_cmpstring"], unfollowed := true, recurses := true, apart := false, narrowed := true }
def FnExactChangeBothUptoSaid : Prop := fnExactChangeBothUptoRow.holds Try.pinned (OpenSpec.upto fnExactChangeBothSpec)

/-- 'laws.FnChangeDo', WHERE WHAT IT READS IS OF BULK AT MOST 1048576: true; the input reads as it did. -/
def fnChangeDoUptoRow : OpenClaim := { program := "ytlmimajgifidhaa", sum := "e6239915b324925cbcf662112d9c415058df8e1adaadca6b6e7315f5d94ce632", func := "loop.example/springhead/laws.FnChangeDo", spec := "fnChangeDo", inPlace := ["internal/bytealg.abigen_runtime_cmpstring"], unfollowed := true, recurses := true, apart := false, narrowed := true }
def FnChangeDoUptoSaid : Prop := fnChangeDoUptoRow.holds Try.pinned (OpenSpec.upto fnChangeDoSpec)

/-- 'laws.FnChangeBoth', WHERE WHAT IT READS IS OF BULK AT MOST 1048576: true; the input reads as it did. -/
def fnChangeBothUptoRow : OpenClaim := { program := "ytlmimajgifidhaa", sum := "e6239915b324925cbcf662112d9c415058df8e1adaadca6b6e7315f5d94ce632", func := "loop.example/springhead/laws.FnChangeBoth", spec := "fnChangeBoth", inPlace := ["internal/bytealg.abigen_runtime_cmpstring"], unfollowed := true, recurses := true, apart := false, narrowed := true }
def FnChangeBothUptoSaid : Prop := fnChangeBothUptoRow.holds Try.pinned (OpenSpec.upto fnChangeBothSpec)

end Rows
end Go.Proofs.Ytlmimajgifidhaa
