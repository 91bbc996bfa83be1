/-
  No cell of these rows narrows 'for every input' (looked for: loops, veiled, ifaces, maps, wideKeys, modest, calm, conditions, laid).
  DERIVED. THE GIVEN ROWS OF THIS SEAT. 2 by the template 'for every input the law returns true; each argument reads behind the call as it read before'; 0 by the template 'total and deterministic' (their statements: YtadnimchnmkajaaTotals.lean).
  GIVEN WITH THE SEED: the statements are not yours to turn. If you find one false, say at which input.
  Laid BY PROGRAM, IN A SANDBOX (cutbox-rows.mjs): the forced cells as the released guide's own fill.sh prints them over the translation 1f58d540788dc8b4… (all of the seat's roots in one cut). By AI agents, Wed Nov 11 2026. No macro, syntax, notation, axiom, sorry.
-/
import Derived.Test.YtadnimchnmkajaaChecked
import GoSem.Claim
import GoSem.ClaimJoined
import GoSem.ClaimMapViews
import Derived.JoinedTies
import Derived.KernelRfl
namespace Go.Proofs.Ytadnimchnmkajaa
/- THE CELL 'sum', in the pinned program and in every row, IS THE sha256 OF THE DUMP (.gsa) THAT YtadnimchnmkajaaProg.lean LOADS. Nothing in Lean hashes anything: it is a label: what it is worth is what the hold of that sum in a sandbox is worth. -/
noncomputable def Try.pinned : Pinned := { name := "ytadnimchnmkajaa", sum := "1f58d540788dc8b40ee834d279a399bdaa8fe57de8b80404a84b5595b6096a47", checked := Try.checked }
namespace Rows
def none {H : Type} : Left H := { results := [], args := [] }

/-- 'laws.FnExactFactsGone': WHATEVER THE INPUT: true; the input reads as it did. -/
def fnExactFactsGoneSpec : ChangeSpec := { name := "fnExactFactsGone", fn := fun _ => fun
  | [d1, d2] => { results := [.lit (.bool true)], args := [d1, d2] }
  | _ => none }
def fnExactFactsGoneRow : OpenClaim := { program := "ytadnimchnmkajaa", sum := "1f58d540788dc8b40ee834d279a399bdaa8fe57de8b80404a84b5595b6096a47", func := "loop.example/springhead/laws.FnExactFactsGone", spec := "fnExactFactsGone", inPlace := ["internal/bytealg.abigen_runtime_cmpstring"], unfollowed := true, recurses := true, apart := false }
def FnExactFactsGoneSaid : Prop := fnExactFactsGoneRow.holds Try.pinned (OpenSpec.ofChange fnExactFactsGoneSpec)

/-- ITS FALSE NEIGHBOUR: 'it returns false'. Refute it at one input. -/
def fnExactFactsGoneWrong : ChangeSpec := { name := "fnExactFactsGone", fn := fun _ => fun
  | [d1, d2] => { results := [.lit (.bool false)], args := [d1, d2] }
  | _ => none }
def FnExactFactsGoneWrongFalsely : Prop := fnExactFactsGoneRow.holds Try.pinned (OpenSpec.ofChange fnExactFactsGoneWrong)

/-- 'laws.FnFactsGone': WHATEVER THE INPUT: true; the input reads as it did. -/
def fnFactsGoneSpec : ChangeSpec := { name := "fnFactsGone", fn := fun _ => fun
  | [d] => { results := [.lit (.bool true)], args := [d] }
  | _ => none }
def fnFactsGoneRow : OpenClaim := { program := "ytadnimchnmkajaa", sum := "1f58d540788dc8b40ee834d279a399bdaa8fe57de8b80404a84b5595b6096a47", func := "loop.example/springhead/laws.FnFactsGone", spec := "fnFactsGone", inPlace := ["internal/bytealg.abigen_runtime_cmpstring"], unfollowed := true, recurses := true, apart := false }
def FnFactsGoneSaid : Prop := fnFactsGoneRow.holds Try.pinned (OpenSpec.ofChange fnFactsGoneSpec)

/-- ITS FALSE NEIGHBOUR: 'it returns false'. Refute it at one input. -/
def fnFactsGoneWrong : ChangeSpec := { name := "fnFactsGone", fn := fun _ => fun
  | [d] => { results := [.lit (.bool false)], args := [d] }
  | _ => none }
def FnFactsGoneWrongFalsely : Prop := fnFactsGoneRow.holds Try.pinned (OpenSpec.ofChange fnFactsGoneWrong)

/- THE SECOND FORM. 'bulk': how many values and letters a reading holds, each counted each time it is reached (what is shared counts as often as it is met; a slice's spare places count too). A statement '..UptoSaid' is the law's where the arguments, and the package variables that the reading takes, are together of bulk at most 1048576: NARROWER than '..Said'. Prove '..Said' where nothing that the law and all that it calls make is longer than what came in: it says more and counts as full. Else prove '..UptoSaid'. A law counts once. -/
mutual
def uptoBulk {H : Type} : DataW H → Nat
  | .lit (.string bytes) => bytes.length + 1
  | .lit _ => 1
  | .nil => 1
  | .ptr d => uptoBulk d + 1
  | .slice elems spare => uptoBulkAll elems + uptoBulkAll spare + 1
  | .agg parts => uptoBulkAll parts + 1
  | .iface _ d => uptoBulk d + 1
  | .map entries => uptoBulkEntries entries + 1
  | .held _ => 1
def uptoBulkAll {H : Type} : List (DataW H) → Nat
  | [] => 0
  | d :: r => uptoBulk d + uptoBulkAll r
def uptoBulkEntries {H : Type} : List (Lit × DataW H) → Nat
  | [] => 0
  | x :: r => uptoBulkEntry x + uptoBulkEntries r
def uptoBulkEntry {H : Type} : Lit × DataW H → Nat
  | (.string bytes, d) => bytes.length + uptoBulk d + 1
  | (_, d) => uptoBulk d + 1
 end
def uptoSmall : (H : Type) → List (DataW H) → Bool := fun _ ds => decide (uptoBulkAll ds ≤ 1048576)
def OpenSpec.upto (s : _root_.Go.ChangeSpec) : _root_.Go.OpenSpec := { _root_.Go.OpenSpec.ofChange s with cond := some uptoSmall }

/-- 'laws.FnExactFactsGone', WHERE WHAT IT READS IS OF BULK AT MOST 1048576: true; the input reads as it did. -/
def fnExactFactsGoneUptoRow : OpenClaim := { program := "ytadnimchnmkajaa", sum := "1f58d540788dc8b40ee834d279a399bdaa8fe57de8b80404a84b5595b6096a47", func := "loop.example/springhead/laws.FnExactFactsGone", spec := "fnExactFactsGone", inPlace := ["internal/bytealg.abigen_runtime_cmpstring"], unfollowed := true, recurses := true, apart := false, narrowed := true }
def FnExactFactsGoneUptoSaid : Prop := fnExactFactsGoneUptoRow.holds Try.pinned (OpenSpec.upto fnExactFactsGoneSpec)

/-- 'laws.FnFactsGone', WHERE WHAT IT READS IS OF BULK AT MOST 1048576: true; the input reads as it did. -/
def fnFactsGoneUptoRow : OpenClaim := { program := "ytadnimchnmkajaa", sum := "1f58d540788dc8b40ee834d279a399bdaa8fe57de8b80404a84b5595b6096a47", func := "loop.example/springhead/laws.FnFactsGone", spec := "fnFactsGone", inPlace := ["internal/bytealg.abigen_runtime_cmpstring"], unfollowed := true, recurses := true, apart := false, narrowed := true }
def FnFactsGoneUptoSaid : Prop := fnFactsGoneUptoRow.holds Try.pinned (OpenSpec.upto fnFactsGoneSpec)

end Rows
end Go.Proofs.Ytadnimchnmkajaa
