/-
  NARROWER THAN 'FOR EVERY INPUT', by the rows' own cells (each row's printed sentence says how): FnAtomText: laid · FnExactRuleGet: laid · FnExactAskGet: laid · FnRuleText: laid · FnAskText: laid.
  DERIVED. THE GIVEN ROWS OF THIS SEAT. 5 by the template 'for every input the law returns true; each argument reads behind the call as it read before'; 0 by the template 'total and deterministic' (their statements: YtmhjabjiojfgnaaDoorTotals.lean).
  GIVEN WITH THE SEED: the statements are not yours to turn. If you find one false, say at which input.
  Laid BY PROGRAM, IN A SANDBOX (cutbox-rows.mjs): the forced cells as the released guide's own fill.sh prints them over the translation 3a20407516ca2150… (all of the seat's roots in one cut). By AI agents, Wed Nov 11 2026. No macro, syntax, notation, axiom, sorry.
-/
import Derived.Test.YtmhjabjiojfgnaaDoorChecked
import GoSem.PinnedTables
import GoSem.Claim
import GoSem.ClaimJoined
import GoSem.ClaimMapViews
import Derived.JoinedTies
import Derived.KernelRfl
namespace Go.Proofs.YtmhjabjiojfgnaaDoor
/- THE CELL 'sum', in the pinned program and in every row, IS THE sha256 OF THE DUMP (.gsa) THAT YtmhjabjiojfgnaaDoorProg.lean LOADS. Nothing in Lean hashes anything: it is a label: what it is worth is what the hold of that sum in a sandbox is worth. -/
noncomputable def Tryd.pinned : Pinned := { name := "ytmhjabjiojfgnaadoor", sum := "3a20407516ca215038c4253df0a4093ee4b9760db975ede9f692d053ec950c28", checked := Tryd.checked }
namespace Rows
def none {H : Type} : Left H := { results := [], args := [] }

/- WHAT THE LISTED PACKAGE-LEVEL VARIABLES READ AS WHEN THE CALL BEGINS. Each datum BY PROGRAM (the guide's laid-datum.mjs) off the statement by which the dump's own 'gosem.cut.vars' lays the variable. In a bare row this is a premise. The card (YtmhjabjiojfgnaaDoorCards.lean) ties it to the program's text. -/
def laid_unicode_utf8_acceptRanges {H : Type} : DataW H := .agg [.agg [.lit (.int .u8 128), .lit (.int .u8 191)], .agg [.lit (.int .u8 160), .lit (.int .u8 191)], .agg [.lit (.int .u8 128), .lit (.int .u8 159)], .agg [.lit (.int .u8 144), .lit (.int .u8 191)], .agg [.lit (.int .u8 128), .lit (.int .u8 143)], .agg [.lit (.int .u8 0), .lit (.int .u8 0)], .agg [.lit (.int .u8 0), .lit (.int .u8 0)], .agg [.lit (.int .u8 0), .lit (.int .u8 0)], .agg [.lit (.int .u8 0), .lit (.int .u8 0)], .agg [.lit (.int .u8 0), .lit (.int .u8 0)], .agg [.lit (.int .u8 0), .lit (.int .u8 0)], .agg [.lit (.int .u8 0), .lit (.int .u8 0)], .agg [.lit (.int .u8 0), .lit (.int .u8 0)], .agg [.lit (.int .u8 0), .lit (.int .u8 0)], .agg [.lit (.int .u8 0), .lit (.int .u8 0)], .agg [.lit (.int .u8 0), .lit (.int .u8 0)]]
/-- One of Go's own tables, pinned by name: the form's constant. -/
def laid_unicode_utf8_first : DataW Unit := Go.Pinned.utf8First

/-- 'laws.FnAtomText': WHATEVER THE INPUT: true; the input reads as it did. -/
def fnAtomTextSpec : ChangeSpec := { name := "fnAtomText", fn := fun _ => fun
  | [d1, d2] => { results := [.lit (.bool true)], args := [d1, d2] }
  | _ => none }
def fnAtomTextRow : OpenClaim := { program := "ytmhjabjiojfgnaadoor", sum := "3a20407516ca215038c4253df0a4093ee4b9760db975ede9f692d053ec950c28", func := "loop.example/springhead/laws.FnAtomText", spec := "fnAtomText", inPlace := ["internal/abi.NoEscape", "internal/bytealg.IndexByteString", "internal/bytealg.IndexString", "internal/bytealg.CountString"], named := ["internal/bytealg.MaxLen", "unicode/utf8.first", "unicode/utf8.acceptRanges"], apart := false, laid := [("unicode/utf8.acceptRanges", laid_unicode_utf8_acceptRanges), ("unicode/utf8.first", laid_unicode_utf8_first)] }
def FnAtomTextSaid : Prop := fnAtomTextRow.holds Tryd.pinned (OpenSpec.ofChange fnAtomTextSpec)

/-- ITS FALSE NEIGHBOUR: 'it returns false'. Refute it at one input. -/
def fnAtomTextWrong : ChangeSpec := { name := "fnAtomText", fn := fun _ => fun
  | [d1, d2] => { results := [.lit (.bool false)], args := [d1, d2] }
  | _ => none }
def FnAtomTextWrongFalsely : Prop := fnAtomTextRow.holds Tryd.pinned (OpenSpec.ofChange fnAtomTextWrong)

/-- 'laws.FnExactRuleGet': WHATEVER THE INPUT: true; the input reads as it did. -/
def fnExactRuleGetSpec : ChangeSpec := { name := "fnExactRuleGet", fn := fun _ => fun
  | [d] => { results := [.lit (.bool true)], args := [d] }
  | _ => none }
def fnExactRuleGetRow : OpenClaim := { program := "ytmhjabjiojfgnaadoor", sum := "3a20407516ca215038c4253df0a4093ee4b9760db975ede9f692d053ec950c28", func := "loop.example/springhead/laws.FnExactRuleGet", spec := "fnExactRuleGet", inPlace := ["internal/bytealg.IndexByteString", "internal/bytealg.IndexString", "internal/bytealg.CountString"], named := ["internal/bytealg.MaxLen", "unicode/utf8.first", "unicode/utf8.acceptRanges"], apart := false, laid := [("unicode/utf8.acceptRanges", laid_unicode_utf8_acceptRanges), ("unicode/utf8.first", laid_unicode_utf8_first)] }
def FnExactRuleGetSaid : Prop := fnExactRuleGetRow.holds Tryd.pinned (OpenSpec.ofChange fnExactRuleGetSpec)

/-- ITS FALSE NEIGHBOUR: 'it returns false'. Refute it at one input. -/
def fnExactRuleGetWrong : ChangeSpec := { name := "fnExactRuleGet", fn := fun _ => fun
  | [d] => { results := [.lit (.bool false)], args := [d] }
  | _ => none }
def FnExactRuleGetWrongFalsely : Prop := fnExactRuleGetRow.holds Tryd.pinned (OpenSpec.ofChange fnExactRuleGetWrong)

/-- 'laws.FnExactAskGet': WHATEVER THE INPUT: true; the input reads as it did. -/
def fnExactAskGetSpec : ChangeSpec := { name := "fnExactAskGet", fn := fun _ => fun
  | [d] => { results := [.lit (.bool true)], args := [d] }
  | _ => none }
def fnExactAskGetRow : OpenClaim := { program := "ytmhjabjiojfgnaadoor", sum := "3a20407516ca215038c4253df0a4093ee4b9760db975ede9f692d053ec950c28", func := "loop.example/springhead/laws.FnExactAskGet", spec := "fnExactAskGet", inPlace := ["internal/bytealg.IndexByteString", "internal/bytealg.IndexString", "internal/bytealg.CountString"], named := ["internal/bytealg.MaxLen", "unicode/utf8.first", "unicode/utf8.acceptRanges"], apart := false, laid := [("unicode/utf8.acceptRanges", laid_unicode_utf8_acceptRanges), ("unicode/utf8.first", laid_unicode_utf8_first)] }
def FnExactAskGetSaid : Prop := fnExactAskGetRow.holds Tryd.pinned (OpenSpec.ofChange fnExactAskGetSpec)

/-- ITS FALSE NEIGHBOUR: 'it returns false'. Refute it at one input. -/
def fnExactAskGetWrong : ChangeSpec := { name := "fnExactAskGet", fn := fun _ => fun
  | [d] => { results := [.lit (.bool false)], args := [d] }
  | _ => none }
def FnExactAskGetWrongFalsely : Prop := fnExactAskGetRow.holds Tryd.pinned (OpenSpec.ofChange fnExactAskGetWrong)

/-- 'laws.FnRuleText': WHATEVER THE INPUT: true; the input reads as it did. -/
def fnRuleTextSpec : ChangeSpec := { name := "fnRuleText", fn := fun _ => fun
  | [d1, d2] => { results := [.lit (.bool true)], args := [d1, d2] }
  | _ => none }
def fnRuleTextRow : OpenClaim := { program := "ytmhjabjiojfgnaadoor", sum := "3a20407516ca215038c4253df0a4093ee4b9760db975ede9f692d053ec950c28", func := "loop.example/springhead/laws.FnRuleText", spec := "fnRuleText", inPlace := ["internal/abi.NoEscape", "internal/bytealg.IndexByteString", "internal/bytealg.IndexString", "internal/bytealg.CountString"], named := ["internal/bytealg.MaxLen", "unicode/utf8.first", "unicode/utf8.acceptRanges"], apart := false, laid := [("unicode/utf8.acceptRanges", laid_unicode_utf8_acceptRanges), ("unicode/utf8.first", laid_unicode_utf8_first)] }
def FnRuleTextSaid : Prop := fnRuleTextRow.holds Tryd.pinned (OpenSpec.ofChange fnRuleTextSpec)

/-- ITS FALSE NEIGHBOUR: 'it returns false'. Refute it at one input. -/
def fnRuleTextWrong : ChangeSpec := { name := "fnRuleText", fn := fun _ => fun
  | [d1, d2] => { results := [.lit (.bool false)], args := [d1, d2] }
  | _ => none }
def FnRuleTextWrongFalsely : Prop := fnRuleTextRow.holds Tryd.pinned (OpenSpec.ofChange fnRuleTextWrong)

/-- 'laws.FnAskText': WHATEVER THE INPUT: true; the input reads as it did. -/
def fnAskTextSpec : ChangeSpec := { name := "fnAskText", fn := fun _ => fun
  | [d1, d2] => { results := [.lit (.bool true)], args := [d1, d2] }
  | _ => none }
def fnAskTextRow : OpenClaim := { program := "ytmhjabjiojfgnaadoor", sum := "3a20407516ca215038c4253df0a4093ee4b9760db975ede9f692d053ec950c28", func := "loop.example/springhead/laws.FnAskText", spec := "fnAskText", inPlace := ["internal/abi.NoEscape", "internal/bytealg.IndexByteString", "internal/bytealg.IndexString", "internal/bytealg.CountString"], named := ["internal/bytealg.MaxLen", "unicode/utf8.first", "unicode/utf8.acceptRanges"], apart := false, laid := [("unicode/utf8.acceptRanges", laid_unicode_utf8_acceptRanges), ("unicode/utf8.first", laid_unicode_utf8_first)] }
def FnAskTextSaid : Prop := fnAskTextRow.holds Tryd.pinned (OpenSpec.ofChange fnAskTextSpec)

/-- ITS FALSE NEIGHBOUR: 'it returns false'. Refute it at one input. -/
def fnAskTextWrong : ChangeSpec := { name := "fnAskText", fn := fun _ => fun
  | [d1, d2] => { results := [.lit (.bool false)], args := [d1, d2] }
  | _ => none }
def FnAskTextWrongFalsely : Prop := fnAskTextRow.holds Tryd.pinned (OpenSpec.ofChange fnAskTextWrong)

/- THE SECOND FORM. 'bulk': how many values and letters a reading holds, each counted each time it is reached (what is shared counts as often as it is met; a slice's spare places count too). A statement '..UptoSaid' is the law's where the arguments, and the package variables that the reading takes, are together of bulk at most 1048576: NARROWER than '..Said'. Prove '..Said' where nothing that the law and all that it calls make is longer than what came in: it says more and counts as full. Else prove '..UptoSaid'. A law counts once. -/
mutual
def uptoBulk {H : Type} : DataW H → Nat
  | .lit (.string bytes) => bytes.length + 1
  | .lit _ => 1
  | .nil => 1
  | .ptr d => uptoBulk d + 1
  | .slice elems spare => uptoBulkAll elems + uptoBulkAll spare + 1
  | .agg parts => uptoBulkAll parts + 1
  | .iface _ d => uptoBulk d + 1
  | .map entries => uptoBulkEntries entries + 1
  | .held _ => 1
def uptoBulkAll {H : Type} : List (DataW H) → Nat
  | [] => 0
  | d :: r => uptoBulk d + uptoBulkAll r
def uptoBulkEntries {H : Type} : List (Lit × DataW H) → Nat
  | [] => 0
  | x :: r => uptoBulkEntry x + uptoBulkEntries r
def uptoBulkEntry {H : Type} : Lit × DataW H → Nat
  | (.string bytes, d) => bytes.length + uptoBulk d + 1
  | (_, d) => uptoBulk d + 1
 end
def uptoSmall : (H : Type) → List (DataW H) → Bool := fun _ ds => decide (uptoBulkAll ds ≤ 1048576)
def OpenSpec.upto (s : _root_.Go.ChangeSpec) : _root_.Go.OpenSpec := { _root_.Go.OpenSpec.ofChange s with cond := some uptoSmall }

/-- 'laws.FnAtomText', WHERE WHAT IT READS IS OF BULK AT MOST 1048576: true; the input reads as it did. -/
def fnAtomTextUptoRow : OpenClaim := { program := "ytmhjabjiojfgnaadoor", sum := "3a20407516ca215038c4253df0a4093ee4b9760db975ede9f692d053ec950c28", func := "loop.example/springhead/laws.FnAtomText", spec := "fnAtomText", inPlace := ["internal/abi.NoEscape", "internal/bytealg.IndexByteString", "internal/bytealg.IndexString", "internal/bytealg.CountString"], named := ["internal/bytealg.MaxLen", "unicode/utf8.first", "unicode/utf8.acceptRanges"], apart := false, laid := [("unicode/utf8.acceptRanges", laid_unicode_utf8_acceptRanges), ("unicode/utf8.first", laid_unicode_utf8_first)], narrowed := true }
def FnAtomTextUptoSaid : Prop := fnAtomTextUptoRow.holds Tryd.pinned (OpenSpec.upto fnAtomTextSpec)

/-- 'laws.FnExactRuleGet', WHERE WHAT IT READS IS OF BULK AT MOST 1048576: true; the input reads as it did. -/
def fnExactRuleGetUptoRow : OpenClaim := { program := "ytmhjabjiojfgnaadoor", sum := "3a20407516ca215038c4253df0a4093ee4b9760db975ede9f692d053ec950c28", func := "loop.example/springhead/laws.FnExactRuleGet", spec := "fnExactRuleGet", inPlace := ["internal/bytealg.IndexByteString", "internal/bytealg.IndexString", "internal/bytealg.CountString"], named := ["internal/bytealg.MaxLen", "unicode/utf8.first", "unicode/utf8.acceptRanges"], apart := false, laid := [("unicode/utf8.acceptRanges", laid_unicode_utf8_acceptRanges), ("unicode/utf8.first", laid_unicode_utf8_first)], narrowed := true }
def FnExactRuleGetUptoSaid : Prop := fnExactRuleGetUptoRow.holds Tryd.pinned (OpenSpec.upto fnExactRuleGetSpec)

/-- 'laws.FnExactAskGet', WHERE WHAT IT READS IS OF BULK AT MOST 1048576: true; the input reads as it did. -/
def fnExactAskGetUptoRow : OpenClaim := { program := "ytmhjabjiojfgnaadoor", sum := "3a20407516ca215038c4253df0a4093ee4b9760db975ede9f692d053ec950c28", func := "loop.example/springhead/laws.FnExactAskGet", spec := "fnExactAskGet", inPlace := ["internal/bytealg.IndexByteString", "internal/bytealg.IndexString", "internal/bytealg.CountString"], named := ["internal/bytealg.MaxLen", "unicode/utf8.first", "unicode/utf8.acceptRanges"], apart := false, laid := [("unicode/utf8.acceptRanges", laid_unicode_utf8_acceptRanges), ("unicode/utf8.first", laid_unicode_utf8_first)], narrowed := true }
def FnExactAskGetUptoSaid : Prop := fnExactAskGetUptoRow.holds Tryd.pinned (OpenSpec.upto fnExactAskGetSpec)

/-- 'laws.FnRuleText', WHERE WHAT IT READS IS OF BULK AT MOST 1048576: true; the input reads as it did. -/
def fnRuleTextUptoRow : OpenClaim := { program := "ytmhjabjiojfgnaadoor", sum := "3a20407516ca215038c4253df0a4093ee4b9760db975ede9f692d053ec950c28", func := "loop.example/springhead/laws.FnRuleText", spec := "fnRuleText", inPlace := ["internal/abi.NoEscape", "internal/bytealg.IndexByteString", "internal/bytealg.IndexString", "internal/bytealg.CountString"], named := ["internal/bytealg.MaxLen", "unicode/utf8.first", "unicode/utf8.acceptRanges"], apart := false, laid := [("unicode/utf8.acceptRanges", laid_unicode_utf8_acceptRanges), ("unicode/utf8.first", laid_unicode_utf8_first)], narrowed := true }
def FnRuleTextUptoSaid : Prop := fnRuleTextUptoRow.holds Tryd.pinned (OpenSpec.upto fnRuleTextSpec)

/-- 'laws.FnAskText', WHERE WHAT IT READS IS OF BULK AT MOST 1048576: true; the input reads as it did. -/
def fnAskTextUptoRow : OpenClaim := { program := "ytmhjabjiojfgnaadoor", sum := "3a20407516ca215038c4253df0a4093ee4b9760db975ede9f692d053ec950c28", func := "loop.example/springhead/laws.FnAskText", spec := "fnAskText", inPlace := ["internal/abi.NoEscape", "internal/bytealg.IndexByteString", "internal/bytealg.IndexString", "internal/bytealg.CountString"], named := ["internal/bytealg.MaxLen", "unicode/utf8.first", "unicode/utf8.acceptRanges"], apart := false, laid := [("unicode/utf8.acceptRanges", laid_unicode_utf8_acceptRanges), ("unicode/utf8.first", laid_unicode_utf8_first)], narrowed := true }
def FnAskTextUptoSaid : Prop := fnAskTextUptoRow.holds Tryd.pinned (OpenSpec.upto fnAskTextSpec)

end Rows
end Go.Proofs.YtmhjabjiojfgnaaDoor
