/- Of the proof of FnExactProofOk: Shelf, SrtL, JP, AsE. -/
import Derived.Shelf.Small.Strs
import Derived.Shelf.Strings.BuilderK
import Derived.Shelf.Sort.Plain
import Derived.Shelf.Slices.Cells
import Derived.Shelf.Slices.In.SortNone
import Derived.Shelf.SlSortCmp.NoneTotal
import Derived.Test.YtlmngncogomgeaaGreatDoorProg
import Derived.SevenTiedAt
import Derived.Stop.Asserts
import Derived.RowKitTokens
import Derived.Test.YtlmngncogomgeaaGreatDoorM00
set_option linter.unusedVariables false
set_option maxHeartbeats 4000000
set_option maxRecDepth 100000
namespace Go.Proofs
open Go.Shelf
def Tryz.lays169_ren:Go.Shelf.Ren:=⟨fun | 169=>56 | n=>n,fun | 70=>93 | 9=>9 | 0=>0 | 72=>95 | 37=>49 | 127=>160 | 3=>3 | 5=>5 | n=>n,fun | n=>n⟩
theorem Tryz.lays169:Go.Proofs.Lays.n169 Tryz.prog Tryz.lays169_ren:={
 mixed:=by kernel_rfl
 f169:=Tryz.func56.trans (congrArg some (by kernel_rfl))
 t0:=Tryz.underlying0
 a0:=Tryz.isAgg0
 z0:=Tryz.sizeOf0
 v0:=Tryz.zeroValue0
 t3:=Tryz.underlying3
 a3:=Tryz.isAgg3
 z3:=Tryz.sizeOf3
 v3:=Tryz.zeroValue3
 t9:=Tryz.underlying9
 a9:=Tryz.isAgg9
 z9:=Tryz.sizeOf9
 v9:=Tryz.zeroValue9
 t37:=Tryz.underlying49
 a37:=Tryz.isAgg49
 z37:=Tryz.sizeOf49
 v37:=Tryz.zeroValue49
 t70:=Tryz.underlying93
 a70:=Tryz.isAgg93
 z70:=Tryz.sizeOf93
 v70:=Tryz.zeroValue93
 t72:=Tryz.underlying95
 a72:=Tryz.isAgg95
 z72:=Tryz.sizeOf95
 v72:=Tryz.zeroValue95
 t127:=Tryz.underlying160
 a127:=Tryz.isAgg160
 z127:=Tryz.sizeOf160
 v127:=Tryz.zeroValue160 }
theorem Tryz.Builder_Extra_169:Builder.Extra Tryz.prog Tryz.lays169_ren:={
 sizeBuilder:=by kernel_rfl
 liesBuilder:=by kernel_rfl
 t5:=Tryz.underlying5
 a5:=Tryz.isAgg5
 z5:=Tryz.sizeOf5
 v5:=Tryz.zeroValue5
 infoByte:=by kernel_rfl
 cellsByte:=by kernel_rfl
 sizeByte:=by kernel_rfl
 neB5:=by decide }
def Tryz.GR:Go.Shelf.Ren:=⟨fun | 106=>140 | 213=>193 | 265=>226 | n=>n,fun | 9=>9 | 3=>3 | n=>n,fun | n=>n⟩
theorem Tryz.TI:Go.Proofs.Lays.n106 Tryz.prog Tryz.GR:={
 mixed:=by kernel_rfl
 f106:=Tryz.func140.trans (congrArg some (by kernel_rfl))
 f213:=Tryz.func193.trans (congrArg some (by kernel_rfl))
 f265:=Tryz.func226.trans (congrArg some (by kernel_rfl))
 t3:=Tryz.underlying3
 a3:=Tryz.isAgg3
 z3:=Tryz.sizeOf3
 v3:=Tryz.zeroValue3
 t9:=Tryz.underlying9
 a9:=Tryz.isAgg9
 z9:=Tryz.sizeOf9
 v9:=Tryz.zeroValue9 }
open Go.RowKit in
theorem Tryz.strings_Compare (a b:ByteArray) (w:World):
 Calls Tryz.prog 140 #[.string a,.string b] w fun e w'=>e=.returned (.int .i64 (Lib.compareBytes a.data.toList b.data.toList))∧w'=w:=Any.strings_Compare Tryz.TI a b w
open Go.RowKit in
theorem Tryz.Builder_String_any_k (B b:Nat) (l:List UInt8) (w:World) (h:Lib.IsBuilderF 95 5 B b (Lib.byteCells l) w) (y:B≤w.heap.size):
 Calls Tryz.prog 56 #[.pointer (some ⟨b,0,none⟩)] w fun e w'=>e=.returned (.string ⟨l.toArray⟩)∧(Lib.IsBuilderF 95 5 B b (Lib.byteCells l) w'∧Below B w w'∧Lib.OthersKept 5 (some b) w w'):=Any.Builder_String_any_k Tryz.lays169 Tryz.Builder_Extra_169 B b l w h y
def Tryz.GU:Go.Shelf.Ren:=⟨fun | 190=>195 | 125=>139 | 258=>227 | 128=>191 | 129=>192 | 302=>242 | 303=>243 | 304=>244 | 305=>245 | 306=>246 | 307=>247 | 308=>197 | 309=>248 | 310=>249 | 333=>263 | 329=>222 | 330=>223 | 334=>264 | 335=>265 | 336=>228 | 344=>276 | n=>n,fun | 31=>132 | 9=>9 | 3=>3 | 46=>214 | 0=>0 | 51=>272 | 53=>274 | 4=>4 | 183=>266 | 182=>265 | 131=>180 | 5=>5 | 218=>298 | 222=>302 | 228=>316 | 229=>317 | n=>n,fun | n=>n⟩
theorem Tryz.lays190:Go.Proofs.Lays.n190 Tryz.prog Tryz.GU:={
 mixed:=by kernel_rfl
 f125:=Tryz.func139.trans (congrArg some (by kernel_rfl))
 f128:=Tryz.func191.trans (congrArg some (by kernel_rfl))
 f129:=Tryz.func192.trans (congrArg some (by kernel_rfl))
 f190:=Tryz.func195.trans (congrArg some (by kernel_rfl))
 f258:=Tryz.func227.trans (congrArg some (by kernel_rfl))
 f302:=Tryz.func242.trans (congrArg some (by kernel_rfl))
 f303:=Tryz.func243.trans (congrArg some (by kernel_rfl))
 f304:=Tryz.func244.trans (congrArg some (by kernel_rfl))
 f305:=Tryz.func245.trans (congrArg some (by kernel_rfl))
 f306:=Tryz.func246.trans (congrArg some (by kernel_rfl))
 f307:=Tryz.func247.trans (congrArg some (by kernel_rfl))
 f308:=Tryz.func197.trans (congrArg some (by kernel_rfl))
 f309:=Tryz.func248.trans (congrArg some (by kernel_rfl))
 f310:=Tryz.func249.trans (congrArg some (by kernel_rfl))
 f329:=Tryz.func222.trans (congrArg some (by kernel_rfl))
 f330:=Tryz.func223.trans (congrArg some (by kernel_rfl))
 f333:=Tryz.func263.trans (congrArg some (by kernel_rfl))
 f334:=Tryz.func264.trans (congrArg some (by kernel_rfl))
 f335:=Tryz.func265.trans (congrArg some (by kernel_rfl))
 f336:=Tryz.func228.trans (congrArg some (by kernel_rfl))
 f344:=Tryz.func276.trans (congrArg some (by kernel_rfl))
 t0:=Tryz.underlying0
 a0:=Tryz.isAgg0
 z0:=Tryz.sizeOf0
 v0:=Tryz.zeroValue0
 t3:=Tryz.underlying3
 a3:=Tryz.isAgg3
 z3:=Tryz.sizeOf3
 v3:=Tryz.zeroValue3
 t4:=Tryz.underlying4
 a4:=Tryz.isAgg4
 z4:=Tryz.sizeOf4
 v4:=Tryz.zeroValue4
 t5:=Tryz.underlying5
 a5:=Tryz.isAgg5
 z5:=Tryz.sizeOf5
 v5:=Tryz.zeroValue5
 t9:=Tryz.underlying9
 a9:=Tryz.isAgg9
 z9:=Tryz.sizeOf9
 v9:=Tryz.zeroValue9
 t31:=Tryz.underlying132
 a31:=Tryz.isAgg132
 z31:=Tryz.sizeOf132
 v31:=Tryz.zeroValue132
 t46:=Tryz.underlying214
 a46:=Tryz.isAgg214
 z46:=Tryz.sizeOf214
 v46:=Tryz.zeroValue214
 t51:=Tryz.underlying272
 a51:=Tryz.isAgg272
 z51:=Tryz.sizeOf272
 v51:=Tryz.zeroValue272
 t53:=Tryz.underlying274
 a53:=Tryz.isAgg274
 z53:=Tryz.sizeOf274
 v53:=Tryz.zeroValue274
 t131:=Tryz.underlying180
 a131:=Tryz.isAgg180
 z131:=Tryz.sizeOf180
 v131:=Tryz.zeroValue180
 t182:=Tryz.underlying265
 a182:=Tryz.isAgg265
 z182:=Tryz.sizeOf265
 v182:=Tryz.zeroValue265
 t183:=Tryz.underlying266
 a183:=Tryz.isAgg266
 z183:=Tryz.sizeOf266
 v183:=Tryz.zeroValue266
 t218:=Tryz.underlying298
 a218:=Tryz.isAgg298
 z218:=Tryz.sizeOf298
 v218:=Tryz.zeroValue298
 t222:=Tryz.underlying302
 a222:=Tryz.isAgg302
 z222:=Tryz.sizeOf302
 v222:=Tryz.zeroValue302
 t228:=Tryz.underlying316
 a228:=Tryz.isAgg316
 z228:=Tryz.sizeOf316
 v228:=Tryz.zeroValue316
 t229:=Tryz.underlying317
 a229:=Tryz.isAgg317
 z229:=Tryz.sizeOf317
 v229:=Tryz.zeroValue317 }
open Go.Sort Go.RowKit in
theorem Tryz.slices_Sort_string (blk off cap:Nat) (I:List (List UInt8)) (w:World) (hH:Holds encStr w blk off I.toArray) (J:blk < w.heap.size) (U:I.length < 4611686018427387904):
 Calls Tryz.prog 195 #[.slice (some ⟨blk,off,none⟩) I.length cap] w fun e w'=>
  e=.returned (.tuple #[])∧∃ n os,w'=grow (putRow encStr (Sort.ahead w n) blk off (I.mergeSort fun x y=>decide (x≤y)).toArray) os:=Any.slices_Sort_string Tryz.lays190 blk off cap I w hH J U
def Tryz.lays194_ren:Go.Shelf.Ren:=⟨fun | 194=>196 | n=>n,fun | 31=>132 | 9=>9 | 3=>3 | 4=>4 | 0=>0 | n=>n,fun | n=>n⟩
theorem Tryz.lays194:Go.Proofs.Lays.n194 Tryz.prog Tryz.lays194_ren:={
 mixed:=by kernel_rfl
 f194:=Tryz.func196.trans (congrArg some (by kernel_rfl))
 t0:=Tryz.underlying0
 a0:=Tryz.isAgg0
 z0:=Tryz.sizeOf0
 v0:=Tryz.zeroValue0
 t3:=Tryz.underlying3
 a3:=Tryz.isAgg3
 z3:=Tryz.sizeOf3
 v3:=Tryz.zeroValue3
 t4:=Tryz.underlying4
 a4:=Tryz.isAgg4
 z4:=Tryz.sizeOf4
 v4:=Tryz.zeroValue4
 t9:=Tryz.underlying9
 a9:=Tryz.isAgg9
 z9:=Tryz.sizeOf9
 v9:=Tryz.zeroValue9
 t31:=Tryz.underlying132
 a31:=Tryz.isAgg132
 z31:=Tryz.sizeOf132
 v31:=Tryz.zeroValue132 }
open Go.RowKit Go.Lib Go.Sort in
theorem Tryz.slices_Compact_string (blk off cap:Nat) (zs:List (List UInt8)) (w:World) (J:Holds encStr w blk off zs.toArray) (I:zs.length≤9223372036854775807) (y:zs.length≤cap):
 Calls Tryz.prog 196 #[.slice (some ⟨blk,off,none⟩) zs.length cap] w fun e w'=>e=.returned (.slice (some ⟨blk,off,none⟩) (Lib.compact zs).length cap)∧∃ q,w'=putRow encStr (Sort.ahead w q) blk off (Lib.compact zs ++ List.replicate (zs.length - (Lib.compact zs).length) []).toArray:=Any.slices_Compact_string Tryz.lays194 blk off cap zs w J I y
open Go.RowKit Go.Lib Go.Sort in
theorem Tryz.slices_Compact_string_empty (a:Option Addr) (cap:Nat) (w:World):
 Calls Tryz.prog 196 #[.slice a 0 cap] w fun e w'=>e=.returned (.slice a 0 cap)∧w'=w:=Any.slices_Compact_string_empty Tryz.lays194 a cap w
def Tryz.NQ:Go.Shelf.Ren:=⟨fun | 6=>81 | 15=>139 | 14=>138 | 28=>191 | 29=>192 | 20=>183 | 21=>184 | 22=>185 | 23=>186 | 24=>187 | 25=>188 | 26=>189 | 27=>190 | 46=>221 | 47=>222 | 48=>223 | 49=>224 | 50=>225 | 57=>241 | n=>n,fun | 22=>36 | 24=>40 | 25=>130 | 3=>3 | 39=>214 | 0=>0 | 53=>272 | 55=>274 | 4=>4 | 46=>266 | 45=>265 | 50=>180 | 5=>5 | 9=>9 | 66=>298 | 70=>302 | 76=>316 | 77=>317 | n=>n,fun | n=>n⟩
theorem Tryz.sortA:Go.Proofs.SlLaysF0.n6 Tryz.prog Tryz.NQ:={
 mixed:=by kernel_rfl
 f6:=⟨Tryz.f81.name,by decide,Tryz.func81.trans (congrArg some (by kernel_rfl))⟩
 f14:=⟨Tryz.f138.name,by decide,Tryz.func138.trans (congrArg some (by kernel_rfl))⟩
 f15:=Tryz.func139.trans (congrArg some (by kernel_rfl))
 f20:=⟨Tryz.f183.name,by decide,Tryz.func183.trans (congrArg some (by kernel_rfl))⟩
 f21:=⟨Tryz.f184.name,by decide,Tryz.func184.trans (congrArg some (by kernel_rfl))⟩
 f22:=⟨Tryz.f185.name,by decide,Tryz.func185.trans (congrArg some (by kernel_rfl))⟩
 f23:=⟨Tryz.f186.name,by decide,Tryz.func186.trans (congrArg some (by kernel_rfl))⟩
 f24:=⟨Tryz.f187.name,by decide,Tryz.func187.trans (congrArg some (by kernel_rfl))⟩
 f25:=⟨Tryz.f188.name,by decide,Tryz.func188.trans (congrArg some (by kernel_rfl))⟩
 f26:=⟨Tryz.f189.name,by decide,Tryz.func189.trans (congrArg some (by kernel_rfl))⟩
 f27:=⟨Tryz.f190.name,by decide,Tryz.func190.trans (congrArg some (by kernel_rfl))⟩
 f28:=Tryz.func191.trans (congrArg some (by kernel_rfl))
 f29:=Tryz.func192.trans (congrArg some (by kernel_rfl))
 f46:=⟨Tryz.f221.name,by decide,Tryz.func221.trans (congrArg some (by kernel_rfl))⟩
 f47:=Tryz.func222.trans (congrArg some (by kernel_rfl))
 f48:=Tryz.func223.trans (congrArg some (by kernel_rfl))
 f49:=⟨Tryz.f224.name,by decide,Tryz.func224.trans (congrArg some (by kernel_rfl))⟩
 f50:=⟨Tryz.f225.name,by decide,Tryz.func225.trans (congrArg some (by kernel_rfl))⟩
 f57:=⟨Tryz.f241.name,by decide,Tryz.func241.trans (congrArg some (by kernel_rfl))⟩
 t0:=Tryz.underlying0
 a0:=Tryz.isAgg0
 z0:=Tryz.sizeOf0
 v0:=Tryz.zeroValue0
 t3:=Tryz.underlying3
 a3:=Tryz.isAgg3
 z3:=Tryz.sizeOf3
 v3:=Tryz.zeroValue3
 t4:=Tryz.underlying4
 a4:=Tryz.isAgg4
 z4:=Tryz.sizeOf4
 v4:=Tryz.zeroValue4
 t5:=Tryz.underlying5
 a5:=Tryz.isAgg5
 z5:=Tryz.sizeOf5
 v5:=Tryz.zeroValue5
 t9:=Tryz.underlying9
 a9:=Tryz.isAgg9
 z9:=Tryz.sizeOf9
 v9:=Tryz.zeroValue9
 t22:=Tryz.underlying36
 a22:=Tryz.isAgg36
 z22:=Tryz.sizeOf36
 v22:=Tryz.zeroValue36
 t25:=Tryz.underlying130
 a25:=Tryz.isAgg130
 z25:=Tryz.sizeOf130
 v25:=Tryz.zeroValue130
 t39:=Tryz.underlying214
 a39:=Tryz.isAgg214
 z39:=Tryz.sizeOf214
 v39:=Tryz.zeroValue214
 t45:=Tryz.underlying265
 a45:=Tryz.isAgg265
 z45:=Tryz.sizeOf265
 v45:=Tryz.zeroValue265
 t46:=Tryz.underlying266
 a46:=Tryz.isAgg266
 z46:=Tryz.sizeOf266
 v46:=Tryz.zeroValue266
 t50:=Tryz.underlying180
 a50:=Tryz.isAgg180
 z50:=Tryz.sizeOf180
 v50:=Tryz.zeroValue180
 t53:=Tryz.underlying272
 a53:=Tryz.isAgg272
 z53:=Tryz.sizeOf272
 v53:=Tryz.zeroValue272
 t55:=Tryz.underlying274
 a55:=Tryz.isAgg274
 z55:=Tryz.sizeOf274
 v55:=Tryz.zeroValue274
 t66:=Tryz.underlying298
 a66:=Tryz.isAgg298
 z66:=Tryz.sizeOf298
 v66:=Tryz.zeroValue298
 t70:=Tryz.underlying302
 a70:=Tryz.isAgg302
 z70:=Tryz.sizeOf302
 v70:=Tryz.zeroValue302
 t76:=Tryz.underlying316
 a76:=Tryz.isAgg316
 z76:=Tryz.sizeOf316
 v76:=Tryz.zeroValue316
 t77:=Tryz.underlying317
 a77:=Tryz.isAgg317
 z77:=Tryz.sizeOf317
 v77:=Tryz.zeroValue317 }
end Go.Proofs
namespace Go.Proofs.YtlmngncogomgeaaGreatDoor
section
open Go
theorem eP {a b:Bool} (h:a=true) (k:b=true):(a && b)=true:=by rw [h,k]; rfl
def PY (P:Program) (y:Func) (c:OpenClaim):List (Option IntKind):=if c.domain.isEmpty then [] else y.params.toList.map fun t=>match P.underlying t with | some (.int k)=>some k | _=>none
theorem NR {P:Program} {f:FuncId} {y:Func} {s:ChangeSpec} {c:OpenClaim} (h0:c.wf (OpenSpec.ofChange s)=true) (h1:laidOutB P=true) (h2:mapsRowed P=true) (h3:y.params.all (P.readableRec ·)=true) (h4:namedTie P c.named s.vars=true) (h5:(c.stops == [])=true) (h6:(P.stops == [])=true) (h7:(c.knobs == [])=true) (h8:(P.stopKnobs == [])=true) (h9:(c.inPlace == P.inPlace f)=true) (I:(c.unfollowed == P.unfollowed f)=true) (J:(c.recurses == P.recurses f)=true) (U:(c.named == P.varsNamed f)=true) (a0:(c.maps == (y.params.toList ++ s.plain.varTypes P).any (P.mapsRec ·))=true) (a1:(c.ifaces == (y.params.toList ++ s.plain.varTypes P).any (P.ifacesRec ·))=true) (a2:(c.mapsOut == P.mapsAmong y.resultTypes.toList)=true) (a3:(c.loops == (y.params.toList ++ s.plain.varTypes P).any (P.loopsFrom ·))=true) (a4:(c.wideKeys == (y.params.toList ++ s.plain.varTypes P ++ y.resultTypes.toList).any (P.wideKeysFrom ·))=true) (a5:s.vars.all (P.varReadable ·)=true) (a6:y.resultTypes.all (fun t=>P.readableRec t && decide (t < P.types.size))=true) (a7:(c.ifacesOut == y.resultTypes.toList.any (P.ifacesRec ·))=true) (a8:(c.loopsOut == y.resultTypes.toList.any (P.loopsFrom ·))=true) (a9:(c.plainKeys == P.plainKeys)=true) (aa:c.shortTexts.isNone=true) (ab:P.stopsHeard=true) (ac:P.mayEnter=true) (ae:(c.lifted == P.liftsFinal)=true) (af:(P.make == some c.make)=true) (ag:(c.kinds == PY P y c)=true) (am:(c.pinned == c.pinnedBy)=true) (ao:(c.veiled == (y.params.toList ++ s.plain.varTypes P ++ y.resultTypes.toList).any (P.veiledRec ·))=true) (ap:c.veiledFits P y.params.toList (y.params.toList ++ s.plain.varTypes P ++ y.resultTypes.toList)=true):joinedFacts P f y s c=true:=by
 unfold joinedFacts;exact eP (eP (eP (eP (eP (eP (eP (eP (eP (eP (eP (eP (eP (eP (eP (eP (eP (eP (eP (eP (eP (eP (eP (eP (eP (eP (eP (eP (eP (eP (eP (h0) h1) h2) h3) h4) h5) h6) h7) h8) h9) I) J) U) a0) a1) a2) a3) a4) a5) a6) a7) a8) a9) aa) ab) ac) ae) af) ag) am) ao) ap
theorem TJ:laidOutB Tryz.prog=true:=by kernel_rfl
theorem TK:mapsRowed Tryz.prog=true:=by kernel_rfl
theorem PZ:Tryz.prog.stopsHeard=true:=by kernel_rfl
theorem P5:Tryz.prog.mayEnter=true:=by kernel_rfl
end
section
open Go.RowKit Go.Extern.Stop Go.Stop Go.Extern
theorem ER (t:Value) (w:World):
  Calls Tryz.prog 257 #[.nilIface,t] w fun e w'=>e=.returned (.bool false)∧w'=w:=by
 go_enter Tryz.func257,Tryz.ntmps257
 go_wp2;go_ret;exact ⟨rfl,rfl⟩
theorem Ko (t:Addr) (w:World):(ReflectliteValue.unpack (.iface 331 (.pointer (some t)))).run Tryz.prog w
 = .ok (.agg #[.pointer (some ⟨5,331,none⟩),.pointer (some ⟨w.heap.size,0,none⟩),.int .u64 150]) (w.alloc (.cells #[.pointer (some t)] 331)):=by kernel_rfl
theorem TM (a : Addr) (w : World) : (ReflectliteValue.methodAny (ReflectliteValue.valueError "reflectlite.Value.Type" 0) (fun t _ _ _ => ReflectliteType.toType t) #[.agg #[.pointer (some ⟨5, 331, none⟩), .pointer (some a), .int .u64 150]]).run Tryz.prog w
 = .ok (.iface 358 (.agg #[.pointer (some ⟨5,331,none⟩)])) w:=by kernel_rfl
theorem GV (h : Value) (w : World) : (Go.method 500 358 (.agg #[h]) "Kind").run Tryz.prog w = .ok (297, h) w := by kernel_rfl
theorem TN (w:World):((ReflectliteType.abiMethod fun t=>(fun a:Nat=>Value.int IntKind.u8 (a:Int)) <$> Rtype.kind t) #[.pointer (some ⟨5,331,none⟩)]).run Tryz.prog w=.ok (.int .u8 22) w:=by kernel_rfl
theorem U9 (w:World):((ReflectliteType.abiMethod fun t=>(fun a:Nat=>Value.int IntKind.u8 (a:Int)) <$> Rtype.kind t) #[.pointer (some ⟨5,246,none⟩)]).run Tryz.prog w=.ok (.int .u8 22) w:=by kernel_rfl
theorem rlm (z:Sem Value) (f:TypeId→Addr→Nat→Nat→Sem Value) (v:Value):
 ReflectliteValue.method z f #[v]=(do match ← ReflectliteValue.parts v with | none=>z | some (t,a,fl)=>f t a fl (fl % 32)):=rfl
theorem GX (a:Addr) (w:World):(ReflectliteValue.parts (.agg #[.pointer (some ⟨5,331,none⟩),.pointer (some a),.int .u64 150])).run Tryz.prog w=.ok (some (331,a,150)) w:=by kernel_rfl
theorem P6 (a p:Addr) (W:World) (ha:W.cell? a=some (.pointer (some p))):
  (ReflectliteValue.method (ReflectliteValue.valueError "reflectlite.Value.IsNil" 0) ReflectliteValue.isNil #[.agg #[.pointer (some ⟨5, 331, none⟩), .pointer (some a), .int .u64 150]]).run Tryz.prog W = .ok (.bool false) W := by
 rw [rlm];simp only [Sem.run_bind,GX,Result.andThen];simp [ReflectliteValue.isNil,loadVar,isAgg,underlying,Tryz.underlying331,ha,Result.andThen]
theorem GY (h : Value) (w : World) : (Go.method 500 358 (.agg #[h]) "Elem").run Tryz.prog w = .ok (308, .agg #[h]) w := by kernel_rfl
theorem vU (h : Value) (w : World) : (Go.method 500 358 (.agg #[h]) "Implements").run Tryz.prog w = .ok (309, .agg #[h]) w := by kernel_rfl
theorem sV (h : Value) (w : World) : (Go.method 500 358 (.agg #[h]) "AssignableTo").run Tryz.prog w = .ok (306, .agg #[h]) w := by kernel_rfl
theorem TP (w:World):(ReflectliteType.method ReflectliteType.elem #[.agg #[.pointer (some ⟨5,331,none⟩)]]).run Tryz.prog w=.ok (.iface 358 (.agg #[.pointer (some ⟨5,246,none⟩)])) w:=by kernel_rfl
theorem ES (w : World) : (ReflectliteType.relation "Implements" ReflectliteType.implements_ #[.agg #[.pointer (some ⟨5, 246, none⟩)], .iface 358 (.agg #[.pointer (some ⟨5, 156, none⟩)])]).run Tryz.prog w = .ok (.bool true) w := by kernel_rfl
theorem P7 (v:Value) (w:World):(ReflectliteType.typeOf #[.iface 246 v]).run Tryz.prog w=.ok (.iface 358 (.agg #[.pointer (some ⟨5,246,none⟩)])) w:=by kernel_rfl
theorem EU (w : World) : (ReflectliteType.relation "AssignableTo" ReflectliteType.assignableTo #[.agg #[.pointer (some ⟨5, 246, none⟩)], .iface 358 (.agg #[.pointer (some ⟨5, 246, none⟩)])]).run Tryz.prog w = .ok (.bool true) w := by kernel_rfl
theorem NS (e:Addr) (w:World):(ReflectliteValue.unpack (.iface 246 (.pointer (some e)))).run Tryz.prog w
 = .ok (.agg #[.pointer (some ⟨5,246,none⟩),.pointer (some ⟨w.heap.size,0,none⟩),.int .u64 150]) (w.alloc (.cells #[.pointer (some e)] 246)):=by kernel_rfl
theorem NT (w:World):(Rtype.elem? 331).run Tryz.prog w=.ok (some 246) w:=by kernel_rfl
theorem VS (p:Addr) (w:World):(ReflectliteValue.mk 246 p ReflectliteValue.flagAddr).run Tryz.prog w=.ok (.agg #[.pointer (some ⟨5,246,none⟩),.pointer (some p),.int .u64 406]) w:=by kernel_rfl
theorem P8 (a p:Addr) (W:World) (ha:W.cell? a=some (.pointer (some p))):
  (ReflectliteValue.method (ReflectliteValue.valueError "reflectlite.Value.Elem" 0) ReflectliteValue.elem #[.agg #[.pointer (some ⟨5, 331, none⟩), .pointer (some a), .int .u64 150]]).run Tryz.prog W
   = .ok (.agg #[.pointer (some ⟨5,246,none⟩),.pointer (some p),.int .u64 406]) W:=by
 rw [rlm];simp only [Sem.run_bind,GX,Result.andThen];simp [ReflectliteValue.elem,loadVar,isAgg,underlying,Tryz.underlying331,ha,Result.andThen,NT,VS]
theorem rls (v x:Value):ReflectliteValue.set #[v,x]=(do
 let (some (dst,a,fl),some (src,b,_)):=(← ReflectliteValue.parts v,← ReflectliteValue.parts x)
  | unsupported (.noEntry "extern/(internal/reflectlite.Value).Set.zeroValue")
 if fl / ReflectliteValue.flagAddr % 2 == 0 then unsupported (.noEntry "extern/(internal/reflectlite.Value).Set.unaddressable")
 let val ← loadVar src b
 if ← Rtype.directlyAssignable dst src then storeVar dst a val
 else if ← Rtype.implements dst src then
  if (← Rtype.kind src) == 20 then
   match val with
   | .nilIface => unsupported (.noEntry "extern/reflectlite: a nil value of one interface type handed on as a value of another")
   | _=>storeVar dst a val
  else storeVar dst a (.iface src val)
 else panicString ("reflectlite.Set: value of type " ++ (← Rtype.spelt src) ++ " is not assignable to type " ++ (← Rtype.spelt dst))
 pure (.tuple #[])):=rfl
theorem P9 (a:Addr) (w:World):(ReflectliteValue.parts (.agg #[.pointer (some ⟨5,246,none⟩),.pointer (some a),.int .u64 406])).run Tryz.prog w=.ok (some (246,a,406)) w:=by kernel_rfl
theorem TQ (a:Addr) (w:World):(ReflectliteValue.parts (.agg #[.pointer (some ⟨5,246,none⟩),.pointer (some a),.int .u64 150])).run Tryz.prog w=.ok (some (246,a,150)) w:=by kernel_rfl
theorem Qa (w:World):(Rtype.directlyAssignable 246 246).run Tryz.prog w=.ok true w:=by kernel_rfl
theorem VJ (y b e:Addr) (I:Value) (W:World) (J:W.cell? b=some (.pointer (some e))) (U:W.cell? y=some I) (hf:W.frozen? y=false):
  (ReflectliteValue.set #[.agg #[.pointer (some ⟨5,246,none⟩),.pointer (some y),.int .u64 406],.agg #[.pointer (some ⟨5,246,none⟩),.pointer (some b),.int .u64 150]]).run Tryz.prog W
   = .ok (.tuple #[]) (W.setCell y (.pointer (some e))):=by
 rw [rls];simp only [Sem.run_bind,P9,TQ,Result.andThen];simp [ReflectliteValue.flagAddr,loadVar,isAgg,underlying,Tryz.underlying246,J,Result.andThen,Qa,storeVar,Value.cells,storeCells,Addr.add];rw [run_store Tryz.prog W y _ _ (by rfl)];simp [U,hf]
theorem EW (e t:Addr) (y:Value) (w:World) (hg:w.cell? ⟨2,0,none⟩=some (.iface 358 (.agg #[.pointer (some ⟨5,156,none⟩)]))) (I:w.cell? t=some y) (U:w.frozen? t=false):
  Calls Tryz.prog 257 #[.iface 246 (.pointer (some e)),.iface 331 (.pointer (some t))] w fun ev w'=>ev=.returned (.bool true)∧w'=((((w.alloc (.cells #[.pointer (some t)] 331)).alloc (.cells #[.pointer (some ⟨5,331,none⟩),.pointer (some ⟨w.heap.size,0,none⟩),.int .u64 150] 342)).alloc (.cells #[.pointer (some ⟨5,331,none⟩),.pointer (some ⟨w.heap.size,0,none⟩),.int .u64 150] 342)).alloc (.cells #[.pointer (some e)] 246)).setCell t (.pointer (some e)):=by
 have h6:=@run_callFunc_extern Tryz.prog 271 _ (fun args=>ReflectliteValue.unpack (args.getD 0 (.tuple #[]))) Tryz.func271 (by kernel_rfl) (by kernel_rfl) (by kernel_rfl) (by kernel_rfl)
 have h7 := @run_callFunc_extern Tryz.prog 272 _ (ReflectliteValue.methodAny (ReflectliteValue.valueError "reflectlite.Value.Type" 0) (fun t _ _ _ => ReflectliteType.toType t)) Tryz.func272 (by kernel_rfl) (by kernel_rfl) (by kernel_rfl) (by kernel_rfl)
 have h8 := @run_callFunc_extern Tryz.prog 273 _ (ReflectliteValue.method (ReflectliteValue.valueError "reflectlite.Value.IsNil" 0) ReflectliteValue.isNil) Tryz.func273 (by kernel_rfl) (by kernel_rfl) (by kernel_rfl) (by kernel_rfl)
 have a1:=@run_callFunc_extern Tryz.prog 297 _ (ReflectliteType.abiMethod fun t=>do pure (.int .u8 (← Rtype.kind t))) Tryz.func297 (by kernel_rfl) (by kernel_rfl) (by kernel_rfl) (by kernel_rfl);have a2:=@run_callFunc_extern Tryz.prog 308 _ (ReflectliteType.method ReflectliteType.elem) Tryz.func308 (by kernel_rfl) (by kernel_rfl) (by kernel_rfl) (by kernel_rfl)
 have a3 := @run_callFunc_extern Tryz.prog 309 _ (ReflectliteType.relation "Implements" ReflectliteType.implements_) Tryz.func309 (by kernel_rfl) (by kernel_rfl) (by kernel_rfl) (by kernel_rfl)
 have a4:=@run_callFunc_extern Tryz.prog 278 _ ReflectliteType.typeOf Tryz.func278 (by kernel_rfl) (by kernel_rfl) (by kernel_rfl) (by kernel_rfl)
 have a5 := @run_callFunc_extern Tryz.prog 306 _ (ReflectliteType.relation "AssignableTo" ReflectliteType.assignableTo) Tryz.func306 (by kernel_rfl) (by kernel_rfl) (by kernel_rfl) (by kernel_rfl)
 have a6 := @run_callFunc_extern Tryz.prog 279 _ (ReflectliteValue.method (ReflectliteValue.valueError "reflectlite.Value.Elem" 0) ReflectliteValue.elem) Tryz.func279 (by kernel_rfl) (by kernel_rfl) (by kernel_rfl) (by kernel_rfl)
 have a7:=@run_callFunc_extern Tryz.prog 280 _ ReflectliteValue.set Tryz.func280 (by kernel_rfl) (by kernel_rfl) (by kernel_rfl) (by kernel_rfl);have tO:=P7;have mA:=sV;have a8:=EU;have a9:=NS;have f6:=Ko;have f7:=TM;have mK:=GV;have mE:=GY;have mI:=vU;have aa:=TN;have ab:=U9;have ac:=TP;have ae:=ES;have n8:=P6 ⟨w.heap.size,0,none⟩ t ((w.alloc (.cells #[.pointer (some t)] 331)).alloc (.cells #[.pointer (some ⟨5,331,none⟩),.pointer (some ⟨w.heap.size,0,none⟩),.int .u64 150] 342)) (by simp)
 have a0:2 < w.heap.size:=by
  rcases Nat.lt_or_ge 2 w.heap.size with h | h
  ·exact h
  ·simp [World.cell?,Array.getElem?_eq_none h] at hg
 have af:((w.alloc (.cells #[.pointer (some t)] 331)).alloc (.cells #[.pointer (some ⟨5,331,none⟩),.pointer (some ⟨w.heap.size,0,none⟩),.int .u64 150] 342)).cell? ⟨2,0,none⟩=some (.iface 358 (.agg #[.pointer (some ⟨5,156,none⟩)])):=by
  rw [World.cell?_alloc_lt _ _ ⟨2,0,none⟩ (by first | (simp; done) | (simp; omega)),World.cell?_alloc_lt _ _ ⟨2,0,none⟩ a0]; exact hg
 have J:t.block < w.heap.size:=by
  rcases Nat.lt_or_ge t.block w.heap.size with h | h
  ·exact h
  ·simp [World.cell?,Array.getElem?_eq_none h] at I
 have el:=P8 ⟨w.heap.size,0,none⟩ t (((w.alloc (.cells #[.pointer (some t)] 331)).alloc (.cells #[.pointer (some ⟨5,331,none⟩),.pointer (some ⟨w.heap.size,0,none⟩),.int .u64 150] 342)).alloc (.cells #[.pointer (some ⟨5,331,none⟩),.pointer (some ⟨w.heap.size,0,none⟩),.int .u64 150] 342)) (by rw [World.cell?_alloc_lt _ _ ⟨w.heap.size,0,none⟩ (by simp; omega)]; simp)
 have st:=VJ t ⟨w.heap.size+1+1+1,0,none⟩ e y ((((w.alloc (.cells #[.pointer (some t)] 331)).alloc (.cells #[.pointer (some ⟨5,331,none⟩),.pointer (some ⟨w.heap.size,0,none⟩),.int .u64 150] 342)).alloc (.cells #[.pointer (some ⟨5,331,none⟩),.pointer (some ⟨w.heap.size,0,none⟩),.int .u64 150] 342)).alloc (.cells #[.pointer (some e)] 246))
  (by rw [World.cell?_alloc_at _ _ _ _ (by simp)]; rfl)
  (by rw [World.cell?_alloc_lt _ _ t (by simp; omega),World.cell?_alloc_lt _ _ t (by simp; omega),World.cell?_alloc_lt _ _ t (by simp; omega),World.cell?_alloc_lt _ _ t J]; exact I)
  (by rw [World.frozen?_alloc_old _ _ t (by simp; omega),World.frozen?_alloc_old _ _ t (by simp; omega),World.frozen?_alloc_old _ _ t (by simp; omega),World.frozen?_alloc_old _ _ t (Nat.ne_of_lt J)]; exact U)
 go_enter Tryz.func257,Tryz.ntmps257
 go_wp2;refine wp_loop_rounds 1 ?_;rw [rounds_succ];go_wp2;go_ret;exact ⟨rfl,rfl⟩
end
end Go.Proofs.YtlmngncogomgeaaGreatDoor
