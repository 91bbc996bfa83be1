/- Of the proof of FnDeltaNeeds: Shelf, SrtL, JP, AsE. -/
import Derived.Shelf.Small.Strs
import Derived.Shelf.Strings.BuilderK
import Derived.Shelf.Sort.Plain
import Derived.Shelf.Slices.Cells
import Derived.Shelf.Slices.In.SortNone
import Derived.Shelf.SlSortCmp.NoneTotal
import Derived.Test.YtkjinanbccloeaaGreatDoorProg
import Derived.SevenTiedAt
import Derived.Stop.Asserts
import Derived.RowKitTokens
import Derived.Test.YtkjinanbccloeaaGreatDoorE00
set_option linter.unusedVariables false
set_option maxHeartbeats 4000000
set_option maxRecDepth 100000
namespace Go.Proofs
open Go.Shelf
def Tryz.lays169_ren:Go.Shelf.Ren:=⟨fun | 169=>121 | n=>n,fun | 70=>182 | 9=>9 | 0=>0 | 72=>184 | 37=>22 | 127=>249 | 3=>3 | 5=>5 | n=>n,fun | n=>n⟩
theorem Tryz.lays169:Go.Proofs.Lays.n169 Tryz.prog Tryz.lays169_ren:={
 mixed:=by kernel_rfl
 f169:=Tryz.func121.trans (congrArg some (by kernel_rfl))
 t0:=Tryz.underlying0
 a0:=Tryz.isAgg0
 z0:=Tryz.sizeOf0
 v0:=Tryz.zeroValue0
 t3:=Tryz.underlying3
 a3:=Tryz.isAgg3
 z3:=Tryz.sizeOf3
 v3:=Tryz.zeroValue3
 t9:=Tryz.underlying9
 a9:=Tryz.isAgg9
 z9:=Tryz.sizeOf9
 v9:=Tryz.zeroValue9
 t37:=Tryz.underlying22
 a37:=Tryz.isAgg22
 z37:=Tryz.sizeOf22
 v37:=Tryz.zeroValue22
 t70:=Tryz.underlying182
 a70:=Tryz.isAgg182
 z70:=Tryz.sizeOf182
 v70:=Tryz.zeroValue182
 t72:=Tryz.underlying184
 a72:=Tryz.isAgg184
 z72:=Tryz.sizeOf184
 v72:=Tryz.zeroValue184
 t127:=Tryz.underlying249
 a127:=Tryz.isAgg249
 z127:=Tryz.sizeOf249
 v127:=Tryz.zeroValue249 }
theorem Tryz.Builder_Extra_169:Builder.Extra Tryz.prog Tryz.lays169_ren:={
 sizeBuilder:=by kernel_rfl
 liesBuilder:=by kernel_rfl
 t5:=Tryz.underlying5
 a5:=Tryz.isAgg5
 z5:=Tryz.sizeOf5
 v5:=Tryz.zeroValue5
 infoByte:=by kernel_rfl
 cellsByte:=by kernel_rfl
 sizeByte:=by kernel_rfl
 neB5:=by decide }
def Tryz.J5:Go.Shelf.Ren:=⟨fun | 106=>124 | 213=>182 | 265=>234 | n=>n,fun | 9=>9 | 3=>3 | n=>n,fun | n=>n⟩
theorem Tryz.WT:Go.Proofs.Lays.n106 Tryz.prog Tryz.J5:={
 mixed:=by kernel_rfl
 f106:=Tryz.func124.trans (congrArg some (by kernel_rfl))
 f213:=Tryz.func182.trans (congrArg some (by kernel_rfl))
 f265:=Tryz.func234.trans (congrArg some (by kernel_rfl))
 t3:=Tryz.underlying3
 a3:=Tryz.isAgg3
 z3:=Tryz.sizeOf3
 v3:=Tryz.zeroValue3
 t9:=Tryz.underlying9
 a9:=Tryz.isAgg9
 z9:=Tryz.sizeOf9
 v9:=Tryz.zeroValue9 }
open Go.RowKit in
theorem Tryz.strings_Compare (a b:ByteArray) (w:World):
 Calls Tryz.prog 124 #[.string a,.string b] w fun e w'=>e=.returned (.int .i64 (Lib.compareBytes a.data.toList b.data.toList))∧w'=w:=Any.strings_Compare Tryz.WT a b w
open Go.RowKit in
theorem Tryz.Builder_String_any_k (B b:Nat) (l:List UInt8) (w:World) (h:Lib.IsBuilderF 184 5 B b (Lib.byteCells l) w) (y:B≤w.heap.size):
 Calls Tryz.prog 121 #[.pointer (some ⟨b,0,none⟩)] w fun e w'=>e=.returned (.string ⟨l.toArray⟩)∧(Lib.IsBuilderF 184 5 B b (Lib.byteCells l) w'∧Below B w w'∧Lib.OthersKept 5 (some b) w w'):=Any.Builder_String_any_k Tryz.lays169 Tryz.Builder_Extra_169 B b l w h y
def Tryz.J6:Go.Shelf.Ren:=⟨fun | 190=>132 | 125=>165 | 258=>190 | 128=>222 | 129=>223 | 302=>244 | 303=>245 | 304=>246 | 305=>247 | 306=>248 | 307=>249 | 308=>227 | 309=>250 | 310=>251 | 333=>278 | 329=>267 | 330=>268 | 334=>279 | 335=>280 | 336=>271 | 344=>287 | n=>n,fun | 31=>44 | 9=>9 | 3=>3 | 46=>228 | 0=>0 | 51=>296 | 53=>298 | 4=>4 | 183=>290 | 182=>289 | 131=>121 | 5=>5 | 218=>340 | 222=>344 | 228=>367 | 229=>368 | n=>n,fun | n=>n⟩
theorem Tryz.lays190:Go.Proofs.Lays.n190 Tryz.prog Tryz.J6:={
 mixed:=by kernel_rfl
 f125:=Tryz.func165.trans (congrArg some (by kernel_rfl))
 f128:=Tryz.func222.trans (congrArg some (by kernel_rfl))
 f129:=Tryz.func223.trans (congrArg some (by kernel_rfl))
 f190:=Tryz.func132.trans (congrArg some (by kernel_rfl))
 f258:=Tryz.func190.trans (congrArg some (by kernel_rfl))
 f302:=Tryz.func244.trans (congrArg some (by kernel_rfl))
 f303:=Tryz.func245.trans (congrArg some (by kernel_rfl))
 f304:=Tryz.func246.trans (congrArg some (by kernel_rfl))
 f305:=Tryz.func247.trans (congrArg some (by kernel_rfl))
 f306:=Tryz.func248.trans (congrArg some (by kernel_rfl))
 f307:=Tryz.func249.trans (congrArg some (by kernel_rfl))
 f308:=Tryz.func227.trans (congrArg some (by kernel_rfl))
 f309:=Tryz.func250.trans (congrArg some (by kernel_rfl))
 f310:=Tryz.func251.trans (congrArg some (by kernel_rfl))
 f329:=Tryz.func267.trans (congrArg some (by kernel_rfl))
 f330:=Tryz.func268.trans (congrArg some (by kernel_rfl))
 f333:=Tryz.func278.trans (congrArg some (by kernel_rfl))
 f334:=Tryz.func279.trans (congrArg some (by kernel_rfl))
 f335:=Tryz.func280.trans (congrArg some (by kernel_rfl))
 f336:=Tryz.func271.trans (congrArg some (by kernel_rfl))
 f344:=Tryz.func287.trans (congrArg some (by kernel_rfl))
 t0:=Tryz.underlying0
 a0:=Tryz.isAgg0
 z0:=Tryz.sizeOf0
 v0:=Tryz.zeroValue0
 t3:=Tryz.underlying3
 a3:=Tryz.isAgg3
 z3:=Tryz.sizeOf3
 v3:=Tryz.zeroValue3
 t4:=Tryz.underlying4
 a4:=Tryz.isAgg4
 z4:=Tryz.sizeOf4
 v4:=Tryz.zeroValue4
 t5:=Tryz.underlying5
 a5:=Tryz.isAgg5
 z5:=Tryz.sizeOf5
 v5:=Tryz.zeroValue5
 t9:=Tryz.underlying9
 a9:=Tryz.isAgg9
 z9:=Tryz.sizeOf9
 v9:=Tryz.zeroValue9
 t31:=Tryz.underlying44
 a31:=Tryz.isAgg44
 z31:=Tryz.sizeOf44
 v31:=Tryz.zeroValue44
 t46:=Tryz.underlying228
 a46:=Tryz.isAgg228
 z46:=Tryz.sizeOf228
 v46:=Tryz.zeroValue228
 t51:=Tryz.underlying296
 a51:=Tryz.isAgg296
 z51:=Tryz.sizeOf296
 v51:=Tryz.zeroValue296
 t53:=Tryz.underlying298
 a53:=Tryz.isAgg298
 z53:=Tryz.sizeOf298
 v53:=Tryz.zeroValue298
 t131:=Tryz.underlying121
 a131:=Tryz.isAgg121
 z131:=Tryz.sizeOf121
 v131:=Tryz.zeroValue121
 t182:=Tryz.underlying289
 a182:=Tryz.isAgg289
 z182:=Tryz.sizeOf289
 v182:=Tryz.zeroValue289
 t183:=Tryz.underlying290
 a183:=Tryz.isAgg290
 z183:=Tryz.sizeOf290
 v183:=Tryz.zeroValue290
 t218:=Tryz.underlying340
 a218:=Tryz.isAgg340
 z218:=Tryz.sizeOf340
 v218:=Tryz.zeroValue340
 t222:=Tryz.underlying344
 a222:=Tryz.isAgg344
 z222:=Tryz.sizeOf344
 v222:=Tryz.zeroValue344
 t228:=Tryz.underlying367
 a228:=Tryz.isAgg367
 z228:=Tryz.sizeOf367
 v228:=Tryz.zeroValue367
 t229:=Tryz.underlying368
 a229:=Tryz.isAgg368
 z229:=Tryz.sizeOf368
 v229:=Tryz.zeroValue368 }
open Go.Sort Go.RowKit in
theorem Tryz.slices_Sort_string (blk off cap:Nat) (I:List (List UInt8)) (w:World) (hH:Holds encStr w blk off I.toArray) (J:blk < w.heap.size) (U:I.length < 4611686018427387904):
 Calls Tryz.prog 132 #[.slice (some ⟨blk,off,none⟩) I.length cap] w fun e w'=>
  e=.returned (.tuple #[])∧∃ n os,w'=grow (putRow encStr (Sort.ahead w n) blk off (I.mergeSort fun x y=>decide (x≤y)).toArray) os:=Any.slices_Sort_string Tryz.lays190 blk off cap I w hH J U
def Tryz.lays194_ren:Go.Shelf.Ren:=⟨fun | 194=>226 | n=>n,fun | 31=>44 | 9=>9 | 3=>3 | 4=>4 | 0=>0 | n=>n,fun | n=>n⟩
theorem Tryz.lays194:Go.Proofs.Lays.n194 Tryz.prog Tryz.lays194_ren:={
 mixed:=by kernel_rfl
 f194:=Tryz.func226.trans (congrArg some (by kernel_rfl))
 t0:=Tryz.underlying0
 a0:=Tryz.isAgg0
 z0:=Tryz.sizeOf0
 v0:=Tryz.zeroValue0
 t3:=Tryz.underlying3
 a3:=Tryz.isAgg3
 z3:=Tryz.sizeOf3
 v3:=Tryz.zeroValue3
 t4:=Tryz.underlying4
 a4:=Tryz.isAgg4
 z4:=Tryz.sizeOf4
 v4:=Tryz.zeroValue4
 t9:=Tryz.underlying9
 a9:=Tryz.isAgg9
 z9:=Tryz.sizeOf9
 v9:=Tryz.zeroValue9
 t31:=Tryz.underlying44
 a31:=Tryz.isAgg44
 z31:=Tryz.sizeOf44
 v31:=Tryz.zeroValue44 }
open Go.RowKit Go.Lib Go.Sort in
theorem Tryz.slices_Compact_string (blk off cap:Nat) (zs:List (List UInt8)) (w:World) (J:Holds encStr w blk off zs.toArray) (I:zs.length≤9223372036854775807) (y:zs.length≤cap):
 Calls Tryz.prog 226 #[.slice (some ⟨blk,off,none⟩) zs.length cap] w fun e w'=>e=.returned (.slice (some ⟨blk,off,none⟩) (Lib.compact zs).length cap)∧∃ q,w'=putRow encStr (Sort.ahead w q) blk off (Lib.compact zs ++ List.replicate (zs.length - (Lib.compact zs).length) []).toArray:=Any.slices_Compact_string Tryz.lays194 blk off cap zs w J I y
open Go.RowKit Go.Lib Go.Sort in
theorem Tryz.slices_Compact_string_empty (a:Option Addr) (cap:Nat) (w:World):
 Calls Tryz.prog 226 #[.slice a 0 cap] w fun e w'=>e=.returned (.slice a 0 cap)∧w'=w:=Any.slices_Compact_string_empty Tryz.lays194 a cap w
def Tryz.QN:Go.Shelf.Ren:=⟨fun | 6=>103 | 15=>165 | 14=>164 | 28=>222 | 29=>223 | 20=>214 | 21=>215 | 22=>216 | 23=>217 | 24=>218 | 25=>219 | 26=>220 | 27=>221 | 46=>266 | 47=>267 | 48=>268 | 49=>269 | 50=>270 | 57=>285 | n=>n,fun | 22=>24 | 24=>33 | 25=>110 | 3=>3 | 39=>228 | 0=>0 | 53=>296 | 55=>298 | 4=>4 | 46=>290 | 45=>289 | 50=>121 | 5=>5 | 9=>9 | 66=>340 | 70=>344 | 76=>367 | 77=>368 | n=>n,fun | n=>n⟩
theorem Tryz.sortA:Go.Proofs.SlLaysF0.n6 Tryz.prog Tryz.QN:={
 mixed:=by kernel_rfl
 f6:=⟨Tryz.f103.name,by decide,Tryz.func103.trans (congrArg some (by kernel_rfl))⟩
 f14:=⟨Tryz.f164.name,by decide,Tryz.func164.trans (congrArg some (by kernel_rfl))⟩
 f15:=Tryz.func165.trans (congrArg some (by kernel_rfl))
 f20:=⟨Tryz.f214.name,by decide,Tryz.func214.trans (congrArg some (by kernel_rfl))⟩
 f21:=⟨Tryz.f215.name,by decide,Tryz.func215.trans (congrArg some (by kernel_rfl))⟩
 f22:=⟨Tryz.f216.name,by decide,Tryz.func216.trans (congrArg some (by kernel_rfl))⟩
 f23:=⟨Tryz.f217.name,by decide,Tryz.func217.trans (congrArg some (by kernel_rfl))⟩
 f24:=⟨Tryz.f218.name,by decide,Tryz.func218.trans (congrArg some (by kernel_rfl))⟩
 f25:=⟨Tryz.f219.name,by decide,Tryz.func219.trans (congrArg some (by kernel_rfl))⟩
 f26:=⟨Tryz.f220.name,by decide,Tryz.func220.trans (congrArg some (by kernel_rfl))⟩
 f27:=⟨Tryz.f221.name,by decide,Tryz.func221.trans (congrArg some (by kernel_rfl))⟩
 f28:=Tryz.func222.trans (congrArg some (by kernel_rfl))
 f29:=Tryz.func223.trans (congrArg some (by kernel_rfl))
 f46:=⟨Tryz.f266.name,by decide,Tryz.func266.trans (congrArg some (by kernel_rfl))⟩
 f47:=Tryz.func267.trans (congrArg some (by kernel_rfl))
 f48:=Tryz.func268.trans (congrArg some (by kernel_rfl))
 f49:=⟨Tryz.f269.name,by decide,Tryz.func269.trans (congrArg some (by kernel_rfl))⟩
 f50:=⟨Tryz.f270.name,by decide,Tryz.func270.trans (congrArg some (by kernel_rfl))⟩
 f57:=⟨Tryz.f285.name,by decide,Tryz.func285.trans (congrArg some (by kernel_rfl))⟩
 t0:=Tryz.underlying0
 a0:=Tryz.isAgg0
 z0:=Tryz.sizeOf0
 v0:=Tryz.zeroValue0
 t3:=Tryz.underlying3
 a3:=Tryz.isAgg3
 z3:=Tryz.sizeOf3
 v3:=Tryz.zeroValue3
 t4:=Tryz.underlying4
 a4:=Tryz.isAgg4
 z4:=Tryz.sizeOf4
 v4:=Tryz.zeroValue4
 t5:=Tryz.underlying5
 a5:=Tryz.isAgg5
 z5:=Tryz.sizeOf5
 v5:=Tryz.zeroValue5
 t9:=Tryz.underlying9
 a9:=Tryz.isAgg9
 z9:=Tryz.sizeOf9
 v9:=Tryz.zeroValue9
 t22:=Tryz.underlying24
 a22:=Tryz.isAgg24
 z22:=Tryz.sizeOf24
 v22:=Tryz.zeroValue24
 t25:=Tryz.underlying110
 a25:=Tryz.isAgg110
 z25:=Tryz.sizeOf110
 v25:=Tryz.zeroValue110
 t39:=Tryz.underlying228
 a39:=Tryz.isAgg228
 z39:=Tryz.sizeOf228
 v39:=Tryz.zeroValue228
 t45:=Tryz.underlying289
 a45:=Tryz.isAgg289
 z45:=Tryz.sizeOf289
 v45:=Tryz.zeroValue289
 t46:=Tryz.underlying290
 a46:=Tryz.isAgg290
 z46:=Tryz.sizeOf290
 v46:=Tryz.zeroValue290
 t50:=Tryz.underlying121
 a50:=Tryz.isAgg121
 z50:=Tryz.sizeOf121
 v50:=Tryz.zeroValue121
 t53:=Tryz.underlying296
 a53:=Tryz.isAgg296
 z53:=Tryz.sizeOf296
 v53:=Tryz.zeroValue296
 t55:=Tryz.underlying298
 a55:=Tryz.isAgg298
 z55:=Tryz.sizeOf298
 v55:=Tryz.zeroValue298
 t66:=Tryz.underlying340
 a66:=Tryz.isAgg340
 z66:=Tryz.sizeOf340
 v66:=Tryz.zeroValue340
 t70:=Tryz.underlying344
 a70:=Tryz.isAgg344
 z70:=Tryz.sizeOf344
 v70:=Tryz.zeroValue344
 t76:=Tryz.underlying367
 a76:=Tryz.isAgg367
 z76:=Tryz.sizeOf367
 v76:=Tryz.zeroValue367
 t77:=Tryz.underlying368
 a77:=Tryz.isAgg368
 z77:=Tryz.sizeOf368
 v77:=Tryz.zeroValue368 }
end Go.Proofs
namespace Go.Proofs.YtkjinanbccloeaaGreatDoor
section
open Go
theorem gq {a b:Bool} (h:a=true) (k:b=true):(a && b)=true:=by rw [h,k]; rfl
def Ud (P:Program) (y:Func) (c:OpenClaim):List (Option IntKind):=if c.domain.isEmpty then [] else y.params.toList.map fun t=>match P.underlying t with | some (.int k)=>some k | _=>none
theorem QO {P:Program} {f:FuncId} {y:Func} {s:ChangeSpec} {c:OpenClaim} (h0:c.wf (OpenSpec.ofChange s)=true) (h1:laidOutB P=true) (h2:mapsRowed P=true) (h3:y.params.all (P.readableRec ·)=true) (h4:namedTie P c.named s.vars=true) (h5:(c.stops == [])=true) (h6:(P.stops == [])=true) (h7:(c.knobs == [])=true) (h8:(P.stopKnobs == [])=true) (h9:(c.inPlace == P.inPlace f)=true) (I:(c.unfollowed == P.unfollowed f)=true) (J:(c.recurses == P.recurses f)=true) (U:(c.named == P.varsNamed f)=true) (a0:(c.maps == (y.params.toList ++ s.plain.varTypes P).any (P.mapsRec ·))=true) (a1:(c.ifaces == (y.params.toList ++ s.plain.varTypes P).any (P.ifacesRec ·))=true) (a2:(c.mapsOut == P.mapsAmong y.resultTypes.toList)=true) (a3:(c.loops == (y.params.toList ++ s.plain.varTypes P).any (P.loopsFrom ·))=true) (a4:(c.wideKeys == (y.params.toList ++ s.plain.varTypes P ++ y.resultTypes.toList).any (P.wideKeysFrom ·))=true) (a5:s.vars.all (P.varReadable ·)=true) (a6:y.resultTypes.all (fun t=>P.readableRec t && decide (t < P.types.size))=true) (a7:(c.ifacesOut == y.resultTypes.toList.any (P.ifacesRec ·))=true) (a8:(c.loopsOut == y.resultTypes.toList.any (P.loopsFrom ·))=true) (a9:(c.plainKeys == P.plainKeys)=true) (aa:c.shortTexts.isNone=true) (ab:P.stopsHeard=true) (ac:P.mayEnter=true) (ae:(c.lifted == P.liftsFinal)=true) (af:(P.make == some c.make)=true) (ag:(c.kinds == Ud P y c)=true) (am:(c.pinned == c.pinnedBy)=true) (ao:(c.veiled == (y.params.toList ++ s.plain.varTypes P ++ y.resultTypes.toList).any (P.veiledRec ·))=true) (aq:c.veiledFits P y.params.toList (y.params.toList ++ s.plain.varTypes P ++ y.resultTypes.toList)=true):joinedFacts P f y s c=true:=by
 unfold joinedFacts;exact gq (gq (gq (gq (gq (gq (gq (gq (gq (gq (gq (gq (gq (gq (gq (gq (gq (gq (gq (gq (gq (gq (gq (gq (gq (gq (gq (gq (gq (gq (gq (h0) h1) h2) h3) h4) h5) h6) h7) h8) h9) I) J) U) a0) a1) a2) a3) a4) a5) a6) a7) a8) a9) aa) ab) ac) ae) af) ag) am) ao) aq
theorem WU:laidOutB Tryz.prog=true:=by kernel_rfl
theorem WV:mapsRowed Tryz.prog=true:=by kernel_rfl
theorem Ue:Tryz.prog.stopsHeard=true:=by kernel_rfl
theorem Uf:Tryz.prog.mayEnter=true:=by kernel_rfl
end
section
open Go.RowKit Go.Extern.Stop Go.Stop Go.Extern
theorem I7 (t:Value) (w:World):
  Calls Tryz.prog 189 #[.nilIface,t] w fun e w'=>e=.returned (.bool false)∧w'=w:=by
 go_enter Tryz.func189,Tryz.ntmps189
 go_wp2;go_ret;exact ⟨rfl,rfl⟩
theorem Ot (t:Addr) (w:World):(ReflectliteValue.unpack (.iface 257 (.pointer (some t)))).run Tryz.prog w
 = .ok (.agg #[.pointer (some ⟨2,257,none⟩),.pointer (some ⟨w.heap.size,0,none⟩),.int .u64 150]) (w.alloc (.cells #[.pointer (some t)] 257)):=by kernel_rfl
theorem WW (a : Addr) (w : World) : (ReflectliteValue.methodAny (ReflectliteValue.valueError "reflectlite.Value.Type" 0) (fun t _ _ _ => ReflectliteType.toType t) #[.agg #[.pointer (some ⟨2, 257, none⟩), .pointer (some a), .int .u64 150]]).run Tryz.prog w
 = .ok (.iface 350 (.agg #[.pointer (some ⟨2,257,none⟩)])) w:=by kernel_rfl
theorem J7 (h : Value) (w : World) : (Go.method 501 350 (.agg #[h]) "Kind").run Tryz.prog w = .ok (304, h) w := by kernel_rfl
theorem WX (w:World):((ReflectliteType.abiMethod fun t=>(fun a:Nat=>Value.int IntKind.u8 (a:Int)) <$> Rtype.kind t) #[.pointer (some ⟨2,257,none⟩)]).run Tryz.prog w=.ok (.int .u8 22) w:=by kernel_rfl
theorem Yd (w:World):((ReflectliteType.abiMethod fun t=>(fun a:Nat=>Value.int IntKind.u8 (a:Int)) <$> Rtype.kind t) #[.pointer (some ⟨2,255,none⟩)]).run Tryz.prog w=.ok (.int .u8 22) w:=by kernel_rfl
theorem rlm (z:Sem Value) (f:TypeId→Addr→Nat→Nat→Sem Value) (v:Value):
 ReflectliteValue.method z f #[v]=(do match ← ReflectliteValue.parts v with | none=>z | some (t,a,fl)=>f t a fl (fl % 32)):=rfl
theorem J8 (a:Addr) (w:World):(ReflectliteValue.parts (.agg #[.pointer (some ⟨2,257,none⟩),.pointer (some a),.int .u64 150])).run Tryz.prog w=.ok (some (257,a,150)) w:=by kernel_rfl
theorem Ug (a p:Addr) (W:World) (ha:W.cell? a=some (.pointer (some p))):
  (ReflectliteValue.method (ReflectliteValue.valueError "reflectlite.Value.IsNil" 0) ReflectliteValue.isNil #[.agg #[.pointer (some ⟨2, 257, none⟩), .pointer (some a), .int .u64 150]]).run Tryz.prog W = .ok (.bool false) W := by
 rw [rlm];simp only [Sem.run_bind,J8,Result.andThen];simp [ReflectliteValue.isNil,loadVar,isAgg,underlying,Tryz.underlying257,ha,Result.andThen]
theorem J9 (h : Value) (w : World) : (Go.method 501 350 (.agg #[h]) "Elem").run Tryz.prog w = .ok (316, .agg #[h]) w := by kernel_rfl
theorem xY (h : Value) (w : World) : (Go.method 501 350 (.agg #[h]) "Implements").run Tryz.prog w = .ok (317, .agg #[h]) w := by kernel_rfl
theorem wB (h : Value) (w : World) : (Go.method 501 350 (.agg #[h]) "AssignableTo").run Tryz.prog w = .ok (314, .agg #[h]) w := by kernel_rfl
theorem WY (w:World):(ReflectliteType.method ReflectliteType.elem #[.agg #[.pointer (some ⟨2,257,none⟩)]]).run Tryz.prog w=.ok (.iface 350 (.agg #[.pointer (some ⟨2,255,none⟩)])) w:=by kernel_rfl
theorem I8 (w : World) : (ReflectliteType.relation "Implements" ReflectliteType.implements_ #[.agg #[.pointer (some ⟨2, 255, none⟩)], .iface 350 (.agg #[.pointer (some ⟨2, 186, none⟩)])]).run Tryz.prog w = .ok (.bool true) w := by kernel_rfl
theorem Uh (v:Value) (w:World):(ReflectliteType.typeOf #[.iface 255 v]).run Tryz.prog w=.ok (.iface 350 (.agg #[.pointer (some ⟨2,255,none⟩)])) w:=by kernel_rfl
theorem I9 (w : World) : (ReflectliteType.relation "AssignableTo" ReflectliteType.assignableTo #[.agg #[.pointer (some ⟨2, 255, none⟩)], .iface 350 (.agg #[.pointer (some ⟨2, 255, none⟩)])]).run Tryz.prog w = .ok (.bool true) w := by kernel_rfl
theorem QS (e:Addr) (w:World):(ReflectliteValue.unpack (.iface 255 (.pointer (some e)))).run Tryz.prog w
 = .ok (.agg #[.pointer (some ⟨2,255,none⟩),.pointer (some ⟨w.heap.size,0,none⟩),.int .u64 150]) (w.alloc (.cells #[.pointer (some e)] 255)):=by kernel_rfl
theorem QT (w:World):(Rtype.elem? 257).run Tryz.prog w=.ok (some 255) w:=by kernel_rfl
theorem Y7 (p:Addr) (w:World):(ReflectliteValue.mk 255 p ReflectliteValue.flagAddr).run Tryz.prog w=.ok (.agg #[.pointer (some ⟨2,255,none⟩),.pointer (some p),.int .u64 406]) w:=by kernel_rfl
theorem Ui (a p:Addr) (W:World) (ha:W.cell? a=some (.pointer (some p))):
  (ReflectliteValue.method (ReflectliteValue.valueError "reflectlite.Value.Elem" 0) ReflectliteValue.elem #[.agg #[.pointer (some ⟨2, 257, none⟩), .pointer (some a), .int .u64 150]]).run Tryz.prog W
   = .ok (.agg #[.pointer (some ⟨2,255,none⟩),.pointer (some p),.int .u64 406]) W:=by
 rw [rlm];simp only [Sem.run_bind,J8,Result.andThen];simp [ReflectliteValue.elem,loadVar,isAgg,underlying,Tryz.underlying257,ha,Result.andThen,QT,Y7]
theorem rls (v x:Value):ReflectliteValue.set #[v,x]=(do
 let (some (dst,a,fl),some (src,b,_)):=(← ReflectliteValue.parts v,← ReflectliteValue.parts x)
  | unsupported (.noEntry "extern/(internal/reflectlite.Value).Set.zeroValue")
 if fl / ReflectliteValue.flagAddr % 2 == 0 then unsupported (.noEntry "extern/(internal/reflectlite.Value).Set.unaddressable")
 let val ← loadVar src b
 if ← Rtype.directlyAssignable dst src then storeVar dst a val
 else if ← Rtype.implements dst src then
  if (← Rtype.kind src) == 20 then
   match val with
   | .nilIface => unsupported (.noEntry "extern/reflectlite: a nil value of one interface type handed on as a value of another")
   | _=>storeVar dst a val
  else storeVar dst a (.iface src val)
 else panicString ("reflectlite.Set: value of type " ++ (← Rtype.spelt src) ++ " is not assignable to type " ++ (← Rtype.spelt dst))
 pure (.tuple #[])):=rfl
theorem Uj (a:Addr) (w:World):(ReflectliteValue.parts (.agg #[.pointer (some ⟨2,255,none⟩),.pointer (some a),.int .u64 406])).run Tryz.prog w=.ok (some (255,a,406)) w:=by kernel_rfl
theorem WZ (a:Addr) (w:World):(ReflectliteValue.parts (.agg #[.pointer (some ⟨2,255,none⟩),.pointer (some a),.int .u64 150])).run Tryz.prog w=.ok (some (255,a,150)) w:=by kernel_rfl
theorem Uk (w:World):(Rtype.directlyAssignable 255 255).run Tryz.prog w=.ok true w:=by kernel_rfl
theorem YV (y b e:Addr) (I:Value) (W:World) (hb:W.cell? b=some (.pointer (some e))) (J:W.cell? y=some I) (hf:W.frozen? y=false):
  (ReflectliteValue.set #[.agg #[.pointer (some ⟨2,255,none⟩),.pointer (some y),.int .u64 406],.agg #[.pointer (some ⟨2,255,none⟩),.pointer (some b),.int .u64 150]]).run Tryz.prog W
   = .ok (.tuple #[]) (W.setCell y (.pointer (some e))):=by
 rw [rls];simp only [Sem.run_bind,Uj,WZ,Result.andThen];simp [ReflectliteValue.flagAddr,loadVar,isAgg,underlying,Tryz.underlying255,hb,Result.andThen,Uk,storeVar,Value.cells,storeCells,Addr.add];rw [run_store Tryz.prog W y _ _ (by rfl)];simp [J,hf]
theorem Ja (e t:Addr) (y:Value) (w:World) (hg:w.cell? ⟨1,0,none⟩=some (.iface 350 (.agg #[.pointer (some ⟨2,186,none⟩)]))) (I:w.cell? t=some y) (U:w.frozen? t=false):
  Calls Tryz.prog 189 #[.iface 255 (.pointer (some e)),.iface 257 (.pointer (some t))] w fun ev w'=>ev=.returned (.bool true)∧w'=((((w.alloc (.cells #[.pointer (some t)] 257)).alloc (.cells #[.pointer (some ⟨2,257,none⟩),.pointer (some ⟨w.heap.size,0,none⟩),.int .u64 150] 313)).alloc (.cells #[.pointer (some ⟨2,257,none⟩),.pointer (some ⟨w.heap.size,0,none⟩),.int .u64 150] 313)).alloc (.cells #[.pointer (some e)] 255)).setCell t (.pointer (some e)):=by
 have h6:=@run_callFunc_extern Tryz.prog 240 _ (fun args=>ReflectliteValue.unpack (args.getD 0 (.tuple #[]))) Tryz.func240 (by kernel_rfl) (by kernel_rfl) (by kernel_rfl) (by kernel_rfl)
 have h7 := @run_callFunc_extern Tryz.prog 241 _ (ReflectliteValue.methodAny (ReflectliteValue.valueError "reflectlite.Value.Type" 0) (fun t _ _ _ => ReflectliteType.toType t)) Tryz.func241 (by kernel_rfl) (by kernel_rfl) (by kernel_rfl) (by kernel_rfl)
 have h8 := @run_callFunc_extern Tryz.prog 242 _ (ReflectliteValue.method (ReflectliteValue.valueError "reflectlite.Value.IsNil" 0) ReflectliteValue.isNil) Tryz.func242 (by kernel_rfl) (by kernel_rfl) (by kernel_rfl) (by kernel_rfl)
 have a1:=@run_callFunc_extern Tryz.prog 304 _ (ReflectliteType.abiMethod fun t=>do pure (.int .u8 (← Rtype.kind t))) Tryz.func304 (by kernel_rfl) (by kernel_rfl) (by kernel_rfl) (by kernel_rfl);have a2:=@run_callFunc_extern Tryz.prog 316 _ (ReflectliteType.method ReflectliteType.elem) Tryz.func316 (by kernel_rfl) (by kernel_rfl) (by kernel_rfl) (by kernel_rfl)
 have a3 := @run_callFunc_extern Tryz.prog 317 _ (ReflectliteType.relation "Implements" ReflectliteType.implements_) Tryz.func317 (by kernel_rfl) (by kernel_rfl) (by kernel_rfl) (by kernel_rfl)
 have a4:=@run_callFunc_extern Tryz.prog 275 _ ReflectliteType.typeOf Tryz.func275 (by kernel_rfl) (by kernel_rfl) (by kernel_rfl) (by kernel_rfl)
 have a5 := @run_callFunc_extern Tryz.prog 314 _ (ReflectliteType.relation "AssignableTo" ReflectliteType.assignableTo) Tryz.func314 (by kernel_rfl) (by kernel_rfl) (by kernel_rfl) (by kernel_rfl)
 have a6 := @run_callFunc_extern Tryz.prog 276 _ (ReflectliteValue.method (ReflectliteValue.valueError "reflectlite.Value.Elem" 0) ReflectliteValue.elem) Tryz.func276 (by kernel_rfl) (by kernel_rfl) (by kernel_rfl) (by kernel_rfl)
 have a7:=@run_callFunc_extern Tryz.prog 277 _ ReflectliteValue.set Tryz.func277 (by kernel_rfl) (by kernel_rfl) (by kernel_rfl) (by kernel_rfl);have tO:=Uh;have mA:=wB;have a8:=I9;have a9:=QS;have f6:=Ot;have f7:=WW;have mK:=J7;have mE:=J9;have mI:=xY;have aa:=WX;have ab:=Yd;have ac:=WY;have ae:=I8;have n8:=Ug ⟨w.heap.size,0,none⟩ t ((w.alloc (.cells #[.pointer (some t)] 257)).alloc (.cells #[.pointer (some ⟨2,257,none⟩),.pointer (some ⟨w.heap.size,0,none⟩),.int .u64 150] 313)) (by simp)
 have a0:1 < w.heap.size:=by
  rcases Nat.lt_or_ge 1 w.heap.size with h | h
  ·exact h
  ·simp [World.cell?,Array.getElem?_eq_none h] at hg
 have af:((w.alloc (.cells #[.pointer (some t)] 257)).alloc (.cells #[.pointer (some ⟨2,257,none⟩),.pointer (some ⟨w.heap.size,0,none⟩),.int .u64 150] 313)).cell? ⟨1,0,none⟩=some (.iface 350 (.agg #[.pointer (some ⟨2,186,none⟩)])):=by
  rw [World.cell?_alloc_lt _ _ ⟨1,0,none⟩ (by first | (simp; done) | (simp; omega)),World.cell?_alloc_lt _ _ ⟨1,0,none⟩ a0]; exact hg
 have J:t.block < w.heap.size:=by
  rcases Nat.lt_or_ge t.block w.heap.size with h | h
  ·exact h
  ·simp [World.cell?,Array.getElem?_eq_none h] at I
 have el:=Ui ⟨w.heap.size,0,none⟩ t (((w.alloc (.cells #[.pointer (some t)] 257)).alloc (.cells #[.pointer (some ⟨2,257,none⟩),.pointer (some ⟨w.heap.size,0,none⟩),.int .u64 150] 313)).alloc (.cells #[.pointer (some ⟨2,257,none⟩),.pointer (some ⟨w.heap.size,0,none⟩),.int .u64 150] 313)) (by rw [World.cell?_alloc_lt _ _ ⟨w.heap.size,0,none⟩ (by simp; omega)]; simp)
 have st:=YV t ⟨w.heap.size+1+1+1,0,none⟩ e y ((((w.alloc (.cells #[.pointer (some t)] 257)).alloc (.cells #[.pointer (some ⟨2,257,none⟩),.pointer (some ⟨w.heap.size,0,none⟩),.int .u64 150] 313)).alloc (.cells #[.pointer (some ⟨2,257,none⟩),.pointer (some ⟨w.heap.size,0,none⟩),.int .u64 150] 313)).alloc (.cells #[.pointer (some e)] 255))
  (by rw [World.cell?_alloc_at _ _ _ _ (by simp)]; rfl)
  (by rw [World.cell?_alloc_lt _ _ t (by simp; omega),World.cell?_alloc_lt _ _ t (by simp; omega),World.cell?_alloc_lt _ _ t (by simp; omega),World.cell?_alloc_lt _ _ t J]; exact I)
  (by rw [World.frozen?_alloc_old _ _ t (by simp; omega),World.frozen?_alloc_old _ _ t (by simp; omega),World.frozen?_alloc_old _ _ t (by simp; omega),World.frozen?_alloc_old _ _ t (Nat.ne_of_lt J)]; exact U)
 go_enter Tryz.func189,Tryz.ntmps189
 go_wp2;refine wp_loop_rounds 1 ?_;rw [rounds_succ];go_wp2;go_ret;exact ⟨rfl,rfl⟩
end
end Go.Proofs.YtkjinanbccloeaaGreatDoor
