/- Of the proof of FnEvalNeeds: Txt, CopyA, RdrP, Srch, GetB. -/
import Derived.Test.YtkjinanbccloeaaGreatDoorM04
import Derived.Test.YtkjinanbccloeaaGreatDoorM05
import Derived.Test.YtkjinanbccloeaaGreatDoorM06
set_option linter.unusedVariables false
set_option maxHeartbeats 2000000
set_option maxRecDepth 100000
namespace Go.Proofs.YtkjinanbccloeaaGreatDoor
section
open Go.RowKit D
theorem pU (a:A) (c0 c1:Value) (bs:List Nat) (w:World) (h:aI w [c0,c1] a bs) (hn:Ie a≤16777216):
  Calls Tryz.prog 61 #[.agg #[c0,c1]] w fun e w'=>e=.returned (.string ⟨(vz a).toArray⟩)∧Below w.heap.size w w':=by
 obtain ⟨s,a1,a4,ht⟩:=h;simp only [List.cons.injEq,and_true] at a1;obtain ⟨rfl,rfl⟩:=a1;obtain ⟨Ad,cap,rfl,hl,hm⟩:=ak ht;have a9:=aA (τ hl hm);clear hm;have aa:a.name.size+a.args.length+ji a.args≤16777216:=hn;have ab:a.name.size≤16777216:=by omega
 go_enter Tryz.func61,Tryz.ntmps61
 go_wp2_with fail
 refine (Vu (w.heap.size+1) (w.heap.size+1) [] a.name _ (by simpa using Uw (w.alloc (.cells #[.string a.name,.slice Ad a.args.length cap] 33))) (by simp) (by omega) (by simp)).mono ?_;rintro e w1 ⟨rfl,h1⟩;have b1:=h1.below;have a5:=b1.size;simp at a5
 go_wp2_with fail
 refine (QJ (w.heap.size+1) (w.heap.size+1) _ 40 40 rfl _ h1.bld (by rw [List.nil_append,Ws]; omega) (by omega)).mono ?_;rintro e w2 ⟨rfl,h2⟩;have b2:=b1.trans h2.below;have ac:=h2.below.size;have d1:w2.cell? ⟨w.heap.size,1,none⟩=some (.slice Ad a.args.length cap):=(b2.cell (p:=⟨w.heap.size,1,none⟩) (by simp)).trans (by go_simp);have B2:Below w.heap.size w w2:=((Below.refl w.heap.size w).alloc ν _).trans ((((Below.refl w.heap.size _).alloc (by simp) _).trans (b2.mono (by omega))));have X2:=η h2.bld;clear h1 h2 b1 b2
 go_wp2_with fail
 go_loopw [13] (fun i wr=>∃ k:Nat,k≤a.args.length∧i=.int .i64 k∧TW (w.heap.size+1) (w.heap.size+1) (a.name.data.toList ++ [40] ++ kK (a.args.take k)) wr∧Below w.heap.size w wr∧w.heap.size+2≤wr.heap.size) (fun i _=>a.args.length - (intOf i).toNat)
 case atStart=>exact ⟨0,ε,rfl,by simpa [kK] using X2.out,B2,by omega⟩
 case round=>
  obtain ⟨k,hk,rfl,hb,hB,ae⟩:=hrel
  have hlen:(a.name.data.toList ++ [40] ++ kK (a.args.take k)).length≤67108864:=by
   have h2:=QE (a.args.take k);have y:=yI a.args k;have h4:a.name.data.toList.length=a.name.size:=Array.length_toList;simp only [χ,List.length_cons,List.length_nil,List.length_take] at h2 ⊢;omega
  have HB:=η hb;clear hb;by_cases a0:k < a.args.length
  ·obtain ⟨b,o,rfl,_,c0,c1,a4⟩:=dU (aN.below ht hB) a0
   have h2:a.args[k].name.size≤16777216:=by
    have:=Ig a.args k a0;have:=yI a.args (k+1);omega
   have HT:=η (Lh a.args k a0);clear ht;generalize a.args[k]=t at *;by_cases a2:k=0
   ·have HK:=η a2
    have a6:¬ (0:Int) < (k:Int):=by omega
    clear a2
    go_wp2_with fail
    have I:Below wr.heap.size wr (wr.alloc (.cells #[.bool t.var,.string t.name] 91)):=ζ;refine (Vu (w.heap.size+1) (w.heap.size+1) _ t.name _ (HB.out.below I) (by omega) (by omega) (by have:=I.size; omega)).mono ?_;rintro e w3 ⟨rfl,y⟩;have B3:Below w.heap.size w w3:=(hB.trans (I.mono hB.size)).trans (y.below.mono (by omega));have S3:w.heap.size+2≤w3.heap.size:=by have:=y.below.size; have:=I.size; omega
    have H3:=η y.bld;clear y I;go_wp2;go_roundw
    case rel=>exact ⟨k+1,by omega,by go_num,by have:=H3.out; rw [HT.out,HK.out] at *; simpa [kK] using this,B3,S3⟩
    case measure=>simp [intOf]; omega
   ·have a6:(0:Int) < (k:Int):=by omega
    go_wp2_with fail
    have I:Below wr.heap.size wr (wr.alloc (.cells #[.bool t.var,.string t.name] 91)):=ζ;refine (QJ (w.heap.size+1) (w.heap.size+1) _ 44 44 rfl _ (HB.out.below I) (by omega) (by have:=I.size; omega)).mono ?_;rintro e U ⟨rfl,J⟩;have a3:=J.block (ω wr (.cells #[.bool t.var,.string t.name] 91)) (by omega) (by decide);have x1:U.cell? ⟨wr.heap.size,1,none⟩=some (.string t.name):=by rw [cell_of_row U _ 1 _ _ _ a3]; rfl
    have a7:Below w.heap.size w U:=(hB.trans (I.mono hB.size)).trans (J.below.mono (by omega));have af:w.heap.size+2≤U.heap.size:=by have:=J.below.size; have:=I.size; omega
    have a8:=η J.bld;clear J I a3
    go_wp2_with fail
    refine (Vu (w.heap.size+1) (w.heap.size+1) _ t.name _ a8.out (by rw [χ,List.length_singleton]; omega) (by omega) (by omega)).mono ?_;rintro e w3 ⟨rfl,y⟩;have B3:Below w.heap.size w w3:=a7.trans (y.below.mono (by omega));have S3:w.heap.size+2≤w3.heap.size:=by have:=y.below.size; omega
    have H3:=η y.bld;clear y x1;go_wp2;go_roundw
    case rel=>exact ⟨k+1,by omega,by go_num,by have:=H3.out; rw [HT.out,if_neg (by omega)]; simpa using this,B3,S3⟩
    case measure=>simp [intOf]; omega
  ·have he:=η (show k=a.args.length by omega)
   go_wp2_with fail
   refine (QJ (w.heap.size+1) (w.heap.size+1) _ 41 41 rfl _ HB.out (by omega) (by omega)).mono ?_;rintro e w3 ⟨rfl,y⟩
   go_wp2_with fail
   refine (Wu (w.heap.size+1) (w.heap.size+1) _ _ y.bld (by have:=y.below.size; omega)).mono ?_;rintro e w4 ⟨rfl,h4⟩;go_wp2;go_ret;exact ⟨Ug (by rw [he.out,ϕ ν]; simp [vz]),(hB.trans (y.below.mono (by omega))).trans (h4.below.mono (by omega))⟩
theorem Gg (a:A) (c0 c1:Value) (bs:List Nat) (w:World) (h:aI w [c0,c1] a bs) (hn:a.args.length≤16777216):
  Calls Tryz.prog 104 #[.agg #[c0,c1]] w (Qu aI a w.heap.size w):=by
 have ht:=cZ h;have a4:a.name.size≤maxLen:=by obtain ⟨_,_,hn,_⟩:=h; exact hn
 obtain ⟨Ad,cap,rfl,rfl⟩:=bI h;obtain ⟨i0,hi,a5,a6,a7⟩:=info_parts Ep;by_cases h0:a.args.length=0
 ·have hl:((a.args.length:Int) == 0)=true:=beq_iff_eq.2 (by omega)
  have hx:a.args = []:=List.length_eq_zero_iff.1 h0;have HX:=η hx;clear h ht h0 hx hi a5 a6 a7
  go_enter Tryz.func104,Tryz.ntmps104
  go_wp2;refine bodyPost_ret (v:=.agg #[.string a.name,.slice none 0 0]) (by simp [results,Tryz.results104,go_sem]) rfl ⟨?_,_,[],rfl,⟨_,rfl,a4,by rw [HX.out]; exact BJ _⟩,New.nil _ _⟩
  repeat (first | exact ϑ | (refine Below.setCell ?_ (by first | (simp; done) | (simp; omega)) _) | (refine Below.alloc ?_ (by first | (simp; done) | (simp; omega)) _))
 ·have hl:((a.args.length:Int) == 0)=false:=beq_eq_false_iff_ne.2 (by omega)
  obtain ⟨L,b2,I,_,U⟩:=pq jv (by omega) ht;obtain ⟨b,o,rfl,ac,J⟩:=U (by intro e; rw [e] at h0; exact h0 rfl);have a8:=aN.lt ht b ac;have a9:=I.len;have a0:=I.one;have HR:=η I;have HL:=η a9;have HC:=η J;have HO:=η a0;clear h ht h0 I a9 a0 J U
  go_enter Tryz.func104,Tryz.ntmps104
  go_wp2_with (first
   | (at_make; refine wpList_make_full _ rfl _ _ _ rfl (w.heap.size+2) 91 i0 _ 2 Tryz.underlying31 hi a5 a6 _ _ _ _ a.args.length rfl rfl rfl rfl (by rw [a7]; omega) (by unfold maxLen; omega) (by simp) ?_; intro w1 a1 a2; have hW:=ϑ.grown a2 ν (fun _ e=>by cases e); have x0:w1.cell? ⟨w.heap.size,0,none⟩=some (.string a.name):=ξ hW (by go_simp); have x1:w1.cell? ⟨w.heap.size,1,none⟩=some (.slice (some ⟨b,o,none⟩) a.args.length cap):=ξ hW (by go_simp); have r0:w1.cell? ⟨w.heap.size+1,0,none⟩=some (.string ⟨#[]⟩):=ξ hW (by go_simp); have r1:w1.cell? ⟨w.heap.size+1,1,none⟩=some (.slice none 0 0):=ξ hW (by go_simp); have f0:w1.frozen? ⟨w.heap.size+1,0,none⟩=false:=(hW.frozen (p:=⟨w.heap.size+1,0,none⟩) (by simp)).trans (by go_simp); have f1:w1.frozen? ⟨w.heap.size+1,1,none⟩=false:=(hW.frozen (p:=⟨w.heap.size+1,1,none⟩) (by simp)).trans (by go_simp); have B1:Below w.heap.size w w1:=((ζ).alloc (by simp) _).trans (hW.mono (by simp; omega)); simp only [World.size_alloc] at a1)
   | ((with_reducible refine DW rfl (.tmp 15) (.tmp 17) _ _ rfl (w.heap.size+2) 91 2 a.args.length a.args.length Tryz.underlying31 QC _ _ a1 ⟨b,o,none⟩ cap L HL.out ?_ HO.out ?_ ?_ ?_); exact (fun j v hj=>by rw [addr_add]; exact (B1.cell (p:=⟨b,o+j,none⟩) a8).trans (HC.out j v hj)); rfl; rfl; intro w2 a3 y; have y0:=y.cell x0 (by simp; omega); have s0:=y.cell r0 (by simp); have s1:=y.cell r1 (by simp); have g0:=(y.frozen_far ⟨w.heap.size+1,0,none⟩ (lt_of_cell r0) (by simp)).trans f0; have g1:=(y.frozen_far ⟨w.heap.size+1,1,none⟩ (lt_of_cell r1) (by simp)).trans f1))
  obtain ⟨b3,ae,aa⟩:=Es HR.out a3;have ab:∀ c ∈ b3,c ≠ w.heap.size+1:=fun c hc e=>by have:=(aa.own c hc).1; omega
  have B2:Below w.heap.size w w2:=B1.grown y B1.size (fun k e=>by cases e; omega);refine bodyPost_ret (v:=.agg #[.string a.name,.slice (some ⟨w.heap.size+1+1,0,none⟩) a.args.length a.args.length]) (by simp [results,Tryz.results104,go_sem,s0,s1]) rfl ⟨(B2.setCell (by simp) _).setCell (by simp) _,_,b3,rfl,⟨_,rfl,a4,aN.keep ae fun c hc=>?_⟩,(aa.mono (by omega)).keep fun c hc=>?_⟩
  all_goals rw [π _ _ _ _ (ab c hc),π _ _ _ _ (ab c hc)]
def D.Uy (w:World) (y:Nat):Prop:=∀ o u,w.cell? ⟨y,o,none⟩=some u→(∀ s,u ≠ .string s)∧∀ b,u ≠ .bool b
theorem kC.Wi {g p:Nat} {w:World} (h:kC g p w):Uy w g:=by
 obtain ⟨J,n,cap,I,_,_⟩:=h;intro o u y;rw [ai I] at y
 match o with
 | 0=>simp at y; subst y; exact ⟨fun s=>by simp,fun b=>by simp⟩
 | 1=>simp at y; subst y; exact ⟨fun s=>by simp,fun b=>by simp⟩
 | o+2=>simp at y
theorem D.vK {w:World} {n0:Nat} (ha:Uy w n0) {v:Value} {ts:List T} {bs:List Nat} (h:eH w [v] ts bs):n0 ∉ bs:=by
 intro J;obtain ⟨Ad,cap,a4,hl,hm,g0,g1⟩:=h;by_cases I:ts = []
 ·rw [g0 I] at J; simp at J
 ·obtain ⟨b,o,rfl,F,G,rfl,hF⟩:=g1 I
  rcases List.mem_cons.1 J with rfl | J
  ·match ts,I with
   | y :: r,_=>
    obtain ⟨a1,a2,a3⟩:=hF 0 y rfl;obtain ⟨e,_,_⟩:=a3;have:=a2 0 (.bool y.var) (by rw [e]; rfl);exact (ha _ _ this).2 _ rfl
  ·obtain ⟨k,hk,U⟩:=List.mem_flatMap.1 J
   have a0:=List.mem_range.1 hk;obtain ⟨a1,a2,a3⟩:=hF k ts[k] (Ψ a0);obtain ⟨_,_,e⟩:=a3;rw [e] at U; simp at U
theorem D.Gh {w:World} {y:Nat} (ha:Uy w y) {L:List Value} {xs:List Pt} {bs:List Nat} (h:aQ 3 nJ w L xs bs):y ∉ bs:=by
 obtain ⟨h1,h2,G,rfl,I⟩:=h;intro J;obtain ⟨j,U,hc⟩:=List.mem_flatMap.1 J;obtain ⟨s,_,_,ht⟩:=I j (List.mem_range.1 U);exact vK ha ht hc
end
section
open Go.RowKit D
attribute [local go_sem ↓] Go.wp_at_zero Go.wp_at_succ
theorem LM (s:ByteArray) (w:World):Calls Tryz.prog 228 #[.string s] w fun e w'=>e=.returned (.bool false)∧Below w.heap.size w w':=by
 have y:=η (Below.refl w.heap.size w)
 go_enter Tryz.func228,Tryz.ntmps228
 go_wp2;go_ret;exact ⟨by simp,y.out⟩
theorem LP (s:ByteArray) (w:World):Calls Tryz.prog 271 #[.string s] w fun e w'=>e=.returned (.bool false)∧Below w.heap.size w w':=by
 have y:=η (Below.refl w.heap.size w)
 go_enter Tryz.func271,Tryz.ntmps271
 go_wp2;go_ret;exact ⟨by simp,y.out⟩
theorem IU (s t:ByteArray) (w:World):Calls Tryz.prog 227 #[.string s,.string t] w fun e w'=>e=.returned (.bool (decide (fA s t < 0)))∧Below w.heap.size w w':=by
 have y:=fun s w=>LP s w
 have I:=η (rZ s t)
 go_enter Tryz.func227,Tryz.ntmps227
 go_wp2_with fail
 refine (y _ _).mono ?_;rintro e U ⟨rfl,hB⟩;have J:=η hB;clear y hB;go_wp2;go_ret;exact ⟨by simp [I.out],J.out⟩
theorem D.QX {xs:List ByteArray} (h:mW xs) {x:ByteArray} (hx:x ∈ xs) (m:Nat) (hm:m < xs.length):fA xs[m] x < 0 ↔ m < xs.idxOf x:=by
 have y:xs.idxOf x < xs.length:=List.idxOf_lt_length_of_mem hx;have he:xs[xs.idxOf x]=x:=List.getElem_idxOf y;have U:=List.pairwise_iff_getElem.1 h;constructor
 ·intro hc
  rcases Nat.lt_trichotomy m (xs.idxOf x) with h1 | h1 | h1
  ·exact h1
  ·exfalso
   have:xs[m]=x:=by simp only [h1,he]
   rw [this,gy.refl] at hc; omega
  ·have I:=U _ _ y hm h1
   rw [he] at I;have h3:=gy.anti xs[m] x;omega
 ·intro J
  have I:=U _ _ hm y J
  rwa [he] at I
theorem IV (xs:List ByteArray) (x:ByteArray) (v:Value) (bs:List Nat) (w:World) (h:fU w [v] xs bs) (hs:mW xs) (hx:x ∈ xs) (a9:xs.length≤1000000):
  Calls Tryz.prog 175 #[v,.string x] w fun e w'=>e=.returned (.tuple #[.int .i64 (xs.idxOf x:Nat),.bool true])∧Below w.heap.size w w':=by
 obtain ⟨Ad,cap,rfl,hl,hm⟩:=ak h;have aa:=aA (τ hl hm);have HN:=fun s w=>LM s w
 have HL:=fun s t w=>IU s t w
 have a1:xs.idxOf x < xs.length:=List.idxOf_lt_length_of_mem hx;have HX:=η (fun m hm=>QX hs hx m hm);have HE:Hid (∀ h:xs.idxOf x < xs.length,xs[xs.idxOf x]=x):=η (fun h=>List.getElem_idxOf h);clear hl hm hs hx;obtain ⟨i,hi⟩:∃ i,i=xs.idxOf x:=⟨_,rfl⟩;rw [← hi] at a1 HX HE ⊢;clear hi;have HB:=η (Below.refl w.heap.size w)
 go_enter Tryz.func175,Tryz.ntmps175
 go_wp2
 go_loopw [7,8] (fun p q wr=>∃ k n:Nat,k≤i∧i≤n∧n≤xs.length∧p=.int .i64 k∧q=.int .i64 n∧Below w.heap.size w wr) (fun p q _=>(intOf q).toNat - (intOf p).toNat)
 case atStart=>exact ⟨0,xs.length,ε,by omega,ν,rfl,rfl,HB.out⟩
 case round=>
  obtain ⟨k,n,hk,a5,hn,rfl,rfl,hb⟩:=hrel;clear HB;by_cases ab:k < n
  ·obtain ⟨m,hm⟩:∃ m,m=(k+n) / 2:=⟨_,rfl⟩
   have ac:k≤m:=by omega
   have ae:m < n:=by omega
   have a4:m < xs.length:=by omega
   have hq:((k:Int)+(n:Int)) / 2=(m:Int):=by omega
   have a6:(0:Int)≤(m:Int):=by omega
   have a7:(m:Int) < (xs.length:Int):=by omega
   clear hm;have U:=η (HX.out m a4);obtain ⟨b,o,rfl,_,c0,_⟩:=kZ (bH.below h hb) a4;clear h HX HE;generalize xs[m]=y at *;have a0:=HL y x;have I:=η hb;clear HL hb HN;by_cases hc:fA y x < 0
   ·have hd:decide (fA y x < 0)=true:=decide_eq_true hc
    have a2:=η (U.out.1 hc);clear U hc
    go_wp2_with fail
    refine (a0 _).mono ?_;rintro e w2 ⟨rfl,J⟩;have a3:=η (I.out.trans (J.mono I.out.size));clear a0 J;go_wp2;go_roundw
    case rel=>exact ⟨m+1,n,a2.out,a5,hn,by go_num,rfl,a3.out⟩
    case measure=>simp [intOf]; omega
   ·have hd:decide (fA y x < 0)=false:=decide_eq_false hc
    have a2:Hid (i≤m):=η (by have:=mt U.out.2 hc; omega);clear U hc
    go_wp2_with fail
    refine (a0 _).mono ?_;rintro e w2 ⟨rfl,J⟩;have a3:=η (I.out.trans (J.mono I.out.size));clear a0 J;go_wp2;go_roundw
    case rel=>exact ⟨k,m,hk,a2.out,by omega,rfl,rfl,a3.out⟩
    case measure=>simp [intOf]; omega
  ·obtain rfl:k=i:=by omega
   have a6:(0:Int)≤(k:Int):=by omega
   have a7:(k:Int) < (xs.length:Int):=by omega
   have a8:¬ (k:Int) < (n:Int):=by omega
   obtain ⟨b,o,rfl,_,c0,_⟩:=kZ (bH.below h hb) a1;rw [HE.out a1] at c0;have I:=η hb;clear h HX HE HL HN hb;go_wp2;go_ret2;exact ⟨rfl,I.out⟩
theorem D.OB {b:Bd} {n:ByteArray} {k:Nat} (h:k < b.length):eY (b.drop k) n=if b[k].1=n then some b[k].2 else eY (b.drop (k+1)) n:=by
 rw [List.drop_eq_getElem_cons h,eY]
theorem D.toList_eq {a b:ByteArray}:(a.toList == b.toList)=decide (a=b):=by
 rw [ByteArray.toList_eq,ByteArray.toList_eq,Bool.eq_iff_iff];simp only [beq_iff_eq,decide_eq_true_eq];exact ⟨fun h=>ByteArray.ext (Array.toList_inj.1 h),fun h=>by rw [h]⟩
theorem get_any (b:Bd) (s:ByteArray) (c0 c1:Value) (bs:List Nat) (w:World) (h:iR w [c0,c1] b bs):
  Calls Tryz.prog 225 #[.agg #[c0,c1],.string s] w fun e w'=>e=.returned (.tuple #[.string (iO b s),.bool (eY b s).isSome])∧Below w.heap.size w w':=by
 obtain ⟨x0,x1,b1,b2,a0,rfl,h1,h2⟩:=h;simp only [List.cons.injEq,and_true] at a0;obtain ⟨rfl,rfl⟩:=a0;obtain ⟨A1,p1,rfl,a1,a2⟩:=ak h1;obtain ⟨A2,p2,rfl,a4,a5⟩:=ak h2;have J:(b.map (·.1)).length=b.length:=List.length_map ..;have hlen2:(b.map (·.2)).length=b.length:=List.length_map ..;rw [J] at a1 h1 ⊢;rw [hlen2] at a4 h2 ⊢;have hmx:=aA (τ a1 a2);clear a2 a5
 go_enter Tryz.func225,Tryz.ntmps225
 go_wp2
 go_loopw [6] (fun i wr=>∃ k:Nat,k≤b.length∧i=.int .i64 k∧eY b s=eY (b.drop k) s∧Below w.heap.size w wr∧wr.cell? ⟨w.heap.size,0,none⟩=some (.slice A1 b.length p1)∧wr.cell? ⟨w.heap.size,1,none⟩=some (.slice A2 b.length p2)) (fun i _=>b.length - (intOf i).toNat)
 case atStart=>exact ⟨0,ε,rfl,rfl,ζ,by go_simp,by go_simp⟩
 case round=>
  obtain ⟨k,hk,rfl,hg,hb,y0,y1⟩:=hrel;by_cases I:k < b.length
  ·obtain ⟨d1,o1,rfl,_,e1,_⟩:=kZ (bH.below h1 hb) (k:=k) (by simpa using I)
   obtain ⟨d2,o2,rfl,_,e2,_⟩:=kZ (bH.below h2 hb) (k:=k) (by simpa using I);rw [List.getElem_map] at e1 e2;have HG:=η (hg.trans (OB I));have a3:(k:Int) < (b.length:Int):=by omega
   have a6:(0:Int)≤(k:Int):=by omega
   clear h1 h2 hg;generalize b[k].1=x at *;generalize b[k].2=y at *;cases hs:(x.toList == s.toList)
   ·have U:=η (show eY b s=eY (b.drop (k+1)) s by
     rw [HG.out,if_neg];rw [toList_eq] at hs
     exact of_decide_eq_false hs)
    clear HG;go_wp2;go_roundw
    case rel=>exact ⟨k+1,I,by go_num,U.out,hb,y0,y1⟩
    case measure=>simp [intOf]; omega
   ·have U:=η (show eY b s=some y by
     rw [HG.out,if_pos];rw [toList_eq] at hs
     exact of_decide_eq_true hs)
    have HV:Hid (iO b s=y):=η (by unfold iO; rw [U.out]; rfl);clear HG;go_wp2;go_ret2;exact ⟨by rw [HV.out,U.out]; rfl,hb⟩
  ·have he:k=b.length:=by omega
   have a3:¬ (k:Int) < (b.length:Int):=by omega
   have U:=η (show eY b s=none by rw [hg,he,List.drop_eq_nil_of_le ν]; rfl);have HV:Hid (iO b s=⟨#[]⟩):=η (by unfold iO; rw [U.out]; rfl);clear hg h1 h2;go_wp2;go_ret2;exact ⟨by rw [HV.out,U.out]; rfl,hb⟩
end
end Go.Proofs.YtkjinanbccloeaaGreatDoor
