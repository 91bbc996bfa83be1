/- Of the proof of FnDelta: Merge, JQ, iI, SortS. -/
import Derived.RangeFuncNested
import Derived.RangeFuncBound
import Derived.Test.YtkjinanbccloeaaGreatDoorA09
import Derived.Test.YtkjinanbccloeaaGreatDoorA10
import Derived.Lib.OwnBridge
import Derived.Sort.OwnSorted
set_option linter.unusedVariables false
set_option maxHeartbeats 4000000
set_option maxRecDepth 100000
namespace Go.Proofs.YtkjinanbccloeaaGreatDoor
section
open Go.RowKit D Go.Shelf
attribute [local go_sem ↓] Go.wp_at_zero Go.wp_at_succ
attribute [local go_sem] Oper.semAt_some
structure D.oO (w0:World) where
 c0:Value
 c1:Value
 a:A
 s:Nat
 bs:List Nat
 h:aJ w0 [c0,c1] a bs
def D.oO.key {y:World} (x:oO y):A × Nat:=(x.a,x.s)
def D.oO.enc {y:World} (x:oO y):Array Value:=#[.agg #[x.c0,x.c1],.int .i64 x.s]
theorem D.oP {w w':World} (h:Below w.heap.size w w'):w.grownBy w' none:=⟨h.os,h.tape,h.output,h.size,fun k y _=>h.block k y⟩
theorem D.kW {I:World} (y:List (oO I)) (x:oO I) {m rest:List (A × Nat)} (h:m=y.map oO.key ++ x.key :: rest):m=(y ++ [x]).map oO.key ++ rest:=by rw [h]; simp
structure D.MInv (B1 B2:Nat) (v1 v2:Value) (wd W:World):Prop where
 s1:W.cell? ⟨B1,0,none⟩=some v1
 s2:W.cell? ⟨B1,1,none⟩=some (.func (.func 64) #[] #[])
 s3:W.cell? ⟨B2,0,none⟩=some v2
 hb:Below wd.heap.size wd W
theorem D.MInv.below {y I:Nat} {J U:Value} {wd W W':World} (h:MInv y I J U wd W) (hb:Below W.heap.size W W'):MInv y I J U wd W':=
 ⟨ξ hb h.s1,ξ hb h.s2,ξ hb h.s3,h.hb.trans (hb.mono h.hb.size)⟩
theorem QG (n:Nat) (hn:1≤n) (l B1 B2:Nat) (xs ys:List A) (v1 v2:Value) (az aD:List Nat) (wd:World) (h1:aB wd [v1] xs az) (h2:aB wd [v2] ys aD)
  (Kp:World→World→Prop) (aa:∀ W W',Kp W W'→MInv B1 B2 v1 v2 wd W→MInv B1 B2 v1 v2 wd W')
  (J Jx:List (oO wd)→World→Prop) (W:World) (hW:MInv B1 B2 v1 v2 wd W) (hJ:AbidesFrom W.heap.size J)
  (hY:∀ y x W,J y W→y.length < (bP xs ys).length→YieldAt Fence.wide (n - 1) Tryz.prog l x.enc W fun e W'=>
   (e=.returned (.bool true)∧J (y ++ [x]) W'∧Kp W W')∨(e=.returned (.bool false)∧Jx (y ++ [x]) W'))
  (h0:J [] W):
  CallsIn Fence.wide n Tryz.prog 197 #[.func (.yield l) #[] #[],.pointer (some ⟨B1,0,none⟩),.pointer (some ⟨B2,0,none⟩)] W fun e W'=>(∃ v,e=.returned v)∧
   ((∃ y,y.map oO.key=bP xs ys∧J y W')∨(∃ y rest,y.map oO.key ++ rest=bP xs ys∧Jx y W')):=by
 obtain ⟨Ad,cap,rfl,hl,hm⟩:=aj h1;obtain ⟨aE,cap2,rfl,aL,ag⟩:=aj h2;have b5:=aA (τ hl hm);have b4:=aA (τ aL ag);clear hm ag;refine callsIn_of_wp Tryz.func197 rfl trivial ?_ rfl;simp only [Tryz.ntmps197,List.size_toArray,List.length_cons,List.length_nil,Nat.reduceAdd,Nat.reduceSub,Array.replicate_succ,Array.replicate_zero,List.push_toArray,List.append_toArray,List.nil_append,List.cons_append]
 gi_wp2
 gi_loopw [4,5] (fun i j wr=>∃ (p q:Nat) (y:List (oO wd)),p≤xs.length∧q≤ys.length∧i=.int .i64 p∧j=.int .i64 q∧bP xs ys=y.map oO.key ++ bP (xs.drop p) (ys.drop q)∧J y wr∧MInv B1 B2 (.slice Ad xs.length cap) (.slice aE ys.length cap2) wd wr)
  (fun i j _=>xs.length+ys.length - (intOf i).toNat - (intOf j).toNat)
 case atStart=>exact ⟨0,0,[],ε,ε,rfl,rfl,rfl,h0,hW⟩
 case round=>
  obtain ⟨p,q,y,hp,hq,rfl,rfl,am,a7,hI⟩:=hrel;have hb:=hI.hb;have HI:=η hI;have HM:=η am;clear am;have r1:=hI.s1;have r2:=hI.s2;have r3:=hI.s3;clear hI;have b6:(0:Int)≤(p:Int):=by omega
  have b7:(0:Int)≤(q:Int):=by omega
  by_cases a8:p < xs.length
  ·have b8:(p:Int) < (xs.length:Int):=by omega
   have aM:¬ (p:Int)=(xs.length:Int):=by omega
   have aR:((p:Int) == (xs.length:Int))=false:=beq_eq_false_iff_ne.2 aM;obtain ⟨b,o,Ae,ce,bk,rfl,_,c0,c1,U,_⟩:=dU h1 a8;have f0:=ξ hb c0;have f1:=ξ hb c1;by_cases a5:q < ys.length
   ·have b1:(q:Int) < (ys.length:Int):=by omega
    have b2:¬ (q:Int)=(ys.length:Int):=by omega
    have b3:((q:Int) == (ys.length:Int))=false:=beq_eq_false_iff_ne.2 b2;obtain ⟨b',o',Af,cf,bm,rfl,_,d0,d1,a1,_⟩:=dU h2 a5;have e0:=ξ hb d0;have e1:=ξ hb d1;have hD:Below wr.heap.size wr wr.drew:=Below.drew ϑ;have a9:=vO xs[p] ys[q] _ _ _ _ bk bm wr.drew (au.below U (hb.trans (hD.mono hb.size))) (au.below a1 (hb.trans (hD.mono hb.size)));by_cases ao:bU xs[p] ys[q] < 0
    ·have HN:=η (HM.out.trans (by rw [List.drop_eq_getElem_cons a8,List.drop_eq_getElem_cons a5,mr ao]))
     rw [← List.drop_eq_getElem_cons a5] at HN;clear h1 h2
     gi_wp2
     rw [wpIn_wide]
     go_region_held3 (fun w'=>w'.cell? ⟨B1,0,none⟩=some (.slice (some ⟨b,o,none⟩) xs.length cap)∧w'.cell? ⟨B1,1,none⟩=some (.func (.func 64) #[] #[])∧w'.cell? ⟨B2,0,none⟩=some (.slice (some ⟨b',o',none⟩) ys.length cap2)∧w'.cell? ⟨b,o+p * 2,none⟩=some (.string xs[p].name)∧w'.cell? ⟨b,o+p * 2+1,none⟩=some (.slice Ae xs[p].args.length ce)∧w'.cell? ⟨b',o'+q * 2,none⟩=some (.string ys[q].name)∧w'.cell? ⟨b',o'+q * 2+1,none⟩=some (.slice Af ys[q].args.length cf))
      (first | go_keep | exact ⟨y0,y1,y2,y3,y4,y5,y6⟩)
      (first | (go_at_call 64; refine a9.mono ?_; rintro e w2 ⟨rfl,I⟩; have y0:=ξ I r1; have y1:=ξ I r2; have y2:=ξ I r3; have y3:=ξ I f0; have y4:=ξ I f1; have y5:=ξ I e0; have y6:=ξ I e1))
     have a6:=hD.trans I;have ab:=HI.out.below a6;have a2:=hJ _ _ _ none a7 (oP a6) (fun r e=>by cases e);clear a9 r1 r2 r3 f0 f1 e0 e1;obtain ⟨fn,tmps,assign,body,hy,hR⟩:=hY y ⟨.string xs[p].name,.slice Ae xs[p].args.length ce,xs[p],0,bk,U⟩ w2 a2 (by rw [HN.out]; simp);dsimp only [oO.enc] at hy;rw [show ((0:Nat):Int)=0 from rfl] at hy
     gi_wp2
     refine hR.mono ?_;rintro e W3 (⟨rfl,a3,a4⟩ | ⟨rfl,a0⟩)
     ·gi_wp2
      go_roundw
      case rel=>exact ⟨p+1,q,y ++ [⟨.string xs[p].name,.slice Ae xs[p].args.length ce,xs[p],0,bk,U⟩],by omega,by omega,by go_num,by go_num,kW y ⟨.string xs[p].name,.slice Ae xs[p].args.length ce,xs[p],0,bk,U⟩ HN.out,a3,aa _ _ a4 ab⟩
      case measure=>simp [intOf]; omega
     ·gi_wp2
      refine bodyPost_ret (results_none rfl _ _ _) rfl ?_;exact ⟨⟨_,rfl⟩,.inr ⟨y ++ [⟨.string xs[p].name,.slice Ae xs[p].args.length ce,xs[p],0,bk,U⟩],_,(kW y ⟨.string xs[p].name,.slice Ae xs[p].args.length ce,xs[p],0,bk,U⟩ HN.out).symm,a0⟩⟩
    ·by_cases aq:0 < bU xs[p] ys[q]
     ·have HN:=η (HM.out.trans (by rw [List.drop_eq_getElem_cons a8,List.drop_eq_getElem_cons a5,mD aq]))
      rw [← List.drop_eq_getElem_cons a8] at HN;clear h1 h2
      gi_wp2
      rw [wpIn_wide]
      go_region_held3 (fun w'=>w'.cell? ⟨B1,0,none⟩=some (.slice (some ⟨b,o,none⟩) xs.length cap)∧w'.cell? ⟨B1,1,none⟩=some (.func (.func 64) #[] #[])∧w'.cell? ⟨B2,0,none⟩=some (.slice (some ⟨b',o',none⟩) ys.length cap2)∧w'.cell? ⟨b,o+p * 2,none⟩=some (.string xs[p].name)∧w'.cell? ⟨b,o+p * 2+1,none⟩=some (.slice Ae xs[p].args.length ce)∧w'.cell? ⟨b',o'+q * 2,none⟩=some (.string ys[q].name)∧w'.cell? ⟨b',o'+q * 2+1,none⟩=some (.slice Af ys[q].args.length cf))
       (first | go_keep | exact ⟨y0,y1,y2,y3,y4,y5,y6⟩)
       (first | (go_at_call 64; refine a9.mono ?_; rintro e w2 ⟨rfl,I⟩; have y0:=ξ I r1; have y1:=ξ I r2; have y2:=ξ I r3; have y3:=ξ I f0; have y4:=ξ I f1; have y5:=ξ I e0; have y6:=ξ I e1))
      have a6:=hD.trans I;have ab:=HI.out.below a6;have a2:=hJ _ _ _ none a7 (oP a6) (fun r e=>by cases e);clear a9 r1 r2 r3 f0 f1 e0 e1;obtain ⟨fn,tmps,assign,body,hy,hR⟩:=hY y ⟨.string ys[q].name,.slice Af ys[q].args.length cf,ys[q],1,bm,a1⟩ w2 a2 (by rw [HN.out]; simp);dsimp only [oO.enc] at hy;rw [show ((1:Nat):Int)=1 from rfl] at hy
      gi_wp2
      refine hR.mono ?_;rintro e W3 (⟨rfl,a3,a4⟩ | ⟨rfl,a0⟩)
      ·gi_wp2
       go_roundw
       case rel=>exact ⟨p,q+1,y ++ [⟨.string ys[q].name,.slice Af ys[q].args.length cf,ys[q],1,bm,a1⟩],by omega,by omega,by go_num,by go_num,kW y ⟨.string ys[q].name,.slice Af ys[q].args.length cf,ys[q],1,bm,a1⟩ HN.out,a3,aa _ _ a4 ab⟩
       case measure=>simp [intOf]; omega
      ·gi_wp2
       refine bodyPost_ret (results_none rfl _ _ _) rfl ?_;exact ⟨⟨_,rfl⟩,.inr ⟨y ++ [⟨.string ys[q].name,.slice Af ys[q].args.length cf,ys[q],1,bm,a1⟩],_,(kW y ⟨.string ys[q].name,.slice Af ys[q].args.length cf,ys[q],1,bm,a1⟩ HN.out).symm,a0⟩⟩
     ·have HN:=η (HM.out.trans (by rw [List.drop_eq_getElem_cons a8,List.drop_eq_getElem_cons a5,mF ao aq]))
      clear h1 h2
      gi_wp2
      rw [wpIn_wide]
      go_region_held3 (fun w'=>w'.cell? ⟨B1,0,none⟩=some (.slice (some ⟨b,o,none⟩) xs.length cap)∧w'.cell? ⟨B1,1,none⟩=some (.func (.func 64) #[] #[])∧w'.cell? ⟨B2,0,none⟩=some (.slice (some ⟨b',o',none⟩) ys.length cap2)∧w'.cell? ⟨b,o+p * 2,none⟩=some (.string xs[p].name)∧w'.cell? ⟨b,o+p * 2+1,none⟩=some (.slice Ae xs[p].args.length ce)∧w'.cell? ⟨b',o'+q * 2,none⟩=some (.string ys[q].name)∧w'.cell? ⟨b',o'+q * 2+1,none⟩=some (.slice Af ys[q].args.length cf))
       (first | go_keep | exact ⟨y0,y1,y2,y3,y4,y5,y6⟩)
       (first | (go_at_call 64; refine a9.mono ?_; rintro e w2 ⟨rfl,I⟩; have y0:=ξ I r1; have y1:=ξ I r2; have y2:=ξ I r3; have y3:=ξ I f0; have y4:=ξ I f1; have y5:=ξ I e0; have y6:=ξ I e1))
      have a6:=hD.trans I;have ab:=HI.out.below a6;have a2:=hJ _ _ _ none a7 (oP a6) (fun r e=>by cases e);clear a9 r1 r2 r3 f0 f1 e0 e1;obtain ⟨fn,tmps,assign,body,hy,hR⟩:=hY y ⟨.string xs[p].name,.slice Ae xs[p].args.length ce,xs[p],2,bk,U⟩ w2 a2 (by rw [HN.out]; simp);dsimp only [oO.enc] at hy;rw [show ((2:Nat):Int)=2 from rfl] at hy
      gi_wp2
      refine hR.mono ?_;rintro e W3 (⟨rfl,a3,a4⟩ | ⟨rfl,a0⟩)
      ·gi_wp2
       go_roundw
       case rel=>exact ⟨p+1,q+1,y ++ [⟨.string xs[p].name,.slice Ae xs[p].args.length ce,xs[p],2,bk,U⟩],by omega,by omega,by go_num,by go_num,kW y ⟨.string xs[p].name,.slice Ae xs[p].args.length ce,xs[p],2,bk,U⟩ HN.out,a3,aa _ _ a4 ab⟩
       case measure=>simp [intOf]; omega
      ·gi_wp2
       refine bodyPost_ret (results_none rfl _ _ _) rfl ?_;exact ⟨⟨_,rfl⟩,.inr ⟨y ++ [⟨.string xs[p].name,.slice Ae xs[p].args.length ce,xs[p],2,bk,U⟩],_,(kW y ⟨.string xs[p].name,.slice Ae xs[p].args.length ce,xs[p],2,bk,U⟩ HN.out).symm,a0⟩⟩
   ·have ac:q=ys.length:=by omega
    have af:ys.drop q = []:=List.drop_of_length_le (Nat.le_of_eq ac.symm);have ar:(q:Int)=(ys.length:Int):=by omega
    have b3:((q:Int) == (ys.length:Int))=true:=beq_iff_eq.2 ar;have HN:=η (HM.out.trans (by rw [af,List.drop_eq_getElem_cons a8,bP]));have HD:=η af;have a2:=a7;clear h1 h2 af ar ac;obtain ⟨fn,tmps,assign,body,hy,hR⟩:=hY y ⟨.string xs[p].name,.slice Ae xs[p].args.length ce,xs[p],0,bk,U⟩ wr a2 (by rw [HN.out]; simp);dsimp only [oO.enc] at hy;rw [show ((0:Nat):Int)=0 from rfl] at hy
    gi_wp2
    refine hR.mono ?_;rintro e W3 (⟨rfl,a3,a4⟩ | ⟨rfl,a0⟩)
    ·gi_wp2
     go_roundw
     case rel=>exact ⟨p+1,q,y ++ [⟨.string xs[p].name,.slice Ae xs[p].args.length ce,xs[p],0,bk,U⟩],by omega,by omega,by go_num,by go_num,by rw [HD.out]; exact kW y ⟨.string xs[p].name,.slice Ae xs[p].args.length ce,xs[p],0,bk,U⟩ HN.out,a3,aa _ _ a4 HI.out⟩
     case measure=>simp [intOf]; omega
    ·gi_wp2
     refine bodyPost_ret (results_none rfl _ _ _) rfl ?_;exact ⟨⟨_,rfl⟩,.inr ⟨y ++ [⟨.string xs[p].name,.slice Ae xs[p].args.length ce,xs[p],0,bk,U⟩],_,(kW y ⟨.string xs[p].name,.slice Ae xs[p].args.length ce,xs[p],0,bk,U⟩ HN.out).symm,a0⟩⟩
  ·have av:p=xs.length:=by omega
   have ae:xs.drop p = []:=List.drop_of_length_le (Nat.le_of_eq av.symm);have aw:(p:Int)=(xs.length:Int):=by omega
   have aR:((p:Int) == (xs.length:Int))=true:=beq_iff_eq.2 aw;by_cases a5:q < ys.length
   ·have b1:(q:Int) < (ys.length:Int):=by omega
    obtain ⟨b',o',Af,cf,bm,rfl,_,d0,d1,a1,_⟩:=dU h2 a5;have e0:=ξ hb d0;have e1:=ξ hb d1;have HN:=η (HM.out.trans (by rw [ae,List.drop_eq_getElem_cons a5,bP]));have HD:=η ae;have a2:=a7;clear h1 h2 ae aw av;obtain ⟨fn,tmps,assign,body,hy,hR⟩:=hY y ⟨.string ys[q].name,.slice Af ys[q].args.length cf,ys[q],1,bm,a1⟩ wr a2 (by rw [HN.out]; simp);dsimp only [oO.enc] at hy;rw [show ((1:Nat):Int)=1 from rfl] at hy
    gi_wp2
    refine hR.mono ?_;rintro e W3 (⟨rfl,a3,a4⟩ | ⟨rfl,a0⟩)
    ·gi_wp2
     go_roundw
     case rel=>exact ⟨p,q+1,y ++ [⟨.string ys[q].name,.slice Af ys[q].args.length cf,ys[q],1,bm,a1⟩],by omega,by omega,by go_num,by go_num,by rw [HD.out]; exact kW y ⟨.string ys[q].name,.slice Af ys[q].args.length cf,ys[q],1,bm,a1⟩ HN.out,a3,aa _ _ a4 HI.out⟩
     case measure=>simp [intOf]; omega
    ·gi_wp2
     refine bodyPost_ret (results_none rfl _ _ _) rfl ?_;exact ⟨⟨_,rfl⟩,.inr ⟨y ++ [⟨.string ys[q].name,.slice Af ys[q].args.length cf,ys[q],1,bm,a1⟩],_,(kW y ⟨.string ys[q].name,.slice Af ys[q].args.length cf,ys[q],1,bm,a1⟩ HN.out).symm,a0⟩⟩
   ·have ac:q=ys.length:=by omega
    have HN:=η (HM.out.trans (by rw [ae,List.drop_of_length_le (Nat.le_of_eq ac.symm),bP,List.append_nil]))
    gi_wp2
    go_end0
    exact ⟨⟨_,rfl⟩,.inl ⟨y,HN.out.symm,a7⟩⟩
end
section
open Go.RowKit Go.ChangeMaps Go.MapKept D
def D.isStr (v:Value):Prop:=∃ s:ByteArray,v=.string s∧s.size≤maxLen
theorem D.ny:JQ Tryz.prog 9 (fun _=>True) isStr:=by
 have K:=Go.WideMaps.string_law (P:=Tryz.prog) Tryz.underlying9;have y:∀ {s:ByteArray},s.size≤maxLen→keyOf Tryz.prog 9 (.string s)=some (.string s.data.toList):=fun h=>Go.WideMaps.keyOf_string_mk Tryz.underlying9 h
 refine ⟨?_,?_,?_⟩
 ·rintro w U v ⟨s,rfl,I⟩
  exact K.check w U (y I)
 ·rintro w _ k ⟨s,rfl,I⟩ es J
  exact K.find w (y I) es fun e he=>by
   obtain ⟨s',h1,h2⟩:=J e he;exact ⟨_,by rw [h1]; exact y h2⟩
 ·rintro v ⟨s,rfl,_⟩
  simp [Instr.sameBits]
structure D.WK where
 name:ByteArray
 size:Nat
 place:Int
 word:ByteArray
deriving DecidableEq
def D.F7 (k:WK):Value:=.agg #[.string k.name,.int .i64 k.size,.int .i64 k.place,.string k.word]
def D.Ig (v:Value):Prop:=∃ k:WK,v=F7 k
theorem D.Ih {k l:WK} (h:F7 k=F7 l):k=l:=by
 obtain ⟨a,b,c,d⟩:=k;obtain ⟨I,y,J,U⟩:=l;simp [F7] at h;obtain ⟨rfl,h2,rfl,rfl⟩:=h;have:b=y:=by omega
 rw [this]
theorem Dy:Tryz.prog.underlying 236=some (.struct (Tryz.prog.fieldsOf 236)):=by kernel_rfl
theorem XD:Tryz.prog.stoodInHeld 236=false:=by kernel_rfl
theorem XE : (Tryz.prog.fieldsOf 236).toList.map (fun f => (f.name, f.type, f.offset)) = [("name", 9, 0), ("size", 3, 1), ("at", 3, 2), ("word", 9, 3)] := by kernel_rfl
theorem D.F8 : ∃ y I f2 J, (Tryz.prog.fieldsOf 236).toList = [y, I, f2, J] ∧ (y.name ≠ "_" ∧ y.type = 9 ∧ y.offset = 0) ∧ (I.name ≠ "_" ∧ I.type = 3 ∧ I.offset = 1) ∧
  (f2.name ≠ "_" ∧ f2.type = 3 ∧ f2.offset = 2) ∧ (J.name ≠ "_" ∧ J.type = 9 ∧ J.offset = 3) := by
 have h:=XE;generalize (Tryz.prog.fieldsOf 236).toList=L at h;have U:L.length=4:=by have:=congrArg List.length h; simpa using this
 match L,U,h with
 | [y,I,f2,J],_,h=>
  simp at h;obtain ⟨⟨a1,a2,a3⟩,⟨b1,b2,b3⟩,⟨c1,c2,c3⟩,d1,d2,d3⟩:=h;exact ⟨y,I,f2,J,rfl,⟨by rw [a1]; decide,a2,a3⟩,⟨by rw [b1]; decide,b2,b3⟩,⟨by rw [c1]; decide,c2,c3⟩,by rw [d1]; decide,d2,d3⟩
theorem D.XF (d:Nat) (a b:ByteArray) (w:World):(Op.equalIn (d+1) 9 (.string a) (.string b)).run Tryz.prog w=.ok (a == b) w:=by
 simp [Op.equalIn,run_underlying Tryz.underlying9,Result.andThen]
theorem D.eq_int (d:Nat) (a b:Int) (w:World):(Op.equalIn (d+1) 3 (.int .i64 a) (.int .i64 b)).run Tryz.prog w=.ok (a == b) w:=by
 simp [Op.equalIn,run_underlying Tryz.underlying3,Result.andThen]
theorem D.KG {cs:Array Value} {o:Nat} {v:Value} (h:cs[o]? = some v) (w:World):(part 9 cs o).run Tryz.prog w=.ok v w:=by
 simp [part,isAgg,run_underlying Tryz.underlying9,h,Result.andThen]
theorem D.KH {cs:Array Value} {o:Nat} {v:Value} (h:cs[o]? = some v) (w:World):(part 3 cs o).run Tryz.prog w=.ok v w:=by
 simp [part,isAgg,run_underlying Tryz.underlying3,h,Result.andThen]
theorem D.Wn:Xq Tryz.prog 236 (fun _=>True) Ig:=by
 refine ⟨⟨_,Dy,?_⟩,?_⟩
 ·rintro a b ⟨k,rfl⟩ ⟨l,rfl⟩
  rfl
 ·rintro w a b _ ⟨k,rfl⟩ ⟨l,rfl⟩
  obtain ⟨f0,f1,f2,f3,hf,⟨a1,a2,a3⟩,⟨b1,b2,b3⟩,⟨c1,c2,c3⟩,d1,d2,d3⟩:=F8;have y:=run_equalIn_struct (P:=Tryz.prog) (w:=w) 9999 236 #[.string k.name,.int .i64 k.size,.int .i64 k.place,.string k.word] #[.string l.name,.int .i64 l.size,.int .i64 l.place,.string l.word] Dy XD;refine ⟨k.name == l.name && ((k.size:Int) == (l.size:Int) && (k.place == l.place && k.word == l.word)),?_,?_⟩
  ·show (Op.equalIn 10000 _ _ _).run _ _=_
   unfold F7;rw [y,hf];simp [Op.eqFields,a1,a2,a3,b1,b2,b3,c1,c2,c3,d1,d2,d3,KG,KH,XF,eq_int,Result.andThen]
   by_cases h1:k.name=l.name <;> by_cases U:(k.size:Int)=(l.size:Int) <;> by_cases I:k.place=l.place <;> by_cases J:k.word=l.word <;> simp [h1,U,I,J]
  ·constructor
   ·intro h
    simp at h;obtain ⟨h1,U,I,J⟩:=h;obtain ⟨a,b,c,d⟩:=k;obtain ⟨a',b',c',d'⟩:=l;simp only at h1 U I J;rw [h1,I,J,show b=b' by omega]
   ·intro h
    rw [Ih h];simp
theorem D.QI (y:Bool) (v:ByteArray) (w:World):(Instr.checkKey y 9999 9 (.string v)).run Tryz.prog w=.ok () w:=by
 show (Instr.checkKey y (9998+1) _ _).run _ _=_;rw [Instr.checkKey];simp [run_underlying Tryz.underlying9,Result.andThen]
theorem D.QJ (y:Bool) (v:Int) (w:World):(Instr.checkKey y 9999 3 (.int .i64 v)).run Tryz.prog w=.ok () w:=by
 show (Instr.checkKey y (9998+1) _ _).run _ _=_;rw [Instr.checkKey];simp [run_underlying Tryz.underlying3,Result.andThen]
theorem D.x9:JQ Tryz.prog 236 (fun _=>True) Ig:=by
 refine ⟨?_,fun y k I es J=>Qr Wn y I es J,?_⟩
 ·rintro w U v ⟨k,rfl⟩
  obtain ⟨f0,f1,f2,f3,hf,⟨a1,a2,a3⟩,⟨b1,b2,b3⟩,⟨c1,c2,c3⟩,d1,d2,d3⟩:=F8;show (Instr.checkKey U (9999+1) _ _).run _ _=_;rw [Instr.checkKey];unfold F7;simp only [Sem.run_bind,run_underlying Dy,Result.andThen_ok];rw [← Array.forIn_toList,hf];simp [a1,a2,a3,b1,b2,b3,c1,c2,c3,d1,d2,d3,KG,KH,QI,QJ,Result.andThen]
 ·rintro v ⟨k,rfl⟩
  simp [Instr.sameBits,F7]
end
section
open Go.RowKit Go.Maps D
theorem D.Ox:Keyed Tryz.prog 9:=string_keyed Tryz.underlying9
theorem D.Ul (w:World):(zeroValue 3).run Tryz.prog w=.ok (.int .i64 0) w:=by kernel_rfl
def D.BQ (s:ByteArray):Lit:=.string s.data.toList
theorem D.uX {s:ByteArray} (h:s.size≤maxLen):keyOf Tryz.prog 9 (.string s)=some (BQ s):=Go.WideMaps.keyOf_string_mk Tryz.underlying9 h
theorem D.KI {s t:ByteArray} (h:BQ s=BQ t):s=t:=by
 unfold BQ at h
 injection h with h
 exact bytes_inj h
theorem D.zC {H:Type} {x y:Int} (h:(DataW.lit (.int .i64 x):DataW H)=.lit (.int .i64 y)):x=y:=by simpa using h
structure D.iI (b n:Nat) (L:List ByteArray) (f:ByteArray→Int) (w:World):Prop where
 own:∃ M:DataW Unit,w.ownsMap Tryz.prog 9 (plainElem Tryz.prog 3) b n M∧Maps.size M=L.length∧(∀ s,has M (BQ s)=decide (s ∈ L))∧∀ s ∈ L,M.atKey (BQ s) (.lit (.int .i64 0))=.lit (.int .i64 (f s))
 nd:L.Nodup
 sz:∀ s ∈ L,s.size≤maxLen
theorem D.iI.made (w:World) (f:ByteArray→Int):iI w.heap.size 0 [] f (w.alloc (.map #[] 0)):=
 ⟨⟨.map [],World.ownsMap_made _ _ _ _,rfl,fun s=>by simp [has],fun s h=>by simp at h⟩,List.nodup_nil,fun s h=>by simp at h⟩
theorem D.iI.same {b n:Nat} {L:List ByteArray} {f:ByteArray→Int} {w w':World} (h:iI b n L f w) (e:w'.heap[b]? = w.heap[b]?):iI b n L f w':=by
 obtain ⟨⟨M,⟨es,c,h1,y⟩,I⟩,J,U⟩:=h;exact ⟨⟨M,⟨es,c,e.trans h1,y⟩,I⟩,J,U⟩
theorem D.iI.mono {b n y:Nat} {L:List ByteArray} {f:ByteArray→Int} {w:World} (h:iI b n L f w) (hn:n≤y):iI b y L f w:=by
 obtain ⟨⟨M,h1,I⟩,J,U⟩:=h;exact ⟨⟨M,h1.mono hn,I⟩,J,U⟩
theorem D.iI.lt {b n:Nat} {L:List ByteArray} {f:ByteArray→Int} {w:World} (h:iI b n L f w):b < w.heap.size:=by
 obtain ⟨⟨M,h1,_⟩,_⟩:=h;exact h1.lt
theorem D.iI.below {b n:Nat} {L:List ByteArray} {f:ByteArray→Int} {w w':World} {B:Nat} (h:iI b n L f w) (hb:Below B w w') (hB:b < B):iI b n L f w':=h.same (hb.block b hB)
theorem D.iI.setCell {b n:Nat} {L:List ByteArray} {f:ByteArray→Int} {w:World} (h:iI b n L f w) {a:Addr} (ha:b ≠ a.block) (u:Value):iI b n L f (w.setCell a u):=
 h.same (π _ _ _ _ ha)
theorem D.iI.XG {b n:Nat} {L:List ByteArray} {f:ByteArray→Int} {w:World} (h:iI b n L f w):L.length≤n:=by
 obtain ⟨⟨M,h1,y,_⟩,_⟩:=h;have:=h1.size_le;omega
theorem D.iI.congr {b n:Nat} {L:List ByteArray} {f g:ByteArray→Int} {w:World} (h:iI b n L f w) (e:∀ s ∈ L,f s=g s):iI b n L g w:=by
 obtain ⟨⟨M,h1,I,J,U⟩,h5,h6⟩:=h;exact ⟨⟨M,h1,I,J,fun s y=>by rw [U s y,e s y]⟩,h5,h6⟩
section
variable {ops:Array Oper} {rest:List Oper} {o:Oper} {a:Act} {Q:Exit→Act→World→Prop}
theorem dL (w:World) (U:o.guard=none) (m x:Operand) (t:TypeId) (I:o.op=Op.lookup t m x true) (ht:Tryz.prog.underlying t=some (.map 9 3))
  (b n:Nat) (L:List ByteArray) (f:ByteArray→Int) (hm:a.eval m=.map (some b)) (h:iI b n L f w) (s:ByteArray) (hx:a.eval x=.string s) (hs:s.size≤maxLen)
  (c:Bool) (hc:decide (s ∈ L)=c) (v:Int) (hv:(if s ∈ L then f s else 0)=v)
  (hK:wpList Tryz.prog ops Q rest (a.put o.dst (.tuple #[.int .i64 v,.bool c])) w):wpList Tryz.prog ops Q (o :: rest) a w:=by
 obtain ⟨⟨M,h1,h2,J,h4⟩,h5,h6⟩:=h;refine wpList_lookup_own_ok_int w U m x t I _ _ .i64 Ox ht Tryz.underlying3 (Ul w) b n M hm h1 (.string s) (BQ s) hx (uX hs) fun d y hw=>?_
 rw [J s,hc]
 have:d=v:=by
  rw [← hv]
  split
  ·rename_i hmem
   have:=h4 s hmem;rw [this] at y;exact zC y.symm
  ·rename_i hmem
   have h7:has M (BQ s)=false:=by rw [J s]; simpa using hmem
   rw [atKey_of_not_has h7] at y;exact zC y.symm
 rw [this];exact hK
theorem tZ (w:World) (J:o.guard=none) (m x:Operand) (t:TypeId) (I:o.op=Op.lookup t m x false) (U:Tryz.prog.underlying t=some (.map 9 3))
  (b n:Nat) (L:List ByteArray) (f:ByteArray→Int) (hm:a.eval m=.map (some b)) (h:iI b n L f w) (s:ByteArray) (hx:a.eval x=.string s) (hs:s.size≤maxLen)
  (v:Int) (hv:(if s ∈ L then f s else 0)=v)
  (hK:wpList Tryz.prog ops Q rest (a.put o.dst (.int .i64 v)) w):wpList Tryz.prog ops Q (o :: rest) a w:=by
 obtain ⟨⟨M,h1,h2,h3,h4⟩,h5,h6⟩:=h;refine wpList_lookup_own_int w J m x t I _ _ .i64 Ox U Tryz.underlying3 (Ul w) b n M hm h1 (.string s) (BQ s) hx (uX hs) fun d y hw=>?_
 have:d=v:=by
  rw [← hv]
  split
  ·rename_i hmem
   have:=h4 s hmem;rw [this] at y;exact zC y.symm
  ·rename_i hmem
   have h7:has M (BQ s)=false:=by rw [h3 s]; simpa using hmem
   rw [atKey_of_not_has h7] at y;exact zC y.symm
 rw [this];exact hK
theorem iC (w:World) (I:o.guard=none) (m:Operand) (t:TypeId) (y:o.op=Op.call { callee:=Callee.builtin Builtin.len,args:=#[m],argTypes:=#[t] }) (J:Tryz.prog.underlying t=some (.map 9 3))
  (b n:Nat) (L:List ByteArray) (f:ByteArray→Int) (hm:a.eval m=.map (some b)) (h:iI b n L f w)
  (hK:wpList Tryz.prog ops Q rest (a.put o.dst (.int .i64 L.length)) w):wpList Tryz.prog ops Q (o :: rest) a w:=by
 obtain ⟨⟨M,h1,U,h3,h4⟩,h5,h6⟩:=h;refine wpList_len_own w I m t y _ _ J _ b n M hm h1 ?_;rw [U];exact hK
theorem D.Ii {L:List ByteArray} (h:L.Nodup) (s:ByteArray):(gU L s).Nodup:=(pI [s] L h).1
theorem kY (w:World) (hg:o.guard=none) (m x v:Operand) (t:TypeId) (J:o.op=Op.mapUpdate t m x v) (y:Tryz.prog.underlying t=some (.map 9 3))
  (b n:Nat) (L:List ByteArray) (f:ByteArray→Int) (hm:a.eval m=.map (some b)) (h:iI b n L f w) (s:ByteArray) (hx:a.eval x=.string s) (I:s.size≤maxLen) (z:Int) (hv:a.eval v=.int .i64 z) (hn:n < maxLen) (hz:0≤z∧z≤1000000)
  (hK:∀ w',iI b (n+1) (gU L s) (fun t=>if t=s then z else f t) w'→w.grownBy w' (some b)→wpList Tryz.prog ops Q rest (a.put o.dst undef) w'):wpList Tryz.prog ops Q (o :: rest) a w:=by
 obtain ⟨⟨M,h1,h2,h3,h4⟩,h5,h6⟩:=h;refine wpList_mapUpdate_own w hg m x v t J _ _ Ox y _ b n M hm h1 hn (.string s) (.int .i64 z) (BQ s) hx hv (uX I) (.lit (.int .i64 z)) [] (plainElem_int Tryz.underlying3 (WalkArith.wf_i64 (by omega))) fun w' h7 U=>?_
 refine hK w' ⟨⟨_,h7,?_,fun t=>?_,fun t y=>?_⟩,Ii h5 s,fun t y=>?_⟩ U
 ·rw [size_put (h1.tidy Ox),h3 s]
  unfold gU;by_cases hm:s ∈ L
  ·simp [hm,h2]
  ·simp [hm,h2]
 ·by_cases e:t=s
  ·subst e
   rw [has_put_same h1.isMap (Ox.key (uX I))];exact (decide_eq_true (jq.2 (.inr rfl))).symm
  ·rw [has_put_other (fun h=>e (KI h)),h3 t]
   by_cases hm:t ∈ L
   ·simp [hm,jq]
   ·simp [hm,jq,e]
 ·by_cases e:t=s
  ·subst e
   rw [atKey_put_same h1.isMap (Ox.key (uX I)),if_pos rfl]
  ·rw [atKey_put_other (fun h=>e (KI h)),if_neg e]
   exact h4 t ((jq.1 y).resolve_right e)
 ·rcases jq.1 y with h | rfl
  ·exact h6 t h
  ·exact I
end
section
variable {ops:Array Oper} {rest:List Oper} {o:Oper} {a:Act} {Q:Exit→Act→World→Prop}
end
end
section
open Go.RowKit Go.Sort D
theorem D.F9 {base e:Nat} {w:World} {v:Value} {L:List Value} {xs:List ByteArray} {bs:List Nat} (h:aY 1 jY base e w v L xs bs):L=xs.map Value.string∧(∀ s ∈ xs,s.size≤maxLen)∧bs = []:=by
 obtain ⟨_,⟨J,_,G,rfl,I⟩,_⟩:=h;rw [Nat.mul_one] at J
 have h1:∀ j (y:j < xs.length),L[j]? = some (.string xs[j])∧xs[j].size≤maxLen∧G j = []:=fun j y=>by
  obtain ⟨a,b,c⟩:=I j y;refine ⟨?_,b,c⟩;rw [Nat.mul_one] at a;have:=congrArg (fun l:List Value=>l[0]?) a;simpa [List.getElem?_take,List.getElem?_drop] using this
 refine ⟨List.ext_getElem? fun j=>?_,fun s U=>?_,?_⟩
 ·by_cases y:j < xs.length
  ·rw [(h1 j y).1]; simp [y]
  ·rw [List.getElem?_eq_none (by omega),List.getElem?_eq_none (by simp; omega)]
 ·obtain ⟨j,y,rfl⟩:=List.mem_iff_getElem.1 U
  exact (h1 j y).2.1
 ·exact List.flatMap_eq_nil_iff.2 fun j y=>(h1 j (List.mem_range.1 y)).2.2
theorem D.yc {base e:Nat} {w:World} {v:Value} {ys:List ByteArray} (h:w.ownsRow base e 1 v ys.length (ys.map Value.string)) (I:∀ s ∈ ys,s.size≤maxLen):aY 1 jY base e w v (ys.map Value.string) ys []:=by
 refine ⟨h,⟨by simp,fun u J=>?_,fun _=>[],by simp,fun j y=>⟨?_,I _ (δ y),rfl⟩⟩,fun b hb=>by simp at hb⟩
 ·obtain ⟨s,_,rfl⟩:=List.mem_map.1 J
  rfl
 ·rw [Nat.mul_one]
  refine List.ext_getElem? fun i=>?_
  rcases i with _ | i
  ·simp [List.getElem?_drop,y]
  ·simp; omega
def D.Dz (l:List (List UInt8)):List ByteArray:=l.map fun b=>⟨b.toArray⟩
theorem D.DC (l:List (List UInt8)):(Dz l).map (·.data.toList)=l:=by
 unfold Dz; rw [List.map_map]
 refine (List.map_congr_left (g:=id) fun b _=>?_).trans (List.map_id l);show b.toArray.toList=b;rfl
theorem D.KJ (l:List (List UInt8)):(Dz l).map Value.string=l.map encStr:=by
 unfold Dz; rw [List.map_map]; rfl
theorem D.Gf {l:List (List UInt8)} {n:Nat} (h:∀ b ∈ l,b.length≤n):∀ s ∈ Dz l,s.size≤n:=fun s y=>by
 obtain ⟨b,hb,rfl⟩:=List.mem_map.1 y;exact h b hb
theorem D.DF {xs:List ByteArray} {n:Nat} (h:∀ s ∈ xs,s.size≤n):∀ b ∈ xs.map (·.data.toList),b.length≤n:=fun b hb=>by
 obtain ⟨s,y,rfl⟩:=List.mem_map.1 hb;exact h s y
theorem QK (xs:List ByteArray) (v:Value) (L:List Value) (base:Nat) (w:World) (hC:aY 1 jY base 9 w v L xs []) (hl:xs.length≤16777216):
  Calls Tryz.prog 132 #[v] w fun e w'=>e=.returned (.tuple #[])∧∃ ys:List ByteArray,ys.map (·.data.toList)=(xs.map (·.data.toList)).mergeSort leB∧ys.length=xs.length∧aY 1 jY base 9 w' v (ys.map Value.string) ys []∧w.grownBy w' v.ownBlock:=by
 obtain ⟨rfl,hs,_⟩:=F9 hC;have a1:=hC.own
 rcases a1.2 with ⟨rfl,hx⟩ | ⟨g,cap,a3,rfl,J,hb,h1,h2,h3,h4⟩
 ·have a2:xs = []:=by simpa using hx
  subst a2;have cn:Calls Tryz.prog 132 #[.slice none 0 0] w (fun e w2=>e=.returned (.tuple #[])∧w2=w):=Any.slices_Sort_string_none Tryz.lays190 none 0 w;refine cn.mono ?_;rintro e w' ⟨rfl,rfl⟩;exact ⟨rfl,[],by simp,rfl,aY.nil _,World.grownBy.refl _ _⟩
 ·have I:(xs.map (·.data.toList)).length=xs.length:=by simp
  have hH:Holds encStr w g 0 (xs.map (·.data.toList)).toArray:=holds_of_block hb (by rw [I,Lib.map_encStr]; simpa using h4);have hg:g < w.heap.size:=ψ hb;have c:=Tryz.slices_Sort_string g 0 cap (xs.map (·.data.toList)) w hH hg (by omega);rw [I] at c;refine c.mono ?_;rintro e w' ⟨rfl,n,os,rfl⟩;have U:((xs.map (·.data.toList)).mergeSort leB).length=(xs.map (·.data.toList)).length:=List.length_mergeSort _;have y:=ownsRow_sorted (base:=base) (cap:=cap) (n:=n) (os:=os) U J hb (by rw [I]; exact h1) h2 h3;rw [I] at y U;have a0:(Dz ((xs.map (·.data.toList)).mergeSort leB)).length=xs.length:=by unfold Dz; rw [List.length_map]; exact U
  refine ⟨rfl,Dz ((xs.map (·.data.toList)).mergeSort leB),DC _,a0,?_,grownBy_sorted _⟩;rw [← KJ,← a0] at y;have:=yc y (Gf fun b hb=>DF hs b ((List.mergeSort_perm _ _).mem_iff.1 hb));rw [a0] at this;exact this
end
end Go.Proofs.YtkjinanbccloeaaGreatDoor
