/- Of the proof of FnDeltaNeeds: Merge, KP, gB, SortS, MatS. -/
import Derived.RangeFuncNested
import Derived.RangeFuncBound
import Derived.Test.YtkjinanbccloeaaGreatDoorE07
import Derived.Test.YtkjinanbccloeaaGreatDoorE08
import Derived.Lib.OwnBridge
import Derived.Sort.OwnSorted
import Derived.Lib.QuietBelow
import Derived.StillTailTactics
import Derived.Test.YtkjinanbccloeaaGreatDoorE06
set_option linter.unusedVariables false
set_option maxHeartbeats 4000000
set_option maxRecDepth 100000
namespace Go.Proofs.YtkjinanbccloeaaGreatDoor
section
open Go.RowKit D Go.Shelf
attribute [local go_sem ↓] Go.wp_at_zero Go.wp_at_succ
attribute [local go_sem] Oper.semAt_some
structure D.pK (w0:World) where
 c0:Value
 c1:Value
 a:A
 s:Nat
 bs:List Nat
 h:aJ w0 [c0,c1] a bs
def D.pK.key {y:World} (x:pK y):A × Nat:=(x.a,x.s)
def D.pK.enc {y:World} (x:pK y):Array Value:=#[.agg #[x.c0,x.c1],.int .i64 x.s]
theorem D.pO {w w':World} (h:Below w.heap.size w w'):w.grownBy w' none:=⟨h.os,h.tape,h.output,h.size,fun k y _=>h.block k y⟩
theorem D.lm {I:World} (y:List (pK I)) (x:pK I) {m rest:List (A × Nat)} (h:m=y.map pK.key ++ x.key :: rest):m=(y ++ [x]).map pK.key ++ rest:=by rw [h]; simp
structure D.MInv (B1 B2:Nat) (v1 v2:Value) (wd W:World):Prop where
 s1:W.cell? ⟨B1,0,none⟩=some v1
 s2:W.cell? ⟨B1,1,none⟩=some (.func (.func 64) #[] #[])
 s3:W.cell? ⟨B2,0,none⟩=some v2
 hb:Below wd.heap.size wd W
theorem D.MInv.below {y I:Nat} {v1 J:Value} {wd W U:World} (h:MInv y I v1 J wd W) (hb:Below W.heap.size W U):MInv y I v1 J wd U:=
 ⟨ξ hb h.s1,ξ hb h.s2,ξ hb h.s3,h.hb.trans (hb.mono h.hb.size)⟩
theorem RN (n:Nat) (hn:1≤n) (l B1 B2:Nat) (xs ys:List A) (v1 v2:Value) (az aD:List Nat) (wd:World) (h1:aC wd [v1] xs az) (h2:aC wd [v2] ys aD)
  (Kp:World→World→Prop) (aa:∀ W W',Kp W W'→MInv B1 B2 v1 v2 wd W→MInv B1 B2 v1 v2 wd W')
  (J Jx:List (pK wd)→World→Prop) (W:World) (hW:MInv B1 B2 v1 v2 wd W) (hJ:AbidesFrom W.heap.size J)
  (hY:∀ y x W,J y W→y.length < (bQ xs ys).length→YieldAt Fence.wide (n - 1) Tryz.prog l x.enc W fun e W'=>
   (e=.returned (.bool true)∧J (y ++ [x]) W'∧Kp W W')∨(e=.returned (.bool false)∧Jx (y ++ [x]) W'))
  (h0:J [] W):
  CallsIn Fence.wide n Tryz.prog 197 #[.func (.yield l) #[] #[],.pointer (some ⟨B1,0,none⟩),.pointer (some ⟨B2,0,none⟩)] W fun e W'=>(∃ v,e=.returned v)∧
   ((∃ y,y.map pK.key=bQ xs ys∧J y W')∨(∃ y rest,y.map pK.key ++ rest=bQ xs ys∧Jx y W')):=by
 obtain ⟨Ad,cap,rfl,hl,hm⟩:=aj h1;obtain ⟨aE,cap2,rfl,aL,ag⟩:=aj h2;have b5:=ay (τ hl hm);have b4:=ay (τ aL ag);clear hm ag;refine callsIn_of_wp Tryz.func197 rfl trivial ?_ rfl;simp only [Tryz.ntmps197,List.size_toArray,List.length_cons,List.length_nil,Nat.reduceAdd,Nat.reduceSub,Array.replicate_succ,Array.replicate_zero,List.push_toArray,List.append_toArray,List.nil_append,List.cons_append]
 gi_wp2
 gi_loopw [4,5] (fun i j wr=>∃ (p q:Nat) (y:List (pK wd)),p≤xs.length∧q≤ys.length∧i=.int .i64 p∧j=.int .i64 q∧bQ xs ys=y.map pK.key ++ bQ (xs.drop p) (ys.drop q)∧J y wr∧MInv B1 B2 (.slice Ad xs.length cap) (.slice aE ys.length cap2) wd wr)
  (fun i j _=>xs.length+ys.length - (intOf i).toNat - (intOf j).toNat)
 case atStart=>exact ⟨0,0,[],ε,ε,rfl,rfl,rfl,h0,hW⟩
 case round=>
  obtain ⟨p,q,y,hp,hq,rfl,rfl,am,a7,hI⟩:=hrel;have hb:=hI.hb;have HI:=η hI;have HM:=η am;clear am;have r1:=hI.s1;have r2:=hI.s2;have r3:=hI.s3;clear hI;have b6:(0:Int)≤(p:Int):=by omega
  have b7:(0:Int)≤(q:Int):=by omega
  by_cases a8:p < xs.length
  ·have b8:(p:Int) < (xs.length:Int):=by omega
   have aM:¬ (p:Int)=(xs.length:Int):=by omega
   have aR:((p:Int) == (xs.length:Int))=false:=beq_eq_false_iff_ne.2 aM;obtain ⟨b,o,Ae,ce,bk,rfl,_,c0,c1,U,_⟩:=dL h1 a8;have f0:=ξ hb c0;have f1:=ξ hb c1;by_cases a5:q < ys.length
   ·have b1:(q:Int) < (ys.length:Int):=by omega
    have b2:¬ (q:Int)=(ys.length:Int):=by omega
    have b3:((q:Int) == (ys.length:Int))=false:=beq_eq_false_iff_ne.2 b2;obtain ⟨b',o',Af,cf,bm,rfl,_,d0,d1,a1,_⟩:=dL h2 a5;have e0:=ξ hb d0;have e1:=ξ hb d1;have hD:Below wr.heap.size wr wr.drew:=Below.drew ϑ;have a9:=wK xs[p] ys[q] _ _ _ _ bk bm wr.drew (ak.below U (hb.trans (hD.mono hb.size))) (ak.below a1 (hb.trans (hD.mono hb.size)));by_cases ao:bV xs[p] ys[q] < 0
    ·have HN:=η (HM.out.trans (by rw [List.drop_eq_getElem_cons a8,List.drop_eq_getElem_cons a5,mV ao]))
     rw [← List.drop_eq_getElem_cons a5] at HN;clear h1 h2
     gi_wp2
     rw [wpIn_wide]
     go_region_held3 (fun w'=>w'.cell? ⟨B1,0,none⟩=some (.slice (some ⟨b,o,none⟩) xs.length cap)∧w'.cell? ⟨B1,1,none⟩=some (.func (.func 64) #[] #[])∧w'.cell? ⟨B2,0,none⟩=some (.slice (some ⟨b',o',none⟩) ys.length cap2)∧w'.cell? ⟨b,o+p * 2,none⟩=some (.string xs[p].name)∧w'.cell? ⟨b,o+p * 2+1,none⟩=some (.slice Ae xs[p].args.length ce)∧w'.cell? ⟨b',o'+q * 2,none⟩=some (.string ys[q].name)∧w'.cell? ⟨b',o'+q * 2+1,none⟩=some (.slice Af ys[q].args.length cf))
      (first | go_keep | exact ⟨y0,y1,y2,y3,y4,y5,y6⟩)
      (first | (go_at_call 64; refine a9.mono ?_; rintro e w2 ⟨rfl,I⟩; have y0:=ξ I r1; have y1:=ξ I r2; have y2:=ξ I r3; have y3:=ξ I f0; have y4:=ξ I f1; have y5:=ξ I e0; have y6:=ξ I e1))
     have a6:=hD.trans I;have ab:=HI.out.below a6;have a2:=hJ _ _ _ none a7 (pO a6) (fun r e=>by cases e);clear a9 r1 r2 r3 f0 f1 e0 e1;obtain ⟨fn,tmps,assign,body,hy,hR⟩:=hY y ⟨.string xs[p].name,.slice Ae xs[p].args.length ce,xs[p],0,bk,U⟩ w2 a2 (by rw [HN.out]; simp);dsimp only [pK.enc] at hy;rw [show ((0:Nat):Int)=0 from rfl] at hy
     gi_wp2
     refine hR.mono ?_;rintro e W3 (⟨rfl,a3,a4⟩ | ⟨rfl,a0⟩)
     ·gi_wp2
      go_roundw
      case rel=>exact ⟨p+1,q,y ++ [⟨.string xs[p].name,.slice Ae xs[p].args.length ce,xs[p],0,bk,U⟩],by omega,by omega,by go_num,by go_num,lm y ⟨.string xs[p].name,.slice Ae xs[p].args.length ce,xs[p],0,bk,U⟩ HN.out,a3,aa _ _ a4 ab⟩
      case measure=>simp [intOf]; omega
     ·gi_wp2
      refine bodyPost_ret (results_none rfl _ _ _) rfl ?_;exact ⟨⟨_,rfl⟩,.inr ⟨y ++ [⟨.string xs[p].name,.slice Ae xs[p].args.length ce,xs[p],0,bk,U⟩],_,(lm y ⟨.string xs[p].name,.slice Ae xs[p].args.length ce,xs[p],0,bk,U⟩ HN.out).symm,a0⟩⟩
    ·by_cases aq:0 < bV xs[p] ys[q]
     ·have HN:=η (HM.out.trans (by rw [List.drop_eq_getElem_cons a8,List.drop_eq_getElem_cons a5,mW aq]))
      rw [← List.drop_eq_getElem_cons a8] at HN;clear h1 h2
      gi_wp2
      rw [wpIn_wide]
      go_region_held3 (fun w'=>w'.cell? ⟨B1,0,none⟩=some (.slice (some ⟨b,o,none⟩) xs.length cap)∧w'.cell? ⟨B1,1,none⟩=some (.func (.func 64) #[] #[])∧w'.cell? ⟨B2,0,none⟩=some (.slice (some ⟨b',o',none⟩) ys.length cap2)∧w'.cell? ⟨b,o+p * 2,none⟩=some (.string xs[p].name)∧w'.cell? ⟨b,o+p * 2+1,none⟩=some (.slice Ae xs[p].args.length ce)∧w'.cell? ⟨b',o'+q * 2,none⟩=some (.string ys[q].name)∧w'.cell? ⟨b',o'+q * 2+1,none⟩=some (.slice Af ys[q].args.length cf))
       (first | go_keep | exact ⟨y0,y1,y2,y3,y4,y5,y6⟩)
       (first | (go_at_call 64; refine a9.mono ?_; rintro e w2 ⟨rfl,I⟩; have y0:=ξ I r1; have y1:=ξ I r2; have y2:=ξ I r3; have y3:=ξ I f0; have y4:=ξ I f1; have y5:=ξ I e0; have y6:=ξ I e1))
      have a6:=hD.trans I;have ab:=HI.out.below a6;have a2:=hJ _ _ _ none a7 (pO a6) (fun r e=>by cases e);clear a9 r1 r2 r3 f0 f1 e0 e1;obtain ⟨fn,tmps,assign,body,hy,hR⟩:=hY y ⟨.string ys[q].name,.slice Af ys[q].args.length cf,ys[q],1,bm,a1⟩ w2 a2 (by rw [HN.out]; simp);dsimp only [pK.enc] at hy;rw [show ((1:Nat):Int)=1 from rfl] at hy
      gi_wp2
      refine hR.mono ?_;rintro e W3 (⟨rfl,a3,a4⟩ | ⟨rfl,a0⟩)
      ·gi_wp2
       go_roundw
       case rel=>exact ⟨p,q+1,y ++ [⟨.string ys[q].name,.slice Af ys[q].args.length cf,ys[q],1,bm,a1⟩],by omega,by omega,by go_num,by go_num,lm y ⟨.string ys[q].name,.slice Af ys[q].args.length cf,ys[q],1,bm,a1⟩ HN.out,a3,aa _ _ a4 ab⟩
       case measure=>simp [intOf]; omega
      ·gi_wp2
       refine bodyPost_ret (results_none rfl _ _ _) rfl ?_;exact ⟨⟨_,rfl⟩,.inr ⟨y ++ [⟨.string ys[q].name,.slice Af ys[q].args.length cf,ys[q],1,bm,a1⟩],_,(lm y ⟨.string ys[q].name,.slice Af ys[q].args.length cf,ys[q],1,bm,a1⟩ HN.out).symm,a0⟩⟩
     ·have HN:=η (HM.out.trans (by rw [List.drop_eq_getElem_cons a8,List.drop_eq_getElem_cons a5,mX ao aq]))
      clear h1 h2
      gi_wp2
      rw [wpIn_wide]
      go_region_held3 (fun w'=>w'.cell? ⟨B1,0,none⟩=some (.slice (some ⟨b,o,none⟩) xs.length cap)∧w'.cell? ⟨B1,1,none⟩=some (.func (.func 64) #[] #[])∧w'.cell? ⟨B2,0,none⟩=some (.slice (some ⟨b',o',none⟩) ys.length cap2)∧w'.cell? ⟨b,o+p * 2,none⟩=some (.string xs[p].name)∧w'.cell? ⟨b,o+p * 2+1,none⟩=some (.slice Ae xs[p].args.length ce)∧w'.cell? ⟨b',o'+q * 2,none⟩=some (.string ys[q].name)∧w'.cell? ⟨b',o'+q * 2+1,none⟩=some (.slice Af ys[q].args.length cf))
       (first | go_keep | exact ⟨y0,y1,y2,y3,y4,y5,y6⟩)
       (first | (go_at_call 64; refine a9.mono ?_; rintro e w2 ⟨rfl,I⟩; have y0:=ξ I r1; have y1:=ξ I r2; have y2:=ξ I r3; have y3:=ξ I f0; have y4:=ξ I f1; have y5:=ξ I e0; have y6:=ξ I e1))
      have a6:=hD.trans I;have ab:=HI.out.below a6;have a2:=hJ _ _ _ none a7 (pO a6) (fun r e=>by cases e);clear a9 r1 r2 r3 f0 f1 e0 e1;obtain ⟨fn,tmps,assign,body,hy,hR⟩:=hY y ⟨.string xs[p].name,.slice Ae xs[p].args.length ce,xs[p],2,bk,U⟩ w2 a2 (by rw [HN.out]; simp);dsimp only [pK.enc] at hy;rw [show ((2:Nat):Int)=2 from rfl] at hy
      gi_wp2
      refine hR.mono ?_;rintro e W3 (⟨rfl,a3,a4⟩ | ⟨rfl,a0⟩)
      ·gi_wp2
       go_roundw
       case rel=>exact ⟨p+1,q+1,y ++ [⟨.string xs[p].name,.slice Ae xs[p].args.length ce,xs[p],2,bk,U⟩],by omega,by omega,by go_num,by go_num,lm y ⟨.string xs[p].name,.slice Ae xs[p].args.length ce,xs[p],2,bk,U⟩ HN.out,a3,aa _ _ a4 ab⟩
       case measure=>simp [intOf]; omega
      ·gi_wp2
       refine bodyPost_ret (results_none rfl _ _ _) rfl ?_;exact ⟨⟨_,rfl⟩,.inr ⟨y ++ [⟨.string xs[p].name,.slice Ae xs[p].args.length ce,xs[p],2,bk,U⟩],_,(lm y ⟨.string xs[p].name,.slice Ae xs[p].args.length ce,xs[p],2,bk,U⟩ HN.out).symm,a0⟩⟩
   ·have ac:q=ys.length:=by omega
    have af:ys.drop q = []:=List.drop_of_length_le (Nat.le_of_eq ac.symm);have ar:(q:Int)=(ys.length:Int):=by omega
    have b3:((q:Int) == (ys.length:Int))=true:=beq_iff_eq.2 ar;have HN:=η (HM.out.trans (by rw [af,List.drop_eq_getElem_cons a8,bQ]));have HD:=η af;have a2:=a7;clear h1 h2 af ar ac;obtain ⟨fn,tmps,assign,body,hy,hR⟩:=hY y ⟨.string xs[p].name,.slice Ae xs[p].args.length ce,xs[p],0,bk,U⟩ wr a2 (by rw [HN.out]; simp);dsimp only [pK.enc] at hy;rw [show ((0:Nat):Int)=0 from rfl] at hy
    gi_wp2
    refine hR.mono ?_;rintro e W3 (⟨rfl,a3,a4⟩ | ⟨rfl,a0⟩)
    ·gi_wp2
     go_roundw
     case rel=>exact ⟨p+1,q,y ++ [⟨.string xs[p].name,.slice Ae xs[p].args.length ce,xs[p],0,bk,U⟩],by omega,by omega,by go_num,by go_num,by rw [HD.out]; exact lm y ⟨.string xs[p].name,.slice Ae xs[p].args.length ce,xs[p],0,bk,U⟩ HN.out,a3,aa _ _ a4 HI.out⟩
     case measure=>simp [intOf]; omega
    ·gi_wp2
     refine bodyPost_ret (results_none rfl _ _ _) rfl ?_;exact ⟨⟨_,rfl⟩,.inr ⟨y ++ [⟨.string xs[p].name,.slice Ae xs[p].args.length ce,xs[p],0,bk,U⟩],_,(lm y ⟨.string xs[p].name,.slice Ae xs[p].args.length ce,xs[p],0,bk,U⟩ HN.out).symm,a0⟩⟩
  ·have av:p=xs.length:=by omega
   have ae:xs.drop p = []:=List.drop_of_length_le (Nat.le_of_eq av.symm);have aw:(p:Int)=(xs.length:Int):=by omega
   have aR:((p:Int) == (xs.length:Int))=true:=beq_iff_eq.2 aw;by_cases a5:q < ys.length
   ·have b1:(q:Int) < (ys.length:Int):=by omega
    obtain ⟨b',o',Af,cf,bm,rfl,_,d0,d1,a1,_⟩:=dL h2 a5;have e0:=ξ hb d0;have e1:=ξ hb d1;have HN:=η (HM.out.trans (by rw [ae,List.drop_eq_getElem_cons a5,bQ]));have HD:=η ae;have a2:=a7;clear h1 h2 ae aw av;obtain ⟨fn,tmps,assign,body,hy,hR⟩:=hY y ⟨.string ys[q].name,.slice Af ys[q].args.length cf,ys[q],1,bm,a1⟩ wr a2 (by rw [HN.out]; simp);dsimp only [pK.enc] at hy;rw [show ((1:Nat):Int)=1 from rfl] at hy
    gi_wp2
    refine hR.mono ?_;rintro e W3 (⟨rfl,a3,a4⟩ | ⟨rfl,a0⟩)
    ·gi_wp2
     go_roundw
     case rel=>exact ⟨p,q+1,y ++ [⟨.string ys[q].name,.slice Af ys[q].args.length cf,ys[q],1,bm,a1⟩],by omega,by omega,by go_num,by go_num,by rw [HD.out]; exact lm y ⟨.string ys[q].name,.slice Af ys[q].args.length cf,ys[q],1,bm,a1⟩ HN.out,a3,aa _ _ a4 HI.out⟩
     case measure=>simp [intOf]; omega
    ·gi_wp2
     refine bodyPost_ret (results_none rfl _ _ _) rfl ?_;exact ⟨⟨_,rfl⟩,.inr ⟨y ++ [⟨.string ys[q].name,.slice Af ys[q].args.length cf,ys[q],1,bm,a1⟩],_,(lm y ⟨.string ys[q].name,.slice Af ys[q].args.length cf,ys[q],1,bm,a1⟩ HN.out).symm,a0⟩⟩
   ·have ac:q=ys.length:=by omega
    have HN:=η (HM.out.trans (by rw [ae,List.drop_of_length_le (Nat.le_of_eq ac.symm),bQ,List.append_nil]))
    gi_wp2
    go_end0
    exact ⟨⟨_,rfl⟩,.inl ⟨y,HN.out.symm,a7⟩⟩
end
section
open Go.RowKit Go.ChangeMaps Go.MapKept D
def D.isStr (v:Value):Prop:=∃ s:ByteArray,v=.string s∧s.size≤maxLen
theorem D.nP:KP Tryz.prog 9 (fun _=>True) isStr:=by
 have K:=Go.WideMaps.string_law (P:=Tryz.prog) Tryz.underlying9;have y:∀ {s:ByteArray},s.size≤maxLen→keyOf Tryz.prog 9 (.string s)=some (.string s.data.toList):=fun h=>Go.WideMaps.keyOf_string_mk Tryz.underlying9 h
 refine ⟨?_,?_,?_⟩
 ·rintro w U v ⟨s,rfl,I⟩
  exact K.check w U (y I)
 ·rintro w _ k ⟨s,rfl,I⟩ es J
  exact K.find w (y I) es fun e he=>by
   obtain ⟨s',h1,h2⟩:=J e he;exact ⟨_,by rw [h1]; exact y h2⟩
 ·rintro v ⟨s,rfl,_⟩
  simp [Instr.sameBits]
structure D.WK where
 name:ByteArray
 size:Nat
 place:Int
 word:ByteArray
deriving DecidableEq
def D.Ib (k:WK):Value:=.agg #[.string k.name,.int .i64 k.size,.int .i64 k.place,.string k.word]
def D.Jt (v:Value):Prop:=∃ k:WK,v=Ib k
theorem D.Ju {k l:WK} (h:Ib k=Ib l):k=l:=by
 obtain ⟨a,b,c,d⟩:=k;obtain ⟨I,y,J,U⟩:=l;simp [Ib] at h;obtain ⟨rfl,h2,rfl,rfl⟩:=h;have:b=y:=by omega
 rw [this]
theorem EL:Tryz.prog.underlying 236=some (.struct (Tryz.prog.fieldsOf 236)):=by kernel_rfl
theorem Yt:Tryz.prog.stoodInHeld 236=false:=by kernel_rfl
theorem Yu : (Tryz.prog.fieldsOf 236).toList.map (fun f => (f.name, f.type, f.offset)) = [("name", 9, 0), ("size", 3, 1), ("at", 3, 2), ("word", 9, 3)] := by kernel_rfl
theorem D.Ic : ∃ y I f2 J, (Tryz.prog.fieldsOf 236).toList = [y, I, f2, J] ∧ (y.name ≠ "_" ∧ y.type = 9 ∧ y.offset = 0) ∧ (I.name ≠ "_" ∧ I.type = 3 ∧ I.offset = 1) ∧
  (f2.name ≠ "_" ∧ f2.type = 3 ∧ f2.offset = 2) ∧ (J.name ≠ "_" ∧ J.type = 9 ∧ J.offset = 3) := by
 have h:=Yu;generalize (Tryz.prog.fieldsOf 236).toList=L at h;have U:L.length=4:=by have:=congrArg List.length h; simpa using this
 match L,U,h with
 | [y,I,f2,J],_,h=>
  simp at h;obtain ⟨⟨a1,a2,a3⟩,⟨b1,b2,b3⟩,⟨c1,c2,c3⟩,d1,d2,d3⟩:=h;exact ⟨y,I,f2,J,rfl,⟨by rw [a1]; decide,a2,a3⟩,⟨by rw [b1]; decide,b2,b3⟩,⟨by rw [c1]; decide,c2,c3⟩,by rw [d1]; decide,d2,d3⟩
theorem D.Yv (d:Nat) (a b:ByteArray) (w:World):(Op.equalIn (d+1) 9 (.string a) (.string b)).run Tryz.prog w=.ok (a == b) w:=by
 simp [Op.equalIn,run_underlying Tryz.underlying9,Result.andThen]
theorem D.eq_int (d:Nat) (a b:Int) (w:World):(Op.equalIn (d+1) 3 (.int .i64 a) (.int .i64 b)).run Tryz.prog w=.ok (a == b) w:=by
 simp [Op.equalIn,run_underlying Tryz.underlying3,Result.andThen]
theorem D.LX {cs:Array Value} {o:Nat} {v:Value} (h:cs[o]? = some v) (w:World):(part 9 cs o).run Tryz.prog w=.ok v w:=by
 simp [part,isAgg,run_underlying Tryz.underlying9,h,Result.andThen]
theorem D.LY {cs:Array Value} {o:Nat} {v:Value} (h:cs[o]? = some v) (w:World):(part 3 cs o).run Tryz.prog w=.ok v w:=by
 simp [part,isAgg,run_underlying Tryz.underlying3,h,Result.andThen]
theorem D.Xo:Yg Tryz.prog 236 (fun _=>True) Jt:=by
 refine ⟨⟨_,EL,?_⟩,?_⟩
 ·rintro a b ⟨k,rfl⟩ ⟨l,rfl⟩
  rfl
 ·rintro w a b _ ⟨k,rfl⟩ ⟨l,rfl⟩
  obtain ⟨f0,f1,f2,f3,hf,⟨a1,a2,a3⟩,⟨b1,b2,b3⟩,⟨c1,c2,c3⟩,d1,d2,d3⟩:=Ic;have y:=run_equalIn_struct (P:=Tryz.prog) (w:=w) 9999 236 #[.string k.name,.int .i64 k.size,.int .i64 k.place,.string k.word] #[.string l.name,.int .i64 l.size,.int .i64 l.place,.string l.word] EL Yt;refine ⟨k.name == l.name && ((k.size:Int) == (l.size:Int) && (k.place == l.place && k.word == l.word)),?_,?_⟩
  ·show (Op.equalIn 10000 _ _ _).run _ _=_
   unfold Ib;rw [y,hf];simp [Op.eqFields,a1,a2,a3,b1,b2,b3,c1,c2,c3,d1,d2,d3,LX,LY,Yv,eq_int,Result.andThen]
   by_cases h1:k.name=l.name <;> by_cases U:(k.size:Int)=(l.size:Int) <;> by_cases I:k.place=l.place <;> by_cases J:k.word=l.word <;> simp [h1,U,I,J]
  ·constructor
   ·intro h
    simp at h;obtain ⟨h1,U,I,J⟩:=h;obtain ⟨a,b,c,d⟩:=k;obtain ⟨a',b',c',d'⟩:=l;simp only at h1 U I J;rw [h1,I,J,show b=b' by omega]
   ·intro h
    rw [Ju h];simp
theorem D.RP (y:Bool) (v:ByteArray) (w:World):(Instr.checkKey y 9999 9 (.string v)).run Tryz.prog w=.ok () w:=by
 show (Instr.checkKey y (9998+1) _ _).run _ _=_;rw [Instr.checkKey];simp [run_underlying Tryz.underlying9,Result.andThen]
theorem D.RQ (y:Bool) (v:Int) (w:World):(Instr.checkKey y 9999 3 (.int .i64 v)).run Tryz.prog w=.ok () w:=by
 show (Instr.checkKey y (9998+1) _ _).run _ _=_;rw [Instr.checkKey];simp [run_underlying Tryz.underlying3,Result.andThen]
theorem D.yK:KP Tryz.prog 236 (fun _=>True) Jt:=by
 refine ⟨?_,fun y k I es J=>Rn Xo y I es J,?_⟩
 ·rintro w U v ⟨k,rfl⟩
  obtain ⟨f0,f1,f2,f3,hf,⟨a1,a2,a3⟩,⟨b1,b2,b3⟩,⟨c1,c2,c3⟩,d1,d2,d3⟩:=Ic;show (Instr.checkKey U (9999+1) _ _).run _ _=_;rw [Instr.checkKey];unfold Ib;simp only [Sem.run_bind,run_underlying EL,Result.andThen_ok];rw [← Array.forIn_toList,hf];simp [a1,a2,a3,b1,b2,b3,c1,c2,c3,d1,d2,d3,LX,LY,RP,RQ,Result.andThen]
 ·rintro v ⟨k,rfl⟩
  simp [Instr.sameBits,Ib]
end
section
open Go.RowKit Go.Maps D
theorem D.Bc:Keyed Tryz.prog 9:=string_keyed Tryz.underlying9
theorem D.U7 (w:World):(zeroValue 3).run Tryz.prog w=.ok (.int .i64 0) w:=by kernel_rfl
def D.Bf (s:ByteArray):Lit:=.string s.data.toList
theorem D.oH {s:ByteArray} (h:s.size≤maxLen):keyOf Tryz.prog 9 (.string s)=some (Bf s):=Go.WideMaps.keyOf_string_mk Tryz.underlying9 h
theorem D.yL {s t:ByteArray} (h:Bf s=Bf t):s=t:=by
 unfold Bf at h
 injection h with h
 exact bytes_inj h
theorem D.Bg {H:Type} {x y:Int} (h:(DataW.lit (.int .i64 x):DataW H)=.lit (.int .i64 y)):x=y:=by simpa using h
structure D.gB (b n:Nat) (L:List ByteArray) (f:ByteArray→Int) (w:World):Prop where
 own:∃ M:DataW Unit,w.ownsMap Tryz.prog 9 (plainElem Tryz.prog 3) b n M∧Maps.size M=L.length∧(∀ s,has M (Bf s)=decide (s ∈ L))∧∀ s ∈ L,M.atKey (Bf s) (.lit (.int .i64 0))=.lit (.int .i64 (f s))
 nd:L.Nodup
 sz:∀ s ∈ L,s.size≤maxLen
theorem D.gB.made (w:World) (f:ByteArray→Int):gB w.heap.size 0 [] f (w.alloc (.map #[] 0)):=
 ⟨⟨.map [],World.ownsMap_made _ _ _ _,rfl,fun s=>by simp [has],fun s h=>by simp at h⟩,List.nodup_nil,fun s h=>by simp at h⟩
theorem D.gB.same {b n:Nat} {L:List ByteArray} {f:ByteArray→Int} {w w':World} (h:gB b n L f w) (e:w'.heap[b]? = w.heap[b]?):gB b n L f w':=by
 obtain ⟨⟨M,⟨es,c,h1,y⟩,I⟩,J,U⟩:=h;exact ⟨⟨M,⟨es,c,e.trans h1,y⟩,I⟩,J,U⟩
theorem D.gB.mono {b n y:Nat} {L:List ByteArray} {f:ByteArray→Int} {w:World} (h:gB b n L f w) (hn:n≤y):gB b y L f w:=by
 obtain ⟨⟨M,h1,I⟩,J,U⟩:=h;exact ⟨⟨M,h1.mono hn,I⟩,J,U⟩
theorem D.gB.lt {b n:Nat} {L:List ByteArray} {f:ByteArray→Int} {w:World} (h:gB b n L f w):b < w.heap.size:=by
 obtain ⟨⟨M,h1,_⟩,_⟩:=h;exact h1.lt
theorem D.gB.below {b n:Nat} {L:List ByteArray} {f:ByteArray→Int} {w w':World} {B:Nat} (h:gB b n L f w) (hb:Below B w w') (hB:b < B):gB b n L f w':=h.same (hb.block b hB)
theorem D.gB.setCell {b n:Nat} {L:List ByteArray} {f:ByteArray→Int} {w:World} (h:gB b n L f w) {a:Addr} (ha:b ≠ a.block) (u:Value):gB b n L f (w.setCell a u):=
 h.same (π _ _ _ _ ha)
theorem D.gB.Yw {b n:Nat} {L:List ByteArray} {f:ByteArray→Int} {w:World} (h:gB b n L f w):L.length≤n:=by
 obtain ⟨⟨M,h1,y,_⟩,_⟩:=h;have:=h1.size_le;omega
theorem D.gB.congr {b n:Nat} {L:List ByteArray} {f g:ByteArray→Int} {w:World} (h:gB b n L f w) (e:∀ s ∈ L,f s=g s):gB b n L g w:=by
 obtain ⟨⟨M,h1,I,J,U⟩,h5,h6⟩:=h;exact ⟨⟨M,h1,I,J,fun s y=>by rw [U s y,e s y]⟩,h5,h6⟩
section
variable {ops:Array Oper} {rest:List Oper} {o:Oper} {a:Act} {Q:Exit→Act→World→Prop}
theorem bZ (w:World) (U:o.guard=none) (m x:Operand) (t:TypeId) (I:o.op=Op.lookup t m x true) (ht:Tryz.prog.underlying t=some (.map 9 3))
  (b n:Nat) (L:List ByteArray) (f:ByteArray→Int) (hm:a.eval m=.map (some b)) (h:gB b n L f w) (s:ByteArray) (hx:a.eval x=.string s) (hs:s.size≤maxLen)
  (c:Bool) (hc:decide (s ∈ L)=c) (v:Int) (hv:(if s ∈ L then f s else 0)=v)
  (hK:wpList Tryz.prog ops Q rest (a.put o.dst (.tuple #[.int .i64 v,.bool c])) w):wpList Tryz.prog ops Q (o :: rest) a w:=by
 obtain ⟨⟨M,h1,h2,J,h4⟩,h5,h6⟩:=h;refine wpList_lookup_own_ok_int w U m x t I _ _ .i64 Bc ht Tryz.underlying3 (U7 w) b n M hm h1 (.string s) (Bf s) hx (oH hs) fun d y hw=>?_
 rw [J s,hc]
 have:d=v:=by
  rw [← hv]
  split
  ·rename_i hmem
   have:=h4 s hmem;rw [this] at y;exact Bg y.symm
  ·rename_i hmem
   have h7:has M (Bf s)=false:=by rw [J s]; simpa using hmem
   rw [atKey_of_not_has h7] at y;exact Bg y.symm
 rw [this];exact hK
theorem uM (w:World) (J:o.guard=none) (m x:Operand) (t:TypeId) (I:o.op=Op.lookup t m x false) (U:Tryz.prog.underlying t=some (.map 9 3))
  (b n:Nat) (L:List ByteArray) (f:ByteArray→Int) (hm:a.eval m=.map (some b)) (h:gB b n L f w) (s:ByteArray) (hx:a.eval x=.string s) (hs:s.size≤maxLen)
  (v:Int) (hv:(if s ∈ L then f s else 0)=v)
  (hK:wpList Tryz.prog ops Q rest (a.put o.dst (.int .i64 v)) w):wpList Tryz.prog ops Q (o :: rest) a w:=by
 obtain ⟨⟨M,h1,h2,h3,h4⟩,h5,h6⟩:=h;refine wpList_lookup_own_int w J m x t I _ _ .i64 Bc U Tryz.underlying3 (U7 w) b n M hm h1 (.string s) (Bf s) hx (oH hs) fun d y hw=>?_
 have:d=v:=by
  rw [← hv]
  split
  ·rename_i hmem
   have:=h4 s hmem;rw [this] at y;exact Bg y.symm
  ·rename_i hmem
   have h7:has M (Bf s)=false:=by rw [h3 s]; simpa using hmem
   rw [atKey_of_not_has h7] at y;exact Bg y.symm
 rw [this];exact hK
theorem fA (w:World) (I:o.guard=none) (m:Operand) (t:TypeId) (y:o.op=Op.call { callee:=Callee.builtin Builtin.len,args:=#[m],argTypes:=#[t] }) (J:Tryz.prog.underlying t=some (.map 9 3))
  (b n:Nat) (L:List ByteArray) (f:ByteArray→Int) (hm:a.eval m=.map (some b)) (h:gB b n L f w)
  (hK:wpList Tryz.prog ops Q rest (a.put o.dst (.int .i64 L.length)) w):wpList Tryz.prog ops Q (o :: rest) a w:=by
 obtain ⟨⟨M,h1,U,h3,h4⟩,h5,h6⟩:=h;refine wpList_len_own w I m t y _ _ J _ b n M hm h1 ?_;rw [U];exact hK
theorem D.su {L:List ByteArray} (h:L.Nodup) (s:ByteArray):(dZ L s).Nodup:=(qg [s] L h).1
theorem jS (w:World) (hg:o.guard=none) (m x v:Operand) (t:TypeId) (J:o.op=Op.mapUpdate t m x v) (y:Tryz.prog.underlying t=some (.map 9 3))
  (b n:Nat) (L:List ByteArray) (f:ByteArray→Int) (hm:a.eval m=.map (some b)) (h:gB b n L f w) (s:ByteArray) (hx:a.eval x=.string s) (I:s.size≤maxLen) (z:Int) (hv:a.eval v=.int .i64 z) (hn:n < maxLen) (hz:0≤z∧z≤1000000)
  (hK:∀ w',gB b (n+1) (dZ L s) (fun t=>if t=s then z else f t) w'→w.grownBy w' (some b)→wpList Tryz.prog ops Q rest (a.put o.dst undef) w'):wpList Tryz.prog ops Q (o :: rest) a w:=by
 obtain ⟨⟨M,h1,h2,h3,h4⟩,h5,h6⟩:=h;refine wpList_mapUpdate_own w hg m x v t J _ _ Bc y _ b n M hm h1 hn (.string s) (.int .i64 z) (Bf s) hx hv (oH I) (.lit (.int .i64 z)) [] (plainElem_int Tryz.underlying3 (WalkArith.wf_i64 (by omega))) fun w' h7 U=>?_
 refine hK w' ⟨⟨_,h7,?_,fun t=>?_,fun t y=>?_⟩,su h5 s,fun t y=>?_⟩ U
 ·rw [size_put (h1.tidy Bc),h3 s]
  unfold dZ;by_cases hm:s ∈ L
  ·simp [hm,h2]
  ·simp [hm,h2]
 ·by_cases e:t=s
  ·subst e
   rw [has_put_same h1.isMap (Bc.key (oH I))];exact (decide_eq_true (dP.2 (.inr rfl))).symm
  ·rw [has_put_other (fun h=>e (yL h)),h3 t]
   by_cases hm:t ∈ L
   ·simp [hm,dP]
   ·simp [hm,dP,e]
 ·by_cases e:t=s
  ·subst e
   rw [atKey_put_same h1.isMap (Bc.key (oH I)),if_pos rfl]
  ·rw [atKey_put_other (fun h=>e (yL h)),if_neg e]
   exact h4 t ((dP.1 y).resolve_right e)
 ·rcases dP.1 y with h | rfl
  ·exact h6 t h
  ·exact I
end
open Go.WideElems (rg) in
theorem D.gB.tight {b n:Nat} {L:List ByteArray} {f:ByteArray→Int} {w:World} (h:gB b n L f w):gB b L.length L f w:=by
 obtain ⟨⟨M,⟨es,c,h1,J,h3,y⟩,I,U⟩,h7,h8⟩:=h;refine ⟨⟨M,⟨es,c,h1,J,?_,y⟩,I,U⟩,h7,h8⟩;rw [← I,y];simp [Maps.size,length_sorted]
section
variable {ops:Array Oper} {rest:List Oper} {o:Oper} {a:Act} {Q:Exit→Act→World→Prop}
theorem xE (w:World) (hg:o.guard=none) (m x v:Operand) (t:TypeId) (U:o.op=Op.insert t m x v) (y:Tryz.prog.underlying t=some (.map 9 3))
  (b n:Nat) (L:List ByteArray) (f:ByteArray→Int) (hm:a.eval m=.map (some b)) (h:gB b n L f w) (s:ByteArray) (hx:a.eval x=.string s) (J:s.size≤maxLen) (z:Int) (hv:a.eval v=.int .i64 z) (hn:n < maxLen) (hz:0≤z∧z≤1000000)
  (hK:∀ w',gB b (n+1) (dZ L s) (fun t=>if t=s then z else f t) w'→w.grownBy w' (some b)→wpList Tryz.prog ops Q rest (a.put o.dst undef) w'):wpList Tryz.prog ops Q (o :: rest) a w:=by
 obtain ⟨⟨M,h1,h2,h3,h4⟩,h5,h6⟩:=h;refine wpList_plain hg fun K' hK'=>?_
 obtain ⟨w',I,h7,a0⟩:=h1.update Bc y hn (oH J) (plainElem_int Tryz.underlying3 (WalkArith.wf_i64 (show _ from (by omega:-9223372036854775808≤z∧z≤9223372036854775807))));have a1:=hK w' ⟨⟨_,h7,?_,fun t=>?_,fun t y=>?_⟩,su h5 s,fun t y=>?_⟩ a0
 ·unfold Oper.wp
  simp [execOp,U,hm,hx,hv,I,Result.andThen];exact hK' _ _ a1
 ·rw [size_put (h1.tidy Bc),h3 s]
  unfold dZ;by_cases hm:s ∈ L
  ·simp [hm,h2]
  ·simp [hm,h2]
 ·by_cases e:t=s
  ·subst e
   rw [has_put_same h1.isMap (Bc.key (oH J))];exact (decide_eq_true (dP.2 (.inr rfl))).symm
  ·rw [has_put_other (fun h=>e (yL h)),h3 t]
   by_cases hm:t ∈ L
   ·simp [hm,dP]
   ·simp [hm,dP,e]
 ·by_cases e:t=s
  ·subst e
   rw [atKey_put_same h1.isMap (Bc.key (oH J)),if_pos rfl]
  ·rw [atKey_put_other (fun h=>e (yL h)),if_neg e]
   exact h4 t ((dP.1 y).resolve_right e)
 ·rcases dP.1 y with h | rfl
  ·exact h6 t h
  ·exact J
end
end
section
open Go.RowKit Go.Sort D
theorem D.Ie {base e:Nat} {w:World} {v:Value} {L:List Value} {xs:List ByteArray} {bs:List Nat} (h:aX 1 jI base e w v L xs bs):L=xs.map Value.string∧(∀ s ∈ xs,s.size≤maxLen)∧bs = []:=by
 obtain ⟨_,⟨J,_,G,rfl,I⟩,_⟩:=h;rw [Nat.mul_one] at J
 have h1:∀ j (y:j < xs.length),L[j]? = some (.string xs[j])∧xs[j].size≤maxLen∧G j = []:=fun j y=>by
  obtain ⟨a,b,c⟩:=I j y;refine ⟨?_,b,c⟩;rw [Nat.mul_one] at a;have:=congrArg (fun l:List Value=>l[0]?) a;simpa [List.getElem?_take,List.getElem?_drop] using this
 refine ⟨List.ext_getElem? fun j=>?_,fun s U=>?_,?_⟩
 ·by_cases y:j < xs.length
  ·rw [(h1 j y).1]; simp [y]
  ·rw [List.getElem?_eq_none (by omega),List.getElem?_eq_none (by simp; omega)]
 ·obtain ⟨j,y,rfl⟩:=List.mem_iff_getElem.1 U
  exact (h1 j y).2.1
 ·exact List.flatMap_eq_nil_iff.2 fun j y=>(h1 j (List.mem_range.1 y)).2.2
theorem D.yM {base e:Nat} {w:World} {v:Value} {ys:List ByteArray} (h:w.ownsRow base e 1 v ys.length (ys.map Value.string)) (I:∀ s ∈ ys,s.size≤maxLen):aX 1 jI base e w v (ys.map Value.string) ys []:=by
 refine ⟨h,⟨by simp,fun u J=>?_,fun _=>[],by simp,fun j y=>⟨?_,I _ (δ y),rfl⟩⟩,fun b hb=>by simp at hb⟩
 ·obtain ⟨s,_,rfl⟩:=List.mem_map.1 J
  rfl
 ·rw [Nat.mul_one]
  refine List.ext_getElem? fun i=>?_
  rcases i with _ | i
  ·simp [List.getElem?_drop,y]
  ·simp; omega
def D.EM (l:List (List UInt8)):List ByteArray:=l.map fun b=>⟨b.toArray⟩
theorem D.EN (l:List (List UInt8)):(EM l).map (·.data.toList)=l:=by
 unfold EM; rw [List.map_map]
 refine (List.map_congr_left (g:=id) fun b _=>?_).trans (List.map_id l);show b.toArray.toList=b;rfl
theorem D.LZ (l:List (List UInt8)):(EM l).map Value.string=l.map encStr:=by
 unfold EM; rw [List.map_map]; rfl
theorem D.Ig {l:List (List UInt8)} {n:Nat} (h:∀ b ∈ l,b.length≤n):∀ s ∈ EM l,s.size≤n:=fun s y=>by
 obtain ⟨b,hb,rfl⟩:=List.mem_map.1 y;exact h b hb
theorem D.EO {xs:List ByteArray} {n:Nat} (h:∀ s ∈ xs,s.size≤n):∀ b ∈ xs.map (·.data.toList),b.length≤n:=fun b hb=>by
 obtain ⟨s,y,rfl⟩:=List.mem_map.1 hb;exact h s y
theorem Ih (xs:List ByteArray) (v:Value) (L:List Value) (base:Nat) (w:World) (hC:aX 1 jI base 9 w v L xs []) (hl:xs.length≤16777216):
  Calls Tryz.prog 132 #[v] w fun e w'=>e=.returned (.tuple #[])∧∃ ys:List ByteArray,ys.map (·.data.toList)=(xs.map (·.data.toList)).mergeSort leB∧ys.length=xs.length∧aX 1 jI base 9 w' v (ys.map Value.string) ys []∧w.grownBy w' v.ownBlock:=by
 obtain ⟨rfl,hs,_⟩:=Ie hC;have a1:=hC.own
 rcases a1.2 with ⟨rfl,hx⟩ | ⟨g,cap,a3,rfl,J,hb,h1,h2,h3,h4⟩
 ·have a2:xs = []:=by simpa using hx
  subst a2;have cn:Calls Tryz.prog 132 #[.slice none 0 0] w (fun e w2=>e=.returned (.tuple #[])∧w2=w):=Any.slices_Sort_string_none Tryz.lays190 none 0 w;refine cn.mono ?_;rintro e w' ⟨rfl,rfl⟩;exact ⟨rfl,[],by simp,rfl,aX.nil _,World.grownBy.refl _ _⟩
 ·have I:(xs.map (·.data.toList)).length=xs.length:=by simp
  have hH:Holds encStr w g 0 (xs.map (·.data.toList)).toArray:=holds_of_block hb (by rw [I,Lib.map_encStr]; simpa using h4);have hg:g < w.heap.size:=ψ hb;have c:=Tryz.slices_Sort_string g 0 cap (xs.map (·.data.toList)) w hH hg (by omega);rw [I] at c;refine c.mono ?_;rintro e w' ⟨rfl,n,os,rfl⟩;have U:((xs.map (·.data.toList)).mergeSort leB).length=(xs.map (·.data.toList)).length:=List.length_mergeSort _;have y:=ownsRow_sorted (base:=base) (cap:=cap) (n:=n) (os:=os) U J hb (by rw [I]; exact h1) h2 h3;rw [I] at y U;have a0:(EM ((xs.map (·.data.toList)).mergeSort leB)).length=xs.length:=by unfold EM; rw [List.length_map]; exact U
  refine ⟨rfl,EM ((xs.map (·.data.toList)).mergeSort leB),EN _,a0,?_,grownBy_sorted _⟩;rw [← LZ,← a0] at y;have:=yM y (Ig fun b hb=>EO hs b ((List.mergeSort_perm _ _).mem_iff.1 hb));rw [a0] at this;exact this
end
section
open Go.RowKit Go.Sort D
attribute [local go_sem ↓] Go.wp_at_zero Go.wp_at_succ
theorem D.ni {w:World} {cs:List Value} {b:Bd} {bs:List Nat} (h:jE w cs b bs):∃ y p1 I p2,cs = [.slice y b.length p1,.slice I b.length p2]:=by
 obtain ⟨x0,x1,b1,b2,rfl,rfl,h1,J⟩:=h;obtain ⟨y,p1,rfl,U,a0⟩:=aj h1;obtain ⟨I,p2,rfl,a1,a2⟩:=aj J;rw [List.length_map,List.length_map];exact ⟨_,_,_,_,rfl⟩
def D.DR (t f:T) (b:Bd):Bd × Bool:=
 if t.var then
  match gI b t.name with
  | some v=>(b,decide (v=f.name))
  | none=>(b ++ [(t.name,f.name)],true)
 else (b,decide (t.name=f.name))
theorem D.L6 (t f:T) (y fs:List T) (b:Bd):cZ (t :: y) (f :: fs) b=if (DR t f b).2 then cZ y fs (DR t f b).1 else ((DR t f b).1,false):=by
 unfold DR;rw [cZ]
 cases t.var with
 | true=>
  simp only [if_true]
  cases gI b t.name with
  | none=>simp
  | some v=>
   simp only [];by_cases h:v=f.name
   ·simp [h]
   ·simp [h]
 | false=>
  simp only [Bool.false_eq_true,if_false];by_cases h:t.name=f.name
  ·simp [h]
  ·simp [h]
theorem D.L8 {xs ys:List T} (y:xs.length=ys.length) {b:Bd} {k:Nat} (h:k < xs.length):cZ (xs.drop k) (ys.drop k) b=if (DR xs[k] (ys[k]'(y ▸ h)) b).2 then cZ (xs.drop (k+1)) (ys.drop (k+1)) (DR xs[k] (ys[k]'(y ▸ h)) b).1 else ((DR xs[k] (ys[k]'(y ▸ h)) b).1,false):=by
 rw [List.drop_eq_getElem_cons (l:=xs) (i:=k) h,List.drop_eq_getElem_cons (l:=ys) (i:=k) (y ▸ h),L6]
structure D.MB (N:Nat) (x f:A) (Ad Ad':Option Addr) (cap cap':Nat) (u0 u1 v0 v1:Value) (w:World):Prop where
 x_:w.heap[N]? = some (.cells #[.string x.name,.slice Ad x.args.length cap] 33 (0,0))
 f_:w.heap[N+1]? = some (.cells #[.string f.name,.slice Ad' f.args.length cap'] 33 (0,0))
 b_:w.heap[N+2]? = some (.cells #[u0,u1] 234 (0,0))
 r_:w.heap[N+3]? = some (.cells #[v0,v1] 234 (0,0))
section
variable {N:Nat} {x f:A} {Ad Ad':Option Addr} {cap cap':Nat} {u0 u1 v0 v1:Value} {w w':World}
theorem D.MB.below (h:MB N x f Ad Ad' cap cap' u0 u1 v0 v1 w) (hb:Below w.heap.size w w'):MB N x f Ad Ad' cap cap' u0 u1 v0 v1 w':=
 ⟨by rw [hb.block _ (ψ h.x_)]; exact h.x_,by rw [hb.block _ (ψ h.f_)]; exact h.f_,by rw [hb.block _ (ψ h.b_)]; exact h.b_,by rw [hb.block _ (ψ h.r_)]; exact h.r_⟩
theorem D.MB.setB (h:MB N x f Ad Ad' cap cap' u0 u1 v0 v1 w) (y0 y1:Value):MB N x f Ad Ad' cap cap' y0 y1 v0 v1 ((w.setCell ⟨N+2,0,none⟩ y0).setCell ⟨N+2,1,none⟩ y1):=by
 have y:∀ k,k ≠ N+2→((w.setCell ⟨N+2,0,none⟩ y0).setCell ⟨N+2,1,none⟩ y1).heap[k]? = w.heap[k]?:=fun k y=>by rw [π _ _ _ _ y,π _ _ _ _ y]
 exact ⟨(y _ (by omega)).trans h.x_,(y _ (by omega)).trans h.f_,by simpa using bY (o:=1) (u:=y1) (bY (o:=0) (u:=y0) h.b_),(y _ (by omega)).trans h.r_⟩
theorem D.MB.Yx (h:MB N x f Ad Ad' cap cap' u0 u1 v0 v1 w) (y0 y1:Value):MB N x f Ad Ad' cap cap' u0 u1 y0 y1 ((w.setCell ⟨N+3,0,none⟩ y0).setCell ⟨N+3,1,none⟩ y1):=by
 have y:∀ k,k ≠ N+3→((w.setCell ⟨N+3,0,none⟩ y0).setCell ⟨N+3,1,none⟩ y1).heap[k]? = w.heap[k]?:=fun k y=>by rw [π _ _ _ _ y,π _ _ _ _ y]
 exact ⟨(y _ (by omega)).trans h.x_,(y _ (by omega)).trans h.f_,(y _ (by omega)).trans h.b_,by simpa using bY (o:=1) (u:=y1) (bY (o:=0) (u:=y0) h.r_)⟩
theorem D.MB.cells (h:MB N x f Ad Ad' cap cap' u0 u1 v0 v1 w):w.cell? ⟨N,0,none⟩=some (.string x.name)∧w.cell? ⟨N,1,none⟩=some (.slice Ad x.args.length cap)∧w.cell? ⟨N+1,0,none⟩=some (.string f.name)∧w.cell? ⟨N+1,1,none⟩=some (.slice Ad' f.args.length cap')∧w.cell? ⟨N+2,0,none⟩=some u0∧w.cell? ⟨N+2,1,none⟩=some u1∧w.cell? ⟨N+3,0,none⟩=some v0∧w.cell? ⟨N+3,1,none⟩=some v1:=
 ⟨by simp [World.cell?,h.x_],by simp [World.cell?,h.x_],by simp [World.cell?,h.f_],by simp [World.cell?,h.f_],by simp [World.cell?,h.b_],by simp [World.cell?,h.b_],by simp [World.cell?,h.r_],by simp [World.cell?,h.r_]⟩
theorem D.MB.free (h:MB N x f Ad Ad' cap cap' u0 u1 v0 v1 w):w.frozen? ⟨N+2,0,none⟩=false∧w.frozen? ⟨N+2,1,none⟩=false∧w.frozen? ⟨N+3,0,none⟩=false∧w.frozen? ⟨N+3,1,none⟩=false:=
 ⟨ax h.b_,ax h.b_,ax h.r_,ax h.r_⟩
end
theorem D.qO {w:World} {N:Nat} {c0 c1 y0 y1:Value} {b:Bd} {bs:List Nat} (h:jE w [c0,c1] b bs) (hn:N ∉ bs):jE ((w.setCell ⟨N,0,none⟩ y0).setCell ⟨N,1,none⟩ y1) [c0,c1] b bs:=
 dm.keep h fun c hc=>by
  have y:c ≠ N:=fun e=>hn (e ▸ hc)
  rw [π _ _ _ _ y,π _ _ _ _ y]
theorem RS (x f:A) (b:Bd) (a0 a1 f0 f1 c0 c1:Value) (ba bf bs:List Nat) (w:World) (ha:aJ w [a0,a1] x ba) (hf:aJ w [f0,f1] f bf) (h:jE w [c0,c1] b bs) (hn:b.length≤1000000) (hx:x.args.length≤1000000):
  Calls Tryz.prog 201 #[.agg #[a0,a1],.agg #[f0,f1],.agg #[c0,c1]] w fun e w'=>Below w.heap.size w w'∧∃ d0 d1 bs',e=.returned (.tuple #[.agg #[d0,d1],.bool (aG x f b).2])∧jE w' [d0,d1] (aG x f b).1 bs'∧∀ c ∈ bs',c ∈ bs∨w.heap.size≤c:=by
 obtain ⟨s,a2,bk,ht⟩:=ha;simp only [List.cons.injEq,and_true] at a2;obtain ⟨rfl,rfl⟩:=a2;obtain ⟨Ad,cap,rfl,hl,hm⟩:=aj ht;obtain ⟨s',a2,bi,am⟩:=hf;simp only [List.cons.injEq,and_true] at a2;obtain ⟨rfl,rfl⟩:=a2;obtain ⟨Ad',cap',rfl,bl,b3⟩:=aj am;obtain ⟨A1,p1,A2,p2,a2⟩:=ni h;simp only [List.cons.injEq,and_true] at a2;obtain ⟨rfl,rfl⟩:=a2;clear hm b3
 have hA:Below w.heap.size w ((((w.alloc (.cells #[.string x.name,.slice Ad x.args.length cap] 33)).alloc (.cells #[.string f.name,.slice Ad' f.args.length cap'] 33)).alloc (.cells #[.slice A1 b.length p1,.slice A2 b.length p2] 234)).alloc (.cells #[.slice none 0 0,.slice none 0 0] 234)):=
  (((ζ).alloc (by simp) _).alloc (by simp; omega) _).alloc (by simp; omega) _
 have aw:MB w.heap.size x f Ad Ad' cap cap' (.slice A1 b.length p1) (.slice A2 b.length p2) (.slice none 0 0) (.slice none 0 0) ((((w.alloc (.cells #[.string x.name,.slice Ad x.args.length cap] 33)).alloc (.cells #[.string f.name,.slice Ad' f.args.length cap'] 33)).alloc (.cells #[.slice A1 b.length p1,.slice A2 b.length p2] 234)).alloc (.cells #[.slice none 0 0,.slice none 0 0] 234)):=by
  refine ⟨?_,?_,?_,?_⟩
  ·rw [Below.heap_alloc _ _ _ (by simp; omega),Below.heap_alloc _ _ _ (by simp; omega),Below.heap_alloc _ _ _ (by simp)]
   exact ω w _
  ·rw [Below.heap_alloc _ _ _ (by first | (simp; done) | (simp; omega)),Below.heap_alloc _ _ _ (by first | (simp; done) | (simp; omega))]
   simpa using ω (w.alloc (.cells #[.string x.name,.slice Ad x.args.length cap] 33)) (.cells #[.string f.name,.slice Ad' f.args.length cap'] 33)
  ·rw [Below.heap_alloc _ _ _ (by simp)]
   simpa using ω ((w.alloc (.cells #[.string x.name,.slice Ad x.args.length cap] 33)).alloc (.cells #[.string f.name,.slice Ad' f.args.length cap'] 33)) (.cells #[.slice A1 b.length p1,.slice A2 b.length p2] 234)
  ·simpa using ω (((w.alloc (.cells #[.string x.name,.slice Ad x.args.length cap] 33)).alloc (.cells #[.string f.name,.slice Ad' f.args.length cap'] 33)).alloc (.cells #[.slice A1 b.length p1,.slice A2 b.length p2] 234)) (.cells #[.slice none 0 0,.slice none 0 0] 234)
 have a3:=dm.lt h;have ao:=η a3;have H:=η h;have HT:=η ht;have b4:=η am;have HA:=η hA;have af:=η aw;clear h ht am hA a3 aw;by_cases hg:x.name=f.name∧x.args.length=f.args.length
 ·have hs:(x.name.toList == f.name.toList)=true:=by rw [toList_eq,decide_eq_true hg.1]
  have b5:(x.args.length:Int)=(f.args.length:Int):=by omega
  have HG:=η hg;have HM:Hid (aG x f b=cZ x.args f.args b):=η (by unfold aG; rw [if_pos hg]);have a9:=η hg.2;clear hg
  go_enter Tryz.func201,Tryz.ntmps201
  go_wp2_with fail
  generalize (((w.alloc (.cells #[.string x.name,.slice Ad x.args.length cap] 33)).alloc (.cells #[.string f.name,.slice Ad' f.args.length cap'] 33)).alloc (.cells #[.slice A1 b.length p1,.slice A2 b.length p2] 234)).alloc (.cells #[.slice none 0 0,.slice none 0 0] 234)=w0 at *
  go_loopw [8,9,10,11] (fun i _ _ _ wr=>∃ (k:Nat) (I:Bd) (B1 B2:Option Addr) (q1 q2:Nat) (bs':List Nat),k≤x.args.length∧i=.int .i64 k∧Hid (cZ x.args f.args b=cZ (x.args.drop k) (f.args.drop k) I)∧I.length≤b.length+k∧Hid (jE wr [.slice B1 I.length q1,.slice B2 I.length q2] I bs')∧Hid (∀ c ∈ bs',c ∈ bs∨w.heap.size+4≤c)∧Hid (MB w.heap.size x f Ad Ad' cap cap' (.slice B1 I.length q1) (.slice B2 I.length q2) (.slice none 0 0) (.slice none 0 0) wr)∧Hid (Below w.heap.size w wr)) (fun i _ _ _ _=>x.args.length - (intOf i).toNat)
  case atStart=>exact ⟨0,b,A1,A2,p1,p2,bs,ε,rfl,η rfl,by omega,η (dm.below H.out HA.out),η fun c hc=>.inl hc,af,HA⟩
  case round=>
   obtain ⟨k,I,B1,B2,q1,q2,bs',hk,rfl,hm,bn,a4,J,hM,hB⟩:=hrel;clear HA af H;obtain ⟨x0,x1,y0,y1,z0,z1,r0,r1⟩:=hM.out.cells;obtain ⟨u0,u1,u2,u3⟩:=hM.out.free;by_cases a3:k < x.args.length
   ·obtain ⟨d,o,rfl,_,e0,e1,az⟩:=fJ (aQ.below HT.out hB.out) a3
    obtain ⟨d',o',rfl,_,a7,a8,aD⟩:=fJ (aQ.below b4.out hB.out) (a9.out ▸ a3);have HD:=η (hm.out.trans (L8 a9.out a3));have b6:(k:Int) < (x.args.length:Int):=by omega
    have bj:(k:Int) < (f.args.length:Int):=by have:=a9.out; omega
    have bo:(0:Int)≤(k:Int):=by omega
    clear hm;generalize x.args[k]=t at *;generalize f.args[k]'(a9.out ▸ a3)=g at *;obtain ⟨tv,tn⟩:=t;obtain ⟨gv,gn⟩:=g;dsimp only at *
    cases tv with
    | false=>
     have HS:Hid (DR ⟨false,tn⟩ ⟨gv,gn⟩ I=(I,decide (tn=gn))):=η rfl;cases hsn:(tn.toList == gn.toList)
     ·have U:decide (tn=gn)=false:=by rw [← toList_eq]; exact hsn
      have HE:Hid (aG x f b=(I,false)):=η (by rw [HM.out,HD.out,HS.out,U]; rfl);have BB:=hB;have BD:=a4;have a5:=hM.out.Yx (.slice B1 I.length q1) (.slice B2 I.length q2);obtain ⟨-,-,-,-,-,-,k0,k1⟩:=a5.cells;clear HD HS U a5;go_wp2;exact bodyPost_ret (v:=.tuple #[.agg #[.slice B1 I.length q1,.slice B2 I.length q2],.bool false]) (by simp [results,Tryz.results201,go_sem,k0,k1]) rfl ⟨(BB.out.setCell (p:=⟨w.heap.size+3,0,none⟩) (by simp) _).setCell (p:=⟨w.heap.size+3,1,none⟩) (by simp) _,_,_,bs',by rw [HE.out],by rw [HE.out]; exact qO BD.out (fun hc=>by rcases J.out _ hc with h | h; exact absurd (ao.out _ h) (by omega); omega),fun c hc=>(J.out c hc).imp id fun h=>by omega⟩
     ·have U:decide (tn=gn)=true:=by rw [← toList_eq]; exact hsn
      have HE:Hid (cZ x.args f.args b=cZ (x.args.drop (k+1)) (f.args.drop (k+1)) I):=η (by rw [HD.out,HS.out,U]; rfl);clear HD HS U;go_wp2;go_roundw
      case rel=>exact ⟨k+1,I,B1,B2,q1,q2,bs',a3,by go_num,HE,by omega,a4,J,hM,hB⟩
      case measure=>simp [intOf]; omega
    | true=>
     have q:=fun w' (hb:Below wr.heap.size wr w')=>get_any I tn _ _ bs' w' (dm.below a4.out hb)
     cases hgb:gI I tn with
     | some v=>
      have HS:Hid (DR ⟨true,tn⟩ ⟨gv,gn⟩ I=(I,decide (v=gn))):=η (by unfold DR; simp only [if_true]; rw [hgb]);have aa:jB I tn=v:=by unfold jB; rw [hgb]; rfl
      rw [hgb,aa] at q;clear hgb aa;cases hsn:(v.toList == gn.toList)
      ·have U:decide (v=gn)=false:=by rw [← toList_eq]; exact hsn
       have HE:Hid (aG x f b=(I,false)):=η (by rw [HM.out,HD.out,HS.out,U]; rfl);clear HD HS U;have k0:=fun d os=>cell_regrown x1 d os
       have k1:=fun d os=>cell_regrown z0 d os
       have k2:=fun d os=>cell_regrown z1 d os
       have k3:=fun d os=>cell_regrown e1 d os
       have qq:=fun d os=>Calls.regrown_of (q _ (below_regrown wr d os))
       clear q
       go_wp2_with fail
       refine wp_region_quiet_below (by kernel_rfl) (by kernel_rfl) ?_
       repeat (quiet_step (exact qq _ _))
       refine wpQuiet_nil ?_;intro _ hw';obtain ⟨⟨dq,osq⟩,hw''⟩:=hw';subst hw'';have y:=below_regrown wr dq osq;generalize grow (redrawn wr dq) osq=w1 at *;clear k0 k1 k2 k3 qq;have BB:=η (hB.out.trans (y.mono hB.out.size));have BD:=η (dm.below a4.out y);have BM:=η (hM.out.below y);clear x0 x1 y0 y1 z0 z1 r0 r1 u0 u1 u2 u3;obtain ⟨x0,x1,y0,y1,z0,z1,r0,r1⟩:=BM.out.cells;obtain ⟨u0,u1,u2,u3⟩:=BM.out.free;have ab:=ξ y a7;have ac:=ξ y a8;clear y e0 e1 a7 a8 hB a4 hM;have a5:=BM.out.Yx (.slice B1 I.length q1) (.slice B2 I.length q2);obtain ⟨-,-,-,-,-,-,k0,k1⟩:=a5.cells;clear a5;go_wp2
       exact bodyPost_ret (v:=.tuple #[.agg #[.slice B1 I.length q1,.slice B2 I.length q2],.bool false]) (by simp [results,Tryz.results201,go_sem,k0,k1]) rfl ⟨(BB.out.setCell (p:=⟨w.heap.size+3,0,none⟩) (by simp) _).setCell (p:=⟨w.heap.size+3,1,none⟩) (by simp) _,_,_,bs',by rw [HE.out],by rw [HE.out]; exact qO BD.out (fun hc=>by rcases J.out _ hc with h | h; exact absurd (ao.out _ h) (by omega); omega),fun c hc=>(J.out c hc).imp id fun h=>by omega⟩
      ·have U:decide (v=gn)=true:=by rw [← toList_eq]; exact hsn
       have HE:Hid (cZ x.args f.args b=cZ (x.args.drop (k+1)) (f.args.drop (k+1)) I):=η (by rw [HD.out,HS.out,U]; rfl);clear HD HS U;have k0:=fun d os=>cell_regrown x1 d os
       have k1:=fun d os=>cell_regrown z0 d os
       have k2:=fun d os=>cell_regrown z1 d os
       have k3:=fun d os=>cell_regrown e1 d os
       have qq:=fun d os=>Calls.regrown_of (q _ (below_regrown wr d os))
       clear q
       go_wp2_with fail
       refine wp_region_quiet_below (by kernel_rfl) (by kernel_rfl) ?_
       repeat (quiet_step (exact qq _ _))
       refine wpQuiet_nil ?_;intro _ hw';obtain ⟨⟨dq,osq⟩,hw''⟩:=hw';subst hw'';have y:=below_regrown wr dq osq;generalize grow (redrawn wr dq) osq=w1 at *;clear k0 k1 k2 k3 qq;have BB:=η (hB.out.trans (y.mono hB.out.size));have BD:=η (dm.below a4.out y);have BM:=η (hM.out.below y);clear x0 x1 y0 y1 z0 z1 r0 r1 u0 u1 u2 u3;obtain ⟨x0,x1,y0,y1,z0,z1,r0,r1⟩:=BM.out.cells;obtain ⟨u0,u1,u2,u3⟩:=BM.out.free;have ab:=ξ y a7;have ac:=ξ y a8;clear y e0 e1 a7 a8 hB a4 hM;go_wp2;go_roundw
       case rel=>exact ⟨k+1,I,B1,B2,q1,q2,bs',a3,by go_num,HE,by omega,BD,J,BM,BB⟩
       case measure=>simp [intOf]; omega
     | none=>
      have HS:Hid (DR ⟨true,tn⟩ ⟨gv,gn⟩ I=(I ++ [(tn,gn)],true)):=η (by unfold DR; simp only [if_true]; rw [hgb]);have aa:jB I tn=⟨#[]⟩:=by unfold jB; rw [hgb]; rfl
      have HE:Hid (cZ x.args f.args b=cZ (x.args.drop (k+1)) (f.args.drop (k+1)) (I ++ [(tn,gn)])):=η (by rw [HD.out,HS.out]; rfl);rw [hgb,aa] at q;clear hgb aa HS HD;have k0:=fun d os=>cell_regrown x1 d os
      have k1:=fun d os=>cell_regrown z0 d os
      have k2:=fun d os=>cell_regrown z1 d os
      have k3:=fun d os=>cell_regrown e1 d os
      have qq:=fun d os=>Calls.regrown_of (q _ (below_regrown wr d os))
      clear q
      go_wp2_with fail
      refine wp_region_quiet_below (by kernel_rfl) (by kernel_rfl) ?_
      repeat (quiet_step (exact qq _ _))
      refine wpQuiet_nil ?_;intro _ hw';obtain ⟨⟨dq,osq⟩,hw''⟩:=hw';subst hw'';have y:=below_regrown wr dq osq;generalize grow (redrawn wr dq) osq=w1 at *;clear k0 k1 k2 k3 qq;have BB:=η (hB.out.trans (y.mono hB.out.size));have BD:=η (dm.below a4.out y);have BM:=η (hM.out.below y);clear x0 x1 y0 y1 z0 z1 r0 r1 u0 u1 u2 u3;obtain ⟨x0,x1,y0,y1,z0,z1,r0,r1⟩:=BM.out.cells;obtain ⟨u0,u1,u2,u3⟩:=BM.out.free;have ab:=ξ y a7;have ac:=ξ y a8;have aE:=ξ y e0;have aL:=ξ y e1;have q:=fun w' (hb:Below w1.heap.size w1 w')=>U0 I tn gn _ _ bs' w' (dm.below BD.out hb) (by omega) az aD
      clear y e0 e1 a7 a8 hB a4 hM
      go_wp2_with fail
      go_still_tail 13,(by kernel_rfl)
      change wpList _ _ _ _ _ w1.drew;have aq:=BM.out.below (Below.drew (Below.refl w1.heap.size w1));have qd:=q w1.drew (Below.drew ϑ);have aM:=η BB.out.drew;clear q x0 x1 y0 y1 z0 z1 r0 r1 u0 u1 u2 u3 ab ac aE aL BM BD BB;generalize w1.drew=w1' at *
      go_wp2_with fail
      refine qd.mono ?_;rintro e w2 ⟨ar,d0,d1,aR,rfl,ae,a6⟩;obtain ⟨B3,q3,B4,q4,a2⟩:=ni ae;simp only [List.cons.injEq,and_true] at a2;obtain ⟨rfl,rfl⟩:=a2;have b7:Hid ((I ++ [(tn,gn)]).length=I.length+1):=η (by simp);generalize I ++ [(tn,gn)]=b2 at *;have ag:=η (aq.below ar);obtain ⟨-,-,-,-,bp,bq,-,-⟩:=ag.out.cells;obtain ⟨br,bt,-,-⟩:=ag.out.free;have b1:=η (aM.out.trans (ar.mono aM.out.size));have b8:w.heap.size+4≤w1'.heap.size:=by have:=ψ aq.r_; omega
      have b9:=η (ag.out.setB (.slice B3 b2.length q3) (.slice B4 b2.length q4));have bc:=η (qO (N:=w.heap.size+2) (y0:=.slice B3 b2.length q3) (y1:=.slice B4 b2.length q4) ae fun hc=>by have:=a6 _ hc; omega);have bg:=η ((b1.out.setCell (p:=⟨w.heap.size+2,0,none⟩) (by simp) (.slice B3 b2.length q3)).setCell (p:=⟨w.heap.size+2,1,none⟩) (by simp) (.slice B4 b2.length q4));have bh:Hid (∀ c ∈ aR,c ∈ bs∨w.heap.size+4≤c):=η fun c hc=>.inr (τ b8 (a6 c hc))
      have av:b2.length≤b.length+(k+1):=by have:=b7.out; omega
      clear ae a6 ar ag b1 qd aq;go_wp2;go_roundw
      case rel=>exact ⟨k+1,b2,B3,B4,q3,q4,aR,a3,by go_num,HE,av,bc,bh,b9,bg⟩
      case measure=>simp [intOf]; omega
   ·have he:k=x.args.length:=by omega
    have b6:¬ (k:Int) < (x.args.length:Int):=by omega
    have HE:Hid (aG x f b=(I,true)):=η (by rw [HM.out,hm.out,he,List.drop_eq_nil_of_le ν,List.drop_eq_nil_of_le (by have:=a9.out; omega),cZ]; intro t ts g gs h; cases h);clear hm he;go_wp2;have a5:=hM.out.Yx (.slice B1 I.length q1) (.slice B2 I.length q2);obtain ⟨-,-,-,-,-,-,k0,k1⟩:=a5.cells;refine bodyPost_ret (v:=.tuple #[.agg #[.slice B1 I.length q1,.slice B2 I.length q2],.bool true]) (by simp [results,Tryz.results201,go_sem,k0,k1]) rfl ?_;refine ⟨(hB.out.setCell (p:=⟨w.heap.size+3,0,none⟩) (by simp) (.slice B1 I.length q1)).setCell (p:=⟨w.heap.size+3,1,none⟩) (by simp) (.slice B2 I.length q2),.slice B1 I.length q1,.slice B2 I.length q2,by rw [HE.out],bs',?_,fun c hc=>(J.out c hc).imp id fun h=>by omega⟩;rw [HE.out];exact qO a4.out (fun hc=>by rcases J.out _ hc with h | h; exact absurd (ao.out _ h) (by omega); omega)
 ·have HM:Hid (aG x f b=(b,false)):=η (by unfold aG; rw [if_neg hg])
  obtain ⟨x0,x1,y0,y1,z0,z1,r0,r1⟩:=af.out.cells;obtain ⟨u0,u1,u2,u3⟩:=af.out.free;have HD:=η (dm.below H.out HA.out);cases hs:(x.name.toList == f.name.toList)
  case' true=>
   have U:¬ x.args.length=f.args.length:=fun e=>hg ⟨by rw [toList_eq] at hs; exact of_decide_eq_true hs,e⟩
   have b5:¬ (x.args.length:Int)=(f.args.length:Int):=by omega
  all_goals
   go_enter Tryz.func201,Tryz.ntmps201
   go_wp2;refine bodyPost_ret (v:=.tuple #[.agg #[.slice A1 b.length p1,.slice A2 b.length p2],.bool false]) (by simp [results,Tryz.results201,go_sem]) rfl ⟨?_,.slice A1 b.length p1,.slice A2 b.length p2,bs,by rw [HM.out],?_,fun c hc=>.inl hc⟩
   ·exact (((ζ).alloc (by simp) _).alloc (by simp; omega) _).alloc (by simp; omega) _
   ·rw [HM.out]
    exact dm.below H.out ((((ζ).alloc (by simp) _).alloc (by simp; omega) _).alloc (by simp; omega) _)
end
end Go.Proofs.YtkjinanbccloeaaGreatDoor
