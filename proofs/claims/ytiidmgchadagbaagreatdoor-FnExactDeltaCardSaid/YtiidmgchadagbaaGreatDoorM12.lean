/- Of the proof of FnExactDelta: EqR, Merge, IQ, iG, SortS. -/
import Derived.RangeFuncNested
import Derived.RangeFuncBound
import Derived.Test.YtiidmgchadagbaaGreatDoorM10
import Derived.Lib.OwnBridge
import Derived.Sort.OwnSorted
set_option linter.unusedVariables false
set_option maxHeartbeats 4000000
set_option maxRecDepth 100000
namespace Go.Proofs.YtiidmgchadagbaaGreatDoor
open Go.RowKit D
attribute [local go_sem ↓] Go.wp_at_zero Go.wp_at_succ
theorem Jm (r:Ru) (c0 c1 c2 d0 d1 d2:Value) (b1 b2:List Nat) (w:World) (h1:jK w [c0,c1,c2] r b1) (h2:jK w [d0,d1,d2] r b2):
  Calls Tryz.prog 38 #[.agg #[c0,c1,c2],.agg #[d0,d1,d2]] w (Yes w.heap.size w):=by
 obtain ⟨b11,b12,rfl,p1,q1⟩:=gu h1;obtain ⟨b21,b22,rfl,p2,q2⟩:=gu h2;obtain ⟨Ad,cap,Ae,cape,rfl,rfl,rfl⟩:=jo h1;obtain ⟨Ad2,cap2,Ae2,cape2,rfl,rfl,rfl⟩:=jo h2;have e1:=fun w' (hb:Below w.heap.size w w')=>sH r.head _ _ _ _ b11 b21 w' (aj.below p1 hb) (aj.below p2 hb)
 have e2:=fun w' (hb:Below w.heap.size w w')=>Gs r.body _ _ b12 b22 w' (aY.below q1 hb) (aY.below q2 hb)
 clear h1 h2 p1 p2 q1 q2;have hA:=((Below.refl w.heap.size w).alloc (Nat.le_refl _) (.cells #[.string r.head.name,.slice Ad r.head.args.length cap,.slice Ae r.body.length cape] 71)).alloc (by simp) (.cells #[.string r.head.name,.slice Ad2 r.head.args.length cap2,.slice Ae2 r.body.length cape2] 71)
 go_enter Tryz.func38,Tryz.ntmps38
 go_wp2_with fail
 refine (e1 _ hA).mono ?_;rintro e w1 ⟨rfl,hb1⟩;have B1:=hA.trans (hb1.mono hA.size);have x0:w1.cell? ⟨w.heap.size,0,none⟩=some (.string r.head.name):=cell_later hb1 (by go_simp);have y0:w1.cell? ⟨w.heap.size+1,0,none⟩=some (.string r.head.name):=cell_later hb1 (by go_simp);have x1:w1.cell? ⟨w.heap.size,1,none⟩=some (.slice Ad r.head.args.length cap):=cell_later hb1 (by go_simp);have y1:w1.cell? ⟨w.heap.size+1,1,none⟩=some (.slice Ad2 r.head.args.length cap2):=cell_later hb1 (by go_simp);have x2:w1.cell? ⟨w.heap.size,2,none⟩=some (.slice Ae r.body.length cape):=cell_later hb1 (by go_simp);have y2:w1.cell? ⟨w.heap.size+1,2,none⟩=some (.slice Ae2 r.body.length cape2):=cell_later hb1 (by go_simp);clear e1 hA
 go_wp2_with fail
 refine (e2 _ B1).mono ?_;rintro e w2 ⟨rfl,hb2⟩;go_wp2;go_ret;exact ⟨rfl,B1.trans (hb2.mono B1.size)⟩
end Go.Proofs.YtiidmgchadagbaaGreatDoor
namespace Go.Proofs.YtiidmgchadagbaaGreatDoor
open Go.RowKit D Go.Shelf
attribute [local go_sem ↓] Go.wp_at_zero Go.wp_at_succ
attribute [local go_sem] Oper.semAt_some
structure D.oG (w0:World) where
 c0:Value
 c1:Value
 a:A
 s:Nat
 bs:List Nat
 h:aU w0 [c0,c1] a bs
def D.oG.key {w0:World} (x:oG w0):A × Nat:=(x.a,x.s)
def D.oG.enc {w0:World} (x:oG w0):Array Value:=#[.agg #[x.c0,x.c1],.int .i64 x.s]
theorem D.oH {w w':World} (h:Below w.heap.size w w'):w.grownBy w' none:=⟨h.os,h.tape,h.output,h.size,fun k hk _=>h.block k hk⟩
theorem D.kH {w0:World} (pre:List (oG w0)) (x:oG w0) {m rest:List (A × Nat)} (h:m=pre.map oG.key ++ x.key :: rest):m=(pre ++ [x]).map oG.key ++ rest:=by rw [h]; simp
structure D.MInv (B1 B2:Nat) (v1 v2:Value) (wd W:World):Prop where
 s1:W.cell? ⟨B1,0,none⟩=some v1
 s2:W.cell? ⟨B1,1,none⟩=some (.func (.func 65) #[] #[])
 s3:W.cell? ⟨B2,0,none⟩=some v2
 hb:Below wd.heap.size wd W
theorem D.MInv.below {B1 B2:Nat} {v1 v2:Value} {wd W W':World} (h:MInv B1 B2 v1 v2 wd W) (hb:Below W.heap.size W W'):MInv B1 B2 v1 v2 wd W':=
 ⟨cell_later hb h.s1,cell_later hb h.s2,cell_later hb h.s3,h.hb.trans (hb.mono h.hb.size)⟩
theorem PE (n:Nat) (hn:1≤n) (l B1 B2:Nat) (xs ys:List A) (v1 v2:Value) (bs1 bs2:List Nat) (wd:World) (h1:aI wd [v1] xs bs1) (h2:aI wd [v2] ys bs2)
  (Kp:World→World→Prop) (hKp:∀ W W',Kp W W'→MInv B1 B2 v1 v2 wd W→MInv B1 B2 v1 v2 wd W')
  (J Jx:List (oG wd)→World→Prop) (W:World) (hW:MInv B1 B2 v1 v2 wd W) (hJ:AbidesFrom W.heap.size J)
  (hY:∀ pre x W,J pre W→pre.length < (bP xs ys).length→YieldAt Fence.wide (n - 1) Tryz.prog l x.enc W fun e W'=>
   (e=.returned (.bool true)∧J (pre ++ [x]) W'∧Kp W W')∨(e=.returned (.bool false)∧Jx (pre ++ [x]) W'))
  (h0:J [] W):
  CallsIn Fence.wide n Tryz.prog 162 #[.func (.yield l) #[] #[],.pointer (some ⟨B1,0,none⟩),.pointer (some ⟨B2,0,none⟩)] W fun e W'=>(∃ v,e=.returned v)∧
   ((∃ pre,pre.map oG.key=bP xs ys∧J pre W')∨(∃ pre rest,pre.map oG.key ++ rest=bP xs ys∧Jx pre W')):=by
 obtain ⟨Ad,cap,rfl,hl,hm⟩:=af h1;obtain ⟨Ad2,cap2,rfl,hl2,hm2⟩:=af h2;have hlm:=au (Nat.le_trans hl hm);have hlm2:=au (Nat.le_trans hl2 hm2);clear hm hm2;refine callsIn_of_wp Tryz.func162 rfl trivial ?_ rfl;simp only [Tryz.ntmps162,List.size_toArray,List.length_cons,List.length_nil,Nat.reduceAdd,Nat.reduceSub,Array.replicate_succ,Array.replicate_zero,List.push_toArray,List.append_toArray,List.nil_append,List.cons_append]
 gi_wp2
 gi_loopw [4,5] (fun i j wr=>∃ (p q:Nat) (pre:List (oG wd)),p≤xs.length∧q≤ys.length∧i=.int .i64 p∧j=.int .i64 q∧bP xs ys=pre.map oG.key ++ bP (xs.drop p) (ys.drop q)∧J pre wr∧MInv B1 B2 (.slice Ad xs.length cap) (.slice Ad2 ys.length cap2) wd wr)
  (fun i j _=>xs.length+ys.length - (intOf i).toNat - (intOf j).toNat)
 case atStart=>exact ⟨0,0,[],Nat.zero_le _,Nat.zero_le _,rfl,rfl,rfl,h0,hW⟩
 case round=>
  obtain ⟨p,q,pre,hp,hq,rfl,rfl,hmg,hJs,hI⟩:=hrel;have hb:=hI.hb;have HI:=η hI;have HM:=η hmg;clear hmg;have r1:=hI.s1;have r2:=hI.s2;have r3:=hI.s3;clear hI;have hp0:(0:Int)≤(p:Int):=by omega
  have hq0:(0:Int)≤(q:Int):=by omega
  by_cases hp1:p < xs.length
  ·have hp2:(p:Int) < (xs.length:Int):=by omega
   have hpn:¬ (p:Int)=(xs.length:Int):=by omega
   have hpb:((p:Int) == (xs.length:Int))=false:=beq_eq_false_iff_ne.2 hpn;obtain ⟨b,o,Ae,ce,bk,rfl,_,c0,c1,hel,_⟩:=dG h1 hp1;have f0:=cell_later hb c0;have f1:=cell_later hb c1;by_cases hq1:q < ys.length
   ·have hq2:(q:Int) < (ys.length:Int):=by omega
    have hqn:¬ (q:Int)=(ys.length:Int):=by omega
    have hqb:((q:Int) == (ys.length:Int))=false:=beq_eq_false_iff_ne.2 hqn;obtain ⟨b',o',Af,cf,bm,rfl,_,d0,d1,hem,_⟩:=dG h2 hq1;have e0:=cell_later hb d0;have e1:=cell_later hb d1;have hD:Below wr.heap.size wr wr.drew:=Below.drew (Below.refl _ _);have hcm:=uZ xs[p] ys[q] _ _ _ _ bk bm wr.drew (aj.below hel (hb.trans (hD.mono hb.size))) (aj.below hem (hb.trans (hD.mono hb.size)));by_cases hc1:bQ xs[p] ys[q] < 0
    ·have HN:=η (HM.out.trans (by rw [List.drop_eq_getElem_cons hp1,List.drop_eq_getElem_cons hq1,lS hc1]))
     rw [← List.drop_eq_getElem_cons hq1] at HN;clear h1 h2
     gi_wp2
     rw [wpIn_wide]
     go_region_held3 (fun w'=>w'.cell? ⟨B1,0,none⟩=some (.slice (some ⟨b,o,none⟩) xs.length cap)∧w'.cell? ⟨B1,1,none⟩=some (.func (.func 65) #[] #[])∧w'.cell? ⟨B2,0,none⟩=some (.slice (some ⟨b',o',none⟩) ys.length cap2)∧w'.cell? ⟨b,o+p * 2,none⟩=some (.string xs[p].name)∧w'.cell? ⟨b,o+p * 2+1,none⟩=some (.slice Ae xs[p].args.length ce)∧w'.cell? ⟨b',o'+q * 2,none⟩=some (.string ys[q].name)∧w'.cell? ⟨b',o'+q * 2+1,none⟩=some (.slice Af ys[q].args.length cf))
      (first | go_keep | exact ⟨y0,y1,y2,y3,y4,y5,y6⟩)
      (first | (go_at_call 65; refine hcm.mono ?_; rintro e w2 ⟨rfl,hw2⟩; have y0:=cell_later hw2 r1; have y1:=cell_later hw2 r2; have y2:=cell_later hw2 r3; have y3:=cell_later hw2 f0; have y4:=cell_later hw2 f1; have y5:=cell_later hw2 e0; have y6:=cell_later hw2 e1))
     have hD2:=hD.trans hw2;have HI2:=HI.out.below hD2;have hJ1:=hJ _ _ _ none hJs (oH hD2) (fun r e=>by cases e);clear hcm r1 r2 r3 f0 f1 e0 e1;obtain ⟨fn,tmps,assign,body,hy,hR⟩:=hY pre ⟨.string xs[p].name,.slice Ae xs[p].args.length ce,xs[p],0,bk,hel⟩ w2 hJ1 (by rw [HN.out]; simp);dsimp only [oG.enc] at hy;rw [show ((0:Nat):Int)=0 from rfl] at hy
     gi_wp2
     refine hR.mono ?_;rintro e W3 (⟨rfl,hJ3,hk3⟩ | ⟨rfl,hJx3⟩)
     ·gi_wp2
      go_roundw
      case rel=>exact ⟨p+1,q,pre ++ [⟨.string xs[p].name,.slice Ae xs[p].args.length ce,xs[p],0,bk,hel⟩],by omega,by omega,by go_num,by go_num,kH pre ⟨.string xs[p].name,.slice Ae xs[p].args.length ce,xs[p],0,bk,hel⟩ HN.out,hJ3,hKp _ _ hk3 HI2⟩
      case measure=>simp [intOf]; omega
     ·gi_wp2
      refine bodyPost_ret (results_none rfl _ _ _) rfl ?_;exact ⟨⟨_,rfl⟩,.inr ⟨pre ++ [⟨.string xs[p].name,.slice Ae xs[p].args.length ce,xs[p],0,bk,hel⟩],_,(kH pre ⟨.string xs[p].name,.slice Ae xs[p].args.length ce,xs[p],0,bk,hel⟩ HN.out).symm,hJx3⟩⟩
    ·by_cases hc2:0 < bQ xs[p] ys[q]
     ·have HN:=η (HM.out.trans (by rw [List.drop_eq_getElem_cons hp1,List.drop_eq_getElem_cons hq1,lT hc2]))
      rw [← List.drop_eq_getElem_cons hp1] at HN;clear h1 h2
      gi_wp2
      rw [wpIn_wide]
      go_region_held3 (fun w'=>w'.cell? ⟨B1,0,none⟩=some (.slice (some ⟨b,o,none⟩) xs.length cap)∧w'.cell? ⟨B1,1,none⟩=some (.func (.func 65) #[] #[])∧w'.cell? ⟨B2,0,none⟩=some (.slice (some ⟨b',o',none⟩) ys.length cap2)∧w'.cell? ⟨b,o+p * 2,none⟩=some (.string xs[p].name)∧w'.cell? ⟨b,o+p * 2+1,none⟩=some (.slice Ae xs[p].args.length ce)∧w'.cell? ⟨b',o'+q * 2,none⟩=some (.string ys[q].name)∧w'.cell? ⟨b',o'+q * 2+1,none⟩=some (.slice Af ys[q].args.length cf))
       (first | go_keep | exact ⟨y0,y1,y2,y3,y4,y5,y6⟩)
       (first | (go_at_call 65; refine hcm.mono ?_; rintro e w2 ⟨rfl,hw2⟩; have y0:=cell_later hw2 r1; have y1:=cell_later hw2 r2; have y2:=cell_later hw2 r3; have y3:=cell_later hw2 f0; have y4:=cell_later hw2 f1; have y5:=cell_later hw2 e0; have y6:=cell_later hw2 e1))
      have hD2:=hD.trans hw2;have HI2:=HI.out.below hD2;have hJ1:=hJ _ _ _ none hJs (oH hD2) (fun r e=>by cases e);clear hcm r1 r2 r3 f0 f1 e0 e1;obtain ⟨fn,tmps,assign,body,hy,hR⟩:=hY pre ⟨.string ys[q].name,.slice Af ys[q].args.length cf,ys[q],1,bm,hem⟩ w2 hJ1 (by rw [HN.out]; simp);dsimp only [oG.enc] at hy;rw [show ((1:Nat):Int)=1 from rfl] at hy
      gi_wp2
      refine hR.mono ?_;rintro e W3 (⟨rfl,hJ3,hk3⟩ | ⟨rfl,hJx3⟩)
      ·gi_wp2
       go_roundw
       case rel=>exact ⟨p,q+1,pre ++ [⟨.string ys[q].name,.slice Af ys[q].args.length cf,ys[q],1,bm,hem⟩],by omega,by omega,by go_num,by go_num,kH pre ⟨.string ys[q].name,.slice Af ys[q].args.length cf,ys[q],1,bm,hem⟩ HN.out,hJ3,hKp _ _ hk3 HI2⟩
       case measure=>simp [intOf]; omega
      ·gi_wp2
       refine bodyPost_ret (results_none rfl _ _ _) rfl ?_;exact ⟨⟨_,rfl⟩,.inr ⟨pre ++ [⟨.string ys[q].name,.slice Af ys[q].args.length cf,ys[q],1,bm,hem⟩],_,(kH pre ⟨.string ys[q].name,.slice Af ys[q].args.length cf,ys[q],1,bm,hem⟩ HN.out).symm,hJx3⟩⟩
     ·have HN:=η (HM.out.trans (by rw [List.drop_eq_getElem_cons hp1,List.drop_eq_getElem_cons hq1,lU hc1 hc2]))
      clear h1 h2
      gi_wp2
      rw [wpIn_wide]
      go_region_held3 (fun w'=>w'.cell? ⟨B1,0,none⟩=some (.slice (some ⟨b,o,none⟩) xs.length cap)∧w'.cell? ⟨B1,1,none⟩=some (.func (.func 65) #[] #[])∧w'.cell? ⟨B2,0,none⟩=some (.slice (some ⟨b',o',none⟩) ys.length cap2)∧w'.cell? ⟨b,o+p * 2,none⟩=some (.string xs[p].name)∧w'.cell? ⟨b,o+p * 2+1,none⟩=some (.slice Ae xs[p].args.length ce)∧w'.cell? ⟨b',o'+q * 2,none⟩=some (.string ys[q].name)∧w'.cell? ⟨b',o'+q * 2+1,none⟩=some (.slice Af ys[q].args.length cf))
       (first | go_keep | exact ⟨y0,y1,y2,y3,y4,y5,y6⟩)
       (first | (go_at_call 65; refine hcm.mono ?_; rintro e w2 ⟨rfl,hw2⟩; have y0:=cell_later hw2 r1; have y1:=cell_later hw2 r2; have y2:=cell_later hw2 r3; have y3:=cell_later hw2 f0; have y4:=cell_later hw2 f1; have y5:=cell_later hw2 e0; have y6:=cell_later hw2 e1))
      have hD2:=hD.trans hw2;have HI2:=HI.out.below hD2;have hJ1:=hJ _ _ _ none hJs (oH hD2) (fun r e=>by cases e);clear hcm r1 r2 r3 f0 f1 e0 e1;obtain ⟨fn,tmps,assign,body,hy,hR⟩:=hY pre ⟨.string xs[p].name,.slice Ae xs[p].args.length ce,xs[p],2,bk,hel⟩ w2 hJ1 (by rw [HN.out]; simp);dsimp only [oG.enc] at hy;rw [show ((2:Nat):Int)=2 from rfl] at hy
      gi_wp2
      refine hR.mono ?_;rintro e W3 (⟨rfl,hJ3,hk3⟩ | ⟨rfl,hJx3⟩)
      ·gi_wp2
       go_roundw
       case rel=>exact ⟨p+1,q+1,pre ++ [⟨.string xs[p].name,.slice Ae xs[p].args.length ce,xs[p],2,bk,hel⟩],by omega,by omega,by go_num,by go_num,kH pre ⟨.string xs[p].name,.slice Ae xs[p].args.length ce,xs[p],2,bk,hel⟩ HN.out,hJ3,hKp _ _ hk3 HI2⟩
       case measure=>simp [intOf]; omega
      ·gi_wp2
       refine bodyPost_ret (results_none rfl _ _ _) rfl ?_;exact ⟨⟨_,rfl⟩,.inr ⟨pre ++ [⟨.string xs[p].name,.slice Ae xs[p].args.length ce,xs[p],2,bk,hel⟩],_,(kH pre ⟨.string xs[p].name,.slice Ae xs[p].args.length ce,xs[p],2,bk,hel⟩ HN.out).symm,hJx3⟩⟩
   ·have hqe:q=ys.length:=by omega
    have hqd:ys.drop q = []:=List.drop_of_length_le (Nat.le_of_eq hqe.symm);have hqz:(q:Int)=(ys.length:Int):=by omega
    have hqb:((q:Int) == (ys.length:Int))=true:=beq_iff_eq.2 hqz;have HN:=η (HM.out.trans (by rw [hqd,List.drop_eq_getElem_cons hp1,bP]));have HD:=η hqd;have hJ1:=hJs;clear h1 h2 hqd hqz hqe;obtain ⟨fn,tmps,assign,body,hy,hR⟩:=hY pre ⟨.string xs[p].name,.slice Ae xs[p].args.length ce,xs[p],0,bk,hel⟩ wr hJ1 (by rw [HN.out]; simp);dsimp only [oG.enc] at hy;rw [show ((0:Nat):Int)=0 from rfl] at hy
    gi_wp2
    refine hR.mono ?_;rintro e W3 (⟨rfl,hJ3,hk3⟩ | ⟨rfl,hJx3⟩)
    ·gi_wp2
     go_roundw
     case rel=>exact ⟨p+1,q,pre ++ [⟨.string xs[p].name,.slice Ae xs[p].args.length ce,xs[p],0,bk,hel⟩],by omega,by omega,by go_num,by go_num,by rw [HD.out]; exact kH pre ⟨.string xs[p].name,.slice Ae xs[p].args.length ce,xs[p],0,bk,hel⟩ HN.out,hJ3,hKp _ _ hk3 HI.out⟩
     case measure=>simp [intOf]; omega
    ·gi_wp2
     refine bodyPost_ret (results_none rfl _ _ _) rfl ?_;exact ⟨⟨_,rfl⟩,.inr ⟨pre ++ [⟨.string xs[p].name,.slice Ae xs[p].args.length ce,xs[p],0,bk,hel⟩],_,(kH pre ⟨.string xs[p].name,.slice Ae xs[p].args.length ce,xs[p],0,bk,hel⟩ HN.out).symm,hJx3⟩⟩
  ·have hpe:p=xs.length:=by omega
   have hpd:xs.drop p = []:=List.drop_of_length_le (Nat.le_of_eq hpe.symm);have hpz:(p:Int)=(xs.length:Int):=by omega
   have hpb:((p:Int) == (xs.length:Int))=true:=beq_iff_eq.2 hpz;by_cases hq1:q < ys.length
   ·have hq2:(q:Int) < (ys.length:Int):=by omega
    obtain ⟨b',o',Af,cf,bm,rfl,_,d0,d1,hem,_⟩:=dG h2 hq1;have e0:=cell_later hb d0;have e1:=cell_later hb d1;have HN:=η (HM.out.trans (by rw [hpd,List.drop_eq_getElem_cons hq1,bP]));have HD:=η hpd;have hJ1:=hJs;clear h1 h2 hpd hpz hpe;obtain ⟨fn,tmps,assign,body,hy,hR⟩:=hY pre ⟨.string ys[q].name,.slice Af ys[q].args.length cf,ys[q],1,bm,hem⟩ wr hJ1 (by rw [HN.out]; simp);dsimp only [oG.enc] at hy;rw [show ((1:Nat):Int)=1 from rfl] at hy
    gi_wp2
    refine hR.mono ?_;rintro e W3 (⟨rfl,hJ3,hk3⟩ | ⟨rfl,hJx3⟩)
    ·gi_wp2
     go_roundw
     case rel=>exact ⟨p,q+1,pre ++ [⟨.string ys[q].name,.slice Af ys[q].args.length cf,ys[q],1,bm,hem⟩],by omega,by omega,by go_num,by go_num,by rw [HD.out]; exact kH pre ⟨.string ys[q].name,.slice Af ys[q].args.length cf,ys[q],1,bm,hem⟩ HN.out,hJ3,hKp _ _ hk3 HI.out⟩
     case measure=>simp [intOf]; omega
    ·gi_wp2
     refine bodyPost_ret (results_none rfl _ _ _) rfl ?_;exact ⟨⟨_,rfl⟩,.inr ⟨pre ++ [⟨.string ys[q].name,.slice Af ys[q].args.length cf,ys[q],1,bm,hem⟩],_,(kH pre ⟨.string ys[q].name,.slice Af ys[q].args.length cf,ys[q],1,bm,hem⟩ HN.out).symm,hJx3⟩⟩
   ·have hqe:q=ys.length:=by omega
    have HN:=η (HM.out.trans (by rw [hpd,List.drop_of_length_le (Nat.le_of_eq hqe.symm),bP,List.append_nil]))
    gi_wp2
    go_end0
    exact ⟨⟨_,rfl⟩,.inl ⟨pre,HN.out.symm,hJs⟩⟩
end Go.Proofs.YtiidmgchadagbaaGreatDoor
namespace Go.Proofs.YtiidmgchadagbaaGreatDoor
open Go.RowKit Go.ChangeMaps Go.MapKept D
def D.isStr (v:Value):Prop:=∃ s:ByteArray,v=.string s∧s.size≤maxLen
theorem D.mP:IQ Tryz.prog 9 (fun _=>True) isStr:=by
 have K:=Go.WideMaps.string_law (P:=Tryz.prog) Tryz.underlying9;have hk:∀ {s:ByteArray},s.size≤maxLen→keyOf Tryz.prog 9 (.string s)=some (.string s.data.toList):=fun h=>Go.WideMaps.keyOf_string_mk Tryz.underlying9 h
 refine ⟨?_,?_,?_⟩
 ·rintro w em v ⟨s,rfl,hs⟩
  exact K.check w em (hk hs)
 ·rintro w _ k ⟨s,rfl,hs⟩ es hes
  exact K.find w (hk hs) es fun e he=>by
   obtain ⟨s',h1,h2⟩:=hes e he;exact ⟨_,by rw [h1]; exact hk h2⟩
 ·rintro v ⟨s,rfl,_⟩
  simp [Instr.sameBits]
structure D.WK where
 name:ByteArray
 size:Nat
 place:Int
 word:ByteArray
deriving DecidableEq
def D.EO (k:WK):Value:=.agg #[.string k.name,.int .i64 k.size,.int .i64 k.place,.string k.word]
def D.GI (v:Value):Prop:=∃ k:WK,v=EO k
theorem D.GK {k l:WK} (h:EO k=EO l):k=l:=by
 obtain ⟨a,b,c,d⟩:=k;obtain ⟨a',b',c',d'⟩:=l;simp [EO] at h;obtain ⟨rfl,h2,rfl,rfl⟩:=h;have:b=b':=by omega
 rw [this]
theorem Ci:Tryz.prog.underlying 165=some (.struct (Tryz.prog.fieldsOf 165)):=by kernel_rfl
theorem V5:Tryz.prog.stoodInHeld 165=false:=by kernel_rfl
theorem V6 : (Tryz.prog.fieldsOf 165).toList.map (fun f => (f.name, f.type, f.offset)) = [("name", 9, 0), ("size", 3, 1), ("at", 3, 2), ("word", 9, 3)] := by kernel_rfl
theorem D.EP : ∃ f0 f1 f2 f3, (Tryz.prog.fieldsOf 165).toList = [f0, f1, f2, f3] ∧ (f0.name ≠ "_" ∧ f0.type = 9 ∧ f0.offset = 0) ∧ (f1.name ≠ "_" ∧ f1.type = 3 ∧ f1.offset = 1) ∧
  (f2.name ≠ "_" ∧ f2.type = 3 ∧ f2.offset = 2) ∧ (f3.name ≠ "_" ∧ f3.type = 9 ∧ f3.offset = 3) := by
 have h:=V6;generalize (Tryz.prog.fieldsOf 165).toList=L at h;have hl:L.length=4:=by have:=congrArg List.length h; simpa using this
 match L,hl,h with
 | [f0,f1,f2,f3],_,h=>
  simp at h;obtain ⟨⟨a1,a2,a3⟩,⟨b1,b2,b3⟩,⟨c1,c2,c3⟩,d1,d2,d3⟩:=h;exact ⟨f0,f1,f2,f3,rfl,⟨by rw [a1]; decide,a2,a3⟩,⟨by rw [b1]; decide,b2,b3⟩,⟨by rw [c1]; decide,c2,c3⟩,by rw [d1]; decide,d2,d3⟩
theorem D.V7 (d:Nat) (a b:ByteArray) (w:World):(Op.equalIn (d+1) 9 (.string a) (.string b)).run Tryz.prog w=.ok (a == b) w:=by
 simp [Op.equalIn,run_underlying Tryz.underlying9,Result.andThen]
theorem D.eq_int (d:Nat) (a b:Int) (w:World):(Op.equalIn (d+1) 3 (.int .i64 a) (.int .i64 b)).run Tryz.prog w=.ok (a == b) w:=by
 simp [Op.equalIn,run_underlying Tryz.underlying3,Result.andThen]
theorem D.Jo {cs:Array Value} {o:Nat} {v:Value} (h:cs[o]? = some v) (w:World):(part 9 cs o).run Tryz.prog w=.ok v w:=by
 simp [part,isAgg,run_underlying Tryz.underlying9,h,Result.andThen]
theorem D.Jp {cs:Array Value} {o:Nat} {v:Value} (h:cs[o]? = some v) (w:World):(part 3 cs o).run Tryz.prog w=.ok v w:=by
 simp [part,isAgg,run_underlying Tryz.underlying3,h,Result.andThen]
theorem D.U0:VQ Tryz.prog 165 (fun _=>True) GI:=by
 refine ⟨⟨_,Ci,?_⟩,?_⟩
 ·rintro a b ⟨k,rfl⟩ ⟨l,rfl⟩
  rfl
 ·rintro w a b _ ⟨k,rfl⟩ ⟨l,rfl⟩
  obtain ⟨f0,f1,f2,f3,hf,⟨a1,a2,a3⟩,⟨b1,b2,b3⟩,⟨c1,c2,c3⟩,d1,d2,d3⟩:=EP;have hrun:=run_equalIn_struct (P:=Tryz.prog) (w:=w) 9999 165 #[.string k.name,.int .i64 k.size,.int .i64 k.place,.string k.word] #[.string l.name,.int .i64 l.size,.int .i64 l.place,.string l.word] Ci V5;refine ⟨k.name == l.name && ((k.size:Int) == (l.size:Int) && (k.place == l.place && k.word == l.word)),?_,?_⟩
  ·show (Op.equalIn 10000 _ _ _).run _ _=_
   unfold EO;rw [hrun,hf];simp [Op.eqFields,a1,a2,a3,b1,b2,b3,c1,c2,c3,d1,d2,d3,Jo,Jp,V7,eq_int,Result.andThen]
   by_cases h1:k.name=l.name <;> by_cases h2:(k.size:Int)=(l.size:Int) <;> by_cases h3:k.place=l.place <;> by_cases h4:k.word=l.word <;> simp [h1,h2,h3,h4]
  ·constructor
   ·intro h
    simp at h;obtain ⟨h1,h2,h3,h4⟩:=h;obtain ⟨a,b,c,d⟩:=k;obtain ⟨a',b',c',d'⟩:=l;simp only at h1 h2 h3 h4;rw [h1,h3,h4,show b=b' by omega]
   ·intro h
    rw [GK h];simp
theorem D.PG (em:Bool) (v:ByteArray) (w:World):(Instr.checkKey em 9999 9 (.string v)).run Tryz.prog w=.ok () w:=by
 show (Instr.checkKey em (9998+1) _ _).run _ _=_;rw [Instr.checkKey];simp [run_underlying Tryz.underlying9,Result.andThen]
theorem D.PI (em:Bool) (v:Int) (w:World):(Instr.checkKey em 9999 3 (.int .i64 v)).run Tryz.prog w=.ok () w:=by
 show (Instr.checkKey em (9998+1) _ _).run _ _=_;rw [Instr.checkKey];simp [run_underlying Tryz.underlying3,Result.andThen]
theorem D.xH:IQ Tryz.prog 165 (fun _=>True) GI:=by
 refine ⟨?_,fun hW k hk es hs=>O8 U0 hW hk es hs,?_⟩
 ·rintro w em v ⟨k,rfl⟩
  obtain ⟨f0,f1,f2,f3,hf,⟨a1,a2,a3⟩,⟨b1,b2,b3⟩,⟨c1,c2,c3⟩,d1,d2,d3⟩:=EP;show (Instr.checkKey em (9999+1) _ _).run _ _=_;rw [Instr.checkKey];unfold EO;simp only [Sem.run_bind,run_underlying Ci,Result.andThen_ok];rw [← Array.forIn_toList,hf];simp [a1,a2,a3,b1,b2,b3,c1,c2,c3,d1,d2,d3,Jo,Jp,PG,PI,Result.andThen]
 ·rintro v ⟨k,rfl⟩
  simp [Instr.sameBits,EO]
end Go.Proofs.YtiidmgchadagbaaGreatDoor
namespace Go.Proofs.YtiidmgchadagbaaGreatDoor
open Go.RowKit Go.Maps D
theorem D.Na:Keyed Tryz.prog 9:=string_keyed Tryz.underlying9
theorem D.SB (w:World):(zeroValue 3).run Tryz.prog w=.ok (.int .i64 0) w:=by kernel_rfl
def D.zW (s:ByteArray):Lit:=.string s.data.toList
theorem D.uM {s:ByteArray} (h:s.size≤maxLen):keyOf Tryz.prog 9 (.string s)=some (zW s):=Go.WideMaps.keyOf_string_mk Tryz.underlying9 h
theorem D.Jq {s t:ByteArray} (h:zW s=zW t):s=t:=by
 unfold zW at h
 injection h with h
 exact bytes_inj h
theorem D.yT {H:Type} {x y:Int} (h:(DataW.lit (.int .i64 x):DataW H)=.lit (.int .i64 y)):x=y:=by simpa using h
structure D.iG (b n:Nat) (L:List ByteArray) (f:ByteArray→Int) (w:World):Prop where
 own:∃ M:DataW Unit,w.ownsMap Tryz.prog 9 (plainElem Tryz.prog 3) b n M∧Maps.size M=L.length∧(∀ s,has M (zW s)=decide (s ∈ L))∧∀ s ∈ L,M.atKey (zW s) (.lit (.int .i64 0))=.lit (.int .i64 (f s))
 nd:L.Nodup
 sz:∀ s ∈ L,s.size≤maxLen
theorem D.iG.made (w:World) (f:ByteArray→Int):iG w.heap.size 0 [] f (w.alloc (.map #[] 0)):=
 ⟨⟨.map [],World.ownsMap_made _ _ _ _,rfl,fun s=>by simp [has],fun s h=>by simp at h⟩,List.nodup_nil,fun s h=>by simp at h⟩
theorem D.iG.same {b n:Nat} {L:List ByteArray} {f:ByteArray→Int} {w w':World} (h:iG b n L f w) (e:w'.heap[b]? = w.heap[b]?):iG b n L f w':=by
 obtain ⟨⟨M,⟨es,c,h1,h2⟩,h3⟩,h4,h5⟩:=h;exact ⟨⟨M,⟨es,c,e.trans h1,h2⟩,h3⟩,h4,h5⟩
theorem D.iG.mono {b n n':Nat} {L:List ByteArray} {f:ByteArray→Int} {w:World} (h:iG b n L f w) (hn:n≤n'):iG b n' L f w:=by
 obtain ⟨⟨M,h1,h2⟩,h4,h5⟩:=h;exact ⟨⟨M,h1.mono hn,h2⟩,h4,h5⟩
theorem D.iG.lt {b n:Nat} {L:List ByteArray} {f:ByteArray→Int} {w:World} (h:iG b n L f w):b < w.heap.size:=by
 obtain ⟨⟨M,h1,_⟩,_⟩:=h;exact h1.lt
theorem D.iG.below {b n:Nat} {L:List ByteArray} {f:ByteArray→Int} {w w':World} {B:Nat} (h:iG b n L f w) (hb:Below B w w') (hB:b < B):iG b n L f w':=h.same (hb.block b hB)
theorem D.iG.setCell {b n:Nat} {L:List ByteArray} {f:ByteArray→Int} {w:World} (h:iG b n L f w) {a:Addr} (ha:b ≠ a.block) (u:Value):iG b n L f (w.setCell a u):=
 h.same (Below.heap_setCell _ _ _ _ ha)
theorem D.iG.V8 {b n:Nat} {L:List ByteArray} {f:ByteArray→Int} {w:World} (h:iG b n L f w):L.length≤n:=by
 obtain ⟨⟨M,h1,h2,_⟩,_⟩:=h;have:=h1.size_le;omega
theorem D.iG.congr {b n:Nat} {L:List ByteArray} {f g:ByteArray→Int} {w:World} (h:iG b n L f w) (e:∀ s ∈ L,f s=g s):iG b n L g w:=by
 obtain ⟨⟨M,h1,h2,h3,h4⟩,h5,h6⟩:=h;exact ⟨⟨M,h1,h2,h3,fun s hs=>by rw [h4 s hs,e s hs]⟩,h5,h6⟩
section
variable {ops:Array Oper} {rest:List Oper} {o:Oper} {a:Act} {Q:Exit→Act→World→Prop}
theorem dI (w:World) (hg:o.guard=none) (m x:Operand) (t:TypeId) (hop:o.op=Op.lookup t m x true) (ht:Tryz.prog.underlying t=some (.map 9 3))
  (b n:Nat) (L:List ByteArray) (f:ByteArray→Int) (hm:a.eval m=.map (some b)) (h:iG b n L f w) (s:ByteArray) (hx:a.eval x=.string s) (hs:s.size≤maxLen)
  (c:Bool) (hc:decide (s ∈ L)=c) (v:Int) (hv:(if s ∈ L then f s else 0)=v)
  (hK:wpList Tryz.prog ops Q rest (a.put o.dst (.tuple #[.int .i64 v,.bool c])) w):wpList Tryz.prog ops Q (o :: rest) a w:=by
 obtain ⟨⟨M,h1,h2,h3,h4⟩,h5,h6⟩:=h;refine wpList_lookup_own_ok_int w hg m x t hop _ _ .i64 Na ht Tryz.underlying3 (SB w) b n M hm h1 (.string s) (zW s) hx (uM hs) fun d hd hw=>?_
 rw [h3 s,hc]
 have:d=v:=by
  rw [← hv]
  split
  ·rename_i hmem
   have:=h4 s hmem;rw [this] at hd;exact yT hd.symm
  ·rename_i hmem
   have h7:has M (zW s)=false:=by rw [h3 s]; simpa using hmem
   rw [atKey_of_not_has h7] at hd;exact yT hd.symm
 rw [this];exact hK
theorem tu (w:World) (hg:o.guard=none) (m x:Operand) (t:TypeId) (hop:o.op=Op.lookup t m x false) (ht:Tryz.prog.underlying t=some (.map 9 3))
  (b n:Nat) (L:List ByteArray) (f:ByteArray→Int) (hm:a.eval m=.map (some b)) (h:iG b n L f w) (s:ByteArray) (hx:a.eval x=.string s) (hs:s.size≤maxLen)
  (v:Int) (hv:(if s ∈ L then f s else 0)=v)
  (hK:wpList Tryz.prog ops Q rest (a.put o.dst (.int .i64 v)) w):wpList Tryz.prog ops Q (o :: rest) a w:=by
 obtain ⟨⟨M,h1,h2,h3,h4⟩,h5,h6⟩:=h;refine wpList_lookup_own_int w hg m x t hop _ _ .i64 Na ht Tryz.underlying3 (SB w) b n M hm h1 (.string s) (zW s) hx (uM hs) fun d hd hw=>?_
 have:d=v:=by
  rw [← hv]
  split
  ·rename_i hmem
   have:=h4 s hmem;rw [this] at hd;exact yT hd.symm
  ·rename_i hmem
   have h7:has M (zW s)=false:=by rw [h3 s]; simpa using hmem
   rw [atKey_of_not_has h7] at hd;exact yT hd.symm
 rw [this];exact hK
theorem iy (w:World) (hg:o.guard=none) (m:Operand) (t:TypeId) (hop:o.op=Op.call { callee:=Callee.builtin Builtin.len,args:=#[m],argTypes:=#[t] }) (ht:Tryz.prog.underlying t=some (.map 9 3))
  (b n:Nat) (L:List ByteArray) (f:ByteArray→Int) (hm:a.eval m=.map (some b)) (h:iG b n L f w)
  (hK:wpList Tryz.prog ops Q rest (a.put o.dst (.int .i64 L.length)) w):wpList Tryz.prog ops Q (o :: rest) a w:=by
 obtain ⟨⟨M,h1,h2,h3,h4⟩,h5,h6⟩:=h;refine wpList_len_own w hg m t hop _ _ ht _ b n M hm h1 ?_;rw [h2];exact hK
theorem D.GL {L:List ByteArray} (h:L.Nodup) (s:ByteArray):(gQ L s).Nodup:=(oZ [s] L h).1
theorem kK (w:World) (hg:o.guard=none) (m x v:Operand) (t:TypeId) (hop:o.op=Op.mapUpdate t m x v) (ht:Tryz.prog.underlying t=some (.map 9 3))
  (b n:Nat) (L:List ByteArray) (f:ByteArray→Int) (hm:a.eval m=.map (some b)) (h:iG b n L f w) (s:ByteArray) (hx:a.eval x=.string s) (hs:s.size≤maxLen) (z:Int) (hv:a.eval v=.int .i64 z) (hn:n < maxLen) (hz:0≤z∧z≤1000000)
  (hK:∀ w',iG b (n+1) (gQ L s) (fun t=>if t=s then z else f t) w'→w.grownBy w' (some b)→wpList Tryz.prog ops Q rest (a.put o.dst undef) w'):wpList Tryz.prog ops Q (o :: rest) a w:=by
 obtain ⟨⟨M,h1,h2,h3,h4⟩,h5,h6⟩:=h;refine wpList_mapUpdate_own w hg m x v t hop _ _ Na ht _ b n M hm h1 hn (.string s) (.int .i64 z) (zW s) hx hv (uM hs) (.lit (.int .i64 z)) [] (plainElem_int Tryz.underlying3 (WalkArith.wf_i64 (by omega))) fun w' h7 hgr=>?_
 refine hK w' ⟨⟨_,h7,?_,fun t=>?_,fun t ht=>?_⟩,GL h5 s,fun t ht=>?_⟩ hgr
 ·rw [size_put (h1.tidy Na),h3 s]
  unfold gQ;by_cases hm:s ∈ L
  ·simp [hm,h2]
  ·simp [hm,h2]
 ·by_cases e:t=s
  ·subst e
   rw [has_put_same h1.isMap (Na.key (uM hs))];exact (decide_eq_true (jg.2 (.inr rfl))).symm
  ·rw [has_put_other (fun h=>e (Jq h)),h3 t]
   by_cases hm:t ∈ L
   ·simp [hm,jg]
   ·simp [hm,jg,e]
 ·by_cases e:t=s
  ·subst e
   rw [atKey_put_same h1.isMap (Na.key (uM hs)),if_pos rfl]
  ·rw [atKey_put_other (fun h=>e (Jq h)),if_neg e]
   exact h4 t ((jg.1 ht).resolve_right e)
 ·rcases jg.1 ht with h | rfl
  ·exact h6 t h
  ·exact hs
end
section
variable {ops:Array Oper} {rest:List Oper} {o:Oper} {a:Act} {Q:Exit→Act→World→Prop}
end
end Go.Proofs.YtiidmgchadagbaaGreatDoor
namespace Go.Proofs.YtiidmgchadagbaaGreatDoor
open Go.RowKit Go.Sort D
theorem D.EQ {base e:Nat} {w:World} {v:Value} {L:List Value} {xs:List ByteArray} {bs:List Nat} (h:cO 1 jk base e w v L xs bs):L=xs.map Value.string∧(∀ s ∈ xs,s.size≤maxLen)∧bs = []:=by
 obtain ⟨_,⟨hl,_,G,rfl,hat⟩,_⟩:=h;rw [Nat.mul_one] at hl
 have h1:∀ j (hj:j < xs.length),L[j]? = some (.string xs[j])∧xs[j].size≤maxLen∧G j = []:=fun j hj=>by
  obtain ⟨a,b,c⟩:=hat j hj;refine ⟨?_,b,c⟩;rw [Nat.mul_one] at a;have:=congrArg (fun l:List Value=>l[0]?) a;simpa [List.getElem?_take,List.getElem?_drop] using this
 refine ⟨List.ext_getElem? fun j=>?_,fun s hs=>?_,?_⟩
 ·by_cases hj:j < xs.length
  ·rw [(h1 j hj).1]; simp [hj]
  ·rw [List.getElem?_eq_none (by omega),List.getElem?_eq_none (by simp; omega)]
 ·obtain ⟨j,hj,rfl⟩:=List.mem_iff_getElem.1 hs
  exact (h1 j hj).2.1
 ·exact List.flatMap_eq_nil_iff.2 fun j hj=>(h1 j (List.mem_range.1 hj)).2.2
theorem D.xI {base e:Nat} {w:World} {v:Value} {ys:List ByteArray} (h:w.ownsRow base e 1 v ys.length (ys.map Value.string)) (hs:∀ s ∈ ys,s.size≤maxLen):cO 1 jk base e w v (ys.map Value.string) ys []:=by
 refine ⟨h,⟨by simp,fun u hu=>?_,fun _=>[],by simp,fun j hj=>⟨?_,hs _ (List.getElem_mem hj),rfl⟩⟩,fun b hb=>by simp at hb⟩
 ·obtain ⟨s,_,rfl⟩:=List.mem_map.1 hu
  rfl
 ·rw [Nat.mul_one]
  refine List.ext_getElem? fun i=>?_
  rcases i with _ | i
  ·simp [List.getElem?_drop,hj]
  ·simp; omega
def D.Cj (l:List (List UInt8)):List ByteArray:=l.map fun b=>⟨b.toArray⟩
theorem D.Cm (l:List (List UInt8)):(Cj l).map (·.data.toList)=l:=by
 unfold Cj; rw [List.map_map]
 refine (List.map_congr_left (g:=id) fun b _=>?_).trans (List.map_id l);show b.toArray.toList=b;rfl
theorem D.Jr (l:List (List UInt8)):(Cj l).map Value.string=l.map encStr:=by
 unfold Cj; rw [List.map_map]; rfl
theorem D.ER {l:List (List UInt8)} {n:Nat} (h:∀ b ∈ l,b.length≤n):∀ s ∈ Cj l,s.size≤n:=fun s hs=>by
 obtain ⟨b,hb,rfl⟩:=List.mem_map.1 hs;exact h b hb
theorem D.CB {xs:List ByteArray} {n:Nat} (h:∀ s ∈ xs,s.size≤n):∀ b ∈ xs.map (·.data.toList),b.length≤n:=fun b hb=>by
 obtain ⟨s,hs,rfl⟩:=List.mem_map.1 hb;exact h s hs
theorem PK (xs:List ByteArray) (v:Value) (L:List Value) (base:Nat) (w:World) (hC:cO 1 jk base 9 w v L xs []) (hl:xs.length≤16777216):
  Calls Tryz.prog 193 #[v] w fun e w'=>e=.returned (.tuple #[])∧∃ ys:List ByteArray,ys.map (·.data.toList)=(xs.map (·.data.toList)).mergeSort leB∧ys.length=xs.length∧cO 1 jk base 9 w' v (ys.map Value.string) ys []∧w.grownBy w' v.ownBlock:=by
 obtain ⟨rfl,hs,_⟩:=EQ hC;have hrow:=hC.own
 rcases hrow.2 with ⟨rfl,hx⟩ | ⟨g,cap,cur,rfl,hbase,hb,h1,h2,h3,h4⟩
 ·have hx0:xs = []:=by simpa using hx
  subst hx0;have cn:Calls Tryz.prog 193 #[.slice none 0 0] w (fun e w2=>e=.returned (.tuple #[])∧w2=w):=Any.slices_Sort_string_none Tryz.lays190 none 0 w;refine cn.mono ?_;rintro e w' ⟨rfl,rfl⟩;exact ⟨rfl,[],by simp,rfl,cO.nil _,World.grownBy.refl _ _⟩
 ·have hcl:(xs.map (·.data.toList)).length=xs.length:=by simp
  have hH:Holds encStr w g 0 (xs.map (·.data.toList)).toArray:=holds_of_block hb (by rw [hcl,Lib.map_encStr]; simpa using h4);have hg:g < w.heap.size:=lt_of_block hb;have c:=Tryz.slices_Sort_string g 0 cap (xs.map (·.data.toList)) w hH hg (by omega);rw [hcl] at c;refine c.mono ?_;rintro e w' ⟨rfl,n,os,rfl⟩;have hls:((xs.map (·.data.toList)).mergeSort leB).length=(xs.map (·.data.toList)).length:=List.length_mergeSort _;have hown:=ownsRow_sorted (base:=base) (cap:=cap) (n:=n) (os:=os) hls hbase hb (by rw [hcl]; exact h1) h2 h3;rw [hcl] at hown hls;have hlt:(Cj ((xs.map (·.data.toList)).mergeSort leB)).length=xs.length:=by unfold Cj; rw [List.length_map]; exact hls
  refine ⟨rfl,Cj ((xs.map (·.data.toList)).mergeSort leB),Cm _,hlt,?_,grownBy_sorted _⟩;rw [← Jr,← hlt] at hown;have:=xI hown (ER fun b hb=>CB hs b ((List.mergeSort_perm _ _).mem_iff.1 hb));rw [hlt] at this;exact this
end Go.Proofs.YtiidmgchadagbaaGreatDoor
