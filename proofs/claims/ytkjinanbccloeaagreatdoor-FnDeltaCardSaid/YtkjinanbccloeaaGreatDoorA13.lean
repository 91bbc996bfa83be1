/- Of the proof of FnDelta: MatS, RP, LevI. -/
import Derived.Lib.QuietBelow
import Derived.StillTailTactics
import Derived.Test.YtkjinanbccloeaaGreatDoorA10
set_option linter.unusedVariables false
set_option maxHeartbeats 4000000
set_option maxRecDepth 100000
namespace Go.Proofs.YtkjinanbccloeaaGreatDoor
section
open Go.RowKit Go.Sort D
attribute [local go_sem ↓] Go.wp_at_zero Go.wp_at_succ
theorem D.mQ {w:World} {cs:List Value} {b:Bd} {bs:List Nat} (h:jB w cs b bs):∃ y p1 I p2,cs = [.slice y b.length p1,.slice I b.length p2]:=by
 obtain ⟨x0,x1,b1,b2,rfl,rfl,h1,J⟩:=h;obtain ⟨y,p1,rfl,U,a0⟩:=aj h1;obtain ⟨I,p2,rfl,a1,a2⟩:=aj J;rw [List.length_map,List.length_map];exact ⟨_,_,_,_,rfl⟩
def D.BR (t f:T) (b:Bd):Bd × Bool:=
 if t.var then
  match gq b t.name with
  | some v=>(b,decide (v=f.name))
  | none=>(b ++ [(t.name,f.name)],true)
 else (b,decide (t.name=f.name))
theorem D.KL (t f:T) (y fs:List T) (b:Bd):cZ (t :: y) (f :: fs) b=if (BR t f b).2 then cZ y fs (BR t f b).1 else ((BR t f b).1,false):=by
 unfold BR;rw [cZ]
 cases t.var with
 | true=>
  simp only [if_true]
  cases gq b t.name with
  | none=>simp
  | some v=>
   simp only [];by_cases h:v=f.name
   ·simp [h]
   ·simp [h]
 | false=>
  simp only [Bool.false_eq_true,if_false];by_cases h:t.name=f.name
  ·simp [h]
  ·simp [h]
theorem D.KN {xs ys:List T} (y:xs.length=ys.length) {b:Bd} {k:Nat} (h:k < xs.length):cZ (xs.drop k) (ys.drop k) b=if (BR xs[k] (ys[k]'(y ▸ h)) b).2 then cZ (xs.drop (k+1)) (ys.drop (k+1)) (BR xs[k] (ys[k]'(y ▸ h)) b).1 else ((BR xs[k] (ys[k]'(y ▸ h)) b).1,false):=by
 rw [List.drop_eq_getElem_cons (l:=xs) (i:=k) h,List.drop_eq_getElem_cons (l:=ys) (i:=k) (y ▸ h),KL]
structure D.MB (N:Nat) (x f:A) (Ad Ad':Option Addr) (cap cap':Nat) (u0 u1 v0 v1:Value) (w:World):Prop where
 x_:w.heap[N]? = some (.cells #[.string x.name,.slice Ad x.args.length cap] 33 (0,0))
 f_:w.heap[N+1]? = some (.cells #[.string f.name,.slice Ad' f.args.length cap'] 33 (0,0))
 b_:w.heap[N+2]? = some (.cells #[u0,u1] 234 (0,0))
 r_:w.heap[N+3]? = some (.cells #[v0,v1] 234 (0,0))
section
variable {N:Nat} {x f:A} {Ad Ad':Option Addr} {cap cap':Nat} {u0 u1 v0 v1:Value} {w w':World}
theorem D.MB.below (h:MB N x f Ad Ad' cap cap' u0 u1 v0 v1 w) (hb:Below w.heap.size w w'):MB N x f Ad Ad' cap cap' u0 u1 v0 v1 w':=
 ⟨by rw [hb.block _ (ψ h.x_)]; exact h.x_,by rw [hb.block _ (ψ h.f_)]; exact h.f_,by rw [hb.block _ (ψ h.b_)]; exact h.b_,by rw [hb.block _ (ψ h.r_)]; exact h.r_⟩
theorem D.MB.setB (h:MB N x f Ad Ad' cap cap' u0 u1 v0 v1 w) (y0 y1:Value):MB N x f Ad Ad' cap cap' y0 y1 v0 v1 ((w.setCell ⟨N+2,0,none⟩ y0).setCell ⟨N+2,1,none⟩ y1):=by
 have y:∀ k,k ≠ N+2→((w.setCell ⟨N+2,0,none⟩ y0).setCell ⟨N+2,1,none⟩ y1).heap[k]? = w.heap[k]?:=fun k y=>by rw [π _ _ _ _ y,π _ _ _ _ y]
 exact ⟨(y _ (by omega)).trans h.x_,(y _ (by omega)).trans h.f_,by simpa using bW (o:=1) (u:=y1) (bW (o:=0) (u:=y0) h.b_),(y _ (by omega)).trans h.r_⟩
theorem D.MB.XH (h:MB N x f Ad Ad' cap cap' u0 u1 v0 v1 w) (y0 y1:Value):MB N x f Ad Ad' cap cap' u0 u1 y0 y1 ((w.setCell ⟨N+3,0,none⟩ y0).setCell ⟨N+3,1,none⟩ y1):=by
 have y:∀ k,k ≠ N+3→((w.setCell ⟨N+3,0,none⟩ y0).setCell ⟨N+3,1,none⟩ y1).heap[k]? = w.heap[k]?:=fun k y=>by rw [π _ _ _ _ y,π _ _ _ _ y]
 exact ⟨(y _ (by omega)).trans h.x_,(y _ (by omega)).trans h.f_,(y _ (by omega)).trans h.b_,by simpa using bW (o:=1) (u:=y1) (bW (o:=0) (u:=y0) h.r_)⟩
theorem D.MB.cells (h:MB N x f Ad Ad' cap cap' u0 u1 v0 v1 w):w.cell? ⟨N,0,none⟩=some (.string x.name)∧w.cell? ⟨N,1,none⟩=some (.slice Ad x.args.length cap)∧w.cell? ⟨N+1,0,none⟩=some (.string f.name)∧w.cell? ⟨N+1,1,none⟩=some (.slice Ad' f.args.length cap')∧w.cell? ⟨N+2,0,none⟩=some u0∧w.cell? ⟨N+2,1,none⟩=some u1∧w.cell? ⟨N+3,0,none⟩=some v0∧w.cell? ⟨N+3,1,none⟩=some v1:=
 ⟨by simp [World.cell?,h.x_],by simp [World.cell?,h.x_],by simp [World.cell?,h.f_],by simp [World.cell?,h.f_],by simp [World.cell?,h.b_],by simp [World.cell?,h.b_],by simp [World.cell?,h.r_],by simp [World.cell?,h.r_]⟩
theorem D.MB.free (h:MB N x f Ad Ad' cap cap' u0 u1 v0 v1 w):w.frozen? ⟨N+2,0,none⟩=false∧w.frozen? ⟨N+2,1,none⟩=false∧w.frozen? ⟨N+3,0,none⟩=false∧w.frozen? ⟨N+3,1,none⟩=false:=
 ⟨ax h.b_,ax h.b_,ax h.r_,ax h.r_⟩
end
theorem D.qB {w:World} {N:Nat} {c0 c1 y0 y1:Value} {b:Bd} {bs:List Nat} (h:jB w [c0,c1] b bs) (hn:N ∉ bs):jB ((w.setCell ⟨N,0,none⟩ y0).setCell ⟨N,1,none⟩ y1) [c0,c1] b bs:=
 dh.keep h fun c hc=>by
  have y:c ≠ N:=fun e=>hn (e ▸ hc)
  rw [π _ _ _ _ y,π _ _ _ _ y]
theorem QL (x f:A) (b:Bd) (a0 a1 f0 f1 c0 c1:Value) (ba bf bs:List Nat) (w:World) (ha:aJ w [a0,a1] x ba) (hf:aJ w [f0,f1] f bf) (h:jB w [c0,c1] b bs) (hn:b.length≤1000000) (hx:x.args.length≤1000000):
  Calls Tryz.prog 201 #[.agg #[a0,a1],.agg #[f0,f1],.agg #[c0,c1]] w fun e w'=>Below w.heap.size w w'∧∃ d0 d1 bs',e=.returned (.tuple #[.agg #[d0,d1],.bool (aF x f b).2])∧jB w' [d0,d1] (aF x f b).1 bs'∧∀ c ∈ bs',c ∈ bs∨w.heap.size≤c:=by
 obtain ⟨s,a2,bk,ht⟩:=ha;simp only [List.cons.injEq,and_true] at a2;obtain ⟨rfl,rfl⟩:=a2;obtain ⟨Ad,cap,rfl,hl,hm⟩:=aj ht;obtain ⟨s',a2,bi,am⟩:=hf;simp only [List.cons.injEq,and_true] at a2;obtain ⟨rfl,rfl⟩:=a2;obtain ⟨Ad',cap',rfl,bl,b3⟩:=aj am;obtain ⟨A1,p1,A2,p2,a2⟩:=mQ h;simp only [List.cons.injEq,and_true] at a2;obtain ⟨rfl,rfl⟩:=a2;clear hm b3
 have hA:Below w.heap.size w ((((w.alloc (.cells #[.string x.name,.slice Ad x.args.length cap] 33)).alloc (.cells #[.string f.name,.slice Ad' f.args.length cap'] 33)).alloc (.cells #[.slice A1 b.length p1,.slice A2 b.length p2] 234)).alloc (.cells #[.slice none 0 0,.slice none 0 0] 234)):=
  (((ζ).alloc (by simp) _).alloc (by simp; omega) _).alloc (by simp; omega) _
 have aw:MB w.heap.size x f Ad Ad' cap cap' (.slice A1 b.length p1) (.slice A2 b.length p2) (.slice none 0 0) (.slice none 0 0) ((((w.alloc (.cells #[.string x.name,.slice Ad x.args.length cap] 33)).alloc (.cells #[.string f.name,.slice Ad' f.args.length cap'] 33)).alloc (.cells #[.slice A1 b.length p1,.slice A2 b.length p2] 234)).alloc (.cells #[.slice none 0 0,.slice none 0 0] 234)):=by
  refine ⟨?_,?_,?_,?_⟩
  ·rw [Below.heap_alloc _ _ _ (by simp; omega),Below.heap_alloc _ _ _ (by simp; omega),Below.heap_alloc _ _ _ (by simp)]
   exact ω w _
  ·rw [Below.heap_alloc _ _ _ (by first | (simp; done) | (simp; omega)),Below.heap_alloc _ _ _ (by first | (simp; done) | (simp; omega))]
   simpa using ω (w.alloc (.cells #[.string x.name,.slice Ad x.args.length cap] 33)) (.cells #[.string f.name,.slice Ad' f.args.length cap'] 33)
  ·rw [Below.heap_alloc _ _ _ (by simp)]
   simpa using ω ((w.alloc (.cells #[.string x.name,.slice Ad x.args.length cap] 33)).alloc (.cells #[.string f.name,.slice Ad' f.args.length cap'] 33)) (.cells #[.slice A1 b.length p1,.slice A2 b.length p2] 234)
  ·simpa using ω (((w.alloc (.cells #[.string x.name,.slice Ad x.args.length cap] 33)).alloc (.cells #[.string f.name,.slice Ad' f.args.length cap'] 33)).alloc (.cells #[.slice A1 b.length p1,.slice A2 b.length p2] 234)) (.cells #[.slice none 0 0,.slice none 0 0] 234)
 have a3:=dh.lt h;have ao:=η a3;have H:=η h;have HT:=η ht;have b4:=η am;have HA:=η hA;have af:=η aw;clear h ht am hA a3 aw;by_cases hg:x.name=f.name∧x.args.length=f.args.length
 ·have hs:(x.name.toList == f.name.toList)=true:=by rw [toList_eq,decide_eq_true hg.1]
  have b5:(x.args.length:Int)=(f.args.length:Int):=by omega
  have HG:=η hg;have HM:Hid (aF x f b=cZ x.args f.args b):=η (by unfold aF; rw [if_pos hg]);have a9:=η hg.2;clear hg
  go_enter Tryz.func201,Tryz.ntmps201
  go_wp2_with fail
  generalize (((w.alloc (.cells #[.string x.name,.slice Ad x.args.length cap] 33)).alloc (.cells #[.string f.name,.slice Ad' f.args.length cap'] 33)).alloc (.cells #[.slice A1 b.length p1,.slice A2 b.length p2] 234)).alloc (.cells #[.slice none 0 0,.slice none 0 0] 234)=w0 at *
  go_loopw [8,9,10,11] (fun i _ _ _ wr=>∃ (k:Nat) (I:Bd) (B1 B2:Option Addr) (q1 q2:Nat) (bs':List Nat),k≤x.args.length∧i=.int .i64 k∧Hid (cZ x.args f.args b=cZ (x.args.drop k) (f.args.drop k) I)∧I.length≤b.length+k∧Hid (jB wr [.slice B1 I.length q1,.slice B2 I.length q2] I bs')∧Hid (∀ c ∈ bs',c ∈ bs∨w.heap.size+4≤c)∧Hid (MB w.heap.size x f Ad Ad' cap cap' (.slice B1 I.length q1) (.slice B2 I.length q2) (.slice none 0 0) (.slice none 0 0) wr)∧Hid (Below w.heap.size w wr)) (fun i _ _ _ _=>x.args.length - (intOf i).toNat)
  case atStart=>exact ⟨0,b,A1,A2,p1,p2,bs,ε,rfl,η rfl,by omega,η (dh.below H.out HA.out),η fun c hc=>.inl hc,af,HA⟩
  case round=>
   obtain ⟨k,I,B1,B2,q1,q2,bs',hk,rfl,hm,bn,a4,J,hM,hB⟩:=hrel;clear HA af H;obtain ⟨x0,x1,y0,y1,z0,z1,r0,r1⟩:=hM.out.cells;obtain ⟨u0,u1,u2,u3⟩:=hM.out.free;by_cases a3:k < x.args.length
   ·obtain ⟨d,o,rfl,_,e0,e1,az⟩:=fF (aP.below HT.out hB.out) a3
    obtain ⟨d',o',rfl,_,a7,a8,aD⟩:=fF (aP.below b4.out hB.out) (a9.out ▸ a3);have HD:=η (hm.out.trans (KN a9.out a3));have b6:(k:Int) < (x.args.length:Int):=by omega
    have bj:(k:Int) < (f.args.length:Int):=by have:=a9.out; omega
    have bo:(0:Int)≤(k:Int):=by omega
    clear hm;generalize x.args[k]=t at *;generalize f.args[k]'(a9.out ▸ a3)=g at *;obtain ⟨tv,tn⟩:=t;obtain ⟨gv,gn⟩:=g;dsimp only at *
    cases tv with
    | false=>
     have HS:Hid (BR ⟨false,tn⟩ ⟨gv,gn⟩ I=(I,decide (tn=gn))):=η rfl;cases hsn:(tn.toList == gn.toList)
     ·have U:decide (tn=gn)=false:=by rw [← toList_eq]; exact hsn
      have HE:Hid (aF x f b=(I,false)):=η (by rw [HM.out,HD.out,HS.out,U]; rfl);have BB:=hB;have BD:=a4;have a5:=hM.out.XH (.slice B1 I.length q1) (.slice B2 I.length q2);obtain ⟨-,-,-,-,-,-,k0,k1⟩:=a5.cells;clear HD HS U a5;go_wp2;exact bodyPost_ret (v:=.tuple #[.agg #[.slice B1 I.length q1,.slice B2 I.length q2],.bool false]) (by simp [results,Tryz.results201,go_sem,k0,k1]) rfl ⟨(BB.out.setCell (p:=⟨w.heap.size+3,0,none⟩) (by simp) _).setCell (p:=⟨w.heap.size+3,1,none⟩) (by simp) _,_,_,bs',by rw [HE.out],by rw [HE.out]; exact qB BD.out (fun hc=>by rcases J.out _ hc with h | h; exact absurd (ao.out _ h) (by omega); omega),fun c hc=>(J.out c hc).imp id fun h=>by omega⟩
     ·have U:decide (tn=gn)=true:=by rw [← toList_eq]; exact hsn
      have HE:Hid (cZ x.args f.args b=cZ (x.args.drop (k+1)) (f.args.drop (k+1)) I):=η (by rw [HD.out,HS.out,U]; rfl);clear HD HS U;go_wp2;go_roundw
      case rel=>exact ⟨k+1,I,B1,B2,q1,q2,bs',a3,by go_num,HE,by omega,a4,J,hM,hB⟩
      case measure=>simp [intOf]; omega
    | true=>
     have q:=fun w' (hb:Below wr.heap.size wr w')=>get_any I tn _ _ bs' w' (dh.below a4.out hb)
     cases hgb:gq I tn with
     | some v=>
      have HS:Hid (BR ⟨true,tn⟩ ⟨gv,gn⟩ I=(I,decide (v=gn))):=η (by unfold BR; simp only [if_true]; rw [hgb]);have aa:jv I tn=v:=by unfold jv; rw [hgb]; rfl
      rw [hgb,aa] at q;clear hgb aa;cases hsn:(v.toList == gn.toList)
      ·have U:decide (v=gn)=false:=by rw [← toList_eq]; exact hsn
       have HE:Hid (aF x f b=(I,false)):=η (by rw [HM.out,HD.out,HS.out,U]; rfl);clear HD HS U;have k0:=fun d os=>cell_regrown x1 d os
       have k1:=fun d os=>cell_regrown z0 d os
       have k2:=fun d os=>cell_regrown z1 d os
       have k3:=fun d os=>cell_regrown e1 d os
       have qq:=fun d os=>Calls.regrown_of (q _ (below_regrown wr d os))
       clear q
       go_wp2_with fail
       refine wp_region_quiet_below (by kernel_rfl) (by kernel_rfl) ?_
       repeat (quiet_step (exact qq _ _))
       refine wpQuiet_nil ?_;intro _ hw';obtain ⟨⟨dq,osq⟩,hw''⟩:=hw';subst hw'';have y:=below_regrown wr dq osq;generalize grow (redrawn wr dq) osq=w1 at *;clear k0 k1 k2 k3 qq;have BB:=η (hB.out.trans (y.mono hB.out.size));have BD:=η (dh.below a4.out y);have BM:=η (hM.out.below y);clear x0 x1 y0 y1 z0 z1 r0 r1 u0 u1 u2 u3;obtain ⟨x0,x1,y0,y1,z0,z1,r0,r1⟩:=BM.out.cells;obtain ⟨u0,u1,u2,u3⟩:=BM.out.free;have ab:=ξ y a7;have ac:=ξ y a8;clear y e0 e1 a7 a8 hB a4 hM;have a5:=BM.out.XH (.slice B1 I.length q1) (.slice B2 I.length q2);obtain ⟨-,-,-,-,-,-,k0,k1⟩:=a5.cells;clear a5;go_wp2
       exact bodyPost_ret (v:=.tuple #[.agg #[.slice B1 I.length q1,.slice B2 I.length q2],.bool false]) (by simp [results,Tryz.results201,go_sem,k0,k1]) rfl ⟨(BB.out.setCell (p:=⟨w.heap.size+3,0,none⟩) (by simp) _).setCell (p:=⟨w.heap.size+3,1,none⟩) (by simp) _,_,_,bs',by rw [HE.out],by rw [HE.out]; exact qB BD.out (fun hc=>by rcases J.out _ hc with h | h; exact absurd (ao.out _ h) (by omega); omega),fun c hc=>(J.out c hc).imp id fun h=>by omega⟩
      ·have U:decide (v=gn)=true:=by rw [← toList_eq]; exact hsn
       have HE:Hid (cZ x.args f.args b=cZ (x.args.drop (k+1)) (f.args.drop (k+1)) I):=η (by rw [HD.out,HS.out,U]; rfl);clear HD HS U;have k0:=fun d os=>cell_regrown x1 d os
       have k1:=fun d os=>cell_regrown z0 d os
       have k2:=fun d os=>cell_regrown z1 d os
       have k3:=fun d os=>cell_regrown e1 d os
       have qq:=fun d os=>Calls.regrown_of (q _ (below_regrown wr d os))
       clear q
       go_wp2_with fail
       refine wp_region_quiet_below (by kernel_rfl) (by kernel_rfl) ?_
       repeat (quiet_step (exact qq _ _))
       refine wpQuiet_nil ?_;intro _ hw';obtain ⟨⟨dq,osq⟩,hw''⟩:=hw';subst hw'';have y:=below_regrown wr dq osq;generalize grow (redrawn wr dq) osq=w1 at *;clear k0 k1 k2 k3 qq;have BB:=η (hB.out.trans (y.mono hB.out.size));have BD:=η (dh.below a4.out y);have BM:=η (hM.out.below y);clear x0 x1 y0 y1 z0 z1 r0 r1 u0 u1 u2 u3;obtain ⟨x0,x1,y0,y1,z0,z1,r0,r1⟩:=BM.out.cells;obtain ⟨u0,u1,u2,u3⟩:=BM.out.free;have ab:=ξ y a7;have ac:=ξ y a8;clear y e0 e1 a7 a8 hB a4 hM;go_wp2;go_roundw
       case rel=>exact ⟨k+1,I,B1,B2,q1,q2,bs',a3,by go_num,HE,by omega,BD,J,BM,BB⟩
       case measure=>simp [intOf]; omega
     | none=>
      have HS:Hid (BR ⟨true,tn⟩ ⟨gv,gn⟩ I=(I ++ [(tn,gn)],true)):=η (by unfold BR; simp only [if_true]; rw [hgb]);have aa:jv I tn=⟨#[]⟩:=by unfold jv; rw [hgb]; rfl
      have HE:Hid (cZ x.args f.args b=cZ (x.args.drop (k+1)) (f.args.drop (k+1)) (I ++ [(tn,gn)])):=η (by rw [HD.out,HS.out]; rfl);rw [hgb,aa] at q;clear hgb aa HS HD;have k0:=fun d os=>cell_regrown x1 d os
      have k1:=fun d os=>cell_regrown z0 d os
      have k2:=fun d os=>cell_regrown z1 d os
      have k3:=fun d os=>cell_regrown e1 d os
      have qq:=fun d os=>Calls.regrown_of (q _ (below_regrown wr d os))
      clear q
      go_wp2_with fail
      refine wp_region_quiet_below (by kernel_rfl) (by kernel_rfl) ?_
      repeat (quiet_step (exact qq _ _))
      refine wpQuiet_nil ?_;intro _ hw';obtain ⟨⟨dq,osq⟩,hw''⟩:=hw';subst hw'';have y:=below_regrown wr dq osq;generalize grow (redrawn wr dq) osq=w1 at *;clear k0 k1 k2 k3 qq;have BB:=η (hB.out.trans (y.mono hB.out.size));have BD:=η (dh.below a4.out y);have BM:=η (hM.out.below y);clear x0 x1 y0 y1 z0 z1 r0 r1 u0 u1 u2 u3;obtain ⟨x0,x1,y0,y1,z0,z1,r0,r1⟩:=BM.out.cells;obtain ⟨u0,u1,u2,u3⟩:=BM.out.free;have ab:=ξ y a7;have ac:=ξ y a8;have aE:=ξ y e0;have aL:=ξ y e1;have q:=fun w' (hb:Below w1.heap.size w1 w')=>Ue I tn gn _ _ bs' w' (dh.below BD.out hb) (by omega) az aD
      clear y e0 e1 a7 a8 hB a4 hM
      go_wp2_with fail
      go_still_tail 13,(by kernel_rfl)
      change wpList _ _ _ _ _ w1.drew;have aq:=BM.out.below (Below.drew (Below.refl w1.heap.size w1));have qd:=q w1.drew (Below.drew ϑ);have aM:=η BB.out.drew;clear q x0 x1 y0 y1 z0 z1 r0 r1 u0 u1 u2 u3 ab ac aE aL BM BD BB;generalize w1.drew=w1' at *
      go_wp2_with fail
      refine qd.mono ?_;rintro e w2 ⟨ar,d0,d1,aR,rfl,ae,a6⟩;obtain ⟨B3,q3,B4,q4,a2⟩:=mQ ae;simp only [List.cons.injEq,and_true] at a2;obtain ⟨rfl,rfl⟩:=a2;have b7:Hid ((I ++ [(tn,gn)]).length=I.length+1):=η (by simp);generalize I ++ [(tn,gn)]=b2 at *;have ag:=η (aq.below ar);obtain ⟨-,-,-,-,bp,bq,-,-⟩:=ag.out.cells;obtain ⟨br,bt,-,-⟩:=ag.out.free;have b1:=η (aM.out.trans (ar.mono aM.out.size));have b8:w.heap.size+4≤w1'.heap.size:=by have:=ψ aq.r_; omega
      have b9:=η (ag.out.setB (.slice B3 b2.length q3) (.slice B4 b2.length q4));have bc:=η (qB (N:=w.heap.size+2) (y0:=.slice B3 b2.length q3) (y1:=.slice B4 b2.length q4) ae fun hc=>by have:=a6 _ hc; omega);have bg:=η ((b1.out.setCell (p:=⟨w.heap.size+2,0,none⟩) (by simp) (.slice B3 b2.length q3)).setCell (p:=⟨w.heap.size+2,1,none⟩) (by simp) (.slice B4 b2.length q4));have bh:Hid (∀ c ∈ aR,c ∈ bs∨w.heap.size+4≤c):=η fun c hc=>.inr (τ b8 (a6 c hc))
      have av:b2.length≤b.length+(k+1):=by have:=b7.out; omega
      clear ae a6 ar ag b1 qd aq;go_wp2;go_roundw
      case rel=>exact ⟨k+1,b2,B3,B4,q3,q4,aR,a3,by go_num,HE,av,bc,bh,b9,bg⟩
      case measure=>simp [intOf]; omega
   ·have he:k=x.args.length:=by omega
    have b6:¬ (k:Int) < (x.args.length:Int):=by omega
    have HE:Hid (aF x f b=(I,true)):=η (by rw [HM.out,hm.out,he,List.drop_eq_nil_of_le ν,List.drop_eq_nil_of_le (by have:=a9.out; omega),cZ]; intro t ts g gs h; cases h);clear hm he;go_wp2;have a5:=hM.out.XH (.slice B1 I.length q1) (.slice B2 I.length q2);obtain ⟨-,-,-,-,-,-,k0,k1⟩:=a5.cells;refine bodyPost_ret (v:=.tuple #[.agg #[.slice B1 I.length q1,.slice B2 I.length q2],.bool true]) (by simp [results,Tryz.results201,go_sem,k0,k1]) rfl ?_;refine ⟨(hB.out.setCell (p:=⟨w.heap.size+3,0,none⟩) (by simp) (.slice B1 I.length q1)).setCell (p:=⟨w.heap.size+3,1,none⟩) (by simp) (.slice B2 I.length q2),.slice B1 I.length q1,.slice B2 I.length q2,by rw [HE.out],bs',?_,fun c hc=>(J.out c hc).imp id fun h=>by omega⟩;rw [HE.out];exact qB a4.out (fun hc=>by rcases J.out _ hc with h | h; exact absurd (ao.out _ h) (by omega); omega)
 ·have HM:Hid (aF x f b=(b,false)):=η (by unfold aF; rw [if_neg hg])
  obtain ⟨x0,x1,y0,y1,z0,z1,r0,r1⟩:=af.out.cells;obtain ⟨u0,u1,u2,u3⟩:=af.out.free;have HD:=η (dh.below H.out HA.out);cases hs:(x.name.toList == f.name.toList)
  case' true=>
   have U:¬ x.args.length=f.args.length:=fun e=>hg ⟨by rw [toList_eq] at hs; exact of_decide_eq_true hs,e⟩
   have b5:¬ (x.args.length:Int)=(f.args.length:Int):=by omega
  all_goals
   go_enter Tryz.func201,Tryz.ntmps201
   go_wp2;refine bodyPost_ret (v:=.tuple #[.agg #[.slice A1 b.length p1,.slice A2 b.length p2],.bool false]) (by simp [results,Tryz.results201,go_sem]) rfl ⟨?_,.slice A1 b.length p1,.slice A2 b.length p2,bs,by rw [HM.out],?_,fun c hc=>.inl hc⟩
   ·exact (((ζ).alloc (by simp) _).alloc (by simp; omega) _).alloc (by simp; omega) _
   ·rw [HM.out]
    exact dh.below H.out ((((ζ).alloc (by simp) _).alloc (by simp; omega) _).alloc (by simp; omega) _)
end
namespace D
open Go.RowKit
abbrev Wo:=ByteArray→ByteArray
def yg (σ:Wo) (t:T):T:=⟨false,if t.var then σ t.name else t.name⟩
def ig (σ:Wo) (a:A):A:=⟨a.name,a.args.map (yg σ)⟩
def Yu (list:List A) (r:Ru) (a:A):Prop:=∃ σ:Wo,a=ig σ r.head∧∀ p ∈ r.body,hasB list (ig σ p.atom) = !p.no
def SE (b:Bd) (σ:Wo):Prop:=∀ n v,gq b n=some v→σ n=v
def yh (b:Bd) (y:List T):Prop:=∀ t ∈ y,t.var=true→(gq b t.name).isSome=true
def Le (b y:Bd):Prop:=∀ n v,gq b n=some v→gq y n=some v
theorem Le.refl (b:Bd):Le b b:=fun _ _ h=>h
theorem Le.trans {a b c:Bd} (h:Le a b) (k:Le b c):Le a c:=fun n v e=>k n v (h n v e)
theorem Le.Yk {b y:Bd} (h:Le b y) {I:List T} (hc:yh b I):yh y I:=fun t J hv=>by
 obtain ⟨v,hv⟩:=Option.isSome_iff_exists.1 (hc t J hv);rw [h _ _ hv]; rfl
theorem SE.of_le {b y:Bd} {σ:Wo} (h:SE y σ) (I:Le b y):SE b σ:=fun n v e=>h n v (I n v e)
theorem Ij (b:Bd):SE b (jv b):=fun n v e=>by unfold jv; rw [e]; rfl
theorem nC (b c:Bd) (n:ByteArray):gq (b ++ c) n=(gq b n).or (gq c n):=by
 induction b with
 | nil=>simp [gq]
 | cons p b ih=>
  simp only [List.cons_append,gq]
  split
  ·rfl
  ·exact ih
theorem Le.append (b c:Bd):Le b (b ++ c):=fun n v h=>by rw [nC,h]; rfl
theorem Um {b:Bd} {σ:Wo} {y:List T} (hc:yh b y) (ha:SE b σ):y.map (dK b)=y.map (yg σ):=by
 refine List.map_congr_left fun t I=>?_
 unfold dK yg;cases hv:t.var
 ·rfl
 ·obtain ⟨v,h⟩:=Option.isSome_iff_exists.1 (hc t I hv)
  simp only [if_true,jv,h,Option.getD_some,ha _ _ h]
theorem kK {b:Bd} {σ:Wo} {a:A} (hc:yh b a.args) (ha:SE b σ):cu a b=ig σ a:=by
 unfold cu ig;rw [Um hc ha]
theorem Un {b y:Bd} {a:A} (hc:yh b a.args) (I:Le b y):cu a y=cu a b:=
 (kK (I.Yk hc) (Ij y)).trans (kK hc ((Ij y).of_le I)).symm
theorem oC:∀ (y fs:List T) (b:Bd),Le b (cZ y fs b).1
 | [],fs,b=>by cases fs <;> exact Le.refl b
 | t :: y,[],b=>Le.refl b
 | t :: y,f :: fs,b=>by
  rw [cZ]
  split
  ·split
   ·split
    ·exact oC y fs b
    ·exact Le.refl b
   ·exact (Le.append _ _).trans (oC y fs _)
  ·split
   ·exact oC y fs b
   ·exact Le.refl b
theorem Bg:∀ (y fs:List T) (b:Bd),y.length=fs.length→(∀ f ∈ fs,f.var=false)→(cZ y fs b).2=true→yh (cZ y fs b).1 y∧y.map (dK (cZ y fs b).1)=fs
 | [],[],b,_,_,_=>⟨fun t J=>absurd J (by simp),rfl⟩
 | [],f :: fs,b,h,_,_=>by simp at h
 | t :: y,[],b,h,_,_=>by simp at h
 | ⟨tv,tn⟩ :: y,⟨fv,fn⟩ :: fs,b,hl,hv,hm=>by
  have hf:fv=false:=hv _ Γ;subst hf;have a0:∀ f ∈ fs,f.var=false:=fun f h=>hv f (Δ _ h)
  have a1:y.length=fs.length:=by simpa using hl
  have I:∀ b0:Bd,(cZ y fs b0).2=true→(tv=true→gq b0 tn=some fn)→(tv=false→tn=fn)→
    yh (cZ y fs b0).1 (⟨tv,tn⟩ :: y)∧(⟨tv,tn⟩ :: y).map (dK (cZ y fs b0).1)=⟨false,fn⟩ :: fs:=by
   intro b0 a2 h1 h2;obtain ⟨i1,i2⟩:=Bg y fs b0 a1 a0 a2;refine ⟨fun t J U=>?_,?_⟩
   ·rcases List.mem_cons.1 J with rfl | J
    ·rw [oC y fs b0 _ _ (h1 U)]; rfl
    ·exact i1 t J U
   ·rw [List.map_cons,i2]
    congr 1
    unfold dK;cases tv
    ·simp [h2 rfl]
    ·simp [jv,oC y fs b0 _ _ (h1 rfl)]
  rw [cZ] at hm ⊢;dsimp only at hm ⊢
  split at hm
  ·rename_i e1
   rw [if_pos e1]
   cases hg:gq b tn with
   | some v=>
    rw [hg] at hm;dsimp only at hm ⊢
    split at hm
    ·rename_i e2
     subst e2;rw [if_pos rfl];exact I b hm (fun _=>hg) fun e=>by rw [e] at e1; cases e1
    ·cases hm
   | none=>
    rw [hg] at hm;dsimp only at hm ⊢;exact I _ hm (fun _=>by rw [nC,hg]; simp [gq]) fun e=>by rw [e] at e1; cases e1
  ·rename_i e1
   rw [if_neg e1]
   split at hm
   ·rename_i e2
    rw [if_pos e2];exact I b hm (fun e=>absurd e e1) fun _=>e2
   ·cases hm
theorem nT:∀ (y fs:List T) (b:Bd) (σ:Wo),SE b σ→y.map (yg σ)=fs→(cZ y fs b).2=true∧SE (cZ y fs b).1 σ
 | [],fs,b,σ,ha,h=>by cases fs with
  | nil=>exact ⟨rfl,ha⟩
  | cons f fs=>simp at h
 | t :: y,[],b,σ,ha,h=>by simp at h
 | ⟨tv,tn⟩ :: y,f :: fs,b,σ,ha,h=>by
  simp only [List.map_cons,List.cons.injEq] at h;obtain ⟨rfl,h⟩:=h;rw [cZ];cases tv
  ·simp only [yg,Bool.false_eq_true,if_false]
   exact nT y fs b σ ha h
  ·simp only [yg,if_true]
   cases hg:gq b tn with
   | some v=>
    dsimp only;rw [if_pos (ha _ _ hg).symm];exact nT y fs b σ ha h
   | none=>
    dsimp only;refine nT y fs _ σ (fun n v e=>?_) h;rw [nC] at e
    cases hn:gq b n with
    | some u=>rw [hn] at e; simp at e; rw [← e]; exact ha _ _ hn
    | none=>
     rw [hn] at e;simp only [Option.none_or,gq] at e
     split at e
     ·rename_i e2; subst e2; simpa using e
     ·cases e
theorem oD (a f:A) (b:Bd):Le b (aF a f b).1:=by
 unfold aF
 split
 ·exact oC _ _ _
 ·exact Le.refl b
theorem nD {a f:A} {b:Bd} (hf:∀ t ∈ f.args,t.var=false) (h:(aF a f b).2=true):yh (aF a f b).1 a.args∧cu a (aF a f b).1=f:=by
 unfold aF at h ⊢
 split at h
 ·rename_i e
  rw [if_pos e];obtain ⟨h1,y⟩:=Bg a.args f.args b e.2 hf h;refine ⟨h1,?_⟩;unfold cu;rw [y];obtain ⟨n,I⟩:=f;simp only at e;rw [e.1]
 ·cases h
theorem nU {a f:A} {b:Bd} {σ:Wo} (ha:SE b σ) (h:ig σ a=f):(aF a f b).2=true∧SE (aF a f b).1 σ:=by
 subst h;unfold aF;rw [if_pos ⟨rfl,by simp [ig]⟩];exact nT _ _ _ _ ha rfl
def Gr (a:A):Prop:=∀ t ∈ a.args,t.var=false
theorem rD (σ:Wo) (a:A):Gr (ig σ a):=fun t y=>by
 obtain ⟨u,_,rfl⟩:=List.mem_map.1 y;rfl
theorem Xg {a b:A} (ha:Gr a) (hb:Gr b) (h:bU a b=0):a=b:=by
 have:=(sQ a b).1 h;unfold sH at this;simp only [List.cons.injEq] at this;obtain ⟨n,y⟩:=a;obtain ⟨m,us⟩:=b;dsimp only at *;obtain ⟨rfl,I⟩:=this;have e:y=us:=y8 ha hb I;rw [e]
theorem rE {xs:List A} (y:∀ x ∈ xs,Gr x) {a:A} (ha:Gr a):hasB xs a=true ↔ a ∈ xs:=by
 refine ⟨fun h=>?_,lQ⟩;obtain ⟨x,hm,hc⟩:=mY.1 h;rw [← Xg (y x hm) ha hc]; exact hm
theorem yj (a:A) (b:Bd):cu a b=ig (jv b) a:=rfl
theorem DI {list:List A} (hl:∀ x ∈ list,Gr x) (body:List Pt):∀ k,k≤body.length→∀ b ∈ xU list (body.take k),∀ p ∈ body.take k,p.no=false→yh b p.atom.args∧cu p.atom b ∈ list:=by
 intro k
 induction k with
 | zero=>intro _ b _ p y; simp at y
 | succ k ih=>
  intro hk b hb p y I;rw [uV list body k (by omega)] at hb;rw [ρ (by omega)] at y;unfold F5 at hb
  split at hb
  ·rename_i hn
   rcases μ.1 y with y | y
   ·exact ih (by omega) b hb p y I
   ·rw [List.mem_singleton.1 y] at I; rw [I] at hn; cases hn
  ·obtain ⟨b0,h0,J⟩:=List.mem_flatMap.1 hb
   unfold jZ at J;obtain ⟨f,hf,e⟩:=List.mem_filterMap.1 J
   split at e
   ·rename_i hm
    cases e
    rcases μ.1 y with y | y
    ·obtain ⟨h1,U⟩:=ih (by omega) b0 h0 p y I
     refine ⟨(oD _ _ _).Yk h1,?_⟩;rw [Un h1 (oD _ _ _)]; exact U
    ·rw [List.mem_singleton.1 y]
     obtain ⟨h1,U⟩:=nD (hl f hf) hm;exact ⟨h1,by rw [U]; exact hf⟩
   ·cases e
theorem Oy {list:List A} {σ:Wo} (body:List Pt) (y:∀ p ∈ body,p.no=false→ig σ p.atom ∈ list):∀ k,k≤body.length→∃ b ∈ xU list (body.take k),SE b σ:=by
 intro k
 induction k with
 | zero=>intro _; exact ⟨[],by simp [xU],fun n v h=>by simp [gq] at h⟩
 | succ k ih=>
  intro J;obtain ⟨b,hb,ha⟩:=ih (by omega);rw [uV list body k (by omega)];unfold F5
  split
  ·exact ⟨b,hb,ha⟩
  ·rename_i hn
   have hin:=y body[k] (δ (by omega)) (by simpa using hn);obtain ⟨h1,I⟩:=nU ha (rfl:ig σ body[k].atom=_);refine ⟨_,List.mem_flatMap.2 ⟨b,hb,?_⟩,I⟩;unfold jZ;exact List.mem_filterMap.2 ⟨_,hin,by rw [if_pos h1]⟩
def Uo (r:Ru):Prop:=∀ x,(kL x r.head.args∨∃ p ∈ r.body,kL x p.atom.args)→∃ p ∈ r.body,p.no=false∧kL x p.atom.args
theorem Gg {r:Ru} (J:Uo r) {b:Bd} (hb:∀ p ∈ r.body,p.no=false→yh b p.atom.args):yh b r.head.args∧∀ p ∈ r.body,yh b p.atom.args:=by
 have h:∀ x,(kL x r.head.args∨∃ p ∈ r.body,kL x p.atom.args)→(gq b x).isSome=true:=fun x U=>by
  obtain ⟨p,I,hn,t,h1,y,rfl⟩:=J x U;exact hb p I hn t h1 y
 exact ⟨fun t h1 y=>h _ (.inl ⟨t,h1,y,rfl⟩),fun p I t h1 y=>h _ (.inr ⟨p,I,t,h1,y,rfl⟩)⟩
theorem Ur {list:List A} (U:∀ x ∈ list,Gr x) {r:Ru} (ht:Uo r) (a:A):(∃ b ∈ allB list r.body,cu r.head b=a) ↔ Yu list r a:=by
 constructor
 ·rintro ⟨b,hb,rfl⟩
  unfold allB at hb;obtain ⟨h1,h2⟩:=List.mem_filter.1 hb;have y:=DI U r.body r.body.length ν;rw [ϕ ν] at y;have y:=y b h1;refine ⟨jv b,yj _ _,fun p I=>?_⟩;cases hn:p.no
  ·rw [← yj]
   exact lQ (y p I hn).2
  ·unfold jf at h2
   have:=List.all_eq_true.1 h2 p I;rw [hn] at this;rw [← yj];simpa using this
 ·rintro ⟨σ,rfl,I⟩
  have J:∀ p ∈ r.body,p.no=false→ig σ p.atom ∈ list:=fun p h hn=>(rE U (rD _ _)).1 (by rw [I p h,hn]; rfl)
  have hw:=Oy (list:=list) (σ:=σ) r.body J r.body.length ν;have y:=DI U r.body r.body.length ν;rw [ϕ ν] at hw y;obtain ⟨b,hb,ha⟩:=hw;obtain ⟨a0,a1⟩:=Gg ht fun p h hn=>(y b hb p h hn).1
  refine ⟨b,?_,kK a0 ha⟩;unfold allB;refine List.mem_filter.2 ⟨hb,?_⟩;unfold jf;refine List.all_eq_true.2 fun p h=>?_
  rw [kK (a1 p h) ha,I p h]
  cases p.no <;> rfl
def EG (out:List Nat):Array Value:=(out.map fun n:Nat=>Value.int .i64 (n:Int)).toArray
theorem DJ {out:List Nat} {i:Nat} (h:i < out.length):(EG out)[i]? = some (.int .i64 (iV out i:Nat)):=by
 unfold EG iV;simp [Ψ h]
theorem Ik (out:List Nat) (i v:Nat):(EG out).setIfInBounds i (.int .i64 (v:Nat))=EG (out.set i v):=by
 unfold EG;simp [List.map_set]
theorem DK (n:Nat):madeCells #[Value.int .i64 0] n=EG (List.replicate n 0):=by
 unfold madeCells EG;refine Array.ext (by simp) fun i h1 y=>?_
 simp [Nat.mod_one]
def numOf:Option Value→Nat
 | some (.int _ z)=>z.toNat
 | _=>0
def DL (w:World) (g n:Nat):Nat:=((List.range n).map fun i=>numOf (w.cell? ⟨g,i,none⟩)).sum
theorem Gh {w:World} {g:Nat} {out:List Nat} {t:TypeId} (h:w.heap[g]? = some (.cells (EG out) t (0,0))):DL w g out.length=out.sum:=by
 unfold DL
 have:((List.range out.length).map fun i=>numOf (w.cell? ⟨g,i,none⟩))=out:=by
  refine List.ext_getElem (by simp) fun i h1 y=>?_
  simp only [List.getElem_map,List.getElem_range];rw [ai h,DJ y];unfold numOf iV;simp [Ψ y]
 rw [this]
def nG (rs:List Ru) (out:List Nat) (s:ByteArray):Nat:=iV out ((aK rs).idxOf s)
structure Oz (rs:List Ru) (out:List Nat):Prop where
 len:out.length=(aK rs).length
 bel:∀ T,N8 rs T→∀ n ∈ bK rs,nG rs out n≤T n
 lo:∀ i,i < out.length→iV out i < out.length
theorem DN (n i:Nat):iV (List.replicate n 0) i=0:=by
 unfold iV; rw [List.getD_eq_getElem?_getD,List.getElem?_replicate]; split <;> rfl
theorem Oz.zero (rs:List Ru):Oz rs (List.replicate (aK rs).length 0):=
 ⟨by simp,fun T _ n _=>by unfold nG; rw [DN]; exact ε,fun i h=>by rw [DN]; omega⟩
theorem Oz.Hr {rs:List Ru} {out:List Nat} (h:Oz rs out):out.sum≤(aK rs).length * (aK rs).length:=by
 have:=FW (out:=out) (n:=out.length) fun i y=>Nat.le_of_lt (h.lo i y)
 rw [h.len] at this;exact this
theorem wS {rs:List Ru} {n:ByteArray} (h:n ∈ bK rs):(aK rs).idxOf n < (aK rs).length:=List.idxOf_lt_length_of_mem (jG.2 h)
theorem Oz.step {rs:List Ru} {out:List Nat} (h:Oz rs out) {r:Ru} (hr:r ∈ rs) {p:Pt} (hp:p ∈ r.body) (hh:p.atom.name ∈ bK rs) {l:Nat} (hl:l=nG rs out p.atom.name+Cm p)
  (I:nG rs out r.head.name < l) (hN:l < (aK rs).length):Oz rs (out.set ((aK rs).idxOf r.head.name) l)∧out.sum < (out.set ((aK rs).idxOf r.head.name) l).sum:=by
 have hi:=wS (head_mem hr);have y:(aK rs).idxOf r.head.name < out.length:=by rw [h.len]; exact hi
 refine ⟨⟨by simp [h.len],fun T U n hn=>?_,fun i J=>?_⟩,?_⟩
 ·unfold nG
  rw [pJ y]
  split
  ·rename_i e
   have e2:n=r.head.name:=by
    have h1:=List.getElem_idxOf hi;have h2:=List.getElem_idxOf (wS hn);rw [← h2,← h1]
    congr 1
    exact e.symm
   have h3:=U r hr p hp hh;have h4:=h.bel T U _ hh;rw [e2,hl]; omega
  ·exact h.bel T U n hn
 ·rw [List.length_set] at J ⊢
  rw [pJ y]
  split
  ·rw [h.len]; exact hN
  ·exact h.lo i J
 ·refine TW (N9 (Nat.le_of_lt I)) fun e=>?_
  have h5:=zo y e;unfold nG at I;omega
theorem Oz.err {rs:List Ru} {out:List Nat} (h:Oz rs out) {r:Ru} (hr:r ∈ rs) {p:Pt} (J:p ∈ r.body) (y:p.atom.name ∈ bK rs) {l:Nat} (hl:l=nG rs out p.atom.name+Cm p)
  (hN:(aK rs).length≤l):mP rs=true:=by
 refine Qy fun S U=>?_
 obtain ⟨T,I,hs⟩:=FV U;have h1:=I r hr p J y;have h2:=hs _ (head_mem hr);have h3:=h.bel T I _ y;omega
def QM (rs:List Ru) (out:List Nat) (r:Ru) (p:Pt):Prop:=p.atom.name ∈ bK rs→nG rs out p.atom.name+Cm p≤nG rs out r.head.name
def wU (rs:List Ru) (out:List Nat) (k:Nat):Prop:=∀ r ∈ rs.take k,∀ p ∈ r.body,QM rs out r p
theorem Oz.done {rs:List Ru} {out:List Nat} (h:Oz rs out) (y:wU rs out rs.length):mP rs=false∧∀ i,i < rs.length→nG rs out (dV rs i).head.name=iV (ay rs) i:=by
 have h1:N8 rs (nG rs out):=fun r hr p I J=>y r (by rw [ϕ ν]; exact hr) p I J
 exact ⟨zq h1,Ua h1 h.bel⟩
theorem wU.zero (rs:List Ru) (out:List Nat):wU rs out 0:=fun r hr=>by simp at hr
theorem wU.snoc {rs:List Ru} {out:List Nat} {k:Nat} (h:k < rs.length) (h1:wU rs out k) (y:∀ p ∈ rs[k].body,QM rs out rs[k] p):wU rs out (k+1):=fun r hr=>by
 rw [ρ h] at hr
 rcases μ.1 hr with hr | hr
 ·exact h1 r hr
 ·rw [List.mem_singleton.1 hr]; exact y
def EK (rs:List Ru) (out:List Nat) (r:Ru) (j:Nat):Prop:=∀ p ∈ r.body.take j,QM rs out r p
theorem EK.zero (rs:List Ru) (out:List Nat) (r:Ru):EK rs out r 0:=fun p y=>by simp at y
theorem EK.snoc {rs:List Ru} {out:List Nat} {r:Ru} {j:Nat} (h:j < r.body.length) (h1:EK rs out r j) (I:QM rs out r r.body[j]):EK rs out r (j+1):=fun p y=>by
 rw [ρ h] at y
 rcases μ.1 y with y | y
 ·exact h1 p y
 ·rw [List.mem_singleton.1 y]; exact I
end D
end Go.Proofs.YtkjinanbccloeaaGreatDoor
