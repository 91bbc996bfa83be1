/- Of the proof of FnEvalNeeds: MatS, G5, LevI. -/
import Derived.Lib.QuietBelow
import Derived.StillTailTactics
import Derived.Test.YtkjinanbccloeaaGreatDoorM11
set_option linter.unusedVariables false
set_option maxHeartbeats 4000000
set_option maxRecDepth 100000
namespace Go.Proofs.YtkjinanbccloeaaGreatDoor
section
open Go.RowKit Go.Sort D
attribute [local go_sem ↓] Go.wp_at_zero Go.wp_at_succ
theorem D.kX {w:World} {cs:List Value} {b:Bd} {bs:List Nat} (h:iR w cs b bs):∃ y p1 I p2,cs = [.slice y b.length p1,.slice I b.length p2]:=by
 obtain ⟨x0,x1,b1,b2,rfl,rfl,h1,J⟩:=h;obtain ⟨y,p1,rfl,U,a0⟩:=ak h1;obtain ⟨I,p2,rfl,a1,a2⟩:=ak J;rw [List.length_map,List.length_map];exact ⟨_,_,_,_,rfl⟩
def D.zX (t f:T) (b:Bd):Bd × Bool:=
 if t.var then
  match eY b t.name with
  | some v=>(b,decide (v=f.name))
  | none=>(b ++ [(t.name,f.name)],true)
 else (b,decide (t.name=f.name))
theorem D.Jj (t f:T) (y fs:List T) (b:Bd):bV (t :: y) (f :: fs) b=if (zX t f b).2 then bV y fs (zX t f b).1 else ((zX t f b).1,false):=by
 unfold zX;rw [bV]
 cases t.var with
 | true=>
  simp only [if_true]
  cases eY b t.name with
  | none=>simp
  | some v=>
   simp only [];by_cases h:v=f.name
   ·simp [h]
   ·simp [h]
 | false=>
  simp only [Bool.false_eq_true,if_false];by_cases h:t.name=f.name
  ·simp [h]
  ·simp [h]
theorem D.Jk {xs ys:List T} (y:xs.length=ys.length) {b:Bd} {k:Nat} (h:k < xs.length):bV (xs.drop k) (ys.drop k) b=if (zX xs[k] (ys[k]'(y ▸ h)) b).2 then bV (xs.drop (k+1)) (ys.drop (k+1)) (zX xs[k] (ys[k]'(y ▸ h)) b).1 else ((zX xs[k] (ys[k]'(y ▸ h)) b).1,false):=by
 rw [List.drop_eq_getElem_cons (l:=xs) (i:=k) h,List.drop_eq_getElem_cons (l:=ys) (i:=k) (y ▸ h),Jj]
structure D.MB (N:Nat) (x f:A) (Ad Ad':Option Addr) (cap cap':Nat) (u0 u1 v0 v1:Value) (w:World):Prop where
 x_:w.heap[N]? = some (.cells #[.string x.name,.slice Ad x.args.length cap] 33 (0,0))
 f_:w.heap[N+1]? = some (.cells #[.string f.name,.slice Ad' f.args.length cap'] 33 (0,0))
 b_:w.heap[N+2]? = some (.cells #[u0,u1] 234 (0,0))
 r_:w.heap[N+3]? = some (.cells #[v0,v1] 234 (0,0))
section
variable {N:Nat} {x f:A} {Ad Ad':Option Addr} {cap cap':Nat} {u0 u1 v0 v1:Value} {w w':World}
theorem D.MB.below (h:MB N x f Ad Ad' cap cap' u0 u1 v0 v1 w) (y:Below w.heap.size w w'):MB N x f Ad Ad' cap cap' u0 u1 v0 v1 w':=
 ⟨by rw [y.block _ (ψ h.x_)]; exact h.x_,by rw [y.block _ (ψ h.f_)]; exact h.f_,by rw [y.block _ (ψ h.b_)]; exact h.b_,by rw [y.block _ (ψ h.r_)]; exact h.r_⟩
theorem D.MB.setB (h:MB N x f Ad Ad' cap cap' u0 u1 v0 v1 w) (y0 y1:Value):MB N x f Ad Ad' cap cap' y0 y1 v0 v1 ((w.setCell ⟨N+2,0,none⟩ y0).setCell ⟨N+2,1,none⟩ y1):=by
 have y:∀ k,k ≠ N+2→((w.setCell ⟨N+2,0,none⟩ y0).setCell ⟨N+2,1,none⟩ y1).heap[k]? = w.heap[k]?:=fun k y=>by rw [π _ _ _ _ y,π _ _ _ _ y]
 exact ⟨(y _ (by omega)).trans h.x_,(y _ (by omega)).trans h.f_,by simpa using bP (o:=1) (u:=y1) (bP (o:=0) (u:=y0) h.b_),(y _ (by omega)).trans h.r_⟩
theorem D.MB.VL (h:MB N x f Ad Ad' cap cap' u0 u1 v0 v1 w) (y0 y1:Value):MB N x f Ad Ad' cap cap' u0 u1 y0 y1 ((w.setCell ⟨N+3,0,none⟩ y0).setCell ⟨N+3,1,none⟩ y1):=by
 have y:∀ k,k ≠ N+3→((w.setCell ⟨N+3,0,none⟩ y0).setCell ⟨N+3,1,none⟩ y1).heap[k]? = w.heap[k]?:=fun k y=>by rw [π _ _ _ _ y,π _ _ _ _ y]
 exact ⟨(y _ (by omega)).trans h.x_,(y _ (by omega)).trans h.f_,(y _ (by omega)).trans h.b_,by simpa using bP (o:=1) (u:=y1) (bP (o:=0) (u:=y0) h.r_)⟩
theorem D.MB.cells (h:MB N x f Ad Ad' cap cap' u0 u1 v0 v1 w):w.cell? ⟨N,0,none⟩=some (.string x.name)∧w.cell? ⟨N,1,none⟩=some (.slice Ad x.args.length cap)∧w.cell? ⟨N+1,0,none⟩=some (.string f.name)∧w.cell? ⟨N+1,1,none⟩=some (.slice Ad' f.args.length cap')∧w.cell? ⟨N+2,0,none⟩=some u0∧w.cell? ⟨N+2,1,none⟩=some u1∧w.cell? ⟨N+3,0,none⟩=some v0∧w.cell? ⟨N+3,1,none⟩=some v1:=
 ⟨by simp [World.cell?,h.x_],by simp [World.cell?,h.x_],by simp [World.cell?,h.f_],by simp [World.cell?,h.f_],by simp [World.cell?,h.b_],by simp [World.cell?,h.b_],by simp [World.cell?,h.r_],by simp [World.cell?,h.r_]⟩
theorem D.MB.free (h:MB N x f Ad Ad' cap cap' u0 u1 v0 v1 w):w.frozen? ⟨N+2,0,none⟩=false∧w.frozen? ⟨N+2,1,none⟩=false∧w.frozen? ⟨N+3,0,none⟩=false∧w.frozen? ⟨N+3,1,none⟩=false:=
 ⟨ax h.b_,ax h.b_,ax h.r_,ax h.r_⟩
end
theorem D.oL {w:World} {N:Nat} {I c1 y0 y1:Value} {b:Bd} {bs:List Nat} (h:iR w [I,c1] b bs) (J:N ∉ bs):iR ((w.setCell ⟨N,0,none⟩ y0).setCell ⟨N,1,none⟩ y1) [I,c1] b bs:=
 bW.keep h fun c hc=>by
  have y:c ≠ N:=fun e=>J (e ▸ hc)
  rw [π _ _ _ _ y,π _ _ _ _ y]
theorem OM (x f:A) (b:Bd) (a0 a1 f0 f1 c0 c1:Value) (ba bf bs:List Nat) (w:World) (ha:aI w [a0,a1] x ba) (hf:aI w [f0,f1] f bf) (h:iR w [c0,c1] b bs) (hn:b.length≤1000000) (hx:x.args.length≤1000000):
  Calls Tryz.prog 201 #[.agg #[a0,a1],.agg #[f0,f1],.agg #[c0,c1]] w fun e w'=>Below w.heap.size w w'∧∃ d0 d1 bs',e=.returned (.tuple #[.agg #[d0,d1],.bool (aF x f b).2])∧iR w' [d0,d1] (aF x f b).1 bs'∧∀ c ∈ bs',c ∈ bs∨w.heap.size≤c:=by
 obtain ⟨s,a2,bj,ht⟩:=ha;simp only [List.cons.injEq,and_true] at a2;obtain ⟨rfl,rfl⟩:=a2;obtain ⟨Ad,cap,rfl,hl,hm⟩:=ak ht;obtain ⟨s',a2,bh,am⟩:=hf;simp only [List.cons.injEq,and_true] at a2;obtain ⟨rfl,rfl⟩:=a2;obtain ⟨Ad',cap',rfl,bk,b1⟩:=ak am;obtain ⟨A1,p1,A2,p2,a2⟩:=kX h;simp only [List.cons.injEq,and_true] at a2;obtain ⟨rfl,rfl⟩:=a2;clear hm b1
 have hA:Below w.heap.size w ((((w.alloc (.cells #[.string x.name,.slice Ad x.args.length cap] 33)).alloc (.cells #[.string f.name,.slice Ad' f.args.length cap'] 33)).alloc (.cells #[.slice A1 b.length p1,.slice A2 b.length p2] 234)).alloc (.cells #[.slice none 0 0,.slice none 0 0] 234)):=
  (((ζ).alloc (by simp) _).alloc (by simp; omega) _).alloc (by simp; omega) _
 have av:MB w.heap.size x f Ad Ad' cap cap' (.slice A1 b.length p1) (.slice A2 b.length p2) (.slice none 0 0) (.slice none 0 0) ((((w.alloc (.cells #[.string x.name,.slice Ad x.args.length cap] 33)).alloc (.cells #[.string f.name,.slice Ad' f.args.length cap'] 33)).alloc (.cells #[.slice A1 b.length p1,.slice A2 b.length p2] 234)).alloc (.cells #[.slice none 0 0,.slice none 0 0] 234)):=by
  refine ⟨?_,?_,?_,?_⟩
  ·rw [Below.heap_alloc _ _ _ (by simp; omega),Below.heap_alloc _ _ _ (by simp; omega),Below.heap_alloc _ _ _ (by simp)]
   exact ω w _
  ·rw [Below.heap_alloc _ _ _ (by first | (simp; done) | (simp; omega)),Below.heap_alloc _ _ _ (by first | (simp; done) | (simp; omega))]
   simpa using ω (w.alloc (.cells #[.string x.name,.slice Ad x.args.length cap] 33)) (.cells #[.string f.name,.slice Ad' f.args.length cap'] 33)
  ·rw [Below.heap_alloc _ _ _ (by simp)]
   simpa using ω ((w.alloc (.cells #[.string x.name,.slice Ad x.args.length cap] 33)).alloc (.cells #[.string f.name,.slice Ad' f.args.length cap'] 33)) (.cells #[.slice A1 b.length p1,.slice A2 b.length p2] 234)
  ·simpa using ω (((w.alloc (.cells #[.string x.name,.slice Ad x.args.length cap] 33)).alloc (.cells #[.string f.name,.slice Ad' f.args.length cap'] 33)).alloc (.cells #[.slice A1 b.length p1,.slice A2 b.length p2] 234)) (.cells #[.slice none 0 0,.slice none 0 0] 234)
 have a3:=bW.lt h;have ao:=η a3;have H:=η h;have HT:=η ht;have b3:=η am;have HA:=η hA;have af:=η av;clear h ht am hA a3 av;by_cases hg:x.name=f.name∧x.args.length=f.args.length
 ·have hs:(x.name.toList == f.name.toList)=true:=by rw [toList_eq,decide_eq_true hg.1]
  have b4:(x.args.length:Int)=(f.args.length:Int):=by omega
  have HG:=η hg;have HM:Hid (aF x f b=bV x.args f.args b):=η (by unfold aF; rw [if_pos hg]);have a9:=η hg.2;clear hg
  go_enter Tryz.func201,Tryz.ntmps201
  go_wp2_with fail
  generalize (((w.alloc (.cells #[.string x.name,.slice Ad x.args.length cap] 33)).alloc (.cells #[.string f.name,.slice Ad' f.args.length cap'] 33)).alloc (.cells #[.slice A1 b.length p1,.slice A2 b.length p2] 234)).alloc (.cells #[.slice none 0 0,.slice none 0 0] 234)=w0 at *
  go_loopw [8,9,10,11] (fun i _ _ _ wr=>∃ (k:Nat) (I:Bd) (B1 B2:Option Addr) (q1 q2:Nat) (bs':List Nat),k≤x.args.length∧i=.int .i64 k∧Hid (bV x.args f.args b=bV (x.args.drop k) (f.args.drop k) I)∧I.length≤b.length+k∧Hid (iR wr [.slice B1 I.length q1,.slice B2 I.length q2] I bs')∧Hid (∀ c ∈ bs',c ∈ bs∨w.heap.size+4≤c)∧Hid (MB w.heap.size x f Ad Ad' cap cap' (.slice B1 I.length q1) (.slice B2 I.length q2) (.slice none 0 0) (.slice none 0 0) wr)∧Hid (Below w.heap.size w wr)) (fun i _ _ _ _=>x.args.length - (intOf i).toNat)
  case atStart=>exact ⟨0,b,A1,A2,p1,p2,bs,ε,rfl,η rfl,by omega,η (bW.below H.out HA.out),η fun c hc=>.inl hc,af,HA⟩
  case round=>
   obtain ⟨k,I,B1,B2,q1,q2,bs',hk,rfl,hm,bl,a4,J,hM,hB⟩:=hrel;clear HA af H;obtain ⟨x0,x1,y0,y1,z0,z1,r0,r1⟩:=hM.out.cells;obtain ⟨u0,u1,u2,u3⟩:=hM.out.free;by_cases a3:k < x.args.length
   ·obtain ⟨d,o,rfl,_,e0,e1,aw⟩:=dU (aN.below HT.out hB.out) a3
    obtain ⟨d',o',rfl,_,a7,a8,az⟩:=dU (aN.below b3.out hB.out) (a9.out ▸ a3);have HD:=η (hm.out.trans (Jk a9.out a3));have b5:(k:Int) < (x.args.length:Int):=by omega
    have bi:(k:Int) < (f.args.length:Int):=by have:=a9.out; omega
    have bn:(0:Int)≤(k:Int):=by omega
    clear hm;generalize x.args[k]=t at *;generalize f.args[k]'(a9.out ▸ a3)=g at *;obtain ⟨tv,tn⟩:=t;obtain ⟨gv,gn⟩:=g;dsimp only at *
    cases tv with
    | false=>
     have HS:Hid (zX ⟨false,tn⟩ ⟨gv,gn⟩ I=(I,decide (tn=gn))):=η rfl;cases hsn:(tn.toList == gn.toList)
     ·have U:decide (tn=gn)=false:=by rw [← toList_eq]; exact hsn
      have HE:Hid (aF x f b=(I,false)):=η (by rw [HM.out,HD.out,HS.out,U]; rfl);have BB:=hB;have BD:=a4;have a5:=hM.out.VL (.slice B1 I.length q1) (.slice B2 I.length q2);obtain ⟨-,-,-,-,-,-,k0,k1⟩:=a5.cells;clear HD HS U a5;go_wp2;exact bodyPost_ret (v:=.tuple #[.agg #[.slice B1 I.length q1,.slice B2 I.length q2],.bool false]) (by simp [results,Tryz.results201,go_sem,k0,k1]) rfl ⟨(BB.out.setCell (p:=⟨w.heap.size+3,0,none⟩) (by simp) _).setCell (p:=⟨w.heap.size+3,1,none⟩) (by simp) _,_,_,bs',by rw [HE.out],by rw [HE.out]; exact oL BD.out (fun hc=>by rcases J.out _ hc with h | h; exact absurd (ao.out _ h) (by omega); omega),fun c hc=>(J.out c hc).imp id fun h=>by omega⟩
     ·have U:decide (tn=gn)=true:=by rw [← toList_eq]; exact hsn
      have HE:Hid (bV x.args f.args b=bV (x.args.drop (k+1)) (f.args.drop (k+1)) I):=η (by rw [HD.out,HS.out,U]; rfl);clear HD HS U;go_wp2;go_roundw
      case rel=>exact ⟨k+1,I,B1,B2,q1,q2,bs',a3,by go_num,HE,by omega,a4,J,hM,hB⟩
      case measure=>simp [intOf]; omega
    | true=>
     have q:=fun w' (hb:Below wr.heap.size wr w')=>get_any I tn _ _ bs' w' (bW.below a4.out hb)
     cases hgb:eY I tn with
     | some v=>
      have HS:Hid (zX ⟨true,tn⟩ ⟨gv,gn⟩ I=(I,decide (v=gn))):=η (by unfold zX; simp only [if_true]; rw [hgb]);have aa:iO I tn=v:=by unfold iO; rw [hgb]; rfl
      rw [hgb,aa] at q;clear hgb aa;cases hsn:(v.toList == gn.toList)
      ·have U:decide (v=gn)=false:=by rw [← toList_eq]; exact hsn
       have HE:Hid (aF x f b=(I,false)):=η (by rw [HM.out,HD.out,HS.out,U]; rfl);clear HD HS U;have k0:=fun d os=>cell_regrown x1 d os
       have k1:=fun d os=>cell_regrown z0 d os
       have k2:=fun d os=>cell_regrown z1 d os
       have k3:=fun d os=>cell_regrown e1 d os
       have qq:=fun d os=>Calls.regrown_of (q _ (below_regrown wr d os))
       clear q
       go_wp2_with fail
       refine wp_region_quiet_below (by kernel_rfl) (by kernel_rfl) ?_
       repeat (quiet_step (exact qq _ _))
       refine wpQuiet_nil ?_;intro _ hw';obtain ⟨⟨dq,osq⟩,hw''⟩:=hw';subst hw'';have y:=below_regrown wr dq osq;generalize grow (redrawn wr dq) osq=w1 at *;clear k0 k1 k2 k3 qq;have BB:=η (hB.out.trans (y.mono hB.out.size));have BD:=η (bW.below a4.out y);have BM:=η (hM.out.below y);clear x0 x1 y0 y1 z0 z1 r0 r1 u0 u1 u2 u3;obtain ⟨x0,x1,y0,y1,z0,z1,r0,r1⟩:=BM.out.cells;obtain ⟨u0,u1,u2,u3⟩:=BM.out.free;have ab:=ξ y a7;have ac:=ξ y a8;clear y e0 e1 a7 a8 hB a4 hM;have a5:=BM.out.VL (.slice B1 I.length q1) (.slice B2 I.length q2);obtain ⟨-,-,-,-,-,-,k0,k1⟩:=a5.cells;clear a5;go_wp2
       exact bodyPost_ret (v:=.tuple #[.agg #[.slice B1 I.length q1,.slice B2 I.length q2],.bool false]) (by simp [results,Tryz.results201,go_sem,k0,k1]) rfl ⟨(BB.out.setCell (p:=⟨w.heap.size+3,0,none⟩) (by simp) _).setCell (p:=⟨w.heap.size+3,1,none⟩) (by simp) _,_,_,bs',by rw [HE.out],by rw [HE.out]; exact oL BD.out (fun hc=>by rcases J.out _ hc with h | h; exact absurd (ao.out _ h) (by omega); omega),fun c hc=>(J.out c hc).imp id fun h=>by omega⟩
      ·have U:decide (v=gn)=true:=by rw [← toList_eq]; exact hsn
       have HE:Hid (bV x.args f.args b=bV (x.args.drop (k+1)) (f.args.drop (k+1)) I):=η (by rw [HD.out,HS.out,U]; rfl);clear HD HS U;have k0:=fun d os=>cell_regrown x1 d os
       have k1:=fun d os=>cell_regrown z0 d os
       have k2:=fun d os=>cell_regrown z1 d os
       have k3:=fun d os=>cell_regrown e1 d os
       have qq:=fun d os=>Calls.regrown_of (q _ (below_regrown wr d os))
       clear q
       go_wp2_with fail
       refine wp_region_quiet_below (by kernel_rfl) (by kernel_rfl) ?_
       repeat (quiet_step (exact qq _ _))
       refine wpQuiet_nil ?_;intro _ hw';obtain ⟨⟨dq,osq⟩,hw''⟩:=hw';subst hw'';have y:=below_regrown wr dq osq;generalize grow (redrawn wr dq) osq=w1 at *;clear k0 k1 k2 k3 qq;have BB:=η (hB.out.trans (y.mono hB.out.size));have BD:=η (bW.below a4.out y);have BM:=η (hM.out.below y);clear x0 x1 y0 y1 z0 z1 r0 r1 u0 u1 u2 u3;obtain ⟨x0,x1,y0,y1,z0,z1,r0,r1⟩:=BM.out.cells;obtain ⟨u0,u1,u2,u3⟩:=BM.out.free;have ab:=ξ y a7;have ac:=ξ y a8;clear y e0 e1 a7 a8 hB a4 hM;go_wp2;go_roundw
       case rel=>exact ⟨k+1,I,B1,B2,q1,q2,bs',a3,by go_num,HE,by omega,BD,J,BM,BB⟩
       case measure=>simp [intOf]; omega
     | none=>
      have HS:Hid (zX ⟨true,tn⟩ ⟨gv,gn⟩ I=(I ++ [(tn,gn)],true)):=η (by unfold zX; simp only [if_true]; rw [hgb]);have aa:iO I tn=⟨#[]⟩:=by unfold iO; rw [hgb]; rfl
      have HE:Hid (bV x.args f.args b=bV (x.args.drop (k+1)) (f.args.drop (k+1)) (I ++ [(tn,gn)])):=η (by rw [HD.out,HS.out]; rfl);rw [hgb,aa] at q;clear hgb aa HS HD;have k0:=fun d os=>cell_regrown x1 d os
      have k1:=fun d os=>cell_regrown z0 d os
      have k2:=fun d os=>cell_regrown z1 d os
      have k3:=fun d os=>cell_regrown e1 d os
      have qq:=fun d os=>Calls.regrown_of (q _ (below_regrown wr d os))
      clear q
      go_wp2_with fail
      refine wp_region_quiet_below (by kernel_rfl) (by kernel_rfl) ?_
      repeat (quiet_step (exact qq _ _))
      refine wpQuiet_nil ?_;intro _ hw';obtain ⟨⟨dq,osq⟩,hw''⟩:=hw';subst hw'';have y:=below_regrown wr dq osq;generalize grow (redrawn wr dq) osq=w1 at *;clear k0 k1 k2 k3 qq;have BB:=η (hB.out.trans (y.mono hB.out.size));have BD:=η (bW.below a4.out y);have BM:=η (hM.out.below y);clear x0 x1 y0 y1 z0 z1 r0 r1 u0 u1 u2 u3;obtain ⟨x0,x1,y0,y1,z0,z1,r0,r1⟩:=BM.out.cells;obtain ⟨u0,u1,u2,u3⟩:=BM.out.free;have ab:=ξ y a7;have ac:=ξ y a8;have aD:=ξ y e0;have aE:=ξ y e1;have q:=fun w' (hb:Below w1.heap.size w1 w')=>QZ I tn gn _ _ bs' w' (bW.below BD.out hb) (by omega) aw az
      clear y e0 e1 a7 a8 hB a4 hM
      go_wp2_with fail
      go_still_tail 13,(by kernel_rfl)
      change wpList _ _ _ _ _ w1.drew;have ap:=BM.out.below (Below.drew (Below.refl w1.heap.size w1));have qd:=q w1.drew (Below.drew ϑ);have aL:=η BB.out.drew;clear q x0 x1 y0 y1 z0 z1 r0 r1 u0 u1 u2 u3 ab ac aD aE BM BD BB;generalize w1.drew=w1' at *
      go_wp2_with fail
      refine qd.mono ?_;rintro e w2 ⟨aq,d0,d1,aM,rfl,ae,a6⟩;obtain ⟨B3,q3,B4,q4,a2⟩:=kX ae;simp only [List.cons.injEq,and_true] at a2;obtain ⟨rfl,rfl⟩:=a2;have b6:Hid ((I ++ [(tn,gn)]).length=I.length+1):=η (by simp);generalize I ++ [(tn,gn)]=b2 at *;have ag:=η (ap.below aq);obtain ⟨-,-,-,-,bo,bp,-,-⟩:=ag.out.cells;obtain ⟨bq,br,-,-⟩:=ag.out.free;have aR:=η (aL.out.trans (aq.mono aL.out.size));have b7:w.heap.size+4≤w1'.heap.size:=by have:=ψ ap.r_; omega
      have b8:=η (ag.out.setB (.slice B3 b2.length q3) (.slice B4 b2.length q4));have b9:=η (oL (N:=w.heap.size+2) (y0:=.slice B3 b2.length q3) (y1:=.slice B4 b2.length q4) ae fun hc=>by have:=a6 _ hc; omega);have bc:=η ((aR.out.setCell (p:=⟨w.heap.size+2,0,none⟩) (by simp) (.slice B3 b2.length q3)).setCell (p:=⟨w.heap.size+2,1,none⟩) (by simp) (.slice B4 b2.length q4));have bg:Hid (∀ c ∈ aM,c ∈ bs∨w.heap.size+4≤c):=η fun c hc=>.inr (τ b7 (a6 c hc))
      have ar:b2.length≤b.length+(k+1):=by have:=b6.out; omega
      clear ae a6 aq ag aR qd ap;go_wp2;go_roundw
      case rel=>exact ⟨k+1,b2,B3,B4,q3,q4,aM,a3,by go_num,HE,ar,b9,bg,b8,bc⟩
      case measure=>simp [intOf]; omega
   ·have he:k=x.args.length:=by omega
    have b5:¬ (k:Int) < (x.args.length:Int):=by omega
    have HE:Hid (aF x f b=(I,true)):=η (by rw [HM.out,hm.out,he,List.drop_eq_nil_of_le ν,List.drop_eq_nil_of_le (by have:=a9.out; omega),bV]; intro t ts g gs h; cases h);clear hm he;go_wp2;have a5:=hM.out.VL (.slice B1 I.length q1) (.slice B2 I.length q2);obtain ⟨-,-,-,-,-,-,k0,k1⟩:=a5.cells;refine bodyPost_ret (v:=.tuple #[.agg #[.slice B1 I.length q1,.slice B2 I.length q2],.bool true]) (by simp [results,Tryz.results201,go_sem,k0,k1]) rfl ?_;refine ⟨(hB.out.setCell (p:=⟨w.heap.size+3,0,none⟩) (by simp) (.slice B1 I.length q1)).setCell (p:=⟨w.heap.size+3,1,none⟩) (by simp) (.slice B2 I.length q2),.slice B1 I.length q1,.slice B2 I.length q2,by rw [HE.out],bs',?_,fun c hc=>(J.out c hc).imp id fun h=>by omega⟩;rw [HE.out];exact oL a4.out (fun hc=>by rcases J.out _ hc with h | h; exact absurd (ao.out _ h) (by omega); omega)
 ·have HM:Hid (aF x f b=(b,false)):=η (by unfold aF; rw [if_neg hg])
  obtain ⟨x0,x1,y0,y1,z0,z1,r0,r1⟩:=af.out.cells;obtain ⟨u0,u1,u2,u3⟩:=af.out.free;have HD:=η (bW.below H.out HA.out);cases hs:(x.name.toList == f.name.toList)
  case' true=>
   have U:¬ x.args.length=f.args.length:=fun e=>hg ⟨by rw [toList_eq] at hs; exact of_decide_eq_true hs,e⟩
   have b4:¬ (x.args.length:Int)=(f.args.length:Int):=by omega
  all_goals
   go_enter Tryz.func201,Tryz.ntmps201
   go_wp2;refine bodyPost_ret (v:=.tuple #[.agg #[.slice A1 b.length p1,.slice A2 b.length p2],.bool false]) (by simp [results,Tryz.results201,go_sem]) rfl ⟨?_,.slice A1 b.length p1,.slice A2 b.length p2,bs,by rw [HM.out],?_,fun c hc=>.inl hc⟩
   ·exact (((ζ).alloc (by simp) _).alloc (by simp; omega) _).alloc (by simp; omega) _
   ·rw [HM.out]
    exact bW.below H.out ((((ζ).alloc (by simp) _).alloc (by simp; omega) _).alloc (by simp; omega) _)
end
namespace D
open Go.RowKit
abbrev Wo:=ByteArray→ByteArray
def vX (σ:Wo) (t:T):T:=⟨false,if t.var then σ t.name else t.name⟩
def fP (σ:Wo) (a:A):A:=⟨a.name,a.args.map (vX σ)⟩
def WE (list:List A) (r:Ru) (a:A):Prop:=∃ σ:Wo,a=fP σ r.head∧∀ p ∈ r.body,hasB list (fP σ p.atom) = !p.no
def Qb (b:Bd) (σ:Wo):Prop:=∀ n v,eY b n=some v→σ n=v
def vY (b:Bd) (y:List T):Prop:=∀ t ∈ y,t.var=true→(eY b t.name).isSome=true
def Le (b y:Bd):Prop:=∀ n v,eY b n=some v→eY y n=some v
theorem Le.refl (b:Bd):Le b b:=fun _ _ h=>h
theorem Le.trans {a b c:Bd} (h:Le a b) (k:Le b c):Le a c:=fun n v e=>k n v (h n v e)
theorem Le.Wp {b y:Bd} (h:Le b y) {I:List T} (hc:vY b I):vY y I:=fun t J hv=>by
 obtain ⟨v,hv⟩:=Option.isSome_iff_exists.1 (hc t J hv);rw [h _ _ hv]; rfl
theorem Qb.of_le {b y:Bd} {σ:Wo} (h:Qb y σ) (I:Le b y):Qb b σ:=fun n v e=>h n v (I n v e)
theorem Gt (b:Bd):Qb b (iO b):=fun n v e=>by unfold iO; rw [e]; rfl
theorem lJ (b c:Bd) (n:ByteArray):eY (b ++ c) n=(eY b n).or (eY c n):=by
 induction b with
 | nil=>simp [eY]
 | cons p b ih=>
  simp only [List.cons_append,eY]
  split
  ·rfl
  ·exact ih
theorem Le.append (b c:Bd):Le b (b ++ c):=fun n v h=>by rw [lJ,h]; rfl
theorem Rk {b:Bd} {σ:Wo} {y:List T} (hc:vY b y) (ha:Qb b σ):y.map (dm b)=y.map (vX σ):=by
 refine List.map_congr_left fun t I=>?_
 unfold dm vX;cases hv:t.var
 ·rfl
 ·obtain ⟨v,h⟩:=Option.isSome_iff_exists.1 (hc t I hv)
  simp only [if_true,iO,h,Option.getD_some,ha _ _ h]
theorem jH {b:Bd} {σ:Wo} {a:A} (hc:vY b a.args) (ha:Qb b σ):bU a b=fP σ a:=by
 unfold bU fP;rw [Rk hc ha]
theorem Rl {b y:Bd} {a:A} (hc:vY b a.args) (I:Le b y):bU a y=bU a b:=
 (jH (I.Wp hc) (Gt y)).trans (jH hc ((Gt y).of_le I)).symm
theorem mJ:∀ (y fs:List T) (b:Bd),Le b (bV y fs b).1
 | [],fs,b=>by cases fs <;> exact Le.refl b
 | t :: y,[],b=>Le.refl b
 | t :: y,f :: fs,b=>by
  rw [bV]
  split
  ·split
   ·split
    ·exact mJ y fs b
    ·exact Le.refl b
   ·exact (Le.append _ _).trans (mJ y fs _)
  ·split
   ·exact mJ y fs b
   ·exact Le.refl b
theorem yV:∀ (y fs:List T) (b:Bd),y.length=fs.length→(∀ f ∈ fs,f.var=false)→(bV y fs b).2=true→vY (bV y fs b).1 y∧y.map (dm (bV y fs b).1)=fs
 | [],[],b,_,_,_=>⟨fun t J=>absurd J (by simp),rfl⟩
 | [],f :: fs,b,h,_,_=>by simp at h
 | t :: y,[],b,h,_,_=>by simp at h
 | ⟨tv,tn⟩ :: y,⟨fv,fn⟩ :: fs,b,hl,hv,hm=>by
  have hf:fv=false:=hv _ Γ;subst hf;have a0:∀ f ∈ fs,f.var=false:=fun f h=>hv f (Δ _ h)
  have a1:y.length=fs.length:=by simpa using hl
  have I:∀ b0:Bd,(bV y fs b0).2=true→(tv=true→eY b0 tn=some fn)→(tv=false→tn=fn)→
    vY (bV y fs b0).1 (⟨tv,tn⟩ :: y)∧(⟨tv,tn⟩ :: y).map (dm (bV y fs b0).1)=⟨false,fn⟩ :: fs:=by
   intro b0 a2 h1 h2;obtain ⟨i1,i2⟩:=yV y fs b0 a1 a0 a2;refine ⟨fun t J U=>?_,?_⟩
   ·rcases List.mem_cons.1 J with rfl | J
    ·rw [mJ y fs b0 _ _ (h1 U)]; rfl
    ·exact i1 t J U
   ·rw [List.map_cons,i2]
    congr 1
    unfold dm;cases tv
    ·simp [h2 rfl]
    ·simp [iO,mJ y fs b0 _ _ (h1 rfl)]
  rw [bV] at hm ⊢;dsimp only at hm ⊢
  split at hm
  ·rename_i e1
   rw [if_pos e1]
   cases hg:eY b tn with
   | some v=>
    rw [hg] at hm;dsimp only at hm ⊢
    split at hm
    ·rename_i e2
     subst e2;rw [if_pos rfl];exact I b hm (fun _=>hg) fun e=>by rw [e] at e1; cases e1
    ·cases hm
   | none=>
    rw [hg] at hm;dsimp only at hm ⊢;exact I _ hm (fun _=>by rw [lJ,hg]; simp [eY]) fun e=>by rw [e] at e1; cases e1
  ·rename_i e1
   rw [if_neg e1]
   split at hm
   ·rename_i e2
    rw [if_pos e2];exact I b hm (fun e=>absurd e e1) fun _=>e2
   ·cases hm
theorem mr:∀ (y fs:List T) (b:Bd) (σ:Wo),Qb b σ→y.map (vX σ)=fs→(bV y fs b).2=true∧Qb (bV y fs b).1 σ
 | [],fs,b,σ,ha,h=>by cases fs with
  | nil=>exact ⟨rfl,ha⟩
  | cons f fs=>simp at h
 | t :: y,[],b,σ,ha,h=>by simp at h
 | ⟨tv,tn⟩ :: y,f :: fs,b,σ,ha,h=>by
  simp only [List.map_cons,List.cons.injEq] at h;obtain ⟨rfl,h⟩:=h;rw [bV];cases tv
  ·simp only [vX,Bool.false_eq_true,if_false]
   exact mr y fs b σ ha h
  ·simp only [vX,if_true]
   cases hg:eY b tn with
   | some v=>
    dsimp only;rw [if_pos (ha _ _ hg).symm];exact mr y fs b σ ha h
   | none=>
    dsimp only;refine mr y fs _ σ (fun n v e=>?_) h;rw [lJ] at e
    cases hn:eY b n with
    | some u=>rw [hn] at e; simp at e; rw [← e]; exact ha _ _ hn
    | none=>
     rw [hn] at e;simp only [Option.none_or,eY] at e
     split at e
     ·rename_i e2; subst e2; simpa using e
     ·cases e
theorem mO (a f:A) (b:Bd):Le b (aF a f b).1:=by
 unfold aF
 split
 ·exact mJ _ _ _
 ·exact Le.refl b
theorem lK {a f:A} {b:Bd} (hf:∀ t ∈ f.args,t.var=false) (h:(aF a f b).2=true):vY (aF a f b).1 a.args∧bU a (aF a f b).1=f:=by
 unfold aF at h ⊢
 split at h
 ·rename_i e
  rw [if_pos e];obtain ⟨h1,y⟩:=yV a.args f.args b e.2 hf h;refine ⟨h1,?_⟩;unfold bU;rw [y];obtain ⟨n,I⟩:=f;simp only at e;rw [e.1]
 ·cases h
theorem mD {a f:A} {b:Bd} {σ:Wo} (ha:Qb b σ) (h:fP σ a=f):(aF a f b).2=true∧Qb (aF a f b).1 σ:=by
 subst h;unfold aF;rw [if_pos ⟨rfl,by simp [fP]⟩];exact mr _ _ _ _ ha rfl
def Gr (a:A):Prop:=∀ t ∈ a.args,t.var=false
theorem pY (σ:Wo) (a:A):Gr (fP σ a):=fun t y=>by
 obtain ⟨u,_,rfl⟩:=List.mem_map.1 y;rfl
theorem Vg {a b:A} (ha:Gr a) (y:Gr b) (h:dL a b=0):a=b:=by
 have:=(vg a b).1 h;unfold qG at this;simp only [List.cons.injEq] at this;obtain ⟨n,I⟩:=a;obtain ⟨m,us⟩:=b;dsimp only at *;obtain ⟨rfl,J⟩:=this;have e:I=us:=xB ha y J;rw [e]
theorem qc {xs:List A} (y:∀ x ∈ xs,Gr x) {a:A} (ha:Gr a):hasB xs a=true ↔ a ∈ xs:=by
 refine ⟨fun h=>?_,lq⟩;obtain ⟨x,hm,hc⟩:=oG.1 h;rw [← Vg (y x hm) ha hc]; exact hm
theorem vZ (a:A) (b:Bd):bU a b=fP (iO b) a:=rfl
theorem CQ {list:List A} (hl:∀ x ∈ list,Gr x) (body:List Pt):∀ k,k≤body.length→∀ b ∈ vO list (body.take k),∀ p ∈ body.take k,p.no=false→vY b p.atom.args∧bU p.atom b ∈ list:=by
 intro k
 induction k with
 | zero=>intro _ b _ p y; simp at y
 | succ k ih=>
  intro hk b J p y I;rw [sJ list body k (by omega)] at J;rw [ρ (by omega)] at y;unfold EJ at J
  split at J
  ·rename_i hn
   rcases μ.1 y with y | y
   ·exact ih (by omega) b J p y I
   ·rw [List.mem_singleton.1 y] at I; rw [I] at hn; cases hn
  ·obtain ⟨b0,h0,U⟩:=List.mem_flatMap.1 J
   unfold jw at U;obtain ⟨f,hf,e⟩:=List.mem_filterMap.1 U
   split at e
   ·rename_i hm
    cases e
    rcases μ.1 y with y | y
    ·obtain ⟨h1,h2⟩:=ih (by omega) b0 h0 p y I
     refine ⟨(mO _ _ _).Wp h1,?_⟩;rw [Rl h1 (mO _ _ _)]; exact h2
    ·rw [List.mem_singleton.1 y]
     obtain ⟨h1,h2⟩:=lK (hl f hf) hm;exact ⟨h1,by rw [h2]; exact hf⟩
   ·cases e
theorem Mc {list:List A} {σ:Wo} (body:List Pt) (I:∀ p ∈ body,p.no=false→fP σ p.atom ∈ list):∀ k,k≤body.length→∃ b ∈ vO list (body.take k),Qb b σ:=by
 intro k
 induction k with
 | zero=>intro _; exact ⟨[],by simp [vO],fun n v h=>by simp [eY] at h⟩
 | succ k ih=>
  intro U;obtain ⟨b,y,ha⟩:=ih (by omega);rw [sJ list body k (by omega)];unfold EJ
  split
  ·exact ⟨b,y,ha⟩
  ·rename_i hn
   have hin:=I body[k] (δ (by omega)) (by simpa using hn);obtain ⟨h1,J⟩:=mD ha (rfl:fP σ body[k].atom=_);refine ⟨_,List.mem_flatMap.2 ⟨b,y,?_⟩,J⟩;unfold jw;exact List.mem_filterMap.2 ⟨_,hin,by rw [if_pos h1]⟩
def Rn (r:Ru):Prop:=∀ x,(jI x r.head.args∨∃ p ∈ r.body,jI x p.atom.args)→∃ p ∈ r.body,p.no=false∧jI x p.atom.args
theorem EQ {r:Ru} (J:Rn r) {b:Bd} (U:∀ p ∈ r.body,p.no=false→vY b p.atom.args):vY b r.head.args∧∀ p ∈ r.body,vY b p.atom.args:=by
 have h:∀ x,(jI x r.head.args∨∃ p ∈ r.body,jI x p.atom.args)→(eY b x).isSome=true:=fun x hx=>by
  obtain ⟨p,I,hn,t,h1,y,rfl⟩:=J x hx;exact U p I hn t h1 y
 exact ⟨fun t h1 y=>h _ (.inl ⟨t,h1,y,rfl⟩),fun p I t h1 y=>h _ (.inr ⟨p,I,t,h1,y,rfl⟩)⟩
theorem Ro {list:List A} (hl:∀ x ∈ list,Gr x) {r:Ru} (ht:Rn r) (a:A):(∃ b ∈ allB list r.body,bU r.head b=a) ↔ WE list r a:=by
 constructor
 ·rintro ⟨b,J,rfl⟩
  unfold allB at J;obtain ⟨h1,h2⟩:=List.mem_filter.1 J;have y:=CQ hl r.body r.body.length ν;rw [ϕ ν] at y;have y:=y b h1;refine ⟨iO b,vZ _ _,fun p U=>?_⟩;cases I:p.no
  ·rw [← vZ]
   exact lq (y p U I).2
  ·unfold iD at h2
   have:=List.all_eq_true.1 h2 p U;rw [I] at this;rw [← vZ];simpa using this
 ·rintro ⟨σ,rfl,U⟩
  have a0:∀ p ∈ r.body,p.no=false→fP σ p.atom ∈ list:=fun p h I=>(qc hl (pY _ _)).1 (by rw [U p h,I]; rfl)
  have hw:=Mc (list:=list) (σ:=σ) r.body a0 r.body.length ν;have y:=CQ hl r.body r.body.length ν;rw [ϕ ν] at hw y;obtain ⟨b,J,ha⟩:=hw;obtain ⟨a1,a2⟩:=EQ ht fun p h I=>(y b J p h I).1
  refine ⟨b,?_,jH a1 ha⟩;unfold allB;refine List.mem_filter.2 ⟨J,?_⟩;unfold iD;refine List.all_eq_true.2 fun p h=>?_
  rw [jH (a2 p h) ha,U p h]
  cases p.no <;> rfl
def DV (out:List Nat):Array Value:=(out.map fun n:Nat=>Value.int .i64 (n:Int)).toArray
theorem CS {out:List Nat} {i:Nat} (h:i < out.length):(DV out)[i]? = some (.int .i64 (gX out i:Nat)):=by
 unfold DV gX;simp [Ψ h]
theorem Gu (out:List Nat) (i v:Nat):(DV out).setIfInBounds i (.int .i64 (v:Nat))=DV (out.set i v):=by
 unfold DV;simp [List.map_set]
theorem CU (n:Nat):madeCells #[Value.int .i64 0] n=DV (List.replicate n 0):=by
 unfold madeCells DV;refine Array.ext (by simp) fun i h1 y=>?_
 simp [Nat.mod_one]
def numOf:Option Value→Nat
 | some (.int _ z)=>z.toNat
 | _=>0
def CV (w:World) (g n:Nat):Nat:=((List.range n).map fun i=>numOf (w.cell? ⟨g,i,none⟩)).sum
theorem ER {w:World} {g:Nat} {out:List Nat} {t:TypeId} (h:w.heap[g]? = some (.cells (DV out) t (0,0))):CV w g out.length=out.sum:=by
 unfold CV
 have:((List.range out.length).map fun i=>numOf (w.cell? ⟨g,i,none⟩))=out:=by
  refine List.ext_getElem (by simp) fun i h1 y=>?_
  simp only [List.getElem_map,List.getElem_range];rw [ai h,CS y];unfold numOf gX;simp [Ψ y]
 rw [this]
def lN (rs:List Ru) (out:List Nat) (s:ByteArray):Nat:=gX out ((aK rs).idxOf s)
structure Md (rs:List Ru) (out:List Nat):Prop where
 len:out.length=(aK rs).length
 bel:∀ T,Ls rs T→∀ n ∈ bD rs,lN rs out n≤T n
 lo:∀ i,i < out.length→gX out i < out.length
theorem CW (n i:Nat):gX (List.replicate n 0) i=0:=by
 unfold gX; rw [List.getD_eq_getElem?_getD,List.getElem?_replicate]; split <;> rfl
theorem Md.zero (rs:List Ru):Md rs (List.replicate (aK rs).length 0):=
 ⟨by simp,fun T _ n _=>by unfold lN; rw [CW]; exact ε,fun i h=>by rw [CW]; omega⟩
theorem Md.F9 {rs:List Ru} {out:List Nat} (h:Md rs out):out.sum≤(aK rs).length * (aK rs).length:=by
 have:=EF (out:=out) (n:=out.length) fun i y=>Nat.le_of_lt (h.lo i y)
 rw [h.len] at this;exact this
theorem uI {rs:List Ru} {n:ByteArray} (h:n ∈ bD rs):(aK rs).idxOf n < (aK rs).length:=List.idxOf_lt_length_of_mem (iZ.2 h)
theorem Md.step {rs:List Ru} {out:List Nat} (h:Md rs out) {r:Ru} (hr:r ∈ rs) {p:Pt} (hp:p ∈ r.body) (hh:p.atom.name ∈ bD rs) {l:Nat} (hl:l=lN rs out p.atom.name+zU p)
  (I:lN rs out r.head.name < l) (hN:l < (aK rs).length):Md rs (out.set ((aK rs).idxOf r.head.name) l)∧out.sum < (out.set ((aK rs).idxOf r.head.name) l).sum:=by
 have hi:=uI (head_mem hr);have y:(aK rs).idxOf r.head.name < out.length:=by rw [h.len]; exact hi
 refine ⟨⟨by simp [h.len],fun T U n hn=>?_,fun i J=>?_⟩,?_⟩
 ·unfold lN
  rw [nR y]
  split
  ·rename_i e
   have e2:n=r.head.name:=by
    have h1:=List.getElem_idxOf hi;have h2:=List.getElem_idxOf (uI hn);rw [← h2,← h1]
    congr 1
    exact e.symm
   have h3:=U r hr p hp hh;have h4:=h.bel T U _ hh;rw [e2,hl]; omega
  ·exact h.bel T U n hn
 ·rw [List.length_set] at J ⊢
  rw [nR y]
  split
  ·rw [h.len]; exact hN
  ·exact h.lo i J
 ·refine QT (LC (Nat.le_of_lt I)) fun e=>?_
  have h5:=xK y e;unfold lN at I;omega
theorem Md.err {rs:List Ru} {out:List Nat} (h:Md rs out) {r:Ru} (hr:r ∈ rs) {p:Pt} (J:p ∈ r.body) (y:p.atom.name ∈ bD rs) {l:Nat} (hl:l=lN rs out p.atom.name+zU p)
  (hN:(aK rs).length≤l):kP rs=true:=by
 refine OA fun S U=>?_
 obtain ⟨T,I,hs⟩:=ED U;have h1:=I r hr p J y;have h2:=hs _ (head_mem hr);have h3:=h.bel T I _ y;omega
def OO (rs:List Ru) (out:List Nat) (r:Ru) (p:Pt):Prop:=p.atom.name ∈ bD rs→lN rs out p.atom.name+zU p≤lN rs out r.head.name
def uJ (rs:List Ru) (out:List Nat) (k:Nat):Prop:=∀ r ∈ rs.take k,∀ p ∈ r.body,OO rs out r p
theorem Md.done {rs:List Ru} {out:List Nat} (h:Md rs out) (y:uJ rs out rs.length):kP rs=false∧∀ i,i < rs.length→lN rs out (dA rs i).head.name=gX (ay rs) i:=by
 have h1:Ls rs (lN rs out):=fun r hr p I J=>y r (by rw [ϕ ν]; exact hr) p I J
 exact ⟨sH h1,QV h1 h.bel⟩
theorem uJ.zero (rs:List Ru) (out:List Nat):uJ rs out 0:=fun r hr=>by simp at hr
theorem uJ.snoc {rs:List Ru} {out:List Nat} {k:Nat} (h:k < rs.length) (h1:uJ rs out k) (y:∀ p ∈ rs[k].body,OO rs out rs[k] p):uJ rs out (k+1):=fun r hr=>by
 rw [ρ h] at hr
 rcases μ.1 hr with hr | hr
 ·exact h1 r hr
 ·rw [List.mem_singleton.1 hr]; exact y
def D5 (rs:List Ru) (out:List Nat) (r:Ru) (j:Nat):Prop:=∀ p ∈ r.body.take j,OO rs out r p
theorem D5.zero (rs:List Ru) (out:List Nat) (r:Ru):D5 rs out r 0:=fun p y=>by simp at y
theorem D5.snoc {rs:List Ru} {out:List Nat} {r:Ru} {j:Nat} (h:j < r.body.length) (h1:D5 rs out r j) (I:OO rs out r r.body[j]):D5 rs out r (j+1):=fun p y=>by
 rw [ρ h] at y
 rcases μ.1 y with y | y
 ·exact h1 p y
 ·rw [List.mem_singleton.1 y]; exact I
end D
end Go.Proofs.YtkjinanbccloeaaGreatDoor
