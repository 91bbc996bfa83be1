/- Of the proof of FnExactDelta: MatS, Qw, LevI. -/
import Derived.Lib.QuietBelow
import Derived.StillTailTactics
import Derived.Test.YtiidmgchadagbaaGreatDoorM10
set_option linter.unusedVariables false
set_option maxHeartbeats 4000000
set_option maxRecDepth 100000
namespace Go.Proofs.YtiidmgchadagbaaGreatDoor
open Go.RowKit Go.Sort D
attribute [local go_sem ↓] Go.wp_at_zero Go.wp_at_succ
theorem D.lZ {w:World} {cs:List Value} {b:Bd} {bs:List Nat} (h:jl w cs b bs):∃ A1 p1 A2 p2,cs = [.slice A1 b.length p1,.slice A2 b.length p2]:=by
 obtain ⟨x0,x1,b1,b2,rfl,rfl,h1,h2⟩:=h;obtain ⟨A1,p1,rfl,hp1,hm1⟩:=af h1;obtain ⟨A2,p2,rfl,hp2,hm2⟩:=af h2;rw [List.length_map,List.length_map];exact ⟨_,_,_,_,rfl⟩
def D.zX (t f:T) (b:Bd):Bd × Bool:=
 if t.var then
  match fV b t.name with
  | some v=>(b,decide (v=f.name))
  | none=>(b ++ [(t.name,f.name)],true)
 else (b,decide (t.name=f.name))
theorem D.Js (t f:T) (ts fs:List T) (b:Bd):cu (t :: ts) (f :: fs) b=if (zX t f b).2 then cu ts fs (zX t f b).1 else ((zX t f b).1,false):=by
 unfold zX;rw [cu]
 cases t.var with
 | true=>
  simp only [if_true]
  cases fV b t.name with
  | none=>simp
  | some v=>
   simp only [];by_cases h:v=f.name
   ·simp [h]
   ·simp [h]
 | false=>
  simp only [Bool.false_eq_true,if_false];by_cases h:t.name=f.name
  ·simp [h]
  ·simp [h]
theorem D.Jt {xs ys:List T} (hl:xs.length=ys.length) {b:Bd} {k:Nat} (h:k < xs.length):cu (xs.drop k) (ys.drop k) b=if (zX xs[k] (ys[k]'(hl ▸ h)) b).2 then cu (xs.drop (k+1)) (ys.drop (k+1)) (zX xs[k] (ys[k]'(hl ▸ h)) b).1 else ((zX xs[k] (ys[k]'(hl ▸ h)) b).1,false):=by
 rw [List.drop_eq_getElem_cons (l:=xs) (i:=k) h,List.drop_eq_getElem_cons (l:=ys) (i:=k) (hl ▸ h),Js]
structure D.MB (N:Nat) (x f:A) (Ad Ad':Option Addr) (cap cap':Nat) (u0 u1 v0 v1:Value) (w:World):Prop where
 x_:w.heap[N]? = some (.cells #[.string x.name,.slice Ad x.args.length cap] 68 (0,0))
 f_:w.heap[N+1]? = some (.cells #[.string f.name,.slice Ad' f.args.length cap'] 68 (0,0))
 b_:w.heap[N+2]? = some (.cells #[u0,u1] 141 (0,0))
 r_:w.heap[N+3]? = some (.cells #[v0,v1] 141 (0,0))
section
variable {N:Nat} {x f:A} {Ad Ad':Option Addr} {cap cap':Nat} {u0 u1 v0 v1:Value} {w w':World}
theorem D.MB.below (h:MB N x f Ad Ad' cap cap' u0 u1 v0 v1 w) (hb:Below w.heap.size w w'):MB N x f Ad Ad' cap cap' u0 u1 v0 v1 w':=
 ⟨by rw [hb.block _ (lt_of_block h.x_)]; exact h.x_,by rw [hb.block _ (lt_of_block h.f_)]; exact h.f_,by rw [hb.block _ (lt_of_block h.b_)]; exact h.b_,by rw [hb.block _ (lt_of_block h.r_)]; exact h.r_⟩
theorem D.MB.setB (h:MB N x f Ad Ad' cap cap' u0 u1 v0 v1 w) (y0 y1:Value):MB N x f Ad Ad' cap cap' y0 y1 v0 v1 ((w.setCell ⟨N+2,0,none⟩ y0).setCell ⟨N+2,1,none⟩ y1):=by
 have hk:∀ k,k ≠ N+2→((w.setCell ⟨N+2,0,none⟩ y0).setCell ⟨N+2,1,none⟩ y1).heap[k]? = w.heap[k]?:=fun k hk=>by rw [Below.heap_setCell _ _ _ _ hk,Below.heap_setCell _ _ _ _ hk]
 exact ⟨(hk _ (by omega)).trans h.x_,(hk _ (by omega)).trans h.f_,by simpa using bZ (o:=1) (u:=y1) (bZ (o:=0) (u:=y0) h.b_),(hk _ (by omega)).trans h.r_⟩
theorem D.MB.V9 (h:MB N x f Ad Ad' cap cap' u0 u1 v0 v1 w) (y0 y1:Value):MB N x f Ad Ad' cap cap' u0 u1 y0 y1 ((w.setCell ⟨N+3,0,none⟩ y0).setCell ⟨N+3,1,none⟩ y1):=by
 have hk:∀ k,k ≠ N+3→((w.setCell ⟨N+3,0,none⟩ y0).setCell ⟨N+3,1,none⟩ y1).heap[k]? = w.heap[k]?:=fun k hk=>by rw [Below.heap_setCell _ _ _ _ hk,Below.heap_setCell _ _ _ _ hk]
 exact ⟨(hk _ (by omega)).trans h.x_,(hk _ (by omega)).trans h.f_,(hk _ (by omega)).trans h.b_,by simpa using bZ (o:=1) (u:=y1) (bZ (o:=0) (u:=y0) h.r_)⟩
theorem D.MB.cells (h:MB N x f Ad Ad' cap cap' u0 u1 v0 v1 w):w.cell? ⟨N,0,none⟩=some (.string x.name)∧w.cell? ⟨N,1,none⟩=some (.slice Ad x.args.length cap)∧w.cell? ⟨N+1,0,none⟩=some (.string f.name)∧w.cell? ⟨N+1,1,none⟩=some (.slice Ad' f.args.length cap')∧w.cell? ⟨N+2,0,none⟩=some u0∧w.cell? ⟨N+2,1,none⟩=some u1∧w.cell? ⟨N+3,0,none⟩=some v0∧w.cell? ⟨N+3,1,none⟩=some v1:=
 ⟨by simp [World.cell?,h.x_],by simp [World.cell?,h.x_],by simp [World.cell?,h.f_],by simp [World.cell?,h.f_],by simp [World.cell?,h.b_],by simp [World.cell?,h.b_],by simp [World.cell?,h.r_],by simp [World.cell?,h.r_]⟩
theorem D.MB.free (h:MB N x f Ad Ad' cap cap' u0 u1 v0 v1 w):w.frozen? ⟨N+2,0,none⟩=false∧w.frozen? ⟨N+2,1,none⟩=false∧w.frozen? ⟨N+3,0,none⟩=false∧w.frozen? ⟨N+3,1,none⟩=false:=
 ⟨aB h.b_,aB h.b_,aB h.r_,aB h.r_⟩
end
theorem D.ql {w:World} {N:Nat} {c0 c1 y0 y1:Value} {b:Bd} {bs:List Nat} (h:jl w [c0,c1] b bs) (hn:N ∉ bs):jl ((w.setCell ⟨N,0,none⟩ y0).setCell ⟨N,1,none⟩ y1) [c0,c1] b bs:=
 dh.keep h fun c hc=>by
  have hne:c ≠ N:=fun e=>hn (e ▸ hc)
  rw [Below.heap_setCell _ _ _ _ hne,Below.heap_setCell _ _ _ _ hne]
theorem PL (x f:A) (b:Bd) (a0 a1 f0 f1 c0 c1:Value) (ba bf bs:List Nat) (w:World) (ha:aU w [a0,a1] x ba) (hf:aU w [f0,f1] f bf) (h:jl w [c0,c1] b bs) (hn:b.length≤1000000) (hx:x.args.length≤1000000):
  Calls Tryz.prog 125 #[.agg #[a0,a1],.agg #[f0,f1],.agg #[c0,c1]] w fun e w'=>Below w.heap.size w w'∧∃ d0 d1 bs',e=.returned (.tuple #[.agg #[d0,d1],.bool (aK x f b).2])∧jl w' [d0,d1] (aK x f b).1 bs'∧∀ c ∈ bs',c ∈ bs∨w.heap.size≤c:=by
 obtain ⟨s,hcs,hnm,ht⟩:=ha;simp only [List.cons.injEq,and_true] at hcs;obtain ⟨rfl,rfl⟩:=hcs;obtain ⟨Ad,cap,rfl,hl,hm⟩:=af ht;obtain ⟨s',hcs,hnm',ht'⟩:=hf;simp only [List.cons.injEq,and_true] at hcs;obtain ⟨rfl,rfl⟩:=hcs;obtain ⟨Ad',cap',rfl,hl',hm'⟩:=af ht';obtain ⟨A1,p1,A2,p2,hcs⟩:=lZ h;simp only [List.cons.injEq,and_true] at hcs;obtain ⟨rfl,rfl⟩:=hcs;clear hm hm'
 have hA:Below w.heap.size w ((((w.alloc (.cells #[.string x.name,.slice Ad x.args.length cap] 68)).alloc (.cells #[.string f.name,.slice Ad' f.args.length cap'] 68)).alloc (.cells #[.slice A1 b.length p1,.slice A2 b.length p2] 141)).alloc (.cells #[.slice none 0 0,.slice none 0 0] 141)):=
  ((((Below.refl _ _).alloc (Nat.le_refl _) _).alloc (by simp) _).alloc (by simp; omega) _).alloc (by simp; omega) _
 have hM0:MB w.heap.size x f Ad Ad' cap cap' (.slice A1 b.length p1) (.slice A2 b.length p2) (.slice none 0 0) (.slice none 0 0) ((((w.alloc (.cells #[.string x.name,.slice Ad x.args.length cap] 68)).alloc (.cells #[.string f.name,.slice Ad' f.args.length cap'] 68)).alloc (.cells #[.slice A1 b.length p1,.slice A2 b.length p2] 141)).alloc (.cells #[.slice none 0 0,.slice none 0 0] 141)):=by
  refine ⟨?_,?_,?_,?_⟩
  ·rw [Below.heap_alloc _ _ _ (by simp; omega),Below.heap_alloc _ _ _ (by simp; omega),Below.heap_alloc _ _ _ (by simp)]
   exact heap_alloc_new w _
  ·rw [Below.heap_alloc _ _ _ (by first | (simp; done) | (simp; omega)),Below.heap_alloc _ _ _ (by first | (simp; done) | (simp; omega))]
   simpa using heap_alloc_new (w.alloc (.cells #[.string x.name,.slice Ad x.args.length cap] 68)) (.cells #[.string f.name,.slice Ad' f.args.length cap'] 68)
  ·rw [Below.heap_alloc _ _ _ (by simp)]
   simpa using heap_alloc_new ((w.alloc (.cells #[.string x.name,.slice Ad x.args.length cap] 68)).alloc (.cells #[.string f.name,.slice Ad' f.args.length cap'] 68)) (.cells #[.slice A1 b.length p1,.slice A2 b.length p2] 141)
  ·simpa using heap_alloc_new (((w.alloc (.cells #[.string x.name,.slice Ad x.args.length cap] 68)).alloc (.cells #[.string f.name,.slice Ad' f.args.length cap'] 68)).alloc (.cells #[.slice A1 b.length p1,.slice A2 b.length p2] 141)) (.cells #[.slice none 0 0,.slice none 0 0] 141)
 have hlt:=dh.lt h;have HLT:=η hlt;have H:=η h;have HT:=η ht;have HT':=η ht';have HA:=η hA;have HM0:=η hM0;clear h ht ht' hA hlt hM0;by_cases hg:x.name=f.name∧x.args.length=f.args.length
 ·have hs:(x.name.toList == f.name.toList)=true:=by rw [toList_eq,decide_eq_true hg.1]
  have hle:(x.args.length:Int)=(f.args.length:Int):=by omega
  have HG:=η hg;have HM:Hid (aK x f b=cu x.args f.args b):=η (by unfold aK; rw [if_pos hg]);have HLE:=η hg.2;clear hg
  go_enter Tryz.func125,Tryz.ntmps125
  go_wp2_with fail
  generalize (((w.alloc (.cells #[.string x.name,.slice Ad x.args.length cap] 68)).alloc (.cells #[.string f.name,.slice Ad' f.args.length cap'] 68)).alloc (.cells #[.slice A1 b.length p1,.slice A2 b.length p2] 141)).alloc (.cells #[.slice none 0 0,.slice none 0 0] 141)=w0 at *
  go_loopw [8,9,10,11] (fun i _ _ _ wr=>∃ (k:Nat) (b':Bd) (B1 B2:Option Addr) (q1 q2:Nat) (bs':List Nat),k≤x.args.length∧i=.int .i64 k∧Hid (cu x.args f.args b=cu (x.args.drop k) (f.args.drop k) b')∧b'.length≤b.length+k∧Hid (jl wr [.slice B1 b'.length q1,.slice B2 b'.length q2] b' bs')∧Hid (∀ c ∈ bs',c ∈ bs∨w.heap.size+4≤c)∧Hid (MB w.heap.size x f Ad Ad' cap cap' (.slice B1 b'.length q1) (.slice B2 b'.length q2) (.slice none 0 0) (.slice none 0 0) wr)∧Hid (Below w.heap.size w wr)) (fun i _ _ _ _=>x.args.length - (intOf i).toNat)
  case atStart=>exact ⟨0,b,A1,A2,p1,p2,bs,Nat.zero_le _,rfl,η rfl,by omega,η (dh.below H.out HA.out),η fun c hc=>.inl hc,HM0,HA⟩
  case round=>
   obtain ⟨k,b',B1,B2,q1,q2,bs',hk,rfl,hm,hlb,hbd,hfar,hM,hB⟩:=hrel;clear HA HM0 H;obtain ⟨x0,x1,y0,y1,z0,z1,r0,r1⟩:=hM.out.cells;obtain ⟨u0,u1,u2,u3⟩:=hM.out.free;by_cases hlt:k < x.args.length
   ·obtain ⟨d,o,rfl,_,e0,e1,hnm1⟩:=dV (aH.below HT.out hB.out) hlt
    obtain ⟨d',o',rfl,_,e0',e1',hnm2⟩:=dV (aH.below HT'.out hB.out) (HLE.out ▸ hlt);have HD:=η (hm.out.trans (Jt HLE.out hlt));have hki:(k:Int) < (x.args.length:Int):=by omega
    have hki':(k:Int) < (f.args.length:Int):=by have:=HLE.out; omega
    have hk0:(0:Int)≤(k:Int):=by omega
    clear hm;generalize x.args[k]=t at *;generalize f.args[k]'(HLE.out ▸ hlt)=g at *;obtain ⟨tv,tn⟩:=t;obtain ⟨gv,gn⟩:=g;dsimp only at *
    cases tv with
    | false=>
     have HS:Hid (zX ⟨false,tn⟩ ⟨gv,gn⟩ b'=(b',decide (tn=gn))):=η rfl;cases hsn:(tn.toList == gn.toList)
     ·have hne:decide (tn=gn)=false:=by rw [← toList_eq]; exact hsn
      have HE:Hid (aK x f b=(b',false)):=η (by rw [HM.out,HD.out,HS.out,hne]; rfl);have BB:=hB;have BD:=hbd;have hs0:=hM.out.V9 (.slice B1 b'.length q1) (.slice B2 b'.length q2);obtain ⟨-,-,-,-,-,-,k0,k1⟩:=hs0.cells;clear HD HS hne hs0;go_wp2;exact bodyPost_ret (v:=.tuple #[.agg #[.slice B1 b'.length q1,.slice B2 b'.length q2],.bool false]) (by simp [results,Tryz.results125,go_sem,k0,k1]) rfl ⟨(BB.out.setCell (p:=⟨w.heap.size+3,0,none⟩) (by simp) _).setCell (p:=⟨w.heap.size+3,1,none⟩) (by simp) _,_,_,bs',by rw [HE.out],by rw [HE.out]; exact ql BD.out (fun hc=>by rcases hfar.out _ hc with h | h; exact absurd (HLT.out _ h) (by omega); omega),fun c hc=>(hfar.out c hc).imp id fun h=>by omega⟩
     ·have hne:decide (tn=gn)=true:=by rw [← toList_eq]; exact hsn
      have HE:Hid (cu x.args f.args b=cu (x.args.drop (k+1)) (f.args.drop (k+1)) b'):=η (by rw [HD.out,HS.out,hne]; rfl);clear HD HS hne;go_wp2;go_roundw
      case rel=>exact ⟨k+1,b',B1,B2,q1,q2,bs',hlt,by go_num,HE,by omega,hbd,hfar,hM,hB⟩
      case measure=>simp [intOf]; omega
    | true=>
     have q:=fun w' (hb:Below wr.heap.size wr w')=>get_any b' tn _ _ bs' w' (dh.below hbd.out hb)
     cases hgb:fV b' tn with
     | some v=>
      have HS:Hid (zX ⟨true,tn⟩ ⟨gv,gn⟩ b'=(b',decide (v=gn))):=η (by unfold zX; simp only [if_true]; rw [hgb]);have hvl:ji b' tn=v:=by unfold ji; rw [hgb]; rfl
      rw [hgb,hvl] at q;clear hgb hvl;cases hsn:(v.toList == gn.toList)
      ·have hne:decide (v=gn)=false:=by rw [← toList_eq]; exact hsn
       have HE:Hid (aK x f b=(b',false)):=η (by rw [HM.out,HD.out,HS.out,hne]; rfl);clear HD HS hne;have k0:=fun d os=>cell_regrown x1 d os
       have k1:=fun d os=>cell_regrown z0 d os
       have k2:=fun d os=>cell_regrown z1 d os
       have k3:=fun d os=>cell_regrown e1 d os
       have qq:=fun d os=>Calls.regrown_of (q _ (below_regrown wr d os))
       clear q
       go_wp2_with fail
       refine wp_region_quiet_below (by kernel_rfl) (by kernel_rfl) ?_
       repeat (quiet_step (exact qq _ _))
       refine wpQuiet_nil ?_;intro _ hw';obtain ⟨⟨dq,osq⟩,hw''⟩:=hw';subst hw'';have hb1':=below_regrown wr dq osq;generalize grow (redrawn wr dq) osq=w1 at *;clear k0 k1 k2 k3 qq;have BB:=η (hB.out.trans (hb1'.mono hB.out.size));have BD:=η (dh.below hbd.out hb1');have BM:=η (hM.out.below hb1');clear x0 x1 y0 y1 z0 z1 r0 r1 u0 u1 u2 u3;obtain ⟨x0,x1,y0,y1,z0,z1,r0,r1⟩:=BM.out.cells;obtain ⟨u0,u1,u2,u3⟩:=BM.out.free;have e0'':=cell_later hb1' e0';have e1'':=cell_later hb1' e1';clear hb1' e0 e1 e0' e1' hB hbd hM;have hs0:=BM.out.V9 (.slice B1 b'.length q1) (.slice B2 b'.length q2);obtain ⟨-,-,-,-,-,-,k0,k1⟩:=hs0.cells;clear hs0;go_wp2
       exact bodyPost_ret (v:=.tuple #[.agg #[.slice B1 b'.length q1,.slice B2 b'.length q2],.bool false]) (by simp [results,Tryz.results125,go_sem,k0,k1]) rfl ⟨(BB.out.setCell (p:=⟨w.heap.size+3,0,none⟩) (by simp) _).setCell (p:=⟨w.heap.size+3,1,none⟩) (by simp) _,_,_,bs',by rw [HE.out],by rw [HE.out]; exact ql BD.out (fun hc=>by rcases hfar.out _ hc with h | h; exact absurd (HLT.out _ h) (by omega); omega),fun c hc=>(hfar.out c hc).imp id fun h=>by omega⟩
      ·have hne:decide (v=gn)=true:=by rw [← toList_eq]; exact hsn
       have HE:Hid (cu x.args f.args b=cu (x.args.drop (k+1)) (f.args.drop (k+1)) b'):=η (by rw [HD.out,HS.out,hne]; rfl);clear HD HS hne;have k0:=fun d os=>cell_regrown x1 d os
       have k1:=fun d os=>cell_regrown z0 d os
       have k2:=fun d os=>cell_regrown z1 d os
       have k3:=fun d os=>cell_regrown e1 d os
       have qq:=fun d os=>Calls.regrown_of (q _ (below_regrown wr d os))
       clear q
       go_wp2_with fail
       refine wp_region_quiet_below (by kernel_rfl) (by kernel_rfl) ?_
       repeat (quiet_step (exact qq _ _))
       refine wpQuiet_nil ?_;intro _ hw';obtain ⟨⟨dq,osq⟩,hw''⟩:=hw';subst hw'';have hb1':=below_regrown wr dq osq;generalize grow (redrawn wr dq) osq=w1 at *;clear k0 k1 k2 k3 qq;have BB:=η (hB.out.trans (hb1'.mono hB.out.size));have BD:=η (dh.below hbd.out hb1');have BM:=η (hM.out.below hb1');clear x0 x1 y0 y1 z0 z1 r0 r1 u0 u1 u2 u3;obtain ⟨x0,x1,y0,y1,z0,z1,r0,r1⟩:=BM.out.cells;obtain ⟨u0,u1,u2,u3⟩:=BM.out.free;have e0'':=cell_later hb1' e0';have e1'':=cell_later hb1' e1';clear hb1' e0 e1 e0' e1' hB hbd hM;go_wp2;go_roundw
       case rel=>exact ⟨k+1,b',B1,B2,q1,q2,bs',hlt,by go_num,HE,by omega,BD,hfar,BM,BB⟩
       case measure=>simp [intOf]; omega
     | none=>
      have HS:Hid (zX ⟨true,tn⟩ ⟨gv,gn⟩ b'=(b' ++ [(tn,gn)],true)):=η (by unfold zX; simp only [if_true]; rw [hgb]);have hvl:ji b' tn=⟨#[]⟩:=by unfold ji; rw [hgb]; rfl
      have HE:Hid (cu x.args f.args b=cu (x.args.drop (k+1)) (f.args.drop (k+1)) (b' ++ [(tn,gn)])):=η (by rw [HD.out,HS.out]; rfl);rw [hgb,hvl] at q;clear hgb hvl HS HD;have k0:=fun d os=>cell_regrown x1 d os
      have k1:=fun d os=>cell_regrown z0 d os
      have k2:=fun d os=>cell_regrown z1 d os
      have k3:=fun d os=>cell_regrown e1 d os
      have qq:=fun d os=>Calls.regrown_of (q _ (below_regrown wr d os))
      clear q
      go_wp2_with fail
      refine wp_region_quiet_below (by kernel_rfl) (by kernel_rfl) ?_
      repeat (quiet_step (exact qq _ _))
      refine wpQuiet_nil ?_;intro _ hw';obtain ⟨⟨dq,osq⟩,hw''⟩:=hw';subst hw'';have hb1':=below_regrown wr dq osq;generalize grow (redrawn wr dq) osq=w1 at *;clear k0 k1 k2 k3 qq;have BB:=η (hB.out.trans (hb1'.mono hB.out.size));have BD:=η (dh.below hbd.out hb1');have BM:=η (hM.out.below hb1');clear x0 x1 y0 y1 z0 z1 r0 r1 u0 u1 u2 u3;obtain ⟨x0,x1,y0,y1,z0,z1,r0,r1⟩:=BM.out.cells;obtain ⟨u0,u1,u2,u3⟩:=BM.out.free;have e0'':=cell_later hb1' e0';have e1'':=cell_later hb1' e1';have e2'':=cell_later hb1' e0;have e3'':=cell_later hb1' e1;have q:=fun w' (hb:Below w1.heap.size w1 w')=>RZ b' tn gn _ _ bs' w' (dh.below BD.out hb) (by omega) hnm1 hnm2
      clear hb1' e0 e1 e0' e1' hB hbd hM
      go_wp2_with fail
      go_still_tail 13,(by kernel_rfl)
      change wpList _ _ _ _ _ w1.drew;have BMd:=BM.out.below (Below.drew (Below.refl w1.heap.size w1));have qd:=q w1.drew (Below.drew (Below.refl _ _));have BBd:=η BB.out.drew;clear q x0 x1 y0 y1 z0 z1 r0 r1 u0 u1 u2 u3 e0'' e1'' e2'' e3'' BM BD BB;generalize w1.drew=w1' at *
      go_wp2_with fail
      refine qd.mono ?_;rintro e w2 ⟨hb2,d0,d1,bs2,rfl,hbd2,hfar2⟩;obtain ⟨B3,q3,B4,q4,hcs⟩:=lZ hbd2;simp only [List.cons.injEq,and_true] at hcs;obtain ⟨rfl,rfl⟩:=hcs;have HBL:Hid ((b' ++ [(tn,gn)]).length=b'.length+1):=η (by simp);generalize b' ++ [(tn,gn)]=b2 at *;have BM2:=η (BMd.below hb2);obtain ⟨-,-,-,-,zz0,zz1,-,-⟩:=BM2.out.cells;obtain ⟨uu0,uu1,-,-⟩:=BM2.out.free;have BB2:=η (BBd.out.trans (hb2.mono BBd.out.size));have hN4:w.heap.size+4≤w1'.heap.size:=by have:=lt_of_block BMd.r_; omega
      have BM3:=η (BM2.out.setB (.slice B3 b2.length q3) (.slice B4 b2.length q4));have BD3:=η (ql (N:=w.heap.size+2) (y0:=.slice B3 b2.length q3) (y1:=.slice B4 b2.length q4) hbd2 fun hc=>by have:=hfar2 _ hc; omega);have BB3:=η ((BB2.out.setCell (p:=⟨w.heap.size+2,0,none⟩) (by simp) (.slice B3 b2.length q3)).setCell (p:=⟨w.heap.size+2,1,none⟩) (by simp) (.slice B4 b2.length q4));have HF3:Hid (∀ c ∈ bs2,c ∈ bs∨w.heap.size+4≤c):=η fun c hc=>.inr (Nat.le_trans hN4 (hfar2 c hc))
      have hlen3:b2.length≤b.length+(k+1):=by have:=HBL.out; omega
      clear hbd2 hfar2 hb2 BM2 BB2 qd BMd;go_wp2;go_roundw
      case rel=>exact ⟨k+1,b2,B3,B4,q3,q4,bs2,hlt,by go_num,HE,hlen3,BD3,HF3,BM3,BB3⟩
      case measure=>simp [intOf]; omega
   ·have he:k=x.args.length:=by omega
    have hki:¬ (k:Int) < (x.args.length:Int):=by omega
    have HE:Hid (aK x f b=(b',true)):=η (by rw [HM.out,hm.out,he,List.drop_eq_nil_of_le (Nat.le_refl _),List.drop_eq_nil_of_le (by have:=HLE.out; omega),cu]; intro t ts g gs h; cases h);clear hm he;go_wp2;have hs0:=hM.out.V9 (.slice B1 b'.length q1) (.slice B2 b'.length q2);obtain ⟨-,-,-,-,-,-,k0,k1⟩:=hs0.cells;refine bodyPost_ret (v:=.tuple #[.agg #[.slice B1 b'.length q1,.slice B2 b'.length q2],.bool true]) (by simp [results,Tryz.results125,go_sem,k0,k1]) rfl ?_;refine ⟨(hB.out.setCell (p:=⟨w.heap.size+3,0,none⟩) (by simp) (.slice B1 b'.length q1)).setCell (p:=⟨w.heap.size+3,1,none⟩) (by simp) (.slice B2 b'.length q2),.slice B1 b'.length q1,.slice B2 b'.length q2,by rw [HE.out],bs',?_,fun c hc=>(hfar.out c hc).imp id fun h=>by omega⟩;rw [HE.out];exact ql hbd.out (fun hc=>by rcases hfar.out _ hc with h | h; exact absurd (HLT.out _ h) (by omega); omega)
 ·have HM:Hid (aK x f b=(b,false)):=η (by unfold aK; rw [if_neg hg])
  obtain ⟨x0,x1,y0,y1,z0,z1,r0,r1⟩:=HM0.out.cells;obtain ⟨u0,u1,u2,u3⟩:=HM0.out.free;have HD:=η (dh.below H.out HA.out);cases hs:(x.name.toList == f.name.toList)
  case' true=>
   have hne:¬ x.args.length=f.args.length:=fun e=>hg ⟨by rw [toList_eq] at hs; exact of_decide_eq_true hs,e⟩
   have hle:¬ (x.args.length:Int)=(f.args.length:Int):=by omega
  all_goals
   go_enter Tryz.func125,Tryz.ntmps125
   go_wp2;refine bodyPost_ret (v:=.tuple #[.agg #[.slice A1 b.length p1,.slice A2 b.length p2],.bool false]) (by simp [results,Tryz.results125,go_sem]) rfl ⟨?_,.slice A1 b.length p1,.slice A2 b.length p2,bs,by rw [HM.out],?_,fun c hc=>.inl hc⟩
   ·exact ((((Below.refl _ _).alloc (Nat.le_refl _) _).alloc (by simp) _).alloc (by simp; omega) _).alloc (by simp; omega) _
   ·rw [HM.out]
    exact dh.below H.out (((((Below.refl _ _).alloc (Nat.le_refl _) _).alloc (by simp) _).alloc (by simp; omega) _).alloc (by simp; omega) _)
end Go.Proofs.YtiidmgchadagbaaGreatDoor
namespace Go.Proofs.YtiidmgchadagbaaGreatDoor.D
open Go.RowKit
abbrev Wo:=ByteArray→ByteArray
def xJ (σ:Wo) (t:T):T:=⟨false,if t.var then σ t.name else t.name⟩
def gY (σ:Wo) (a:A):A:=⟨a.name,a.args.map (xJ σ)⟩
def Xb (list:List A) (r:Ru) (a:A):Prop:=∃ σ:Wo,a=gY σ r.head∧∀ p ∈ r.body,hasB list (gY σ p.atom) = !p.no
def QM (b:Bd) (σ:Wo):Prop:=∀ n v,fV b n=some v→σ n=v
def xK (b:Bd) (ts:List T):Prop:=∀ t ∈ ts,t.var=true→(fV b t.name).isSome=true
def Le (b b':Bd):Prop:=∀ n v,fV b n=some v→fV b' n=some v
theorem Le.refl (b:Bd):Le b b:=fun _ _ h=>h
theorem Le.trans {a b c:Bd} (h:Le a b) (k:Le b c):Le a c:=fun n v e=>k n v (h n v e)
theorem Le.WN {b b':Bd} (h:Le b b') {ts:List T} (hc:xK b ts):xK b' ts:=fun t ht hv=>by
 obtain ⟨v,hv⟩:=Option.isSome_iff_exists.1 (hc t ht hv);rw [h _ _ hv]; rfl
theorem QM.of_le {b b':Bd} {σ:Wo} (h:QM b' σ) (hl:Le b b'):QM b σ:=fun n v e=>h n v (hl n v e)
theorem GN (b:Bd):QM b (ji b):=fun n v e=>by unfold ji; rw [e]; rfl
theorem mQ (b c:Bd) (n:ByteArray):fV (b ++ c) n=(fV b n).or (fV c n):=by
 induction b with
 | nil=>simp [fV]
 | cons p b ih=>
  simp only [List.cons_append,fV]
  split
  ·rfl
  ·exact ih
theorem Le.append (b c:Bd):Le b (b ++ c):=fun n v h=>by rw [mQ,h]; rfl
theorem SC {b:Bd} {σ:Wo} {ts:List T} (hc:xK b ts) (ha:QM b σ):ts.map (dH b)=ts.map (xJ σ):=by
 refine List.map_congr_left fun t ht=>?_
 unfold dH xJ;cases hv:t.var
 ·rfl
 ·obtain ⟨v,h⟩:=Option.isSome_iff_exists.1 (hc t ht hv)
  simp only [if_true,ji,h,Option.getD_some,ha _ _ h]
theorem jY {b:Bd} {σ:Wo} {a:A} (hc:xK b a.args) (ha:QM b σ):bY a b=gY σ a:=by
 unfold bY gY;rw [SC hc ha]
theorem SE {b b':Bd} {a:A} (hc:xK b a.args) (hl:Le b b'):bY a b'=bY a b:=
 (jY (hl.WN hc) (GN b')).trans (jY hc ((GN b').of_le hl)).symm
theorem nT:∀ (ts fs:List T) (b:Bd),Le b (cu ts fs b).1
 | [],fs,b=>by cases fs <;> exact Le.refl b
 | t :: ts,[],b=>Le.refl b
 | t :: ts,f :: fs,b=>by
  rw [cu]
  split
  ·split
   ·split
    ·exact nT ts fs b
    ·exact Le.refl b
   ·exact (Le.append _ _).trans (nT ts fs _)
  ·split
   ·exact nT ts fs b
   ·exact Le.refl b
theorem zL:∀ (ts fs:List T) (b:Bd),ts.length=fs.length→(∀ f ∈ fs,f.var=false)→(cu ts fs b).2=true→xK (cu ts fs b).1 ts∧ts.map (dH (cu ts fs b).1)=fs
 | [],[],b,_,_,_=>⟨fun t ht=>absurd ht (by simp),rfl⟩
 | [],f :: fs,b,h,_,_=>by simp at h
 | t :: ts,[],b,h,_,_=>by simp at h
 | ⟨tv,tn⟩ :: ts,⟨fv,fn⟩ :: fs,b,hl,hv,hm=>by
  have hf:fv=false:=hv _ (List.mem_cons_self ..);subst hf;have hv':∀ f ∈ fs,f.var=false:=fun f h=>hv f (List.mem_cons_of_mem _ h)
  have hl':ts.length=fs.length:=by simpa using hl
  have hstep:∀ b0:Bd,(cu ts fs b0).2=true→(tv=true→fV b0 tn=some fn)→(tv=false→tn=fn)→
    xK (cu ts fs b0).1 (⟨tv,tn⟩ :: ts)∧(⟨tv,tn⟩ :: ts).map (dH (cu ts fs b0).1)=⟨false,fn⟩ :: fs:=by
   intro b0 hm0 h1 h2;obtain ⟨i1,i2⟩:=zL ts fs b0 hl' hv' hm0;refine ⟨fun t ht htv=>?_,?_⟩
   ·rcases List.mem_cons.1 ht with rfl | ht
    ·rw [nT ts fs b0 _ _ (h1 htv)]; rfl
    ·exact i1 t ht htv
   ·rw [List.map_cons,i2]
    congr 1
    unfold dH;cases tv
    ·simp [h2 rfl]
    ·simp [ji,nT ts fs b0 _ _ (h1 rfl)]
  rw [cu] at hm ⊢;dsimp only at hm ⊢
  split at hm
  ·rename_i e1
   rw [if_pos e1]
   cases hg:fV b tn with
   | some v=>
    rw [hg] at hm;dsimp only at hm ⊢
    split at hm
    ·rename_i e2
     subst e2;rw [if_pos rfl];exact hstep b hm (fun _=>hg) fun e=>by rw [e] at e1; cases e1
    ·cases hm
   | none=>
    rw [hg] at hm;dsimp only at hm ⊢;exact hstep _ hm (fun _=>by rw [mQ,hg]; simp [fV]) fun e=>by rw [e] at e1; cases e1
  ·rename_i e1
   rw [if_neg e1]
   split at hm
   ·rename_i e2
    rw [if_pos e2];exact hstep b hm (fun e=>absurd e e1) fun _=>e2
   ·cases hm
theorem nN:∀ (ts fs:List T) (b:Bd) (σ:Wo),QM b σ→ts.map (xJ σ)=fs→(cu ts fs b).2=true∧QM (cu ts fs b).1 σ
 | [],fs,b,σ,ha,h=>by cases fs with
  | nil=>exact ⟨rfl,ha⟩
  | cons f fs=>simp at h
 | t :: ts,[],b,σ,ha,h=>by simp at h
 | ⟨tv,tn⟩ :: ts,f :: fs,b,σ,ha,h=>by
  simp only [List.map_cons,List.cons.injEq] at h;obtain ⟨rfl,h⟩:=h;rw [cu];cases tv
  ·simp only [xJ,Bool.false_eq_true,if_false]
   exact nN ts fs b σ ha h
  ·simp only [xJ,if_true]
   cases hg:fV b tn with
   | some v=>
    dsimp only;rw [if_pos (ha _ _ hg).symm];exact nN ts fs b σ ha h
   | none=>
    dsimp only;refine nN ts fs _ σ (fun n v e=>?_) h;rw [mQ] at e
    cases hn:fV b n with
    | some u=>rw [hn] at e; simp at e; rw [← e]; exact ha _ _ hn
    | none=>
     rw [hn] at e;simp only [Option.none_or,fV] at e
     split at e
     ·rename_i e2; subst e2; simpa using e
     ·cases e
theorem nU (a f:A) (b:Bd):Le b (aK a f b).1:=by
 unfold aK
 split
 ·exact nT _ _ _
 ·exact Le.refl b
theorem mV {a f:A} {b:Bd} (hf:∀ t ∈ f.args,t.var=false) (h:(aK a f b).2=true):xK (aK a f b).1 a.args∧bY a (aK a f b).1=f:=by
 unfold aK at h ⊢
 split at h
 ·rename_i e
  rw [if_pos e];obtain ⟨h1,h2⟩:=zL a.args f.args b e.2 hf h;refine ⟨h1,?_⟩;unfold bY;rw [h2];obtain ⟨n,ts⟩:=f;simp only at e;rw [e.1]
 ·cases h
theorem nO {a f:A} {b:Bd} {σ:Wo} (ha:QM b σ) (h:gY σ a=f):(aK a f b).2=true∧QM (aK a f b).1 σ:=by
 subst h;unfold aK;rw [if_pos ⟨rfl,by simp [gY]⟩];exact nN _ _ _ _ ha rfl
def Gr (a:A):Prop:=∀ t ∈ a.args,t.var=false
theorem qW (σ:Wo) (a:A):Gr (gY σ a):=fun t ht=>by
 obtain ⟨u,_,rfl⟩:=List.mem_map.1 ht;rfl
theorem VF {a b:A} (ha:Gr a) (hb:Gr b) (h:bQ a b=0):a=b:=by
 have:=(su a b).1 h;unfold rV at this;simp only [List.cons.injEq] at this;obtain ⟨n,ts⟩:=a;obtain ⟨m,us⟩:=b;dsimp only at *;obtain ⟨rfl,h2⟩:=this;have e:ts=us:=yI ha hb h2;rw [e]
theorem qX {xs:List A} (hx:∀ x ∈ xs,Gr x) {a:A} (ha:Gr a):hasB xs a=true ↔ a ∈ xs:=by
 refine ⟨fun h=>?_,mF⟩;obtain ⟨x,hm,hc⟩:=qc.1 h;rw [← VF (hx x hm) ha hc]; exact hm
theorem xO (a:A) (b:Bd):bY a b=gY (ji b) a:=rfl
theorem CG {list:List A} (hl:∀ x ∈ list,Gr x) (body:List Pt):∀ k,k≤body.length→∀ b ∈ xB list (body.take k),∀ p ∈ body.take k,p.no=false→xK b p.atom.args∧bY p.atom b ∈ list:=by
 intro k
 induction k with
 | zero=>intro _ b _ p hp; simp at hp
 | succ k ih=>
  intro hk b hb p hp hno;rw [uK list body k (by omega)] at hb;rw [List.take_succ_eq_append_getElem (by omega)] at hp;unfold EM at hb
  split at hb
  ·rename_i hn
   rcases List.mem_append.1 hp with hp | hp
   ·exact ih (by omega) b hb p hp hno
   ·rw [List.mem_singleton.1 hp] at hno; rw [hno] at hn; cases hn
  ·obtain ⟨b0,h0,hb0⟩:=List.mem_flatMap.1 hb
   unfold jP at hb0;obtain ⟨f,hf,e⟩:=List.mem_filterMap.1 hb0
   split at e
   ·rename_i hm
    cases e
    rcases List.mem_append.1 hp with hp | hp
    ·obtain ⟨h1,h2⟩:=ih (by omega) b0 h0 p hp hno
     refine ⟨(nU _ _ _).WN h1,?_⟩;rw [SE h1 (nU _ _ _)]; exact h2
    ·rw [List.mem_singleton.1 hp]
     obtain ⟨h1,h2⟩:=mV (hl f hf) hm;exact ⟨h1,by rw [h2]; exact hf⟩
   ·cases e
theorem Nb {list:List A} {σ:Wo} (body:List Pt) (hp:∀ p ∈ body,p.no=false→gY σ p.atom ∈ list):∀ k,k≤body.length→∃ b ∈ xB list (body.take k),QM b σ:=by
 intro k
 induction k with
 | zero=>intro _; exact ⟨[],by simp [xB],fun n v h=>by simp [fV] at h⟩
 | succ k ih=>
  intro hk;obtain ⟨b,hb,ha⟩:=ih (by omega);rw [uK list body k (by omega)];unfold EM
  split
  ·exact ⟨b,hb,ha⟩
  ·rename_i hn
   have hin:=hp body[k] (List.getElem_mem (by omega)) (by simpa using hn);obtain ⟨h1,h2⟩:=nO ha (rfl:gY σ body[k].atom=_);refine ⟨_,List.mem_flatMap.2 ⟨b,hb,?_⟩,h2⟩;unfold jP;exact List.mem_filterMap.2 ⟨_,hin,by rw [if_pos h1]⟩
def SG (r:Ru):Prop:=∀ x,(jZ x r.head.args∨∃ p ∈ r.body,jZ x p.atom.args)→∃ p ∈ r.body,p.no=false∧jZ x p.atom.args
theorem ES {r:Ru} (ht:SG r) {b:Bd} (hb:∀ p ∈ r.body,p.no=false→xK b p.atom.args):xK b r.head.args∧∀ p ∈ r.body,xK b p.atom.args:=by
 have h:∀ x,(jZ x r.head.args∨∃ p ∈ r.body,jZ x p.atom.args)→(fV b x).isSome=true:=fun x hx=>by
  obtain ⟨p,hp,hn,t,h1,h2,rfl⟩:=ht x hx;exact hb p hp hn t h1 h2
 exact ⟨fun t h1 h2=>h _ (.inl ⟨t,h1,h2,rfl⟩),fun p hp t h1 h2=>h _ (.inr ⟨p,hp,t,h1,h2,rfl⟩)⟩
theorem SH {list:List A} (hl:∀ x ∈ list,Gr x) {r:Ru} (ht:SG r) (a:A):(∃ b ∈ allB list r.body,bY r.head b=a) ↔ Xb list r a:=by
 constructor
 ·rintro ⟨b,hb,rfl⟩
  unfold allB at hb;obtain ⟨h1,h2⟩:=List.mem_filter.1 hb;have hs:=CG hl r.body r.body.length (Nat.le_refl _);rw [List.take_of_length_le (Nat.le_refl _)] at hs;have hs:=hs b h1;refine ⟨ji b,xO _ _,fun p hp=>?_⟩;cases hn:p.no
  ·rw [← xO]
   exact mF (hs p hp hn).2
  ·unfold iZ at h2
   have:=List.all_eq_true.1 h2 p hp;rw [hn] at this;rw [← xO];simpa using this
 ·rintro ⟨σ,rfl,hp⟩
  have hpos:∀ p ∈ r.body,p.no=false→gY σ p.atom ∈ list:=fun p h hn=>(qX hl (qW _ _)).1 (by rw [hp p h,hn]; rfl)
  have hw:=Nb (list:=list) (σ:=σ) r.body hpos r.body.length (Nat.le_refl _);have hs:=CG hl r.body r.body.length (Nat.le_refl _);rw [List.take_of_length_le (Nat.le_refl _)] at hw hs;obtain ⟨b,hb,ha⟩:=hw;obtain ⟨hc1,hc2⟩:=ES ht fun p h hn=>(hs b hb p h hn).1
  refine ⟨b,?_,jY hc1 ha⟩;unfold allB;refine List.mem_filter.2 ⟨hb,?_⟩;unfold iZ;refine List.all_eq_true.2 fun p h=>?_
  rw [jY (hc2 p h) ha,hp p h]
  cases p.no <;> rfl
def DR (out:List Nat):Array Value:=(out.map fun n:Nat=>Value.int .i64 (n:Int)).toArray
theorem CJ {out:List Nat} {i:Nat} (h:i < out.length):(DR out)[i]? = some (.int .i64 (iP out i:Nat)):=by
 unfold DR iP;simp [List.getElem?_eq_getElem h]
theorem GR (out:List Nat) (i v:Nat):(DR out).setIfInBounds i (.int .i64 (v:Nat))=DR (out.set i v):=by
 unfold DR;simp [List.map_set]
theorem CO (n:Nat):madeCells #[Value.int .i64 0] n=DR (List.replicate n 0):=by
 unfold madeCells DR;refine Array.ext (by simp) fun i h1 h2=>?_
 simp [Nat.mod_one]
def numOf:Option Value→Nat
 | some (.int _ z)=>z.toNat
 | _=>0
def CP (w:World) (g n:Nat):Nat:=((List.range n).map fun i=>numOf (w.cell? ⟨g,i,none⟩)).sum
theorem EU {w:World} {g:Nat} {out:List Nat} {t:TypeId} (h:w.heap[g]? = some (.cells (DR out) t (0,0))):CP w g out.length=out.sum:=by
 unfold CP
 have:((List.range out.length).map fun i=>numOf (w.cell? ⟨g,i,none⟩))=out:=by
  refine List.ext_getElem (by simp) fun i h1 h2=>?_
  simp only [List.getElem_map,List.getElem_range];rw [ak h,CJ h2];unfold numOf iP;simp [List.getElem?_eq_getElem h2]
 rw [this]
def mW (rs:List Ru) (out:List Nat) (s:ByteArray):Nat:=iP out ((aT rs).idxOf s)
structure Nc (rs:List Ru) (out:List Nat):Prop where
 len:out.length=(aT rs).length
 bel:∀ T,L6 rs T→∀ n ∈ bK rs,mW rs out n≤T n
 lo:∀ i,i < out.length→iP out i < out.length
theorem CQ (n i:Nat):iP (List.replicate n 0) i=0:=by
 unfold iP; rw [List.getD_eq_getElem?_getD,List.getElem?_replicate]; split <;> rfl
theorem Nc.zero (rs:List Ru):Nc rs (List.replicate (aT rs).length 0):=
 ⟨by simp,fun T _ n _=>by unfold mW; rw [CQ]; exact Nat.zero_le _,fun i h=>by rw [CQ]; omega⟩
theorem Nc.Gm {rs:List Ru} {out:List Nat} (h:Nc rs out):out.sum≤(aT rs).length * (aT rs).length:=by
 have:=EJ (out:=out) (n:=out.length) fun i hi=>Nat.le_of_lt (h.lo i hi)
 rw [h.len] at this;exact this
theorem wC {rs:List Ru} {n:ByteArray} (h:n ∈ bK rs):(aT rs).idxOf n < (aT rs).length:=List.idxOf_lt_length_of_mem (jr.2 h)
theorem Nc.step {rs:List Ru} {out:List Nat} (h:Nc rs out) {r:Ru} (hr:r ∈ rs) {p:Pt} (hp:p ∈ r.body) (hh:p.atom.name ∈ bK rs) {l:Nat} (hl:l=mW rs out p.atom.name+AO p)
  (hlt:mW rs out r.head.name < l) (hN:l < (aT rs).length):Nc rs (out.set ((aT rs).idxOf r.head.name) l)∧out.sum < (out.set ((aT rs).idxOf r.head.name) l).sum:=by
 have hi:=wC (head_mem hr);have hi':(aT rs).idxOf r.head.name < out.length:=by rw [h.len]; exact hi
 refine ⟨⟨by simp [h.len],fun T hT n hn=>?_,fun i hi2=>?_⟩,?_⟩
 ·unfold mW
  rw [o6 hi']
  split
  ·rename_i e
   have e2:n=r.head.name:=by
    have h1:=List.getElem_idxOf hi;have h2:=List.getElem_idxOf (wC hn);rw [← h2,← h1]
    congr 1
    exact e.symm
   have h3:=hT r hr p hp hh;have h4:=h.bel T hT _ hh;rw [e2,hl]; omega
  ·exact h.bel T hT n hn
 ·rw [List.length_set] at hi2 ⊢
  rw [o6 hi']
  split
  ·rw [h.len]; exact hN
  ·exact h.lo i hi2
 ·refine RP (Mc (Nat.le_of_lt hlt)) fun e=>?_
  have h5:=yO hi' e;unfold mW at hlt;omega
theorem Nc.err {rs:List Ru} {out:List Nat} (h:Nc rs out) {r:Ru} (hr:r ∈ rs) {p:Pt} (hp:p ∈ r.body) (hh:p.atom.name ∈ bK rs) {l:Nat} (hl:l=mW rs out p.atom.name+AO p)
  (hN:(aT rs).length≤l):lY rs=true:=by
 refine Pn fun S hS=>?_
 obtain ⟨T,hT,hs⟩:=EI hS;have h1:=hT r hr p hp hh;have h2:=hs _ (head_mem hr);have h3:=h.bel T hT _ hh;omega
def PN (rs:List Ru) (out:List Nat) (r:Ru) (p:Pt):Prop:=p.atom.name ∈ bK rs→mW rs out p.atom.name+AO p≤mW rs out r.head.name
def wE (rs:List Ru) (out:List Nat) (k:Nat):Prop:=∀ r ∈ rs.take k,∀ p ∈ r.body,PN rs out r p
theorem Nc.done {rs:List Ru} {out:List Nat} (h:Nc rs out) (hs:wE rs out rs.length):lY rs=false∧∀ i,i < rs.length→mW rs out (dQ rs i).head.name=iP (ax rs) i:=by
 have h1:L6 rs (mW rs out):=fun r hr p hp hh=>hs r (by rw [List.take_of_length_le (Nat.le_refl _)]; exact hr) p hp hh
 exact ⟨yP h1,RU h1 h.bel⟩
theorem wE.zero (rs:List Ru) (out:List Nat):wE rs out 0:=fun r hr=>by simp at hr
theorem wE.snoc {rs:List Ru} {out:List Nat} {k:Nat} (h:k < rs.length) (h1:wE rs out k) (h2:∀ p ∈ rs[k].body,PN rs out rs[k] p):wE rs out (k+1):=fun r hr=>by
 rw [List.take_succ_eq_append_getElem h] at hr
 rcases List.mem_append.1 hr with hr | hr
 ·exact h1 r hr
 ·rw [List.mem_singleton.1 hr]; exact h2
def DZ (rs:List Ru) (out:List Nat) (r:Ru) (j:Nat):Prop:=∀ p ∈ r.body.take j,PN rs out r p
theorem DZ.zero (rs:List Ru) (out:List Nat) (r:Ru):DZ rs out r 0:=fun p hp=>by simp at hp
theorem DZ.snoc {rs:List Ru} {out:List Nat} {r:Ru} {j:Nat} (h:j < r.body.length) (h1:DZ rs out r j) (h2:PN rs out r r.body[j]):DZ rs out r (j+1):=fun p hp=>by
 rw [List.take_succ_eq_append_getElem h] at hp
 rcases List.mem_append.1 hp with hp | hp
 ·exact h1 p hp
 ·rw [List.mem_singleton.1 hp]; exact h2
end Go.Proofs.YtiidmgchadagbaaGreatDoor.D
