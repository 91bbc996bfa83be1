/- Of the proof of FnDeltaBoth: EvI, EvC, EvL, DltP, DltL, DltI, DltS, LwDeltaBothL. -/
import Derived.Test.YtkjinanbccloeaaGreatDoorC35
set_option linter.unusedVariables false
set_option maxHeartbeats 8000000
set_option maxRecDepth 100000
namespace Go.Proofs.YtkjinanbccloeaaGreatDoor
section
open Go.RowKit D
attribute [local go_sem ↓] Go.wp_at_zero Go.wp_at_succ
theorem D.BA {rs:List Ru} {xs:List A} (h:fK rs xs=true) (I:(iO rs xs).2=true):qG (iO rs xs).1∧(∀ x ∈ (iO rs xs).1.1,bG x)∧(iO rs xs).1.1.length≤300∧∀ t,t ∈ (iO rs xs).1.1 ↔ PO rs (fun x=>x ∈ xs) t:=by
 have hK:=nG h
 rcases NT (VU ((qN rs).2 hK.fine)) hK.gB (fun f hf=>Bl (hK.facts f hf)) (by have:=hK.n; omega) with ⟨_,y,J,U,h6⟩ | ⟨y,_⟩
 ·exact ⟨J,U,y,h6⟩
 ·rw [I] at y; cases y
theorem D.zJ {rs:List Ru} {xs:List A} (h:fK rs xs=true) (y:(iO rs xs).2=true):bQ rs xs=((iO rs xs).1.1,true):=by unfold bQ; rw [if_pos h,if_pos y]
theorem D.zK {rs:List Ru} {xs:List A} (h:fK rs xs=true→(iO rs xs).2=false):bQ rs xs=([],false):=by
 unfold bQ;by_cases y:fK rs xs=true
 ·rw [if_pos y,h y]; rfl
 ·rw [if_neg y]
theorem BF (rs:List Ru) (xs:List A) (v1 v2:Value) (b1 b2:List Nat) (w:World) (h:fA w [v1] rs b1) (h2:ay w [v2] xs b2) (hg:qw w):
  Calls Tryz.prog 53 #[v1,v2] w fun e w'=>Below w.heap.size w w'∧∃ Av cp bs,e=.returned (.tuple #[.slice Av (bQ rs xs).1.length cp,.bool (bQ rs xs).2])∧ay w' [.slice Av (bQ rs xs).1.length cp] (bQ rs xs).1 bs:=by
 have c1:=JU rs xs v1 v2 b1 b2 w h h2 hg;obtain ⟨Ad,cap,rfl,a7,a8⟩:=aj h;obtain ⟨ac,cap2,rfl,_,_⟩:=aj h2;clear h h2 hg a7 a8
 go_enter Tryz.func53,Tryz.ntmps53
 go_wp2_with fail
 refine c1.mono ?_;rintro e w1 ⟨y,a2⟩;clear c1
 rcases a2 with ⟨hok,I,z,fr,fs,rn,hz,rfl,a4,U,a0,hlen⟩ | ⟨a5,rfl⟩
 ·obtain ⟨Af,cf,Lf,Ar,cr,Lr,ou,bf,S,_,_⟩:=a4
  have hC:=S.cF;have c2:=JR fs _ Lf bf (z+3) w1 hC (by omega);have x0:w1.cell? ⟨z+2,0,none⟩=some (.slice Af fs.length cf):=ai S.blk;have lx:=lt_of_cell x0
  have hE:Hid (∀ w2 ys L' bs',ys.Perm fs→ys.Pairwise (fun a b=>¬ dh b a < 0)→bK 2 aK (z+3) 33 w2 (.slice Af fs.length cf) L' ys bs'→iC (fun x=>(Value.slice Af fs.length cf).ownBlock=some x) w1 w2→
    w2.cell? ⟨z+2,0,none⟩=some (.slice Af fs.length cf)∧Below w.heap.size w w2∧(bQ rs xs).2=true∧(bQ rs xs).1.length=fs.length∧∃ b9,ay w2 [.slice Af fs.length cf] (bQ rs xs).1 b9):=η fun w2 ys L' bs' q1 q2 q3 J=>by
   have a6:∀ x,(Value.slice Af fs.length cf).ownBlock=some x→z+3≤x:=fun x hx=>by
    have h9:¬ x < z+3:=fun h=>aS hC.own h hx
    exact Nat.le_of_not_lt h9
   obtain ⟨r1,r2,r3,r4⟩:=BA hok I;have a3:=U.fst r1;have a1:∀ t ∈ ys,bG t:=fun t ht=>a0 t (q1.mem_iff.1 ht)
   have a9:ys.Nodup:=(q1.trans a3).nodup_iff.2 (jV r1.gB);have aa:ys=(iO rs xs).1.1:=VQ (PY a1 a9 q2) r1.gB a1 r2 fun t=>by rw [q1.mem_iff,a3.mem_iff]
   obtain ⟨b9,ab,_⟩:=q3.slice;rw [zJ hok I];refine ⟨(World.cell?_of_block (J.block (z+2) (lt_of_cell x0) (fun e=>by have:=a6 (z+2) e; omega))).trans x0,⟨J.os.trans y.os,J.tape.trans y.tape,J.output.trans y.output,τ y.size J.size,fun k hk=>(J.block k (κ hk y.size) fun e=>by have:=a6 k e; omega).trans (y.block k hk)⟩,rfl,a3.length_eq.symm,b9,?_⟩;rw [← aa];exact ab
  clear S hC U a0 y hok I
  go_wp2_with fail
  refine c2.mono ?_;rintro e w2 ⟨rfl,ys,L',bs',q1,q2,_,J,q5⟩;obtain ⟨y0,y1,y2,y3,b9,y4⟩:=hE.out w2 ys L' bs' q1 q2 J q5;have HB:=η y1;have H4:=η y4;have H2:=η y2;have H3:=η y3;clear hE c2 q1 q2 J q5 y1 y4 y2 y3 x0;go_wp2;go_ret2;rw [H2.out,H3.out];exact ⟨HB.out,Af,cf,b9,rfl,H4.out⟩
 ·have HE:=η (zK a5)
  clear a5;go_wp2;go_ret2;rw [HE.out];exact ⟨y,none,0,[],rfl,⟨none,0,rfl,ν,ε,fun _=>rfl,fun h=>absurd rfl h⟩⟩
theorem TD (rs:List Ru) (xs:List A) (v1 v2:Value) (b1 b2:List Nat) (w:World) (h:fA w [v1] rs b1) (h2:ay w [v2] xs b2) (hg:qw w):
  Calls Tryz.prog 13 #[v1,v2] w (Ul ay (bQ rs xs) w.heap.size w):=by
 have c1:=BF rs xs v1 v2 b1 b2 w h h2 hg;obtain ⟨Ad,cap,rfl,a1,a2⟩:=aj h;obtain ⟨a3,cap2,rfl,_,_⟩:=aj h2
 have HN:Hid ((bQ rs xs).1.length≤16777216∧∀ a ∈ (bQ rs xs).1,a.args.length≤16777216):=η (by
  by_cases hc:fK rs xs=true∧(iO rs xs).2=true
  ·obtain ⟨r1,r2,r3,r4⟩:=BA hc.1 hc.2
   rw [zJ hc.1 hc.2];exact ⟨by show (iO rs xs).1.1.length≤_; omega,fun a ha=>by have:=F7 (r2 a ha).ok; omega⟩
  ·rw [zK (fun h=>by
    cases hr:(iO rs xs).2
    ·rfl
    ·exact absurd ⟨h,hr⟩ hc)]
   exact ⟨ε,fun a ha=>by simp at ha⟩)
 clear h h2 hg a1 a2;generalize bQ rs xs=ev at *;obtain ⟨el,eb⟩:=ev;dsimp only at *
 go_enter Tryz.func13,Tryz.ntmps13
 go_wp2_with fail
 refine c1.mono ?_;rintro e w1 ⟨I,Av,cp,bs,rfl,J⟩;have c2:=nJ el _ bs w1 J HN.out.1 HN.out.2;have y:=η I;clear c1 J I
 go_wp2_with fail
 refine c2.mono ?_;rintro e w2 ⟨U,v9,b9,rfl,h9,a0⟩;obtain ⟨A9,c9,rfl,_,_⟩:=aj h9;have HZ:Hid (Ul ay (el,eb) w.heap.size w (.returned (.tuple #[.slice A9 el.length c9,.bool eb])) w2):=η ⟨y.out.trans (U.mono y.out.size),_,b9,rfl,h9,a0.mono y.out.size⟩;clear c2 U h9 a0;go_wp2;go_ret2;exact HZ.out
end
section
open Go.RowKit D
theorem D.Gh (rs:List Ru) (xs:List A):(fK rs xs=true∧(iO rs xs).2=true∧bQ rs xs=((iO rs xs).1.1,true))∨bQ rs xs=([],false):=by
 by_cases hc:fK rs xs=true∧(iO rs xs).2=true
 ·exact .inl ⟨hc.1,hc.2,zJ hc.1 hc.2⟩
 ·refine .inr (zK fun h=>?_)
  cases hr:(iO rs xs).2
  ·rfl
  ·exact absurd ⟨h,hr⟩ hc
theorem D.I4 {y l2:List A} (h:y.Nodup) (I:∀ x ∈ y,x ∈ l2):y.length≤l2.length:=by
 classical exact oP h I
theorem D.YB {xs:List A} (h1:xs.length≤300) (y:∀ x ∈ xs,bG x) (I:gB xs=true):aN xs=true:=by
 unfold aN;simp only [ο,decide_eq_true_eq,ό];exact ⟨⟨h1,fun x J=>vZ (y x J)⟩,I⟩
theorem D.TF {rs:List Ru} {xs:List A} (h0:fV rs=0) (h1:xs.length≤40) (y:∀ x ∈ xs,bG x) (I:gB xs=true) (J:sF (aJ rs) xs=true):fK rs xs=true:=by
 unfold fK okB;simp only [ο,decide_eq_true_eq,ό];exact ⟨⟨h0,⟨fun x U=>vZ (y x U),I⟩,h1⟩,J⟩
structure D.Wp (rs:List Ru) (xs:List A):Prop where
 prog:fV rs=0
 few:xs.length≤40
 fact:∀ x ∈ xs,bG x
 gB:gB xs=true
 fit:sF (aJ rs) xs=true
theorem D.wu {rs:List Ru} {xs:List A}:fK rs xs=true ↔ Wp rs xs:=by
 constructor
 ·intro h
  have hK:=nG h;exact ⟨(qN rs).2 hK.fine,hK.n,fun x y=>Bl (hK.facts x y),hK.gB,hK.fit⟩
 ·exact fun h=>TF h.prog h.few h.fact h.gB h.fit
theorem D.Wp.rules {rs:List Ru} {xs:List A} (h:Wp rs xs):x9 rs:=VU h.prog
theorem D.PZ {rs:List Ru} {xs:List A} (h:Wp rs xs):(∃ ys,bQ rs xs=(ys,true)∧gB ys=true∧(∀ y ∈ ys,bG y)∧ys.length≤300∧∀ t,t ∈ ys ↔ PO rs (fun x=>x ∈ xs) t) ∨
  (bQ rs xs=([],false)∧∃ L:List A,L.Nodup∧300 < L.length∧∀ t ∈ L,PO rs (fun x=>x ∈ xs) t):=by
 have hok:=wu.2 h
 rcases NT h.rules h.gB h.fact (by have:=h.few; omega) with ⟨I,J,U,h5,h6⟩ | ⟨I,hL⟩
 ·exact .inl ⟨_,zJ hok I,U.gB,h5,J,h6⟩
 ·exact .inr ⟨zK fun _=>I,hL⟩
theorem D.rD {rs:List Ru} {xs:List A} (h:(bQ rs xs).2=true):Wp rs xs∧gB (bQ rs xs).1=true∧(∀ y ∈ (bQ rs xs).1,bG y)∧(bQ rs xs).1.length≤300∧∀ t,t ∈ (bQ rs xs).1 ↔ PO rs (fun x=>x ∈ xs) t:=by
 rcases Gh rs xs with ⟨h1,h2,e⟩ | e
 ·have hin:=wu.1 h1
  rcases PZ hin with ⟨ys,I,J,U,h5,h6⟩ | ⟨I,_⟩
  ·rw [I]
   exact ⟨hin,J,U,h5,h6⟩
  ·rw [I] at h; cases h
 ·rw [e] at h; cases h
section
variable {rs:List Ru} {xs:List A}
end
def D.dO (rs:List Ru) (xs:List A) (c:Ch):Ch × Bool:=
 if (fK rs xs && bD c)=true then (if ((bQ rs xs).2 && (bQ rs (behind xs c)).2)=true then (qQ (bQ rs xs).1 (bQ rs (behind xs c)).1,true) else (⟨[],[]⟩,false)) else (⟨[],[]⟩,false)
theorem D.sZ {rs:List Ru} {xs:List A}:aN (bQ rs xs).1=true:=by
 rcases Gh rs xs with ⟨h1,y,e⟩ | e
 ·rw [e]
  obtain ⟨r1,I,J,_⟩:=BA h1 y
  exact wZ J (fun x U=>by
   have h:=I x U;unfold dM kT;rw [h.ok,Bool.true_and,Bool.not_eq_true',List.any_eq_false];intro t ht;rw [h.gr t ht]
   simp) r1.gB
 ·rw [e]; rfl
theorem D.jW {rs:List Ru} {xs:List A} (h:fK rs xs=true):aN xs=true:=by
 have hK:=nG h;exact wZ (by have:=hK.n; omega) hK.facts hK.gB
theorem D.CZ (xs:List A):behind xs ⟨[],[]⟩=xs:=by
 unfold behind gZ bP;simp only [List.foldl_nil];rw [List.filter_eq_self];intro x _;simp [hasB]
theorem D.GU:bD ⟨[],[]⟩=true:=by decide
theorem D.wB {rs:List Ru} {xs:List A} {c:Ch} (h:(dO rs xs c).2=true):fK rs xs=true∧bD c=true∧(bQ rs xs).2=true∧(bQ rs (behind xs c)).2=true∧(dO rs xs c).1=qQ (bQ rs xs).1 (bQ rs (behind xs c)).1:=by
 unfold dO at *
 split at h
 ·rename_i h1
  split at h
  ·rename_i h2
   rw [ο] at h1 h2;refine ⟨h1.1,h1.2,h2.1,h2.2,?_⟩;rw [if_pos (by rw [h1.1,h1.2]; rfl),if_pos (by rw [h2.1,h2.2]; rfl)]
  ·cases h
 ·cases h
theorem D.Wq {rs:List Ru} {xs:List A} {c:Ch} (h1:fK rs xs=true) (y:bD c=true) (I:(bQ rs xs).2=true) (J:(bQ rs (behind xs c)).2=true):dO rs xs c=(qQ (bQ rs xs).1 (bQ rs (behind xs c)).1,true):=by
 unfold dO;rw [h1,y,I,J]; rfl
theorem D.qc (rs:List Ru) (xs:List A):aN (bQ rs xs).1=true:=sZ
theorem D.YC {xs:List A} {c:Ch} (y:aN xs=true) (hc:bD c=true) (I:(behind xs c).length≤300):wO xs c=behind xs c:=by
 unfold wO;rw [y,hc,Bool.and_self,if_pos rfl,if_pos I]
theorem D.BG {rs:List Ru} {xs:List A} {c:Ch} (h:(dO rs xs c).2=true):wO xs c=behind xs c∧bD (dO rs xs c).1=true∧wO (bQ rs xs).1 (dO rs xs c).1=(bQ rs (behind xs c)).1∧dO rs xs ⟨[],[]⟩=(⟨[],[]⟩,true):=by
 obtain ⟨h1,U,y,I,J⟩:=wB h;have hx:=jW h1;have hb:=(wu.2 (rD I).1);have hl:(behind xs c).length≤40:=(rD I).1.few
 have e:qQ (bQ rs xs).1 (bQ rs (behind xs c)).1=⟨bP (bQ rs (behind xs c)).1 (bQ rs xs).1,bP (bQ rs xs).1 (bQ rs (behind xs c)).1⟩:=by
  unfold qQ; rw [qc,qc]; rfl
 refine ⟨YC hx U (by omega),?_,?_,?_⟩
 ·rw [J,e]; exact U9 (qc _ _) (qc _ _)
 ·rw [J,e]; exact Yl (qc _ _) (qc _ _)
 ·rw [Wq h1 GU y (by rw [CZ]; exact y),CZ]
  unfold qQ;rw [qc];simp [SG]
theorem D.P5 {rs:List Ru} {xs:List A} {c e:Ch} (h:(dO rs xs c).2=true) (U:(dO rs (wO xs c) e).2=true) (hc:bD (mr c e)=true) (h3:(dO rs xs (mr c e)).2=true):
  wO (bQ rs xs).1 (dO rs xs (mr c e)).1=wO (wO (bQ rs xs).1 (dO rs xs c).1) (dO rs (wO xs c) e).1:=by
 obtain ⟨a1,a2,a3,a4,a5⟩:=wB h;obtain ⟨b1,b2,b3,b4,b5⟩:=wB U;obtain ⟨l1,l2,l3,_⟩:=BG h;obtain ⟨m1,m2,m3,_⟩:=BG U;obtain ⟨n1,n2,n3,_⟩:=BG h3;rw [l1] at b1 b3 b4 b5 m1 m3 U ⊢;rw [l3,m3,n3];have hx:=jW a1;have hin:=(rD a3).1;have a6:=(rD a4).1.few;have a7:=(rD b4).1.few
 have hce:c.comes.length≤50:=by
  have:c.comes.length≤(behind xs c).length:=I4 (jV (bJ (aX a2).1)) fun t J=>by
   have I:=fC (aX a2).1 t J;have hb:=fC (jW b1);refine (G8 hb I).1 ?_;rw [og,jR J,Bool.or_true]
  omega
 have a0:e.comes.length≤50:=by
  have:e.comes.length≤(behind (behind xs c) e).length:=I4 (jV (bJ (aX b2).1)) fun t J=>by
   have I:=fC (aX b2).1 t J;have hb:=fC (jW (wu.2 (rD b4).1));refine (G8 hb I).1 ?_;rw [og,jR J,Bool.or_true]
  omega
 have y:=Po hx a2 b2 hc (by have:=hin.few; omega) hce a0;rw [n1,l1,m1] at y;rw [y]
end
section
open Go.RowKit D
attribute [local go_sem ↓] Go.wp_at_zero Go.wp_at_succ
theorem yc (rs:List Ru) (xs:List A) (c:Ch) (v1 v2 c0 c1:Value) (b1 b2 b3:List Nat) (w:World) (h:fA w [v1] rs b1) (h2:ay w [v2] xs b2) (h3:dY w [c0,c1] c b3) (hg:qw w):
  Calls Tryz.prog 29 #[v1,v2,.agg #[c0,c1]] w (JF (dO rs xs c) w.heap.size w):=by
 obtain ⟨Ad,cap,rfl,_,_⟩:=aj h;obtain ⟨aE,cap2,rfl,_,_⟩:=aj h2;obtain ⟨Aa,ca,Ag,cg,rfl,rfl⟩:=fU h3;have hA:Below w.heap.size w ((w.alloc (.cells #[.slice Aa c.comes.length ca,.slice Ag c.goes.length cg] 54)).alloc (.cells #[.slice none 0 0,.slice none 0 0] 54)):=(ζ).alloc (by simp) _;have k1:=fun w' (J:Below w.heap.size w w')=>vG rs xs _ _ b1 b2 w' (aU.below h J) (ak.below h2 J) (hg.below J)
 have k2:=fun w' (J:Below w.heap.size w w')=>lm c _ _ b3 w' (bH.below h3 J)
 have k3:=fun w' (J:Below w.heap.size w w')=>BF rs xs _ _ b1 b2 w' (aU.below h J) (ak.below h2 J) (hg.below J)
 have k4:=fun (hx:aN xs=true) (hc:bD c=true) w' (J:Below w.heap.size w w')=>CW xs c _ _ _ b2 b3 w' (ak.below h2 J) (bH.below h3 J) (by have:=eU hx; omega) (by have:=eU (aX hc).1; omega) (by have:=eU (aX hc).2; omega)
 have k5:=fun ys v' bs' w' (J:Below w.heap.size w w') (h':ay w' [v'] ys bs')=>BF rs ys _ _ b1 bs' w' (aU.below h J) h' (hg.below J)
 have HD:=η (show dO rs xs c=_ from rfl);have HX:=η fun (h0:fK rs xs=true)=>jW h0
 have y:Hid (((w.alloc (.cells #[.slice Aa c.comes.length ca,.slice Ag c.goes.length cg] 54)).alloc (.cells #[.slice none 0 0,.slice none 0 0] 54)).heap[w.heap.size+1]? = some (.cells #[.slice none 0 0,.slice none 0 0] 54 (0,0))):=η (kY w _ _).2;have x0:((w.alloc (.cells #[.slice Aa c.comes.length ca,.slice Ag c.goes.length cg] 54)).alloc (.cells #[.slice none 0 0,.slice none 0 0] 54)).cell? ⟨w.heap.size,0,none⟩=some (.slice Aa c.comes.length ca):=by go_simp
 have x1:((w.alloc (.cells #[.slice Aa c.comes.length ca,.slice Ag c.goes.length cg] 54)).alloc (.cells #[.slice none 0 0,.slice none 0 0] 54)).cell? ⟨w.heap.size,1,none⟩=some (.slice Ag c.goes.length cg):=by go_simp
 clear h h2 h3 hg HD
 go_enter Tryz.func29,Tryz.ntmps29
 go_wp2_with fail
 refine (k1 _ hA).mono ?_;rintro e w1 ⟨rfl,a4⟩;have B1:=hA.trans (a4.mono hA.size);replace y:=η (aZ a4 y.out);replace x0:=ξ a4 x0;replace x1:=ξ a4 x1;clear k1 hA a4
 cases hok:fK rs xs with
 | false=>
  have I:Hid (dO rs xs c=(⟨[],[]⟩,false)):=η (by unfold dO; rw [hok]; rfl);clear hok k2 k3 k4 k5 HX;have z0:w1.cell? ⟨w.heap.size+1,0,none⟩=some (.slice none 0 0):=aP y.out;have z1:w1.cell? ⟨w.heap.size+1,1,none⟩=some (.slice none 0 0):=aP y.out;have f0:w1.frozen? ⟨w.heap.size+1,0,none⟩=false:=aG y.out;have f1:w1.frozen? ⟨w.heap.size+1,1,none⟩=false:=aG y.out;have HF:=η (dX (c:=⟨[],[]⟩) y.out (bW _) (bW _));go_wp2;refine bodyPost_ret (v:=.tuple #[.agg #[.slice none 0 0,.slice none 0 0],.bool false]) (by simp [results,Tryz.results29,go_sem,z0,z1]) rfl ⟨(B1.setCell (by dsimp only; omega) _).setCell (by dsimp only; omega) _,_,[],by rw [I.out],by rw [I.out]; exact HF.out,New.nil _ _⟩
 | true=>
  have hx:=HX.out hok;have av:=η hx;have ac:=η hok;clear HX hok
  go_wp2_with fail
  refine (k2 _ B1).mono ?_;rintro e w2 ⟨rfl,a5⟩;have B2:=B1.trans (a5.mono B1.size);replace y:=η (aZ a5 y.out);replace x0:=ξ a5 x0;replace x1:=ξ a5 x1;clear k2 a5
  cases hc:bD c with
  | false=>
   have I:Hid (dO rs xs c=(⟨[],[]⟩,false)):=η (by unfold dO; rw [ac.out,hc]; rfl);clear hc hx k3 k4 k5;have z0:w2.cell? ⟨w.heap.size+1,0,none⟩=some (.slice none 0 0):=aP y.out;have z1:w2.cell? ⟨w.heap.size+1,1,none⟩=some (.slice none 0 0):=aP y.out;have f0:w2.frozen? ⟨w.heap.size+1,0,none⟩=false:=aG y.out;have f1:w2.frozen? ⟨w.heap.size+1,1,none⟩=false:=aG y.out;have HF:=η (dX (c:=⟨[],[]⟩) y.out (bW _) (bW _));go_wp2;refine bodyPost_ret (v:=.tuple #[.agg #[.slice none 0 0,.slice none 0 0],.bool false]) (by simp [results,Tryz.results29,go_sem,z0,z1]) rfl ⟨(B2.setCell (by dsimp only; omega) _).setCell (by dsimp only; omega) _,_,[],by rw [I.out],by rw [I.out]; exact HF.out,New.nil _ _⟩
  | true=>
   have HC:=η hc;have K4:=η (k4 hx hc);clear k4 hc hx;have K3:=η k3;have K5:=η k5;clear k3 k5;have HD:Hid (dO rs xs c=if ((bQ rs xs).2 && (bQ rs (behind xs c)).2)=true then (qQ (bQ rs xs).1 (bQ rs (behind xs c)).1,true) else (⟨[],[]⟩,false)):=η (by unfold dO; rw [ac.out,HC.out]; rfl)
   go_wp2_with fail
   refine (K4.out _ B2).mono ?_;rintro e w3 ⟨a1,v3,aL,U',hU,rfl,h3⟩;obtain ⟨A3,p3,rfl,_,_⟩:=aj h3;have B3:=B2.trans (a1.mono B2.size);replace y:=η (aZ a1 y.out);replace x0:=ξ a1 x0;replace x1:=ξ a1 x1;have aa:dI (fH xs c.goes) c.comes=behind xs c:=y8 av.out HC.out;rw [aa] at hU ⊢;by_cases a6:(behind xs c).length≤300
   case neg=>
    rw [decide_eq_false a6];clear K4 a1 h3;have ae:bQ rs (behind xs c)=([],false):=zK fun e=>absurd (nG e).n (by omega)
    have I:Hid (dO rs xs c=(⟨[],[]⟩,false)):=η (by rw [HD.out,ae]; simp);clear K3 K5 hU aa ae;have z0:w3.cell? ⟨w.heap.size+1,0,none⟩=some (.slice none 0 0):=aP y.out;have z1:w3.cell? ⟨w.heap.size+1,1,none⟩=some (.slice none 0 0):=aP y.out;have f0:w3.frozen? ⟨w.heap.size+1,0,none⟩=false:=aG y.out;have f1:w3.frozen? ⟨w.heap.size+1,1,none⟩=false:=aG y.out;have HF:=η (dX (c:=⟨[],[]⟩) y.out (bW _) (bW _));go_wp2;refine bodyPost_ret (v:=.tuple #[.agg #[.slice none 0 0,.slice none 0 0],.bool false]) (by simp [results,Tryz.results29,go_sem,z0,z1]) rfl ⟨(B3.setCell (by dsimp only; omega) _).setCell (by dsimp only; omega) _,_,[],by rw [I.out],by rw [I.out]; exact HF.out,New.nil _ _⟩
   rw [decide_eq_true a6];rw [if_pos a6] at hU;subst hU;have H3:=η h3;clear a1 h3 K4 aa
   go_wp2_with fail
   refine (K3.out _ B3).mono ?_;rintro e w4 ⟨a2,A4,p4,ba,rfl,af⟩;have B4:=B3.trans (a2.mono B3.size);replace y:=η (aZ a2 y.out);replace x0:=ξ a2 x0;replace x1:=ξ a2 x1;have a9:=η af;replace H3:=η (ak.below H3.out a2);clear a2 af K3
   cases he1:(bQ rs xs).2 with
   | false=>
    have I:Hid (dO rs xs c=(⟨[],[]⟩,false)):=η (by rw [HD.out,he1]; simp);clear he1 K5;have z0:w4.cell? ⟨w.heap.size+1,0,none⟩=some (.slice none 0 0):=aP y.out;have z1:w4.cell? ⟨w.heap.size+1,1,none⟩=some (.slice none 0 0):=aP y.out;have f0:w4.frozen? ⟨w.heap.size+1,0,none⟩=false:=aG y.out;have f1:w4.frozen? ⟨w.heap.size+1,1,none⟩=false:=aG y.out;have HF:=η (dX (c:=⟨[],[]⟩) y.out (bW _) (bW _));go_wp2;refine bodyPost_ret (v:=.tuple #[.agg #[.slice none 0 0,.slice none 0 0],.bool false]) (by simp [results,Tryz.results29,go_sem,z0,z1]) rfl ⟨(B4.setCell (by dsimp only; omega) _).setCell (by dsimp only; omega) _,_,[],by rw [I.out],by rw [I.out]; exact HF.out,New.nil _ _⟩
   | true=>
    have aw:=η he1;clear he1;have k5:=K5.out _ _ _ _ B4 H3.out;clear K5 H3
    go_wp2_with fail
    refine k5.mono ?_;rintro e w5 ⟨a3,A5,p5,bb,rfl,ag⟩;have B5:=B4.trans (a3.mono B4.size);replace y:=η (aZ a3 y.out);replace x0:=ξ a3 x0;replace x1:=ξ a3 x1;replace a9:=η (ak.below a9.out a3);have am:=η ag;clear a3 ag k5
    cases he2:(bQ rs (behind xs c)).2 with
    | false=>
     have I:Hid (dO rs xs c=(⟨[],[]⟩,false)):=η (by rw [HD.out,he2]; simp);clear he2;have z0:w5.cell? ⟨w.heap.size+1,0,none⟩=some (.slice none 0 0):=aP y.out;have z1:w5.cell? ⟨w.heap.size+1,1,none⟩=some (.slice none 0 0):=aP y.out;have f0:w5.frozen? ⟨w.heap.size+1,0,none⟩=false:=aG y.out;have f1:w5.frozen? ⟨w.heap.size+1,1,none⟩=false:=aG y.out;have HF:=η (dX (c:=⟨[],[]⟩) y.out (bW _) (bW _));go_wp2;refine bodyPost_ret (v:=.tuple #[.agg #[.slice none 0 0,.slice none 0 0],.bool false]) (by simp [results,Tryz.results29,go_sem,z0,z1]) rfl ⟨(B5.setCell (by dsimp only; omega) _).setCell (by dsimp only; omega) _,_,[],by rw [I.out],by rw [I.out]; exact HF.out,New.nil _ _⟩
    | true=>
     have I:Hid (dO rs xs c=(qQ (bQ rs xs).1 (bQ rs (behind xs c)).1,true)):=η (by rw [HD.out,aw.out,he2]; rfl);clear he2 HD;generalize dO rs xs c=G at *;have U:aN (bQ rs xs).1=true:=sZ;have a0:aN (bQ rs (behind xs c)).1=true:=sZ;have ao:(⟨fH (bQ rs (behind xs c)).1 (bQ rs xs).1,fH (bQ rs xs).1 (bQ rs (behind xs c)).1⟩:Ch)=qQ (bQ rs xs).1 (bQ rs (behind xs c)).1:=by unfold qQ; rw [U,a0,mZ (bJ U) (bJ a0),mZ (bJ a0) (bJ U)]; rfl
     have ab:Fa (qQ (bQ rs xs).1 (bQ rs (behind xs c)).1).comes∧Fa (qQ (bQ rs xs).1 (bQ rs (behind xs c)).1).goes:=by
      unfold qQ; rw [U,a0]; exact ⟨yV (iH a0) _,yV (iH U) _⟩
     have k6:=FZ _ _ _ _ ba bb w5 a9.out am.out (by have:=eU U; omega) (by have:=eU a0; omega);rw [ao] at k6;generalize qQ (bQ rs xs).1 (bQ rs (behind xs c)).1=C at *;clear a9 am U a0 ao
     go_wp2_with fail
     refine k6.mono ?_;rintro e w6 ⟨a7,aM,b6,rfl,h6⟩;obtain ⟨A6,p6,E6,q6,rfl⟩:=iE h6;have B6:=B5.trans (a7.mono B5.size);replace y:=η (aZ a7 y.out);replace x0:=ξ a7 x0;replace x1:=ξ a7 x1;have az:Hid (w.heap.size+1 < w6.heap.size):=η (ψ y.out);have k7:=uS C _ _ b6 w6 h6 ab.1 ab.2;clear a7 h6 k6 ab
     go_wp2_with fail
     refine k7.mono ?_;rintro e w7 ⟨a8,aR,b7,rfl,h7,n7⟩;obtain ⟨A7,p7,E7,q7,rfl⟩:=iE h7;have B7:=B6.trans (a8.mono B6.size);replace y:=η (aZ a8 y.out);replace x0:=ξ a8 x0;replace x1:=ξ a8 x1;have H7:=η h7;have N7:=η n7;clear a8 h7 n7 k7;have z0:w7.cell? ⟨w.heap.size+1,0,none⟩=some (.slice none 0 0):=aP y.out;have z1:w7.cell? ⟨w.heap.size+1,1,none⟩=some (.slice none 0 0):=aP y.out;have f0:w7.frozen? ⟨w.heap.size+1,0,none⟩=false:=aG y.out;have f1:w7.frozen? ⟨w.heap.size+1,1,none⟩=false:=aG y.out;obtain ⟨e1,e2,aD,aq,ar⟩:=fZ H7.out;have HF:=η (dX (c:=C) y.out aq ar);clear aq ar
     have HN:Hid (New w.heap.size ((w7.setCell ⟨w.heap.size+1,0,none⟩ (.slice A7 C.comes.length p7)).setCell ⟨w.heap.size+1,1,none⟩ (.slice E7 C.goes.length q7)) (e1 ++ e2)):=η (by
      rw [← aD];have h9:=B6.size;refine ⟨N7.out.nodup,fun b hb=>?_⟩;have h8:=N7.out.own b hb;have b4:w.heap.size+1 < w6.heap.size:=az.out;refine ⟨by omega,?_⟩;rw [π _ _ _ _ (by dsimp only; omega),π _ _ _ _ (by dsimp only; omega)]
      exact h8.2)
     go_wp2;refine bodyPost_ret (v:=.tuple #[.agg #[.slice A7 C.comes.length p7,.slice E7 C.goes.length q7],.bool true]) (by simp [results,Tryz.results29,go_sem,z0,z1]) rfl ⟨(B7.setCell (by dsimp only; omega) _).setCell (by dsimp only; omega) _,_,_,by rw [I.out],by rw [I.out]; exact HF.out,HN.out⟩
theorem P6 (rs:List Ru) (xs:List A) (c:Ch) (v1 v2 c0 c1:Value) (b1 b2 b3:List Nat) (w:World) (h:fA w [v1] rs b1) (h2:ay w [v2] xs b2) (h3:dY w [c0,c1] c b3):
  Calls Tryz.prog 30 #[v1,v2,.agg #[c0,c1]] w (Xj (dO rs xs c) w.heap.size w):=by
 obtain ⟨Ad,cap,rfl,_,_⟩:=aj h;obtain ⟨ae,cap2,rfl,_,_⟩:=aj h2;obtain ⟨Aa,ca,Ag,cg,rfl,rfl⟩:=fU h3;have hA:Below w.heap.size w ((w.alloc (.cells #[.slice Aa c.comes.length ca,.slice Ag c.goes.length cg] 54)).alloc (.cells #[.slice none 0 0,.slice none 0 0] 54)):=(ζ).alloc (by simp) _;have k1:=fun w' (J:Below w.heap.size w w')=>NI rs xs _ _ b1 b2 w' (aU.below h J) (ak.below h2 J)
 have k2:=fun w' (J:Below w.heap.size w w')=>Gy c _ _ b3 w' (bH.below h3 J)
 have k3:=fun w' (J:Below w.heap.size w w')=>eval_any rs xs _ _ b1 b2 w' (aU.below h J) (ak.below h2 J)
 have k4:=fun (hx:aN xs=true) (hc:bD c=true) w' (J:Below w.heap.size w w')=>Vx xs c _ _ _ b2 b3 w' (ak.below h2 J) (bH.below h3 J) (bJ hx) (bJ (aX hc).2) (iH hx) (iH (aX hc).1)
 have k5:=fun ys v' bs' w' (J:Below w.heap.size w w') (h':ay w' [v'] ys bs')=>eval_any rs ys _ _ b1 bs' w' (aU.below h J) h'
 have HD:=η (show dO rs xs c=_ from rfl);have HX:=η fun (h0:fK rs xs=true)=>jW h0
 have y:Hid (((w.alloc (.cells #[.slice Aa c.comes.length ca,.slice Ag c.goes.length cg] 54)).alloc (.cells #[.slice none 0 0,.slice none 0 0] 54)).heap[w.heap.size+1]? = some (.cells #[.slice none 0 0,.slice none 0 0] 54 (0,0))):=η (kY w _ _).2;have x0:((w.alloc (.cells #[.slice Aa c.comes.length ca,.slice Ag c.goes.length cg] 54)).alloc (.cells #[.slice none 0 0,.slice none 0 0] 54)).cell? ⟨w.heap.size,0,none⟩=some (.slice Aa c.comes.length ca):=by go_simp
 have x1:((w.alloc (.cells #[.slice Aa c.comes.length ca,.slice Ag c.goes.length cg] 54)).alloc (.cells #[.slice none 0 0,.slice none 0 0] 54)).cell? ⟨w.heap.size,1,none⟩=some (.slice Ag c.goes.length cg):=by go_simp
 clear h h2 h3 HD
 go_enter Tryz.func30,Tryz.ntmps30
 go_wp2_with fail
 refine (k1 _ hA).mono ?_;rintro e w1 ⟨rfl,a2⟩;have B1:=hA.trans (a2.mono hA.size);replace y:=η (aZ a2 y.out);replace x0:=ξ a2 x0;replace x1:=ξ a2 x1;clear k1 hA a2
 cases hok:fK rs xs with
 | false=>
  have I:Hid (dO rs xs c=(⟨[],[]⟩,false)):=η (by unfold dO; rw [hok]; rfl);clear hok k2 k3 k4 k5 HX;have z0:w1.cell? ⟨w.heap.size+1,0,none⟩=some (.slice none 0 0):=aP y.out;have z1:w1.cell? ⟨w.heap.size+1,1,none⟩=some (.slice none 0 0):=aP y.out;have f0:w1.frozen? ⟨w.heap.size+1,0,none⟩=false:=aG y.out;have f1:w1.frozen? ⟨w.heap.size+1,1,none⟩=false:=aG y.out;have HF:=η (dX (c:=⟨[],[]⟩) y.out (bW _) (bW _));go_wp2;refine bodyPost_ret (v:=.tuple #[.agg #[.slice none 0 0,.slice none 0 0],.bool false]) (by simp [results,Tryz.results30,go_sem,z0,z1]) rfl ⟨(B1.setCell (by dsimp only; omega) _).setCell (by dsimp only; omega) _,_,_,by rw [I.out],by rw [I.out]; exact HF.out⟩
 | true=>
  have hx:=HX.out hok;have af:=η hx;have a8:=η hok;clear HX hok
  go_wp2_with fail
  refine (k2 _ B1).mono ?_;rintro e w2 ⟨rfl,a3⟩;have B2:=B1.trans (a3.mono B1.size);replace y:=η (aZ a3 y.out);replace x0:=ξ a3 x0;replace x1:=ξ a3 x1;clear k2 a3
  cases hc:bD c with
  | false=>
   have I:Hid (dO rs xs c=(⟨[],[]⟩,false)):=η (by unfold dO; rw [a8.out,hc]; rfl);clear hc hx k3 k4 k5;have z0:w2.cell? ⟨w.heap.size+1,0,none⟩=some (.slice none 0 0):=aP y.out;have z1:w2.cell? ⟨w.heap.size+1,1,none⟩=some (.slice none 0 0):=aP y.out;have f0:w2.frozen? ⟨w.heap.size+1,0,none⟩=false:=aG y.out;have f1:w2.frozen? ⟨w.heap.size+1,1,none⟩=false:=aG y.out;have HF:=η (dX (c:=⟨[],[]⟩) y.out (bW _) (bW _));go_wp2;refine bodyPost_ret (v:=.tuple #[.agg #[.slice none 0 0,.slice none 0 0],.bool false]) (by simp [results,Tryz.results30,go_sem,z0,z1]) rfl ⟨(B2.setCell (by dsimp only; omega) _).setCell (by dsimp only; omega) _,_,_,by rw [I.out],by rw [I.out]; exact HF.out⟩
  | true=>
   have HC:=η hc;have K4:=η (k4 hx hc);clear k4 hc hx;have K3:=η k3;have K5:=η k5;clear k3 k5;have HD:Hid (dO rs xs c=if ((bQ rs xs).2 && (bQ rs (behind xs c)).2)=true then (qQ (bQ rs xs).1 (bQ rs (behind xs c)).1,true) else (⟨[],[]⟩,false)):=η (by unfold dO; rw [a8.out,HC.out]; rfl)
   go_wp2_with fail
   refine (K3.out _ B2).mono ?_;rintro e w3 ⟨a4,va,ba,rfl,a6⟩;obtain ⟨A3,p3,rfl,_,_⟩:=aj a6;have B3:=B2.trans (a4.mono B2.size);replace y:=η (aZ a4 y.out);replace x0:=ξ a4 x0;replace x1:=ξ a4 x1;have U:=η a6;clear a4 a6 K3
   go_wp2_with fail
   refine (K4.out _ B3).mono ?_;rintro e w4 ⟨a0,v4,b4,rfl,h4⟩;obtain ⟨A4,p4,rfl,_,_⟩:=aj h4;have B4:=B3.trans (a0.mono B3.size);replace y:=η (aZ a0 y.out);replace x0:=ξ a0 x0;replace x1:=ξ a0 x1;replace U:=η (ak.below U.out a0);have k5:=K5.out _ _ _ _ B4 h4;clear a0 h4 K4 K5
   go_wp2_with fail
   refine k5.mono ?_;rintro e w5 ⟨a1,vb,bb,rfl,a7⟩;obtain ⟨A5,p5,rfl,_,_⟩:=aj a7;have B5:=B4.trans (a1.mono B4.size);replace y:=η (aZ a1 y.out);replace x0:=ξ a1 x0;replace x1:=ξ a1 x1;replace U:=η (ak.below U.out a1);have a9:=η a7;clear a1 a7 k5
   cases he1:(bQ rs xs).2 with
   | false=>
    have I:Hid (dO rs xs c=(⟨[],[]⟩,false)):=η (by rw [HD.out,he1]; simp);clear he1;have z0:w5.cell? ⟨w.heap.size+1,0,none⟩=some (.slice none 0 0):=aP y.out;have z1:w5.cell? ⟨w.heap.size+1,1,none⟩=some (.slice none 0 0):=aP y.out;have f0:w5.frozen? ⟨w.heap.size+1,0,none⟩=false:=aG y.out;have f1:w5.frozen? ⟨w.heap.size+1,1,none⟩=false:=aG y.out;have HF:=η (dX (c:=⟨[],[]⟩) y.out (bW _) (bW _));go_wp2;refine bodyPost_ret (v:=.tuple #[.agg #[.slice none 0 0,.slice none 0 0],.bool false]) (by simp [results,Tryz.results30,go_sem,z0,z1]) rfl ⟨(B5.setCell (by dsimp only; omega) _).setCell (by dsimp only; omega) _,_,_,by rw [I.out],by rw [I.out]; exact HF.out⟩
   | true=>
    have ac:=η he1;clear he1
    cases he2:(bQ rs (behind xs c)).2 with
    | false=>
     have I:Hid (dO rs xs c=(⟨[],[]⟩,false)):=η (by rw [HD.out,he2]; simp);clear he2;have z0:w5.cell? ⟨w.heap.size+1,0,none⟩=some (.slice none 0 0):=aP y.out;have z1:w5.cell? ⟨w.heap.size+1,1,none⟩=some (.slice none 0 0):=aP y.out;have f0:w5.frozen? ⟨w.heap.size+1,0,none⟩=false:=aG y.out;have f1:w5.frozen? ⟨w.heap.size+1,1,none⟩=false:=aG y.out;have HF:=η (dX (c:=⟨[],[]⟩) y.out (bW _) (bW _));go_wp2;refine bodyPost_ret (v:=.tuple #[.agg #[.slice none 0 0,.slice none 0 0],.bool false]) (by simp [results,Tryz.results30,go_sem,z0,z1]) rfl ⟨(B5.setCell (by dsimp only; omega) _).setCell (by dsimp only; omega) _,_,_,by rw [I.out],by rw [I.out]; exact HF.out⟩
    | true=>
     have I:Hid (dO rs xs c=(qQ (bQ rs xs).1 (bQ rs (behind xs c)).1,true)):=η (by rw [HD.out,ac.out,he2]; rfl);clear he2 HD;generalize dO rs xs c=G at *;have k6:=Gz _ _ _ _ ba bb w5 U.out a9.out;generalize qQ (bQ rs xs).1 (bQ rs (behind xs c)).1=C at *;clear U a9
     go_wp2_with fail
     refine k6.mono ?_;rintro e w7 ⟨a5,ag,b7,rfl,h7⟩;obtain ⟨A7,p7,E7,q7,rfl⟩:=iE h7;have B7:=B5.trans (a5.mono B5.size);replace y:=η (aZ a5 y.out);replace x0:=ξ a5 x0;replace x1:=ξ a5 x1;have H7:=η h7;clear a5 h7 k6;have z0:w7.cell? ⟨w.heap.size+1,0,none⟩=some (.slice none 0 0):=aP y.out;have z1:w7.cell? ⟨w.heap.size+1,1,none⟩=some (.slice none 0 0):=aP y.out;have f0:w7.frozen? ⟨w.heap.size+1,0,none⟩=false:=aG y.out;have f1:w7.frozen? ⟨w.heap.size+1,1,none⟩=false:=aG y.out;obtain ⟨e1,e2,am,aa,ab⟩:=fZ H7.out;have HF:=η (dX (c:=C) y.out aa ab);clear aa ab;go_wp2;refine bodyPost_ret (v:=.tuple #[.agg #[.slice A7 C.comes.length p7,.slice E7 C.goes.length q7],.bool true]) (by simp [results,Tryz.results30,go_sem,z0,z1]) rfl ⟨(B7.setCell (by dsimp only; omega) _).setCell (by dsimp only; omega) _,_,_,by rw [I.out],by rw [I.out]; exact HF.out⟩
def D.Ws (B:Nat) (U:World) (y:Nat) (C:Ch) (A I:Option Addr) (c J:Nat) (g:List Nat) (w:World):Prop:=Below B U w∧dY w [.slice A C.comes.length c,.slice I C.goes.length J] C g∧w.cell? ⟨y,0,none⟩=some (.slice A C.comes.length c)∧w.cell? ⟨y,1,none⟩=some (.slice I C.goes.length J)
theorem D.TG {w U:World} {B t:Nat} {ty:TypeId} {C:Ch} {A y:Option Addr} {c I:Nat} {g:List Nat} (J:w.heap[t]? = some (.cells #[.slice none 0 0,.slice none 0 0] ty (0,0))) (hB:Below B U w) (ht:B≤t) (h:dY w [.slice A C.comes.length c,.slice y C.goes.length I] C g):
  Ws B U t C A y c I g ((w.setCell ⟨t,0,none⟩ (.slice A C.comes.length c)).setCell ⟨t,1,none⟩ (.slice y C.goes.length I)):=by
 obtain ⟨b1,b2,rfl,h1,h2⟩:=fZ h;have s1:=dB (iw J) h1;have s2:=dB (iw J) h2;have hP:=rG (u:=.slice y C.goes.length I) (pG (u:=.slice A C.comes.length c) J);exact ⟨(hB.setCell (p:=⟨t,0,none⟩) (by dsimp only; omega) _).setCell (p:=⟨t,1,none⟩) (by dsimp only; omega) _,⟨_,_,b1,b2,rfl,rfl,eu (eu h1 s1) s1,eu (eu h2 s2) s2⟩,ai hP,ai hP⟩
theorem D.Wu {w J:World} {B:Nat} {ty:TypeId} {C:Ch} {A y:Option Addr} {c I:Nat} {g:List Nat} (hB:Below B J w) (h:dY w [.slice A C.comes.length c,.slice y C.goes.length I] C g) (hs:B≤J.heap.size:=by exact ν):
  Ws B J w.heap.size C A y c I g (w.alloc (.cells #[.slice A C.comes.length c,.slice y C.goes.length I] ty)):=by
 have U:Below w.heap.size w (w.alloc (.cells #[.slice A C.comes.length c,.slice y C.goes.length I] ty)):=ζ;have hP:=ω w (.cells #[.slice A C.comes.length c,.slice y C.goes.length I] ty);exact ⟨hB.trans (U.mono (τ hs hB.size)),bH.below h U,ai hP,ai hP⟩
theorem D.XJ {a b G:Ch} (h:FM a b=(G,true)):bD (mr a b)=true∧G=mr a b:=by
 unfold FM at h
 split at h
 ·split at h
  ·rename_i h2
   simp only [Prod.mk.injEq,and_true] at h;exact ⟨h2,h.symm⟩
  ·simp at h
 ·simp at h
theorem D.TI {rs:List Ru} {xs:List A} {c u D Fd I G:Ch} (h:dO rs xs c=(D,true)) (J:dO rs (wO xs c) u=(Fd,true)) (hb:FM c u=(I,true)) (U:dO rs xs I=(G,true)):
  ∃ y,bQ rs xs=(y,true)∧wO y G=wO (wO y D) Fd:=by
 obtain ⟨k1,rfl⟩:=XJ hb;have:=P5 (rs:=rs) (xs:=xs) (c:=c) (e:=u) (by rw [h]) (by rw [J]) k1 (by rw [U]);rw [h,J,U] at this;exact ⟨_,Prod.ext rfl (wB (rs:=rs) (xs:=xs) (c:=c) (by rw [h])).2.2.1,this⟩
theorem zL (cs:List UInt8) (v1:Value) (cY:List Nat) (bc:List UInt8) (v2:Value) (d0:List Nat) (w:World) (h1:tX w [v1] cs cY) (h2:tX w [v2] bc d0) (hg:qw w):
  Calls Tryz.prog 9 #[v1,v2] w fun e w'=>e=.returned (.bool true)∧Below w.heap.size w w':=by
 obtain ⟨Ad,cap,rfl,hl,hm⟩:=aj h1;have ew:=aB (τ hl hm);obtain ⟨ey,cap2,rfl,d1,d2⟩:=aj h2;have em:=aB (τ d1 d2);have H2:=η h2;clear d1 d2 h2;have HG:=η hg;clear hl hm hg;by_cases hn:cs.length≤1048576
 ·have e6:¬ (1048576:Int) < (cs.length:Int):=by omega
  by_cases hq:bc.length≤1048576
  ·have e7:¬ (1048576:Int) < (bc.length:Int):=by omega
   have hd:=wR _ cs cY w h1 hn;clear h1 hn
   go_enter Tryz.func9,Tryz.ntmps9
   go_wp2_with fail
   refine hd.mono ?_;rintro e w1 ⟨rs,A0,c0,b0,xs,A1,c1,b1,c,A2,A3,c2,c3,b2,b3,rfl,d3,d4,hC,hG,d5,d6,d7,cj⟩;have d8:dY w1 [.slice A2 c.comes.length c2,.slice A3 c.goes.length c3] c (b2 ++ b3):=⟨_,_,b2,b3,rfl,rfl,hC,hG⟩;obtain ⟨D,z,hE⟩:∃ D z,dO rs xs c=(D,z):=⟨_,_,rfl⟩;have HE:=η hE;have ae:Below w1.heap.size w1 (w1.alloc (.cells #[.slice A2 c.comes.length c2,.slice A3 c.goes.length c3] 54)):=ζ;have bf:Hid (∀ w',Below (w1.alloc (.cells #[.slice A2 c.comes.length c2,.slice A3 c.goes.length c3] 54)).heap.size (w1.alloc (.cells #[.slice A2 c.comes.length c2,.slice A3 c.goes.length c3] 54)) w'→w'.cell? ⟨w1.heap.size,0,none⟩=some (.slice A2 c.comes.length c2)∧w'.cell? ⟨w1.heap.size,1,none⟩=some (.slice A3 c.goes.length c3)):=η fun w' hb=>⟨ξ hb (ai (ω w1 _)),ξ hb (ai (ω w1 _))⟩
   have U:=η (cj.trans (ae.mono cj.size));have I:=η (ι (aU.below d3 ae) (ι (ak.below d4 ae) (bH.below d8 ae)));have ez:=η (ι d5 (ι d6 d7));have bz:=yc rs xs c _ _ _ _ b0 b1 _ _ I.out.1 I.out.2.1 I.out.2.2 (HG.out.below U.out);rw [hE] at bz;obtain ⟨y,J⟩:=bf.out _ ϑ;clear hd d3 d4 cj hE d5 d6 d7 hC hG d8 ae
   go_wp2_with fail
   obtain ⟨W1,ck⟩:∃ W1,W1=(w1.alloc (.cells #[.slice A2 c.comes.length c2,.slice A3 c.goes.length c3] 54)):=⟨_,rfl⟩;rw [← ck] at bz U I bf y J
   first | rw [← ck] | skip
   clear ck;refine bz.mono ?_;rintro e w2 ⟨cl,bc,g2,rfl,bA,-⟩;obtain ⟨A5,c5,A6,c6,rfl⟩:=iE bA;dsimp only at bA;clear y J;have bi:Below w2.heap.size w2 (w2.alloc (.cells #[.slice A5 D.comes.length c5,.slice A6 D.goes.length c6] 54)):=ζ;have bj:Hid (∀ w',Below (w2.alloc (.cells #[.slice A5 D.comes.length c5,.slice A6 D.goes.length c6] 54)).heap.size (w2.alloc (.cells #[.slice A5 D.comes.length c5,.slice A6 D.goes.length c6] 54)) w'→w'.cell? ⟨w2.heap.size,0,none⟩=some (.slice A5 D.comes.length c5)∧w'.cell? ⟨w2.heap.size,1,none⟩=some (.slice A6 D.goes.length c6)):=η fun w' hb=>⟨ξ hb (ai (ω w2 _)),ξ hb (ai (ω w2 _))⟩
   have ac:=η (cl.trans (bi.mono cl.size));have bB:=η (bH.below bA bi);obtain ⟨y,J⟩:=bf.out _ ac.out;obtain ⟨y0,y1⟩:=bj.out _ ϑ;have bE:=P6 rs xs c _ _ _ _ b0 b1 _ _ (aU.below I.out.1 ac.out) (ak.below I.out.2.1 ac.out) (bH.below I.out.2.2 ac.out);rw [HE.out] at bE;clear bz cl bA bi
   go_wp2_with fail
   obtain ⟨W2,cm⟩:∃ W2,W2=(w2.alloc (.cells #[.slice A5 D.comes.length c5,.slice A6 D.goes.length c6] 54)):=⟨_,rfl⟩;rw [← cm] at bE ac bB bj y J y0 y1
   first | rw [← cm] | skip
   clear cm;refine bE.mono ?_;rintro e w3 ⟨cn,eA,g3,rfl,bL⟩;obtain ⟨A7,c7,A8,c8,rfl⟩:=iE bL;dsimp only at bL;clear y J y0 y1;have bk:Below w3.heap.size w3 (w3.alloc (.cells #[.slice A7 D.comes.length c7,.slice A8 D.goes.length c8] 54)):=ζ;have co:Hid (∀ w',Below (w3.alloc (.cells #[.slice A7 D.comes.length c7,.slice A8 D.goes.length c8] 54)).heap.size (w3.alloc (.cells #[.slice A7 D.comes.length c7,.slice A8 D.goes.length c8] 54)) w'→w'.cell? ⟨w3.heap.size,0,none⟩=some (.slice A7 D.comes.length c7)∧w'.cell? ⟨w3.heap.size,1,none⟩=some (.slice A8 D.goes.length c8)):=η fun w' hb=>⟨ξ hb (ai (ω w3 _)),ξ hb (ai (ω w3 _))⟩
   have af:=η (cn.trans (bk.mono cn.size));have d9:=η (ac.out.trans (af.out.mono ac.out.size));have cw:=η (bH.below bL bk);have eB:(z != z)=false:=by simp
   have eC:(z == z)=true:=by simp
   obtain ⟨y,J⟩:=bf.out _ d9.out;obtain ⟨y0,y1⟩:=bj.out _ af.out;obtain ⟨z0,z1⟩:=co.out _ ϑ;clear bE cn bL bk;have cx:=wP D _ _ _ _ g2 g3 _ (bH.below bB.out af.out) cw.out
   go_wp2_with fail
   obtain ⟨W3,cy⟩:∃ W3,W3=(w3.alloc (.cells #[.slice A7 D.comes.length c7,.slice A8 D.goes.length c8] 54)):=⟨_,rfl⟩;rw [← cy] at cx af d9 cw co y J y0 y1 z0 z1
   first | rw [← cy] | skip
   clear cy;have da:Below W3.heap.size W3 W3:=ϑ;obtain ⟨w4,e8⟩:∃ w4,w4=W3:=⟨_,rfl⟩;subst e8;have bl:=η af.out;have bn:=η da;clear da y J;refine cx.mono ?_;rintro e w5 ⟨rfl,cz⟩;clear y0 y1 z0 z1 cx;have cc:=η (bn.out.trans (cz.mono bn.out.size));have ag:=η (bl.out.trans (cz.mono bl.out.size));have am:=η (ac.out.trans (ag.out.mono ac.out.size));clear cz bl bn;cases z
   ·obtain ⟨y0,y1⟩:=bj.out _ ag.out
    obtain ⟨z0,z1⟩:=co.out _ cc.out;have db:=wP D _ _ _ _ g2 g3 _ (bH.below bB.out ag.out) (bH.below cw.out cc.out)
    go_wp2_with fail
    refine db.mono ?_;rintro e w6 ⟨rfl,ao⟩;have a2:=η (am.out.trans (ao.mono am.out.size));clear db ao y0 y1 z0 z1;go_wp2;go_ret;exact ⟨rfl,U.out.trans (a2.out.mono U.out.size)⟩
   ·have dc:=wR _ bc d0 w5 (tY.below H2.out (U.out.trans (am.out.mono U.out.size))) hq
    clear hq
    go_wp2_with fail
    refine dc.mono ?_;rintro e w6 ⟨eD,eE,eI,eJ,eK,eL,eM,eN,u,Au,Av,cu,cv,p1,p2,rfl,-,-,de,dg,-,-,-,ao⟩;have di:dY w6 [.slice Au u.comes.length cu,.slice Av u.goes.length cv] u (p1 ++ p2):=⟨_,_,p1,p2,rfl,rfl,de,dg⟩;have b7:Below w6.heap.size w6 (w6.alloc (.cells #[.slice Au u.comes.length cu,.slice Av u.goes.length cv] 54)):=ζ;have cA:Hid (∀ w',Below (w6.alloc (.cells #[.slice Au u.comes.length cu,.slice Av u.goes.length cv] 54)).heap.size (w6.alloc (.cells #[.slice Au u.comes.length cu,.slice Av u.goes.length cv] 54)) w'→w'.cell? ⟨w6.heap.size,0,none⟩=some (.slice Au u.comes.length cu)∧w'.cell? ⟨w6.heap.size,1,none⟩=some (.slice Av u.goes.length cv)):=η fun w' hb=>⟨ξ hb (ai (ω w6 _)),ξ hb (ai (ω w6 _))⟩
    have a2:=η (am.out.trans ((ao.trans (b7.mono ao.size)).mono am.out.size));have bo:=η (ag.out.trans ((ao.trans (b7.mono ao.size)).mono ag.out.size));have cB:=η (bH.below di b7);obtain ⟨y,J⟩:=bf.out _ a2.out;obtain ⟨y0,y1⟩:=cA.out _ ϑ;have dj:=lq xs c _ _ _ b1 _ _ (ak.below I.out.2.1 a2.out) (bH.below I.out.2.2 a2.out);clear dc de dg ao di b7
    go_wp2_with fail
    obtain ⟨W6,cD⟩:∃ W6,W6=(w6.alloc (.cells #[.slice Au u.comes.length cu,.slice Av u.goes.length cv] 54)):=⟨_,rfl⟩;rw [← cD] at a2 bo cB cA dj y J y0 y1
    first | rw [← cD] | skip
    clear cD;have dk:=η (fun w' (hb:Below W6.heap.size W6 w')=>lq xs c _ _ _ b1 _ w' (ak.below I.out.2.1 (a2.out.trans (hb.mono a2.out.size))) (bH.below I.out.2.2 (a2.out.trans (hb.mono a2.out.size))));obtain ⟨Fd,fz,hF⟩:∃ Fd fz,dO rs (wO xs c) u=(Fd,fz):=⟨_,_,rfl⟩;have cE:=η hF
    have dl:Hid (∀ v' b' w',Below W6.heap.size W6 w'→ay w' [v'] (wO xs c) b'→Calls Tryz.prog 29 #[.slice A0 rs.length c0,v',.agg #[.slice Au u.comes.length cu,.slice Av u.goes.length cv]] w' (JF (Fd,fz) w'.heap.size w')):=η fun v' b' w' hb h'=>by
     have h6:=a2.out.trans (hb.mono a2.out.size);have:=yc rs (wO xs c) u _ _ _ _ b0 b' _ w' (aU.below I.out.1 h6) h' (bH.below cB.out hb) (HG.out.below (U.out.trans (h6.mono U.out.size)));rw [hF] at this;exact this
    have B0:=Below.refl W6.heap.size W6;clear dj hF;generalize hxd:wO xs c=xd at *;have dp:=η hxd;clear hxd
    go_cut [15,16] from 78 to 86 (fun pf vz wx=>∃ (nb:Nat) (Af Ag:Option Addr) (cf cg:Nat) (g8:List Nat),pf=.pointer (some ⟨nb,0,none⟩)∧vz=.bool fz∧Ws W6.heap.size W6 nb Fd Af Ag cf cg g8 wx)
    case first=>
     go_region_held3 (fun w'=>w'.cell? ⟨w1.heap.size,0,none⟩=some (.slice A2 c.comes.length c2)∧w'.cell? ⟨w1.heap.size,1,none⟩=some (.slice A3 c.goes.length c3)∧w'.cell? ⟨w6.heap.size,0,none⟩=some (.slice Au u.comes.length cu)∧w'.cell? ⟨w6.heap.size,1,none⟩=some (.slice Av u.goes.length cv)) (first | go_keep | exact ⟨y,J,y0,y1⟩ | (refine ⟨?_,?_,?_,?_⟩ <;> go_simp)) (first
      | (go_at_call 32; have hz:=dk.out _ B0.drew; (with_reducible refine Calls.mono hz ?_); clear hz; rintro e w7 ⟨a3,vd,bd,rfl,aE,_⟩; obtain ⟨Ab,cb,rfl,_,_⟩:=aj aE;  have B7:=B0.drew.trans (a3.mono (Below.size B0.drew)); replace y:=ξ a3 y; replace J:=ξ a3 J; replace y0:=ξ a3 y0; replace y1:=ξ a3 y1; have cG:=η aE; clear aE a3)
      | (go_at_call 32; have a0:Below W6.heap.size W6 (W6.alloc (.cells #[.slice none 0 0,.slice none 0 0] 54)).drew:=(ζ).drew; have hz:=dk.out _ a0; (with_reducible refine Calls.mono hz ?_); clear hz; rintro e w7 ⟨a3,vd,bd,rfl,aE,_⟩; obtain ⟨Ab,cb,rfl,_,_⟩:=aj aE;  have B7:=a0.trans (a3.mono (Below.size a0)); have e9:¬ (w1.heap.size=W6.heap.size):=(by have h1:=lt_of_cell y; have h2:=lt_of_cell y0; dsimp only at h1 h2; omega); have ea:¬ (w6.heap.size=W6.heap.size):=(by have h1:=lt_of_cell y; have h2:=lt_of_cell y0; dsimp only at h1 h2; omega); have eb:¬ (W6.heap.size=w1.heap.size):=(by have h1:=lt_of_cell y; have h2:=lt_of_cell y0; dsimp only at h1 h2; omega); have ec:¬ (W6.heap.size=w6.heap.size):=(by have h1:=lt_of_cell y; have h2:=lt_of_cell y0; dsimp only at h1 h2; omega); replace y:=ξ a3 (ξ a0 y); replace J:=ξ a3 (ξ a0 J); replace y0:=ξ a3 (ξ a0 y0); replace y1:=ξ a3 (ξ a0 y1); have HT:=η ((a3.block _ (ψ (ω W6 (.cells #[.slice none 0 0,.slice none 0 0] 54)))).trans (ω W6 (.cells #[.slice none 0 0,.slice none 0 0] 54))); have u0:_=some (Value.slice none 0 0):=ai (o:=0) HT.out; have u1:_=some (Value.slice none 0 0):=ai (o:=1) HT.out; have ds:=ax (o:=0) HT.out; have dt:=ax (o:=1) HT.out; have cG:=η aE; clear aE a3 a0)
      | (go_at_call 29; have hz:=dl.out _ _ _ B7 cG.out; (with_reducible refine Calls.mono hz ?_); clear hz; rintro e w8 ⟨a1,ed,g8,rfl,aL,_⟩; obtain ⟨Af,cf,Ag,cg,rfl⟩:=iE aL;  have B8:=B7.trans (a1.mono (Below.size B7)); replace y:=ξ a1 y; replace J:=ξ a1 J; replace y0:=ξ a1 y0; replace y1:=ξ a1 y1; (try (replace HT:=η ((a1.block _ (ψ HT.out)).trans HT.out); replace u0:_=some (Value.slice none 0 0):=ai (o:=0) HT.out; replace u1:_=some (Value.slice none 0 0):=ai (o:=1) HT.out; replace ds:=ax (o:=0) HT.out; replace dt:=ax (o:=1) HT.out)); have cI:=η aL; clear aL a1)
      | (go_at_call 29; have a0:Below w7.heap.size w7 (w7.alloc (.cells #[.slice none 0 0,.slice none 0 0] 54)):=ζ; have bO:=B7.trans (a0.mono (Below.size B7)); have hz:=dl.out _ _ _ bO (ak.below cG.out a0); (with_reducible refine Calls.mono hz ?_); clear hz; rintro e w8 ⟨a1,ed,g8,rfl,aL,_⟩; obtain ⟨Af,cf,Ag,cg,rfl⟩:=iE aL;  have B8:=bO.trans (a1.mono (Below.size bO)); have e9:¬ (w1.heap.size=w7.heap.size):=(by have h1:=lt_of_cell y; have h2:=lt_of_cell y0; dsimp only at h1 h2; omega); have ea:¬ (w6.heap.size=w7.heap.size):=(by have h1:=lt_of_cell y; have h2:=lt_of_cell y0; dsimp only at h1 h2; omega); have eb:¬ (w7.heap.size=w1.heap.size):=(by have h1:=lt_of_cell y; have h2:=lt_of_cell y0; dsimp only at h1 h2; omega); have ec:¬ (w7.heap.size=w6.heap.size):=(by have h1:=lt_of_cell y; have h2:=lt_of_cell y0; dsimp only at h1 h2; omega); replace y:=ξ a1 (ξ a0 y); replace J:=ξ a1 (ξ a0 J); replace y0:=ξ a1 (ξ a0 y0); replace y1:=ξ a1 (ξ a0 y1); have HT:=η ((a1.block _ (ψ (ω w7 (.cells #[.slice none 0 0,.slice none 0 0] 54)))).trans (ω w7 (.cells #[.slice none 0 0,.slice none 0 0] 54))); have u0:_=some (Value.slice none 0 0):=ai (o:=0) HT.out; have u1:_=some (Value.slice none 0 0):=ai (o:=1) HT.out; have ds:=ax (o:=0) HT.out; have dt:=ax (o:=1) HT.out; have cI:=η aL; clear aL a1 a0 bO))
     all_goals
      first
       | (have hE:=TG HT.out B8 (by first | exact ν | exact B7.size) cI.out)
       | (have hE:=Wu (ty:=54) B8 cI.out)
      have ee:=η hE;clear hE;go_wp2
      go_meet
      case rel=>exact ⟨_,_,_,_,_,g8,rfl,rfl,ee.out⟩
    case rest=>
    obtain ⟨nb,Af,Ag,cf,cg,g8,rfl,rfl,aq⟩:=hcut;obtain ⟨W8,cJ⟩:∃ W8,W8=wc:=⟨_,rfl⟩;rw [← cJ] at aq
    first | rw [← cJ] | skip
    clear cJ;have eg:Hid (∀ w',Below W8.heap.size W8 w'→w'.cell? ⟨nb,0,none⟩=some (.slice Af Fd.comes.length cf)∧w'.cell? ⟨nb,1,none⟩=some (.slice Ag Fd.goes.length cg)):=η fun w' hb=>⟨ξ hb aq.2.2.1,ξ hb aq.2.2.2⟩
    have eh:=η aq.2.1;have cd:=η aq.1;have bR:=η (a2.out.trans (aq.1.mono a2.out.size));have ce:=η (bo.out.trans (aq.1.mono bo.out.size));clear aq;obtain ⟨Bo,gz,cK⟩:∃ Bo gz,FM c u=(Bo,gz):=⟨_,_,rfl⟩;have cL:=η cK;have cP:=DX c u _ _ _ _ _ _ _ (bH.below I.out.2.2 bR.out) (bH.below cB.out cd.out);rw [cK] at cP;obtain ⟨y,J⟩:=bf.out _ bR.out;obtain ⟨y0,y1⟩:=cA.out _ cd.out;clear cK
    go_wp2_with fail
    refine cP.mono ?_;rintro e w9 ⟨aM,en,g9,rfl,bX,-⟩;obtain ⟨Ap,cp,Aq,cq,rfl⟩:=iE bX;dsimp only at bX;clear y J y0 y1;have ar:Below w9.heap.size w9 (w9.alloc (.cells #[.slice Ap Bo.comes.length cp,.slice Aq Bo.goes.length cq] 54)):=ζ;have du:Hid (∀ w',Below (w9.alloc (.cells #[.slice Ap Bo.comes.length cp,.slice Aq Bo.goes.length cq] 54)).heap.size (w9.alloc (.cells #[.slice Ap Bo.comes.length cp,.slice Aq Bo.goes.length cq] 54)) w'→w'.cell? ⟨w9.heap.size,0,none⟩=some (.slice Ap Bo.comes.length cp)∧w'.cell? ⟨w9.heap.size,1,none⟩=some (.slice Aq Bo.goes.length cq)):=η fun w' hb=>⟨ξ hb (ai (ω w9 _)),ξ hb (ai (ω w9 _))⟩
    have bg:=η (bR.out.trans ((aM.trans (ar.mono aM.size)).mono bR.out.size));have bp:=η (ce.out.trans ((aM.trans (ar.mono aM.size)).mono ce.out.size));have bq:=η (aM.trans (ar.mono aM.size));have dv:=η (bH.below bX ar);obtain ⟨G,az,cQ⟩:∃ G az,dO rs xs Bo=(G,az):=⟨_,_,rfl⟩;have cT:=η cQ;have c4:=yc rs xs Bo _ _ _ _ b0 b1 _ _ (aU.below I.out.1 bg.out) (ak.below I.out.2.1 bg.out) dv.out (HG.out.below (U.out.trans (bg.out.mono U.out.size)));rw [cQ] at c4;obtain ⟨y,J⟩:=du.out _ ϑ;clear cP aM bX ar cQ
    go_wp2_with fail
    obtain ⟨W9,cU⟩:∃ W9,W9=(w9.alloc (.cells #[.slice Ap Bo.comes.length cp,.slice Aq Bo.goes.length cq] 54)):=⟨_,rfl⟩;rw [← cU] at bg bp bq dv du c4 y J
    first | rw [← cU] | skip
    clear cU;refine c4.mono ?_;rintro e a7 ⟨a8,eo,eO,rfl,b8,-⟩;obtain ⟨Ar,cr,As,bh,rfl⟩:=iE b8;dsimp only at b8;clear y J;have av:Below a7.heap.size a7 (a7.alloc (.cells #[.slice Ar G.comes.length cr,.slice As G.goes.length bh] 54)):=ζ;have dx:Hid (∀ w',Below (a7.alloc (.cells #[.slice Ar G.comes.length cr,.slice As G.goes.length bh] 54)).heap.size (a7.alloc (.cells #[.slice Ar G.comes.length cr,.slice As G.goes.length bh] 54)) w'→w'.cell? ⟨a7.heap.size,0,none⟩=some (.slice Ar G.comes.length cr)∧w'.cell? ⟨a7.heap.size,1,none⟩=some (.slice As G.goes.length bh)):=η fun w' hb=>⟨ξ hb (ai (ω a7 _)),ξ hb (ai (ω a7 _))⟩
    have a9:=η (bg.out.trans ((a8.trans (av.mono a8.size)).mono bg.out.size));have aR:=η (bp.out.trans ((a8.trans (av.mono a8.size)).mono bp.out.size));have b4:=η (bq.out.trans ((a8.trans (av.mono a8.size)).mono bq.out.size));have dy:=η (bH.below b8 av);clear c4 a8 b8 av;by_cases b9:(fz && gz && az)=true
    ·rw [ο,ο] at b9
     obtain ⟨⟨rfl,rfl⟩,rfl⟩:=b9;obtain ⟨ya,dz,br⟩:=TI HE.out (by rw [dp.out]; exact cE.out) cL.out cT.out;have dC:=η br;have c9:=TD rs xs _ _ b0 b1 _ (aU.below I.out.1 a9.out) (ak.below I.out.2.1 a9.out) (HG.out.below (U.out.trans (a9.out.mono U.out.size)));rw [dz] at c9;clear br dz
     go_wp2_with fail
     obtain ⟨dE,bt⟩:∃ dE,dE=(a7.alloc (.cells #[.slice Ar G.comes.length cr,.slice As G.goes.length bh] 54)):=⟨_,rfl⟩;rw [← bt] at a9 aR b4 dy dx c9
     first | rw [← bt] | skip
     clear bt;refine c9.mono ?_;rintro e aw ⟨ab,va,ba,rfl,cV,-⟩;obtain ⟨Aa,ca,rfl,_,_⟩:=aj cV;have ci:=η (a9.out.trans (ab.mono a9.out.size));have b5:=η (aR.out.trans (ab.mono aR.out.size));have b6:=η (b4.out.trans (ab.mono b4.out.size));have bu:=η ab;have dT:=η cV;have e0:=η (fun w' (hb:Below aw.heap.size aw w')=>lq ya G _ _ _ ba _ w' (ak.below dT.out hb) (bH.below dy.out (bu.out.trans (hb.mono bu.out.size))));have e1:=η (fun w' (hb:Below aw.heap.size aw w')=>lq ya D _ _ _ ba _ w' (ak.below dT.out hb) (bH.below bB.out (b5.out.trans (hb.mono b5.out.size))))
     have e2:Hid (∀ v' b' w',Below aw.heap.size aw w'→ay w' [v'] (wO ya D) b'→Calls Tryz.prog 32 #[v',.agg #[.slice Af Fd.comes.length cf,.slice Ag Fd.goes.length cg]] w' (Makes ay (wO ya G) w'.heap.size w')):=η fun v' b' w' hb h'=>by
      rw [dC.out];exact lq (wO ya D) Fd _ _ _ b' _ w' h' (bH.below eh.out (b6.out.trans (hb.mono b6.out.size)))
     obtain ⟨y,J⟩:=dx.out _ ab;obtain ⟨y0,y1⟩:=bj.out _ b5.out;obtain ⟨z0,z1⟩:=eg.out _ b6.out;have B0:=Below.refl aw.heap.size aw;clear c9 ab cV cE cL cT HE dC dp;generalize wO ya G=D1 at *;generalize wO ya D=D2 at *;go_wp2
     go_region_held3 (fun w'=>w'.cell? ⟨a7.heap.size,0,none⟩=some (.slice Ar G.comes.length cr)∧w'.cell? ⟨a7.heap.size,1,none⟩=some (.slice As G.goes.length bh)∧w'.cell? ⟨w2.heap.size,0,none⟩=some (.slice A5 D.comes.length c5)∧w'.cell? ⟨w2.heap.size,1,none⟩=some (.slice A6 D.goes.length c6)∧w'.cell? ⟨nb,0,none⟩=some (.slice Af Fd.comes.length cf)∧w'.cell? ⟨nb,1,none⟩=some (.slice Ag Fd.goes.length cg)) (first | go_keep | exact ⟨y,J,y0,y1,z0,z1⟩)
      (first
       | (go_at_call 32; have hz:=e0.out _ B0.drew; (with_reducible refine Calls.mono hz ?_); clear hz; rintro e eQ ⟨a6,eR,ei,rfl,bv,_⟩; obtain ⟨ep,et,rfl,_,_⟩:=aj bv; have cW:=B0.drew.trans (a6.mono (Below.size B0.drew)); replace y:=ξ a6 y; replace J:=ξ a6 J; replace y0:=ξ a6 y0; replace y1:=ξ a6 y1; replace z0:=ξ a6 z0; replace z1:=ξ a6 z1; have aD:=η bv; clear bv a6 e0)
       | (go_at_call 32; have hz:=e1.out _ cW; (with_reducible refine Calls.mono hz ?_); clear hz; rintro e eS ⟨a4,eT,eV,rfl,bw,_⟩; obtain ⟨eW,eZ,rfl,_,_⟩:=aj bw; have cX:=cW.trans (a4.mono (Below.size cW)); replace y:=ξ a4 y; replace J:=ξ a4 J; replace y0:=ξ a4 y0; replace y1:=ξ a4 y1; replace z0:=ξ a4 z0; replace z1:=ξ a4 z1; have e3:=η bw; replace aD:=η (ak.below aD.out a4); clear bw a4 e1)
       | (go_at_call 32; have hz:=e2.out _ _ _ cX e3.out; (with_reducible refine Calls.mono hz ?_); clear hz; rintro e f0 ⟨a5,f1,ej,rfl,bx,_⟩; obtain ⟨f3,f4,rfl,_,_⟩:=aj bx; have e4:=cX.trans (a5.mono (Below.size cX)); replace y:=ξ a5 y; replace J:=ξ a5 J; replace y0:=ξ a5 y0; replace y1:=ξ a5 y1; replace z0:=ξ a5 z0; replace z1:=ξ a5 z1; have e5:=η bx; replace aD:=η (ak.below aD.out a5); clear bx a5 e2)
       | (go_at_call 15; have hz:=MN D1 _ _ ei ej _ aD.out e5.out; (with_reducible refine Calls.mono hz ?_); clear hz; rintro e f6 ⟨rfl,aa⟩; have ek:=e4.trans (aa.mono e4.size); replace y:=ξ aa y; replace J:=ξ aa J; replace y0:=ξ aa y0; replace y1:=ξ aa y1; replace z0:=ξ aa z0; replace z1:=ξ aa z1))
     have HZ:=η (ci.out.trans (ek.mono ci.out.size));go_wp2;go_ret;exact ⟨rfl,U.out.trans (HZ.out.mono U.out.size)⟩
    ·have el:(fz && gz && az)=false:=by simpa using b9
     clear b9 cE cL cT
     cases fz <;> cases gz <;> cases az <;> first | (exfalso; revert el; decide) | skip
     all_goals
      go_wp2;go_ret;exact ⟨rfl,U.out.trans (a9.out.mono U.out.size)⟩
  ·have e7:(1048576:Int) < (bc.length:Int):=by omega
   clear h1
   go_enter Tryz.func9,Tryz.ntmps9
   go_wp2;go_ret;exact ⟨rfl,ϑ⟩
 ·have e6:(1048576:Int) < (cs.length:Int):=by omega
  clear h1
  go_enter Tryz.func9,Tryz.ntmps9
  go_wp2;go_ret;exact ⟨rfl,ϑ⟩
end
end Go.Proofs.YtkjinanbccloeaaGreatDoor
