/- Of the proof of FnEvalOnly: RunS. -/
import Derived.Test.YtkjinanbccloeaaGreatDoorB31
set_option linter.unusedVariables false
set_option maxHeartbeats 8000000
set_option maxRecDepth 100000
namespace Go.Proofs.YtkjinanbccloeaaGreatDoor
open Go.RowKit D
attribute [local go_sem ↓] Go.wp_at_zero Go.wp_at_succ
theorem D.NM {list:List A} {level B:Nat} {rl:List (Ru × Nat)} (h:∀ p ∈ rl,(allB list p.1.body).length≤B):(fZ list level rl).length≤rl.length * B:=by
 have h1:∀ (bs:List Bd) (r:Ru) (out:List A),(bs.foldl (fun o b=>dP o (bQ r.head b)) out).length≤out.length+bs.length:=by
  intro bs r
  induction bs with
  | nil=>intro out; exact ν
  | cons b bs ih=>
   intro out;have y:=ih (dP out (bQ r.head b));have I:=zX out (bQ r.head b);simp only [List.foldl_cons,List.length_cons];omega
 have y:∀ k,k≤rl.length→(fZ list level (rl.take k)).length≤k * B:=by
  intro k
  induction k with
  | zero=>intro _; simp [fZ]
  | succ k ih=>
   intro J;have I:=ih (by omega);rw [uU list level rl k (by omega),Nat.add_mul]
   split
   ·have U:=h1 (allB list rl[k].1.body) rl[k].1 (fZ list level (rl.take k))
    have h5:=h _ (δ (show k < rl.length by omega));unfold DF;omega
   ·omega
 have:=y rl.length ν
 rwa [ϕ ν] at this
structure D.RInv (W:World) (N M:Nat) (s t:Value) (r:Rd) (bs:List Nat) (lv:List Nat) (vl:Value) (bl:List Nat) (w:World):Prop where
 n_:w.heap[N]? = some (.cells #[.slice none 0 0,.slice none 0 0] 96 (0,0))
 m_:w.heap[M]? = some (.cells #[s,t] 96 (0,0))
 rd:qj w [s,t] r bs
 far:∀ c ∈ bs,c ≠ M∧c ≠ N
 bel:Below W.heap.size W w
 ge:W.heap.size≤M
 nm:N ≠ M
 lv_:gU w [vl] lv bl
 lf:∀ c ∈ bl,c ≠ M
theorem D.RInv.below {W:World} {N M:Nat} {s t:Value} {r:Rd} {bs lv:List Nat} {I:Value} {J:List Nat} {w w':World} (h:RInv W N M s t r bs lv I J w) (y:Below w.heap.size w w'):RInv W N M s t r bs lv I J w':=
 ⟨by rw [y.block _ (ψ h.n_)]; exact h.n_,by rw [y.block _ (ψ h.m_)]; exact h.m_,oh.below h.rd y,h.far,h.bel.trans (y.mono h.bel.size),h.ge,h.nm,aW.below h.lv_ y,h.lf⟩
theorem D.RInv.set {W:World} {N M:Nat} {s t y I:Value} {r U:Rd} {bs bs' lv:List Nat} {vl:Value} {bl:List Nat} {w:World} (h:RInv W N M s t r bs lv vl bl w) (h':qj w [y,I] U bs') (hf:∀ c ∈ bs',c ≠ M∧c ≠ N):
  RInv W N M y I U bs' lv vl bl ((w.setCell ⟨M,0,none⟩ y).setCell ⟨M,1,none⟩ I):=by
 have J:∀ k,k ≠ M→((w.setCell ⟨M,0,none⟩ y).setCell ⟨M,1,none⟩ I).heap[k]? = w.heap[k]?:=fun k J=>by rw [π _ _ _ _ J,π _ _ _ _ J]
 exact ⟨(J _ h.nm).trans h.n_,by simpa using bK (o:=1) (u:=I) (bK (o:=0) (u:=y) h.m_),oh.keep h' fun c hc=>J c (hf c hc).1,hf,(h.bel.setCell (p:=⟨M,0,none⟩) h.ge y).setCell (p:=⟨M,1,none⟩) h.ge I,h.ge,h.nm,aW.keep h.lv_ fun c hc=>J c (h.lf c hc),h.lf⟩
theorem D.nO {w:World} {s t:Value} {r:Rd} {bs:List Nat} (h:qj w [s,t] r bs):∃ A p b o c b0 I,s=.slice A r.1.length p∧t=.slice (some ⟨b,o,none⟩) r.2.length c∧bs=b0 ++ I∧aU w [.slice A r.1.length p] r.1 b0∧gU w [.slice (some ⟨b,o,none⟩) r.2.length c] r.2 I∧r.2.length=r.1.length:=by
 obtain ⟨s',b,o,c,b0,I,y,rfl,h1,J,U⟩:=h;simp only [List.cons.injEq,and_true] at y;obtain ⟨rfl,rfl⟩:=y;obtain ⟨A,p,rfl,_⟩:=ak h1;exact ⟨A,p,b,o,c,b0,I,rfl,rfl,rfl,h1,J,U⟩
theorem D.RInv.fin {W:World} {N M:Nat} {s t:Value} {r:Rd} {bs lv:List Nat} {J:Value} {U:List Nat} {w:World} (h:RInv W N M s t r bs lv J U w) (I:W.heap.size≤N):
  ((w.setCell ⟨N,0,none⟩ s).setCell ⟨N,1,none⟩ t).cell? ⟨N,0,none⟩=some s∧((w.setCell ⟨N,0,none⟩ s).setCell ⟨N,1,none⟩ t).cell? ⟨N,1,none⟩=some t∧Below W.heap.size W ((w.setCell ⟨N,0,none⟩ s).setCell ⟨N,1,none⟩ t)∧qj ((w.setCell ⟨N,0,none⟩ s).setCell ⟨N,1,none⟩ t) [s,t] r bs:=by
 have hf:=bK (o:=1) (u:=t) (bK (o:=0) (u:=s) h.n_);refine ⟨ai hf,ai hf,(h.bel.setCell (p:=⟨N,0,none⟩) I s).setCell (p:=⟨N,1,none⟩) I t,oh.keep h.rd fun c hc=>?_⟩;have y:=(h.far c hc).2;rw [π _ _ _ _ y,π _ _ _ _ y]
def D.yA (M:Nat) (w:World):Nat:=match w.cell? ⟨M,0,none⟩ with | some (.slice _ n _)=>n | _=>0
theorem D.RInv.yA {W:World} {N M:Nat} {A:Option Addr} {p:Nat} {t:Value} {r:Rd} {bs lv:List Nat} {y:Value} {I:List Nat} {w:World} (h:RInv W N M (.slice A r.1.length p) t r bs lv y I w):yA M w=r.1.length:=by
 have:w.cell? ⟨M,0,none⟩=some (.slice A r.1.length p):=ai h.m_;unfold D.yA;rw [this]
theorem D.Ql (n:Nat) {w:World} {g:Nat} (h:w.heap[g]? = some (.cells (madeCells #[.int .i64 0] n) 3 (0,0))) (hm:n≤maxLen):∃ bs,gU w [.slice (some ⟨g,0,none⟩) n n] (List.replicate n 0) bs∧∀ c ∈ bs,c=g:=by
 rw [wH] at h;obtain ⟨bs,h1,_,y⟩:=ru h (by simpa using hm);rw [List.length_replicate] at h1;exact ⟨bs,h1,y⟩
def D.SJ (w0:World) (N:Nat) (xs:List A) (Ar Ag:Option Addr) (n1 p1 J p2:Nat) (f:Nat→Bool) (a:Act) (w':World):Prop:=
 ∃ (v6 a0 y a1 a2 I a3:Value) (M g:Nat) (bl:List Nat) (U:World),a=⟨#[.slice Ar n1 p1,.slice Ag J p2,undef,undef,.pointer (some ⟨N,0,none⟩),.bool false,v6,undef,undef,undef,undef,undef,undef,a0,y,a1,a2,I,a3,undef,undef,undef,undef,undef,undef,undef,undef,undef,undef,undef,undef,undef,undef,undef,undef,undef,undef,undef,undef,undef,undef,undef,undef,undef,undef,undef,undef,undef,undef,undef,undef,undef,undef,undef,undef,undef,undef,undef,undef,undef,undef,undef,undef,undef],[]⟩∧Below w0.heap.size w0 U∧
  (f 0=true→a0=.slice Ag J p2)∧(f 1=true→(∃ A cap,y=.slice A xs.length cap)∧aU U [y] xs bl∧∀ c ∈ bl,w0.heap.size≤c)∧(f 2=true→a1=.slice Ag J p2)∧(f 3=true→a2=.int .i64 J)∧
  (f 4=true→I=.slice (some ⟨g,0,none⟩) J J∧w0.heap.size≤g∧U.heap[g]? = some (.cells (madeCells #[.int .i64 0] J) 3 (0,0)))∧(f 5=true→a3=.agg #[y,I]∧f 1=true∧f 4=true)∧
  (f 6=true→v6=.pointer (some ⟨M,0,none⟩)∧w0.heap.size≤M∧U.heap[M]? = some (.cells #[.slice none 0 0,.slice none 0 0] 96 (0,0)))∧(f 6=true→(f 1=true→M ∉ bl)∧(f 4=true→g ≠ M))∧
  (f 7=false→w'=U)∧(f 7=true→w'=(U.setCell ⟨M,0,none⟩ y).setCell ⟨M,1,none⟩ I)∧(f 7=true→∀ i,i < 7→f i=true)
theorem run_any (rs:List Ru) (xs:List A) (v0 v1:Value) (b0 b1:List Nat) (w:World) (hr:dS w [v0] rs b0) (hx:aU w [v1] xs b1) (c6:fK xs=true) (hn:xs.length≤300) (hm:rs.length≤8) (hok:rs.all dN=true)
  (hb:∀ r ∈ rs,r.body.length≤4∧r.head.args.length≤1000∧∀ p ∈ r.body,p.atom.args.length≤1000) (c8:∀ a ∈ xs,a.args.length≤1000):
  Calls Tryz.prog 56 #[v0,v1] w fun e w'=>Below w.heap.size w w'∧∃ e0 U bs',e=.returned (.tuple #[.agg #[e0,U],.bool (dW rs xs).2])∧qj w' [e0,U] (dW rs xs).1 bs':=by
 obtain ⟨Ar,p1,rfl,cW,cX⟩:=ak hr;obtain ⟨Ag,p2,rfl,cY,d0⟩:=ak hx;have HR:=η hr;have HX:=η hx;have HB:=η hb;have d1:=η c8;have d2:=fun w'=>run_make_row' (P:=Tryz.prog) 49 3 (.int .i64 0) 8 Tryz.underlying49 wL rfl .i64 .i64 xs.length (by omega) (by omega) w'
 have hA:Below w.heap.size w (w.alloc (.cells #[.slice none 0 0,.slice none 0 0] 96)):=ζ;have hN:=ω w (.cells #[.slice none 0 0,.slice none 0 0] 96);clear hr hx cW cX cY d0 hb c8
 go_enter Tryz.func56,Tryz.ntmps56
 go_wp2_with fail
 generalize w.alloc (.cells #[.slice none 0 0,.slice none 0 0] 96)=w0 at *;have HA:=η hA;have HN:=η hN;clear hA hN;refine oG (SJ w0 w.heap.size xs Ar Ag rs.length p1 xs.length p2) (by kernel_rfl) (by kernel_rfl) ?h0 ?hs ?hd
 case h0=>exact ⟨undef,undef,undef,undef,undef,undef,undef,0,0,[],_,rfl,ϑ.drew,fun h=>(by cases h),fun h=>(by cases h),fun h=>(by cases h),fun h=>(by cases h),fun h=>(by cases h),fun h=>(by cases h),fun h=>(by cases h),fun h=>(by cases h),fun _=>rfl,fun h=>(by cases h),fun h=>(by cases h)⟩
 case hs=>
  intro i oo ho f aa J hJ hf I;obtain ⟨v6,a6,a7,a8,a9,ab,a1,M,g,bl,wi,rfl,hB,e0,U,e2,e3,e4,e5,e6,dd,aE,bn,ao⟩:=hJ;by_cases d3:i=7
  case pos=>
   subst d3;obtain rfl:=Option.some.inj ho;simp [Region.binds] at I;obtain ⟨f6,f5,f1,f0,_,f2,f3,f4,_⟩:=I;obtain rfl:=aE hf;have g5:=(e5 f5).1;have g6:=(e6 f6).1;have g4:=(e4 f4).1;subst g5;subst g6;subst g4;obtain ⟨⟨A3,q3,rfl⟩,_⟩:=U f1;have a2:=(e6 f6).2.2;have e8:J.frozen? ⟨M,0,none⟩=false:=ax a2;have ea:J.frozen? ⟨M,1,none⟩=false:=ax a2;have eb:J.cell? ⟨M,0,none⟩=some (.slice none 0 0):=ai a2;have ec:J.cell? ⟨M,1,none⟩=some (.slice none 0 0):=ai a2;refine wpOp_step rfl (fun K' hK=>?_);go_simp;refine hK _ _ ?_;refine ⟨_,_,_,_,_,_,_,M,g,bl,J,rfl,hB,fun _=>?_,U,fun _=>?_,fun _=>?_,e4,fun _=>⟨rfl,f1,f4⟩,fun _=>⟨rfl,(e6 f6).2⟩,dd,fun h=>(by cases h),fun _=>rfl,fun _ i hi=>?_⟩
   ·first | rfl | exact e0 f0
   ·first | rfl | exact e2 f2
   ·first | rfl | exact e3 f3
   match i,hi with
   | 0,_=>exact f0
   | 1,_=>exact f1
   | 2,_=>exact f2
   | 3,_=>exact f3
   | 4,_=>exact f4
   | 5,_=>exact f5
   | 6,_=>exact f6
   | q+7,h=>omega
  case neg=>
   have h7:f 7=false:=by
    cases hc:f 7 with
    | false=>rfl
    | true=>
     by_cases c9:i < 7
     ·exact absurd (ao hc i c9) (by simp [hf])
     ·exfalso
      rw [Array.getElem?_eq_none (by simp; omega)] at ho;cases ho
   obtain rfl:=aE h7;have ac:=hB.size
   match i,ho,hf,I with
   | 0,ho,hf,I=>
    obtain rfl:=Option.some.inj ho;refine wpOp_step rfl (fun K' hK=>?_);go_simp;refine hK _ _ ?_;exact ⟨v6,(.slice Ag xs.length p2),a7,a8,a9,ab,a1,M,g,bl,_,rfl,hB,fun _=>rfl,U,e2,e3,e4,e5,e6,dd,fun _=>rfl,Φ h7,Φ h7⟩
   | 1,ho,hf,I=>
    obtain rfl:=Option.some.inj ho;simp [Region.binds] at I;have g0:=e0 I;subst g0;have d4:=HA.out.trans (hB.mono HA.out.size);have q:=Nl xs _ b1 J (au.below HX.out d4) (by omega) (fun a ha=>τ (d1.out a ha) (by omega));refine wpOp_step rfl (fun K' hK=>?_);go_simp;refine q.mono ?_;rintro e w3 ⟨bo,v3,b3,rfl,h3,ca⟩;obtain ⟨A3,q3,rfl,_⟩:=ak h3;refine hK _ _ ?_;exact ⟨v6,_,(.slice A3 xs.length q3),a8,a9,ab,a1,M,g,b3,_,rfl,hB.trans (bo.mono ac),fun _=>rfl,fun _=>⟨⟨_,_,rfl⟩,h3,fun c hc=>τ ac (ca c hc)⟩,e2,e3,fun h=>⟨(e4 h).1,(e4 h).2.1,(bo.block _ (ψ (e4 h).2.2)).trans (e4 h).2.2⟩,fun h=>absurd ((e5 h).2.1.symm.trans hf) (by decide),fun h=>⟨(e6 h).1,(e6 h).2.1,(bo.block _ (ψ (e6 h).2.2)).trans (e6 h).2.2⟩,fun h=>⟨fun _ hc=>by have:=ca _ hc; have:=ψ (e6 h).2.2; omega,(dd h).2⟩,fun _=>rfl,Φ h7,Φ h7⟩
   | 2,ho,hf,I=>
    obtain rfl:=Option.some.inj ho;refine wpOp_step rfl (fun K' hK=>?_);go_simp;refine hK _ _ ?_;exact ⟨v6,a6,a7,(.slice Ag xs.length p2),a9,ab,a1,M,g,bl,_,rfl,hB,e0,U,fun _=>rfl,e3,e4,e5,e6,dd,fun _=>rfl,Φ h7,Φ h7⟩
   | 3,ho,hf,I=>
    obtain rfl:=Option.some.inj ho;simp [Region.binds] at I;have g2:=e2 I;subst g2;refine wpOp_step rfl (fun K' hK=>?_);go_simp;refine hK _ _ ?_;exact ⟨v6,a6,a7,_,(.int .i64 xs.length),ab,a1,M,g,bl,_,rfl,hB,e0,U,fun _=>rfl,fun _=>rfl,e4,e5,e6,dd,fun _=>rfl,Φ h7,Φ h7⟩
   | 4,ho,hf,I=>
    obtain rfl:=Option.some.inj ho;simp [Region.binds] at I;have g3:=e3 I;subst g3;have ap:Below J.heap.size J (J.alloc (.cells (madeCells #[.int .i64 0] xs.length) 3)):=ζ;refine wpOp_step rfl (fun K' hK=>?_);go_simp;refine hK _ _ ?_;exact ⟨v6,a6,a7,a8,_,(.slice (some ⟨J.heap.size,0,none⟩) xs.length xs.length),a1,M,J.heap.size,bl,_,rfl,hB.alloc ac _,e0,fun h=>⟨(U h).1,au.below (U h).2.1 ap,(U h).2.2⟩,e2,fun _=>rfl,fun _=>⟨rfl,ac,ω J _⟩,fun h=>absurd ((e5 h).2.2.symm.trans hf) (by decide),fun h=>⟨(e6 h).1,(e6 h).2.1,(ap.block _ (ψ (e6 h).2.2)).trans (e6 h).2.2⟩,fun h=>⟨(dd h).1,fun _ e=>by have:=ψ (e6 h).2.2; omega⟩,fun _=>rfl,Φ h7,Φ h7⟩
   | 5,ho,hf,I=>
    obtain rfl:=Option.some.inj ho;simp [Region.binds] at I;obtain ⟨f1,f4⟩:=I;obtain ⟨⟨A3,q3,rfl⟩,_⟩:=U f1;have g4:=(e4 f4).1;subst g4;refine wpOp_step rfl (fun K' hK=>?_);go_simp;refine hK _ _ ?_;exact ⟨v6,a6,_,a8,a9,_,_,M,g,bl,_,rfl,hB,e0,U,e2,e3,fun _=>⟨rfl,(e4 f4).2⟩,fun _=>⟨rfl,f1,f4⟩,e6,dd,fun _=>rfl,Φ h7,Φ h7⟩
   | 6,ho,hf,I=>
    obtain rfl:=Option.some.inj ho;have ap:Below J.heap.size J (J.alloc (.cells #[.slice none 0 0,.slice none 0 0] 96)):=ζ;refine wpOp_step rfl (fun K' hK=>?_);go_simp;refine hK _ _ ?_;exact ⟨(.pointer (some ⟨J.heap.size,0,none⟩)),a6,a7,a8,a9,ab,a1,J.heap.size,g,bl,_,rfl,hB.alloc ac _,e0,fun h=>⟨(U h).1,au.below (U h).2.1 ap,(U h).2.2⟩,e2,e3,fun h=>⟨(e4 h).1,(e4 h).2.1,(ap.block _ (ψ (e4 h).2.2)).trans (e4 h).2.2⟩,e5,fun _=>⟨rfl,ac,ω J _⟩,fun _=>⟨fun h hc=>by have:=au.lt (U h).2.1 _ hc; omega,fun h e=>by have:=ψ (e4 h).2.2; omega⟩,fun _=>rfl,Φ h7,Φ h7⟩
   | q+7,ho,hf,I=>
    rw [Array.getElem?_eq_none (by simp; omega)] at ho;cases ho
 case hd=>
  intro f aa w3 hf hJ;obtain ⟨v6,a6,a7,a8,a9,ab,a1,M,g,bl,J,rfl,hB,e0,U,e2,e3,e4,e5,e6,dd,aE,bn,ao⟩:=hJ;obtain rfl:=bn (hf 7 (by simp));obtain rfl:=(e6 (hf 6 (by simp))).1;obtain rfl:=(e4 (hf 4 (by simp))).1;obtain ⟨⟨A3,q3,rfl⟩,cb,cc⟩:=U (hf 1 (by simp));have a2:=(e6 (hf 6 (by simp))).2.2;have aL:=(e6 (hf 6 (by simp))).2.1;have cd:=(e4 (hf 4 (by simp))).2.2;have bp:=(dd (hf 6 (by simp))).1 (hf 1 (by simp));have bq:=(dd (hf 6 (by simp))).2 (hf 4 (by simp));obtain ⟨bz,ce,aM⟩:=Ql xs.length cd (by unfold maxLen; omega);have bh:=bK (o:=1) (u:=.slice (some ⟨g,0,none⟩) xs.length xs.length) (bK (o:=0) (u:=.slice A3 xs.length q3) a2);have aR:∀ c,c ≠ M→((J.setCell ⟨M,0,none⟩ (.slice A3 xs.length q3)).setCell ⟨M,1,none⟩ (.slice (some ⟨g,0,none⟩) xs.length xs.length)).heap[c]? = J.heap[c]?:=fun c hc=>by rw [π _ _ _ _ hc,π _ _ _ _ hc]
  have cg:w.heap.size < w0.heap.size:=ψ HN.out;have b2:(List.replicate xs.length 0).length=xs.length:=List.length_replicate ..
  have ci:qj ((J.setCell ⟨M,0,none⟩ (.slice A3 xs.length q3)).setCell ⟨M,1,none⟩ (.slice (some ⟨g,0,none⟩) xs.length xs.length)) [.slice A3 xs.length q3,.slice (some ⟨g,0,none⟩) xs.length xs.length] (xs,List.replicate xs.length 0) (bl ++ bz):=
   ⟨_,g,0,xs.length,bl,bz,by rw [b2],rfl,au.keep cb fun c hc=>aR c fun e=>bp (e ▸ hc),by rw [b2]; exact aW.keep ce fun c hc=>aR c fun e=>bq ((aM c hc).symm.trans e),b2⟩
  have br:=((HA.out.trans (hB.mono HA.out.size)).setCell (p:=⟨M,0,none⟩) (τ HA.out.size aL) (.slice A3 xs.length q3)).setCell (p:=⟨M,1,none⟩) (τ HA.out.size aL) (.slice (some ⟨g,0,none⟩) xs.length xs.length)
  have cj:((J.setCell ⟨M,0,none⟩ (.slice A3 xs.length q3)).setCell ⟨M,1,none⟩ (.slice (some ⟨g,0,none⟩) xs.length xs.length)).heap[w.heap.size]? = some (.cells #[.slice none 0 0,.slice none 0 0] 96 (0,0)):=by
   rw [aR _ (by omega),hB.block _ cg];exact HN.out
  have ck:∀ c ∈ bl ++ bz,c ≠ M∧c ≠ w.heap.size:=fun c hc=>⟨(μ.1 hc).elim (fun h e=>bp (e ▸ h)) fun h e=>bq ((aM c h).symm.trans e),(μ.1 hc).elim (fun h e=>by have:=cc c h; omega) fun h e=>by have:=aM c h; have:=(e4 (hf 4 (by simp))).2.1; omega⟩
  have cl:((J.setCell ⟨M,0,none⟩ (.slice A3 xs.length q3)).setCell ⟨M,1,none⟩ (.slice (some ⟨g,0,none⟩) xs.length xs.length)).heap[M]? = some (.cells #[.slice A3 xs.length q3,.slice (some ⟨g,0,none⟩) xs.length xs.length] 96 (0,0)):=by simpa using bh
  have q5:=wU rs _ b0 _ (bJ.below HR.out br) hm hok;have cn:=η ci;have bt:=η br;have bu:=η cj;have b4:=η cl;have co:=η ck;have d5:=η (τ HA.out.size aL);have d6:Hid (w.heap.size ≠ M):=η (by omega);clear e0 U e2 e3 e4 e5 e6 dd aE bn ao a2 aL cd bp bq ce aM bh aR ci br cj ck cl cb cc hB b2 cg hf HN HA d2;generalize (J.setCell ⟨M,0,none⟩ (.slice A3 xs.length q3)).setCell ⟨M,1,none⟩ (.slice (some ⟨g,0,none⟩) xs.length xs.length)=w4 at *
  go_wp2_with fail
  refine q5.mono ?_;rintro e w5 ⟨aq,rfl,bv,d7⟩;have bw:(ay rs).length=rs.length:=bv.len;obtain ⟨b5,bx,_,cp⟩:=ru bv.blk (by unfold maxLen; omega);rw [bw] at bx
  have cq:Hid (RInv w w.heap.size M (.slice A3 xs.length q3) (.slice (some ⟨g,0,none⟩) xs.length xs.length) (xs,List.replicate xs.length 0) (bl ++ bz) (ay rs) (.slice (some ⟨w4.heap.size,0,none⟩) rs.length rs.length) b5 w5):=η
   ⟨by rw [aq.block _ (ψ bu.out)]; exact bu.out,by rw [aq.block _ (ψ b4.out)]; exact b4.out,oh.below cn.out aq,co.out,bt.out.trans (aq.mono bt.out.size),d5.out,d6.out,bx,fun c hc e=>by have:=cp c hc; have:=ψ b4.out; omega⟩
  have d8:=η bw;clear q5 aq bv d7 bx cp bw bu b4 cn co bt
  go_wp2_with fail
  go_loopw [8,9,10,11,12] (fun nn i _ _ _ wr=>∃ (k n:Nat) (r:Rd) (s t:Value) (bs:List Nat),k≤rs.length+1∧i=.int .i64 k∧nn=.int .i64 n∧Hid (dW rs xs=zY rs (ay rs) (rs.length+1 - k) 302 r n)∧l9 r∧r.1.length≤300∧n≤r.1.length∧Hid (RInv w w.heap.size M s t r bs (ay rs) (.slice (some ⟨w4.heap.size,0,none⟩) rs.length rs.length) b5 wr)) (fun _ i _ _ _ _=>rs.length+1 - (intOf i).toNat)
  case atStart=>exact ⟨0,0,(xs,List.replicate xs.length 0),_,_,_,ε,rfl,rfl,η rfl,⟨c6,List.length_replicate ..⟩,hn,ε,cq⟩
  case round=>
   obtain ⟨k,n,r,s,t,bs,hk,rfl,rfl,a3,ae,ar,bA,hI⟩:=hrel;clear cq;obtain ⟨Az,pz,bB,oz,cz,cr,d9,rfl,rfl,rfl,av,b8,a4⟩:=nO hI.out.rd;have bi:=η ae;clear a4 ae;by_cases c9:k≤rs.length
   ·have ed:(0:Int)≤(k:Int):=by omega
    have da:(k:Int)≤(rs.length:Int):=by omega
    generalize wr=wo at *
    go_wp2_with fail
    go_loopw [8,10,11,12] (fun nn _ _ _ wr=>∃ (fuel n:Nat) (r:Rd) (s t:Value) (bs:List Nat),nn=.int .i64 n∧Hid (dW rs xs=zY rs (ay rs) (rs.length+1 - k) fuel r n)∧l9 r∧r.1.length≤300∧n≤r.1.length∧302≤fuel+r.1.length∧Hid (RInv w w.heap.size M s t r bs (ay rs) (.slice (some ⟨w4.heap.size,0,none⟩) rs.length rs.length) b5 wr)) (fun _ _ _ _ wr=>400 - yA M wr)
    case atStart=>exact ⟨302,n,r,_,_,_,rfl,a3,bi.out,ar,bA,by omega,hI⟩
    case round=>
     clear a3 ar bA hI av b8 bi;obtain ⟨fuel,n,r,s,t,bs,rfl,a3,ae,ar,bA,ee,hI⟩:=hrel;obtain ⟨Az,pz,bB,oz,cz,cr,d9,rfl,rfl,rfl,av,b8,a4⟩:=nO hI.out.rd;obtain ⟨fu,rfl⟩:∃ fu,fuel=fu+1:=⟨fuel - 1,by omega⟩
     have cu:Hid (dW rs xs=if 300 < (dK rs (ay rs) k r (n+1)).1.length then (dK rs (ay rs) k r (n+1),false)
       else if (dK rs (ay rs) k r (n+1)).1.length=r.1.length then zY rs (ay rs) (rs.length - k) 302 (dK rs (ay rs) k r (n+1)) n
       else zY rs (ay rs) (rs.length+1 - k) fu (dK rs (ay rs) k r (n+1)) (n+1)):=η (by
      rw [a3.out,show rs.length+1 - k=(rs.length - k)+1 by omega]
      rw [zY,show rs.length - (rs.length - k)=k by omega])
     have db:=η hI.out.yA;have dc:=η ae;have m0:wr.cell? ⟨M,0,none⟩=some (.slice Az r.1.length pz):=ai hI.out.m_;have q6:=TM rs (ay rs) k r.1 _ _ _ b0 b5 cr wr (bJ.below HR.out hI.out.bel) hI.out.lv_ av d8.out ae.fK ar hm HB.out
     have de:Hid ((fZ r.1 k (rs.zip (ay rs))).length≤64800000000):=η (by
      refine τ (NM (B:=8100000000) (fun p hp=>DI ar (HB.out _ (List.of_mem_zip hp).1).1)) ?_;rw [List.length_zip]
      omega)
     have dg:n≤300:=by omega
     clear a3 av b8 a4 ae
     go_wp2_with fail
     refine q6.mono ?_;rintro e w6 ⟨cv,v6,b6,rfl,h6,cw⟩;obtain ⟨A6,p6,rfl,_,_⟩:=ak h6;have cx:=η (hI.out.below cv);have H6:=η h6
     have cA:Hid (∀ c ∈ b6,c ≠ M∧c ≠ w.heap.size):=η fun c hc=>by
      have h1:=cw c hc;have h2:=ψ hI.out.m_;have h3:=ψ hI.out.n_;omega
     have di:Hid (fZ r.1 k (rs.zip (ay rs))=fZ r.1 k (rs.zip (ay rs))):=η rfl;have cB:Hid (dK rs (ay rs) k r (n+1)=iy (fZ r.1 k (rs.zip (ay rs))) (n+1) r):=η rfl;generalize fZ r.1 k (rs.zip (ay rs))=more at *;clear q6 h6 cw cv hI m0 di
     go_wp2_with fail
     go_loopw [12] (fun i wr=>∃ (q:Nat) (y:Rd) (s' t':Value) (bs':List Nat),q≤more.length∧i=.int .i64 q∧Hid (y=iy (more.take q) (n+1) r)∧l9 y∧y.1.length≤r.1.length+q∧r.1.length≤y.1.length∧Hid (RInv w w.heap.size M s' t' y bs' (ay rs) (.slice (some ⟨w4.heap.size,0,none⟩) rs.length rs.length) b5 wr)∧Hid (aU wr [.slice A6 more.length p6] more b6)) (fun i _=>more.length - (intOf i).toNat)
     case atStart=>exact ⟨0,r,_,_,_,ε,rfl,η rfl,dc.out,ν,ν,cx,H6⟩
     case round=>
      obtain ⟨q,y,s',t',bs',hq,rfl,b9,bj,dj,dk,hJ,af⟩:=hrel;clear cx H6;obtain ⟨Ay,py,bc,oy,cy,dl,dp,rfl,rfl,rfl,bE,bL,aw⟩:=nO hJ.out.rd;have ds:=η aw;have a5:=η bj;clear aw bj;have eg:q≤64800000000:=by have:=de.out; omega
      have m0:wr.cell? ⟨M,0,none⟩=some (.slice Ay y.1.length py):=ai hJ.out.m_;have m1:wr.cell? ⟨M,1,none⟩=some (.slice (some ⟨bc,oy,none⟩) y.2.length cy):=ai hJ.out.m_;by_cases bO:q < more.length
      ·have eh:(0:Int)≤(q:Int):=by omega
       have dt:(q:Int) < (more.length:Int):=by omega
       obtain ⟨mb,mo,Am,cm,bm,rfl,_,e0,U,cD,cE⟩:=dJ af.out bO;have cG:=η (KI more (n+1) r q bO);generalize more[q]=a at *
       go_wp2_with fail
       go_still_tail 6,(by kernel_rfl)
       change wpList _ _ _ _ _ wr.drew;have hD:Below wr.heap.size wr wr.drew:=Below.drew ϑ;have bR:=hJ.out.below hD;have qd:=TU y.1 y.2 a (n+1) _ _ _ bc oy cy dl dp bm wr.drew (au.below bE hD) (aW.below bL hD) (aj.below cD hD) ds.out a5.out.fK (by omega);have e9:((n+1:Nat):Int)=(n:Int)+1:=by omega
       rw [e9] at qd;have cI:=au.below af.out hD;have cJ:=η hJ.out.far;have du:Hid (∀ c ∈ bm,c ≠ M∧c ≠ w.heap.size):=η fun c hc=>cA.out c (cE c hc)
       clear hJ af hD m0 m1 e0 U cD cE bE bL;generalize wr.drew=wd at *
       go_wp2_with fail
       refine qd.mono ?_;rintro e w7 ⟨bX,x0,x1,b7,rfl,h7,cK⟩;have ag:=bR.below bX;have cL:=au.below cI bX;have ei:=ψ bR.m_;have ej:=ψ bR.n_
       have az:∀ c ∈ b7,c ≠ M∧c ≠ w.heap.size:=fun c hc=>by
        rcases cK c hc with h | h
        ·rcases μ.1 h with h | h
         ·exact cJ.out c h
         ·exact du.out c h
        ·omega
       obtain ⟨A7,p7,dv,o7,c7,ek,el,rfl,rfl,rfl,-,-,-⟩:=nO h7;have cP:=η (ag.set h7 az)
       have dx:=η (au.keep (w':=(w7.setCell ⟨M,0,none⟩ (.slice A7 (gG (y.1,y.2) a (n+1)).1.length p7)).setCell ⟨M,1,none⟩ (.slice (some ⟨dv,o7,none⟩) (gG (y.1,y.2) a (n+1)).2.length c7)) cL fun c hc=>by
        have:=(cA.out c hc).1
        rw [π _ _ _ _ this,π _ _ _ _ this])
       have y0:w7.frozen? ⟨M,0,none⟩=false:=ax ag.m_;have y1:w7.frozen? ⟨M,1,none⟩=false:=ax ag.m_;have y2:w7.cell? ⟨M,0,none⟩=some (.slice Ay y.1.length py):=ai ag.m_;have y3:w7.cell? ⟨M,1,none⟩=some (.slice (some ⟨bc,oy,none⟩) y.2.length cy):=ai ag.m_;have c3:=η (KJ (y.1,y.2) a (n+1));have cQ:=a5.out.put a (n+1);have dy:Hid (gG (y.1,y.2) a (n+1)=iy (more.take (q+1)) (n+1) r):=η (by rw [cG.out,← b9.out]);have dz:(gG (y.1,y.2) a (n+1)).1.length≤r.1.length+(q+1):=by have h1:y.1.length≤r.1.length+q:=dj; have h2:=c3.out.2; exact τ h2 (by show y.1.length+1≤_; omega)
       have dC:r.1.length≤(gG (y.1,y.2) a (n+1)).1.length:=τ dk c3.out.1;clear qd h7 cK bX ag cL az cG b9 c3;have bk:l9 (gG (y.1,y.2) a (n+1)):=cQ;have cT:=η bk;clear cQ bk;generalize gG (y.1,y.2) a (n+1)=rn at *;go_wp2;go_roundw
       case rel=>exact ⟨q+1,rn,_,_,_,bO,by go_num,dy,cT.out,dz,dC,cP,dx⟩
       case measure=>simp [intOf]; omega
      ·have he:q=more.length:=by omega
       have dt:¬ (q:Int) < (more.length:Int):=by omega
       have cU:Hid (dK rs (ay rs) k r (n+1)=y):=η (by rw [cB.out,b9.out,he,ϕ ν]);have am:Hid (dW rs xs=if 300 < y.1.length then (y,false) else if y.1.length=r.1.length then zY rs (ay rs) (rs.length - k) 302 y n else zY rs (ay rs) (rs.length+1 - k) fu y (n+1)):=η (by rw [cu.out,cU.out]);clear b9 cu cB cU bE bL he;by_cases aD:300 < y.1.length
       ·have HG:Hid (dW rs xs=(y,false)):=η (by rw [am.out,if_pos aD])
        have c4:(300:Int) < (y.1.length:Int):=by omega
        have n0:wr.cell? ⟨w.heap.size,0,none⟩=some (.slice none 0 0):=ai hJ.out.n_;have n1:wr.cell? ⟨w.heap.size,1,none⟩=some (.slice none 0 0):=ai hJ.out.n_;have n2:wr.frozen? ⟨w.heap.size,0,none⟩=false:=ax hJ.out.n_;have n3:wr.frozen? ⟨w.heap.size,1,none⟩=false:=ax hJ.out.n_;have a0:=η (hJ.out.fin ν);have z0:=a0.out.1;have z1:=a0.out.2.1;clear hJ am af;go_wp2;exact bodyPost_ret (v:=.tuple #[.agg #[.slice Ay y.1.length py,.slice (some ⟨bc,oy,none⟩) y.2.length cy],.bool false]) (by simp [results,Tryz.results56,go_sem,z0,z1]) rfl ⟨a0.out.2.2.1,_,_,by rw [HG.out],_,by rw [HG.out]; exact a0.out.2.2.2⟩
       ·have c4:¬ (300:Int) < (y.1.length:Int):=by omega
        by_cases bf:y.1.length=r.1.length
        ·have HG:Hid (dW rs xs=zY rs (ay rs) (rs.length+1 - (k+1)) 302 y n):=η (by rw [am.out,if_neg aD,if_pos bf,show rs.length+1 - (k+1)=rs.length - k by omega])
         have cV:(y.1.length:Int)=(r.1.length:Int):=by omega
         have c5:Hid (n≤y.1.length):=η (by omega);have bg:Hid (y.1.length≤300):=η (by omega);clear am af bf;go_wp2;go_roundw
         case rel=>exact ⟨k+1,n,y,_,_,_,by omega,by go_num,by go_num,HG,a5.out,bg.out,c5.out,hJ⟩
         case measure=>simp [intOf]; omega
        ·have HG:Hid (dW rs xs=zY rs (ay rs) (rs.length+1 - k) fu y (n+1)):=η (by rw [am.out,if_neg aD,if_neg bf])
         have cV:¬ (y.1.length:Int)=(r.1.length:Int):=by omega
         have c5:Hid (n+1≤y.1.length):=η (by omega);have bg:Hid (y.1.length≤300):=η (by omega);have dE:Hid (302≤fu+y.1.length):=η (by omega);have dT:=η hJ.out.yA;have e7:Hid (r.1.length < y.1.length):=η (by omega);clear am af bf;go_wp2;go_roundw
         case rel=>exact ⟨fu,n+1,y,_,_,_,by go_num,HG,a5.out,bg.out,c5.out,dE.out,hJ⟩
         case measure=>rw [db.out,dT.out]; have:=e7.out; have:=bg.out; omega
   ·have he:k=rs.length+1:=by omega
    have da:¬ (k:Int)≤(rs.length:Int):=by omega
    have HG:Hid (dW rs xs=(r,true)):=η (by
     rw [a3.out,he,Nat.sub_self];unfold zY
     rfl)
    have m0:wr.cell? ⟨M,0,none⟩=some (.slice Az r.1.length pz):=ai hI.out.m_;have m1:wr.cell? ⟨M,1,none⟩=some (.slice (some ⟨bB,oz,none⟩) r.2.length cz):=ai hI.out.m_;have n0:wr.cell? ⟨w.heap.size,0,none⟩=some (.slice none 0 0):=ai hI.out.n_;have n1:wr.cell? ⟨w.heap.size,1,none⟩=some (.slice none 0 0):=ai hI.out.n_;have n2:wr.frozen? ⟨w.heap.size,0,none⟩=false:=ax hI.out.n_;have n3:wr.frozen? ⟨w.heap.size,1,none⟩=false:=ax hI.out.n_;have a0:=η (hI.out.fin ν);have z0:=a0.out.1;have z1:=a0.out.2.1;clear hI av b8 a3 he;go_wp2;exact bodyPost_ret (v:=.tuple #[.agg #[.slice Az r.1.length pz,.slice (some ⟨bB,oz,none⟩) r.2.length cz],.bool true]) (by simp [results,Tryz.results56,go_sem,z0,z1]) rfl ⟨a0.out.2.2.1,_,_,by rw [HG.out],_,by rw [HG.out]; exact a0.out.2.2.2⟩
end Go.Proofs.YtkjinanbccloeaaGreatDoor
