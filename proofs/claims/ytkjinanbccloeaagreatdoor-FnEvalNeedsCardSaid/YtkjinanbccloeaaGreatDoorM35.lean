/- Of the proof of FnEvalNeeds: RunS. -/
import Derived.Test.YtkjinanbccloeaaGreatDoorM33
set_option linter.unusedVariables false
set_option maxHeartbeats 8000000
set_option maxRecDepth 100000
namespace Go.Proofs.YtkjinanbccloeaaGreatDoor
open Go.RowKit D
attribute [local go_sem ↓] Go.wp_at_zero Go.wp_at_succ
theorem D.MW {list:List A} {level B:Nat} {rl:List (Ru × Nat)} (h:∀ p ∈ rl,(allB list p.1.body).length≤B):(iF list level rl).length≤rl.length * B:=by
 have h1:∀ (bs:List Bd) (r:Ru) (out:List A),(bs.foldl (fun o b=>dP o (bU r.head b)) out).length≤out.length+bs.length:=by
  intro bs r
  induction bs with
  | nil=>intro out; exact ν
  | cons b bs ih=>
   intro out;have y:=ih (dP out (bU r.head b));have I:=GL out (bU r.head b);simp only [List.foldl_cons,List.length_cons];omega
 have y:∀ k,k≤rl.length→(iF list level (rl.take k)).length≤k * B:=by
  intro k
  induction k with
  | zero=>intro _; simp [iF]
  | succ k ih=>
   intro J;have I:=ih (by omega);rw [Dx list level rl k (by omega),Nat.add_mul]
   split
   ·have U:=h1 (allB list rl[k].1.body) rl[k].1 (iF list level (rl.take k))
    have h5:=h _ (δ (show k < rl.length by omega));unfold Ec;omega
   ·omega
 have:=y rl.length ν
 rwa [ϕ ν] at this
structure D.RInv (W:World) (N M:Nat) (s t:Value) (r:Rd) (bs:List Nat) (lv:List Nat) (vl:Value) (bl:List Nat) (w:World):Prop where
 n_:w.heap[N]? = some (.cells #[.slice none 0 0,.slice none 0 0] 96 (0,0))
 m_:w.heap[M]? = some (.cells #[s,t] 96 (0,0))
 rd:qm w [s,t] r bs
 far:∀ c ∈ bs,c ≠ M∧c ≠ N
 bel:Below W.heap.size W w
 ge:W.heap.size≤M
 nm:N ≠ M
 lv_:jf w [vl] lv bl
 lf:∀ c ∈ bl,c ≠ M
theorem D.RInv.below {W:World} {N M:Nat} {s t:Value} {r:Rd} {bs lv:List Nat} {I:Value} {J:List Nat} {w w':World} (h:RInv W N M s t r bs lv I J w) (y:Below w.heap.size w w'):RInv W N M s t r bs lv I J w':=
 ⟨by rw [y.block _ (ψ h.n_)]; exact h.n_,by rw [y.block _ (ψ h.m_)]; exact h.m_,nT.below h.rd y,h.far,h.bel.trans (y.mono h.bel.size),h.ge,h.nm,dB.below h.lv_ y,h.lf⟩
theorem D.RInv.set {W:World} {N M:Nat} {s t y I:Value} {r U:Rd} {bs bs' lv:List Nat} {vl:Value} {bl:List Nat} {w:World} (h:RInv W N M s t r bs lv vl bl w) (h':qm w [y,I] U bs') (hf:∀ c ∈ bs',c ≠ M∧c ≠ N):
  RInv W N M y I U bs' lv vl bl ((w.setCell ⟨M,0,none⟩ y).setCell ⟨M,1,none⟩ I):=by
 have J:∀ k,k ≠ M→((w.setCell ⟨M,0,none⟩ y).setCell ⟨M,1,none⟩ I).heap[k]? = w.heap[k]?:=fun k J=>by rw [π _ _ _ _ J,π _ _ _ _ J]
 exact ⟨(J _ h.nm).trans h.n_,by simpa using bP (o:=1) (u:=I) (bP (o:=0) (u:=y) h.m_),nT.keep h' fun c hc=>J c (hf c hc).1,hf,(h.bel.setCell (p:=⟨M,0,none⟩) h.ge y).setCell (p:=⟨M,1,none⟩) h.ge I,h.ge,h.nm,dB.keep h.lv_ fun c hc=>J c (h.lf c hc),h.lf⟩
theorem D.nC {w:World} {s t:Value} {r:Rd} {bs:List Nat} (h:qm w [s,t] r bs):∃ A p b o c b0 I,s=.slice A r.1.length p∧t=.slice (some ⟨b,o,none⟩) r.2.length c∧bs=b0 ++ I∧aV w [.slice A r.1.length p] r.1 b0∧jf w [.slice (some ⟨b,o,none⟩) r.2.length c] r.2 I∧r.2.length=r.1.length:=by
 obtain ⟨s',b,o,c,b0,I,y,rfl,h1,J,U⟩:=h;simp only [List.cons.injEq,and_true] at y;obtain ⟨rfl,rfl⟩:=y;obtain ⟨A,p,rfl,_⟩:=ak h1;exact ⟨A,p,b,o,c,b0,I,rfl,rfl,rfl,h1,J,U⟩
theorem D.RInv.fin {W:World} {N M:Nat} {s t:Value} {r:Rd} {bs lv:List Nat} {J:Value} {U:List Nat} {w:World} (h:RInv W N M s t r bs lv J U w) (I:W.heap.size≤N):
  ((w.setCell ⟨N,0,none⟩ s).setCell ⟨N,1,none⟩ t).cell? ⟨N,0,none⟩=some s∧((w.setCell ⟨N,0,none⟩ s).setCell ⟨N,1,none⟩ t).cell? ⟨N,1,none⟩=some t∧Below W.heap.size W ((w.setCell ⟨N,0,none⟩ s).setCell ⟨N,1,none⟩ t)∧qm ((w.setCell ⟨N,0,none⟩ s).setCell ⟨N,1,none⟩ t) [s,t] r bs:=by
 have hf:=bP (o:=1) (u:=t) (bP (o:=0) (u:=s) h.n_);refine ⟨ai hf,ai hf,(h.bel.setCell (p:=⟨N,0,none⟩) I s).setCell (p:=⟨N,1,none⟩) I t,nT.keep h.rd fun c hc=>?_⟩;have y:=(h.far c hc).2;rw [π _ _ _ _ y,π _ _ _ _ y]
def D.yu (M:Nat) (w:World):Nat:=match w.cell? ⟨M,0,none⟩ with | some (.slice _ n _)=>n | _=>0
theorem D.RInv.yu {W:World} {N M:Nat} {A:Option Addr} {p:Nat} {t:Value} {r:Rd} {bs lv:List Nat} {y:Value} {I:List Nat} {w:World} (h:RInv W N M (.slice A r.1.length p) t r bs lv y I w):yu M w=r.1.length:=by
 have:w.cell? ⟨M,0,none⟩=some (.slice A r.1.length p):=ai h.m_;unfold D.yu;rw [this]
theorem D.Py (n:Nat) {w:World} {g:Nat} (h:w.heap[g]? = some (.cells (madeCells #[.int .i64 0] n) 3 (0,0))) (hm:n≤maxLen):∃ bs,jf w [.slice (some ⟨g,0,none⟩) n n] (List.replicate n 0) bs∧∀ c ∈ bs,c=g:=by
 rw [CU] at h;obtain ⟨bs,h1,_,y⟩:=ru h (by simpa using hm);rw [List.length_replicate] at h1;exact ⟨bs,h1,y⟩
def D.SJ (w0:World) (N:Nat) (xs:List A) (Ar Ag:Option Addr) (n1 p1 J p2:Nat) (f:Nat→Bool) (a:Act) (w':World):Prop:=
 ∃ (v6 a0 y a1 a2 I a3:Value) (M g:Nat) (bl:List Nat) (U:World),a=⟨#[.slice Ar n1 p1,.slice Ag J p2,undef,undef,.pointer (some ⟨N,0,none⟩),.bool false,v6,undef,undef,undef,undef,undef,undef,a0,y,a1,a2,I,a3,undef,undef,undef,undef,undef,undef,undef,undef,undef,undef,undef,undef,undef,undef,undef,undef,undef,undef,undef,undef,undef,undef,undef,undef,undef,undef,undef,undef,undef,undef,undef,undef,undef,undef,undef,undef,undef,undef,undef,undef,undef,undef,undef,undef,undef],[]⟩∧Below w0.heap.size w0 U∧
  (f 0=true→a0=.slice Ag J p2)∧(f 1=true→(∃ A cap,y=.slice A xs.length cap)∧aV U [y] xs bl∧∀ c ∈ bl,w0.heap.size≤c)∧(f 2=true→a1=.slice Ag J p2)∧(f 3=true→a2=.int .i64 J)∧
  (f 4=true→I=.slice (some ⟨g,0,none⟩) J J∧w0.heap.size≤g∧U.heap[g]? = some (.cells (madeCells #[.int .i64 0] J) 3 (0,0)))∧(f 5=true→a3=.agg #[y,I]∧f 1=true∧f 4=true)∧
  (f 6=true→v6=.pointer (some ⟨M,0,none⟩)∧w0.heap.size≤M∧U.heap[M]? = some (.cells #[.slice none 0 0,.slice none 0 0] 96 (0,0)))∧(f 6=true→(f 1=true→M ∉ bl)∧(f 4=true→g ≠ M))∧
  (f 7=false→w'=U)∧(f 7=true→w'=(U.setCell ⟨M,0,none⟩ y).setCell ⟨M,1,none⟩ I)∧(f 7=true→∀ i,i < 7→f i=true)
theorem run_any (rs:List Ru) (xs:List A) (v0 v1:Value) (b0 b1:List Nat) (w:World) (hr:dI w [v0] rs b0) (hx:aV w [v1] xs b1) (c5:gB xs=true) (hn:xs.length≤300) (hm:rs.length≤8) (hok:rs.all dM=true)
  (hb:∀ r ∈ rs,r.body.length≤4∧r.head.args.length≤1000∧∀ p ∈ r.body,p.atom.args.length≤1000) (c6:∀ a ∈ xs,a.args.length≤1000):
  Calls Tryz.prog 56 #[v0,v1] w fun e w'=>Below w.heap.size w w'∧∃ e0 U bs',e=.returned (.tuple #[.agg #[e0,U],.bool (gu rs xs).2])∧qm w' [e0,U] (gu rs xs).1 bs':=by
 obtain ⟨Ar,p1,rfl,cW,cX⟩:=ak hr;obtain ⟨Ag,p2,rfl,cY,d0⟩:=ak hx;have HR:=η hr;have HX:=η hx;have HB:=η hb;have d1:=η c6;have d2:=fun w'=>run_make_row' (P:=Tryz.prog) 49 3 (.int .i64 0) 8 Tryz.underlying49 AU rfl .i64 .i64 xs.length (by omega) (by omega) w'
 have hA:Below w.heap.size w (w.alloc (.cells #[.slice none 0 0,.slice none 0 0] 96)):=ζ;have hN:=ω w (.cells #[.slice none 0 0,.slice none 0 0] 96);clear hr hx cW cX cY d0 hb c6
 go_enter Tryz.func56,Tryz.ntmps56
 go_wp2_with fail
 generalize w.alloc (.cells #[.slice none 0 0,.slice none 0 0] 96)=w0 at *;have HA:=η hA;have HN:=η hN;clear hA hN;refine nX (SJ w0 w.heap.size xs Ar Ag rs.length p1 xs.length p2) (by kernel_rfl) (by kernel_rfl) ?h0 ?hs ?hd
 case h0=>exact ⟨undef,undef,undef,undef,undef,undef,undef,0,0,[],_,rfl,ϑ.drew,fun h=>(by cases h),fun h=>(by cases h),fun h=>(by cases h),fun h=>(by cases h),fun h=>(by cases h),fun h=>(by cases h),fun h=>(by cases h),fun h=>(by cases h),fun _=>rfl,fun h=>(by cases h),fun h=>(by cases h)⟩
 case hs=>
  intro i oo ho f aa J hJ hf I;obtain ⟨v6,a6,a7,a8,a9,ab,a1,M,g,bl,wi,rfl,hB,e0,U,e2,e3,e4,e5,e6,dd,aE,bn,ao⟩:=hJ;by_cases d3:i=7
  case pos=>
   subst d3;obtain rfl:=Option.some.inj ho;simp [Region.binds] at I;obtain ⟨f6,f5,f1,f0,_,f2,f3,f4,_⟩:=I;obtain rfl:=aE hf;have g5:=(e5 f5).1;have g6:=(e6 f6).1;have g4:=(e4 f4).1;subst g5;subst g6;subst g4;obtain ⟨⟨A3,q3,rfl⟩,_⟩:=U f1;have a2:=(e6 f6).2.2;have e8:J.frozen? ⟨M,0,none⟩=false:=ax a2;have ea:J.frozen? ⟨M,1,none⟩=false:=ax a2;have eb:J.cell? ⟨M,0,none⟩=some (.slice none 0 0):=ai a2;have ec:J.cell? ⟨M,1,none⟩=some (.slice none 0 0):=ai a2;refine wpOp_step rfl (fun K' hK=>?_);go_simp;refine hK _ _ ?_;refine ⟨_,_,_,_,_,_,_,M,g,bl,J,rfl,hB,fun _=>?_,U,fun _=>?_,fun _=>?_,e4,fun _=>⟨rfl,f1,f4⟩,fun _=>⟨rfl,(e6 f6).2⟩,dd,fun h=>(by cases h),fun _=>rfl,fun _ i hi=>?_⟩
   ·first | rfl | exact e0 f0
   ·first | rfl | exact e2 f2
   ·first | rfl | exact e3 f3
   match i,hi with
   | 0,_=>exact f0
   | 1,_=>exact f1
   | 2,_=>exact f2
   | 3,_=>exact f3
   | 4,_=>exact f4
   | 5,_=>exact f5
   | 6,_=>exact f6
   | q+7,h=>omega
  case neg=>
   have h7:f 7=false:=by
    cases hc:f 7 with
    | false=>rfl
    | true=>
     by_cases c8:i < 7
     ·exact absurd (ao hc i c8) (by simp [hf])
     ·exfalso
      rw [Array.getElem?_eq_none (by simp; omega)] at ho;cases ho
   obtain rfl:=aE h7;have ac:=hB.size
   match i,ho,hf,I with
   | 0,ho,hf,I=>
    obtain rfl:=Option.some.inj ho;refine wpOp_step rfl (fun K' hK=>?_);go_simp;refine hK _ _ ?_;exact ⟨v6,(.slice Ag xs.length p2),a7,a8,a9,ab,a1,M,g,bl,_,rfl,hB,fun _=>rfl,U,e2,e3,e4,e5,e6,dd,fun _=>rfl,Φ h7,Φ h7⟩
   | 1,ho,hf,I=>
    obtain rfl:=Option.some.inj ho;simp [Region.binds] at I;have g0:=e0 I;subst g0;have d4:=HA.out.trans (hB.mono HA.out.size);have q:=L8 xs _ b1 J (au.below HX.out d4) (by omega) (fun a ha=>τ (d1.out a ha) (by omega));refine wpOp_step rfl (fun K' hK=>?_);go_simp;refine q.mono ?_;rintro e w3 ⟨bo,v3,b3,rfl,h3,c9⟩;obtain ⟨A3,q3,rfl,_⟩:=ak h3;refine hK _ _ ?_;exact ⟨v6,_,(.slice A3 xs.length q3),a8,a9,ab,a1,M,g,b3,_,rfl,hB.trans (bo.mono ac),fun _=>rfl,fun _=>⟨⟨_,_,rfl⟩,h3,fun c hc=>τ ac (c9 c hc)⟩,e2,e3,fun h=>⟨(e4 h).1,(e4 h).2.1,(bo.block _ (ψ (e4 h).2.2)).trans (e4 h).2.2⟩,fun h=>absurd ((e5 h).2.1.symm.trans hf) (by decide),fun h=>⟨(e6 h).1,(e6 h).2.1,(bo.block _ (ψ (e6 h).2.2)).trans (e6 h).2.2⟩,fun h=>⟨fun _ hc=>by have:=c9 _ hc; have:=ψ (e6 h).2.2; omega,(dd h).2⟩,fun _=>rfl,Φ h7,Φ h7⟩
   | 2,ho,hf,I=>
    obtain rfl:=Option.some.inj ho;refine wpOp_step rfl (fun K' hK=>?_);go_simp;refine hK _ _ ?_;exact ⟨v6,a6,a7,(.slice Ag xs.length p2),a9,ab,a1,M,g,bl,_,rfl,hB,e0,U,fun _=>rfl,e3,e4,e5,e6,dd,fun _=>rfl,Φ h7,Φ h7⟩
   | 3,ho,hf,I=>
    obtain rfl:=Option.some.inj ho;simp [Region.binds] at I;have g2:=e2 I;subst g2;refine wpOp_step rfl (fun K' hK=>?_);go_simp;refine hK _ _ ?_;exact ⟨v6,a6,a7,_,(.int .i64 xs.length),ab,a1,M,g,bl,_,rfl,hB,e0,U,fun _=>rfl,fun _=>rfl,e4,e5,e6,dd,fun _=>rfl,Φ h7,Φ h7⟩
   | 4,ho,hf,I=>
    obtain rfl:=Option.some.inj ho;simp [Region.binds] at I;have g3:=e3 I;subst g3;have ap:Below J.heap.size J (J.alloc (.cells (madeCells #[.int .i64 0] xs.length) 3)):=ζ;refine wpOp_step rfl (fun K' hK=>?_);go_simp;refine hK _ _ ?_;exact ⟨v6,a6,a7,a8,_,(.slice (some ⟨J.heap.size,0,none⟩) xs.length xs.length),a1,M,J.heap.size,bl,_,rfl,hB.alloc ac _,e0,fun h=>⟨(U h).1,au.below (U h).2.1 ap,(U h).2.2⟩,e2,fun _=>rfl,fun _=>⟨rfl,ac,ω J _⟩,fun h=>absurd ((e5 h).2.2.symm.trans hf) (by decide),fun h=>⟨(e6 h).1,(e6 h).2.1,(ap.block _ (ψ (e6 h).2.2)).trans (e6 h).2.2⟩,fun h=>⟨(dd h).1,fun _ e=>by have:=ψ (e6 h).2.2; omega⟩,fun _=>rfl,Φ h7,Φ h7⟩
   | 5,ho,hf,I=>
    obtain rfl:=Option.some.inj ho;simp [Region.binds] at I;obtain ⟨f1,f4⟩:=I;obtain ⟨⟨A3,q3,rfl⟩,_⟩:=U f1;have g4:=(e4 f4).1;subst g4;refine wpOp_step rfl (fun K' hK=>?_);go_simp;refine hK _ _ ?_;exact ⟨v6,a6,_,a8,a9,_,_,M,g,bl,_,rfl,hB,e0,U,e2,e3,fun _=>⟨rfl,(e4 f4).2⟩,fun _=>⟨rfl,f1,f4⟩,e6,dd,fun _=>rfl,Φ h7,Φ h7⟩
   | 6,ho,hf,I=>
    obtain rfl:=Option.some.inj ho;have ap:Below J.heap.size J (J.alloc (.cells #[.slice none 0 0,.slice none 0 0] 96)):=ζ;refine wpOp_step rfl (fun K' hK=>?_);go_simp;refine hK _ _ ?_;exact ⟨(.pointer (some ⟨J.heap.size,0,none⟩)),a6,a7,a8,a9,ab,a1,J.heap.size,g,bl,_,rfl,hB.alloc ac _,e0,fun h=>⟨(U h).1,au.below (U h).2.1 ap,(U h).2.2⟩,e2,e3,fun h=>⟨(e4 h).1,(e4 h).2.1,(ap.block _ (ψ (e4 h).2.2)).trans (e4 h).2.2⟩,e5,fun _=>⟨rfl,ac,ω J _⟩,fun _=>⟨fun h hc=>by have:=au.lt (U h).2.1 _ hc; omega,fun h e=>by have:=ψ (e4 h).2.2; omega⟩,fun _=>rfl,Φ h7,Φ h7⟩
   | q+7,ho,hf,I=>
    rw [Array.getElem?_eq_none (by simp; omega)] at ho;cases ho
 case hd=>
  intro f aa w3 hf hJ;obtain ⟨v6,a6,a7,a8,a9,ab,a1,M,g,bl,J,rfl,hB,e0,U,e2,e3,e4,e5,e6,dd,aE,bn,ao⟩:=hJ;obtain rfl:=bn (hf 7 (by simp));obtain rfl:=(e6 (hf 6 (by simp))).1;obtain rfl:=(e4 (hf 4 (by simp))).1;obtain ⟨⟨A3,q3,rfl⟩,ca,cb⟩:=U (hf 1 (by simp));have a2:=(e6 (hf 6 (by simp))).2.2;have aL:=(e6 (hf 6 (by simp))).2.1;have cc:=(e4 (hf 4 (by simp))).2.2;have bp:=(dd (hf 6 (by simp))).1 (hf 1 (by simp));have bq:=(dd (hf 6 (by simp))).2 (hf 4 (by simp));obtain ⟨bz,cd,aM⟩:=Py xs.length cc (by unfold maxLen; omega);have bh:=bP (o:=1) (u:=.slice (some ⟨g,0,none⟩) xs.length xs.length) (bP (o:=0) (u:=.slice A3 xs.length q3) a2);have aR:∀ c,c ≠ M→((J.setCell ⟨M,0,none⟩ (.slice A3 xs.length q3)).setCell ⟨M,1,none⟩ (.slice (some ⟨g,0,none⟩) xs.length xs.length)).heap[c]? = J.heap[c]?:=fun c hc=>by rw [π _ _ _ _ hc,π _ _ _ _ hc]
  have ce:w.heap.size < w0.heap.size:=ψ HN.out;have b2:(List.replicate xs.length 0).length=xs.length:=List.length_replicate ..
  have cg:qm ((J.setCell ⟨M,0,none⟩ (.slice A3 xs.length q3)).setCell ⟨M,1,none⟩ (.slice (some ⟨g,0,none⟩) xs.length xs.length)) [.slice A3 xs.length q3,.slice (some ⟨g,0,none⟩) xs.length xs.length] (xs,List.replicate xs.length 0) (bl ++ bz):=
   ⟨_,g,0,xs.length,bl,bz,by rw [b2],rfl,au.keep ca fun c hc=>aR c fun e=>bp (e ▸ hc),by rw [b2]; exact dB.keep cd fun c hc=>aR c fun e=>bq ((aM c hc).symm.trans e),b2⟩
  have br:=((HA.out.trans (hB.mono HA.out.size)).setCell (p:=⟨M,0,none⟩) (τ HA.out.size aL) (.slice A3 xs.length q3)).setCell (p:=⟨M,1,none⟩) (τ HA.out.size aL) (.slice (some ⟨g,0,none⟩) xs.length xs.length)
  have ci:((J.setCell ⟨M,0,none⟩ (.slice A3 xs.length q3)).setCell ⟨M,1,none⟩ (.slice (some ⟨g,0,none⟩) xs.length xs.length)).heap[w.heap.size]? = some (.cells #[.slice none 0 0,.slice none 0 0] 96 (0,0)):=by
   rw [aR _ (by omega),hB.block _ ce];exact HN.out
  have cj:∀ c ∈ bl ++ bz,c ≠ M∧c ≠ w.heap.size:=fun c hc=>⟨(μ.1 hc).elim (fun h e=>bp (e ▸ h)) fun h e=>bq ((aM c h).symm.trans e),(μ.1 hc).elim (fun h e=>by have:=cb c h; omega) fun h e=>by have:=aM c h; have:=(e4 (hf 4 (by simp))).2.1; omega⟩
  have ck:((J.setCell ⟨M,0,none⟩ (.slice A3 xs.length q3)).setCell ⟨M,1,none⟩ (.slice (some ⟨g,0,none⟩) xs.length xs.length)).heap[M]? = some (.cells #[.slice A3 xs.length q3,.slice (some ⟨g,0,none⟩) xs.length xs.length] 96 (0,0)):=by simpa using bh
  have q5:=wL rs _ b0 _ (bG.below HR.out br) hm hok;have cl:=η cg;have bt:=η br;have bu:=η ci;have b4:=η ck;have cn:=η cj;have d5:=η (τ HA.out.size aL);have d6:Hid (w.heap.size ≠ M):=η (by omega);clear e0 U e2 e3 e4 e5 e6 dd aE bn ao a2 aL cc bp bq cd aM bh aR cg br ci cj ck ca cb hB b2 ce hf HN HA d2;generalize (J.setCell ⟨M,0,none⟩ (.slice A3 xs.length q3)).setCell ⟨M,1,none⟩ (.slice (some ⟨g,0,none⟩) xs.length xs.length)=w4 at *
  go_wp2_with fail
  refine q5.mono ?_;rintro e w5 ⟨aq,rfl,bv,d7⟩;have bw:(ay rs).length=rs.length:=bv.len;obtain ⟨b5,bx,_,co⟩:=ru bv.blk (by unfold maxLen; omega);rw [bw] at bx
  have cp:Hid (RInv w w.heap.size M (.slice A3 xs.length q3) (.slice (some ⟨g,0,none⟩) xs.length xs.length) (xs,List.replicate xs.length 0) (bl ++ bz) (ay rs) (.slice (some ⟨w4.heap.size,0,none⟩) rs.length rs.length) b5 w5):=η
   ⟨by rw [aq.block _ (ψ bu.out)]; exact bu.out,by rw [aq.block _ (ψ b4.out)]; exact b4.out,nT.below cl.out aq,cn.out,bt.out.trans (aq.mono bt.out.size),d5.out,d6.out,bx,fun c hc e=>by have:=co c hc; have:=ψ b4.out; omega⟩
  have d8:=η bw;clear q5 aq bv d7 bx co bw bu b4 cl cn bt
  go_wp2_with fail
  go_loopw [8,9,10,11,12] (fun nn i _ _ _ wr=>∃ (k n:Nat) (r:Rd) (s t:Value) (bs:List Nat),k≤rs.length+1∧i=.int .i64 k∧nn=.int .i64 n∧Hid (gu rs xs=AV rs (ay rs) (rs.length+1 - k) 302 r n)∧oh r∧r.1.length≤300∧n≤r.1.length∧Hid (RInv w w.heap.size M s t r bs (ay rs) (.slice (some ⟨w4.heap.size,0,none⟩) rs.length rs.length) b5 wr)) (fun _ i _ _ _ _=>rs.length+1 - (intOf i).toNat)
  case atStart=>exact ⟨0,0,(xs,List.replicate xs.length 0),_,_,_,ε,rfl,rfl,η rfl,⟨c5,List.length_replicate ..⟩,hn,ε,cp⟩
  case round=>
   obtain ⟨k,n,r,s,t,bs,hk,rfl,rfl,a3,ae,ar,bA,hI⟩:=hrel;clear cp;obtain ⟨Az,pz,bB,oz,cz,cq,d9,rfl,rfl,rfl,av,b8,a4⟩:=nC hI.out.rd;have bi:=η ae;clear a4 ae;by_cases c8:k≤rs.length
   ·have ed:(0:Int)≤(k:Int):=by omega
    have da:(k:Int)≤(rs.length:Int):=by omega
    generalize wr=wo at *
    go_wp2_with fail
    go_loopw [8,10,11,12] (fun nn _ _ _ wr=>∃ (fuel n:Nat) (r:Rd) (s t:Value) (bs:List Nat),nn=.int .i64 n∧Hid (gu rs xs=AV rs (ay rs) (rs.length+1 - k) fuel r n)∧oh r∧r.1.length≤300∧n≤r.1.length∧302≤fuel+r.1.length∧Hid (RInv w w.heap.size M s t r bs (ay rs) (.slice (some ⟨w4.heap.size,0,none⟩) rs.length rs.length) b5 wr)) (fun _ _ _ _ wr=>400 - yu M wr)
    case atStart=>exact ⟨302,n,r,_,_,_,rfl,a3,bi.out,ar,bA,by omega,hI⟩
    case round=>
     clear a3 ar bA hI av b8 bi;obtain ⟨fuel,n,r,s,t,bs,rfl,a3,ae,ar,bA,ee,hI⟩:=hrel;obtain ⟨Az,pz,bB,oz,cz,cq,d9,rfl,rfl,rfl,av,b8,a4⟩:=nC hI.out.rd;obtain ⟨fu,rfl⟩:∃ fu,fuel=fu+1:=⟨fuel - 1,by omega⟩
     have cr:Hid (gu rs xs=if 300 < (eu rs (ay rs) k r (n+1)).1.length then (eu rs (ay rs) k r (n+1),false)
       else if (eu rs (ay rs) k r (n+1)).1.length=r.1.length then AV rs (ay rs) (rs.length - k) 302 (eu rs (ay rs) k r (n+1)) n
       else AV rs (ay rs) (rs.length+1 - k) fu (eu rs (ay rs) k r (n+1)) (n+1)):=η (by
      rw [a3.out,show rs.length+1 - k=(rs.length - k)+1 by omega]
      rw [AV,show rs.length - (rs.length - k)=k by omega])
     have db:=η hI.out.yu;have dc:=η ae;have m0:wr.cell? ⟨M,0,none⟩=some (.slice Az r.1.length pz):=ai hI.out.m_;have q6:=RX rs (ay rs) k r.1 _ _ _ b0 b5 cq wr (bG.below HR.out hI.out.bel) hI.out.lv_ av d8.out ae.gB ar hm HB.out
     have de:Hid ((iF r.1 k (rs.zip (ay rs))).length≤64800000000):=η (by
      refine τ (MW (B:=8100000000) (fun p hp=>JQ ar (HB.out _ (List.of_mem_zip hp).1).1)) ?_;rw [List.length_zip]
      omega)
     have dg:n≤300:=by omega
     clear a3 av b8 a4 ae
     go_wp2_with fail
     refine q6.mono ?_;rintro e w6 ⟨cv,v6,b6,rfl,h6,cw⟩;obtain ⟨A6,p6,rfl,_,_⟩:=ak h6;have cx:=η (hI.out.below cv);have H6:=η h6
     have cA:Hid (∀ c ∈ b6,c ≠ M∧c ≠ w.heap.size):=η fun c hc=>by
      have h1:=cw c hc;have h2:=ψ hI.out.m_;have h3:=ψ hI.out.n_;omega
     have di:Hid (iF r.1 k (rs.zip (ay rs))=iF r.1 k (rs.zip (ay rs))):=η rfl;have cB:Hid (eu rs (ay rs) k r (n+1)=iL (iF r.1 k (rs.zip (ay rs))) (n+1) r):=η rfl;generalize iF r.1 k (rs.zip (ay rs))=more at *;clear q6 h6 cw cv hI m0 di
     go_wp2_with fail
     go_loopw [12] (fun i wr=>∃ (q:Nat) (y:Rd) (s' t':Value) (bs':List Nat),q≤more.length∧i=.int .i64 q∧Hid (y=iL (more.take q) (n+1) r)∧oh y∧y.1.length≤r.1.length+q∧r.1.length≤y.1.length∧Hid (RInv w w.heap.size M s' t' y bs' (ay rs) (.slice (some ⟨w4.heap.size,0,none⟩) rs.length rs.length) b5 wr)∧Hid (aV wr [.slice A6 more.length p6] more b6)) (fun i _=>more.length - (intOf i).toNat)
     case atStart=>exact ⟨0,r,_,_,_,ε,rfl,η rfl,dc.out,ν,ν,cx,H6⟩
     case round=>
      obtain ⟨q,y,s',t',bs',hq,rfl,b9,bj,dj,dk,hJ,af⟩:=hrel;clear cx H6;obtain ⟨Ay,py,bc,oy,cy,dl,dp,rfl,rfl,rfl,bE,bL,aw⟩:=nC hJ.out.rd;have ds:=η aw;have a5:=η bj;clear aw bj;have eg:q≤64800000000:=by have:=de.out; omega
      have m0:wr.cell? ⟨M,0,none⟩=some (.slice Ay y.1.length py):=ai hJ.out.m_;have m1:wr.cell? ⟨M,1,none⟩=some (.slice (some ⟨bc,oy,none⟩) y.2.length cy):=ai hJ.out.m_;by_cases bO:q < more.length
      ·have eh:(0:Int)≤(q:Int):=by omega
       have dt:(q:Int) < (more.length:Int):=by omega
       obtain ⟨mb,mo,Am,cm,bm,rfl,_,e0,U,cD,cE⟩:=dY af.out bO;have cG:=η (J3 more (n+1) r q bO);generalize more[q]=a at *
       go_wp2_with fail
       go_still_tail 6,(by kernel_rfl)
       change wpList _ _ _ _ _ wr.drew;have hD:Below wr.heap.size wr wr.drew:=Below.drew ϑ;have bR:=hJ.out.below hD;have qd:=Sr y.1 y.2 a (n+1) _ _ _ bc oy cy dl dp bm wr.drew (au.below bE hD) (dB.below bL hD) (aj.below cD hD) ds.out a5.out.gB (by omega);have e9:((n+1:Nat):Int)=(n:Int)+1:=by omega
       rw [e9] at qd;have cI:=au.below af.out hD;have cJ:=η hJ.out.far;have du:Hid (∀ c ∈ bm,c ≠ M∧c ≠ w.heap.size):=η fun c hc=>cA.out c (cE c hc)
       clear hJ af hD m0 m1 e0 U cD cE bE bL;generalize wr.drew=wd at *
       go_wp2_with fail
       refine qd.mono ?_;rintro e w7 ⟨bX,x0,x1,b7,rfl,h7,cK⟩;have ag:=bR.below bX;have cL:=au.below cI bX;have ei:=ψ bR.m_;have ej:=ψ bR.n_
       have az:∀ c ∈ b7,c ≠ M∧c ≠ w.heap.size:=fun c hc=>by
        rcases cK c hc with h | h
        ·rcases μ.1 h with h | h
         ·exact cJ.out c h
         ·exact du.out c h
        ·omega
       obtain ⟨A7,p7,dv,o7,c7,ek,el,rfl,rfl,rfl,-,-,-⟩:=nC h7;have cP:=η (ag.set h7 az)
       have dx:=η (au.keep (w':=(w7.setCell ⟨M,0,none⟩ (.slice A7 (gq (y.1,y.2) a (n+1)).1.length p7)).setCell ⟨M,1,none⟩ (.slice (some ⟨dv,o7,none⟩) (gq (y.1,y.2) a (n+1)).2.length c7)) cL fun c hc=>by
        have:=(cA.out c hc).1
        rw [π _ _ _ _ this,π _ _ _ _ this])
       have y0:w7.frozen? ⟨M,0,none⟩=false:=ax ag.m_;have y1:w7.frozen? ⟨M,1,none⟩=false:=ax ag.m_;have y2:w7.cell? ⟨M,0,none⟩=some (.slice Ay y.1.length py):=ai ag.m_;have y3:w7.cell? ⟨M,1,none⟩=some (.slice (some ⟨bc,oy,none⟩) y.2.length cy):=ai ag.m_;have c0:=η (J4 (y.1,y.2) a (n+1));have cQ:=a5.out.put a (n+1);have dy:Hid (gq (y.1,y.2) a (n+1)=iL (more.take (q+1)) (n+1) r):=η (by rw [cG.out,← b9.out]);have dz:(gq (y.1,y.2) a (n+1)).1.length≤r.1.length+(q+1):=by have h1:y.1.length≤r.1.length+q:=dj; have h2:=c0.out.2; exact τ h2 (by show y.1.length+1≤_; omega)
       have dC:r.1.length≤(gq (y.1,y.2) a (n+1)).1.length:=τ dk c0.out.1;clear qd h7 cK bX ag cL az cG b9 c0;have bk:oh (gq (y.1,y.2) a (n+1)):=cQ;have cT:=η bk;clear cQ bk;generalize gq (y.1,y.2) a (n+1)=rn at *;go_wp2;go_roundw
       case rel=>exact ⟨q+1,rn,_,_,_,bO,by go_num,dy,cT.out,dz,dC,cP,dx⟩
       case measure=>simp [intOf]; omega
      ·have he:q=more.length:=by omega
       have dt:¬ (q:Int) < (more.length:Int):=by omega
       have cU:Hid (eu rs (ay rs) k r (n+1)=y):=η (by rw [cB.out,b9.out,he,ϕ ν]);have am:Hid (gu rs xs=if 300 < y.1.length then (y,false) else if y.1.length=r.1.length then AV rs (ay rs) (rs.length - k) 302 y n else AV rs (ay rs) (rs.length+1 - k) fu y (n+1)):=η (by rw [cr.out,cU.out]);clear b9 cr cB cU bE bL he;by_cases aD:300 < y.1.length
       ·have HG:Hid (gu rs xs=(y,false)):=η (by rw [am.out,if_pos aD])
        have c3:(300:Int) < (y.1.length:Int):=by omega
        have n0:wr.cell? ⟨w.heap.size,0,none⟩=some (.slice none 0 0):=ai hJ.out.n_;have n1:wr.cell? ⟨w.heap.size,1,none⟩=some (.slice none 0 0):=ai hJ.out.n_;have n2:wr.frozen? ⟨w.heap.size,0,none⟩=false:=ax hJ.out.n_;have n3:wr.frozen? ⟨w.heap.size,1,none⟩=false:=ax hJ.out.n_;have a0:=η (hJ.out.fin ν);have z0:=a0.out.1;have z1:=a0.out.2.1;clear hJ am af;go_wp2;exact bodyPost_ret (v:=.tuple #[.agg #[.slice Ay y.1.length py,.slice (some ⟨bc,oy,none⟩) y.2.length cy],.bool false]) (by simp [results,Tryz.results56,go_sem,z0,z1]) rfl ⟨a0.out.2.2.1,_,_,by rw [HG.out],_,by rw [HG.out]; exact a0.out.2.2.2⟩
       ·have c3:¬ (300:Int) < (y.1.length:Int):=by omega
        by_cases bf:y.1.length=r.1.length
        ·have HG:Hid (gu rs xs=AV rs (ay rs) (rs.length+1 - (k+1)) 302 y n):=η (by rw [am.out,if_neg aD,if_pos bf,show rs.length+1 - (k+1)=rs.length - k by omega])
         have cV:(y.1.length:Int)=(r.1.length:Int):=by omega
         have c4:Hid (n≤y.1.length):=η (by omega);have bg:Hid (y.1.length≤300):=η (by omega);clear am af bf;go_wp2;go_roundw
         case rel=>exact ⟨k+1,n,y,_,_,_,by omega,by go_num,by go_num,HG,a5.out,bg.out,c4.out,hJ⟩
         case measure=>simp [intOf]; omega
        ·have HG:Hid (gu rs xs=AV rs (ay rs) (rs.length+1 - k) fu y (n+1)):=η (by rw [am.out,if_neg aD,if_neg bf])
         have cV:¬ (y.1.length:Int)=(r.1.length:Int):=by omega
         have c4:Hid (n+1≤y.1.length):=η (by omega);have bg:Hid (y.1.length≤300):=η (by omega);have dE:Hid (302≤fu+y.1.length):=η (by omega);have dT:=η hJ.out.yu;have e7:Hid (r.1.length < y.1.length):=η (by omega);clear am af bf;go_wp2;go_roundw
         case rel=>exact ⟨fu,n+1,y,_,_,_,by go_num,HG,a5.out,bg.out,c4.out,dE.out,hJ⟩
         case measure=>rw [db.out,dT.out]; have:=e7.out; have:=bg.out; omega
   ·have he:k=rs.length+1:=by omega
    have da:¬ (k:Int)≤(rs.length:Int):=by omega
    have HG:Hid (gu rs xs=(r,true)):=η (by
     rw [a3.out,he,Nat.sub_self];unfold AV
     rfl)
    have m0:wr.cell? ⟨M,0,none⟩=some (.slice Az r.1.length pz):=ai hI.out.m_;have m1:wr.cell? ⟨M,1,none⟩=some (.slice (some ⟨bB,oz,none⟩) r.2.length cz):=ai hI.out.m_;have n0:wr.cell? ⟨w.heap.size,0,none⟩=some (.slice none 0 0):=ai hI.out.n_;have n1:wr.cell? ⟨w.heap.size,1,none⟩=some (.slice none 0 0):=ai hI.out.n_;have n2:wr.frozen? ⟨w.heap.size,0,none⟩=false:=ax hI.out.n_;have n3:wr.frozen? ⟨w.heap.size,1,none⟩=false:=ax hI.out.n_;have a0:=η (hI.out.fin ν);have z0:=a0.out.1;have z1:=a0.out.2.1;clear hI av b8 a3 he;go_wp2;exact bodyPost_ret (v:=.tuple #[.agg #[.slice Az r.1.length pz,.slice (some ⟨bB,oz,none⟩) r.2.length cz],.bool true]) (by simp [results,Tryz.results56,go_sem,z0,z1]) rfl ⟨a0.out.2.2.1,_,_,by rw [HG.out],_,by rw [HG.out]; exact a0.out.2.2.2⟩
end Go.Proofs.YtkjinanbccloeaaGreatDoor
