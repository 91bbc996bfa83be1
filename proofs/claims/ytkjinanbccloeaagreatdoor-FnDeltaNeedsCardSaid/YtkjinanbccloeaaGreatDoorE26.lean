/- Of the proof of FnDeltaNeeds: RunS, NeedI. -/
import Derived.Test.YtkjinanbccloeaaGreatDoorE25
set_option linter.unusedVariables false
set_option maxHeartbeats 8000000
set_option maxRecDepth 100000
namespace Go.Proofs.YtkjinanbccloeaaGreatDoor
open Go.RowKit D
attribute [local go_sem ↓] Go.wp_at_zero Go.wp_at_succ
theorem D.PY {list:List A} {level B:Nat} {rl:List (Ru × Nat)} (h:∀ p ∈ rl,(allB list p.1.body).length≤B):(jo list level rl).length≤rl.length * B:=by
 have h1:∀ (bs:List Bd) (r:Ru) (out:List A),(bs.foldl (fun o b=>eG o (cO r.head b)) out).length≤out.length+bs.length:=by
  intro bs r
  induction bs with
  | nil=>intro out; exact ν
  | cons b bs ih=>
   intro out;have y:=ih (eG out (cO r.head b));have I:=JJ out (cO r.head b);simp only [List.foldl_cons,List.length_cons];omega
 have y:∀ k,k≤rl.length→(jo list level (rl.take k)).length≤k * B:=by
  intro k
  induction k with
  | zero=>intro _; simp [jo]
  | succ k ih=>
   intro J;have I:=ih (by omega);rw [FO list level rl k (by omega),Nat.add_mul]
   split
   ·have U:=h1 (allB list rl[k].1.body) rl[k].1 (jo list level (rl.take k))
    have h5:=h _ (δ (show k < rl.length by omega));unfold Gt;omega
   ·omega
 have:=y rl.length ν
 rwa [ϕ ν] at this
structure D.RInv (W:World) (N M:Nat) (s t:Value) (r:Rd) (bs:List Nat) (lv:List Nat) (vl:Value) (bl:List Nat) (w:World):Prop where
 n_:w.heap[N]? = some (.cells #[.slice none 0 0,.slice none 0 0] 96 (0,0))
 m_:w.heap[M]? = some (.cells #[s,t] 96 (0,0))
 rd:sS w [s,t] r bs
 far:∀ c ∈ bs,c ≠ M∧c ≠ N
 bel:Below W.heap.size W w
 ge:W.heap.size≤M
 nm:N ≠ M
 lv_:jT w [vl] lv bl
 lf:∀ c ∈ bl,c ≠ M
theorem D.RInv.below {W:World} {N M:Nat} {s t:Value} {r:Rd} {bs lv:List Nat} {y:Value} {I:List Nat} {w w':World} (h:RInv W N M s t r bs lv y I w) (hb:Below w.heap.size w w'):RInv W N M s t r bs lv y I w':=
 ⟨by rw [hb.block _ (ψ h.n_)]; exact h.n_,by rw [hb.block _ (ψ h.m_)]; exact h.m_,qj.below h.rd hb,h.far,h.bel.trans (hb.mono h.bel.size),h.ge,h.nm,dS.below h.lv_ hb,h.lf⟩
theorem D.RInv.set {W:World} {N M:Nat} {s t y I:Value} {r U:Rd} {bs bs' lv:List Nat} {vl:Value} {bl:List Nat} {w:World} (h:RInv W N M s t r bs lv vl bl w) (h':sS w [y,I] U bs') (hf:∀ c ∈ bs',c ≠ M∧c ≠ N):
  RInv W N M y I U bs' lv vl bl ((w.setCell ⟨M,0,none⟩ y).setCell ⟨M,1,none⟩ I):=by
 have J:∀ k,k ≠ M→((w.setCell ⟨M,0,none⟩ y).setCell ⟨M,1,none⟩ I).heap[k]? = w.heap[k]?:=fun k J=>by rw [π _ _ _ _ J,π _ _ _ _ J]
 exact ⟨(J _ h.nm).trans h.n_,by simpa using bY (o:=1) (u:=I) (bY (o:=0) (u:=y) h.m_),qj.keep h' fun c hc=>J c (hf c hc).1,hf,(h.bel.setCell (p:=⟨M,0,none⟩) h.ge y).setCell (p:=⟨M,1,none⟩) h.ge I,h.ge,h.nm,dS.keep h.lv_ fun c hc=>J c (h.lf c hc),h.lf⟩
theorem D.pV {w:World} {s t:Value} {r:Rd} {bs:List Nat} (h:sS w [s,t] r bs):∃ A p b o c b0 I,s=.slice A r.1.length p∧t=.slice (some ⟨b,o,none⟩) r.2.length c∧bs=b0 ++ I∧aC w [.slice A r.1.length p] r.1 b0∧jT w [.slice (some ⟨b,o,none⟩) r.2.length c] r.2 I∧r.2.length=r.1.length:=by
 obtain ⟨s',b,o,c,b0,I,y,rfl,h1,J,U⟩:=h;simp only [List.cons.injEq,and_true] at y;obtain ⟨rfl,rfl⟩:=y;obtain ⟨A,p,rfl,_⟩:=aj h1;exact ⟨A,p,b,o,c,b0,I,rfl,rfl,rfl,h1,J,U⟩
theorem D.RInv.fin {W:World} {N M:Nat} {s t:Value} {r:Rd} {bs lv:List Nat} {J:Value} {U:List Nat} {w:World} (h:RInv W N M s t r bs lv J U w) (I:W.heap.size≤N):
  ((w.setCell ⟨N,0,none⟩ s).setCell ⟨N,1,none⟩ t).cell? ⟨N,0,none⟩=some s∧((w.setCell ⟨N,0,none⟩ s).setCell ⟨N,1,none⟩ t).cell? ⟨N,1,none⟩=some t∧Below W.heap.size W ((w.setCell ⟨N,0,none⟩ s).setCell ⟨N,1,none⟩ t)∧sS ((w.setCell ⟨N,0,none⟩ s).setCell ⟨N,1,none⟩ t) [s,t] r bs:=by
 have hf:=bY (o:=1) (u:=t) (bY (o:=0) (u:=s) h.n_);refine ⟨ai hf,ai hf,(h.bel.setCell (p:=⟨N,0,none⟩) I s).setCell (p:=⟨N,1,none⟩) I t,qj.keep h.rd fun c hc=>?_⟩;have y:=(h.far c hc).2;rw [π _ _ _ _ y,π _ _ _ _ y]
def D.BK (M:Nat) (w:World):Nat:=match w.cell? ⟨M,0,none⟩ with | some (.slice _ n _)=>n | _=>0
theorem D.RInv.BK {W:World} {N M:Nat} {A:Option Addr} {p:Nat} {t:Value} {r:Rd} {bs lv:List Nat} {y:Value} {I:List Nat} {w:World} (h:RInv W N M (.slice A r.1.length p) t r bs lv y I w):BK M w=r.1.length:=by
 have:w.cell? ⟨M,0,none⟩=some (.slice A r.1.length p):=ai h.m_;unfold D.BK;rw [this]
theorem D.Tt (n:Nat) {w:World} {g:Nat} (h:w.heap[g]? = some (.cells (madeCells #[.int .i64 0] n) 3 (0,0))) (hm:n≤maxLen):∃ bs,jT w [.slice (some ⟨g,0,none⟩) n n] (List.replicate n 0) bs∧∀ c ∈ bs,c=g:=by
 rw [ER] at h;obtain ⟨bs,h1,_,y⟩:=uO h (by simpa using hm);rw [List.length_replicate] at h1;exact ⟨bs,h1,y⟩
def D.SJ (w0:World) (N:Nat) (xs:List A) (Ar Ag:Option Addr) (n1 p1 J p2:Nat) (f:Nat→Bool) (a:Act) (w':World):Prop:=
 ∃ (v6 a0 y a1 a2 I a3:Value) (M g:Nat) (bl:List Nat) (U:World),a=⟨#[.slice Ar n1 p1,.slice Ag J p2,undef,undef,.pointer (some ⟨N,0,none⟩),.bool false,v6,undef,undef,undef,undef,undef,undef,a0,y,a1,a2,I,a3,undef,undef,undef,undef,undef,undef,undef,undef,undef,undef,undef,undef,undef,undef,undef,undef,undef,undef,undef,undef,undef,undef,undef,undef,undef,undef,undef,undef,undef,undef,undef,undef,undef,undef,undef,undef,undef,undef,undef,undef,undef,undef,undef,undef,undef],[]⟩∧Below w0.heap.size w0 U∧
  (f 0=true→a0=.slice Ag J p2)∧(f 1=true→(∃ A cap,y=.slice A xs.length cap)∧aC U [y] xs bl∧∀ c ∈ bl,w0.heap.size≤c)∧(f 2=true→a1=.slice Ag J p2)∧(f 3=true→a2=.int .i64 J)∧
  (f 4=true→I=.slice (some ⟨g,0,none⟩) J J∧w0.heap.size≤g∧U.heap[g]? = some (.cells (madeCells #[.int .i64 0] J) 3 (0,0)))∧(f 5=true→a3=.agg #[y,I]∧f 1=true∧f 4=true)∧
  (f 6=true→v6=.pointer (some ⟨M,0,none⟩)∧w0.heap.size≤M∧U.heap[M]? = some (.cells #[.slice none 0 0,.slice none 0 0] 96 (0,0)))∧(f 6=true→(f 1=true→M ∉ bl)∧(f 4=true→g ≠ M))∧
  (f 7=false→w'=U)∧(f 7=true→w'=(U.setCell ⟨M,0,none⟩ y).setCell ⟨M,1,none⟩ I)∧(f 7=true→∀ i,i < 7→f i=true)
theorem run_any (rs:List Ru) (xs:List A) (v0 v1:Value) (b0 b1:List Nat) (w:World) (hr:dW w [v0] rs b0) (hx:aC w [v1] xs b1) (c8:gm xs=true) (hn:xs.length≤300) (hm:rs.length≤8) (hok:rs.all eY=true)
  (hb:∀ r ∈ rs,r.body.length≤4∧r.head.args.length≤1000∧∀ p ∈ r.body,p.atom.args.length≤1000) (c9:∀ a ∈ xs,a.args.length≤1000):
  Calls Tryz.prog 56 #[v0,v1] w fun e w'=>Below w.heap.size w w'∧∃ e0 U bs',e=.returned (.tuple #[.agg #[e0,U],.bool (jb rs xs).2])∧sS w' [e0,U] (jb rs xs).1 bs':=by
 obtain ⟨Ar,p1,rfl,cY,d0⟩:=aj hr;obtain ⟨Ag,p2,rfl,d1,d2⟩:=aj hx;have HR:=η hr;have HX:=η hx;have HB:=η hb;have d3:=η c9;have d4:=fun w'=>run_make_row' (P:=Tryz.prog) 49 3 (.int .i64 0) 8 Tryz.underlying49 D9 rfl .i64 .i64 xs.length (by omega) (by omega) w'
 have hA:Below w.heap.size w (w.alloc (.cells #[.slice none 0 0,.slice none 0 0] 96)):=ζ;have hN:=ω w (.cells #[.slice none 0 0,.slice none 0 0] 96);clear hr hx cY d0 d1 d2 hb c9
 go_enter Tryz.func56,Tryz.ntmps56
 go_wp2_with fail
 generalize w.alloc (.cells #[.slice none 0 0,.slice none 0 0] 96)=w0 at *;have HA:=η hA;have HN:=η hN;clear hA hN;refine qo (SJ w0 w.heap.size xs Ar Ag rs.length p1 xs.length p2) (by kernel_rfl) (by kernel_rfl) ?h0 ?hs ?hd
 case h0=>exact ⟨undef,undef,undef,undef,undef,undef,undef,0,0,[],_,rfl,ϑ.drew,fun h=>(by cases h),fun h=>(by cases h),fun h=>(by cases h),fun h=>(by cases h),fun h=>(by cases h),fun h=>(by cases h),fun h=>(by cases h),fun h=>(by cases h),fun _=>rfl,fun h=>(by cases h),fun h=>(by cases h)⟩
 case hs=>
  intro i oo ho f aa J hJ hf I;obtain ⟨v6,a6,a7,a8,a9,ab,a1,M,g,bl,wi,rfl,hB,e0,U,e2,e3,e4,e5,e6,dd,aL,bo,ao⟩:=hJ;by_cases d5:i=7
  case pos=>
   subst d5;obtain rfl:=Option.some.inj ho;simp [Region.binds] at I;obtain ⟨f6,f5,f1,f0,_,f2,f3,f4,_⟩:=I;obtain rfl:=aL hf;have g5:=(e5 f5).1;have g6:=(e6 f6).1;have g4:=(e4 f4).1;subst g5;subst g6;subst g4;obtain ⟨⟨A3,q3,rfl⟩,_⟩:=U f1;have a2:=(e6 f6).2.2;have eb:J.frozen? ⟨M,0,none⟩=false:=ax a2;have ec:J.frozen? ⟨M,1,none⟩=false:=ax a2;have ed:J.cell? ⟨M,0,none⟩=some (.slice none 0 0):=ai a2;have ee:J.cell? ⟨M,1,none⟩=some (.slice none 0 0):=ai a2;refine wpOp_step rfl (fun K' hK=>?_);go_simp;refine hK _ _ ?_;refine ⟨_,_,_,_,_,_,_,M,g,bl,J,rfl,hB,fun _=>?_,U,fun _=>?_,fun _=>?_,e4,fun _=>⟨rfl,f1,f4⟩,fun _=>⟨rfl,(e6 f6).2⟩,dd,fun h=>(by cases h),fun _=>rfl,fun _ i hi=>?_⟩
   ·first | rfl | exact e0 f0
   ·first | rfl | exact e2 f2
   ·first | rfl | exact e3 f3
   match i,hi with
   | 0,_=>exact f0
   | 1,_=>exact f1
   | 2,_=>exact f2
   | 3,_=>exact f3
   | 4,_=>exact f4
   | 5,_=>exact f5
   | 6,_=>exact f6
   | q+7,h=>omega
  case neg=>
   have h7:f 7=false:=by
    cases hc:f 7 with
    | false=>rfl
    | true=>
     by_cases ca:i < 7
     ·exact absurd (ao hc i ca) (by simp [hf])
     ·exfalso
      rw [Array.getElem?_eq_none (by simp; omega)] at ho;cases ho
   obtain rfl:=aL h7;have ac:=hB.size
   match i,ho,hf,I with
   | 0,ho,hf,I=>
    obtain rfl:=Option.some.inj ho;refine wpOp_step rfl (fun K' hK=>?_);go_simp;refine hK _ _ ?_;exact ⟨v6,(.slice Ag xs.length p2),a7,a8,a9,ab,a1,M,g,bl,_,rfl,hB,fun _=>rfl,U,e2,e3,e4,e5,e6,dd,fun _=>rfl,Φ h7,Φ h7⟩
   | 1,ho,hf,I=>
    obtain rfl:=Option.some.inj ho;simp [Region.binds] at I;have g0:=e0 I;subst g0;have d6:=HA.out.trans (hB.mono HA.out.size);have q:=EJ xs _ b1 J (au.below HX.out d6) (by omega) (fun a ha=>τ (d3.out a ha) (by omega));refine wpOp_step rfl (fun K' hK=>?_);go_simp;refine q.mono ?_;rintro e w3 ⟨bp,v3,b3,rfl,h3,cb⟩;obtain ⟨A3,q3,rfl,_⟩:=aj h3;refine hK _ _ ?_;exact ⟨v6,_,(.slice A3 xs.length q3),a8,a9,ab,a1,M,g,b3,_,rfl,hB.trans (bp.mono ac),fun _=>rfl,fun _=>⟨⟨_,_,rfl⟩,h3,fun c hc=>τ ac (cb c hc)⟩,e2,e3,fun h=>⟨(e4 h).1,(e4 h).2.1,(bp.block _ (ψ (e4 h).2.2)).trans (e4 h).2.2⟩,fun h=>absurd ((e5 h).2.1.symm.trans hf) (by decide),fun h=>⟨(e6 h).1,(e6 h).2.1,(bp.block _ (ψ (e6 h).2.2)).trans (e6 h).2.2⟩,fun h=>⟨fun _ hc=>by have:=cb _ hc; have:=ψ (e6 h).2.2; omega,(dd h).2⟩,fun _=>rfl,Φ h7,Φ h7⟩
   | 2,ho,hf,I=>
    obtain rfl:=Option.some.inj ho;refine wpOp_step rfl (fun K' hK=>?_);go_simp;refine hK _ _ ?_;exact ⟨v6,a6,a7,(.slice Ag xs.length p2),a9,ab,a1,M,g,bl,_,rfl,hB,e0,U,fun _=>rfl,e3,e4,e5,e6,dd,fun _=>rfl,Φ h7,Φ h7⟩
   | 3,ho,hf,I=>
    obtain rfl:=Option.some.inj ho;simp [Region.binds] at I;have g2:=e2 I;subst g2;refine wpOp_step rfl (fun K' hK=>?_);go_simp;refine hK _ _ ?_;exact ⟨v6,a6,a7,_,(.int .i64 xs.length),ab,a1,M,g,bl,_,rfl,hB,e0,U,fun _=>rfl,fun _=>rfl,e4,e5,e6,dd,fun _=>rfl,Φ h7,Φ h7⟩
   | 4,ho,hf,I=>
    obtain rfl:=Option.some.inj ho;simp [Region.binds] at I;have g3:=e3 I;subst g3;have aq:Below J.heap.size J (J.alloc (.cells (madeCells #[.int .i64 0] xs.length) 3)):=ζ;refine wpOp_step rfl (fun K' hK=>?_);go_simp;refine hK _ _ ?_;exact ⟨v6,a6,a7,a8,_,(.slice (some ⟨J.heap.size,0,none⟩) xs.length xs.length),a1,M,J.heap.size,bl,_,rfl,hB.alloc ac _,e0,fun h=>⟨(U h).1,au.below (U h).2.1 aq,(U h).2.2⟩,e2,fun _=>rfl,fun _=>⟨rfl,ac,ω J _⟩,fun h=>absurd ((e5 h).2.2.symm.trans hf) (by decide),fun h=>⟨(e6 h).1,(e6 h).2.1,(aq.block _ (ψ (e6 h).2.2)).trans (e6 h).2.2⟩,fun h=>⟨(dd h).1,fun _ e=>by have:=ψ (e6 h).2.2; omega⟩,fun _=>rfl,Φ h7,Φ h7⟩
   | 5,ho,hf,I=>
    obtain rfl:=Option.some.inj ho;simp [Region.binds] at I;obtain ⟨f1,f4⟩:=I;obtain ⟨⟨A3,q3,rfl⟩,_⟩:=U f1;have g4:=(e4 f4).1;subst g4;refine wpOp_step rfl (fun K' hK=>?_);go_simp;refine hK _ _ ?_;exact ⟨v6,a6,_,a8,a9,_,_,M,g,bl,_,rfl,hB,e0,U,e2,e3,fun _=>⟨rfl,(e4 f4).2⟩,fun _=>⟨rfl,f1,f4⟩,e6,dd,fun _=>rfl,Φ h7,Φ h7⟩
   | 6,ho,hf,I=>
    obtain rfl:=Option.some.inj ho;have aq:Below J.heap.size J (J.alloc (.cells #[.slice none 0 0,.slice none 0 0] 96)):=ζ;refine wpOp_step rfl (fun K' hK=>?_);go_simp;refine hK _ _ ?_;exact ⟨(.pointer (some ⟨J.heap.size,0,none⟩)),a6,a7,a8,a9,ab,a1,J.heap.size,g,bl,_,rfl,hB.alloc ac _,e0,fun h=>⟨(U h).1,au.below (U h).2.1 aq,(U h).2.2⟩,e2,e3,fun h=>⟨(e4 h).1,(e4 h).2.1,(aq.block _ (ψ (e4 h).2.2)).trans (e4 h).2.2⟩,e5,fun _=>⟨rfl,ac,ω J _⟩,fun _=>⟨fun h hc=>by have:=au.lt (U h).2.1 _ hc; omega,fun h e=>by have:=ψ (e4 h).2.2; omega⟩,fun _=>rfl,Φ h7,Φ h7⟩
   | q+7,ho,hf,I=>
    rw [Array.getElem?_eq_none (by simp; omega)] at ho;cases ho
 case hd=>
  intro f aa w3 hf hJ;obtain ⟨v6,a6,a7,a8,a9,ab,a1,M,g,bl,J,rfl,hB,e0,U,e2,e3,e4,e5,e6,dd,aL,bo,ao⟩:=hJ;obtain rfl:=bo (hf 7 (by simp));obtain rfl:=(e6 (hf 6 (by simp))).1;obtain rfl:=(e4 (hf 4 (by simp))).1;obtain ⟨⟨A3,q3,rfl⟩,cc,cd⟩:=U (hf 1 (by simp));have a2:=(e6 (hf 6 (by simp))).2.2;have aM:=(e6 (hf 6 (by simp))).2.1;have ce:=(e4 (hf 4 (by simp))).2.2;have bq:=(dd (hf 6 (by simp))).1 (hf 1 (by simp));have br:=(dd (hf 6 (by simp))).2 (hf 4 (by simp));obtain ⟨bz,cg,aR⟩:=Tt xs.length ce (by unfold maxLen; omega);have bi:=bY (o:=1) (u:=.slice (some ⟨g,0,none⟩) xs.length xs.length) (bY (o:=0) (u:=.slice A3 xs.length q3) a2);have b2:∀ c,c ≠ M→((J.setCell ⟨M,0,none⟩ (.slice A3 xs.length q3)).setCell ⟨M,1,none⟩ (.slice (some ⟨g,0,none⟩) xs.length xs.length)).heap[c]? = J.heap[c]?:=fun c hc=>by rw [π _ _ _ _ hc,π _ _ _ _ hc]
  have ci:w.heap.size < w0.heap.size:=ψ HN.out;have b4:(List.replicate xs.length 0).length=xs.length:=List.length_replicate ..
  have cj:sS ((J.setCell ⟨M,0,none⟩ (.slice A3 xs.length q3)).setCell ⟨M,1,none⟩ (.slice (some ⟨g,0,none⟩) xs.length xs.length)) [.slice A3 xs.length q3,.slice (some ⟨g,0,none⟩) xs.length xs.length] (xs,List.replicate xs.length 0) (bl ++ bz):=
   ⟨_,g,0,xs.length,bl,bz,by rw [b4],rfl,au.keep cc fun c hc=>b2 c fun e=>bq (e ▸ hc),by rw [b4]; exact dS.keep cg fun c hc=>b2 c fun e=>br ((aR c hc).symm.trans e),b4⟩
  have bt:=((HA.out.trans (hB.mono HA.out.size)).setCell (p:=⟨M,0,none⟩) (τ HA.out.size aM) (.slice A3 xs.length q3)).setCell (p:=⟨M,1,none⟩) (τ HA.out.size aM) (.slice (some ⟨g,0,none⟩) xs.length xs.length)
  have ck:((J.setCell ⟨M,0,none⟩ (.slice A3 xs.length q3)).setCell ⟨M,1,none⟩ (.slice (some ⟨g,0,none⟩) xs.length xs.length)).heap[w.heap.size]? = some (.cells #[.slice none 0 0,.slice none 0 0] 96 (0,0)):=by
   rw [b2 _ (by omega),hB.block _ ci];exact HN.out
  have cl:∀ c ∈ bl ++ bz,c ≠ M∧c ≠ w.heap.size:=fun c hc=>⟨(μ.1 hc).elim (fun h e=>bq (e ▸ h)) fun h e=>br ((aR c h).symm.trans e),(μ.1 hc).elim (fun h e=>by have:=cd c h; omega) fun h e=>by have:=aR c h; have:=(e4 (hf 4 (by simp))).2.1; omega⟩
  have cn:((J.setCell ⟨M,0,none⟩ (.slice A3 xs.length q3)).setCell ⟨M,1,none⟩ (.slice (some ⟨g,0,none⟩) xs.length xs.length)).heap[M]? = some (.cells #[.slice A3 xs.length q3,.slice (some ⟨g,0,none⟩) xs.length xs.length] 96 (0,0)):=by simpa using bi
  have q5:=zf rs _ b0 _ (aS.below HR.out bt) hm hok;have co:=η cj;have bu:=η bt;have bv:=η ck;have b8:=η cn;have cp:=η cl;have d7:=η (τ HA.out.size aM);have d8:Hid (w.heap.size ≠ M):=η (by omega);clear e0 U e2 e3 e4 e5 e6 dd aL bo ao a2 aM ce bq br cg aR bi b2 cj bt ck cl cn cc cd hB b4 ci hf HN HA d4;generalize (J.setCell ⟨M,0,none⟩ (.slice A3 xs.length q3)).setCell ⟨M,1,none⟩ (.slice (some ⟨g,0,none⟩) xs.length xs.length)=w4 at *
  go_wp2_with fail
  refine q5.mono ?_;rintro e w5 ⟨ar,rfl,bw,d9⟩;have bx:(aA rs).length=rs.length:=bw.len;obtain ⟨b5,bA,_,cq⟩:=uO bw.blk (by unfold maxLen; omega);rw [bx] at bA
  have cr:Hid (RInv w w.heap.size M (.slice A3 xs.length q3) (.slice (some ⟨g,0,none⟩) xs.length xs.length) (xs,List.replicate xs.length 0) (bl ++ bz) (aA rs) (.slice (some ⟨w4.heap.size,0,none⟩) rs.length rs.length) b5 w5):=η
   ⟨by rw [ar.block _ (ψ bv.out)]; exact bv.out,by rw [ar.block _ (ψ b8.out)]; exact b8.out,qj.below co.out ar,cp.out,bu.out.trans (ar.mono bu.out.size),d7.out,d8.out,bA,fun c hc e=>by have:=cq c hc; have:=ψ b8.out; omega⟩
  have da:=η bx;clear q5 ar bw d9 bA cq bx bv b8 co cp bu
  go_wp2_with fail
  go_loopw [8,9,10,11,12] (fun nn i _ _ _ wr=>∃ (k n:Nat) (r:Rd) (s t:Value) (bs:List Nat),k≤rs.length+1∧i=.int .i64 k∧nn=.int .i64 n∧Hid (jb rs xs=Ea rs (aA rs) (rs.length+1 - k) 302 r n)∧qB r∧r.1.length≤300∧n≤r.1.length∧Hid (RInv w w.heap.size M s t r bs (aA rs) (.slice (some ⟨w4.heap.size,0,none⟩) rs.length rs.length) b5 wr)) (fun _ i _ _ _ _=>rs.length+1 - (intOf i).toNat)
  case atStart=>exact ⟨0,0,(xs,List.replicate xs.length 0),_,_,_,ε,rfl,rfl,η rfl,⟨c8,List.length_replicate ..⟩,hn,ε,cr⟩
  case round=>
   obtain ⟨k,n,r,s,t,bs,hk,rfl,rfl,a3,ae,av,bB,hI⟩:=hrel;clear cr;obtain ⟨Az,pz,bE,oz,cz,cv,db,rfl,rfl,rfl,aw,b9,a4⟩:=pV hI.out.rd;have bj:=η ae;clear a4 ae;by_cases ca:k≤rs.length
   ·have eg:(0:Int)≤(k:Int):=by omega
    have dc:(k:Int)≤(rs.length:Int):=by omega
    generalize wr=wo at *
    go_wp2_with fail
    go_loopw [8,10,11,12] (fun nn _ _ _ wr=>∃ (fuel n:Nat) (r:Rd) (s t:Value) (bs:List Nat),nn=.int .i64 n∧Hid (jb rs xs=Ea rs (aA rs) (rs.length+1 - k) fuel r n)∧qB r∧r.1.length≤300∧n≤r.1.length∧302≤fuel+r.1.length∧Hid (RInv w w.heap.size M s t r bs (aA rs) (.slice (some ⟨w4.heap.size,0,none⟩) rs.length rs.length) b5 wr)) (fun _ _ _ _ wr=>400 - BK M wr)
    case atStart=>exact ⟨302,n,r,_,_,_,rfl,a3,bj.out,av,bB,by omega,hI⟩
    case round=>
     clear a3 av bB hI aw b9 bj;obtain ⟨fuel,n,r,s,t,bs,rfl,a3,ae,av,bB,eh,hI⟩:=hrel;obtain ⟨Az,pz,bE,oz,cz,cv,db,rfl,rfl,rfl,aw,b9,a4⟩:=pV hI.out.rd;obtain ⟨fu,rfl⟩:∃ fu,fuel=fu+1:=⟨fuel - 1,by omega⟩
     have cw:Hid (jb rs xs=if 300 < (fU rs (aA rs) k r (n+1)).1.length then (fU rs (aA rs) k r (n+1),false)
       else if (fU rs (aA rs) k r (n+1)).1.length=r.1.length then Ea rs (aA rs) (rs.length - k) 302 (fU rs (aA rs) k r (n+1)) n
       else Ea rs (aA rs) (rs.length+1 - k) fu (fU rs (aA rs) k r (n+1)) (n+1)):=η (by
      rw [a3.out,show rs.length+1 - k=(rs.length - k)+1 by omega]
      rw [Ea,show rs.length - (rs.length - k)=k by omega])
     have de:=η hI.out.BK;have dg:=η ae;have m0:wr.cell? ⟨M,0,none⟩=some (.slice Az r.1.length pz):=ai hI.out.m_;have q6:=VA rs (aA rs) k r.1 _ _ _ b0 b5 cv wr (aS.below HR.out hI.out.bel) hI.out.lv_ aw da.out ae.gm av hm HB.out
     have di:Hid ((jo r.1 k (rs.zip (aA rs))).length≤64800000000):=η (by
      refine τ (PY (B:=8100000000) (fun p hp=>Nv av (HB.out _ (List.of_mem_zip hp).1).1)) ?_;rw [List.length_zip]
      omega)
     have dj:n≤300:=by omega
     clear a3 aw b9 a4 ae
     go_wp2_with fail
     refine q6.mono ?_;rintro e w6 ⟨cx,v6,b6,rfl,h6,cA⟩;obtain ⟨A6,p6,rfl,_,_⟩:=aj h6;have cB:=η (hI.out.below cx);have H6:=η h6
     have cD:Hid (∀ c ∈ b6,c ≠ M∧c ≠ w.heap.size):=η fun c hc=>by
      have h1:=cA c hc;have h2:=ψ hI.out.m_;have h3:=ψ hI.out.n_;omega
     have dk:Hid (jo r.1 k (rs.zip (aA rs))=jo r.1 k (rs.zip (aA rs))):=η rfl;have cE:Hid (fU rs (aA rs) k r (n+1)=jA (jo r.1 k (rs.zip (aA rs))) (n+1) r):=η rfl;generalize jo r.1 k (rs.zip (aA rs))=more at *;clear q6 h6 cA cx hI m0 dk
     go_wp2_with fail
     go_loopw [12] (fun i wr=>∃ (q:Nat) (y:Rd) (s' t':Value) (bs':List Nat),q≤more.length∧i=.int .i64 q∧Hid (y=jA (more.take q) (n+1) r)∧qB y∧y.1.length≤r.1.length+q∧r.1.length≤y.1.length∧Hid (RInv w w.heap.size M s' t' y bs' (aA rs) (.slice (some ⟨w4.heap.size,0,none⟩) rs.length rs.length) b5 wr)∧Hid (aC wr [.slice A6 more.length p6] more b6)) (fun i _=>more.length - (intOf i).toNat)
     case atStart=>exact ⟨0,r,_,_,_,ε,rfl,η rfl,dg.out,ν,ν,cB,H6⟩
     case round=>
      obtain ⟨q,y,s',t',bs',hq,rfl,bc,bk,dl,dp,hJ,af⟩:=hrel;clear cB H6;obtain ⟨Ay,py,bf,oy,cy,ds,dt,rfl,rfl,rfl,bL,bO,az⟩:=pV hJ.out.rd;have du:=η az;have a5:=η bk;clear az bk;have ei:q≤64800000000:=by have:=di.out; omega
      have m0:wr.cell? ⟨M,0,none⟩=some (.slice Ay y.1.length py):=ai hJ.out.m_;have m1:wr.cell? ⟨M,1,none⟩=some (.slice (some ⟨bf,oy,none⟩) y.2.length cy):=ai hJ.out.m_;by_cases bR:q < more.length
      ·have ej:(0:Int)≤(q:Int):=by omega
       have dv:(q:Int) < (more.length:Int):=by omega
       obtain ⟨mb,mo,Am,cm,bm,rfl,_,e0,U,cG,cI⟩:=dL af.out bR;have cJ:=η (NI more (n+1) r q bR);generalize more[q]=a at *
       go_wp2_with fail
       go_still_tail 6,(by kernel_rfl)
       change wpList _ _ _ _ _ wr.drew;have hD:Below wr.heap.size wr wr.drew:=Below.drew ϑ;have bX:=hJ.out.below hD;have qd:=VI y.1 y.2 a (n+1) _ _ _ bf oy cy ds dt bm wr.drew (au.below bL hD) (dS.below bO hD) (ak.below cG hD) du.out a5.out.gm (by omega);have e9:((n+1:Nat):Int)=(n:Int)+1:=by omega
       rw [e9] at qd;have cK:=au.below af.out hD;have cL:=η hJ.out.far;have dx:Hid (∀ c ∈ bm,c ≠ M∧c ≠ w.heap.size):=η fun c hc=>cD.out c (cI c hc)
       clear hJ af hD m0 m1 e0 U cG cI bL bO;generalize wr.drew=wd at *
       go_wp2_with fail
       refine qd.mono ?_;rintro e w7 ⟨c3,x0,x1,b7,rfl,h7,cP⟩;have ag:=bX.below c3;have cQ:=au.below cK c3;have ek:=ψ bX.m_;have el:=ψ bX.n_
       have aD:∀ c ∈ b7,c ≠ M∧c ≠ w.heap.size:=fun c hc=>by
        rcases cP c hc with h | h
        ·rcases μ.1 h with h | h
         ·exact cL.out c h
         ·exact dx.out c h
        ·omega
       obtain ⟨A7,p7,dy,o7,c7,em,en,rfl,rfl,rfl,-,-,-⟩:=pV h7;have cT:=η (ag.set h7 aD)
       have dz:=η (au.keep (w':=(w7.setCell ⟨M,0,none⟩ (.slice A7 (iK (y.1,y.2) a (n+1)).1.length p7)).setCell ⟨M,1,none⟩ (.slice (some ⟨dy,o7,none⟩) (iK (y.1,y.2) a (n+1)).2.length c7)) cQ fun c hc=>by
        have:=(cD.out c hc).1
        rw [π _ _ _ _ this,π _ _ _ _ this])
       have y0:w7.frozen? ⟨M,0,none⟩=false:=ax ag.m_;have y1:w7.frozen? ⟨M,1,none⟩=false:=ax ag.m_;have y2:w7.cell? ⟨M,0,none⟩=some (.slice Ay y.1.length py):=ai ag.m_;have y3:w7.cell? ⟨M,1,none⟩=some (.slice (some ⟨bf,oy,none⟩) y.2.length cy):=ai ag.m_;have c4:=η (NJ (y.1,y.2) a (n+1));have cU:=a5.out.put a (n+1);have dC:Hid (iK (y.1,y.2) a (n+1)=jA (more.take (q+1)) (n+1) r):=η (by rw [cJ.out,← bc.out]);have dE:(iK (y.1,y.2) a (n+1)).1.length≤r.1.length+(q+1):=by have h1:y.1.length≤r.1.length+q:=dl; have h2:=c4.out.2; exact τ h2 (by show y.1.length+1≤_; omega)
       have dT:r.1.length≤(iK (y.1,y.2) a (n+1)).1.length:=τ dp c4.out.1;clear qd h7 cP c3 ag cQ aD cJ bc c4;have bn:qB (iK (y.1,y.2) a (n+1)):=cU;have cV:=η bn;clear cU bn;generalize iK (y.1,y.2) a (n+1)=rn at *;go_wp2;go_roundw
       case rel=>exact ⟨q+1,rn,_,_,_,bR,by go_num,dC,cV.out,dE,dT,cT,dz⟩
       case measure=>simp [intOf]; omega
      ·have he:q=more.length:=by omega
       have dv:¬ (q:Int) < (more.length:Int):=by omega
       have cW:Hid (fU rs (aA rs) k r (n+1)=y):=η (by rw [cE.out,bc.out,he,ϕ ν]);have am:Hid (jb rs xs=if 300 < y.1.length then (y,false) else if y.1.length=r.1.length then Ea rs (aA rs) (rs.length - k) 302 y n else Ea rs (aA rs) (rs.length+1 - k) fu y (n+1)):=η (by rw [cw.out,cW.out]);clear bc cw cE cW bL bO he;by_cases aE:300 < y.1.length
       ·have HG:Hid (jb rs xs=(y,false)):=η (by rw [am.out,if_pos aE])
        have c5:(300:Int) < (y.1.length:Int):=by omega
        have n0:wr.cell? ⟨w.heap.size,0,none⟩=some (.slice none 0 0):=ai hJ.out.n_;have n1:wr.cell? ⟨w.heap.size,1,none⟩=some (.slice none 0 0):=ai hJ.out.n_;have n2:wr.frozen? ⟨w.heap.size,0,none⟩=false:=ax hJ.out.n_;have n3:wr.frozen? ⟨w.heap.size,1,none⟩=false:=ax hJ.out.n_;have a0:=η (hJ.out.fin ν);have z0:=a0.out.1;have z1:=a0.out.2.1;clear hJ am af;go_wp2;exact bodyPost_ret (v:=.tuple #[.agg #[.slice Ay y.1.length py,.slice (some ⟨bf,oy,none⟩) y.2.length cy],.bool false]) (by simp [results,Tryz.results56,go_sem,z0,z1]) rfl ⟨a0.out.2.2.1,_,_,by rw [HG.out],_,by rw [HG.out]; exact a0.out.2.2.2⟩
       ·have c5:¬ (300:Int) < (y.1.length:Int):=by omega
        by_cases bg:y.1.length=r.1.length
        ·have HG:Hid (jb rs xs=Ea rs (aA rs) (rs.length+1 - (k+1)) 302 y n):=η (by rw [am.out,if_neg aE,if_pos bg,show rs.length+1 - (k+1)=rs.length - k by omega])
         have cX:(y.1.length:Int)=(r.1.length:Int):=by omega
         have c6:Hid (n≤y.1.length):=η (by omega);have bh:Hid (y.1.length≤300):=η (by omega);clear am af bg;go_wp2;go_roundw
         case rel=>exact ⟨k+1,n,y,_,_,_,by omega,by go_num,by go_num,HG,a5.out,bh.out,c6.out,hJ⟩
         case measure=>simp [intOf]; omega
        ·have HG:Hid (jb rs xs=Ea rs (aA rs) (rs.length+1 - k) fu y (n+1)):=η (by rw [am.out,if_neg aE,if_neg bg])
         have cX:¬ (y.1.length:Int)=(r.1.length:Int):=by omega
         have c6:Hid (n+1≤y.1.length):=η (by omega);have bh:Hid (y.1.length≤300):=η (by omega);have e7:Hid (302≤fu+y.1.length):=η (by omega);have e8:=η hJ.out.BK;have ea:Hid (r.1.length < y.1.length):=η (by omega);clear am af bg;go_wp2;go_roundw
         case rel=>exact ⟨fu,n+1,y,_,_,_,by go_num,HG,a5.out,bh.out,c6.out,e7.out,hJ⟩
         case measure=>rw [de.out,e8.out]; have:=ea.out; have:=bh.out; omega
   ·have he:k=rs.length+1:=by omega
    have dc:¬ (k:Int)≤(rs.length:Int):=by omega
    have HG:Hid (jb rs xs=(r,true)):=η (by
     rw [a3.out,he,Nat.sub_self];unfold Ea
     rfl)
    have m0:wr.cell? ⟨M,0,none⟩=some (.slice Az r.1.length pz):=ai hI.out.m_;have m1:wr.cell? ⟨M,1,none⟩=some (.slice (some ⟨bE,oz,none⟩) r.2.length cz):=ai hI.out.m_;have n0:wr.cell? ⟨w.heap.size,0,none⟩=some (.slice none 0 0):=ai hI.out.n_;have n1:wr.cell? ⟨w.heap.size,1,none⟩=some (.slice none 0 0):=ai hI.out.n_;have n2:wr.frozen? ⟨w.heap.size,0,none⟩=false:=ax hI.out.n_;have n3:wr.frozen? ⟨w.heap.size,1,none⟩=false:=ax hI.out.n_;have a0:=η (hI.out.fin ν);have z0:=a0.out.1;have z1:=a0.out.2.1;clear hI aw b9 a3 he;go_wp2;exact bodyPost_ret (v:=.tuple #[.agg #[.slice Az r.1.length pz,.slice (some ⟨bE,oz,none⟩) r.2.length cz],.bool true]) (by simp [results,Tryz.results56,go_sem,z0,z1]) rfl ⟨a0.out.2.2.1,_,_,by rw [HG.out],_,by rw [HG.out]; exact a0.out.2.2.2⟩
open Classical in
noncomputable def D.jg (rs:List Ru) (s:ByteArray):List ByteArray:=if eU rs=0∧s ∈ kN rs then needs rs s else []
theorem D.JO {rs:List Ru} (h:Fine rs):(kN rs).length≤40:=by
 have h1:=(jO h.ok).2;have y:=h.few;unfold kN;rw [List.length_map]; omega
structure D.Seen (rs:List Ru) (s:ByteArray) (L:List ByteArray):Prop where
 has:s ∈ L
 reach:∀ x ∈ L,Reach rs s x
 sub:∀ x ∈ L,x ∈ kN rs
 nd:L.Nodup
theorem D.Seen.few {rs:List Ru} {s:ByteArray} {L:List ByteArray} (h:Seen rs s L):L.length≤(kN rs).length:=rM h.nd h.sub
def D.Dq (r:Ru) (L:List ByteArray):Prop:=r.head.name ∈ L→∀ p ∈ r.body,p.atom.name ∈ L
theorem D.Seen.put {rs:List Ru} {s:ByteArray} {L:List ByteArray} (h:Seen rs s L) {r:Ru} (hr:r ∈ rs) (J:r.head.name ∈ L) {p:Pt} (I:p ∈ r.body):Seen rs s (dZ L p.atom.name):=by
 refine ⟨dP.2 (.inl h.has),fun x y=>?_,fun x y=>?_,su h.nd _⟩
 ·rcases dP.1 y with y | rfl
  ·exact h.reach x y
  ·exact .step (h.reach _ J) hr I
 ·rcases dP.1 y with y | rfl
  ·exact h.sub x y
  ·exact II hr I
theorem D.PZ (L:List ByteArray) (s:ByteArray):L.length≤(dZ L s).length∧((dZ L s).length=L.length→s ∈ L∧dZ L s=L):=by
 unfold dZ
 split
 ·rename_i h; exact ⟨ν,fun _=>⟨h,rfl⟩⟩
 ·exact ⟨by simp,fun h=>by simp at h⟩
theorem FW (rs:List Ru) (s:ByteArray) (v:Value) (bs:List Nat) (w:World) (h:dW w [v] rs bs) (hg:oC w) (hs:s.size≤maxLen):
  Calls Tryz.prog 21 #[v,.string s] w (Makes iF (jg rs s) w.heap.size w):=by
 have c1:=sU rs v bs w h hg;have C2:=η fun w' (hb:Below w.heap.size w w') (hok:rs.all eY=true) (hf:rs.length≤8)=>sG rs v bs w' (aS.below h hb) hok hf
 have aD:Hid (∀ w',Below w.heap.size w w'→jg rs s = []→Makes iF (jg rs s) w.heap.size w (.returned (.slice none 0 0)) w'):=η fun w' hb e=>⟨hb,_,[],rfl,by rw [e]; exact ⟨_,_,rfl,ν,ε,fun _=>rfl,fun h=>absurd rfl h⟩,New.nil _ _⟩
 obtain ⟨Ad,cap,rfl,hl,hm⟩:=aj h;have c6:=ay (τ hl hm);have bx:=@run_makeMap Tryz.prog;have HS:=η hs;clear hl hm hg hs;by_cases U:eU rs=0
 ·have am:=(nO rs).1 U
  have HF:=η am;have ao:Hid (∀ x,x ∈ (dG (aB rs)).1 ↔ x ∈ kN rs):=η fun x=>by rw [(pJ (aB rs)).1]; unfold kN; rw [List.mem_map]
  rw [decide_eq_true U] at c1;by_cases hn:s ∈ kN rs
  ·have HZ:Hid (jg rs s=needs rs s):=η (by unfold jg; rw [if_pos ⟨U,hn⟩])
   have HD:Hid (decide (s ∈ (dG (aB rs)).1)=true):=η (decide_eq_true ((ao.out s).2 hn));obtain ⟨x,hx⟩:∃ x:Int,(if s ∈ (dG (aB rs)).1 then (dG (aB rs)).2.1 s else 0)=x:=⟨_,rfl⟩;have HX:=η hx;have aE:=η (JO am);have a6:Hid (Seen rs s [s]):=η ⟨by simp,fun x hx=>by rw [ώ.1 hx]; exact .self,fun x hx=>by rw [ώ.1 hx]; exact hn,by simp⟩;clear U am hx hn
   go_enter Tryz.func21,Tryz.ntmps21
   go_wp2_with fail
   refine c1.mono ?_;rintro e w1 ⟨rfl,I⟩;clear c1
   go_wp2_with fail
   refine (C2.out _ I HF.out.ok HF.out.few).mono ?_;rintro e w2 ⟨rfl,n,J,a7⟩;have B2:=I.trans (a7.mono I.size);have HM:=η J;have b6:Hid (gB w2.heap.size 0 [] (fun _=>0) (w2.alloc (.map #[] 0))):=η (gB.made w2 _);have hA:Below w2.heap.size w2 (w2.alloc (.map #[] 0)):=ζ;have HA:=η (B2.trans (hA.mono B2.size));have aR:w.heap.size≤w2.heap.size:=B2.size;clear J I a7 C2 B2 hA
   go_wp2_with (first
    | (at_lookup; refine bZ _ rfl _ _ _ rfl Tryz.underlying116 _ _ _ _ rfl HM.out s rfl HS.out true HD.out x HX.out ?_)
    | (with_reducible show Go.wpList _ _ _ (Go.Oper.mk _ (Go.Op.insert _ _ _ _) _ _ _ _ :: _) _ _; refine xE _ rfl _ _ _ _ rfl Tryz.underlying116 _ _ _ _ rfl b6.out s rfl HS.out 0 rfl (by unfold maxLen; omega) (by omega) ?_; intro w3 b8 b9)
    | go_in)
   have b1:Hid (gB w2.heap.size 1 [s] (fun _=>0) w3):=η ((show gB w2.heap.size 1 (dZ [] s) _ w3 from b8).congr fun t _=>by split <;> rfl);have bc:=η (HA.out.grown b9 (by have:=HA.out.size; exact this) fun j hj=>by cases hj; exact aR);clear b8 b9 HM b6 HA HX HD;obtain ⟨B,hB⟩:∃ B,B=w2.heap.size:=⟨_,rfl⟩;rw [← hB] at b1 aR ⊢;clear hB bx
   go_loopw [10] (fun bf wr=>∃ (k:Nat) (L:List ByteArray),bf=.int .i64 k∧k≤L.length∧gB B L.length L (fun _=>0) wr∧Seen rs s L∧(k=L.length→∀ r ∈ rs,Dq r L)∧Below w.heap.size w wr) (fun bf _=>41 - (intOf bf).toNat)
   case atStart=>exact ⟨0,[s],rfl,ε,b1.out,a6.out,fun h=>by simp at h,bc.out⟩
   case round=>
    clear b1 a6 bc;obtain ⟨k,L,rfl,hk,J,y,a0,hb⟩:=hrel;have bh:L.length≤40:=τ y.few aE.out;have bz:(L.length:Int)≤40:=by omega
    have HM:=η J;have HB:=η hb;by_cases bA:k < L.length
    ·have aL:(k:Int) < (L.length:Int):=by omega
     have a2:=η y;obtain ⟨k0,b2⟩:∃ k0,k0=L.length:=⟨_,rfl⟩;have bi:Hid (k0=L.length∧k < k0):=η ⟨b2,by omega⟩;have c5:k0≤40:=by omega
     clear J hb y a0
     go_wp2_with (first | (at_len; refine fA _ rfl _ _ rfl Tryz.underlying116 _ _ _ _ rfl HM.out ?_) | go_in)
     rw [← b2];clear b2 bz bh bA aL hk
     go_loopw [44] (fun i wr=>∃ (j:Nat) (M:List ByteArray),j≤rs.length∧i=.int .i64 j∧k0≤M.length∧gB B M.length M (fun _=>0) wr∧Seen rs s M∧(k0=M.length→∀ r ∈ rs.take j,Dq r M)∧Below w.heap.size w wr) (fun i _=>rs.length - (intOf i).toNat)
     case atStart=>exact ⟨0,L,ε,rfl,by rw [bi.out.1]; exact ν,HM.out,a2.out,fun _ r hr=>by simp at hr,HB.out⟩
     case round=>
      obtain ⟨j,M,hj,rfl,aq,J,y,a0,hb⟩:=hrel;clear HM HB a2;by_cases a3:j < rs.length
      ·obtain ⟨b0,o0,Ae,ce,Af,cf,bk,rfl,_,d0,d1,d2,b3,_⟩:=iI h a3
       replace d0:=ξ hb d0;replace d1:=ξ hb d1;replace d2:=ξ hb d2;obtain ⟨_,bb,_,_,bj⟩:=iW b3;have bB:=η bj;have c8:(0:Int)≤(j:Int):=by omega
       have bE:(j:Int) < (rs.length:Int):=by omega
       have hA:Below wr.heap.size wr (wr.alloc (.cells #[.string rs[j].head.name,.slice Ae rs[j].head.args.length ce,.slice Af rs[j].body.length cf] 40)):=ζ;have bl:Hid (rs[j].head.name.size≤maxLen):=η (by obtain ⟨_,_,_,_,_,hs,_⟩:=b3; exact hs);have bn:=η (δ a3)
       have a8:Hid (∀ M,(∀ r ∈ rs.take j,Dq r M)→Dq rs[j] M→∀ r ∈ rs.take (j+1),Dq r M):=η fun M h1 h2 r hr=>by
        rw [ρ a3] at hr
        rcases μ.1 hr with hr | hr
        ·exact h1 r hr
        ·rw [ώ.1 hr]; exact h2
       have c9:(rs[j].body.length:Int)≤4:=by have:=(kJ (ό.1 HF.out.ok _ (δ a3))).1; omega
       have a9:=η (J.below hA J.lt);have aa:=η (hb.trans (hA.mono hb.size));have a2:=η y;have bo:=η a0;have ab:=η aq;clear b3 bj hA J hb y a0 aq;have ar:=η a3;generalize rs[j]=r at *;clear a3;obtain ⟨⟨nm,args⟩,body⟩:=r;dsimp only at *;by_cases hin:nm ∈ M
       ·have HD:Hid (decide (nm ∈ M)=true):=η (decide_eq_true hin)
        have HV:Hid ((if nm ∈ M then (0:Int) else 0)=0):=η (by split <;> rfl);have ao:=η hin;clear hin
        go_wp2_with (first | (at_lookup; refine bZ _ rfl _ _ _ rfl Tryz.underlying116 _ _ M _ rfl a9.out nm rfl bl.out true HD.out 0 HV.out ?_) | go_in)
        generalize wr.alloc (.cells #[.string nm,.slice Ae args.length ce,.slice Af body.length cf] 40)=w5 at *
        go_loopw [61] (fun i wr=>∃ (q:Nat) (P:List ByteArray),q≤body.length∧i=.int .i64 q∧(∀ x ∈ M,x ∈ P)∧M.length≤P.length∧(M.length=P.length→P=M)∧gB B P.length P (fun _=>0) wr∧Seen rs s P∧(∀ p ∈ body.take q,p.atom.name ∈ P)∧Below w.heap.size w wr) (fun i _=>body.length - (intOf i).toNat)
        case atStart=>exact ⟨0,M,ε,rfl,fun x h=>h,ν,fun _=>rfl,a9.out,a2.out,fun p U=>by simp at U,aa.out⟩
        case round=>
         clear a9 a2 aa;obtain ⟨q,P,hq,rfl,a1,av,aw,J,y,az,hb⟩:=hrel;by_cases ac:q < body.length
         ·obtain ⟨b4,o4,Ag,cg,bg,rfl,_,f0,f1,f2,aM,_⟩:=iV bB.out ac
          replace f0:=ξ hb f0;replace f1:=ξ hb f1;replace f2:=ξ hb f2;have ca:(0:Int)≤(q:Int):=by omega
          have bL:(q:Int) < (body.length:Int):=by omega
          have bO:Hid (body[q].atom.name.size≤maxLen):=η (by obtain ⟨_,_,hs,_⟩:=aM; exact hs);have hA:Below wr.heap.size wr (wr.alloc (.cells #[.bool body[q].no,.string body[q].atom.name,.slice Ag body[q].atom.args.length cg] 42)):=ζ;have ae:=η (J.below hA J.lt);have a4:=η (hb.trans (hA.mono hb.size));have af:=η (y.put bn.out (a1 _ ao.out) (δ ac));have b5:=PZ P body[q].atom.name
          have ag:Hid ((∀ x ∈ M,x ∈ dZ P body[q].atom.name)∧M.length≤(dZ P body[q].atom.name).length∧(M.length=(dZ P body[q].atom.name).length→dZ P body[q].atom.name=M)):=η ⟨fun x hx=>dP.2 (.inl (a1 x hx)),τ av b5.1,fun e=>by
           have h1:=b5.2 (by omega)
           rw [h1.2]; exact aw (by omega)⟩
          have bR:Hid (∀ p ∈ body.take (q+1),p.atom.name ∈ dZ P body[q].atom.name):=η fun p U=>by
           rw [ρ ac] at U
           rcases μ.1 U with U | U
           ·exact dP.2 (.inl (az p U))
           ·rw [ώ.1 U]; exact dP.2 (.inr rfl)
          have bp:P.length < maxLen:=by have h1:=y.few; have h2:=aE.out; unfold maxLen; omega
          clear aM hA J hb y a1 av aw az b5;have bq:=η ac;generalize body[q]=p at *;clear ac;obtain ⟨no,⟨pn,bX⟩⟩:=p;dsimp only at *
          go_wp2_with (first | (at_mapUpdate; refine jS _ rfl _ _ _ _ rfl Tryz.underlying116 _ _ P _ rfl ae.out pn rfl bO.out 0 rfl bp (by omega) ?_; intro w6 br bt) | go_in)
          have c3:=η ((br.congr (g:=fun _=>0) fun t _=>by split <;> rfl).tight);have c4:=η (a4.out.grown bt (by have:=a4.out.size; exact this) fun j hj=>by cases hj; exact aR);clear br bt;go_roundw
          case rel=>exact ⟨q+1,_,bq.out,by go_num,ag.out.1,ag.out.2.1,ag.out.2.2,c3.out,af.out,bR.out,c4.out⟩
          case measure=>have:=bq.out; simp [intOf]; omega
         ·have he:q=body.length:=by omega
          have bL:¬ (q:Int) < (body.length:Int):=by omega
          have a5:Hid (k0≤P.length∧(k0=P.length→∀ r ∈ rs.take (j+1),Dq r P)):=η ⟨τ ab.out av,fun e=>by
           have h1:=ab.out;have h2:P=M:=aw (by omega);refine a8.out P (by rw [h2]; exact bo.out (by omega)) fun _ p U=>az p ?_
           rw [he,ϕ ν]; exact U⟩
          have ae:=η J;have a4:=η hb;have af:=η y;clear J hb y a1 av aw az he;go_wp2;go_roundw
          case rel=>exact ⟨j+1,P,ar.out,by go_num,a5.out.1,ae.out,af.out,a5.out.2,a4.out⟩
          case measure=>have:=ar.out; simp [intOf]; omega
       ·have HD:Hid (decide (nm ∈ M)=false):=η (decide_eq_false hin)
        have HV:Hid ((if nm ∈ M then (0:Int) else 0)=0):=η (by split <;> rfl);have a5:Hid (k0=M.length→∀ r ∈ rs.take (j+1),Dq r M):=η fun e=>a8.out M (bo.out e) fun h=>absurd h hin
        clear hin
        go_wp2_with (first | (at_lookup; refine bZ _ rfl _ _ _ rfl Tryz.underlying116 _ _ M _ rfl a9.out nm rfl bl.out false HD.out 0 HV.out ?_) | go_in)
        go_roundw
        case rel=>exact ⟨j+1,M,ar.out,by go_num,ab.out,a9.out,a2.out,a5.out,aa.out⟩
        case measure=>have:=ar.out; simp [intOf]; omega
      ·have he:j=rs.length:=by omega
       have bE:¬ (j:Int) < (rs.length:Int):=by omega
       have a5:Hid (k0=M.length→∀ r ∈ rs,Dq r M):=η (by rw [he,ϕ ν] at a0; exact a0);have ae:=η J;have a4:=η hb;have af:=η y;have ab:=η aq;clear J hb y a0 he aq;go_wp2;go_roundw
       case rel=>exact ⟨k0,M,rfl,ab.out,ae.out,af.out,a5.out,a4.out⟩
       case measure=>have:=bi.out.2; simp [intOf]; omega
    ·have he:k=L.length:=by omega
     have aL:¬ (k:Int) < (L.length:Int):=by omega
     have HE:Hid (nY L=jg rs s):=η (by rw [HZ.out]; exact NM y.has y.reach fun r hr=>a0 he r hr);have c7:=ql B _ L _ wr J (by omega);rw [HE.out] at c7;clear J hb y a0 h
     go_wp2_with (at_len; refine fA _ rfl _ _ rfl Tryz.underlying116 _ _ _ _ rfl HM.out ?_)
     refine c7.mono ?_;rintro e w7 ⟨bu,v7,b7,rfl,bv,bw⟩;have HW:Hid (Makes iF (jg rs s) w.heap.size w (.returned v7) w7):=η ⟨HB.out.trans (bu.mono HB.out.size),v7,b7,rfl,bv,bw.mono HB.out.size⟩;clear c7 bu bv bw;go_wp2;go_ret;exact HW.out
  ·have HZ:Hid (jg rs s = []):=η (by unfold jg; rw [if_neg fun h=>hn h.2])
   have HD:Hid (decide (s ∈ (dG (aB rs)).1)=false):=η (decide_eq_false fun h=>hn ((ao.out s).1 h));obtain ⟨x,hx⟩:∃ x:Int,(if s ∈ (dG (aB rs)).1 then (dG (aB rs)).2.1 s else 0)=x:=⟨_,rfl⟩;have HX:=η hx;clear U am hx hn h
   go_enter Tryz.func21,Tryz.ntmps21
   go_wp2_with fail
   refine c1.mono ?_;rintro e w1 ⟨rfl,I⟩;clear c1
   go_wp2_with fail
   refine (C2.out _ I HF.out.ok HF.out.few).mono ?_;rintro e w2 ⟨rfl,n,J,a7⟩;have B2:=η (I.trans (a7.mono I.size));have HM:=η J;clear J I a7 C2
   go_wp2_with (first
    | (at_lookup; refine bZ _ rfl _ _ _ rfl Tryz.underlying116 _ _ _ _ rfl HM.out s rfl HS.out false HD.out x HX.out ?_)
    | go_in)
   go_ret;exact aD.out _ B2.out HZ.out
 ·have HZ:Hid (jg rs s = []):=η (by unfold jg; rw [if_neg fun h=>U h.1])
  rw [decide_eq_false U] at c1;clear U C2 h
  go_enter Tryz.func21,Tryz.ntmps21
  go_wp2_with fail
  refine c1.mono ?_;rintro e w1 ⟨rfl,I⟩;have aa:=η I;clear I;go_wp2;go_ret;exact aD.out _ aa.out HZ.out
end Go.Proofs.YtkjinanbccloeaaGreatDoor
