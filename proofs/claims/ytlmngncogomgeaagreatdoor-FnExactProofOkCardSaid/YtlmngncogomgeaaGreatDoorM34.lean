/- Of the proof of FnExactProofOk: RunS, RunP2. -/
import Derived.Test.YtlmngncogomgeaaGreatDoorM33
set_option linter.unusedVariables false
set_option maxHeartbeats 8000000
set_option maxRecDepth 100000
namespace Go.Proofs.YtlmngncogomgeaaGreatDoor
section
open Go.RowKit D
attribute [local go_sem ↓] Go.wp_at_zero Go.wp_at_succ
theorem D.MN {list:List A} {level B:Nat} {rl:List (Ru × Nat)} (h:∀ p ∈ rl,(allB list p.1.body).length≤B):(iL list level rl).length≤rl.length * B:=by
 have h1:∀ (bs:List Bd) (r:Ru) (out:List A),(bs.foldl (fun o b=>fC o (aY r.head b)) out).length≤out.length+bs.length:=by
  intro bs r
  induction bs with
  | nil=>intro out; exact ν
  | cons b bs ih=>
   intro out;have y:=ih (fC out (aY r.head b));have I:=Gq out (aY r.head b);simp only [List.foldl_cons,List.length_cons];omega
 have y:∀ k,k≤rl.length→(iL list level (rl.take k)).length≤k * B:=by
  intro k
  induction k with
  | zero=>intro _; simp [iL]
  | succ k ih=>
   intro hk;have I:=ih (by omega);rw [Di list level rl k (by omega),Nat.add_mul]
   split
   ·have J:=h1 (allB list rl[k].1.body) rl[k].1 (iL list level (rl.take k))
    have U:=h _ (δ (show k < rl.length by omega));unfold DN;omega
   ·omega
 have:=y rl.length ν
 rwa [ϕ ν] at this
structure D.RInv (W:World) (N M:Nat) (s t:Value) (r:Rd) (bs:List Nat) (lv:List Nat) (vl:Value) (bl:List Nat) (w:World):Prop where
 n_:w.heap[N]? = some (.cells #[.slice none 0 0,.slice none 0 0] 117 (0,0))
 m_:w.heap[M]? = some (.cells #[s,t] 117 (0,0))
 rd:qp w [s,t] r bs
 far:∀ c ∈ bs,c ≠ M∧c ≠ N
 bel:Below W.heap.size W w
 ge:W.heap.size≤M
 nm:N ≠ M
 lv_:jf w [vl] lv bl
 lf:∀ c ∈ bl,c ≠ M
theorem D.RInv.below {W:World} {N M:Nat} {s t:Value} {r:Rd} {bs lv:List Nat} {I:Value} {J:List Nat} {w w':World} (h:RInv W N M s t r bs lv I J w) (y:Below w.heap.size w w'):RInv W N M s t r bs lv I J w':=
 ⟨by rw [y.block _ (ψ h.n_)]; exact h.n_,by rw [y.block _ (ψ h.m_)]; exact h.m_,nV.below h.rd y,h.far,h.bel.trans (y.mono h.bel.size),h.ge,h.nm,dG.below h.lv_ y,h.lf⟩
theorem D.RInv.set {W:World} {N M:Nat} {s t y I:Value} {r J:Rd} {bs bs' lv:List Nat} {U:Value} {bl:List Nat} {w:World} (h:RInv W N M s t r bs lv U bl w) (h':qp w [y,I] J bs') (hf:∀ c ∈ bs',c ≠ M∧c ≠ N):
  RInv W N M y I J bs' lv U bl ((w.setCell ⟨M,0,none⟩ y).setCell ⟨M,1,none⟩ I):=by
 have hk:∀ k,k ≠ M→((w.setCell ⟨M,0,none⟩ y).setCell ⟨M,1,none⟩ I).heap[k]? = w.heap[k]?:=fun k hk=>by rw [π _ _ _ _ hk,π _ _ _ _ hk]
 exact ⟨(hk _ h.nm).trans h.n_,by simpa using bY (o:=1) (u:=I) (bY (o:=0) (u:=y) h.m_),nV.keep h' fun c hc=>hk c (hf c hc).1,hf,(h.bel.setCell (p:=⟨M,0,none⟩) h.ge y).setCell (p:=⟨M,1,none⟩) h.ge I,h.ge,h.nm,dG.keep h.lv_ fun c hc=>hk c (h.lf c hc),h.lf⟩
theorem D.mZ {w:World} {s t:Value} {r:Rd} {bs:List Nat} (h:qp w [s,t] r bs):∃ A p b o c b0 I,s=.slice A r.1.length p∧t=.slice (some ⟨b,o,none⟩) r.2.length c∧bs=b0 ++ I∧aQ w [.slice A r.1.length p] r.1 b0∧jf w [.slice (some ⟨b,o,none⟩) r.2.length c] r.2 I∧r.2.length=r.1.length:=by
 obtain ⟨s',b,o,c,b0,I,y,rfl,h1,J,U⟩:=h;simp only [List.cons.injEq,and_true] at y;obtain ⟨rfl,rfl⟩:=y;obtain ⟨A,p,rfl,_⟩:=ai h1;exact ⟨A,p,b,o,c,b0,I,rfl,rfl,rfl,h1,J,U⟩
theorem D.RInv.fin {W:World} {N M:Nat} {s t:Value} {r:Rd} {bs lv:List Nat} {J:Value} {U:List Nat} {w:World} (h:RInv W N M s t r bs lv J U w) (I:W.heap.size≤N):
  ((w.setCell ⟨N,0,none⟩ s).setCell ⟨N,1,none⟩ t).cell? ⟨N,0,none⟩=some s∧((w.setCell ⟨N,0,none⟩ s).setCell ⟨N,1,none⟩ t).cell? ⟨N,1,none⟩=some t∧Below W.heap.size W ((w.setCell ⟨N,0,none⟩ s).setCell ⟨N,1,none⟩ t)∧qp ((w.setCell ⟨N,0,none⟩ s).setCell ⟨N,1,none⟩ t) [s,t] r bs:=by
 have hf:=bY (o:=1) (u:=t) (bY (o:=0) (u:=s) h.n_);refine ⟨aj hf,aj hf,(h.bel.setCell (p:=⟨N,0,none⟩) I s).setCell (p:=⟨N,1,none⟩) I t,nV.keep h.rd fun c hc=>?_⟩;have y:=(h.far c hc).2;rw [π _ _ _ _ y,π _ _ _ _ y]
def D.yS (M:Nat) (w:World):Nat:=match w.cell? ⟨M,0,none⟩ with | some (.slice _ n _)=>n | _=>0
theorem D.RInv.yS {W:World} {N M:Nat} {A:Option Addr} {p:Nat} {t:Value} {r:Rd} {bs lv:List Nat} {y:Value} {I:List Nat} {w:World} (h:RInv W N M (.slice A r.1.length p) t r bs lv y I w):yS M w=r.1.length:=by
 have:w.cell? ⟨M,0,none⟩=some (.slice A r.1.length p):=aj h.m_;unfold D.yS;rw [this]
theorem D.O9 (n:Nat) {w:World} {g:Nat} (h:w.heap[g]? = some (.cells (madeCells #[.int .i64 0] n) 3 (0,0))) (hm:n≤maxLen):∃ bs,jf w [.slice (some ⟨g,0,none⟩) n n] (List.replicate n 0) bs∧∀ c ∈ bs,c=g:=by
 rw [Ce] at h;obtain ⟨bs,h1,_,y⟩:=rD h (by simpa using hm);rw [List.length_replicate] at h1;exact ⟨bs,h1,y⟩
def D.SJ (w0:World) (N:Nat) (xs:List A) (Ar Ag:Option Addr) (n1 p1 J p2:Nat) (f:Nat→Bool) (a:Act) (w':World):Prop:=
 ∃ (v6 a0 y a1 a2 I a3:Value) (M g:Nat) (bl:List Nat) (U:World),a=⟨#[.slice Ar n1 p1,.slice Ag J p2,undef,undef,.pointer (some ⟨N,0,none⟩),.bool false,v6,undef,undef,undef,undef,undef,undef,a0,y,a1,a2,I,a3,undef,undef,undef,undef,undef,undef,undef,undef,undef,undef,undef,undef,undef,undef,undef,undef,undef,undef,undef,undef,undef,undef,undef,undef,undef,undef,undef,undef,undef,undef,undef,undef,undef,undef,undef,undef,undef,undef,undef,undef,undef,undef,undef,undef,undef],[]⟩∧Below w0.heap.size w0 U∧
  (f 0=true→a0=.slice Ag J p2)∧(f 1=true→(∃ A cap,y=.slice A xs.length cap)∧aQ U [y] xs bl∧∀ c ∈ bl,w0.heap.size≤c)∧(f 2=true→a1=.slice Ag J p2)∧(f 3=true→a2=.int .i64 J)∧
  (f 4=true→I=.slice (some ⟨g,0,none⟩) J J∧w0.heap.size≤g∧U.heap[g]? = some (.cells (madeCells #[.int .i64 0] J) 3 (0,0)))∧(f 5=true→a3=.agg #[y,I]∧f 1=true∧f 4=true)∧
  (f 6=true→v6=.pointer (some ⟨M,0,none⟩)∧w0.heap.size≤M∧U.heap[M]? = some (.cells #[.slice none 0 0,.slice none 0 0] 117 (0,0)))∧(f 6=true→(f 1=true→M ∉ bl)∧(f 4=true→g ≠ M))∧
  (f 7=false→w'=U)∧(f 7=true→w'=(U.setCell ⟨M,0,none⟩ y).setCell ⟨M,1,none⟩ I)∧(f 7=true→∀ i,i < 7→f i=true)
theorem run_any (rs:List Ru) (xs:List A) (v0 v1:Value) (b0 b1:List Nat) (w:World) (hr:dD w [v0] rs b0) (hx:aQ w [v1] xs b1) (c9:iF xs=true) (hn:xs.length≤300) (hm:rs.length≤8) (hok:rs.all dS=true)
  (hb:∀ r ∈ rs,r.body.length≤4∧r.head.args.length≤1000∧∀ p ∈ r.body,p.atom.args.length≤1000) (ca:∀ a ∈ xs,a.args.length≤1000):
  Calls Tryz.prog 69 #[v0,v1] w fun e w'=>Below w.heap.size w w'∧∃ e0 J bs',e=.returned (.tuple #[.agg #[e0,J],.bool (iy rs xs).2])∧qp w' [e0,J] (iy rs xs).1 bs':=by
 obtain ⟨Ar,p1,rfl,d0,d1⟩:=ai hr;obtain ⟨Ag,p2,rfl,d2,d3⟩:=ai hx;have HR:=η hr;have HX:=η hx;have HB:=η hb;have d4:=η ca;have d5:=fun w'=>run_make_row' (P:=Tryz.prog) 64 3 (.int .i64 0) 8 Tryz.underlying64 AB rfl .i64 .i64 xs.length (by omega) (by omega) w'
 have hA:Below w.heap.size w (w.alloc (.cells #[.slice none 0 0,.slice none 0 0] 117)):=ζ;have hN:=ω w (.cells #[.slice none 0 0,.slice none 0 0] 117);clear hr hx d0 d1 d2 d3 hb ca
 go_enter Tryz.func69,Tryz.ntmps69
 go_wp2_with fail
 generalize w.alloc (.cells #[.slice none 0 0,.slice none 0 0] 117)=w0 at *;have HA:=η hA;have HN:=η hN;clear hA hN;refine nZ (SJ w0 w.heap.size xs Ar Ag rs.length p1 xs.length p2) (by kernel_rfl) (by kernel_rfl) ?h0 ?hs ?hd
 case h0=>exact ⟨undef,undef,undef,undef,undef,undef,undef,0,0,[],_,rfl,ϑ.drew,fun h=>(by cases h),fun h=>(by cases h),fun h=>(by cases h),fun h=>(by cases h),fun h=>(by cases h),fun h=>(by cases h),fun h=>(by cases h),fun h=>(by cases h),fun _=>rfl,fun h=>(by cases h),fun h=>(by cases h)⟩
 case hs=>
  intro i oo ho f aa w2 hJ hf I;obtain ⟨v6,a6,a7,a8,a9,ab,a1,M,g,bl,wi,rfl,hB,e0,J,e2,e3,e4,e5,U,dd,aE,bq,ao⟩:=hJ;by_cases d6:i=7
  case pos=>
   subst d6;obtain rfl:=Option.some.inj ho;simp [Region.binds] at I;obtain ⟨f6,f5,f1,f0,_,f2,f3,f4,_⟩:=I;obtain rfl:=aE hf;have g5:=(e5 f5).1;have g6:=(U f6).1;have g4:=(e4 f4).1;subst g5;subst g6;subst g4;obtain ⟨⟨A3,q3,rfl⟩,_⟩:=J f1;have a2:=(U f6).2.2;have ec:w2.frozen? ⟨M,0,none⟩=false:=aB a2;have ed:w2.frozen? ⟨M,1,none⟩=false:=aB a2;have ee:w2.cell? ⟨M,0,none⟩=some (.slice none 0 0):=aj a2;have eg:w2.cell? ⟨M,1,none⟩=some (.slice none 0 0):=aj a2;refine wpOp_step rfl (fun K' hK=>?_);go_simp;refine hK _ _ ?_;refine ⟨_,_,_,_,_,_,_,M,g,bl,w2,rfl,hB,fun _=>?_,J,fun _=>?_,fun _=>?_,e4,fun _=>⟨rfl,f1,f4⟩,fun _=>⟨rfl,(U f6).2⟩,dd,fun h=>(by cases h),fun _=>rfl,fun _ i hi=>?_⟩
   ·first | rfl | exact e0 f0
   ·first | rfl | exact e2 f2
   ·first | rfl | exact e3 f3
   match i,hi with
   | 0,_=>exact f0
   | 1,_=>exact f1
   | 2,_=>exact f2
   | 3,_=>exact f3
   | 4,_=>exact f4
   | 5,_=>exact f5
   | 6,_=>exact f6
   | q+7,h=>omega
  case neg=>
   have h7:f 7=false:=by
    cases hc:f 7 with
    | false=>rfl
    | true=>
     by_cases cb:i < 7
     ·exact absurd (ao hc i cb) (by simp [hf])
     ·exfalso
      rw [Array.getElem?_eq_none (by simp; omega)] at ho;cases ho
   obtain rfl:=aE h7;have ac:=hB.size
   match i,ho,hf,I with
   | 0,ho,hf,I=>
    obtain rfl:=Option.some.inj ho;refine wpOp_step rfl (fun K' hK=>?_);go_simp;refine hK _ _ ?_;exact ⟨v6,(.slice Ag xs.length p2),a7,a8,a9,ab,a1,M,g,bl,_,rfl,hB,fun _=>rfl,J,e2,e3,e4,e5,U,dd,fun _=>rfl,Φ h7,Φ h7⟩
   | 1,ho,hf,I=>
    obtain rfl:=Option.some.inj ho;simp [Region.binds] at I;have g0:=e0 I;subst g0;have d7:=HA.out.trans (hB.mono HA.out.size);have q:=LP xs _ b1 w2 (au.below HX.out d7) (by omega) (fun a ha=>τ (d4.out a ha) (by omega));refine wpOp_step rfl (fun K' hK=>?_);go_simp;refine q.mono ?_;rintro e w3 ⟨br,v3,b3,rfl,h3,cc⟩;obtain ⟨A3,q3,rfl,_⟩:=ai h3;refine hK _ _ ?_;exact ⟨v6,_,(.slice A3 xs.length q3),a8,a9,ab,a1,M,g,b3,_,rfl,hB.trans (br.mono ac),fun _=>rfl,fun _=>⟨⟨_,_,rfl⟩,h3,fun c hc=>τ ac (cc c hc)⟩,e2,e3,fun h=>⟨(e4 h).1,(e4 h).2.1,(br.block _ (ψ (e4 h).2.2)).trans (e4 h).2.2⟩,fun h=>absurd ((e5 h).2.1.symm.trans hf) (by decide),fun h=>⟨(U h).1,(U h).2.1,(br.block _ (ψ (U h).2.2)).trans (U h).2.2⟩,fun h=>⟨fun _ hc=>by have:=cc _ hc; have:=ψ (U h).2.2; omega,(dd h).2⟩,fun _=>rfl,Φ h7,Φ h7⟩
   | 2,ho,hf,I=>
    obtain rfl:=Option.some.inj ho;refine wpOp_step rfl (fun K' hK=>?_);go_simp;refine hK _ _ ?_;exact ⟨v6,a6,a7,(.slice Ag xs.length p2),a9,ab,a1,M,g,bl,_,rfl,hB,e0,J,fun _=>rfl,e3,e4,e5,U,dd,fun _=>rfl,Φ h7,Φ h7⟩
   | 3,ho,hf,I=>
    obtain rfl:=Option.some.inj ho;simp [Region.binds] at I;have g2:=e2 I;subst g2;refine wpOp_step rfl (fun K' hK=>?_);go_simp;refine hK _ _ ?_;exact ⟨v6,a6,a7,_,(.int .i64 xs.length),ab,a1,M,g,bl,_,rfl,hB,e0,J,fun _=>rfl,fun _=>rfl,e4,e5,U,dd,fun _=>rfl,Φ h7,Φ h7⟩
   | 4,ho,hf,I=>
    obtain rfl:=Option.some.inj ho;simp [Region.binds] at I;have g3:=e3 I;subst g3;have ap:Below w2.heap.size w2 (w2.alloc (.cells (madeCells #[.int .i64 0] xs.length) 3)):=ζ;refine wpOp_step rfl (fun K' hK=>?_);go_simp;refine hK _ _ ?_;exact ⟨v6,a6,a7,a8,_,(.slice (some ⟨w2.heap.size,0,none⟩) xs.length xs.length),a1,M,w2.heap.size,bl,_,rfl,hB.alloc ac _,e0,fun h=>⟨(J h).1,au.below (J h).2.1 ap,(J h).2.2⟩,e2,fun _=>rfl,fun _=>⟨rfl,ac,ω w2 _⟩,fun h=>absurd ((e5 h).2.2.symm.trans hf) (by decide),fun h=>⟨(U h).1,(U h).2.1,(ap.block _ (ψ (U h).2.2)).trans (U h).2.2⟩,fun h=>⟨(dd h).1,fun _ e=>by have:=ψ (U h).2.2; omega⟩,fun _=>rfl,Φ h7,Φ h7⟩
   | 5,ho,hf,I=>
    obtain rfl:=Option.some.inj ho;simp [Region.binds] at I;obtain ⟨f1,f4⟩:=I;obtain ⟨⟨A3,q3,rfl⟩,_⟩:=J f1;have g4:=(e4 f4).1;subst g4;refine wpOp_step rfl (fun K' hK=>?_);go_simp;refine hK _ _ ?_;exact ⟨v6,a6,_,a8,a9,_,_,M,g,bl,_,rfl,hB,e0,J,e2,e3,fun _=>⟨rfl,(e4 f4).2⟩,fun _=>⟨rfl,f1,f4⟩,U,dd,fun _=>rfl,Φ h7,Φ h7⟩
   | 6,ho,hf,I=>
    obtain rfl:=Option.some.inj ho;have ap:Below w2.heap.size w2 (w2.alloc (.cells #[.slice none 0 0,.slice none 0 0] 117)):=ζ;refine wpOp_step rfl (fun K' hK=>?_);go_simp;refine hK _ _ ?_;exact ⟨(.pointer (some ⟨w2.heap.size,0,none⟩)),a6,a7,a8,a9,ab,a1,w2.heap.size,g,bl,_,rfl,hB.alloc ac _,e0,fun h=>⟨(J h).1,au.below (J h).2.1 ap,(J h).2.2⟩,e2,e3,fun h=>⟨(e4 h).1,(e4 h).2.1,(ap.block _ (ψ (e4 h).2.2)).trans (e4 h).2.2⟩,e5,fun _=>⟨rfl,ac,ω w2 _⟩,fun _=>⟨fun h hc=>by have:=au.lt (J h).2.1 _ hc; omega,fun h e=>by have:=ψ (e4 h).2.2; omega⟩,fun _=>rfl,Φ h7,Φ h7⟩
   | q+7,ho,hf,I=>
    rw [Array.getElem?_eq_none (by simp; omega)] at ho;cases ho
 case hd=>
  intro f aa w3 hf hJ;obtain ⟨v6,a6,a7,a8,a9,ab,a1,M,g,bl,w2,rfl,hB,e0,J,e2,e3,e4,e5,U,dd,aE,bq,ao⟩:=hJ;obtain rfl:=bq (hf 7 (by simp));obtain rfl:=(U (hf 6 (by simp))).1;obtain rfl:=(e4 (hf 4 (by simp))).1;obtain ⟨⟨A3,q3,rfl⟩,cd,ce⟩:=J (hf 1 (by simp));have a2:=(U (hf 6 (by simp))).2.2;have aL:=(U (hf 6 (by simp))).2.1;have cg:=(e4 (hf 4 (by simp))).2.2;have bt:=(dd (hf 6 (by simp))).1 (hf 1 (by simp));have bu:=(dd (hf 6 (by simp))).2 (hf 4 (by simp));obtain ⟨bz,ci,aM⟩:=O9 xs.length cg (by unfold maxLen; omega);have bi:=bY (o:=1) (u:=.slice (some ⟨g,0,none⟩) xs.length xs.length) (bY (o:=0) (u:=.slice A3 xs.length q3) a2);have aR:∀ c,c ≠ M→((w2.setCell ⟨M,0,none⟩ (.slice A3 xs.length q3)).setCell ⟨M,1,none⟩ (.slice (some ⟨g,0,none⟩) xs.length xs.length)).heap[c]? = w2.heap[c]?:=fun c hc=>by rw [π _ _ _ _ hc,π _ _ _ _ hc]
  have cj:w.heap.size < w0.heap.size:=ψ HN.out;have b4:(List.replicate xs.length 0).length=xs.length:=List.length_replicate ..
  have ck:qp ((w2.setCell ⟨M,0,none⟩ (.slice A3 xs.length q3)).setCell ⟨M,1,none⟩ (.slice (some ⟨g,0,none⟩) xs.length xs.length)) [.slice A3 xs.length q3,.slice (some ⟨g,0,none⟩) xs.length xs.length] (xs,List.replicate xs.length 0) (bl ++ bz):=
   ⟨_,g,0,xs.length,bl,bz,by rw [b4],rfl,au.keep cd fun c hc=>aR c fun e=>bt (e ▸ hc),by rw [b4]; exact dG.keep ci fun c hc=>aR c fun e=>bu ((aM c hc).symm.trans e),b4⟩
  have bv:=((HA.out.trans (hB.mono HA.out.size)).setCell (p:=⟨M,0,none⟩) (τ HA.out.size aL) (.slice A3 xs.length q3)).setCell (p:=⟨M,1,none⟩) (τ HA.out.size aL) (.slice (some ⟨g,0,none⟩) xs.length xs.length)
  have cl:((w2.setCell ⟨M,0,none⟩ (.slice A3 xs.length q3)).setCell ⟨M,1,none⟩ (.slice (some ⟨g,0,none⟩) xs.length xs.length)).heap[w.heap.size]? = some (.cells #[.slice none 0 0,.slice none 0 0] 117 (0,0)):=by
   rw [aR _ (by omega),hB.block _ cj];exact HN.out
  have cn:∀ c ∈ bl ++ bz,c ≠ M∧c ≠ w.heap.size:=fun c hc=>⟨(μ.1 hc).elim (fun h e=>bt (e ▸ h)) fun h e=>bu ((aM c h).symm.trans e),(μ.1 hc).elim (fun h e=>by have:=ce c h; omega) fun h e=>by have:=aM c h; have:=(e4 (hf 4 (by simp))).2.1; omega⟩
  have co:((w2.setCell ⟨M,0,none⟩ (.slice A3 xs.length q3)).setCell ⟨M,1,none⟩ (.slice (some ⟨g,0,none⟩) xs.length xs.length)).heap[M]? = some (.cells #[.slice A3 xs.length q3,.slice (some ⟨g,0,none⟩) xs.length xs.length] 117 (0,0)):=by simpa using bi
  have q5:=xE rs _ b0 _ (aI.below HR.out bv) hm hok;have cp:=η ck;have bw:=η bv;have bx:=η cl;have b8:=η co;have cq:=η cn;have d8:=η (τ HA.out.size aL);have d9:Hid (w.heap.size ≠ M):=η (by omega);clear e0 J e2 e3 e4 e5 U dd aE bq ao a2 aL cg bt bu ci aM bi aR ck bv cl cn co cd ce hB b4 cj hf HN HA d5;generalize (w2.setCell ⟨M,0,none⟩ (.slice A3 xs.length q3)).setCell ⟨M,1,none⟩ (.slice (some ⟨g,0,none⟩) xs.length xs.length)=w4 at *
  go_wp2_with fail
  refine q5.mono ?_;rintro e w5 ⟨aq,rfl,bA,da⟩;have bB:(aF rs).length=rs.length:=bA.len;obtain ⟨b5,bE,_,cr⟩:=rD bA.blk (by unfold maxLen; omega);rw [bB] at bE
  have cv:Hid (RInv w w.heap.size M (.slice A3 xs.length q3) (.slice (some ⟨g,0,none⟩) xs.length xs.length) (xs,List.replicate xs.length 0) (bl ++ bz) (aF rs) (.slice (some ⟨w4.heap.size,0,none⟩) rs.length rs.length) b5 w5):=η
   ⟨by rw [aq.block _ (ψ bx.out)]; exact bx.out,by rw [aq.block _ (ψ b8.out)]; exact b8.out,nV.below cp.out aq,cq.out,bw.out.trans (aq.mono bw.out.size),d8.out,d9.out,bE,fun c hc e=>by have:=cr c hc; have:=ψ b8.out; omega⟩
  have db:=η bB;clear q5 aq bA da bE cr bB bx b8 cp cq bw
  go_wp2_with fail
  go_loopw [8,9,10,11,12] (fun nn i _ _ _ wr=>∃ (k n:Nat) (r:Rd) (s t:Value) (bs:List Nat),k≤rs.length+1∧i=.int .i64 k∧nn=.int .i64 n∧Hid (iy rs xs=AL rs (aF rs) (rs.length+1 - k) 302 r n)∧oG r∧r.1.length≤300∧n≤r.1.length∧Hid (RInv w w.heap.size M s t r bs (aF rs) (.slice (some ⟨w4.heap.size,0,none⟩) rs.length rs.length) b5 wr)) (fun _ i _ _ _ _=>rs.length+1 - (intOf i).toNat)
  case atStart=>exact ⟨0,0,(xs,List.replicate xs.length 0),_,_,_,ε,rfl,rfl,η rfl,⟨c9,List.length_replicate ..⟩,hn,ε,cv⟩
  case round=>
   obtain ⟨k,n,r,s,t,bs,hk,rfl,rfl,a3,ae,ar,bL,hI⟩:=hrel;clear cv;obtain ⟨Az,pz,bO,oz,cz,cw,dc,rfl,rfl,rfl,av,b9,a4⟩:=mZ hI.out.rd;have bj:=η ae;clear a4 ae;by_cases cb:k≤rs.length
   ·have eh:(0:Int)≤(k:Int):=by omega
    have de:(k:Int)≤(rs.length:Int):=by omega
    generalize wr=wo at *
    go_wp2_with fail
    go_loopw [8,10,11,12] (fun nn _ _ _ wr=>∃ (fuel n:Nat) (r:Rd) (s t:Value) (bs:List Nat),nn=.int .i64 n∧Hid (iy rs xs=AL rs (aF rs) (rs.length+1 - k) fuel r n)∧oG r∧r.1.length≤300∧n≤r.1.length∧302≤fuel+r.1.length∧Hid (RInv w w.heap.size M s t r bs (aF rs) (.slice (some ⟨w4.heap.size,0,none⟩) rs.length rs.length) b5 wr)) (fun _ _ _ _ wr=>400 - yS M wr)
    case atStart=>exact ⟨302,n,r,_,_,_,rfl,a3,bj.out,ar,bL,by omega,hI⟩
    case round=>
     clear a3 ar bL hI av b9 bj;obtain ⟨fuel,n,r,s,t,bs,rfl,a3,ae,ar,bL,ei,hI⟩:=hrel;obtain ⟨Az,pz,bO,oz,cz,cw,dc,rfl,rfl,rfl,av,b9,a4⟩:=mZ hI.out.rd;obtain ⟨fu,rfl⟩:∃ fu,fuel=fu+1:=⟨fuel - 1,by omega⟩
     have cx:Hid (iy rs xs=if 300 < (dZ rs (aF rs) k r (n+1)).1.length then (dZ rs (aF rs) k r (n+1),false)
       else if (dZ rs (aF rs) k r (n+1)).1.length=r.1.length then AL rs (aF rs) (rs.length - k) 302 (dZ rs (aF rs) k r (n+1)) n
       else AL rs (aF rs) (rs.length+1 - k) fu (dZ rs (aF rs) k r (n+1)) (n+1)):=η (by
      rw [a3.out,show rs.length+1 - k=(rs.length - k)+1 by omega]
      rw [AL,show rs.length - (rs.length - k)=k by omega])
     have dg:=η hI.out.yS;have di:=η ae;have m0:wr.cell? ⟨M,0,none⟩=some (.slice Az r.1.length pz):=aj hI.out.m_;have q6:=RQ rs (aF rs) k r.1 _ _ _ b0 b5 cw wr (aI.below HR.out hI.out.bel) hI.out.lv_ av db.out ae.iF ar hm HB.out
     have dj:Hid ((iL r.1 k (rs.zip (aF rs))).length≤64800000000):=η (by
      refine τ (MN (B:=8100000000) (fun p hp=>Jw ar (HB.out _ (List.of_mem_zip hp).1).1)) ?_;rw [List.length_zip]
      omega)
     have dk:n≤300:=by omega
     clear a3 av b9 a4 ae
     go_wp2_with fail
     refine q6.mono ?_;rintro e w6 ⟨cA,v6,b6,rfl,h6,cB⟩;obtain ⟨A6,p6,rfl,_,_⟩:=ai h6;have cD:=η (hI.out.below cA);have H6:=η h6
     have cE:Hid (∀ c ∈ b6,c ≠ M∧c ≠ w.heap.size):=η fun c hc=>by
      have h1:=cB c hc;have h2:=ψ hI.out.m_;have h3:=ψ hI.out.n_;omega
     have dl:Hid (iL r.1 k (rs.zip (aF rs))=iL r.1 k (rs.zip (aF rs))):=η rfl;have cG:Hid (dZ rs (aF rs) k r (n+1)=iU (iL r.1 k (rs.zip (aF rs))) (n+1) r):=η rfl;generalize iL r.1 k (rs.zip (aF rs))=more at *;clear q6 h6 cB cA hI m0 dl
     go_wp2_with fail
     go_loopw [12] (fun i wr=>∃ (q:Nat) (y:Rd) (s' t':Value) (bs':List Nat),q≤more.length∧i=.int .i64 q∧Hid (y=iU (more.take q) (n+1) r)∧oG y∧y.1.length≤r.1.length+q∧r.1.length≤y.1.length∧Hid (RInv w w.heap.size M s' t' y bs' (aF rs) (.slice (some ⟨w4.heap.size,0,none⟩) rs.length rs.length) b5 wr)∧Hid (aQ wr [.slice A6 more.length p6] more b6)) (fun i _=>more.length - (intOf i).toNat)
     case atStart=>exact ⟨0,r,_,_,_,ε,rfl,η rfl,di.out,ν,ν,cD,H6⟩
     case round=>
      obtain ⟨q,y,s',t',bs',hq,rfl,bc,bk,dp,ds,hJ,af⟩:=hrel;clear cD H6;obtain ⟨Ay,py,bf,oy,cy,dt,du,rfl,rfl,rfl,bR,bX,aw⟩:=mZ hJ.out.rd;have dv:=η aw;have a5:=η bk;clear aw bk;have ej:q≤64800000000:=by have:=dj.out; omega
      have m0:wr.cell? ⟨M,0,none⟩=some (.slice Ay y.1.length py):=aj hJ.out.m_;have m1:wr.cell? ⟨M,1,none⟩=some (.slice (some ⟨bf,oy,none⟩) y.2.length cy):=aj hJ.out.m_;by_cases c0:q < more.length
      ·have ek:(0:Int)≤(q:Int):=by omega
       have dx:(q:Int) < (more.length:Int):=by omega
       obtain ⟨mb,mo,Am,cm,bm,rfl,_,e0,J,cI,cJ⟩:=dQ af.out c0;have cK:=η (JE more (n+1) r q c0);generalize more[q]=a at *
       go_wp2_with fail
       go_still_tail 6,(by kernel_rfl)
       change wpList _ _ _ _ _ wr.drew;have hD:Below wr.heap.size wr wr.drew:=Below.drew ϑ;have c3:=hJ.out.below hD;have qd:=RX y.1 y.2 a (n+1) _ _ _ bf oy cy dt du bm wr.drew (au.below bR hD) (dG.below bX hD) (ak.below cI hD) dv.out a5.out.iF (by omega);have e9:((n+1:Nat):Int)=(n:Int)+1:=by omega
       rw [e9] at qd;have cL:=au.below af.out hD;have cP:=η hJ.out.far;have dy:Hid (∀ c ∈ bm,c ≠ M∧c ≠ w.heap.size):=η fun c hc=>cE.out c (cJ c hc)
       clear hJ af hD m0 m1 e0 J cI cJ bR bX;generalize wr.drew=wd at *
       go_wp2_with fail
       refine qd.mono ?_;rintro e w7 ⟨c4,x0,x1,b7,rfl,h7,cQ⟩;have ag:=c3.below c4;have cT:=au.below cL c4;have el:=ψ c3.m_;have em:=ψ c3.n_
       have az:∀ c ∈ b7,c ≠ M∧c ≠ w.heap.size:=fun c hc=>by
        rcases cQ c hc with h | h
        ·rcases μ.1 h with h | h
         ·exact cP.out c h
         ·exact dy.out c h
        ·omega
       obtain ⟨A7,p7,dz,o7,c7,en,eo,rfl,rfl,rfl,-,-,-⟩:=mZ h7;have cU:=η (ag.set h7 az)
       have dC:=η (au.keep (w':=(w7.setCell ⟨M,0,none⟩ (.slice A7 (gI (y.1,y.2) a (n+1)).1.length p7)).setCell ⟨M,1,none⟩ (.slice (some ⟨dz,o7,none⟩) (gI (y.1,y.2) a (n+1)).2.length c7)) cT fun c hc=>by
        have:=(cE.out c hc).1
        rw [π _ _ _ _ this,π _ _ _ _ this])
       have y0:w7.frozen? ⟨M,0,none⟩=false:=aB ag.m_;have y1:w7.frozen? ⟨M,1,none⟩=false:=aB ag.m_;have y2:w7.cell? ⟨M,0,none⟩=some (.slice Ay y.1.length py):=aj ag.m_;have y3:w7.cell? ⟨M,1,none⟩=some (.slice (some ⟨bf,oy,none⟩) y.2.length cy):=aj ag.m_;have c5:=η (JF (y.1,y.2) a (n+1));have cV:=a5.out.put a (n+1);have dE:Hid (gI (y.1,y.2) a (n+1)=iU (more.take (q+1)) (n+1) r):=η (by rw [cK.out,← bc.out]);have dT:(gI (y.1,y.2) a (n+1)).1.length≤r.1.length+(q+1):=by have h1:y.1.length≤r.1.length+q:=dp; have h2:=c5.out.2; exact τ h2 (by show y.1.length+1≤_; omega)
       have e7:r.1.length≤(gI (y.1,y.2) a (n+1)).1.length:=τ ds c5.out.1;clear qd h7 cQ c4 ag cT az cK bc c5;have bo:oG (gI (y.1,y.2) a (n+1)):=cV;have cW:=η bo;clear cV bo;generalize gI (y.1,y.2) a (n+1)=rn at *;go_wp2;go_roundw
       case rel=>exact ⟨q+1,rn,_,_,_,c0,by go_num,dE,cW.out,dT,e7,cU,dC⟩
       case measure=>simp [intOf]; omega
      ·have he:q=more.length:=by omega
       have dx:¬ (q:Int) < (more.length:Int):=by omega
       have cX:Hid (dZ rs (aF rs) k r (n+1)=y):=η (by rw [cG.out,bc.out,he,ϕ ν]);have am:Hid (iy rs xs=if 300 < y.1.length then (y,false) else if y.1.length=r.1.length then AL rs (aF rs) (rs.length - k) 302 y n else AL rs (aF rs) (rs.length+1 - k) fu y (n+1)):=η (by rw [cx.out,cX.out]);clear bc cx cG cX bR bX he;by_cases aD:300 < y.1.length
       ·have HG:Hid (iy rs xs=(y,false)):=η (by rw [am.out,if_pos aD])
        have c6:(300:Int) < (y.1.length:Int):=by omega
        have n0:wr.cell? ⟨w.heap.size,0,none⟩=some (.slice none 0 0):=aj hJ.out.n_;have n1:wr.cell? ⟨w.heap.size,1,none⟩=some (.slice none 0 0):=aj hJ.out.n_;have n2:wr.frozen? ⟨w.heap.size,0,none⟩=false:=aB hJ.out.n_;have n3:wr.frozen? ⟨w.heap.size,1,none⟩=false:=aB hJ.out.n_;have a0:=η (hJ.out.fin ν);have z0:=a0.out.1;have z1:=a0.out.2.1;clear hJ am af;go_wp2;exact bodyPost_ret (v:=.tuple #[.agg #[.slice Ay y.1.length py,.slice (some ⟨bf,oy,none⟩) y.2.length cy],.bool false]) (by simp [results,Tryz.results69,go_sem,z0,z1]) rfl ⟨a0.out.2.2.1,_,_,by rw [HG.out],_,by rw [HG.out]; exact a0.out.2.2.2⟩
       ·have c6:¬ (300:Int) < (y.1.length:Int):=by omega
        by_cases bg:y.1.length=r.1.length
        ·have HG:Hid (iy rs xs=AL rs (aF rs) (rs.length+1 - (k+1)) 302 y n):=η (by rw [am.out,if_neg aD,if_pos bg,show rs.length+1 - (k+1)=rs.length - k by omega])
         have cY:(y.1.length:Int)=(r.1.length:Int):=by omega
         have c8:Hid (n≤y.1.length):=η (by omega);have bh:Hid (y.1.length≤300):=η (by omega);clear am af bg;go_wp2;go_roundw
         case rel=>exact ⟨k+1,n,y,_,_,_,by omega,by go_num,by go_num,HG,a5.out,bh.out,c8.out,hJ⟩
         case measure=>simp [intOf]; omega
        ·have HG:Hid (iy rs xs=AL rs (aF rs) (rs.length+1 - k) fu y (n+1)):=η (by rw [am.out,if_neg aD,if_neg bg])
         have cY:¬ (y.1.length:Int)=(r.1.length:Int):=by omega
         have c8:Hid (n+1≤y.1.length):=η (by omega);have bh:Hid (y.1.length≤300):=η (by omega);have e8:Hid (302≤fu+y.1.length):=η (by omega);have ea:=η hJ.out.yS;have eb:Hid (r.1.length < y.1.length):=η (by omega);clear am af bg;go_wp2;go_roundw
         case rel=>exact ⟨fu,n+1,y,_,_,_,by go_num,HG,a5.out,bh.out,c8.out,e8.out,hJ⟩
         case measure=>rw [dg.out,ea.out]; have:=eb.out; have:=bh.out; omega
   ·have he:k=rs.length+1:=by omega
    have de:¬ (k:Int)≤(rs.length:Int):=by omega
    have HG:Hid (iy rs xs=(r,true)):=η (by
     rw [a3.out,he,Nat.sub_self];unfold AL
     rfl)
    have m0:wr.cell? ⟨M,0,none⟩=some (.slice Az r.1.length pz):=aj hI.out.m_;have m1:wr.cell? ⟨M,1,none⟩=some (.slice (some ⟨bO,oz,none⟩) r.2.length cz):=aj hI.out.m_;have n0:wr.cell? ⟨w.heap.size,0,none⟩=some (.slice none 0 0):=aj hI.out.n_;have n1:wr.cell? ⟨w.heap.size,1,none⟩=some (.slice none 0 0):=aj hI.out.n_;have n2:wr.frozen? ⟨w.heap.size,0,none⟩=false:=aB hI.out.n_;have n3:wr.frozen? ⟨w.heap.size,1,none⟩=false:=aB hI.out.n_;have a0:=η (hI.out.fin ν);have z0:=a0.out.1;have z1:=a0.out.2.1;clear hI av b9 a3 he;go_wp2;exact bodyPost_ret (v:=.tuple #[.agg #[.slice Az r.1.length pz,.slice (some ⟨bO,oz,none⟩) r.2.length cz],.bool true]) (by simp [results,Tryz.results69,go_sem,z0,z1]) rfl ⟨a0.out.2.2.1,_,_,by rw [HG.out],_,by rw [HG.out]; exact a0.out.2.2.2⟩
end
section
open Go.RowKit D
structure D.qA (vars:List ByteArray) (fs ps ns:List A) (head:A) (wt:Nat→Bool):Prop where
 hv:ji vars
 p4:ps.length≤4
 fl:fs.length≤1000000
 nl:ns.length≤1000000
 fok:∀ f ∈ fs,aT f
 pok:∀ p ∈ ps,aZ p=true
 nok:∀ n ∈ ns,aZ n=true
 hok:aZ head=true
 pin:∀ p ∈ ps,∀ t ∈ p.args,t.var=true→t.name ∈ vars
 nin:∀ n ∈ ns,∀ t ∈ n.args,t.var=true→t.name ∈ vars
 hin:∀ t ∈ head.args,t.var=true→t.name ∈ vars
 want:∀ i,i < 12→wt i=Gv vars head ns i
 tight:∀ b,(∀ p ∈ ps,wZ b p.args)→wZ b head.args∧∀ n ∈ ns,wZ b n.args
structure D.bQ (K:Nat→Prop) (sk:Nat) (w w':World):Prop where
 os:w'.os=w.os
 tape:w'.tape=w.tape
 output:w'.output=w.output
 size:w.heap.size≤w'.heap.size
 block:∀ k,k < w.heap.size→K k→w'.heap[k]? = w.heap[k]?
 rest:∀ q,(q < 18∨43≤q)→w'.cell? ⟨sk,q,none⟩=w.cell? ⟨sk,q,none⟩
section
variable {K:Nat→Prop} {sk:Nat} {w w' w2:World}
theorem D.bQ.trans (h:bQ K sk w w') (k:bQ K sk w' w2):bQ K sk w w2:=
 ⟨k.os.trans h.os,k.tape.trans h.tape,k.output.trans h.output,τ h.size k.size,fun i hi hK=>(k.block i (κ hi h.size) hK).trans (h.block i hi hK),fun q hq=>(k.rest q hq).trans (h.rest q hq)⟩
theorem D.bQ.zM (hK:∀ k,K k→k ≠ sk) (h:cO sk 18 w w'):bQ K sk w w':=
 ⟨h.grow.os,h.grow.tape,h.grow.output,h.grow.size,fun k hk y=>h.block hk (hK k y),fun q hq=>h.rest q (by omega)⟩
theorem D.bQ.of_below (y:sk < w.heap.size) (h:Below w.heap.size w w'):bQ K sk w w':=
 ⟨h.os,h.tape,h.output,h.size,fun k hk _=>h.block k hk,fun q _=>World.cell?_of_block (h.block _ y)⟩
theorem D.bQ.keep {α:Type} {R:Rel α} (g:Good R) {cs:List Value} {x:α} {bs:List Nat} (h:bQ K sk w w') (hr:R w cs x bs) (I:∀ b ∈ bs,K b):R w' cs x bs:=
 g.keep hr fun b y=>h.block b (g.lt hr b y) (I b y)
theorem D.kP.run {sb:Nat} {v1 v2:Value} {wt:Nat→Bool} {io:Bool} {ah:Int} {tell:Value} (h:kP sk sb v1 v2 wt io ah tell w) (k:bQ K sk w w'):kP sk sb v1 v2 wt io ah tell w':=
 ⟨(k.rest _ (by omega)).trans h.st,(k.rest _ (by omega)).trans h.p1,(k.rest _ (by omega)).trans h.p2,fun i hi=>(k.rest _ (by omega)).trans (h.wd i hi),(k.rest _ (by omega)).trans h.io,(k.rest _ (by omega)).trans h.ah,(k.rest _ (by omega)).trans h.tl⟩
end
structure D.oW (vars:List ByteArray) (fs:List A) (rn:List Nat) (bs:List Nat) (ps ns:List A) (sk sb:Nat) (v1 v2:Value) (bp bn:List Nat) (wt:Nat→Bool) (ah:Int) (tell:Value) (K:Nat→Prop) (b:Bd) (w:World):Prop where
 sea:kP sk sb v1 v2 wt false ah tell w
 at_:fQ vars b sk 18 w
 ok:iW vars b
 wds:rP b
 qM:jO sb fs rn bs w
 pps:kK vars w [v1] ps bp
 pns:kK vars w [v2] ns bn
 kbs:∀ x ∈ bs,K x
 kbp:∀ x ∈ bp,K x
 kbn:∀ x ∈ bn,K x
section
variable {vars:List ByteArray} {fs:List A} {rn:List Nat} {bs:List Nat} {ps ns:List A} {sk sb:Nat} {v1 v2:Value} {bp bn:List Nat} {wt:Nat→Bool} {ah:Int} {tell:Value} {K:Nat→Prop} {b b':Bd} {w w':World}
theorem D.oW.kept (h:oW vars fs rn bs ps ns sk sb v1 v2 bp bn wt ah tell K b w) (k:bQ K sk w w') (h1:fQ vars b' sk 18 w') (I:iW vars b') (J:rP b'):oW vars fs rn bs ps ns sk sb v1 v2 bp bn wt ah tell K b' w':=
 ⟨h.sea.run k,h1,I,J,h.qM.keep (fun x y=>k.block x (h.qM.lt x y) (h.kbs x y)) k.size,k.keep (aX vars) h.pps h.kbp,k.keep (aX vars) h.pns h.kbn,h.kbs,h.kbp,h.kbn⟩
theorem D.oW.below (h:oW vars fs rn bs ps ns sk sb v1 v2 bp bn wt ah tell K b w) (k:Below w.heap.size w w'):oW vars fs rn bs ps ns sk sb v1 v2 bp bn wt ah tell K b w':=
 h.kept (bQ.of_below h.sea.lt k) (h.at_.keep (k.block _ h.sea.lt)) h.ok h.wds
end
structure D.vS (vars:List ByteArray) (head:A) (sk:Nat) (K:Nat→Prop) (c5 c7:Addr) (T:Bool→World→List A→Prop) (go:List A→Bool):Prop where
 call:∀ (w:World) (b:Bd) (told:List A),iW vars b→rP b→wZ b head.args→fQ vars b sk 18 w→T true w told→Calls Tryz.prog 208 #[.pointer (some ⟨sk,18,none⟩),.pointer (some c5),.pointer (some c7)] w fun e w'=>
  e=.returned (.bool (go (told ++ [aY head b])))∧T (go (told ++ [aY head b])) w' (told ++ [aY head b])∧bQ K sk w w'∧w'.heap[sk]? = w.heap[sk]?
 keep:∀ {f:Bool} (w w':World) (told:List A),T f w told→cO sk 18 w w'→T f w' told
def D.iO (vars:List ByteArray) (fs ps ns:List A) (head:A) (K:Nat→Prop) (sk:Nat) (T:Bool→World→List A→Prop) (go:List A→Bool) (b:Bd) (left:Nat) (told:List A) (held more:Bool) (w w':World):Prop:=
 ∃ y,bQ K sk w w'∧fQ vars b sk 18 w'∧T more w' (told ++ y)∧(∀ t ∈ y,∃ σ,sZ fs ps ns b left σ∧gm σ head=t)∧(more=true→∀ σ,sZ fs ps ns b left σ→gm σ head ∈ y)∧(held=true→y ≠ [])∧(more=false→go (told ++ y)=false)
section
variable {vars:List ByteArray} {fs ps ns:List A} {head:A} {wt:Nat→Bool} {K:Nat→Prop} {sk:Nat} {T:Bool→World→List A→Prop} {go:List A→Bool} {b:Bd} {left:Nat} {told:List A} {w w':World}
theorem D.sQ {a:A} (h:aZ a=true):∀ t ∈ a.args,t.var=false→t.name ≠ ⟨#[]⟩:=fun t y hv=>by
 unfold aZ at h;simp only [ο,decide_eq_true_eq,ό] at h;have:=h.2 t y;unfold iP at this;rw [hv] at this;exact nX (by simpa using this)
theorem D.jo {a:A} (h:aZ a=true):a.args.length≤3:=by
 unfold aZ at h;simp only [ο,decide_eq_true_eq] at h;exact h.1.2
theorem D.Si (E:qA vars fs ps ns head wt) (I:rP b) (hc:∀ n ∈ ns,wZ b n.args) (h:xO fs ns b=true) (σ:Wo):¬ sZ fs ps ns b left σ:=by
 rintro ⟨h1,_,J⟩;obtain ⟨n,y,U⟩:=List.any_eq_true.1 h;have:=(xP E.fok (sO (E.nok n y) I (hc n y))).1 U;rw [jK (hc n y) h1] at this;exact J n y this
theorem D.Sj (E:qA vars fs ps ns head wt) (I:rP b) (hc:∀ n ∈ ns,wZ b n.args) (h:xO fs ns b=false):∀ n ∈ ns,aY n b ∉ fs:=fun n y hm=>by
 have h1:decide (dM (aY n b) ∈ fs.map dM)=true:=(xP E.fok (sO (E.nok n y) I (hc n y))).2 hm;have:xO fs ns b=true:=List.any_eq_true.2 ⟨n,y,h1⟩;rw [h] at this; cases this
theorem D.Sl (hc:wZ b head.args) {y:List A} (U:∀ t ∈ y,∃ σ,sZ fs ps ns b left σ∧gm σ head=t) (I:y ≠ []) (σ:Wo) (h:sZ fs ps ns b left σ):gm σ head ∈ y:=by
 obtain ⟨t,J⟩:=List.exists_mem_of_ne_nil y I;obtain ⟨σ0,h0,e0⟩:=U t J;rw [← jK hc h.1,jK hc h0.1,e0]; exact J
end
end
end Go.Proofs.YtlmngncogomgeaaGreatDoor
