/- Of the proof of FnExactDelta: RunS, RunP2. -/
import Derived.Test.YtiidmgchadagbaaGreatDoorM34
set_option linter.unusedVariables false
set_option maxHeartbeats 8000000
set_option maxRecDepth 100000
namespace Go.Proofs.YtiidmgchadagbaaGreatDoor
open Go.RowKit D
attribute [local go_sem ↓] Go.wp_at_zero Go.wp_at_succ
theorem D.NP {list:List A} {level B:Nat} {rl:List (Ru × Nat)} (h:∀ p ∈ rl,(allB list p.1.body).length≤B):(ja list level rl).length≤rl.length * B:=by
 have h1:∀ (bs:List Bd) (r:Ru) (out:List A),(bs.foldl (fun o b=>fA o (bY r.head b)) out).length≤out.length+bs.length:=by
  intro bs r
  induction bs with
  | nil=>intro out; exact Nat.le_refl _
  | cons b bs ih=>
   intro out;have h2:=ih (fA out (bY r.head b));have h3:=G9 out (bY r.head b);simp only [List.foldl_cons,List.length_cons];omega
 have h2:∀ k,k≤rl.length→(ja list level (rl.take k)).length≤k * B:=by
  intro k
  induction k with
  | zero=>intro _; simp [ja]
  | succ k ih=>
   intro hk;have h3:=ih (by omega);rw [Dx list level rl k (by omega),Nat.add_mul]
   split
   ·have h4:=h1 (allB list rl[k].1.body) rl[k].1 (ja list level (rl.take k))
    have h5:=h _ (List.getElem_mem (show k < rl.length by omega));unfold Ec;omega
   ·omega
 have:=h2 rl.length (Nat.le_refl _)
 rwa [List.take_of_length_le (Nat.le_refl _)] at this
structure D.RInv (W:World) (N M:Nat) (s t:Value) (r:Rd) (bs:List Nat) (lv:List Nat) (vl:Value) (bl:List Nat) (w:World):Prop where
 n_:w.heap[N]? = some (.cells #[.slice none 0 0,.slice none 0 0] 63 (0,0))
 m_:w.heap[M]? = some (.cells #[s,t] 63 (0,0))
 rd:rD w [s,t] r bs
 far:∀ c ∈ bs,c ≠ M∧c ≠ N
 bel:Below W.heap.size W w
 ge:W.heap.size≤M
 nm:N ≠ M
 lv_:jD w [vl] lv bl
 lf:∀ c ∈ bl,c ≠ M
theorem D.RInv.below {W:World} {N M:Nat} {s t:Value} {r:Rd} {bs lv:List Nat} {vl:Value} {bl:List Nat} {w w':World} (h:RInv W N M s t r bs lv vl bl w) (hb:Below w.heap.size w w'):RInv W N M s t r bs lv vl bl w':=
 ⟨by rw [hb.block _ (lt_of_block h.n_)]; exact h.n_,by rw [hb.block _ (lt_of_block h.m_)]; exact h.m_,pG.below h.rd hb,h.far,h.bel.trans (hb.mono h.bel.size),h.ge,h.nm,dL.below h.lv_ hb,h.lf⟩
theorem D.RInv.set {W:World} {N M:Nat} {s t s' t':Value} {r r':Rd} {bs bs' lv:List Nat} {vl:Value} {bl:List Nat} {w:World} (h:RInv W N M s t r bs lv vl bl w) (h':rD w [s',t'] r' bs') (hf:∀ c ∈ bs',c ≠ M∧c ≠ N):
  RInv W N M s' t' r' bs' lv vl bl ((w.setCell ⟨M,0,none⟩ s').setCell ⟨M,1,none⟩ t'):=by
 have hk:∀ k,k ≠ M→((w.setCell ⟨M,0,none⟩ s').setCell ⟨M,1,none⟩ t').heap[k]? = w.heap[k]?:=fun k hk=>by rw [Below.heap_setCell _ _ _ _ hk,Below.heap_setCell _ _ _ _ hk]
 exact ⟨(hk _ h.nm).trans h.n_,by simpa using bZ (o:=1) (u:=t') (bZ (o:=0) (u:=s') h.m_),pG.keep h' fun c hc=>hk c (hf c hc).1,hf,(h.bel.setCell (p:=⟨M,0,none⟩) h.ge s').setCell (p:=⟨M,1,none⟩) h.ge t',h.ge,h.nm,dL.keep h.lv_ fun c hc=>hk c (h.lf c hc),h.lf⟩
theorem D.oJ {w:World} {s t:Value} {r:Rd} {bs:List Nat} (h:rD w [s,t] r bs):∃ A p b o c b0 b1,s=.slice A r.1.length p∧t=.slice (some ⟨b,o,none⟩) r.2.length c∧bs=b0 ++ b1∧aI w [.slice A r.1.length p] r.1 b0∧jD w [.slice (some ⟨b,o,none⟩) r.2.length c] r.2 b1∧r.2.length=r.1.length:=by
 obtain ⟨s',b,o,c,b0,b1,hcs,rfl,h1,h2,h3⟩:=h;simp only [List.cons.injEq,and_true] at hcs;obtain ⟨rfl,rfl⟩:=hcs;obtain ⟨A,p,rfl,_⟩:=af h1;exact ⟨A,p,b,o,c,b0,b1,rfl,rfl,rfl,h1,h2,h3⟩
theorem D.RInv.fin {W:World} {N M:Nat} {s t:Value} {r:Rd} {bs lv:List Nat} {vl:Value} {bl:List Nat} {w:World} (h:RInv W N M s t r bs lv vl bl w) (hN:W.heap.size≤N):
  ((w.setCell ⟨N,0,none⟩ s).setCell ⟨N,1,none⟩ t).cell? ⟨N,0,none⟩=some s∧((w.setCell ⟨N,0,none⟩ s).setCell ⟨N,1,none⟩ t).cell? ⟨N,1,none⟩=some t∧Below W.heap.size W ((w.setCell ⟨N,0,none⟩ s).setCell ⟨N,1,none⟩ t)∧rD ((w.setCell ⟨N,0,none⟩ s).setCell ⟨N,1,none⟩ t) [s,t] r bs:=by
 have hf:=bZ (o:=1) (u:=t) (bZ (o:=0) (u:=s) h.n_);refine ⟨ak hf,ak hf,(h.bel.setCell (p:=⟨N,0,none⟩) hN s).setCell (p:=⟨N,1,none⟩) hN t,pG.keep h.rd fun c hc=>?_⟩;have hne:=(h.far c hc).2;rw [Below.heap_setCell _ _ _ _ hne,Below.heap_setCell _ _ _ _ hne]
def D.FC (M:Nat) (w:World):Nat:=match w.cell? ⟨M,0,none⟩ with | some (.slice _ n _)=>n | _=>0
theorem D.RInv.FC {W:World} {N M:Nat} {A:Option Addr} {p:Nat} {t:Value} {r:Rd} {bs lv:List Nat} {vl:Value} {bl:List Nat} {w:World} (h:RInv W N M (.slice A r.1.length p) t r bs lv vl bl w):FC M w=r.1.length:=by
 have:w.cell? ⟨M,0,none⟩=some (.slice A r.1.length p):=ak h.m_;unfold D.FC;rw [this]
theorem D.Qs (n:Nat) {w:World} {g:Nat} (h:w.heap[g]? = some (.cells (madeCells #[.int .i64 0] n) 3 (0,0))) (hm:n≤maxLen):∃ bs,jD w [.slice (some ⟨g,0,none⟩) n n] (List.replicate n 0) bs∧∀ c ∈ bs,c=g:=by
 rw [CO] at h;obtain ⟨bs,h1,_,h3⟩:=tH h (by simpa using hm);rw [List.length_replicate] at h1;exact ⟨bs,h1,h3⟩
def D.SJ (w0:World) (N:Nat) (xs:List A) (Ar Ag:Option Addr) (n1 p1 n2 p2:Nat) (f:Nat→Bool) (a:Act) (w':World):Prop:=
 ∃ (v6 v13 v14 v15 v16 v17 v18:Value) (M g:Nat) (bl:List Nat) (wi:World),a=⟨#[.slice Ar n1 p1,.slice Ag n2 p2,undef,undef,.pointer (some ⟨N,0,none⟩),.bool false,v6,undef,undef,undef,undef,undef,undef,v13,v14,v15,v16,v17,v18,undef,undef,undef,undef,undef,undef,undef,undef,undef,undef,undef,undef,undef,undef,undef,undef,undef,undef,undef,undef,undef,undef,undef,undef,undef,undef,undef,undef,undef,undef,undef,undef,undef,undef,undef,undef,undef,undef,undef,undef,undef,undef,undef,undef,undef],[]⟩∧Below w0.heap.size w0 wi∧
  (f 0=true→v13=.slice Ag n2 p2)∧(f 1=true→(∃ A cap,v14=.slice A xs.length cap)∧aI wi [v14] xs bl∧∀ c ∈ bl,w0.heap.size≤c)∧(f 2=true→v15=.slice Ag n2 p2)∧(f 3=true→v16=.int .i64 n2)∧
  (f 4=true→v17=.slice (some ⟨g,0,none⟩) n2 n2∧w0.heap.size≤g∧wi.heap[g]? = some (.cells (madeCells #[.int .i64 0] n2) 3 (0,0)))∧(f 5=true→v18=.agg #[v14,v17]∧f 1=true∧f 4=true)∧
  (f 6=true→v6=.pointer (some ⟨M,0,none⟩)∧w0.heap.size≤M∧wi.heap[M]? = some (.cells #[.slice none 0 0,.slice none 0 0] 63 (0,0)))∧(f 6=true→(f 1=true→M ∉ bl)∧(f 4=true→g ≠ M))∧
  (f 7=false→w'=wi)∧(f 7=true→w'=(wi.setCell ⟨M,0,none⟩ v14).setCell ⟨M,1,none⟩ v17)∧(f 7=true→∀ i,i < 7→f i=true)
theorem run_any (rs:List Ru) (xs:List A) (v0 v1:Value) (b0 b1:List Nat) (w:World) (hr:dO w [v0] rs b0) (hx:aI w [v1] xs b1) (hasc:ig xs=true) (hn:xs.length≤300) (hm:rs.length≤8) (hok:rs.all fC=true)
  (hb:∀ r ∈ rs,r.body.length≤4∧r.head.args.length≤1000∧∀ p ∈ r.body,p.atom.args.length≤1000) (hxa:∀ a ∈ xs,a.args.length≤1000):
  Calls Tryz.prog 32 #[v0,v1] w fun e w'=>Below w.heap.size w w'∧∃ e0 e1 bs',e=.returned (.tuple #[.agg #[e0,e1],.bool (iM rs xs).2])∧rD w' [e0,e1] (iM rs xs).1 bs':=by
 obtain ⟨Ar,p1,rfl,hr1,hr2⟩:=af hr;obtain ⟨Ag,p2,rfl,hx1,hx2⟩:=af hx;have HR:=η hr;have HX:=η hx;have HB:=η hb;have HXA:=η hxa;have hmk:=fun w'=>run_make_row' (P:=Tryz.prog) 37 3 (.int .i64 0) 8 Tryz.underlying37 AP rfl .i64 .i64 xs.length (by omega) (by omega) w'
 have hA:Below w.heap.size w (w.alloc (.cells #[.slice none 0 0,.slice none 0 0] 63)):=(Below.refl _ _).alloc (Nat.le_refl _) _;have hN:=heap_alloc_new w (.cells #[.slice none 0 0,.slice none 0 0] 63);clear hr hx hr1 hr2 hx1 hx2 hb hxa
 go_enter Tryz.func32,Tryz.ntmps32
 go_wp2_with fail
 generalize w.alloc (.cells #[.slice none 0 0,.slice none 0 0] 63)=w0 at *;have HA:=η hA;have HN:=η hN;clear hA hN;refine pJ (SJ w0 w.heap.size xs Ar Ag rs.length p1 xs.length p2) (by kernel_rfl) (by kernel_rfl) ?h0 ?hs ?hd
 case h0=>exact ⟨undef,undef,undef,undef,undef,undef,undef,0,0,[],_,rfl,(Below.refl _ _).drew,fun h=>(by cases h),fun h=>(by cases h),fun h=>(by cases h),fun h=>(by cases h),fun h=>(by cases h),fun h=>(by cases h),fun h=>(by cases h),fun h=>(by cases h),fun _=>rfl,fun h=>(by cases h),fun h=>(by cases h)⟩
 case hs=>
  intro i oo ho f aa w2 hJ hf haf;obtain ⟨v6,v13,v14,v15,v16,v17,v18,M,g,bl,wi,rfl,hB,e0,e1,e2,e3,e4,e5,e6,dd,hw0,hw7,hall⟩:=hJ;by_cases h19:i=7
  case pos=>
   subst h19;obtain rfl:=Option.some.inj ho;simp [Region.binds] at haf;obtain ⟨f6,f5,f1,f0,_,f2,f3,f4,_⟩:=haf;obtain rfl:=hw0 hf;have g5:=(e5 f5).1;have g6:=(e6 f6).1;have g4:=(e4 f4).1;subst g5;subst g6;subst g4;obtain ⟨⟨A3,q3,rfl⟩,_⟩:=e1 f1;have hbx:=(e6 f6).2.2;have hf0:w2.frozen? ⟨M,0,none⟩=false:=aB hbx;have hf1:w2.frozen? ⟨M,1,none⟩=false:=aB hbx;have hc0:w2.cell? ⟨M,0,none⟩=some (.slice none 0 0):=ak hbx;have hc1:w2.cell? ⟨M,1,none⟩=some (.slice none 0 0):=ak hbx;refine wpOp_step rfl (fun K' hK=>?_);go_simp;refine hK _ _ ?_;refine ⟨_,_,_,_,_,_,_,M,g,bl,w2,rfl,hB,fun _=>?_,e1,fun _=>?_,fun _=>?_,e4,fun _=>⟨rfl,f1,f4⟩,fun _=>⟨rfl,(e6 f6).2⟩,dd,fun h=>(by cases h),fun _=>rfl,fun _ i hi=>?_⟩
   ·first | rfl | exact e0 f0
   ·first | rfl | exact e2 f2
   ·first | rfl | exact e3 f3
   match i,hi with
   | 0,_=>exact f0
   | 1,_=>exact f1
   | 2,_=>exact f2
   | 3,_=>exact f3
   | 4,_=>exact f4
   | 5,_=>exact f5
   | 6,_=>exact f6
   | q+7,h=>omega
  case neg=>
   have h7:f 7=false:=by
    cases hc:f 7 with
    | false=>rfl
    | true=>
     by_cases hlt:i < 7
     ·exact absurd (hall hc i hlt) (by simp [hf])
     ·exfalso
      rw [Array.getElem?_eq_none (by simp; omega)] at ho;cases ho
   obtain rfl:=hw0 h7;have hsz:=hB.size
   match i,ho,hf,haf with
   | 0,ho,hf,haf=>
    obtain rfl:=Option.some.inj ho;refine wpOp_step rfl (fun K' hK=>?_);go_simp;refine hK _ _ ?_;exact ⟨v6,(.slice Ag xs.length p2),v14,v15,v16,v17,v18,M,g,bl,_,rfl,hB,fun _=>rfl,e1,e2,e3,e4,e5,e6,dd,fun _=>rfl,fun h=>absurd (h7.symm.trans h) (by decide),fun h=>absurd (h7.symm.trans h) (by decide)⟩
   | 1,ho,hf,haf=>
    obtain rfl:=Option.some.inj ho;simp [Region.binds] at haf;have g0:=e0 haf;subst g0;have hBW:=HA.out.trans (hB.mono HA.out.size);have q:=Cc xs _ b1 w2 (ai.below HX.out hBW) (by omega) (fun a ha=>Nat.le_trans (HXA.out a ha) (by omega));refine wpOp_step rfl (fun K' hK=>?_);go_simp;refine q.mono ?_;rintro e w3 ⟨hb3,v3,b3,rfl,h3,hf3⟩;obtain ⟨A3,q3,rfl,_⟩:=af h3;refine hK _ _ ?_;exact ⟨v6,_,(.slice A3 xs.length q3),v15,v16,v17,v18,M,g,b3,_,rfl,hB.trans (hb3.mono hsz),fun _=>rfl,fun _=>⟨⟨_,_,rfl⟩,h3,fun c hc=>Nat.le_trans hsz (hf3 c hc)⟩,e2,e3,fun h=>⟨(e4 h).1,(e4 h).2.1,(hb3.block _ (lt_of_block (e4 h).2.2)).trans (e4 h).2.2⟩,fun h=>absurd ((e5 h).2.1.symm.trans hf) (by decide),fun h=>⟨(e6 h).1,(e6 h).2.1,(hb3.block _ (lt_of_block (e6 h).2.2)).trans (e6 h).2.2⟩,fun h=>⟨fun _ hc=>by have:=hf3 _ hc; have:=lt_of_block (e6 h).2.2; omega,(dd h).2⟩,fun _=>rfl,fun h=>absurd (h7.symm.trans h) (by decide),fun h=>absurd (h7.symm.trans h) (by decide)⟩
   | 2,ho,hf,haf=>
    obtain rfl:=Option.some.inj ho;refine wpOp_step rfl (fun K' hK=>?_);go_simp;refine hK _ _ ?_;exact ⟨v6,v13,v14,(.slice Ag xs.length p2),v16,v17,v18,M,g,bl,_,rfl,hB,e0,e1,fun _=>rfl,e3,e4,e5,e6,dd,fun _=>rfl,fun h=>absurd (h7.symm.trans h) (by decide),fun h=>absurd (h7.symm.trans h) (by decide)⟩
   | 3,ho,hf,haf=>
    obtain rfl:=Option.some.inj ho;simp [Region.binds] at haf;have g2:=e2 haf;subst g2;refine wpOp_step rfl (fun K' hK=>?_);go_simp;refine hK _ _ ?_;exact ⟨v6,v13,v14,_,(.int .i64 xs.length),v17,v18,M,g,bl,_,rfl,hB,e0,e1,fun _=>rfl,fun _=>rfl,e4,e5,e6,dd,fun _=>rfl,fun h=>absurd (h7.symm.trans h) (by decide),fun h=>absurd (h7.symm.trans h) (by decide)⟩
   | 4,ho,hf,haf=>
    obtain rfl:=Option.some.inj ho;simp [Region.binds] at haf;have g3:=e3 haf;subst g3;have hA2:Below w2.heap.size w2 (w2.alloc (.cells (madeCells #[.int .i64 0] xs.length) 3)):=(Below.refl _ _).alloc (Nat.le_refl _) _;refine wpOp_step rfl (fun K' hK=>?_);go_simp;refine hK _ _ ?_;exact ⟨v6,v13,v14,v15,_,(.slice (some ⟨w2.heap.size,0,none⟩) xs.length xs.length),v18,M,w2.heap.size,bl,_,rfl,hB.alloc hsz _,e0,fun h=>⟨(e1 h).1,ai.below (e1 h).2.1 hA2,(e1 h).2.2⟩,e2,fun _=>rfl,fun _=>⟨rfl,hsz,heap_alloc_new w2 _⟩,fun h=>absurd ((e5 h).2.2.symm.trans hf) (by decide),fun h=>⟨(e6 h).1,(e6 h).2.1,(hA2.block _ (lt_of_block (e6 h).2.2)).trans (e6 h).2.2⟩,fun h=>⟨(dd h).1,fun _ e=>by have:=lt_of_block (e6 h).2.2; omega⟩,fun _=>rfl,fun h=>absurd (h7.symm.trans h) (by decide),fun h=>absurd (h7.symm.trans h) (by decide)⟩
   | 5,ho,hf,haf=>
    obtain rfl:=Option.some.inj ho;simp [Region.binds] at haf;obtain ⟨f1,f4⟩:=haf;obtain ⟨⟨A3,q3,rfl⟩,_⟩:=e1 f1;have g4:=(e4 f4).1;subst g4;refine wpOp_step rfl (fun K' hK=>?_);go_simp;refine hK _ _ ?_;exact ⟨v6,v13,_,v15,v16,_,_,M,g,bl,_,rfl,hB,e0,e1,e2,e3,fun _=>⟨rfl,(e4 f4).2⟩,fun _=>⟨rfl,f1,f4⟩,e6,dd,fun _=>rfl,fun h=>absurd (h7.symm.trans h) (by decide),fun h=>absurd (h7.symm.trans h) (by decide)⟩
   | 6,ho,hf,haf=>
    obtain rfl:=Option.some.inj ho;have hA2:Below w2.heap.size w2 (w2.alloc (.cells #[.slice none 0 0,.slice none 0 0] 63)):=(Below.refl _ _).alloc (Nat.le_refl _) _;refine wpOp_step rfl (fun K' hK=>?_);go_simp;refine hK _ _ ?_;exact ⟨(.pointer (some ⟨w2.heap.size,0,none⟩)),v13,v14,v15,v16,v17,v18,w2.heap.size,g,bl,_,rfl,hB.alloc hsz _,e0,fun h=>⟨(e1 h).1,ai.below (e1 h).2.1 hA2,(e1 h).2.2⟩,e2,e3,fun h=>⟨(e4 h).1,(e4 h).2.1,(hA2.block _ (lt_of_block (e4 h).2.2)).trans (e4 h).2.2⟩,e5,fun _=>⟨rfl,hsz,heap_alloc_new w2 _⟩,fun _=>⟨fun h hc=>by have:=ai.lt (e1 h).2.1 _ hc; omega,fun h e=>by have:=lt_of_block (e4 h).2.2; omega⟩,fun _=>rfl,fun h=>absurd (h7.symm.trans h) (by decide),fun h=>absurd (h7.symm.trans h) (by decide)⟩
   | q+7,ho,hf,haf=>
    rw [Array.getElem?_eq_none (by simp; omega)] at ho;cases ho
 case hd=>
  intro f aa w3 hf hJ;obtain ⟨v6,v13,v14,v15,v16,v17,v18,M,g,bl,w2,rfl,hB,e0,e1,e2,e3,e4,e5,e6,dd,hw0,hw7,hall⟩:=hJ;obtain rfl:=hw7 (hf 7 (by simp));obtain rfl:=(e6 (hf 6 (by simp))).1;obtain rfl:=(e4 (hf 4 (by simp))).1;obtain ⟨⟨A3,q3,rfl⟩,ha3,hl3⟩:=e1 (hf 1 (by simp));have hbx:=(e6 (hf 6 (by simp))).2.2;have hge:=(e6 (hf 6 (by simp))).2.1;have hgb:=(e4 (hf 4 (by simp))).2.2;have hd1:=(dd (hf 6 (by simp))).1 (hf 1 (by simp));have hd2:=(dd (hf 6 (by simp))).2 (hf 4 (by simp));obtain ⟨bz,hz1,hz2⟩:=Qs xs.length hgb (by unfold maxLen; omega);have hfin:=bZ (o:=1) (u:=.slice (some ⟨g,0,none⟩) xs.length xs.length) (bZ (o:=0) (u:=.slice A3 xs.length q3) hbx);have hkp:∀ c,c ≠ M→((w2.setCell ⟨M,0,none⟩ (.slice A3 xs.length q3)).setCell ⟨M,1,none⟩ (.slice (some ⟨g,0,none⟩) xs.length xs.length)).heap[c]? = w2.heap[c]?:=fun c hc=>by rw [Below.heap_setCell _ _ _ _ hc,Below.heap_setCell _ _ _ _ hc]
  have hNw:w.heap.size < w0.heap.size:=lt_of_block HN.out;have hlz:(List.replicate xs.length 0).length=xs.length:=List.length_replicate ..
  have hRd:rD ((w2.setCell ⟨M,0,none⟩ (.slice A3 xs.length q3)).setCell ⟨M,1,none⟩ (.slice (some ⟨g,0,none⟩) xs.length xs.length)) [.slice A3 xs.length q3,.slice (some ⟨g,0,none⟩) xs.length xs.length] (xs,List.replicate xs.length 0) (bl ++ bz):=
   ⟨_,g,0,xs.length,bl,bz,by rw [hlz],rfl,ai.keep ha3 fun c hc=>hkp c fun e=>hd1 (e ▸ hc),by rw [hlz]; exact dL.keep hz1 fun c hc=>hkp c fun e=>hd2 ((hz2 c hc).symm.trans e),hlz⟩
  have hBF:=((HA.out.trans (hB.mono HA.out.size)).setCell (p:=⟨M,0,none⟩) (Nat.le_trans HA.out.size hge) (.slice A3 xs.length q3)).setCell (p:=⟨M,1,none⟩) (Nat.le_trans HA.out.size hge) (.slice (some ⟨g,0,none⟩) xs.length xs.length)
  have hNF:((w2.setCell ⟨M,0,none⟩ (.slice A3 xs.length q3)).setCell ⟨M,1,none⟩ (.slice (some ⟨g,0,none⟩) xs.length xs.length)).heap[w.heap.size]? = some (.cells #[.slice none 0 0,.slice none 0 0] 63 (0,0)):=by
   rw [hkp _ (by omega),hB.block _ hNw];exact HN.out
  have hfr:∀ c ∈ bl ++ bz,c ≠ M∧c ≠ w.heap.size:=fun c hc=>⟨(List.mem_append.1 hc).elim (fun h e=>hd1 (e ▸ h)) fun h e=>hd2 ((hz2 c h).symm.trans e),(List.mem_append.1 hc).elim (fun h e=>by have:=hl3 c h; omega) fun h e=>by have:=hz2 c h; have:=(e4 (hf 4 (by simp))).2.1; omega⟩
  have hmf:((w2.setCell ⟨M,0,none⟩ (.slice A3 xs.length q3)).setCell ⟨M,1,none⟩ (.slice (some ⟨g,0,none⟩) xs.length xs.length)).heap[M]? = some (.cells #[.slice A3 xs.length q3,.slice (some ⟨g,0,none⟩) xs.length xs.length] 63 (0,0)):=by simpa using hfin
  have q5:=yh rs _ b0 _ (aC.below HR.out hBF) hm hok;have HRd:=η hRd;have HBF:=η hBF;have HNF:=η hNF;have HMF:=η hmf;have HFR:=η hfr;have HGE:=η (Nat.le_trans HA.out.size hge);have HNM:Hid (w.heap.size ≠ M):=η (by omega);clear e0 e1 e2 e3 e4 e5 e6 dd hw0 hw7 hall hbx hge hgb hd1 hd2 hz1 hz2 hfin hkp hRd hBF hNF hfr hmf ha3 hl3 hB hlz hNw hf HN HA hmk;generalize (w2.setCell ⟨M,0,none⟩ (.slice A3 xs.length q3)).setCell ⟨M,1,none⟩ (.slice (some ⟨g,0,none⟩) xs.length xs.length)=w4 at *
  go_wp2_with fail
  refine q5.mono ?_;rintro e w5 ⟨hb5,rfl,hL5,hl5⟩;have hll:(ax rs).length=rs.length:=hL5.len;obtain ⟨b5,hi5,_,hi6⟩:=tH hL5.blk (by unfold maxLen; omega);rw [hll] at hi5
  have HI0:Hid (RInv w w.heap.size M (.slice A3 xs.length q3) (.slice (some ⟨g,0,none⟩) xs.length xs.length) (xs,List.replicate xs.length 0) (bl ++ bz) (ax rs) (.slice (some ⟨w4.heap.size,0,none⟩) rs.length rs.length) b5 w5):=η
   ⟨by rw [hb5.block _ (lt_of_block HNF.out)]; exact HNF.out,by rw [hb5.block _ (lt_of_block HMF.out)]; exact HMF.out,pG.below HRd.out hb5,HFR.out,HBF.out.trans (hb5.mono HBF.out.size),HGE.out,HNM.out,hi5,fun c hc e=>by have:=hi6 c hc; have:=lt_of_block HMF.out; omega⟩
  have HLL:=η hll;clear q5 hb5 hL5 hl5 hi5 hi6 hll HNF HMF HRd HFR HBF
  go_wp2_with fail
  go_loopw [8,9,10,11,12] (fun nn i _ _ _ wr=>∃ (k n:Nat) (r:Rd) (s t:Value) (bs:List Nat),k≤rs.length+1∧i=.int .i64 k∧nn=.int .i64 n∧Hid (iM rs xs=AQ rs (ax rs) (rs.length+1 - k) 302 r n)∧pW r∧r.1.length≤300∧n≤r.1.length∧Hid (RInv w w.heap.size M s t r bs (ax rs) (.slice (some ⟨w4.heap.size,0,none⟩) rs.length rs.length) b5 wr)) (fun _ i _ _ _ _=>rs.length+1 - (intOf i).toNat)
  case atStart=>exact ⟨0,0,(xs,List.replicate xs.length 0),_,_,_,Nat.zero_le _,rfl,rfl,η rfl,⟨hasc,List.length_replicate ..⟩,hn,Nat.zero_le _,HI0⟩
  case round=>
   obtain ⟨k,n,r,s,t,bs,hk,rfl,rfl,hgo,hrd,hrl,hnr,hI⟩:=hrel;clear HI0;obtain ⟨Az,pz,bz1,oz,cz,bza,bzb,rfl,rfl,rfl,hra,hri,hrlen⟩:=oJ hI.out.rd;have HRLN:=η hrd;clear hrlen hrd;by_cases hlt:k≤rs.length
   ·have hk0:(0:Int)≤(k:Int):=by omega
    have hk1:(k:Int)≤(rs.length:Int):=by omega
    generalize wr=wo at *
    go_wp2_with fail
    go_loopw [8,10,11,12] (fun nn _ _ _ wr=>∃ (fuel n:Nat) (r:Rd) (s t:Value) (bs:List Nat),nn=.int .i64 n∧Hid (iM rs xs=AQ rs (ax rs) (rs.length+1 - k) fuel r n)∧pW r∧r.1.length≤300∧n≤r.1.length∧302≤fuel+r.1.length∧Hid (RInv w w.heap.size M s t r bs (ax rs) (.slice (some ⟨w4.heap.size,0,none⟩) rs.length rs.length) b5 wr)) (fun _ _ _ _ wr=>400 - FC M wr)
    case atStart=>exact ⟨302,n,r,_,_,_,rfl,hgo,HRLN.out,hrl,hnr,by omega,hI⟩
    case round=>
     clear hgo hrl hnr hI hra hri HRLN;obtain ⟨fuel,n,r,s,t,bs,rfl,hgo,hrd,hrl,hnr,hfu,hI⟩:=hrel;obtain ⟨Az,pz,bz1,oz,cz,bza,bzb,rfl,rfl,rfl,hra,hri,hrlen⟩:=oJ hI.out.rd;obtain ⟨fu,rfl⟩:∃ fu,fuel=fu+1:=⟨fuel - 1,by omega⟩
     have HGS:Hid (iM rs xs=if 300 < (fG rs (ax rs) k r (n+1)).1.length then (fG rs (ax rs) k r (n+1),false)
       else if (fG rs (ax rs) k r (n+1)).1.length=r.1.length then AQ rs (ax rs) (rs.length - k) 302 (fG rs (ax rs) k r (n+1)) n
       else AQ rs (ax rs) (rs.length+1 - k) fu (fG rs (ax rs) k r (n+1)) (n+1)):=η (by
      rw [hgo.out,show rs.length+1 - k=(rs.length - k)+1 by omega]
      rw [AQ,show rs.length - (rs.length - k)=k by omega])
     have HM0:=η hI.out.FC;have HRD:=η hrd;have m0:wr.cell? ⟨M,0,none⟩=some (.slice Az r.1.length pz):=ak hI.out.m_;have q6:=TA rs (ax rs) k r.1 _ _ _ b0 b5 bza wr (aC.below HR.out hI.out.bel) hI.out.lv_ hra HLL.out hrd.ig hrl hm HB.out
     have HLO:Hid ((ja r.1 k (rs.zip (ax rs))).length≤64800000000):=η (by
      refine Nat.le_trans (NP (B:=8100000000) (fun p hp=>J7 hrl (HB.out _ (List.of_mem_zip hp).1).1)) ?_;rw [List.length_zip]
      omega)
     have hn301:n≤300:=by omega
     clear hgo hra hri hrlen hrd
     go_wp2_with fail
     refine q6.mono ?_;rintro e w6 ⟨hb6,v6,b6,rfl,h6,hf6⟩;obtain ⟨A6,p6,rfl,_,_⟩:=af h6;have hI6:=η (hI.out.below hb6);have H6:=η h6
     have HF6:Hid (∀ c ∈ b6,c ≠ M∧c ≠ w.heap.size):=η fun c hc=>by
      have h1:=hf6 c hc;have h2:=lt_of_block hI.out.m_;have h3:=lt_of_block hI.out.n_;omega
     have HMO:Hid (ja r.1 k (rs.zip (ax rs))=ja r.1 k (rs.zip (ax rs))):=η rfl;have HST:Hid (fG rs (ax rs) k r (n+1)=jh (ja r.1 k (rs.zip (ax rs))) (n+1) r):=η rfl;generalize ja r.1 k (rs.zip (ax rs))=more at *;clear q6 h6 hf6 hb6 hI m0 HMO
     go_wp2_with fail
     go_loopw [12] (fun i wr=>∃ (q:Nat) (r':Rd) (s' t':Value) (bs':List Nat),q≤more.length∧i=.int .i64 q∧Hid (r'=jh (more.take q) (n+1) r)∧pW r'∧r'.1.length≤r.1.length+q∧r.1.length≤r'.1.length∧Hid (RInv w w.heap.size M s' t' r' bs' (ax rs) (.slice (some ⟨w4.heap.size,0,none⟩) rs.length rs.length) b5 wr)∧Hid (aI wr [.slice A6 more.length p6] more b6)) (fun i _=>more.length - (intOf i).toNat)
     case atStart=>exact ⟨0,r,_,_,_,Nat.zero_le _,rfl,η rfl,HRD.out,Nat.le_refl _,Nat.le_refl _,hI6,H6⟩
     case round=>
      obtain ⟨q,r',s',t',bs',hq,rfl,hr',hrd',hl1,hl2,hJ,hM6⟩:=hrel;clear hI6 H6;obtain ⟨Ay,py,by1,oy,cy,bya,byb,rfl,rfl,rfl,hya,hyi,hylen⟩:=oJ hJ.out.rd;have HYL:=η hylen;have HRD':=η hrd';clear hylen hrd';have hqb:q≤64800000000:=by have:=HLO.out; omega
      have m0:wr.cell? ⟨M,0,none⟩=some (.slice Ay r'.1.length py):=ak hJ.out.m_;have m1:wr.cell? ⟨M,1,none⟩=some (.slice (some ⟨by1,oy,none⟩) r'.2.length cy):=ak hJ.out.m_;by_cases hqt:q < more.length
      ·have hq0:(0:Int)≤(q:Int):=by omega
       have hq1:(q:Int) < (more.length:Int):=by omega
       obtain ⟨mb,mo,Am,cm,bm,rfl,_,e0,e1,hme,hms⟩:=dG hM6.out hqt;have HSN:=η (Kv more (n+1) r q hqt);generalize more[q]=a at *
       go_wp2_with fail
       go_still_tail 6,(by kernel_rfl)
       change wpList _ _ _ _ _ wr.drew;have hD:Below wr.heap.size wr wr.drew:=Below.drew (Below.refl _ _);have hJd:=hJ.out.below hD;have qd:=TG r'.1 r'.2 a (n+1) _ _ _ by1 oy cy bya byb bm wr.drew (ai.below hya hD) (dL.below hyi hD) (aj.below hme hD) HYL.out HRD'.out.ig (by omega);have e9:((n+1:Nat):Int)=(n:Int)+1:=by omega
       rw [e9] at qd;have hM6d:=ai.below hM6.out hD;have HOLD:=η hJ.out.far;have HSM:Hid (∀ c ∈ bm,c ≠ M∧c ≠ w.heap.size):=η fun c hc=>HF6.out c (hms c hc)
       clear hJ hM6 hD m0 m1 e0 e1 hme hms hya hyi;generalize wr.drew=wd at *
       go_wp2_with fail
       refine qd.mono ?_;rintro e w7 ⟨hb7,x0,x1,b7,rfl,h7,hf7⟩;have HJ7:=hJd.below hb7;have HM7:=ai.below hM6d hb7;have hmd:=lt_of_block hJd.m_;have hnd:=lt_of_block hJd.n_
       have hfar7:∀ c ∈ b7,c ≠ M∧c ≠ w.heap.size:=fun c hc=>by
        rcases hf7 c hc with h | h
        ·rcases List.mem_append.1 h with h | h
         ·exact HOLD.out c h
         ·exact HSM.out c h
        ·omega
       obtain ⟨A7,p7,bx7,o7,c7,b7a,b7b,rfl,rfl,rfl,-,-,-⟩:=oJ h7;have HSET:=η (HJ7.set h7 hfar7)
       have HM8:=η (ai.keep (w':=(w7.setCell ⟨M,0,none⟩ (.slice A7 (iD (r'.1,r'.2) a (n+1)).1.length p7)).setCell ⟨M,1,none⟩ (.slice (some ⟨bx7,o7,none⟩) (iD (r'.1,r'.2) a (n+1)).2.length c7)) HM7 fun c hc=>by
        have:=(HF6.out c hc).1
        rw [Below.heap_setCell _ _ _ _ this,Below.heap_setCell _ _ _ _ this])
       have y0:w7.frozen? ⟨M,0,none⟩=false:=aB HJ7.m_;have y1:w7.frozen? ⟨M,1,none⟩=false:=aB HJ7.m_;have y2:w7.cell? ⟨M,0,none⟩=some (.slice Ay r'.1.length py):=ak HJ7.m_;have y3:w7.cell? ⟨M,1,none⟩=some (.slice (some ⟨by1,oy,none⟩) r'.2.length cy):=ak HJ7.m_;have HPR:=η (Kw (r'.1,r'.2) a (n+1));have HOK:=HRD'.out.put a (n+1);have HRE:Hid (iD (r'.1,r'.2) a (n+1)=jh (more.take (q+1)) (n+1) r):=η (by rw [HSN.out,← hr'.out]);have hG1:(iD (r'.1,r'.2) a (n+1)).1.length≤r.1.length+(q+1):=by have h1:r'.1.length≤r.1.length+q:=hl1; have h2:=HPR.out.2; exact Nat.le_trans h2 (by show r'.1.length+1≤_; omega)
       have hG2:r.1.length≤(iD (r'.1,r'.2) a (n+1)).1.length:=Nat.le_trans hl2 HPR.out.1;clear qd h7 hf7 hb7 HJ7 HM7 hfar7 HSN hr' HPR;have HOK2:pW (iD (r'.1,r'.2) a (n+1)):=HOK;have HOK3:=η HOK2;clear HOK HOK2;generalize iD (r'.1,r'.2) a (n+1)=rn at *;go_wp2;go_roundw
       case rel=>exact ⟨q+1,rn,_,_,_,hqt,by go_num,HRE,HOK3.out,hG1,hG2,HSET,HM8⟩
       case measure=>simp [intOf]; omega
      ·have he:q=more.length:=by omega
       have hq1:¬ (q:Int) < (more.length:Int):=by omega
       have HSF:Hid (fG rs (ax rs) k r (n+1)=r'):=η (by rw [HST.out,hr'.out,he,List.take_of_length_le (Nat.le_refl _)]);have HG2:Hid (iM rs xs=if 300 < r'.1.length then (r',false) else if r'.1.length=r.1.length then AQ rs (ax rs) (rs.length - k) 302 r' n else AQ rs (ax rs) (rs.length+1 - k) fu r' (n+1)):=η (by rw [HGS.out,HSF.out]);clear hr' HGS HST HSF hya hyi he;by_cases h300:300 < r'.1.length
       ·have HG:Hid (iM rs xs=(r',false)):=η (by rw [HG2.out,if_pos h300])
        have h300':(300:Int) < (r'.1.length:Int):=by omega
        have n0:wr.cell? ⟨w.heap.size,0,none⟩=some (.slice none 0 0):=ak hJ.out.n_;have n1:wr.cell? ⟨w.heap.size,1,none⟩=some (.slice none 0 0):=ak hJ.out.n_;have n2:wr.frozen? ⟨w.heap.size,0,none⟩=false:=aB hJ.out.n_;have n3:wr.frozen? ⟨w.heap.size,1,none⟩=false:=aB hJ.out.n_;have HFN:=η (hJ.out.fin (Nat.le_refl _));have z0:=HFN.out.1;have z1:=HFN.out.2.1;clear hJ HG2 hM6;go_wp2;exact bodyPost_ret (v:=.tuple #[.agg #[.slice Ay r'.1.length py,.slice (some ⟨by1,oy,none⟩) r'.2.length cy],.bool false]) (by simp [results,Tryz.results32,go_sem,z0,z1]) rfl ⟨HFN.out.2.2.1,_,_,by rw [HG.out],_,by rw [HG.out]; exact HFN.out.2.2.2⟩
       ·have h300':¬ (300:Int) < (r'.1.length:Int):=by omega
        by_cases heq:r'.1.length=r.1.length
        ·have HG:Hid (iM rs xs=AQ rs (ax rs) (rs.length+1 - (k+1)) 302 r' n):=η (by rw [HG2.out,if_neg h300,if_pos heq,show rs.length+1 - (k+1)=rs.length - k by omega])
         have heq':(r'.1.length:Int)=(r.1.length:Int):=by omega
         have HNR:Hid (n≤r'.1.length):=η (by omega);have HRL:Hid (r'.1.length≤300):=η (by omega);clear HG2 hM6 heq;go_wp2;go_roundw
         case rel=>exact ⟨k+1,n,r',_,_,_,by omega,by go_num,by go_num,HG,HRD'.out,HRL.out,HNR.out,hJ⟩
         case measure=>simp [intOf]; omega
        ·have HG:Hid (iM rs xs=AQ rs (ax rs) (rs.length+1 - k) fu r' (n+1)):=η (by rw [HG2.out,if_neg h300,if_neg heq])
         have heq':¬ (r'.1.length:Int)=(r.1.length:Int):=by omega
         have HNR:Hid (n+1≤r'.1.length):=η (by omega);have HRL:Hid (r'.1.length≤300):=η (by omega);have HFU:Hid (302≤fu+r'.1.length):=η (by omega);have HM1:=η hJ.out.FC;have HLT:Hid (r.1.length < r'.1.length):=η (by omega);clear HG2 hM6 heq;go_wp2;go_roundw
         case rel=>exact ⟨fu,n+1,r',_,_,_,by go_num,HG,HRD'.out,HRL.out,HNR.out,HFU.out,hJ⟩
         case measure=>rw [HM0.out,HM1.out]; have:=HLT.out; have:=HRL.out; omega
   ·have he:k=rs.length+1:=by omega
    have hk1:¬ (k:Int)≤(rs.length:Int):=by omega
    have HG:Hid (iM rs xs=(r,true)):=η (by
     rw [hgo.out,he,Nat.sub_self];unfold AQ
     rfl)
    have m0:wr.cell? ⟨M,0,none⟩=some (.slice Az r.1.length pz):=ak hI.out.m_;have m1:wr.cell? ⟨M,1,none⟩=some (.slice (some ⟨bz1,oz,none⟩) r.2.length cz):=ak hI.out.m_;have n0:wr.cell? ⟨w.heap.size,0,none⟩=some (.slice none 0 0):=ak hI.out.n_;have n1:wr.cell? ⟨w.heap.size,1,none⟩=some (.slice none 0 0):=ak hI.out.n_;have n2:wr.frozen? ⟨w.heap.size,0,none⟩=false:=aB hI.out.n_;have n3:wr.frozen? ⟨w.heap.size,1,none⟩=false:=aB hI.out.n_;have HFN:=η (hI.out.fin (Nat.le_refl _));have z0:=HFN.out.1;have z1:=HFN.out.2.1;clear hI hra hri hgo he;go_wp2;exact bodyPost_ret (v:=.tuple #[.agg #[.slice Az r.1.length pz,.slice (some ⟨bz1,oz,none⟩) r.2.length cz],.bool true]) (by simp [results,Tryz.results32,go_sem,z0,z1]) rfl ⟨HFN.out.2.2.1,_,_,by rw [HG.out],_,by rw [HG.out]; exact HFN.out.2.2.2⟩
end Go.Proofs.YtiidmgchadagbaaGreatDoor
namespace Go.Proofs.YtiidmgchadagbaaGreatDoor
open Go.RowKit D
structure D.rH (vars:List ByteArray) (fs ps ns:List A) (head:A) (wt:Nat→Bool):Prop where
 hv:jT vars
 p4:ps.length≤4
 fl:fs.length≤1000000
 nl:ns.length≤1000000
 fok:∀ f ∈ fs,aX f
 pok:∀ p ∈ ps,aZ p=true
 nok:∀ n ∈ ns,aZ n=true
 hok:aZ head=true
 pin:∀ p ∈ ps,∀ t ∈ p.args,t.var=true→t.name ∈ vars
 nin:∀ n ∈ ns,∀ t ∈ n.args,t.var=true→t.name ∈ vars
 hin:∀ t ∈ head.args,t.var=true→t.name ∈ vars
 want:∀ i,i < 12→wt i=Ky vars head ns i
 tight:∀ b,(∀ p ∈ ps,xK b p.args)→xK b head.args∧∀ n ∈ ns,xK b n.args
structure D.bV (K:Nat→Prop) (sk:Nat) (w w':World):Prop where
 os:w'.os=w.os
 tape:w'.tape=w.tape
 output:w'.output=w.output
 size:w.heap.size≤w'.heap.size
 block:∀ k,k < w.heap.size→K k→w'.heap[k]? = w.heap[k]?
 rest:∀ q,(q < 18∨43≤q)→w'.cell? ⟨sk,q,none⟩=w.cell? ⟨sk,q,none⟩
section
variable {K:Nat→Prop} {sk:Nat} {w w' w2:World}
theorem D.bV.trans (h:bV K sk w w') (k:bV K sk w' w2):bV K sk w w2:=
 ⟨k.os.trans h.os,k.tape.trans h.tape,k.output.trans h.output,Nat.le_trans h.size k.size,fun i hi hK=>(k.block i (Nat.lt_of_lt_of_le hi h.size) hK).trans (h.block i hi hK),fun q hq=>(k.rest q hq).trans (h.rest q hq)⟩
theorem D.bV.zT (hK:∀ k,K k→k ≠ sk) (h:dD sk 18 w w'):bV K sk w w':=
 ⟨h.grow.os,h.grow.tape,h.grow.output,h.grow.size,fun k hk hKk=>h.block hk (hK k hKk),fun q hq=>h.rest q (by omega)⟩
theorem D.bV.of_below (hs:sk < w.heap.size) (h:Below w.heap.size w w'):bV K sk w w':=
 ⟨h.os,h.tape,h.output,h.size,fun k hk _=>h.block k hk,fun q _=>World.cell?_of_block (h.block _ hs)⟩
theorem D.bV.keep {α:Type} {R:Rel α} (g:Good R) {cs:List Value} {x:α} {bs:List Nat} (h:bV K sk w w') (hr:R w cs x bs) (hb:∀ b ∈ bs,K b):R w' cs x bs:=
 g.keep hr fun b hb'=>h.block b (g.lt hr b hb') (hb b hb')
theorem D.lN.run {sb:Nat} {v1 v2:Value} {wt:Nat→Bool} {io:Bool} {ah:Int} {tell:Value} (h:lN sk sb v1 v2 wt io ah tell w) (k:bV K sk w w'):lN sk sb v1 v2 wt io ah tell w':=
 ⟨(k.rest _ (by omega)).trans h.st,(k.rest _ (by omega)).trans h.p1,(k.rest _ (by omega)).trans h.p2,fun i hi=>(k.rest _ (by omega)).trans (h.wd i hi),(k.rest _ (by omega)).trans h.io,(k.rest _ (by omega)).trans h.ah,(k.rest _ (by omega)).trans h.tl⟩
end
structure D.qw (vars:List ByteArray) (fs:List A) (rn:List Nat) (bs:List Nat) (ps ns:List A) (sk sb:Nat) (v1 v2:Value) (bp bn:List Nat) (wt:Nat→Bool) (ah:Int) (tell:Value) (K:Nat→Prop) (b:Bd) (w:World):Prop where
 sea:lN sk sb v1 v2 wt false ah tell w
 at_:iJ vars b sk 18 w
 ok:jJ vars b
 wds:uo b
 rY:kE sb fs rn bs w
 pps:tC vars w [v1] ps bp
 pns:tC vars w [v2] ns bn
 kbs:∀ x ∈ bs,K x
 kbp:∀ x ∈ bp,K x
 kbn:∀ x ∈ bn,K x
section
variable {vars:List ByteArray} {fs:List A} {rn:List Nat} {bs:List Nat} {ps ns:List A} {sk sb:Nat} {v1 v2:Value} {bp bn:List Nat} {wt:Nat→Bool} {ah:Int} {tell:Value} {K:Nat→Prop} {b b':Bd} {w w':World}
theorem D.qw.kept (h:qw vars fs rn bs ps ns sk sb v1 v2 bp bn wt ah tell K b w) (k:bV K sk w w') (h1:iJ vars b' sk 18 w') (h2:jJ vars b') (h3:uo b'):qw vars fs rn bs ps ns sk sb v1 v2 bp bn wt ah tell K b' w':=
 ⟨h.sea.run k,h1,h2,h3,h.rY.keep (fun x hx=>k.block x (h.rY.lt x hx) (h.kbs x hx)) k.size,k.keep (dS vars) h.pps h.kbp,k.keep (dS vars) h.pns h.kbn,h.kbs,h.kbp,h.kbn⟩
theorem D.qw.below (h:qw vars fs rn bs ps ns sk sb v1 v2 bp bn wt ah tell K b w) (k:Below w.heap.size w w'):qw vars fs rn bs ps ns sk sb v1 v2 bp bn wt ah tell K b w':=
 h.kept (bV.of_below h.sea.lt k) (h.at_.keep (k.block _ h.sea.lt)) h.ok h.wds
end
structure D.wL (vars:List ByteArray) (head:A) (sk:Nat) (K:Nat→Prop) (c5 c7:Addr) (T:Bool→World→List A→Prop) (go:List A→Bool):Prop where
 call:∀ (w:World) (b:Bd) (told:List A),jJ vars b→uo b→xK b head.args→iJ vars b sk 18 w→T true w told→Calls Tryz.prog 142 #[.pointer (some ⟨sk,18,none⟩),.pointer (some c5),.pointer (some c7)] w fun e w'=>
  e=.returned (.bool (go (told ++ [bY head b])))∧T (go (told ++ [bY head b])) w' (told ++ [bY head b])∧bV K sk w w'∧w'.heap[sk]? = w.heap[sk]?
 keep:∀ {f:Bool} (w w':World) (told:List A),T f w told→dD sk 18 w w'→T f w' told
def D.jc (vars:List ByteArray) (fs ps ns:List A) (head:A) (K:Nat→Prop) (sk:Nat) (T:Bool→World→List A→Prop) (go:List A→Bool) (b:Bd) (left:Nat) (told:List A) (held more:Bool) (w w':World):Prop:=
 ∃ ts,bV K sk w w'∧iJ vars b sk 18 w'∧T more w' (told ++ ts)∧(∀ t ∈ ts,∃ σ,uT fs ps ns b left σ∧gY σ head=t)∧(more=true→∀ σ,uT fs ps ns b left σ→gY σ head ∈ ts)∧(held=true→ts ≠ [])∧(more=false→go (told ++ ts)=false)
section
variable {vars:List ByteArray} {fs ps ns:List A} {head:A} {wt:Nat→Bool} {K:Nat→Prop} {sk:Nat} {T:Bool→World→List A→Prop} {go:List A→Bool} {b:Bd} {left:Nat} {told:List A} {w w':World}
theorem D.FD {a:A} (h:aZ a=true):∀ t ∈ a.args,t.var=false→t.name ≠ ⟨#[]⟩:=fun t ht hv=>by
 unfold aZ at h;simp only [Bool.and_eq_true,decide_eq_true_eq,List.all_eq_true] at h;have:=h.2 t ht;unfold jd at this;rw [hv] at this;exact uq (by simpa using this)
theorem D.nR {a:A} (h:aZ a=true):a.args.length≤3:=by
 unfold aZ at h;simp only [Bool.and_eq_true,decide_eq_true_eq] at h;exact h.1.2
theorem D.TN (E:rH vars fs ps ns head wt) (hw:uo b) (hc:∀ n ∈ ns,xK b n.args) (h:yw fs ns b=true) (σ:Wo):¬ uT fs ps ns b left σ:=by
 rintro ⟨h1,_,h3⟩;obtain ⟨n,hn,h4⟩:=List.any_eq_true.1 h;have:=(yx E.fok (uP (E.nok n hn) hw (hc n hn))).1 h4;rw [jY (hc n hn) h1] at this;exact h3 n hn this
theorem D.TP (E:rH vars fs ps ns head wt) (hw:uo b) (hc:∀ n ∈ ns,xK b n.args) (h:yw fs ns b=false):∀ n ∈ ns,bY n b ∉ fs:=fun n hn hm=>by
 have h1:decide (eu (bY n b) ∈ fs.map eu)=true:=(yx E.fok (uP (E.nok n hn) hw (hc n hn))).2 hm;have:yw fs ns b=true:=List.any_eq_true.2 ⟨n,hn,h1⟩;rw [h] at this; cases this
theorem D.TQ (hc:xK b head.args) {ts:List A} (hs:∀ t ∈ ts,∃ σ,uT fs ps ns b left σ∧gY σ head=t) (hne:ts ≠ []) (σ:Wo) (h:uT fs ps ns b left σ):gY σ head ∈ ts:=by
 obtain ⟨t,ht⟩:=List.exists_mem_of_ne_nil ts hne;obtain ⟨σ0,h0,e0⟩:=hs t ht;rw [← jY hc h.1,jY hc h0.1,e0]; exact ht
end
end Go.Proofs.YtiidmgchadagbaaGreatDoor
