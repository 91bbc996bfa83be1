/- Of the proof of FnExactProofOk: WlkI, wJ, gQ. -/
import Derived.Test.YtlmngncogomgeaaGreatDoorM11
import Derived.Test.YtlmngncogomgeaaGreatDoorM10
set_option linter.unusedVariables false
set_option maxHeartbeats 4000000
set_option maxRecDepth 100000
namespace Go.Proofs.YtlmngncogomgeaaGreatDoor
section
open Go.RowKit Go.ChangeMaps D
attribute [local go_sem ↓] Go.wp_at_zero Go.wp_at_succ
theorem QX:(Tryz.prog.info? 240).map (fun i=>(i.zero,i.size,i.bytes))=some (some (.agg #[.pointer none,.int .i64 0]),2,16):=by kernel_rfl
theorem Um:(Tryz.prog.info? 43).map (fun i=>i.size)=some 4:=by kernel_rfl
theorem D.FY (w:World):(zeroValue 3).run Tryz.prog w=.ok (.int .i64 0) w:=by kernel_rfl
abbrev D.WP (y:List Nat) (w:World):Prop:=∀ b ∈ y,∃ cs t,w.heap[b]? = some (.cells cs t (0,0))
abbrev D.SP (y:List Nat) (v:Value):Prop:=∃ a:Addr,v=.pointer (some a)∧a.block ∈ y
theorem D.IE (y:List Nat):wJ Tryz.prog 82 (WP y) (SP y):=by
 have h:=Um
 cases hi:Tryz.prog.info? 43 with
 | none=>simp [hi] at h
 | some i=>
  simp only [hi,Option.map_some,Option.some.injEq] at h;exact Qu Tryz.underlying82 hi (by rw [h]; decide) y
structure D.Wk (BS:List Nat) (base wb:Nat) (st:List Fr) (w:World):Prop where
 ex:∃ v mb,w.heap[wb]? = some (.cells #[v,.map (some mb)] 164 (0,0))∧w.ownsRow base 240 2 v st.length (qg st)∧gq (SP BS) mb (nP st) w∧base≤mb
 ge:base≤wb
 way:Way BS w st
 low:∀ b ∈ BS,b < base
 VI:WP BS w
theorem D.Wk.len {I:List Nat} {base y:Nat} {st:List Fr} {w:World} (h:Wk I base y st w):y < w.heap.size:=by
 obtain ⟨v,J,h1,_⟩:=h.ex;exact ψ h1
theorem Oz (BS:List Nat) (base y:Nat) (st:List Fr) (a:Addr) (p:Pf) (w:World) (h:Wk BS base y st w) (ha:AtP BS w a p) (hd:∀ f ∈ st,aK p < aK f.pf) (hl:st.length≤16777216):
  Calls Tryz.prog 98 #[.pointer (some ⟨y,0,none⟩),.pointer (some a)] w fun e w'=>e=.returned (.tuple #[])∧Wk BS base y (st ++ [⟨a,p,0⟩]) w'∧Below base w w':=by
 obtain ⟨⟨v,U,h1,h2,h3,h4⟩,h5,h6,h7,h8⟩:=h;have c0:w.cell? ⟨y,0,none⟩=some v:=by simp [World.cell?,h1]
 have c1:w.cell? ⟨y,1,none⟩=some (.map (some U)):=by simp [World.cell?,h1]
 obtain ⟨i0,hi,ac,ae,af⟩:=info_parts QX;have a7:=ψ h1;have ag:v.ownBlock ≠ some y:=pR h2 h1 (by decide);obtain ⟨A,cap,rfl⟩:=lX h2;have hA:Below w.heap.size w (w.alloc (.cells #[.pointer (some a),.int .i64 0] 240)):=ζ;have H2:=η (own_below h2 hA);have HL:Hid (Lies (w.alloc (.cells #[.pointer (some a),.int .i64 0] 240)) (some ⟨w.heap.size,0,none⟩) [.pointer (some a),.int .i64 0]):=η (by have:=aS (ω w (.cells #[.pointer (some a),.int .i64 0] 240)); simpa using this);have a1:=h5
 go_enter Tryz.func98,Tryz.ntmps98
 go_wp2_with (at_builtin; refine pO rfl _ _ _ rfl base 240 i0 (.agg #[.pointer none,.int .i64 0]) 2 16 Tryz.underlying162 hi ac ae af rfl (by omega) _ _ _ rfl H2.out (some ⟨w.heap.size,0,none⟩) 1 1 [.pointer (some a),.int .i64 0] rfl rfl HL.out (by intro u hu; simp at hu; rcases hu with rfl | rfl <;> rfl) (by unfold maxLen; omega) (by omega) (by have:=hA.size; omega) ?_)
 intro A2 cap2 w2 I a2 _
 have J:w2.heap[y]? = some (.cells #[.slice A st.length cap,.map (some U)] 164 (0,0)):=by
  rw [a2.block y (by have:=hA.size; omega) (fun e=>ag e.symm),hA.block y a7];exact h1
 have a3:gq (SP BS) U (nP st) w2:=(h3.same (hA.block U h3.lt)).same (a2.block U (κ h3.lt hA.size) fun e=>mW h2 h3 e.symm);have d0:w2.cell? ⟨y,0,none⟩=some (.slice A st.length cap):=by simp [World.cell?,J]
 have d1:w2.cell? ⟨y,1,none⟩=some (.map (some U)):=by simp [World.cell?,J]
 have f0:w2.frozen? ⟨y,0,none⟩=false:=by simp [World.frozen?,J]
 have a0:base≤w.heap.size:=τ a1 (Nat.le_of_lt a7);have am:Below base w w2:=gX (hA.mono a0) H2.out ν (τ a0 hA.size) a2;have a4:Below base w (w2.setCell ⟨y,0,none⟩ (.slice A2 (st.length+1) cap2)):=am.setCell a1 _;have a5:Hid (gq (SP BS) U (nP st) (w2.setCell ⟨y,0,none⟩ (.slice A2 (st.length+1) cap2))):=η (a3.setCell (mX a3 J) _);have a8:Hid (WP BS (w2.setCell ⟨y,0,none⟩ (.slice A2 (st.length+1) cap2))):=η fun b hb=>by rw [a4.block b (h7 b hb)]; exact h8 b hb
 have a9:=η (h6.miss ha hd);have HS:Hid (SP BS (.pointer (some a))):=η ⟨a,rfl,ha.block⟩
 go_wp2_with (first
  | (at_lookup; refine kU (IE BS) a8.out false rfl _ _ _ _ rfl Tryz.underlying161 U _ rfl a5.out (.pointer (some a)) (.int .i64 0) (FY _) rfl HS.out a9.out ?_)
  | (at_mapUpdate; refine zO (IE BS) a8.out rfl _ _ _ _ _ rfl Tryz.underlying161 U _ rfl a5.out (.pointer (some a)) (.int .i64 1) rfl rfl HS.out a9.out ?_; intro w4 ao a6)
  | go_in)
 go_end0
 have aa:(w2.setCell ⟨y,0,none⟩ (.slice A2 (st.length+1) cap2)).heap[y]? = some (.cells #[.slice A2 (st.length+1) cap2,.map (some U)] 164 (0,0)):=nS J 0 _;have ab:Below base w w4:=a4.grown a6 (by have:=a4.size; omega) fun j hj=>by cases hj; exact h4
 have hk:∀ b ∈ BS,w4.heap[b]? = w.heap[b]?:=fun b hb=>ab.block b (h7 b hb)
 refine ⟨rfl,⟨⟨.slice A2 (st.length+1) cap2,U,?_,?_,?_,h4⟩,a1,?_,h7,?_⟩,ab⟩
 ·rw [a6.block y (ψ aa) (fun e=>mX a3 J (by injection e with e; exact e.symm))]
  exact aa
 ·rw [χ,nR]
  have h9:(Value.slice A2 (st.length+1) cap2).ownBlock ≠ some y:=pR I J (by decide);exact (ownsRow_setCell_other I h9 _).kept a6 (Or.inr (mW (ownsRow_setCell_other I h9 _) a5.out))
 ·rw [vG]; exact ao
 ·exact (h6.push ha hd).keep hk
 ·exact fun b hb=>by rw [hk b hb]; exact h8 b hb
def D.OA (y:Nat) (w:World):Nat:=match w.cell? ⟨y,0,none⟩ with
 | some (.slice _ n _)=>n
 | _=>0
theorem D.Wk.OA {I:List Nat} {base y:Nat} {st:List Fr} {w:World} (h:Wk I base y st w):OA y w=st.length:=by
 obtain ⟨v,U,h1,J,_⟩:=h.ex;obtain ⟨A,cap,rfl⟩:=lX J;unfold D.OA;rw [show w.cell? ⟨y,0,none⟩=some (.slice A st.length cap) from by simp [World.cell?,h1]]
theorem D.Wk.top {BS:List Nat} {base wb:Nat} {st:List Fr} {f:Fr} {w:World} (h:Wk BS base wb (st ++ [f]) w):
  ∃ g cap J U po Af cf,w.heap[wb]? = some (.cells #[.slice (some ⟨g,0,none⟩) (st.length+1) cap,.map (some J)] 164 (0,0))∧
   w.ownsRow base 240 2 (.slice (some ⟨g,0,none⟩) (st.length+1) cap) (st.length+1) (qg st ++ [.pointer (some f.at_),.int .i64 f.next])∧gq (SP BS) J (nP st ++ [(.pointer (some f.at_),.int .i64 1)]) w∧base≤J∧
   w.cell? ⟨g,st.length * 2,none⟩=some (.pointer (some ⟨U,po,none⟩))∧w.cell? ⟨g,st.length * 2+1,none⟩=some (.int .i64 f.next)∧w.frozen? ⟨g,st.length * 2+1,none⟩=false∧f.at_=⟨U,po,none⟩∧
   w.cell? ⟨U,po+3,none⟩=some (.slice Af f.pf.kids.length cf)∧f.pf.kids.length≤cf∧cf≤maxLen∧(∀ k (hk:k < f.pf.kids.length),∃ b' o',Af=some ⟨b',o',none⟩∧AtP BS w ⟨b',o'+k * 4,none⟩ f.pf.kids[k])∧f.next≤f.pf.kids.length:=by
 obtain ⟨⟨v,J,h1,I,h3,h4⟩,h5,h6,h7,h8⟩:=h;rw [χ] at I;rw [nR] at I;rw [vG] at h3;have y:=h6.at_ f (by simp);have a0:=y;obtain ⟨n,U,po,cs,bk,e,_⟩:=a0;rw [e] at y;obtain ⟨Af,cf,q1,q2,q3,q4⟩:=y.kids
 rcases I.2 with ⟨_,h0⟩ | ⟨g,cap,a1,rfl,hb,hh,a2,a3,a4,a5⟩
 ·simp at h0
 ·refine ⟨g,cap,J,U,po,Af,cf,h1,I,h3,h4,?_,?_,by simp [World.frozen?,hh],e,q1,q2,q3,q4,h6.next f (by simp)⟩
  ·rw [I.cellAt _ (by simp),← mV,← e]
   simp
  ·rw [I.cellAt _ (by simp; omega),← mV]
   simp
theorem D.Wk.heap {I:List Nat} {base J:Nat} {st:List Fr} {w w':World} (h:Wk I base J st w) (e:w'.heap=w.heap):Wk I base J st w':=by
 obtain ⟨⟨v,mb,h1,U,h3,h4⟩,h5,h6,h7,h8⟩:=h;refine ⟨⟨v,mb,by rw [e]; exact h1,?_,h3.same (by rw [e]),h4⟩,h5,h6.keep fun b _=>by rw [e],h7,fun b hb=>by rw [e]; exact h8 b hb⟩;refine ⟨U.1,U.2.imp id ?_⟩;rintro ⟨g,cap,y,hv,hg,hh,r⟩;exact ⟨g,cap,y,hv,hg,by rw [e]; exact hh,r⟩
theorem D.Wk.Wh {y:List Nat} {base J:Nat} {st:List Fr} {w w':World} (h:Wk y base J st w) (U:Below base w w') {a:Addr} {p:Pf} (ha:AtP y w a p):AtP y w' a p:=ha.keep fun b I=>U.block b (h.low b I)
theorem D.Wk.step {BS:List Nat} {base I g n cap:Nat} {st:List Fr} {f:Fr} {w:World} (h:Wk BS base I (st ++ [f]) w) (hk:f.next < f.pf.kids.length) (hn:n=st.length) (c0:w.cell? ⟨I,0,none⟩=some (.slice (some ⟨g,0,none⟩) (n+1) cap)):
  Wk BS base I (st ++ [⟨f.at_,f.pf,f.next+1⟩]) (w.setCell ⟨g,n * 2+1,none⟩ (.int .i64 ((f.next:Int)+1)))∧base≤g:=by
 subst hn;obtain ⟨⟨v,mb,h1,J,h3,h4⟩,h5,h6,h7,h8⟩:=h
 have hv:v=.slice (some ⟨g,0,none⟩) (st.length+1) cap:=by
  have:w.cell? ⟨I,0,none⟩=some v:=by simp [World.cell?,h1]
  rw [this] at c0;exact Option.some.inj c0
 subst hv;have a0:(Value.slice (some ⟨g,0,none⟩) (st.length+1) cap).ownBlock ≠ some I:=pR J h1 (by decide);have a1:=mW J h3
 have hg:base≤g:=by
  rcases J.2 with ⟨h,_⟩ | ⟨g',_,_,hv,U,_⟩
  ·cases h
  ·simp only [Value.slice.injEq,Option.some.injEq,Addr.mk.injEq,and_true] at hv
   rw [hv.1]; exact U
 have a2:I ≠ g:=fun e=>a0 (by simp [Value.ownBlock,e])
 have a3:mb ≠ g:=fun e=>a1 (by simp [Value.ownBlock,e])
 have y:∀ b ∈ BS,(w.setCell ⟨g,st.length * 2+1,none⟩ (.int .i64 ((f.next:Int)+1))).heap[b]? = w.heap[b]?:=fun b U=>π _ _ _ _ (by have:=h7 b U; simp; omega)
 refine ⟨⟨⟨_,mb,(π _ _ _ _ a2).trans h1,?_,?_,h4⟩,h5,(h6.step hk).keep y,h7,fun b U=>by rw [y b U]; exact h8 b U⟩,hg⟩
 ·rw [χ] at J ⊢
  rw [nR] at J ⊢;have:=(J.stored (st.length * 2+1) (.int .i64 ((f.next:Int)+1))).1;rw [← mV,List.set_append_right _ _ (by omega)] at this;simpa [mV] using this
 ·rw [vG] at h3 ⊢
  exact h3.setCell a3 _
def D.IG (I:List Nat) (base J:Nat) (st:List Fr) (w:World) (e:Ending) (w':World):Prop:=Below base w w'∧((e=.returned (.pointer none)∧jR st=0) ∨
 ∃ y a p,e=.returned (.pointer (some a))∧Wk I base J y w'∧AtP I w' a p∧(∀ f ∈ y,aK p < aK f.pf)∧y.length≤st.length∧jR y+aK p=jR st)
theorem D.gq.drewN {S:Value→Prop} {b:Nat} {L:List (Value × Value)} {w:World} (h:gq S b L w) (m:Nat):gq S b L (w.drewN m):=gq.same (w':=w.drewN m) h rfl
theorem D.Below.drewN {B:Nat} {a w:World} (h:Below B a w) (n:Nat):Below B a (w.drewN n):=⟨h.os,h.tape,h.output,h.size,h.block⟩
theorem D.LQ {U:List Nat} {base wb g n cap kb ko:Nat} {st y:List Fr} {f:Fr} {w wr:World} (h:Wk U base wb (y ++ [f]) wr) (hB:Below base w wr) (hr:jR (y ++ [f])=jR st) (a0:n+1≤st.length) (hk:f.next < f.pf.kids.length) (hn:n=y.length)
  (c0:wr.cell? ⟨wb,0,none⟩=some (.slice (some ⟨g,0,none⟩) (n+1) cap)) (ha:AtP U wr ⟨kb,ko,none⟩ f.pf.kids[f.next]) (J m2:Nat):
  IG U base wb st w (.returned (.pointer (some ⟨kb,ko,none⟩))) (((wr.drewN J).setCell ⟨g,n * 2+1,none⟩ (.int .i64 ((f.next:Int)+1))).drewN m2):=by
 obtain ⟨h1,hg⟩:=(h.heap (w':=wr.drewN J) rfl).step hk hn c0;have I:Below base wr (((wr.drewN J).setCell ⟨g,n * 2+1,none⟩ (.int .i64 ((f.next:Int)+1))).drewN m2):=Below.drewN (Below.setCell (Below.drewN ϑ J) hg _) m2;refine ⟨hB.trans I,.inr ⟨_,_,_,rfl,h1.heap rfl,h.Wh I ha,h.way.kid hk,?_,?_⟩⟩
 ·rw [χ,List.length_singleton,← hn]; exact a0
 ·rw [← hr,LJ hk]
theorem D.Wk.popped {BS:List Nat} {base I g n cap mb:Nat} {y:List Fr} {f:Fr} {w wr J:World} (h:Wk BS base I (y ++ [f]) wr) (hB:Below base w wr) (hn:n=y.length)
  (c0:wr.cell? ⟨I,0,none⟩=some (.slice (some ⟨g,0,none⟩) (n+1) cap)) (c1:wr.cell? ⟨I,1,none⟩=some (.map (some mb))) (hg:wr.grownBy J (some mb)) (hm:gq (SP BS) mb (nP y) J) (m:Nat):
  Wk BS base I y ((J.drewN m).setCell ⟨I,0,none⟩ (.slice (some ⟨g,0,none⟩) n cap))∧Below base w ((J.drewN m).setCell ⟨I,0,none⟩ (.slice (some ⟨g,0,none⟩) n cap)):=by
 subst hn;obtain ⟨⟨v,U,h1,h2,h3,h4⟩,h5,h6,h7,h8⟩:=h;have e0:wr.cell? ⟨I,0,none⟩=some v:=by simp [World.cell?,h1]
 have e1:wr.cell? ⟨I,1,none⟩=some (.map (some U)):=by simp [World.cell?,h1]
 rw [e0] at c0;rw [e1] at c1;obtain rfl:=Option.some.inj c0;have e2:=Option.some.inj c1;simp only [Value.map.injEq,Option.some.injEq] at e2;subst e2;have a2:(Value.slice (some ⟨g,0,none⟩) (y.length+1) cap).ownBlock ≠ some I:=pR h2 h1 (by decide);have a3:=mW h2 h3;have a0:=mX h3 h1;have a4:base≤wr.heap.size:=τ h5 (Nat.le_of_lt (ψ h1));have a5:Below base wr J:=ϑ.grown hg a4 fun j hj=>by cases hj; exact h4
 have a1:Below base wr ((J.drewN m).setCell ⟨I,0,none⟩ (.slice (some ⟨g,0,none⟩) y.length cap)):=Below.setCell (Below.drewN a5 m) h5 _;have hk:∀ b ∈ BS,((J.drewN m).setCell ⟨I,0,none⟩ (.slice (some ⟨g,0,none⟩) y.length cap)).heap[b]? = wr.heap[b]?:=fun b hb=>a1.block b (h7 b hb)
 have a6:(J.drewN m).heap[I]? = some (.cells #[.slice (some ⟨g,0,none⟩) (y.length+1) cap,.map (some U)] 164 (0,0)):=(hg.block I (ψ h1) fun e=>a0 (by injection e with e; exact e.symm)).trans h1;refine ⟨⟨⟨.slice (some ⟨g,0,none⟩) y.length cap,U,nS a6 0 _,?_,gq.setCell (hm.drewN m) (a:=⟨I,0,none⟩) a0 _,h4⟩,h5,h6.pop.keep hk,h7,fun b hb=>by rw [hk b hb]; exact h8 b hb⟩,hB.trans a1⟩;rw [χ,nR] at h2;have a7:J.ownsRow base 240 2 (.slice (some ⟨g,0,none⟩) y.length cap) y.length (qg y):=QU (h2.kept hg (Or.inr a3)) (mV y);have a8:(J.drewN m).ownsRow base 240 2 (.slice (some ⟨g,0,none⟩) y.length cap) y.length (qg y):=a7;exact ownsRow_setCell_other a8 (by simpa [Value.ownBlock] using a2) _
theorem next_any (BS:List Nat) (base y:Nat) (st:List Fr) (w:World) (h:Wk BS base y st w) (hl:st.length≤16777216):
  Calls Tryz.prog 97 #[.pointer (some ⟨y,0,none⟩)] w (IG BS base y st w):=by
 have H:=η h;clear h
 go_enter Tryz.func97,Tryz.ntmps97
 go_wp2_with fail
 go_loopw [3] (fun _ wr=>∃ a0,Wk BS base y a0 wr∧Below base w wr∧jR a0=jR st∧a0.length≤st.length) (fun _ wr=>OA y wr)
 case atStart=>exact ⟨st,H.out,ϑ,rfl,ν⟩
 case round=>
  clear H;obtain ⟨a0,hw,hb,hr,a3⟩:=hrel;have a4:=hw.OA
  rcases List.eq_nil_or_concat a0 with rfl | ⟨J,f,rfl⟩
  ·obtain ⟨v,I,h1,h2,h3,h4⟩:=hw.ex
   obtain ⟨A,cap,rfl⟩:=lX h2;have c0:wr.cell? ⟨y,0,none⟩=some (.slice A 0 cap):=by simp [World.cell?,h1]
   clear h1 h2 h3 h4;go_wp2;go_ret;exact ⟨hb,.inl ⟨rfl,hr.symm⟩⟩
  ·rw [List.concat_eq_append] at hw hr a3 a4
   obtain ⟨g,cap,I,pb,po,Af,cf,h1,h2,h3,h4,k0,k1,k2,ae,k3,ap,hmx,a5,b3⟩:=hw.top;rw [χ,List.length_singleton] at a3 a4;have c0:wr.cell? ⟨y,0,none⟩=some (.slice (some ⟨g,0,none⟩) (J.length+1) cap):=by simp [World.cell?,h1]
   have c1:wr.cell? ⟨y,1,none⟩=some (.map (some I)):=by simp [World.cell?,h1]
   have f0:wr.frozen? ⟨y,0,none⟩=false:=by simp [World.frozen?,h1]
   obtain ⟨n,hn⟩:∃ n,n=J.length:=⟨_,rfl⟩;rw [← hn] at c0 k0 k1 k2 a3 a4;have b4:n+1≤16777216:=by omega
   have HN:=η hn
   have b5:pb < g:=by
    have a1:=hw.low pb (by have:=(hw.way.at_ f (by simp)).block; rw [ae] at this; exact this)
    have a2:base≤g:=by
     rcases h2.2 with ⟨h,_⟩ | ⟨g',_,_,hv,hb,_⟩
     ·cases h
     ·simp only [Value.slice.injEq,Option.some.injEq,Addr.mk.injEq,and_true,true_and] at hv
      rw [hv.1]; exact hb
    omega
   have HW:=η hw;have HB:=η hb;have HR:=η hr;have aq:=η a3;have aE:=η a4;have ar:=η ae;clear hw hb hr a3 a4 ae h1 hn;by_cases av:f.next < f.pf.kids.length
   ·obtain ⟨kb,ko,rfl,aw⟩:=a5 _ av
    have aL:=η aw;have aM:(f.next:Int) < (f.pf.kids.length:Int):=by omega
    have aR:=ay (τ ap hmx);clear h2 h3 h4 a5 aw;go_wp2
    go_quiet (fail)
    go_wp2
    go_quiet (fail)
    go_wp2
    go_quiet (fail)
    go_wp2;go_ret;exact LQ HW.out HB.out HR.out aq.out av HN.out c0 aL.out _ _
   ·have aM:¬ ((f.next:Int) < (f.pf.kids.length:Int)):=by omega
    have aR:=ay (τ ap hmx)
    have b1:∀ m,(Instr.lookup 161 (.map (some I)) (.pointer (some ⟨pb,po,none⟩)) false).run Tryz.prog (wr.drewN m)=.ok (.int .i64 1) (wr.drewN m):=fun m=>
     kH (IE BS) (w:=wr.drewN m) HW.out.VI false Tryz.underlying161 (L:=nP J ++ [(.pointer (some f.at_),.int .i64 1)]) (h3.drewN m) (by rw [ar.out]; simp)
    have a9:∀ m,∃ w',(Instr.mapUpdate 161 (.map (some I)) (.pointer (some ⟨pb,po,none⟩)) (.int .i64 0)).run Tryz.prog (wr.drewN m)=.ok () w'∧gq (SP BS) I (nP J ++ (.pointer (some ⟨pb,po,none⟩),.int .i64 0) :: []) w'∧(wr.drewN m).grownBy w' (some I):=fun m=>
     Fz (IE BS) (w:=wr.drewN m) HW.out.VI Tryz.underlying161 (.int .i64 0) (by rw [← ar.out]; exact h3.drewN m)
    obtain ⟨W5,a6⟩:∃ W5:Nat→World,∀ m,(Instr.mapUpdate 161 (.map (some I)) (.pointer (some ⟨pb,po,none⟩)) (.int .i64 0)).run Tryz.prog (wr.drewN m)=.ok () (W5 m)∧gq (SP BS) I (nP J ++ (.pointer (some ⟨pb,po,none⟩),.int .i64 0) :: []) (W5 m)∧(wr.drewN m).grownBy (W5 m) (some I):=⟨fun m=>Classical.choose (a9 m),fun m=>Classical.choose_spec (a9 m)⟩;have a9:=fun m=>(a6 m).1
    have b6:IntKind.i64.wrap 0=0:=by decide
    have a7:I ≠ y:=by
     obtain ⟨v,b7,h1,_⟩:=HW.out.ex;exact mX h3 h1
    have az:I ≠ g:=fun e=>mW h2 h3 (by simp [Value.ownBlock,e])
    have af:∀ m,wr.grownBy (W5 m) (some I):=fun m=>by
     have:=(a6 m).2.2;exact ⟨this.os,this.tape,this.output,this.size,this.block⟩
    have U:=HW.out.len;have ac:g < wr.heap.size:=lt_of_cell k0;have blk:∀ m b,b < wr.heap.size→I ≠ b→(W5 m).heap[b]? = wr.heap[b]?:=fun m b hb ag=>(af m).block b hb fun e=>ag (by injection e with e; exact e.symm)
    have d0:∀ m,(W5 m).cell? ⟨y,0,none⟩=some (.slice (some ⟨g,0,none⟩) (n+1) cap):=fun m=>by rw [World.cell?_of_block (w:=wr) (blk m y U a7)]; exact c0
    have d1:∀ m,(W5 m).cell? ⟨y,1,none⟩=some (.map (some I)):=fun m=>by rw [World.cell?_of_block (w:=wr) (blk m y U a7)]; exact c1
    have d2:∀ m,(W5 m).cell? ⟨g,n * 2,none⟩=some (.pointer (some ⟨pb,po,none⟩)):=fun m=>by rw [World.cell?_of_block (w:=wr) (blk m g ac az)]; exact k0
    have am:∀ m,WP BS (W5 m):=fun m b hb=>by
     obtain ⟨cs,t,hc⟩:=HW.out.VI b hb;refine ⟨cs,t,(blk m b (ψ hc) ?_).trans hc⟩;rintro rfl;have h9:=h3;exact mX h9 hc rfl
    have aD:∀ m k,(Instr.lookup 161 (.map (some I)) (.pointer (some ⟨pb,po,none⟩)) false).run Tryz.prog ((W5 m).drewN k)=.ok (.int .i64 0) ((W5 m).drewN k):=fun m k=>
     kH (IE BS) (w:=(W5 m).drewN k) (am m) false Tryz.underlying161 ((a6 m).2.1.drewN k) (by simp)
    obtain ⟨W6,aa⟩:∃ W6:Nat→Nat→World,∀ m k,(Builtin.delete_ #[161,82] 0 #[.map (some I),.pointer (some ⟨pb,po,none⟩)]).run Tryz.prog ((W5 m).drewN k)=.ok (.tuple #[]) (W6 m k)∧gq (SP BS) I (nP J ++ []) (W6 m k)∧((W5 m).drewN k).grownBy (W6 m k) (some I):=by
     have ab:=fun m k=>FB (IE BS) (w:=(W5 m).drewN k) (am m) Tryz.underlying161 0 ((a6 m).2.1.drewN k)
     exact ⟨fun m k=>Classical.choose (ab m k),fun m k=>Classical.choose_spec (ab m k)⟩
    have ab:=fun m k=>(aa m k).1
    have b8:IntKind.i64.wrap (n:Int)=(n:Int):=by
     unfold IntKind.wrap;have h1:(IntKind.i64.bits)=64:=rfl;have h2:(IntKind.i64.signed)=true:=rfl;simp only [h1,h2,Bool.true_and,decide_eq_true_eq];have h3:(n:Int) % 2 ^ 64=n:=Int.emod_eq_of_lt (by omega) (by omega);rw [h3,if_neg (by omega)]
    have b9:(n:Int)≤(cap:Int):=by
     rcases h2.2 with ⟨h,_⟩ | ⟨g',_,_,hv,_,_,hc,_⟩
     ·cases h
     ·simp only [Value.slice.injEq,Option.some.injEq,Addr.mk.injEq,and_true,true_and] at hv
      have:=HN.out;omega
    have ao:∀ m k,wr.grownBy (W6 m k) (some I):=fun m k=>by
     have:=(aa m k).2.2;exact (af m).trans ⟨this.os,this.tape,this.output,this.size,this.block⟩
    have a8:∀ m k b,b < wr.heap.size→I ≠ b→(W6 m k).heap[b]? = wr.heap[b]?:=fun m k b hb ag=>(ao m k).block b hb fun e=>ag (by injection e with e; exact e.symm)
    have e0:∀ m k,(W6 m k).cell? ⟨y,0,none⟩=some (.slice (some ⟨g,0,none⟩) (n+1) cap):=fun m k=>by rw [World.cell?_of_block (w:=wr) (a8 m k y U a7)]; exact c0
    have e1:∀ m k,(W6 m k).frozen? ⟨y,0,none⟩=false:=fun m k=>by rw [World.frozen?_of_block (w:=wr) (a8 m k y U a7)]; exact f0
    have HZ:Hid (∀ m k j,Wk BS base y J (((W6 m k).drewN j).setCell ⟨y,0,none⟩ (.slice (some ⟨g,0,none⟩) n cap))∧Below base w (((W6 m k).drewN j).setCell ⟨y,0,none⟩ (.slice (some ⟨g,0,none⟩) n cap))):=η fun m k j=>
     HW.out.popped HB.out HN.out c0 c1 (ao m k) (by have:=(aa m k).2.1; rwa [List.append_nil] at this) j
    clear h2 h3 h4 a5 a6 a7 az af U ac blk am ao aa a8;go_wp2
    go_quiet (fail)
    go_wp2
    go_quiet (fail)
    go_wp2
    go_region_law (fail)
    all_goals
     clear b1 a9 c0 c1 k0 k1 k2 k3 f0;go_wp2
     go_quiet (fail)
     go_wp2
     go_region_law (fail)
    all_goals
     clear aD ab d0 d1 d2;go_wp2
     go_region_law (fail)
    all_goals
     go_wp2;go_roundw
     case rel=>exact ⟨J,(HZ.out _ _ _).1,(HZ.out _ _ _).2,by rw [← LK (f:=f) (by omega)]; exact HR.out,by have:=aq.out; have:=HN.out; omega⟩
     case measure=>exact Nat.lt_of_le_of_lt (Nat.le_of_eq (HZ.out _ _ 1).1.OA) (by rw [aE.out,HN.out]; omega)
end
section
open Go.RowKit Go.ChangeMaps Go.MapKept D
def D.isStr (v:Value):Prop:=∃ s:ByteArray,v=.string s∧s.size≤maxLen
theorem D.lu:wJ Tryz.prog 9 (fun _=>True) isStr:=by
 have K:=Go.WideMaps.string_law (P:=Tryz.prog) Tryz.underlying9;have hk:∀ {s:ByteArray},s.size≤maxLen→keyOf Tryz.prog 9 (.string s)=some (.string s.data.toList):=fun h=>Go.WideMaps.keyOf_string_mk Tryz.underlying9 h
 refine ⟨?_,?_,?_⟩
 ·rintro w J v ⟨s,rfl,y⟩
  exact K.check w J (hk y)
 ·rintro w _ k ⟨s,rfl,y⟩ es I
  exact K.find w (hk y) es fun e he=>by
   obtain ⟨s',h1,U⟩:=I e he;exact ⟨_,by rw [h1]; exact hk U⟩
 ·rintro v ⟨s,rfl,_⟩
  simp [Instr.sameBits]
structure D.WK where
 name:ByteArray
 size:Nat
 place:Int
 word:ByteArray
deriving DecidableEq
def D.Ei (k:WK):Value:=.agg #[.string k.name,.int .i64 k.size,.int .i64 k.place,.string k.word]
def D.FZ (v:Value):Prop:=∃ k:WK,v=Ei k
theorem D.F5 {k l:WK} (h:Ei k=Ei l):k=l:=by
 obtain ⟨a,b,c,d⟩:=k;obtain ⟨I,y,J,U⟩:=l;simp [Ei] at h;obtain ⟨rfl,h2,rfl,rfl⟩:=h;have:b=y:=by omega
 rw [this]
theorem BU:Tryz.prog.underlying 256=some (.struct (Tryz.prog.fieldsOf 256)):=by kernel_rfl
theorem Vm:Tryz.prog.stoodInHeld 256=false:=by kernel_rfl
theorem Vo : (Tryz.prog.fieldsOf 256).toList.map (fun f => (f.name, f.type, f.offset)) = [("name", 9, 0), ("size", 3, 1), ("at", 3, 2), ("word", 9, 3)] := by kernel_rfl
theorem D.Ej : ∃ y I f2 J, (Tryz.prog.fieldsOf 256).toList = [y, I, f2, J] ∧ (y.name ≠ "_" ∧ y.type = 9 ∧ y.offset = 0) ∧ (I.name ≠ "_" ∧ I.type = 3 ∧ I.offset = 1) ∧
  (f2.name ≠ "_" ∧ f2.type = 3 ∧ f2.offset = 2) ∧ (J.name ≠ "_" ∧ J.type = 9 ∧ J.offset = 3) := by
 have h:=Vo;generalize (Tryz.prog.fieldsOf 256).toList=L at h;have U:L.length=4:=by have:=congrArg List.length h; simpa using this
 match L,U,h with
 | [y,I,f2,J],_,h=>
  simp at h;obtain ⟨⟨a1,a2,a3⟩,⟨b1,b2,b3⟩,⟨c1,c2,c3⟩,d1,d2,d3⟩:=h;exact ⟨y,I,f2,J,rfl,⟨by rw [a1]; decide,a2,a3⟩,⟨by rw [b1]; decide,b2,b3⟩,⟨by rw [c1]; decide,c2,c3⟩,by rw [d1]; decide,d2,d3⟩
theorem D.Vp (d:Nat) (a b:ByteArray) (w:World):(Op.equalIn (d+1) 9 (.string a) (.string b)).run Tryz.prog w=.ok (a == b) w:=by
 simp [Op.equalIn,run_underlying Tryz.underlying9,Result.andThen]
theorem D.eq_int (d:Nat) (a b:Int) (w:World):(Op.equalIn (d+1) 3 (.int .i64 a) (.int .i64 b)).run Tryz.prog w=.ok (a == b) w:=by
 simp [Op.equalIn,run_underlying Tryz.underlying3,Result.andThen]
theorem D.II {cs:Array Value} {o:Nat} {v:Value} (h:cs[o]? = some v) (w:World):(part 9 cs o).run Tryz.prog w=.ok v w:=by
 simp [part,isAgg,run_underlying Tryz.underlying9,h,Result.andThen]
theorem D.IJ {cs:Array Value} {o:Nat} {v:Value} (h:cs[o]? = some v) (w:World):(part 3 cs o).run Tryz.prog w=.ok v w:=by
 simp [part,isAgg,run_underlying Tryz.underlying3,h,Result.andThen]
theorem D.Un:Ud Tryz.prog 256 (fun _=>True) FZ:=by
 refine ⟨⟨_,BU,?_⟩,?_⟩
 ·rintro a b ⟨k,rfl⟩ ⟨l,rfl⟩
  rfl
 ·rintro w a b _ ⟨k,rfl⟩ ⟨l,rfl⟩
  obtain ⟨f0,f1,f2,f3,hf,⟨a1,a2,a3⟩,⟨b1,b2,b3⟩,⟨c1,c2,c3⟩,d1,d2,d3⟩:=Ej;have y:=run_equalIn_struct (P:=Tryz.prog) (w:=w) 9999 256 #[.string k.name,.int .i64 k.size,.int .i64 k.place,.string k.word] #[.string l.name,.int .i64 l.size,.int .i64 l.place,.string l.word] BU Vm;refine ⟨k.name == l.name && ((k.size:Int) == (l.size:Int) && (k.place == l.place && k.word == l.word)),?_,?_⟩
  ·show (Op.equalIn 10000 _ _ _).run _ _=_
   unfold Ei;rw [y,hf];simp [Op.eqFields,a1,a2,a3,b1,b2,b3,c1,c2,c3,d1,d2,d3,II,IJ,Vp,eq_int,Result.andThen]
   by_cases h1:k.name=l.name <;> by_cases U:(k.size:Int)=(l.size:Int) <;> by_cases I:k.place=l.place <;> by_cases J:k.word=l.word <;> simp [h1,U,I,J]
  ·constructor
   ·intro h
    simp at h;obtain ⟨h1,U,I,J⟩:=h;obtain ⟨a,b,c,d⟩:=k;obtain ⟨a',b',c',d'⟩:=l;simp only at h1 U I J;rw [h1,I,J,show b=b' by omega]
   ·intro h
    rw [F5 h];simp
theorem D.OB (y:Bool) (v:ByteArray) (w:World):(Instr.checkKey y 9999 9 (.string v)).run Tryz.prog w=.ok () w:=by
 show (Instr.checkKey y (9998+1) _ _).run _ _=_;rw [Instr.checkKey];simp [run_underlying Tryz.underlying9,Result.andThen]
theorem D.OC (y:Bool) (v:Int) (w:World):(Instr.checkKey y 9999 3 (.int .i64 v)).run Tryz.prog w=.ok () w:=by
 show (Instr.checkKey y (9998+1) _ _).run _ _=_;rw [Instr.checkKey];simp [run_underlying Tryz.underlying3,Result.andThen]
theorem D.wW:wJ Tryz.prog 256 (fun _=>True) FZ:=by
 refine ⟨?_,fun y k hk es I=>D7 Un y hk es I,?_⟩
 ·rintro w J v ⟨k,rfl⟩
  obtain ⟨f0,f1,f2,f3,hf,⟨U,a2,a3⟩,⟨b1,b2,b3⟩,⟨c1,c2,c3⟩,d1,d2,d3⟩:=Ej;show (Instr.checkKey J (9999+1) _ _).run _ _=_;rw [Instr.checkKey];unfold Ei;simp only [Sem.run_bind,run_underlying BU,Result.andThen_ok];rw [← Array.forIn_toList,hf];simp [U,a2,a3,b1,b2,b3,c1,c2,c3,d1,d2,d3,II,IJ,OB,OC,Result.andThen]
 ·rintro v ⟨k,rfl⟩
  simp [Instr.sameBits,Ei]
end
section
open Go.RowKit Go.Maps D
theorem D.LU:Keyed Tryz.prog 9:=string_keyed Tryz.underlying9
theorem D.QY (w:World):(zeroValue 3).run Tryz.prog w=.ok (.int .i64 0) w:=by kernel_rfl
def D.zU (s:ByteArray):Lit:=.string s.data.toList
theorem D.sH {s:ByteArray} (h:s.size≤maxLen):keyOf Tryz.prog 9 (.string s)=some (zU s):=Go.WideMaps.keyOf_string_mk Tryz.underlying9 h
theorem D.IK {s t:ByteArray} (h:zU s=zU t):s=t:=by
 unfold zU at h
 injection h with h
 exact bytes_inj h
theorem D.yK {H:Type} {x y:Int} (h:(DataW.lit (.int .i64 x):DataW H)=.lit (.int .i64 y)):x=y:=by simpa using h
structure D.gQ (b n:Nat) (L:List ByteArray) (f:ByteArray→Int) (w:World):Prop where
 own:∃ M:DataW Unit,w.ownsMap Tryz.prog 9 (plainElem Tryz.prog 3) b n M∧Maps.size M=L.length∧(∀ s,has M (zU s)=decide (s ∈ L))∧∀ s ∈ L,M.atKey (zU s) (.lit (.int .i64 0))=.lit (.int .i64 (f s))
 nd:L.Nodup
 sz:∀ s ∈ L,s.size≤maxLen
theorem D.gQ.made (w:World) (f:ByteArray→Int):gQ w.heap.size 0 [] f (w.alloc (.map #[] 0)):=
 ⟨⟨.map [],World.ownsMap_made _ _ _ _,rfl,fun s=>by simp [has],fun s h=>by simp at h⟩,List.nodup_nil,fun s h=>by simp at h⟩
theorem D.gQ.same {b n:Nat} {L:List ByteArray} {f:ByteArray→Int} {w w':World} (h:gQ b n L f w) (e:w'.heap[b]? = w.heap[b]?):gQ b n L f w':=by
 obtain ⟨⟨M,⟨es,c,h1,y⟩,I⟩,J,U⟩:=h;exact ⟨⟨M,⟨es,c,e.trans h1,y⟩,I⟩,J,U⟩
theorem D.gQ.mono {b n y:Nat} {L:List ByteArray} {f:ByteArray→Int} {w:World} (h:gQ b n L f w) (I:n≤y):gQ b y L f w:=by
 obtain ⟨⟨M,h1,J⟩,U,h5⟩:=h;exact ⟨⟨M,h1.mono I,J⟩,U,h5⟩
theorem D.gQ.lt {b n:Nat} {L:List ByteArray} {f:ByteArray→Int} {w:World} (h:gQ b n L f w):b < w.heap.size:=by
 obtain ⟨⟨M,h1,_⟩,_⟩:=h;exact h1.lt
theorem D.gQ.below {b n:Nat} {L:List ByteArray} {f:ByteArray→Int} {w w':World} {B:Nat} (h:gQ b n L f w) (y:Below B w w') (hB:b < B):gQ b n L f w':=h.same (y.block b hB)
theorem D.gQ.setCell {b n:Nat} {L:List ByteArray} {f:ByteArray→Int} {w:World} (h:gQ b n L f w) {a:Addr} (ha:b ≠ a.block) (u:Value):gQ b n L f (w.setCell a u):=
 h.same (π _ _ _ _ ha)
theorem D.gQ.Vq {b n:Nat} {L:List ByteArray} {f:ByteArray→Int} {w:World} (h:gQ b n L f w):L.length≤n:=by
 obtain ⟨⟨M,h1,y,_⟩,_⟩:=h;have:=h1.size_le;omega
theorem D.gQ.congr {b n:Nat} {L:List ByteArray} {f g:ByteArray→Int} {w:World} (h:gQ b n L f w) (e:∀ s ∈ L,f s=g s):gQ b n L g w:=by
 obtain ⟨⟨M,h1,I,J,U⟩,h5,h6⟩:=h;exact ⟨⟨M,h1,I,J,fun s y=>by rw [U s y,e s y]⟩,h5,h6⟩
section
variable {ops:Array Oper} {rest:List Oper} {o:Oper} {a:Act} {Q:Exit→Act→World→Prop}
theorem dA (w:World) (U:o.guard=none) (m x:Operand) (t:TypeId) (I:o.op=Op.lookup t m x true) (ht:Tryz.prog.underlying t=some (.map 9 3))
  (b n:Nat) (L:List ByteArray) (f:ByteArray→Int) (hm:a.eval m=.map (some b)) (h:gQ b n L f w) (s:ByteArray) (hx:a.eval x=.string s) (hs:s.size≤maxLen)
  (c:Bool) (hc:decide (s ∈ L)=c) (v:Int) (hv:(if s ∈ L then f s else 0)=v)
  (hK:wpList Tryz.prog ops Q rest (a.put o.dst (.tuple #[.int .i64 v,.bool c])) w):wpList Tryz.prog ops Q (o :: rest) a w:=by
 obtain ⟨⟨M,h1,h2,J,h4⟩,h5,h6⟩:=h;refine wpList_lookup_own_ok_int w U m x t I _ _ .i64 LU ht Tryz.underlying3 (QY w) b n M hm h1 (.string s) (zU s) hx (sH hs) fun d y hw=>?_
 rw [J s,hc]
 have:d=v:=by
  rw [← hv]
  split
  ·rename_i hmem
   have:=h4 s hmem;rw [this] at y;exact yK y.symm
  ·rename_i hmem
   have h7:has M (zU s)=false:=by rw [J s]; simpa using hmem
   rw [atKey_of_not_has h7] at y;exact yK y.symm
 rw [this];exact hK
theorem rC (w:World) (J:o.guard=none) (m x:Operand) (t:TypeId) (I:o.op=Op.lookup t m x false) (U:Tryz.prog.underlying t=some (.map 9 3))
  (b n:Nat) (L:List ByteArray) (f:ByteArray→Int) (hm:a.eval m=.map (some b)) (h:gQ b n L f w) (s:ByteArray) (hx:a.eval x=.string s) (hs:s.size≤maxLen)
  (v:Int) (hv:(if s ∈ L then f s else 0)=v)
  (hK:wpList Tryz.prog ops Q rest (a.put o.dst (.int .i64 v)) w):wpList Tryz.prog ops Q (o :: rest) a w:=by
 obtain ⟨⟨M,h1,h2,h3,h4⟩,h5,h6⟩:=h;refine wpList_lookup_own_int w J m x t I _ _ .i64 LU U Tryz.underlying3 (QY w) b n M hm h1 (.string s) (zU s) hx (sH hs) fun d y hw=>?_
 have:d=v:=by
  rw [← hv]
  split
  ·rename_i hmem
   have:=h4 s hmem;rw [this] at y;exact yK y.symm
  ·rename_i hmem
   have h7:has M (zU s)=false:=by rw [h3 s]; simpa using hmem
   rw [atKey_of_not_has h7] at y;exact yK y.symm
 rw [this];exact hK
theorem gy (w:World) (I:o.guard=none) (m:Operand) (t:TypeId) (y:o.op=Op.call { callee:=Callee.builtin Builtin.len,args:=#[m],argTypes:=#[t] }) (J:Tryz.prog.underlying t=some (.map 9 3))
  (b n:Nat) (L:List ByteArray) (f:ByteArray→Int) (hm:a.eval m=.map (some b)) (h:gQ b n L f w)
  (hK:wpList Tryz.prog ops Q rest (a.put o.dst (.int .i64 L.length)) w):wpList Tryz.prog ops Q (o :: rest) a w:=by
 obtain ⟨⟨M,h1,U,h3,h4⟩,h5,h6⟩:=h;refine wpList_len_own w I m t y _ _ J _ b n M hm h1 ?_;rw [U];exact hK
theorem D.F6 {L:List ByteArray} (h:L.Nodup) (s:ByteArray):(fO L s).Nodup:=(nK [s] L h).1
theorem jT (w:World) (hg:o.guard=none) (m x v:Operand) (t:TypeId) (J:o.op=Op.mapUpdate t m x v) (y:Tryz.prog.underlying t=some (.map 9 3))
  (b n:Nat) (L:List ByteArray) (f:ByteArray→Int) (hm:a.eval m=.map (some b)) (h:gQ b n L f w) (s:ByteArray) (hx:a.eval x=.string s) (I:s.size≤maxLen) (z:Int) (hv:a.eval v=.int .i64 z) (hn:n < maxLen) (hz:0≤z∧z≤1000000)
  (hK:∀ w',gQ b (n+1) (fO L s) (fun t=>if t=s then z else f t) w'→w.grownBy w' (some b)→wpList Tryz.prog ops Q rest (a.put o.dst undef) w'):wpList Tryz.prog ops Q (o :: rest) a w:=by
 obtain ⟨⟨M,h1,h2,h3,h4⟩,h5,h6⟩:=h;refine wpList_mapUpdate_own w hg m x v t J _ _ LU y _ b n M hm h1 hn (.string s) (.int .i64 z) (zU s) hx hv (sH I) (.lit (.int .i64 z)) [] (plainElem_int Tryz.underlying3 (WalkArith.wf_i64 (by omega))) fun w' h7 U=>?_
 refine hK w' ⟨⟨_,h7,?_,fun t=>?_,fun t y=>?_⟩,F6 h5 s,fun t y=>?_⟩ U
 ·rw [size_put (h1.tidy LU),h3 s]
  unfold fO;by_cases hm:s ∈ L
  ·simp [hm,h2]
  ·simp [hm,h2]
 ·by_cases e:t=s
  ·subst e
   rw [has_put_same h1.isMap (LU.key (sH I))];exact (decide_eq_true (iT.2 (.inr rfl))).symm
  ·rw [has_put_other (fun h=>e (IK h)),h3 t]
   by_cases hm:t ∈ L
   ·simp [hm,iT]
   ·simp [hm,iT,e]
 ·by_cases e:t=s
  ·subst e
   rw [atKey_put_same h1.isMap (LU.key (sH I)),if_pos rfl]
  ·rw [atKey_put_other (fun h=>e (IK h)),if_neg e]
   exact h4 t ((iT.1 y).resolve_right e)
 ·rcases iT.1 y with h | rfl
  ·exact h6 t h
  ·exact I
end
section
variable {ops:Array Oper} {rest:List Oper} {o:Oper} {a:Act} {Q:Exit→Act→World→Prop}
end
end
end Go.Proofs.YtlmngncogomgeaaGreatDoor
