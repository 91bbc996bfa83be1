/- Of the proof of FnDeltaBoth: DoI, FlwP, RunS. -/
import Derived.Test.YtkjinanbccloeaaGreatDoorC27
set_option linter.unusedVariables false
set_option maxHeartbeats 8000000
set_option maxRecDepth 100000
namespace Go.Proofs.YtkjinanbccloeaaGreatDoor
section
open Go.RowKit D
attribute [local go_sem ↓] Go.wp_at_zero Go.wp_at_succ
theorem lq (xs:List A) (c:Ch) (v c0 c1:Value) (bs b2:List Nat) (w:World) (h:ay w [v] xs bs) (h2:dY w [c0,c1] c b2):
  Calls Tryz.prog 32 #[v,.agg #[c0,c1]] w (Makes ay (wO xs c) w.heap.size w):=by
 obtain ⟨Ad,cap,rfl,hl,hm⟩:=aj h;obtain ⟨Ac,J,Ag,U,rfl,rfl⟩:=fU h2;have hA:Below w.heap.size w (w.alloc (.cells #[.slice Ac c.comes.length J,.slice Ag c.goes.length U] 54)):=ζ;have k1:=oM xs _ bs _ (ak.below h hA);have k2:=fun w' (hb:Below w.heap.size w w')=>lm c _ _ b2 w' (bH.below h2 hb)
 have k3:=fun (hf:aN xs=true) (hg:bD c=true) w' (hb:Below w.heap.size w w')=>(y8 hf hg) ▸ CW xs c _ _ _ bs b2 w' (ak.below h hb) (bH.below h2 hb) (τ (eU hf) (by omega)) (τ (eU (aX hg).1) (by omega)) (τ (eU (aX hg).2) (by omega))
 have k4:=fun (hf:aN xs=true) (hg:bD c=true) v' bs' w' (U':List A) (hU:U'=if (behind xs c).length≤300 then behind xs c else []) (h':ay w' [v'] U' bs')=>nJ U' v' bs' w' h' (by rw [hU]; split; omega; simp) (by
  intro x hx;rw [hU] at hx
  split at hx
  ·exact (FC (iH hf) (iH (aX hg).1)).2 x hx
  ·simp at hx)
 have HG:Hid (wO xs c=if (aN xs && bD c)=true then (if (behind xs c).length≤300 then behind xs c else []) else []):=η rfl;generalize wO xs c=G at *;generalize aN xs=x at *;generalize bD c=y at *;clear h h2 hl hm
 go_enter Tryz.func32,Tryz.ntmps32
 go_wp2_with fail
 refine k1.mono ?_;rintro e w1 ⟨rfl,a0⟩;have B1:=hA.trans (a0.mono hA.size);have x0:w1.cell? ⟨w.heap.size,0,none⟩=some (.slice Ac c.comes.length J):=ξ a0 (by go_simp);have x1:w1.cell? ⟨w.heap.size,1,none⟩=some (.slice Ag c.goes.length U):=ξ a0 (by go_simp);clear k1 hA;cases x
 ·have I:Hid (G = []):=η (by rw [HG.out]; rfl)
  clear k2 k3 k4 HG;go_wp2;go_ret;exact ⟨B1,_,[],rfl,by rw [I.out]; exact bW _,New.nil _ _⟩
 ·have a1:=k3 rfl
  have a2:=k4 rfl;clear k3 k4
  go_wp2_with fail
  refine (k2 _ B1).mono ?_;rintro e w2 ⟨rfl,a3⟩;have B2:=B1.trans (a3.mono B1.size);replace x0:=ξ a3 x0;replace x1:=ξ a3 x1;clear k2;cases y
  ·have I:Hid (G = []):=η (by rw [HG.out]; rfl)
   clear a1 a2 HG;go_wp2;go_ret;exact ⟨B2,_,[],rfl,by rw [I.out]; exact bW _,New.nil _ _⟩
  ·have a6:=a1 rfl
   have a7:=a2 rfl;have I:Hid (G=if (behind xs c).length≤300 then behind xs c else []):=η (by rw [HG.out]; rfl);clear a1 a2 HG
   go_wp2_with fail
   refine (a6 _ B2).mono ?_;rintro e w3 ⟨aa,v3,b3,U',hU,rfl,a4⟩;have B3:=B2.trans (aa.mono B2.size);have k5:=a7 _ _ _ _ hU a4;have HU:=η hU;clear hU;obtain ⟨A3,p3,rfl,_,_⟩:=aj a4;generalize decide ((behind xs c).length≤300)=z at *;clear a6 a7 a4
   go_wp2_with fail
   refine k5.mono ?_;rintro e w4 ⟨ab,v4,b4,rfl,a5,a8⟩;have a9:=η (ι a5 a8);obtain ⟨A4,p4,rfl,_,_⟩:=aj a5;clear k5 a5 a8;go_wp2;go_ret;exact ⟨B3.trans (ab.mono B3.size),_,b4,rfl,by rw [I.out,← HU.out]; exact a9.out.1,a9.out.2.mono B3.size⟩
end
section
open Go.RowKit D
def D.wG (fs ps y:List A) (b:Bd) (left:Nat) (σ:Wo):Prop:=TJ b σ∧(∀ j (h:j < ps.length),left.testBit j=true→iF σ ps[j] ∈ fs)∧∀ n ∈ y,iF σ n ∉ fs
def D.uZ (b:Bd):Prop:=∀ p ∈ b,jc p.2=true
theorem D.vg {s:ByteArray} (h:jc s=true):s ≠ ⟨#[]⟩:=by
 rintro rfl;revert h
 decide
theorem D.sO:∀ (y fs:List T) (b:Bd),∃ c,(dH y fs b).1=b ++ c
 | [],fs,b=>by cases fs <;> exact ⟨[],by simp [dH]⟩
 | t :: y,[],b=>⟨[],by simp [dH]⟩
 | t :: y,f :: fs,b=>by
  rw [dH]
  split
  ·split
   ·split
    ·exact sO y fs b
    ·exact ⟨[],by simp⟩
   ·obtain ⟨c,hc⟩:=sO y fs (b ++ [(t.name,f.name)])
    exact ⟨(t.name,f.name) :: c,by rw [hc]; simp⟩
  ·split
   ·exact sO y fs b
   ·exact ⟨[],by simp⟩
theorem D.xY (a f:A) (b:Bd):(aF a f b).1.take b.length=b:=by
 unfold aF
 split
 ·obtain ⟨c,hc⟩:=sO a.args f.args b
  rw [hc]; simp
 ·simp
theorem D.wQ (a f:A) (b:Bd):b.length≤(aF a f b).1.length:=by
 have:=congrArg List.length (xY a f b);simp at this;omega
theorem D.sQ:∀ (I fs:List T) (b:Bd),uZ b→(∀ f ∈ fs,jc f.name=true)→uZ (dH I fs b).1
 | [],fs,b,h,_=>by cases fs <;> simpa [dH] using h
 | t :: I,[],b,h,_=>by simpa [dH] using h
 | t :: I,f :: fs,b,h,hf=>by
  have y:∀ g ∈ fs,jc g.name=true:=fun g U=>hf g (Δ _ U)
  rw [dH]
  split
  ·split
   ·split
    ·exact sQ I fs b h y
    ·exact h
   ·refine sQ I fs _ (fun p J=>?_) y
    rcases μ.1 J with J | J
    ·exact h p J
    ·rw [ώ.1 J]; exact hf f Γ
  ·split
   ·exact sQ I fs b h y
   ·exact h
theorem D.F6 {a f:A} {b:Bd} (h:uZ b) (hf:∀ t ∈ f.args,jc t.name=true):uZ (aF a f b).1:=by
 unfold aF
 split
 ·exact sQ _ _ _ h hf
 ·exact h
structure D.bG (f:A):Prop where
 ok:bU f=true
 gr:Gr f
theorem D.bG.names {f:A} (h:bG f):∀ t ∈ f.args,t.var=false∧jc t.name=true:=fun t y=>by
 have h0:=h.ok;unfold bU at h0;simp only [ο,decide_eq_true_eq,ό] at h0;have h1:=h0.2 t y;have I:=h.gr t y;unfold jv at h1;rw [I] at h1;exact ⟨I,by simpa using h1⟩
theorem D.vX {a:A} (ha:bU a=true) {b:Bd} (J:uZ b) (hc:yO b a.args):bG (dD a b):=by
 have h0:=ha;unfold bU at h0;simp only [ο,decide_eq_true_eq,ό] at h0;refine ⟨?_,rY (jC b) a⟩;unfold bU dD;simp only [ο,decide_eq_true_eq,ό,List.length_map];refine ⟨h0.1,fun t U=>?_⟩;obtain ⟨u,y,rfl⟩:=List.mem_map.1 U;have h1:=h0.2 u y;unfold jv at *;unfold dU;cases hv:u.var
 ·simpa [hv] using h1
 ·obtain ⟨v,I⟩:=Option.isSome_iff_exists.1 (hc u y hv)
  simp only [if_true,jC,I,Option.getD_some];exact J _ (yZ I)
theorem D.zC {fs:List A} (hf:∀ f ∈ fs,bG f) {a:A} (ha:bG a):decide (fF a ∈ fs.map fF)=true ↔ a ∈ fs:=by
 rw [decide_eq_true_eq,List.mem_map];constructor
 ·rintro ⟨f,h1,y⟩
  rw [← AX (hf f h1).ok ha.ok y]; exact h1
 ·exact fun h=>⟨a,h,rfl⟩
theorem D.JL {vars:List ByteArray} (hv:kC vars) {b:Bd} (hb:jZ vars b) {ts:List T} (hin:∀ t ∈ ts,t.var=true→t.name ∈ vars):
  yO b ts ↔ ∀ i,i < 12→gW vars ts i=true→JV vars b i ≠ ⟨#[]⟩:=by
 constructor
 ·intro hc i _ hw
  unfold gW at hw;obtain ⟨t,y,h2⟩:=List.any_eq_true.1 hw;simp only [ο,beq_iff_eq] at h2;obtain ⟨h3,rfl⟩:=h2;have I:=List.idxOf_lt_length_of_mem (hin t y h3);obtain ⟨v,U⟩:=Option.isSome_iff_exists.1 (hc t y h3);unfold JV;rw [dif_pos I];have e:vars[vars.idxOf t.name]=t.name:=List.getElem_idxOf I;rw [e];intro e2;rw [(hb.qU _).1 e2] at U;cases U
 ·intro h t y J
  have hm:=hin t y J;have I:=List.idxOf_lt_length_of_mem hm;have a0:=hv.few;have h1:=h (vars.idxOf t.name) (by omega) (List.any_eq_true.2 ⟨t,y,by simp [J]⟩);unfold JV at h1;rw [dif_pos I] at h1;have e:vars[vars.idxOf t.name]=t.name:=List.getElem_idxOf I;rw [e] at h1
  cases U:gJ b t.name with
  | some v=>rfl
  | none=>exact absurd ((hb.qU _).2 U) h1
def D.ND (vars:List ByteArray) (head:A) (y:List A) (i:Nat):Bool:=gW vars head.args i || y.any fun n=>gW vars n.args i
theorem D.vk {vars:List ByteArray} (hv:kC vars) {b:Bd} (hb:jZ vars b) {head:A} {ns:List A} {wt:Nat→Bool} (J:∀ i,i < 12→wt i=ND vars head ns i) (hh:∀ t ∈ head.args,t.var=true→t.name ∈ vars) (hn:∀ n ∈ ns,∀ t ∈ n.args,t.var=true→t.name ∈ vars):
  setB vars b wt=true ↔ yO b head.args∧∀ n ∈ ns,yO b n.args:=by
 rw [FQ,JL hv hb hh];constructor
 ·intro h
  refine ⟨fun i I U=>h i I (by rw [J i I]; unfold ND; rw [U]; rfl),fun n y=>(JL hv hb (hn n y)).2 fun i I U=>h i I (by rw [J i I]; unfold ND; rw [List.any_eq_true.2 ⟨n,y,U⟩]; simp)⟩
 ·rintro ⟨h1,h2⟩ i I U
  rw [J i I] at U;unfold ND at U
  rcases Bool.or_eq_true_iff.1 U with h | h
  ·exact h1 i I h
  ·obtain ⟨n,y,h3⟩:=List.any_eq_true.1 h
   exact (JL hv hb (hn n y)).1 (h2 n y) i I h3
theorem D.IK (l i:Nat) (y:l < 16) (I:i < 4) (h:l.testBit i=true):bits .andNot .i64 (l:Int) (wrap64 (2 ^ i))=((l - 2 ^ i:Nat):Int):=by
 have H:∀ l:Nat,l < 16→∀ i:Nat,i < 4→l.testBit i=true→bits .andNot .i64 (l:Int) (wrap64 (2 ^ i))=((l - 2 ^ i:Nat):Int):=by decide +kernel
 exact H l y i I h
theorem D.zD (l i j:Nat) (y:l < 16) (I:i < 4) (J:j < 4) (h:l.testBit i=true):(l - 2 ^ i).testBit j=(l.testBit j && decide (j ≠ i)):=by
 have H:∀ l:Nat,l < 16→∀ i:Nat,i < 4→∀ j:Nat,j < 4→l.testBit i=true→(l - 2 ^ i).testBit j=(l.testBit j && decide (j ≠ i)):=by decide +kernel
 exact H l y i I j J h
theorem D.Qs (l i:Nat) (y:l < 16) (I:i < 4) (h:l.testBit i=true):l - 2 ^ i < l:=by
 have H:∀ l:Nat,l < 16→∀ i:Nat,i < 4→l.testBit i=true→l - 2 ^ i < l:=by decide +kernel
 exact H l y i I h
theorem D.VE (l n:Nat) (y:l < 2 ^ n) (hn:n≤4) (h:l ≠ 0):∃ j,j < n∧l.testBit j=true:=by
 have H:∀ n:Nat,n < 5→∀ l:Nat,l < 2 ^ n→l ≠ 0→∃ j,j < n∧l.testBit j=true:=by decide +kernel
 exact H n (by omega) l y h
theorem D.wG.step {fs ps I:List A} {b:Bd} {left m:Nat} {σ:Wo} {f:A} (J:left < 16) (U:ps.length≤4) (hm:m < ps.length) (y:left.testBit m=true) (h:wG fs ps I b left σ) (he:iF σ ps[m]=f):
  (aF ps[m] f b).2=true∧wG fs ps I (aF ps[m] f b).1 (left - 2 ^ m) σ:=by
 obtain ⟨h1,h2,h3⟩:=h;obtain ⟨g1,g2⟩:=oJ h1 he;refine ⟨g1,g2,fun j hj hb=>h2 j hj ?_,h3⟩;rw [zD left m j J (by omega) (by omega) y] at hb;exact (Bool.and_eq_true_iff.1 hb).1
theorem D.wG.back {fs ps U:List A} {b:Bd} {left m:Nat} {σ:Wo} {f:A} (hl:left < 16) (a0:ps.length≤4) (hm:m < ps.length) (y:left.testBit m=true) (hf:f ∈ fs) (I:Gr f) (J:(aF ps[m] f b).2=true) (h:wG fs ps U (aF ps[m] f b).1 (left - 2 ^ m) σ):
  wG fs ps U b left σ:=by
 obtain ⟨h1,h2,h3⟩:=h;obtain ⟨g1,g2⟩:=nT I J;refine ⟨h1.of_le (oV _ _ _),fun j hj hb=>?_,h3⟩;by_cases e:j=m
 ·subst e
  rw [← kQ g1 h1,g2]; exact hf
 ·refine h2 j hj ?_
  rw [zD left m j hl (by omega) (by omega) y,hb];simpa using e
end
section
open Go.RowKit D
attribute [local go_sem ↓] Go.wp_at_zero Go.wp_at_succ
theorem D.PI {list:List A} {level B:Nat} {rl:List (Ru × Nat)} (h:∀ p ∈ rl,(allB list p.1.body).length≤B):(jo list level rl).length≤rl.length * B:=by
 have h1:∀ (bs:List Bd) (r:Ru) (out:List A),(bs.foldl (fun o b=>fD o (dD r.head b)) out).length≤out.length+bs.length:=by
  intro bs r
  induction bs with
  | nil=>intro out; exact ν
  | cons b bs ih=>
   intro out;have y:=ih (fD out (dD r.head b));have I:=JH out (dD r.head b);simp only [List.foldl_cons,List.length_cons];omega
 have y:∀ k,k≤rl.length→(jo list level (rl.take k)).length≤k * B:=by
  intro k
  induction k with
  | zero=>intro _; simp [jo]
  | succ k ih=>
   intro J;have I:=ih (by omega);rw [FX list level rl k (by omega),Nat.add_mul]
   split
   ·have U:=h1 (allB list rl[k].1.body) rl[k].1 (jo list level (rl.take k))
    have h5:=h _ (δ (show k < rl.length by omega));unfold Gx;omega
   ·omega
 have:=y rl.length ν
 rwa [ϕ ν] at this
structure D.RInv (W:World) (N M:Nat) (s t:Value) (r:Rd) (bs:List Nat) (lv:List Nat) (vl:Value) (bl:List Nat) (w:World):Prop where
 n_:w.heap[N]? = some (.cells #[.slice none 0 0,.slice none 0 0] 96 (0,0))
 m_:w.heap[M]? = some (.cells #[s,t] 96 (0,0))
 rd:sK w [s,t] r bs
 far:∀ c ∈ bs,c ≠ M∧c ≠ N
 bel:Below W.heap.size W w
 ge:W.heap.size≤M
 nm:N ≠ M
 lv_:jS w [vl] lv bl
 lf:∀ c ∈ bl,c ≠ M
theorem D.RInv.below {W:World} {N M:Nat} {s t:Value} {r:Rd} {bs lv:List Nat} {y:Value} {I:List Nat} {w w':World} (h:RInv W N M s t r bs lv y I w) (hb:Below w.heap.size w w'):RInv W N M s t r bs lv y I w':=
 ⟨by rw [hb.block _ (ψ h.n_)]; exact h.n_,by rw [hb.block _ (ψ h.m_)]; exact h.m_,qy.below h.rd hb,h.far,h.bel.trans (hb.mono h.bel.size),h.ge,h.nm,dW.below h.lv_ hb,h.lf⟩
theorem D.RInv.set {W:World} {N M:Nat} {s t y I:Value} {r U:Rd} {bs bs' lv:List Nat} {vl:Value} {bl:List Nat} {w:World} (h:RInv W N M s t r bs lv vl bl w) (h':sK w [y,I] U bs') (hf:∀ c ∈ bs',c ≠ M∧c ≠ N):
  RInv W N M y I U bs' lv vl bl ((w.setCell ⟨M,0,none⟩ y).setCell ⟨M,1,none⟩ I):=by
 have J:∀ k,k ≠ M→((w.setCell ⟨M,0,none⟩ y).setCell ⟨M,1,none⟩ I).heap[k]? = w.heap[k]?:=fun k J=>by rw [π _ _ _ _ J,π _ _ _ _ J]
 exact ⟨(J _ h.nm).trans h.n_,by simpa using dw (o:=1) (u:=I) (dw (o:=0) (u:=y) h.m_),qy.keep h' fun c hc=>J c (hf c hc).1,hf,(h.bel.setCell (p:=⟨M,0,none⟩) h.ge y).setCell (p:=⟨M,1,none⟩) h.ge I,h.ge,h.nm,dW.keep h.lv_ fun c hc=>J c (h.lf c hc),h.lf⟩
theorem D.pY {w:World} {s t:Value} {r:Rd} {bs:List Nat} (h:sK w [s,t] r bs):∃ A p b o c b0 I,s=.slice A r.1.length p∧t=.slice (some ⟨b,o,none⟩) r.2.length c∧bs=b0 ++ I∧ay w [.slice A r.1.length p] r.1 b0∧jS w [.slice (some ⟨b,o,none⟩) r.2.length c] r.2 I∧r.2.length=r.1.length:=by
 obtain ⟨s',b,o,c,b0,I,y,rfl,h1,J,U⟩:=h;simp only [List.cons.injEq,and_true] at y;obtain ⟨rfl,rfl⟩:=y;obtain ⟨A,p,rfl,_⟩:=aj h1;exact ⟨A,p,b,o,c,b0,I,rfl,rfl,rfl,h1,J,U⟩
theorem D.RInv.fin {W:World} {N M:Nat} {s t:Value} {r:Rd} {bs lv:List Nat} {J:Value} {U:List Nat} {w:World} (h:RInv W N M s t r bs lv J U w) (I:W.heap.size≤N):
  ((w.setCell ⟨N,0,none⟩ s).setCell ⟨N,1,none⟩ t).cell? ⟨N,0,none⟩=some s∧((w.setCell ⟨N,0,none⟩ s).setCell ⟨N,1,none⟩ t).cell? ⟨N,1,none⟩=some t∧Below W.heap.size W ((w.setCell ⟨N,0,none⟩ s).setCell ⟨N,1,none⟩ t)∧sK ((w.setCell ⟨N,0,none⟩ s).setCell ⟨N,1,none⟩ t) [s,t] r bs:=by
 have hf:=dw (o:=1) (u:=t) (dw (o:=0) (u:=s) h.n_);refine ⟨ai hf,ai hf,(h.bel.setCell (p:=⟨N,0,none⟩) I s).setCell (p:=⟨N,1,none⟩) I t,qy.keep h.rd fun c hc=>?_⟩;have y:=(h.far c hc).2;rw [π _ _ _ _ y,π _ _ _ _ y]
def D.Bh (M:Nat) (w:World):Nat:=match w.cell? ⟨M,0,none⟩ with | some (.slice _ n _)=>n | _=>0
theorem D.RInv.Bh {W:World} {N M:Nat} {A:Option Addr} {p:Nat} {t:Value} {r:Rd} {bs lv:List Nat} {y:Value} {I:List Nat} {w:World} (h:RInv W N M (.slice A r.1.length p) t r bs lv y I w):Bh M w=r.1.length:=by
 have:w.cell? ⟨M,0,none⟩=some (.slice A r.1.length p):=ai h.m_;unfold D.Bh;rw [this]
theorem D.SV (n:Nat) {w:World} {g:Nat} (h:w.heap[g]? = some (.cells (madeCells #[.int .i64 0] n) 3 (0,0))) (hm:n≤maxLen):∃ bs,jS w [.slice (some ⟨g,0,none⟩) n n] (List.replicate n 0) bs∧∀ c ∈ bs,c=g:=by
 rw [EX] at h;obtain ⟨bs,h1,_,y⟩:=uN h (by simpa using hm);rw [List.length_replicate] at h1;exact ⟨bs,h1,y⟩
def D.SJ (w0:World) (N:Nat) (xs:List A) (Ar Ag:Option Addr) (n1 p1 J p2:Nat) (f:Nat→Bool) (a:Act) (w':World):Prop:=
 ∃ (v6 a0 y a1 a2 I a3:Value) (M g:Nat) (bl:List Nat) (U:World),a=⟨#[.slice Ar n1 p1,.slice Ag J p2,undef,undef,.pointer (some ⟨N,0,none⟩),.bool false,v6,undef,undef,undef,undef,undef,undef,a0,y,a1,a2,I,a3,undef,undef,undef,undef,undef,undef,undef,undef,undef,undef,undef,undef,undef,undef,undef,undef,undef,undef,undef,undef,undef,undef,undef,undef,undef,undef,undef,undef,undef,undef,undef,undef,undef,undef,undef,undef,undef,undef,undef,undef,undef,undef,undef,undef,undef],[]⟩∧Below w0.heap.size w0 U∧
  (f 0=true→a0=.slice Ag J p2)∧(f 1=true→(∃ A cap,y=.slice A xs.length cap)∧ay U [y] xs bl∧∀ c ∈ bl,w0.heap.size≤c)∧(f 2=true→a1=.slice Ag J p2)∧(f 3=true→a2=.int .i64 J)∧
  (f 4=true→I=.slice (some ⟨g,0,none⟩) J J∧w0.heap.size≤g∧U.heap[g]? = some (.cells (madeCells #[.int .i64 0] J) 3 (0,0)))∧(f 5=true→a3=.agg #[y,I]∧f 1=true∧f 4=true)∧
  (f 6=true→v6=.pointer (some ⟨M,0,none⟩)∧w0.heap.size≤M∧U.heap[M]? = some (.cells #[.slice none 0 0,.slice none 0 0] 96 (0,0)))∧(f 6=true→(f 1=true→M ∉ bl)∧(f 4=true→g ≠ M))∧
  (f 7=false→w'=U)∧(f 7=true→w'=(U.setCell ⟨M,0,none⟩ y).setCell ⟨M,1,none⟩ I)∧(f 7=true→∀ i,i < 7→f i=true)
theorem run_any (rs:List Ru) (xs:List A) (v0 v1:Value) (b0 b1:List Nat) (w:World) (hr:fA w [v0] rs b0) (hx:ay w [v1] xs b1) (c8:gB xs=true) (hn:xs.length≤300) (hm:rs.length≤8) (hok:rs.all fM=true)
  (hb:∀ r ∈ rs,r.body.length≤4∧r.head.args.length≤1000∧∀ p ∈ r.body,p.atom.args.length≤1000) (c9:∀ a ∈ xs,a.args.length≤1000):
  Calls Tryz.prog 56 #[v0,v1] w fun e w'=>Below w.heap.size w w'∧∃ e0 U bs',e=.returned (.tuple #[.agg #[e0,U],.bool (iO rs xs).2])∧sK w' [e0,U] (iO rs xs).1 bs':=by
 obtain ⟨Ar,p1,rfl,cX,cY⟩:=aj hr;obtain ⟨Ag,p2,rfl,d0,d1⟩:=aj hx;have HR:=η hr;have HX:=η hx;have HB:=η hb;have d2:=η c9;have d3:=fun w'=>run_make_row' (P:=Tryz.prog) 49 3 (.int .i64 0) 8 Tryz.underlying49 D7 rfl .i64 .i64 xs.length (by omega) (by omega) w'
 have hA:Below w.heap.size w (w.alloc (.cells #[.slice none 0 0,.slice none 0 0] 96)):=ζ;have hN:=ω w (.cells #[.slice none 0 0,.slice none 0 0] 96);clear hr hx cX cY d0 d1 hb c9
 go_enter Tryz.func56,Tryz.ntmps56
 go_wp2_with fail
 generalize w.alloc (.cells #[.slice none 0 0,.slice none 0 0] 96)=w0 at *;have HA:=η hA;have HN:=η hN;clear hA hN;refine qB (SJ w0 w.heap.size xs Ar Ag rs.length p1 xs.length p2) (by kernel_rfl) (by kernel_rfl) ?h0 ?hs ?hd
 case h0=>exact ⟨undef,undef,undef,undef,undef,undef,undef,0,0,[],_,rfl,ϑ.drew,fun h=>(by cases h),fun h=>(by cases h),fun h=>(by cases h),fun h=>(by cases h),fun h=>(by cases h),fun h=>(by cases h),fun h=>(by cases h),fun h=>(by cases h),fun _=>rfl,fun h=>(by cases h),fun h=>(by cases h)⟩
 case hs=>
  intro i oo ho f aa J hJ hf I;obtain ⟨v6,a6,a7,a8,a9,ab,a1,M,g,bl,wi,rfl,hB,e0,U,e2,e3,e4,e5,e6,dd,aL,bo,ao⟩:=hJ;by_cases d4:i=7
  case pos=>
   subst d4;obtain rfl:=Option.some.inj ho;simp [Region.binds] at I;obtain ⟨f6,f5,f1,f0,_,f2,f3,f4,_⟩:=I;obtain rfl:=aL hf;have g5:=(e5 f5).1;have g6:=(e6 f6).1;have g4:=(e4 f4).1;subst g5;subst g6;subst g4;obtain ⟨⟨A3,q3,rfl⟩,_⟩:=U f1;have a2:=(e6 f6).2.2;have ea:J.frozen? ⟨M,0,none⟩=false:=ax a2;have eb:J.frozen? ⟨M,1,none⟩=false:=ax a2;have ec:J.cell? ⟨M,0,none⟩=some (.slice none 0 0):=ai a2;have ed:J.cell? ⟨M,1,none⟩=some (.slice none 0 0):=ai a2;refine wpOp_step rfl (fun K' hK=>?_);go_simp;refine hK _ _ ?_;refine ⟨_,_,_,_,_,_,_,M,g,bl,J,rfl,hB,fun _=>?_,U,fun _=>?_,fun _=>?_,e4,fun _=>⟨rfl,f1,f4⟩,fun _=>⟨rfl,(e6 f6).2⟩,dd,fun h=>(by cases h),fun _=>rfl,fun _ i hi=>?_⟩
   ·first | rfl | exact e0 f0
   ·first | rfl | exact e2 f2
   ·first | rfl | exact e3 f3
   match i,hi with
   | 0,_=>exact f0
   | 1,_=>exact f1
   | 2,_=>exact f2
   | 3,_=>exact f3
   | 4,_=>exact f4
   | 5,_=>exact f5
   | 6,_=>exact f6
   | q+7,h=>omega
  case neg=>
   have h7:f 7=false:=by
    cases hc:f 7 with
    | false=>rfl
    | true=>
     by_cases ca:i < 7
     ·exact absurd (ao hc i ca) (by simp [hf])
     ·exfalso
      rw [Array.getElem?_eq_none (by simp; omega)] at ho;cases ho
   obtain rfl:=aL h7;have ac:=hB.size
   match i,ho,hf,I with
   | 0,ho,hf,I=>
    obtain rfl:=Option.some.inj ho;refine wpOp_step rfl (fun K' hK=>?_);go_simp;refine hK _ _ ?_;exact ⟨v6,(.slice Ag xs.length p2),a7,a8,a9,ab,a1,M,g,bl,_,rfl,hB,fun _=>rfl,U,e2,e3,e4,e5,e6,dd,fun _=>rfl,Φ h7,Φ h7⟩
   | 1,ho,hf,I=>
    obtain rfl:=Option.some.inj ho;simp [Region.binds] at I;have g0:=e0 I;subst g0;have d5:=HA.out.trans (hB.mono HA.out.size);have q:=EN xs _ b1 J (ak.below HX.out d5) (by omega) (fun a ha=>τ (d2.out a ha) (by omega));refine wpOp_step rfl (fun K' hK=>?_);go_simp;refine q.mono ?_;rintro e w3 ⟨bp,v3,b3,rfl,h3,cb⟩;obtain ⟨A3,q3,rfl,_⟩:=aj h3;refine hK _ _ ?_;exact ⟨v6,_,(.slice A3 xs.length q3),a8,a9,ab,a1,M,g,b3,_,rfl,hB.trans (bp.mono ac),fun _=>rfl,fun _=>⟨⟨_,_,rfl⟩,h3,fun c hc=>τ ac (cb c hc)⟩,e2,e3,fun h=>⟨(e4 h).1,(e4 h).2.1,(bp.block _ (ψ (e4 h).2.2)).trans (e4 h).2.2⟩,fun h=>absurd ((e5 h).2.1.symm.trans hf) (by decide),fun h=>⟨(e6 h).1,(e6 h).2.1,(bp.block _ (ψ (e6 h).2.2)).trans (e6 h).2.2⟩,fun h=>⟨fun _ hc=>by have:=cb _ hc; have:=ψ (e6 h).2.2; omega,(dd h).2⟩,fun _=>rfl,Φ h7,Φ h7⟩
   | 2,ho,hf,I=>
    obtain rfl:=Option.some.inj ho;refine wpOp_step rfl (fun K' hK=>?_);go_simp;refine hK _ _ ?_;exact ⟨v6,a6,a7,(.slice Ag xs.length p2),a9,ab,a1,M,g,bl,_,rfl,hB,e0,U,fun _=>rfl,e3,e4,e5,e6,dd,fun _=>rfl,Φ h7,Φ h7⟩
   | 3,ho,hf,I=>
    obtain rfl:=Option.some.inj ho;simp [Region.binds] at I;have g2:=e2 I;subst g2;refine wpOp_step rfl (fun K' hK=>?_);go_simp;refine hK _ _ ?_;exact ⟨v6,a6,a7,_,(.int .i64 xs.length),ab,a1,M,g,bl,_,rfl,hB,e0,U,fun _=>rfl,fun _=>rfl,e4,e5,e6,dd,fun _=>rfl,Φ h7,Φ h7⟩
   | 4,ho,hf,I=>
    obtain rfl:=Option.some.inj ho;simp [Region.binds] at I;have g3:=e3 I;subst g3;have aq:Below J.heap.size J (J.alloc (.cells (madeCells #[.int .i64 0] xs.length) 3)):=ζ;refine wpOp_step rfl (fun K' hK=>?_);go_simp;refine hK _ _ ?_;exact ⟨v6,a6,a7,a8,_,(.slice (some ⟨J.heap.size,0,none⟩) xs.length xs.length),a1,M,J.heap.size,bl,_,rfl,hB.alloc ac _,e0,fun h=>⟨(U h).1,ak.below (U h).2.1 aq,(U h).2.2⟩,e2,fun _=>rfl,fun _=>⟨rfl,ac,ω J _⟩,fun h=>absurd ((e5 h).2.2.symm.trans hf) (by decide),fun h=>⟨(e6 h).1,(e6 h).2.1,(aq.block _ (ψ (e6 h).2.2)).trans (e6 h).2.2⟩,fun h=>⟨(dd h).1,fun _ e=>by have:=ψ (e6 h).2.2; omega⟩,fun _=>rfl,Φ h7,Φ h7⟩
   | 5,ho,hf,I=>
    obtain rfl:=Option.some.inj ho;simp [Region.binds] at I;obtain ⟨f1,f4⟩:=I;obtain ⟨⟨A3,q3,rfl⟩,_⟩:=U f1;have g4:=(e4 f4).1;subst g4;refine wpOp_step rfl (fun K' hK=>?_);go_simp;refine hK _ _ ?_;exact ⟨v6,a6,_,a8,a9,_,_,M,g,bl,_,rfl,hB,e0,U,e2,e3,fun _=>⟨rfl,(e4 f4).2⟩,fun _=>⟨rfl,f1,f4⟩,e6,dd,fun _=>rfl,Φ h7,Φ h7⟩
   | 6,ho,hf,I=>
    obtain rfl:=Option.some.inj ho;have aq:Below J.heap.size J (J.alloc (.cells #[.slice none 0 0,.slice none 0 0] 96)):=ζ;refine wpOp_step rfl (fun K' hK=>?_);go_simp;refine hK _ _ ?_;exact ⟨(.pointer (some ⟨J.heap.size,0,none⟩)),a6,a7,a8,a9,ab,a1,J.heap.size,g,bl,_,rfl,hB.alloc ac _,e0,fun h=>⟨(U h).1,ak.below (U h).2.1 aq,(U h).2.2⟩,e2,e3,fun h=>⟨(e4 h).1,(e4 h).2.1,(aq.block _ (ψ (e4 h).2.2)).trans (e4 h).2.2⟩,e5,fun _=>⟨rfl,ac,ω J _⟩,fun _=>⟨fun h hc=>by have:=ak.lt (U h).2.1 _ hc; omega,fun h e=>by have:=ψ (e4 h).2.2; omega⟩,fun _=>rfl,Φ h7,Φ h7⟩
   | q+7,ho,hf,I=>
    rw [Array.getElem?_eq_none (by simp; omega)] at ho;cases ho
 case hd=>
  intro f aa w3 hf hJ;obtain ⟨v6,a6,a7,a8,a9,ab,a1,M,g,bl,J,rfl,hB,e0,U,e2,e3,e4,e5,e6,dd,aL,bo,ao⟩:=hJ;obtain rfl:=bo (hf 7 (by simp));obtain rfl:=(e6 (hf 6 (by simp))).1;obtain rfl:=(e4 (hf 4 (by simp))).1;obtain ⟨⟨A3,q3,rfl⟩,cc,cd⟩:=U (hf 1 (by simp));have a2:=(e6 (hf 6 (by simp))).2.2;have aM:=(e6 (hf 6 (by simp))).2.1;have ce:=(e4 (hf 4 (by simp))).2.2;have bq:=(dd (hf 6 (by simp))).1 (hf 1 (by simp));have br:=(dd (hf 6 (by simp))).2 (hf 4 (by simp));obtain ⟨bz,cg,aR⟩:=SV xs.length ce (by unfold maxLen; omega);have bi:=dw (o:=1) (u:=.slice (some ⟨g,0,none⟩) xs.length xs.length) (dw (o:=0) (u:=.slice A3 xs.length q3) a2);have b2:∀ c,c ≠ M→((J.setCell ⟨M,0,none⟩ (.slice A3 xs.length q3)).setCell ⟨M,1,none⟩ (.slice (some ⟨g,0,none⟩) xs.length xs.length)).heap[c]? = J.heap[c]?:=fun c hc=>by rw [π _ _ _ _ hc,π _ _ _ _ hc]
  have ci:w.heap.size < w0.heap.size:=ψ HN.out;have b4:(List.replicate xs.length 0).length=xs.length:=List.length_replicate ..
  have cj:sK ((J.setCell ⟨M,0,none⟩ (.slice A3 xs.length q3)).setCell ⟨M,1,none⟩ (.slice (some ⟨g,0,none⟩) xs.length xs.length)) [.slice A3 xs.length q3,.slice (some ⟨g,0,none⟩) xs.length xs.length] (xs,List.replicate xs.length 0) (bl ++ bz):=
   ⟨_,g,0,xs.length,bl,bz,by rw [b4],rfl,ak.keep cc fun c hc=>b2 c fun e=>bq (e ▸ hc),by rw [b4]; exact dW.keep cg fun c hc=>b2 c fun e=>br ((aR c hc).symm.trans e),b4⟩
  have bt:=((HA.out.trans (hB.mono HA.out.size)).setCell (p:=⟨M,0,none⟩) (τ HA.out.size aM) (.slice A3 xs.length q3)).setCell (p:=⟨M,1,none⟩) (τ HA.out.size aM) (.slice (some ⟨g,0,none⟩) xs.length xs.length)
  have ck:((J.setCell ⟨M,0,none⟩ (.slice A3 xs.length q3)).setCell ⟨M,1,none⟩ (.slice (some ⟨g,0,none⟩) xs.length xs.length)).heap[w.heap.size]? = some (.cells #[.slice none 0 0,.slice none 0 0] 96 (0,0)):=by
   rw [b2 _ (by omega),hB.block _ ci];exact HN.out
  have cl:∀ c ∈ bl ++ bz,c ≠ M∧c ≠ w.heap.size:=fun c hc=>⟨(μ.1 hc).elim (fun h e=>bq (e ▸ h)) fun h e=>br ((aR c h).symm.trans e),(μ.1 hc).elim (fun h e=>by have:=cd c h; omega) fun h e=>by have:=aR c h; have:=(e4 (hf 4 (by simp))).2.1; omega⟩
  have cn:((J.setCell ⟨M,0,none⟩ (.slice A3 xs.length q3)).setCell ⟨M,1,none⟩ (.slice (some ⟨g,0,none⟩) xs.length xs.length)).heap[M]? = some (.cells #[.slice A3 xs.length q3,.slice (some ⟨g,0,none⟩) xs.length xs.length] 96 (0,0)):=by simpa using bi
  have q5:=zi rs _ b0 _ (aU.below HR.out bt) hm hok;have co:=η cj;have bu:=η bt;have bv:=η ck;have b8:=η cn;have cp:=η cl;have d6:=η (τ HA.out.size aM);have d7:Hid (w.heap.size ≠ M):=η (by omega);clear e0 U e2 e3 e4 e5 e6 dd aL bo ao a2 aM ce bq br cg aR bi b2 cj bt ck cl cn cc cd hB b4 ci hf HN HA d3;generalize (J.setCell ⟨M,0,none⟩ (.slice A3 xs.length q3)).setCell ⟨M,1,none⟩ (.slice (some ⟨g,0,none⟩) xs.length xs.length)=w4 at *
  go_wp2_with fail
  refine q5.mono ?_;rintro e w5 ⟨ar,rfl,bw,d8⟩;have bx:(aA rs).length=rs.length:=bw.len;obtain ⟨b5,bA,_,cq⟩:=uN bw.blk (by unfold maxLen; omega);rw [bx] at bA
  have cr:Hid (RInv w w.heap.size M (.slice A3 xs.length q3) (.slice (some ⟨g,0,none⟩) xs.length xs.length) (xs,List.replicate xs.length 0) (bl ++ bz) (aA rs) (.slice (some ⟨w4.heap.size,0,none⟩) rs.length rs.length) b5 w5):=η
   ⟨by rw [ar.block _ (ψ bv.out)]; exact bv.out,by rw [ar.block _ (ψ b8.out)]; exact b8.out,qy.below co.out ar,cp.out,bu.out.trans (ar.mono bu.out.size),d6.out,d7.out,bA,fun c hc e=>by have:=cq c hc; have:=ψ b8.out; omega⟩
  have d9:=η bx;clear q5 ar bw d8 bA cq bx bv b8 co cp bu
  go_wp2_with fail
  go_loopw [8,9,10,11,12] (fun nn i _ _ _ wr=>∃ (k n:Nat) (r:Rd) (s t:Value) (bs:List Nat),k≤rs.length+1∧i=.int .i64 k∧nn=.int .i64 n∧Hid (iO rs xs=D8 rs (aA rs) (rs.length+1 - k) 302 r n)∧qG r∧r.1.length≤300∧n≤r.1.length∧Hid (RInv w w.heap.size M s t r bs (aA rs) (.slice (some ⟨w4.heap.size,0,none⟩) rs.length rs.length) b5 wr)) (fun _ i _ _ _ _=>rs.length+1 - (intOf i).toNat)
  case atStart=>exact ⟨0,0,(xs,List.replicate xs.length 0),_,_,_,ε,rfl,rfl,η rfl,⟨c8,List.length_replicate ..⟩,hn,ε,cr⟩
  case round=>
   obtain ⟨k,n,r,s,t,bs,hk,rfl,rfl,a3,ae,av,bB,hI⟩:=hrel;clear cr;obtain ⟨Az,pz,bE,oz,cz,cu,da,rfl,rfl,rfl,aw,b9,a4⟩:=pY hI.out.rd;have bj:=η ae;clear a4 ae;by_cases ca:k≤rs.length
   ·have ee:(0:Int)≤(k:Int):=by omega
    have db:(k:Int)≤(rs.length:Int):=by omega
    generalize wr=wo at *
    go_wp2_with fail
    go_loopw [8,10,11,12] (fun nn _ _ _ wr=>∃ (fuel n:Nat) (r:Rd) (s t:Value) (bs:List Nat),nn=.int .i64 n∧Hid (iO rs xs=D8 rs (aA rs) (rs.length+1 - k) fuel r n)∧qG r∧r.1.length≤300∧n≤r.1.length∧302≤fuel+r.1.length∧Hid (RInv w w.heap.size M s t r bs (aA rs) (.slice (some ⟨w4.heap.size,0,none⟩) rs.length rs.length) b5 wr)) (fun _ _ _ _ wr=>400 - Bh M wr)
    case atStart=>exact ⟨302,n,r,_,_,_,rfl,a3,bj.out,av,bB,by omega,hI⟩
    case round=>
     clear a3 av bB hI aw b9 bj;obtain ⟨fuel,n,r,s,t,bs,rfl,a3,ae,av,bB,eg,hI⟩:=hrel;obtain ⟨Az,pz,bE,oz,cz,cu,da,rfl,rfl,rfl,aw,b9,a4⟩:=pY hI.out.rd;obtain ⟨fu,rfl⟩:∃ fu,fuel=fu+1:=⟨fuel - 1,by omega⟩
     have cv:Hid (iO rs xs=if 300 < (gq rs (aA rs) k r (n+1)).1.length then (gq rs (aA rs) k r (n+1),false)
       else if (gq rs (aA rs) k r (n+1)).1.length=r.1.length then D8 rs (aA rs) (rs.length - k) 302 (gq rs (aA rs) k r (n+1)) n
       else D8 rs (aA rs) (rs.length+1 - k) fu (gq rs (aA rs) k r (n+1)) (n+1)):=η (by
      rw [a3.out,show rs.length+1 - k=(rs.length - k)+1 by omega]
      rw [D8,show rs.length - (rs.length - k)=k by omega])
     have dc:=η hI.out.Bh;have de:=η ae;have m0:wr.cell? ⟨M,0,none⟩=some (.slice Az r.1.length pz):=ai hI.out.m_;have q6:=Vm rs (aA rs) k r.1 _ _ _ b0 b5 cu wr (aU.below HR.out hI.out.bel) hI.out.lv_ aw d9.out ae.gB av hm HB.out
     have dg:Hid ((jo r.1 k (rs.zip (aA rs))).length≤64800000000):=η (by
      refine τ (PI (B:=8100000000) (fun p hp=>Np av (HB.out _ (List.of_mem_zip hp).1).1)) ?_;rw [List.length_zip]
      omega)
     have di:n≤300:=by omega
     clear a3 aw b9 a4 ae
     go_wp2_with fail
     refine q6.mono ?_;rintro e w6 ⟨cw,v6,b6,rfl,h6,cx⟩;obtain ⟨A6,p6,rfl,_,_⟩:=aj h6;have cA:=η (hI.out.below cw);have H6:=η h6
     have cB:Hid (∀ c ∈ b6,c ≠ M∧c ≠ w.heap.size):=η fun c hc=>by
      have h1:=cx c hc;have h2:=ψ hI.out.m_;have h3:=ψ hI.out.n_;omega
     have dj:Hid (jo r.1 k (rs.zip (aA rs))=jo r.1 k (rs.zip (aA rs))):=η rfl;have cD:Hid (gq rs (aA rs) k r (n+1)=jB (jo r.1 k (rs.zip (aA rs))) (n+1) r):=η rfl;generalize jo r.1 k (rs.zip (aA rs))=more at *;clear q6 h6 cx cw hI m0 dj
     go_wp2_with fail
     go_loopw [12] (fun i wr=>∃ (q:Nat) (y:Rd) (s' t':Value) (bs':List Nat),q≤more.length∧i=.int .i64 q∧Hid (y=jB (more.take q) (n+1) r)∧qG y∧y.1.length≤r.1.length+q∧r.1.length≤y.1.length∧Hid (RInv w w.heap.size M s' t' y bs' (aA rs) (.slice (some ⟨w4.heap.size,0,none⟩) rs.length rs.length) b5 wr)∧Hid (ay wr [.slice A6 more.length p6] more b6)) (fun i _=>more.length - (intOf i).toNat)
     case atStart=>exact ⟨0,r,_,_,_,ε,rfl,η rfl,de.out,ν,ν,cA,H6⟩
     case round=>
      obtain ⟨q,y,s',t',bs',hq,rfl,bc,bk,dk,dl,hJ,af⟩:=hrel;clear cA H6;obtain ⟨Ay,py,bf,oy,cy,dp,ds,rfl,rfl,rfl,bL,bO,az⟩:=pY hJ.out.rd;have dt:=η az;have a5:=η bk;clear az bk;have eh:q≤64800000000:=by have:=dg.out; omega
      have m0:wr.cell? ⟨M,0,none⟩=some (.slice Ay y.1.length py):=ai hJ.out.m_;have m1:wr.cell? ⟨M,1,none⟩=some (.slice (some ⟨bf,oy,none⟩) y.2.length cy):=ai hJ.out.m_;by_cases bR:q < more.length
      ·have ei:(0:Int)≤(q:Int):=by omega
       have du:(q:Int) < (more.length:Int):=by omega
       obtain ⟨mb,mo,Am,cm,bm,rfl,_,e0,U,cE,cG⟩:=eG af.out bR;have cI:=η (Nz more (n+1) r q bR);generalize more[q]=a at *
       go_wp2_with fail
       go_still_tail 6,(by kernel_rfl)
       change wpList _ _ _ _ _ wr.drew;have hD:Below wr.heap.size wr wr.drew:=Below.drew ϑ;have bX:=hJ.out.below hD;have qd:=Vu y.1 y.2 a (n+1) _ _ _ bf oy cy dp ds bm wr.drew (ak.below bL hD) (dW.below bO hD) (au.below cE hD) dt.out a5.out.gB (by omega);have e9:((n+1:Nat):Int)=(n:Int)+1:=by omega
       rw [e9] at qd;have cJ:=ak.below af.out hD;have cK:=η hJ.out.far;have dv:Hid (∀ c ∈ bm,c ≠ M∧c ≠ w.heap.size):=η fun c hc=>cB.out c (cG c hc)
       clear hJ af hD m0 m1 e0 U cE cG bL bO;generalize wr.drew=wd at *
       go_wp2_with fail
       refine qd.mono ?_;rintro e w7 ⟨c3,x0,x1,b7,rfl,h7,cL⟩;have ag:=bX.below c3;have cP:=ak.below cJ c3;have ej:=ψ bX.m_;have ek:=ψ bX.n_
       have aD:∀ c ∈ b7,c ≠ M∧c ≠ w.heap.size:=fun c hc=>by
        rcases cL c hc with h | h
        ·rcases μ.1 h with h | h
         ·exact cK.out c h
         ·exact dv.out c h
        ·omega
       obtain ⟨A7,p7,dx,o7,c7,el,em,rfl,rfl,rfl,-,-,-⟩:=pY h7;have cQ:=η (ag.set h7 aD)
       have dy:=η (ak.keep (w':=(w7.setCell ⟨M,0,none⟩ (.slice A7 (iM (y.1,y.2) a (n+1)).1.length p7)).setCell ⟨M,1,none⟩ (.slice (some ⟨dx,o7,none⟩) (iM (y.1,y.2) a (n+1)).2.length c7)) cP fun c hc=>by
        have:=(cB.out c hc).1
        rw [π _ _ _ _ this,π _ _ _ _ this])
       have y0:w7.frozen? ⟨M,0,none⟩=false:=ax ag.m_;have y1:w7.frozen? ⟨M,1,none⟩=false:=ax ag.m_;have y2:w7.cell? ⟨M,0,none⟩=some (.slice Ay y.1.length py):=ai ag.m_;have y3:w7.cell? ⟨M,1,none⟩=some (.slice (some ⟨bf,oy,none⟩) y.2.length cy):=ai ag.m_;have c4:=η (NC (y.1,y.2) a (n+1));have cT:=a5.out.put a (n+1);have dz:Hid (iM (y.1,y.2) a (n+1)=jB (more.take (q+1)) (n+1) r):=η (by rw [cI.out,← bc.out]);have dC:(iM (y.1,y.2) a (n+1)).1.length≤r.1.length+(q+1):=by have h1:y.1.length≤r.1.length+q:=dk; have h2:=c4.out.2; exact τ h2 (by show y.1.length+1≤_; omega)
       have dE:r.1.length≤(iM (y.1,y.2) a (n+1)).1.length:=τ dl c4.out.1;clear qd h7 cL c3 ag cP aD cI bc c4;have bn:qG (iM (y.1,y.2) a (n+1)):=cT;have cU:=η bn;clear cT bn;generalize iM (y.1,y.2) a (n+1)=rn at *;go_wp2;go_roundw
       case rel=>exact ⟨q+1,rn,_,_,_,bR,by go_num,dz,cU.out,dC,dE,cQ,dy⟩
       case measure=>simp [intOf]; omega
      ·have he:q=more.length:=by omega
       have du:¬ (q:Int) < (more.length:Int):=by omega
       have cV:Hid (gq rs (aA rs) k r (n+1)=y):=η (by rw [cD.out,bc.out,he,ϕ ν]);have am:Hid (iO rs xs=if 300 < y.1.length then (y,false) else if y.1.length=r.1.length then D8 rs (aA rs) (rs.length - k) 302 y n else D8 rs (aA rs) (rs.length+1 - k) fu y (n+1)):=η (by rw [cv.out,cV.out]);clear bc cv cD cV bL bO he;by_cases aE:300 < y.1.length
       ·have HG:Hid (iO rs xs=(y,false)):=η (by rw [am.out,if_pos aE])
        have c5:(300:Int) < (y.1.length:Int):=by omega
        have n0:wr.cell? ⟨w.heap.size,0,none⟩=some (.slice none 0 0):=ai hJ.out.n_;have n1:wr.cell? ⟨w.heap.size,1,none⟩=some (.slice none 0 0):=ai hJ.out.n_;have n2:wr.frozen? ⟨w.heap.size,0,none⟩=false:=ax hJ.out.n_;have n3:wr.frozen? ⟨w.heap.size,1,none⟩=false:=ax hJ.out.n_;have a0:=η (hJ.out.fin ν);have z0:=a0.out.1;have z1:=a0.out.2.1;clear hJ am af;go_wp2;exact bodyPost_ret (v:=.tuple #[.agg #[.slice Ay y.1.length py,.slice (some ⟨bf,oy,none⟩) y.2.length cy],.bool false]) (by simp [results,Tryz.results56,go_sem,z0,z1]) rfl ⟨a0.out.2.2.1,_,_,by rw [HG.out],_,by rw [HG.out]; exact a0.out.2.2.2⟩
       ·have c5:¬ (300:Int) < (y.1.length:Int):=by omega
        by_cases bg:y.1.length=r.1.length
        ·have HG:Hid (iO rs xs=D8 rs (aA rs) (rs.length+1 - (k+1)) 302 y n):=η (by rw [am.out,if_neg aE,if_pos bg,show rs.length+1 - (k+1)=rs.length - k by omega])
         have cW:(y.1.length:Int)=(r.1.length:Int):=by omega
         have c6:Hid (n≤y.1.length):=η (by omega);have bh:Hid (y.1.length≤300):=η (by omega);clear am af bg;go_wp2;go_roundw
         case rel=>exact ⟨k+1,n,y,_,_,_,by omega,by go_num,by go_num,HG,a5.out,bh.out,c6.out,hJ⟩
         case measure=>simp [intOf]; omega
        ·have HG:Hid (iO rs xs=D8 rs (aA rs) (rs.length+1 - k) fu y (n+1)):=η (by rw [am.out,if_neg aE,if_neg bg])
         have cW:¬ (y.1.length:Int)=(r.1.length:Int):=by omega
         have c6:Hid (n+1≤y.1.length):=η (by omega);have bh:Hid (y.1.length≤300):=η (by omega);have dT:Hid (302≤fu+y.1.length):=η (by omega);have e7:=η hJ.out.Bh;have e8:Hid (r.1.length < y.1.length):=η (by omega);clear am af bg;go_wp2;go_roundw
         case rel=>exact ⟨fu,n+1,y,_,_,_,by go_num,HG,a5.out,bh.out,c6.out,dT.out,hJ⟩
         case measure=>rw [dc.out,e7.out]; have:=e8.out; have:=bh.out; omega
   ·have he:k=rs.length+1:=by omega
    have db:¬ (k:Int)≤(rs.length:Int):=by omega
    have HG:Hid (iO rs xs=(r,true)):=η (by
     rw [a3.out,he,Nat.sub_self];unfold D8
     rfl)
    have m0:wr.cell? ⟨M,0,none⟩=some (.slice Az r.1.length pz):=ai hI.out.m_;have m1:wr.cell? ⟨M,1,none⟩=some (.slice (some ⟨bE,oz,none⟩) r.2.length cz):=ai hI.out.m_;have n0:wr.cell? ⟨w.heap.size,0,none⟩=some (.slice none 0 0):=ai hI.out.n_;have n1:wr.cell? ⟨w.heap.size,1,none⟩=some (.slice none 0 0):=ai hI.out.n_;have n2:wr.frozen? ⟨w.heap.size,0,none⟩=false:=ax hI.out.n_;have n3:wr.frozen? ⟨w.heap.size,1,none⟩=false:=ax hI.out.n_;have a0:=η (hI.out.fin ν);have z0:=a0.out.1;have z1:=a0.out.2.1;clear hI aw b9 a3 he;go_wp2;exact bodyPost_ret (v:=.tuple #[.agg #[.slice Az r.1.length pz,.slice (some ⟨bE,oz,none⟩) r.2.length cz],.bool true]) (by simp [results,Tryz.results56,go_sem,z0,z1]) rfl ⟨a0.out.2.2.1,_,_,by rw [HG.out],_,by rw [HG.out]; exact a0.out.2.2.2⟩
end
end Go.Proofs.YtkjinanbccloeaaGreatDoor
