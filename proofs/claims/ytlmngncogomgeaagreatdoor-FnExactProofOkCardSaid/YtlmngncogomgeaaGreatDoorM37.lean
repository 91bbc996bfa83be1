/- Of the proof of FnExactProofOk: StoQ, FolQ, RunP3, StoI, FolR, je. -/
import Derived.Test.YtlmngncogomgeaaGreatDoorM34
import Derived.Test.YtlmngncogomgeaaGreatDoorM36
set_option linter.unusedVariables false
set_option maxHeartbeats 4000000
set_option maxRecDepth 100000
namespace Go.Proofs.YtlmngncogomgeaaGreatDoor
section
open Go.RowKit Go.ChangeMaps Go.MapKept D
def D.yT (fs:List A):List (Value × Value):=fs.zipIdx.map fun p=>(.string (dM p.1),.int .i64 (p.2:Nat))
theorem D.EL (fs:List A) (a:A):yT (fs ++ [a])=yT fs ++ [(.string (dM a),.int .i64 (fs.length:Nat))]:=by
 unfold yT;rw [List.zipIdx_append,List.map_append];simp
theorem D.xU {fs:List A} {p:Value × Value}:p ∈ yT fs ↔ ∃ i,∃ h:i < fs.length,p=(.string (dM fs[i]),.int .i64 (i:Nat)):=by
 unfold yT;rw [List.mem_map];constructor
 ·rintro ⟨q,hq,rfl⟩
  obtain ⟨a,i⟩:=q;obtain ⟨h1,y,I⟩:=List.mem_zipIdx hq;simp at y I;exact ⟨i,y,by rw [← I]⟩
 ·rintro ⟨i,h,rfl⟩
  exact ⟨(fs[i],i),by rw [List.mem_zipIdx_iff_getElem?]; simp [h],rfl⟩
theorem D.SB {w:World} {U:Option Addr} {n c:Nat} {xs:List Nat} {b:List Nat} (h:jf w [.slice U n c] xs b):∀ x ∈ b,(Value.slice U n c).ownBlock=some x:=by
 obtain ⟨a0,cap,he,_,_,h0,h1⟩:=h;simp only [List.cons.injEq,Value.slice.injEq,and_true] at he;obtain ⟨rfl,rfl,rfl⟩:=he;intro x y;by_cases I:xs = []
 ·rw [h0 I] at y; simp at y
 ·obtain ⟨b0,o,rfl,F,G,rfl,h3⟩:=h1 I
  rcases ύ.1 y with rfl | y
  ·rfl
  ·obtain ⟨k,hk,J⟩:=List.mem_flatMap.1 y
   have hk:=List.mem_range.1 hk;obtain ⟨_,_,h5⟩:=h3 k _ (Ψ hk);rw [h5.2] at J;simp at J
theorem D.kD.view {B sb mu mp:Nat} {Af:Option Addr} {nf cf:Nat} {Lf:List Value} {fs:List A} {bf:List Nat} {Ar:Option Addr} {nr cr:Nat} {Lr:List Value} {rn:List Nat} {ou:List Nat} {w:World} (h:kD B sb mu mp Af nf cf Lf fs bf Ar nr cr Lr rn (yT fs) (idxs fs) ou w) (B0:Nat) (J:B0≤sb∧B0≤mu∧B0≤mp∧B0≤B):
  ∃ bs,jO sb fs rn bs w∧∀ x ∈ bs,B0≤x∨x ∈ bf:=by
 obtain ⟨l1,l2,l3,_⟩:=h.lo;have hs:=h.oH;have U:=h.ef;have a0:=h.er;subst U a0;obtain ⟨b2,hF,a1⟩:=h.cF.slice;obtain ⟨b3,hR,a2⟩:=h.cR.slice;obtain ⟨rows,c,g1,g2,g3⟩:=h.un.ex;refine ⟨sb :: mu :: mp :: (b2 ++ b3 ++ ou),⟨⟨Af,cf,Ar,cr,mu,mp,b2,b3,(rows.map Jt).map (fun p=>(p.1,p.2.1)),yT fs,h.blk,hF,hR,g1.VY,h.pl,fun k=>?_,fun s=>?_,fun p hp=>?_,by simp,by simp,fun b I=>by simp [I],fun b I=>by simp [I]⟩,by simp,fun x y=>?_⟩,fun x y=>?_⟩
 ·by_cases hex:∃ r ∈ rows,r.k=k
  ·obtain ⟨r,hr,rfl⟩:=hex
   obtain ⟨b,I,_⟩:=(g2.coll r hr).slice;obtain ⟨Ad,cap,hv,_⟩:=ai I;refine .inl ⟨r.v,b,List.mem_map.2 ⟨Jt r,List.mem_map.2 ⟨r,hr,rfl⟩,rfl⟩,I,fun x y=>?_⟩;rw [hv] at I;have:=g2.own r hr x (by rw [hv]; exact SB I x y);simp [this]
  ·refine .inr ⟨fun p hp e=>?_,g3 k fun r hr e=>hex ⟨r,hr,e⟩⟩
   obtain ⟨q,hq,rfl⟩:=List.mem_map.1 hp;obtain ⟨r,hr,rfl⟩:=List.mem_map.1 hq;exact hex ⟨r,hr,F5 e⟩
 ·constructor
  ·rintro ⟨i,hi⟩
   obtain ⟨j,hj,e⟩:=xU.1 hi;simp at e;exact List.mem_map.2 ⟨fs[j],δ hj,e.1.symm⟩
  ·intro hm
   obtain ⟨f,hf,rfl⟩:=List.mem_map.1 hm;obtain ⟨j,hj,rfl⟩:=List.getElem_of_mem hf;exact ⟨j,xU.2 ⟨j,hj,rfl⟩⟩
 ·obtain ⟨i,hi,rfl⟩:=xU.1 hp
  exact ⟨i,rfl⟩
 ·simp only [ύ,μ] at y
  rcases y with rfl | rfl | rfl | (y | y) | y
  ·omega
  ·omega
  ·omega
  ·exact au.lt hF x y
  ·exact dG.lt hR x y
  ·exact (h.ous x y).2
 ·simp only [ύ,μ] at y
  rcases y with rfl | rfl | rfl | (y | y) | y
  ·exact .inl J.1
  ·exact .inl J.2.1
  ·exact .inl J.2.2.1
  ·exact (a1 x y).imp (fun h=>by omega) id
  ·rcases a2 x y with h | h
   ·exact .inl (by omega)
   ·simp at h
  ·have:=(h.ous x y).1; exact .inl (by omega)
theorem D.JK {fs:List A} (hf:∀ f ∈ fs,aT f) {a:A} (ha:aT a) (y:a ∉ fs):∀ p ∈ yT fs,p.1 ≠ .string (dM a):=fun p I e=>by
 obtain ⟨i,hi,rfl⟩:=xU.1 I;simp at e;exact y (yQ (hf _ (δ hi)).ok ha.ok e ▸ δ hi)
end
section
open Go.RowKit D
def D.kE (fs:List A) (r:Ru) (t:A):Prop:=∃ σ:Wo,t=gm σ r.head∧(∀ p ∈ r.body,p.no=false→gm σ p.atom ∈ fs)∧∀ p ∈ r.body,p.no=true→gm σ p.atom ∉ fs
structure D.jr (r:Ru):Prop where
 hok:aZ r.head=true
 pok:∀ p ∈ r.body,aZ p.atom=true
 few:r.body.length≤4
 tight:Q9 r
theorem D.oZ {body:List Pt} {a:A}:a ∈ bW body ↔ ∃ p ∈ body,p.no=false∧p.atom=a:=by
 unfold bW;rw [List.mem_map];constructor
 ·rintro ⟨p,I,rfl⟩
  obtain ⟨h1,y⟩:=List.mem_filter.1 I;exact ⟨p,h1,by simpa using y,rfl⟩
 ·rintro ⟨p,h1,y,rfl⟩
  exact ⟨p,List.mem_filter.2 ⟨h1,by simpa using y⟩,rfl⟩
theorem D.o6 {body:List Pt} {a:A}:a ∈ bH body ↔ ∃ p ∈ body,p.no=true∧p.atom=a:=by
 unfold bH;rw [List.mem_map];constructor
 ·rintro ⟨p,I,rfl⟩
  obtain ⟨h1,y⟩:=List.mem_filter.1 I;exact ⟨p,h1,y,rfl⟩
 ·rintro ⟨p,h1,y,rfl⟩
  exact ⟨p,List.mem_filter.2 ⟨h1,y⟩,rfl⟩
theorem D.EM:∀ (l:List Pt),(∀ p ∈ l,aZ p.atom=true)→dh (fun p:Pt=>p.atom.args.length) l≤l.length * 3
 | [],_=>ε
 | p :: l,h=>by
  have h1:=EM l fun q hq=>h q (Δ _ hq)
  have I:=jo (h p Γ);have y:dh (fun p:Pt=>p.atom.args.length) (p :: l)=p.atom.args.length+dh (fun p:Pt=>p.atom.args.length) l:=by simp [dh]
  rw [y,List.length_cons,Nat.add_mul];omega
theorem D.Gw {r:Ru} (R:jr r):ji (ax r.body):=by
 refine ⟨?_,uY (kX r.body qU)⟩;have h1:=mO r.body [];have y:=EM r.body R.pok;have I:=R.few;show (dU r.body []).length≤12;simp at h1;omega
theorem D.NI {ps:List Pt}:∀ p ∈ ps,∀ t ∈ p.atom.args,t.var=true→t.name ∈ ax ps:=fun p I t J y=>(gu ps [] _).2 (.inr ⟨p,I,t,J,y,rfl⟩)
theorem D.AO {fs:List A} {r:Ru} (R:jr r) (J:∀ f ∈ fs,aT f) (U:fs.length≤1000000) {wt:Nat→Bool} (a0:∀ i,i < 12→wt i=Gv (ax r.body) r.head (bH r.body) i):
  qA (ax r.body) fs (bW r.body) (bH r.body) r.head wt:=by
 have hf:=R.few;have l1:(bW r.body).length≤r.body.length:=by unfold bW; rw [List.length_map]; exact List.length_filter_le _ _
 have l2:(bH r.body).length≤r.body.length:=by unfold bH; rw [List.length_map]; exact List.length_filter_le _ _
 refine ⟨Gw R,by omega,U,by omega,J,fun p y=>?_,fun n I=>?_,R.hok,fun p y=>?_,fun n I=>?_,fun t ht a1=>?_,a0,fun b hb=>?_⟩
 ·obtain ⟨q,h1,_,rfl⟩:=oZ.1 y; exact R.pok q h1
 ·obtain ⟨q,h1,_,rfl⟩:=o6.1 I; exact R.pok q h1
 ·obtain ⟨q,h1,_,rfl⟩:=oZ.1 y; exact NI q h1
 ·obtain ⟨q,h1,_,rfl⟩:=o6.1 I; exact NI q h1
 ·obtain ⟨p,y,_,hv⟩:=R.tight t.name (.inl ⟨t,ht,a1,rfl⟩)
  exact (gu r.body [] _).2 (.inr ⟨p,y,hv⟩)
 ·obtain ⟨h1,h2⟩:=Ep R.tight (b:=b) fun p y I=>hb _ (oZ.2 ⟨p,y,I,rfl⟩)
  exact ⟨h1,fun n I=>by obtain ⟨q,h3,_,rfl⟩:=o6.1 I; exact h2 q h3⟩
theorem D.SC {fs:List A} {r:Ru} (R:jr r) {ts:List A} (h1:∀ t ∈ ts,∃ σ,sZ fs (bW r.body) (bH r.body) [] (2 ^ (bW r.body).length - 1) σ∧gm σ r.head=t)
  (h2:∀ σ,sZ fs (bW r.body) (bH r.body) [] (2 ^ (bW r.body).length - 1) σ→gm σ r.head ∈ ts) (t:A):t ∈ ts ↔ kE fs r t:=by
 constructor
 ·intro h
  obtain ⟨σ,⟨_,U,g3⟩,rfl⟩:=h1 t h;refine ⟨σ,rfl,fun p y I=>?_,fun p y I=>g3 _ (o6.2 ⟨p,y,I,rfl⟩)⟩;obtain ⟨j,J,e⟩:=List.getElem_of_mem (oZ.2 ⟨p,y,I,rfl⟩);rw [← e];exact U j J (by rw [Nat.testBit_two_pow_sub_one]; simpa using J)
 ·rintro ⟨σ,rfl,g1,U⟩
  refine h2 σ ⟨fun n v h=>by simp [eY] at h,fun j J _=>?_,fun n I=>?_⟩
  ·obtain ⟨p,y,I,e⟩:=oZ.1 (δ J)
   rw [← e]; exact g1 p y I
  ·obtain ⟨p,y,a0,rfl⟩:=o6.1 I
   exact U p y a0
theorem D.Pg {r:Ru} (R:jr r) {b:Bd} (y:rP b) (hc:wZ b r.head.args):aT (aY r.head b):=sO R.hok y hc
section
variable {vars:List ByteArray} {fs ps ns:List A} {head:A} {wt:Nat→Bool} {K:Nat→Prop} {sk:Nat} {T:Bool→World→List A→Prop} {go:List A→Bool} {b:Bd} {left m:Nat} {L:List Nat} {told ts:List A} {hd more s:Bool} {k:Nat} {w wr w5 w6:World}
def D.rU (vars:List ByteArray) (fs ps ns:List A) (head:A) (K:Nat→Prop) (sk:Nat) (T:Bool→World→List A→Prop) (go:List A→Bool) (b:Bd) (left:Nat) (told:List A) (w:World) (e:Ending) (w':World):Prop:=
 ∃ held more,e=.returned (.tuple #[.bool held,.bool more])∧iO vars fs ps ns head K sk T go b left told held more w w'
theorem D.iO.ret (P:iO vars fs ps ns head K sk T go b left told hd more w w5):rU vars fs ps ns head K sk T go b left told w (.returned (.tuple #[.bool hd,.bool more])) w5:=⟨hd,more,rfl,P⟩
theorem D.iO.bd {b':Bd} {y I:Bool} {J:Nat} {U:List A} (P:iO vars fs ps ns head K sk T go b' J U y I w w6):fQ vars b' sk 18 w6:=by
 obtain ⟨_,_,h,_⟩:=P;exact h
structure D.fU (vars:List ByteArray) (fs ps ns:List A) (head:A) (K:Nat→Prop) (sk:Nat) (T:Bool→World→List A→Prop) (go:List A→Bool) (b:Bd) (left m:Nat) (L:List Nat) (told ts:List A) (hd more:Bool) (k:Nat) (w wr:World):Prop where
 kept:bQ K sk w wr
 at_:fQ vars b sk 18 wr
 st:T more wr (told ++ ts)
 sound:∀ t ∈ ts,∃ σ,sZ fs ps ns b left σ∧gm σ head=t
 whole:more=true→∀ i,i < k→∀ (h:i < L.length) (j:Nat) (hj:j < fs.length),L[i]=j→∀ (hm:m < ps.length) σ,sZ fs ps ns b left σ→gm σ ps[m]=fs[j]→gm σ head ∈ ts
 held:hd=true→ts ≠ []
 nogo:more=false→go (told ++ ts)=false
theorem D.fU.skip (I:fU vars fs ps ns head K sk T go b left m L told ts hd true k w wr) (hk:k < L.length) (hj:L[k] < fs.length) (hm:m < ps.length) (y:(aC ps[m] fs[L[k]] b).2=false)
  (k6:bQ K sk wr w6) (J:fQ vars b sk 18 w6) (U:T true w6 (told ++ ts)):fU vars fs ps ns head K sk T go b left m L told ts hd true (k+1) w w6:=by
 refine ⟨I.kept.trans k6,J,U,I.sound,fun _ i hi h j a0 e a1 σ hσ he=>?_,I.held,fun h=>by cases h⟩
 rcases Nat.lt_succ_iff_lt_or_eq.1 hi with h1 | rfl
 ·exact I.whole rfl i h1 h j a0 e a1 σ hσ he
 ·subst e
  rw [(lV hσ.1 he).1] at y;cases y
theorem D.fU.took (I:fU vars fs ps ns head K sk T go b left m L told ts hd true k w wr) (hl:left < 16) (a1:ps.length≤4) (hk:k < L.length) (hj:L[k] < fs.length) (a2:Gr fs[L[k]]) (hm:m < ps.length) (a0:left.testBit m=true) (a3:(aC ps[m] fs[L[k]] b).2=true)
  {w4:World} {J y:Bool} (P:iO vars fs ps ns head K sk T go (aC ps[m] fs[L[k]] b).1 (left - 2 ^ m) (told ++ ts) J y w4 w5) (k4:bQ K sk wr w4) (k6:bQ K sk w5 w6) (a4:fQ vars b sk 18 w6) (hT:∀ U,T y w5 U→T y w6 U):
  ∃ a5,fU vars fs ps ns head K sk T go b left m L told a5 (hd || J) y (k+1) w w6:=by
 obtain ⟨U,p1,p2,p3,p4,p5,p6,p7⟩:=P;refine ⟨ts ++ U,I.kept.trans (k4.trans (p1.trans k6)),a4,by rw [← List.append_assoc]; exact hT _ p3,fun t ht=>?_,fun a6 i hi h j a7 e a8 σ hσ he=>?_,fun hh=>?_,fun h=>by rw [← List.append_assoc]; exact p7 h⟩
 ·rcases μ.1 ht with ht | ht
  ·exact I.sound t ht
  ·obtain ⟨σ,h1,h2⟩:=p4 t ht
   exact ⟨σ,h1.back hl a1 hm a0 (δ _) a2 a3,h2⟩
 ·rcases Nat.lt_succ_iff_lt_or_eq.1 hi with h1 | rfl
  ·exact Ξ _ (I.whole rfl i h1 h j a7 e a8 σ hσ he)
  ·subst e
   exact Ω _ (p5 a6 σ (hσ.step hl a1 hm a0 he).2)
 ·intro e
  rcases List.append_eq_nil_iff.1 e with ⟨e1,e2⟩
  rcases Bool.or_eq_true_iff.1 hh with h | h
  ·exact I.held h e1
  ·exact p6 h e2
theorem D.fU.drewN {U c7:Addr} (I:fU vars fs ps ns head K sk T go b left m L told ts hd more k w wr) (hT:vS vars head sk K U c7 T go) (hs:sk < w.heap.size) {n:Nat}:fU vars fs ps ns head K sk T go b left m L told ts hd more k w (wr.drewN n):=by
 have J:Below wr.heap.size wr (wr.drewN n):=EG ϑ n;have y:=κ hs I.kept.size;exact ⟨I.kept.trans (bQ.of_below y J),I.at_.keep rfl,hT.keep _ _ _ I.st (cO.of_below J y),I.sound,I.whole,I.held,I.nogo⟩
theorem D.fU.off (I:fU vars fs ps ns head K sk T go b left m L told ts hd false k w wr):iO vars fs ps ns head K sk T go b left told hd false w wr:=
 ⟨ts,I.kept,I.at_,I.st,I.sound,fun h=>absurd h (by decide),I.held,I.nogo⟩
theorem D.fU.brk (hc:wZ b head.args) (I:fU vars fs ps ns head K sk T go b left m L told ts true true k w wr):iO vars fs ps ns head K sk T go b left told true true w wr:=
 ⟨ts,I.kept,I.at_,I.st,I.sound,fun _ σ hσ=>Sl hc I.sound (I.held rfl) σ hσ,I.held,I.nogo⟩
theorem D.fU.fin (E:qA vars fs ps ns head wt) {y:WK} {A9:Option Addr} {c9:Nat} {bs bx:List Nat} {w3:World} (C:vO fs ps b bs left m A9 c9 y bx w3) (hL:L=idxs fs y) (I:fU vars fs ps ns head K sk T go b left m L told ts hd true k w wr) (hk:L.length≤k):
  iO vars fs ps ns head K sk T go b left told hd true w wr:=by
 refine ⟨ts,I.kept,I.at_,I.st,I.sound,fun _ σ hσ=>?_,I.held,I.nogo⟩;have hin:=hσ.2.1 m C.lt C.bit;obtain ⟨j,U,e⟩:=List.getElem_of_mem hin;have a0:=(lV (f:=fs[j]) hσ.1 e.symm).1;have J:=C.key_ (ps[m]'C.lt) (Ψ _) fs[j] (E.fok _ (δ U)).gr a0;have a1:j ∈ L:=by rw [hL]; exact CX.2 ⟨U,J⟩
 obtain ⟨i,hi,e2⟩:=List.getElem_of_mem a1;exact I.whole rfl i (by omega) hi j U e2 C.lt σ hσ e.symm
end
end
section
open Go.RowKit D
attribute [local go_sem ↓] Go.wp_at_zero Go.wp_at_succ
def D.Gx (xs:List A) (J:List Nat) (y:World) (k:Nat) (w:World):Prop:=
 ∃ U cf Lf Ar cr Lr ou I,kD (y.heap.size+3) (y.heap.size+2) y.heap.size (y.heap.size+1) U (xs.take k).length cf Lf (xs.take k) I Ar (List.replicate k 0).length cr Lr (List.replicate k 0) (yT (xs.take k)) (idxs (xs.take k)) ou w∧Below y.heap.size y w∧∀ x ∈ I,x ∈ J
theorem JL (xs:List A) (v:Value) (bx:List Nat) (w:World) (h:aQ w [v] xs bx) (hf:∀ f ∈ xs,aT f) (hn:xs.Pairwise fun a b=>a ≠ b) (hl:xs.length≤1000000):
  Calls Tryz.prog 107 #[v] w fun e w'=>e=.returned (.pointer (some ⟨w.heap.size+2,0,none⟩))∧Gx xs bx w xs.length w':=by
 obtain ⟨Ad,cap,rfl,a4,hm⟩:=ai h;have aE:=ay (τ a4 hm);have hA:Below w.heap.size w (((w.alloc (.map #[] 0)).alloc (.map #[] 0)).alloc (.cells #[.slice none 0 0,.slice none 0 0,.map (some w.heap.size),.map (some (w.heap.size+1))] 114)):=((ζ).alloc (by simp) _).alloc (by simp; omega) _;have a5:oO FZ w.heap.size [] 0 (((w.alloc (.map #[] 0)).alloc (.map #[] 0)).alloc (.cells #[.slice none 0 0,.slice none 0 0,.map (some w.heap.size),.map (some (w.heap.size+1))] 114)):=(oO.made (S:=FZ) w).same (by rw [Below.heap_alloc _ _ _ (by simp; omega),Below.heap_alloc _ _ _ (by simp)])
 have a6:gq isStr (w.heap.size+1) [] (((w.alloc (.map #[] 0)).alloc (.map #[] 0)).alloc (.cells #[.slice none 0 0,.slice none 0 0,.map (some w.heap.size),.map (some (w.heap.size+1))] 114)):=by
  have h0:=gq.made (S:=isStr) (w.alloc (.map #[] 0));have e:(w.alloc (.map #[] 0)).heap.size=w.heap.size+1:=by simp
  rw [e] at h0;exact h0.same (by rw [Below.heap_alloc _ _ _ (by simp)])
 have a7:(((w.alloc (.map #[] 0)).alloc (.map #[] 0)).alloc (.cells #[.slice none 0 0,.slice none 0 0,.map (some w.heap.size),.map (some (w.heap.size+1))] 114)).heap[w.heap.size+2]? = some (.cells #[.slice none 0 0,.slice none 0 0,.map (some w.heap.size),.map (some (w.heap.size+1))] 114 (0,0)):=by
  have:=ω ((w.alloc (.map #[] 0)).alloc (.map #[] 0)) (.cells #[.slice none 0 0,.slice none 0 0,.map (some w.heap.size),.map (some (w.heap.size+1))] 114);simpa using this
 have a8:Hid (Gx xs bx w 0 (((w.alloc (.map #[] 0)).alloc (.map #[] 0)).alloc (.cells #[.slice none 0 0,.slice none 0 0,.map (some w.heap.size),.map (some (w.heap.size+1))] 114))):=η
  ⟨none,0,[],none,0,[],[],[],⟨a7,rfl,rfl,cu.nil _,cu.nil _,⟨⟨[],0,a5,⟨fun r hr=>by simp at hr,fun r hr=>by simp at hr,fun r hr=>by simp at hr⟩,fun k _=>by simp [idxs]⟩⟩,a6,fun x y=>by simp [Value.ownBlock] at y,fun x y=>by simp at y,fun x y=>by simp at y,fun x y=>by simp at y,by omega,fun x y=>by simp at y,by simp⟩,hA,fun x y=>by simp at y⟩
 have HH:=η h;have HF:=η (ι hf hn);clear h hf hn a4 hm hA a5 a6 a7;have aL:=@run_makeMap Tryz.prog
 go_enter Tryz.func107,Tryz.ntmps107
 go_wp2;generalize (((w.alloc (.map #[] 0)).alloc (.map #[] 0)).alloc (.cells #[.slice none 0 0,.slice none 0 0,.map (some w.heap.size),.map (some (w.heap.size+1))] 114))=W at *
 go_loopw [12] (fun i wr=>∃ (k:Nat),k≤xs.length∧i=.int .i64 k∧Gx xs bx w k wr) (fun i _=>xs.length - (intOf i).toNat)
 case atStart=>exact ⟨0,ε,rfl,a8.out⟩
 case round=>
  obtain ⟨k,hk,rfl,hI⟩:=hrel;clear a8;by_cases J:k < xs.length
  ·obtain ⟨Af,cf,Lf,Ar,cr,Lr,ou,bf,S,I,a9⟩:=hI
   obtain ⟨bq,oq,Ae,ce,ba,rfl,_,f0,f1,a2,a0⟩:=dQ (au.below HH.out I) J;have aM:(0:Int)≤(k:Int):=by omega
   have ae:(k:Int) < (xs.length:Int):=by omega
   have U:Below wr.heap.size wr (wr.alloc (.cells #[.string xs[k].name,.slice Ae xs[k].args.length ce] 40)):=ζ;have a3:=HF.out.1 _ (δ J)
   have aa:xs[k] ∉ xs.take k:=fun hm=>by
    obtain ⟨i,hi,e⟩:=List.getElem_of_mem hm;simp at hi e;exact List.pairwise_iff_getElem.1 HF.out.2 i k (by omega) J (by omega) e
   have a1:=put_any (w.heap.size+3) (w.heap.size+2) w.heap.size (w.heap.size+1) Af cf Lf (xs.take k) bf Ar cr Lr (List.replicate k 0) (yT (xs.take k)) ou xs[k] (.slice Ae xs[k].args.length ce) ba ba 0 (wr.alloc (.cells #[.string xs[k].name,.slice Ae xs[k].args.length ce] 40)) (S.later U) (ak.below a2 U) (fun x y=>y)
    (fun x y=>(S.later U).low (by have:=au.lt HH.out x (a0 x y); omega)) (fun x y=>κ (ak.lt a2 x y) U.size) a3.ok (JK (fun f hf=>HF.out.1 f (List.mem_of_mem_take hf)) a3 aa) (by simp; omega) (by simp; omega) w.heap.size (by omega)
   have HB:=η (I.trans (U.mono I.size));have ab:=η J;have af:Hid (∀ x ∈ bf ++ ba,x ∈ bx):=η fun x y=>(μ.1 y).elim (a9 x) (a0 x)
   have ag:Hid (xs.take (k+1)=xs.take k ++ [xs[k]]):=η (ρ J);clear S I a9 a2 a0 U a3 aa hk;generalize xs[k]=a at *;obtain ⟨an,am⟩:=a;dsimp only at *;clear J
   go_wp2_with fail
   refine a1.mono ?_;rintro e w2 ⟨rfl,ac,ao,ap,aq,ar,av,aw,az,S',-⟩
   have aD:Hid (Gx xs bx w (k+1) w2):=η ⟨ao,ap,aq,ar,av,aw,az,_,by
    rw [ag.out,List.replicate_succ',EL,χ,χ]; exact S',HB.out.trans ac,af.out⟩
   clear a1 ac S';go_wp2;go_roundw
   case rel=>exact ⟨k+1,ab.out,by go_num,aD.out⟩
   case measure=>have:=ab.out; simp [intOf]; omega
  ·have he:k=xs.length:=by omega
   have ae:¬ (k:Int) < (xs.length:Int):=by omega
   have HD:Hid (Gx xs bx w xs.length wr):=η (he ▸ hI);clear hI;go_wp2;go_ret;exact ⟨rfl,HD.out⟩
theorem D.Gx.all {xs:List A} {bx:List Nat} {y w:World} (h:Gx xs bx y xs.length w):
  Below y.heap.size y w∧∃ U cf Lf Ar cr Lr ou J,kD (y.heap.size+3) (y.heap.size+2) y.heap.size (y.heap.size+1) U xs.length cf Lf xs J Ar (List.replicate xs.length 0).length cr Lr (List.replicate xs.length 0) (yT xs) (idxs xs) ou w∧∀ x ∈ J,x ∈ bx:=by
 obtain ⟨U,cf,Lf,Ar,cr,Lr,ou,J,S,I,a0⟩:=h;rw [List.take_length] at S;exact ⟨I,U,cf,Lf,Ar,cr,Lr,ou,J,S,a0⟩
end
section
open Go.RowKit D
theorem D.JM {rs:List Ru} (h:eH rs=0) {r:Ru} (hr:r ∈ rs):jr r:=by
 unfold eH at h
 split at h
 ·cases h
 ·rename_i h1
  split at h
  ·cases h
  ·split at h
   ·cases h
   ·split at h
    ·cases h
    ·rename_i h4
     have y:=ό.1 (by simpa using h1) r hr;have g4:=ό.1 (by simpa using h4) r hr;unfold dS nJ at y;simp only [ο,decide_eq_true_eq,ό] at y;obtain ⟨t1,U⟩:=(Ed _ _).1 g4;refine ⟨y.2,y.1.2,y.1.1,fun x I=>?_⟩
     have hb:iH r.body x=true:=by
      rcases I with I | ⟨p,J,I⟩
      ·exact t1 x I
      ·unfold qV at U
       have:=ό.1 (by simpa using U) p J;exact (pW _ _).1 this x I
     have:=(mP _ _).1 hb;rw [gu] at this
     rcases this with h | ⟨p,J,hv⟩
     ·simp at h
     ·obtain ⟨q1,q2⟩:=List.mem_filter.1 J
      exact ⟨p,q1,by simpa using q2,hv⟩
theorem D.yU {a:A} (h:aW a=true):aT a:=by
 unfold aW jU at h;simp only [ο,Bool.not_eq_true',List.any_eq_false] at h;exact ⟨h.1,fun t y=>by simpa using h.2 t y⟩
theorem D.yV {a:A} (h:aT a):aW a=true:=by
 unfold aW jU;simp only [ο,Bool.not_eq_true',List.any_eq_false];exact ⟨h.ok,fun t y=>by simpa using h.gr t y⟩
theorem D.UH {xs:List A} (U:∀ x ∈ xs,aT x) (r:Ru) (t:A):V9 xs r t ↔ kE xs r t:=by
 have J:∀ x ∈ xs,Gr x:=fun x h=>(U x h).gr
 constructor
 ·rintro ⟨σ,rfl,h⟩
  refine ⟨σ,rfl,fun p y I=>?_,fun p y I hm=>?_⟩
  ·exact (qi J (nT _ _)).1 (by rw [h p y,I]; rfl)
  ·have:=(qi J (nT σ p.atom)).2 hm
   rw [h p y,I] at this;cases this
 ·rintro ⟨σ,rfl,h1,h2⟩
  refine ⟨σ,rfl,fun p y=>?_⟩;cases I:p.no
  ·exact (qi J (nT _ _)).2 (h1 p y I)
  ·cases hb:hasB xs (gm σ p.atom)
   ·rfl
   ·exact absurd ((qi J (nT _ _)).1 hb) (h2 p y I)
theorem D.SE {xs:List A} (U:∀ x ∈ xs,aT x) {r:Ru} (R:jr r) {t:A} (h:kE xs r t):aT t:=by
 obtain ⟨σ,rfl,h1,_⟩:=h;refine ⟨?_,nT _ _⟩;have h0:=R.hok;unfold aZ at h0 ⊢;unfold gm;simp only [ο,decide_eq_true_eq,ό,List.length_map] at h0 ⊢;refine ⟨h0.1,fun u hu=>?_⟩;obtain ⟨v,hv,rfl⟩:=List.mem_map.1 hu;have g:=h0.2 v hv;unfold iP at *;unfold wY;cases hvv:v.var
 ·simpa [hvv] using g
 ·obtain ⟨p,hp,hn,y,hy,I,J⟩:=R.tight v.name (.inl ⟨v,hv,hvv,rfl⟩)
  have hm:=(U _ (h1 p hp hn)).names (wY σ y) (List.mem_map.2 ⟨y,hy,rfl⟩);unfold wY at hm;rw [I,J] at hm;simpa using hm.2
theorem D.xW {xs:List A} (J:∀ x ∈ xs,aT x) {a:A} (ha:aT a) (x:A):x ∈ fC xs a ↔ x ∈ xs∨x=a:=by
 constructor
 ·exact Nq
 ·intro h
  have hi:∀ y ∈ fC xs a,Gr y:=fun y U=>(Nq U).elim (fun h=>(J y h).gr) fun h=>h ▸ ha.gr
  have I:Gr x:=h.elim (fun h=>(J x h).gr) fun h=>h ▸ ha.gr
  refine (qi hi I).1 ?_;rw [Qm]
  rcases h with h | rfl
  ·rw [lg h]; rfl
  ·rw [sD]; simp
theorem D.JO {β:Type} (f:β→A):∀ (l:List β) (out:List A),iF out=true→(∀ x ∈ out,aT x)→(∀ b ∈ l,aT (f b))→
  iF (l.foldl (fun o b=>fC o (f b)) out)=true∧(∀ x ∈ l.foldl (fun o b=>fC o (f b)) out,aT x)∧∀ x,x ∈ l.foldl (fun o b=>fC o (f b)) out ↔ x ∈ out∨∃ b ∈ l,f b=x
 | [],out,h1,h2,_=>⟨h1,h2,fun x=>by simp⟩
 | b :: l,out,h1,h2,h3=>by
  have y:=h3 b Γ;obtain ⟨I,J,U⟩:=JO f l (fC out (f b)) (Fg h1 _) (fun x hx=>((xW h2 y x).1 hx).elim (h2 x) fun e=>e ▸ y) fun c hc=>h3 c (Δ _ hc)
  refine ⟨I,J,fun x=>?_⟩;rw [List.foldl_cons,U,xW h2 y];constructor
  ·rintro ((h | h) | ⟨c,hc,h⟩)
   ·exact .inl h
   ·exact .inr ⟨b,Γ,h.symm⟩
   ·exact .inr ⟨c,Δ _ hc,h⟩
  ·rintro (h | ⟨c,hc,h⟩)
   ·exact .inl (.inl h)
   ·rcases ύ.1 hc with rfl | hc
    ·exact .inl (.inr h.symm)
    ·exact .inr ⟨c,hc,h⟩
theorem D.Ph {xs:List A} {level:Nat} (hx:∀ x ∈ xs,aT x) {rl:List (Ru × Nat)} (hr:∀ p ∈ rl,jr p.1):iF (iL xs level rl)=true∧(∀ t ∈ iL xs level rl,aT t)∧∀ t,t ∈ iL xs level rl ↔ ∃ p ∈ rl,p.2=level∧kE xs p.1 t:=by
 have hg:∀ x ∈ xs,Gr x:=fun x h=>(hx x h).gr
 have main:∀ (l:List (Ru × Nat)) (out:List A),(∀ p ∈ l,jr p.1)→iF out=true→(∀ x ∈ out,aT x)→
   iF (l.foldl (fun out p=>if p.2=level then DN xs p.1 out else out) out)=true∧(∀ t ∈ l.foldl (fun out p=>if p.2=level then DN xs p.1 out else out) out,aT t)∧
   ∀ t,t ∈ l.foldl (fun out p=>if p.2=level then DN xs p.1 out else out) out ↔ t ∈ out∨∃ p ∈ l,p.2=level∧kE xs p.1 t:=by
  intro l
  induction l with
  | nil=>intro out _ h1 h2; exact ⟨h1,h2,fun t=>by simp⟩
  | cons q l ih=>
   intro out hl h1 h2;have R:=hl q Γ;have hq:=fun p y=>hl p (Δ _ y)
   by_cases hv:q.2=level
   ·have J:∀ t,(∃ b ∈ allB xs q.1.body,aY q.1.head b=t) ↔ kE xs q.1 t:=fun t=>(Rf hg R.tight t).trans (UH hx q.1 t)
    obtain ⟨g1,g2,g3⟩:=JO (fun b=>aY q.1.head b) (allB xs q.1.body) out h1 h2 fun b hb=>SE hx R ((J _).1 ⟨b,hb,rfl⟩)
    rw [List.foldl_cons,if_pos hv];obtain ⟨k1,k2,U⟩:=ih (DN xs q.1 out) hq g1 g2;refine ⟨k1,k2,fun t=>?_⟩;rw [U]
    have y:t ∈ DN xs q.1 out ↔ t ∈ out∨kE xs q.1 t:=by
     unfold DN;rw [g3,J]
    rw [y];constructor
    ·rintro ((h | h) | ⟨p,y,h⟩)
     ·exact .inl h
     ·exact .inr ⟨q,Γ,hv,h⟩
     ·exact .inr ⟨p,Δ _ y,h⟩
    ·rintro (h | ⟨p,y,I,h⟩)
     ·exact .inl (.inl h)
     ·rcases ύ.1 y with rfl | y
      ·exact .inl (.inr h)
      ·exact .inr ⟨p,y,I,h⟩
   ·rw [List.foldl_cons,if_neg hv]
    obtain ⟨k1,k2,U⟩:=ih out hq h1 h2;refine ⟨k1,k2,fun t=>?_⟩;rw [U];constructor
    ·rintro (h | ⟨p,y,h⟩)
     ·exact .inl h
     ·exact .inr ⟨p,Δ _ y,h⟩
    ·rintro (h | ⟨p,y,I,h⟩)
     ·exact .inl h
     ·rcases ύ.1 y with rfl | y
      ·exact absurd I hv
      ·exact .inr ⟨p,y,I,h⟩
 obtain ⟨k1,k2,U⟩:=main rl [] hr rfl (fun x h=>by simp at h)
 exact ⟨k1,k2,fun t=>by
  have:=U t;simp only [List.not_mem_nil,false_or] at this
  exact this⟩
theorem D.jY {xs:List A} (h:iF xs=true):xs.Nodup:=by
 refine List.pairwise_iff_getElem.2 fun i j hi I y e=>?_
 have:=AX h I y;rw [e,sD] at this;omega
theorem D.SG {xs ys:List A} (h1:iF xs=true) (I:iF ys=true) (J:∀ x ∈ xs,aT x) (f2:∀ x ∈ ys,aT x) (h:∀ t,t ∈ xs ↔ t ∈ ys):xs=ys:=by
 refine Np h1 I (fun x y=>yV (J x y)) (fun x y=>yV (f2 x y)) fun a=>?_
 rw [Bool.eq_iff_iff,mF,mF];constructor
 ·rintro ⟨x,y,hc⟩; exact ⟨x,(h x).1 y,hc⟩
 ·rintro ⟨x,y,hc⟩; exact ⟨x,(h x).2 y,hc⟩
def D.je (B sb mu mp:Nat) (Fb:Nat→Prop) (fr:List Nat) (fs:List A) (rn:List Nat) (w:World):Prop:=
 ∃ y cf Lf I J Lr U bf,kD B sb mu mp y fs.length cf Lf fs bf I rn.length J Lr rn (yT fs) (idxs fs) U w∧(∀ x ∈ bf,Fb x)∧∀ x ∈ fr,Free B sb mu mp (.slice y fs.length cf) (.slice I rn.length J) U x∧x < w.heap.size
section
variable {B sb mu mp:Nat} {Fb:Nat→Prop} {fr:List Nat} {fs:List A} {rn:List Nat} {w w':World}
theorem D.kD.fresh {y:Option Addr} {I cf:Nat} {Lf:List Value} {bf:List Nat} {J:Option Addr} {nr U:Nat} {Lr:List Value} {Lp:List (Value × Value)} {G:WK→List Nat} {ou:List Nat} (h:kD B sb mu mp y I cf Lf fs bf J nr U Lr rn Lp G ou w) {x:Nat} (hx:w.heap.size≤x):Free B sb mu mp (.slice y I cf) (.slice J nr U) ou x:=by
 obtain ⟨l1,l2,l3,_⟩:=h.lo;have hs:=h.oH;exact ⟨fun e=>by have:=(bD h.cF.own e).2; omega,fun e=>by have:=(bD h.cR.own e).2; omega,fun e=>by have:=(h.ous x e).2; omega,by omega⟩
theorem D.je.more (h:je B sb mu mp Fb fr fs rn w) (hk:Below w.heap.size w w') (xs:List Nat) (I:∀ x ∈ xs,w.heap.size≤x∧x < w'.heap.size):je B sb mu mp Fb (fr ++ xs) fs rn w':=by
 obtain ⟨U,cf,Lf,Ar,cr,Lr,ou,bf,S,h1,J⟩:=h;refine ⟨U,cf,Lf,Ar,cr,Lr,ou,bf,S.later hk,h1,fun x y=>?_⟩
 rcases μ.1 y with g | g
 ·exact ⟨(J x g).1,κ (J x g).2 hk.size⟩
 ·exact ⟨S.fresh (I x g).1,(I x g).2⟩
theorem D.je.later (h:je B sb mu mp Fb fr fs rn w) (hk:Below w.heap.size w w'):je B sb mu mp Fb fr fs rn w':=by
 have:=h.more hk [] (fun x y=>by simp at y);simpa using this
theorem D.je.sub (h:je B sb mu mp Fb fr fs rn w) {y:List Nat} (I:∀ x ∈ y,x ∈ fr):je B sb mu mp Fb y fs rn w:=by
 obtain ⟨J,cf,Lf,U,cr,Lr,ou,bf,S,h1,h2⟩:=h;exact ⟨J,cf,Lf,U,cr,Lr,ou,bf,S,h1,fun x hx=>h2 x (I x hx)⟩
theorem D.je.mono (h:je B sb mu mp Fb fr fs rn w) {Fb':Nat→Prop} (I:∀ x,Fb x→x < w.heap.size→Fb' x):je B sb mu mp Fb' fr fs rn w:=by
 obtain ⟨J,cf,Lf,U,cr,Lr,ou,bf,S,h1,h2⟩:=h;exact ⟨J,cf,Lf,U,cr,Lr,ou,bf,S,fun x y=>I x (h1 x y) (S.cF.row.lt ak x y),h2⟩
theorem D.je.other (h:je B sb mu mp Fb fr fs rn w) {c:Nat} (hc:c ∈ fr) (U:¬ Fb c) (I:w.heap.size≤w'.heap.size) (hk:∀ k,k < w.heap.size→k ≠ c→w'.heap[k]? = w.heap[k]?):je B sb mu mp Fb fr fs rn w':=by
 obtain ⟨Af,cf,Lf,Ar,cr,Lr,ou,bf,S,h1,J⟩:=h;obtain ⟨l1,l2,l3,_⟩:=S.lo;have hz:=S.oH;obtain ⟨f,r,u,s⟩:=(J c hc).1
 refine ⟨Af,cf,Lf,Ar,cr,Lr,ou,bf,⟨(hk sb (by omega) (by omega)).trans S.blk,S.ef,S.er,S.cF.lI ak (fun x y=>hk x (bD S.cF.own y).2 (fun e=>f (e ▸ y))) (fun x y=>hk x (S.cF.row.lt ak x y) (fun e=>U (e ▸ h1 x y))),
  S.cR.lI iI (fun x y=>hk x (bD S.cR.own y).2 (fun e=>r (e ▸ y))) (fun x y=>by simp at y),S.un.keep (hk mu (by omega) (by omega)) (fun x y=>hk x (S.ous x y).2 (fun e=>u (e ▸ y))),S.pl.same (hk mp (by omega) (by omega)),S.dFR,S.dF,S.dR,S.bfs,S.lo,
  fun x y=>⟨(S.ous x y).1,κ (S.ous x y).2 I⟩,τ hz I⟩,h1,fun x y=>⟨(J x y).1,κ (J x y).2 I⟩⟩
theorem D.je.view (h:je B sb mu mp Fb fr fs rn w):∃ y,jO sb fs rn y w:=by
 obtain ⟨I,cf,Lf,J,U,Lr,ou,bf,S,h1,h2⟩:=h;obtain ⟨y,g,_⟩:=S.view 0 (by omega);exact ⟨y,g⟩
theorem D.je.lt (h:je B sb mu mp Fb fr fs rn w):B≤w.heap.size∧sb < B∧∀ x ∈ fr,x < w.heap.size:=by
 obtain ⟨J,cf,Lf,U,cr,Lr,ou,bf,S,h1,y⟩:=h;exact ⟨S.oH,S.lo.1,fun x I=>(y x I).2⟩
theorem UI (h:je B sb mu mp Fb fr fs rn w) {a:A} {c1:Value} {ba:List Nat} (ha:aP w [.string a.name,c1] a ba) (J:∀ x ∈ ba,x ∈ fr) (U:∀ x ∈ ba,Fb x) (a0:∀ f ∈ fs,aT f) (hok:aT a) (a1:a ∉ fs) (a2:fs.length≤1000000) (a3:rn.length≤1000000) (rd B0:Nat) (a4:B0≤sb∧B0≤mu∧B0≤mp∧B0≤B):
  Calls Tryz.prog 115 #[.pointer (some ⟨sb,0,none⟩),.agg #[.string a.name,c1],.int .i64 rd] w fun e w'=>e=.returned (.tuple #[])∧Below B0 w w'∧je B sb mu mp Fb fr (fs ++ [a]) (rn ++ [rd]) w'∧∀ x ∈ fr,w'.heap[x]? = w.heap[x]?:=by
 obtain ⟨Af,cf,Lf,Ar,cr,Lr,ou,bf,S,h1,h2⟩:=h;refine (put_any B sb mu mp Af cf Lf fs bf Ar cr Lr rn (yT fs) ou a c1 ba fr rd w S ha J (fun x y=>(h2 x y).1) (fun x y=>(h2 x y).2) hok.ok (JK a0 hok a1) a2 a3 B0 a4).mono ?_;rintro e w' ⟨rfl,hb,a5,a6,a7,a8,a9,aa,ab,S',I⟩;refine ⟨rfl,hb,⟨a5,a6,a7,a8,a9,aa,ab,bf ++ ba,?_,fun x y=>(μ.1 y).elim (h1 x) (U x),fun x y=>⟨?_,κ (h2 x y).2 hb.size⟩⟩,fun x y=>(I x y).2⟩
 ·rw [EL,χ,χ]; exact S'
 ·have:=(I x y).1
  rw [χ,χ]; exact this
end
theorem D.Gx.qM {xs:List A} {I:List Nat} {y w:World} (h:Gx xs I y xs.length w) (J:∀ x ∈ I,x < y.heap.size):Below y.heap.size y w∧je (y.heap.size+3) (y.heap.size+2) y.heap.size (y.heap.size+1) (fun x=>x ∈ I) [] xs (List.replicate xs.length 0) w:=by
 obtain ⟨h1,U,cf,Lf,Ar,cr,Lr,ou,bf,S,h2⟩:=h.all;exact ⟨h1,U,cf,Lf,Ar,cr,Lr,ou,bf,S,h2,fun x hx=>by simp at hx⟩
end
end Go.Proofs.YtlmngncogomgeaaGreatDoor
