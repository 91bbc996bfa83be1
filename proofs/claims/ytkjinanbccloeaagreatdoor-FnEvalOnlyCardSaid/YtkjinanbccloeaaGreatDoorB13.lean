/- Of the proof of FnEvalOnly: Ii, LevI, AtTxP, QryP, IntK, Body. -/
import Derived.Test.YtkjinanbccloeaaGreatDoorB10
set_option linter.unusedVariables false
set_option maxHeartbeats 400000
namespace Go.Proofs.YtkjinanbccloeaaGreatDoor
namespace D
open Go.RowKit
abbrev Wo:=ByteArray→ByteArray
def wE (σ:Wo) (t:T):T:=⟨false,if t.var then σ t.name else t.name⟩
def fH (σ:Wo) (a:A):A:=⟨a.name,a.args.map (wE σ)⟩
def XF (list:List A) (r:Ru) (a:A):Prop:=∃ σ:Wo,a=fH σ r.head∧∀ p ∈ r.body,hasB list (fH σ p.atom) = !p.no
def QY (b:Bd) (σ:Wo):Prop:=∀ n v,eY b n=some v→σ n=v
def wF (b:Bd) (y:List T):Prop:=∀ t ∈ y,t.var=true→(eY b t.name).isSome=true
def Le (b y:Bd):Prop:=∀ n v,eY b n=some v→eY y n=some v
theorem Le.refl (b:Bd):Le b b:=fun _ _ h=>h
theorem Le.trans {a b c:Bd} (h:Le a b) (k:Le b c):Le a c:=fun n v e=>k n v (h n v e)
theorem Le.Xu {b y:Bd} (h:Le b y) {I:List T} (hc:wF b I):wF y I:=fun t J hv=>by
 obtain ⟨v,hv⟩:=Option.isSome_iff_exists.1 (hc t J hv);rw [h _ _ hv]; rfl
theorem QY.of_le {b y:Bd} {σ:Wo} (h:QY y σ) (I:Le b y):QY b σ:=fun n v e=>h n v (I n v e)
theorem Hl (b:Bd):QY b (iU b):=fun n v e=>by unfold iU; rw [e]; rfl
theorem lQ (b c:Bd) (n:ByteArray):eY (b ++ c) n=(eY b n).or (eY c n):=by
 induction b with
 | nil=>simp [eY]
 | cons p b ih=>
  simp only [List.cons_append,eY]
  split
  ·rfl
  ·exact ih
theorem Le.append (b c:Bd):Le b (b ++ c):=fun n v h=>by rw [lQ,h]; rfl
theorem SX {b:Bd} {σ:Wo} {y:List T} (hc:wF b y) (ha:QY b σ):y.map (dA b)=y.map (wE σ):=by
 refine List.map_congr_left fun t I=>?_
 unfold dA wE;cases hv:t.var
 ·rfl
 ·obtain ⟨v,h⟩:=Option.isSome_iff_exists.1 (hc t I hv)
  simp only [if_true,iU,h,Option.getD_some,ha _ _ h]
theorem jO {b:Bd} {σ:Wo} {a:A} (hc:wF b a.args) (ha:QY b σ):bQ a b=fH σ a:=by
 unfold bQ fH;rw [SX hc ha]
theorem SY {b y:Bd} {a:A} (hc:wF b a.args) (I:Le b y):bQ a y=bQ a b:=
 (jO (I.Xu hc) (Hl y)).trans (jO hc ((Hl y).of_le I)).symm
theorem mY:∀ (y fs:List T) (b:Bd),Le b (bY y fs b).1
 | [],fs,b=>by cases fs <;> exact Le.refl b
 | t :: y,[],b=>Le.refl b
 | t :: y,f :: fs,b=>by
  rw [bY]
  split
  ·split
   ·split
    ·exact mY y fs b
    ·exact Le.refl b
   ·exact (Le.append _ _).trans (mY y fs _)
  ·split
   ·exact mY y fs b
   ·exact Le.refl b
theorem zf:∀ (y fs:List T) (b:Bd),y.length=fs.length→(∀ f ∈ fs,f.var=false)→(bY y fs b).2=true→wF (bY y fs b).1 y∧y.map (dA (bY y fs b).1)=fs
 | [],[],b,_,_,_=>⟨fun t J=>absurd J (by simp),rfl⟩
 | [],f :: fs,b,h,_,_=>by simp at h
 | t :: y,[],b,h,_,_=>by simp at h
 | ⟨tv,tn⟩ :: y,⟨fv,fn⟩ :: fs,b,hl,hv,hm=>by
  have hf:fv=false:=hv _ Γ;subst hf;have a0:∀ f ∈ fs,f.var=false:=fun f h=>hv f (Δ _ h)
  have a1:y.length=fs.length:=by simpa using hl
  have I:∀ b0:Bd,(bY y fs b0).2=true→(tv=true→eY b0 tn=some fn)→(tv=false→tn=fn)→
    wF (bY y fs b0).1 (⟨tv,tn⟩ :: y)∧(⟨tv,tn⟩ :: y).map (dA (bY y fs b0).1)=⟨false,fn⟩ :: fs:=by
   intro b0 a2 h1 h2;obtain ⟨i1,i2⟩:=zf y fs b0 a1 a0 a2;refine ⟨fun t J U=>?_,?_⟩
   ·rcases List.mem_cons.1 J with rfl | J
    ·rw [mY y fs b0 _ _ (h1 U)]; rfl
    ·exact i1 t J U
   ·rw [List.map_cons,i2]
    congr 1
    unfold dA;cases tv
    ·simp [h2 rfl]
    ·simp [iU,mY y fs b0 _ _ (h1 rfl)]
  rw [bY] at hm ⊢;dsimp only at hm ⊢
  split at hm
  ·rename_i e1
   rw [if_pos e1]
   cases hg:eY b tn with
   | some v=>
    rw [hg] at hm;dsimp only at hm ⊢
    split at hm
    ·rename_i e2
     subst e2;rw [if_pos rfl];exact I b hm (fun _=>hg) fun e=>by rw [e] at e1; cases e1
    ·cases hm
   | none=>
    rw [hg] at hm;dsimp only at hm ⊢;exact I _ hm (fun _=>by rw [lQ,hg]; simp [eY]) fun e=>by rw [e] at e1; cases e1
  ·rename_i e1
   rw [if_neg e1]
   split at hm
   ·rename_i e2
    rw [if_pos e2];exact I b hm (fun e=>absurd e e1) fun _=>e2
   ·cases hm
theorem mJ:∀ (y fs:List T) (b:Bd) (σ:Wo),QY b σ→y.map (wE σ)=fs→(bY y fs b).2=true∧QY (bY y fs b).1 σ
 | [],fs,b,σ,ha,h=>by cases fs with
  | nil=>exact ⟨rfl,ha⟩
  | cons f fs=>simp at h
 | t :: y,[],b,σ,ha,h=>by simp at h
 | ⟨tv,tn⟩ :: y,f :: fs,b,σ,ha,h=>by
  simp only [List.map_cons,List.cons.injEq] at h;obtain ⟨rfl,h⟩:=h;rw [bY];cases tv
  ·simp only [wE,Bool.false_eq_true,if_false]
   exact mJ y fs b σ ha h
  ·simp only [wE,if_true]
   cases hg:eY b tn with
   | some v=>
    dsimp only;rw [if_pos (ha _ _ hg).symm];exact mJ y fs b σ ha h
   | none=>
    dsimp only;refine mJ y fs _ σ (fun n v e=>?_) h;rw [lQ] at e
    cases hn:eY b n with
    | some u=>rw [hn] at e; simp at e; rw [← e]; exact ha _ _ hn
    | none=>
     rw [hn] at e;simp only [Option.none_or,eY] at e
     split at e
     ·rename_i e2; subst e2; simpa using e
     ·cases e
theorem mZ (a f:A) (b:Bd):Le b (aC a f b).1:=by
 unfold aC
 split
 ·exact mY _ _ _
 ·exact Le.refl b
theorem lS {a f:A} {b:Bd} (hf:∀ t ∈ f.args,t.var=false) (h:(aC a f b).2=true):wF (aC a f b).1 a.args∧bQ a (aC a f b).1=f:=by
 unfold aC at h ⊢
 split at h
 ·rename_i e
  rw [if_pos e];obtain ⟨h1,y⟩:=zf a.args f.args b e.2 hf h;refine ⟨h1,?_⟩;unfold bQ;rw [y];obtain ⟨n,I⟩:=f;simp only at e;rw [e.1]
 ·cases h
theorem mO {a f:A} {b:Bd} {σ:Wo} (ha:QY b σ) (h:fH σ a=f):(aC a f b).2=true∧QY (aC a f b).1 σ:=by
 subst h;unfold aC;rw [if_pos ⟨rfl,by simp [fH]⟩];exact mJ _ _ _ _ ha rfl
def Gr (a:A):Prop:=∀ t ∈ a.args,t.var=false
theorem pY (σ:Wo) (a:A):Gr (fH σ a):=fun t y=>by
 obtain ⟨u,_,rfl⟩:=List.mem_map.1 y;rfl
theorem V9 {a b:A} (ha:Gr a) (hb:Gr b) (h:dD a b=0):a=b:=by
 have:=(vJ a b).1 h;unfold kW at this;simp only [List.cons.injEq] at this;obtain ⟨n,y⟩:=a;obtain ⟨m,us⟩:=b;dsimp only at *;obtain ⟨rfl,I⟩:=this;have e:y=us:=xJ ha hb I;rw [e]
theorem qc {xs:List A} (y:∀ x ∈ xs,Gr x) {a:A} (ha:Gr a):hasB xs a=true ↔ a ∈ xs:=by
 refine ⟨fun h=>?_,lF⟩;obtain ⟨x,hm,hc⟩:=oM.1 h;rw [← V9 (y x hm) ha hc]; exact hm
theorem wG (a:A) (b:Bd):bQ a b=fH (iU b) a:=rfl
theorem CX {list:List A} (hl:∀ x ∈ list,Gr x) (body:List Pt):∀ k,k≤body.length→∀ b ∈ vW list (body.take k),∀ p ∈ body.take k,p.no=false→wF b p.atom.args∧bQ p.atom b ∈ list:=by
 intro k
 induction k with
 | zero=>intro _ b _ p y; simp at y
 | succ k ih=>
  intro hk b hb p y I;rw [sH list body k (by omega)] at hb;rw [ρ (by omega)] at y;unfold FB at hb
  split at hb
  ·rename_i hn
   rcases μ.1 y with y | y
   ·exact ih (by omega) b hb p y I
   ·rw [List.mem_singleton.1 y] at I; rw [I] at hn; cases hn
  ·obtain ⟨b0,h0,J⟩:=List.mem_flatMap.1 hb
   unfold jG at J;obtain ⟨f,hf,e⟩:=List.mem_filterMap.1 J
   split at e
   ·rename_i hm
    cases e
    rcases μ.1 y with y | y
    ·obtain ⟨h1,U⟩:=ih (by omega) b0 h0 p y I
     refine ⟨(mZ _ _ _).Xu h1,?_⟩;rw [SY h1 (mZ _ _ _)]; exact U
    ·rw [List.mem_singleton.1 y]
     obtain ⟨h1,U⟩:=lS (hl f hf) hm;exact ⟨h1,by rw [U]; exact hf⟩
   ·cases e
theorem Np {list:List A} {σ:Wo} (body:List Pt) (y:∀ p ∈ body,p.no=false→fH σ p.atom ∈ list):∀ k,k≤body.length→∃ b ∈ vW list (body.take k),QY b σ:=by
 intro k
 induction k with
 | zero=>intro _; exact ⟨[],by simp [vW],fun n v h=>by simp [eY] at h⟩
 | succ k ih=>
  intro J;obtain ⟨b,hb,ha⟩:=ih (by omega);rw [sH list body k (by omega)];unfold FB
  split
  ·exact ⟨b,hb,ha⟩
  ·rename_i hn
   have hin:=y body[k] (δ (by omega)) (by simpa using hn);obtain ⟨h1,I⟩:=mO ha (rfl:fH σ body[k].atom=_);refine ⟨_,List.mem_flatMap.2 ⟨b,hb,?_⟩,I⟩;unfold jG;exact List.mem_filterMap.2 ⟨_,hin,by rw [if_pos h1]⟩
def S9 (r:Ru):Prop:=∀ x,(jP x r.head.args∨∃ p ∈ r.body,jP x p.atom.args)→∃ p ∈ r.body,p.no=false∧jP x p.atom.args
theorem FN {r:Ru} (J:S9 r) {b:Bd} (hb:∀ p ∈ r.body,p.no=false→wF b p.atom.args):wF b r.head.args∧∀ p ∈ r.body,wF b p.atom.args:=by
 have h:∀ x,(jP x r.head.args∨∃ p ∈ r.body,jP x p.atom.args)→(eY b x).isSome=true:=fun x U=>by
  obtain ⟨p,I,hn,t,h1,y,rfl⟩:=J x U;exact hb p I hn t h1 y
 exact ⟨fun t h1 y=>h _ (.inl ⟨t,h1,y,rfl⟩),fun p I t h1 y=>h _ (.inr ⟨p,I,t,h1,y,rfl⟩)⟩
theorem Tc {list:List A} (hl:∀ x ∈ list,Gr x) {r:Ru} (ht:S9 r) (a:A):(∃ b ∈ allB list r.body,bQ r.head b=a) ↔ XF list r a:=by
 constructor
 ·rintro ⟨b,hb,rfl⟩
  unfold allB at hb;obtain ⟨h1,h2⟩:=List.mem_filter.1 hb;have y:=CX hl r.body r.body.length ν;rw [ϕ ν] at y;have y:=y b h1;refine ⟨iU b,wG _ _,fun p J=>?_⟩;cases I:p.no
  ·rw [← wG]
   exact lF (y p J I).2
  ·unfold iI at h2
   have:=List.all_eq_true.1 h2 p J;rw [I] at this;rw [← wG];simpa using this
 ·rintro ⟨σ,rfl,J⟩
  have U:∀ p ∈ r.body,p.no=false→fH σ p.atom ∈ list:=fun p h I=>(qc hl (pY _ _)).1 (by rw [J p h,I]; rfl)
  have hw:=Np (list:=list) (σ:=σ) r.body U r.body.length ν;have y:=CX hl r.body r.body.length ν;rw [ϕ ν] at hw y;obtain ⟨b,hb,ha⟩:=hw;obtain ⟨a0,a1⟩:=FN ht fun p h I=>(y b hb p h I).1
  refine ⟨b,?_,jO a0 ha⟩;unfold allB;refine List.mem_filter.2 ⟨hb,?_⟩;unfold iI;refine List.all_eq_true.2 fun p h=>?_
  rw [jO (a1 p h) ha,J p h]
  cases p.no <;> rfl
def uM (out:List Nat):Array Value:=(out.map fun n:Nat=>Value.int .i64 (n:Int)).toArray
theorem uN {out:List Nat} {i:Nat} (h:i < out.length):(uM out)[i]? = some (.int .i64 (fU out i:Nat)):=by
 unfold uM fU;simp [Ψ h]
theorem zV (out:List Nat) (i v:Nat):(uM out).setIfInBounds i (.int .i64 (v:Nat))=uM (out.set i v):=by
 unfold uM;simp [List.map_set]
theorem wH (n:Nat):madeCells #[Value.int .i64 0] n=uM (List.replicate n 0):=by
 unfold madeCells uM;refine Array.ext (by simp) fun i h1 y=>?_
 simp [Nat.mod_one]
def numOf:Option Value→Nat
 | some (.int _ z)=>z.toNat
 | _=>0
def CY (w:World) (g n:Nat):Nat:=((List.range n).map fun i=>numOf (w.cell? ⟨g,i,none⟩)).sum
theorem FO {w:World} {g:Nat} {out:List Nat} {t:TypeId} (h:w.heap[g]? = some (.cells (uM out) t (0,0))):CY w g out.length=out.sum:=by
 unfold CY
 have:((List.range out.length).map fun i=>numOf (w.cell? ⟨g,i,none⟩))=out:=by
  refine List.ext_getElem (by simp) fun i h1 y=>?_
  simp only [List.getElem_map,List.getElem_range];rw [ai h,uN y];unfold numOf fU;simp [Ψ y]
 rw [this]
def lT (rs:List Ru) (out:List Nat) (s:ByteArray):Nat:=fU out ((aK rs).idxOf s)
structure Nq (rs:List Ru) (out:List Nat):Prop where
 len:out.length=(aK rs).length
 bel:∀ T,ML rs T→∀ n ∈ bH rs,lT rs out n≤T n
 lo:∀ i,i < out.length→fU out i < out.length
theorem CZ (n i:Nat):fU (List.replicate n 0) i=0:=by
 unfold fU; rw [List.getD_eq_getElem?_getD,List.getElem?_replicate]; split <;> rfl
theorem Nq.zero (rs:List Ru):Nq rs (List.replicate (aK rs).length 0):=
 ⟨by simp,fun T _ n _=>by unfold lT; rw [CZ]; exact ε,fun i h=>by rw [CZ]; omega⟩
theorem Nq.GU {rs:List Ru} {out:List Nat} (h:Nq rs out):out.sum≤(aK rs).length * (aK rs).length:=by
 have:=Fj (out:=out) (n:=out.length) fun i y=>Nat.le_of_lt (h.lo i y)
 rw [h.len] at this;exact this
theorem uO {rs:List Ru} {n:ByteArray} (h:n ∈ bH rs):(aK rs).idxOf n < (aK rs).length:=List.idxOf_lt_length_of_mem (jf.2 h)
theorem Nq.step {rs:List Ru} {out:List Nat} (h:Nq rs out) {r:Ru} (hr:r ∈ rs) {p:Pt} (hp:p ∈ r.body) (hh:p.atom.name ∈ bH rs) {l:Nat} (hl:l=lT rs out p.atom.name+zU p)
  (I:lT rs out r.head.name < l) (hN:l < (aK rs).length):Nq rs (out.set ((aK rs).idxOf r.head.name) l)∧out.sum < (out.set ((aK rs).idxOf r.head.name) l).sum:=by
 have hi:=uO (head_mem hr);have y:(aK rs).idxOf r.head.name < out.length:=by rw [h.len]; exact hi
 refine ⟨⟨by simp [h.len],fun T U n hn=>?_,fun i J=>?_⟩,?_⟩
 ·unfold lT
  rw [nY y]
  split
  ·rename_i e
   have e2:n=r.head.name:=by
    have h1:=List.getElem_idxOf hi;have h2:=List.getElem_idxOf (uO hn);rw [← h2,← h1]
    congr 1
    exact e.symm
   have h3:=U r hr p hp hh;have h4:=h.bel T U _ hh;rw [e2,hl]; omega
  ·exact h.bel T U n hn
 ·rw [List.length_set] at J ⊢
  rw [nY y]
  split
  ·rw [h.len]; exact hN
  ·exact h.lo i J
 ·refine Sz (MN (Nat.le_of_lt I)) fun e=>?_
  have h5:=xW y e;unfold lT at I;omega
theorem Nq.err {rs:List Ru} {out:List Nat} (h:Nq rs out) {r:Ru} (hr:r ∈ rs) {p:Pt} (J:p ∈ r.body) (y:p.atom.name ∈ bH rs) {l:Nat} (hl:l=lT rs out p.atom.name+zU p)
  (hN:(aK rs).length≤l):lg rs=true:=by
 refine Pn fun S U=>?_
 obtain ⟨T,I,hs⟩:=Fh U;have h1:=I r hr p J y;have h2:=hs _ (head_mem hr);have h3:=h.bel T I _ y;omega
def PL (rs:List Ru) (out:List Nat) (r:Ru) (p:Pt):Prop:=p.atom.name ∈ bH rs→lT rs out p.atom.name+zU p≤lT rs out r.head.name
def uP (rs:List Ru) (out:List Nat) (k:Nat):Prop:=∀ r ∈ rs.take k,∀ p ∈ r.body,PL rs out r p
theorem Nq.done {rs:List Ru} {out:List Nat} (h:Nq rs out) (y:uP rs out rs.length):lg rs=false∧∀ i,i < rs.length→lT rs out (dH rs i).head.name=fU (ay rs) i:=by
 have h1:ML rs (lT rs out):=fun r hr p I J=>y r (by rw [ϕ ν]; exact hr) p I J
 exact ⟨xX h1,SB h1 h.bel⟩
theorem uP.zero (rs:List Ru) (out:List Nat):uP rs out 0:=fun r hr=>by simp at hr
theorem uP.snoc {rs:List Ru} {out:List Nat} {k:Nat} (h:k < rs.length) (h1:uP rs out k) (y:∀ p ∈ rs[k].body,PL rs out rs[k] p):uP rs out (k+1):=fun r hr=>by
 rw [ρ h] at hr
 rcases μ.1 hr with hr | hr
 ·exact h1 r hr
 ·rw [List.mem_singleton.1 hr]; exact y
def Ew (rs:List Ru) (out:List Nat) (r:Ru) (j:Nat):Prop:=∀ p ∈ r.body.take j,PL rs out r p
theorem Ew.zero (rs:List Ru) (out:List Nat) (r:Ru):Ew rs out r 0:=fun p y=>by simp at y
theorem Ew.snoc {rs:List Ru} {out:List Nat} {r:Ru} {j:Nat} (h:j < r.body.length) (h1:Ew rs out r j) (I:PL rs out r r.body[j]):Ew rs out r (j+1):=fun p y=>by
 rw [ρ h] at y
 rcases μ.1 y with y | y
 ·exact h1 p y
 ·rw [List.mem_singleton.1 y]; exact I
end D
namespace D
open Go.RowKit Go.Lib
theorem Vw {c:UInt8} (h:low c=true):big c=false:=by
 cases hb:big c
 ·rfl
 ·exfalso
  have h1:=(zO c).1 hb;have:low c=false:=(vC c).2 (by omega);rw [this] at h; cases h
theorem Td {s:ByteArray} (h:gZ s=true):qE s=false:=by
 unfold gZ nP at h;simp only [ο] at h;unfold qE
 cases hs:s.data.toList with
 | nil=>simp [big]
 | cons x xs=>
  have:=List.all_eq_true.1 h.1.2 x (by rw [hs]; exact Γ);simp [Vw this]
theorem JL {t:T} (h:iM t=true):xY t.name=t:=by
 unfold xY;unfold iM at h;obtain ⟨v,s⟩:=t;cases v
 ·have:=Td (s:=s) (by simpa using h)
  show (⟨qE s,s⟩:T)=⟨false,s⟩;rw [this]
 ·have h1:vG s=true:=by simpa using h
  unfold vG at h1;simp only [ο] at h1;show (⟨qE s,s⟩:T)=⟨true,s⟩;rw [h1.1.2]
theorem sJ {t:T} (h:iM t=true):(44:UInt8) ∉ t.name.data.toList∧t.name.data.toList ≠ []∧t.name.data.toList.length≤8:=by
 have hz:t.name.data.toList.length=t.name.size:=Array.length_toList;unfold iM at h
 split at h
 ·unfold vG at h
  simp only [ο,decide_eq_true_eq] at h;have h1:=h.1.2;unfold qE at h1;simp only [ο,decide_eq_true_eq] at h1;refine ⟨?_,by intro e; rw [e] at hz; simp at hz; omega,by omega⟩;intro hm
  cases hs:t.name.data.toList with
  | nil=>rw [hs] at hm; simp at hm
  | cons x xs=>
   rw [hs] at hm h1 h
   rcases List.mem_cons.1 hm with e | hm
   ·have y:=h1.2
    rw [← e] at y;exact absurd (show big 44=true from y) (by decide)
   ·exact (G9 _ (List.all_eq_true.1 h.2 _ hm)).2.2.1 rfl
 ·unfold gZ at h
  simp only [ο,decide_eq_true_eq] at h;refine ⟨?_,by intro e; rw [e] at hz; simp at hz; omega,by omega⟩;intro hm;exact (G9 _ (List.all_eq_true.1 h.1.2 _ hm)).2.2.1 rfl
theorem Ox {a:A} (h:aX a=true):CJ a.name.data.toList (kN a.args)=a:=by
 unfold aX at h;simp only [ο] at h;have y:=List.all_eq_true.1 h.2
 have e:a.args=(a.args.map fun t=>t.name.data.toList).map fun w=>xY (toB w):=by
  rw [List.map_map]
  conv=>lhs; rw [← List.map_id a.args]
  refine List.map_congr_left fun t I=>?_
  show t=xY (toB t.name.data.toList);rw [MQ,JL (y t I)]
 have J:kN a.args=joinL 44 (a.args.map fun t=>t.name.data.toList):=by
  conv=>lhs; rw [e]
  rw [CO]
 unfold CJ;obtain ⟨nm,args⟩:=a;dsimp only at *;rw [MQ]
 cases args with
 | nil=>rw [J]; rfl
 | cons t r=>
  have U:joinL 44 ((t :: r).map fun t=>t.name.data.toList) ≠ []:=by
   have I:=(sJ (y t Γ)).2.1
   cases r with
   | nil=>exact I
   | cons u r=>exact List.append_ne_nil_of_left_ne_nil I _
  rw [if_neg (by rw [J]; exact U),J,yT]
  ·rw [← e]
  ·simp
  ·intro p hp
   obtain ⟨u,hu,rfl⟩:=List.mem_map.1 hp;exact (sJ (y u hu)).1
theorem join_le:∀ (ps:List (List UInt8)),(∀ p ∈ ps,p.length≤8)→(joinL 44 ps).length≤9 * ps.length
 | [],_=>by simp [joinL]
 | [p],h=>by have:=h p Γ; simp [joinL]; omega
 | p :: q :: r,h=>by
  have h1:=h p Γ;have I:=join_le (q :: r) fun x y=>h x (Δ _ y)
  show (p ++ 44 :: joinL 44 (q :: r)).length≤_;rw [χ,List.length_cons];simp only [List.length_cons] at *;omega
theorem Vx {a:A} (h:aX a=true):(kN a.args).length≤27:=by
 have h0:=h;unfold aX at h;simp only [ο,decide_eq_true_eq] at h;have y:=List.all_eq_true.1 h.2;have:=Ox h0
 have e:a.args=(a.args.map fun t=>t.name.data.toList).map fun w=>xY (toB w):=by
  rw [List.map_map]
  conv=>lhs; rw [← List.map_id a.args]
  refine List.map_congr_left fun t I=>?_
  show t=xY (toB t.name.data.toList);rw [MQ,JL (y t I)]
 rw [e,CO]
 have:=join_le (a.args.map fun t=>t.name.data.toList) fun p J=>by
  obtain ⟨u,U,rfl⟩:=List.mem_map.1 J;exact (sJ (y u U)).2.2
 rw [List.length_map] at this;omega
theorem JM {s:ByteArray} (h:gZ s=true):s.data.toList.length≤8∧1≤s.data.toList.length:=by
 have hz:s.data.toList.length=s.size:=Array.length_toList;unfold gZ at h;simp only [ο,decide_eq_true_eq] at h;omega
theorem FP {a:A} (h:aX a=true):(uz a).length≤37:=by
 have h1:=Vx h;unfold aX at h;simp only [ο] at h;have y:=JM h.1.1;unfold uz;simp only [χ,List.length_singleton];omega
theorem FQ {a:A} (h:aX a=true):Xr (uz a)=(a,true):=by
 have hl:=FP h
 have hc:cut (uz a) [40]=(a.name.data.toList,kN a.args ++ [41],true):=by
  have J:(40:UInt8) ∉ a.name.data.toList:=by
   unfold aX at h;simp only [ο] at h;exact SQ h.1.1
  rcases WH (uz a) 40 with ⟨h1,_⟩ | ⟨x,y,h1,U,h3⟩
  ·exact absurd (by unfold uz; simp) h1
  ·have e:a.name.data.toList ++ 40 :: (kN a.args ++ [41])=x ++ 40 :: y:=by rw [← h1]; unfold uz; simp
   have I:=pV (kN a.args ++ [41]) J;rw [e,pV y U] at I
   injection I with e1 _
   rw [h3];subst e1;rw [List.append_cancel_left_eq] at e
   injection e with _ e
   rw [e]
 unfold Xr;rw [if_neg (by omega),hc];show (if true=true∧(kN a.args ++ [41]).getLast? = some 41 then _ else _)=_;rw [if_pos ⟨rfl,by simp⟩];show (if aX (CJ a.name.data.toList (kN a.args ++ [41]).dropLast)=true then _ else _)=_;rw [List.dropLast_concat,Ox h,if_pos h]
end D
section
open Go.RowKit D
def D.jI (vars:List ByteArray) (t:T):Int:=if t.var then ((vars.idxOf t.name:Nat):Int) else -1
def D.jJ (t:T):ByteArray:=if t.var then ⟨#[]⟩ else t.name
def D.Dc (vars:List ByteArray):Rel T:=fun _ cs t bs=>cs = [.int .i64 (jI vars t),.string (jJ t)]∧(jJ t).size≤maxLen∧bs = []
theorem D.fP (vars:List ByteArray):Good (Dc vars):=⟨fun h _=>h,fun h b hb=>by rw [h.2.2] at hb; simp at hb⟩
theorem D.Df (vars:List ByteArray):zD 2 (Dc vars):=fun h=>by obtain ⟨rfl,_⟩:=h; simp [Value.oneCell']
def D.jS (vars:List ByteArray):Rel (List T):=ig 2 (Dc vars)
theorem D.cO (vars:List ByteArray):Good (jS vars):=gQ (fP vars) (by omega)
def D.Ey (vars:List ByteArray):Rel A:=fun w cs a bs=>∃ v,cs = [.string a.name,v]∧a.name.size≤maxLen∧jS vars w [v] a.args bs
theorem D.gV (vars:List ByteArray):Good (Ey vars):=
 ⟨fun h J=>by obtain ⟨v,h1,I,y⟩:=h; exact ⟨v,h1,I,(cO vars).keep y J⟩,fun h=>by obtain ⟨v,h1,I,y⟩:=h; exact (cO vars).lt y⟩
theorem D.FT (vars:List ByteArray):zD 2 (Ey vars):=fun h=>by
 obtain ⟨v,rfl,_,y⟩:=h;obtain ⟨I,cap,rfl,_⟩:=ak y;simp [Value.oneCell']
def D.rq (vars:List ByteArray):Rel (List A):=ig 2 (Ey vars)
theorem D.dI (vars:List ByteArray):Good (rq vars):=gQ (gV vars) (by omega)
def D.fV (body:List Pt):List A:=(body.filter fun p=>!p.no).map (·.atom)
def D.dL (body:List Pt):List A:=(body.filter fun p=>p.no).map (·.atom)
def D.Xz:Rel (List Pt):=fun w cs body bs=>∃ y I J U b2 b3,cs = [y,I,J]∧bs=U ++ b2 ++ b3∧rq (aB body) w [y] (fV body) U∧rq (aB body) w [I] (dL body) b2∧ji w [J] (aB body) b3
theorem D.wI {vars:List ByteArray} {w:World} {J:Option Addr} {len cap:Nat} {I:List T} {bs:List Nat} {k:Nat} (h:jS vars w [.slice J len cap] I bs) (U:k < I.length):
  ∃ b o,J=some ⟨b,o,none⟩∧b ∈ bs∧w.cell? ⟨b,o+k * 2,none⟩=some (.int .i64 (jI vars I[k]))∧w.cell? ⟨b,o+k * 2+1,none⟩=some (.string (jJ I[k]))∧(jJ I[k]).size≤maxLen:=by
 obtain ⟨b,o,cs,bk,rfl,hb,a0,y,⟨rfl,hs,_⟩,_⟩:=iD h U;exact ⟨b,o,rfl,hb,by simpa using y 0 _ rfl,by have:=y 1 _ rfl; simpa [Nat.add_assoc] using this,hs⟩
theorem D.wJ {vars:List ByteArray} {w:World} {Ad:Option Addr} {len cap:Nat} {xs:List A} {bs:List Nat} {k:Nat} (h:rq vars w [.slice Ad len cap] xs bs) (hk:k < xs.length):
  ∃ b o I J U,Ad=some ⟨b,o,none⟩∧b ∈ bs∧w.cell? ⟨b,o+k * 2,none⟩=some (.string xs[k].name)∧w.cell? ⟨b,o+k * 2+1,none⟩=some (.slice I xs[k].args.length J)∧
   Ey vars w [.string xs[k].name,.slice I xs[k].args.length J] xs[k] U∧∀ c ∈ U,c ∈ bs:=by
 obtain ⟨b,o,cs,U,rfl,hb,a0,y,⟨v,rfl,hs,h3⟩,hin⟩:=iD h hk;obtain ⟨I,J,rfl,_⟩:=ak h3;exact ⟨b,o,I,J,U,rfl,hb,by simpa using y 0 _ rfl,by have:=y 1 _ rfl; simpa [Nat.add_assoc] using this,⟨_,rfl,hs,h3⟩,hin⟩
structure D.wK {α:Type} (n:Nat) (R:Rel α) (e tb:TypeId) (w:World) (hz hb B:Nat) (nm:ByteArray) (v:Value) (L:List Value) (xs:List α) (wr:World):Prop where
 r0:wr.heap[hz]? = some (.cells #[.string ⟨#[]⟩,.slice none 0 0] tb (0,0))
 r1:wr.heap[hb]? = some (.cells #[.string nm,v] tb (0,0))
 h0:w.heap.size≤hz
 h1:hz < hb
 hB:hb < B
 coll:aZ n R B e wr v L xs []
 bel:Below w.heap.size w wr
 oC:B≤wr.heap.size
section
variable {α:Type} {n:Nat} {R:Rel α} {e tb:TypeId} {w:World} {hz hb B:Nat} {nm:ByteArray} {v:Value} {L:List Value} {xs:List α} {wr:World}
theorem D.wK.later {w':World} (g:Good R) (h:wK n R e tb w hz hb B nm v L xs wr) (y:Below wr.heap.size wr w'):wK n R e tb w hz hb B nm v L xs w':=
 ⟨(y.block _ (ψ h.r0)).trans h.r0,(y.block _ (ψ h.r1)).trans h.r1,h.h0,h.h1,h.hB,h.coll.below g y,h.bel.trans (y.mono h.bel.size),τ h.oC y.size⟩
theorem D.wK.lit {cs:List Value} {x:α} (g:Good R) (o:zD n R) (h:wK n R e tb w hz hb B nm v L xs wr) (I:∀ w,R w cs x []):
  aZ n R B e (wr.alloc (.cells cs.toArray e)) v L xs []∧aQ n R (wr.alloc (.cells cs.toArray e)) cs [x] []∧Lies (wr.alloc (.cells cs.toArray e)) (some ⟨wr.heap.size,0,none⟩) cs∧
   Below B wr (wr.alloc (.cells cs.toArray e))∧B≤(wr.alloc (.cells cs.toArray e)).heap.size:=by
 have y:Below wr.heap.size wr (wr.alloc (.cells cs.toArray e)):=ζ;exact ⟨(h.later g y).coll,aQ.dh o (I _),by have:=aS (ω wr (.cells cs.toArray e)); simpa using this,ϑ.alloc h.oC _,τ h.oC y.size⟩
theorem D.wK.app {y:World} {U:Value} {L3:List Value} {I:List α} (g:Good R) (h:wK n R e tb w hz hb B nm v L xs wr) (hC:aZ n R B e y U L3 I []) (J:Below B wr y):
  y.cell? ⟨hb,1,none⟩=some v∧y.frozen? ⟨hb,1,none⟩=false∧wK n R e tb w hz hb B nm U L3 I (y.setCell ⟨hb,1,none⟩ U)∧∀ c,c < B→c ≠ hb→(y.setCell ⟨hb,1,none⟩ U).heap[c]? = wr.heap[c]?:=by
 have b0:=(J.block hz (Nat.lt_trans h.h1 h.hB)).trans h.r0;have b1:=(J.block hb h.hB).trans h.r1;refine ⟨ai b1,ax b1,⟨(π _ _ _ _ (by have:=h.h1; show hz ≠ hb; omega)).trans b0,zT b1,h.h0,h.h1,h.hB,hC.lZ g (aP hC.own h.hB) (by simp),(h.bel.trans (J.mono (by have:=h.h0; have:=h.h1; have:=h.hB; omega))).setCell (by have:=h.h0; have:=h.h1; show w.heap.size≤hb; omega) _,?_⟩,fun c hc a0=>by rw [π _ _ _ _ a0]; exact J.block c hc⟩;have:=J.size; have:=h.oC; simp [World.setCell]; omega
theorem D.wK.done (g:Good R) (h:wK n R e tb w hz hb B nm v L xs wr):
  ∃ W,W=(wr.setCell ⟨hz,0,none⟩ (.string nm)).setCell ⟨hz,1,none⟩ v∧Below w.heap.size w W∧W.heap[hz]? = some (.cells #[.string nm,v] tb (0,0))∧∃ I,ig n R W [v] xs I∧New B W I:=by
 obtain ⟨I,hs,J⟩:=h.coll.new (New.nil _ _);have a3:=h.h1;have a2:=h.hB;have U:=h.h0
 have keep:∀ b,b ≠ hz→((wr.setCell ⟨hz,0,none⟩ (.string nm)).setCell ⟨hz,1,none⟩ v).heap[b]? = wr.heap[b]?:=fun b y=>by
  rw [π _ _ _ _ y,π _ _ _ _ y]
 have k9:∀ b ∈ I,b ≠ hz:=fun b y e=>by have:=(J.own b y).1; omega
 refine ⟨_,rfl,(h.bel.setCell (p:=⟨hz,0,none⟩) U _).setCell (p:=⟨hz,1,none⟩) U _,?_,I,?_,?_⟩
 ·have:=bK (o:=1) (u:=v) (bK (o:=0) (u:=.string nm) h.r0)
  simpa using this
 ·obtain ⟨Ad,cap,h1,h2,h3,h4,h5⟩:=hs
  refine ⟨Ad,cap,h1,h2,h3,h4,fun a0=>?_⟩;obtain ⟨b,o,q1,F,G,q2,q3⟩:=h5 a0;refine ⟨b,o,q1,F,G,q2,fun k x hx=>?_⟩;obtain ⟨p1,p2,p3⟩:=q3 k x hx;have a1:b ∈ I:=by rw [q2]; exact Γ
  refine ⟨p1,fun j u hj=>by rw [World.cell?_of_block (w:=wr) (keep b (k9 b a1))]; exact p2 j u hj,g.keep p3 fun c hc=>keep c (k9 c ?_)⟩;rw [q2];exact Δ _ (List.mem_flatMap.2 ⟨k,List.mem_range.2 (List.getElem?_eq_some_iff.1 hx).1,hc⟩)
 ·exact J.keep fun b y=>keep b (k9 b y)
end
theorem wL:(Tryz.prog.info? 3).map (fun i=>(i.zero,i.size,i.bytes))=some (some (.int .i64 0),1,8):=by kernel_rfl
def D.wM:Rel Nat:=fun _ cs x bs=>cs = [.int .i64 x]∧bs = []
def D.gU:Rel (List Nat):=ig 1 wM
theorem D.iF:Good wM:=⟨fun h _=>h,fun h b hb=>by rw [h.2] at hb; simp at hb⟩
theorem D.aW:Good gU:=gQ iF (by omega)
theorem D.ru {w:World} {g:Nat} {out:List Nat} (h:w.heap[g]? = some (.cells (uM out) 3 (0,0))) (hl:out.length≤maxLen):∃ bs,gU w [.slice (some ⟨g,0,none⟩) out.length out.length] out bs∧bs.Nodup∧∀ b ∈ bs,b=g:=by
 by_cases J:out = []
 ·subst J
  exact ⟨[],⟨_,_,rfl,ν,ε,fun _=>rfl,fun h=>absurd rfl h⟩,List.nodup_nil,fun b hb=>by simp at hb⟩
 ·refine ⟨g :: (List.range out.length).flatMap fun _=>[],⟨_,_,rfl,ν,hl,fun h=>absurd h J,fun _=>⟨g,0,rfl,fun k=>[.int .i64 (fU out k:Nat)],fun _=>[],rfl,fun k x U=>⟨rfl,fun j v y=>?_,?_,rfl⟩⟩⟩,by rw [show (List.range out.length).flatMap (fun _=>([]:List Nat)) = [] from List.flatMap_eq_nil_iff.2 fun _ _=>rfl]; simp,fun b hb=>by simpa using hb⟩
  ·have I:k < out.length:=(List.getElem?_eq_some_iff.1 U).1
   match j,y with
   | 0,y=>
    simp only [List.getElem?_cons_zero,Option.some.injEq] at y;rw [ai h,← y];have:=uN I;simpa using this
   | j+1,y=>simp at y
  ·have:fU out k=x:=by unfold fU; rw [List.getD_eq_getElem?_getD,U]; rfl
   simp only [this]
theorem D.nK {w:World} {I:Option Addr} {len cap:Nat} {xs:List Nat} {bs:List Nat} {k:Nat} (h:gU w [.slice I len cap] xs bs) (J:k < xs.length):
  ∃ b o,I=some ⟨b,o,none⟩∧b ∈ bs∧w.cell? ⟨b,o+k,none⟩=some (.int .i64 (xs[k]:Nat)):=by
 obtain ⟨b,o,cs,bk,rfl,hb,U,y,⟨rfl,_⟩,_⟩:=iD h J;exact ⟨b,o,rfl,hb,by simpa using y 0 _ rfl⟩
end
section
open Go.RowKit D
attribute [local go_sem ↓] Go.wp_at_zero Go.wp_at_succ
theorem Nr (ps:List Pt) (v:Value) (bs:List Nat) (w:World) (h:gW w [v] ps bs):
  Calls Tryz.prog 186 #[v] w fun e w'=>e=.returned (.bool (mD ps))∧Below w.heap.size w w':=by
 obtain ⟨Ad,cap,rfl,hl,hm⟩:=ak h;have a3:=aA (τ hl hm);clear hm;unfold mD;by_cases h4:ps.length≤4
 ·go_enter Tryz.func186,Tryz.ntmps186
  go_wp2
  go_loopw [10] (fun i wr=>∃ k:Nat,k≤ps.length∧i=.int .i64 k∧(ps.take k).all (fun p=>aX p.atom)=true∧Below w.heap.size w wr) (fun i _=>ps.length - (intOf i).toNat)
  case atStart=>exact ⟨0,ε,rfl,rfl,ϑ⟩
  case round=>
   obtain ⟨k,hk,rfl,y,hb⟩:=hrel;have HA:=η y;clear y;by_cases I:k < ps.length
   ·obtain ⟨b0,o,Ae,ce,bk,rfl,_,d0,d1,d2,U,_⟩:=iH (dw.below h hb) I
    have hA:=(Below.refl wr.heap.size wr).alloc ν (.cells #[.bool ps[k].no,.string ps[k].atom.name,.slice Ae ps[k].atom.args.length ce] 42);have a0:=aj.below (iV U) hA;clear h U
    go_wp2_with fail
    refine (qX ps[k].atom _ _ bk _ a0).mono ?_;rintro e w' ⟨rfl,a1⟩;have B':=(hb.trans (hA.mono hb.size)).trans (a1.mono (by have:=hA.size; have:=hb.size; omega));clear a0 hA;by_cases J:aX ps[k].atom=true
    ·have a2:(!aX ps[k].atom)=false:=by simp [J]
     have HX:=η J;clear J;go_wp2;go_roundw
     case rel=>exact ⟨k+1,by omega,by go_num,by rw [iP ps k I,HA.out]; exact HX.out,B'⟩
     case measure=>simp [intOf]; omega
    ·have a2:(!aX ps[k].atom)=true:=by simpa using J
     have HX:=η J;clear J;go_wp2;go_ret;exact ⟨aJ (by rw [rZ ps k I (by simpa using HX.out)]; simp),B'⟩
   ·have he:=η (show k=ps.length by omega)
    go_wp2;go_ret;exact ⟨aJ (by have:=HA.out; rw [he.out,ϕ ν] at this; rw [this]; simp; omega),hb⟩
 ·go_enter Tryz.func186,Tryz.ntmps186
  go_wp2;go_ret;exact ⟨aJ (by simp; omega),ϑ⟩
end
end Go.Proofs.YtkjinanbccloeaaGreatDoor
