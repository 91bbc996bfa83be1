/- Of the proof of FnDeltaBoth: S9, LevI, AtTxP, QryP, IntK, ChP, Body. -/
import Derived.Test.YtkjinanbccloeaaGreatDoorC09
set_option linter.unusedVariables false
set_option maxHeartbeats 400000
namespace Go.Proofs.YtkjinanbccloeaaGreatDoor
namespace D
open Go.RowKit
abbrev Wo:=ByteArray→ByteArray
def yN (σ:Wo) (t:T):T:=⟨false,if t.var then σ t.name else t.name⟩
def iF (σ:Wo) (a:A):A:=⟨a.name,a.args.map (yN σ)⟩
def YW (list:List A) (r:Ru) (a:A):Prop:=∃ σ:Wo,a=iF σ r.head∧∀ p ∈ r.body,hasB list (iF σ p.atom) = !p.no
def TJ (b:Bd) (σ:Wo):Prop:=∀ n v,gJ b n=some v→σ n=v
def yO (b:Bd) (y:List T):Prop:=∀ t ∈ y,t.var=true→(gJ b t.name).isSome=true
def Le (b y:Bd):Prop:=∀ n v,gJ b n=some v→gJ y n=some v
theorem Le.refl (b:Bd):Le b b:=fun _ _ h=>h
theorem Le.trans {a b c:Bd} (h:Le a b) (k:Le b c):Le a c:=fun n v e=>k n v (h n v e)
theorem Le.YN {b y:Bd} (h:Le b y) {I:List T} (hc:yO b I):yO y I:=fun t J hv=>by
 obtain ⟨v,hv⟩:=Option.isSome_iff_exists.1 (hc t J hv);rw [h _ _ hv]; rfl
theorem TJ.of_le {b y:Bd} {σ:Wo} (h:TJ y σ) (I:Le b y):TJ b σ:=fun n v e=>h n v (I n v e)
theorem Jv (b:Bd):TJ b (jC b):=fun n v e=>by unfold jC; rw [e]; rfl
theorem nS (b c:Bd) (n:ByteArray):gJ (b ++ c) n=(gJ b n).or (gJ c n):=by
 induction b with
 | nil=>simp [gJ]
 | cons p b ih=>
  simp only [List.cons_append,gJ]
  split
  ·rfl
  ·exact ih
theorem Le.append (b c:Bd):Le b (b ++ c):=fun n v h=>by rw [nS,h]; rfl
theorem UW {b:Bd} {σ:Wo} {y:List T} (hc:yO b y) (ha:TJ b σ):y.map (dU b)=y.map (yN σ):=by
 refine List.map_congr_left fun t I=>?_
 unfold dU yN;cases hv:t.var
 ·rfl
 ·obtain ⟨v,h⟩:=Option.isSome_iff_exists.1 (hc t I hv)
  simp only [if_true,jC,h,Option.getD_some,ha _ _ h]
theorem kQ {b:Bd} {σ:Wo} {a:A} (hc:yO b a.args) (ha:TJ b σ):dD a b=iF σ a:=by
 unfold dD iF;rw [UW hc ha]
theorem UX {b y:Bd} {a:A} (hc:yO b a.args) (I:Le b y):dD a y=dD a b:=
 (kQ (I.YN hc) (Jv y)).trans (kQ hc ((Jv y).of_le I)).symm
theorem oU:∀ (y fs:List T) (b:Bd),Le b (dH y fs b).1
 | [],fs,b=>by cases fs <;> exact Le.refl b
 | t :: y,[],b=>Le.refl b
 | t :: y,f :: fs,b=>by
  rw [dH]
  split
  ·split
   ·split
    ·exact oU y fs b
    ·exact Le.refl b
   ·exact (Le.append _ _).trans (oU y fs _)
  ·split
   ·exact oU y fs b
   ·exact Le.refl b
theorem Cm:∀ (y fs:List T) (b:Bd),y.length=fs.length→(∀ f ∈ fs,f.var=false)→(dH y fs b).2=true→yO (dH y fs b).1 y∧y.map (dU (dH y fs b).1)=fs
 | [],[],b,_,_,_=>⟨fun t J=>absurd J (by simp),rfl⟩
 | [],f :: fs,b,h,_,_=>by simp at h
 | t :: y,[],b,h,_,_=>by simp at h
 | ⟨tv,tn⟩ :: y,⟨fv,fn⟩ :: fs,b,hl,hv,hm=>by
  have hf:fv=false:=hv _ Γ;subst hf;have a0:∀ f ∈ fs,f.var=false:=fun f h=>hv f (Δ _ h)
  have a1:y.length=fs.length:=by simpa using hl
  have I:∀ b0:Bd,(dH y fs b0).2=true→(tv=true→gJ b0 tn=some fn)→(tv=false→tn=fn)→
    yO (dH y fs b0).1 (⟨tv,tn⟩ :: y)∧(⟨tv,tn⟩ :: y).map (dU (dH y fs b0).1)=⟨false,fn⟩ :: fs:=by
   intro b0 a2 h1 h2;obtain ⟨i1,i2⟩:=Cm y fs b0 a1 a0 a2;refine ⟨fun t J U=>?_,?_⟩
   ·rcases ύ.1 J with rfl | J
    ·rw [oU y fs b0 _ _ (h1 U)]; rfl
    ·exact i1 t J U
   ·rw [List.map_cons,i2]
    congr 1
    unfold dU;cases tv
    ·simp [h2 rfl]
    ·simp [jC,oU y fs b0 _ _ (h1 rfl)]
  rw [dH] at hm ⊢;dsimp only at hm ⊢
  split at hm
  ·rename_i e1
   rw [if_pos e1]
   cases hg:gJ b tn with
   | some v=>
    rw [hg] at hm;dsimp only at hm ⊢
    split at hm
    ·rename_i e2
     subst e2;rw [if_pos rfl];exact I b hm (fun _=>hg) fun e=>by rw [e] at e1; cases e1
    ·cases hm
   | none=>
    rw [hg] at hm;dsimp only at hm ⊢;exact I _ hm (fun _=>by rw [nS,hg]; simp [gJ]) fun e=>by rw [e] at e1; cases e1
  ·rename_i e1
   rw [if_neg e1]
   split at hm
   ·rename_i e2
    rw [if_pos e2];exact I b hm (fun e=>absurd e e1) fun _=>e2
   ·cases hm
theorem oI:∀ (y fs:List T) (b:Bd) (σ:Wo),TJ b σ→y.map (yN σ)=fs→(dH y fs b).2=true∧TJ (dH y fs b).1 σ
 | [],fs,b,σ,ha,h=>by cases fs with
  | nil=>exact ⟨rfl,ha⟩
  | cons f fs=>simp at h
 | t :: y,[],b,σ,ha,h=>by simp at h
 | ⟨tv,tn⟩ :: y,f :: fs,b,σ,ha,h=>by
  simp only [List.map_cons,List.cons.injEq] at h;obtain ⟨rfl,h⟩:=h;rw [dH];cases tv
  ·simp only [yN,Bool.false_eq_true,if_false]
   exact oI y fs b σ ha h
  ·simp only [yN,if_true]
   cases hg:gJ b tn with
   | some v=>
    dsimp only;rw [if_pos (ha _ _ hg).symm];exact oI y fs b σ ha h
   | none=>
    dsimp only;refine oI y fs _ σ (fun n v e=>?_) h;rw [nS] at e
    cases hn:gJ b n with
    | some u=>rw [hn] at e; simp at e; rw [← e]; exact ha _ _ hn
    | none=>
     rw [hn] at e;simp only [Option.none_or,gJ] at e
     split at e
     ·rename_i e2; subst e2; simpa using e
     ·cases e
theorem oV (a f:A) (b:Bd):Le b (aF a f b).1:=by
 unfold aF
 split
 ·exact oU _ _ _
 ·exact Le.refl b
theorem nT {a f:A} {b:Bd} (hf:∀ t ∈ f.args,t.var=false) (h:(aF a f b).2=true):yO (aF a f b).1 a.args∧dD a (aF a f b).1=f:=by
 unfold aF at h ⊢
 split at h
 ·rename_i e
  rw [if_pos e];obtain ⟨h1,y⟩:=Cm a.args f.args b e.2 hf h;refine ⟨h1,?_⟩;unfold dD;rw [y];obtain ⟨n,I⟩:=f;simp only at e;rw [e.1]
 ·cases h
theorem oJ {a f:A} {b:Bd} {σ:Wo} (ha:TJ b σ) (h:iF σ a=f):(aF a f b).2=true∧TJ (aF a f b).1 σ:=by
 subst h;unfold aF;rw [if_pos ⟨rfl,by simp [iF]⟩];exact oI _ _ _ _ ha rfl
def Gr (a:A):Prop:=∀ t ∈ a.args,t.var=false
theorem rY (σ:Wo) (a:A):Gr (iF σ a):=fun t y=>by
 obtain ⟨u,_,rfl⟩:=List.mem_map.1 y;rfl
theorem XK {a b:A} (ha:Gr a) (hb:Gr b) (h:dh a b=0):a=b:=by
 have:=(uf a b).1 h;unfold tJ at this;simp only [List.cons.injEq] at this;obtain ⟨n,y⟩:=a;obtain ⟨m,us⟩:=b;dsimp only at *;obtain ⟨rfl,I⟩:=this;have e:y=us:=zN ha hb I;rw [e]
theorem rZ {xs:List A} (y:∀ x ∈ xs,Gr x) {a:A} (ha:Gr a):hasB xs a=true ↔ a ∈ xs:=by
 refine ⟨fun h=>?_,jR⟩;obtain ⟨x,hm,hc⟩:=lW.1 h;rw [← XK (y x hm) ha hc]; exact hm
theorem yP (a:A) (b:Bd):dD a b=iF (jC b) a:=rfl
theorem EU {list:List A} (hl:∀ x ∈ list,Gr x) (body:List Pt):∀ k,k≤body.length→∀ b ∈ yG list (body.take k),∀ p ∈ body.take k,p.no=false→yO b p.atom.args∧dD p.atom b ∈ list:=by
 intro k
 induction k with
 | zero=>intro _ b _ p y; simp at y
 | succ k ih=>
  intro hk b hb p y I;rw [vP list body k (by omega)] at hb;rw [ρ (by omega)] at y;unfold Ic at hb
  split at hb
  ·rename_i hn
   rcases μ.1 y with y | y
   ·exact ih (by omega) b hb p y I
   ·rw [ώ.1 y] at I; rw [I] at hn; cases hn
  ·obtain ⟨b0,h0,J⟩:=List.mem_flatMap.1 hb
   unfold kH at J;obtain ⟨f,hf,e⟩:=List.mem_filterMap.1 J
   split at e
   ·rename_i hm
    cases e
    rcases μ.1 y with y | y
    ·obtain ⟨h1,U⟩:=ih (by omega) b0 h0 p y I
     refine ⟨(oV _ _ _).YN h1,?_⟩;rw [UX h1 (oV _ _ _)]; exact U
    ·rw [ώ.1 y]
     obtain ⟨h1,U⟩:=nT (hl f hf) hm;exact ⟨h1,by rw [U]; exact hf⟩
   ·cases e
theorem O0 {list:List A} {σ:Wo} (body:List Pt) (y:∀ p ∈ body,p.no=false→iF σ p.atom ∈ list):∀ k,k≤body.length→∃ b ∈ yG list (body.take k),TJ b σ:=by
 intro k
 induction k with
 | zero=>intro _; exact ⟨[],by simp [yG],fun n v h=>by simp [gJ] at h⟩
 | succ k ih=>
  intro J;obtain ⟨b,hb,ha⟩:=ih (by omega);rw [vP list body k (by omega)];unfold Ic
  split
  ·exact ⟨b,hb,ha⟩
  ·rename_i hn
   have hin:=y body[k] (δ (by omega)) (by simpa using hn);obtain ⟨h1,I⟩:=oJ ha (rfl:iF σ body[k].atom=_);refine ⟨_,List.mem_flatMap.2 ⟨b,hb,?_⟩,I⟩;unfold kH;exact List.mem_filterMap.2 ⟨_,hin,by rw [if_pos h1]⟩
def UY (r:Ru):Prop:=∀ x,(kR x r.head.args∨∃ p ∈ r.body,kR x p.atom.args)→∃ p ∈ r.body,p.no=false∧kR x p.atom.args
theorem Ik {r:Ru} (J:UY r) {b:Bd} (hb:∀ p ∈ r.body,p.no=false→yO b p.atom.args):yO b r.head.args∧∀ p ∈ r.body,yO b p.atom.args:=by
 have h:∀ x,(kR x r.head.args∨∃ p ∈ r.body,kR x p.atom.args)→(gJ b x).isSome=true:=fun x U=>by
  obtain ⟨p,I,hn,t,h1,y,rfl⟩:=J x U;exact hb p I hn t h1 y
 exact ⟨fun t h1 y=>h _ (.inl ⟨t,h1,y,rfl⟩),fun p I t h1 y=>h _ (.inr ⟨p,I,t,h1,y,rfl⟩)⟩
theorem UZ {list:List A} (U:∀ x ∈ list,Gr x) {r:Ru} (ht:UY r) (a:A):(∃ b ∈ allB list r.body,dD r.head b=a) ↔ YW list r a:=by
 constructor
 ·rintro ⟨b,hb,rfl⟩
  unfold allB at hb;obtain ⟨h1,h2⟩:=List.mem_filter.1 hb;have y:=EU U r.body r.body.length ν;rw [ϕ ν] at y;have y:=y b h1;refine ⟨jC b,yP _ _,fun p I=>?_⟩;cases hn:p.no
  ·rw [← yP]
   exact jR (y p I hn).2
  ·unfold jl at h2
   have:=ό.1 h2 p I;rw [hn] at this;rw [← yP];simpa using this
 ·rintro ⟨σ,rfl,I⟩
  have J:∀ p ∈ r.body,p.no=false→iF σ p.atom ∈ list:=fun p h hn=>(rZ U (rY _ _)).1 (by rw [I p h,hn]; rfl)
  have hw:=O0 (list:=list) (σ:=σ) r.body J r.body.length ν;have y:=EU U r.body r.body.length ν;rw [ϕ ν] at hw y;obtain ⟨b,hb,ha⟩:=hw;obtain ⟨a0,a1⟩:=Ik ht fun p h hn=>(y b hb p h hn).1
  refine ⟨b,?_,kQ a0 ha⟩;unfold allB;refine List.mem_filter.2 ⟨hb,?_⟩;unfold jl;refine ό.2 fun p h=>?_
  rw [kQ (a1 p h) ha,I p h]
  cases p.no <;> rfl
def Gi (out:List Nat):Array Value:=(out.map fun n:Nat=>Value.int .i64 (n:Int)).toArray
theorem EW {out:List Nat} {i:Nat} (h:i < out.length):(Gi out)[i]? = some (.int .i64 (jb out i:Nat)):=by
 unfold Gi jb;simp [Ψ h]
theorem Jw (out:List Nat) (i v:Nat):(Gi out).setIfInBounds i (.int .i64 (v:Nat))=Gi (out.set i v):=by
 unfold Gi;simp [List.map_set]
theorem EX (n:Nat):madeCells #[Value.int .i64 0] n=Gi (List.replicate n 0):=by
 unfold madeCells Gi;refine Array.ext (by simp) fun i h1 y=>?_
 simp [Nat.mod_one]
def numOf:Option Value→Nat
 | some (.int _ z)=>z.toNat
 | _=>0
def EY (w:World) (g n:Nat):Nat:=((List.range n).map fun i=>numOf (w.cell? ⟨g,i,none⟩)).sum
theorem Il {w:World} {g:Nat} {out:List Nat} {t:TypeId} (h:w.heap[g]? = some (.cells (Gi out) t (0,0))):EY w g out.length=out.sum:=by
 unfold EY
 have:((List.range out.length).map fun i=>numOf (w.cell? ⟨g,i,none⟩))=out:=by
  refine List.ext_getElem (by simp) fun i h1 y=>?_
  simp only [List.getElem_map,List.getElem_range];rw [ai h,EW y];unfold numOf jb;simp [Ψ y]
 rw [this]
def nU (rs:List Ru) (out:List Nat) (s:ByteArray):Nat:=jb out ((aO rs).idxOf s)
structure O1 (rs:List Ru) (out:List Nat):Prop where
 len:out.length=(aO rs).length
 bel:∀ T,OC rs T→∀ n ∈ cO rs,nU rs out n≤T n
 lo:∀ i,i < out.length→jb out i < out.length
theorem EZ (n i:Nat):jb (List.replicate n 0) i=0:=by
 unfold jb; rw [List.getD_eq_getElem?_getD,List.getElem?_replicate]; split <;> rfl
theorem O1.zero (rs:List Ru):O1 rs (List.replicate (aO rs).length 0):=
 ⟨by simp,fun T _ n _=>by unfold nU; rw [EZ]; exact ε,fun i h=>by rw [EZ]; omega⟩
theorem O1.Jh {rs:List Ru} {out:List Nat} (h:O1 rs out):out.sum≤(aO rs).length * (aO rs).length:=by
 have:=Hy (out:=out) (n:=out.length) fun i y=>Nat.le_of_lt (h.lo i y)
 rw [h.len] at this;exact this
theorem xJ {rs:List Ru} {n:ByteArray} (h:n ∈ cO rs):(aO rs).idxOf n < (aO rs).length:=List.idxOf_lt_length_of_mem (jK.2 h)
theorem O1.step {rs:List Ru} {out:List Nat} (h:O1 rs out) {r:Ru} (hr:r ∈ rs) {p:Pt} (hp:p ∈ r.body) (hh:p.atom.name ∈ cO rs) {l:Nat} (hl:l=nU rs out p.atom.name+D6 p)
  (I:nU rs out r.head.name < l) (hN:l < (aO rs).length):O1 rs (out.set ((aO rs).idxOf r.head.name) l)∧out.sum < (out.set ((aO rs).idxOf r.head.name) l).sum:=by
 have hi:=xJ (head_mem hr);have y:(aO rs).idxOf r.head.name < out.length:=by rw [h.len]; exact hi
 refine ⟨⟨by simp [h.len],fun T U n hn=>?_,fun i J=>?_⟩,?_⟩
 ·unfold nU
  rw [qo y]
  split
  ·rename_i e
   have e2:n=r.head.name:=by
    have h1:=List.getElem_idxOf hi;have h2:=List.getElem_idxOf (xJ hn);rw [← h2,← h1]
    congr 1
    exact e.symm
   have h3:=U r hr p hp hh;have h4:=h.bel T U _ hh;rw [e2,hl]; omega
  ·exact h.bel T U n hn
 ·rw [List.length_set] at J ⊢
  rw [qo y]
  split
  ·rw [h.len]; exact hN
  ·exact h.lo i J
 ·refine UE (OD (Nat.le_of_lt I)) fun e=>?_
  have h5:=zX y e;unfold nU at I;omega
theorem O1.err {rs:List Ru} {out:List Nat} (h:O1 rs out) {r:Ru} (hr:r ∈ rs) {p:Pt} (J:p ∈ r.body) (y:p.atom.name ∈ cO rs) {l:Nat} (hl:l=nU rs out p.atom.name+D6 p)
  (hN:(aO rs).length≤l):nC rs=true:=by
 refine Rh fun S U=>?_
 obtain ⟨T,I,hs⟩:=Hw U;have h1:=I r hr p J y;have h2:=hs _ (head_mem hr);have h3:=h.bel T I _ y;omega
def RD (rs:List Ru) (out:List Nat) (r:Ru) (p:Pt):Prop:=p.atom.name ∈ cO rs→nU rs out p.atom.name+D6 p≤nU rs out r.head.name
def xK (rs:List Ru) (out:List Nat) (k:Nat):Prop:=∀ r ∈ rs.take k,∀ p ∈ r.body,RD rs out r p
theorem O1.done {rs:List Ru} {out:List Nat} (h:O1 rs out) (y:xK rs out rs.length):nC rs=false∧∀ i,i < rs.length→nU rs out (eH rs i).head.name=jb (aA rs) i:=by
 have h1:OC rs (nU rs out):=fun r hr p I J=>y r (by rw [ϕ ν]; exact hr) p I J
 exact ⟨zY h1,UG h1 h.bel⟩
theorem xK.zero (rs:List Ru) (out:List Nat):xK rs out 0:=fun r hr=>by simp at hr
theorem xK.snoc {rs:List Ru} {out:List Nat} {k:Nat} (h:k < rs.length) (h1:xK rs out k) (y:∀ p ∈ rs[k].body,RD rs out rs[k] p):xK rs out (k+1):=fun r hr=>by
 rw [ρ h] at hr
 rcases μ.1 hr with hr | hr
 ·exact h1 r hr
 ·rw [ώ.1 hr]; exact y
def Gn (rs:List Ru) (out:List Nat) (r:Ru) (j:Nat):Prop:=∀ p ∈ r.body.take j,RD rs out r p
theorem Gn.zero (rs:List Ru) (out:List Nat) (r:Ru):Gn rs out r 0:=fun p y=>by simp at y
theorem Gn.snoc {rs:List Ru} {out:List Nat} {r:Ru} {j:Nat} (h:j < r.body.length) (h1:Gn rs out r j) (I:RD rs out r r.body[j]):Gn rs out r (j+1):=fun p y=>by
 rw [ρ h] at y
 rcases μ.1 y with y | y
 ·exact h1 p y
 ·rw [ώ.1 y]; exact I
end D
namespace D
open Go.RowKit Go.Lib
theorem Xb {c:UInt8} (h:low c=true):big c=false:=by
 cases hb:big c
 ·rfl
 ·exfalso
  have h1:=(DY c).1 hb;have:low c=false:=(yh c).2 (by omega);rw [this] at h; cases h
theorem U0 {s:ByteArray} (h:jc s=true):tH s=false:=by
 unfold jc qf at h;simp only [ο] at h;unfold tH
 cases hs:s.data.toList with
 | nil=>simp [big]
 | cons x xs=>
  have:=ό.1 h.1.2 x (by rw [hs]; exact Γ);simp [Xb this]
theorem L6 {t:T} (h:jv t=true):zZ t.name=t:=by
 unfold zZ;unfold jv at h;obtain ⟨v,s⟩:=t;cases v
 ·have:=U0 (s:=s) (by simpa using h)
  show (⟨tH s,s⟩:T)=⟨false,s⟩;rw [this]
 ·have h1:yj s=true:=by simpa using h
  unfold yj at h1;simp only [ο] at h1;show (⟨tH s,s⟩:T)=⟨true,s⟩;rw [h1.1.2]
theorem vT {t:T} (h:jv t=true):(44:UInt8) ∉ t.name.data.toList∧t.name.data.toList ≠ []∧t.name.data.toList.length≤8:=by
 have hz:t.name.data.toList.length=t.name.size:=Array.length_toList;unfold jv at h
 split at h
 ·unfold yj at h
  simp only [ο,decide_eq_true_eq] at h;have h1:=h.1.2;unfold tH at h1;simp only [ο,decide_eq_true_eq] at h1;refine ⟨?_,by intro e; rw [e] at hz; simp at hz; omega,by omega⟩;intro hm
  cases hs:t.name.data.toList with
  | nil=>rw [hs] at hm; simp at hm
  | cons x xs=>
   rw [hs] at hm h1 h
   rcases ύ.1 hm with e | hm
   ·have y:=h1.2
    rw [← e] at y;exact absurd (show big 44=true from y) (by decide)
   ·exact (Jr _ (ό.1 h.2 _ hm)).2.2.1 rfl
 ·unfold jc at h
  simp only [ο,decide_eq_true_eq] at h;refine ⟨?_,by intro e; rw [e] at hz; simp at hz; omega,by omega⟩;intro hm;exact (Jr _ (ό.1 h.1.2 _ hm)).2.2.1 rfl
theorem Qk {a:A} (h:bU a=true):EL a.name.data.toList (lY a.args)=a:=by
 unfold bU at h;simp only [ο] at h;have y:=ό.1 h.2
 have e:a.args=(a.args.map fun t=>t.name.data.toList).map fun w=>zZ (toB w):=by
  rw [List.map_map]
  conv=>lhs; rw [← List.map_id a.args]
  refine List.map_congr_left fun t I=>?_
  show t=zZ (toB t.name.data.toList);rw [OH,L6 (y t I)]
 have J:lY a.args=joinL 44 (a.args.map fun t=>t.name.data.toList):=by
  conv=>lhs; rw [e]
  rw [EM]
 unfold EL;obtain ⟨nm,args⟩:=a;dsimp only at *;rw [OH]
 cases args with
 | nil=>rw [J]; rfl
 | cons t r=>
  have U:joinL 44 ((t :: r).map fun t=>t.name.data.toList) ≠ []:=by
   have I:=(vT (y t Γ)).2.1
   cases r with
   | nil=>exact I
   | cons u r=>exact List.append_ne_nil_of_left_ne_nil I _
  rw [if_neg (by rw [J]; exact U),J,BR]
  ·rw [← e]
  ·simp
  ·intro p hp
   obtain ⟨u,hu,rfl⟩:=List.mem_map.1 hp;exact (vT (y u hu)).1
theorem join_le:∀ (ps:List (List UInt8)),(∀ p ∈ ps,p.length≤8)→(joinL 44 ps).length≤9 * ps.length
 | [],_=>by simp [joinL]
 | [p],h=>by have:=h p Γ; simp [joinL]; omega
 | p :: q :: r,h=>by
  have h1:=h p Γ;have I:=join_le (q :: r) fun x y=>h x (Δ _ y)
  show (p ++ 44 :: joinL 44 (q :: r)).length≤_;rw [χ,List.length_cons];simp only [List.length_cons] at *;omega
theorem Xc {a:A} (h:bU a=true):(lY a.args).length≤27:=by
 have h0:=h;unfold bU at h;simp only [ο,decide_eq_true_eq] at h;have y:=ό.1 h.2;have:=Qk h0
 have e:a.args=(a.args.map fun t=>t.name.data.toList).map fun w=>zZ (toB w):=by
  rw [List.map_map]
  conv=>lhs; rw [← List.map_id a.args]
  refine List.map_congr_left fun t I=>?_
  show t=zZ (toB t.name.data.toList);rw [OH,L6 (y t I)]
 rw [e,EM]
 have:=join_le (a.args.map fun t=>t.name.data.toList) fun p J=>by
  obtain ⟨u,U,rfl⟩:=List.mem_map.1 J;exact (vT (y u U)).2.2
 rw [List.length_map] at this;omega
theorem L8 {s:ByteArray} (h:jc s=true):s.data.toList.length≤8∧1≤s.data.toList.length:=by
 have hz:s.data.toList.length=s.size:=Array.length_toList;unfold jc at h;simp only [ο,decide_eq_true_eq] at h;omega
theorem Io {a:A} (h:bU a=true):(yA a).length≤37:=by
 have h1:=Xc h;unfold bU at h;simp only [ο] at h;have y:=L8 h.1.1;unfold yA;simp only [χ,List.length_singleton];omega
theorem Ip {a:A} (h:bU a=true):YI (yA a)=(a,true):=by
 have hl:=Io h
 have hc:cut (yA a) [40]=(a.name.data.toList,lY a.args ++ [41],true):=by
  have hn:(40:UInt8) ∉ a.name.data.toList:=by
   unfold bU at h;simp only [ο] at h;exact UQ h.1.1
  rcases Ya (yA a) 40 with ⟨h1,_⟩ | ⟨x,y,h1,J,U⟩
  ·exact absurd (by unfold yA; simp) h1
  ·have e:a.name.data.toList ++ 40 :: (lY a.args ++ [41])=x ++ 40 :: y:=by rw [← h1]; unfold yA; simp
   have I:=rP (lY a.args ++ [41]) hn;rw [e,rP y J] at I
   injection I with e1 _
   rw [U];subst e1;rw [List.append_cancel_left_eq] at e
   injection e with _ e
   rw [e]
 unfold YI;rw [if_neg (by omega),hc];show (if true=true∧(lY a.args ++ [41]).getLast? = some 41 then _ else _)=_;rw [if_pos ⟨rfl,by simp⟩];show (if bU (EL a.name.data.toList (lY a.args ++ [41]).dropLast)=true then _ else _)=_;rw [List.dropLast_concat,Qk h,if_pos h]
end D
section
open Go.RowKit D
def D.kK (vars:List ByteArray) (t:T):Int:=if t.var then ((vars.idxOf t.name:Nat):Int) else -1
def D.kL (t:T):ByteArray:=if t.var then ⟨#[]⟩ else t.name
def D.E5 (vars:List ByteArray):Rel T:=fun _ cs t bs=>cs = [.int .i64 (kK vars t),.string (kL t)]∧(kL t).size≤maxLen∧bs = []
theorem D.iq (vars:List ByteArray):Good (E5 vars):=⟨fun h _=>h,fun h b hb=>by rw [h.2.2] at hb; simp at hb⟩
theorem D.E8 (vars:List ByteArray):Dc 2 (E5 vars):=fun h=>by obtain ⟨rfl,_⟩:=h; simp [Value.oneCell']
def D.kV (vars:List ByteArray):Rel (List T):=iV 2 (E5 vars)
theorem D.dK (vars:List ByteArray):Good (kV vars):=iT (iq vars) (by omega)
def D.Gp (vars:List ByteArray):Rel A:=fun w cs a bs=>∃ v,cs = [.string a.name,v]∧a.name.size≤maxLen∧kV vars w [v] a.args bs
theorem D.iU (vars:List ByteArray):Good (Gp vars):=
 ⟨fun h J=>by obtain ⟨v,h1,I,y⟩:=h; exact ⟨v,h1,I,(dK vars).keep y J⟩,fun h=>by obtain ⟨v,h1,I,y⟩:=h; exact (dK vars).lt y⟩
theorem D.Iq (vars:List ByteArray):Dc 2 (Gp vars):=fun h=>by
 obtain ⟨v,rfl,_,y⟩:=h;obtain ⟨I,cap,rfl,_⟩:=aj y;simp [Value.oneCell']
def D.uM (vars:List ByteArray):Rel (List A):=iV 2 (Gp vars)
theorem D.eP (vars:List ByteArray):Good (uM vars):=iT (iU vars) (by omega)
def D.iG (body:List Pt):List A:=(body.filter fun p=>!p.no).map (·.atom)
def D.eY (body:List Pt):List A:=(body.filter fun p=>p.no).map (·.atom)
def D.YS:Rel (List Pt):=fun w cs body bs=>∃ y I J U b2 b3,cs = [y,I,J]∧bs=U ++ b2 ++ b3∧uM (aC body) w [y] (iG body) U∧uM (aC body) w [I] (eY body) b2∧jP w [J] (aC body) b3
theorem D.yQ {vars:List ByteArray} {w:World} {J:Option Addr} {len cap:Nat} {I:List T} {bs:List Nat} {k:Nat} (h:kV vars w [.slice J len cap] I bs) (U:k < I.length):
  ∃ b o,J=some ⟨b,o,none⟩∧b ∈ bs∧w.cell? ⟨b,o+k * 2,none⟩=some (.int .i64 (kK vars I[k]))∧w.cell? ⟨b,o+k * 2+1,none⟩=some (.string (kL I[k]))∧(kL I[k]).size≤maxLen:=by
 obtain ⟨b,o,cs,bk,rfl,hb,a0,y,⟨rfl,hs,_⟩,_⟩:=jD h U;exact ⟨b,o,rfl,hb,by simpa using y 0 _ rfl,by have:=y 1 _ rfl; simpa [Nat.add_assoc] using this,hs⟩
theorem D.yR {vars:List ByteArray} {w:World} {Ad:Option Addr} {len cap:Nat} {xs:List A} {bs:List Nat} {k:Nat} (h:uM vars w [.slice Ad len cap] xs bs) (hk:k < xs.length):
  ∃ b o I J U,Ad=some ⟨b,o,none⟩∧b ∈ bs∧w.cell? ⟨b,o+k * 2,none⟩=some (.string xs[k].name)∧w.cell? ⟨b,o+k * 2+1,none⟩=some (.slice I xs[k].args.length J)∧
   Gp vars w [.string xs[k].name,.slice I xs[k].args.length J] xs[k] U∧∀ c ∈ U,c ∈ bs:=by
 obtain ⟨b,o,cs,U,rfl,hb,a0,y,⟨v,rfl,hs,h3⟩,hin⟩:=jD h hk;obtain ⟨I,J,rfl,_⟩:=aj h3;exact ⟨b,o,I,J,U,rfl,hb,by simpa using y 0 _ rfl,by have:=y 1 _ rfl; simpa [Nat.add_assoc] using this,⟨_,rfl,hs,h3⟩,hin⟩
structure D.yS {α:Type} (n:Nat) (R:Rel α) (e tb:TypeId) (w:World) (hz hb B:Nat) (nm:ByteArray) (v:Value) (L:List Value) (xs:List α) (wr:World):Prop where
 r0:wr.heap[hz]? = some (.cells #[.string ⟨#[]⟩,.slice none 0 0] tb (0,0))
 r1:wr.heap[hb]? = some (.cells #[.string nm,v] tb (0,0))
 h0:w.heap.size≤hz
 h1:hz < hb
 hB:hb < B
 coll:bK n R B e wr v L xs []
 bel:Below w.heap.size w wr
 qH:B≤wr.heap.size
section
variable {α:Type} {n:Nat} {R:Rel α} {e tb:TypeId} {w:World} {hz hb B:Nat} {nm:ByteArray} {v:Value} {L:List Value} {xs:List α} {wr:World}
theorem D.yS.later {w':World} (g:Good R) (h:yS n R e tb w hz hb B nm v L xs wr) (y:Below wr.heap.size wr w'):yS n R e tb w hz hb B nm v L xs w':=
 ⟨(y.block _ (ψ h.r0)).trans h.r0,(y.block _ (ψ h.r1)).trans h.r1,h.h0,h.h1,h.hB,h.coll.below g y,h.bel.trans (y.mono h.bel.size),τ h.qH y.size⟩
theorem D.yS.lit {cs:List Value} {x:α} (g:Good R) (o:Dc n R) (h:yS n R e tb w hz hb B nm v L xs wr) (I:∀ w,R w cs x []):
  bK n R B e (wr.alloc (.cells cs.toArray e)) v L xs []∧aW n R (wr.alloc (.cells cs.toArray e)) cs [x] []∧Lies (wr.alloc (.cells cs.toArray e)) (some ⟨wr.heap.size,0,none⟩) cs∧
   Below B wr (wr.alloc (.cells cs.toArray e))∧B≤(wr.alloc (.cells cs.toArray e)).heap.size:=by
 have y:Below wr.heap.size wr (wr.alloc (.cells cs.toArray e)):=ζ;exact ⟨(h.later g y).coll,aW.dP o (I _),by have:=aV (ω wr (.cells cs.toArray e)); simpa using this,ϑ.alloc h.qH _,τ h.qH y.size⟩
theorem D.yS.app {y:World} {U:Value} {L3:List Value} {I:List α} (g:Good R) (h:yS n R e tb w hz hb B nm v L xs wr) (hC:bK n R B e y U L3 I []) (J:Below B wr y):
  y.cell? ⟨hb,1,none⟩=some v∧y.frozen? ⟨hb,1,none⟩=false∧yS n R e tb w hz hb B nm U L3 I (y.setCell ⟨hb,1,none⟩ U)∧∀ c,c < B→c ≠ hb→(y.setCell ⟨hb,1,none⟩ U).heap[c]? = wr.heap[c]?:=by
 have b0:=(J.block hz (Nat.lt_trans h.h1 h.hB)).trans h.r0;have b1:=(J.block hb h.hB).trans h.r1;refine ⟨ai b1,ax b1,⟨(π _ _ _ _ (by have:=h.h1; show hz ≠ hb; omega)).trans b0,rG b1,h.h0,h.h1,h.hB,hC.lX g (aS hC.own h.hB) (by simp),(h.bel.trans (J.mono (by have:=h.h0; have:=h.h1; have:=h.hB; omega))).setCell (by have:=h.h0; have:=h.h1; show w.heap.size≤hb; omega) _,?_⟩,fun c hc a0=>by rw [π _ _ _ _ a0]; exact J.block c hc⟩;have:=J.size; have:=h.qH; simp [World.setCell]; omega
theorem D.yS.done (g:Good R) (h:yS n R e tb w hz hb B nm v L xs wr):
  ∃ W,W=(wr.setCell ⟨hz,0,none⟩ (.string nm)).setCell ⟨hz,1,none⟩ v∧Below w.heap.size w W∧W.heap[hz]? = some (.cells #[.string nm,v] tb (0,0))∧∃ I,iV n R W [v] xs I∧New B W I:=by
 obtain ⟨I,hs,J⟩:=h.coll.new (New.nil _ _);have a3:=h.h1;have a2:=h.hB;have U:=h.h0
 have keep:∀ b,b ≠ hz→((wr.setCell ⟨hz,0,none⟩ (.string nm)).setCell ⟨hz,1,none⟩ v).heap[b]? = wr.heap[b]?:=fun b y=>by
  rw [π _ _ _ _ y,π _ _ _ _ y]
 have k9:∀ b ∈ I,b ≠ hz:=fun b y e=>by have:=(J.own b y).1; omega
 refine ⟨_,rfl,(h.bel.setCell (p:=⟨hz,0,none⟩) U _).setCell (p:=⟨hz,1,none⟩) U _,?_,I,?_,?_⟩
 ·have:=dw (o:=1) (u:=v) (dw (o:=0) (u:=.string nm) h.r0)
  simpa using this
 ·obtain ⟨Ad,cap,h1,h2,h3,h4,h5⟩:=hs
  refine ⟨Ad,cap,h1,h2,h3,h4,fun a0=>?_⟩;obtain ⟨b,o,q1,F,G,q2,q3⟩:=h5 a0;refine ⟨b,o,q1,F,G,q2,fun k x hx=>?_⟩;obtain ⟨p1,p2,p3⟩:=q3 k x hx;have a1:b ∈ I:=by rw [q2]; exact Γ
  refine ⟨p1,fun j u hj=>by rw [World.cell?_of_block (w:=wr) (keep b (k9 b a1))]; exact p2 j u hj,g.keep p3 fun c hc=>keep c (k9 c ?_)⟩;rw [q2];exact Δ _ (List.mem_flatMap.2 ⟨k,List.mem_range.2 (List.getElem?_eq_some_iff.1 hx).1,hc⟩)
 ·exact J.keep fun b y=>keep b (k9 b y)
end
theorem D7:(Tryz.prog.info? 3).map (fun i=>(i.zero,i.size,i.bytes))=some (some (.int .i64 0),1,8):=by kernel_rfl
def D.yT:Rel Nat:=fun _ cs x bs=>cs = [.int .i64 x]∧bs = []
def D.jS:Rel (List Nat):=iV 1 yT
theorem D.jh:Good yT:=⟨fun h _=>h,fun h b hb=>by rw [h.2] at hb; simp at hb⟩
theorem D.dW:Good jS:=iT jh (by omega)
theorem D.uN {w:World} {g:Nat} {out:List Nat} (h:w.heap[g]? = some (.cells (Gi out) 3 (0,0))) (hl:out.length≤maxLen):∃ bs,jS w [.slice (some ⟨g,0,none⟩) out.length out.length] out bs∧bs.Nodup∧∀ b ∈ bs,b=g:=by
 by_cases J:out = []
 ·subst J
  exact ⟨[],⟨_,_,rfl,ν,ε,fun _=>rfl,fun h=>absurd rfl h⟩,List.nodup_nil,fun b hb=>by simp at hb⟩
 ·refine ⟨g :: (List.range out.length).flatMap fun _=>[],⟨_,_,rfl,ν,hl,fun h=>absurd h J,fun _=>⟨g,0,rfl,fun k=>[.int .i64 (jb out k:Nat)],fun _=>[],rfl,fun k x U=>⟨rfl,fun j v y=>?_,?_,rfl⟩⟩⟩,by rw [show (List.range out.length).flatMap (fun _=>([]:List Nat)) = [] from List.flatMap_eq_nil_iff.2 fun _ _=>rfl]; simp,fun b hb=>by simpa using hb⟩
  ·have I:k < out.length:=(List.getElem?_eq_some_iff.1 U).1
   match j,y with
   | 0,y=>
    simp only [List.getElem?_cons_zero,Option.some.injEq] at y;rw [ai h,← y];have:=EW I;simpa using this
   | j+1,y=>simp at y
  ·have:jb out k=x:=by unfold jb; rw [List.getD_eq_getElem?_getD,U]; rfl
   simp only [this]
theorem D.qP {w:World} {I:Option Addr} {len cap:Nat} {xs:List Nat} {bs:List Nat} {k:Nat} (h:jS w [.slice I len cap] xs bs) (J:k < xs.length):
  ∃ b o,I=some ⟨b,o,none⟩∧b ∈ bs∧w.cell? ⟨b,o+k,none⟩=some (.int .i64 (xs[k]:Nat)):=by
 obtain ⟨b,o,cs,bk,rfl,hb,U,y,⟨rfl,_⟩,_⟩:=jD h J;exact ⟨b,o,rfl,hb,by simpa using y 0 _ rfl⟩
def D.Ql (w:World) (y:Nat):Prop:=∀ o u,w.cell? ⟨y,o,none⟩=some u→∃ A l c,u=.slice A l c
theorem D.yU {α:Type} {n:Nat} {R:Rel α} {w:World} {J:Nat} (ha:Ql w J) (h1:∀ cs x bs,R w cs x bs→∃ u,cs[0]? = some u∧∀ A l c,u ≠ .slice A l c) (h2:∀ cs x bs,R w cs x bs→J ∉ bs)
  {v:Value} {xs:List α} {bs:List Nat} (h:iV n R w [v] xs bs):J ∉ bs:=by
 intro hb;obtain ⟨Ad,cap,a6,hl,hm,g0,g1⟩:=h;by_cases I:xs = []
 ·rw [g0 I] at hb; simp at hb
 ·obtain ⟨b,o,rfl,F,G,rfl,hF⟩:=g1 I
  rcases ύ.1 hb with rfl | hb
  ·match xs,I with
   | y :: r,_=>
    obtain ⟨a1,a2,U⟩:=hF 0 y rfl;obtain ⟨u,hu,a0⟩:=h1 _ _ _ U;obtain ⟨A,l,c,e⟩:=ha _ _ (a2 0 u hu);exact a0 A l c e
  ·obtain ⟨k,hk,a4⟩:=List.mem_flatMap.1 hb
   have a5:=List.mem_range.1 hk;obtain ⟨a1,a2,U⟩:=hF k xs[k] (Ψ a5);exact h2 _ _ _ U a4
theorem D.Mc {w:World} {y:Nat} (ha:Ql w y) {v:Value} {I:List T} {bs:List Nat} (h:gI w [v] I bs):y ∉ bs:=
 yU ha (fun cs x bs h=>by obtain ⟨rfl,_⟩:=h; exact ⟨_,rfl,fun _ _ _=>by simp⟩) (fun cs x bs h=>by obtain ⟨_,_,rfl⟩:=h; simp) h
theorem D.CB {w:World} {y:Nat} (ha:Ql w y) {v:Value} {xs:List A} {bs:List Nat} (h:ay w [v] xs bs):y ∉ bs:=
 yU ha (fun cs x bs h=>by obtain ⟨s,rfl,_⟩:=h; exact ⟨_,rfl,fun _ _ _=>by simp⟩) (fun cs x bs h=>by obtain ⟨s,_,_,I⟩:=h; exact Mc ha I) h
theorem D.aZ {w w':World} {b:Nat} {cs:Array Value} {t:TypeId} (hb:Below w.heap.size w w') (h:w.heap[b]? = some (.cells cs t (0,0))):w'.heap[b]? = some (.cells cs t (0,0)):=(hb.block b (ψ h)).trans h
theorem D.aP {w:World} {b o:Nat} {cs:Array Value} {t:TypeId} (h:w.heap[b]? = some (.cells cs t (0,0))):w.cell? ⟨b,o,none⟩=cs[o]?:=by simp [World.cell?,h]
theorem D.aG {w:World} {b o:Nat} {cs:Array Value} {t:TypeId} (h:w.heap[b]? = some (.cells cs t (0,0))):w.frozen? ⟨b,o,none⟩=false:=by simp [World.frozen?,h]
theorem D.Md {w:World} {I:Nat} {A B:Option Addr} {l c J U:Nat} {t:TypeId} (h:w.heap[I]? = some (.cells #[.slice A l c,.slice B J U] t (0,0))):Ql w I:=fun o u y=>by
 rw [aP h] at y
 match o with
 | 0=>exact ⟨A,l,c,by simpa using y.symm⟩
 | 1=>exact ⟨B,J,U,by simpa using y.symm⟩
 | o+2=>simp at y
theorem D.dX {w:World} {y:Nat} {t:TypeId} (hb:w.heap[y]? = some (.cells #[.slice none 0 0,.slice none 0 0] t (0,0))) {I J:Value} {c:Ch} {U b2:List Nat} (h1:ay w [I] c.comes U) (h2:ay w [J] c.goes b2):
  dY ((w.setCell ⟨y,0,none⟩ I).setCell ⟨y,1,none⟩ J) [I,J] c (U ++ b2):=by
 have k1:=CB (Md hb) h1;have k2:=CB (Md hb) h2;refine ⟨I,J,U,b2,rfl,rfl,ak.keep h1 fun b hm=>?_,ak.keep h2 fun b hm=>?_⟩
 ·have:b ≠ y:=fun e=>k1 (e ▸ hm)
  rw [π _ _ _ _ this,π _ _ _ _ this]
 ·have:b ≠ y:=fun e=>k2 (e ▸ hm)
  rw [π _ _ _ _ this,π _ _ _ _ this]
theorem D.U1 {w:World} {b:Nat} {o:Option Obj} (h:w.heap[b]? = o):w.drew.heap[b]? = o:=h
theorem D.New.Xd {B:Nat} {w:World} {bs:List Nat} (h:New B w bs) (p:Addr) (u:Value):New B (w.setCell p u) bs:=⟨h.nodup,fun b hb=>⟨(h.own b hb).1,YD.setCell (h.YX b hb) p u⟩⟩
theorem D.Qm (w:World) (o:Obj):(w.alloc o).heap[w.heap.size]? = some o:=ω w o
theorem D.Xe (w:World) (I y:Obj):((w.alloc I).alloc y).heap[w.heap.size+1]? = some y:=by
 have:=ω (w.alloc I) y;simpa using this
def D.Yi (c:Ch) (B:Nat) (w:World) (e:Ending) (w':World):Prop:=Below B w w'∧∃ cs bs,e=.returned (.agg cs)∧dY w' cs.toList c bs∧New B w' bs
def D.Fa (xs:List A):Prop:=xs.length≤1000000∧∀ x ∈ xs,x.args.length≤16777216
def D.qQ (xs ys:List A):Ch:=if (aN xs && aN ys)=true then ⟨bP ys xs,bP xs ys⟩ else ⟨[],[]⟩
theorem D.iH {xs:List A} (h:aN xs=true):Fa xs:=
 ⟨τ (eU h) (by omega),fun x y=>τ (zQ (fC h x y)) (by omega)⟩
theorem D.yV {xs:List A} (h:Fa xs) (ys:List A):Fa (bP xs ys):=
 ⟨τ (List.length_filter_le _ _) h.1,fun x y=>h.2 x (pq y)⟩
end
section
open Go.RowKit D
attribute [local go_sem ↓] Go.wp_at_zero Go.wp_at_succ
theorem O3 (ps:List Pt) (v:Value) (bs:List Nat) (w:World) (h:jd w [v] ps bs):
  Calls Tryz.prog 186 #[v] w fun e w'=>e=.returned (.bool (ql ps))∧Below w.heap.size w w':=by
 obtain ⟨Ad,cap,rfl,hl,hm⟩:=aj h;have a3:=aB (τ hl hm);clear hm;unfold ql;by_cases h4:ps.length≤4
 ·go_enter Tryz.func186,Tryz.ntmps186
  go_wp2
  go_loopw [10] (fun i wr=>∃ k:Nat,k≤ps.length∧i=.int .i64 k∧(ps.take k).all (fun p=>bU p.atom)=true∧Below w.heap.size w wr) (fun i _=>ps.length - (intOf i).toNat)
  case atStart=>exact ⟨0,ε,rfl,rfl,ϑ⟩
  case round=>
   obtain ⟨k,hk,rfl,y,hb⟩:=hrel;have HA:=η y;clear y;by_cases I:k < ps.length
   ·obtain ⟨b0,o,Ae,ce,bk,rfl,_,d0,d1,d2,U,_⟩:=ji (dS.below h hb) I
    have hA:=(Below.refl wr.heap.size wr).alloc ν (.cells #[.bool ps[k].no,.string ps[k].atom.name,.slice Ae ps[k].atom.args.length ce] 42);have a0:=au.below (jE U) hA;clear h U
    go_wp2_with fail
    refine (uI ps[k].atom _ _ bk _ a0).mono ?_;rintro e w' ⟨rfl,a1⟩;have B':=(hb.trans (hA.mono hb.size)).trans (a1.mono (by have:=hA.size; have:=hb.size; omega));clear a0 hA;by_cases J:bU ps[k].atom=true
    ·have a2:(!bU ps[k].atom)=false:=by simp [J]
     have HX:=η J;clear J;go_wp2;go_roundw
     case rel=>exact ⟨k+1,by omega,by go_num,by rw [jy ps k I,HA.out]; exact HX.out,B'⟩
     case measure=>simp [intOf]; omega
    ·have a2:(!bU ps[k].atom)=true:=by simpa using J
     have HX:=η J;clear J;go_wp2;go_ret;exact ⟨aH (by rw [vI ps k I (by simpa using HX.out)]; simp),B'⟩
   ·have he:=η (show k=ps.length by omega)
    go_wp2;go_ret;exact ⟨aH (by have:=HA.out; rw [he.out,ϕ ν] at this; rw [this]; simp; omega),hb⟩
 ·go_enter Tryz.func186,Tryz.ntmps186
  go_wp2;go_ret;exact ⟨aH (by simp; omega),ϑ⟩
end
end Go.Proofs.YtkjinanbccloeaaGreatDoor
