/- Of the proof of FnDeltaNeeds: JS, LevI, AtTxP, QryP, IntK, ChP, Body, FillS. -/
import Derived.Test.YtkjinanbccloeaaGreatDoorE09
import Derived.Test.YtkjinanbccloeaaGreatDoorE10
set_option linter.unusedVariables false
set_option maxHeartbeats 4000000
set_option maxRecDepth 100000
namespace Go.Proofs.YtkjinanbccloeaaGreatDoor
namespace D
open Go.RowKit
abbrev Wo:=ByteArray→ByteArray
def yN (σ:Wo) (t:T):T:=⟨false,if t.var then σ t.name else t.name⟩
def iC (σ:Wo) (a:A):A:=⟨a.name,a.args.map (yN σ)⟩
def Zf (list:List A) (r:Ru) (a:A):Prop:=∃ σ:Wo,a=iC σ r.head∧∀ p ∈ r.body,hasB list (iC σ p.atom) = !p.no
def Ub (b:Bd) (σ:Wo):Prop:=∀ n v,gI b n=some v→σ n=v
def yO (b:Bd) (y:List T):Prop:=∀ t ∈ y,t.var=true→(gI b t.name).isSome=true
def Le (b y:Bd):Prop:=∀ n v,gI b n=some v→gI y n=some v
theorem Le.refl (b:Bd):Le b b:=fun _ _ h=>h
theorem Le.trans {a b c:Bd} (h:Le a b) (k:Le b c):Le a c:=fun n v e=>k n v (h n v e)
theorem Le.Y6 {b y:Bd} (h:Le b y) {I:List T} (hc:yO b I):yO y I:=fun t J hv=>by
 obtain ⟨v,hv⟩:=Option.isSome_iff_exists.1 (hc t J hv);rw [h _ _ hv]; rfl
theorem Ub.of_le {b y:Bd} {σ:Wo} (h:Ub y σ) (I:Le b y):Ub b σ:=fun n v e=>h n v (I n v e)
theorem Jv (b:Bd):Ub b (jB b):=fun n v e=>by unfold jB; rw [e]; rfl
theorem nR (b c:Bd) (n:ByteArray):gI (b ++ c) n=(gI b n).or (gI c n):=by
 induction b with
 | nil=>simp [gI]
 | cons p b ih=>
  simp only [List.cons_append,gI]
  split
  ·rfl
  ·exact ih
theorem Le.append (b c:Bd):Le b (b ++ c):=fun n v h=>by rw [nR,h]; rfl
theorem U8 {b:Bd} {σ:Wo} {y:List T} (hc:yO b y) (ha:Ub b σ):y.map (dO b)=y.map (yN σ):=by
 refine List.map_congr_left fun t I=>?_
 unfold dO yN;cases hv:t.var
 ·rfl
 ·obtain ⟨v,h⟩:=Option.isSome_iff_exists.1 (hc t I hv)
  simp only [if_true,jB,h,Option.getD_some,ha _ _ h]
theorem kR {b:Bd} {σ:Wo} {a:A} (hc:yO b a.args) (ha:Ub b σ):cO a b=iC σ a:=by
 unfold cO iC;rw [U8 hc ha]
theorem U9 {b y:Bd} {a:A} (hc:yO b a.args) (I:Le b y):cO a y=cO a b:=
 (kR (I.Y6 hc) (Jv y)).trans (kR hc ((Jv y).of_le I)).symm
theorem oP:∀ (y fs:List T) (b:Bd),Le b (cZ y fs b).1
 | [],fs,b=>by cases fs <;> exact Le.refl b
 | t :: y,[],b=>Le.refl b
 | t :: y,f :: fs,b=>by
  rw [cZ]
  split
  ·split
   ·split
    ·exact oP y fs b
    ·exact Le.refl b
   ·exact (Le.append _ _).trans (oP y fs _)
  ·split
   ·exact oP y fs b
   ·exact Le.refl b
theorem CY:∀ (y fs:List T) (b:Bd),y.length=fs.length→(∀ f ∈ fs,f.var=false)→(cZ y fs b).2=true→yO (cZ y fs b).1 y∧y.map (dO (cZ y fs b).1)=fs
 | [],[],b,_,_,_=>⟨fun t J=>absurd J (by simp),rfl⟩
 | [],f :: fs,b,h,_,_=>by simp at h
 | t :: y,[],b,h,_,_=>by simp at h
 | ⟨tv,tn⟩ :: y,⟨fv,fn⟩ :: fs,b,hl,hv,hm=>by
  have hf:fv=false:=hv _ Γ;subst hf;have a0:∀ f ∈ fs,f.var=false:=fun f h=>hv f (Δ _ h)
  have a1:y.length=fs.length:=by simpa using hl
  have I:∀ b0:Bd,(cZ y fs b0).2=true→(tv=true→gI b0 tn=some fn)→(tv=false→tn=fn)→
    yO (cZ y fs b0).1 (⟨tv,tn⟩ :: y)∧(⟨tv,tn⟩ :: y).map (dO (cZ y fs b0).1)=⟨false,fn⟩ :: fs:=by
   intro b0 a2 h1 h2;obtain ⟨i1,i2⟩:=CY y fs b0 a1 a0 a2;refine ⟨fun t J U=>?_,?_⟩
   ·rcases ύ.1 J with rfl | J
    ·rw [oP y fs b0 _ _ (h1 U)]; rfl
    ·exact i1 t J U
   ·rw [List.map_cons,i2]
    congr 1
    unfold dO;cases tv
    ·simp [h2 rfl]
    ·simp [jB,oP y fs b0 _ _ (h1 rfl)]
  rw [cZ] at hm ⊢;dsimp only at hm ⊢
  split at hm
  ·rename_i e1
   rw [if_pos e1]
   cases hg:gI b tn with
   | some v=>
    rw [hg] at hm;dsimp only at hm ⊢
    split at hm
    ·rename_i e2
     subst e2;rw [if_pos rfl];exact I b hm (fun _=>hg) fun e=>by rw [e] at e1; cases e1
    ·cases hm
   | none=>
    rw [hg] at hm;dsimp only at hm ⊢;exact I _ hm (fun _=>by rw [nR,hg]; simp [gI]) fun e=>by rw [e] at e1; cases e1
  ·rename_i e1
   rw [if_neg e1]
   split at hm
   ·rename_i e2
    rw [if_pos e2];exact I b hm (fun e=>absurd e e1) fun _=>e2
   ·cases hm
theorem oI:∀ (y fs:List T) (b:Bd) (σ:Wo),Ub b σ→y.map (yN σ)=fs→(cZ y fs b).2=true∧Ub (cZ y fs b).1 σ
 | [],fs,b,σ,ha,h=>by cases fs with
  | nil=>exact ⟨rfl,ha⟩
  | cons f fs=>simp at h
 | t :: y,[],b,σ,ha,h=>by simp at h
 | ⟨tv,tn⟩ :: y,f :: fs,b,σ,ha,h=>by
  simp only [List.map_cons,List.cons.injEq] at h;obtain ⟨rfl,h⟩:=h;rw [cZ];cases tv
  ·simp only [yN,Bool.false_eq_true,if_false]
   exact oI y fs b σ ha h
  ·simp only [yN,if_true]
   cases hg:gI b tn with
   | some v=>
    dsimp only;rw [if_pos (ha _ _ hg).symm];exact oI y fs b σ ha h
   | none=>
    dsimp only;refine oI y fs _ σ (fun n v e=>?_) h;rw [nR] at e
    cases hn:gI b n with
    | some u=>rw [hn] at e; simp at e; rw [← e]; exact ha _ _ hn
    | none=>
     rw [hn] at e;simp only [Option.none_or,gI] at e
     split at e
     ·rename_i e2; subst e2; simpa using e
     ·cases e
theorem oQ (a f:A) (b:Bd):Le b (aG a f b).1:=by
 unfold aG
 split
 ·exact oP _ _ _
 ·exact Le.refl b
theorem nS {a f:A} {b:Bd} (hf:∀ t ∈ f.args,t.var=false) (h:(aG a f b).2=true):yO (aG a f b).1 a.args∧cO a (aG a f b).1=f:=by
 unfold aG at h ⊢
 split at h
 ·rename_i e
  rw [if_pos e];obtain ⟨h1,y⟩:=CY a.args f.args b e.2 hf h;refine ⟨h1,?_⟩;unfold cO;rw [y];obtain ⟨n,I⟩:=f;simp only at e;rw [e.1]
 ·cases h
theorem oJ {a f:A} {b:Bd} {σ:Wo} (ha:Ub b σ) (h:iC σ a=f):(aG a f b).2=true∧Ub (aG a f b).1 σ:=by
 subst h;unfold aG;rw [if_pos ⟨rfl,by simp [iC]⟩];exact oI _ _ _ _ ha rfl
def Gr (a:A):Prop:=∀ t ∈ a.args,t.var=false
theorem sD (σ:Wo) (a:A):Gr (iC σ a):=fun t y=>by
 obtain ⟨u,_,rfl⟩:=List.mem_map.1 y;rfl
theorem X5 {a b:A} (ha:Gr a) (hb:Gr b) (h:bV a b=0):a=b:=by
 have:=(uo a b).1 h;unfold tX at this;simp only [List.cons.injEq] at this;obtain ⟨n,y⟩:=a;obtain ⟨m,us⟩:=b;dsimp only at *;obtain ⟨rfl,I⟩:=this;have e:y=us:=zH ha hb I;rw [e]
theorem sF {xs:List A} (y:∀ x ∈ xs,Gr x) {a:A} (ha:Gr a):hasB xs a=true ↔ a ∈ xs:=by
 refine ⟨fun h=>?_,jR⟩;obtain ⟨x,hm,hc⟩:=lZ.1 h;rw [← X5 (y x hm) ha hc]; exact hm
theorem yP (a:A) (b:Bd):cO a b=iC (jB b) a:=rfl
theorem EP {list:List A} (hl:∀ x ∈ list,Gr x) (body:List Pt):∀ k,k≤body.length→∀ b ∈ yG list (body.take k),∀ p ∈ body.take k,p.no=false→yO b p.atom.args∧cO p.atom b ∈ list:=by
 intro k
 induction k with
 | zero=>intro _ b _ p y; simp at y
 | succ k ih=>
  intro hk b hb p y I;rw [vT list body k (by omega)] at hb;rw [ρ (by omega)] at y;unfold Hz at hb
  split at hb
  ·rename_i hn
   rcases μ.1 y with y | y
   ·exact ih (by omega) b hb p y I
   ·rw [ώ.1 y] at I; rw [I] at hn; cases hn
  ·obtain ⟨b0,h0,J⟩:=List.mem_flatMap.1 hb
   unfold kG at J;obtain ⟨f,hf,e⟩:=List.mem_filterMap.1 J
   split at e
   ·rename_i hm
    cases e
    rcases μ.1 y with y | y
    ·obtain ⟨h1,U⟩:=ih (by omega) b0 h0 p y I
     refine ⟨(oQ _ _ _).Y6 h1,?_⟩;rw [U9 h1 (oQ _ _ _)]; exact U
    ·rw [ώ.1 y]
     obtain ⟨h1,U⟩:=nS (hl f hf) hm;exact ⟨h1,by rw [U]; exact hf⟩
   ·cases e
theorem Pj {list:List A} {σ:Wo} (body:List Pt) (y:∀ p ∈ body,p.no=false→iC σ p.atom ∈ list):∀ k,k≤body.length→∃ b ∈ yG list (body.take k),Ub b σ:=by
 intro k
 induction k with
 | zero=>intro _; exact ⟨[],by simp [yG],fun n v h=>by simp [gI] at h⟩
 | succ k ih=>
  intro J;obtain ⟨b,hb,ha⟩:=ih (by omega);rw [vT list body k (by omega)];unfold Hz
  split
  ·exact ⟨b,hb,ha⟩
  ·rename_i hn
   have hin:=y body[k] (δ (by omega)) (by simpa using hn);obtain ⟨h1,I⟩:=oJ ha (rfl:iC σ body[k].atom=_);refine ⟨_,List.mem_flatMap.2 ⟨b,hb,?_⟩,I⟩;unfold kG;exact List.mem_filterMap.2 ⟨_,hin,by rw [if_pos h1]⟩
def Va (r:Ru):Prop:=∀ x,(kS x r.head.args∨∃ p ∈ r.body,kS x p.atom.args)→∃ p ∈ r.body,p.no=false∧kS x p.atom.args
theorem Ii {r:Ru} (J:Va r) {b:Bd} (hb:∀ p ∈ r.body,p.no=false→yO b p.atom.args):yO b r.head.args∧∀ p ∈ r.body,yO b p.atom.args:=by
 have h:∀ x,(kS x r.head.args∨∃ p ∈ r.body,kS x p.atom.args)→(gI b x).isSome=true:=fun x U=>by
  obtain ⟨p,I,hn,t,h1,y,rfl⟩:=J x U;exact hb p I hn t h1 y
 exact ⟨fun t h1 y=>h _ (.inl ⟨t,h1,y,rfl⟩),fun p I t h1 y=>h _ (.inr ⟨p,I,t,h1,y,rfl⟩)⟩
theorem Vb {list:List A} (U:∀ x ∈ list,Gr x) {r:Ru} (ht:Va r) (a:A):(∃ b ∈ allB list r.body,cO r.head b=a) ↔ Zf list r a:=by
 constructor
 ·rintro ⟨b,hb,rfl⟩
  unfold allB at hb;obtain ⟨h1,h2⟩:=List.mem_filter.1 hb;have y:=EP U r.body r.body.length ν;rw [ϕ ν] at y;have y:=y b h1;refine ⟨jB b,yP _ _,fun p I=>?_⟩;cases hn:p.no
  ·rw [← yP]
   exact jR (y p I hn).2
  ·unfold jl at h2
   have:=ό.1 h2 p I;rw [hn] at this;rw [← yP];simpa using this
 ·rintro ⟨σ,rfl,I⟩
  have J:∀ p ∈ r.body,p.no=false→iC σ p.atom ∈ list:=fun p h hn=>(sF U (sD _ _)).1 (by rw [I p h,hn]; rfl)
  have hw:=Pj (list:=list) (σ:=σ) r.body J r.body.length ν;have y:=EP U r.body r.body.length ν;rw [ϕ ν] at hw y;obtain ⟨b,hb,ha⟩:=hw;obtain ⟨a0,a1⟩:=Ii ht fun p h hn=>(y b hb p h hn).1
  refine ⟨b,?_,kR a0 ha⟩;unfold allB;refine List.mem_filter.2 ⟨hb,?_⟩;unfold jl;refine ό.2 fun p h=>?_
  rw [kR (a1 p h) ha,I p h]
  cases p.no <;> rfl
def F9 (out:List Nat):Array Value:=(out.map fun n:Nat=>Value.int .i64 (n:Int)).toArray
theorem EQ {out:List Nat} {i:Nat} (h:i < out.length):(F9 out)[i]? = some (.int .i64 (iZ out i:Nat)):=by
 unfold F9 iZ;simp [Ψ h]
theorem Jw (out:List Nat) (i v:Nat):(F9 out).setIfInBounds i (.int .i64 (v:Nat))=F9 (out.set i v):=by
 unfold F9;simp [List.map_set]
theorem ER (n:Nat):madeCells #[Value.int .i64 0] n=F9 (List.replicate n 0):=by
 unfold madeCells F9;refine Array.ext (by simp) fun i h1 y=>?_
 simp [Nat.mod_one]
def numOf:Option Value→Nat
 | some (.int _ z)=>z.toNat
 | _=>0
def ES (w:World) (g n:Nat):Nat:=((List.range n).map fun i=>numOf (w.cell? ⟨g,i,none⟩)).sum
theorem Ij {w:World} {g:Nat} {out:List Nat} {t:TypeId} (h:w.heap[g]? = some (.cells (F9 out) t (0,0))):ES w g out.length=out.sum:=by
 unfold ES
 have:((List.range out.length).map fun i=>numOf (w.cell? ⟨g,i,none⟩))=out:=by
  refine List.ext_getElem (by simp) fun i h1 y=>?_
  simp only [List.getElem_map,List.getElem_range];rw [ai h,EQ y];unfold numOf iZ;simp [Ψ y]
 rw [this]
def nT (rs:List Ru) (out:List Nat) (s:ByteArray):Nat:=iZ out ((aN rs).idxOf s)
structure Pm (rs:List Ru) (out:List Nat):Prop where
 len:out.length=(aN rs).length
 bel:∀ T,OU rs T→∀ n ∈ bI rs,nT rs out n≤T n
 lo:∀ i,i < out.length→iZ out i < out.length
theorem EU (n i:Nat):iZ (List.replicate n 0) i=0:=by
 unfold iZ; rw [List.getD_eq_getElem?_getD,List.getElem?_replicate]; split <;> rfl
theorem Pm.zero (rs:List Ru):Pm rs (List.replicate (aN rs).length 0):=
 ⟨by simp,fun T _ n _=>by unfold nT; rw [EU]; exact ε,fun i h=>by rw [EU]; omega⟩
theorem Pm.Ji {rs:List Ru} {out:List Nat} (h:Pm rs out):out.sum≤(aN rs).length * (aN rs).length:=by
 have:=Ht (out:=out) (n:=out.length) fun i y=>Nat.le_of_lt (h.lo i y)
 rw [h.len] at this;exact this
theorem xG {rs:List Ru} {n:ByteArray} (h:n ∈ bI rs):(aN rs).idxOf n < (aN rs).length:=List.idxOf_lt_length_of_mem (jK.2 h)
theorem Pm.step {rs:List Ru} {out:List Nat} (h:Pm rs out) {r:Ru} (hr:r ∈ rs) {p:Pt} (hp:p ∈ r.body) (hh:p.atom.name ∈ bI rs) {l:Nat} (hl:l=nT rs out p.atom.name+DL p)
  (I:nT rs out r.head.name < l) (hN:l < (aN rs).length):Pm rs (out.set ((aN rs).idxOf r.head.name) l)∧out.sum < (out.set ((aN rs).idxOf r.head.name) l).sum:=by
 have hi:=xG (head_mem hr);have y:(aN rs).idxOf r.head.name < out.length:=by rw [h.len]; exact hi
 refine ⟨⟨by simp [h.len],fun T U n hn=>?_,fun i J=>?_⟩,?_⟩
 ·unfold nT
  rw [qh y]
  split
  ·rename_i e
   have e2:n=r.head.name:=by
    have h1:=List.getElem_idxOf hi;have h2:=List.getElem_idxOf (xG hn);rw [← h2,← h1]
    congr 1
    exact e.symm
   have h3:=U r hr p hp hh;have h4:=h.bel T U _ hh;rw [e2,hl]; omega
  ·exact h.bel T U n hn
 ·rw [List.length_set] at J ⊢
  rw [qh y]
  split
  ·rw [h.len]; exact hN
  ·exact h.lo i J
 ·refine UR (OV (Nat.le_of_lt I)) fun e=>?_
  have h5:=AX y e;unfold nT at I;omega
theorem Pm.err {rs:List Ru} {out:List Nat} (h:Pm rs out) {r:Ru} (hr:r ∈ rs) {p:Pt} (J:p ∈ r.body) (y:p.atom.name ∈ bI rs) {l:Nat} (hl:l=nT rs out p.atom.name+DL p)
  (hN:(aN rs).length≤l):mG rs=true:=by
 refine Ry fun S U=>?_
 obtain ⟨T,I,hs⟩:=Hr U;have h1:=I r hr p J y;have h2:=hs _ (head_mem hr);have h3:=h.bel T I _ y;omega
def RU (rs:List Ru) (out:List Nat) (r:Ru) (p:Pt):Prop:=p.atom.name ∈ bI rs→nT rs out p.atom.name+DL p≤nT rs out r.head.name
def xH (rs:List Ru) (out:List Nat) (k:Nat):Prop:=∀ r ∈ rs.take k,∀ p ∈ r.body,RU rs out r p
theorem Pm.done {rs:List Ru} {out:List Nat} (h:Pm rs out) (y:xH rs out rs.length):mG rs=false∧∀ i,i < rs.length→nT rs out (dQ rs i).head.name=iZ (aA rs) i:=by
 have h1:OU rs (nT rs out):=fun r hr p I J=>y r (by rw [ϕ ν]; exact hr) p I J
 exact ⟨vS h1,UW h1 h.bel⟩
theorem xH.zero (rs:List Ru) (out:List Nat):xH rs out 0:=fun r hr=>by simp at hr
theorem xH.snoc {rs:List Ru} {out:List Nat} {k:Nat} (h:k < rs.length) (h1:xH rs out k) (y:∀ p ∈ rs[k].body,RU rs out rs[k] p):xH rs out (k+1):=fun r hr=>by
 rw [ρ h] at hr
 rcases μ.1 hr with hr | hr
 ·exact h1 r hr
 ·rw [ώ.1 hr]; exact y
def Gi (rs:List Ru) (out:List Nat) (r:Ru) (j:Nat):Prop:=∀ p ∈ r.body.take j,RU rs out r p
theorem Gi.zero (rs:List Ru) (out:List Nat) (r:Ru):Gi rs out r 0:=fun p y=>by simp at y
theorem Gi.snoc {rs:List Ru} {out:List Nat} {r:Ru} {j:Nat} (h:j < r.body.length) (h1:Gi rs out r j) (I:RU rs out r r.body[j]):Gi rs out r (j+1):=fun p y=>by
 rw [ρ h] at y
 rcases μ.1 y with y | y
 ·exact h1 p y
 ·rw [ώ.1 y]; exact I
end D
namespace D
open Go.RowKit Go.Lib
theorem Xp {c:UInt8} (h:low c=true):big c=false:=by
 cases hb:big c
 ·rfl
 ·exfalso
  have h1:=(DZ c).1 hb;have:low c=false:=(xZ c).2 (by omega);rw [this] at h; cases h
theorem Vd {s:ByteArray} (h:jc s=true):tV s=false:=by
 unfold jc pW at h;simp only [ο] at h;unfold tV
 cases hs:s.data.toList with
 | nil=>simp [big]
 | cons x xs=>
  have:=ό.1 h.1.2 x (by rw [hs]; exact Γ);simp [Xp this]
theorem Mc {t:T} (h:jv t=true):AY t.name=t:=by
 unfold AY;unfold jv at h;obtain ⟨v,s⟩:=t;cases v
 ·have:=Vd (s:=s) (by simpa using h)
  show (⟨tV s,s⟩:T)=⟨false,s⟩;rw [this]
 ·have h1:x9 s=true:=by simpa using h
  unfold x9 at h1;simp only [ο] at h1;show (⟨tV s,s⟩:T)=⟨true,s⟩;rw [h1.1.2]
theorem vU {t:T} (h:jv t=true):(44:UInt8) ∉ t.name.data.toList∧t.name.data.toList ≠ []∧t.name.data.toList.length≤8:=by
 have hz:t.name.data.toList.length=t.name.size:=Array.length_toList;unfold jv at h
 split at h
 ·unfold x9 at h
  simp only [ο,decide_eq_true_eq] at h;have h1:=h.1.2;unfold tV at h1;simp only [ο,decide_eq_true_eq] at h1;refine ⟨?_,by intro e; rw [e] at hz; simp at hz; omega,by omega⟩;intro hm
  cases hs:t.name.data.toList with
  | nil=>rw [hs] at hm; simp at hm
  | cons x xs=>
   rw [hs] at hm h1 h
   rcases ύ.1 hm with e | hm
   ·have y:=h1.2
    rw [← e] at y;exact absurd (show big 44=true from y) (by decide)
   ·exact (Js _ (ό.1 h.2 _ hm)).2.2.1 rfl
 ·unfold jc at h
  simp only [ο,decide_eq_true_eq] at h;refine ⟨?_,by intro e; rw [e] at hz; simp at hz; omega,by omega⟩;intro hm;exact (Js _ (ό.1 h.1.2 _ hm)).2.2.1 rfl
theorem Qv {a:A} (h:aZ a=true):EH a.name.data.toList (mg a.args)=a:=by
 unfold aZ at h;simp only [ο] at h;have y:=ό.1 h.2
 have e:a.args=(a.args.map fun t=>t.name.data.toList).map fun w=>AY (toB w):=by
  rw [List.map_map]
  conv=>lhs; rw [← List.map_id a.args]
  refine List.map_congr_left fun t I=>?_
  show t=AY (toB t.name.data.toList);rw [OY,Mc (y t I)]
 have J:mg a.args=joinL 44 (a.args.map fun t=>t.name.data.toList):=by
  conv=>lhs; rw [e]
  rw [EI]
 unfold EH;obtain ⟨nm,args⟩:=a;dsimp only at *;rw [OY]
 cases args with
 | nil=>rw [J]; rfl
 | cons t r=>
  have U:joinL 44 ((t :: r).map fun t=>t.name.data.toList) ≠ []:=by
   have I:=(vU (y t Γ)).2.1
   cases r with
   | nil=>exact I
   | cons u r=>exact List.append_ne_nil_of_left_ne_nil I _
  rw [if_neg (by rw [J]; exact U),J,CG]
  ·rw [← e]
  ·simp
  ·intro p hp
   obtain ⟨u,hu,rfl⟩:=List.mem_map.1 hp;exact (vU (y u hu)).1
theorem join_le:∀ (ps:List (List UInt8)),(∀ p ∈ ps,p.length≤8)→(joinL 44 ps).length≤9 * ps.length
 | [],_=>by simp [joinL]
 | [p],h=>by have:=h p Γ; simp [joinL]; omega
 | p :: q :: r,h=>by
  have h1:=h p Γ;have I:=join_le (q :: r) fun x y=>h x (Δ _ y)
  show (p ++ 44 :: joinL 44 (q :: r)).length≤_;rw [χ,List.length_cons];simp only [List.length_cons] at *;omega
theorem Xq {a:A} (h:aZ a=true):(mg a.args).length≤27:=by
 have h0:=h;unfold aZ at h;simp only [ο,decide_eq_true_eq] at h;have y:=ό.1 h.2;have:=Qv h0
 have e:a.args=(a.args.map fun t=>t.name.data.toList).map fun w=>AY (toB w):=by
  rw [List.map_map]
  conv=>lhs; rw [← List.map_id a.args]
  refine List.map_congr_left fun t I=>?_
  show t=AY (toB t.name.data.toList);rw [OY,Mc (y t I)]
 rw [e,EI]
 have:=join_le (a.args.map fun t=>t.name.data.toList) fun p J=>by
  obtain ⟨u,U,rfl⟩:=List.mem_map.1 J;exact (vU (y u U)).2.2
 rw [List.length_map] at this;omega
theorem Md {s:ByteArray} (h:jc s=true):s.data.toList.length≤8∧1≤s.data.toList.length:=by
 have hz:s.data.toList.length=s.size:=Array.length_toList;unfold jc at h;simp only [ο,decide_eq_true_eq] at h;omega
theorem Ik {a:A} (h:aZ a=true):(yw a).length≤37:=by
 have h1:=Xq h;unfold aZ at h;simp only [ο] at h;have y:=Md h.1.1;unfold yw;simp only [χ,List.length_singleton];omega
theorem Il {a:A} (h:aZ a=true):Y0 (yw a)=(a,true):=by
 have hl:=Ik h
 have hc:cut (yw a) [40]=(a.name.data.toList,mg a.args ++ [41],true):=by
  have hn:(40:UInt8) ∉ a.name.data.toList:=by
   unfold aZ at h;simp only [ο] at h;exact U5 h.1.1
  rcases Yp (yw a) 40 with ⟨h1,_⟩ | ⟨x,y,h1,J,U⟩
  ·exact absurd (by unfold yw; simp) h1
  ·have e:a.name.data.toList ++ 40 :: (mg a.args ++ [41])=x ++ 40 :: y:=by rw [← h1]; unfold yw; simp
   have I:=rU (mg a.args ++ [41]) hn;rw [e,rU y J] at I
   injection I with e1 _
   rw [U];subst e1;rw [List.append_cancel_left_eq] at e
   injection e with _ e
   rw [e]
 unfold Y0;rw [if_neg (by omega),hc];show (if true=true∧(mg a.args ++ [41]).getLast? = some 41 then _ else _)=_;rw [if_pos ⟨rfl,by simp⟩];show (if aZ (EH a.name.data.toList (mg a.args ++ [41]).dropLast)=true then _ else _)=_;rw [List.dropLast_concat,Qv h,if_pos h]
end D
section
open Go.RowKit D
def D.kK (vars:List ByteArray) (t:T):Int:=if t.var then ((vars.idxOf t.name:Nat):Int) else -1
def D.kL (t:T):ByteArray:=if t.var then ⟨#[]⟩ else t.name
def D.EW (vars:List ByteArray):Rel T:=fun _ cs t bs=>cs = [.int .i64 (kK vars t),.string (kL t)]∧(kL t).size≤maxLen∧bs = []
theorem D.ig (vars:List ByteArray):Good (EW vars):=⟨fun h _=>h,fun h b hb=>by rw [h.2.2] at hb; simp at hb⟩
theorem D.EX (vars:List ByteArray):Dv 2 (EW vars):=fun h=>by obtain ⟨rfl,_⟩:=h; simp [Value.oneCell']
def D.kV (vars:List ByteArray):Rel (List T):=iU 2 (EW vars)
theorem D.dw (vars:List ByteArray):Good (kV vars):=iO (ig vars) (by omega)
def D.Gj (vars:List ByteArray):Rel A:=fun w cs a bs=>∃ v,cs = [.string a.name,v]∧a.name.size≤maxLen∧kV vars w [v] a.args bs
theorem D.iR (vars:List ByteArray):Good (Gj vars):=
 ⟨fun h J=>by obtain ⟨v,h1,I,y⟩:=h; exact ⟨v,h1,I,(dw vars).keep y J⟩,fun h=>by obtain ⟨v,h1,I,y⟩:=h; exact (dw vars).lt y⟩
theorem D.Io (vars:List ByteArray):Dv 2 (Gj vars):=fun h=>by
 obtain ⟨v,rfl,_,y⟩:=h;obtain ⟨I,cap,rfl,_⟩:=aj y;simp [Value.oneCell']
def D.uN (vars:List ByteArray):Rel (List A):=iU 2 (Gj vars)
theorem D.dX (vars:List ByteArray):Good (uN vars):=iO (iR vars) (by omega)
def D.iE (body:List Pt):List A:=(body.filter fun p=>!p.no).map (·.atom)
def D.eF (body:List Pt):List A:=(body.filter fun p=>p.no).map (·.atom)
def D.Zb:Rel (List Pt):=fun w cs body bs=>∃ y I J U b2 b3,cs = [y,I,J]∧bs=U ++ b2 ++ b3∧uN (aF body) w [y] (iE body) U∧uN (aF body) w [I] (eF body) b2∧iF w [J] (aF body) b3
theorem D.yQ {vars:List ByteArray} {w:World} {J:Option Addr} {len cap:Nat} {I:List T} {bs:List Nat} {k:Nat} (h:kV vars w [.slice J len cap] I bs) (U:k < I.length):
  ∃ b o,J=some ⟨b,o,none⟩∧b ∈ bs∧w.cell? ⟨b,o+k * 2,none⟩=some (.int .i64 (kK vars I[k]))∧w.cell? ⟨b,o+k * 2+1,none⟩=some (.string (kL I[k]))∧(kL I[k]).size≤maxLen:=by
 obtain ⟨b,o,cs,bk,rfl,hb,a0,y,⟨rfl,hs,_⟩,_⟩:=jC h U;exact ⟨b,o,rfl,hb,by simpa using y 0 _ rfl,by have:=y 1 _ rfl; simpa [Nat.add_assoc] using this,hs⟩
theorem D.yR {vars:List ByteArray} {w:World} {Ad:Option Addr} {len cap:Nat} {xs:List A} {bs:List Nat} {k:Nat} (h:uN vars w [.slice Ad len cap] xs bs) (hk:k < xs.length):
  ∃ b o I J U,Ad=some ⟨b,o,none⟩∧b ∈ bs∧w.cell? ⟨b,o+k * 2,none⟩=some (.string xs[k].name)∧w.cell? ⟨b,o+k * 2+1,none⟩=some (.slice I xs[k].args.length J)∧
   Gj vars w [.string xs[k].name,.slice I xs[k].args.length J] xs[k] U∧∀ c ∈ U,c ∈ bs:=by
 obtain ⟨b,o,cs,U,rfl,hb,a0,y,⟨v,rfl,hs,h3⟩,hin⟩:=jC h hk;obtain ⟨I,J,rfl,_⟩:=aj h3;exact ⟨b,o,I,J,U,rfl,hb,by simpa using y 0 _ rfl,by have:=y 1 _ rfl; simpa [Nat.add_assoc] using this,⟨_,rfl,hs,h3⟩,hin⟩
structure D.yS {α:Type} (n:Nat) (R:Rel α) (e tb:TypeId) (w:World) (hz hb B:Nat) (nm:ByteArray) (v:Value) (L:List Value) (xs:List α) (wr:World):Prop where
 r0:wr.heap[hz]? = some (.cells #[.string ⟨#[]⟩,.slice none 0 0] tb (0,0))
 r1:wr.heap[hb]? = some (.cells #[.string nm,v] tb (0,0))
 h0:w.heap.size≤hz
 h1:hz < hb
 hB:hb < B
 coll:aX n R B e wr v L xs []
 bel:Below w.heap.size w wr
 qE:B≤wr.heap.size
section
variable {α:Type} {n:Nat} {R:Rel α} {e tb:TypeId} {w:World} {hz hb B:Nat} {nm:ByteArray} {v:Value} {L:List Value} {xs:List α} {wr:World}
theorem D.yS.later {w':World} (g:Good R) (h:yS n R e tb w hz hb B nm v L xs wr) (y:Below wr.heap.size wr w'):yS n R e tb w hz hb B nm v L xs w':=
 ⟨(y.block _ (ψ h.r0)).trans h.r0,(y.block _ (ψ h.r1)).trans h.r1,h.h0,h.h1,h.hB,h.coll.below g y,h.bel.trans (y.mono h.bel.size),τ h.qE y.size⟩
theorem D.yS.lit {cs:List Value} {x:α} (g:Good R) (o:Dv n R) (h:yS n R e tb w hz hb B nm v L xs wr) (I:∀ w,R w cs x []):
  aX n R B e (wr.alloc (.cells cs.toArray e)) v L xs []∧aT n R (wr.alloc (.cells cs.toArray e)) cs [x] []∧Lies (wr.alloc (.cells cs.toArray e)) (some ⟨wr.heap.size,0,none⟩) cs∧
   Below B wr (wr.alloc (.cells cs.toArray e))∧B≤(wr.alloc (.cells cs.toArray e)).heap.size:=by
 have y:Below wr.heap.size wr (wr.alloc (.cells cs.toArray e)):=ζ;exact ⟨(h.later g y).coll,aT.dJ o (I _),by have:=aP (ω wr (.cells cs.toArray e)); simpa using this,ϑ.alloc h.qE _,τ h.qE y.size⟩
theorem D.yS.app {y:World} {U:Value} {L3:List Value} {I:List α} (g:Good R) (h:yS n R e tb w hz hb B nm v L xs wr) (hC:aX n R B e y U L3 I []) (J:Below B wr y):
  y.cell? ⟨hb,1,none⟩=some v∧y.frozen? ⟨hb,1,none⟩=false∧yS n R e tb w hz hb B nm U L3 I (y.setCell ⟨hb,1,none⟩ U)∧∀ c,c < B→c ≠ hb→(y.setCell ⟨hb,1,none⟩ U).heap[c]? = wr.heap[c]?:=by
 have b0:=(J.block hz (Nat.lt_trans h.h1 h.hB)).trans h.r0;have b1:=(J.block hb h.hB).trans h.r1;refine ⟨ai b1,ax b1,⟨(π _ _ _ _ (by have:=h.h1; show hz ≠ hb; omega)).trans b0,vO b1,h.h0,h.h1,h.hB,hC.l9 g (aO hC.own h.hB) (by simp),(h.bel.trans (J.mono (by have:=h.h0; have:=h.h1; have:=h.hB; omega))).setCell (by have:=h.h0; have:=h.h1; show w.heap.size≤hb; omega) _,?_⟩,fun c hc a0=>by rw [π _ _ _ _ a0]; exact J.block c hc⟩;have:=J.size; have:=h.qE; simp [World.setCell]; omega
theorem D.yS.done (g:Good R) (h:yS n R e tb w hz hb B nm v L xs wr):
  ∃ W,W=(wr.setCell ⟨hz,0,none⟩ (.string nm)).setCell ⟨hz,1,none⟩ v∧Below w.heap.size w W∧W.heap[hz]? = some (.cells #[.string nm,v] tb (0,0))∧∃ I,iU n R W [v] xs I∧New B W I:=by
 obtain ⟨I,hs,J⟩:=h.coll.new (New.nil _ _);have a3:=h.h1;have a2:=h.hB;have U:=h.h0
 have keep:∀ b,b ≠ hz→((wr.setCell ⟨hz,0,none⟩ (.string nm)).setCell ⟨hz,1,none⟩ v).heap[b]? = wr.heap[b]?:=fun b y=>by
  rw [π _ _ _ _ y,π _ _ _ _ y]
 have k9:∀ b ∈ I,b ≠ hz:=fun b y e=>by have:=(J.own b y).1; omega
 refine ⟨_,rfl,(h.bel.setCell (p:=⟨hz,0,none⟩) U _).setCell (p:=⟨hz,1,none⟩) U _,?_,I,?_,?_⟩
 ·have:=bY (o:=1) (u:=v) (bY (o:=0) (u:=.string nm) h.r0)
  simpa using this
 ·obtain ⟨Ad,cap,h1,h2,h3,h4,h5⟩:=hs
  refine ⟨Ad,cap,h1,h2,h3,h4,fun a0=>?_⟩;obtain ⟨b,o,q1,F,G,q2,q3⟩:=h5 a0;refine ⟨b,o,q1,F,G,q2,fun k x hx=>?_⟩;obtain ⟨p1,p2,p3⟩:=q3 k x hx;have a1:b ∈ I:=by rw [q2]; exact Γ
  refine ⟨p1,fun j u hj=>by rw [World.cell?_of_block (w:=wr) (keep b (k9 b a1))]; exact p2 j u hj,g.keep p3 fun c hc=>keep c (k9 c ?_)⟩;rw [q2];exact Δ _ (List.mem_flatMap.2 ⟨k,List.mem_range.2 (List.getElem?_eq_some_iff.1 hx).1,hc⟩)
 ·exact J.keep fun b y=>keep b (k9 b y)
end
theorem D9:(Tryz.prog.info? 3).map (fun i=>(i.zero,i.size,i.bytes))=some (some (.int .i64 0),1,8):=by kernel_rfl
def D.yT:Rel Nat:=fun _ cs x bs=>cs = [.int .i64 x]∧bs = []
def D.jT:Rel (List Nat):=iU 1 yT
theorem D.ji:Good yT:=⟨fun h _=>h,fun h b hb=>by rw [h.2] at hb; simp at hb⟩
theorem D.dS:Good jT:=iO ji (by omega)
theorem D.uO {w:World} {g:Nat} {out:List Nat} (h:w.heap[g]? = some (.cells (F9 out) 3 (0,0))) (hl:out.length≤maxLen):∃ bs,jT w [.slice (some ⟨g,0,none⟩) out.length out.length] out bs∧bs.Nodup∧∀ b ∈ bs,b=g:=by
 by_cases J:out = []
 ·subst J
  exact ⟨[],⟨_,_,rfl,ν,ε,fun _=>rfl,fun h=>absurd rfl h⟩,List.nodup_nil,fun b hb=>by simp at hb⟩
 ·refine ⟨g :: (List.range out.length).flatMap fun _=>[],⟨_,_,rfl,ν,hl,fun h=>absurd h J,fun _=>⟨g,0,rfl,fun k=>[.int .i64 (iZ out k:Nat)],fun _=>[],rfl,fun k x U=>⟨rfl,fun j v y=>?_,?_,rfl⟩⟩⟩,by rw [show (List.range out.length).flatMap (fun _=>([]:List Nat)) = [] from List.flatMap_eq_nil_iff.2 fun _ _=>rfl]; simp,fun b hb=>by simpa using hb⟩
  ·have I:k < out.length:=(List.getElem?_eq_some_iff.1 U).1
   match j,y with
   | 0,y=>
    simp only [List.getElem?_cons_zero,Option.some.injEq] at y;rw [ai h,← y];have:=EQ I;simpa using this
   | j+1,y=>simp at y
  ·have:iZ out k=x:=by unfold iZ; rw [List.getD_eq_getElem?_getD,U]; rfl
   simp only [this]
theorem D.qP {w:World} {I:Option Addr} {len cap:Nat} {xs:List Nat} {bs:List Nat} {k:Nat} (h:jT w [.slice I len cap] xs bs) (J:k < xs.length):
  ∃ b o,I=some ⟨b,o,none⟩∧b ∈ bs∧w.cell? ⟨b,o+k,none⟩=some (.int .i64 (xs[k]:Nat)):=by
 obtain ⟨b,o,cs,bk,rfl,hb,U,y,⟨rfl,_⟩,_⟩:=jC h J;exact ⟨b,o,rfl,hb,by simpa using y 0 _ rfl⟩
def D.Qw (w:World) (y:Nat):Prop:=∀ o u,w.cell? ⟨y,o,none⟩=some u→∃ A l c,u=.slice A l c
theorem D.yU {α:Type} {n:Nat} {R:Rel α} {w:World} {J:Nat} (ha:Qw w J) (h1:∀ cs x bs,R w cs x bs→∃ u,cs[0]? = some u∧∀ A l c,u ≠ .slice A l c) (h2:∀ cs x bs,R w cs x bs→J ∉ bs)
  {v:Value} {xs:List α} {bs:List Nat} (h:iU n R w [v] xs bs):J ∉ bs:=by
 intro hb;obtain ⟨Ad,cap,a6,hl,hm,g0,g1⟩:=h;by_cases I:xs = []
 ·rw [g0 I] at hb; simp at hb
 ·obtain ⟨b,o,rfl,F,G,rfl,hF⟩:=g1 I
  rcases ύ.1 hb with rfl | hb
  ·match xs,I with
   | y :: r,_=>
    obtain ⟨a1,a2,U⟩:=hF 0 y rfl;obtain ⟨u,hu,a0⟩:=h1 _ _ _ U;obtain ⟨A,l,c,e⟩:=ha _ _ (a2 0 u hu);exact a0 A l c e
  ·obtain ⟨k,hk,a4⟩:=List.mem_flatMap.1 hb
   have a5:=List.mem_range.1 hk;obtain ⟨a1,a2,U⟩:=hF k xs[k] (Ψ a5);exact h2 _ _ _ U a4
theorem D.Me {w:World} {y:Nat} (ha:Qw w y) {v:Value} {I:List T} {bs:List Nat} (h:gG w [v] I bs):y ∉ bs:=
 yU ha (fun cs x bs h=>by obtain ⟨rfl,_⟩:=h; exact ⟨_,rfl,fun _ _ _=>by simp⟩) (fun cs x bs h=>by obtain ⟨_,_,rfl⟩:=h; simp) h
theorem D.CZ {w:World} {y:Nat} (ha:Qw w y) {v:Value} {xs:List A} {bs:List Nat} (h:aC w [v] xs bs):y ∉ bs:=
 yU ha (fun cs x bs h=>by obtain ⟨s,rfl,_⟩:=h; exact ⟨_,rfl,fun _ _ _=>by simp⟩) (fun cs x bs h=>by obtain ⟨s,_,_,I⟩:=h; exact Me ha I) h
theorem D.fD {w w':World} {b:Nat} {cs:Array Value} {t:TypeId} (hb:Below w.heap.size w w') (h:w.heap[b]? = some (.cells cs t (0,0))):w'.heap[b]? = some (.cells cs t (0,0)):=(hb.block b (ψ h)).trans h
theorem D.dD {w:World} {b o:Nat} {cs:Array Value} {t:TypeId} (h:w.heap[b]? = some (.cells cs t (0,0))):w.cell? ⟨b,o,none⟩=cs[o]?:=by simp [World.cell?,h]
theorem D.bJ {w:World} {b o:Nat} {cs:Array Value} {t:TypeId} (h:w.heap[b]? = some (.cells cs t (0,0))):w.frozen? ⟨b,o,none⟩=false:=by simp [World.frozen?,h]
theorem D.MC {w:World} {I:Nat} {A B:Option Addr} {l c J U:Nat} {t:TypeId} (h:w.heap[I]? = some (.cells #[.slice A l c,.slice B J U] t (0,0))):Qw w I:=fun o u y=>by
 rw [dD h] at y
 match o with
 | 0=>exact ⟨A,l,c,by simpa using y.symm⟩
 | 1=>exact ⟨B,J,U,by simpa using y.symm⟩
 | o+2=>simp at y
theorem D.fQ {w:World} {y:Nat} {t:TypeId} (hb:w.heap[y]? = some (.cells #[.slice none 0 0,.slice none 0 0] t (0,0))) {I J:Value} {c:Ch} {U b2:List Nat} (h1:aC w [I] c.comes U) (h2:aC w [J] c.goes b2):
  gK ((w.setCell ⟨y,0,none⟩ I).setCell ⟨y,1,none⟩ J) [I,J] c (U ++ b2):=by
 have k1:=CZ (MC hb) h1;have k2:=CZ (MC hb) h2;refine ⟨I,J,U,b2,rfl,rfl,au.keep h1 fun b hm=>?_,au.keep h2 fun b hm=>?_⟩
 ·have:b ≠ y:=fun e=>k1 (e ▸ hm)
  rw [π _ _ _ _ this,π _ _ _ _ this]
 ·have:b ≠ y:=fun e=>k2 (e ▸ hm)
  rw [π _ _ _ _ this,π _ _ _ _ this]
theorem D.Ve {w:World} {b:Nat} {o:Option Obj} (h:w.heap[b]? = o):w.drew.heap[b]? = o:=h
theorem D.New.Y1 {B:Nat} {w:World} {bs:List Nat} (h:New B w bs) (p:Addr) (u:Value):New B (w.setCell p u) bs:=⟨h.nodup,fun b hb=>⟨(h.own b hb).1,YT.setCell (h.Zg b hb) p u⟩⟩
theorem D.Qx (w:World) (o:Obj):(w.alloc o).heap[w.heap.size]? = some o:=ω w o
theorem D.Xr (w:World) (I y:Obj):((w.alloc I).alloc y).heap[w.heap.size+1]? = some y:=by
 have:=ω (w.alloc I) y;simpa using this
def D.Yy (c:Ch) (B:Nat) (w:World) (e:Ending) (w':World):Prop:=Below B w w'∧∃ cs bs,e=.returned (.agg cs)∧gK w' cs.toList c bs∧New B w' bs
def D.EY (xs:List A):Prop:=xs.length≤1000000∧∀ x ∈ xs,x.args.length≤16777216
def D.qx (xs ys:List A):Ch:=if (aU xs && aU ys)=true then ⟨cu ys xs,cu xs ys⟩ else ⟨[],[]⟩
theorem D.lQ {xs:List A} (h:aU xs=true):EY xs:=
 ⟨τ (iP h) (by omega),fun x y=>τ (G6 (gU h x y)) (by omega)⟩
theorem D.MF {xs:List A} (h:EY xs) (ys:List A):EY (cu xs ys):=
 ⟨τ (List.length_filter_le _ _) h.1,fun x y=>h.2 x (qI y)⟩
end
section
open Go.RowKit D
attribute [local go_sem ↓] Go.wp_at_zero Go.wp_at_succ
theorem Pn (ps:List Pt) (v:Value) (bs:List Nat) (w:World) (h:jd w [v] ps bs):
  Calls Tryz.prog 186 #[v] w fun e w'=>e=.returned (.bool (qf ps))∧Below w.heap.size w w':=by
 obtain ⟨Ad,cap,rfl,hl,hm⟩:=aj h;have a3:=ay (τ hl hm);clear hm;unfold qf;by_cases h4:ps.length≤4
 ·go_enter Tryz.func186,Tryz.ntmps186
  go_wp2
  go_loopw [10] (fun i wr=>∃ k:Nat,k≤ps.length∧i=.int .i64 k∧(ps.take k).all (fun p=>aZ p.atom)=true∧Below w.heap.size w wr) (fun i _=>ps.length - (intOf i).toNat)
  case atStart=>exact ⟨0,ε,rfl,rfl,ϑ⟩
  case round=>
   obtain ⟨k,hk,rfl,y,hb⟩:=hrel;have HA:=η y;clear y;by_cases I:k < ps.length
   ·obtain ⟨b0,o,Ae,ce,bk,rfl,_,d0,d1,d2,U,_⟩:=iV (dN.below h hb) I
    have hA:=(Below.refl wr.heap.size wr).alloc ν (.cells #[.bool ps[k].no,.string ps[k].atom.name,.slice Ae ps[k].atom.args.length ce] 42);have a0:=ak.below (jD U) hA;clear h U
    go_wp2_with fail
    refine (uJ ps[k].atom _ _ bk _ a0).mono ?_;rintro e w' ⟨rfl,a1⟩;have B':=(hb.trans (hA.mono hb.size)).trans (a1.mono (by have:=hA.size; have:=hb.size; omega));clear a0 hA;by_cases J:aZ ps[k].atom=true
    ·have a2:(!aZ ps[k].atom)=false:=by simp [J]
     have HX:=η J;clear J;go_wp2;go_roundw
     case rel=>exact ⟨k+1,by omega,by go_num,by rw [jw ps k I,HA.out]; exact HX.out,B'⟩
     case measure=>simp [intOf]; omega
    ·have a2:(!aZ ps[k].atom)=true:=by simpa using J
     have HX:=η J;clear J;go_wp2;go_ret;exact ⟨aH (by rw [vI ps k I (by simpa using HX.out)]; simp),B'⟩
   ·have he:=η (show k=ps.length by omega)
    go_wp2;go_ret;exact ⟨aH (by have:=HA.out; rw [he.out,ϕ ν] at this; rw [this]; simp; omega),hb⟩
 ·go_enter Tryz.func186,Tryz.ntmps186
  go_wp2;go_ret;exact ⟨aH (by simp; omega),ϑ⟩
theorem RV:(Tryz.prog.info? 91).map (fun i=>(i.zero,i.size,i.bytes))=some (some (.agg #[.bool false,.string ⟨#[]⟩]),2,24):=by kernel_rfl
theorem D.Xt {b:Bd} {n:ByteArray} {w:World} {cs:List Value} {bs:List Nat} (h:jE w cs b bs):(jB b n).size≤maxLen:=by
 obtain ⟨J,U,b1,b2,rfl,rfl,h1,I⟩:=h;have hz:=xB I;unfold jB
 have:∀ (b:Bd) (v:ByteArray),gI b n=some v→v ∈ b.map (·.2):=by
  intro b
  induction b with
  | nil=>intro v h; cases h
  | cons p b ih=>
   intro v h;rw [gI] at h;by_cases y:p.1=n
   ·rw [if_pos y] at h
    cases h;exact Γ
   ·rw [if_neg y] at h
    exact Δ _ (ih v h)
 cases hg:gI b n with
 | none=>exact ε
 | some v=>exact hz v (this b v hg)
structure D.EZ (w:World) (x:A) (Ad:Option Addr) (cap:Nat) (c0 c1 v:Value) (L:List Value) (ts:List T) (wr:World):Prop where
 a_:wr.heap[w.heap.size]? = some (.cells #[.string x.name,.slice Ad x.args.length cap] 33 (0,0))
 b_:wr.heap[w.heap.size+1]? = some (.cells #[c0,c1] 234 (0,0))
 r_:wr.heap[w.heap.size+2]? = some (.cells #[.string ⟨#[]⟩,.slice none 0 0] 33 (0,0))
 o_:wr.heap[w.heap.size+3]? = some (.cells #[.string x.name,v] 33 (0,0))
 c_:aX 2 kD (w.heap.size+4) 91 wr v L ts []
 bel:Below w.heap.size w wr
theorem D.EZ.below {w:World} {x:A} {y:Option Addr} {cap:Nat} {c0 c1 v:Value} {L:List Value} {I:List T} {wr w':World} (h:EZ w x y cap c0 c1 v L I wr) (hb:Below wr.heap.size wr w'):EZ w x y cap c0 c1 v L I w':=
 ⟨by rw [hb.block _ (ψ h.a_)]; exact h.a_,by rw [hb.block _ (ψ h.b_)]; exact h.b_,by rw [hb.block _ (ψ h.r_)]; exact h.r_,by rw [hb.block _ (ψ h.o_)]; exact h.o_,h.c_.below bD hb,h.bel.trans (hb.mono h.bel.size)⟩
theorem D.EZ.set {w:World} {x:A} {J:Option Addr} {cap:Nat} {c0 c1 v:Value} {L:List Value} {U:List T} {wr:World} (h:EZ w x J cap c0 c1 v L U wr) (M o:Nat) (u:Value) (hM:w.heap.size+4≤M) (I:v.ownBlock ≠ some M):EZ w x J cap c0 c1 v L U (wr.setCell ⟨M,o,none⟩ u):=by
 have y:∀ k,k ≠ M→(wr.setCell ⟨M,o,none⟩ u).heap[k]? = wr.heap[k]?:=fun k y=>π _ _ _ _ y
 refine ⟨by rw [y _ (by omega)]; exact h.a_,by rw [y _ (by omega)]; exact h.b_,by rw [y _ (by omega)]; exact h.r_,by rw [y _ (by omega)]; exact h.o_,?_,h.bel.setCell (by show w.heap.size≤M; omega) u⟩;exact ⟨uy h.c_.own fun b hb=>y b fun e=>I (e ▸ hb),h.c_.row.keep bD fun b hb=>(by cases hb),h.c_.far⟩
theorem D.EZ.app {w:World} {x:A} {Ad:Option Addr} {cap:Nat} {c0 c1 v J:Value} {L L4:List Value} {ts U:List T} {wr y:World} (h:EZ w x Ad cap c0 c1 v L ts wr) (hC:aX 2 kD (w.heap.size+4) 91 y J L4 U []) (I:Below (w.heap.size+4) wr y):
  y.cell? ⟨w.heap.size+3,1,none⟩=some v∧y.frozen? ⟨w.heap.size+3,1,none⟩=false∧EZ w x Ad cap c0 c1 J L4 U (y.setCell ⟨w.heap.size+3,1,none⟩ J):=by
 have b0:=(I.block w.heap.size (by omega)).trans h.a_;have b1:=(I.block (w.heap.size+1) (by omega)).trans h.b_;have b2:=(I.block (w.heap.size+2) (by omega)).trans h.r_;have b3:=(I.block (w.heap.size+3) (by omega)).trans h.o_;have hs:∀ k,k ≠ w.heap.size+3→(y.setCell ⟨w.heap.size+3,1,none⟩ J).heap[k]? = y.heap[k]?:=fun k I=>π _ _ _ _ I
 refine ⟨ai b3,ax b3,⟨(hs _ (by omega)).trans b0,(hs _ (by omega)).trans b1,(hs _ (by omega)).trans b2,vO b3,hC.l9 bD (aO hC.own (by omega)) (by simp),?_⟩⟩;exact (h.bel.trans (I.mono (by omega))).setCell (by show w.heap.size≤w.heap.size+3; omega) J
theorem MG (x:A) (b:Bd) (a0 a1 c0 c1:Value) (ba bs:List Nat) (w:World) (ha:aJ w [a0,a1] x ba) (h:jE w [c0,c1] b bs) (hx:x.args.length≤1000000):
  Calls Tryz.prog 172 #[.agg #[a0,a1],.agg #[c0,c1]] w fun e w'=>Below w.heap.size w w'∧∃ d0 d1 bs',e=.returned (.agg #[d0,d1])∧aJ w' [d0,d1] (cO x b) bs'∧∀ c ∈ bs',w.heap.size≤c:=by
 obtain ⟨s,a4,aw,ht⟩:=ha;simp only [List.cons.injEq,and_true] at a4;obtain ⟨rfl,rfl⟩:=a4;obtain ⟨Ad,cap,rfl,hl,hm⟩:=aj ht;obtain ⟨A1,p1,A2,p2,a4⟩:=ni h;simp only [List.cons.injEq,and_true] at a4;obtain ⟨rfl,rfl⟩:=a4;obtain ⟨i0,hi,az,aD,aE⟩:=info_parts RV;clear hm;have H:=η h;have HT:=η ht;have aL:=η fun n=>Xt (n:=n) h
 have ab:EZ w x Ad cap (.slice A1 b.length p1) (.slice A2 b.length p2) (.slice none 0 0) [] [] ((((w.alloc (.cells #[.string x.name,.slice Ad x.args.length cap] 33)).alloc (.cells #[.slice A1 b.length p1,.slice A2 b.length p2] 234)).alloc (.cells #[.string ⟨#[]⟩,.slice none 0 0] 33)).alloc (.cells #[.string x.name,.slice none 0 0] 33)):=by
  refine ⟨?_,?_,?_,?_,aX.nil _,(((ζ).alloc (by simp) _).alloc (by simp; omega) _).alloc (by simp; omega) _⟩
  ·rw [Below.heap_alloc _ _ _ (by simp; omega),Below.heap_alloc _ _ _ (by simp; omega),Below.heap_alloc _ _ _ (by simp)]
   exact ω w _
  ·rw [Below.heap_alloc _ _ _ (by first | (simp; done) | (simp; omega)),Below.heap_alloc _ _ _ (by first | (simp; done) | (simp; omega))]
   simpa using ω (w.alloc (.cells #[.string x.name,.slice Ad x.args.length cap] 33)) (.cells #[.slice A1 b.length p1,.slice A2 b.length p2] 234)
  ·rw [Below.heap_alloc _ _ _ (by simp)]
   simpa using ω ((w.alloc (.cells #[.string x.name,.slice Ad x.args.length cap] 33)).alloc (.cells #[.slice A1 b.length p1,.slice A2 b.length p2] 234)) (.cells #[.string ⟨#[]⟩,.slice none 0 0] 33)
  ·simpa using ω (((w.alloc (.cells #[.string x.name,.slice Ad x.args.length cap] 33)).alloc (.cells #[.slice A1 b.length p1,.slice A2 b.length p2] 234)).alloc (.cells #[.string ⟨#[]⟩,.slice none 0 0] 33)) (.cells #[.string x.name,.slice none 0 0] 33)
 have ac:=η ab;clear h ht ab
 go_enter Tryz.func172,Tryz.ntmps172
 go_wp2_with fail
 generalize (((w.alloc (.cells #[.string x.name,.slice Ad x.args.length cap] 33)).alloc (.cells #[.slice A1 b.length p1,.slice A2 b.length p2] 234)).alloc (.cells #[.string ⟨#[]⟩,.slice none 0 0] 33)).alloc (.cells #[.string x.name,.slice none 0 0] 33)=w0 at *
 go_loopw [6,7] (fun i _ wr=>∃ (k:Nat) (Av:Option Addr) (cv:Nat) (L:List Value),k≤x.args.length∧i=.int .i64 k∧Hid (EZ w x Ad cap (.slice A1 b.length p1) (.slice A2 b.length p2) (.slice Av k cv) L ((x.args.take k).map (dO b)) wr)) (fun i _ _=>x.args.length - (intOf i).toNat)
 case atStart=>exact ⟨0,none,0,[],ε,rfl,ac⟩
 case round=>
  obtain ⟨k,Av,cv,L,hk,rfl,U⟩:=hrel;clear ac;by_cases a5:k < x.args.length
  ·obtain ⟨d,o,rfl,_,e0,e1,ae⟩:=fJ (aQ.below HT.out U.out.bel) a5
   have bh:(0:Int)≤(k:Int):=by omega
   have aM:(k:Int) < (x.args.length:Int):=by omega
   have aR:Hid ((x.args.take (k+1)).map (dO b)=(x.args.take k).map (dO b) ++ [dO b x.args[k]]):=η (by rw [ρ a5,List.map_append]; rfl);have b1:Hid (((x.args.take k).map (dO b)).length=k):=η (by simp; omega);have af:=η a5;have y1:wr.cell? ⟨w.heap.size,1,none⟩=some (.slice (some ⟨d,o,none⟩) x.args.length cap):=ai U.out.a_;have z0:wr.cell? ⟨w.heap.size+1,0,none⟩=some (.slice A1 b.length p1):=ai U.out.b_;have z1:wr.cell? ⟨w.heap.size+1,1,none⟩=some (.slice A2 b.length p2):=ai U.out.b_;have b3:w.heap.size+4≤wr.heap.size:=by have:=ψ U.out.o_; omega
   have n0:w.heap.size < wr.heap.size:=by omega
   have n1:w.heap.size+1 < wr.heap.size:=by omega
   have n3:w.heap.size+1+1+1 < wr.heap.size:=by omega
   have nd:d < wr.heap.size:=lt_of_cell e0;generalize x.args[k]=t at *;clear a5 hk;obtain ⟨tv,I⟩:=t;dsimp only at *;have hA:Below wr.heap.size wr (wr.alloc (.cells #[.bool false,.string I] 91)):=ζ;have hX:=ω wr (.cells #[.bool false,.string I] 91);have a9:=U.out.below hA;have ag:∀ M,wr.heap.size≤M→(Value.slice Av k cv).ownBlock ≠ some M:=fun M hM e=>by have:=(jJ U.out.c_.own M e).2; omega
   cases tv
   case' true=>
    have q:=fun w' (hb:Below wr.heap.size wr w')=>get_any b I _ _ bs w' (dm.below H.out (U.out.bel.trans (hb.mono U.out.bel.size)))
    go_wp2_with fail
    have a2:∀ y,Below (World.drew (wr.alloc (.cells #[.bool false,.string I] 91))).heap.size (World.drew (wr.alloc (.cells #[.bool false,.string I] 91))) y→Below wr.heap.size wr y:=fun y J=>hA.drew.trans (J.mono hA.size)
    have a6:∀ y,Below (World.drew (wr.alloc (.cells #[.bool false,.string I] 91))).heap.size (World.drew (wr.alloc (.cells #[.bool false,.string I] 91))) y→y.heap[wr.heap.size]? = some (.cells #[.bool false,.string I] 91 (0,0)):=fun y J=>(J.block _ (by show wr.heap.size < (World.alloc wr _).heap.size; simp)).trans hX
    have hK:∀ y,Below (World.drew (wr.alloc (.cells #[.bool false,.string I] 91))).heap.size (World.drew (wr.alloc (.cells #[.bool false,.string I] 91))) y→y.cell? ⟨w.heap.size,1,none⟩=some (.slice (some ⟨d,o,none⟩) x.args.length cap)∧y.cell? ⟨w.heap.size+1,0,none⟩=some (.slice A1 b.length p1)∧y.cell? ⟨w.heap.size+1,1,none⟩=some (.slice A2 b.length p2)∧y.cell? ⟨d,o+k * 2+1,none⟩=some (.string I)∧y.cell? ⟨wr.heap.size,1,none⟩=some (.string I)∧y.frozen? ⟨wr.heap.size,1,none⟩=false:=fun y J=>
     ⟨ξ (a2 y J) y1,ξ (a2 y J) z0,ξ (a2 y J) z1,ξ (a2 y J) e1,ai (a6 y J),ax (a6 y J)⟩
    have am:∀ y:World,(y.cell? ⟨w.heap.size,1,none⟩=some (.slice (some ⟨d,o,none⟩) x.args.length cap)∧y.cell? ⟨w.heap.size+1,0,none⟩=some (.slice A1 b.length p1)∧y.cell? ⟨w.heap.size+1,1,none⟩=some (.slice A2 b.length p2)∧y.cell? ⟨d,o+k * 2+1,none⟩=some (.string I))→((y.setCell ⟨wr.heap.size,1,none⟩ (.string (jB b I))).cell? ⟨w.heap.size,1,none⟩=some (.slice (some ⟨d,o,none⟩) x.args.length cap)∧(y.setCell ⟨wr.heap.size,1,none⟩ (.string (jB b I))).cell? ⟨w.heap.size+1,0,none⟩=some (.slice A1 b.length p1)∧(y.setCell ⟨wr.heap.size,1,none⟩ (.string (jB b I))).cell? ⟨w.heap.size+1,1,none⟩=some (.slice A2 b.length p2)∧(y.setCell ⟨wr.heap.size,1,none⟩ (.string (jB b I))).cell? ⟨d,o+k * 2+1,none⟩=some (.string I)):=fun y ⟨h1,h2,h3,h4⟩=>
     ⟨(World.cell?_of_block (w:=y) (π y ⟨wr.heap.size,1,none⟩ _ _ (by show w.heap.size ≠ wr.heap.size; omega))).trans h1,(World.cell?_of_block (w:=y) (π y ⟨wr.heap.size,1,none⟩ _ _ (by show w.heap.size+1 ≠ wr.heap.size; omega))).trans h2,(World.cell?_of_block (w:=y) (π y ⟨wr.heap.size,1,none⟩ _ _ (by show w.heap.size+1 ≠ wr.heap.size; omega))).trans h3,(World.cell?_of_block (w:=y) (π y ⟨wr.heap.size,1,none⟩ _ _ (by show d ≠ wr.heap.size; omega))).trans h4⟩
    go_region_held3 (fun w'=>w'.cell? ⟨w.heap.size,1,none⟩=some (.slice (some ⟨d,o,none⟩) x.args.length cap)∧w'.cell? ⟨w.heap.size+1,0,none⟩=some (.slice A1 b.length p1)∧w'.cell? ⟨w.heap.size+1,1,none⟩=some (.slice A2 b.length p2)∧w'.cell? ⟨d,o+k * 2+1,none⟩=some (.string I))
     (first | go_keep | exact hq | exact am _ hq)
     (first | (go_at_call 225; refine (q _ hA.drew).mono ?_; rintro e y ⟨rfl,J⟩; have ⟨j0,j1,j2,j3,j4,j5⟩:=hK y J; have hq:=ι j0 (ι j1 (ι j2 j3)); clear j0 j1 j2 j3))
    have HS:Hid (dO b ⟨true,I⟩=⟨false,jB b I⟩):=η rfl;have ao:Hid ((jB b I).size≤maxLen):=η (aL.out I);have a7:(y.setCell ⟨wr.heap.size,1,none⟩ (.string (jB b I))).heap[wr.heap.size]? = some (.cells #[.bool false,.string (jB b I)] 91 (0,0)):=vO (a6 y J);have a3:=(U.out.below (a2 y J)).set wr.heap.size 1 (.string (jB b I)) b3 (ag _ ν);clear hK am a6 a2 hq q a9 j4 j5;generalize hvn:jB b I=nm' at *;generalize hwt:y.setCell ⟨wr.heap.size,1,none⟩ (.string nm')=wt at *;clear J hwt
   case' false=>
    have HS:Hid (dO b ⟨false,I⟩=⟨false,I⟩):=η rfl;have ao:=η ae
    go_upto_region 8 with fail
    have a7:=hX;have a3:=a9;generalize hwt:wr.alloc (.cells #[.bool false,.string I] 91)=wt at *;generalize hvn:I=nm' at *;clear a9 hwt
   all_goals
    have y3:wt.cell? ⟨w.heap.size+1+1+1,1,none⟩=some (.slice Av k cv):=ai a3.o_;have y4:wt.cell? ⟨wr.heap.size,0,none⟩=some (.bool false):=ai a7;have y5:wt.cell? ⟨wr.heap.size,1,none⟩=some (.string nm'):=ai a7;have a8:Below wt.heap.size wt (wt.alloc (.cells #[.bool false,.string nm'] 91)):=ζ;have aq:w.heap.size+4≤wt.heap.size:=by have:=ψ a3.o_; omega
    have HL:Hid (aX 2 kD (w.heap.size+4) 91 (wt.alloc (.cells #[.bool false,.string nm'] 91)) (.slice Av k cv) L ((x.args.take k).map (dO b)) []∧aT 2 kD (wt.alloc (.cells #[.bool false,.string nm'] 91)) [.bool false,.string nm'] [⟨false,nm'⟩] []∧Lies (wt.alloc (.cells #[.bool false,.string nm'] 91)) (some ⟨wt.heap.size,0,none⟩) [.bool false,.string nm']∧Below (w.heap.size+4) wt (wt.alloc (.cells #[.bool false,.string nm'] 91))∧w.heap.size+4≤(wt.alloc (.cells #[.bool false,.string nm'] 91)).heap.size):=
     η ⟨a3.c_.below bD a8,aT.dJ lF ⟨rfl,ao.out,rfl⟩,aP (ω wt _),a8.mono aq,τ aq a8.size⟩
    have b4:Hid (k+1≤maxLen):=η (by unfold maxLen; omega);have b5:Hid ((k+1) * 24≤140737488355328):=η (by omega);have b6:=η a3;clear a3 a7 U y1 z0 z1 e0 e1 hA hX ag a8
    go_wp2_with (at_builtin; refine bU rfl _ _ _ rfl (w.heap.size+4) 91 i0 (.agg #[.bool false,.string ⟨#[]⟩]) 2 24 Tryz.underlying31 hi az aD aE rfl (Θ 1) bD (.slice Av k cv) k L _ [] rfl HL.out.1 b1.out (some ⟨wt.heap.size,0,none⟩) 1 1 _ [⟨false,nm'⟩] _ rfl HL.out.2.1 rfl HL.out.2.2.1 (fun b hb=>by simp at hb) b4.out b5.out wt (w.heap.size+4) HL.out.2.2.2.1 ν HL.out.2.2.2.2 ?_; intro A4 c4 w4 ar av b7 b8; have HZ:=η (b6.out.app ar av); have p1:=HZ.out.1; have p2:=HZ.out.2.1; clear ar av b7 b8 y3 y4 y5)
    go_wp2;go_roundw
    case rel=>exact ⟨k+1,A4,c4,_,af.out,by go_num,by rw [aR.out,HS.out]; exact η HZ.out.2.2⟩
    case measure=>have:=af.out; simp [intOf]; omega
  ·have he:k=x.args.length:=by omega
   have aM:¬ (k:Int) < (x.args.length:Int):=by omega
   have y1:wr.cell? ⟨w.heap.size,1,none⟩=some (.slice Ad x.args.length cap):=ai U.out.a_;have y2:wr.cell? ⟨w.heap.size+1+1+1,0,none⟩=some (.string x.name):=ai U.out.o_;have y3:wr.cell? ⟨w.heap.size+1+1+1,1,none⟩=some (.slice Av k cv):=ai U.out.o_;have y4:wr.cell? ⟨w.heap.size+1+1,0,none⟩=some (.string ⟨#[]⟩):=ai U.out.r_;have y5:wr.cell? ⟨w.heap.size+1+1,1,none⟩=some (.slice none 0 0):=ai U.out.r_;have f4:wr.frozen? ⟨w.heap.size+1+1,0,none⟩=false:=ax U.out.r_;have f5:wr.frozen? ⟨w.heap.size+1+1,1,none⟩=false:=ax U.out.r_;have aa:=bY (o:=1) (u:=.slice Av k cv) (bY (o:=0) (u:=.string x.name) U.out.r_);have b9:((wr.setCell ⟨w.heap.size+1+1,0,none⟩ (.string x.name)).setCell ⟨w.heap.size+1+1,1,none⟩ (.slice Av k cv)).cell? ⟨w.heap.size+1+1,0,none⟩=some (.string x.name):=by simp [World.cell?,aa]
   have bc:((wr.setCell ⟨w.heap.size+1+1,0,none⟩ (.string x.name)).setCell ⟨w.heap.size+1+1,1,none⟩ (.slice Av k cv)).cell? ⟨w.heap.size+1+1,1,none⟩=some (.slice Av k cv):=by simp [World.cell?,aa]
   have HF:Hid (∃ bs',aJ ((wr.setCell ⟨w.heap.size+1+1,0,none⟩ (.string x.name)).setCell ⟨w.heap.size+1+1,1,none⟩ (.slice Av k cv)) [.string x.name,.slice Av k cv] (cO x b) bs'∧∀ c ∈ bs',w.heap.size≤c):=η (by
    have hC:=(U.out.c_.l9 (b:=w.heap.size+2) (o:=0) (u:=.string x.name) bD (aO U.out.c_.own (by omega)) (by simp)).l9 (b:=w.heap.size+2) (o:=1) (u:=.slice Av k cv) bD (aO (U.out.c_.l9 (b:=w.heap.size+2) (o:=0) (u:=.string x.name) bD (aO U.out.c_.own (by omega)) (by simp)).own (by omega)) (by simp);obtain ⟨b2,h2,h3⟩:=hC.slice;refine ⟨b2,⟨.slice Av k cv,rfl,aw,?_⟩,fun c hc=>(h3 c hc).elim (fun h=>by omega) fun h=>by cases h⟩;unfold cO;rw [he,ϕ ν] at h2;rw [he]
    exact h2)
   have HB:=η ((U.out.bel.setCell (p:=⟨w.heap.size+1+1,0,none⟩) (by show w.heap.size≤w.heap.size+1+1; omega) (.string x.name)).setCell (p:=⟨w.heap.size+1+1,1,none⟩) (by show w.heap.size≤w.heap.size+1+1; omega) (.slice Av k cv));clear U he hk aa;go_wp2;obtain ⟨bs',bf,bg⟩:=HF.out;exact bodyPost_ret (v:=.agg #[.string x.name,.slice Av k cv]) (by simp [results,Tryz.results172,go_sem,b9,bc]) rfl ⟨HB.out,_,_,rfl,bs',bf,bg⟩
end
end Go.Proofs.YtkjinanbccloeaaGreatDoor
