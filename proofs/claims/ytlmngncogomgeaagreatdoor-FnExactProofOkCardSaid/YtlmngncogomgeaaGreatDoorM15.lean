/- Of the proof of FnExactProofOk: Pj, AtTxP, HPart, IntK, QryP. -/
import Derived.Test.YtlmngncogomgeaaGreatDoorM10
import Derived.Test.YtlmngncogomgeaaGreatDoorM14
set_option linter.unusedVariables false
set_option maxHeartbeats 400000
namespace Go.Proofs.YtlmngncogomgeaaGreatDoor
namespace D
open Go.RowKit
abbrev Wo:=ByteArray→ByteArray
def wY (σ:Wo) (t:T):T:=⟨false,if t.var then σ t.name else t.name⟩
def gm (σ:Wo) (a:A):A:=⟨a.name,a.args.map (wY σ)⟩
def V9 (list:List A) (r:Ru) (a:A):Prop:=∃ σ:Wo,a=gm σ r.head∧∀ p ∈ r.body,hasB list (gm σ p.atom) = !p.no
def PX (b:Bd) (σ:Wo):Prop:=∀ n v,eY b n=some v→σ n=v
def wZ (b:Bd) (y:List T):Prop:=∀ t ∈ y,t.var=true→(eY b t.name).isSome=true
def Le (b y:Bd):Prop:=∀ n v,eY b n=some v→eY y n=some v
theorem Le.refl (b:Bd):Le b b:=fun _ _ h=>h
theorem Le.trans {a b c:Bd} (h:Le a b) (k:Le b c):Le a c:=fun n v e=>k n v (h n v e)
theorem Le.VR {b y:Bd} (h:Le b y) {I:List T} (hc:wZ b I):wZ y I:=fun t J hv=>by
 obtain ⟨v,hv⟩:=Option.isSome_iff_exists.1 (hc t J hv);rw [h _ _ hv]; rfl
theorem PX.of_le {b y:Bd} {σ:Wo} (h:PX y σ) (I:Le b y):PX b σ:=fun n v e=>h n v (I n v e)
theorem F8 (b:Bd):PX b (iR b):=fun n v e=>by unfold iR; rw [e]; rfl
theorem lD (b c:Bd) (n:ByteArray):eY (b ++ c) n=(eY b n).or (eY c n):=by
 induction b with
 | nil=>simp [eY]
 | cons p b ih=>
  simp only [List.cons_append,eY]
  split
  ·rfl
  ·exact ih
theorem Le.append (b c:Bd):Le b (b ++ c):=fun n v h=>by rw [lD,h]; rfl
theorem QZ {b:Bd} {σ:Wo} {y:List T} (hc:wZ b y) (ha:PX b σ):y.map (dw b)=y.map (wY σ):=by
 refine List.map_congr_left fun t I=>?_
 unfold dw wY;cases hv:t.var
 ·rfl
 ·obtain ⟨v,h⟩:=Option.isSome_iff_exists.1 (hc t I hv)
  simp only [if_true,iR,h,Option.getD_some,ha _ _ h]
theorem jK {b:Bd} {σ:Wo} {a:A} (hc:wZ b a.args) (ha:PX b σ):aY a b=gm σ a:=by
 unfold aY gm;rw [QZ hc ha]
theorem Q7 {b y:Bd} {a:A} (hc:wZ b a.args) (I:Le b y):aY a y=aY a b:=
 (jK (I.VR hc) (F8 y)).trans (jK hc ((F8 y).of_le I)).symm
theorem lZ:∀ (y fs:List T) (b:Bd),Le b (bZ y fs b).1
 | [],fs,b=>by cases fs <;> exact Le.refl b
 | t :: y,[],b=>Le.refl b
 | t :: y,f :: fs,b=>by
  rw [bZ]
  split
  ·split
   ·split
    ·exact lZ y fs b
    ·exact Le.refl b
   ·exact (Le.append _ _).trans (lZ y fs _)
  ·split
   ·exact lZ y fs b
   ·exact Le.refl b
theorem zI:∀ (y fs:List T) (b:Bd),y.length=fs.length→(∀ f ∈ fs,f.var=false)→(bZ y fs b).2=true→wZ (bZ y fs b).1 y∧y.map (dw (bZ y fs b).1)=fs
 | [],[],b,_,_,_=>⟨fun t J=>absurd J (by simp),rfl⟩
 | [],f :: fs,b,h,_,_=>by simp at h
 | t :: y,[],b,h,_,_=>by simp at h
 | ⟨tv,tn⟩ :: y,⟨fv,fn⟩ :: fs,b,hl,hv,hm=>by
  have hf:fv=false:=hv _ Γ;subst hf;have a0:∀ f ∈ fs,f.var=false:=fun f h=>hv f (Δ _ h)
  have a1:y.length=fs.length:=by simpa using hl
  have I:∀ b0:Bd,(bZ y fs b0).2=true→(tv=true→eY b0 tn=some fn)→(tv=false→tn=fn)→
    wZ (bZ y fs b0).1 (⟨tv,tn⟩ :: y)∧(⟨tv,tn⟩ :: y).map (dw (bZ y fs b0).1)=⟨false,fn⟩ :: fs:=by
   intro b0 a2 h1 h2;obtain ⟨i1,i2⟩:=zI y fs b0 a1 a0 a2;refine ⟨fun t J U=>?_,?_⟩
   ·rcases ύ.1 J with rfl | J
    ·rw [lZ y fs b0 _ _ (h1 U)]; rfl
    ·exact i1 t J U
   ·rw [List.map_cons,i2]
    congr 1
    unfold dw;cases tv
    ·simp [h2 rfl]
    ·simp [iR,lZ y fs b0 _ _ (h1 rfl)]
  rw [bZ] at hm ⊢;dsimp only at hm ⊢
  split at hm
  ·rename_i e1
   rw [if_pos e1]
   cases hg:eY b tn with
   | some v=>
    rw [hg] at hm;dsimp only at hm ⊢
    split at hm
    ·rename_i e2
     subst e2;rw [if_pos rfl];exact I b hm (fun _=>hg) fun e=>by rw [e] at e1; cases e1
    ·cases hm
   | none=>
    rw [hg] at hm;dsimp only at hm ⊢;exact I _ hm (fun _=>by rw [lD,hg]; simp [eY]) fun e=>by rw [e] at e1; cases e1
  ·rename_i e1
   rw [if_neg e1]
   split at hm
   ·rename_i e2
    rw [if_pos e2];exact I b hm (fun e=>absurd e e1) fun _=>e2
   ·cases hm
theorem lU:∀ (y fs:List T) (b:Bd) (σ:Wo),PX b σ→y.map (wY σ)=fs→(bZ y fs b).2=true∧PX (bZ y fs b).1 σ
 | [],fs,b,σ,ha,h=>by cases fs with
  | nil=>exact ⟨rfl,ha⟩
  | cons f fs=>simp at h
 | t :: y,[],b,σ,ha,h=>by simp at h
 | ⟨tv,tn⟩ :: y,f :: fs,b,σ,ha,h=>by
  simp only [List.map_cons,List.cons.injEq] at h;obtain ⟨rfl,h⟩:=h;rw [bZ];cases tv
  ·simp only [wY,Bool.false_eq_true,if_false]
   exact lU y fs b σ ha h
  ·simp only [wY,if_true]
   cases hg:eY b tn with
   | some v=>
    dsimp only;rw [if_pos (ha _ _ hg).symm];exact lU y fs b σ ha h
   | none=>
    dsimp only;refine lU y fs _ σ (fun n v e=>?_) h;rw [lD] at e
    cases hn:eY b n with
    | some u=>rw [hn] at e; simp at e; rw [← e]; exact ha _ _ hn
    | none=>
     rw [hn] at e;simp only [Option.none_or,eY] at e
     split at e
     ·rename_i e2; subst e2; simpa using e
     ·cases e
theorem l9 (a f:A) (b:Bd):Le b (aC a f b).1:=by
 unfold aC
 split
 ·exact lZ _ _ _
 ·exact Le.refl b
theorem lF {a f:A} {b:Bd} (hf:∀ t ∈ f.args,t.var=false) (h:(aC a f b).2=true):wZ (aC a f b).1 a.args∧aY a (aC a f b).1=f:=by
 unfold aC at h ⊢
 split at h
 ·rename_i e
  rw [if_pos e];obtain ⟨h1,y⟩:=zI a.args f.args b e.2 hf h;refine ⟨h1,?_⟩;unfold aY;rw [y];obtain ⟨n,I⟩:=f;simp only at e;rw [e.1]
 ·cases h
theorem lV {a f:A} {b:Bd} {σ:Wo} (ha:PX b σ) (h:gm σ a=f):(aC a f b).2=true∧PX (aC a f b).1 σ:=by
 subst h;unfold aC;rw [if_pos ⟨rfl,by simp [gm]⟩];exact lU _ _ _ _ ha rfl
def Gr (a:A):Prop:=∀ t ∈ a.args,t.var=false
theorem nT (σ:Wo) (a:A):Gr (gm σ a):=fun t y=>by
 obtain ⟨u,_,rfl⟩:=List.mem_map.1 y;rfl
theorem Q8 {a b:A} (ha:Gr a) (hb:Gr b) (h:dJ a b=0):a=b:=by
 have:=(vZ a b).1 h;unfold qJ at this;simp only [List.cons.injEq] at this;obtain ⟨n,y⟩:=a;obtain ⟨m,us⟩:=b;dsimp only at *;obtain ⟨rfl,I⟩:=this;have e:y=us:=yt ha hb I;rw [e]
theorem qi {xs:List A} (y:∀ x ∈ xs,Gr x) {a:A} (ha:Gr a):hasB xs a=true ↔ a ∈ xs:=by
 refine ⟨fun h=>?_,lg⟩;obtain ⟨x,hm,hc⟩:=mF.1 h;rw [← Q8 (y x hm) ha hc]; exact hm
theorem xg (a:A) (b:Bd):aY a b=gm (iR b) a:=rfl
theorem Cm {list:List A} (hl:∀ x ∈ list,Gr x) (body:List Pt):∀ k,k≤body.length→∀ b ∈ wQ list (body.take k),∀ p ∈ body.take k,p.no=false→wZ b p.atom.args∧aY p.atom b ∈ list:=by
 intro k
 induction k with
 | zero=>intro _ b _ p y; simp at y
 | succ k ih=>
  intro hk b hb p y I;rw [sG list body k (by omega)] at hb;rw [ρ (by omega)] at y;unfold Eg at hb
  split at hb
  ·rename_i hn
   rcases μ.1 y with y | y
   ·exact ih (by omega) b hb p y I
   ·rw [ώ.1 y] at I; rw [I] at hn; cases hn
  ·obtain ⟨b0,h0,J⟩:=List.mem_flatMap.1 hb
   unfold jB at J;obtain ⟨f,hf,e⟩:=List.mem_filterMap.1 J
   split at e
   ·rename_i hm
    cases e
    rcases μ.1 y with y | y
    ·obtain ⟨h1,U⟩:=ih (by omega) b0 h0 p y I
     refine ⟨(l9 _ _ _).VR h1,?_⟩;rw [Q7 h1 (l9 _ _ _)]; exact U
    ·rw [ώ.1 y]
     obtain ⟨h1,U⟩:=lF (hl f hf) hm;exact ⟨h1,by rw [U]; exact hf⟩
   ·cases e
theorem LW {list:List A} {σ:Wo} (body:List Pt) (y:∀ p ∈ body,p.no=false→gm σ p.atom ∈ list):∀ k,k≤body.length→∃ b ∈ wQ list (body.take k),PX b σ:=by
 intro k
 induction k with
 | zero=>intro _; exact ⟨[],by simp [wQ],fun n v h=>by simp [eY] at h⟩
 | succ k ih=>
  intro hk;obtain ⟨b,hb,ha⟩:=ih (by omega);rw [sG list body k (by omega)];unfold Eg
  split
  ·exact ⟨b,hb,ha⟩
  ·rename_i hn
   have hin:=y body[k] (δ (by omega)) (by simpa using hn);obtain ⟨h1,I⟩:=lV ha (rfl:gm σ body[k].atom=_);refine ⟨_,List.mem_flatMap.2 ⟨b,hb,?_⟩,I⟩;unfold jB;exact List.mem_filterMap.2 ⟨_,hin,by rw [if_pos h1]⟩
def Q9 (r:Ru):Prop:=∀ x,(jL x r.head.args∨∃ p ∈ r.body,jL x p.atom.args)→∃ p ∈ r.body,p.no=false∧jL x p.atom.args
theorem Ep {r:Ru} (J:Q9 r) {b:Bd} (hb:∀ p ∈ r.body,p.no=false→wZ b p.atom.args):wZ b r.head.args∧∀ p ∈ r.body,wZ b p.atom.args:=by
 have h:∀ x,(jL x r.head.args∨∃ p ∈ r.body,jL x p.atom.args)→(eY b x).isSome=true:=fun x U=>by
  obtain ⟨p,I,hn,t,h1,y,rfl⟩:=J x U;exact hb p I hn t h1 y
 exact ⟨fun t h1 y=>h _ (.inl ⟨t,h1,y,rfl⟩),fun p I t h1 y=>h _ (.inr ⟨p,I,t,h1,y,rfl⟩)⟩
theorem Rf {list:List A} (hl:∀ x ∈ list,Gr x) {r:Ru} (ht:Q9 r) (a:A):(∃ b ∈ allB list r.body,aY r.head b=a) ↔ V9 list r a:=by
 constructor
 ·rintro ⟨b,hb,rfl⟩
  unfold allB at hb;obtain ⟨h1,h2⟩:=List.mem_filter.1 hb;have y:=Cm hl r.body r.body.length ν;rw [ϕ ν] at y;have y:=y b h1;refine ⟨iR b,xg _ _,fun p J=>?_⟩;cases I:p.no
  ·rw [← xg]
   exact lg (y p J I).2
  ·unfold dW at h2
   have:=ό.1 h2 p J;rw [I] at this;rw [← xg];simpa using this
 ·rintro ⟨σ,rfl,J⟩
  have U:∀ p ∈ r.body,p.no=false→gm σ p.atom ∈ list:=fun p h I=>(qi hl (nT _ _)).1 (by rw [J p h,I]; rfl)
  have hw:=LW (list:=list) (σ:=σ) r.body U r.body.length ν;have y:=Cm hl r.body r.body.length ν;rw [ϕ ν] at hw y;obtain ⟨b,hb,ha⟩:=hw;obtain ⟨a0,a1⟩:=Ep ht fun p h I=>(y b hb p h I).1
  refine ⟨b,?_,jK a0 ha⟩;unfold allB;refine List.mem_filter.2 ⟨hb,?_⟩;unfold dW;refine ό.2 fun p h=>?_
  rw [jK (a1 p h) ha,J p h]
  cases p.no <;> rfl
end D
namespace D
open Go.RowKit Go.Lib
theorem Uo {c:UInt8} (h:low c=true):big c=false:=by
 cases hb:big c
 ·rfl
 ·exfalso
  have h1:=(zZ c).1 hb;have:low c=false:=(vV c).2 (by omega);rw [this] at h; cases h
theorem Ri {s:ByteArray} (h:iD s=true):qI s=false:=by
 unfold iD ni at h;simp only [ο] at h;unfold qI
 cases hs:s.data.toList with
 | nil=>simp [big]
 | cons x xs=>
  have:=ό.1 h.1.2 x (by rw [hs]; exact Γ);simp [Uo this]
theorem IV {t:T} (h:iP t=true):yH t.name=t:=by
 unfold yH;unfold iP at h;obtain ⟨v,s⟩:=t;cases v
 ·have:=Ri (s:=s) (by simpa using h)
  show (⟨qI s,s⟩:T)=⟨false,s⟩;rw [this]
 ·have h1:vW s=true:=by simpa using h
  unfold vW at h1;simp only [ο] at h1;show (⟨qI s,s⟩:T)=⟨true,s⟩;rw [h1.1.2]
theorem sJ {t:T} (h:iP t=true):(44:UInt8) ∉ t.name.data.toList∧t.name.data.toList ≠ []∧t.name.data.toList.length≤8:=by
 have hz:t.name.data.toList.length=t.name.size:=Array.length_toList;unfold iP at h
 split at h
 ·unfold vW at h
  simp only [ο,decide_eq_true_eq] at h;have h1:=h.1.2;unfold qI at h1;simp only [ο,decide_eq_true_eq] at h1;refine ⟨?_,by intro e; rw [e] at hz; simp at hz; omega,by omega⟩;intro hm
  cases hs:t.name.data.toList with
  | nil=>rw [hs] at hm; simp at hm
  | cons x xs=>
   rw [hs] at hm h1 h
   rcases ύ.1 hm with e | hm
   ·have y:=h1.2
    rw [← e] at y;exact absurd (show big 44=true from y) (by decide)
   ·exact (FX _ (ό.1 h.2 _ hm)).2.2.1 rfl
 ·unfold iD at h
  simp only [ο,decide_eq_true_eq] at h;refine ⟨?_,by intro e; rw [e] at hz; simp at hz; omega,by omega⟩;intro hm;exact (FX _ (ό.1 h.1.2 _ hm)).2.2.1 rfl
theorem Nz {a:A} (h:aZ a=true):BP a.name.data.toList (kG a.args)=a:=by
 unfold aZ at h;simp only [ο] at h;have y:=ό.1 h.2
 have e:a.args=(a.args.map fun t=>t.name.data.toList).map fun w=>yH (toB w):=by
  rw [List.map_map]
  conv=>lhs; rw [← List.map_id a.args]
  refine List.map_congr_left fun t I=>?_
  show t=yH (toB t.name.data.toList);rw [KU,IV (y t I)]
 have J:kG a.args=joinL 44 (a.args.map fun t=>t.name.data.toList):=by
  conv=>lhs; rw [e]
  rw [BQ]
 unfold BP;obtain ⟨nm,args⟩:=a;dsimp only at *;rw [KU]
 cases args with
 | nil=>rw [J]; rfl
 | cons t r=>
  have U:joinL 44 ((t :: r).map fun t=>t.name.data.toList) ≠ []:=by
   have I:=(sJ (y t Γ)).2.1
   cases r with
   | nil=>exact I
   | cons u r=>exact List.append_ne_nil_of_left_ne_nil I _
  rw [if_neg (by rw [J]; exact U),J,zx]
  ·rw [← e]
  ·simp
  ·intro p hp
   obtain ⟨u,hu,rfl⟩:=List.mem_map.1 hp;exact (sJ (y u hu)).1
theorem join_le:∀ (ps:List (List UInt8)),(∀ p ∈ ps,p.length≤8)→(joinL 44 ps).length≤9 * ps.length
 | [],_=>by simp [joinL]
 | [p],h=>by have:=h p Γ; simp [joinL]; omega
 | p :: q :: r,h=>by
  have h1:=h p Γ;have I:=join_le (q :: r) fun x y=>h x (Δ _ y)
  show (p ++ 44 :: joinL 44 (q :: r)).length≤_;rw [χ,List.length_cons];simp only [List.length_cons] at *;omega
theorem Ur {a:A} (h:aZ a=true):(kG a.args).length≤27:=by
 have h0:=h;unfold aZ at h;simp only [ο,decide_eq_true_eq] at h;have y:=ό.1 h.2;have:=Nz h0
 have e:a.args=(a.args.map fun t=>t.name.data.toList).map fun w=>yH (toB w):=by
  rw [List.map_map]
  conv=>lhs; rw [← List.map_id a.args]
  refine List.map_congr_left fun t I=>?_
  show t=yH (toB t.name.data.toList);rw [KU,IV (y t I)]
 rw [e,BQ]
 have:=join_le (a.args.map fun t=>t.name.data.toList) fun p J=>by
  obtain ⟨u,U,rfl⟩:=List.mem_map.1 J;exact (sJ (y u U)).2.2
 rw [List.length_map] at this;omega
theorem IW {s:ByteArray} (h:iD s=true):s.data.toList.length≤8∧1≤s.data.toList.length:=by
 have hz:s.data.toList.length=s.size:=Array.length_toList;unfold iD at h;simp only [ο,decide_eq_true_eq] at h;omega
theorem Es {a:A} (h:aZ a=true):(wI a).length≤37:=by
 have h1:=Ur h;unfold aZ at h;simp only [ο] at h;have y:=IW h.1.1;unfold wI;simp only [χ,List.length_singleton];omega
theorem Et {a:A} (h:aZ a=true):VN (wI a)=(a,true):=by
 have hl:=Es h
 have hc:cut (wI a) [40]=(a.name.data.toList,kG a.args ++ [41],true):=by
  have J:(40:UInt8) ∉ a.name.data.toList:=by
   unfold aZ at h;simp only [ο] at h;exact QW h.1.1
  rcases Vg (wI a) 40 with ⟨h1,_⟩ | ⟨x,y,h1,U,h3⟩
  ·exact absurd (by unfold wI; simp) h1
  ·have e:a.name.data.toList ++ 40 :: (kG a.args ++ [41])=x ++ 40 :: y:=by rw [← h1]; unfold wI; simp
   have I:=pX (kG a.args ++ [41]) J;rw [e,pX y U] at I
   injection I with e1 _
   rw [h3];subst e1;rw [List.append_cancel_left_eq] at e
   injection e with _ e
   rw [e]
 unfold VN;rw [if_neg (by omega),hc];show (if true=true∧(kG a.args ++ [41]).getLast? = some 41 then _ else _)=_;rw [if_pos ⟨rfl,by simp⟩];show (if aZ (BP a.name.data.toList (kG a.args ++ [41]).dropLast)=true then _ else _)=_;rw [List.dropLast_concat,Nz h,if_pos h]
end D
section
open Go.RowKit D
theorem LX (p:Pt) (c0 c1 c2:Value) (bs:List Nat) (left:Int) (w:World) (h:nC w [c0,c1,c2] p bs) (h0:0≤left) (h1:left≤1048576):
  Calls Tryz.prog 133 #[.agg #[c0,c1,c2],.int .i64 left] w (Left left (nY p) w.heap.size w):=by
 have ha:=eX h;obtain ⟨Ad,cap,rfl,rfl,rfl⟩:=nD h;have hq:=fun w' (hb:Below w.heap.size w w')=>qc p.atom _ _ bs left w' (ak.below ha hb) h0 h1
 have y:nY p=jl p.atom:=rfl;rw [y];clear h ha y;have I:=(Below.refl w.heap.size w).alloc ν (.cells #[.bool p.no,.string p.atom.name,.slice Ad p.atom.args.length cap] 203)
 go_enter Tryz.func133,Tryz.ntmps133
 go_wp2_with fail
 refine (hq _ I).mono ?_;rintro e w' ⟨J,r,rfl,hr⟩;have hB:=I.trans (J.mono I.size);go_wp2
 ·rcases hr with rfl | ⟨_,_⟩
  ·go_ret
   exact ⟨hB,_,rfl,.inl rfl⟩
  ·exfalso; omega
 ·rcases hr with rfl | ⟨U,a0⟩
  ·exfalso; omega
  ·go_ret
   exact ⟨hB,_,rfl,.inr ⟨U,a0⟩⟩
theorem Rj (p : Pt) (c0 c1 c2 : Value) (bs : List Nat) (w : World) (h : nC w [c0, c1, c2] p bs) (I : nY p ≤ 1048576) :
    Calls Tryz.prog 136 #[.agg #[c0, c1, c2]] w (tV nC p w.heap.size w) := by
  have ha := eX h;have J : p.atom.name.size ≤ maxLen := by obtain ⟨_, _, I, _⟩ := h; exact I
  obtain ⟨Ad, cap, rfl, rfl, rfl⟩ := nD h;have hq := fun w' (hb : Below w.heap.size w w') => wV p.atom _ _ bs w' (ak.below ha hb) I
  clear h ha;have U := (((Below.refl w.heap.size w).alloc (Nat.le_refl _) (.cells #[.bool p.no, .string p.atom.name, .slice Ad p.atom.args.length cap] 203)).alloc (by simp) (.cells #[.bool false, .string ⟨#[]⟩, .slice none 0 0] 209)).alloc (by simp; omega) (.cells #[.bool p.no, .string ⟨#[]⟩, .slice none 0 0] 209)
  go_enter Tryz.func136, Tryz.ntmps136
  go_wp2_with fail
  refine (hq _ U).mono ?_;rintro e w' ⟨y, a1, bs', rfl, hR, hN⟩;obtain ⟨Ae, ce, rfl⟩ := mr hR;have hB : Below w.heap.size w w' := U.trans (y.mono U.size);have k0 : w'.cell? ⟨w.heap.size + 1 + 1, 0, none⟩ = some (.bool p.no) := cell_later y (by go_simp);have k1 : w'.cell? ⟨w.heap.size + 1 + 1, 1, none⟩ = some (.string ⟨#[]⟩) := cell_later y (by go_simp);have k2 : w'.cell? ⟨w.heap.size + 1 + 1, 2, none⟩ = some (.slice none 0 0) := cell_later y (by go_simp);have l0 : w'.cell? ⟨w.heap.size + 1, 0, none⟩ = some (.bool false) := cell_later y (by go_simp);have l1 : w'.cell? ⟨w.heap.size + 1, 1, none⟩ = some (.string ⟨#[]⟩) := cell_later y (by go_simp);have l2 : w'.cell? ⟨w.heap.size + 1, 2, none⟩ = some (.slice none 0 0) := cell_later y (by go_simp);have f1 : w'.frozen? ⟨w.heap.size + 1 + 1, 1, none⟩ = false := (y.frozen (p := ⟨w.heap.size + 1 + 1, 1, none⟩) (by simp)).trans (by go_simp)
  have f2 : w'.frozen? ⟨w.heap.size + 1 + 1, 2, none⟩ = false := (y.frozen (p := ⟨w.heap.size + 1 + 1, 2, none⟩) (by simp)).trans (by go_simp);have g0 : w'.frozen? ⟨w.heap.size + 1, 0, none⟩ = false := (y.frozen (p := ⟨w.heap.size + 1, 0, none⟩) (by simp)).trans (by go_simp);have g1 : w'.frozen? ⟨w.heap.size + 1, 1, none⟩ = false := (y.frozen (p := ⟨w.heap.size + 1, 1, none⟩) (by simp)).trans (by go_simp);have g2 : w'.frozen? ⟨w.heap.size + 1, 2, none⟩ = false := (y.frozen (p := ⟨w.heap.size + 1, 2, none⟩) (by simp)).trans (by go_simp);have a0 : ∀ b ∈ bs', w.heap.size + 1 + 1 < b := fun b hb => by have := (hN.own b hb).1; simp at this; omega
  have ht := dK hR;go_wp2
  have hk : ∀ b ∈ bs', (((((w'.setCell ⟨w.heap.size + 1 + 1, 1, none⟩ (.string p.atom.name)).setCell ⟨w.heap.size + 1 + 1, 2, none⟩ (.slice Ae p.atom.args.length ce)).setCell ⟨w.heap.size + 1, 0, none⟩ (.bool p.no)).setCell ⟨w.heap.size + 1, 1, none⟩ (.string p.atom.name)).setCell ⟨w.heap.size + 1, 2, none⟩ (.slice Ae p.atom.args.length ce)).heap[b]? = w'.heap[b]? := fun b hb => by
    have := a0 b hb;rw [Below.heap_setCell _ _ _ _ (by simp; omega), Below.heap_setCell _ _ _ _ (by simp; omega), Below.heap_setCell _ _ _ _ (by simp; omega), Below.heap_setCell _ _ _ _ (by simp; omega), Below.heap_setCell _ _ _ _ (by simp; omega)]
  exact bodyPost_ret (v := .agg #[.bool p.no, .string p.atom.name, .slice Ae p.atom.args.length ce]) (by simp [results, Tryz.results136, go_sem, l0, l1, l2]) rfl
    ⟨((((hB.setCell (by simp; omega) _).setCell (by simp; omega) _).setCell (by simp) _).setCell (by simp) _).setCell (by simp) _, _, bs', rfl,
      ⟨_, rfl, J, aG.keep ht hk⟩, (hN.keep hk).mono (by simp; omega)⟩
theorem AB:(Tryz.prog.info? 3).map (fun i=>(i.zero,i.size,i.bytes))=some (some (.int .i64 0),1,8):=by kernel_rfl
def D.xk:Rel Nat:=fun _ cs x y=>cs = [.int .i64 x]∧y = []
def D.jf:Rel (List Nat):=fK 1 xk
theorem D.iI:Good xk:=⟨fun h _=>h,fun h b hb=>by rw [h.2] at hb; simp at hb⟩
theorem D.dG:Good jf:=fZ iI (by omega)
theorem D.rD {w:World} {g:Nat} {out:List Nat} (h:w.heap[g]? = some (.cells (Dy out) 3 (0,0))) (hl:out.length≤maxLen):∃ I,jf w [.slice (some ⟨g,0,none⟩) out.length out.length] out I∧I.Nodup∧∀ b ∈ I,b=g:=by
 by_cases U:out = []
 ·subst U
  exact ⟨[],⟨_,_,rfl,ν,ε,fun _=>rfl,fun h=>absurd rfl h⟩,List.nodup_nil,fun b hb=>by simp at hb⟩
 ·refine ⟨g :: (List.range out.length).flatMap fun _=>[],⟨_,_,rfl,ν,hl,fun h=>absurd h U,fun _=>⟨g,0,rfl,fun k=>[.int .i64 (iw out k:Nat)],fun _=>[],rfl,fun k x hk=>⟨rfl,fun j v y=>?_,?_,rfl⟩⟩⟩,by rw [show (List.range out.length).flatMap (fun _=>([]:List Nat)) = [] from List.flatMap_eq_nil_iff.2 fun _ _=>rfl]; simp,fun b hb=>by simpa using hb⟩
  ·have J:k < out.length:=(List.getElem?_eq_some_iff.1 hk).1
   match j,y with
   | 0,y=>
    simp only [List.getElem?_cons_zero,Option.some.injEq] at y;rw [aj h,← y];have:=Cc J;simpa using this
   | j+1,y=>simp at y
  ·have:iw out k=x:=by unfold iw; rw [List.getD_eq_getElem?_getD,hk]; rfl
   simp only [this]
theorem D.oQ {w:World} {I:Option Addr} {len cap:Nat} {xs:List Nat} {J:List Nat} {k:Nat} (h:jf w [.slice I len cap] xs J) (hk:k < xs.length):
  ∃ b o,I=some ⟨b,o,none⟩∧b ∈ J∧w.cell? ⟨b,o+k,none⟩=some (.int .i64 (xs[k]:Nat)):=by
 obtain ⟨b,o,cs,bk,rfl,hb,U,y,⟨rfl,_⟩,_⟩:=gW h hk;exact ⟨b,o,rfl,hb,by simpa using y 0 _ rfl⟩
def D.jE (vars:List ByteArray) (t:T):Int:=if t.var then ((vars.idxOf t.name:Nat):Int) else -1
def D.jF (t:T):ByteArray:=if t.var then ⟨#[]⟩ else t.name
def D.CB (vars:List ByteArray):Rel T:=fun _ cs t y=>cs = [.int .i64 (jE vars t),.string (jF t)]∧(jF t).size≤maxLen∧y = []
theorem D.fP (vars:List ByteArray):Good (CB vars):=⟨fun h _=>h,fun h b hb=>by rw [h.2.2] at hb; simp at hb⟩
theorem D.CG (vars:List ByteArray):Bc 2 (CB vars):=fun h=>by obtain ⟨rfl,_⟩:=h; simp [Value.oneCell']
def D.jG (vars:List ByteArray):Rel (List T):=fK 2 (CB vars)
theorem D.bU (vars:List ByteArray):Good (jG vars):=fZ (fP vars) (by omega)
def D.DF (vars:List ByteArray):Rel A:=fun w cs a y=>∃ v,cs = [.string a.name,v]∧a.name.size≤maxLen∧jG vars w [v] a.args y
theorem D.gY (vars:List ByteArray):Good (DF vars):=
 ⟨fun h hk=>by obtain ⟨v,h1,I,y⟩:=h; exact ⟨v,h1,I,(bU vars).keep y hk⟩,fun h=>by obtain ⟨v,h1,I,y⟩:=h; exact (bU vars).lt y⟩
theorem D.Eu (vars:List ByteArray):Bc 2 (DF vars):=fun h=>by
 obtain ⟨v,rfl,_,y⟩:=h;obtain ⟨I,cap,rfl,_⟩:=ai y;simp [Value.oneCell']
def D.kK (vars:List ByteArray):Rel (List A):=fK 2 (DF vars)
theorem D.aX (vars:List ByteArray):Good (kK vars):=fZ (gY vars) (by omega)
def D.bW (body:List Pt):List A:=(body.filter fun p=>!p.no).map (·.atom)
def D.bH (body:List Pt):List A:=(body.filter fun p=>p.no).map (·.atom)
def D.VZ:Rel (List Pt):=fun w cs body bs=>∃ y I J U b2 b3,cs = [y,I,J]∧bs=U ++ b2 ++ b3∧kK (ax body) w [y] (bW body) U∧kK (ax body) w [I] (bH body) b2∧jA w [J] (ax body) b3
theorem D.xq {vars:List ByteArray} {w:World} {J:Option Addr} {len cap:Nat} {I:List T} {U:List Nat} {k:Nat} (h:jG vars w [.slice J len cap] I U) (hk:k < I.length):
  ∃ b o,J=some ⟨b,o,none⟩∧b ∈ U∧w.cell? ⟨b,o+k * 2,none⟩=some (.int .i64 (jE vars I[k]))∧w.cell? ⟨b,o+k * 2+1,none⟩=some (.string (jF I[k]))∧(jF I[k]).size≤maxLen:=by
 obtain ⟨b,o,cs,bk,rfl,hb,a0,y,⟨rfl,hs,_⟩,_⟩:=gW h hk;exact ⟨b,o,rfl,hb,by simpa using y 0 _ rfl,by have:=y 1 _ rfl; simpa [Nat.add_assoc] using this,hs⟩
theorem D.qj {vars:List ByteArray} {w:World} {Ad:Option Addr} {len cap:Nat} {xs:List A} {bs:List Nat} {k:Nat} (h:kK vars w [.slice Ad len cap] xs bs) (hk:k < xs.length):
  ∃ b o I J U,Ad=some ⟨b,o,none⟩∧b ∈ bs∧w.cell? ⟨b,o+k * 2,none⟩=some (.string xs[k].name)∧w.cell? ⟨b,o+k * 2+1,none⟩=some (.slice I xs[k].args.length J)∧
   DF vars w [.string xs[k].name,.slice I xs[k].args.length J] xs[k] U∧∀ c ∈ U,c ∈ bs:=by
 obtain ⟨b,o,cs,U,rfl,hb,a0,y,⟨v,rfl,hs,h3⟩,hin⟩:=gW h hk;obtain ⟨I,J,rfl,_⟩:=ai h3;exact ⟨b,o,I,J,U,rfl,hb,by simpa using y 0 _ rfl,by have:=y 1 _ rfl; simpa [Nat.add_assoc] using this,⟨_,rfl,hs,h3⟩,hin⟩
structure D.xu {α:Type} (n:Nat) (R:Rel α) (e tb:TypeId) (w:World) (hz hb B:Nat) (nm:ByteArray) (v:Value) (L:List Value) (xs:List α) (wr:World):Prop where
 r0:wr.heap[hz]? = some (.cells #[.string ⟨#[]⟩,.slice none 0 0] tb (0,0))
 r1:wr.heap[hb]? = some (.cells #[.string nm,v] tb (0,0))
 h0:w.heap.size≤hz
 h1:hz < hb
 hB:hb < B
 coll:cu n R B e wr v L xs []
 bel:Below w.heap.size w wr
 oH:B≤wr.heap.size
section
variable {α:Type} {n:Nat} {R:Rel α} {e tb:TypeId} {w:World} {hz hb B:Nat} {nm:ByteArray} {v:Value} {L:List Value} {xs:List α} {wr:World}
theorem D.xu.later {w':World} (g:Good R) (h:xu n R e tb w hz hb B nm v L xs wr) (hk:Below wr.heap.size wr w'):xu n R e tb w hz hb B nm v L xs w':=
 ⟨(hk.block _ (ψ h.r0)).trans h.r0,(hk.block _ (ψ h.r1)).trans h.r1,h.h0,h.h1,h.hB,h.coll.below g hk,h.bel.trans (hk.mono h.bel.size),τ h.oH hk.size⟩
theorem D.xu.lit {cs:List Value} {x:α} (g:Good R) (o:Bc n R) (h:xu n R e tb w hz hb B nm v L xs wr) (I:∀ w,R w cs x []):
  cu n R B e (wr.alloc (.cells cs.toArray e)) v L xs []∧aV n R (wr.alloc (.cells cs.toArray e)) cs [x] []∧Lies (wr.alloc (.cells cs.toArray e)) (some ⟨wr.heap.size,0,none⟩) cs∧
   Below B wr (wr.alloc (.cells cs.toArray e))∧B≤(wr.alloc (.cells cs.toArray e)).heap.size:=by
 have y:Below wr.heap.size wr (wr.alloc (.cells cs.toArray e)):=ζ;exact ⟨(h.later g y).coll,aV.dY o (I _),by have:=aS (ω wr (.cells cs.toArray e)); simpa using this,ϑ.alloc h.oH _,τ h.oH y.size⟩
theorem D.xu.app {y:World} {J:Value} {L3:List Value} {I:List α} (g:Good R) (h:xu n R e tb w hz hb B nm v L xs wr) (hC:cu n R B e y J L3 I []) (hk:Below B wr y):
  y.cell? ⟨hb,1,none⟩=some v∧y.frozen? ⟨hb,1,none⟩=false∧xu n R e tb w hz hb B nm J L3 I (y.setCell ⟨hb,1,none⟩ J)∧∀ c,c < B→c ≠ hb→(y.setCell ⟨hb,1,none⟩ J).heap[c]? = wr.heap[c]?:=by
 have b0:=(hk.block hz (Nat.lt_trans h.h1 h.hB)).trans h.r0;have U:=(hk.block hb h.hB).trans h.r1;refine ⟨aj U,aB U,⟨(π _ _ _ _ (by have:=h.h1; show hz ≠ hb; omega)).trans b0,Aq U,h.h0,h.h1,h.hB,hC.Bg g (aO hC.own h.hB) (by simp),(h.bel.trans (hk.mono (by have:=h.h0; have:=h.h1; have:=h.hB; omega))).setCell (by have:=h.h0; have:=h.h1; show w.heap.size≤hb; omega) _,?_⟩,fun c hc a0=>by rw [π _ _ _ _ a0]; exact hk.block c hc⟩;have:=hk.size; have:=h.oH; simp [World.setCell]; omega
theorem D.xu.done (g:Good R) (h:xu n R e tb w hz hb B nm v L xs wr):
  ∃ W,W=(wr.setCell ⟨hz,0,none⟩ (.string nm)).setCell ⟨hz,1,none⟩ v∧Below w.heap.size w W∧W.heap[hz]? = some (.cells #[.string nm,v] tb (0,0))∧∃ I,fK n R W [v] xs I∧New B W I:=by
 obtain ⟨I,hs,J⟩:=h.coll.new (New.nil _ _);have a3:=h.h1;have a2:=h.hB;have U:=h.h0
 have keep:∀ b,b ≠ hz→((wr.setCell ⟨hz,0,none⟩ (.string nm)).setCell ⟨hz,1,none⟩ v).heap[b]? = wr.heap[b]?:=fun b y=>by
  rw [π _ _ _ _ y,π _ _ _ _ y]
 have k9:∀ b ∈ I,b ≠ hz:=fun b y e=>by have:=(J.own b y).1; omega
 refine ⟨_,rfl,(h.bel.setCell (p:=⟨hz,0,none⟩) U _).setCell (p:=⟨hz,1,none⟩) U _,?_,I,?_,?_⟩
 ·have:=bY (o:=1) (u:=v) (bY (o:=0) (u:=.string nm) h.r0)
  simpa using this
 ·obtain ⟨Ad,cap,h1,h2,h3,h4,h5⟩:=hs
  refine ⟨Ad,cap,h1,h2,h3,h4,fun a0=>?_⟩;obtain ⟨b,o,q1,F,G,q2,q3⟩:=h5 a0;refine ⟨b,o,q1,F,G,q2,fun k x hx=>?_⟩;obtain ⟨p1,p2,p3⟩:=q3 k x hx;have a1:b ∈ I:=by rw [q2]; exact Γ
  refine ⟨p1,fun j u hj=>by rw [World.cell?_of_block (w:=wr) (keep b (k9 b a1))]; exact p2 j u hj,g.keep p3 fun c hc=>keep c (k9 c ?_)⟩;rw [q2];exact Δ _ (List.mem_flatMap.2 ⟨k,List.mem_range.2 (List.getElem?_eq_some_iff.1 hx).1,hc⟩)
 ·exact J.keep fun b y=>keep b (k9 b y)
end
end
end Go.Proofs.YtlmngncogomgeaaGreatDoor
