/- Of the proof of FnEval,FnEvalOrder,FnEvalMore: Ba, LevI, AtTxP, QryP, IntK, ChP, Body. -/
import Derived.Test.YtkjinanbccloeaaGreatDoorM11
set_option linter.unusedVariables false
set_option maxHeartbeats 400000
namespace Go.Proofs.YtkjinanbccloeaaGreatDoor.D
open Go.RowKit
abbrev Wo:=ByteArray→ByteArray
def wJ (σ:Wo) (t:T):T:=⟨false,if t.var then σ t.name else t.name⟩
def fA (σ:Wo) (a:A):A:=⟨a.name,a.args.map (wJ σ)⟩
def Yz (list:List A) (r:Ru) (a:A):Prop:=∃ σ:Wo,a=fA σ r.head∧∀ p ∈ r.body,hasB list (fA σ p.atom) = !p.no
def SV (b:Bd) (σ:Wo):Prop:=∀ n v,eU b n=some v→σ n=v
def wK (b:Bd) (y:List T):Prop:=∀ t ∈ y,t.var=true→(eU b t.name).isSome=true
def Le (b y:Bd):Prop:=∀ n v,eU b n=some v→eU y n=some v
theorem Le.refl (b:Bd):Le b b:=fun _ _ h=>h
theorem Le.trans {a b c:Bd} (h:Le a b) (k:Le b c):Le a c:=fun n v e=>k n v (h n v e)
theorem Le.Yn {b y:Bd} (h:Le b y) {I:List T} (hc:wK b I):wK y I:=fun t J hv=>by
 obtain ⟨v,hv⟩:=Option.isSome_iff_exists.1 (hc t J hv);rw [h _ _ hv]; rfl
theorem SV.of_le {b y:Bd} {σ:Wo} (h:SV y σ) (I:Le b y):SV b σ:=fun n v e=>h n v (I n v e)
theorem IA (b:Bd):SV b (iO b):=fun n v e=>by unfold iO; rw [e]; rfl
theorem lQ (b c:Bd) (n:ByteArray):eU (b ++ c) n=(eU b n).or (eU c n):=by
 induction b with
 | nil=>simp [eU]
 | cons p b ih=>
  simp only [List.cons_append,eU]
  split
  ·rfl
  ·exact ih
theorem Le.append (b c:Bd):Le b (b ++ c):=fun n v h=>by rw [lQ,h]; rfl
theorem Ut {b:Bd} {σ:Wo} {y:List T} (hc:wK b y) (ha:SV b σ):y.map (dw b)=y.map (wJ σ):=by
 refine List.map_congr_left fun t I=>?_
 unfold dw wJ;cases hv:t.var
 ·rfl
 ·obtain ⟨v,h⟩:=Option.isSome_iff_exists.1 (hc t I hv)
  simp only [if_true,iO,h,Option.getD_some,ha _ _ h]
theorem jJ {b:Bd} {σ:Wo} {a:A} (hc:wK b a.args) (ha:SV b σ):bK a b=fA σ a:=by
 unfold bK fA;rw [Ut hc ha]
theorem Uu {b y:Bd} {a:A} (hc:wK b a.args) (I:Le b y):bK a y=bK a b:=
 (jJ (I.Yn hc) (IA y)).trans (jJ hc ((IA y).of_le I)).symm
theorem mW:∀ (y fs:List T) (b:Bd),Le b (bV y fs b).1
 | [],fs,b=>by cases fs <;> exact Le.refl b
 | t :: y,[],b=>Le.refl b
 | t :: y,f :: fs,b=>by
  rw [bV]
  split
  ·split
   ·split
    ·exact mW y fs b
    ·exact Le.refl b
   ·exact (Le.append _ _).trans (mW y fs _)
  ·split
   ·exact mW y fs b
   ·exact Le.refl b
theorem zo:∀ (y fs:List T) (b:Bd),y.length=fs.length→(∀ f ∈ fs,f.var=false)→(bV y fs b).2=true→wK (bV y fs b).1 y∧y.map (dw (bV y fs b).1)=fs
 | [],[],b,_,_,_=>⟨fun t J=>absurd J (by simp),rfl⟩
 | [],f :: fs,b,h,_,_=>by simp at h
 | t :: y,[],b,h,_,_=>by simp at h
 | ⟨tv,tn⟩ :: y,⟨fv,fn⟩ :: fs,b,hl,hv,hm=>by
  have hf:fv=false:=hv _ (List.mem_cons_self ..);subst hf;have a0:∀ f ∈ fs,f.var=false:=fun f h=>hv f (List.mem_cons_of_mem _ h)
  have a1:y.length=fs.length:=by simpa using hl
  have I:∀ b0:Bd,(bV y fs b0).2=true→(tv=true→eU b0 tn=some fn)→(tv=false→tn=fn)→
    wK (bV y fs b0).1 (⟨tv,tn⟩ :: y)∧(⟨tv,tn⟩ :: y).map (dw (bV y fs b0).1)=⟨false,fn⟩ :: fs:=by
   intro b0 a2 h1 h2;obtain ⟨i1,i2⟩:=zo y fs b0 a1 a0 a2;refine ⟨fun t J U=>?_,?_⟩
   ·rcases List.mem_cons.1 J with rfl | J
    ·rw [mW y fs b0 _ _ (h1 U)]; rfl
    ·exact i1 t J U
   ·rw [List.map_cons,i2]
    congr 1
    unfold dw;cases tv
    ·simp [h2 rfl]
    ·simp [iO,mW y fs b0 _ _ (h1 rfl)]
  rw [bV] at hm ⊢;dsimp only at hm ⊢
  split at hm
  ·rename_i e1
   rw [if_pos e1]
   cases hg:eU b tn with
   | some v=>
    rw [hg] at hm;dsimp only at hm ⊢
    split at hm
    ·rename_i e2
     subst e2;rw [if_pos rfl];exact I b hm (fun _=>hg) fun e=>by rw [e] at e1; cases e1
    ·cases hm
   | none=>
    rw [hg] at hm;dsimp only at hm ⊢;exact I _ hm (fun _=>by rw [lQ,hg]; simp [eU]) fun e=>by rw [e] at e1; cases e1
  ·rename_i e1
   rw [if_neg e1]
   split at hm
   ·rename_i e2
    rw [if_pos e2];exact I b hm (fun e=>absurd e e1) fun _=>e2
   ·cases hm
theorem mO:∀ (y fs:List T) (b:Bd) (σ:Wo),SV b σ→y.map (wJ σ)=fs→(bV y fs b).2=true∧SV (bV y fs b).1 σ
 | [],fs,b,σ,ha,h=>by cases fs with
  | nil=>exact ⟨rfl,ha⟩
  | cons f fs=>simp at h
 | t :: y,[],b,σ,ha,h=>by simp at h
 | ⟨tv,tn⟩ :: y,f :: fs,b,σ,ha,h=>by
  simp only [List.map_cons,List.cons.injEq] at h;obtain ⟨rfl,h⟩:=h;rw [bV];cases tv
  ·simp only [wJ,Bool.false_eq_true,if_false]
   exact mO y fs b σ ha h
  ·simp only [wJ,if_true]
   cases hg:eU b tn with
   | some v=>
    dsimp only;rw [if_pos (ha _ _ hg).symm];exact mO y fs b σ ha h
   | none=>
    dsimp only;refine mO y fs _ σ (fun n v e=>?_) h;rw [lQ] at e
    cases hn:eU b n with
    | some u=>rw [hn] at e; simp at e; rw [← e]; exact ha _ _ hn
    | none=>
     rw [hn] at e;simp only [Option.none_or,eU] at e
     split at e
     ·rename_i e2; subst e2; simpa using e
     ·cases e
theorem mX (a f:A) (b:Bd):Le b (aC a f b).1:=by
 unfold aC
 split
 ·exact mW _ _ _
 ·exact Le.refl b
theorem lS {a f:A} {b:Bd} (hf:∀ t ∈ f.args,t.var=false) (h:(aC a f b).2=true):wK (aC a f b).1 a.args∧bK a (aC a f b).1=f:=by
 unfold aC at h ⊢
 split at h
 ·rename_i e
  rw [if_pos e];obtain ⟨h1,y⟩:=zo a.args f.args b e.2 hf h;refine ⟨h1,?_⟩;unfold bK;rw [y];obtain ⟨n,I⟩:=f;simp only at e;rw [e.1]
 ·cases h
theorem mP {a f:A} {b:Bd} {σ:Wo} (ha:SV b σ) (h:fA σ a=f):(aC a f b).2=true∧SV (aC a f b).1 σ:=by
 subst h;unfold aC;rw [if_pos ⟨rfl,by simp [fA]⟩];exact mO _ _ _ _ ha rfl
def Gr (a:A):Prop:=∀ t ∈ a.args,t.var=false
theorem qf (σ:Wo) (a:A):Gr (fA σ a):=fun t y=>by
 obtain ⟨u,_,rfl⟩:=List.mem_map.1 y;rfl
theorem Xo {a b:A} (ha:Gr a) (hb:Gr b) (h:dJ a b=0):a=b:=by
 have:=(vP a b).1 h;unfold qJ at this;simp only [List.cons.injEq] at this;obtain ⟨n,y⟩:=a;obtain ⟨m,us⟩:=b;dsimp only at *;obtain ⟨rfl,I⟩:=this;have e:y=us:=xY ha hb I;rw [e]
theorem qg {xs:List A} (y:∀ x ∈ xs,Gr x) {a:A} (ha:Gr a):hasB xs a=true ↔ a ∈ xs:=by
 refine ⟨fun h=>?_,lG⟩;obtain ⟨x,hm,hc⟩:=oO.1 h;rw [← Xo (y x hm) ha hc]; exact hm
theorem wL (a:A) (b:Bd):bK a b=fA (iO b) a:=rfl
theorem DX {list:List A} (hl:∀ x ∈ list,Gr x) (body:List Pt):∀ k,k≤body.length→∀ b ∈ wB list (body.take k),∀ p ∈ body.take k,p.no=false→wK b p.atom.args∧bK p.atom b ∈ list:=by
 intro k
 induction k with
 | zero=>intro _ b _ p y; simp at y
 | succ k ih=>
  intro hk b hb p y I;rw [sO list body k (by omega)] at hb;rw [List.take_succ_eq_append_getElem (by omega)] at y;unfold Gj at hb
  split at hb
  ·rename_i hn
   rcases List.mem_append.1 y with y | y
   ·exact ih (by omega) b hb p y I
   ·rw [List.mem_singleton.1 y] at I; rw [I] at hn; cases hn
  ·obtain ⟨b0,h0,J⟩:=List.mem_flatMap.1 hb
   unfold jC at J;obtain ⟨f,hf,e⟩:=List.mem_filterMap.1 J
   split at e
   ·rename_i hm
    cases e
    rcases List.mem_append.1 y with y | y
    ·obtain ⟨h1,U⟩:=ih (by omega) b0 h0 p y I
     refine ⟨(mX _ _ _).Yn h1,?_⟩;rw [Uu h1 (mX _ _ _)]; exact U
    ·rw [List.mem_singleton.1 y]
     obtain ⟨h1,U⟩:=lS (hl f hf) hm;exact ⟨h1,by rw [U]; exact hf⟩
   ·cases e
theorem Ou {list:List A} {σ:Wo} (body:List Pt) (y:∀ p ∈ body,p.no=false→fA σ p.atom ∈ list):∀ k,k≤body.length→∃ b ∈ wB list (body.take k),SV b σ:=by
 intro k
 induction k with
 | zero=>intro _; exact ⟨[],by simp [wB],fun n v h=>by simp [eU] at h⟩
 | succ k ih=>
  intro J;obtain ⟨b,hb,ha⟩:=ih (by omega);rw [sO list body k (by omega)];unfold Gj
  split
  ·exact ⟨b,hb,ha⟩
  ·rename_i hn
   have hin:=y body[k] (List.getElem_mem (by omega)) (by simpa using hn);obtain ⟨h1,I⟩:=mP ha (rfl:fA σ body[k].atom=_);refine ⟨_,List.mem_flatMap.2 ⟨b,hb,?_⟩,I⟩;unfold jC;exact List.mem_filterMap.2 ⟨_,hin,by rw [if_pos h1]⟩
def Uw (r:Ru):Prop:=∀ x,(jM x r.head.args∨∃ p ∈ r.body,jM x p.atom.args)→∃ p ∈ r.body,p.no=false∧jM x p.atom.args
theorem Gs {r:Ru} (J:Uw r) {b:Bd} (hb:∀ p ∈ r.body,p.no=false→wK b p.atom.args):wK b r.head.args∧∀ p ∈ r.body,wK b p.atom.args:=by
 have h:∀ x,(jM x r.head.args∨∃ p ∈ r.body,jM x p.atom.args)→(eU b x).isSome=true:=fun x U=>by
  obtain ⟨p,I,hn,t,h1,y,rfl⟩:=J x U;exact hb p I hn t h1 y
 exact ⟨fun t h1 y=>h _ (.inl ⟨t,h1,y,rfl⟩),fun p I t h1 y=>h _ (.inr ⟨p,I,t,h1,y,rfl⟩)⟩
theorem Ux {list:List A} (hl:∀ x ∈ list,Gr x) {r:Ru} (ht:Uw r) (a:A):(∃ b ∈ allB list r.body,bK r.head b=a) ↔ Yz list r a:=by
 constructor
 ·rintro ⟨b,hb,rfl⟩
  unfold allB at hb;obtain ⟨h1,h2⟩:=List.mem_filter.1 hb;have y:=DX hl r.body r.body.length (Nat.le_refl _);rw [List.take_of_length_le (Nat.le_refl _)] at y;have y:=y b h1;refine ⟨iO b,wL _ _,fun p J=>?_⟩;cases I:p.no
  ·rw [← wL]
   exact lG (y p J I).2
  ·unfold iD at h2
   have:=List.all_eq_true.1 h2 p J;rw [I] at this;rw [← wL];simpa using this
 ·rintro ⟨σ,rfl,J⟩
  have U:∀ p ∈ r.body,p.no=false→fA σ p.atom ∈ list:=fun p h I=>(qg hl (qf _ _)).1 (by rw [J p h,I]; rfl)
  have hw:=Ou (list:=list) (σ:=σ) r.body U r.body.length (Nat.le_refl _);have y:=DX hl r.body r.body.length (Nat.le_refl _);rw [List.take_of_length_le (Nat.le_refl _)] at hw y;obtain ⟨b,hb,ha⟩:=hw;obtain ⟨a0,a1⟩:=Gs ht fun p h I=>(y b hb p h I).1
  refine ⟨b,?_,jJ a0 ha⟩;unfold allB;refine List.mem_filter.2 ⟨hb,?_⟩;unfold iD;refine List.all_eq_true.2 fun p h=>?_
  rw [jJ (a1 p h) ha,J p h]
  cases p.no <;> rfl
def EN (out:List Nat):Array Value:=(out.map fun n:Nat=>Value.int .i64 (n:Int)).toArray
theorem DY {out:List Nat} {i:Nat} (h:i < out.length):(EN out)[i]? = some (.int .i64 (gW out i:Nat)):=by
 unfold EN gW;simp [List.getElem?_eq_getElem h]
theorem IB (out:List Nat) (i v:Nat):(EN out).setIfInBounds i (.int .i64 (v:Nat))=EN (out.set i v):=by
 unfold EN;simp [List.map_set]
theorem DZ (n:Nat):madeCells #[Value.int .i64 0] n=EN (List.replicate n 0):=by
 unfold madeCells EN;refine Array.ext (by simp) fun i h1 y=>?_
 simp [Nat.mod_one]
def numOf:Option Value→Nat
 | some (.int _ z)=>z.toNat
 | _=>0
def D5 (w:World) (g n:Nat):Nat:=((List.range n).map fun i=>numOf (w.cell? ⟨g,i,none⟩)).sum
theorem Gt {w:World} {g:Nat} {out:List Nat} {t:TypeId} (h:w.heap[g]? = some (.cells (EN out) t (0,0))):D5 w g out.length=out.sum:=by
 unfold D5
 have:((List.range out.length).map fun i=>numOf (w.cell? ⟨g,i,none⟩))=out:=by
  refine List.ext_getElem (by simp) fun i h1 y=>?_
  simp only [List.getElem_map,List.getElem_range];rw [ai h,DY y];unfold numOf gW;simp [List.getElem?_eq_getElem y]
 rw [this]
def lT (rs:List Ru) (out:List Nat) (s:ByteArray):Nat:=gW out ((aK rs).idxOf s)
structure Ov (rs:List Ru) (out:List Nat):Prop where
 len:out.length=(aK rs).length
 bel:∀ T,Jb rs T→∀ n ∈ bH rs,lT rs out n≤T n
 lo:∀ i,i < out.length→gW out i < out.length
theorem D6 (n i:Nat):gW (List.replicate n 0) i=0:=by
 unfold gW; rw [List.getD_eq_getElem?_getD,List.getElem?_replicate]; split <;> rfl
theorem Ov.zero (rs:List Ru):Ov rs (List.replicate (aK rs).length 0):=
 ⟨by simp,fun T _ n _=>by unfold lT; rw [D6]; exact Nat.zero_le _,fun i h=>by rw [D6]; omega⟩
theorem Ov.Ih {rs:List Ru} {out:List Nat} (h:Ov rs out):out.sum≤(aK rs).length * (aK rs).length:=by
 have:=Gf (out:=out) (n:=out.length) fun i y=>Nat.le_of_lt (h.lo i y)
 rw [h.len] at this;exact this
theorem uX {rs:List Ru} {n:ByteArray} (h:n ∈ bH rs):(aK rs).idxOf n < (aK rs).length:=List.idxOf_lt_length_of_mem (jc.2 h)
theorem Ov.step {rs:List Ru} {out:List Nat} (h:Ov rs out) {r:Ru} (hr:r ∈ rs) {p:Pt} (hp:p ∈ r.body) (hh:p.atom.name ∈ bH rs) {l:Nat} (hl:l=lT rs out p.atom.name+AL p)
  (I:lT rs out r.head.name < l) (hN:l < (aK rs).length):Ov rs (out.set ((aK rs).idxOf r.head.name) l)∧out.sum < (out.set ((aK rs).idxOf r.head.name) l).sum:=by
 have hi:=uX (head_mem hr);have y:(aK rs).idxOf r.head.name < out.length:=by rw [h.len]; exact hi
 refine ⟨⟨by simp [h.len],fun T U n hn=>?_,fun i J=>?_⟩,?_⟩
 ·unfold lT
  rw [nY y]
  split
  ·rename_i e
   have e2:n=r.head.name:=by
    have h1:=List.getElem_idxOf hi;have h2:=List.getElem_idxOf (uX hn);rw [← h2,← h1]
    congr 1
    exact e.symm
   have h3:=U r hr p hp hh;have h4:=h.bel T U _ hh;rw [e2,hl]; omega
  ·exact h.bel T U n hn
 ·rw [List.length_set] at J ⊢
  rw [nY y]
  split
  ·rw [h.len]; exact hN
  ·exact h.lo i J
 ·refine Ud (NZ (Nat.le_of_lt I)) fun e=>?_
  have h5:=yt y e;unfold lT at I;omega
theorem Ov.err {rs:List Ru} {out:List Nat} (h:Ov rs out) {r:Ru} (hr:r ∈ rs) {p:Pt} (J:p ∈ r.body) (y:p.atom.name ∈ bH rs) {l:Nat} (hl:l=lT rs out p.atom.name+AL p)
  (hN:(aK rs).length≤l):kT rs=true:=by
 refine QB fun S U=>?_
 obtain ⟨T,I,hs⟩:=F9 U;have h1:=I r hr p J y;have h2:=hs _ (head_mem hr);have h3:=h.bel T I _ y;omega
def QO (rs:List Ru) (out:List Nat) (r:Ru) (p:Pt):Prop:=p.atom.name ∈ bH rs→lT rs out p.atom.name+AL p≤lT rs out r.head.name
def uY (rs:List Ru) (out:List Nat) (k:Nat):Prop:=∀ r ∈ rs.take k,∀ p ∈ r.body,QO rs out r p
theorem Ov.done {rs:List Ru} {out:List Nat} (h:Ov rs out) (y:uY rs out rs.length):kT rs=false∧∀ i,i < rs.length→lT rs out (dh rs i).head.name=gW (aA rs) i:=by
 have h1:Jb rs (lT rs out):=fun r hr p I J=>y r (by rw [List.take_of_length_le (Nat.le_refl _)]; exact hr) p I J
 exact ⟨oU h1,Uf h1 h.bel⟩
theorem uY.zero (rs:List Ru) (out:List Nat):uY rs out 0:=fun r hr=>by simp at hr
theorem uY.snoc {rs:List Ru} {out:List Nat} {k:Nat} (h:k < rs.length) (h1:uY rs out k) (y:∀ p ∈ rs[k].body,QO rs out rs[k] p):uY rs out (k+1):=fun r hr=>by
 rw [List.take_succ_eq_append_getElem h] at hr
 rcases List.mem_append.1 hr with hr | hr
 ·exact h1 r hr
 ·rw [List.mem_singleton.1 hr]; exact y
def Fh (rs:List Ru) (out:List Nat) (r:Ru) (j:Nat):Prop:=∀ p ∈ r.body.take j,QO rs out r p
theorem Fh.zero (rs:List Ru) (out:List Nat) (r:Ru):Fh rs out r 0:=fun p y=>by simp at y
theorem Fh.snoc {rs:List Ru} {out:List Nat} {r:Ru} {j:Nat} (h:j < r.body.length) (h1:Fh rs out r j) (I:QO rs out r r.body[j]):Fh rs out r (j+1):=fun p y=>by
 rw [List.take_succ_eq_append_getElem h] at y
 rcases List.mem_append.1 y with y | y
 ·exact h1 p y
 ·rw [List.mem_singleton.1 y]; exact I
end Go.Proofs.YtkjinanbccloeaaGreatDoor.D
namespace Go.Proofs.YtkjinanbccloeaaGreatDoor.D
open Go.RowKit Go.Lib
theorem Wy {c:UInt8} (h:low c=true):big c=false:=by
 cases hb:big c
 ·rfl
 ·exfalso
  have h1:=(Bc c).1 hb;have:low c=false:=(vK c).2 (by omega);rw [this] at h; cases h
theorem Uy {s:ByteArray} (h:gZ s=true):qI s=false:=by
 unfold gZ nN at h;simp only [Bool.and_eq_true] at h;unfold qI
 cases hs:s.data.toList with
 | nil=>simp [big]
 | cons x xs=>
  have:=List.all_eq_true.1 h.1.2 x (by rw [hs]; exact List.mem_cons_self ..);simp [Wy this]
theorem KA {t:T} (h:iH t=true):yu t.name=t:=by
 unfold yu;unfold iH at h;obtain ⟨v,s⟩:=t;cases v
 ·have:=Uy (s:=s) (by simpa using h)
  show (⟨qI s,s⟩:T)=⟨false,s⟩;rw [this]
 ·have h1:vM s=true:=by simpa using h
  unfold vM at h1;simp only [Bool.and_eq_true] at h1;show (⟨qI s,s⟩:T)=⟨true,s⟩;rw [h1.1.2]
theorem sS {t:T} (h:iH t=true):(44:UInt8) ∉ t.name.data.toList∧t.name.data.toList ≠ []∧t.name.data.toList.length≤8:=by
 have hz:t.name.data.toList.length=t.name.size:=Array.length_toList;unfold iH at h
 split at h
 ·unfold vM at h
  simp only [Bool.and_eq_true,decide_eq_true_eq] at h;have h1:=h.1.2;unfold qI at h1;simp only [Bool.and_eq_true,decide_eq_true_eq] at h1;refine ⟨?_,by intro e; rw [e] at hz; simp at hz; omega,by omega⟩;intro hm
  cases hs:t.name.data.toList with
  | nil=>rw [hs] at hm; simp at hm
  | cons x xs=>
   rw [hs] at hm h1 h
   rcases List.mem_cons.1 hm with e | hm
   ·have y:=h1.2
    rw [← e] at y;exact absurd (show big 44=true from y) (by decide)
   ·exact (Iu _ (List.all_eq_true.1 h.2 _ hm)).2.2.1 rfl
 ·unfold gZ at h
  simp only [Bool.and_eq_true,decide_eq_true_eq] at h;refine ⟨?_,by intro e; rw [e] at hz; simp at hz; omega,by omega⟩;intro hm;exact (Iu _ (List.all_eq_true.1 h.1.2 _ hm)).2.2.1 rfl
theorem PG {a:A} (h:aX a=true):DJ a.name.data.toList (kN a.args)=a:=by
 unfold aX at h;simp only [Bool.and_eq_true] at h;have y:=List.all_eq_true.1 h.2
 have e:a.args=(a.args.map fun t=>t.name.data.toList).map fun w=>yu (toB w):=by
  rw [List.map_map]
  conv=>lhs; rw [← List.map_id a.args]
  refine List.map_congr_left fun t I=>?_
  show t=yu (toB t.name.data.toList);rw [N9,KA (y t I)]
 have J:kN a.args=joinL 44 (a.args.map fun t=>t.name.data.toList):=by
  conv=>lhs; rw [e]
  rw [DK]
 unfold DJ;obtain ⟨nm,args⟩:=a;dsimp only at *;rw [N9]
 cases args with
 | nil=>rw [J]; rfl
 | cons t r=>
  have U:joinL 44 ((t :: r).map fun t=>t.name.data.toList) ≠ []:=by
   have I:=(sS (y t (List.mem_cons_self ..))).2.1
   cases r with
   | nil=>exact I
   | cons u r=>exact List.append_ne_nil_of_left_ne_nil I _
  rw [if_neg (by rw [J]; exact U),J,y8]
  ·rw [← e]
  ·simp
  ·intro p hp
   obtain ⟨u,hu,rfl⟩:=List.mem_map.1 hp;exact (sS (y u hu)).1
theorem join_le:∀ (ps:List (List UInt8)),(∀ p ∈ ps,p.length≤8)→(joinL 44 ps).length≤9 * ps.length
 | [],_=>by simp [joinL]
 | [p],h=>by have:=h p (List.mem_cons_self ..); simp [joinL]; omega
 | p :: q :: r,h=>by
  have h1:=h p (List.mem_cons_self ..);have I:=join_le (q :: r) fun x y=>h x (List.mem_cons_of_mem _ y)
  show (p ++ 44 :: joinL 44 (q :: r)).length≤_;rw [List.length_append,List.length_cons];simp only [List.length_cons] at *;omega
theorem WA {a:A} (h:aX a=true):(kN a.args).length≤27:=by
 have h0:=h;unfold aX at h;simp only [Bool.and_eq_true,decide_eq_true_eq] at h;have y:=List.all_eq_true.1 h.2;have:=PG h0
 have e:a.args=(a.args.map fun t=>t.name.data.toList).map fun w=>yu (toB w):=by
  rw [List.map_map]
  conv=>lhs; rw [← List.map_id a.args]
  refine List.map_congr_left fun t I=>?_
  show t=yu (toB t.name.data.toList);rw [N9,KA (y t I)]
 rw [e,DK]
 have:=join_le (a.args.map fun t=>t.name.data.toList) fun p J=>by
  obtain ⟨u,U,rfl⟩:=List.mem_map.1 J;exact (sS (y u U)).2.2
 rw [List.length_map] at this;omega
theorem KC {s:ByteArray} (h:gZ s=true):s.data.toList.length≤8∧1≤s.data.toList.length:=by
 have hz:s.data.toList.length=s.size:=Array.length_toList;unfold gZ at h;simp only [Bool.and_eq_true,decide_eq_true_eq] at h;omega
theorem Gu {a:A} (h:aX a=true):(uM a).length≤37:=by
 have h1:=WA h;unfold aX at h;simp only [Bool.and_eq_true] at h;have y:=KC h.1.1;unfold uM;simp only [List.length_append,List.length_singleton];omega
theorem Gv {a:A} (h:aX a=true):Yl (uM a)=(a,true):=by
 have hl:=Gu h
 have hc:cut (uM a) [40]=(a.name.data.toList,kN a.args ++ [41],true):=by
  have J:(40:UInt8) ∉ a.name.data.toList:=by
   unfold aX at h;simp only [Bool.and_eq_true] at h;exact Uo h.1.1
  rcases XI (uM a) 40 with ⟨h1,_⟩ | ⟨x,y,h1,U,h3⟩
  ·exact absurd (by unfold uM; simp) h1
  ·have e:a.name.data.toList ++ 40 :: (kN a.args ++ [41])=x ++ 40 :: y:=by rw [← h1]; unfold uM; simp
   have I:=pX (kN a.args ++ [41]) J;rw [e,pX y U] at I
   injection I with e1 _
   rw [h3];subst e1;rw [List.append_cancel_left_eq] at e
   injection e with _ e
   rw [e]
 unfold Yl;rw [if_neg (by omega),hc];show (if true=true∧(kN a.args ++ [41]).getLast? = some 41 then _ else _)=_;rw [if_pos ⟨rfl,by simp⟩];show (if aX (DJ a.name.data.toList (kN a.args ++ [41]).dropLast)=true then _ else _)=_;rw [List.dropLast_concat,PG h,if_pos h]
end Go.Proofs.YtkjinanbccloeaaGreatDoor.D
namespace Go.Proofs.YtkjinanbccloeaaGreatDoor
open Go.RowKit D
def D.jE (vars:List ByteArray) (t:T):Int:=if t.var then ((vars.idxOf t.name:Nat):Int) else -1
def D.jF (t:T):ByteArray:=if t.var then ⟨#[]⟩ else t.name
def D.D7 (vars:List ByteArray):Rel T:=fun _ cs t bs=>cs = [.int .i64 (jE vars t),.string (jF t)]∧(jF t).size≤maxLen∧bs = []
theorem D.fO (vars:List ByteArray):Good (D7 vars):=⟨fun h _=>h,fun h b hb=>by rw [h.2.2] at hb; simp at hb⟩
theorem D.D8 (vars:List ByteArray):zI 2 (D7 vars):=fun h=>by obtain ⟨rfl,_⟩:=h; simp [Value.oneCell']
def D.jR (vars:List ByteArray):Rel (List T):=ig 2 (D7 vars)
theorem D.bZ (vars:List ByteArray):Good (jR vars):=gJ (fO vars) (by omega)
def D.Fj (vars:List ByteArray):Rel A:=fun w cs a bs=>∃ v,cs = [.string a.name,v]∧a.name.size≤maxLen∧jR vars w [v] a.args bs
theorem D.gK (vars:List ByteArray):Good (Fj vars):=
 ⟨fun h J=>by obtain ⟨v,h1,I,y⟩:=h; exact ⟨v,h1,I,(bZ vars).keep y J⟩,fun h=>by obtain ⟨v,h1,I,y⟩:=h; exact (bZ vars).lt y⟩
theorem D.Gw (vars:List ByteArray):zI 2 (Fj vars):=fun h=>by
 obtain ⟨v,rfl,_,y⟩:=h;obtain ⟨I,cap,rfl,_⟩:=ak y;simp [Value.oneCell']
def D.rD (vars:List ByteArray):Rel (List A):=ig 2 (Fj vars)
theorem D.dG (vars:List ByteArray):Good (rD vars):=gJ (gK vars) (by omega)
def D.fQ (body:List Pt):List A:=(body.filter fun p=>!p.no).map (·.atom)
def D.dI (body:List Pt):List A:=(body.filter fun p=>p.no).map (·.atom)
def D.Yt:Rel (List Pt):=fun w cs body bs=>∃ y I J U b2 b3,cs = [y,I,J]∧bs=U ++ b2 ++ b3∧rD (aB body) w [y] (fQ body) U∧rD (aB body) w [I] (dI body) b2∧jg w [J] (aB body) b3
theorem D.wM {vars:List ByteArray} {w:World} {J:Option Addr} {len cap:Nat} {I:List T} {bs:List Nat} {k:Nat} (h:jR vars w [.slice J len cap] I bs) (U:k < I.length):
  ∃ b o,J=some ⟨b,o,none⟩∧b ∈ bs∧w.cell? ⟨b,o+k * 2,none⟩=some (.int .i64 (jE vars I[k]))∧w.cell? ⟨b,o+k * 2+1,none⟩=some (.string (jF I[k]))∧(jF I[k]).size≤maxLen:=by
 obtain ⟨b,o,cs,bk,rfl,hb,a0,y,⟨rfl,hs,_⟩,_⟩:=iQ h U;exact ⟨b,o,rfl,hb,by simpa using y 0 _ rfl,by have:=y 1 _ rfl; simpa [Nat.add_assoc] using this,hs⟩
theorem D.wO {vars:List ByteArray} {w:World} {Ad:Option Addr} {len cap:Nat} {xs:List A} {bs:List Nat} {k:Nat} (h:rD vars w [.slice Ad len cap] xs bs) (hk:k < xs.length):
  ∃ b o I J U,Ad=some ⟨b,o,none⟩∧b ∈ bs∧w.cell? ⟨b,o+k * 2,none⟩=some (.string xs[k].name)∧w.cell? ⟨b,o+k * 2+1,none⟩=some (.slice I xs[k].args.length J)∧
   Fj vars w [.string xs[k].name,.slice I xs[k].args.length J] xs[k] U∧∀ c ∈ U,c ∈ bs:=by
 obtain ⟨b,o,cs,U,rfl,hb,a0,y,⟨v,rfl,hs,h3⟩,hin⟩:=iQ h hk;obtain ⟨I,J,rfl,_⟩:=ak h3;exact ⟨b,o,I,J,U,rfl,hb,by simpa using y 0 _ rfl,by have:=y 1 _ rfl; simpa [Nat.add_assoc] using this,⟨_,rfl,hs,h3⟩,hin⟩
structure D.wP {α:Type} (n:Nat) (R:Rel α) (e tb:TypeId) (w:World) (hz hb B:Nat) (nm:ByteArray) (v:Value) (L:List Value) (xs:List α) (wr:World):Prop where
 r0:wr.heap[hz]? = some (.cells #[.string ⟨#[]⟩,.slice none 0 0] tb (0,0))
 r1:wr.heap[hb]? = some (.cells #[.string nm,v] tb (0,0))
 h0:w.heap.size≤hz
 h1:hz < hb
 hB:hb < B
 coll:aY n R B e wr v L xs []
 bel:Below w.heap.size w wr
 oN:B≤wr.heap.size
section
variable {α:Type} {n:Nat} {R:Rel α} {e tb:TypeId} {w:World} {hz hb B:Nat} {nm:ByteArray} {v:Value} {L:List Value} {xs:List α} {wr:World}
theorem D.wP.later {w':World} (g:Good R) (h:wP n R e tb w hz hb B nm v L xs wr) (y:Below wr.heap.size wr w'):wP n R e tb w hz hb B nm v L xs w':=
 ⟨(y.block _ (lt_of_block h.r0)).trans h.r0,(y.block _ (lt_of_block h.r1)).trans h.r1,h.h0,h.h1,h.hB,h.coll.below g y,h.bel.trans (y.mono h.bel.size),Nat.le_trans h.oN y.size⟩
theorem D.wP.lit {cs:List Value} {x:α} (g:Good R) (o:zI n R) (h:wP n R e tb w hz hb B nm v L xs wr) (I:∀ w,R w cs x []):
  aY n R B e (wr.alloc (.cells cs.toArray e)) v L xs []∧aQ n R (wr.alloc (.cells cs.toArray e)) cs [x] []∧Lies (wr.alloc (.cells cs.toArray e)) (some ⟨wr.heap.size,0,none⟩) cs∧
   Below B wr (wr.alloc (.cells cs.toArray e))∧B≤(wr.alloc (.cells cs.toArray e)).heap.size:=by
 have y:Below wr.heap.size wr (wr.alloc (.cells cs.toArray e)):=(Below.refl _ _).alloc (Nat.le_refl _) _;exact ⟨(h.later g y).coll,aQ.cZ o (I _),by have:=aS (heap_alloc_new wr (.cells cs.toArray e)); simpa using this,(Below.refl _ _).alloc h.oN _,Nat.le_trans h.oN y.size⟩
theorem D.wP.app {y:World} {U:Value} {L3:List Value} {I:List α} (g:Good R) (h:wP n R e tb w hz hb B nm v L xs wr) (hC:aY n R B e y U L3 I []) (J:Below B wr y):
  y.cell? ⟨hb,1,none⟩=some v∧y.frozen? ⟨hb,1,none⟩=false∧wP n R e tb w hz hb B nm U L3 I (y.setCell ⟨hb,1,none⟩ U)∧∀ c,c < B→c ≠ hb→(y.setCell ⟨hb,1,none⟩ U).heap[c]? = wr.heap[c]?:=by
 have b0:=(J.block hz (Nat.lt_trans h.h1 h.hB)).trans h.r0;have b1:=(J.block hb h.hB).trans h.r1;refine ⟨ai b1,ax b1,⟨(Below.heap_setCell _ _ _ _ (by have:=h.h1; show hz ≠ hb; omega)).trans b0,Bj b1,h.h0,h.h1,h.hB,hC.l9 g (aJ hC.own h.hB) (by simp),(h.bel.trans (J.mono (by have:=h.h0; have:=h.h1; have:=h.hB; omega))).setCell (by have:=h.h0; have:=h.h1; show w.heap.size≤hb; omega) _,?_⟩,fun c hc a0=>by rw [Below.heap_setCell _ _ _ _ a0]; exact J.block c hc⟩;have:=J.size; have:=h.oN; simp [World.setCell]; omega
theorem D.wP.done (g:Good R) (h:wP n R e tb w hz hb B nm v L xs wr):
  ∃ W,W=(wr.setCell ⟨hz,0,none⟩ (.string nm)).setCell ⟨hz,1,none⟩ v∧Below w.heap.size w W∧W.heap[hz]? = some (.cells #[.string nm,v] tb (0,0))∧∃ I,ig n R W [v] xs I∧New B W I:=by
 obtain ⟨I,hs,J⟩:=h.coll.new (New.nil _ _);have a3:=h.h1;have a2:=h.hB;have U:=h.h0
 have keep:∀ b,b ≠ hz→((wr.setCell ⟨hz,0,none⟩ (.string nm)).setCell ⟨hz,1,none⟩ v).heap[b]? = wr.heap[b]?:=fun b y=>by
  rw [Below.heap_setCell _ _ _ _ y,Below.heap_setCell _ _ _ _ y]
 have k9:∀ b ∈ I,b ≠ hz:=fun b y e=>by have:=(J.own b y).1; omega
 refine ⟨_,rfl,(h.bel.setCell (p:=⟨hz,0,none⟩) U _).setCell (p:=⟨hz,1,none⟩) U _,?_,I,?_,?_⟩
 ·have:=bJ (o:=1) (u:=v) (bJ (o:=0) (u:=.string nm) h.r0)
  simpa using this
 ·obtain ⟨Ad,cap,h1,h2,h3,h4,h5⟩:=hs
  refine ⟨Ad,cap,h1,h2,h3,h4,fun a0=>?_⟩;obtain ⟨b,o,q1,F,G,q2,q3⟩:=h5 a0;refine ⟨b,o,q1,F,G,q2,fun k x hx=>?_⟩;obtain ⟨p1,p2,p3⟩:=q3 k x hx;have a1:b ∈ I:=by rw [q2]; exact List.mem_cons_self ..
  refine ⟨p1,fun j u hj=>by rw [World.cell?_of_block (w:=wr) (keep b (k9 b a1))]; exact p2 j u hj,g.keep p3 fun c hc=>keep c (k9 c ?_)⟩;rw [q2];exact List.mem_cons_of_mem _ (List.mem_flatMap.2 ⟨k,List.mem_range.2 (List.getElem?_eq_some_iff.1 hx).1,hc⟩)
 ·exact J.keep fun b y=>keep b (k9 b y)
end
theorem Bq:(Tryz.prog.info? 3).map (fun i=>(i.zero,i.size,i.bytes))=some (some (.int .i64 0),1,8):=by kernel_rfl
def D.wQ:Rel Nat:=fun _ cs x bs=>cs = [.int .i64 x]∧bs = []
def D.ji:Rel (List Nat):=ig 1 wQ
theorem D.iC:Good wQ:=⟨fun h _=>h,fun h b hb=>by rw [h.2] at hb; simp at hb⟩
theorem D.dB:Good ji:=gJ iC (by omega)
theorem D.rE {w:World} {g:Nat} {out:List Nat} (h:w.heap[g]? = some (.cells (EN out) 3 (0,0))) (hl:out.length≤maxLen):∃ bs,ji w [.slice (some ⟨g,0,none⟩) out.length out.length] out bs∧bs.Nodup∧∀ b ∈ bs,b=g:=by
 by_cases J:out = []
 ·subst J
  exact ⟨[],⟨_,_,rfl,Nat.le_refl _,Nat.zero_le _,fun _=>rfl,fun h=>absurd rfl h⟩,List.nodup_nil,fun b hb=>by simp at hb⟩
 ·refine ⟨g :: (List.range out.length).flatMap fun _=>[],⟨_,_,rfl,Nat.le_refl _,hl,fun h=>absurd h J,fun _=>⟨g,0,rfl,fun k=>[.int .i64 (gW out k:Nat)],fun _=>[],rfl,fun k x U=>⟨rfl,fun j v y=>?_,?_,rfl⟩⟩⟩,by rw [show (List.range out.length).flatMap (fun _=>([]:List Nat)) = [] from List.flatMap_eq_nil_iff.2 fun _ _=>rfl]; simp,fun b hb=>by simpa using hb⟩
  ·have I:k < out.length:=(List.getElem?_eq_some_iff.1 U).1
   match j,y with
   | 0,y=>
    simp only [List.getElem?_cons_zero,Option.some.injEq] at y;rw [ai h,← y];have:=DY I;simpa using this
   | j+1,y=>simp at y
  ·have:gW out k=x:=by unfold gW; rw [List.getD_eq_getElem?_getD,U]; rfl
   simp only [this]
theorem D.oZ {w:World} {I:Option Addr} {len cap:Nat} {xs:List Nat} {bs:List Nat} {k:Nat} (h:ji w [.slice I len cap] xs bs) (J:k < xs.length):
  ∃ b o,I=some ⟨b,o,none⟩∧b ∈ bs∧w.cell? ⟨b,o+k,none⟩=some (.int .i64 (xs[k]:Nat)):=by
 obtain ⟨b,o,cs,bk,rfl,hb,U,y,⟨rfl,_⟩,_⟩:=iQ h J;exact ⟨b,o,rfl,hb,by simpa using y 0 _ rfl⟩
end Go.Proofs.YtkjinanbccloeaaGreatDoor
namespace Go.Proofs.YtkjinanbccloeaaGreatDoor
open Go.RowKit D
attribute [local go_sem ↓] Go.wp_at_zero Go.wp_at_succ
theorem Ox (ps:List Pt) (v:Value) (bs:List Nat) (w:World) (h:gQ w [v] ps bs):
  Calls Tryz.prog 186 #[v] w fun e w'=>e=.returned (.bool (mF ps))∧Below w.heap.size w w':=by
 obtain ⟨Ad,cap,rfl,hl,hm⟩:=ak h;have a3:=ay (Nat.le_trans hl hm);clear hm;unfold mF;by_cases h4:ps.length≤4
 ·go_enter Tryz.func186,Tryz.ntmps186
  go_wp2
  go_loopw [10] (fun i wr=>∃ k:Nat,k≤ps.length∧i=.int .i64 k∧(ps.take k).all (fun p=>aX p.atom)=true∧Below w.heap.size w wr) (fun i _=>ps.length - (intOf i).toNat)
  case atStart=>exact ⟨0,Nat.zero_le _,rfl,rfl,Below.refl _ _⟩
  case round=>
   obtain ⟨k,hk,rfl,y,hb⟩:=hrel;have HA:=η y;clear y;by_cases I:k < ps.length
   ·obtain ⟨b0,o,Ae,ce,bk,rfl,_,d0,d1,d2,U,_⟩:=gU (cO.below h hb) I
    have hA:=(Below.refl wr.heap.size wr).alloc (Nat.le_refl _) (.cells #[.bool ps[k].no,.string ps[k].atom.name,.slice Ae ps[k].atom.args.length ce] 42);have a0:=aj.below (iR U) hA;clear h U
    go_wp2_with fail
    refine (rq ps[k].atom _ _ bk _ a0).mono ?_;rintro e w' ⟨rfl,a1⟩;have B':=(hb.trans (hA.mono hb.size)).trans (a1.mono (by have:=hA.size; have:=hb.size; omega));clear a0 hA;by_cases J:aX ps[k].atom=true
    ·have a2:(!aX ps[k].atom)=false:=by simp [J]
     have HX:=η J;clear J;go_wp2;go_roundw
     case rel=>exact ⟨k+1,by omega,by go_num,by rw [iI ps k I,HA.out]; exact HX.out,B'⟩
     case measure=>simp [intOf]; omega
    ·have a2:(!aX ps[k].atom)=true:=by simpa using J
     have HX:=η J;clear J;go_wp2;go_ret;exact ⟨aI (by rw [sF ps k I (by simpa using HX.out)]; simp),B'⟩
   ·have he:=η (show k=ps.length by omega)
    go_wp2;go_ret;exact ⟨aI (by have:=HA.out; rw [he.out,List.take_of_length_le (Nat.le_refl _)] at this; rw [this]; simp; omega),hb⟩
 ·go_enter Tryz.func186,Tryz.ntmps186
  go_wp2;go_ret;exact ⟨aI (by simp; omega),Below.refl _ _⟩
end Go.Proofs.YtkjinanbccloeaaGreatDoor
