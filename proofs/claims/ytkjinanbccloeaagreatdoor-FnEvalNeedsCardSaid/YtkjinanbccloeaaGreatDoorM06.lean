/- Of the proof of FnEvalNeeds: LevP, BindP, Open, SplP, Term. -/
import Derived.Lib.SplitLaws
import Derived.Test.YtkjinanbccloeaaGreatDoorM03
set_option linter.unusedVariables false
set_option maxHeartbeats 400000
namespace Go.Proofs.YtkjinanbccloeaaGreatDoor
namespace D
open Go.RowKit
theorem oI {α:Type} [DecidableEq α]:∀ {I l2:List α},I.Nodup→(∀ x ∈ I,x ∈ l2)→I.length≤l2.length
 | [],_,_,_=>ε
 | x :: r,l2,h,hs=>by
  obtain ⟨h1,h2⟩:=List.nodup_cons.1 h;have U:=hs x Γ
  have:=oI (l2:=l2.erase x) h2 fun y hy=>by
   have J:y ≠ x:=by rintro rfl; exact h1 hy
   exact (List.mem_erase_of_ne J).2 (hs y (Δ _ hy))
  have hl:=List.length_erase_of_mem U;have hp:=List.length_pos_of_mem U;simp only [List.length_cons];omega
theorem Vw {l:List Nat} {N x:Nat} (hl:l.length≤N) (hx:x ∈ l) (hN:N≤x):∃ g,g < N∧g ∉ l:=by
 refine Classical.byContradiction fun h=>?_
 have I:∀ g,g < N→g ∈ l:=fun g hg=>Classical.byContradiction fun hn=>h ⟨g,hg,hn⟩
 have J:(x :: List.range N).Nodup:=List.nodup_cons.2 ⟨fun hm=>by have:=List.mem_range.1 hm; omega,List.nodup_range⟩
 have:=oI J (l2:=l) fun y U=>by
  rcases List.mem_cons.1 U with rfl | U
  ·exact hx
  ·exact I y (List.mem_range.1 U)
 simp at this;omega
theorem F9 {α:Type} {f g:α→Nat}:∀ {l:List α},(∀ x ∈ l,f x≤g x)→(l.map f).sum≤(l.map g).sum
 | [],_=>ν
 | x :: r,h=>by
  have h1:=h x Γ;have J:=F9 (l:=r) fun y I=>h y (Δ _ I)
  simp only [List.map_cons,List.sum_cons];omega
theorem sum_lt {α:Type} {f g:α→Nat}:∀ {l:List α},(∀ x ∈ l,f x≤g x)→(∃ x ∈ l,f x < g x)→(l.map f).sum < (l.map g).sum
 | [],_,⟨x,I,_⟩=>by simp at I
 | y :: r,h,⟨x,I,hlt⟩=>by
  have h1:=h y Γ;simp only [List.map_cons,List.sum_cons]
  rcases List.mem_cons.1 I with rfl | I
  ·have U:=F9 (l:=r) fun z J=>h z (Δ _ J)
   omega
  ·have U:=sum_lt (l:=r) (fun z J=>h z (Δ _ J)) ⟨x,I,hlt⟩
   omega
theorem bytes_beq (a b:ByteArray):(a == b)=(a.data == b.data):=rfl
instance Wh:LawfulBEq ByteArray where
 eq_of_beq {a b} h:=by rw [bytes_beq] at h; cases a; cases b; exact congrArg _ (eq_of_beq h)
 rfl {a}:=by rw [bytes_beq]; exact beq_self_eq_true _
def bD (rs:List Ru):List ByteArray:=rs.map fun r=>r.head.name
def dG (acc:List ByteArray) (n:ByteArray):List ByteArray:=if n ∈ acc then acc else acc ++ [n]
def aK (rs:List Ru):List ByteArray:=(bD rs).foldl dG []
theorem dw {acc:List ByteArray} {n x:ByteArray}:x ∈ dG acc n ↔ x ∈ acc∨x=n:=by
 unfold dG
 split
 ·rename_i h
  exact ⟨.inl,fun y=>y.elim id (fun e=>e ▸ h)⟩
 ·simp
theorem nP:∀ (y acc:List ByteArray),acc.Nodup→(y.foldl dG acc).Nodup∧(∀ x,x ∈ y.foldl dG acc ↔ x ∈ acc∨x ∈ y)∧(y.foldl dG acc).length≤acc.length+y.length
 | [],acc,h=>⟨h,fun x=>by simp,by simp⟩
 | n :: y,acc,h=>by
  have I:(dG acc n).Nodup:=by
   unfold dG
   split
   ·exact h
   ·rename_i hm
    exact List.nodup_append.2 ⟨h,by simp,fun a ha b J e=>by rw [List.mem_singleton.1 J] at e; exact hm (e ▸ ha)⟩
  obtain ⟨i1,i2,U⟩:=nP y (dG acc n) I;refine ⟨i1,fun x=>?_,?_⟩
  ·rw [List.foldl_cons,i2,dw,List.mem_cons,or_assoc]
  ·rw [List.foldl_cons,List.length_cons]
   have:(dG acc n).length≤acc.length+1:=by unfold dG; split <;> simp
   omega
theorem iZ {rs:List Ru} {x:ByteArray}:x ∈ aK rs ↔ x ∈ bD rs:=by
 have h:=(nP (bD rs) [] List.nodup_nil).2.1 x;unfold aK;rw [h]; simp
theorem BR (rs:List Ru):(aK rs).length≤rs.length:=by
 have:=(nP (bD rs) [] List.nodup_nil).2.2;simpa [bD,aK] using this
def zU (p:Pt):Nat:=if p.no then 1 else 0
def Ls (rs:List Ru) (S:ByteArray→Nat):Prop:=∀ r ∈ rs,∀ p ∈ r.body,p.atom.name ∈ bD rs→S p.atom.name+zU p≤S r.head.name
theorem head_mem {rs:List Ru} {r:Ru} (h:r ∈ rs):r.head.name ∈ bD rs:=List.mem_map.2 ⟨r,h,rfl⟩
theorem Ou {rs:List Ru}:∀ (m:Nat) (S:ByteArray→Nat),Ls rs S→((aK rs).map S).sum≤m→∃ T,Ls rs T∧∀ n ∈ bD rs,T n < (aK rs).length:=by
 intro m
 induction m with
 | zero=>
  intro S J hm;refine ⟨S,J,fun n U=>?_⟩;have hp:=List.length_pos_of_mem (iZ.2 U)
  have a0:∀ (l:List Nat) (x:Nat),x ∈ l→x≤l.sum:=by
   intro l
   induction l with
   | nil=>intro x I; simp at I
   | cons y l ih=>intro x I; rw [List.sum_cons]; rcases List.mem_cons.1 I with rfl | I; omega; have:=ih x I; omega
  have:S n≤((aK rs).map S).sum:=a0 _ _ (List.mem_map.2 ⟨n,iZ.2 U,rfl⟩);omega
 | succ m ih=>
  intro S J hm;by_cases I:∃ x ∈ (aK rs).map S,(aK rs).length≤x
  ·obtain ⟨x,I,hN⟩:=I
   obtain ⟨g,hg,a1⟩:=Vw (l:=(aK rs).map S) (by simp) I hN;obtain ⟨nx,a2,rfl⟩:=List.mem_map.1 I;refine ih (fun n=>if g < S n then S n - 1 else S n) (fun r hr p hp hh=>?_) ?_
   ·have h0:=J r hr p hp hh
    have a3:S p.atom.name ≠ g:=fun e=>a1 (List.mem_map.2 ⟨_,iZ.2 hh,e⟩)
    have a4:zU p≤1:=by unfold zU; split <;> omega
    dsimp only
    split <;> split <;> omega
   ·have:=sum_lt (l:=aK rs) (f:=fun n=>if g < S n then S n - 1 else S n) (g:=S) (fun y _=>by split <;> omega) ⟨nx,a2,by rw [if_pos (by omega)]; omega⟩
    omega
  ·refine ⟨S,J,fun n U=>?_⟩
   refine Nat.lt_of_not_le fun h=>I ⟨S n,List.mem_map.2 ⟨n,iZ.2 U,rfl⟩,h⟩
theorem ED {rs:List Ru} {S:ByteArray→Nat} (h:Ls rs S):∃ T,Ls rs T∧∀ n ∈ bD rs,T n < (aK rs).length:=Ou _ S h ν
def gX (out:List Nat) (i:Nat):Nat:=out.getD i 0
theorem nR {out:List Nat} {i j v:Nat} (h:i < out.length):gX (out.set i v) j=if i=j then v else gX out j:=by
 unfold gX;rw [List.getD_eq_getElem?_getD,List.getD_eq_getElem?_getD,List.getElem?_set];by_cases e:i=j
 ·subst e; rw [if_pos rfl,if_pos rfl,if_pos h]; rfl
 ·rw [if_neg e,if_neg e]
def jO (n:Nat) (y:ByteArray) (i k:Nat) (out:List Nat) (p:Pt):List Nat:=
 if p.atom.name=y then (if gX out i < gX out k+zU p∧gX out i≤n then out.set i (gX out k+zU p) else out) else out
def lX (y I:ByteArray) (i k:Nat) (out:List Nat):List Nat:=if I=y∧gX out i < gX out k then out.set i (gX out k) else out
def dA (rs:List Ru) (i:Nat):Ru:=rs.getD i ⟨⟨⟨#[]⟩,[]⟩,[]⟩
def vH (rs:List Ru) (i:Nat) (out:List Nat) (k:Nat):List Nat:=
 (dA rs i).body.foldl (jO rs.length (dA rs k).head.name i k) (lX (dA rs i).head.name (dA rs k).head.name i k out)
def Ov (rs:List Ru) (out:List Nat) (i:Nat):List Nat:=(List.range rs.length).foldl (vH rs i) out
def nY (rs:List Ru) (out:List Nat):List Nat:=(List.range rs.length).foldl (Ov rs) out
def xI (rs:List Ru):Nat→List Nat
 | 0=>List.replicate rs.length 0
 | m+1=>nY rs (xI rs m)
def ay (rs:List Ru):List Nat:=xI rs ((rs.length+1) * (rs.length+2))
def kP (rs:List Ru):Bool:=(ay rs).any fun x=>decide (rs.length≤x)
def Up (a b:List Nat):Prop:=b.length=a.length∧∀ i,gX a i≤gX b i
theorem Up.refl (a:List Nat):Up a a:=⟨rfl,fun _=>ν⟩
theorem Up.trans {a b c:List Nat} (h:Up a b) (k:Up b c):Up a c:=⟨k.1.trans h.1,fun i=>τ (h.2 i) (k.2 i)⟩
theorem Up.eq {a b:List Nat} (h:Up a b) (k:Up b a):a=b:=by
 refine List.ext_getElem h.1.symm fun i h1 y=>?_
 have I:gX a i=a[i]:=by unfold gX; rw [List.getD_eq_getElem?_getD,Ψ h1]; rfl
 have J:gX b i=b[i]:=by unfold gX; rw [List.getD_eq_getElem?_getD,Ψ y]; rfl
 have U:=h.2 i;have h4:=k.2 i;omega
theorem LC {out:List Nat} {i v:Nat} (h:gX out i≤v):Up out (out.set i v):=by
 refine ⟨by simp,fun j=>?_⟩;by_cases y:i < out.length
 ·rw [nR y]
  split
  ·rename_i e; subst e; exact h
  ·exact ν
 ·rw [List.set_eq_of_length_le (by omega)]; exact ν
theorem vI (n:Nat) (y:ByteArray) (i k:Nat) (out:List Nat) (p:Pt):Up out (jO n y i k out p):=by
 unfold jO
 split
 ·split
  ·rename_i h; exact LC (by omega)
  ·exact Up.refl _
 ·exact Up.refl _
theorem BU (y I:ByteArray) (i k:Nat) (out:List Nat):Up out (lX y I i k out):=by
 unfold lX
 split
 ·rename_i h; exact LC (by omega)
 ·exact Up.refl _
theorem oJ {β:Type} {f:List Nat→β→List Nat} (hf:∀ o x,Up o (f o x)):∀ (l:List β) (out:List Nat),Up out (l.foldl f out)
 | [],out=>Up.refl _
 | x :: r,out=>(hf out x).trans (oJ hf r _)
theorem pJ {β:Type} {f:List Nat→β→List Nat} (hf:∀ o x,Up o (f o x)):∀ (l:List β) (out:List Nat),l.foldl f out=out→∀ x ∈ l,f out x=out
 | [],_,_,x,I=>by simp at I
 | y :: r,out,h,x,I=>by
  have h1:=hf out y;have J:=oJ hf r (f out y);rw [List.foldl_cons] at h;rw [h] at J;have e:=h1.eq J;rw [← e] at h
  rcases List.mem_cons.1 I with rfl | I
  ·exact e.symm
  ·exact pJ hf r out h x I
theorem II (rs:List Ru) (i:Nat) (out:List Nat) (k:Nat):Up out (vH rs i out k):=(BU _ _ _ _ _).trans (oJ (fun o x=>vI _ _ _ _ o x) _ _)
theorem NG (rs:List Ru) (out:List Nat) (i:Nat):Up out (Ov rs out i):=oJ (fun o x=>II rs i o x) _ _
theorem xJ (rs:List Ru) (out:List Nat):Up out (nY rs out):=oJ (fun o x=>NG rs o x) _ _
theorem Gf (rs:List Ru):∀ m,(xI rs m).length=rs.length
 | 0=>by simp [xI]
 | m+1=>by rw [xI,(xJ rs _).1,Gf rs m]
theorem eP (rs:List Ru):(ay rs).length=rs.length:=Gf rs _
def Vx (rs:List Ru) (T:ByteArray→Nat) (out:List Nat):Prop:=∀ i,i < rs.length→gX out i≤T (dA rs i).head.name
theorem ng {rs:List Ru} {i:Nat} (h:i < rs.length):dA rs i ∈ rs:=by
 unfold dA;rw [List.getD_eq_getElem?_getD,Ψ h];exact δ h
theorem pK {α β:Type} {P:α→Prop} {f:α→β→α}:∀ {l:List β} {a:α},(∀ a x,x ∈ l→P a→P (f a x))→P a→P (l.foldl f a)
 | [],_,_,h=>h
 | x :: r,a,hf,h=>pK (l:=r) (fun a y I=>hf a y (Δ _ I)) (hf a x Γ h)
theorem Ox {rs:List Ru} {T:ByteArray→Nat} (hT:Ls rs T) {out:List Nat} (hl:out.length=rs.length) (h:Vx rs T out):(nY rs out).length=rs.length∧Vx rs T (nY rs out):=by
 unfold nY;refine pK (P:=fun o=>o.length=rs.length∧Vx rs T o) (fun o i hi J=>?_) ⟨hl,h⟩;have hi:=List.mem_range.1 hi;unfold Ov;refine pK (P:=fun o=>o.length=rs.length∧Vx rs T o) (fun o k U J=>?_) J;have U:=List.mem_range.1 U;unfold vH;refine pK (P:=fun o=>o.length=rs.length∧Vx rs T o) (fun o p hp J=>?_) ?_
 ·obtain ⟨h1,y⟩:=J
  refine ⟨by rw [(vI _ _ _ _ o p).1,h1],fun j I=>?_⟩;unfold jO
  split
  ·rename_i hn
   split
   ·rw [nR (by omega)]
    split
    ·rename_i e
     subst e;have h3:=hT _ (ng hi) p hp (by rw [hn]; exact head_mem (ng U));have h4:=y k U;rw [hn] at h3;omega
    ·exact y j I
   ·exact y j I
  ·exact y j I
 ·obtain ⟨h1,y⟩:=J
  refine ⟨by rw [(BU _ _ _ _ o).1,h1],fun j I=>?_⟩;unfold lX
  split
  ·rename_i hc
   rw [nR (by omega)]
   split
   ·rename_i e
    subst e;rw [← hc.1];exact y k U
   ·exact y j I
  ·exact y j I
theorem QS {rs:List Ru} {T:ByteArray→Nat} (y:Ls rs T):∀ m,Vx rs T (xI rs m)
 | 0=>fun i I=>by
  have:gX (xI rs 0) i=0:=by unfold xI gX; rw [List.getD_eq_getElem?_getD,List.getElem?_replicate]; split <;> rfl
  omega
 | m+1=>(Ox y (Gf rs m) (QS y m)).2
theorem BV {rs:List Ru} {T:ByteArray→Nat} (y:Ls rs T):Vx rs T (ay rs):=QS y _
def Closed (rs:List Ru) (out:List Nat):Prop:=∀ i,i < rs.length→∀ k,k < rs.length→
 ((dA rs k).head.name=(dA rs i).head.name→gX out k≤gX out i)∧∀ p ∈ (dA rs i).body,p.atom.name=(dA rs k).head.name→gX out k+zU p≤gX out i
theorem xK {out:List Nat} {i v:Nat} (h:i < out.length) (e:out.set i v=out):gX out i=v:=by
 have:=nR (j:=i) (v:=v) h;rw [e,if_pos rfl] at this;exact this
theorem Oy {rs:List Ru} {out:List Nat} (hl:out.length=rs.length) (hs:nY rs out=out) (hn:∀ i,i < rs.length→gX out i≤rs.length):Closed rs out:=by
 intro i hi k hk;have h1:=pJ (fun o x=>NG rs o x) _ _ hs i (List.mem_range.2 hi);have I:=pJ (fun o x=>II rs i o x) _ _ h1 k (List.mem_range.2 hk)
 have J:lX (dA rs i).head.name (dA rs k).head.name i k out=out:=by
  have a1:=BU (dA rs i).head.name (dA rs k).head.name i k out;have a2:=oJ (fun o x=>vI rs.length (dA rs k).head.name i k o x) (dA rs i).body (lX (dA rs i).head.name (dA rs k).head.name i k out);unfold vH at I;rw [I] at a2;exact (a1.eq a2).symm
 unfold vH at I;rw [J] at I;have h4:=pJ (fun o x=>vI rs.length (dA rs k).head.name i k o x) _ _ I;refine ⟨fun e=>?_,fun p hp e=>?_⟩
 ·refine Nat.le_of_not_lt fun y=>?_
  unfold lX at J;rw [if_pos ⟨e,y⟩] at J;have:=xK (by omega) J;omega
 ·refine Nat.le_of_not_lt fun y=>?_
  have U:=h4 p hp;unfold jO at U;rw [if_pos e,if_pos ⟨y,hn i hi⟩] at U;have:=xK (by omega) U;omega
theorem QT {a b:List Nat} (h:Up a b) (I:b ≠ a):a.sum < b.sum:=by
 have a0:∀ (a b:List Nat),b.length=a.length→(∀ i,gX a i≤gX b i)→a.sum≤b.sum∧(b ≠ a→a.sum < b.sum):=by
  intro a
  induction a with
  | nil=>intro b U _; have:b = []:=List.length_eq_zero_iff.1 U; subst this; exact ⟨ν,fun h=>absurd rfl h⟩
  | cons x xs ih=>
   intro b U J
   cases b with
   | nil=>simp at U
   | cons y ys=>
    have h0:x≤y:=J 0;have h1:∀ i,gX xs i≤gX ys i:=fun i=>J (i+1)
    obtain ⟨i1,i2⟩:=ih ys (by simpa using U) h1;simp only [List.sum_cons];refine ⟨by omega,fun I=>?_⟩;by_cases e:ys=xs
    ·have:y ≠ x:=fun e2=>I (by rw [e,e2])
     omega
    ·have:=i2 e; omega
 exact (a0 a b h.1 h.2).2 I
theorem EF {out:List Nat} {n:Nat} (h:∀ i,i < out.length→gX out i≤n):out.sum≤out.length * n:=by
 induction out with
 | nil=>simp
 | cons x xs ih=>
  have h0:x≤n:=h 0 (by simp);have h1:=ih fun i y=>h (i+1) (by simp; omega)
  simp only [List.sum_cons,List.length_cons,Nat.add_mul];omega
theorem WC (rs : List Ru) : ∀ {m k : Nat}, m ≤ k → Up (xI rs m) (xI rs k) := by
  intro m k h
  induction k with
  | zero => obtain rfl : m = 0 := by omega
            exact Up.refl _
  | succ k ih =>
    by_cases e : m = k + 1
    · subst e; exact Up.refl _
    · exact (ih (by omega)).trans (xJ rs _)
theorem QU (rs : List Ru) {m : Nat} (h : nY rs (xI rs m) = xI rs m) : ∀ k, m ≤ k → xI rs k = xI rs m := by
  intro k y
  induction k with
  | zero => obtain rfl : m = 0 := by omega
            rfl
  | succ k ih =>
    by_cases e : m = k + 1
    · rw [e]
    · rw [xI, ih (by omega), h]
theorem IJ (rs:List Ru):(∃ i,i < rs.length∧rs.length < gX (ay rs) i)∨Closed rs (ay rs):=by
 by_cases U:∃ i,i < rs.length∧rs.length < gX (ay rs) i
 ·exact .inl U
 ·have y:∀ i,i < rs.length→gX (ay rs) i≤rs.length:=fun i hi=>Nat.le_of_not_lt fun h=>U ⟨i,hi,h⟩
  by_cases hs:nY rs (ay rs)=ay rs
  ·exact .inr (Oy (eP rs) hs y)
  ·exfalso
   have J:∀ m,m≤(rs.length+1) * (rs.length+2)→m≤(xI rs m).sum:=by
    intro m
    induction m with
    | zero=>intro _; exact ε
    | succ m ih=>
     intro hm;have h1:=ih (by omega)
     have I:nY rs (xI rs m) ≠ xI rs m:=fun e=>by
      have:=QU rs e _ (show m≤(rs.length+1) * (rs.length+2) by omega);refine hs ?_;unfold ay;rw [this];exact e
     have h3:=QT (xJ rs (xI rs m)) I;show m+1≤(nY rs (xI rs m)).sum;omega
   have h1:=J _ ν;have I:=EF (out:=ay rs) (n:=rs.length) (by rw [eP]; exact y);rw [eP] at I
   have h3:rs.length * rs.length < (rs.length+1) * (rs.length+2):=by
    have:(rs.length+1) * (rs.length+2)=rs.length * rs.length+3 * rs.length+2:=by
     rw [Nat.add_mul,Nat.mul_add]; omega
    omega
   unfold ay at I;omega
def dX (rs:List Ru) (n:ByteArray):Nat:=gX (ay rs) ((bD rs).idxOf n)
theorem Oz {rs:List Ru} {out:List Nat} (h:Closed rs out) {i k:Nat} (y:i < rs.length) (I:k < rs.length) (e:(dA rs k).head.name=(dA rs i).head.name):gX out k=gX out i:=
 Nat.le_antisymm ((h i y k I).1 e) ((h k I i y).1 e.symm)
theorem IK {rs:List Ru} {n:ByteArray} (h:n ∈ bD rs):(bD rs).idxOf n < rs.length∧(dA rs ((bD rs).idxOf n)).head.name=n:=by
 have h1:=List.idxOf_lt_length_of_mem h;have I:=List.getElem_idxOf h1;have h3:(bD rs).length=rs.length:=by simp [bD]
 refine ⟨by omega,?_⟩;have y:(bD rs).idxOf n < rs.length:=by omega
 have J:dA rs ((bD rs).idxOf n)=rs[(bD rs).idxOf n]:=by
  unfold dA;rw [List.getD_eq_getElem?_getD,Ψ y]; rfl
 have U:∀ i (h:i < rs.length) (h':i < (bD rs).length),(bD rs)[i]=rs[i].head.name:=fun i h h'=>by simp [bD]
 rw [J,← U _ y h1,I]
theorem jU {rs:List Ru} (h:Closed rs (ay rs)):Ls rs (dX rs)∧∀ i,i < rs.length→gX (ay rs) i=dX rs (dA rs i).head.name:=by
 have he:∀ i,i < rs.length→gX (ay rs) i=dX rs (dA rs i).head.name:=fun i y=>by
  obtain ⟨h1,I⟩:=IK (head_mem (ng y));unfold dX;exact Oz h h1 y I.symm
 refine ⟨fun r hr p U hh=>?_,he⟩;obtain ⟨i,y,rfl⟩:=List.mem_iff_getElem.1 hr;have er:dA rs i=rs[i]:=by unfold dA; rw [List.getD_eq_getElem?_getD,Ψ y]; rfl
 obtain ⟨h1,I⟩:=IK hh;have h3:=(h i y _ h1).2 p (by rw [er]; exact U) I.symm;have J:=he i y;rw [er] at J;rw [← J];exact h3
theorem Vy {rs:List Ru} (h:kP rs=true) (S:ByteArray→Nat):¬ Ls rs S:=by
 intro U;obtain ⟨T,hT,hs⟩:=ED U;unfold kP at h;obtain ⟨x,hx,y⟩:=List.any_eq_true.1 h;have y:=of_decide_eq_true y;obtain ⟨i,J,rfl⟩:=List.mem_iff_getElem.1 hx;have I:i < rs.length:=by rw [eP] at J; exact J
 have h1:=BV hT i I;have h2:=hs _ (head_mem (ng I));have h3:=BR rs;have e:gX (ay rs) i=(ay rs)[i]:=by unfold gX; rw [List.getD_eq_getElem?_getD,Ψ J]; rfl
 omega
theorem LD {rs:List Ru} (h:kP rs=false):Closed rs (ay rs):=by
 refine (IJ rs).resolve_left fun ⟨i,I,J⟩=>?_
 unfold kP at h;have y:i < (ay rs).length:=by rw [eP]; exact I
 have e:gX (ay rs) i=(ay rs)[i]:=by unfold gX; rw [List.getD_eq_getElem?_getD,Ψ y]; rfl
 have:=List.any_eq_false.1 h (ay rs)[i] (δ y);simp at this;omega
theorem OA {rs:List Ru} (h:∀ S,¬ Ls rs S):kP rs=true:=by
 cases hc:kP rs
 ·exact absurd (jU (LD hc)).1 (h _)
 ·rfl
theorem sH {rs:List Ru} {S:ByteArray→Nat} (h:Ls rs S):kP rs=false:=by
 cases hc:kP rs
 ·rfl
 ·exact absurd h (Vy hc S)
theorem QV {rs:List Ru} {S:ByteArray→Nat} (h:Ls rs S) (I:∀ T,Ls rs T→∀ n ∈ bD rs,S n≤T n):∀ i,i < rs.length→S (dA rs i).head.name=gX (ay rs) i:=fun i y=>by
 have hc:=jU (LD (sH h));have h1:=I _ hc.1 _ (head_mem (ng y));have J:=BV h i y;have U:=hc.2 i y;omega
abbrev Bd:=List (ByteArray × ByteArray)
def eY:Bd→ByteArray→Option ByteArray
 | [],_=>none
 | p :: b,n=>if p.1=n then some p.2 else eY b n
def iO (b:Bd) (n:ByteArray):ByteArray:=(eY b n).getD ⟨#[]⟩
def bV:List T→List T→Bd→Bd × Bool
 | t :: ts,f :: fs,b=>
  if t.var then
   match eY b t.name with
   | some v=>if v=f.name then bV ts fs b else (b,false)
   | none=>bV ts fs (b ++ [(t.name,f.name)])
  else if t.name=f.name then bV ts fs b else (b,false)
 | _,_,b=>(b,true)
def aF (a f:A) (b:Bd):Bd × Bool:=if a.name=f.name∧a.args.length=f.args.length then bV a.args f.args b else (b,false)
def dm (b:Bd) (t:T):T:=⟨false,if t.var then iO b t.name else t.name⟩
def bU (a:A) (b:Bd):A:=⟨a.name,a.args.map (dm b)⟩
def iR:Rel Bd:=fun w cs b bs=>∃ s v y I,cs = [s,v]∧bs=y ++ I∧fU w [s] (b.map (·.1)) y∧fU w [v] (b.map (·.2)) I
theorem bW:Good iR:=
 ⟨fun h U=>by
   obtain ⟨s,v,b1,b2,h1,rfl,I,J⟩:=h
   exact ⟨s,v,b1,b2,h1,rfl,bH.keep I fun b y=>U b (Ξ _ y),bH.keep J fun b y=>U b (Ω _ y)⟩,
  fun h b y=>by
   obtain ⟨s,v,b1,b2,h1,rfl,I,J⟩:=h
   rcases μ.1 y with y | y
   ·exact bH.lt I b y
   ·exact bH.lt J b y⟩
def qQ:Rel (List Bd):=ig 2 iR
theorem lF:Good qQ:=gJ bW (by omega)
end D
namespace D
open Go.RowKit Go.Deep Go.ChangeShapes Go.WideShapes
def Opens {α:Type} (P:Program) (e:TypeId) (R:Rel α):Prop:=
 ∀ (H:Type) (enc:TypeId × Value→H) (w:World) (spare:Nat→Bool) (held:Bool) (fuel:Nat) (cs:List Value) (y:DataW H × List MemPlace),
  DataW.trod enc P w 0 spare held fuel e cs=some y→∃ x bs,R w cs x bs
theorem IL {α:Type} {P:Program} {t e:TypeId} {n:Nat} {R:Rel α} (ht:P.underlying t=some (.slice e)) (hC:P.cellsOf e=n) (hn:0 < n) (hR:Opens P e R):Opens P t (ig n R):=by
 intro H enc w spare held fuel cs y h
 rcases open_slice ht h with ⟨rfl,_⟩ | ⟨a,len,cap,m,n',Dd,Pl,rfl,_,hl,hm,a2,_,hi⟩
 ·exact ⟨[],[],none,0,rfl,ν,by unfold maxLen; omega,fun _=>rfl,fun h=>absurd rfl h⟩
 ·have a5:len≤m:=by rw [a2]; split <;> omega
  by_cases h0:len=0
  ·subst h0
   exact ⟨[],[],some a,cap,rfl,hl,hm,fun _=>rfl,fun h=>absurd rfl h⟩
  ·have hex:∀ k,k < len→∃ p:List Value × α × List Nat,p.1.length=n∧(∀ j v,p.1[j]? = some v→w.cell? (a.add (k * n+j))=some v)∧R w p.1 p.2.1 p.2.2:=by
    intro k hk;obtain ⟨U,hc,a3⟩:=hi k (by omega);rw [hC] at hc;obtain ⟨_,hlen,J⟩:=World.cells?_some hc;obtain ⟨x,bs,hx⟩:=hR H enc w spare held n' U _ a3;refine ⟨(U,x,bs),hlen,fun j v hv=>?_,hx⟩
    have a4:j < n:=by
     have:=(List.getElem?_eq_some_iff.1 hv).1;dsimp only at this;omega
    have:=J j a4;rw [add_add] at this;rw [this]; exact hv
   obtain ⟨p0,_⟩:=hex 0 (by omega);haveI:Inhabited (List Value × α × List Nat):=⟨p0⟩;obtain ⟨f,hf⟩:=choose_lt hex
   have a0:a.spot=none:=by
    obtain ⟨q1,q2,_⟩:=hf 0 (by omega);obtain ⟨v,hv⟩:∃ v,(f 0).1[0]? = some v:=⟨_,Ψ (by omega)⟩;have h1:=q2 0 v hv;have h2:a.add (0 * n+0)=a:=by simp [Addr.add]
    rw [h2] at h1;exact World.cell?_spot h1
   obtain ⟨b,o,sp⟩:=a;dsimp only at a0;subst a0
   have a1:∀ i,(⟨b,o,none⟩:Addr).add i=⟨b,o+i,none⟩:=by
    intro i; unfold Addr.add; split <;> simp_all
   have I:((List.range len).map fun k=>(f k).2.1).length=len:=by simp
   refine ⟨(List.range len).map fun k=>(f k).2.1,b :: (List.range len).flatMap fun k=>(f k).2.2,some ⟨b,o,none⟩,cap,by rw [I],by rw [I]; exact hl,hm,fun h=>?_,fun _=>⟨b,o,rfl,fun k=>(f k).1,fun k=>(f k).2.2,by rw [I],fun k x hx=>?_⟩⟩
   ·have:=congrArg List.length h; rw [I] at this; exact absurd this h0
   ·obtain ⟨hk,rfl⟩:=List.getElem?_eq_some_iff.1 hx
    rw [I] at hk;obtain ⟨q1,q2,q3⟩:=hf k hk;refine ⟨q1,fun j v hv=>?_,?_⟩
    ·rw [← a1]; exact q2 j v hv
    ·simp only [List.getElem_map,List.getElem_range]; exact q3
theorem LG {P:Program} {t:TypeId} (J:P.underlying t=some (.int .u8)):Opens P t Qs:=by
 intro H enc w spare held fuel cs y h;obtain ⟨n,rfl,_,I⟩:=DataW.trod_int J h;simp only [Lit.wf,IntKind.min,IntKind.max,IntKind.signed,IntKind.bits] at I;simp at I;exact ⟨UInt8.ofNat n.toNat,[],by simp; omega,rfl⟩
section
variable {P:Program}
theorem Vz {t:TypeId} {I J:Field} (ht:P.underlying t=some (.struct #[I,J])) (hC:P.cellsOf t=2) (h0:P.underlying I.type=some .bool) (h1:P.underlying J.type=some .string)
  (c0:P.cellsOf I.type=1) (c1:P.cellsOf J.type=1) (o0:I.offset=0) (o1:J.offset=1):Opens P t iT:=by
 intro H enc w spare held fuel cs y h;obtain ⟨y0,y1,n,rfl,U,t0,t1⟩:=trod_struct2 ht h;rw [hC] at U
 match cs,U with
 | [a,b],_=>
  rw [c0,o0] at t0;rw [c1,o1] at t1;obtain ⟨x0,e0,_⟩:=DataW.trod_bool h0 t0;obtain ⟨x1,e1,_,hs⟩:=DataW.trod_string h1 t1;simp at e0 e1;subst e0 e1;exact ⟨⟨x0,x1⟩,[],rfl,hs,rfl⟩
theorem VA {t:TypeId} {I J:Field} (ht:P.underlying t=some (.struct #[I,J])) (hC:P.cellsOf t=2) (h0:P.underlying I.type=some .string) (h1:Opens P J.type eH)
  (c0:P.cellsOf I.type=1) (c1:P.cellsOf J.type=1) (o0:I.offset=0) (o1:J.offset=1):Opens P t aI:=by
 intro H enc w spare held fuel cs y h;obtain ⟨y0,y1,n,rfl,U,t0,t1⟩:=trod_struct2 ht h;rw [hC] at U
 match cs,U with
 | [a,b],_=>
  rw [c0,o0] at t0;rw [c1,o1] at t1;obtain ⟨x0,e0,_,hs⟩:=DataW.trod_string h0 t0;obtain ⟨x1,bs,hx⟩:=h1 H enc w spare held n _ _ t1;simp at e0;subst e0;exact ⟨⟨x0,x1⟩,bs,b,rfl,hs,by simpa using hx⟩
theorem VB {t:TypeId} {J U:Field} (ht:P.underlying t=some (.struct #[J,U])) (hC:P.cellsOf t=3) (h0:P.underlying J.type=some .bool) (h1:Opens P U.type aI)
  (c0:P.cellsOf J.type=1) (c1:P.cellsOf U.type=2) (o0:J.offset=0) (o1:U.offset=1):Opens P t nJ:=by
 intro H enc w spare held fuel cs y h;obtain ⟨y0,y1,n,rfl,hl,t0,t1⟩:=trod_struct2 ht h;rw [hC] at hl
 match cs,hl with
 | [a,b,c],_=>
  rw [c0,o0] at t0;rw [c1,o1] at t1;obtain ⟨x0,e0,_⟩:=DataW.trod_bool h0 t0;obtain ⟨x1,bs,s,I,hs,hx⟩:=h1 H enc w spare held n _ _ t1;simp at e0 I;obtain ⟨rfl,rfl⟩:=I;subst e0;exact ⟨⟨x0,x1⟩,bs,c,rfl,hs,hx⟩
theorem VD {t:TypeId} {f0 f1:Field} (ht:P.underlying t=some (.struct #[f0,f1])) (hC:P.cellsOf t=3) (h0:Opens P f0.type aI) (h1:Opens P f1.type gU)
  (c0:P.cellsOf f0.type=2) (c1:P.cellsOf f1.type=1) (o0:f0.offset=0) (o1:f1.offset=2):Opens P t fG:=by
 intro H enc w spare held fuel cs y h;obtain ⟨y0,y1,n,rfl,hl,t0,t1⟩:=trod_struct2 ht h;rw [hC] at hl
 match cs,hl with
 | [a,b,c],_=>
  rw [c0,o0] at t0;rw [c1,o1] at t1;obtain ⟨x0,I,s,J,hs,a0⟩:=h0 H enc w spare held n _ _ t0;obtain ⟨x1,U,a1⟩:=h1 H enc w spare held n _ _ t1;simp at J;obtain ⟨rfl,rfl⟩:=J;exact ⟨⟨x0,x1⟩,I ++ U,b,c,I,U,rfl,hs,rfl,a0,by simpa using a1⟩
theorem Ux {t:TypeId} {U f1:Field} (ht:P.underlying t=some (.struct #[U,f1])) (hC:P.cellsOf t=2) (h0:Opens P U.type aV) (h1:Opens P f1.type aV)
  (c0:P.cellsOf U.type=1) (c1:P.cellsOf f1.type=1) (o0:U.offset=0) (o1:f1.offset=1):Opens P t Uh:=by
 intro H enc w spare held fuel cs y h;obtain ⟨y0,y1,n,rfl,hl,t0,t1⟩:=trod_struct2 ht h;rw [hC] at hl
 match cs,hl with
 | [a,b],_=>
  rw [c0,o0] at t0;rw [c1,o1] at t1;obtain ⟨x0,I,a0⟩:=h0 H enc w spare held n _ _ t0;obtain ⟨x1,J,a1⟩:=h1 H enc w spare held n _ _ t1;exact ⟨⟨x0,x1⟩,I ++ J,a,b,I,J,rfl,rfl,by simpa using a0,by simpa using a1⟩
end
end D
namespace D
open Go.RowKit Go.Lib
def ni (c:UInt8):List UInt8→List (List UInt8)
 | []=>[[]]
 | x :: xs=>if x=c then [] :: ni c xs else match ni c xs with
  | []=>[[x]]
  | p :: ps=>(x :: p) :: ps
def toB (l:List UInt8):ByteArray:=⟨l.toArray⟩
theorem LH (s:ByteArray):toB s.data.toList=s:=by obtain ⟨⟨l⟩⟩:=s; rfl
theorem yK {c:UInt8}:∀ {l:List UInt8},c ∉ l→ni c l = [l]
 | [],_=>rfl
 | x :: xs,h=>by
  have y:x ≠ c:=fun e=>h (e ▸ Γ)
  have ih:=yK (l:=xs) (fun hm=>h (Δ _ hm));unfold ni;rw [if_neg y,ih]
theorem pO {c:UInt8}:∀ {a:List UInt8} (b:List UInt8),c ∉ a→ni c (a ++ c :: b)=a :: ni c b
 | [],b,_=>by rw [List.nil_append]; conv=>lhs; unfold ni; rw [if_pos rfl]
 | x :: xs,b,h=>by
  have y:x ≠ c:=fun e=>h (e ▸ Γ)
  have ih:=pO (a:=xs) b (fun hm=>h (Δ _ hm));rw [List.cons_append]
  conv=>lhs; unfold ni
  rw [if_neg y,ih]
def joinL (c:UInt8):List (List UInt8)→List UInt8
 | []=>[]
 | [p]=>p
 | p :: q :: r=>p ++ c :: joinL c (q :: r)
theorem yL (c:UInt8):∀ (ps:List (List UInt8)),ps ≠ []→(∀ p ∈ ps,c ∉ p)→ni c (joinL c ps)=ps
 | [],h,_=>absurd rfl h
 | [p],_,hn=>yK (hn p Γ)
 | p :: q :: r,_,hn=>by
  show ni c (p ++ c :: joinL c (q :: r))=_;rw [pO _ (hn p Γ),yL c (q :: r) (by simp) (fun x y=>hn x (Δ _ y))]
theorem index_one:∀ (l:List UInt8) (c:UInt8),(index l [c] = -1∧c ∉ l)∨∃ a b,l=a ++ c :: b∧c ∉ a∧index l [c]=(a.length:Int)
 | [],c=>by left; simp [index]
 | x :: xs,c=>by
  by_cases y:x=c
  ·right
   subst y;exact ⟨[],xs,rfl,by simp,by simp [index,List.isPrefixOf]⟩
  ·have J:List.isPrefixOf [c] (x :: xs)=false:=by simp [List.isPrefixOf]; exact fun e=>y e.symm
   rcases index_one xs c with ⟨h1,I⟩ | ⟨a,b,h1,I,U⟩
   ·left
    refine ⟨?_,fun hm=>?_⟩
    ·unfold index; rw [J,h1]; rfl
    ·rcases List.mem_cons.1 hm with e | hm
     ·exact y e.symm
     ·exact I hm
   ·right
    refine ⟨x :: a,b,by rw [h1]; rfl,fun hm=>?_,?_⟩
    ·rcases List.mem_cons.1 hm with e | hm
     ·exact y e.symm
     ·exact I hm
    ·unfold index
     rw [J,U]
     have:((a.length:Int) == -1)=false:=by
      rw [beq_eq_false_iff_ne]; omega
     rw [this];simp
theorem VE (l:List UInt8) (c:UInt8):(c ∉ l∧cut l [c]=(l,[],false))∨∃ a b,l=a ++ c :: b∧c ∉ a∧cut l [c]=(a,b,true):=by
 rcases index_one l c with ⟨h1,y⟩ | ⟨a,b,h1,y,I⟩
 ·left
  exact ⟨y,by unfold cut; rw [h1]; rfl⟩
 ·right
  refine ⟨a,b,h1,y,?_⟩;unfold cut;rw [I,if_pos (by omega)];have e:((a.length:Int)).toNat=a.length:=by omega
  rw [e,h1];simp
end D
section
open Go.RowKit D
theorem uz (t:T) (w:World):
  Calls Tryz.prog 174 #[.agg #[.bool t.var,.string t.name]] w fun e w'=>
   e=.returned (.iface (if t.var then 241 else 245) (.string t.name))∧Below w.heap.size w w':=by
 obtain ⟨b,nm⟩:=t;cases b
 all_goals
  go_enter Tryz.func174,Tryz.ntmps174
  go_wp2;go_ret;exact ⟨rfl,ζ⟩
theorem vJ (s:ByteArray) (w:World):
  Calls Tryz.prog 177 #[.string s] w fun e w'=>e=.returned (.string s)∧w=w':=by
 go_enter Tryz.func177,Tryz.ntmps177
 go_wp2;go_ret;exact ⟨rfl,rfl⟩
theorem qU (s:ByteArray) (w:World):
  Calls Tryz.prog 176 #[.string s] w fun e w'=>e=.returned (.string s)∧w=w':=by
 go_enter Tryz.func176,Tryz.ntmps176
 go_wp2;go_ret;exact ⟨rfl,rfl⟩
theorem IQ (s:ByteArray) (w:World):(Instr.typeAssert (.iface 245 (.string s)) 239 245 true).run Tryz.prog w=.ok (.tuple #[.string s,.bool true]) w:=by kernel_rfl
theorem QW (s:ByteArray) (w:World):(Instr.typeAssert (.iface 241 (.string s)) 239 245 true).run Tryz.prog w=.ok (.tuple #[.string ⟨#[]⟩,.bool false]) w:=by kernel_rfl
theorem BX (s:ByteArray) (w:World):(Instr.typeAssert (.iface 241 (.string s)) 239 241 true).run Tryz.prog w=.ok (.tuple #[.string s,.bool true]) w:=by kernel_rfl
theorem LJ (t:T) (w:World) (I:t.name.size≤maxLen):
  Calls Tryz.prog 184 #[.agg #[.bool t.var,.string t.name]] w fun e w'=>e=.returned (.bool (iI t))∧Below w.heap.size w w':=by
 unfold iI;have J:=uz t;obtain ⟨b,nm⟩:=t;have U:=vJ nm;have hv:=qU nm;have hn:=fun w=>yG nm w I
 have ho:=fun w=>BI nm w I
 cases b
 all_goals simp only [if_true,if_false,Bool.false_eq_true] at *
 all_goals
  go_enter Tryz.func184,Tryz.ntmps184
  have a1:=IQ;have a2:=QW;have a3:=BX
  go_wp2_with (first
   | (go_at_call 174; refine (J _).mono ?_; rintro e w1 ⟨rfl,y⟩)
   | (go_at_call 177; refine (U _).mono ?_; rintro e w2 ⟨rfl,rfl⟩)
   | (go_at_call 176; refine (hv _).mono ?_; rintro e w2 ⟨rfl,rfl⟩)
   | (go_at_call 183; refine (hn _).mono ?_; rintro e w3 ⟨rfl,rfl⟩)
   | (go_at_call 236; refine (ho _).mono ?_; rintro e w3 ⟨rfl,rfl⟩))
  go_ret;exact ⟨rfl,(ζ).trans (y.mono (by simp))⟩
theorem LK (t:T) (w:World) (hs:t.name.size≤maxLen):
  Calls Tryz.prog 261 #[.agg #[.bool t.var,.string t.name]] w fun e w'=>e=.returned (.bool (iI t))∧Below w.heap.size w w':=by
 unfold iI;obtain ⟨b,s⟩:=t;dsimp only at *;have hn:=fun w=>yF s w hs
 cases b
 ·simp only [if_false,Bool.false_eq_true]
  go_enter Tryz.func261,Tryz.ntmps261
  go_wp2_with (go_at_call 262; refine (hn _).mono ?_; rintro e w3 ⟨rfl,rfl⟩)
  go_ret;exact ⟨rfl,ζ⟩
 ·simp only [if_true]
  have I:=fun w=>yE (s.extract 1 s.size) w (by simp; omega)
  rw [tail_at] at I;unfold maxLen at hs;by_cases h0:0 < s.size
  ·have hc:qF s=big s[0]:=by unfold qF; rw [Hz s h0]; simp [h0]
   have a4:((s.size:Int) == 0)=false:=beq_eq_false_iff_ne.2 (by omega);have h1:(1:Int)≤(s.size:Int):=by omega
   unfold uX;rw [hc];by_cases J:big s[0]=true
   ·have hB:=(AB _).1 J
    rw [J];clear J hc;by_cases y:s.size=1
    ·have U:nD s.data.toList.tail=true:=by
      rw [← tail_at,y]; simp [nD]
     have HL:=η U;have a0:((s.size:Int) == 1)=true:=beq_iff_eq.2 (by omega);clear U;have HS:=η y;clear y
     go_enter Tryz.func261,Tryz.ntmps261
     go_wp2;go_ret;exact ⟨aH (by rw [HL.out,HS.out]; rfl),ζ⟩
    ·have a0:((s.size:Int) == 1)=false:=beq_eq_false_iff_ne.2 (by omega)
     have a1:(s.extract 1 s.size).size=s.size - 1:=by simp
     have a2:(s.size - 1≤8∧s.size≤8)∨(s.size - 1=8∧¬ s.size≤8)∨¬ s.size - 1≤8:=by omega
     rw [a1] at I;have hp:decide (1≤s.size - 1)=true:=decide_eq_true (by omega);rw [hp] at I;clear hp a1;generalize nD s.data.toList.tail=b at *;by_cases h8:s.size≤8
     ·have h9:decide (s.size - 1≤8)=true:=decide_eq_true (by omega)
      rw [h9] at I;clear h9 a2;have a5:=decide_eq_true h8;cases b
      all_goals
       go_enter Tryz.func261,Tryz.ntmps261
       go_wp2_with (go_at_call 284; refine (I _).mono ?_; rintro e w3 ⟨rfl,rfl⟩)
       go_ret;exact ⟨aH (by first | (simp [h8]; done) | (simp; omega)),ζ⟩
     ·have a5:decide (s.size≤8)=false:=decide_eq_false h8
      clear a2;generalize decide (s.size - 1≤8)=b2 at *;cases b
      all_goals cases b2
      all_goals
       go_enter Tryz.func261,Tryz.ntmps261
       go_wp2_with (go_at_call 284; refine (I _).mono ?_; rintro e w3 ⟨rfl,rfl⟩)
       go_ret;exact ⟨aH (by first | (simp [h8]; done) | (simp; omega)),ζ⟩
   ·have hB:=mt (AB _).2 J
    have a3:big s[0]=false:=by simpa using J
    rw [a3];clear J a3 hc
    go_enter Tryz.func261,Tryz.ntmps261
    go_wp2
    all_goals first
     | (exfalso; omega)
     | (go_ret; exact ⟨aH (by simp),ζ⟩)
  ·have hc:uX s=false:=by unfold uX qF; simp [h0]
   have a4:((s.size:Int) == 0)=true:=beq_iff_eq.2 (by omega);rw [hc]
   go_enter Tryz.func261,Tryz.ntmps261
   go_wp2;go_ret;exact ⟨rfl,ζ⟩
end
end Go.Proofs.YtkjinanbccloeaaGreatDoor
