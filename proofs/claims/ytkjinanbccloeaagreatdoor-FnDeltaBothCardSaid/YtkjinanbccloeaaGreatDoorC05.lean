/- Of the proof of FnDeltaBoth: LevP, BindP, Open, SplP, Term, Txt, CopyA, RdrP. -/
import Derived.Lib.SplitLaws
import Derived.Test.YtkjinanbccloeaaGreatDoorC03
import Derived.Test.YtkjinanbccloeaaGreatDoorC04
set_option linter.unusedVariables false
set_option maxHeartbeats 1000000
set_option maxRecDepth 100000
namespace Go.Proofs.YtkjinanbccloeaaGreatDoor
namespace D
open Go.RowKit
theorem oP {α:Type} [DecidableEq α]:∀ {I l2:List α},I.Nodup→(∀ x ∈ I,x ∈ l2)→I.length≤l2.length
 | [],_,_,_=>ε
 | x :: r,l2,h,hs=>by
  obtain ⟨h1,h2⟩:=List.nodup_cons.1 h;have U:=hs x Γ
  have:=oP (l2:=l2.erase x) h2 fun y hy=>by
   have J:y ≠ x:=by rintro rfl; exact h1 hy
   exact (List.mem_erase_of_ne J).2 (hs y (Δ _ hy))
  have hl:=List.length_erase_of_mem U;have hp:=List.length_pos_of_mem U;simp only [List.length_cons];omega
theorem XZ {l:List Nat} {N x:Nat} (hl:l.length≤N) (hx:x ∈ l) (hN:N≤x):∃ g,g < N∧g ∉ l:=by
 refine Classical.byContradiction fun h=>?_
 have I:∀ g,g < N→g ∈ l:=fun g hg=>Classical.byContradiction fun hn=>h ⟨g,hg,hn⟩
 have J:(x :: List.range N).Nodup:=List.nodup_cons.2 ⟨fun hm=>by have:=List.mem_range.1 hm; omega,List.nodup_range⟩
 have:=oP J (l2:=l) fun y U=>by
  rcases ύ.1 U with rfl | U
  ·exact hx
  ·exact I y (List.mem_range.1 U)
 simp at this;omega
theorem Jh {α:Type} {f g:α→Nat}:∀ {l:List α},(∀ x ∈ l,f x≤g x)→(l.map f).sum≤(l.map g).sum
 | [],_=>ν
 | x :: r,h=>by
  have h1:=h x Γ;have J:=Jh (l:=r) fun y I=>h y (Δ _ I)
  simp only [List.map_cons,List.sum_cons];omega
theorem sum_lt {α:Type} {f g:α→Nat}:∀ {l:List α},(∀ x ∈ l,f x≤g x)→(∃ x ∈ l,f x < g x)→(l.map f).sum < (l.map g).sum
 | [],_,⟨x,I,_⟩=>by simp at I
 | y :: r,h,⟨x,I,hlt⟩=>by
  have h1:=h y Γ;simp only [List.map_cons,List.sum_cons]
  rcases ύ.1 I with rfl | I
  ·have U:=Jh (l:=r) fun z J=>h z (Δ _ J)
   omega
  ·have U:=sum_lt (l:=r) (fun z J=>h z (Δ _ J)) ⟨x,I,hlt⟩
   omega
theorem bytes_beq (a b:ByteArray):(a == b)=(a.data == b.data):=rfl
instance YH:LawfulBEq ByteArray where
 eq_of_beq {a b} h:=by rw [bytes_beq] at h; cases a; cases b; exact congrArg _ (eq_of_beq h)
 rfl {a}:=by rw [bytes_beq]; exact beq_self_eq_true _
def cO (rs:List Ru):List ByteArray:=rs.map fun r=>r.head.name
def ig (acc:List ByteArray) (n:ByteArray):List ByteArray:=if n ∈ acc then acc else acc ++ [n]
def aO (rs:List Ru):List ByteArray:=(cO rs).foldl ig []
theorem jA {acc:List ByteArray} {n x:ByteArray}:x ∈ ig acc n ↔ x ∈ acc∨x=n:=by
 unfold ig
 split
 ·rename_i h
  exact ⟨.inl,fun y=>y.elim id (fun e=>e ▸ h)⟩
 ·simp
theorem qm:∀ (y acc:List ByteArray),acc.Nodup→(y.foldl ig acc).Nodup∧(∀ x,x ∈ y.foldl ig acc ↔ x ∈ acc∨x ∈ y)∧(y.foldl ig acc).length≤acc.length+y.length
 | [],acc,h=>⟨h,fun x=>by simp,by simp⟩
 | n :: y,acc,h=>by
  have hn:(ig acc n).Nodup:=by
   unfold ig
   split
   ·exact h
   ·rename_i hm
    exact List.nodup_append.2 ⟨h,by simp,fun a ha b hb e=>by rw [ώ.1 hb] at e; exact hm (e ▸ ha)⟩
  obtain ⟨i1,i2,I⟩:=qm y (ig acc n) hn;refine ⟨i1,fun x=>?_,?_⟩
  ·rw [List.foldl_cons,i2,jA,ύ,or_assoc]
  ·rw [List.foldl_cons,List.length_cons]
   have:(ig acc n).length≤acc.length+1:=by unfold ig; split <;> simp
   omega
theorem jK {rs:List Ru} {x:ByteArray}:x ∈ aO rs ↔ x ∈ cO rs:=by
 have h:=(qm (cO rs) [] List.nodup_nil).2.1 x;unfold aO;rw [h]; simp
theorem EC (rs:List Ru):(aO rs).length≤rs.length:=by
 have:=(qm (cO rs) [] List.nodup_nil).2.2;simpa [cO,aO] using this
def D6 (p:Pt):Nat:=if p.no then 1 else 0
def OC (rs:List Ru) (S:ByteArray→Nat):Prop:=∀ r ∈ rs,∀ p ∈ r.body,p.atom.name ∈ cO rs→S p.atom.name+D6 p≤S r.head.name
theorem head_mem {rs:List Ru} {r:Ru} (h:r ∈ rs):r.head.name ∈ cO rs:=List.mem_map.2 ⟨r,h,rfl⟩
theorem QZ {rs:List Ru}:∀ (m:Nat) (S:ByteArray→Nat),OC rs S→((aO rs).map S).sum≤m→∃ T,OC rs T∧∀ n ∈ cO rs,T n < (aO rs).length:=by
 intro m
 induction m with
 | zero=>
  intro S J hm;refine ⟨S,J,fun n hn=>?_⟩;have hp:=List.length_pos_of_mem (jK.2 hn)
  have U:∀ (l:List Nat) (x:Nat),x ∈ l→x≤l.sum:=by
   intro l
   induction l with
   | nil=>intro x I; simp at I
   | cons y l ih=>intro x I; rw [List.sum_cons]; rcases ύ.1 I with rfl | I; omega; have:=ih x I; omega
  have:S n≤((aO rs).map S).sum:=U _ _ (List.mem_map.2 ⟨n,jK.2 hn,rfl⟩);omega
 | succ m ih=>
  intro S J hm;by_cases I:∃ x ∈ (aO rs).map S,(aO rs).length≤x
  ·obtain ⟨x,I,hN⟩:=I
   obtain ⟨g,hg,a0⟩:=XZ (l:=(aO rs).map S) (by simp) I hN;obtain ⟨nx,a1,rfl⟩:=List.mem_map.1 I;refine ih (fun n=>if g < S n then S n - 1 else S n) (fun r hr p hp hh=>?_) ?_
   ·have h0:=J r hr p hp hh
    have a2:S p.atom.name ≠ g:=fun e=>a0 (List.mem_map.2 ⟨_,jK.2 hh,e⟩)
    have a3:D6 p≤1:=by unfold D6; split <;> omega
    dsimp only
    split <;> split <;> omega
   ·have:=sum_lt (l:=aO rs) (f:=fun n=>if g < S n then S n - 1 else S n) (g:=S) (fun y _=>by split <;> omega) ⟨nx,a1,by rw [if_pos (by omega)]; omega⟩
    omega
  ·refine ⟨S,J,fun n hn=>?_⟩
   refine Nat.lt_of_not_le fun h=>I ⟨S n,List.mem_map.2 ⟨n,jK.2 hn,rfl⟩,h⟩
theorem Hw {rs:List Ru} {S:ByteArray→Nat} (h:OC rs S):∃ T,OC rs T∧∀ n ∈ cO rs,T n < (aO rs).length:=QZ _ S h ν
def jb (out:List Nat) (i:Nat):Nat:=out.getD i 0
theorem qo {out:List Nat} {i j v:Nat} (h:i < out.length):jb (out.set i v) j=if i=j then v else jb out j:=by
 unfold jb;rw [List.getD_eq_getElem?_getD,List.getD_eq_getElem?_getD,List.getElem?_set];by_cases e:i=j
 ·subst e; rw [if_pos rfl,if_pos rfl,if_pos h]; rfl
 ·rw [if_neg e,if_neg e]
def kZ (n:Nat) (y:ByteArray) (i k:Nat) (out:List Nat) (p:Pt):List Nat:=
 if p.atom.name=y then (if jb out i < jb out k+D6 p∧jb out i≤n then out.set i (jb out k+D6 p) else out) else out
def oD (y I:ByteArray) (i k:Nat) (out:List Nat):List Nat:=if I=y∧jb out i < jb out k then out.set i (jb out k) else out
def eH (rs:List Ru) (i:Nat):Ru:=rs.getD i ⟨⟨⟨#[]⟩,[]⟩,[]⟩
def yC (rs:List Ru) (i:Nat) (out:List Nat) (k:Nat):List Nat:=
 (eH rs i).body.foldl (kZ rs.length (eH rs k).head.name i k) (oD (eH rs i).head.name (eH rs k).head.name i k out)
def Q7 (rs:List Ru) (out:List Nat) (i:Nat):List Nat:=(List.range rs.length).foldl (yC rs i) out
def qC (rs:List Ru) (out:List Nat):List Nat:=(List.range rs.length).foldl (Q7 rs) out
def zV (rs:List Ru):Nat→List Nat
 | 0=>List.replicate rs.length 0
 | m+1=>qC rs (zV rs m)
def aA (rs:List Ru):List Nat:=zV rs ((rs.length+1) * (rs.length+2))
def nC (rs:List Ru):Bool:=(aA rs).any fun x=>decide (rs.length≤x)
def Up (a b:List Nat):Prop:=b.length=a.length∧∀ i,jb a i≤jb b i
theorem Up.refl (a:List Nat):Up a a:=⟨rfl,fun _=>ν⟩
theorem Up.trans {a b c:List Nat} (h:Up a b) (k:Up b c):Up a c:=⟨k.1.trans h.1,fun i=>τ (h.2 i) (k.2 i)⟩
theorem Up.eq {a b:List Nat} (h:Up a b) (k:Up b a):a=b:=by
 refine List.ext_getElem h.1.symm fun i h1 y=>?_
 have I:jb a i=a[i]:=by unfold jb; rw [List.getD_eq_getElem?_getD,Ψ h1]; rfl
 have J:jb b i=b[i]:=by unfold jb; rw [List.getD_eq_getElem?_getD,Ψ y]; rfl
 have U:=h.2 i;have h4:=k.2 i;omega
theorem OD {out:List Nat} {i v:Nat} (h:jb out i≤v):Up out (out.set i v):=by
 refine ⟨by simp,fun j=>?_⟩;by_cases y:i < out.length
 ·rw [qo y]
  split
  ·rename_i e; subst e; exact h
  ·exact ν
 ·rw [List.set_eq_of_length_le (by omega)]; exact ν
theorem yD (n:Nat) (y:ByteArray) (i k:Nat) (out:List Nat) (p:Pt):Up out (kZ n y i k out p):=by
 unfold kZ
 split
 ·split
  ·rename_i h; exact OD (by omega)
  ·exact Up.refl _
 ·exact Up.refl _
theorem ED (y I:ByteArray) (i k:Nat) (out:List Nat):Up out (oD y I i k out):=by
 unfold oD
 split
 ·rename_i h; exact OD (by omega)
 ·exact Up.refl _
theorem qL {β:Type} {f:List Nat→β→List Nat} (hf:∀ o x,Up o (f o x)):∀ (l:List β) (out:List Nat),Up out (l.foldl f out)
 | [],out=>Up.refl _
 | x :: r,out=>(hf out x).trans (qL hf r _)
theorem rM {β:Type} {f:List Nat→β→List Nat} (hf:∀ o x,Up o (f o x)):∀ (l:List β) (out:List Nat),l.foldl f out=out→∀ x ∈ l,f out x=out
 | [],_,_,x,I=>by simp at I
 | y :: r,out,h,x,I=>by
  have h1:=hf out y;have J:=qL hf r (f out y);rw [List.foldl_cons] at h;rw [h] at J;have e:=h1.eq J;rw [← e] at h
  rcases ύ.1 I with rfl | I
  ·exact e.symm
  ·exact rM hf r out h x I
theorem KR (rs:List Ru) (i:Nat) (out:List Nat) (k:Nat):Up out (yC rs i out k):=(ED _ _ _ _ _).trans (qL (fun o x=>yD _ _ _ _ o x) _ _)
theorem Qg (rs:List Ru) (out:List Nat) (i:Nat):Up out (Q7 rs out i):=qL (fun o x=>KR rs i o x) _ _
theorem zW (rs:List Ru) (out:List Nat):Up out (qC rs out):=qL (fun o x=>Qg rs o x) _ _
theorem Ji (rs:List Ru):∀ m,(zV rs m).length=rs.length
 | 0=>by simp [zV]
 | m+1=>by rw [zV,(zW rs _).1,Ji rs m]
theorem gU (rs:List Ru):(aA rs).length=rs.length:=Ji rs _
def X4 (rs:List Ru) (T:ByteArray→Nat) (out:List Nat):Prop:=∀ i,i < rs.length→jb out i≤T (eH rs i).head.name
theorem pK {rs:List Ru} {i:Nat} (h:i < rs.length):eH rs i ∈ rs:=by
 unfold eH;rw [List.getD_eq_getElem?_getD,Ψ h];exact δ h
theorem rO {α β:Type} {P:α→Prop} {f:α→β→α}:∀ {l:List β} {a:α},(∀ a x,x ∈ l→P a→P (f a x))→P a→P (l.foldl f a)
 | [],_,_,h=>h
 | x :: r,a,hf,h=>rO (l:=r) (fun a y I=>hf a y (Δ _ I)) (hf a x Γ h)
theorem Q8 {rs:List Ru} {T:ByteArray→Nat} (hT:OC rs T) {out:List Nat} (hl:out.length=rs.length) (h:X4 rs T out):(qC rs out).length=rs.length∧X4 rs T (qC rs out):=by
 unfold qC;refine rO (P:=fun o=>o.length=rs.length∧X4 rs T o) (fun o i hi J=>?_) ⟨hl,h⟩;have hi:=List.mem_range.1 hi;unfold Q7;refine rO (P:=fun o=>o.length=rs.length∧X4 rs T o) (fun o k U J=>?_) J;have U:=List.mem_range.1 U;unfold yC;refine rO (P:=fun o=>o.length=rs.length∧X4 rs T o) (fun o p hp J=>?_) ?_
 ·obtain ⟨h1,y⟩:=J
  refine ⟨by rw [(yD _ _ _ _ o p).1,h1],fun j I=>?_⟩;unfold kZ
  split
  ·rename_i hn
   split
   ·rw [qo (by omega)]
    split
    ·rename_i e
     subst e;have h3:=hT _ (pK hi) p hp (by rw [hn]; exact head_mem (pK U));have h4:=y k U;rw [hn] at h3;omega
    ·exact y j I
   ·exact y j I
  ·exact y j I
 ·obtain ⟨h1,y⟩:=J
  refine ⟨by rw [(ED _ _ _ _ o).1,h1],fun j I=>?_⟩;unfold oD
  split
  ·rename_i hc
   rw [qo (by omega)]
   split
   ·rename_i e
    subst e;rw [← hc.1];exact y k U
   ·exact y j I
  ·exact y j I
theorem UD {rs:List Ru} {T:ByteArray→Nat} (y:OC rs T):∀ m,X4 rs T (zV rs m)
 | 0=>fun i I=>by
  have:jb (zV rs 0) i=0:=by unfold zV jb; rw [List.getD_eq_getElem?_getD,List.getElem?_replicate]; split <;> rfl
  omega
 | m+1=>(Q8 y (Ji rs m) (UD y m)).2
theorem EF {rs:List Ru} {T:ByteArray→Nat} (y:OC rs T):X4 rs T (aA rs):=UD y _
def Closed (rs:List Ru) (out:List Nat):Prop:=∀ i,i < rs.length→∀ k,k < rs.length→
 ((eH rs k).head.name=(eH rs i).head.name→jb out k≤jb out i)∧∀ p ∈ (eH rs i).body,p.atom.name=(eH rs k).head.name→jb out k+D6 p≤jb out i
theorem zX {out:List Nat} {i v:Nat} (h:i < out.length) (e:out.set i v=out):jb out i=v:=by
 have:=qo (j:=i) (v:=v) h;rw [e,if_pos rfl] at this;exact this
theorem Q9 {rs:List Ru} {out:List Nat} (hl:out.length=rs.length) (hs:qC rs out=out) (hn:∀ i,i < rs.length→jb out i≤rs.length):Closed rs out:=by
 intro i hi k hk;have h1:=rM (fun o x=>Qg rs o x) _ _ hs i (List.mem_range.2 hi);have I:=rM (fun o x=>KR rs i o x) _ _ h1 k (List.mem_range.2 hk)
 have J:oD (eH rs i).head.name (eH rs k).head.name i k out=out:=by
  have a1:=ED (eH rs i).head.name (eH rs k).head.name i k out;have a2:=qL (fun o x=>yD rs.length (eH rs k).head.name i k o x) (eH rs i).body (oD (eH rs i).head.name (eH rs k).head.name i k out);unfold yC at I;rw [I] at a2;exact (a1.eq a2).symm
 unfold yC at I;rw [J] at I;have h4:=rM (fun o x=>yD rs.length (eH rs k).head.name i k o x) _ _ I;refine ⟨fun e=>?_,fun p hp e=>?_⟩
 ·refine Nat.le_of_not_lt fun y=>?_
  unfold oD at J;rw [if_pos ⟨e,y⟩] at J;have:=zX (by omega) J;omega
 ·refine Nat.le_of_not_lt fun y=>?_
  have U:=h4 p hp;unfold kZ at U;rw [if_pos e,if_pos ⟨y,hn i hi⟩] at U;have:=zX (by omega) U;omega
theorem UE {a b:List Nat} (h:Up a b) (I:b ≠ a):a.sum < b.sum:=by
 have key:∀ (a b:List Nat),b.length=a.length→(∀ i,jb a i≤jb b i)→a.sum≤b.sum∧(b ≠ a→a.sum < b.sum):=by
  intro a
  induction a with
  | nil=>intro b U _; have:b = []:=List.length_eq_zero_iff.1 U; subst this; exact ⟨ν,fun h=>absurd rfl h⟩
  | cons x xs ih=>
   intro b U J
   cases b with
   | nil=>simp at U
   | cons y ys=>
    have h0:x≤y:=J 0;have h1:∀ i,jb xs i≤jb ys i:=fun i=>J (i+1)
    obtain ⟨i1,i2⟩:=ih ys (by simpa using U) h1;simp only [List.sum_cons];refine ⟨by omega,fun I=>?_⟩;by_cases e:ys=xs
    ·have:y ≠ x:=fun e2=>I (by rw [e,e2])
     omega
    ·have:=i2 e; omega
 exact (key a b h.1 h.2).2 I
theorem Hy {out:List Nat} {n:Nat} (h:∀ i,i < out.length→jb out i≤n):out.sum≤out.length * n:=by
 induction out with
 | nil=>simp
 | cons x xs ih=>
  have h0:x≤n:=h 0 (by simp);have h1:=ih fun i y=>h (i+1) (by simp; omega)
  simp only [List.sum_cons,List.length_cons,Nat.add_mul];omega
theorem YV (rs : List Ru) : ∀ {m k : Nat}, m ≤ k → Up (zV rs m) (zV rs k) := by
  intro m k h
  induction k with
  | zero => obtain rfl : m = 0 := by omega
            exact Up.refl _
  | succ k ih =>
    by_cases e : m = k + 1
    · subst e; exact Up.refl _
    · exact (ih (by omega)).trans (zW rs _)
theorem UF (rs : List Ru) {m : Nat} (h : qC rs (zV rs m) = zV rs m) : ∀ k, m ≤ k → zV rs k = zV rs m := by
  intro k y
  induction k with
  | zero => obtain rfl : m = 0 := by omega
            rfl
  | succ k ih =>
    by_cases e : m = k + 1
    · rw [e]
    · rw [zV, ih (by omega), h]
theorem KT (rs:List Ru):(∃ i,i < rs.length∧rs.length < jb (aA rs) i)∨Closed rs (aA rs):=by
 by_cases U:∃ i,i < rs.length∧rs.length < jb (aA rs) i
 ·exact .inl U
 ·have y:∀ i,i < rs.length→jb (aA rs) i≤rs.length:=fun i hi=>Nat.le_of_not_lt fun h=>U ⟨i,hi,h⟩
  by_cases hs:qC rs (aA rs)=aA rs
  ·exact .inr (Q9 (gU rs) hs y)
  ·exfalso
   have J:∀ m,m≤(rs.length+1) * (rs.length+2)→m≤(zV rs m).sum:=by
    intro m
    induction m with
    | zero=>intro _; exact ε
    | succ m ih=>
     intro hm;have h1:=ih (by omega)
     have I:qC rs (zV rs m) ≠ zV rs m:=fun e=>by
      have:=UF rs e _ (show m≤(rs.length+1) * (rs.length+2) by omega);refine hs ?_;unfold aA;rw [this];exact e
     have h3:=UE (zW rs (zV rs m)) I;show m+1≤(qC rs (zV rs m)).sum;omega
   have h1:=J _ ν;have I:=Hy (out:=aA rs) (n:=rs.length) (by rw [gU]; exact y);rw [gU] at I
   have h3:rs.length * rs.length < (rs.length+1) * (rs.length+2):=by
    have:(rs.length+1) * (rs.length+2)=rs.length * rs.length+3 * rs.length+2:=by
     rw [Nat.add_mul,Nat.mul_add]; omega
    omega
   unfold aA at I;omega
def ja (rs:List Ru) (n:ByteArray):Nat:=jb (aA rs) ((cO rs).idxOf n)
theorem Rf {rs:List Ru} {out:List Nat} (h:Closed rs out) {i k:Nat} (y:i < rs.length) (I:k < rs.length) (e:(eH rs k).head.name=(eH rs i).head.name):jb out k=jb out i:=
 Nat.le_antisymm ((h i y k I).1 e) ((h k I i y).1 e.symm)
theorem KU {rs:List Ru} {n:ByteArray} (h:n ∈ cO rs):(cO rs).idxOf n < rs.length∧(eH rs ((cO rs).idxOf n)).head.name=n:=by
 have h1:=List.idxOf_lt_length_of_mem h;have I:=List.getElem_idxOf h1;have h3:(cO rs).length=rs.length:=by simp [cO]
 refine ⟨by omega,?_⟩;have y:(cO rs).idxOf n < rs.length:=by omega
 have J:eH rs ((cO rs).idxOf n)=rs[(cO rs).idxOf n]:=by
  unfold eH;rw [List.getD_eq_getElem?_getD,Ψ y]; rfl
 have U:∀ i (h:i < rs.length) (h':i < (cO rs).length),(cO rs)[i]=rs[i].head.name:=fun i h h'=>by simp [cO]
 rw [J,← U _ y h1,I]
theorem pO {rs:List Ru} (h:Closed rs (aA rs)):OC rs (ja rs)∧∀ i,i < rs.length→jb (aA rs) i=ja rs (eH rs i).head.name:=by
 have he:∀ i,i < rs.length→jb (aA rs) i=ja rs (eH rs i).head.name:=fun i y=>by
  obtain ⟨h1,I⟩:=KU (head_mem (pK y));unfold ja;exact Rf h h1 y I.symm
 refine ⟨fun r hr p U hh=>?_,he⟩;obtain ⟨i,y,rfl⟩:=List.mem_iff_getElem.1 hr;have er:eH rs i=rs[i]:=by unfold eH; rw [List.getD_eq_getElem?_getD,Ψ y]; rfl
 obtain ⟨h1,I⟩:=KU hh;have h3:=(h i y _ h1).2 p (by rw [er]; exact U) I.symm;have J:=he i y;rw [er] at J;rw [← J];exact h3
theorem X5 {rs:List Ru} (h:nC rs=true) (S:ByteArray→Nat):¬ OC rs S:=by
 intro U;obtain ⟨T,hT,hs⟩:=Hw U;unfold nC at h;obtain ⟨x,hx,y⟩:=List.any_eq_true.1 h;have y:=of_decide_eq_true y;obtain ⟨i,J,rfl⟩:=List.mem_iff_getElem.1 hx;have I:i < rs.length:=by rw [gU] at J; exact J
 have h1:=EF hT i I;have h2:=hs _ (head_mem (pK I));have h3:=EC rs;have e:jb (aA rs) i=(aA rs)[i]:=by unfold jb; rw [List.getD_eq_getElem?_getD,Ψ J]; rfl
 omega
theorem OE {rs:List Ru} (h:nC rs=false):Closed rs (aA rs):=by
 refine (KT rs).resolve_left fun ⟨i,I,hn⟩=>?_
 unfold nC at h;have y:i < (aA rs).length:=by rw [gU]; exact I
 have e:jb (aA rs) i=(aA rs)[i]:=by unfold jb; rw [List.getD_eq_getElem?_getD,Ψ y]; rfl
 have:=List.any_eq_false.1 h (aA rs)[i] (δ y);simp at this;omega
theorem Rh {rs:List Ru} (h:∀ S,¬ OC rs S):nC rs=true:=by
 cases hc:nC rs
 ·exact absurd (pO (OE hc)).1 (h _)
 ·rfl
theorem zY {rs:List Ru} {S:ByteArray→Nat} (h:OC rs S):nC rs=false:=by
 cases hc:nC rs
 ·rfl
 ·exact absurd h (X5 hc S)
theorem UG {rs:List Ru} {S:ByteArray→Nat} (h:OC rs S) (I:∀ T,OC rs T→∀ n ∈ cO rs,S n≤T n):∀ i,i < rs.length→S (eH rs i).head.name=jb (aA rs) i:=fun i y=>by
 have hc:=pO (OE (zY h));have h1:=I _ hc.1 _ (head_mem (pK y));have J:=EF h i y;have U:=hc.2 i y;omega
abbrev Bd:=List (ByteArray × ByteArray)
def gJ:Bd→ByteArray→Option ByteArray
 | [],_=>none
 | p :: b,n=>if p.1=n then some p.2 else gJ b n
def jC (b:Bd) (n:ByteArray):ByteArray:=(gJ b n).getD ⟨#[]⟩
def dH:List T→List T→Bd→Bd × Bool
 | t :: ts,f :: fs,b=>
  if t.var then
   match gJ b t.name with
   | some v=>if v=f.name then dH ts fs b else (b,false)
   | none=>dH ts fs (b ++ [(t.name,f.name)])
  else if t.name=f.name then dH ts fs b else (b,false)
 | _,_,b=>(b,true)
def aF (a f:A) (b:Bd):Bd × Bool:=if a.name=f.name∧a.args.length=f.args.length then dH a.args f.args b else (b,false)
def dU (b:Bd) (t:T):T:=⟨false,if t.var then jC b t.name else t.name⟩
def dD (a:A) (b:Bd):A:=⟨a.name,a.args.map (dU b)⟩
def jG:Rel Bd:=fun w cs b bs=>∃ s v y I,cs = [s,v]∧bs=y ++ I∧jP w [s] (b.map (·.1)) y∧jP w [v] (b.map (·.2)) I
theorem dJ:Good jG:=
 ⟨fun h J=>by
   obtain ⟨s,v,U,b2,h1,rfl,y,I⟩:=h
   exact ⟨s,v,U,b2,h1,rfl,dA.keep y fun b hb=>J b (Ξ _ hb),dA.keep I fun b hb=>J b (Ω _ hb)⟩,
  fun h b hb=>by
   obtain ⟨s,v,U,b2,h1,rfl,y,I⟩:=h
   rcases μ.1 hb with hb | hb
   ·exact dA.lt y b hb
   ·exact dA.lt I b hb⟩
def uz:Rel (List Bd):=iV 2 jG
theorem nP:Good uz:=iT dJ (by omega)
end D
namespace D
open Go.RowKit Go.Deep Go.ChangeShapes Go.WideShapes
def Opens {α:Type} (P:Program) (e:TypeId) (R:Rel α):Prop:=
 ∀ (H:Type) (enc:TypeId × Value→H) (w:World) (spare:Nat→Bool) (held:Bool) (fuel:Nat) (cs:List Value) (y:DataW H × List MemPlace),
  DataW.trod enc P w 0 spare held fuel e cs=some y→∃ x bs,R w cs x bs
theorem KW {α:Type} {P:Program} {t e:TypeId} {n:Nat} {R:Rel α} (ht:P.underlying t=some (.slice e)) (hC:P.cellsOf e=n) (hn:0 < n) (hR:Opens P e R):Opens P t (iV n R):=by
 intro H enc w spare held fuel cs y h
 rcases open_slice ht h with ⟨rfl,_⟩ | ⟨a,len,cap,m,n',Dd,Pl,rfl,_,hl,hm,a2,_,hi⟩
 ·exact ⟨[],[],none,0,rfl,ν,by unfold maxLen; omega,fun _=>rfl,fun h=>absurd rfl h⟩
 ·have a5:len≤m:=by rw [a2]; split <;> omega
  by_cases h0:len=0
  ·subst h0
   exact ⟨[],[],some a,cap,rfl,hl,hm,fun _=>rfl,fun h=>absurd rfl h⟩
  ·have hex:∀ k,k < len→∃ p:List Value × α × List Nat,p.1.length=n∧(∀ j v,p.1[j]? = some v→w.cell? (a.add (k * n+j))=some v)∧R w p.1 p.2.1 p.2.2:=by
    intro k hk;obtain ⟨U,hc,a3⟩:=hi k (by omega);rw [hC] at hc;obtain ⟨_,hlen,J⟩:=World.cells?_some hc;obtain ⟨x,bs,hx⟩:=hR H enc w spare held n' U _ a3;refine ⟨(U,x,bs),hlen,fun j v hv=>?_,hx⟩
    have a4:j < n:=by
     have:=(List.getElem?_eq_some_iff.1 hv).1;dsimp only at this;omega
    have:=J j a4;rw [add_add] at this;rw [this]; exact hv
   obtain ⟨p0,_⟩:=hex 0 (by omega);haveI:Inhabited (List Value × α × List Nat):=⟨p0⟩;obtain ⟨f,hf⟩:=choose_lt hex
   have a0:a.spot=none:=by
    obtain ⟨q1,q2,_⟩:=hf 0 (by omega);obtain ⟨v,hv⟩:∃ v,(f 0).1[0]? = some v:=⟨_,Ψ (by omega)⟩;have h1:=q2 0 v hv;have h2:a.add (0 * n+0)=a:=by simp [Addr.add]
    rw [h2] at h1;exact World.cell?_spot h1
   obtain ⟨b,o,sp⟩:=a;dsimp only at a0;subst a0
   have a1:∀ i,(⟨b,o,none⟩:Addr).add i=⟨b,o+i,none⟩:=by
    intro i; unfold Addr.add; split <;> simp_all
   have I:((List.range len).map fun k=>(f k).2.1).length=len:=by simp
   refine ⟨(List.range len).map fun k=>(f k).2.1,b :: (List.range len).flatMap fun k=>(f k).2.2,some ⟨b,o,none⟩,cap,by rw [I],by rw [I]; exact hl,hm,fun h=>?_,fun _=>⟨b,o,rfl,fun k=>(f k).1,fun k=>(f k).2.2,by rw [I],fun k x hx=>?_⟩⟩
   ·have:=congrArg List.length h; rw [I] at this; exact absurd this h0
   ·obtain ⟨hk,rfl⟩:=List.getElem?_eq_some_iff.1 hx
    rw [I] at hk;obtain ⟨q1,q2,q3⟩:=hf k hk;refine ⟨q1,fun j v hv=>?_,?_⟩
    ·rw [← a1]; exact q2 j v hv
    ·simp only [List.getElem_map,List.getElem_range]; exact q3
theorem OG {P:Program} {t:TypeId} (J:P.underlying t=some (.int .u8)):Opens P t Ue:=by
 intro H enc w spare held fuel cs y h;obtain ⟨n,rfl,_,I⟩:=DataW.trod_int J h;simp only [Lit.wf,IntKind.min,IntKind.max,IntKind.signed,IntKind.bits] at I;simp at I;exact ⟨UInt8.ofNat n.toNat,[],by simp; omega,rfl⟩
section
variable {P:Program}
theorem X6 {t:TypeId} {I J:Field} (ht:P.underlying t=some (.struct #[I,J])) (hC:P.cellsOf t=2) (h0:P.underlying I.type=some .bool) (h1:P.underlying J.type=some .string)
  (c0:P.cellsOf I.type=1) (c1:P.cellsOf J.type=1) (o0:I.offset=0) (o1:J.offset=1):Opens P t kD:=by
 intro H enc w spare held fuel cs y h;obtain ⟨y0,y1,n,rfl,U,t0,t1⟩:=trod_struct2 ht h;rw [hC] at U
 match cs,U with
 | [a,b],_=>
  rw [c0,o0] at t0;rw [c1,o1] at t1;obtain ⟨x0,e0,_⟩:=DataW.trod_bool h0 t0;obtain ⟨x1,e1,_,hs⟩:=DataW.trod_string h1 t1;simp at e0 e1;subst e0 e1;exact ⟨⟨x0,x1⟩,[],rfl,hs,rfl⟩
theorem X7 {t:TypeId} {I J:Field} (ht:P.underlying t=some (.struct #[I,J])) (hC:P.cellsOf t=2) (h0:P.underlying I.type=some .string) (h1:Opens P J.type gI)
  (c0:P.cellsOf I.type=1) (c1:P.cellsOf J.type=1) (o0:I.offset=0) (o1:J.offset=1):Opens P t aK:=by
 intro H enc w spare held fuel cs y h;obtain ⟨y0,y1,n,rfl,U,t0,t1⟩:=trod_struct2 ht h;rw [hC] at U
 match cs,U with
 | [a,b],_=>
  rw [c0,o0] at t0;rw [c1,o1] at t1;obtain ⟨x0,e0,_,hs⟩:=DataW.trod_string h0 t0;obtain ⟨x1,bs,hx⟩:=h1 H enc w spare held n _ _ t1;simp at e0;subst e0;exact ⟨⟨x0,x1⟩,bs,b,rfl,hs,by simpa using hx⟩
theorem X8 {t:TypeId} {J U:Field} (ht:P.underlying t=some (.struct #[J,U])) (hC:P.cellsOf t=3) (h0:P.underlying J.type=some .bool) (h1:Opens P U.type aK)
  (c0:P.cellsOf J.type=1) (c1:P.cellsOf U.type=2) (o0:J.offset=0) (o1:U.offset=1):Opens P t qI:=by
 intro H enc w spare held fuel cs y h;obtain ⟨y0,y1,n,rfl,hl,t0,t1⟩:=trod_struct2 ht h;rw [hC] at hl
 match cs,hl with
 | [a,b,c],_=>
  rw [c0,o0] at t0;rw [c1,o1] at t1;obtain ⟨x0,e0,_⟩:=DataW.trod_bool h0 t0;obtain ⟨x1,bs,s,I,hs,hx⟩:=h1 H enc w spare held n _ _ t1;simp at e0 I;obtain ⟨rfl,rfl⟩:=I;subst e0;exact ⟨⟨x0,x1⟩,bs,c,rfl,hs,hx⟩
theorem X9 {t:TypeId} {f0 f1:Field} (ht:P.underlying t=some (.struct #[f0,f1])) (hC:P.cellsOf t=3) (h0:Opens P f0.type aK) (h1:Opens P f1.type jd)
  (c0:P.cellsOf f0.type=2) (c1:P.cellsOf f1.type=1) (o0:f0.offset=0) (o1:f1.offset=2):Opens P t iD:=by
 intro H enc w spare held fuel cs y h;obtain ⟨y0,y1,n,rfl,hl,t0,t1⟩:=trod_struct2 ht h;rw [hC] at hl
 match cs,hl with
 | [a,b,c],_=>
  rw [c0,o0] at t0;rw [c1,o1] at t1;obtain ⟨x0,I,s,J,hs,a0⟩:=h0 H enc w spare held n _ _ t0;obtain ⟨x1,U,a1⟩:=h1 H enc w spare held n _ _ t1;simp at J;obtain ⟨rfl,rfl⟩:=J;exact ⟨⟨x0,x1⟩,I ++ U,b,c,I,U,rfl,hs,rfl,a0,by simpa using a1⟩
theorem WX {t:TypeId} {U f1:Field} (ht:P.underlying t=some (.struct #[U,f1])) (hC:P.cellsOf t=2) (h0:Opens P U.type ay) (h1:Opens P f1.type ay)
  (c0:P.cellsOf U.type=1) (c1:P.cellsOf f1.type=1) (o0:U.offset=0) (o1:f1.offset=1):Opens P t dY:=by
 intro H enc w spare held fuel cs y h;obtain ⟨y0,y1,n,rfl,hl,t0,t1⟩:=trod_struct2 ht h;rw [hC] at hl
 match cs,hl with
 | [a,b],_=>
  rw [c0,o0] at t0;rw [c1,o1] at t1;obtain ⟨x0,I,a0⟩:=h0 H enc w spare held n _ _ t0;obtain ⟨x1,J,a1⟩:=h1 H enc w spare held n _ _ t1;exact ⟨⟨x0,x1⟩,I ++ J,a,b,I,J,rfl,rfl,by simpa using a0,by simpa using a1⟩
end
end D
namespace D
open Go.RowKit Go.Lib
def pU (c:UInt8):List UInt8→List (List UInt8)
 | []=>[[]]
 | x :: xs=>if x=c then [] :: pU c xs else match pU c xs with
  | []=>[[x]]
  | p :: ps=>(x :: p) :: ps
def toB (l:List UInt8):ByteArray:=⟨l.toArray⟩
theorem OH (s:ByteArray):toB s.data.toList=s:=by obtain ⟨⟨l⟩⟩:=s; rfl
theorem BQ {c:UInt8}:∀ {l:List UInt8},c ∉ l→pU c l = [l]
 | [],_=>rfl
 | x :: xs,h=>by
  have y:x ≠ c:=fun e=>h (e ▸ Γ)
  have ih:=BQ (l:=xs) (fun hm=>h (Δ _ hm));unfold pU;rw [if_neg y,ih]
theorem rP {c:UInt8}:∀ {a:List UInt8} (b:List UInt8),c ∉ a→pU c (a ++ c :: b)=a :: pU c b
 | [],b,_=>by rw [List.nil_append]; conv=>lhs; unfold pU; rw [if_pos rfl]
 | x :: xs,b,h=>by
  have y:x ≠ c:=fun e=>h (e ▸ Γ)
  have ih:=rP (a:=xs) b (fun hm=>h (Δ _ hm));rw [List.cons_append]
  conv=>lhs; unfold pU
  rw [if_neg y,ih]
def joinL (c:UInt8):List (List UInt8)→List UInt8
 | []=>[]
 | [p]=>p
 | p :: q :: r=>p ++ c :: joinL c (q :: r)
theorem BR (c:UInt8):∀ (ps:List (List UInt8)),ps ≠ []→(∀ p ∈ ps,c ∉ p)→pU c (joinL c ps)=ps
 | [],h,_=>absurd rfl h
 | [p],_,hn=>BQ (hn p Γ)
 | p :: q :: r,_,hn=>by
  show pU c (p ++ c :: joinL c (q :: r))=_;rw [rP _ (hn p Γ),BR c (q :: r) (by simp) (fun x y=>hn x (Δ _ y))]
theorem index_one:∀ (l:List UInt8) (c:UInt8),(index l [c] = -1∧c ∉ l)∨∃ a b,l=a ++ c :: b∧c ∉ a∧index l [c]=(a.length:Int)
 | [],c=>by left; simp [index]
 | x :: xs,c=>by
  by_cases y:x=c
  ·right
   subst y;exact ⟨[],xs,rfl,by simp,by simp [index,List.isPrefixOf]⟩
  ·have J:List.isPrefixOf [c] (x :: xs)=false:=by simp [List.isPrefixOf]; exact fun e=>y e.symm
   rcases index_one xs c with ⟨h1,I⟩ | ⟨a,b,h1,I,U⟩
   ·left
    refine ⟨?_,fun hm=>?_⟩
    ·unfold index; rw [J,h1]; rfl
    ·rcases ύ.1 hm with e | hm
     ·exact y e.symm
     ·exact I hm
   ·right
    refine ⟨x :: a,b,by rw [h1]; rfl,fun hm=>?_,?_⟩
    ·rcases ύ.1 hm with e | hm
     ·exact y e.symm
     ·exact I hm
    ·unfold index
     rw [J,U]
     have:((a.length:Int) == -1)=false:=by
      rw [beq_eq_false_iff_ne]; omega
     rw [this];simp
theorem Ya (l:List UInt8) (c:UInt8):(c ∉ l∧cut l [c]=(l,[],false))∨∃ a b,l=a ++ c :: b∧c ∉ a∧cut l [c]=(a,b,true):=by
 rcases index_one l c with ⟨h1,y⟩ | ⟨a,b,h1,y,I⟩
 ·left
  exact ⟨y,by unfold cut; rw [h1]; rfl⟩
 ·right
  refine ⟨a,b,h1,y,?_⟩;unfold cut;rw [I,if_pos (by omega)];have e:((a.length:Int)).toNat=a.length:=by omega
  rw [e,h1];simp
end D
section
open Go.RowKit D
theorem xE (t:T) (w:World):
  Calls Tryz.prog 174 #[.agg #[.bool t.var,.string t.name]] w fun e w'=>
   e=.returned (.iface (if t.var then 241 else 245) (.string t.name))∧Below w.heap.size w w':=by
 obtain ⟨b,nm⟩:=t;cases b
 all_goals
  go_enter Tryz.func174,Tryz.ntmps174
  go_wp2;go_ret;exact ⟨rfl,ζ⟩
theorem yE (s:ByteArray) (w:World):
  Calls Tryz.prog 177 #[.string s] w fun e w'=>e=.returned (.string s)∧w=w':=by
 go_enter Tryz.func177,Tryz.ntmps177
 go_wp2;go_ret;exact ⟨rfl,rfl⟩
theorem uD (s:ByteArray) (w:World):
  Calls Tryz.prog 176 #[.string s] w fun e w'=>e=.returned (.string s)∧w=w':=by
 go_enter Tryz.func176,Tryz.ntmps176
 go_wp2;go_ret;exact ⟨rfl,rfl⟩
theorem KX (s:ByteArray) (w:World):(Instr.typeAssert (.iface 245 (.string s)) 239 245 true).run Tryz.prog w=.ok (.tuple #[.string s,.bool true]) w:=by kernel_rfl
theorem UH (s:ByteArray) (w:World):(Instr.typeAssert (.iface 241 (.string s)) 239 245 true).run Tryz.prog w=.ok (.tuple #[.string ⟨#[]⟩,.bool false]) w:=by kernel_rfl
theorem EG (s:ByteArray) (w:World):(Instr.typeAssert (.iface 241 (.string s)) 239 241 true).run Tryz.prog w=.ok (.tuple #[.string s,.bool true]) w:=by kernel_rfl
theorem OI (t:T) (w:World) (I:t.name.size≤maxLen):
  Calls Tryz.prog 184 #[.agg #[.bool t.var,.string t.name]] w fun e w'=>e=.returned (.bool (jv t))∧Below w.heap.size w w':=by
 unfold jv;have J:=xE t;obtain ⟨b,nm⟩:=t;have U:=yE nm;have hv:=uD nm;have hn:=fun w=>BL nm w I
 have ho:=fun w=>Eo nm w I
 cases b
 all_goals simp only [if_true,if_false,Bool.false_eq_true] at *
 all_goals
  go_enter Tryz.func184,Tryz.ntmps184
  have a1:=KX;have a2:=UH;have a3:=EG
  go_wp2_with (first
   | (go_at_call 174; refine (J _).mono ?_; rintro e w1 ⟨rfl,y⟩)
   | (go_at_call 177; refine (U _).mono ?_; rintro e w2 ⟨rfl,rfl⟩)
   | (go_at_call 176; refine (hv _).mono ?_; rintro e w2 ⟨rfl,rfl⟩)
   | (go_at_call 183; refine (hn _).mono ?_; rintro e w3 ⟨rfl,rfl⟩)
   | (go_at_call 236; refine (ho _).mono ?_; rintro e w3 ⟨rfl,rfl⟩))
  go_ret;exact ⟨rfl,(ζ).trans (y.mono (by simp))⟩
theorem OJ (t:T) (w:World) (hs:t.name.size≤maxLen):
  Calls Tryz.prog 261 #[.agg #[.bool t.var,.string t.name]] w fun e w'=>e=.returned (.bool (jv t))∧Below w.heap.size w w':=by
 unfold jv;obtain ⟨b,s⟩:=t;dsimp only at *;have hn:=fun w=>BK s w hs
 cases b
 ·simp only [if_false,Bool.false_eq_true]
  go_enter Tryz.func261,Tryz.ntmps261
  go_wp2_with (go_at_call 262; refine (hn _).mono ?_; rintro e w3 ⟨rfl,rfl⟩)
  go_ret;exact ⟨rfl,ζ⟩
 ·simp only [if_true]
  have I:=fun w=>BJ (s.extract 1 s.size) w (by simp; omega)
  rw [tail_at] at I;unfold maxLen at hs;by_cases h0:0 < s.size
  ·have hc:tH s=big s[0]:=by unfold tH; rw [J7 s h0]; simp [h0]
   have a3:((s.size:Int) == 0)=false:=beq_eq_false_iff_ne.2 (by omega);have h1:(1:Int)≤(s.size:Int):=by omega
   unfold yj;rw [hc];by_cases hb:big s[0]=true
   ·have hB:=(DY _).1 hb
    rw [hb];clear hb hc;by_cases y:s.size=1
    ·have J:qf s.data.toList.tail=true:=by
      rw [← tail_at,y]; simp [qf]
     have HL:=η J;have U:((s.size:Int) == 1)=true:=beq_iff_eq.2 (by omega);clear J;have HS:=η y;clear y
     go_enter Tryz.func261,Tryz.ntmps261
     go_wp2;go_ret;exact ⟨aH (by rw [HL.out,HS.out]; rfl),ζ⟩
    ·have U:((s.size:Int) == 1)=false:=beq_eq_false_iff_ne.2 (by omega)
     have a0:(s.extract 1 s.size).size=s.size - 1:=by simp
     have a1:(s.size - 1≤8∧s.size≤8)∨(s.size - 1=8∧¬ s.size≤8)∨¬ s.size - 1≤8:=by omega
     rw [a0] at I;have hp:decide (1≤s.size - 1)=true:=decide_eq_true (by omega);rw [hp] at I;clear hp a0;generalize qf s.data.toList.tail=b at *;by_cases h8:s.size≤8
     ·have h9:decide (s.size - 1≤8)=true:=decide_eq_true (by omega)
      rw [h9] at I;clear h9 a1;have a4:=decide_eq_true h8;cases b
      all_goals
       go_enter Tryz.func261,Tryz.ntmps261
       go_wp2_with (go_at_call 284; refine (I _).mono ?_; rintro e w3 ⟨rfl,rfl⟩)
       go_ret;exact ⟨aH (by first | (simp [h8]; done) | (simp; omega)),ζ⟩
     ·have a4:decide (s.size≤8)=false:=decide_eq_false h8
      clear a1;generalize decide (s.size - 1≤8)=b2 at *;cases b
      all_goals cases b2
      all_goals
       go_enter Tryz.func261,Tryz.ntmps261
       go_wp2_with (go_at_call 284; refine (I _).mono ?_; rintro e w3 ⟨rfl,rfl⟩)
       go_ret;exact ⟨aH (by first | (simp [h8]; done) | (simp; omega)),ζ⟩
   ·have hB:=mt (DY _).2 hb
    have a2:big s[0]=false:=by simpa using hb
    rw [a2];clear hb a2 hc
    go_enter Tryz.func261,Tryz.ntmps261
    go_wp2
    all_goals first
     | (exfalso; omega)
     | (go_ret; exact ⟨aH (by simp),ζ⟩)
  ·have hc:yj s=false:=by unfold yj tH; simp [h0]
   have a3:((s.size:Int) == 0)=true:=beq_iff_eq.2 (by omega);rw [hc]
   go_enter Tryz.func261,Tryz.ntmps261
   go_wp2;go_ret;exact ⟨rfl,ζ⟩
theorem rQ (a:A) (c0 c1:Value) (bs:List Nat) (w:World) (h:aK w [c0,c1] a bs) (hn:Ko a≤16777216):
  Calls Tryz.prog 61 #[.agg #[c0,c1]] w fun e w'=>e=.returned (.string ⟨(yA a).toArray⟩)∧Below w.heap.size w w':=by
 obtain ⟨s,a1,a4,ht⟩:=h;simp only [List.cons.injEq,and_true] at a1;obtain ⟨rfl,rfl⟩:=a1;obtain ⟨Ad,cap,rfl,hl,hm⟩:=aj ht;have a9:=aB (τ hl hm);clear hm;have aa:a.name.size+a.args.length+jX a.args≤16777216:=hn;have ab:a.name.size≤16777216:=by omega
 go_enter Tryz.func61,Tryz.ntmps61
 go_wp2_with fail
 refine (XY (w.heap.size+1) (w.heap.size+1) [] a.name _ (by simpa using WW (w.alloc (.cells #[.string a.name,.slice Ad a.args.length cap] 33))) (by simp) (by omega) (by simp)).mono ?_;rintro e w1 ⟨rfl,h1⟩;have b1:=h1.below;have a5:=b1.size;simp at a5
 go_wp2_with fail
 refine (Ux (w.heap.size+1) (w.heap.size+1) _ 40 40 rfl _ h1.bld (by rw [List.nil_append,YP]; omega) (by omega)).mono ?_;rintro e w2 ⟨rfl,h2⟩;have b2:=b1.trans h2.below;have ac:=h2.below.size;have d1:w2.cell? ⟨w.heap.size,1,none⟩=some (.slice Ad a.args.length cap):=(b2.cell (p:=⟨w.heap.size,1,none⟩) (by simp)).trans (by go_simp);have B2:Below w.heap.size w w2:=((Below.refl w.heap.size w).alloc ν _).trans ((((Below.refl w.heap.size _).alloc (by simp) _).trans (b2.mono (by omega))));have X2:=η h2.bld;clear h1 h2 b1 b2
 go_wp2_with fail
 go_loopw [13] (fun i wr=>∃ k:Nat,k≤a.args.length∧i=.int .i64 k∧Wx (w.heap.size+1) (w.heap.size+1) (a.name.data.toList ++ [40] ++ lY (a.args.take k)) wr∧Below w.heap.size w wr∧w.heap.size+2≤wr.heap.size) (fun i _=>a.args.length - (intOf i).toNat)
 case atStart=>exact ⟨0,ε,rfl,by simpa [lY] using X2.out,B2,by omega⟩
 case round=>
  obtain ⟨k,hk,rfl,hb,hB,ae⟩:=hrel
  have hlen:(a.name.data.toList ++ [40] ++ lY (a.args.take k)).length≤67108864:=by
   have h2:=Us (a.args.take k);have y:=BO a.args k;have h4:a.name.data.toList.length=a.name.size:=Array.length_toList;simp only [χ,List.length_cons,List.length_nil,List.length_take] at h2 ⊢;omega
  have HB:=η hb;clear hb;by_cases a0:k < a.args.length
  ·obtain ⟨b,o,rfl,_,c0,c1,a4⟩:=fP (aT.below ht hB) a0
   have h2:a.args[k].name.size≤16777216:=by
    have:=Kq a.args k a0;have:=BO a.args (k+1);omega
   have HT:=η (Oz a.args k a0);clear ht;generalize a.args[k]=t at *;by_cases a2:k=0
   ·have HK:=η a2
    have a6:¬ (0:Int) < (k:Int):=by omega
    clear a2
    go_wp2_with fail
    have I:Below wr.heap.size wr (wr.alloc (.cells #[.bool t.var,.string t.name] 91)):=ζ;refine (XY (w.heap.size+1) (w.heap.size+1) _ t.name _ (HB.out.below I) (by omega) (by omega) (by have:=I.size; omega)).mono ?_;rintro e w3 ⟨rfl,y⟩;have B3:Below w.heap.size w w3:=(hB.trans (I.mono hB.size)).trans (y.below.mono (by omega));have S3:w.heap.size+2≤w3.heap.size:=by have:=y.below.size; have:=I.size; omega
    have H3:=η y.bld;clear y I;go_wp2;go_roundw
    case rel=>exact ⟨k+1,by omega,by go_num,by have:=H3.out; rw [HT.out,HK.out] at *; simpa [lY] using this,B3,S3⟩
    case measure=>simp [intOf]; omega
   ·have a6:(0:Int) < (k:Int):=by omega
    go_wp2_with fail
    have I:Below wr.heap.size wr (wr.alloc (.cells #[.bool t.var,.string t.name] 91)):=ζ;refine (Ux (w.heap.size+1) (w.heap.size+1) _ 44 44 rfl _ (HB.out.below I) (by omega) (by have:=I.size; omega)).mono ?_;rintro e U ⟨rfl,J⟩;have a3:=J.block (ω wr (.cells #[.bool t.var,.string t.name] 91)) (by omega) (by decide);have x1:U.cell? ⟨wr.heap.size,1,none⟩=some (.string t.name):=by rw [cell_of_row U _ 1 _ _ _ a3]; rfl
    have a7:Below w.heap.size w U:=(hB.trans (I.mono hB.size)).trans (J.below.mono (by omega));have af:w.heap.size+2≤U.heap.size:=by have:=J.below.size; have:=I.size; omega
    have a8:=η J.bld;clear J I a3
    go_wp2_with fail
    refine (XY (w.heap.size+1) (w.heap.size+1) _ t.name _ a8.out (by rw [χ,List.length_singleton]; omega) (by omega) (by omega)).mono ?_;rintro e w3 ⟨rfl,y⟩;have B3:Below w.heap.size w w3:=a7.trans (y.below.mono (by omega));have S3:w.heap.size+2≤w3.heap.size:=by have:=y.below.size; omega
    have H3:=η y.bld;clear y x1;go_wp2;go_roundw
    case rel=>exact ⟨k+1,by omega,by go_num,by have:=H3.out; rw [HT.out,if_neg (by omega)]; simpa using this,B3,S3⟩
    case measure=>simp [intOf]; omega
  ·have he:=η (show k=a.args.length by omega)
   go_wp2_with fail
   refine (Ux (w.heap.size+1) (w.heap.size+1) _ 41 41 rfl _ HB.out (by omega) (by omega)).mono ?_;rintro e w3 ⟨rfl,y⟩
   go_wp2_with fail
   refine (YQ (w.heap.size+1) (w.heap.size+1) _ _ y.bld (by have:=y.below.size; omega)).mono ?_;rintro e w4 ⟨rfl,h4⟩;go_wp2;go_ret;exact ⟨WI (by rw [he.out,ϕ ν]; simp [yA]),(hB.trans (y.below.mono (by omega))).trans (h4.below.mono (by omega))⟩
theorem Jj (a:A) (c0 c1:Value) (bs:List Nat) (w:World) (h:aK w [c0,c1] a bs) (hn:a.args.length≤16777216):
  Calls Tryz.prog 104 #[.agg #[c0,c1]] w (Uf aK a w.heap.size w):=by
 have ht:=dQ h;have a4:a.name.size≤maxLen:=by obtain ⟨_,_,hn,_⟩:=h; exact hn
 obtain ⟨Ad,cap,rfl,rfl⟩:=bY h;obtain ⟨i0,hi,a5,a6,a7⟩:=info_parts Hf;by_cases h0:a.args.length=0
 ·have hl:((a.args.length:Int) == 0)=true:=beq_iff_eq.2 (by omega)
  have hx:a.args = []:=List.length_eq_zero_iff.1 h0;have HX:=η hx;clear h ht h0 hx hi a5 a6 a7
  go_enter Tryz.func104,Tryz.ntmps104
  go_wp2;refine bodyPost_ret (v:=.agg #[.string a.name,.slice none 0 0]) (by simp [results,Tryz.results104,go_sem]) rfl ⟨?_,_,[],rfl,⟨_,rfl,a4,by rw [HX.out]; exact Ep _⟩,New.nil _ _⟩
  repeat (first | exact ϑ | (refine Below.setCell ?_ (by first | (simp; done) | (simp; omega)) _) | (refine Below.alloc ?_ (by first | (simp; done) | (simp; omega)) _))
 ·have hl:((a.args.length:Int) == 0)=false:=beq_eq_false_iff_ne.2 (by omega)
  obtain ⟨L,b2,I,_,U⟩:=rF lG (by omega) ht;obtain ⟨b,o,rfl,ac,J⟩:=U (by intro e; rw [e] at h0; exact h0 rfl);have a8:=aT.lt ht b ac;have a9:=I.len;have a0:=I.one;have HR:=η I;have HL:=η a9;have HC:=η J;have HO:=η a0;clear h ht h0 I a9 a0 J U
  go_enter Tryz.func104,Tryz.ntmps104
  go_wp2_with (first
   | (at_make; refine wpList_make_full _ rfl _ _ _ rfl (w.heap.size+2) 91 i0 _ 2 Tryz.underlying31 hi a5 a6 _ _ _ _ a.args.length rfl rfl rfl rfl (by rw [a7]; omega) (by unfold maxLen; omega) (by simp) ?_; intro w1 a1 a2; have hW:=ϑ.grown a2 ν (fun _ e=>by cases e); have x0:w1.cell? ⟨w.heap.size,0,none⟩=some (.string a.name):=ξ hW (by go_simp); have x1:w1.cell? ⟨w.heap.size,1,none⟩=some (.slice (some ⟨b,o,none⟩) a.args.length cap):=ξ hW (by go_simp); have r0:w1.cell? ⟨w.heap.size+1,0,none⟩=some (.string ⟨#[]⟩):=ξ hW (by go_simp); have r1:w1.cell? ⟨w.heap.size+1,1,none⟩=some (.slice none 0 0):=ξ hW (by go_simp); have f0:w1.frozen? ⟨w.heap.size+1,0,none⟩=false:=(hW.frozen (p:=⟨w.heap.size+1,0,none⟩) (by simp)).trans (by go_simp); have f1:w1.frozen? ⟨w.heap.size+1,1,none⟩=false:=(hW.frozen (p:=⟨w.heap.size+1,1,none⟩) (by simp)).trans (by go_simp); have B1:Below w.heap.size w w1:=((ζ).alloc (by simp) _).trans (hW.mono (by simp; omega)); simp only [World.size_alloc] at a1)
   | ((with_reducible refine Gj rfl (.tmp 15) (.tmp 17) _ _ rfl (w.heap.size+2) 91 2 a.args.length a.args.length Tryz.underlying31 Un _ _ a1 ⟨b,o,none⟩ cap L HL.out ?_ HO.out ?_ ?_ ?_); exact (fun j v hj=>by rw [addr_add]; exact (B1.cell (p:=⟨b,o+j,none⟩) a8).trans (HC.out j v hj)); rfl; rfl; intro w2 a3 y; have y0:=y.cell x0 (by simp; omega); have s0:=y.cell r0 (by simp); have s1:=y.cell r1 (by simp); have g0:=(y.frozen_far ⟨w.heap.size+1,0,none⟩ (lt_of_cell r0) (by simp)).trans f0; have g1:=(y.frozen_far ⟨w.heap.size+1,1,none⟩ (lt_of_cell r1) (by simp)).trans f1))
  obtain ⟨b3,ae,aa⟩:=Hg HR.out a3;have ab:∀ c ∈ b3,c ≠ w.heap.size+1:=fun c hc e=>by have:=(aa.own c hc).1; omega
  have B2:Below w.heap.size w w2:=B1.grown y B1.size (fun k e=>by cases e; omega);refine bodyPost_ret (v:=.agg #[.string a.name,.slice (some ⟨w.heap.size+1+1,0,none⟩) a.args.length a.args.length]) (by simp [results,Tryz.results104,go_sem,s0,s1]) rfl ⟨(B2.setCell (by simp) _).setCell (by simp) _,_,b3,rfl,⟨_,rfl,a4,aT.keep ae fun c hc=>?_⟩,(aa.mono (by omega)).keep fun c hc=>?_⟩
  all_goals rw [π _ _ _ _ (ab c hc),π _ _ _ _ (ab c hc)]
def D.Ri (w:World) (y:Nat):Prop:=∀ o u,w.cell? ⟨y,o,none⟩=some u→(∀ s,u ≠ .string s)∧∀ b,u ≠ .bool b
theorem kP.Gm {g p:Nat} {w:World} (h:kP g p w):Ri w g:=by
 obtain ⟨J,n,cap,I,_,_⟩:=h;intro o u y;rw [ai I] at y
 match o with
 | 0=>simp at y; subst y; exact ⟨fun s=>by simp,fun b=>by simp⟩
 | 1=>simp at y; subst y; exact ⟨fun s=>by simp,fun b=>by simp⟩
 | o+2=>simp at y
theorem D.rU {w:World} {n0:Nat} (ha:Ri w n0) {v:Value} {U:List T} {bs:List Nat} (h:gI w [v] U bs):n0 ∉ bs:=by
 intro hb;obtain ⟨Ad,cap,a4,hl,hm,g0,g1⟩:=h;by_cases I:U = []
 ·rw [g0 I] at hb; simp at hb
 ·obtain ⟨b,o,rfl,F,G,rfl,hF⟩:=g1 I
  rcases ύ.1 hb with rfl | hb
  ·match U,I with
   | y :: r,_=>
    obtain ⟨a1,a2,a3⟩:=hF 0 y rfl;obtain ⟨e,_,_⟩:=a3;have:=a2 0 (.bool y.var) (by rw [e]; rfl);exact (ha _ _ this).2 _ rfl
  ·obtain ⟨k,hk,J⟩:=List.mem_flatMap.1 hb
   have a0:=List.mem_range.1 hk;obtain ⟨a1,a2,a3⟩:=hF k U[k] (Ψ a0);obtain ⟨_,_,e⟩:=a3;rw [e] at J; simp at J
theorem D.Jk {w:World} {y:Nat} (ha:Ri w y) {L:List Value} {xs:List Pt} {bs:List Nat} (h:aW 3 qI w L xs bs):y ∉ bs:=by
 obtain ⟨h1,h2,G,rfl,I⟩:=h;intro hb;obtain ⟨j,J,hc⟩:=List.mem_flatMap.1 hb;obtain ⟨s,_,_,U⟩:=I j (List.mem_range.1 J);exact rU ha U hc
end
end Go.Proofs.YtkjinanbccloeaaGreatDoor
