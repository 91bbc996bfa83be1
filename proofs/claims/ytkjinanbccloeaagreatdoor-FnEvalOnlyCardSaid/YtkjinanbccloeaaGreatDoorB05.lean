/- Of the proof of FnEvalOnly: VarP, LevP, BindP. -/
import Derived.Test.YtkjinanbccloeaaGreatDoorB02
set_option linter.unusedVariables false
namespace Go.Proofs.YtkjinanbccloeaaGreatDoor.D
open Go.RowKit
def jR:List ByteArray→ByteArray→List ByteArray
 | [],s=>[s]
 | x :: xs,s=>if fA x s < 0 then x :: jR xs s else if fA x s=0 then x :: xs else s :: x :: xs
def lJ:List ByteArray→ByteArray→Nat
 | [],_=>0
 | x :: xs,s=>if fA x s < 0 then lJ xs s+1 else 0
def qL (xs:List ByteArray):Prop:=xs.Pairwise fun a b=>fA a b < 0
theorem Sj:∀ (xs:List ByteArray) (s:ByteArray),lJ xs s≤xs.length
 | [],_=>ν
 | x :: xs,s=>by
  unfold lJ; have:=Sj xs s
  split
  ·simpa using this
  ·simp
theorem Sl:∀ (xs:List ByteArray) (s:ByteArray) (k:Nat) (h:k < xs.length),k < lJ xs s→fA xs[k] s < 0
 | x :: xs,s,0,_,hk=>by
  unfold lJ at hk
  split at hk
  ·assumption
  ·omega
 | x :: xs,s,k+1,h,hk=>by
  unfold lJ at hk
  split at hk
  ·exact Sl xs s k (by simpa using h) (by omega)
  ·omega
theorem MJ:∀ (xs:List ByteArray) (s:ByteArray) (h:lJ xs s < xs.length),¬ fA xs[lJ xs s] s < 0
 | x :: xs,s,h=>by
  by_cases hc:fA x s < 0
  ·have e:lJ (x :: xs) s=lJ xs s+1:=by rw [lJ,if_pos hc]
   have y:lJ xs s < xs.length:=by rw [e] at h; simpa using h
   have:=MJ xs s y;simp only [e,List.getElem_cons_succ];exact this
  ·have e:lJ (x :: xs) s=0:=by rw [lJ,if_neg hc]
   simp only [e,List.getElem_cons_zero];exact hc
theorem Jb:∀ (xs:List ByteArray) (s:ByteArray) (h:lJ xs s < xs.length),fA xs[lJ xs s] s=0→jR xs s=xs
 | x :: xs,s,h,h0=>by
  unfold jR;by_cases hc:fA x s < 0
  ·have e:lJ (x :: xs) s=lJ xs s+1:=by rw [lJ,if_pos hc]
   have y:lJ xs s < xs.length:=by rw [e] at h; simpa using h
   simp only [e,List.getElem_cons_succ] at h0;rw [if_pos hc,Jb xs s y h0]
  ·have e:lJ (x :: xs) s=0:=by rw [lJ,if_neg hc]
   simp only [e,List.getElem_cons_zero] at h0;rw [if_neg hc,if_pos h0]
theorem BR:∀ (xs:List ByteArray) (s:ByteArray),(∀ h:lJ xs s < xs.length,fA xs[lJ xs s] s ≠ 0)→jR xs s=xs.take (lJ xs s) ++ [s] ++ xs.drop (lJ xs s)
 | [],s,_=>by simp [jR,lJ]
 | x :: xs,s,h=>by
  unfold jR;by_cases hc:fA x s < 0
  ·have e:lJ (x :: xs) s=lJ xs s+1:=by rw [lJ,if_pos hc]
   have ih:=BR xs s (fun y=>by
    have:=h (by rw [e]; simpa using y);simp only [e,List.getElem_cons_succ] at this
    exact this)
   rw [if_pos hc,ih,e]; simp
  ·have e:lJ (x :: xs) s=0:=by rw [lJ,if_neg hc]
   have:=h (by rw [e]; simp);simp only [e,List.getElem_cons_zero] at this;rw [if_neg hc,if_neg this,e]; simp
theorem BU:∀ (xs:List ByteArray) (s x:ByteArray),x ∈ jR xs s ↔ x ∈ xs∨x=s
 | [],s,x=>by simp [jR]
 | y :: xs,s,x=>by
  unfold jR
  split
  ·rw [List.mem_cons,BU xs s x,List.mem_cons,or_assoc]
  ·split
   ·rename_i h
    have:=(eX.eq _ _).1 h;subst this;simp only [List.mem_cons];constructor
    ·exact .inl
    ·rintro (h | h)
     ·exact h
     ·exact .inl h
   ·simp only [List.mem_cons]
    constructor
    ·rintro (h | h | h)
     ·exact .inr h
     ·exact .inl (.inl h)
     ·exact .inl (.inr h)
    ·rintro ((h | h) | h)
     ·exact .inr (.inl h)
     ·exact .inr (.inr h)
     ·exact .inl h
theorem Jc:∀ {xs:List ByteArray} (s:ByteArray),qL xs→qL (jR xs s)
 | [],s,_=>by unfold jR qL; exact List.pairwise_singleton _ _
 | x :: xs,s,h=>by
  unfold jR;have J:=List.pairwise_cons.1 h
  split
  ·rename_i hc
   exact List.pairwise_cons.2 ⟨fun y I=>((BU xs s y).1 I).elim (J.1 y) (fun e=>e ▸ hc),Jc s J.2⟩
  ·rename_i hc
   split
   ·exact h
   ·rename_i hn
    have U:fA s x < 0:=by have:=eX.anti x s; omega
    refine List.pairwise_cons.2 ⟨fun y I=>?_,h⟩
    rcases List.mem_cons.1 I with rfl | I
    ·exact U
    ·exact eX.lC U (by have:=J.1 y I; omega)
theorem Sr (xs:List ByteArray) (s:ByteArray):(jR xs s).length≤xs.length+1:=by
 induction xs with
 | nil=>simp [jR]
 | cons x xs ih=>
  unfold jR
  split
  ·simp; exact ih
  ·split <;> simp
theorem uF {xs:List ByteArray} (h:qL xs):xs.Nodup:=h.imp fun {a b} y e=>by subst e; have:=eX.refl a; omega
theorem qM:qL []:=List.Pairwise.nil
def kD (a:A) (out:List ByteArray):List ByteArray:=a.args.foldl (fun o t=>if t.var then jR o t.name else o) out
def dU (ps:List Pt) (out:List ByteArray):List ByteArray:=ps.foldl (fun o p=>kD p.atom o) out
def dZ (h:A) (ps:List Pt):Bool:=decide ((dU ps (kD h [])).length=(dU (ps.filter fun p=>!p.no) []).length)
def aB (ps:List Pt):List ByteArray:=dU ps []
def jP (x:ByteArray) (y:List T):Prop:=∃ t ∈ y,t.var=true∧t.name=x
theorem BV:∀ (I:List T) (out:List ByteArray) (x:ByteArray),x ∈ I.foldl (fun o t=>if t.var then jR o t.name else o) out ↔ x ∈ out∨jP x I
 | [],out,x=>by simp [jP]
 | t :: I,out,x=>by
  rw [List.foldl_cons,BV I];unfold jP;cases hv:t.var
  ·rw [if_neg (by simp)]
   constructor
   ·rintro (h | ⟨u,h1,y⟩)
    ·exact .inl h
    ·exact .inr ⟨u,Δ _ h1,y⟩
   ·rintro (h | ⟨u,h1,y⟩)
    ·exact .inl h
    ·rcases List.mem_cons.1 h1 with rfl | h1
     ·rw [hv] at y; simp at y
     ·exact .inr ⟨u,h1,y⟩
  ·rw [if_pos rfl,BU]
   constructor
   ·rintro ((h | h) | ⟨u,h1,y⟩)
    ·exact .inl h
    ·exact .inr ⟨t,Γ,hv,h.symm⟩
    ·exact .inr ⟨u,Δ _ h1,y⟩
   ·rintro (h | ⟨u,h1,y⟩)
    ·exact .inl (.inl h)
    ·rcases List.mem_cons.1 h1 with rfl | h1
     ·exact .inl (.inr y.2.symm)
     ·exact .inr ⟨u,h1,y⟩
theorem xQ (a:A) (out:List ByteArray) (x:ByteArray):x ∈ kD a out ↔ x ∈ out∨jP x a.args:=BV _ _ _
theorem BX:∀ (y:List T) {out:List ByteArray},qL out→qL (y.foldl (fun o t=>if t.var then jR o t.name else o) out)
 | [],_,h=>h
 | t :: y,out,h=>by
  rw [List.foldl_cons];refine BX y ?_
  split
  ·exact Jc _ h
  ·exact h
theorem E8 (a:A) {out:List ByteArray} (h:qL out):qL (kD a out):=BX _ h
theorem uG:∀ (y:List T) (out:List ByteArray),(y.foldl (fun o t=>if t.var then jR o t.name else o) out).length≤out.length+y.length
 | [],out=>by simp
 | t :: y,out=>by
  rw [List.foldl_cons];have h1:=uG y (if t.var then jR out t.name else out)
  have I:(if t.var then jR out t.name else out).length≤out.length+1:=by
   split
   ·exact Sr _ _
   ·omega
  simp only [List.length_cons];omega
theorem Fa (a:A) (out:List ByteArray):(kD a out).length≤out.length+a.args.length:=uG _ _
theorem gq:∀ (ps:List Pt) (out:List ByteArray) (x:ByteArray),x ∈ dU ps out ↔ x ∈ out∨∃ p ∈ ps,jP x p.atom.args
 | [],out,x=>by simp [dU]
 | p :: ps,out,x=>by
  have e:dU (p :: ps) out=dU ps (kD p.atom out):=rfl;rw [e,gq ps,xQ];constructor
  ·rintro ((h | h) | ⟨q,h1,y⟩)
   ·exact .inl h
   ·exact .inr ⟨p,Γ,h⟩
   ·exact .inr ⟨q,Δ _ h1,y⟩
  ·rintro (h | ⟨q,h1,y⟩)
   ·exact .inl (.inl h)
   ·rcases List.mem_cons.1 h1 with rfl | h1
    ·exact .inl (.inr y)
    ·exact .inr ⟨q,h1,y⟩
theorem kZ:∀ (ps:List Pt) {out:List ByteArray},qL out→qL (dU ps out)
 | [],_,h=>h
 | p :: ps,out,h=>by
  have e:dU (p :: ps) out=dU ps (kD p.atom out):=rfl;rw [e]; exact kZ ps (E8 _ h)
theorem ny:∀ (ps:List Pt) (out:List ByteArray),(dU ps out).length≤out.length+iq (fun p=>p.atom.args.length) ps
 | [],out=>by simp [dU]
 | p :: ps,out=>by
  have e:dU (p :: ps) out=dU ps (kD p.atom out):=rfl;have h1:=ny ps (kD p.atom out);have I:=Fa p.atom out;have y:iq (fun p:Pt=>p.atom.args.length) (p :: ps)=p.atom.args.length+iq (fun p=>p.atom.args.length) ps:=by simp [iq]
  rw [e,y];omega
theorem Jd (ps:List Pt) (k:Nat) (h:k < ps.length) (out:List ByteArray):dU (ps.take (k+1)) out=kD ps[k].atom (dU (ps.take k) out):=by
 unfold dU; rw [ρ h,List.foldl_append]; rfl
theorem MK (a:A) (k:Nat) (h:k < a.args.length) (out:List ByteArray):
  (a.args.take (k+1)).foldl (fun o t=>if t.var then jR o t.name else o) out=(if a.args[k].var then jR ((a.args.take k).foldl (fun o t=>if t.var then jR o t.name else o) out) a.args[k].name else (a.args.take k).foldl (fun o t=>if t.var then jR o t.name else o) out):=by
 rw [ρ h,List.foldl_append]; rfl
theorem Je (ps:List Pt) (k:Nat) (h:k < ps.length):(ps.take (k+1)).filter (fun p=>!p.no)=(ps.take k).filter (fun p=>!p.no) ++ (if ps[k].no then [] else [ps[k]]):=by
 rw [ρ h,List.filter_append]
 congr 1
 cases hn:ps[k].no <;> simp [hn]
theorem Ot:∀ {xs ys:List ByteArray},xs.Nodup→(∀ x ∈ xs,x ∈ ys)→ys.length≤xs.length→∀ y ∈ ys,y ∈ xs
 | [],ys,_,_,hl,y,hy=>by
  have:ys = []:=List.length_eq_zero_iff.1 (by simpa using hl);subst this; simp at hy
 | x :: xs,ys,hn,hs,hl,y,hy=>by
  have hx:=hs x Γ;obtain ⟨l,r,rfl⟩:=List.append_of_mem hx;have I:=List.nodup_cons.1 hn
  have ih:=Ot (xs:=xs) (ys:=l ++ r) I.2 (fun z U=>by
   have:=hs z (Δ _ U);have J:z ≠ x:=fun e=>I.1 (e ▸ U)
   rcases μ.1 this with h | h
   ·exact μ.2 (.inl h)
   ·rcases List.mem_cons.1 h with h | h
    ·exact absurd h J
    ·exact μ.2 (.inr h)) (by simp at hl ⊢; omega)
  by_cases e:y=x
  ·exact e ▸ Γ
  ·refine Δ _ (ih y ?_)
   rcases μ.1 hy with h | h
   ·exact μ.2 (.inl h)
   ·rcases List.mem_cons.1 h with h | h
    ·exact absurd h e
    ·exact μ.2 (.inr h)
theorem uH:∀ {xs ys:List ByteArray},xs.Nodup→(∀ x ∈ xs,x ∈ ys)→xs.length≤ys.length
 | [],ys,_,_=>ε
 | x :: xs,ys,hn,hs=>by
  have U:=hs x Γ;obtain ⟨l,r,rfl⟩:=List.append_of_mem U;have y:=List.nodup_cons.1 hn
  have ih:=uH (xs:=xs) (ys:=l ++ r) y.2 (fun z J=>by
   have:=hs z (Δ _ J);have I:z ≠ x:=fun e=>y.1 (e ▸ J)
   rcases μ.1 this with h | h
   ·exact μ.2 (.inl h)
   ·rcases List.mem_cons.1 h with h | h
    ·exact absurd h I
    ·exact μ.2 (.inr h))
  simp at ih ⊢; omega
def iw (ps:List Pt) (x:ByteArray):Bool:=ps.any fun p=>!p.no && p.atom.args.any fun t=>t.var && decide (fA t.name x=0)
def fF (ps:List Pt) (a:A):Bool:=a.args.all fun t=>!t.var || iw ps t.name
def qN (ps:List Pt):Bool:=!ps.all fun p=>fF ps p.atom
theorem nC (ps:List Pt) (x:ByteArray):iw ps x=true ↔ x ∈ dU (ps.filter fun p=>!p.no) []:=by
 rw [gq];unfold iw jP;simp only [List.any_eq_true,ο,Bool.not_eq_true',decide_eq_true_eq,eX.eq,List.mem_filter,List.not_mem_nil,false_or];constructor
 ·rintro ⟨p,h1,y,t,I,J,U⟩
  exact ⟨p,⟨h1,y⟩,t,I,J,U⟩
 ·rintro ⟨p,⟨h1,y⟩,t,I,J,U⟩
  exact ⟨p,h1,y,t,I,J,U⟩
theorem pK (ps:List Pt) (a:A):fF ps a=true ↔ ∀ x,jP x a.args→iw ps x=true:=by
 unfold fF jP;rw [List.all_eq_true];constructor
 ·rintro h x ⟨t,h1,y,rfl⟩
  have:=h t h1;rw [y] at this;simpa using this
 ·intro h t I
  cases hv:t.var
  ·rfl
  ·rw [h t.name ⟨t,I,hv,rfl⟩]; rfl
theorem Fg (h:A) (ps:List Pt):dZ h ps=true ↔ (∀ x,jP x h.args→iw ps x=true)∧qN ps=false:=by
 unfold dZ qN;rw [decide_eq_true_iff];have U:=uF (kZ (ps.filter fun p=>!p.no) qM);have a0:=uF (kZ ps (E8 h qM))
 have I:∀ x ∈ dU (ps.filter fun p=>!p.no) [],x ∈ dU ps (kD h []):=fun x y=>by
  rw [gq] at y ⊢
  rcases y with y | ⟨p,hp,y⟩
  ·simp at y
  ·exact .inr ⟨p,(List.mem_filter.1 hp).1,y⟩
 simp only [Bool.not_eq_false',List.all_eq_true,pK];constructor
 ·intro hl
  have J:=Ot U I (Nat.le_of_eq hl);refine ⟨fun x y=>(nC ps x).2 (J x ((gq ..).2 (.inl ((xQ ..).2 (.inr y))))),fun p hp x y=>(nC ps x).2 (J x ((gq ..).2 (.inr ⟨p,hp,y⟩)))⟩
 ·rintro ⟨h1,h2⟩
  refine Nat.le_antisymm (uH a0 fun x y=>?_) (uH U I)
  rcases (gq ..).1 y with y | ⟨p,hp,y⟩
  ·rcases (xQ ..).1 y with y | y
   ·simp at y
   ·exact (nC ps x).1 (h1 x y)
  ·exact (nC ps x).1 (h2 p hp x y)
theorem mW {α:Type} [DecidableEq α]:∀ {I l2:List α},I.Nodup→(∀ x ∈ I,x ∈ l2)→I.length≤l2.length
 | [],_,_,_=>ε
 | x :: r,l2,h,hs=>by
  obtain ⟨h1,h2⟩:=List.nodup_cons.1 h;have U:=hs x Γ
  have:=mW (l2:=l2.erase x) h2 fun y hy=>by
   have J:y ≠ x:=by rintro rfl; exact h1 hy
   exact (List.mem_erase_of_ne J).2 (hs y (Δ _ hy))
  have hl:=List.length_erase_of_mem U;have hp:=List.length_pos_of_mem U;simp only [List.length_cons];omega
theorem Wx {l:List Nat} {N x:Nat} (hl:l.length≤N) (hx:x ∈ l) (hN:N≤x):∃ g,g < N∧g ∉ l:=by
 refine Classical.byContradiction fun h=>?_
 have I:∀ g,g < N→g ∈ l:=fun g hg=>Classical.byContradiction fun hn=>h ⟨g,hg,hn⟩
 have J:(x :: List.range N).Nodup:=List.nodup_cons.2 ⟨fun hm=>by have:=List.mem_range.1 hm; omega,List.nodup_range⟩
 have:=mW J (l2:=l) fun y U=>by
  rcases List.mem_cons.1 U with rfl | U
  ·exact hx
  ·exact I y (List.mem_range.1 U)
 simp at this;omega
theorem GU {α:Type} {f g:α→Nat}:∀ {l:List α},(∀ x ∈ l,f x≤g x)→(l.map f).sum≤(l.map g).sum
 | [],_=>ν
 | x :: r,h=>by
  have h1:=h x Γ;have J:=GU (l:=r) fun y I=>h y (Δ _ I)
  simp only [List.map_cons,List.sum_cons];omega
theorem sum_lt {α:Type} {f g:α→Nat}:∀ {l:List α},(∀ x ∈ l,f x≤g x)→(∃ x ∈ l,f x < g x)→(l.map f).sum < (l.map g).sum
 | [],_,⟨x,I,_⟩=>by simp at I
 | y :: r,h,⟨x,I,hlt⟩=>by
  have h1:=h y Γ;simp only [List.map_cons,List.sum_cons]
  rcases List.mem_cons.1 I with rfl | I
  ·have U:=GU (l:=r) fun z J=>h z (Δ _ J)
   omega
  ·have U:=sum_lt (l:=r) (fun z J=>h z (Δ _ J)) ⟨x,I,hlt⟩
   omega
theorem bytes_beq (a b:ByteArray):(a == b)=(a.data == b.data):=rfl
instance Xp:LawfulBEq ByteArray where
 eq_of_beq {a b} h:=by rw [bytes_beq] at h; cases a; cases b; exact congrArg _ (eq_of_beq h)
 rfl {a}:=by rw [bytes_beq]; exact beq_self_eq_true _
def bH (rs:List Ru):List ByteArray:=rs.map fun r=>r.head.name
def fO (acc:List ByteArray) (n:ByteArray):List ByteArray:=if n ∈ acc then acc else acc ++ [n]
def aK (rs:List Ru):List ByteArray:=(bH rs).foldl fO []
theorem iR {acc:List ByteArray} {n x:ByteArray}:x ∈ fO acc n ↔ x ∈ acc∨x=n:=by
 unfold fO
 split
 ·rename_i h
  exact ⟨.inl,fun y=>y.elim id (fun e=>e ▸ h)⟩
 ·simp
theorem nX:∀ (y acc:List ByteArray),acc.Nodup→(y.foldl fO acc).Nodup∧(∀ x,x ∈ y.foldl fO acc ↔ x ∈ acc∨x ∈ y)∧(y.foldl fO acc).length≤acc.length+y.length
 | [],acc,h=>⟨h,fun x=>by simp,by simp⟩
 | n :: y,acc,h=>by
  have I:(fO acc n).Nodup:=by
   unfold fO
   split
   ·exact h
   ·rename_i hm
    exact List.nodup_append.2 ⟨h,by simp,fun a ha b J e=>by rw [List.mem_singleton.1 J] at e; exact hm (e ▸ ha)⟩
  obtain ⟨i1,i2,U⟩:=nX y (fO acc n) I;refine ⟨i1,fun x=>?_,?_⟩
  ·rw [List.foldl_cons,i2,iR,List.mem_cons,or_assoc]
  ·rw [List.foldl_cons,List.length_cons]
   have:(fO acc n).length≤acc.length+1:=by unfold fO; split <;> simp
   omega
theorem jf {rs:List Ru} {x:ByteArray}:x ∈ aK rs ↔ x ∈ bH rs:=by
 have h:=(nX (bH rs) [] List.nodup_nil).2.1 x;unfold aK;rw [h]; simp
theorem Cb (rs:List Ru):(aK rs).length≤rs.length:=by
 have:=(nX (bH rs) [] List.nodup_nil).2.2;simpa [bH,aK] using this
def zU (p:Pt):Nat:=if p.no then 1 else 0
def ML (rs:List Ru) (S:ByteArray→Nat):Prop:=∀ r ∈ rs,∀ p ∈ r.body,p.atom.name ∈ bH rs→S p.atom.name+zU p≤S r.head.name
theorem head_mem {rs:List Ru} {r:Ru} (h:r ∈ rs):r.head.name ∈ bH rs:=List.mem_map.2 ⟨r,h,rfl⟩
theorem O9 {rs:List Ru}:∀ (m:Nat) (S:ByteArray→Nat),ML rs S→((aK rs).map S).sum≤m→∃ T,ML rs T∧∀ n ∈ bH rs,T n < (aK rs).length:=by
 intro m
 induction m with
 | zero=>
  intro S J hm;refine ⟨S,J,fun n U=>?_⟩;have hp:=List.length_pos_of_mem (jf.2 U)
  have a0:∀ (l:List Nat) (x:Nat),x ∈ l→x≤l.sum:=by
   intro l
   induction l with
   | nil=>intro x I; simp at I
   | cons y l ih=>intro x I; rw [List.sum_cons]; rcases List.mem_cons.1 I with rfl | I; omega; have:=ih x I; omega
  have:S n≤((aK rs).map S).sum:=a0 _ _ (List.mem_map.2 ⟨n,jf.2 U,rfl⟩);omega
 | succ m ih=>
  intro S J hm;by_cases I:∃ x ∈ (aK rs).map S,(aK rs).length≤x
  ·obtain ⟨x,I,hN⟩:=I
   obtain ⟨g,hg,a1⟩:=Wx (l:=(aK rs).map S) (by simp) I hN;obtain ⟨nx,a2,rfl⟩:=List.mem_map.1 I;refine ih (fun n=>if g < S n then S n - 1 else S n) (fun r hr p hp hh=>?_) ?_
   ·have h0:=J r hr p hp hh
    have a3:S p.atom.name ≠ g:=fun e=>a1 (List.mem_map.2 ⟨_,jf.2 hh,e⟩)
    have a4:zU p≤1:=by unfold zU; split <;> omega
    dsimp only
    split <;> split <;> omega
   ·have:=sum_lt (l:=aK rs) (f:=fun n=>if g < S n then S n - 1 else S n) (g:=S) (fun y _=>by split <;> omega) ⟨nx,a2,by rw [if_pos (by omega)]; omega⟩
    omega
  ·refine ⟨S,J,fun n U=>?_⟩
   refine Nat.lt_of_not_le fun h=>I ⟨S n,List.mem_map.2 ⟨n,jf.2 U,rfl⟩,h⟩
theorem Fh {rs:List Ru} {S:ByteArray→Nat} (h:ML rs S):∃ T,ML rs T∧∀ n ∈ bH rs,T n < (aK rs).length:=O9 _ S h ν
def fU (out:List Nat) (i:Nat):Nat:=out.getD i 0
theorem nY {out:List Nat} {i j v:Nat} (h:i < out.length):fU (out.set i v) j=if i=j then v else fU out j:=by
 unfold fU;rw [List.getD_eq_getElem?_getD,List.getD_eq_getElem?_getD,List.getElem?_set];by_cases e:i=j
 ·subst e; rw [if_pos rfl,if_pos rfl,if_pos h]; rfl
 ·rw [if_neg e,if_neg e]
def jT (n:Nat) (y:ByteArray) (i k:Nat) (out:List Nat) (p:Pt):List Nat:=
 if p.atom.name=y then (if fU out i < fU out k+zU p∧fU out i≤n then out.set i (fU out k+zU p) else out) else out
def mg (y I:ByteArray) (i k:Nat) (out:List Nat):List Nat:=if I=y∧fU out i < fU out k then out.set i (fU out k) else out
def dH (rs:List Ru) (i:Nat):Ru:=rs.getD i ⟨⟨⟨#[]⟩,[]⟩,[]⟩
def vP (rs:List Ru) (i:Nat) (out:List Nat) (k:Nat):List Nat:=
 (dH rs i).body.foldl (jT rs.length (dH rs k).head.name i k) (mg (dH rs i).head.name (dH rs k).head.name i k out)
def Pg (rs:List Ru) (out:List Nat) (i:Nat):List Nat:=(List.range rs.length).foldl (vP rs i) out
def oH (rs:List Ru) (out:List Nat):List Nat:=(List.range rs.length).foldl (Pg rs) out
def xR (rs:List Ru):Nat→List Nat
 | 0=>List.replicate rs.length 0
 | m+1=>oH rs (xR rs m)
def ay (rs:List Ru):List Nat:=xR rs ((rs.length+1) * (rs.length+2))
def lg (rs:List Ru):Bool:=(ay rs).any fun x=>decide (rs.length≤x)
def Up (a b:List Nat):Prop:=b.length=a.length∧∀ i,fU a i≤fU b i
theorem Up.refl (a:List Nat):Up a a:=⟨rfl,fun _=>ν⟩
theorem Up.trans {a b c:List Nat} (h:Up a b) (k:Up b c):Up a c:=⟨k.1.trans h.1,fun i=>τ (h.2 i) (k.2 i)⟩
theorem Up.eq {a b:List Nat} (h:Up a b) (k:Up b a):a=b:=by
 refine List.ext_getElem h.1.symm fun i h1 y=>?_
 have I:fU a i=a[i]:=by unfold fU; rw [List.getD_eq_getElem?_getD,Ψ h1]; rfl
 have J:fU b i=b[i]:=by unfold fU; rw [List.getD_eq_getElem?_getD,Ψ y]; rfl
 have U:=h.2 i;have h4:=k.2 i;omega
theorem MN {out:List Nat} {i v:Nat} (h:fU out i≤v):Up out (out.set i v):=by
 refine ⟨by simp,fun j=>?_⟩;by_cases y:i < out.length
 ·rw [nY y]
  split
  ·rename_i e; subst e; exact h
  ·exact ν
 ·rw [List.set_eq_of_length_le (by omega)]; exact ν
theorem vS (n:Nat) (y:ByteArray) (i k:Nat) (out:List Nat) (p:Pt):Up out (jT n y i k out p):=by
 unfold jT
 split
 ·split
  ·rename_i h; exact MN (by omega)
  ·exact Up.refl _
 ·exact Up.refl _
theorem Cc (y I:ByteArray) (i k:Nat) (out:List Nat):Up out (mg y I i k out):=by
 unfold mg
 split
 ·rename_i h; exact MN (by omega)
 ·exact Up.refl _
theorem oO {β:Type} {f:List Nat→β→List Nat} (hf:∀ o x,Up o (f o x)):∀ (l:List β) (out:List Nat),Up out (l.foldl f out)
 | [],out=>Up.refl _
 | x :: r,out=>(hf out x).trans (oO hf r _)
theorem pO {β:Type} {f:List Nat→β→List Nat} (hf:∀ o x,Up o (f o x)):∀ (l:List β) (out:List Nat),l.foldl f out=out→∀ x ∈ l,f out x=out
 | [],_,_,x,I=>by simp at I
 | y :: r,out,h,x,I=>by
  have h1:=hf out y;have J:=oO hf r (f out y);rw [List.foldl_cons] at h;rw [h] at J;have e:=h1.eq J;rw [← e] at h
  rcases List.mem_cons.1 I with rfl | I
  ·exact e.symm
  ·exact pO hf r out h x I
theorem Jf (rs:List Ru) (i:Nat) (out:List Nat) (k:Nat):Up out (vP rs i out k):=(Cc _ _ _ _ _).trans (oO (fun o x=>vS _ _ _ _ o x) _ _)
theorem Ou (rs:List Ru) (out:List Nat) (i:Nat):Up out (Pg rs out i):=oO (fun o x=>Jf rs i o x) _ _
theorem xU (rs:List Ru) (out:List Nat):Up out (oH rs out):=oO (fun o x=>Ou rs o x) _ _
theorem GV (rs:List Ru):∀ m,(xR rs m).length=rs.length
 | 0=>by simp [xR]
 | m+1=>by rw [xR,(xU rs _).1,GV rs m]
theorem fC (rs:List Ru):(ay rs).length=rs.length:=GV rs _
def Wy (rs:List Ru) (T:ByteArray→Nat) (out:List Nat):Prop:=∀ i,i < rs.length→fU out i≤T (dH rs i).head.name
theorem nD {rs:List Ru} {i:Nat} (h:i < rs.length):dH rs i ∈ rs:=by
 unfold dH;rw [List.getD_eq_getElem?_getD,Ψ h];exact δ h
theorem pU {α β:Type} {P:α→Prop} {f:α→β→α}:∀ {l:List β} {a:α},(∀ a x,x ∈ l→P a→P (f a x))→P a→P (l.foldl f a)
 | [],_,_,h=>h
 | x :: r,a,hf,h=>pU (l:=r) (fun a y I=>hf a y (Δ _ I)) (hf a x Γ h)
theorem Ph {rs:List Ru} {T:ByteArray→Nat} (hT:ML rs T) {out:List Nat} (hl:out.length=rs.length) (h:Wy rs T out):(oH rs out).length=rs.length∧Wy rs T (oH rs out):=by
 unfold oH;refine pU (P:=fun o=>o.length=rs.length∧Wy rs T o) (fun o i hi J=>?_) ⟨hl,h⟩;have hi:=List.mem_range.1 hi;unfold Pg;refine pU (P:=fun o=>o.length=rs.length∧Wy rs T o) (fun o k U J=>?_) J;have U:=List.mem_range.1 U;unfold vP;refine pU (P:=fun o=>o.length=rs.length∧Wy rs T o) (fun o p hp J=>?_) ?_
 ·obtain ⟨h1,y⟩:=J
  refine ⟨by rw [(vS _ _ _ _ o p).1,h1],fun j I=>?_⟩;unfold jT
  split
  ·rename_i hn
   split
   ·rw [nY (by omega)]
    split
    ·rename_i e
     subst e;have h3:=hT _ (nD hi) p hp (by rw [hn]; exact head_mem (nD U));have h4:=y k U;rw [hn] at h3;omega
    ·exact y j I
   ·exact y j I
  ·exact y j I
 ·obtain ⟨h1,y⟩:=J
  refine ⟨by rw [(Cc _ _ _ _ o).1,h1],fun j I=>?_⟩;unfold mg
  split
  ·rename_i hc
   rw [nY (by omega)]
   split
   ·rename_i e
    subst e;rw [← hc.1];exact y k U
   ·exact y j I
  ·exact y j I
theorem Sv {rs:List Ru} {T:ByteArray→Nat} (y:ML rs T):∀ m,Wy rs T (xR rs m)
 | 0=>fun i I=>by
  have:fU (xR rs 0) i=0:=by unfold xR fU; rw [List.getD_eq_getElem?_getD,List.getElem?_replicate]; split <;> rfl
  omega
 | m+1=>(Ph y (GV rs m) (Sv y m)).2
theorem Ce {rs:List Ru} {T:ByteArray→Nat} (y:ML rs T):Wy rs T (ay rs):=Sv y _
def Closed (rs:List Ru) (out:List Nat):Prop:=∀ i,i < rs.length→∀ k,k < rs.length→
 ((dH rs k).head.name=(dH rs i).head.name→fU out k≤fU out i)∧∀ p ∈ (dH rs i).body,p.atom.name=(dH rs k).head.name→fU out k+zU p≤fU out i
theorem xW {out:List Nat} {i v:Nat} (h:i < out.length) (e:out.set i v=out):fU out i=v:=by
 have:=nY (j:=i) (v:=v) h;rw [e,if_pos rfl] at this;exact this
theorem Pj {rs:List Ru} {out:List Nat} (hl:out.length=rs.length) (hs:oH rs out=out) (hn:∀ i,i < rs.length→fU out i≤rs.length):Closed rs out:=by
 intro i hi k hk;have h1:=pO (fun o x=>Ou rs o x) _ _ hs i (List.mem_range.2 hi);have I:=pO (fun o x=>Jf rs i o x) _ _ h1 k (List.mem_range.2 hk)
 have J:mg (dH rs i).head.name (dH rs k).head.name i k out=out:=by
  have a1:=Cc (dH rs i).head.name (dH rs k).head.name i k out;have a2:=oO (fun o x=>vS rs.length (dH rs k).head.name i k o x) (dH rs i).body (mg (dH rs i).head.name (dH rs k).head.name i k out);unfold vP at I;rw [I] at a2;exact (a1.eq a2).symm
 unfold vP at I;rw [J] at I;have h4:=pO (fun o x=>vS rs.length (dH rs k).head.name i k o x) _ _ I;refine ⟨fun e=>?_,fun p hp e=>?_⟩
 ·refine Nat.le_of_not_lt fun y=>?_
  unfold mg at J;rw [if_pos ⟨e,y⟩] at J;have:=xW (by omega) J;omega
 ·refine Nat.le_of_not_lt fun y=>?_
  have U:=h4 p hp;unfold jT at U;rw [if_pos e,if_pos ⟨y,hn i hi⟩] at U;have:=xW (by omega) U;omega
theorem Sz {a b:List Nat} (h:Up a b) (I:b ≠ a):a.sum < b.sum:=by
 have a0:∀ (a b:List Nat),b.length=a.length→(∀ i,fU a i≤fU b i)→a.sum≤b.sum∧(b ≠ a→a.sum < b.sum):=by
  intro a
  induction a with
  | nil=>intro b U _; have:b = []:=List.length_eq_zero_iff.1 U; subst this; exact ⟨ν,fun h=>absurd rfl h⟩
  | cons x xs ih=>
   intro b U J
   cases b with
   | nil=>simp at U
   | cons y ys=>
    have h0:x≤y:=J 0;have h1:∀ i,fU xs i≤fU ys i:=fun i=>J (i+1)
    obtain ⟨i1,i2⟩:=ih ys (by simpa using U) h1;simp only [List.sum_cons];refine ⟨by omega,fun I=>?_⟩;by_cases e:ys=xs
    ·have:y ≠ x:=fun e2=>I (by rw [e,e2])
     omega
    ·have:=i2 e; omega
 exact (a0 a b h.1 h.2).2 I
theorem Fj {out:List Nat} {n:Nat} (h:∀ i,i < out.length→fU out i≤n):out.sum≤out.length * n:=by
 induction out with
 | nil=>simp
 | cons x xs ih=>
  have h0:x≤n:=h 0 (by simp);have h1:=ih fun i y=>h (i+1) (by simp; omega)
  simp only [List.sum_cons,List.length_cons,Nat.add_mul];omega
theorem XE (rs : List Ru) : ∀ {m k : Nat}, m ≤ k → Up (xR rs m) (xR rs k) := by
  intro m k h
  induction k with
  | zero => obtain rfl : m = 0 := by omega
            exact Up.refl _
  | succ k ih =>
    by_cases e : m = k + 1
    · subst e; exact Up.refl _
    · exact (ih (by omega)).trans (xU rs _)
theorem SA (rs : List Ru) {m : Nat} (h : oH rs (xR rs m) = xR rs m) : ∀ k, m ≤ k → xR rs k = xR rs m := by
  intro k y
  induction k with
  | zero => obtain rfl : m = 0 := by omega
            rfl
  | succ k ih =>
    by_cases e : m = k + 1
    · rw [e]
    · rw [xR, ih (by omega), h]
theorem Jg (rs:List Ru):(∃ i,i < rs.length∧rs.length < fU (ay rs) i)∨Closed rs (ay rs):=by
 by_cases U:∃ i,i < rs.length∧rs.length < fU (ay rs) i
 ·exact .inl U
 ·have y:∀ i,i < rs.length→fU (ay rs) i≤rs.length:=fun i hi=>Nat.le_of_not_lt fun h=>U ⟨i,hi,h⟩
  by_cases hs:oH rs (ay rs)=ay rs
  ·exact .inr (Pj (fC rs) hs y)
  ·exfalso
   have J:∀ m,m≤(rs.length+1) * (rs.length+2)→m≤(xR rs m).sum:=by
    intro m
    induction m with
    | zero=>intro _; exact ε
    | succ m ih=>
     intro hm;have h1:=ih (by omega)
     have I:oH rs (xR rs m) ≠ xR rs m:=fun e=>by
      have:=SA rs e _ (show m≤(rs.length+1) * (rs.length+2) by omega);refine hs ?_;unfold ay;rw [this];exact e
     have h3:=Sz (xU rs (xR rs m)) I;show m+1≤(oH rs (xR rs m)).sum;omega
   have h1:=J _ ν;have I:=Fj (out:=ay rs) (n:=rs.length) (by rw [fC]; exact y);rw [fC] at I
   have h3:rs.length * rs.length < (rs.length+1) * (rs.length+2):=by
    have:(rs.length+1) * (rs.length+2)=rs.length * rs.length+3 * rs.length+2:=by
     rw [Nat.add_mul,Nat.mul_add]; omega
    omega
   unfold ay at I;omega
def gY (rs:List Ru) (n:ByteArray):Nat:=fU (ay rs) ((bH rs).idxOf n)
theorem Pm {rs:List Ru} {out:List Nat} (h:Closed rs out) {i k:Nat} (y:i < rs.length) (I:k < rs.length) (e:(dH rs k).head.name=(dH rs i).head.name):fU out k=fU out i:=
 Nat.le_antisymm ((h i y k I).1 e) ((h k I i y).1 e.symm)
theorem Jh {rs:List Ru} {n:ByteArray} (h:n ∈ bH rs):(bH rs).idxOf n < rs.length∧(dH rs ((bH rs).idxOf n)).head.name=n:=by
 have h1:=List.idxOf_lt_length_of_mem h;have I:=List.getElem_idxOf h1;have h3:(bH rs).length=rs.length:=by simp [bH]
 refine ⟨by omega,?_⟩;have y:(bH rs).idxOf n < rs.length:=by omega
 have J:dH rs ((bH rs).idxOf n)=rs[(bH rs).idxOf n]:=by
  unfold dH;rw [List.getD_eq_getElem?_getD,Ψ y]; rfl
 have U:∀ i (h:i < rs.length) (h':i < (bH rs).length),(bH rs)[i]=rs[i].head.name:=fun i h h'=>by simp [bH]
 rw [J,← U _ y h1,I]
theorem nG {rs:List Ru} (h:Closed rs (ay rs)):ML rs (gY rs)∧∀ i,i < rs.length→fU (ay rs) i=gY rs (dH rs i).head.name:=by
 have he:∀ i,i < rs.length→fU (ay rs) i=gY rs (dH rs i).head.name:=fun i y=>by
  obtain ⟨h1,I⟩:=Jh (head_mem (nD y));unfold gY;exact Pm h h1 y I.symm
 refine ⟨fun r hr p U hh=>?_,he⟩;obtain ⟨i,y,rfl⟩:=List.mem_iff_getElem.1 hr;have er:dH rs i=rs[i]:=by unfold dH; rw [List.getD_eq_getElem?_getD,Ψ y]; rfl
 obtain ⟨h1,I⟩:=Jh hh;have h3:=(h i y _ h1).2 p (by rw [er]; exact U) I.symm;have J:=he i y;rw [er] at J;rw [← J];exact h3
theorem WA {rs:List Ru} (h:lg rs=true) (S:ByteArray→Nat):¬ ML rs S:=by
 intro U;obtain ⟨T,hT,hs⟩:=Fh U;unfold lg at h;obtain ⟨x,hx,y⟩:=List.any_eq_true.1 h;have y:=of_decide_eq_true y;obtain ⟨i,J,rfl⟩:=List.mem_iff_getElem.1 hx;have I:i < rs.length:=by rw [fC] at J; exact J
 have h1:=Ce hT i I;have h2:=hs _ (head_mem (nD I));have h3:=Cb rs;have e:fU (ay rs) i=(ay rs)[i]:=by unfold fU; rw [List.getD_eq_getElem?_getD,Ψ J]; rfl
 omega
theorem MO {rs:List Ru} (h:lg rs=false):Closed rs (ay rs):=by
 refine (Jg rs).resolve_left fun ⟨i,I,J⟩=>?_
 unfold lg at h;have y:i < (ay rs).length:=by rw [fC]; exact I
 have e:fU (ay rs) i=(ay rs)[i]:=by unfold fU; rw [List.getD_eq_getElem?_getD,Ψ y]; rfl
 have:=List.any_eq_false.1 h (ay rs)[i] (δ y);simp at this;omega
theorem Pn {rs:List Ru} (h:∀ S,¬ ML rs S):lg rs=true:=by
 cases hc:lg rs
 ·exact absurd (nG (MO hc)).1 (h _)
 ·rfl
theorem xX {rs:List Ru} {S:ByteArray→Nat} (h:ML rs S):lg rs=false:=by
 cases hc:lg rs
 ·rfl
 ·exact absurd h (WA hc S)
theorem SB {rs:List Ru} {S:ByteArray→Nat} (h:ML rs S) (I:∀ T,ML rs T→∀ n ∈ bH rs,S n≤T n):∀ i,i < rs.length→S (dH rs i).head.name=fU (ay rs) i:=fun i y=>by
 have hc:=nG (MO (xX h));have h1:=I _ hc.1 _ (head_mem (nD y));have J:=Ce h i y;have U:=hc.2 i y;omega
abbrev Bd:=List (ByteArray × ByteArray)
def eY:Bd→ByteArray→Option ByteArray
 | [],_=>none
 | p :: b,n=>if p.1=n then some p.2 else eY b n
def iU (b:Bd) (n:ByteArray):ByteArray:=(eY b n).getD ⟨#[]⟩
def bY:List T→List T→Bd→Bd × Bool
 | t :: ts,f :: fs,b=>
  if t.var then
   match eY b t.name with
   | some v=>if v=f.name then bY ts fs b else (b,false)
   | none=>bY ts fs (b ++ [(t.name,f.name)])
  else if t.name=f.name then bY ts fs b else (b,false)
 | _,_,b=>(b,true)
def aC (a f:A) (b:Bd):Bd × Bool:=if a.name=f.name∧a.args.length=f.args.length then bY a.args f.args b else (b,false)
def dA (b:Bd) (t:T):T:=⟨false,if t.var then iU b t.name else t.name⟩
def bQ (a:A) (b:Bd):A:=⟨a.name,a.args.map (dA b)⟩
def iY:Rel Bd:=fun w cs b bs=>∃ s v y I,cs = [s,v]∧bs=y ++ I∧ji w [s] (b.map (·.1)) y∧ji w [v] (b.map (·.2)) I
theorem bZ:Good iY:=
 ⟨fun h U=>by
   obtain ⟨s,v,b1,b2,h1,rfl,I,J⟩:=h
   exact ⟨s,v,b1,b2,h1,rfl,bV.keep I fun b y=>U b (Ξ _ y),bV.keep J fun b y=>U b (Ω _ y)⟩,
  fun h b y=>by
   obtain ⟨s,v,b1,b2,h1,rfl,I,J⟩:=h
   rcases μ.1 y with y | y
   ·exact bV.lt I b y
   ·exact bV.lt J b y⟩
def qO:Rel (List Bd):=ig 2 iY
theorem lK:Good qO:=gQ bZ (by omega)
end Go.Proofs.YtkjinanbccloeaaGreatDoor.D
