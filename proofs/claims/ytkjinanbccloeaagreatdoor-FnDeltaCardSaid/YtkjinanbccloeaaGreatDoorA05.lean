/- Of the proof of FnDelta: VarP, LevP, BindP. -/
import Derived.Test.YtkjinanbccloeaaGreatDoorA02
set_option linter.unusedVariables false
namespace Go.Proofs.YtkjinanbccloeaaGreatDoor.D
open Go.RowKit
def kP:List ByteArray→ByteArray→List ByteArray
 | [],s=>[s]
 | x :: xs,s=>if gu x s < 0 then x :: kP xs s else if gu x s=0 then x :: xs else s :: x :: xs
def ng:List ByteArray→ByteArray→Nat
 | [],_=>0
 | x :: xs,s=>if gu x s < 0 then ng xs s+1 else 0
def sZ (xs:List ByteArray):Prop:=xs.Pairwise fun a b=>gu a b < 0
theorem TR:∀ (xs:List ByteArray) (s:ByteArray),ng xs s≤xs.length
 | [],_=>ν
 | x :: xs,s=>by
  unfold ng; have:=TR xs s
  split
  ·simpa using this
  ·simp
theorem TT:∀ (xs:List ByteArray) (s:ByteArray) (k:Nat) (h:k < xs.length),k < ng xs s→gu xs[k] s < 0
 | x :: xs,s,0,_,hk=>by
  unfold ng at hk
  split at hk
  ·assumption
  ·omega
 | x :: xs,s,k+1,h,hk=>by
  unfold ng at hk
  split at hk
  ·exact TT xs s k (by simpa using h) (by omega)
  ·omega
theorem NY:∀ (xs:List ByteArray) (s:ByteArray) (h:ng xs s < xs.length),¬ gu xs[ng xs s] s < 0
 | x :: xs,s,h=>by
  by_cases hc:gu x s < 0
  ·have e:ng (x :: xs) s=ng xs s+1:=by rw [ng,if_pos hc]
   have y:ng xs s < xs.length:=by rw [e] at h; simpa using h
   have:=NY xs s y;simp only [e,List.getElem_cons_succ];exact this
  ·have e:ng (x :: xs) s=0:=by rw [ng,if_neg hc]
   simp only [e,List.getElem_cons_zero];exact hc
theorem JU:∀ (xs:List ByteArray) (s:ByteArray) (h:ng xs s < xs.length),gu xs[ng xs s] s=0→kP xs s=xs
 | x :: xs,s,h,h0=>by
  unfold kP;by_cases hc:gu x s < 0
  ·have e:ng (x :: xs) s=ng xs s+1:=by rw [ng,if_pos hc]
   have y:ng xs s < xs.length:=by rw [e] at h; simpa using h
   simp only [e,List.getElem_cons_succ] at h0;rw [if_pos hc,JU xs s y h0]
  ·have e:ng (x :: xs) s=0:=by rw [ng,if_neg hc]
   simp only [e,List.getElem_cons_zero] at h0;rw [if_neg hc,if_pos h0]
theorem CZ:∀ (xs:List ByteArray) (s:ByteArray),(∀ h:ng xs s < xs.length,gu xs[ng xs s] s ≠ 0)→kP xs s=xs.take (ng xs s) ++ [s] ++ xs.drop (ng xs s)
 | [],s,_=>by simp [kP,ng]
 | x :: xs,s,h=>by
  unfold kP;by_cases hc:gu x s < 0
  ·have e:ng (x :: xs) s=ng xs s+1:=by rw [ng,if_pos hc]
   have ih:=CZ xs s (fun y=>by
    have:=h (by rw [e]; simpa using y);simp only [e,List.getElem_cons_succ] at this
    exact this)
   rw [if_pos hc,ih,e]; simp
  ·have e:ng (x :: xs) s=0:=by rw [ng,if_neg hc]
   have:=h (by rw [e]; simp);simp only [e,List.getElem_cons_zero] at this;rw [if_neg hc,if_neg this,e]; simp
theorem Dc:∀ (xs:List ByteArray) (s x:ByteArray),x ∈ kP xs s ↔ x ∈ xs∨x=s
 | [],s,x=>by simp [kP]
 | y :: xs,s,x=>by
  unfold kP
  split
  ·rw [List.mem_cons,Dc xs s x,List.mem_cons,or_assoc]
  ·split
   ·rename_i h
    have:=(iH.eq _ _).1 h;subst this;simp only [List.mem_cons];constructor
    ·exact .inl
    ·rintro (h | h)
     ·exact h
     ·exact .inl h
   ·simp only [List.mem_cons]
    constructor
    ·rintro (h | h | h)
     ·exact .inr h
     ·exact .inl (.inl h)
     ·exact .inl (.inr h)
    ·rintro ((h | h) | h)
     ·exact .inr (.inl h)
     ·exact .inr (.inr h)
     ·exact .inl h
theorem JV:∀ {xs:List ByteArray} (s:ByteArray),sZ xs→sZ (kP xs s)
 | [],s,_=>by unfold kP sZ; exact List.pairwise_singleton _ _
 | x :: xs,s,h=>by
  unfold kP;have J:=List.pairwise_cons.1 h
  split
  ·rename_i hc
   exact List.pairwise_cons.2 ⟨fun y I=>((Dc xs s y).1 I).elim (J.1 y) (fun e=>e ▸ hc),JV s J.2⟩
  ·rename_i hc
   split
   ·exact h
   ·rename_i hn
    have U:gu s x < 0:=by have:=iH.anti x s; omega
    refine List.pairwise_cons.2 ⟨fun y I=>?_,h⟩
    rcases List.mem_cons.1 I with rfl | I
    ·exact U
    ·exact iH.pF U (by have:=J.1 y I; omega)
theorem TU (xs:List ByteArray) (s:ByteArray):(kP xs s).length≤xs.length+1:=by
 induction xs with
 | nil=>simp [kP]
 | cons x xs ih=>
  unfold kP
  split
  ·simp; exact ih
  ·split <;> simp
theorem wK {xs:List ByteArray} (h:sZ xs):xs.Nodup:=h.imp fun {a b} y e=>by subst e; have:=iH.refl a; omega
theorem tq:sZ []:=List.Pairwise.nil
def lu (a:A) (out:List ByteArray):List ByteArray:=a.args.foldl (fun o t=>if t.var then kP o t.name else o) out
def fD (ps:List Pt) (out:List ByteArray):List ByteArray:=ps.foldl (fun o p=>lu p.atom o) out
def fJ (h:A) (ps:List Pt):Bool:=decide ((fD ps (lu h [])).length=(fD (ps.filter fun p=>!p.no) []).length)
def aC (ps:List Pt):List ByteArray:=fD ps []
def kL (x:ByteArray) (y:List T):Prop:=∃ t ∈ y,t.var=true∧t.name=x
theorem Df:∀ (I:List T) (out:List ByteArray) (x:ByteArray),x ∈ I.foldl (fun o t=>if t.var then kP o t.name else o) out ↔ x ∈ out∨kL x I
 | [],out,x=>by simp [kL]
 | t :: I,out,x=>by
  rw [List.foldl_cons,Df I];unfold kL;cases hv:t.var
  ·rw [if_neg (by simp)]
   constructor
   ·rintro (h | ⟨u,h1,y⟩)
    ·exact .inl h
    ·exact .inr ⟨u,Δ _ h1,y⟩
   ·rintro (h | ⟨u,h1,y⟩)
    ·exact .inl h
    ·rcases List.mem_cons.1 h1 with rfl | h1
     ·rw [hv] at y; simp at y
     ·exact .inr ⟨u,h1,y⟩
  ·rw [if_pos rfl,Dc]
   constructor
   ·rintro ((h | h) | ⟨u,h1,y⟩)
    ·exact .inl h
    ·exact .inr ⟨t,Γ,hv,h.symm⟩
    ·exact .inr ⟨u,Δ _ h1,y⟩
   ·rintro (h | ⟨u,h1,y⟩)
    ·exact .inl (.inl h)
    ·rcases List.mem_cons.1 h1 with rfl | h1
     ·exact .inl (.inr y.2.symm)
     ·exact .inr ⟨u,h1,y⟩
theorem zk (a:A) (out:List ByteArray) (x:ByteArray):x ∈ lu a out ↔ x ∈ out∨kL x a.args:=Df _ _ _
theorem Dh:∀ (y:List T) {out:List ByteArray},sZ out→sZ (y.foldl (fun o t=>if t.var then kP o t.name else o) out)
 | [],_,h=>h
 | t :: y,out,h=>by
  rw [List.foldl_cons];refine Dh y ?_
  split
  ·exact JV _ h
  ·exact h
theorem FQ (a:A) {out:List ByteArray} (h:sZ out):sZ (lu a out):=Dh _ h
theorem wL:∀ (y:List T) (out:List ByteArray),(y.foldl (fun o t=>if t.var then kP o t.name else o) out).length≤out.length+y.length
 | [],out=>by simp
 | t :: y,out=>by
  rw [List.foldl_cons];have h1:=wL y (if t.var then kP out t.name else out)
  have I:(if t.var then kP out t.name else out).length≤out.length+1:=by
   split
   ·exact TU _ _
   ·omega
  simp only [List.length_cons];omega
theorem FT (a:A) (out:List ByteArray):(lu a out).length≤out.length+a.args.length:=wL _ _
theorem iw:∀ (ps:List Pt) (out:List ByteArray) (x:ByteArray),x ∈ fD ps out ↔ x ∈ out∨∃ p ∈ ps,kL x p.atom.args
 | [],out,x=>by simp [fD]
 | p :: ps,out,x=>by
  have e:fD (p :: ps) out=fD ps (lu p.atom out):=rfl;rw [e,iw ps,zk];constructor
  ·rintro ((h | h) | ⟨q,h1,y⟩)
   ·exact .inl h
   ·exact .inr ⟨p,Γ,h⟩
   ·exact .inr ⟨q,Δ _ h1,y⟩
  ·rintro (h | ⟨q,h1,y⟩)
   ·exact .inl (.inl h)
   ·rcases List.mem_cons.1 h1 with rfl | h1
    ·exact .inl (.inr y)
    ·exact .inr ⟨q,h1,y⟩
theorem mO:∀ (ps:List Pt) {out:List ByteArray},sZ out→sZ (fD ps out)
 | [],_,h=>h
 | p :: ps,out,h=>by
  have e:fD (p :: ps) out=fD ps (lu p.atom out):=rfl;rw [e]; exact mO ps (FQ _ h)
theorem oJ:∀ (ps:List Pt) (out:List ByteArray),(fD ps out).length≤out.length+iZ (fun p=>p.atom.args.length) ps
 | [],out=>by simp [fD]
 | p :: ps,out=>by
  have e:fD (p :: ps) out=fD ps (lu p.atom out):=rfl;have h1:=oJ ps (lu p.atom out);have I:=FT p.atom out;have y:iZ (fun p:Pt=>p.atom.args.length) (p :: ps)=p.atom.args.length+iZ (fun p=>p.atom.args.length) ps:=by simp [iZ]
  rw [e,y];omega
theorem JW (ps:List Pt) (k:Nat) (h:k < ps.length) (out:List ByteArray):fD (ps.take (k+1)) out=lu ps[k].atom (fD (ps.take k) out):=by
 unfold fD; rw [ρ h,List.foldl_append]; rfl
theorem NZ (a:A) (k:Nat) (h:k < a.args.length) (out:List ByteArray):
  (a.args.take (k+1)).foldl (fun o t=>if t.var then kP o t.name else o) out=(if a.args[k].var then kP ((a.args.take k).foldl (fun o t=>if t.var then kP o t.name else o) out) a.args[k].name else (a.args.take k).foldl (fun o t=>if t.var then kP o t.name else o) out):=by
 rw [ρ h,List.foldl_append]; rfl
theorem JX (ps:List Pt) (k:Nat) (h:k < ps.length):(ps.take (k+1)).filter (fun p=>!p.no)=(ps.take k).filter (fun p=>!p.no) ++ (if ps[k].no then [] else [ps[k]]):=by
 rw [ρ h,List.filter_append]
 congr 1
 cases hn:ps[k].no <;> simp [hn]
theorem Px:∀ {xs ys:List ByteArray},xs.Nodup→(∀ x ∈ xs,x ∈ ys)→ys.length≤xs.length→∀ y ∈ ys,y ∈ xs
 | [],ys,_,_,hl,y,hy=>by
  have:ys = []:=List.length_eq_zero_iff.1 (by simpa using hl);subst this; simp at hy
 | x :: xs,ys,hn,hs,hl,y,hy=>by
  have hx:=hs x Γ;obtain ⟨l,r,rfl⟩:=List.append_of_mem hx;have I:=List.nodup_cons.1 hn
  have ih:=Px (xs:=xs) (ys:=l ++ r) I.2 (fun z U=>by
   have:=hs z (Δ _ U);have J:z ≠ x:=fun e=>I.1 (e ▸ U)
   rcases μ.1 this with h | h
   ·exact μ.2 (.inl h)
   ·rcases List.mem_cons.1 h with h | h
    ·exact absurd h J
    ·exact μ.2 (.inr h)) (by simp at hl ⊢; omega)
  by_cases e:y=x
  ·exact e ▸ Γ
  ·refine Δ _ (ih y ?_)
   rcases μ.1 hy with h | h
   ·exact μ.2 (.inl h)
   ·rcases List.mem_cons.1 h with h | h
    ·exact absurd h e
    ·exact μ.2 (.inr h)
theorem wM:∀ {xs ys:List ByteArray},xs.Nodup→(∀ x ∈ xs,x ∈ ys)→xs.length≤ys.length
 | [],ys,_,_=>ε
 | x :: xs,ys,hn,hs=>by
  have U:=hs x Γ;obtain ⟨l,r,rfl⟩:=List.append_of_mem U;have y:=List.nodup_cons.1 hn
  have ih:=wM (xs:=xs) (ys:=l ++ r) y.2 (fun z J=>by
   have:=hs z (Δ _ J);have I:z ≠ x:=fun e=>y.1 (e ▸ J)
   rcases μ.1 this with h | h
   ·exact μ.2 (.inl h)
   ·rcases List.mem_cons.1 h with h | h
    ·exact absurd h I
    ·exact μ.2 (.inr h))
  simp at ih ⊢; omega
def ja (ps:List Pt) (x:ByteArray):Bool:=ps.any fun p=>!p.no && p.atom.args.any fun t=>t.var && decide (gu t.name x=0)
def gK (ps:List Pt) (a:A):Bool:=a.args.all fun t=>!t.var || ja ps t.name
def tu (ps:List Pt):Bool:=!ps.all fun p=>gK ps p.atom
theorem oK (ps:List Pt) (x:ByteArray):ja ps x=true ↔ x ∈ fD (ps.filter fun p=>!p.no) []:=by
 rw [iw];unfold ja kL;simp only [List.any_eq_true,ο,Bool.not_eq_true',decide_eq_true_eq,iH.eq,List.mem_filter,List.not_mem_nil,false_or];constructor
 ·rintro ⟨p,h1,y,t,I,J,U⟩
  exact ⟨p,⟨h1,y⟩,t,I,J,U⟩
 ·rintro ⟨p,⟨h1,y⟩,t,I,J,U⟩
  exact ⟨p,h1,y,t,I,J,U⟩
theorem qV (ps:List Pt) (a:A):gK ps a=true ↔ ∀ x,kL x a.args→ja ps x=true:=by
 unfold gK kL;rw [List.all_eq_true];constructor
 ·rintro h x ⟨t,h1,y,rfl⟩
  have:=h t h1;rw [y] at this;simpa using this
 ·intro h t I
  cases hv:t.var
  ·rfl
  ·rw [h t.name ⟨t,I,hv,rfl⟩]; rfl
theorem FU (h:A) (ps:List Pt):fJ h ps=true ↔ (∀ x,kL x h.args→ja ps x=true)∧tu ps=false:=by
 unfold fJ tu;rw [decide_eq_true_iff];have U:=wK (mO (ps.filter fun p=>!p.no) tq);have a0:=wK (mO ps (FQ h tq))
 have I:∀ x ∈ fD (ps.filter fun p=>!p.no) [],x ∈ fD ps (lu h []):=fun x y=>by
  rw [iw] at y ⊢
  rcases y with y | ⟨p,hp,y⟩
  ·simp at y
  ·exact .inr ⟨p,(List.mem_filter.1 hp).1,y⟩
 simp only [Bool.not_eq_false',List.all_eq_true,qV];constructor
 ·intro hl
  have J:=Px U I (Nat.le_of_eq hl);refine ⟨fun x y=>(oK ps x).2 (J x ((iw ..).2 (.inl ((zk ..).2 (.inr y))))),fun p hp x y=>(oK ps x).2 (J x ((iw ..).2 (.inr ⟨p,hp,y⟩)))⟩
 ·rintro ⟨h1,h2⟩
  refine Nat.le_antisymm (wM a0 fun x y=>?_) (wM U I)
  rcases (iw ..).1 y with y | ⟨p,hp,y⟩
  ·rcases (zk ..).1 y with y | y
   ·simp at y
   ·exact (oK ps x).1 (h1 x y)
  ·exact (oK ps x).1 (h2 p hp x y)
theorem qw {α:Type} [DecidableEq α]:∀ {I l2:List α},I.Nodup→(∀ x ∈ I,x ∈ l2)→I.length≤l2.length
 | [],_,_,_=>ε
 | x :: r,l2,h,hs=>by
  obtain ⟨h1,h2⟩:=List.nodup_cons.1 h;have U:=hs x Γ
  have:=qw (l2:=l2.erase x) h2 fun y hy=>by
   have J:y ≠ x:=by rintro rfl; exact h1 hy
   exact (List.mem_erase_of_ne J).2 (hs y (Δ _ hy))
  have hl:=List.length_erase_of_mem U;have hp:=List.length_pos_of_mem U;simp only [List.length_cons];omega
theorem Xt {l:List Nat} {N x:Nat} (hl:l.length≤N) (hx:x ∈ l) (hN:N≤x):∃ g,g < N∧g ∉ l:=by
 refine Classical.byContradiction fun h=>?_
 have I:∀ g,g < N→g ∈ l:=fun g hg=>Classical.byContradiction fun hn=>h ⟨g,hg,hn⟩
 have J:(x :: List.range N).Nodup:=List.nodup_cons.2 ⟨fun hm=>by have:=List.mem_range.1 hm; omega,List.nodup_range⟩
 have:=qw J (l2:=l) fun y U=>by
  rcases List.mem_cons.1 U with rfl | U
  ·exact hx
  ·exact I y (List.mem_range.1 U)
 simp at this;omega
theorem Hr {α:Type} {f g:α→Nat}:∀ {l:List α},(∀ x ∈ l,f x≤g x)→(l.map f).sum≤(l.map g).sum
 | [],_=>ν
 | x :: r,h=>by
  have h1:=h x Γ;have J:=Hr (l:=r) fun y I=>h y (Δ _ I)
  simp only [List.map_cons,List.sum_cons];omega
theorem sum_lt {α:Type} {f g:α→Nat}:∀ {l:List α},(∀ x ∈ l,f x≤g x)→(∃ x ∈ l,f x < g x)→(l.map f).sum < (l.map g).sum
 | [],_,⟨x,I,_⟩=>by simp at I
 | y :: r,h,⟨x,I,hlt⟩=>by
  have h1:=h y Γ;simp only [List.map_cons,List.sum_cons]
  rcases List.mem_cons.1 I with rfl | I
  ·have U:=Hr (l:=r) fun z J=>h z (Δ _ J)
   omega
  ·have U:=sum_lt (l:=r) (fun z J=>h z (Δ _ J)) ⟨x,I,hlt⟩
   omega
theorem bytes_beq (a b:ByteArray):(a == b)=(a.data == b.data):=rfl
instance Yd:LawfulBEq ByteArray where
 eq_of_beq {a b} h:=by rw [bytes_beq] at h; cases a; cases b; exact congrArg _ (eq_of_beq h)
 rfl {a}:=by rw [bytes_beq]; exact beq_self_eq_true _
def bK (rs:List Ru):List ByteArray:=rs.map fun r=>r.head.name
def gU (acc:List ByteArray) (n:ByteArray):List ByteArray:=if n ∈ acc then acc else acc ++ [n]
def aK (rs:List Ru):List ByteArray:=(bK rs).foldl gU []
theorem jq {acc:List ByteArray} {n x:ByteArray}:x ∈ gU acc n ↔ x ∈ acc∨x=n:=by
 unfold gU
 split
 ·rename_i h
  exact ⟨.inl,fun y=>y.elim id (fun e=>e ▸ h)⟩
 ·simp
theorem pI:∀ (y acc:List ByteArray),acc.Nodup→(y.foldl gU acc).Nodup∧(∀ x,x ∈ y.foldl gU acc ↔ x ∈ acc∨x ∈ y)∧(y.foldl gU acc).length≤acc.length+y.length
 | [],acc,h=>⟨h,fun x=>by simp,by simp⟩
 | n :: y,acc,h=>by
  have hn:(gU acc n).Nodup:=by
   unfold gU
   split
   ·exact h
   ·rename_i hm
    exact List.nodup_append.2 ⟨h,by simp,fun a ha b hb e=>by rw [List.mem_singleton.1 hb] at e; exact hm (e ▸ ha)⟩
  obtain ⟨i1,i2,I⟩:=pI y (gU acc n) hn;refine ⟨i1,fun x=>?_,?_⟩
  ·rw [List.foldl_cons,i2,jq,List.mem_cons,or_assoc]
  ·rw [List.foldl_cons,List.length_cons]
   have:(gU acc n).length≤acc.length+1:=by unfold gU; split <;> simp
   omega
theorem jG {rs:List Ru} {x:ByteArray}:x ∈ aK rs ↔ x ∈ bK rs:=by
 have h:=(pI (bK rs) [] List.nodup_nil).2.1 x;unfold aK;rw [h]; simp
theorem Di (rs:List Ru):(aK rs).length≤rs.length:=by
 have:=(pI (bK rs) [] List.nodup_nil).2.2;simpa [bK,aK] using this
def Cm (p:Pt):Nat:=if p.no then 1 else 0
def N8 (rs:List Ru) (S:ByteArray→Nat):Prop:=∀ r ∈ rs,∀ p ∈ r.body,p.atom.name ∈ bK rs→S p.atom.name+Cm p≤S r.head.name
theorem head_mem {rs:List Ru} {r:Ru} (h:r ∈ rs):r.head.name ∈ bK rs:=List.mem_map.2 ⟨r,h,rfl⟩
theorem Qs {rs:List Ru}:∀ (m:Nat) (S:ByteArray→Nat),N8 rs S→((aK rs).map S).sum≤m→∃ T,N8 rs T∧∀ n ∈ bK rs,T n < (aK rs).length:=by
 intro m
 induction m with
 | zero=>
  intro S J hm;refine ⟨S,J,fun n hn=>?_⟩;have hp:=List.length_pos_of_mem (jG.2 hn)
  have U:∀ (l:List Nat) (x:Nat),x ∈ l→x≤l.sum:=by
   intro l
   induction l with
   | nil=>intro x I; simp at I
   | cons y l ih=>intro x I; rw [List.sum_cons]; rcases List.mem_cons.1 I with rfl | I; omega; have:=ih x I; omega
  have:S n≤((aK rs).map S).sum:=U _ _ (List.mem_map.2 ⟨n,jG.2 hn,rfl⟩);omega
 | succ m ih=>
  intro S J hm;by_cases I:∃ x ∈ (aK rs).map S,(aK rs).length≤x
  ·obtain ⟨x,I,hN⟩:=I
   obtain ⟨g,hg,a0⟩:=Xt (l:=(aK rs).map S) (by simp) I hN;obtain ⟨nx,a1,rfl⟩:=List.mem_map.1 I;refine ih (fun n=>if g < S n then S n - 1 else S n) (fun r hr p hp hh=>?_) ?_
   ·have h0:=J r hr p hp hh
    have a2:S p.atom.name ≠ g:=fun e=>a0 (List.mem_map.2 ⟨_,jG.2 hh,e⟩)
    have a3:Cm p≤1:=by unfold Cm; split <;> omega
    dsimp only
    split <;> split <;> omega
   ·have:=sum_lt (l:=aK rs) (f:=fun n=>if g < S n then S n - 1 else S n) (g:=S) (fun y _=>by split <;> omega) ⟨nx,a1,by rw [if_pos (by omega)]; omega⟩
    omega
  ·refine ⟨S,J,fun n hn=>?_⟩
   refine Nat.lt_of_not_le fun h=>I ⟨S n,List.mem_map.2 ⟨n,jG.2 hn,rfl⟩,h⟩
theorem FV {rs:List Ru} {S:ByteArray→Nat} (h:N8 rs S):∃ T,N8 rs T∧∀ n ∈ bK rs,T n < (aK rs).length:=Qs _ S h ν
def iV (out:List Nat) (i:Nat):Nat:=out.getD i 0
theorem pJ {out:List Nat} {i j v:Nat} (h:i < out.length):iV (out.set i v) j=if i=j then v else iV out j:=by
 unfold iV;rw [List.getD_eq_getElem?_getD,List.getD_eq_getElem?_getD,List.getElem?_set];by_cases e:i=j
 ·subst e; rw [if_pos rfl,if_pos rfl,if_pos h]; rfl
 ·rw [if_neg e,if_neg e]
def kV (n:Nat) (y:ByteArray) (i k:Nat) (out:List Nat) (p:Pt):List Nat:=
 if p.atom.name=y then (if iV out i < iV out k+Cm p∧iV out i≤n then out.set i (iV out k+Cm p) else out) else out
def nP (y I:ByteArray) (i k:Nat) (out:List Nat):List Nat:=if I=y∧iV out i < iV out k then out.set i (iV out k) else out
def dV (rs:List Ru) (i:Nat):Ru:=rs.getD i ⟨⟨⟨#[]⟩,[]⟩,[]⟩
def xO (rs:List Ru) (i:Nat) (out:List Nat) (k:Nat):List Nat:=
 (dV rs i).body.foldl (kV rs.length (dV rs k).head.name i k) (nP (dV rs i).head.name (dV rs k).head.name i k out)
def Qu (rs:List Ru) (out:List Nat) (i:Nat):List Nat:=(List.range rs.length).foldl (xO rs i) out
def pY (rs:List Ru) (out:List Nat):List Nat:=(List.range rs.length).foldl (Qu rs) out
def zl (rs:List Ru):Nat→List Nat
 | 0=>List.replicate rs.length 0
 | m+1=>pY rs (zl rs m)
def ay (rs:List Ru):List Nat:=zl rs ((rs.length+1) * (rs.length+2))
def mP (rs:List Ru):Bool:=(ay rs).any fun x=>decide (rs.length≤x)
def Up (a b:List Nat):Prop:=b.length=a.length∧∀ i,iV a i≤iV b i
theorem Up.refl (a:List Nat):Up a a:=⟨rfl,fun _=>ν⟩
theorem Up.trans {a b c:List Nat} (h:Up a b) (k:Up b c):Up a c:=⟨k.1.trans h.1,fun i=>τ (h.2 i) (k.2 i)⟩
theorem Up.eq {a b:List Nat} (h:Up a b) (k:Up b a):a=b:=by
 refine List.ext_getElem h.1.symm fun i h1 y=>?_
 have I:iV a i=a[i]:=by unfold iV; rw [List.getD_eq_getElem?_getD,Ψ h1]; rfl
 have J:iV b i=b[i]:=by unfold iV; rw [List.getD_eq_getElem?_getD,Ψ y]; rfl
 have U:=h.2 i;have h4:=k.2 i;omega
theorem N9 {out:List Nat} {i v:Nat} (h:iV out i≤v):Up out (out.set i v):=by
 refine ⟨by simp,fun j=>?_⟩;by_cases y:i < out.length
 ·rw [pJ y]
  split
  ·rename_i e; subst e; exact h
  ·exact ν
 ·rw [List.set_eq_of_length_le (by omega)]; exact ν
theorem xP (n:Nat) (y:ByteArray) (i k:Nat) (out:List Nat) (p:Pt):Up out (kV n y i k out p):=by
 unfold kV
 split
 ·split
  ·rename_i h; exact N9 (by omega)
  ·exact Up.refl _
 ·exact Up.refl _
theorem Dj (y I:ByteArray) (i k:Nat) (out:List Nat):Up out (nP y I i k out):=by
 unfold nP
 split
 ·rename_i h; exact N9 (by omega)
 ·exact Up.refl _
theorem qx {β:Type} {f:List Nat→β→List Nat} (hf:∀ o x,Up o (f o x)):∀ (l:List β) (out:List Nat),Up out (l.foldl f out)
 | [],out=>Up.refl _
 | x :: r,out=>(hf out x).trans (qx hf r _)
theorem qW {β:Type} {f:List Nat→β→List Nat} (hf:∀ o x,Up o (f o x)):∀ (l:List β) (out:List Nat),l.foldl f out=out→∀ x ∈ l,f out x=out
 | [],_,_,x,I=>by simp at I
 | y :: r,out,h,x,I=>by
  have h1:=hf out y;have J:=qx hf r (f out y);rw [List.foldl_cons] at h;rw [h] at J;have e:=h1.eq J;rw [← e] at h
  rcases List.mem_cons.1 I with rfl | I
  ·exact e.symm
  ·exact qW hf r out h x I
theorem JY (rs:List Ru) (i:Nat) (out:List Nat) (k:Nat):Up out (xO rs i out k):=(Dj _ _ _ _ _).trans (qx (fun o x=>xP _ _ _ _ o x) _ _)
theorem Py (rs:List Ru) (out:List Nat) (i:Nat):Up out (Qu rs out i):=qx (fun o x=>JY rs i o x) _ _
theorem zn (rs:List Ru) (out:List Nat):Up out (pY rs out):=qx (fun o x=>Py rs o x) _ _
theorem Ht (rs:List Ru):∀ m,(zl rs m).length=rs.length
 | 0=>by simp [zl]
 | m+1=>by rw [zl,(zn rs _).1,Ht rs m]
theorem gG (rs:List Ru):(ay rs).length=rs.length:=Ht rs _
def Xu (rs:List Ru) (T:ByteArray→Nat) (out:List Nat):Prop:=∀ i,i < rs.length→iV out i≤T (dV rs i).head.name
theorem oL {rs:List Ru} {i:Nat} (h:i < rs.length):dV rs i ∈ rs:=by
 unfold dV;rw [List.getD_eq_getElem?_getD,Ψ h];exact δ h
theorem qX {α β:Type} {P:α→Prop} {f:α→β→α}:∀ {l:List β} {a:α},(∀ a x,x ∈ l→P a→P (f a x))→P a→P (l.foldl f a)
 | [],_,_,h=>h
 | x :: r,a,hf,h=>qX (l:=r) (fun a y I=>hf a y (Δ _ I)) (hf a x Γ h)
theorem Qv {rs:List Ru} {T:ByteArray→Nat} (hT:N8 rs T) {out:List Nat} (hl:out.length=rs.length) (h:Xu rs T out):(pY rs out).length=rs.length∧Xu rs T (pY rs out):=by
 unfold pY;refine qX (P:=fun o=>o.length=rs.length∧Xu rs T o) (fun o i hi J=>?_) ⟨hl,h⟩;have hi:=List.mem_range.1 hi;unfold Qu;refine qX (P:=fun o=>o.length=rs.length∧Xu rs T o) (fun o k U J=>?_) J;have U:=List.mem_range.1 U;unfold xO;refine qX (P:=fun o=>o.length=rs.length∧Xu rs T o) (fun o p hp J=>?_) ?_
 ·obtain ⟨h1,y⟩:=J
  refine ⟨by rw [(xP _ _ _ _ o p).1,h1],fun j I=>?_⟩;unfold kV
  split
  ·rename_i hn
   split
   ·rw [pJ (by omega)]
    split
    ·rename_i e
     subst e;have h3:=hT _ (oL hi) p hp (by rw [hn]; exact head_mem (oL U));have h4:=y k U;rw [hn] at h3;omega
    ·exact y j I
   ·exact y j I
  ·exact y j I
 ·obtain ⟨h1,y⟩:=J
  refine ⟨by rw [(Dj _ _ _ _ o).1,h1],fun j I=>?_⟩;unfold nP
  split
  ·rename_i hc
   rw [pJ (by omega)]
   split
   ·rename_i e
    subst e;rw [← hc.1];exact y k U
   ·exact y j I
  ·exact y j I
theorem TV {rs:List Ru} {T:ByteArray→Nat} (y:N8 rs T):∀ m,Xu rs T (zl rs m)
 | 0=>fun i I=>by
  have:iV (zl rs 0) i=0:=by unfold zl iV; rw [List.getD_eq_getElem?_getD,List.getElem?_replicate]; split <;> rfl
  omega
 | m+1=>(Qv y (Ht rs m) (TV y m)).2
theorem Dk {rs:List Ru} {T:ByteArray→Nat} (y:N8 rs T):Xu rs T (ay rs):=TV y _
def Closed (rs:List Ru) (out:List Nat):Prop:=∀ i,i < rs.length→∀ k,k < rs.length→
 ((dV rs k).head.name=(dV rs i).head.name→iV out k≤iV out i)∧∀ p ∈ (dV rs i).body,p.atom.name=(dV rs k).head.name→iV out k+Cm p≤iV out i
theorem zo {out:List Nat} {i v:Nat} (h:i < out.length) (e:out.set i v=out):iV out i=v:=by
 have:=pJ (j:=i) (v:=v) h;rw [e,if_pos rfl] at this;exact this
theorem Qw {rs:List Ru} {out:List Nat} (hl:out.length=rs.length) (hs:pY rs out=out) (hn:∀ i,i < rs.length→iV out i≤rs.length):Closed rs out:=by
 intro i hi k hk;have h1:=qW (fun o x=>Py rs o x) _ _ hs i (List.mem_range.2 hi);have I:=qW (fun o x=>JY rs i o x) _ _ h1 k (List.mem_range.2 hk)
 have J:nP (dV rs i).head.name (dV rs k).head.name i k out=out:=by
  have a1:=Dj (dV rs i).head.name (dV rs k).head.name i k out;have a2:=qx (fun o x=>xP rs.length (dV rs k).head.name i k o x) (dV rs i).body (nP (dV rs i).head.name (dV rs k).head.name i k out);unfold xO at I;rw [I] at a2;exact (a1.eq a2).symm
 unfold xO at I;rw [J] at I;have h4:=qW (fun o x=>xP rs.length (dV rs k).head.name i k o x) _ _ I;refine ⟨fun e=>?_,fun p hp e=>?_⟩
 ·refine Nat.le_of_not_lt fun y=>?_
  unfold nP at J;rw [if_pos ⟨e,y⟩] at J;have:=zo (by omega) J;omega
 ·refine Nat.le_of_not_lt fun y=>?_
  have U:=h4 p hp;unfold kV at U;rw [if_pos e,if_pos ⟨y,hn i hi⟩] at U;have:=zo (by omega) U;omega
theorem TW {a b:List Nat} (h:Up a b) (I:b ≠ a):a.sum < b.sum:=by
 have key:∀ (a b:List Nat),b.length=a.length→(∀ i,iV a i≤iV b i)→a.sum≤b.sum∧(b ≠ a→a.sum < b.sum):=by
  intro a
  induction a with
  | nil=>intro b U _; have:b = []:=List.length_eq_zero_iff.1 U; subst this; exact ⟨ν,fun h=>absurd rfl h⟩
  | cons x xs ih=>
   intro b U J
   cases b with
   | nil=>simp at U
   | cons y ys=>
    have h0:x≤y:=J 0;have h1:∀ i,iV xs i≤iV ys i:=fun i=>J (i+1)
    obtain ⟨i1,i2⟩:=ih ys (by simpa using U) h1;simp only [List.sum_cons];refine ⟨by omega,fun I=>?_⟩;by_cases e:ys=xs
    ·have:y ≠ x:=fun e2=>I (by rw [e,e2])
     omega
    ·have:=i2 e; omega
 exact (key a b h.1 h.2).2 I
theorem FW {out:List Nat} {n:Nat} (h:∀ i,i < out.length→iV out i≤n):out.sum≤out.length * n:=by
 induction out with
 | nil=>simp
 | cons x xs ih=>
  have h0:x≤n:=h 0 (by simp);have h1:=ih fun i y=>h (i+1) (by simp; omega)
  simp only [List.sum_cons,List.length_cons,Nat.add_mul];omega
theorem Yt (rs : List Ru) : ∀ {m k : Nat}, m ≤ k → Up (zl rs m) (zl rs k) := by
  intro m k h
  induction k with
  | zero => obtain rfl : m = 0 := by omega
            exact Up.refl _
  | succ k ih =>
    by_cases e : m = k + 1
    · subst e; exact Up.refl _
    · exact (ih (by omega)).trans (zn rs _)
theorem TY (rs : List Ru) {m : Nat} (h : pY rs (zl rs m) = zl rs m) : ∀ k, m ≤ k → zl rs k = zl rs m := by
  intro k y
  induction k with
  | zero => obtain rfl : m = 0 := by omega
            rfl
  | succ k ih =>
    by_cases e : m = k + 1
    · rw [e]
    · rw [zl, ih (by omega), h]
theorem JZ (rs:List Ru):(∃ i,i < rs.length∧rs.length < iV (ay rs) i)∨Closed rs (ay rs):=by
 by_cases U:∃ i,i < rs.length∧rs.length < iV (ay rs) i
 ·exact .inl U
 ·have y:∀ i,i < rs.length→iV (ay rs) i≤rs.length:=fun i hi=>Nat.le_of_not_lt fun h=>U ⟨i,hi,h⟩
  by_cases hs:pY rs (ay rs)=ay rs
  ·exact .inr (Qw (gG rs) hs y)
  ·exfalso
   have J:∀ m,m≤(rs.length+1) * (rs.length+2)→m≤(zl rs m).sum:=by
    intro m
    induction m with
    | zero=>intro _; exact ε
    | succ m ih=>
     intro hm;have h1:=ih (by omega)
     have I:pY rs (zl rs m) ≠ zl rs m:=fun e=>by
      have:=TY rs e _ (show m≤(rs.length+1) * (rs.length+2) by omega);refine hs ?_;unfold ay;rw [this];exact e
     have h3:=TW (zn rs (zl rs m)) I;show m+1≤(pY rs (zl rs m)).sum;omega
   have h1:=J _ ν;have I:=FW (out:=ay rs) (n:=rs.length) (by rw [gG]; exact y);rw [gG] at I
   have h3:rs.length * rs.length < (rs.length+1) * (rs.length+2):=by
    have:(rs.length+1) * (rs.length+2)=rs.length * rs.length+3 * rs.length+2:=by
     rw [Nat.add_mul,Nat.mul_add]; omega
    omega
   unfold ay at I;omega
def iU (rs:List Ru) (n:ByteArray):Nat:=iV (ay rs) ((bK rs).idxOf n)
theorem Qx {rs:List Ru} {out:List Nat} (h:Closed rs out) {i k:Nat} (y:i < rs.length) (I:k < rs.length) (e:(dV rs k).head.name=(dV rs i).head.name):iV out k=iV out i:=
 Nat.le_antisymm ((h i y k I).1 e) ((h k I i y).1 e.symm)
theorem J3 {rs:List Ru} {n:ByteArray} (h:n ∈ bK rs):(bK rs).idxOf n < rs.length∧(dV rs ((bK rs).idxOf n)).head.name=n:=by
 have h1:=List.idxOf_lt_length_of_mem h;have I:=List.getElem_idxOf h1;have h3:(bK rs).length=rs.length:=by simp [bK]
 refine ⟨by omega,?_⟩;have y:(bK rs).idxOf n < rs.length:=by omega
 have J:dV rs ((bK rs).idxOf n)=rs[(bK rs).idxOf n]:=by
  unfold dV;rw [List.getD_eq_getElem?_getD,Ψ y]; rfl
 have U:∀ i (h:i < rs.length) (h':i < (bK rs).length),(bK rs)[i]=rs[i].head.name:=fun i h h'=>by simp [bK]
 rw [J,← U _ y h1,I]
theorem oM {rs:List Ru} (h:Closed rs (ay rs)):N8 rs (iU rs)∧∀ i,i < rs.length→iV (ay rs) i=iU rs (dV rs i).head.name:=by
 have he:∀ i,i < rs.length→iV (ay rs) i=iU rs (dV rs i).head.name:=fun i y=>by
  obtain ⟨h1,I⟩:=J3 (head_mem (oL y));unfold iU;exact Qx h h1 y I.symm
 refine ⟨fun r hr p U hh=>?_,he⟩;obtain ⟨i,y,rfl⟩:=List.mem_iff_getElem.1 hr;have er:dV rs i=rs[i]:=by unfold dV; rw [List.getD_eq_getElem?_getD,Ψ y]; rfl
 obtain ⟨h1,I⟩:=J3 hh;have h3:=(h i y _ h1).2 p (by rw [er]; exact U) I.symm;have J:=he i y;rw [er] at J;rw [← J];exact h3
theorem Xv {rs:List Ru} (h:mP rs=true) (S:ByteArray→Nat):¬ N8 rs S:=by
 intro U;obtain ⟨T,hT,hs⟩:=FV U;unfold mP at h;obtain ⟨x,hx,y⟩:=List.any_eq_true.1 h;have y:=of_decide_eq_true y;obtain ⟨i,J,rfl⟩:=List.mem_iff_getElem.1 hx;have I:i < rs.length:=by rw [gG] at J; exact J
 have h1:=Dk hT i I;have h2:=hs _ (head_mem (oL I));have h3:=Di rs;have e:iV (ay rs) i=(ay rs)[i]:=by unfold iV; rw [List.getD_eq_getElem?_getD,Ψ J]; rfl
 omega
theorem Oa {rs:List Ru} (h:mP rs=false):Closed rs (ay rs):=by
 refine (JZ rs).resolve_left fun ⟨i,I,hn⟩=>?_
 unfold mP at h;have y:i < (ay rs).length:=by rw [gG]; exact I
 have e:iV (ay rs) i=(ay rs)[i]:=by unfold iV; rw [List.getD_eq_getElem?_getD,Ψ y]; rfl
 have:=List.any_eq_false.1 h (ay rs)[i] (δ y);simp at this;omega
theorem Qy {rs:List Ru} (h:∀ S,¬ N8 rs S):mP rs=true:=by
 cases hc:mP rs
 ·exact absurd (oM (Oa hc)).1 (h _)
 ·rfl
theorem zq {rs:List Ru} {S:ByteArray→Nat} (h:N8 rs S):mP rs=false:=by
 cases hc:mP rs
 ·rfl
 ·exact absurd h (Xv hc S)
theorem Ua {rs:List Ru} {S:ByteArray→Nat} (h:N8 rs S) (I:∀ T,N8 rs T→∀ n ∈ bK rs,S n≤T n):∀ i,i < rs.length→S (dV rs i).head.name=iV (ay rs) i:=fun i y=>by
 have hc:=oM (Oa (zq h));have h1:=I _ hc.1 _ (head_mem (oL y));have J:=Dk h i y;have U:=hc.2 i y;omega
abbrev Bd:=List (ByteArray × ByteArray)
def gq:Bd→ByteArray→Option ByteArray
 | [],_=>none
 | p :: b,n=>if p.1=n then some p.2 else gq b n
def jv (b:Bd) (n:ByteArray):ByteArray:=(gq b n).getD ⟨#[]⟩
def cZ:List T→List T→Bd→Bd × Bool
 | t :: ts,f :: fs,b=>
  if t.var then
   match gq b t.name with
   | some v=>if v=f.name then cZ ts fs b else (b,false)
   | none=>cZ ts fs (b ++ [(t.name,f.name)])
  else if t.name=f.name then cZ ts fs b else (b,false)
 | _,_,b=>(b,true)
def aF (a f:A) (b:Bd):Bd × Bool:=if a.name=f.name∧a.args.length=f.args.length then cZ a.args f.args b else (b,false)
def dK (b:Bd) (t:T):T:=⟨false,if t.var then jv b t.name else t.name⟩
def cu (a:A) (b:Bd):A:=⟨a.name,a.args.map (dK b)⟩
def jB:Rel Bd:=fun w cs b bs=>∃ s v y I,cs = [s,v]∧bs=y ++ I∧jK w [s] (b.map (·.1)) y∧jK w [v] (b.map (·.2)) I
theorem dh:Good jB:=
 ⟨fun h J=>by
   obtain ⟨s,v,U,b2,h1,rfl,y,I⟩:=h
   exact ⟨s,v,U,b2,h1,rfl,bY.keep y fun b hb=>J b (Ξ _ hb),bY.keep I fun b hb=>J b (Ω _ hb)⟩,
  fun h b hb=>by
   obtain ⟨s,v,U,b2,h1,rfl,y,I⟩:=h
   rcases μ.1 hb with hb | hb
   ·exact bY.lt y b hb
   ·exact bY.lt I b hb⟩
def tH:Rel (List Bd):=iO 2 jB
theorem ni:Good tH:=iK dh (by omega)
end Go.Proofs.YtkjinanbccloeaaGreatDoor.D
