/- Of the proof of FnExactProofOk: VarP, Open, SplP, Term, Txt, CopyA, Eq. -/
import Derived.Lib.SplitLaws
import Derived.Test.YtlmngncogomgeaaGreatDoorM03
import Derived.Test.YtlmngncogomgeaaGreatDoorM04
set_option linter.unusedVariables false
set_option maxHeartbeats 1000000
namespace Go.Proofs.YtlmngncogomgeaaGreatDoor
namespace D
open Go.RowKit
def jM:List ByteArray→ByteArray→List ByteArray
 | [],s=>[s]
 | x :: xs,s=>if fA x s < 0 then x :: jM xs s else if fA x s=0 then x :: xs else s :: x :: xs
def lq:List ByteArray→ByteArray→Nat
 | [],_=>0
 | x :: xs,s=>if fA x s < 0 then lq xs s+1 else 0
def qR (xs:List ByteArray):Prop:=xs.Pairwise fun a b=>fA a b < 0
theorem QG:∀ (xs:List ByteArray) (s:ByteArray),lq xs s≤xs.length
 | [],_=>ν
 | x :: xs,s=>by
  unfold lq; have:=QG xs s
  split
  ·simpa using this
  ·simp
theorem QI:∀ (xs:List ByteArray) (s:ByteArray) (k:Nat) (h:k < xs.length),k < lq xs s→fA xs[k] s < 0
 | x :: xs,s,0,_,hk=>by
  unfold lq at hk
  split at hk
  ·assumption
  ·omega
 | x :: xs,s,k+1,h,hk=>by
  unfold lq at hk
  split at hk
  ·exact QI xs s k (by simpa using h) (by omega)
  ·omega
theorem KN:∀ (xs:List ByteArray) (s:ByteArray) (h:lq xs s < xs.length),¬ fA xs[lq xs s] s < 0
 | x :: xs,s,h=>by
  by_cases hc:fA x s < 0
  ·have e:lq (x :: xs) s=lq xs s+1:=by rw [lq,if_pos hc]
   have y:lq xs s < xs.length:=by rw [e] at h; simpa using h
   have:=KN xs s y;simp only [e,List.getElem_cons_succ];exact this
  ·have e:lq (x :: xs) s=0:=by rw [lq,if_neg hc]
   simp only [e,List.getElem_cons_zero];exact hc
theorem Ic:∀ (xs:List ByteArray) (s:ByteArray) (h:lq xs s < xs.length),fA xs[lq xs s] s=0→jM xs s=xs
 | x :: xs,s,h,h0=>by
  unfold jM;by_cases hc:fA x s < 0
  ·have e:lq (x :: xs) s=lq xs s+1:=by rw [lq,if_pos hc]
   have y:lq xs s < xs.length:=by rw [e] at h; simpa using h
   simp only [e,List.getElem_cons_succ] at h0;rw [if_pos hc,Ic xs s y h0]
  ·have e:lq (x :: xs) s=0:=by rw [lq,if_neg hc]
   simp only [e,List.getElem_cons_zero] at h0;rw [if_neg hc,if_pos h0]
theorem BF:∀ (xs:List ByteArray) (s:ByteArray),(∀ h:lq xs s < xs.length,fA xs[lq xs s] s ≠ 0)→jM xs s=xs.take (lq xs s) ++ [s] ++ xs.drop (lq xs s)
 | [],s,_=>by simp [jM,lq]
 | x :: xs,s,h=>by
  unfold jM;by_cases hc:fA x s < 0
  ·have e:lq (x :: xs) s=lq xs s+1:=by rw [lq,if_pos hc]
   have ih:=BF xs s (fun y=>by
    have:=h (by rw [e]; simpa using y);simp only [e,List.getElem_cons_succ] at this
    exact this)
   rw [if_pos hc,ih,e]; simp
  ·have e:lq (x :: xs) s=0:=by rw [lq,if_neg hc]
   have:=h (by rw [e]; simp);simp only [e,List.getElem_cons_zero] at this;rw [if_neg hc,if_neg this,e]; simp
theorem BG:∀ (xs:List ByteArray) (s x:ByteArray),x ∈ jM xs s ↔ x ∈ xs∨x=s
 | [],s,x=>by simp [jM]
 | y :: xs,s,x=>by
  unfold jM
  split
  ·rw [ύ,BG xs s x,ύ,or_assoc]
  ·split
   ·rename_i h
    have:=(gK.eq _ _).1 h;subst this;simp only [ύ];constructor
    ·exact .inl
    ·rintro (h | h)
     ·exact h
     ·exact .inl h
   ·simp only [ύ]
    constructor
    ·rintro (h | h | h)
     ·exact .inr h
     ·exact .inl (.inl h)
     ·exact .inl (.inr h)
    ·rintro ((h | h) | h)
     ·exact .inr (.inl h)
     ·exact .inr (.inr h)
     ·exact .inl h
theorem Ie:∀ {xs:List ByteArray} (s:ByteArray),qR xs→qR (jM xs s)
 | [],s,_=>by unfold jM qR; exact List.pairwise_singleton _ _
 | x :: xs,s,h=>by
  unfold jM;have J:=List.pairwise_cons.1 h
  split
  ·rename_i hc
   exact List.pairwise_cons.2 ⟨fun y I=>((BG xs s y).1 I).elim (J.1 y) (fun e=>e ▸ hc),Ie s J.2⟩
  ·rename_i hc
   split
   ·exact h
   ·rename_i hn
    have U:fA s x < 0:=by have:=gK.anti x s; omega
    refine List.pairwise_cons.2 ⟨fun y I=>?_,h⟩
    rcases ύ.1 I with rfl | I
    ·exact U
    ·exact gK.nG U (by have:=J.1 y I; omega)
theorem QJ (xs:List ByteArray) (s:ByteArray):(jM xs s).length≤xs.length+1:=by
 induction xs with
 | nil=>simp [jM]
 | cons x xs ih=>
  unfold jM
  split
  ·simp; exact ih
  ·split <;> simp
theorem uY {xs:List ByteArray} (h:qR xs):xs.Nodup:=h.imp fun {a b} y e=>by subst e; have:=gK.refl a; omega
theorem qU:qR []:=List.Pairwise.nil
def jV (a:A) (out:List ByteArray):List ByteArray:=a.args.foldl (fun o t=>if t.var then jM o t.name else o) out
def dU (ps:List Pt) (out:List ByteArray):List ByteArray:=ps.foldl (fun o p=>jV p.atom o) out
def eG (h:A) (ps:List Pt):Bool:=decide ((dU ps (jV h [])).length=(dU (ps.filter fun p=>!p.no) []).length)
def ax (ps:List Pt):List ByteArray:=dU ps []
def jL (x:ByteArray) (y:List T):Prop:=∃ t ∈ y,t.var=true∧t.name=x
theorem BH:∀ (I:List T) (out:List ByteArray) (x:ByteArray),x ∈ I.foldl (fun o t=>if t.var then jM o t.name else o) out ↔ x ∈ out∨jL x I
 | [],out,x=>by simp [jL]
 | t :: I,out,x=>by
  rw [List.foldl_cons,BH I];unfold jL;cases hv:t.var
  ·rw [if_neg (by simp)]
   constructor
   ·rintro (h | ⟨u,h1,y⟩)
    ·exact .inl h
    ·exact .inr ⟨u,Δ _ h1,y⟩
   ·rintro (h | ⟨u,h1,y⟩)
    ·exact .inl h
    ·rcases ύ.1 h1 with rfl | h1
     ·rw [hv] at y; simp at y
     ·exact .inr ⟨u,h1,y⟩
  ·rw [if_pos rfl,BG]
   constructor
   ·rintro ((h | h) | ⟨u,h1,y⟩)
    ·exact .inl h
    ·exact .inr ⟨t,Γ,hv,h.symm⟩
    ·exact .inr ⟨u,Δ _ h1,y⟩
   ·rintro (h | ⟨u,h1,y⟩)
    ·exact .inl (.inl h)
    ·rcases ύ.1 h1 with rfl | h1
     ·exact .inl (.inr y.2.symm)
     ·exact .inr ⟨u,h1,y⟩
theorem yG (a:A) (out:List ByteArray) (x:ByteArray):x ∈ jV a out ↔ x ∈ out∨jL x a.args:=BH _ _ _
theorem BI:∀ (y:List T) {out:List ByteArray},qR out→qR (y.foldl (fun o t=>if t.var then jM o t.name else o) out)
 | [],_,h=>h
 | t :: y,out,h=>by
  rw [List.foldl_cons];refine BI y ?_
  split
  ·exact Ie _ h
  ·exact h
theorem Eb (a:A) {out:List ByteArray} (h:qR out):qR (jV a out):=BI _ h
theorem uZ:∀ (y:List T) (out:List ByteArray),(y.foldl (fun o t=>if t.var then jM o t.name else o) out).length≤out.length+y.length
 | [],out=>by simp
 | t :: y,out=>by
  rw [List.foldl_cons];have h1:=uZ y (if t.var then jM out t.name else out)
  have I:(if t.var then jM out t.name else out).length≤out.length+1:=by
   split
   ·exact QJ _ _
   ·omega
  simp only [List.length_cons];omega
theorem Ec (a:A) (out:List ByteArray):(jV a out).length≤out.length+a.args.length:=uZ _ _
theorem gu:∀ (ps:List Pt) (out:List ByteArray) (x:ByteArray),x ∈ dU ps out ↔ x ∈ out∨∃ p ∈ ps,jL x p.atom.args
 | [],out,x=>by simp [dU]
 | p :: ps,out,x=>by
  have e:dU (p :: ps) out=dU ps (jV p.atom out):=rfl;rw [e,gu ps,yG];constructor
  ·rintro ((h | h) | ⟨q,h1,y⟩)
   ·exact .inl h
   ·exact .inr ⟨p,Γ,h⟩
   ·exact .inr ⟨q,Δ _ h1,y⟩
  ·rintro (h | ⟨q,h1,y⟩)
   ·exact .inl (.inl h)
   ·rcases ύ.1 h1 with rfl | h1
    ·exact .inl (.inr y)
    ·exact .inr ⟨q,h1,y⟩
theorem kX:∀ (ps:List Pt) {out:List ByteArray},qR out→qR (dU ps out)
 | [],_,h=>h
 | p :: ps,out,h=>by
  have e:dU (p :: ps) out=dU ps (jV p.atom out):=rfl;rw [e]; exact kX ps (Eb _ h)
theorem mO:∀ (ps:List Pt) (out:List ByteArray),(dU ps out).length≤out.length+dh (fun p=>p.atom.args.length) ps
 | [],out=>by simp [dU]
 | p :: ps,out=>by
  have e:dU (p :: ps) out=dU ps (jV p.atom out):=rfl;have h1:=mO ps (jV p.atom out);have I:=Ec p.atom out;have y:dh (fun p:Pt=>p.atom.args.length) (p :: ps)=p.atom.args.length+dh (fun p=>p.atom.args.length) ps:=by simp [dh]
  rw [e,y];omega
theorem Ig (ps:List Pt) (k:Nat) (h:k < ps.length) (out:List ByteArray):dU (ps.take (k+1)) out=jV ps[k].atom (dU (ps.take k) out):=by
 unfold dU; rw [ρ h,List.foldl_append]; rfl
theorem KO (a:A) (k:Nat) (h:k < a.args.length) (out:List ByteArray):
  (a.args.take (k+1)).foldl (fun o t=>if t.var then jM o t.name else o) out=(if a.args[k].var then jM ((a.args.take k).foldl (fun o t=>if t.var then jM o t.name else o) out) a.args[k].name else (a.args.take k).foldl (fun o t=>if t.var then jM o t.name else o) out):=by
 rw [ρ h,List.foldl_append]; rfl
theorem Ih (ps:List Pt) (k:Nat) (h:k < ps.length):(ps.take (k+1)).filter (fun p=>!p.no)=(ps.take k).filter (fun p=>!p.no) ++ (if ps[k].no then [] else [ps[k]]):=by
 rw [ρ h,List.filter_append]
 congr 1
 cases hn:ps[k].no <;> simp [hn]
theorem Nv:∀ {xs ys:List ByteArray},xs.Nodup→(∀ x ∈ xs,x ∈ ys)→ys.length≤xs.length→∀ y ∈ ys,y ∈ xs
 | [],ys,_,_,hl,y,hy=>by
  have:ys = []:=List.length_eq_zero_iff.1 (by simpa using hl);subst this; simp at hy
 | x :: xs,ys,hn,hs,hl,y,hy=>by
  have hx:=hs x Γ;obtain ⟨l,r,rfl⟩:=List.append_of_mem hx;have I:=List.nodup_cons.1 hn
  have ih:=Nv (xs:=xs) (ys:=l ++ r) I.2 (fun z U=>by
   have:=hs z (Δ _ U);have J:z ≠ x:=fun e=>I.1 (e ▸ U)
   rcases μ.1 this with h | h
   ·exact μ.2 (.inl h)
   ·rcases ύ.1 h with h | h
    ·exact absurd h J
    ·exact μ.2 (.inr h)) (by simp at hl ⊢; omega)
  by_cases e:y=x
  ·exact e ▸ Γ
  ·refine Δ _ (ih y ?_)
   rcases μ.1 hy with h | h
   ·exact μ.2 (.inl h)
   ·rcases ύ.1 h with h | h
    ·exact absurd h e
    ·exact μ.2 (.inr h)
theorem vg:∀ {xs ys:List ByteArray},xs.Nodup→(∀ x ∈ xs,x ∈ ys)→xs.length≤ys.length
 | [],ys,_,_=>ε
 | x :: xs,ys,hn,hs=>by
  have U:=hs x Γ;obtain ⟨l,r,rfl⟩:=List.append_of_mem U;have y:=List.nodup_cons.1 hn
  have ih:=vg (xs:=xs) (ys:=l ++ r) y.2 (fun z J=>by
   have:=hs z (Δ _ J);have I:z ≠ x:=fun e=>y.1 (e ▸ J)
   rcases μ.1 this with h | h
   ·exact μ.2 (.inl h)
   ·rcases ύ.1 h with h | h
    ·exact absurd h I
    ·exact μ.2 (.inr h))
  simp at ih ⊢; omega
def iH (ps:List Pt) (x:ByteArray):Bool:=ps.any fun p=>!p.no && p.atom.args.any fun t=>t.var && decide (fA t.name x=0)
def fJ (ps:List Pt) (a:A):Bool:=a.args.all fun t=>!t.var || iH ps t.name
def qV (ps:List Pt):Bool:=!ps.all fun p=>fJ ps p.atom
theorem mP (ps:List Pt) (x:ByteArray):iH ps x=true ↔ x ∈ dU (ps.filter fun p=>!p.no) []:=by
 rw [gu];unfold iH jL;simp only [List.any_eq_true,ο,Bool.not_eq_true',decide_eq_true_eq,gK.eq,List.mem_filter,List.not_mem_nil,false_or];constructor
 ·rintro ⟨p,h1,y,t,I,J,U⟩
  exact ⟨p,⟨h1,y⟩,t,I,J,U⟩
 ·rintro ⟨p,⟨h1,y⟩,t,I,J,U⟩
  exact ⟨p,h1,y,t,I,J,U⟩
theorem pW (ps:List Pt) (a:A):fJ ps a=true ↔ ∀ x,jL x a.args→iH ps x=true:=by
 unfold fJ jL;rw [ό];constructor
 ·rintro h x ⟨t,h1,y,rfl⟩
  have:=h t h1;rw [y] at this;simpa using this
 ·intro h t I
  cases hv:t.var
  ·rfl
  ·rw [h t.name ⟨t,I,hv,rfl⟩]; rfl
theorem Ed (h:A) (ps:List Pt):eG h ps=true ↔ (∀ x,jL x h.args→iH ps x=true)∧qV ps=false:=by
 unfold eG qV;rw [decide_eq_true_iff];have U:=uY (kX (ps.filter fun p=>!p.no) qU);have a0:=uY (kX ps (Eb h qU))
 have I:∀ x ∈ dU (ps.filter fun p=>!p.no) [],x ∈ dU ps (jV h []):=fun x y=>by
  rw [gu] at y ⊢
  rcases y with y | ⟨p,hp,y⟩
  ·simp at y
  ·exact .inr ⟨p,(List.mem_filter.1 hp).1,y⟩
 simp only [Bool.not_eq_false',ό,pW];constructor
 ·intro hl
  have J:=Nv U I (Nat.le_of_eq hl);refine ⟨fun x y=>(mP ps x).2 (J x ((gu ..).2 (.inl ((yG ..).2 (.inr y))))),fun p hp x y=>(mP ps x).2 (J x ((gu ..).2 (.inr ⟨p,hp,y⟩)))⟩
 ·rintro ⟨h1,h2⟩
  refine Nat.le_antisymm (vg a0 fun x y=>?_) (vg U I)
  rcases (gu ..).1 y with y | ⟨p,hp,y⟩
  ·rcases (yG ..).1 y with y | y
   ·simp at y
   ·exact (mP ps x).1 (h1 x y)
  ·exact (mP ps x).1 (h2 p hp x y)
end D
namespace D
open Go.RowKit Go.Deep Go.ChangeShapes Go.WideShapes
def Opens {α:Type} (P:Program) (e:TypeId) (R:Rel α):Prop:=
 ∀ (H:Type) (enc:TypeId × Value→H) (w:World) (spare:Nat→Bool) (held:Bool) (fuel:Nat) (cs:List Value) (y:DataW H × List MemPlace),
  DataW.trod enc P w 0 spare held fuel e cs=some y→∃ x I,R w cs x I
theorem nO {α:Type} {P:Program} {t e:TypeId} {n:Nat} {R:Rel α} (ht:P.underlying t=some (.slice e)) (hC:P.cellsOf e=n) (hn:0 < n) (hR:Opens P e R):Opens P t (fK n R):=by
 intro H enc w spare held fuel cs y h
 rcases open_slice ht h with ⟨rfl,_⟩ | ⟨a,len,cap,m,n',Dd,Pl,rfl,_,hl,hm,a2,_,hi⟩
 ·exact ⟨[],[],none,0,rfl,ν,by unfold maxLen; omega,fun _=>rfl,fun h=>absurd rfl h⟩
 ·have a5:len≤m:=by rw [a2]; split <;> omega
  by_cases h0:len=0
  ·subst h0
   exact ⟨[],[],some a,cap,rfl,hl,hm,fun _=>rfl,fun h=>absurd rfl h⟩
  ·have hex:∀ k,k < len→∃ p:List Value × α × List Nat,p.1.length=n∧(∀ j v,p.1[j]? = some v→w.cell? (a.add (k * n+j))=some v)∧R w p.1 p.2.1 p.2.2:=by
    intro k hk;obtain ⟨U,hc,a3⟩:=hi k (by omega);rw [hC] at hc;obtain ⟨_,hlen,J⟩:=World.cells?_some hc;obtain ⟨x,bs,hx⟩:=hR H enc w spare held n' U _ a3;refine ⟨(U,x,bs),hlen,fun j v hv=>?_,hx⟩
    have a4:j < n:=by
     have:=(List.getElem?_eq_some_iff.1 hv).1;dsimp only at this;omega
    have:=J j a4;rw [add_add] at this;rw [this]; exact hv
   obtain ⟨p0,_⟩:=hex 0 (by omega);haveI:Inhabited (List Value × α × List Nat):=⟨p0⟩;obtain ⟨f,hf⟩:=choose_lt hex
   have a0:a.spot=none:=by
    obtain ⟨q1,q2,_⟩:=hf 0 (by omega);obtain ⟨v,hv⟩:∃ v,(f 0).1[0]? = some v:=⟨_,Ψ (by omega)⟩;have h1:=q2 0 v hv;have h2:a.add (0 * n+0)=a:=by simp [Addr.add]
    rw [h2] at h1;exact World.cell?_spot h1
   obtain ⟨b,o,sp⟩:=a;dsimp only at a0;subst a0
   have a1:∀ i,(⟨b,o,none⟩:Addr).add i=⟨b,o+i,none⟩:=by
    intro i; unfold Addr.add; split <;> simp_all
   have I:((List.range len).map fun k=>(f k).2.1).length=len:=by simp
   refine ⟨(List.range len).map fun k=>(f k).2.1,b :: (List.range len).flatMap fun k=>(f k).2.2,some ⟨b,o,none⟩,cap,by rw [I],by rw [I]; exact hl,hm,fun h=>?_,fun _=>⟨b,o,rfl,fun k=>(f k).1,fun k=>(f k).2.2,by rw [I],fun k x hx=>?_⟩⟩
   ·have:=congrArg List.length h; rw [I] at this; exact absurd this h0
   ·obtain ⟨hk,rfl⟩:=List.getElem?_eq_some_iff.1 hx
    rw [I] at hk;obtain ⟨q1,q2,q3⟩:=hf k hk;refine ⟨q1,fun j v hv=>?_,?_⟩
    ·rw [← a1]; exact q2 j v hv
    ·simp only [List.getElem_map,List.getElem_range]; exact q3
theorem Vf {P:Program} {t:TypeId} (J:P.underlying t=some (.int .u8)):Opens P t VK:=by
 intro H enc w spare held fuel cs y h;obtain ⟨n,rfl,_,I⟩:=DataW.trod_int J h;simp only [Lit.wf,IntKind.min,IntKind.max,IntKind.signed,IntKind.bits] at I;simp at I;exact ⟨UInt8.ofNat n.toNat,[],by simp; omega,rfl⟩
section
variable {P:Program}
theorem KP {t:TypeId} {I J:Field} (ht:P.underlying t=some (.struct #[I,J])) (hC:P.cellsOf t=2) (h0:P.underlying I.type=some .bool) (h1:P.underlying J.type=some .string)
  (c0:P.cellsOf I.type=1) (c1:P.cellsOf J.type=1) (o0:I.offset=0) (o1:J.offset=1):Opens P t kQ:=by
 intro H enc w spare held fuel cs y h;obtain ⟨y0,y1,n,rfl,U,t0,t1⟩:=trod_struct2 ht h;rw [hC] at U
 match cs,U with
 | [a,b],_=>
  rw [c0,o0] at t0;rw [c1,o1] at t1;obtain ⟨x0,e0,_⟩:=DataW.trod_bool h0 t0;obtain ⟨x1,e1,_,hs⟩:=DataW.trod_string h1 t1;simp at e0 e1;subst e0 e1;exact ⟨⟨x0,x1⟩,[],rfl,hs,rfl⟩
theorem KQ {t:TypeId} {I J:Field} (ht:P.underlying t=some (.struct #[I,J])) (hC:P.cellsOf t=2) (h0:P.underlying I.type=some .string) (h1:Opens P J.type fD)
  (c0:P.cellsOf I.type=1) (c1:P.cellsOf J.type=1) (o0:I.offset=0) (o1:J.offset=1):Opens P t aP:=by
 intro H enc w spare held fuel cs y h;obtain ⟨y0,y1,n,rfl,U,t0,t1⟩:=trod_struct2 ht h;rw [hC] at U
 match cs,U with
 | [a,b],_=>
  rw [c0,o0] at t0;rw [c1,o1] at t1;obtain ⟨x0,e0,_,hs⟩:=DataW.trod_string h0 t0;obtain ⟨x1,bs,hx⟩:=h1 H enc w spare held n _ _ t1;simp at e0;subst e0;exact ⟨⟨x0,x1⟩,bs,b,rfl,hs,by simpa using hx⟩
theorem KR {t:TypeId} {J U:Field} (ht:P.underlying t=some (.struct #[J,U])) (hC:P.cellsOf t=3) (h0:P.underlying J.type=some .bool) (h1:Opens P U.type aP)
  (c0:P.cellsOf J.type=1) (c1:P.cellsOf U.type=2) (o0:J.offset=0) (o1:U.offset=1):Opens P t nC:=by
 intro H enc w spare held fuel cs y h;obtain ⟨y0,y1,n,rfl,hl,t0,t1⟩:=trod_struct2 ht h;rw [hC] at hl
 match cs,hl with
 | [a,b,c],_=>
  rw [c0,o0] at t0;rw [c1,o1] at t1;obtain ⟨x0,e0,_⟩:=DataW.trod_bool h0 t0;obtain ⟨x1,bs,s,I,hs,hx⟩:=h1 H enc w spare held n _ _ t1;simp at e0 I;obtain ⟨rfl,rfl⟩:=I;subst e0;exact ⟨⟨x0,x1⟩,bs,c,rfl,hs,hx⟩
theorem KT {t:TypeId} {f0 f1:Field} (ht:P.underlying t=some (.struct #[f0,f1])) (hC:P.cellsOf t=3) (h0:Opens P f0.type aP) (h1:Opens P f1.type gJ)
  (c0:P.cellsOf f0.type=2) (c1:P.cellsOf f1.type=1) (o0:f0.offset=0) (o1:f1.offset=2):Opens P t jk:=by
 intro H enc w spare held fuel cs y h;obtain ⟨y0,y1,n,rfl,hl,t0,t1⟩:=trod_struct2 ht h;rw [hC] at hl
 match cs,hl with
 | [a,b,c],_=>
  rw [c0,o0] at t0;rw [c1,o1] at t1;obtain ⟨x0,I,s,J,hs,a0⟩:=h0 H enc w spare held n _ _ t0;obtain ⟨x1,U,a1⟩:=h1 H enc w spare held n _ _ t1;simp at J;obtain ⟨rfl,rfl⟩:=J;exact ⟨⟨x0,x1⟩,I ++ U,b,c,I,U,rfl,hs,rfl,a0,by simpa using a1⟩
theorem Uf {t:TypeId} {U f1:Field} (ht:P.underlying t=some (.struct #[U,f1])) (hC:P.cellsOf t=2) (h0:Opens P U.type aQ) (h1:Opens P f1.type aQ)
  (c0:P.cellsOf U.type=1) (c1:P.cellsOf f1.type=1) (o0:U.offset=0) (o1:f1.offset=1):Opens P t TT:=by
 intro H enc w spare held fuel cs y h;obtain ⟨y0,y1,n,rfl,hl,t0,t1⟩:=trod_struct2 ht h;rw [hC] at hl
 match cs,hl with
 | [a,b],_=>
  rw [c0,o0] at t0;rw [c1,o1] at t1;obtain ⟨x0,I,a0⟩:=h0 H enc w spare held n _ _ t0;obtain ⟨x1,J,a1⟩:=h1 H enc w spare held n _ _ t1;exact ⟨⟨x0,x1⟩,I ++ J,a,b,I,J,rfl,rfl,by simpa using a0,by simpa using a1⟩
end
end D
namespace D
open Go.RowKit Go.Lib
def mQ (c:UInt8):List UInt8→List (List UInt8)
 | []=>[[]]
 | x :: xs=>if x=c then [] :: mQ c xs else match mQ c xs with
  | []=>[[x]]
  | p :: ps=>(x :: p) :: ps
def toB (l:List UInt8):ByteArray:=⟨l.toArray⟩
theorem KU (s:ByteArray):toB s.data.toList=s:=by obtain ⟨⟨l⟩⟩:=s; rfl
theorem zu {c:UInt8}:∀ {l:List UInt8},c ∉ l→mQ c l = [l]
 | [],_=>rfl
 | x :: xs,h=>by
  have y:x ≠ c:=fun e=>h (e ▸ Γ)
  have ih:=zu (l:=xs) (fun hm=>h (Δ _ hm));unfold mQ;rw [if_neg y,ih]
theorem pX {c:UInt8}:∀ {a:List UInt8} (b:List UInt8),c ∉ a→mQ c (a ++ c :: b)=a :: mQ c b
 | [],b,_=>by rw [List.nil_append]; conv=>lhs; unfold mQ; rw [if_pos rfl]
 | x :: xs,b,h=>by
  have y:x ≠ c:=fun e=>h (e ▸ Γ)
  have ih:=pX (a:=xs) b (fun hm=>h (Δ _ hm));rw [List.cons_append]
  conv=>lhs; unfold mQ
  rw [if_neg y,ih]
def joinL (c:UInt8):List (List UInt8)→List UInt8
 | []=>[]
 | [p]=>p
 | p :: q :: r=>p ++ c :: joinL c (q :: r)
theorem zx (c:UInt8):∀ (ps:List (List UInt8)),ps ≠ []→(∀ p ∈ ps,c ∉ p)→mQ c (joinL c ps)=ps
 | [],h,_=>absurd rfl h
 | [p],_,hn=>zu (hn p Γ)
 | p :: q :: r,_,hn=>by
  show mQ c (p ++ c :: joinL c (q :: r))=_;rw [pX _ (hn p Γ),zx c (q :: r) (by simp) (fun x y=>hn x (Δ _ y))]
theorem index_one:∀ (l:List UInt8) (c:UInt8),(index l [c] = -1∧c ∉ l)∨∃ a b,l=a ++ c :: b∧c ∉ a∧index l [c]=(a.length:Int)
 | [],c=>by left; simp [index]
 | x :: xs,c=>by
  by_cases y:x=c
  ·right
   subst y;exact ⟨[],xs,rfl,by simp,by simp [index,List.isPrefixOf]⟩
  ·have J:List.isPrefixOf [c] (x :: xs)=false:=by simp [List.isPrefixOf]; exact fun e=>y e.symm
   rcases index_one xs c with ⟨h1,I⟩ | ⟨a,b,h1,I,U⟩
   ·left
    refine ⟨?_,fun hm=>?_⟩
    ·unfold index; rw [J,h1]; rfl
    ·rcases ύ.1 hm with e | hm
     ·exact y e.symm
     ·exact I hm
   ·right
    refine ⟨x :: a,b,by rw [h1]; rfl,fun hm=>?_,?_⟩
    ·rcases ύ.1 hm with e | hm
     ·exact y e.symm
     ·exact I hm
    ·unfold index
     rw [J,U]
     have:((a.length:Int) == -1)=false:=by
      rw [beq_eq_false_iff_ne]; omega
     rw [this];simp
theorem Vg (l:List UInt8) (c:UInt8):(c ∉ l∧cut l [c]=(l,[],false))∨∃ a b,l=a ++ c :: b∧c ∉ a∧cut l [c]=(a,b,true):=by
 rcases index_one l c with ⟨h1,y⟩ | ⟨a,b,h1,y,I⟩
 ·left
  exact ⟨y,by unfold cut; rw [h1]; rfl⟩
 ·right
  refine ⟨a,b,h1,y,?_⟩;unfold cut;rw [I,if_pos (by omega)];have e:((a.length:Int)).toNat=a.length:=by omega
  rw [e,h1];simp
end D
section
open Go.RowKit D
theorem vk (t:T) (w:World):
  Calls Tryz.prog 147 #[.agg #[.bool t.var,.string t.name]] w fun e w'=>
   e=.returned (.iface (if t.var then 230 else 232) (.string t.name))∧Below w.heap.size w w':=by
 obtain ⟨b,nm⟩:=t;cases b
 all_goals
  go_enter Tryz.func147,Tryz.ntmps147
  go_wp2;go_ret;exact ⟨rfl,ζ⟩
theorem wO (s:ByteArray) (w:World):
  Calls Tryz.prog 150 #[.string s] w fun e w'=>e=.returned (.string s)∧w=w':=by
 go_enter Tryz.func150,Tryz.ntmps150
 go_wp2;go_ret;exact ⟨rfl,rfl⟩
theorem qW (s:ByteArray) (w:World):
  Calls Tryz.prog 149 #[.string s] w fun e w'=>e=.returned (.string s)∧w=w':=by
 go_enter Tryz.func149,Tryz.ntmps149
 go_wp2;go_ret;exact ⟨rfl,rfl⟩
theorem Ii (s:ByteArray) (w:World):(Instr.typeAssert (.iface 232 (.string s)) 228 232 true).run Tryz.prog w=.ok (.tuple #[.string s,.bool true]) w:=by kernel_rfl
theorem QK (s:ByteArray) (w:World):(Instr.typeAssert (.iface 230 (.string s)) 228 232 true).run Tryz.prog w=.ok (.tuple #[.string ⟨#[]⟩,.bool false]) w:=by kernel_rfl
theorem BJ (s:ByteArray) (w:World):(Instr.typeAssert (.iface 230 (.string s)) 228 230 true).run Tryz.prog w=.ok (.tuple #[.string s,.bool true]) w:=by kernel_rfl
theorem KW (t:T) (w:World) (I:t.name.size≤maxLen):
  Calls Tryz.prog 100 #[.agg #[.bool t.var,.string t.name]] w fun e w'=>e=.returned (.bool (iP t))∧Below w.heap.size w w':=by
 unfold iP;have hk:=vk t;obtain ⟨b,nm⟩:=t;have J:=wO nm;have hv:=qW nm;have U:=fun w=>zl nm w I
 have ho:=fun w=>Bh nm w I
 cases b
 all_goals simp only [if_true,if_false,Bool.false_eq_true] at *
 all_goals
  go_enter Tryz.func100,Tryz.ntmps100
  have a1:=Ii;have a2:=QK;have a3:=BJ
  go_wp2_with (first
   | (go_at_call 147; refine (hk _).mono ?_; rintro e w1 ⟨rfl,y⟩)
   | (go_at_call 150; refine (J _).mono ?_; rintro e w2 ⟨rfl,rfl⟩)
   | (go_at_call 149; refine (hv _).mono ?_; rintro e w2 ⟨rfl,rfl⟩)
   | (go_at_call 99; refine (U _).mono ?_; rintro e w3 ⟨rfl,rfl⟩)
   | (go_at_call 159; refine (ho _).mono ?_; rintro e w3 ⟨rfl,rfl⟩))
  go_ret;exact ⟨rfl,(ζ).trans (y.mono (by simp))⟩
theorem KX (t:T) (w:World) (hs:t.name.size≤maxLen):
  Calls Tryz.prog 177 #[.agg #[.bool t.var,.string t.name]] w fun e w'=>e=.returned (.bool (iP t))∧Below w.heap.size w w':=by
 unfold iP;obtain ⟨b,s⟩:=t;dsimp only at *;have hn:=fun w=>zk s w hs
 cases b
 ·simp only [if_false,Bool.false_eq_true]
  go_enter Tryz.func177,Tryz.ntmps177
  go_wp2_with (go_at_call 178; refine (hn _).mono ?_; rintro e w3 ⟨rfl,rfl⟩)
  go_ret;exact ⟨rfl,ζ⟩
 ·simp only [if_true]
  have I:=fun w=>zi (s.extract 1 s.size) w (by simp; omega)
  rw [tail_at] at I;unfold maxLen at hs;by_cases h0:0 < s.size
  ·have hc:qI s=big s[0]:=by unfold qI; rw [G6 s h0]; simp [h0]
   have a4:((s.size:Int) == 0)=false:=beq_eq_false_iff_ne.2 (by omega);have h1:(1:Int)≤(s.size:Int):=by omega
   unfold vW;rw [hc];by_cases J:big s[0]=true
   ·have hB:=(zZ _).1 J
    rw [J];clear J hc;by_cases y:s.size=1
    ·have U:ni s.data.toList.tail=true:=by
      rw [← tail_at,y]; simp [ni]
     have HL:=η U;have a0:((s.size:Int) == 1)=true:=beq_iff_eq.2 (by omega);clear U;have HS:=η y;clear y
     go_enter Tryz.func177,Tryz.ntmps177
     go_wp2;go_ret;exact ⟨aA (by rw [HL.out,HS.out]; rfl),ζ⟩
    ·have a0:((s.size:Int) == 1)=false:=beq_eq_false_iff_ne.2 (by omega)
     have a1:(s.extract 1 s.size).size=s.size - 1:=by simp
     have a2:(s.size - 1≤8∧s.size≤8)∨(s.size - 1=8∧¬ s.size≤8)∨¬ s.size - 1≤8:=by omega
     rw [a1] at I;have hp:decide (1≤s.size - 1)=true:=decide_eq_true (by omega);rw [hp] at I;clear hp a1;generalize ni s.data.toList.tail=b at *;by_cases h8:s.size≤8
     ·have h9:decide (s.size - 1≤8)=true:=decide_eq_true (by omega)
      rw [h9] at I;clear h9 a2;have a5:=decide_eq_true h8;cases b
      all_goals
       go_enter Tryz.func177,Tryz.ntmps177
       go_wp2_with (go_at_call 220; refine (I _).mono ?_; rintro e w3 ⟨rfl,rfl⟩)
       go_ret;exact ⟨aA (by first | (simp [h8]; done) | (simp; omega)),ζ⟩
     ·have a5:decide (s.size≤8)=false:=decide_eq_false h8
      clear a2;generalize decide (s.size - 1≤8)=b2 at *;cases b
      all_goals cases b2
      all_goals
       go_enter Tryz.func177,Tryz.ntmps177
       go_wp2_with (go_at_call 220; refine (I _).mono ?_; rintro e w3 ⟨rfl,rfl⟩)
       go_ret;exact ⟨aA (by first | (simp [h8]; done) | (simp; omega)),ζ⟩
   ·have hB:=mt (zZ _).2 J
    have a3:big s[0]=false:=by simpa using J
    rw [a3];clear J a3 hc
    go_enter Tryz.func177,Tryz.ntmps177
    go_wp2
    all_goals first
     | (exfalso; omega)
     | (go_ret; exact ⟨aA (by simp),ζ⟩)
  ·have hc:vW s=false:=by unfold vW qI; simp [h0]
   have a4:((s.size:Int) == 0)=true:=beq_iff_eq.2 (by omega);rw [hc]
   go_enter Tryz.func177,Tryz.ntmps177
   go_wp2;go_ret;exact ⟨rfl,ζ⟩
theorem pY (a:A) (c0 c1:Value) (bs:List Nat) (w:World) (h:aP w [c0,c1] a bs) (hn:jl a≤16777216):
  Calls Tryz.prog 60 #[.agg #[c0,c1]] w fun e w'=>e=.returned (.string ⟨(wI a).toArray⟩)∧Below w.heap.size w w':=by
 obtain ⟨s,a1,a4,ht⟩:=h;simp only [List.cons.injEq,and_true] at a1;obtain ⟨rfl,rfl⟩:=a1;obtain ⟨Ad,cap,rfl,hl,hm⟩:=ai ht;have a9:=ay (τ hl hm);clear hm;have aa:a.name.size+a.args.length+iE a.args≤16777216:=hn;have ab:a.name.size≤16777216:=by omega
 go_enter Tryz.func60,Tryz.ntmps60
 go_wp2_with fail
 refine (Va (w.heap.size+1) (w.heap.size+1) [] a.name _ (by simpa using Ue (w.alloc (.cells #[.string a.name,.slice Ad a.args.length cap] 40))) (by simp) (by omega) (by simp)).mono ?_;rintro e w1 ⟨rfl,h1⟩;have b1:=h1.below;have a5:=b1.size;simp at a5
 go_wp2_with fail
 refine (Qy (w.heap.size+1) (w.heap.size+1) _ 40 40 rfl _ h1.bld (by rw [List.nil_append,VU]; omega) (by omega)).mono ?_;rintro e w2 ⟨rfl,h2⟩;have b2:=b1.trans h2.below;have ac:=h2.below.size;have d1:w2.cell? ⟨w.heap.size,1,none⟩=some (.slice Ad a.args.length cap):=(b2.cell (p:=⟨w.heap.size,1,none⟩) (by simp)).trans (by go_simp);have B2:Below w.heap.size w w2:=((Below.refl w.heap.size w).alloc ν _).trans ((((Below.refl w.heap.size _).alloc (by simp) _).trans (b2.mono (by omega))));have X2:=η h2.bld;clear h1 h2 b1 b2
 go_wp2_with fail
 go_loopw [13] (fun i wr=>∃ k:Nat,k≤a.args.length∧i=.int .i64 k∧TG (w.heap.size+1) (w.heap.size+1) (a.name.data.toList ++ [40] ++ kG (a.args.take k)) wr∧Below w.heap.size w wr∧w.heap.size+2≤wr.heap.size) (fun i _=>a.args.length - (intOf i).toNat)
 case atStart=>exact ⟨0,ε,rfl,by simpa [kG] using X2.out,B2,by omega⟩
 case round=>
  obtain ⟨k,hk,rfl,hb,hB,ae⟩:=hrel
  have hlen:(a.name.data.toList ++ [40] ++ kG (a.args.take k)).length≤67108864:=by
   have h2:=Qs (a.args.take k);have y:=zo a.args k;have h4:a.name.data.toList.length=a.name.size:=Array.length_toList;simp only [χ,List.length_cons,List.length_nil,List.length_take] at h2 ⊢;omega
  have HB:=η hb;clear hb;by_cases a0:k < a.args.length
  ·obtain ⟨b,o,rfl,_,c0,c1,a4⟩:=dN (aG.below ht hB) a0
   have h2:a.args[k].name.size≤16777216:=by
    have:=y9 a.args k a0;have:=zo a.args (k+1);omega
   have HT:=η (KH a.args k a0);clear ht;generalize a.args[k]=t at *;by_cases a2:k=0
   ·have HK:=η a2
    have a6:¬ (0:Int) < (k:Int):=by omega
    clear a2
    go_wp2_with fail
    have I:Below wr.heap.size wr (wr.alloc (.cells #[.bool t.var,.string t.name] 154)):=ζ;refine (Va (w.heap.size+1) (w.heap.size+1) _ t.name _ (HB.out.below I) (by omega) (by omega) (by have:=I.size; omega)).mono ?_;rintro e w3 ⟨rfl,y⟩;have B3:Below w.heap.size w w3:=(hB.trans (I.mono hB.size)).trans (y.below.mono (by omega));have S3:w.heap.size+2≤w3.heap.size:=by have:=y.below.size; have:=I.size; omega
    have H3:=η y.bld;clear y I;go_wp2;go_roundw
    case rel=>exact ⟨k+1,by omega,by go_num,by have:=H3.out; rw [HT.out,HK.out] at *; simpa [kG] using this,B3,S3⟩
    case measure=>simp [intOf]; omega
   ·have a6:(0:Int) < (k:Int):=by omega
    go_wp2_with fail
    have I:Below wr.heap.size wr (wr.alloc (.cells #[.bool t.var,.string t.name] 154)):=ζ;refine (Qy (w.heap.size+1) (w.heap.size+1) _ 44 44 rfl _ (HB.out.below I) (by omega) (by have:=I.size; omega)).mono ?_;rintro e U ⟨rfl,J⟩;have a3:=J.block (ω wr (.cells #[.bool t.var,.string t.name] 154)) (by omega) (by decide);have x1:U.cell? ⟨wr.heap.size,1,none⟩=some (.string t.name):=by rw [cell_of_row U _ 1 _ _ _ a3]; rfl
    have a7:Below w.heap.size w U:=(hB.trans (I.mono hB.size)).trans (J.below.mono (by omega));have af:w.heap.size+2≤U.heap.size:=by have:=J.below.size; have:=I.size; omega
    have a8:=η J.bld;clear J I a3
    go_wp2_with fail
    refine (Va (w.heap.size+1) (w.heap.size+1) _ t.name _ a8.out (by rw [χ,List.length_singleton]; omega) (by omega) (by omega)).mono ?_;rintro e w3 ⟨rfl,y⟩;have B3:Below w.heap.size w w3:=a7.trans (y.below.mono (by omega));have S3:w.heap.size+2≤w3.heap.size:=by have:=y.below.size; omega
    have H3:=η y.bld;clear y x1;go_wp2;go_roundw
    case rel=>exact ⟨k+1,by omega,by go_num,by have:=H3.out; rw [HT.out,if_neg (by omega)]; simpa using this,B3,S3⟩
    case measure=>simp [intOf]; omega
  ·have he:=η (show k=a.args.length by omega)
   go_wp2_with fail
   refine (Qy (w.heap.size+1) (w.heap.size+1) _ 41 41 rfl _ HB.out (by omega) (by omega)).mono ?_;rintro e w3 ⟨rfl,y⟩
   go_wp2_with fail
   refine (VW (w.heap.size+1) (w.heap.size+1) _ _ y.bld (by have:=y.below.size; omega)).mono ?_;rintro e w4 ⟨rfl,h4⟩;go_wp2;go_ret;exact ⟨TR (by rw [he.out,ϕ ν]; simp [wI]),(hB.trans (y.below.mono (by omega))).trans (h4.below.mono (by omega))⟩
end
section
open Go.RowKit D
attribute [local go_sem ↓] Go.wp_at_zero Go.wp_at_succ
theorem qc (a:A) (c0 c1:Value) (bs:List Nat) (left:Int) (w:World) (h:aP w [c0,c1] a bs) (h0:0≤left) (h1:left≤1048576):
  Calls Tryz.prog 34 #[.agg #[c0,c1],.int .i64 left] w (Left left (jl a) w.heap.size w):=by
 obtain ⟨s1,y,I,ht⟩:=h;simp only [List.cons.injEq,and_true] at y;obtain ⟨rfl,rfl⟩:=y;have hq:=fun w' (hb:Below w.heap.size w w') (h0:0≤left - (a.name.size:Int))=>Ho a.args c1 bs (left - (a.name.size:Int)) w' (aG.below ht hb) h0 (by omega)
 have J:jl a=a.name.size+a.args.length+iE a.args:=rfl;have HB:=η J;have a1:=ay I;clear ht J I
 go_enter Tryz.func34,Tryz.ntmps34
 go_wp2_with fail
 ·go_ret
  exact ⟨ζ,_,rfl,.inl rfl⟩
 ·refine (hq _ (ζ) (by assumption)).mono ?_
  rintro e w' ⟨U,r,rfl,hr⟩;have hB:Below w.heap.size w w':=(ζ).trans (U.mono (by simp));go_wp2
  ·rcases hr with rfl | ⟨_,_⟩
   ·go_ret
    exact ⟨hB,_,rfl,.inl rfl⟩
   ·exfalso; omega
  ·rcases hr with rfl | ⟨a0,a2⟩
   ·exfalso; omega
   ·go_ret
    have:=HB.out;exact ⟨hB,_,rfl,.inr ⟨a0,by omega⟩⟩
theorem KY (a : A) (c0 c1 : Value) (bs : List Nat) (w : World) (h : aP w [c0, c1] a bs) (hn : a.args.length ≤ 1048576) :
    Calls Tryz.prog 39 #[.agg #[c0, c1]] w (tV aP a w.heap.size w) := by
  obtain ⟨s1, J, a0, ht⟩ := h;simp only [List.cons.injEq, and_true] at J;obtain ⟨rfl, rfl⟩ := J;have hq := fun w' (I : Below w.heap.size w w') => Hq a.args c1 bs w' (aG.below ht I) hn
  clear ht
  go_enter Tryz.func39, Tryz.ntmps39
  go_wp2_with fail
  refine (hq _ (by repeat (first | exact Below.refl _ _ | (refine Below.setCell ?_ (by first | (simp; done) | (simp; omega)) _) | (refine Below.alloc ?_ (by first | (simp; done) | (simp; omega)) _)))).mono ?_;rintro e w' ⟨y, v, bs', rfl, hR, hN⟩;obtain ⟨Ad, cap, rfl, _, _⟩ := ai hR;have hB : Below w.heap.size w w' := Below.trans (by repeat (first | exact Below.refl _ _ | (refine Below.setCell ?_ (by first | (simp; done) | (simp; omega)) _) | (refine Below.alloc ?_ (by first | (simp; done) | (simp; omega)) _))) (y.mono (by first | (simp; done) | (simp; omega)));have k0 : w'.cell? ⟨w.heap.size + 1 + 1, 0, none⟩ = some (.string a.name) := cell_later y (by go_simp);have k1 : w'.cell? ⟨w.heap.size + 1 + 1, 1, none⟩ = some (.slice none 0 0) := cell_later y (by go_simp);have k2 : w'.cell? ⟨w.heap.size + 1, 0, none⟩ = some (.string ⟨#[]⟩) := cell_later y (by go_simp);have k3 : w'.cell? ⟨w.heap.size + 1, 1, none⟩ = some (.slice none 0 0) := cell_later y (by go_simp)
  have f0 : w'.frozen? ⟨w.heap.size + 1 + 1, 1, none⟩ = false := (y.frozen (p := ⟨w.heap.size + 1 + 1, 1, none⟩) (by simp)).trans (by go_simp);have f1 : w'.frozen? ⟨w.heap.size + 1, 0, none⟩ = false := (y.frozen (p := ⟨w.heap.size + 1, 0, none⟩) (by simp)).trans (by go_simp);have f2 : w'.frozen? ⟨w.heap.size + 1, 1, none⟩ = false := (y.frozen (p := ⟨w.heap.size + 1, 1, none⟩) (by simp)).trans (by go_simp);have U : ∀ b ∈ bs', w.heap.size + 1 + 1 < b := fun b I => by have := (hN.own b I).1; simp at this; omega
  go_wp2
  exact bodyPost_ret (v := .agg #[.string a.name, .slice Ad a.args.length cap]) (by simp [results, Tryz.results39, go_sem, k2, k3]) rfl
    ⟨((hB.setCell (by simp; omega) _).setCell (by simp) _).setCell (by simp) _, _, bs', rfl,
      ⟨_, rfl, a0, aG.keep hR fun b I => by have := U b I; rw [Below.heap_setCell _ _ _ _ (by simp; omega), Below.heap_setCell _ _ _ _ (by simp; omega), Below.heap_setCell _ _ _ _ (by simp; omega)]⟩,
      (hN.keep fun b I => by have := U b I; rw [Below.heap_setCell _ _ _ _ (by simp; omega), Below.heap_setCell _ _ _ _ (by simp; omega), Below.heap_setCell _ _ _ _ (by simp; omega)]).mono (by simp; omega)⟩
end
end Go.Proofs.YtlmngncogomgeaaGreatDoor
