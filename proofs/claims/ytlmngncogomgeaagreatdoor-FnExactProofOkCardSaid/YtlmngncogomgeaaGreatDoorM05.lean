/- Of the proof of FnExactProofOk: Prf, BindP, LevP. -/
import Derived.Test.YtlmngncogomgeaaGreatDoorM02
set_option linter.unusedVariables false
namespace Go.Proofs.YtlmngncogomgeaaGreatDoor.D
open Go.RowKit
inductive Pf where
 | mk (fact:A) (rule:Int) (kids:List Pf)
namespace Pf
def fact:Pf→A
 | mk a _ _=>a
def rule:Pf→Int
 | mk _ r _=>r
def kids:Pf→List Pf
 | mk _ _ k=>k
end Pf
def dP:Nat→Rel Pf
 | 0=>fun _ _ _ _=>False
 | n+1=>fun w cs p I=>∃ s k y b2,cs = [.string p.fact.name,s,.int .i64 p.rule,k]∧p.fact.name.size≤maxLen∧(-9223372036854775808≤p.rule∧p.rule≤9223372036854775807)∧I=y ++ b2∧fD w [s] p.fact.args y∧fK 4 (dP n) w [k] p.kids b2
def kY (n:Nat):Rel (List Pf):=fK 4 (dP n)
theorem cZ:∀ n,Good (dP n)
 | 0=>⟨fun h _=>h.elim,fun h=>h.elim⟩
 | n+1=>by
  have J:Good (fK 4 (dP n)):=fZ (cZ n) (by omega);refine ⟨fun {w w' cs p bs} h hk=>?_,fun {w cs p bs} h=>?_⟩
  ·obtain ⟨s,k,U,b2,h1,h2,h3,rfl,y,I⟩:=h
   obtain ⟨q1,q2⟩:=DX aG J y I hk;exact ⟨s,k,U,b2,h1,h2,h3,rfl,q1,q2⟩
  ·obtain ⟨s,k,U,b2,h1,h2,h3,rfl,y,I⟩:=h
   exact Nh aG J y I
theorem dm (n:Nat):Good (kY n):=fZ (cZ n) (by omega)
theorem Bo {α:Type} {n:Nat} {R S:Rel α} {w:World} {cs:List Value} {xs:List α} {y:List Nat} (hi:∀ {cs x y},R w cs x y→S w cs x y) (h:fK n R w cs xs y):fK n S w cs xs y:=by
 obtain ⟨J,cap,h1,U,h3,h4,h5⟩:=h;refine ⟨J,cap,h1,U,h3,h4,fun I=>?_⟩;obtain ⟨b,o,e,F,G,e2,hF⟩:=h5 I;exact ⟨b,o,e,F,G,e2,fun k x hk=>⟨(hF k x hk).1,(hF k x hk).2.1,hi (hF k x hk).2.2⟩⟩
theorem D8:∀ (n:Nat) {w:World} {cs:List Value} {p:Pf} {y:List Nat},dP n w cs p y→dP (n+1) w cs p y
 | 0,_,_,_,_,h=>h.elim
 | n+1,w,cs,p,y,h=>by
  obtain ⟨s,k,I,b2,h1,J,U,h4,h5,h6⟩:=h;exact ⟨s,k,I,b2,h1,J,U,h4,h5,Bo (D8 n) h6⟩
theorem jJ {n:Nat} {w:World} {Ad:Option Addr} {len cap k:Nat} {xs:List Pf} {bs:List Nat} (h:kY n w [.slice Ad len cap] xs bs) (hk:k < xs.length):
  ∃ b o J U Af cf bk,Ad=some ⟨b,o,none⟩∧b ∈ bs∧w.cell? ⟨b,o+k * 4,none⟩=some (.string xs[k].fact.name)∧w.cell? ⟨b,o+k * 4+1,none⟩=some (.slice J xs[k].fact.args.length U)∧w.cell? ⟨b,o+k * 4+2,none⟩=some (.int .i64 xs[k].rule)∧w.cell? ⟨b,o+k * 4+3,none⟩=some (.slice Af xs[k].kids.length cf)∧
   dP n w [.string xs[k].fact.name,.slice J xs[k].fact.args.length U,.int .i64 xs[k].rule,.slice Af xs[k].kids.length cf] xs[k] bk∧∀ c ∈ bk,c ∈ bs:=by
 obtain ⟨b,o,cs,bk,rfl,hb,hlen,y,hR,I⟩:=gW h hk
 cases n with
 | zero=>exact hR.elim
 | succ n=>
  have a0:=hR;obtain ⟨s,q,b1,b2,rfl,h2,h3,rfl,h5,h6⟩:=a0;obtain ⟨J,U,rfl,_⟩:=ai h5;obtain ⟨Af,cf,rfl,_⟩:=ai h6;have e:=fun j=>Nat.add_assoc o (k * 4) j
  exact ⟨b,o,J,U,Af,cf,b1 ++ b2,rfl,hb,by simpa using y 0 _ rfl,by rw [e]; exact y 1 _ rfl,by rw [e]; exact y 2 _ rfl,by rw [e]; exact y 3 _ rfl,hR,I⟩
theorem gV {n:Nat} {w:World} {I c1 c2 J:Value} {p:Pf} {bs:List Nat} (h:dP (n+1) w [I,c1,c2,J] p bs):
  ∃ U ce Af cf y b2,I=.string p.fact.name∧c1=.slice U p.fact.args.length ce∧c2=.int .i64 p.rule∧J=.slice Af p.kids.length cf∧bs=y ++ b2∧(-9223372036854775808≤p.rule∧p.rule≤9223372036854775807)∧aP w [I,c1] p.fact y∧kY n w [J] p.kids b2:=by
 obtain ⟨s,q,y,b2,e,h2,h3,rfl,h5,h6⟩:=h;simp only [List.cons.injEq,and_true] at e;obtain ⟨rfl,rfl,rfl,rfl⟩:=e;obtain ⟨U,ce,e5,_⟩:=ai h5;obtain ⟨Af,cf,e6,_⟩:=ai h6;exact ⟨U,ce,Af,cf,y,b2,rfl,e5,rfl,e6,rfl,h3,⟨_,rfl,h2,h5⟩,h6⟩
theorem Pf.uV {a:A} {r:Int} {y:List Pf} {k:Pf} (h:k ∈ y):SizeOf.sizeOf k < SizeOf.sizeOf (Pf.mk a r y):=by
 have h1:=List.sizeOf_lt_of_mem h;simp only [Pf.mk.sizeOf_spec];omega
theorem Pf.ind {P:Pf→Prop} (h:∀ p:Pf,(∀ k ∈ p.kids,P k)→P p):∀ p,P p
 | .mk a r ks=>h (.mk a r ks) fun k hk=>Pf.ind h k
 termination_by p=>SizeOf.sizeOf p
 decreasing_by exact Pf.uV hk
def iG:Pf→Nat
 | .mk a r ks=>jl a+ks.length+(ks.attach.map fun ⟨k,hk⟩=>iG k).sum
 termination_by p=>SizeOf.sizeOf p
 decreasing_by exact Pf.uV hk
def aK:Pf→Nat
 | .mk a r ks=>1+(ks.attach.map fun ⟨k,hk⟩=>aK k).sum
 termination_by p=>SizeOf.sizeOf p
 decreasing_by exact Pf.uV hk
theorem yB (p:Pf):iG p=jl p.fact+(p.kids.length+dh iG p.kids):=by
 obtain ⟨a,r,y⟩:=p;rw [iG,show (y.attach.map fun ⟨k,hk⟩=>iG k)=y.map iG from by exact List.attach_map_val (l:=y) (f:=iG)];simp only [Pf.fact,Pf.kids,dh];omega
theorem kV (p:Pf):aK p=1+dh aK p.kids:=by
 obtain ⟨a,r,y⟩:=p;rw [aK,show (y.attach.map fun ⟨k,hk⟩=>aK k)=y.map aK from by exact List.attach_map_val (l:=y) (f:=aK)];rfl
theorem uX (p:Pf):1≤aK p:=by rw [kV]; omega
theorem Oe:∀ p:Pf,aK p≤1+iG p:=Pf.ind fun p ih=>by
 have h:∀ y:List Pf,(∀ k ∈ y,aK k≤1+iG k)→dh aK y≤y.length+dh iG y:=by
  intro y
  induction y with
  | nil=>intro _; simp [dh]
  | cons k y ih=>
   intro hk;have h1:=hk k Γ;have J:=ih fun x I=>hk x (Δ _ I)
   simp only [dh,List.map_cons,List.sum_cons,List.length_cons] at *;omega
 rw [kV,yB];have:=h p.kids ih;omega
theorem Pf.QB {p:Pf} {k:Nat} (hk:k < p.kids.length):aK p.kids[k] < aK p:=by
 rw [kV p]
 have:∀ (y:List Pf) (k:Nat) (hk:k < y.length),aK y[k]≤dh aK y:=by
  intro y
  induction y with
  | nil=>intro k hk; simp at hk
  | cons x y ih=>
   intro k hk
   cases k with
   | zero=>simp [dh]
   | succ k=>
    have:=ih k (by simpa using hk);simp only [dh,List.map_cons,List.sum_cons,List.getElem_cons_succ] at *;omega
 have:=this p.kids k hk;omega
abbrev Bd:=List (ByteArray × ByteArray)
def eY:Bd→ByteArray→Option ByteArray
 | [],_=>none
 | p :: b,n=>if p.1=n then some p.2 else eY b n
def iR (b:Bd) (n:ByteArray):ByteArray:=(eY b n).getD ⟨#[]⟩
def bZ:List T→List T→Bd→Bd × Bool
 | t :: ts,f :: fs,b=>
  if t.var then
   match eY b t.name with
   | some v=>if v=f.name then bZ ts fs b else (b,false)
   | none=>bZ ts fs (b ++ [(t.name,f.name)])
  else if t.name=f.name then bZ ts fs b else (b,false)
 | _,_,b=>(b,true)
def aC (a f:A) (b:Bd):Bd × Bool:=if a.name=f.name∧a.args.length=f.args.length then bZ a.args f.args b else (b,false)
def dw (b:Bd) (t:T):T:=⟨false,if t.var then iR b t.name else t.name⟩
def aY (a:A) (b:Bd):A:=⟨a.name,a.args.map (dw b)⟩
def iC:Rel Bd:=fun w cs b I=>∃ s v y b2,cs = [s,v]∧I=y ++ b2∧jA w [s] (b.map (·.1)) y∧jA w [v] (b.map (·.2)) b2
theorem bJ:Good iC:=
 ⟨fun h hk=>by
   obtain ⟨s,v,U,b2,h1,rfl,I,J⟩:=h
   exact ⟨s,v,U,b2,h1,rfl,bV.keep I fun b y=>hk b (Ξ _ y),bV.keep J fun b y=>hk b (Ω _ y)⟩,
  fun h b y=>by
   obtain ⟨s,v,U,b2,h1,rfl,I,J⟩:=h
   rcases μ.1 y with y | y
   ·exact bV.lt I b y
   ·exact bV.lt J b y⟩
def qQ:Rel (List Bd):=fK 2 iC
theorem lm:Good qQ:=fZ bJ (by omega)
theorem oM {α:Type} [DecidableEq α]:∀ {I l2:List α},I.Nodup→(∀ x ∈ I,x ∈ l2)→I.length≤l2.length
 | [],_,_,_=>ε
 | x :: r,l2,h,hs=>by
  obtain ⟨h1,h2⟩:=List.nodup_cons.1 h;have U:=hs x Γ
  have:=oM (l2:=l2.erase x) h2 fun y hy=>by
   have J:y ≠ x:=by rintro rfl; exact h1 hy
   exact (List.mem_erase_of_ne J).2 (hs y (Δ _ hy))
  have hl:=List.length_erase_of_mem U;have hp:=List.length_pos_of_mem U;simp only [List.length_cons];omega
theorem Vb {l:List Nat} {N x:Nat} (hl:l.length≤N) (hx:x ∈ l) (hN:N≤x):∃ g,g < N∧g ∉ l:=by
 refine Classical.byContradiction fun h=>?_
 have I:∀ g,g < N→g ∈ l:=fun g hg=>Classical.byContradiction fun hn=>h ⟨g,hg,hn⟩
 have J:(x :: List.range N).Nodup:=List.nodup_cons.2 ⟨fun hm=>by have:=List.mem_range.1 hm; omega,List.nodup_range⟩
 have:=oM J (l2:=l) fun y U=>by
  rcases ύ.1 U with rfl | U
  ·exact hx
  ·exact I y (List.mem_range.1 U)
 simp at this;omega
theorem FD {α:Type} {f g:α→Nat}:∀ {l:List α},(∀ x ∈ l,f x≤g x)→(l.map f).sum≤(l.map g).sum
 | [],_=>ν
 | x :: r,h=>by
  have h1:=h x Γ;have J:=FD (l:=r) fun y I=>h y (Δ _ I)
  simp only [List.map_cons,List.sum_cons];omega
theorem sum_lt {α:Type} {f g:α→Nat}:∀ {l:List α},(∀ x ∈ l,f x≤g x)→(∃ x ∈ l,f x < g x)→(l.map f).sum < (l.map g).sum
 | [],_,⟨x,I,_⟩=>by simp at I
 | y :: r,h,⟨x,I,hlt⟩=>by
  have h1:=h y Γ;simp only [List.map_cons,List.sum_cons]
  rcases ύ.1 I with rfl | I
  ·have U:=FD (l:=r) fun z J=>h z (Δ _ J)
   omega
  ·have U:=sum_lt (l:=r) (fun z J=>h z (Δ _ J)) ⟨x,I,hlt⟩
   omega
theorem bytes_beq (a b:ByteArray):(a == b)=(a.data == b.data):=rfl
instance VL:LawfulBEq ByteArray where
 eq_of_beq {a b} h:=by rw [bytes_beq] at h; cases a; cases b; exact congrArg _ (eq_of_beq h)
 rfl {a}:=by rw [bytes_beq]; exact beq_self_eq_true _
def bI (rs:List Ru):List ByteArray:=rs.map fun r=>r.head.name
def fO (acc:List ByteArray) (n:ByteArray):List ByteArray:=if n ∈ acc then acc else acc ++ [n]
def aJ (rs:List Ru):List ByteArray:=(bI rs).foldl fO []
theorem iT {acc:List ByteArray} {n x:ByteArray}:x ∈ fO acc n ↔ x ∈ acc∨x=n:=by
 unfold fO
 split
 ·rename_i h
  exact ⟨.inl,fun y=>y.elim id (fun e=>e ▸ h)⟩
 ·simp
theorem nK:∀ (y acc:List ByteArray),acc.Nodup→(y.foldl fO acc).Nodup∧(∀ x,x ∈ y.foldl fO acc ↔ x ∈ acc∨x ∈ y)∧(y.foldl fO acc).length≤acc.length+y.length
 | [],acc,h=>⟨h,fun x=>by simp,by simp⟩
 | n :: y,acc,h=>by
  have I:(fO acc n).Nodup:=by
   unfold fO
   split
   ·exact h
   ·rename_i hm
    exact List.nodup_append.2 ⟨h,by simp,fun a ha b J e=>by rw [ώ.1 J] at e; exact hm (e ▸ ha)⟩
  obtain ⟨i1,i2,U⟩:=nK y (fO acc n) I;refine ⟨i1,fun x=>?_,?_⟩
  ·rw [List.foldl_cons,i2,iT,ύ,or_assoc]
  ·rw [List.foldl_cons,List.length_cons]
   have:(fO acc n).length≤acc.length+1:=by unfold fO; split <;> simp
   omega
theorem jb {rs:List Ru} {x:ByteArray}:x ∈ aJ rs ↔ x ∈ bI rs:=by
 have h:=(nK (bI rs) [] List.nodup_nil).2.1 x;unfold aJ;rw [h]; simp
theorem Bq (rs:List Ru):(aJ rs).length≤rs.length:=by
 have:=(nK (bI rs) [] List.nodup_nil).2.2;simpa [bI,aJ] using this
def Au (p:Pt):Nat:=if p.no then 1 else 0
def KI (rs:List Ru) (S:ByteArray→Nat):Prop:=∀ r ∈ rs,∀ p ∈ r.body,p.atom.name ∈ bI rs→S p.atom.name+Au p≤S r.head.name
theorem head_mem {rs:List Ru} {r:Ru} (h:r ∈ rs):r.head.name ∈ bI rs:=List.mem_map.2 ⟨r,h,rfl⟩
theorem Og {rs:List Ru}:∀ (m:Nat) (S:ByteArray→Nat),KI rs S→((aJ rs).map S).sum≤m→∃ T,KI rs T∧∀ n ∈ bI rs,T n < (aJ rs).length:=by
 intro m
 induction m with
 | zero=>
  intro S J hm;refine ⟨S,J,fun n U=>?_⟩;have hp:=List.length_pos_of_mem (jb.2 U)
  have a0:∀ (l:List Nat) (x:Nat),x ∈ l→x≤l.sum:=by
   intro l
   induction l with
   | nil=>intro x I; simp at I
   | cons y l ih=>intro x I; rw [List.sum_cons]; rcases ύ.1 I with rfl | I; omega; have:=ih x I; omega
  have:S n≤((aJ rs).map S).sum:=a0 _ _ (List.mem_map.2 ⟨n,jb.2 U,rfl⟩);omega
 | succ m ih=>
  intro S J hm;by_cases I:∃ x ∈ (aJ rs).map S,(aJ rs).length≤x
  ·obtain ⟨x,I,hN⟩:=I
   obtain ⟨g,hg,a1⟩:=Vb (l:=(aJ rs).map S) (by simp) I hN;obtain ⟨nx,a2,rfl⟩:=List.mem_map.1 I;refine ih (fun n=>if g < S n then S n - 1 else S n) (fun r hr p hp hh=>?_) ?_
   ·have h0:=J r hr p hp hh
    have a3:S p.atom.name ≠ g:=fun e=>a1 (List.mem_map.2 ⟨_,jb.2 hh,e⟩)
    have a4:Au p≤1:=by unfold Au; split <;> omega
    dsimp only
    split <;> split <;> omega
   ·have:=sum_lt (l:=aJ rs) (f:=fun n=>if g < S n then S n - 1 else S n) (g:=S) (fun y _=>by split <;> omega) ⟨nx,a2,by rw [if_pos (by omega)]; omega⟩
    omega
  ·refine ⟨S,J,fun n U=>?_⟩
   refine Nat.lt_of_not_le fun h=>I ⟨S n,List.mem_map.2 ⟨n,jb.2 U,rfl⟩,h⟩
theorem D9 {rs:List Ru} {S:ByteArray→Nat} (h:KI rs S):∃ T,KI rs T∧∀ n ∈ bI rs,T n < (aJ rs).length:=Og _ S h ν
def iw (out:List Nat) (i:Nat):Nat:=out.getD i 0
theorem nN {out:List Nat} {i j v:Nat} (h:i < out.length):iw (out.set i v) j=if i=j then v else iw out j:=by
 unfold iw;rw [List.getD_eq_getElem?_getD,List.getD_eq_getElem?_getD,List.getElem?_set];by_cases e:i=j
 ·subst e; rw [if_pos rfl,if_pos rfl,if_pos h]; rfl
 ·rw [if_neg e,if_neg e]
def jQ (n:Nat) (hk:ByteArray) (i k:Nat) (out:List Nat) (p:Pt):List Nat:=
 if p.atom.name=hk then (if iw out i < iw out k+Au p∧iw out i≤n then out.set i (iw out k+Au p) else out) else out
def lQ (hi hk:ByteArray) (i k:Nat) (out:List Nat):List Nat:=if hk=hi∧iw out i < iw out k then out.set i (iw out k) else out
def dI (rs:List Ru) (i:Nat):Ru:=rs.getD i ⟨⟨⟨#[]⟩,[]⟩,[]⟩
def wL (rs:List Ru) (i:Nat) (out:List Nat) (k:Nat):List Nat:=
 (dI rs i).body.foldl (jQ rs.length (dI rs k).head.name i k) (lQ (dI rs i).head.name (dI rs k).head.name i k out)
def Oh (rs:List Ru) (out:List Nat) (i:Nat):List Nat:=(List.range rs.length).foldl (wL rs i) out
def og (rs:List Ru) (out:List Nat):List Nat:=(List.range rs.length).foldl (Oh rs) out
def yC (rs:List Ru):Nat→List Nat
 | 0=>List.replicate rs.length 0
 | m+1=>og rs (yC rs m)
def aF (rs:List Ru):List Nat:=yC rs ((rs.length+1) * (rs.length+2))
def kW (rs:List Ru):Bool:=(aF rs).any fun x=>decide (rs.length≤x)
def Up (a b:List Nat):Prop:=b.length=a.length∧∀ i,iw a i≤iw b i
theorem Up.refl (a:List Nat):Up a a:=⟨rfl,fun _=>ν⟩
theorem Up.trans {a b c:List Nat} (h:Up a b) (k:Up b c):Up a c:=⟨k.1.trans h.1,fun i=>τ (h.2 i) (k.2 i)⟩
theorem Up.eq {a b:List Nat} (h:Up a b) (k:Up b a):a=b:=by
 refine List.ext_getElem h.1.symm fun i h1 y=>?_
 have I:iw a i=a[i]:=by unfold iw; rw [List.getD_eq_getElem?_getD,Ψ h1]; rfl
 have J:iw b i=b[i]:=by unfold iw; rw [List.getD_eq_getElem?_getD,Ψ y]; rfl
 have U:=h.2 i;have h4:=k.2 i;omega
theorem KJ {out:List Nat} {i v:Nat} (h:iw out i≤v):Up out (out.set i v):=by
 refine ⟨by simp,fun j=>?_⟩;by_cases hi:i < out.length
 ·rw [nN hi]
  split
  ·rename_i e; subst e; exact h
  ·exact ν
 ·rw [List.set_eq_of_length_le (by omega)]; exact ν
theorem wM (n:Nat) (hk:ByteArray) (i k:Nat) (out:List Nat) (p:Pt):Up out (jQ n hk i k out p):=by
 unfold jQ
 split
 ·split
  ·rename_i h; exact KJ (by omega)
  ·exact Up.refl _
 ·exact Up.refl _
theorem Bz (hi hk:ByteArray) (i k:Nat) (out:List Nat):Up out (lQ hi hk i k out):=by
 unfold lQ
 split
 ·rename_i h; exact KJ (by omega)
 ·exact Up.refl _
theorem oN {β:Type} {f:List Nat→β→List Nat} (hf:∀ o x,Up o (f o x)):∀ (l:List β) (out:List Nat),Up out (l.foldl f out)
 | [],out=>Up.refl _
 | x :: r,out=>(hf out x).trans (oN hf r _)
theorem pU {β:Type} {f:List Nat→β→List Nat} (hf:∀ o x,Up o (f o x)):∀ (l:List β) (out:List Nat),l.foldl f out=out→∀ x ∈ l,f out x=out
 | [],_,_,x,I=>by simp at I
 | y :: r,out,h,x,I=>by
  have h1:=hf out y;have J:=oN hf r (f out y);rw [List.foldl_cons] at h;rw [h] at J;have e:=h1.eq J;rw [← e] at h
  rcases ύ.1 I with rfl | I
  ·exact e.symm
  ·exact pU hf r out h x I
theorem Hz (rs:List Ru) (i:Nat) (out:List Nat) (k:Nat):Up out (wL rs i out k):=(Bz _ _ _ _ _).trans (oN (fun o x=>wM _ _ _ _ o x) _ _)
theorem Nu (rs:List Ru) (out:List Nat) (i:Nat):Up out (Oh rs out i):=oN (fun o x=>Hz rs i o x) _ _
theorem yD (rs:List Ru) (out:List Nat):Up out (og rs out):=oN (fun o x=>Nu rs o x) _ _
theorem FH (rs:List Ru):∀ m,(yC rs m).length=rs.length
 | 0=>by simp [yC]
 | m+1=>by rw [yC,(yD rs _).1,FH rs m]
theorem fF (rs:List Ru):(aF rs).length=rs.length:=FH rs _
def Vd (rs:List Ru) (T:ByteArray→Nat) (out:List Nat):Prop:=∀ i,i < rs.length→iw out i≤T (dI rs i).head.name
theorem mG {rs:List Ru} {i:Nat} (h:i < rs.length):dI rs i ∈ rs:=by
 unfold dI;rw [List.getD_eq_getElem?_getD,Ψ h];exact δ h
theorem pV {α β:Type} {P:α→Prop} {f:α→β→α}:∀ {l:List β} {a:α},(∀ a x,x ∈ l→P a→P (f a x))→P a→P (l.foldl f a)
 | [],_,_,h=>h
 | x :: r,a,hf,h=>pV (l:=r) (fun a y I=>hf a y (Δ _ I)) (hf a x Γ h)
theorem Oi {rs:List Ru} {T:ByteArray→Nat} (U:KI rs T) {out:List Nat} (hl:out.length=rs.length) (h:Vd rs T out):(og rs out).length=rs.length∧Vd rs T (og rs out):=by
 unfold og;refine pV (P:=fun o=>o.length=rs.length∧Vd rs T o) (fun o i hi J=>?_) ⟨hl,h⟩;have hi:=List.mem_range.1 hi;unfold Oh;refine pV (P:=fun o=>o.length=rs.length∧Vd rs T o) (fun o k hk J=>?_) J;have hk:=List.mem_range.1 hk;unfold wL;refine pV (P:=fun o=>o.length=rs.length∧Vd rs T o) (fun o p hp J=>?_) ?_
 ·obtain ⟨h1,y⟩:=J
  refine ⟨by rw [(wM _ _ _ _ o p).1,h1],fun j I=>?_⟩;unfold jQ
  split
  ·rename_i hn
   split
   ·rw [nN (by omega)]
    split
    ·rename_i e
     subst e;have h3:=U _ (mG hi) p hp (by rw [hn]; exact head_mem (mG hk));have h4:=y k hk;rw [hn] at h3;omega
    ·exact y j I
   ·exact y j I
  ·exact y j I
 ·obtain ⟨h1,y⟩:=J
  refine ⟨by rw [(Bz _ _ _ _ o).1,h1],fun j I=>?_⟩;unfold lQ
  split
  ·rename_i hc
   rw [nN (by omega)]
   split
   ·rename_i e
    subst e;rw [← hc.1];exact y k hk
   ·exact y j I
  ·exact y j I
theorem QC {rs:List Ru} {T:ByteArray→Nat} (y:KI rs T):∀ m,Vd rs T (yC rs m)
 | 0=>fun i hi=>by
  have:iw (yC rs 0) i=0:=by unfold yC iw; rw [List.getD_eq_getElem?_getD,List.getElem?_replicate]; split <;> rfl
  omega
 | m+1=>(Oi y (FH rs m) (QC y m)).2
theorem BA {rs:List Ru} {T:ByteArray→Nat} (y:KI rs T):Vd rs T (aF rs):=QC y _
def Closed (rs:List Ru) (out:List Nat):Prop:=∀ i,i < rs.length→∀ k,k < rs.length→
 ((dI rs k).head.name=(dI rs i).head.name→iw out k≤iw out i)∧∀ p ∈ (dI rs i).body,p.atom.name=(dI rs k).head.name→iw out k+Au p≤iw out i
theorem yE {out:List Nat} {i v:Nat} (h:i < out.length) (e:out.set i v=out):iw out i=v:=by
 have:=nN (j:=i) (v:=v) h;rw [e,if_pos rfl] at this;exact this
theorem Oj {rs:List Ru} {out:List Nat} (hl:out.length=rs.length) (hs:og rs out=out) (hn:∀ i,i < rs.length→iw out i≤rs.length):Closed rs out:=by
 intro i hi k hk;have h1:=pU (fun o x=>Nu rs o x) _ _ hs i (List.mem_range.2 hi);have I:=pU (fun o x=>Hz rs i o x) _ _ h1 k (List.mem_range.2 hk)
 have J:lQ (dI rs i).head.name (dI rs k).head.name i k out=out:=by
  have a1:=Bz (dI rs i).head.name (dI rs k).head.name i k out;have a2:=oN (fun o x=>wM rs.length (dI rs k).head.name i k o x) (dI rs i).body (lQ (dI rs i).head.name (dI rs k).head.name i k out);unfold wL at I;rw [I] at a2;exact (a1.eq a2).symm
 unfold wL at I;rw [J] at I;have h4:=pU (fun o x=>wM rs.length (dI rs k).head.name i k o x) _ _ I;refine ⟨fun e=>?_,fun p hp e=>?_⟩
 ·refine Nat.le_of_not_lt fun y=>?_
  unfold lQ at J;rw [if_pos ⟨e,y⟩] at J;have:=yE (by omega) J;omega
 ·refine Nat.le_of_not_lt fun y=>?_
  have U:=h4 p hp;unfold jQ at U;rw [if_pos e,if_pos ⟨y,hn i hi⟩] at U;have:=yE (by omega) U;omega
theorem QD {a b:List Nat} (h:Up a b) (I:b ≠ a):a.sum < b.sum:=by
 have a0:∀ (a b:List Nat),b.length=a.length→(∀ i,iw a i≤iw b i)→a.sum≤b.sum∧(b ≠ a→a.sum < b.sum):=by
  intro a
  induction a with
  | nil=>intro b U _; have:b = []:=List.length_eq_zero_iff.1 U; subst this; exact ⟨ν,fun h=>absurd rfl h⟩
  | cons x xs ih=>
   intro b U J
   cases b with
   | nil=>simp at U
   | cons y ys=>
    have h0:x≤y:=J 0;have h1:∀ i,iw xs i≤iw ys i:=fun i=>J (i+1)
    obtain ⟨i1,i2⟩:=ih ys (by simpa using U) h1;simp only [List.sum_cons];refine ⟨by omega,fun I=>?_⟩;by_cases e:ys=xs
    ·have:y ≠ x:=fun e2=>I (by rw [e,e2])
     omega
    ·have:=i2 e; omega
 exact (a0 a b h.1 h.2).2 I
theorem Ea {out:List Nat} {n:Nat} (h:∀ i,i < out.length→iw out i≤n):out.sum≤out.length * n:=by
 induction out with
 | nil=>simp
 | cons x xs ih=>
  have h0:x≤n:=h 0 (by simp);have h1:=ih fun i hi=>h (i+1) (by simp; omega)
  simp only [List.sum_cons,List.length_cons,Nat.add_mul];omega
theorem V8 (rs : List Ru) : ∀ {m k : Nat}, m ≤ k → Up (yC rs m) (yC rs k) := by
  intro m k h
  induction k with
  | zero => obtain rfl : m = 0 := by omega
            exact Up.refl _
  | succ k ih =>
    by_cases e : m = k + 1
    · subst e; exact Up.refl _
    · exact (ih (by omega)).trans (yD rs _)
theorem QE (rs : List Ru) {m : Nat} (h : og rs (yC rs m) = yC rs m) : ∀ k, m ≤ k → yC rs k = yC rs m := by
  intro k hk
  induction k with
  | zero => obtain rfl : m = 0 := by omega
            rfl
  | succ k ih =>
    by_cases e : m = k + 1
    · rw [e]
    · rw [yC, ih (by omega), h]
theorem Ia (rs:List Ru):(∃ i,i < rs.length∧rs.length < iw (aF rs) i)∨Closed rs (aF rs):=by
 by_cases U:∃ i,i < rs.length∧rs.length < iw (aF rs) i
 ·exact .inl U
 ·have y:∀ i,i < rs.length→iw (aF rs) i≤rs.length:=fun i hi=>Nat.le_of_not_lt fun h=>U ⟨i,hi,h⟩
  by_cases hs:og rs (aF rs)=aF rs
  ·exact .inr (Oj (fF rs) hs y)
  ·exfalso
   have J:∀ m,m≤(rs.length+1) * (rs.length+2)→m≤(yC rs m).sum:=by
    intro m
    induction m with
    | zero=>intro _; exact ε
    | succ m ih=>
     intro hm;have h1:=ih (by omega)
     have I:og rs (yC rs m) ≠ yC rs m:=fun e=>by
      have:=QE rs e _ (show m≤(rs.length+1) * (rs.length+2) by omega);refine hs ?_;unfold aF;rw [this];exact e
     have h3:=QD (yD rs (yC rs m)) I;show m+1≤(og rs (yC rs m)).sum;omega
   have h1:=J _ ν;have I:=Ea (out:=aF rs) (n:=rs.length) (by rw [fF]; exact y);rw [fF] at I
   have h3:rs.length * rs.length < (rs.length+1) * (rs.length+2):=by
    have:(rs.length+1) * (rs.length+2)=rs.length * rs.length+3 * rs.length+2:=by
     rw [Nat.add_mul,Nat.mul_add]; omega
    omega
   unfold aF at I;omega
def iq (rs:List Ru) (n:ByteArray):Nat:=iw (aF rs) ((bI rs).idxOf n)
theorem Ol {rs:List Ru} {out:List Nat} (h:Closed rs out) {i k:Nat} (hi:i < rs.length) (hk:k < rs.length) (e:(dI rs k).head.name=(dI rs i).head.name):iw out k=iw out i:=
 Nat.le_antisymm ((h i hi k hk).1 e) ((h k hk i hi).1 e.symm)
theorem Ib {rs:List Ru} {n:ByteArray} (h:n ∈ bI rs):(bI rs).idxOf n < rs.length∧(dI rs ((bI rs).idxOf n)).head.name=n:=by
 have h1:=List.idxOf_lt_length_of_mem h;have I:=List.getElem_idxOf h1;have h3:(bI rs).length=rs.length:=by simp [bI]
 refine ⟨by omega,?_⟩;have y:(bI rs).idxOf n < rs.length:=by omega
 have J:dI rs ((bI rs).idxOf n)=rs[(bI rs).idxOf n]:=by
  unfold dI;rw [List.getD_eq_getElem?_getD,Ψ y]; rfl
 have U:∀ i (h:i < rs.length) (h':i < (bI rs).length),(bI rs)[i]=rs[i].head.name:=fun i h h'=>by simp [bI]
 rw [J,← U _ y h1,I]
theorem mJ {rs:List Ru} (h:Closed rs (aF rs)):KI rs (iq rs)∧∀ i,i < rs.length→iw (aF rs) i=iq rs (dI rs i).head.name:=by
 have he:∀ i,i < rs.length→iw (aF rs) i=iq rs (dI rs i).head.name:=fun i hi=>by
  obtain ⟨h1,y⟩:=Ib (head_mem (mG hi));unfold iq;exact Ol h h1 hi y.symm
 refine ⟨fun r hr p J U=>?_,he⟩;obtain ⟨i,hi,rfl⟩:=List.mem_iff_getElem.1 hr;have er:dI rs i=rs[i]:=by unfold dI; rw [List.getD_eq_getElem?_getD,Ψ hi]; rfl
 obtain ⟨h1,y⟩:=Ib U;have h3:=(h i hi _ h1).2 p (by rw [er]; exact J) y.symm;have I:=he i hi;rw [er] at I;rw [← I];exact h3
theorem Ve {rs:List Ru} (h:kW rs=true) (S:ByteArray→Nat):¬ KI rs S:=by
 intro J;obtain ⟨T,U,hs⟩:=D9 J;unfold kW at h;obtain ⟨x,hx,y⟩:=List.any_eq_true.1 h;have y:=of_decide_eq_true y;obtain ⟨i,hi,rfl⟩:=List.mem_iff_getElem.1 hx;have I:i < rs.length:=by rw [fF] at hi; exact hi
 have h1:=BA U i I;have h2:=hs _ (head_mem (mG I));have h3:=Bq rs;have e:iw (aF rs) i=(aF rs)[i]:=by unfold iw; rw [List.getD_eq_getElem?_getD,Ψ hi]; rfl
 omega
theorem KL {rs:List Ru} (h:kW rs=false):Closed rs (aF rs):=by
 refine (Ia rs).resolve_left fun ⟨i,hi,I⟩=>?_
 unfold kW at h;have y:i < (aF rs).length:=by rw [fF]; exact hi
 have e:iw (aF rs) i=(aF rs)[i]:=by unfold iw; rw [List.getD_eq_getElem?_getD,Ψ y]; rfl
 have:=List.any_eq_false.1 h (aF rs)[i] (δ y);simp at this;omega
theorem Om {rs:List Ru} (h:∀ S,¬ KI rs S):kW rs=true:=by
 cases hc:kW rs
 ·exact absurd (mJ (KL hc)).1 (h _)
 ·rfl
theorem yF {rs:List Ru} {S:ByteArray→Nat} (h:KI rs S):kW rs=false:=by
 cases hc:kW rs
 ·rfl
 ·exact absurd h (Ve hc S)
theorem QF {rs:List Ru} {S:ByteArray→Nat} (h:KI rs S) (y:∀ T,KI rs T→∀ n ∈ bI rs,S n≤T n):∀ i,i < rs.length→S (dI rs i).head.name=iw (aF rs) i:=fun i hi=>by
 have hc:=mJ (KL (yF h));have h1:=y _ hc.1 _ (head_mem (mG hi));have I:=BA h i hi;have J:=hc.2 i hi;omega
end Go.Proofs.YtlmngncogomgeaaGreatDoor.D
