/- Of the proof of FnEvalNeeds: qJ, VarP. -/
import Derived.Test.YtkjinanbccloeaaGreatDoorM02
set_option linter.unusedVariables false
namespace Go.Proofs.YtkjinanbccloeaaGreatDoor
namespace D
open Go Go.RowKit
def BL (base e:Nat) (w:World) (v:Value) (n:Nat) (L:List Value) (o:Option Nat):Prop:=(∃ A cap,v=.slice A n cap)∧w.ownsRow base e 1 v n L∧(∀ b,v.ownBlock=some b→o=some b)
def ND (e:Nat) (w:World) (v x:Value) (o:Option Nat):Prop:=∃ l,v=.slice (some ⟨l,0,none⟩) 1 1∧w.heap[l]? = some (.cells #[x] e (0,0))∧o=some l
def IB (base:Nat) (w:World) (o:Option Nat):Prop:=∀ b,o=some b→base≤b∧b < w.heap.size
def kD (o p:Option Nat):Prop:=∀ b,o=some b→p ≠ some b
theorem qO {w w':World} {base e size n:Nat} {v:Value} {L:List Value} (h:w.ownsRow base e size v n L) (I:∀ b,v.ownBlock=some b→w'.heap[b]? = w.heap[b]?):w'.ownsRow base e size v n L:=by
 refine ⟨h.1,h.2.imp id ?_⟩;rintro ⟨g,cap,y,hv,J,U,r⟩;exact ⟨g,cap,y,hv,J,by rw [I g (by rw [hv]; rfl)]; exact U,r⟩
theorem BL.keep {base e:Nat} {w w':World} {v:Value} {n:Nat} {L:List Value} {o:Option Nat} (h:BL base e w v n L o) (y:∀ b,o=some b→w'.heap[b]? = w.heap[b]?):BL base e w' v n L o:=
 ⟨h.1,qO h.2.1 fun b I=>y b (h.2.2 b I),h.2.2⟩
theorem ND.keep {e:Nat} {w w':World} {v x:Value} {o:Option Nat} (h:ND e w v x o) (y:∀ b,o=some b→w'.heap[b]? = w.heap[b]?):ND e w' v x o:=by
 obtain ⟨l,h1,I,rfl⟩:=h;exact ⟨l,h1,by rw [y l rfl]; exact I,rfl⟩
theorem IB.keep {base:Nat} {w w':World} {o:Option Nat} (h:IB base w o) (I:w.heap.size≤w'.heap.size):IB base w' o:=fun b y=>⟨(h b y).1,κ (h b y).2 I⟩
theorem kD.new {base:Nat} {w:World} {o:Option Nat} (h:IB base w o):kD o (some w.heap.size):=fun b y e=>by have:=(h b y).2; simp at e; omega
theorem kD.symm {o p:Option Nat} (h:kD o p):kD p o:=fun b y e=>h b e y
structure qJ (base e n:Nat) (L:List Value) (x:Value) (be br bs bf:Bool) (ve vr vs vf:Value) (o1 o2:Option Nat) (w:World):Prop where
 e_:be=true→br=false→BL base e w ve 0 [] o1
 r_:br=true→bf=false→BL base e w vr n L o1
 s_:bs=true→bf=false→ND e w vs x o2
 f_:bf=true→BL base e w vf (n+1) (L ++ [x]) o1
 i1:IB base w o1
 i2:IB base w o2
 d:kD o1 o2
 hr:br=true→be=true
 hf:bf=true→br=true∧bs=true
section
variable {base e n:Nat} {L:List Value} {x:Value} {be br bs bf:Bool} {ve vr vs vf:Value} {o1 o2:Option Nat} {w w':World}
theorem qJ.start:qJ base e n L x false false false false ve vr vs vf none none w:=
 ⟨(fun h=>by cases h),(fun h=>by cases h),(fun h=>by cases h),(fun h=>by cases h),((fun b h=>by cases h)),((fun b h=>by cases h)),((fun b h=>by cases h)),(fun h=>by cases h),(fun h=>by cases h)⟩
theorem qJ.keep (h:qJ base e n L x be br bs bf ve vr vs vf o1 o2 w) (y:w.heap.size≤w'.heap.size) (h1:∀ b,o1=some b→w'.heap[b]? = w.heap[b]?) (I:∀ b,o2=some b→w'.heap[b]? = w.heap[b]?):
  qJ base e n L x be br bs bf ve vr vs vf o1 o2 w':=
 ⟨fun a b=>(h.e_ a b).keep h1,fun a b=>(h.r_ a b).keep h1,fun a b=>(h.s_ a b).keep I,fun a=>(h.f_ a).keep h1,h.i1.keep y,h.i2.keep y,h.d,h.hr,h.hf⟩
theorem qJ.below (h:qJ base e n L x be br bs bf ve vr vs vf o1 o2 w) (y:Below w.heap.size w w'):qJ base e n L x be br bs bf ve vr vs vf o1 o2 w':=
 h.keep y.size (fun b I=>y.block b (h.i1 b I).2) fun b J=>y.block b (h.i2 b J).2
theorem qJ.beside (h:qJ base e n L x be br bs bf ve vr vs vf o1 o2 w) {o:Option Nat} (J:w.grownBy w' o) (U:w.heap.size≤w'.heap.size) (h1:kD o o1) (h2:kD o o2):qJ base e n L x be br bs bf ve vr vs vf o1 o2 w':=
 h.keep U (fun b y=>J.block b (h.i1 b y).2 fun I=>h1 b I.symm y) fun b y=>J.block b (h.i2 b y).2 fun I=>h2 b I.symm y
theorem qJ.QK (h:qJ base e n L x false br bs bf ve vr vs vf o1 o2 w) (y:base≤w.heap.size):qJ base e n L x true br bs bf (.slice (some ⟨w.heap.size,0,none⟩) 0 0) vr vs vf (some w.heap.size) o2 (w.alloc (.cells #[] e)):=by
 have U:Below w.heap.size w (w.alloc (.cells #[] e)):=ζ
 have I:br=false:=by cases br with
  | false=>rfl
  | true=>exact absurd (h.hr rfl) (by simp)
 have J:bf=false:=by cases bf with
  | false=>rfl
  | true=>rw [I] at h; exact absurd (h.hf rfl).1 (by simp)
 subst I J;refine ⟨fun _ _=>⟨⟨_,_,rfl⟩,xE (ω w _) y,fun b y=>by simpa [Value.ownBlock] using y⟩,(fun h=>by cases h),fun a b=>(h.s_ a b).keep fun b y=>U.block b (h.i2 b y).2,(fun h=>by cases h),fun b y=>?_,h.i2.keep U.size,(kD.new h.i2).symm,fun _=>rfl,(fun h=>by cases h)⟩;simp at y;subst y;simp;exact y
theorem qJ.stepS (h:qJ base e n L x be br false bf ve vr vs vf o1 o2 w) (y:base≤w.heap.size):qJ base e n L x be br true bf ve vr (.slice (some ⟨w.heap.size,0,none⟩) 1 1) vf o1 (some w.heap.size) (w.alloc (.cells #[x] e)):=by
 have J:Below w.heap.size w (w.alloc (.cells #[x] e)):=ζ;have U:=fun b y=>J.block b (h.i1 b y).2
 have I:bf=false:=by cases bf with
  | false=>rfl
  | true=>exact absurd (h.hf rfl).2 (by simp)
 subst I;refine ⟨fun a b=>(h.e_ a b).keep U,fun a b=>(h.r_ a b).keep U,fun _ _=>⟨_,rfl,ω w _,rfl⟩,(fun h=>by cases h),h.i1.keep J.size,fun b y=>?_,kD.new h.i1,h.hr,(fun h=>by cases h)⟩;simp at y;subst y;simp;exact y
theorem qJ.eu (h:qJ base e n L x true false bs bf ve vr vs vf o1 o2 w) (y:base≤w.heap.size) {A:Option Addr} {cap:Nat} (I:w'.ownsRow base e 1 (.slice A n cap) n L) (hg:w.grownBy w' ve.ownBlock) (hs:w.heap.size≤w'.heap.size)
  (J:(Value.slice A n cap).ownBlock=ve.ownBlock∨(Value.slice A n cap).ownBlock=some w.heap.size) (hin:IB base w' (Value.slice A n cap).ownBlock):
  qJ base e n L x true true bs bf ve (.slice A n cap) vs vf (Value.slice A n cap).ownBlock o2 w':=by
 have a0:bf=false:=by cases bf with
  | false=>rfl
  | true=>exact absurd (h.hf rfl).1 (by simp)
 subst a0;have hE:=h.e_ rfl rfl;have a1:∀ b,o2=some b→w'.heap[b]? = w.heap[b]?:=fun b y=>hg.block b (h.i2 b y).2 fun e'=>h.d b (hE.2.2 b e'.symm) y
 refine ⟨(fun _ h=>by cases h),fun _ _=>⟨⟨_,_,rfl⟩,I,fun b y=>y⟩,fun a b=>(h.s_ a b).keep a1,(fun h=>by cases h),hin,h.i2.keep hs,fun b y U=>?_,fun _=>rfl,(fun h=>by cases h)⟩
 rcases J with hl | hl
 ·rw [hl] at y
  exact h.d b (hE.2.2 b y) U
 ·rw [hl] at y
  have:=(h.i2 b U).2;simp at y;omega
theorem qJ.QL (h:qJ base e n L x true true true false ve vr vs vf o1 o2 w) (y:base≤w.heap.size) {A:Option Addr} {cap:Nat} (I:w'.ownsRow base e 1 (.slice A (n+1) cap) (n+1) (L ++ [x])) (hg:w.grownBy w' vr.ownBlock) (hs:w.heap.size≤w'.heap.size)
  (J:(Value.slice A (n+1) cap).ownBlock=vr.ownBlock∨(Value.slice A (n+1) cap).ownBlock=some w.heap.size) (hin:IB base w' (Value.slice A (n+1) cap).ownBlock):
  qJ base e n L x true true true true ve vr vs (.slice A (n+1) cap) (Value.slice A (n+1) cap).ownBlock o2 w':=by
 have hE:=h.r_ rfl rfl;refine ⟨(fun _ h=>by cases h),(fun _ h=>by cases h),(fun _ h=>by cases h),fun _=>⟨⟨_,_,rfl⟩,I,fun b y=>y⟩,hin,h.i2.keep hs,fun b y U=>?_,fun _=>rfl,fun _=>⟨rfl,rfl⟩⟩
 rcases J with hl | hl
 ·rw [hl] at y
  exact h.d b (hE.2.2 b y) U
 ·rw [hl] at y
  have:=(h.i2 b U).2;simp at y;omega
end
theorem iY {base e size n:Nat} {w:World} {v:Value} {L:List Value} (h:w.ownsRow base e size v n L):IB base w v.ownBlock:=fun b y=>by
 rcases h.2 with ⟨rfl,_⟩ | ⟨g,cap,I,rfl,J,U,_⟩
 ·simp [Value.ownBlock] at y
 ·have:g=b:=by simpa [Value.ownBlock] using y
  subst this;exact ⟨J,ψ U⟩
end D
namespace D
open Go.RowKit
def jk:List ByteArray→ByteArray→List ByteArray
 | [],s=>[s]
 | x :: xs,s=>if fA x s < 0 then x :: jk xs s else if fA x s=0 then x :: xs else s :: x :: xs
def lD:List ByteArray→ByteArray→Nat
 | [],_=>0
 | x :: xs,s=>if fA x s < 0 then lD xs s+1 else 0
def mW (xs:List ByteArray):Prop:=xs.Pairwise fun a b=>fA a b < 0
theorem QM:∀ (xs:List ByteArray) (s:ByteArray),lD xs s≤xs.length
 | [],_=>ν
 | x :: xs,s=>by
  unfold lD; have:=QM xs s
  split
  ·simpa using this
  ·simp
theorem QN:∀ (xs:List ByteArray) (s:ByteArray) (k:Nat) (h:k < xs.length),k < lD xs s→fA xs[k] s < 0
 | x :: xs,s,0,_,hk=>by
  unfold lD at hk
  split at hk
  ·assumption
  ·omega
 | x :: xs,s,k+1,h,hk=>by
  unfold lD at hk
  split at hk
  ·exact QN xs s k (by simpa using h) (by omega)
  ·omega
theorem Lj:∀ (xs:List ByteArray) (s:ByteArray) (h:lD xs s < xs.length),¬ fA xs[lD xs s] s < 0
 | x :: xs,s,h=>by
  by_cases hc:fA x s < 0
  ·have e:lD (x :: xs) s=lD xs s+1:=by rw [lD,if_pos hc]
   have y:lD xs s < xs.length:=by rw [e] at h; simpa using h
   have:=Lj xs s y;simp only [e,List.getElem_cons_succ];exact this
  ·have e:lD (x :: xs) s=0:=by rw [lD,if_neg hc]
   simp only [e,List.getElem_cons_zero];exact hc
theorem IC:∀ (xs:List ByteArray) (s:ByteArray) (h:lD xs s < xs.length),fA xs[lD xs s] s=0→jk xs s=xs
 | x :: xs,s,h,h0=>by
  unfold jk;by_cases hc:fA x s < 0
  ·have e:lD (x :: xs) s=lD xs s+1:=by rw [lD,if_pos hc]
   have y:lD xs s < xs.length:=by rw [e] at h; simpa using h
   simp only [e,List.getElem_cons_succ] at h0;rw [if_pos hc,IC xs s y h0]
  ·have e:lD (x :: xs) s=0:=by rw [lD,if_neg hc]
   simp only [e,List.getElem_cons_zero] at h0;rw [if_neg hc,if_pos h0]
theorem BN:∀ (xs:List ByteArray) (s:ByteArray),(∀ h:lD xs s < xs.length,fA xs[lD xs s] s ≠ 0)→jk xs s=xs.take (lD xs s) ++ [s] ++ xs.drop (lD xs s)
 | [],s,_=>by simp [jk,lD]
 | x :: xs,s,h=>by
  unfold jk;by_cases hc:fA x s < 0
  ·have e:lD (x :: xs) s=lD xs s+1:=by rw [lD,if_pos hc]
   have ih:=BN xs s (fun y=>by
    have:=h (by rw [e]; simpa using y);simp only [e,List.getElem_cons_succ] at this
    exact this)
   rw [if_pos hc,ih,e]; simp
  ·have e:lD (x :: xs) s=0:=by rw [lD,if_neg hc]
   have:=h (by rw [e]; simp);simp only [e,List.getElem_cons_zero] at this;rw [if_neg hc,if_neg this,e]; simp
theorem vG:∀ (xs:List ByteArray) (s x:ByteArray),x ∈ jk xs s ↔ x ∈ xs∨x=s
 | [],s,x=>by simp [jk]
 | y :: xs,s,x=>by
  unfold jk
  split
  ·rw [List.mem_cons,vG xs s x,List.mem_cons,or_assoc]
  ·split
   ·rename_i h
    have:=(gy.eq _ _).1 h;subst this;simp only [List.mem_cons];constructor
    ·exact .inl
    ·rintro (h | h)
     ·exact h
     ·exact .inl h
   ·simp only [List.mem_cons]
    constructor
    ·rintro (h | h | h)
     ·exact .inr h
     ·exact .inl (.inl h)
     ·exact .inl (.inr h)
    ·rintro ((h | h) | h)
     ·exact .inr (.inl h)
     ·exact .inr (.inr h)
     ·exact .inl h
theorem BO:∀ {xs:List ByteArray} (s:ByteArray),mW xs→mW (jk xs s)
 | [],s,_=>by unfold jk mW; exact List.pairwise_singleton _ _
 | x :: xs,s,h=>by
  unfold jk;have J:=List.pairwise_cons.1 h
  split
  ·rename_i hc
   exact List.pairwise_cons.2 ⟨fun y I=>((vG xs s y).1 I).elim (J.1 y) (fun e=>e ▸ hc),BO s J.2⟩
  ·rename_i hc
   split
   ·exact h
   ·rename_i hn
    have U:fA s x < 0:=by have:=gy.anti x s; omega
    refine List.pairwise_cons.2 ⟨fun y I=>?_,h⟩
    rcases List.mem_cons.1 I with rfl | I
    ·exact U
    ·exact gy.nN U (by have:=J.1 y I; omega)
theorem QO (xs:List ByteArray) (s:ByteArray):(jk xs s).length≤xs.length+1:=by
 induction xs with
 | nil=>simp [jk]
 | cons x xs ih=>
  unfold jk
  split
  ·simp; exact ih
  ·split <;> simp
theorem uw {xs:List ByteArray} (h:mW xs):xs.Nodup:=h.imp fun {a b} y e=>by subst e; have:=gy.refl a; omega
theorem mX:mW []:=List.Pairwise.nil
def jW (a:A) (out:List ByteArray):List ByteArray:=a.args.foldl (fun o t=>if t.var then jk o t.name else o) out
def dQ (ps:List Pt) (out:List ByteArray):List ByteArray:=ps.foldl (fun o p=>jW p.atom o) out
def dW (h:A) (ps:List Pt):Bool:=decide ((dQ ps (jW h [])).length=(dQ (ps.filter fun p=>!p.no) []).length)
def aC (ps:List Pt):List ByteArray:=dQ ps []
def jI (x:ByteArray) (y:List T):Prop:=∃ t ∈ y,t.var=true∧t.name=x
theorem BP:∀ (I:List T) (out:List ByteArray) (x:ByteArray),x ∈ I.foldl (fun o t=>if t.var then jk o t.name else o) out ↔ x ∈ out∨jI x I
 | [],out,x=>by simp [jI]
 | t :: I,out,x=>by
  rw [List.foldl_cons,BP I];unfold jI;cases hv:t.var
  ·rw [if_neg (by simp)]
   constructor
   ·rintro (h | ⟨u,h1,y⟩)
    ·exact .inl h
    ·exact .inr ⟨u,Δ _ h1,y⟩
   ·rintro (h | ⟨u,h1,y⟩)
    ·exact .inl h
    ·rcases List.mem_cons.1 h1 with rfl | h1
     ·rw [hv] at y; simp at y
     ·exact .inr ⟨u,h1,y⟩
  ·rw [if_pos rfl,vG]
   constructor
   ·rintro ((h | h) | ⟨u,h1,y⟩)
    ·exact .inl h
    ·exact .inr ⟨t,Γ,hv,h.symm⟩
    ·exact .inr ⟨u,Δ _ h1,y⟩
   ·rintro (h | ⟨u,h1,y⟩)
    ·exact .inl (.inl h)
    ·rcases List.mem_cons.1 h1 with rfl | h1
     ·exact .inl (.inr y.2.symm)
     ·exact .inr ⟨u,h1,y⟩
theorem xH (a:A) (out:List ByteArray) (x:ByteArray):x ∈ jW a out ↔ x ∈ out∨jI x a.args:=BP _ _ _
theorem BQ:∀ (y:List T) {out:List ByteArray},mW out→mW (y.foldl (fun o t=>if t.var then jk o t.name else o) out)
 | [],_,h=>h
 | t :: y,out,h=>by
  rw [List.foldl_cons];refine BQ y ?_
  split
  ·exact BO _ h
  ·exact h
theorem Ey (a:A) {out:List ByteArray} (h:mW out):mW (jW a out):=BQ _ h
theorem uy:∀ (y:List T) (out:List ByteArray),(y.foldl (fun o t=>if t.var then jk o t.name else o) out).length≤out.length+y.length
 | [],out=>by simp
 | t :: y,out=>by
  rw [List.foldl_cons];have h1:=uy y (if t.var then jk out t.name else out)
  have I:(if t.var then jk out t.name else out).length≤out.length+1:=by
   split
   ·exact QO _ _
   ·omega
  simp only [List.length_cons];omega
theorem Ez (a:A) (out:List ByteArray):(jW a out).length≤out.length+a.args.length:=uy _ _
theorem fV:∀ (ps:List Pt) (out:List ByteArray) (x:ByteArray),x ∈ dQ ps out ↔ x ∈ out∨∃ p ∈ ps,jI x p.atom.args
 | [],out,x=>by simp [dQ]
 | p :: ps,out,x=>by
  have e:dQ (p :: ps) out=dQ ps (jW p.atom out):=rfl;rw [e,fV ps,xH];constructor
  ·rintro ((h | h) | ⟨q,h1,y⟩)
   ·exact .inl h
   ·exact .inr ⟨p,Γ,h⟩
   ·exact .inr ⟨q,Δ _ h1,y⟩
  ·rintro (h | ⟨q,h1,y⟩)
   ·exact .inl (.inl h)
   ·rcases List.mem_cons.1 h1 with rfl | h1
    ·exact .inl (.inr y)
    ·exact .inr ⟨q,h1,y⟩
theorem kW:∀ (ps:List Pt) {out:List ByteArray},mW out→mW (dQ ps out)
 | [],_,h=>h
 | p :: ps,out,h=>by
  have e:dQ (p :: ps) out=dQ ps (jW p.atom out):=rfl;rw [e]; exact kW ps (Ey _ h)
theorem mY:∀ (ps:List Pt) (out:List ByteArray),(dQ ps out).length≤out.length+iq (fun p=>p.atom.args.length) ps
 | [],out=>by simp [dQ]
 | p :: ps,out=>by
  have e:dQ (p :: ps) out=dQ ps (jW p.atom out):=rfl;have h1:=mY ps (jW p.atom out);have I:=Ez p.atom out;have y:iq (fun p:Pt=>p.atom.args.length) (p :: ps)=p.atom.args.length+iq (fun p=>p.atom.args.length) ps:=by simp [iq]
  rw [e,y];omega
theorem IE (ps:List Pt) (k:Nat) (h:k < ps.length) (out:List ByteArray):dQ (ps.take (k+1)) out=jW ps[k].atom (dQ (ps.take k) out):=by
 unfold dQ; rw [ρ h,List.foldl_append]; rfl
theorem Ll (a:A) (k:Nat) (h:k < a.args.length) (out:List ByteArray):
  (a.args.take (k+1)).foldl (fun o t=>if t.var then jk o t.name else o) out=(if a.args[k].var then jk ((a.args.take k).foldl (fun o t=>if t.var then jk o t.name else o) out) a.args[k].name else (a.args.take k).foldl (fun o t=>if t.var then jk o t.name else o) out):=by
 rw [ρ h,List.foldl_append]; rfl
theorem IG (ps:List Pt) (k:Nat) (h:k < ps.length):(ps.take (k+1)).filter (fun p=>!p.no)=(ps.take k).filter (fun p=>!p.no) ++ (if ps[k].no then [] else [ps[k]]):=by
 rw [ρ h,List.filter_append]
 congr 1
 cases hn:ps[k].no <;> simp [hn]
theorem NE:∀ {xs ys:List ByteArray},xs.Nodup→(∀ x ∈ xs,x ∈ ys)→ys.length≤xs.length→∀ y ∈ ys,y ∈ xs
 | [],ys,_,_,hl,y,hy=>by
  have:ys = []:=List.length_eq_zero_iff.1 (by simpa using hl);subst this; simp at hy
 | x :: xs,ys,hn,hs,hl,y,hy=>by
  have hx:=hs x Γ;obtain ⟨l,r,rfl⟩:=List.append_of_mem hx;have I:=List.nodup_cons.1 hn
  have ih:=NE (xs:=xs) (ys:=l ++ r) I.2 (fun z U=>by
   have:=hs z (Δ _ U);have J:z ≠ x:=fun e=>I.1 (e ▸ U)
   rcases μ.1 this with h | h
   ·exact μ.2 (.inl h)
   ·rcases List.mem_cons.1 h with h | h
    ·exact absurd h J
    ·exact μ.2 (.inr h)) (by simp at hl ⊢; omega)
  by_cases e:y=x
  ·exact e ▸ Γ
  ·refine Δ _ (ih y ?_)
   rcases μ.1 hy with h | h
   ·exact μ.2 (.inl h)
   ·rcases List.mem_cons.1 h with h | h
    ·exact absurd h e
    ·exact μ.2 (.inr h)
theorem pG:∀ {xs ys:List ByteArray},xs.Nodup→(∀ x ∈ xs,x ∈ ys)→xs.length≤ys.length
 | [],ys,_,_=>ε
 | x :: xs,ys,hn,hs=>by
  have U:=hs x Γ;obtain ⟨l,r,rfl⟩:=List.append_of_mem U;have y:=List.nodup_cons.1 hn
  have ih:=pG (xs:=xs) (ys:=l ++ r) y.2 (fun z J=>by
   have:=hs z (Δ _ J);have I:z ≠ x:=fun e=>y.1 (e ▸ J)
   rcases μ.1 this with h | h
   ·exact μ.2 (.inl h)
   ·rcases List.mem_cons.1 h with h | h
    ·exact absurd h I
    ·exact μ.2 (.inr h))
  simp at ih ⊢; omega
def iw (ps:List Pt) (x:ByteArray):Bool:=ps.any fun p=>!p.no && p.atom.args.any fun t=>t.var && decide (fA t.name x=0)
def fF (ps:List Pt) (a:A):Bool:=a.args.all fun t=>!t.var || iw ps t.name
def qP (ps:List Pt):Bool:=!ps.all fun p=>fF ps p.atom
theorem mZ (ps:List Pt) (x:ByteArray):iw ps x=true ↔ x ∈ dQ (ps.filter fun p=>!p.no) []:=by
 rw [fV];unfold iw jI;simp only [List.any_eq_true,ο,Bool.not_eq_true',decide_eq_true_eq,gy.eq,List.mem_filter,List.not_mem_nil,false_or];constructor
 ·rintro ⟨p,h1,y,t,I,J,U⟩
  exact ⟨p,⟨h1,y⟩,t,I,J,U⟩
 ·rintro ⟨p,⟨h1,y⟩,t,I,J,U⟩
  exact ⟨p,h1,y,t,I,J,U⟩
theorem pI (ps:List Pt) (a:A):fF ps a=true ↔ ∀ x,jI x a.args→iw ps x=true:=by
 unfold fF jI;rw [List.all_eq_true];constructor
 ·rintro h x ⟨t,h1,y,rfl⟩
  have:=h t h1;rw [y] at this;simpa using this
 ·intro h t I
  cases hv:t.var
  ·rfl
  ·rw [h t.name ⟨t,I,hv,rfl⟩]; rfl
theorem EC (h:A) (ps:List Pt):dW h ps=true ↔ (∀ x,jI x h.args→iw ps x=true)∧qP ps=false:=by
 unfold dW qP;rw [decide_eq_true_iff];have U:=uw (kW (ps.filter fun p=>!p.no) mX);have a0:=uw (kW ps (Ey h mX))
 have I:∀ x ∈ dQ (ps.filter fun p=>!p.no) [],x ∈ dQ ps (jW h []):=fun x y=>by
  rw [fV] at y ⊢
  rcases y with y | ⟨p,hp,y⟩
  ·simp at y
  ·exact .inr ⟨p,(List.mem_filter.1 hp).1,y⟩
 simp only [Bool.not_eq_false',List.all_eq_true,pI];constructor
 ·intro hl
  have J:=NE U I (Nat.le_of_eq hl);refine ⟨fun x y=>(mZ ps x).2 (J x ((fV ..).2 (.inl ((xH ..).2 (.inr y))))),fun p hp x y=>(mZ ps x).2 (J x ((fV ..).2 (.inr ⟨p,hp,y⟩)))⟩
 ·rintro ⟨h1,h2⟩
  refine Nat.le_antisymm (pG a0 fun x y=>?_) (pG U I)
  rcases (fV ..).1 y with y | ⟨p,hp,y⟩
  ·rcases (xH ..).1 y with y | y
   ·simp at y
   ·exact (mZ ps x).1 (h1 x y)
  ·exact (mZ ps x).1 (h2 p hp x y)
end D
end Go.Proofs.YtkjinanbccloeaaGreatDoor
