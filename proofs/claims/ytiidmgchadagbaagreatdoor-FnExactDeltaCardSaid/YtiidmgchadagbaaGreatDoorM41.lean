/- Of the proof of FnExactDelta: AllQ, RndI, SFn. -/
import Derived.Test.YtiidmgchadagbaaGreatDoorM40
set_option linter.unusedVariables false
set_option maxHeartbeats 4000000
set_option maxRecDepth 100000
namespace Go.Proofs.YtiidmgchadagbaaGreatDoor
open Go.RowKit D
theorem D.Wy {rs:List Ru} (h:yE rs) {r:Ru} (hr:r ∈ rs):iO rs r.head.name < rs.length:=by
 obtain ⟨i,hi,rfl⟩:=List.getElem_of_mem hr;obtain ⟨h1,h2⟩:=oC h.cyc;have h3:=yP h1;have e:dQ rs i=rs[i]:=by unfold dQ; simp [List.getD,hi]
 have h4:=h2 i hi;rw [e] at h4;rw [← h4];unfold lY at h3;rw [List.any_eq_false] at h3
 have h5:iP (ax rs) i ∈ ax rs:=by
  unfold iP; rw [List.getD_eq_getElem?_getD,List.getElem?_eq_getElem (by rw [gy]; exact hi)]; exact List.getElem_mem _
 have:=h3 _ h5;simpa using this
structure D.vC (rs:List Ru) (given:List A) (L:Nat) (fs:List A) (rn:List Nat) (number:Nat) (r:Rd) (fuel:Nat):Prop where
 sim:VI fs rn r
 ok:pW r
 fact:∀ x ∈ r.1,aX x
 len:r.1.length≤300
 num:number≤r.1.length
 fu:302≤fuel+r.1.length
 run:iM rs given=AQ rs (ax rs) (rs.length+1 - L) fuel r number
def D.qB (rs:List Ru) (given:List A) (L:Nat) (fs:List A) (rn:List Nat) (number:Nat):Prop:=∃ r fuel,vC rs given L fs rn number r fuel
def D.qC (rs:List Ru) (given:List A) (L:Nat) (own next:List Ru) (fs:List A) (rn:List Nat) (number:Nat):Prop:=
 (∃ r fuel,vC rs given L fs rn number r fuel∧(∀ q ∈ next,q ∈ own)∧∀ q ∈ own,q ∉ next→∀ t,lg fs q t→t ∈ fs)∨(next = []∧qB rs given (L+1) fs rn number)
open Classical in
noncomputable def D.NW (own:List Ru) (new:List A):List Ru:=own.filter fun q=>q.body.any fun p=>!p.no && decide (∃ t ∈ new,t.name=p.atom.name)
section
variable {rs:List Ru} {given:List A} {L:Nat} {own next:List Ru} {fs:List A} {rn:List Nat} {number fuel:Nat} {r:Rd}
theorem D.vC.Vx (h:vC rs given L fs rn number r fuel):fs.length=r.1.length:=(h.sim.fst h.ok).length_eq
theorem D.vC.facts (h:vC rs given L fs rn number r fuel):∀ x ∈ fs,aX x:=fun x hx=>h.fact x ((h.sim.fst h.ok).mem_iff.1 hx)
theorem D.qB.few (h:qB rs given L fs rn number):fs.length≤300∧rn.length=fs.length∧number≤fs.length∧∀ x ∈ fs,aX x:=by
 obtain ⟨r,fuel,h⟩:=h;have:=h.Vx;exact ⟨by have:=h.len; omega,h.sim.len,by have:=h.num; omega,h.facts⟩
theorem D.qC.few (h:qC rs given L own next fs rn number):fs.length≤300∧rn.length=fs.length∧number≤fs.length∧∀ x ∈ fs,aX x:=by
 rcases h with ⟨r,fuel,h,_⟩ | ⟨_,h⟩
 ·exact qB.few ⟨r,fuel,h⟩
 ·exact h.few
theorem D.all_start (ha:ig given=true) (hf:∀ x ∈ given,aX x) (hl:given.length≤300):qB rs given 0 given (List.replicate given.length 0) 0:=
 ⟨(given,List.replicate given.length 0),302,⟨by simp,List.Perm.refl _⟩,⟨ha,by simp⟩,hf,hl,Nat.zero_le _,by show 302≤302+given.length; omega,rfl⟩
theorem D.qB.enter (h:qB rs given L fs rn number):qC rs given L own own fs rn number:=by
 obtain ⟨r,fuel,h⟩:=h;exact .inl ⟨r,fuel,h,fun q hq=>hq,fun q hq hn=>absurd hq hn⟩
theorem D.vC.go (h:vC rs given L fs rn number r fuel) (hL:L≤rs.length):∃ f,fuel=f+1∧iM rs given =
  if 300 < (fG rs (ax rs) L r (number+1)).1.length then (fG rs (ax rs) L r (number+1),false)
  else if (fG rs (ax rs) L r (number+1)).1.length=r.1.length then AQ rs (ax rs) (rs.length - L) 302 (fG rs (ax rs) L r (number+1)) number
  else AQ rs (ax rs) (rs.length - L+1) f (fG rs (ax rs) L r (number+1)) (number+1):=by
 have h1:=h.fu;have h2:=h.len;obtain ⟨f,rfl⟩:∃ f,fuel=f+1:=⟨fuel - 1,by omega⟩;refine ⟨f,rfl,?_⟩;rw [h.run,show rs.length+1 - L=rs.length - L+1 by omega,AQ,show rs.length - (rs.length - L)=L by omega]
theorem D.vC.Un (H:yE rs) (h:vC rs given L fs rn number r fuel) (n:Nat):pW (fG rs (ax rs) L r n)∧∀ x ∈ (fG rs (ax rs) L r n).1,aX x:=
 ⟨(nV h.ok n _).1,(lI H h.fact L n).1⟩
theorem D.qC.done (H:yE rs) (hL:L≤rs.length) (hown:OwnAt rs L own) (h:qC rs given L own [] fs rn number):qB rs given (L+1) fs rn number:=by
 rcases h with ⟨r,fuel,h,_,h2⟩ | ⟨_,h⟩
 ·obtain ⟨f,rfl,e⟩:=h.go hL
  obtain ⟨s1,s2⟩:=FP (next:=[]) (new:=[]) (n:=number+1) H h.ok h.fact h.sim (fun q hq=>by simp at hq) (fun q hq hl _ t hf=>h2 q ((hown q).2 ⟨hq,hl⟩) (by simp) t hf) List.nodup_nil (fun t=>by simp);have hfl:=h.Vx;have hl:=h.len;simp only [List.length_nil,Nat.add_zero] at s2;rw [if_neg (by omega),if_pos (by omega)] at e;simp only [List.append_nil,List.length_nil,List.replicate_zero] at s1;obtain ⟨o1,o2⟩:=h.Un H (number+1);exact ⟨_,302,s1,o1,o2,by omega,by have:=h.num; omega,by omega,by rw [e,show rs.length+1 - (L+1)=rs.length - L by omega]⟩
 ·exact h
theorem D.qC.round (H:yE rs) (hL:L≤rs.length) (hown:OwnAt rs L own) (h:qC rs given L own next fs rn number) {new:List A} (hne:next ≠ []) (hn:new.Nodup) (hnew:∀ t,t ∈ new ↔ t ∉ fs∧∃ q ∈ next,lg fs q t) (hfew:fs.length+new.length≤300):
  (new = []→qC rs given L own [] fs rn number)∧(new ≠ []→qC rs given L own (NW own new) (fs ++ new) (rn ++ List.replicate new.length (number+1)) (number+1)):=by
 classical
 rcases h with ⟨r,fuel,h,h1,h2⟩ | ⟨h,_⟩
 ·obtain ⟨f,rfl,e⟩:=h.go hL
  obtain ⟨s1,s2⟩:=FP (next:=next) (new:=new) (n:=number+1) H h.ok h.fact h.sim (fun q hq=>(hown q).1 (h1 q hq)) (fun q hq hl hnn t hf=>h2 q ((hown q).2 ⟨hq,hl⟩) hnn t hf) hn hnew;have hfl:=h.Vx;have hl:=h.len;obtain ⟨o1,o2⟩:=h.Un H (number+1);refine ⟨fun hz=>?_,fun hz=>?_⟩
  ·subst hz
   simp only [List.length_nil,Nat.add_zero] at s2;rw [if_neg (by omega),if_pos (by omega)] at e;simp only [List.append_nil,List.length_nil,List.replicate_zero] at s1;exact .inr ⟨rfl,_,302,s1,o1,o2,by omega,by have:=h.num; omega,by omega,by rw [e,show rs.length+1 - (L+1)=rs.length - L by omega]⟩
  ·have hp:0 < new.length:=List.length_pos_iff.2 hz
   rw [if_neg (by omega),if_neg (by omega)] at e;have hfu:=h.fu;have hnu:=h.num;refine .inl ⟨_,f,⟨s1,o1,o2,by omega,by omega,by omega,by rw [e,show rs.length+1 - L=rs.length - L+1 by omega]⟩,fun q hq=>(List.mem_filter.1 hq).1,fun q hq hnq t hf=>?_⟩;have hnt:∀ p ∈ q.body,p.no=false→∀ t ∈ new,t.name ≠ p.atom.name:=fun p hp hno t ht he=>hnq (List.mem_filter.2 ⟨hq,List.any_eq_true.2 ⟨p,hp,by simp [hno]; exact ⟨t,ht,he⟩⟩⟩)
   have hf0:=KP hnt hf;by_cases hm:t ∈ fs
   ·exact List.mem_append_left _ hm
   ·by_cases hqn:q ∈ next
    ·exact List.mem_append_right _ ((hnew t).2 ⟨hm,q,hqn,hf0⟩)
    ·exact absurd (h2 q hq hqn t hf0) hm
 ·exact absurd h hne
theorem D.qC.over (H:yE rs) (hL:L≤rs.length) (hown:OwnAt rs L own) (h:qC rs given L own next fs rn number) {new:List A} (hne:next ≠ []) (hn:new.Nodup) (hnew:∀ t ∈ new,t ∉ fs∧∃ q ∈ next,lg fs q t) (hm:300 < fs.length+new.length):(iM rs given).2=false:=by
 rcases h with ⟨r,fuel,h,h1,h2⟩ | ⟨h,_⟩
 ·obtain ⟨f,rfl,e⟩:=h.go hL
  have:=Ul (n:=number+1) H h.ok h.fact h.sim (fun q hq=>(hown q).1 (h1 q hq)) hn hnew hm;rw [e,if_pos this]
 ·exact absurd h hne
theorem D.qB.fin (H:yE rs) (h:qB rs given rs.length fs rn number):(iM rs given).2=true∧VI fs rn (iM rs given).1∧pW (iM rs given).1∧(∀ x ∈ fs,aX x)∧fs.length≤300:=by
 have hown:OwnAt rs rs.length []:=fun q=>⟨fun h=>by simp at h,fun ⟨h1,h2⟩=>by have:=Wy H h1; omega⟩
 obtain ⟨r,fuel,h2⟩:=(h.enter (own:=[])).done H (Nat.le_refl _) hown;have e:=h2.run;rw [Nat.sub_self,AQ] at e;have hf:=h2.Vx;exact ⟨by rw [e],by rw [e]; exact h2.sim,by rw [e]; exact h2.ok,h2.facts,by have:=h2.len; omega⟩
end
end Go.Proofs.YtiidmgchadagbaaGreatDoor
namespace Go.Proofs.YtiidmgchadagbaaGreatDoor
open Go.RowKit D
attribute [local go_sem ↓] Go.wp_at_zero Go.wp_at_succ
def D.Ia (w:World):List Value→List A→List Nat→Prop
 | [],[],b=>b = []
 | v :: vs,a :: l,b=>∃ c b1 b2,v=.agg #[.string a.name,c]∧b=b1 ++ b2∧aU w [.string a.name,c] a b1∧Ia w vs l b2
 | _,_,_=>False
theorem D.Ia.len {w:World}:∀ {vs:List Value} {l:List A} {b:List Nat},Ia w vs l b→vs.length=l.length
 | [],[],_,_=>rfl
 | v :: vs,a :: l,b,h=>by
  obtain ⟨_,_,_,_,_,_,h⟩:=h;simp [h.len]
 | [],a :: l,_,h=>h.elim
 | v :: vs,[],_,h=>h.elim
theorem D.Ia.keep {w w':World}:∀ {vs:List Value} {l:List A} {b:List Nat},Ia w vs l b→(∀ x ∈ b,w'.heap[x]? = w.heap[x]?)→Ia w' vs l b
 | [],[],_,h,_=>h
 | v :: vs,a :: l,b,h,hk=>by
  obtain ⟨c,b1,b2,h1,h2,h3,h4⟩:=h;subst h2;exact ⟨c,b1,b2,h1,rfl,aj.keep h3 fun x hx=>hk x (List.mem_append_left _ hx),h4.keep fun x hx=>hk x (List.mem_append_right _ hx)⟩
 | [],a :: l,_,h,_=>h.elim
 | v :: vs,[],_,h,_=>h.elim
theorem D.Ia.lt {w:World}:∀ {vs:List Value} {l:List A} {b:List Nat},Ia w vs l b→∀ x ∈ b,x < w.heap.size
 | [],[],b,h,x,hx=>by rw [show b = [] from h] at hx; simp at hx
 | v :: vs,a :: l,b,h,x,hx=>by
  obtain ⟨c,b1,b2,h1,h2,h3,h4⟩:=h;subst h2
  rcases List.mem_append.1 hx with hx | hx
  ·exact aj.lt h3 x hx
  ·exact h4.lt x hx
 | [],a :: l,_,h,_,_=>h.elim
 | v :: vs,[],_,h,_,_=>h.elim
theorem D.Ia.snoc {w:World} {a:A} {c:Value} {ba:List Nat} (ha:aU w [.string a.name,c] a ba):∀ {vs:List Value} {l:List A} {b:List Nat},Ia w vs l b→Ia w (vs ++ [.agg #[.string a.name,c]]) (l ++ [a]) (b ++ ba)
 | [],[],b,h=>by
  rw [show b = [] from h];exact ⟨c,ba,[],rfl,by simp,ha,rfl⟩
 | v :: vs,a' :: l,b,h=>by
  obtain ⟨c',b1,b2,h1,h2,h3,h4⟩:=h;subst h2;exact ⟨c',b1,b2 ++ ba,h1,by simp,h3,h4.snoc ha⟩
 | [],a :: l,_,h=>h.elim
 | v :: vs,[],_,h=>h.elim
def D.yF (nr:Nat) (l:List A):List (Value × Value):=l.map fun a=>(.string (eu a),.int .i64 (nr:Nat))
theorem D.NY {nr ms:Nat} {l:List A} {w:World} (h:nK isStr ms (yF nr l) w) (s:ByteArray) (hs:s.size≤maxLen):
  ∃ i:Nat,(Instr.lookup 85 (.map (some ms)) (.string s) true).run Tryz.prog w=.ok (.tuple #[.int .i64 i,.bool (decide (s ∈ l.map eu))]) w:=by
 by_cases hm:s ∈ l.map eu
 ·obtain ⟨a,ha,rfl⟩:=List.mem_map.1 hm
  refine ⟨nr,?_⟩;rw [decide_eq_true hm];exact qN mP trivial true Tryz.underlying85 h (List.mem_map.2 ⟨a,ha,rfl⟩)
 ·refine ⟨0,?_⟩
  rw [decide_eq_false hm]
  have hno:∀ p ∈ yF nr l,p.1 ≠ .string s:=fun p hp e=>by
   obtain ⟨a,ha,rfl⟩:=List.mem_map.1 hp;simp at e;exact hm (List.mem_map.2 ⟨a,ha,e⟩)
  obtain ⟨⟨es,ck,hb,hL⟩,h2,h3⟩:=h;rw [← hL] at h2 hno;have hSs:∀ e ∈ es.toList,isStr e.key:=fun e he=>h2 (e.key,e.val) (List.mem_map.2 ⟨e,he,rfl⟩)
  rcases lW mP (w:=w) trivial (k:=.string s) ⟨s,rfl,hs⟩ es.toList hSs with ⟨h5,h6⟩ | ⟨i,e1,h5,h6,h7⟩
  ·simp [Instr.lookup,run_underlying Tryz.underlying85,MapKept.run_getObj_map hb,mP.check w _ ⟨s,rfl,hs⟩,h5,Result.andThen]
  ·exact absurd h7 (hno (e1.key,e1.val) (List.mem_map.2 ⟨e1,List.mem_of_getElem? h6,rfl⟩))
theorem D.Uo {S:Value→Prop} {b:Nat} {L:List (Value × Value)} {w:World} (h:nK S b L w) (ty:TypeId):(Builtin.len_ #[85] ty #[.map (some b)]).run Tryz.prog w=.ok (.int .i64 L.length) w:=by
 obtain ⟨⟨es,ck,hb,hL⟩,_,_⟩:=h;have e:L.length=es.size:=by rw [← hL]; simp
 rw [e];exact run_len_map (P:=Tryz.prog) (w:=w) 85 ty b es ck (by kernel_rfl) hb
theorem D.QB {nr:Nat} {l:List A}:(yF nr l).length=l.length:=by simp [yF]
structure D.qE where
 bM:Nat
 bS:Nat
 bN:Nat
 bF:Nat
 bC:Nat
 ms:Nat
 ch:Nat
 sb:Nat
 nr:Nat
def D.qE.own (x:qE):List Nat:=[x.bM,x.bS,x.bN,x.bF,x.bC,x.ms,x.ch]
def D.qE.K (x:qE) (k:Nat):Prop:=k=x.ms∨k=x.bF∨k=x.ch
def D.qE.vG (x:qE):Array Value:=#[.pointer (some ⟨x.bM,0,none⟩),.pointer (some ⟨x.bS,0,none⟩),.pointer (some ⟨x.bN,0,none⟩),.pointer (some ⟨x.bF,0,none⟩),.pointer (some ⟨x.bC,0,none⟩)]
structure D.ni (x:qE) (n0:Nat) (fs:List A) (bst:List Nat) (w:World) (told:List A) (fb:List Nat):Prop where
 cM:w.heap[x.bM]? = some (.cells #[.map (some x.ms)] 85 (0,0))
 cS:w.heap[x.bS]? = some (.cells #[.pointer (some ⟨x.sb,0,none⟩)] 80 (0,0))
 cN:w.heap[x.bN]? = some (.cells #[.int .i64 x.nr] 3 (0,0))
 cF:w.heap[x.bF]? = some (.cells #[.bool true] 4 (0,0))
 cC:w.heap[x.bC]? = some (.cells #[.chan (some x.ch)] 158 (0,0))
 sn:nK isStr x.ms (yF x.nr (newL fs told)) w
 cH:∃ vs sd bb,w.heap[x.ch]? = some (.chan 301 ⟨vs⟩ false sd 0 false)∧Ia w vs (newL fs told) bb∧∀ k ∈ bb,k ∈ fb∧n0≤k∧k ∉ x.own
 st:∃ rn,kE x.sb fs rn bst w
 few:fs.length+(newL fs told).length≤300
 tok:∀ t ∈ told,aX t
 nd:x.own.Nodup
 ow:∀ k ∈ x.own,k ∈ fb
 rY:∀ k ∈ bst,k ∈ fb∧k ∉ x.own
 lo:n0≤x.bM
 lt:∀ k ∈ fb,k < w.heap.size
structure D.rM (x:qE) (w:World) (fb:List Nat):Prop where
 cF:w.heap[x.bF]? = some (.cells #[.bool false] 4 (0,0))
 ow:∀ k ∈ x.own,k ∈ fb
 lt:∀ k ∈ fb,k < w.heap.size
def D.Ur (x:qE) (n0:Nat) (fs:List A) (bst:List Nat) (f:Bool) (w:World) (told:List A) (fb:List Nat):Prop:=if f then ni x n0 fs bst w told fb else rM x w fb
theorem D.ni.keep {x:qE} {n0:Nat} {fs:List A} {bst:List Nat} {w w':World} {told:List A} {fb:List Nat} (h:ni x n0 fs bst w told fb) (hk:∀ k ∈ fb,w'.heap[k]? = w.heap[k]?) (hs:w.heap.size≤w'.heap.size):ni x n0 fs bst w' told fb:=by
 have ko:∀ k ∈ x.own,w'.heap[k]? = w.heap[k]?:=fun k hk'=>hk k (h.ow k hk')
 obtain ⟨vs,sd,bb,h1,h2,h3⟩:=h.cH;obtain ⟨rn,hst⟩:=h.st
 exact ⟨(ko _ (by simp [qE.own])).trans h.cM,(ko _ (by simp [qE.own])).trans h.cS,(ko _ (by simp [qE.own])).trans h.cN,(ko _ (by simp [qE.own])).trans h.cF,(ko _ (by simp [qE.own])).trans h.cC,h.sn.same (ko _ (by simp [qE.own])),
  ⟨vs,sd,bb,(ko _ (by simp [qE.own])).trans h1,h2.keep fun k hk'=>hk k (h3 k hk').1,h3⟩,⟨rn,hst.keep (fun k hk'=>hk k (h.rY k hk').1) hs⟩,h.few,h.tok,h.nd,h.ow,h.rY,h.lo,fun k hk'=>Nat.lt_of_lt_of_le (h.lt k hk') hs⟩
theorem D.rM.keep {x:qE} {w w':World} {fb:List Nat} (h:rM x w fb) (hk:∀ k ∈ fb,w'.heap[k]? = w.heap[k]?) (hs:w.heap.size≤w'.heap.size):rM x w' fb:=
 ⟨(hk _ (h.ow _ (by simp [qE.own]))).trans h.cF,h.ow,fun k hk'=>Nat.lt_of_lt_of_le (h.lt k hk') hs⟩
theorem D.ni.same {x:qE} {n0:Nat} {fs:List A} {bst:List Nat} {w w':World} {told:List A} {fb:List Nat} (h:ni x n0 fs bst w told fb) {a:A} (hok:aX a) (hm:a ∈ fs∨a ∈ newL fs told) (hb:Below w.heap.size w w'):
  Uk fs (told ++ [a])=true∧ni x n0 fs bst w' (told ++ [a]) fb:=by
 classical
 have e:newL fs (told ++ [a])=newL fs told:=by rw [zh,if_pos hm]
 refine ⟨?_,?_⟩
 ·rw [KO]
  exact decide_eq_true (hm.elim .inl fun h=>.inr (.inl h))
 ·have k:=h.keep (fun k hk=>hb.block k (h.lt k hk)) hb.size
  exact ⟨k.cM,k.cS,k.cN,k.cF,k.cC,e ▸ k.sn,e ▸ k.cH,k.st,e ▸ k.few,fun t ht=>(List.mem_append.1 ht).elim (k.tok t) fun h=>by rw [List.mem_singleton.1 h]; exact hok,k.nd,k.ow,k.rY,k.lo,k.lt⟩
theorem Ei (x:qE) (n0:Nat) (fs:List A) (bst:List Nat) (hfs:∀ f ∈ fs,aX f) (told:List A) (fb:List Nat) (a:A) (c1:Value) (ba:List Nat) (b0:Nat) (w:World) (F:ni x n0 fs bst w told fb) (hb0:∀ k ∈ fb,k < b0) (hn:New b0 w ba) (ha:aU w [.string a.name,c1] a ba) (hok:aX a):
  Calls Tryz.prog 109 (#[.agg #[.string a.name,c1]] ++ x.vG) w fun e w'=>e=.returned (.bool (Uk fs (told ++ [a])))∧(∃ fb',Ur x n0 fs bst (Uk fs (told ++ [a])) w' (told ++ [a]) fb'∧∀ k ∈ fb',k ∈ fb∨b0≤k)∧gW x.K w w':=by
 obtain ⟨Ae,ce,_,rfl⟩:=bJ ha;have hA:Below w.heap.size w (w.alloc (.cells #[.string a.name,.slice Ae a.args.length ce] 68)):=(Below.refl _ _).alloc (Nat.le_refl _) _;have hbulk:jm a≤16777216:=by have:=G7 hok.ok; omega
 have hT:=η (qU a (.string a.name) (.slice Ae a.args.length ce) ba _ (aj.below ha hA) hbulk);have hx:w.heap.size < (w.alloc (.cells #[.string a.name,.slice Ae a.args.length ce] 68)).heap.size:=by simp
 have y0:(w.alloc (.cells #[.string a.name,.slice Ae a.args.length ce] 68)).heap[w.heap.size]? = some (.cells #[.string a.name,.slice Ae a.args.length ce] 68 (0,0)):=heap_alloc_new _ _;have z0:(w.alloc (.cells #[.string a.name,.slice Ae a.args.length ce] 68)).cell? ⟨w.heap.size,0,none⟩=some (.string a.name):=ak y0;have z1:(w.alloc (.cells #[.string a.name,.slice Ae a.args.length ce] 68)).cell? ⟨w.heap.size,1,none⟩=some (.slice Ae a.args.length ce):=ak y0;have HF:=η F;have HA:=η hA;have HB0:=η hb0;have HN:=η hn;have HAT:=η ha;have HY0:=η y0;clear F hb0 hn ha hA y0 hbulk;unfold qE.vG
 go_enter Tryz.func109,Tryz.ntmps109
 go_wp2_with fail
 refine hT.out.mono ?_;rintro e w2 ⟨rfl,hb2⟩;have HB2:=η (HA.out.trans (hb2.mono HA.out.size));have hx2:=Nat.lt_of_lt_of_le hx hb2.size;have z0:=cell_later hb2 z0;have z1:=cell_later hb2 z1;have HF2:=η (HF.out.keep (fun k hk=>HB2.out.block k (HF.out.lt k hk)) HB2.out.size);have HAT2:=η (aj.below HAT.out HB2.out);have HB2X:Hid (w2.heap[w.heap.size]? = some (.cells #[.string a.name,.slice Ae a.args.length ce] 68 (0,0))):=η ((hb2.block _ hx).trans HY0.out);clear hT hb2;have hnew:∀ t ∈ newL fs told,aX t:=fun t ht=>HF.out.tok t (((qA fs told).2 t).1 ht).1
 have xM:w2.cell? ⟨x.bM,0,none⟩=some (.map (some x.ms)):=ak HF2.out.cM;have xS:w2.cell? ⟨x.bS,0,none⟩=some (.pointer (some ⟨x.sb,0,none⟩)):=ak HF2.out.cS;have xN:w2.cell? ⟨x.bN,0,none⟩=some (.int .i64 x.nr):=ak HF2.out.cN;obtain ⟨vi,hlk⟩:=NY HF2.out.sn (eu a) (ru hok.ok);have hm1:=yx hnew hok;generalize decide (eu a ∈ (newL fs told).map eu)=s1 at hlk hm1;unfold eu at hlk
 cases s1 with
 | true=>
  have HD:=η (HF.out.same hok (.inr (hm1.1 rfl)) HB2.out);clear hm1 hnew;go_wp2;go_ret;obtain ⟨e1,h1⟩:=HD.out;rw [e1];exact ⟨rfl,⟨fb,h1,fun k hk=>.inl hk⟩,gW.of_below HB2.out⟩
 | false=>
  have hno1:a ∉ newL fs told:=fun h=>by have:=hm1.2 h; simp at this
  obtain ⟨rn,hst⟩:=HF2.out.st;have hcall:=y9 x.sb fs rn bst a _ _ ba w2 hst HAT2.out hok.ok;have hm2:=yx hfs hok;generalize decide (eu a ∈ fs.map eu)=s2 at hcall hm2;clear hst
  go_wp2_with fail
  refine hcall.mono ?_;rintro e w3 ⟨rfl,hb3⟩;clear hcall hlk;have HB3:=η (HB2.out.trans (hb3.mono HB2.out.size));have xM:=cell_later hb3 xM;have xS:=cell_later hb3 xS;have xN:=cell_later hb3 xN;have z0:=cell_later hb3 z0;have z1:=cell_later hb3 z1;have hx3:=Nat.lt_of_lt_of_le hx2 hb3.size
  cases s2 with
  | true=>
   have HD:=η (HF.out.same hok (.inl (hm2.1 rfl)) HB3.out);clear hm1 hm2 hnew;go_wp2;go_ret;obtain ⟨e1,h1⟩:=HD.out;rw [e1];exact ⟨rfl,⟨fb,h1,fun k hk=>.inl hk⟩,gW.of_below HB3.out⟩
  | false=>
   have hno2:a ∉ fs:=fun h=>by have:=hm2.2 h; simp at this
   have HF3:=η (HF.out.keep (fun k hk=>HB3.out.block k (HF.out.lt k hk)) HB3.out.size)
   obtain ⟨w4,hup,hm4,hg4,-⟩:=xY mP (w:=w3) trivial Tryz.underlying85 (k:=.string (eu a)) (.int .i64 x.nr) HF3.out.sn ⟨_,rfl,ru hok.ok⟩ (fun p hp e=>by
    obtain ⟨t,ht,rfl⟩:=List.mem_map.1 hp;simp at e
    exact hno1 (y8 (hnew t ht).ok hok.ok e ▸ ht))
   unfold eu at hup
   go_upto_region 6 with fail
   have hs4:=hg4.size;have nd:=HF.out.nd;simp only [qE.own,List.nodup_cons,List.mem_cons,List.not_mem_nil,or_false,not_or,List.nodup_nil,and_true,not_false_eq_true] at nd;have k4:∀ k,k < w3.heap.size→k ≠ x.ms→w4.heap[k]? = w3.heap[k]?:=fun k h1 h2=>hg4.block k h1 (fun e=>h2 (by injection e))
   have ko:∀ k ∈ x.own,k < w3.heap.size:=fun k hk=>HF3.out.lt k (HF3.out.ow k hk)
   have bS4:=(k4 _ (ko _ (by simp [qE.own])) (by omega)).trans HF3.out.cS;have bM4:=(k4 _ (ko _ (by simp [qE.own])) (by omega)).trans HF3.out.cM;have bF4:=(k4 _ (ko _ (by simp [qE.own])) (by omega)).trans HF3.out.cF;have bC4:=(k4 _ (ko _ (by simp [qE.own])) (by omega)).trans HF3.out.cC;have bX4:=(k4 _ hx3 (by have:=HF.out.lt x.ms (HF.out.ow _ (by simp [qE.own])); omega)).trans ((hb3.block _ hx2).trans (HB2X.out));have HF4:=η (And.intro bM4 (And.intro bS4 (And.intro bF4 (And.intro bC4 (And.intro bX4 (And.intro hm4 (And.intro hg4 (And.intro k4 (And.intro hs4 (And.intro nd (And.intro hno1 hno2)))))))))));have c0:w4.cell? ⟨x.bS,0,none⟩=some (.pointer (some ⟨x.sb,0,none⟩)):=ak bS4;have c1:w4.cell? ⟨x.bM,0,none⟩=some (.map (some x.ms)):=ak bM4;have c2:w4.cell? ⟨x.bF,0,none⟩=some (.bool true):=ak bF4;have c3:w4.frozen? ⟨x.bF,0,none⟩=false:=aB bF4;have l2:=lt_of_cell c2;obtain ⟨rn3,hst3⟩:=HF3.out.st
   obtain ⟨Af,cf,hsb3⟩:∃ Af cf,w3.cell? ⟨x.sb,0,none⟩=some (.slice Af fs.length cf):=by
    obtain ⟨⟨Af,cf,_,_,_,_,_,_,_,_,h1,_⟩,_,_⟩:=hst3;exact ⟨Af,cf,ak h1⟩
   have c4:w4.cell? ⟨x.sb,0,none⟩=some (.slice Af fs.length cf):=(World.cell?_of_block (k4 _ (lt_of_cell hsb3) (fun e=>(HF3.out.rY _ hst3.own).2 (by have e:x.sb=x.ms:=e; rw [e]; simp [qE.own])))).trans hsb3
   have hln:∀ ty,(Builtin.len_ #[85] ty #[.map (some x.ms)]).run Tryz.prog w4.drew=.ok (.int .i64 ((newL fs told).length+1:Nat)) w4.drew:=fun ty=>by
    have:=Uo (w:=w4.drew) (hm4.same rfl) ty;simpa [QB] using this
   have hfew:=HF.out.few;have hn0:(0:Int)≤fs.length:=by omega
   have hn1:(0:Int)≤((newL fs told).length+1:Nat):=by omega
   have hn2:(fs.length:Int)+((newL fs told).length+1:Nat)≤301:=by omega
   clear hst3 hsb3 hup bS4 bM4 bF4 bC4 bX4 hm4 hg4 hs4 nd k4 ko hno1 hno2 hm1 hm2 hnew xM xS xN z0 z1;go_region;clear c0 c1 c2 c3 c4 hln l2;obtain ⟨bM4,bS4,bF4,bC4,bX4,hm4,hg4,k4,hs4,nd,hno1,hno2⟩:=HF4.out
   have hnl:newL fs (told ++ [a])=newL fs told ++ [a]:=by
    classical
    rw [zh,if_neg (fun h=>h.elim hno2 hno1)]
   have hgo:Uk fs (told ++ [a])=decide ((fs.length:Int)+((newL fs told).length+1)≤300):=by
    classical
    rw [KO];refine decide_eq_decide.2 ⟨fun h=>?_,fun h=>?_⟩
    ·rcases h with h | h | h
     ·exact absurd h hno2
     ·exact absurd h hno1
     ·rw [hnl,List.length_append,List.length_singleton] at h; omega
    ·rw [hnl,List.length_append,List.length_singleton]; exact .inr (.inr (by omega))
   have bF5:∀ v,(w4.setCell ⟨x.bF,0,none⟩ v).drew.heap[x.bF]? = some (.cells #[v] 4 (0,0)):=fun v=>by
    have:=bZ (o:=0) (u:=v) bF4;exact this
   have k5:∀ v k,k ≠ x.bF→(w4.setCell ⟨x.bF,0,none⟩ v).drew.heap[k]? = w4.heap[k]?:=fun v k hk=>Below.heap_setCell _ _ _ _ hk
   have s5:∀ v,(w4.setCell ⟨x.bF,0,none⟩ v).drew.heap.size=w4.heap.size:=fun v=>by simp [World.setCell]
   have ab5:∀ v,gW x.K w (w4.setCell ⟨x.bF,0,none⟩ v).drew:=fun v=>by
    have h3:=HB3.out;refine ⟨hg4.os.trans h3.os,hg4.tape.trans h3.tape,hg4.output.trans h3.output,?_,fun k hk hK=>?_⟩
    ·rw [s5]; exact Nat.le_trans h3.size hs4
    ·rw [k5 _ _ (fun e=>hK (.inr (.inl e))),k4 k (Nat.lt_of_lt_of_le hk h3.size) (fun e=>hK (.inl e)),h3.block k hk]
   rw [← hgo];generalize hgv:Uk fs (told ++ [a])=g at *;generalize hW:(w4.setCell ⟨x.bF,0,none⟩ (.bool g)).drew=W5 at *;have bF6:=hW ▸ bF5 (.bool g);have k6:=fun k hk=>hW ▸ k5 (.bool g) k hk
   have s6:=hW ▸ s5 (.bool g);have ab6:=hW ▸ ab5 (.bool g);clear bF5 k5 s5 ab5 hW;have q0:W5.cell? ⟨x.bF,0,none⟩=some (.bool g):=ak bF6;have lts:∀ k ∈ x.own,k < w.heap.size:=fun k hk=>HF.out.lt k (HF.out.ow k hk)
   have ltF:=lts x.bF (by simp [qE.own]);have q1:W5.cell? ⟨x.bC,0,none⟩=some (.chan (some x.ch)):=ak ((k6 _ (by omega)).trans bC4);have bX5:=(k6 w.heap.size (by omega)).trans bX4;have q2:W5.cell? ⟨w.heap.size,0,none⟩=some (.string a.name):=ak bX5;have q3:W5.cell? ⟨w.heap.size,1,none⟩=some (.slice Ae a.args.length ce):=ak bX5
   cases g with
   | false=>
    have HD:Hid (rM x W5 fb∧gW x.K w W5):=η ⟨⟨bF6,HF.out.ow,fun k hk=>Nat.lt_of_lt_of_le (HF.out.lt k hk) ab6.size⟩,ab6⟩;clear hgo hnl bM4 bS4 bF4 bC4 bX4 hm4 hg4 k4 hs4 nd hno1 hno2 bF6 k6 s6 ab6 bX5 lts;go_wp2;go_ret;rw [hgv];exact ⟨rfl,⟨fb,HD.out.1,fun k hk=>.inl hk⟩,HD.out.2⟩
   | true=>
    have hle:=of_decide_eq_true hgo.symm;clear hgo
    go_upto_region 8 with fail
    refine vV ?_;obtain ⟨vs,sd,bb,hch3,hfq3,hbb⟩:=HF3.out.cH;have hch5:W5.heap[x.ch]? = some (.chan 301 ⟨vs⟩ false sd 0 false):=(k6 _ (by omega)).trans ((k4 _ (Nat.lt_of_lt_of_le (lts _ (by simp [qE.own])) HB3.out.size) (by omega)).trans hch3);have hlen:=hfq3.len;refine uJ (i:=0) (by rfl) (by rfl) (v:=.chan (some x.ch)) (w':=W5) (by go_simp) ?_;refine uJ (i:=1) (by rfl) (by rfl) (v:=.agg #[.string a.name,.slice Ae a.args.length ce]) (w':=W5) (by go_simp) ?_;refine Rw (i:=2) (w':=W5) (v:=.agg #[.string a.name,.slice Ae a.args.length ce]) (by rfl) (by rfl) (by go_simp; rfl) hch5 (by show vs.length < 301; omega) ?_;refine Gl (show Exit.then _ _ Exit.normal _ _ from ?_);have hlt6:x.ch < W5.heap.size:=lt_of_block hch5;have bH7:=Go.Conc.heap_setChan W5 x.ch 301 ((⟨vs⟩:Array Value).push (.agg #[.string a.name,.slice Ae a.args.length ce])) false (sd+1) 0 false hlt6
    have k7:∀ k,k ≠ x.ch→(W5.setChan x.ch 301 ((⟨vs⟩:Array Value).push (.agg #[.string a.name,.slice Ae a.args.length ce])) false (sd+1) 0 false).heap[k]? = W5.heap[k]?:=fun k hk=>by
     simp only [World.setChan]; rw [Array.getElem?_setIfInBounds_ne (by omega)]
    have s7:(W5.setChan x.ch 301 ((⟨vs⟩:Array Value).push (.agg #[.string a.name,.slice Ae a.args.length ce])) false (sd+1) 0 false).heap.size=W5.heap.size:=by simp [World.setChan]
    have o7:(W5.setChan x.ch 301 ((⟨vs⟩:Array Value).push (.agg #[.string a.name,.slice Ae a.args.length ce])) false (sd+1) 0 false).os=W5.os∧(W5.setChan x.ch 301 ((⟨vs⟩:Array Value).push (.agg #[.string a.name,.slice Ae a.args.length ce])) false (sd+1) 0 false).tape=W5.tape∧(W5.setChan x.ch 301 ((⟨vs⟩:Array Value).push (.agg #[.string a.name,.slice Ae a.args.length ce])) false (sd+1) 0 false).output=W5.output:=⟨rfl,rfl,rfl⟩;generalize W5.setChan x.ch 301 ((⟨vs⟩:Array Value).push (.agg #[.string a.name,.slice Ae a.args.length ce])) false (sd+1) 0 false=W7 at *;have q0:W7.cell? ⟨x.bF,0,none⟩=some (.bool true):=(World.cell?_of_block (k7 _ (by show x.bF ≠ x.ch; omega))).trans q0
    have HD:Hid ((∃ fb',ni x n0 fs bst W7 (told ++ [a]) fb'∧∀ k ∈ fb',k ∈ fb∨b0≤k)∧gW x.K w W7):=η (by
     have h3:=HB3.out;have b3:=HF.out;have hsz:w.heap.size≤W7.heap.size:=by rw [s7]; exact ab6.size
     have kk:∀ k,k < w.heap.size→k ∉ x.own→W7.heap[k]? = w.heap[k]?:=fun k hk hno=>by
      simp only [qE.own,List.mem_cons,List.not_mem_nil,or_false,not_or] at hno;rw [k7 k (by omega),k6 k (by omega),k4 k (Nat.lt_of_lt_of_le hk h3.size) (by omega),h3.block k hk]
     have hba:∀ k ∈ ba,b0≤k∧k < w.heap.size∧k ∉ x.own:=fun k hk=>by
      have h1:=HN.out.own k hk;exact ⟨h1.1,(aj.lt HAT.out k hk),fun hm=>by have:=HB0.out k (b3.ow k hm); omega⟩
     obtain ⟨rn0,hst0⟩:=b3.st;refine ⟨⟨fb ++ ba,⟨?_,?_,?_,?_,?_,?_,⟨vs ++ [.agg #[.string a.name,.slice Ae a.args.length ce]],sd+1,bb ++ ba,?_,?_,?_⟩,⟨rn0,hst0.keep (fun k hk=>kk k (hst0.lt k hk) (b3.rY k hk).2) hsz⟩,?_,?_,b3.nd,?_,?_,b3.lo,?_⟩,?_⟩,?_⟩
     ·rw [k7 _ (by omega),k6 _ (by omega)]; exact bM4
     ·rw [k7 _ (by omega),k6 _ (by omega)]; exact bS4
     ·rw [k7 _ (by omega),k6 _ (by omega),k4 _ (Nat.lt_of_lt_of_le (lts _ (by simp [qE.own])) h3.size) (by omega),h3.block _ (lts _ (by simp [qE.own]))]; exact b3.cN
     ·rw [k7 _ (by omega)]; exact bF6
     ·rw [k7 _ (by omega),k6 _ (by omega)]; exact bC4
     ·rw [hnl]
      have e:yF x.nr (newL fs told ++ [a])=yF x.nr (newL fs told) ++ [(.string (eu a),.int .i64 (x.nr:Nat))]:=by simp [yF]
      rw [e];exact hm4.same (by rw [k7 _ (by omega),k6 _ (by omega)])
     ·rw [bH7]; simp
     ·rw [hnl]
      have hw:Ia w vs (newL fs told) bb:=hfq3.keep fun k hk=>(h3.block k (b3.lt k (hbb k hk).1)).symm
      exact (hw.keep fun k hk=>kk k (b3.lt k (hbb k hk).1) (hbb k hk).2.2).snoc (aj.keep HAT.out fun k hk=>kk k (hba k hk).2.1 (hba k hk).2.2)
     ·intro k hk
      rcases List.mem_append.1 hk with hk | hk
      ·exact ⟨List.mem_append_left _ (hbb k hk).1,(hbb k hk).2⟩
      ·have h1:=hba k hk
       have h2:=HB0.out x.bM (b3.ow _ (by simp [qE.own]));have h4:=b3.lo;exact ⟨List.mem_append_right _ hk,by omega,h1.2.2⟩
     ·rw [hnl,List.length_append,List.length_singleton]; omega
     ·intro t ht
      rcases List.mem_append.1 ht with ht | ht
      ·exact b3.tok t ht
      ·rw [List.mem_singleton.1 ht]; exact hok
     ·exact fun k hk=>List.mem_append_left _ (b3.ow k hk)
     ·exact fun k hk=>⟨List.mem_append_left _ (b3.rY k hk).1,(b3.rY k hk).2⟩
     ·intro k hk
      rcases List.mem_append.1 hk with hk | hk
      ·exact Nat.lt_of_lt_of_le (b3.lt k hk) hsz
      ·exact Nat.lt_of_lt_of_le (hba k hk).2.1 hsz
     ·intro k hk
      rcases List.mem_append.1 hk with hk | hk
      ·exact .inl hk
      ·exact .inr (hba k hk).1
     ·exact ⟨o7.1.trans ab6.os,o7.2.1.trans ab6.tape,o7.2.2.trans ab6.output,hsz,fun k hk hK=>(k7 k (fun e=>hK (.inr (.inr e)))).trans (ab6.block k hk hK)⟩)
    clear hnl bM4 bS4 bF4 bC4 bX4 hm4 hg4 k4 hs4 nd hno1 hno2 bF6 k6 s6 ab6 bX5 lts k7 s7 o7 bH7 hch5 hfq3 hbb hch3;go_wp2;go_ret;rw [hgv];obtain ⟨⟨fb',h1,h2⟩,h3⟩:=HD.out;exact ⟨rfl,⟨fb',h1,h2⟩,h3⟩
theorem D.QC (x:qE) (n0:Nat) (fs:List A) (bst:List Nat) (hfs:∀ f ∈ fs,aX f):WL 109 x.vG x.K (Ur x n0 fs bst) (Uk fs):=by
 refine ⟨enters_of Tryz.func109 (by kernel_rfl) rfl,fun {f w told fb} h=>?_,fun {f w told fb} h k hk=>?_,fun {f w w' told fb} h hk hs=>?_,fun w told fb a c1 ba b0 h hb0 hn ha hok=>Ei x n0 fs bst hfs told fb a c1 ba b0 w h hb0 hn ha hok⟩
 ·cases f with
  | true=>exact ni.lt h
  | false=>exact rM.lt h
 ·have ho:k ∈ x.own:=by
   rcases hk with rfl | rfl | rfl <;> simp [qE.own]
  cases f with
  | true=>exact ni.ow h k ho
  | false=>exact rM.ow h k ho
 ·cases f with
  | true=>exact ni.keep h hk hs
  | false=>exact rM.keep h hk hs
end Go.Proofs.YtiidmgchadagbaaGreatDoor
namespace Go.Proofs.YtiidmgchadagbaaGreatDoor
open Go.Shelf Go.RowKit Go.Lib Go.Sort D
structure D.Fc where
 t:A
 c1:Value
def D.Fc.enc (x:Fc):List Value:=[.string x.t.name,x.c1]
abbrev D.oM (w:World) (g:Nat):={ x:Fc // ∃ ba,aU w [.string x.t.name,x.c1] x.t ba∧g ∉ ba }
def D.oM.enc {w:World} {g:Nat} (x:oM w g):List Value:=x.1.enc
def D.oM.cf {w:World} {g:Nat} (x y:oM w g):Int:=bQ x.1.t y.1.t
theorem D.uV (w:World) (g:Nat) (f:Array Value→Array Value) {x:Nat} (h:x ≠ g):(mapBlock w g f).heap[x]? = w.heap[x]?:=by
 simp only [mapBlock,Array.getElem?_modify];rw [if_neg (fun e=>h e.symm)]
theorem D.KT {α:Type} [Inhabited α] (enc:α→List Value) (k:Nat) (w:World) (g n:Nat) (d:Array α) (os:Array Obj) {x:Nat} (hx:x < w.heap.size) (h:x ≠ g):(sortWorldK enc k w g 0 n d os).heap[x]? = w.heap[x]?:=by
 unfold sortWorldK
 have e1:(grow (putRowK enc k (Go.Sort.ahead w n) g 0 d) os).heap[x]? = (putRowK enc k (Go.Sort.ahead w n) g 0 d).heap[x]?:=by
  show (_ ++ os)[x]? = _;rw [Array.getElem?_append_left (by rw [size_putRowK]; exact hx)]
 rw [e1];exact uV (Go.Sort.ahead w n) g _ h
theorem D.QD {α:Type} [Inhabited α] (enc:α→List Value) (k:Nat) (w:World) (g n:Nat) (d:Array α) (os:Array Obj) {cur:Array Value} {e:TypeId} (h:w.heap[g]? = some (.cells cur e (0,0))):∃ cur',(sortWorldK enc k w g 0 n d os).heap[g]? = some (.cells cur' e (0,0))∧cur'.size=cur.size:=by
 have hg:g < w.heap.size:=(Array.getElem?_eq_some_iff.1 h).1;unfold sortWorldK
 have e1:(grow (putRowK enc k (Go.Sort.ahead w n) g 0 d) os).heap[g]? = (putRowK enc k (Go.Sort.ahead w n) g 0 d).heap[g]?:=by
  show (_ ++ os)[g]? = _;rw [Array.getElem?_append_left (by rw [size_putRowK]; exact hg)]
 refine ⟨putCells id 0 (flatK enc k d) cur,?_,?_⟩
 ·rw [e1]
  show (mapBlock (Go.Sort.ahead w n) g (putCells id 0 (flatK enc k d))).heap[g]? = _;simp only [mapBlock,Array.getElem?_modify];rw [if_pos trivial];show (w.heap[g]?).map _=_;rw [h];rfl
 ·simp [putCells]
theorem D.FQ {α:Type} [Inhabited α] (enc:α→List Value) (k:Nat) (w:World) (g n:Nat) (d:Array α) (os:Array Obj) (hg:g < w.heap.size):gW (fun x=>x=g) w (sortWorldK enc k w g 0 n d os):=
 ⟨rfl,rfl,rfl,size_sortWorldK_c enc k w g 0 n d os,fun x hx h=>KT enc k w g n d os hx h⟩
theorem D.Vy {w:World} {g:Nat}:SWO (ltOf (oM.cf (w:=w) (g:=g))) where
 irrefl x:=by unfold ltOf oM.cf; rw [uH]; rfl
 trans x y z h1 h2:=by
  unfold ltOf oM.cf at *;simp only [decide_eq_true_eq] at *;rw [jB] at *;exact (nI iE).oQ h1 (by omega)
 ntrans x y z h1 h2:=by
  unfold ltOf oM.cf at *;simp only [decide_eq_false_iff_not] at *;rw [jB] at *;have a1:=(nI iE).anti (rV x.1.t) (rV y.1.t);have a2:=(nI iE).anti (rV y.1.t) (rV z.1.t);have a3:=(nI iE).anti (rV x.1.t) (rV z.1.t);have a4:=(nI iE).trans (rV z.1.t) (rV y.1.t) (rV x.1.t) (by omega) (by omega);omega
theorem Ej (g cap:Nat) (xs:List Fc) (w:World) (hg:g < w.heap.size) (hc:∀ k x,xs[k]? = some x→w.cell? ⟨g,k * 2,none⟩=some (.string x.t.name)∧w.cell? ⟨g,k * 2+1,none⟩=some x.c1) (hfz:∀ q,w.frozen? ⟨g,q,none⟩=false)
  (hat:∀ x ∈ xs,∃ ba,aU w [.string x.t.name,x.c1] x.t ba∧g ∉ ba) (hsz:xs.length < 4611686018427387904):
  Calls Tryz.prog 64 #[.slice (some ⟨g,0,none⟩) xs.length cap,.func (.func 65) #[] #[]] w fun e w'=>e=.returned (.tuple #[])∧
   ∃ ys:List Fc,ys.Perm xs∧ys.Pairwise (fun a b=>¬ bQ b.t a.t < 0)∧(∀ k y,ys[k]? = some y→w'.cell? ⟨g,k * 2,none⟩=some (.string y.t.name)∧w'.cell? ⟨g,k * 2+1,none⟩=some y.c1)∧gW (fun x=>x=g) w w'∧
    ∀ cur e,w.heap[g]? = some (.cells cur e (0,0))→∃ cur',w'.heap[g]? = some (.cells cur' e (0,0))∧cur'.size=cur.size:=by
 cases hx:xs with
 | nil=>
  refine (AnyF.slices_SortFunc_none Tryz.sortA (some ⟨g,0,none⟩) cap (.func (.func 65) #[] #[]) w).mono ?_;rintro e w' ⟨rfl,rfl⟩;exact ⟨rfl,[],List.Perm.refl _,List.Pairwise.nil,fun k y h=>by simp at h,gW.refl _ _,fun cur e h=>⟨cur,h,rfl⟩⟩
 | cons x0 rest=>
  rw [← hx];have hm0:x0 ∈ xs:=by rw [hx]; exact List.mem_cons_self ..
  letI:Inhabited (oM w g):=⟨⟨x0,hat x0 hm0⟩⟩
  obtain ⟨L,hL⟩:∃ L:List (oM w g),L=xs.attach.map (fun x=>⟨x.1,hat x.1 x.2⟩):=⟨_,rfl⟩;have hLx:L.map (·.1)=xs:=by rw [hL,List.map_map]; exact List.attach_map_subtype_val xs
  have hlen:L.length=xs.length:=by rw [← hLx]; simp
  have hget:∀ (d:List (oM w g)) (i:Nat) (h:i < d.length),d.toArray[i]! = d[i]:=fun d i h=>by simp [getElem!_pos,h]
  have hH:HoldsK oM.enc 2 w g 0 L.toArray:=by
   intro j hj;simp only [size_flatK,List.size_toArray] at hj;refine ⟨?_,hfz _⟩;show w.cell? _=some ((flatK oM.enc 2 L.toArray)[j]!);rw [get_flatK _ _ _ _ (by simpa using hj),hget L (j / 2) (by omega)];have h1:=hc (j / 2) (L[j / 2]'(by omega)).1 (by rw [← hLx,List.getElem?_map,List.getElem?_eq_getElem (by omega)]; rfl);have e:0+j=j / 2 * 2+j % 2:=by omega
   rw [e]
   rcases (show j % 2=0∨j % 2=1 by omega) with h | h
   ·rw [h]; exact h1.1
   ·rw [h]; exact h1.2
  have hcmp:CmpLays Tryz.prog 65 #[] oM.enc 2 (oM.cf (w:=w) (g:=g)) g 0 L.toArray.size w:=fun m os dk hdk x y=>by
   obtain ⟨b1,h1,n1⟩:=x.2;obtain ⟨b2,h2,n2⟩:=y.2;have hb:=FQ oM.enc 2 w g m dk os hg;refine (Ce x.1.t y.1.t (.string x.1.t.name) x.1.c1 (.string y.1.t.name) y.1.c1 b1 b2 (sortWorldK oM.enc 2 w g 0 m dk os) (aj.keep h1 fun b hb'=>hb.block b (aj.lt h1 b hb') (fun e=>n1 (e ▸ hb'))) (aj.keep h2 fun b hb'=>hb.block b (aj.lt h2 b hb') (fun e=>n2 (e ▸ hb')))).mono ?_;rintro e w' ⟨rfl,hgw⟩;exact ⟨rfl,hgw.is⟩
  have hcon:=AnyQ.slices_SortFunc Tryz.sortA 2 Tryz.isAgg68 Tryz.sizeOf68 oM.enc (fun x=>rfl) (fun x v hv=>by
   obtain ⟨b1,h1,_⟩:=x.2;obtain ⟨Ad,cc,_,h3⟩:=bJ h1;unfold oM.enc Fc.enc at hv;rw [h3] at hv;simp at hv
   rcases hv with rfl | rfl <;> rfl) oM.cf Vy 65 #[] g 0 cap L.toArray w (enters_of Tryz.func65 (by kernel_rfl) rfl) hcmp hH hg (by simpa [hlen] using hsz)
  have hs:L.toArray.size=xs.length:=by simp [hlen]
  rw [hs] at hcon;change Calls Tryz.prog 64 _ _ _ at hcon;refine hcon.mono ?_;rintro e w' ⟨rfl,d',n,os,hp,hsrt,rfl⟩;have hd:d'.size=xs.length:=by rw [hp.1,hs]
  have hH2:=holdsK_sortWorldK_c oM.enc 2 w g 0 L.toArray d' n os hH hg (by rw [hp.1]);refine ⟨rfl,d'.toList.map (·.1),?_,?_,fun k y hk=>?_,FQ _ _ _ _ _ _ _ hg,fun cur e h=>QD _ _ _ _ _ _ _ h⟩
  ·have h3:=hp.2.2
   rw [Array.extract_eq_self_of_le (by omega),Array.extract_eq_self_of_le (by omega)] at h3;have h4:=h3.map (·.1)
   rwa [List.toList_toArray,hLx] at h4
  ·refine List.pairwise_map.2 (List.pairwise_iff_getElem.2 fun i j hi hj hij=>?_)
   have h3:=hsrt i j (Nat.zero_le _) hij (by simp at hj; omega);rw [getElem!_pos d' i (by simpa using hi),getElem!_pos d' j (by simpa using hj)] at h3;unfold ltOf oM.cf at h3;simpa using h3
  ·obtain ⟨z,hz,rfl⟩:∃ z,d'[k]? = some z∧z.1=y:=by
    rw [List.getElem?_map] at hk;obtain ⟨z,hz,rfl⟩:=Option.map_eq_some_iff.1 hk;exact ⟨z,by simpa using hz,rfl⟩
   obtain ⟨hkl,rfl⟩:=Array.getElem?_eq_some_iff.1 hz;have c0:=(hH2.cell (i:=k) (c:=0) hkl (by omega)).1;have c1:=(hH2.cell (i:=k) (c:=1) hkl (by omega)).1;rw [getElem!_pos d' k hkl] at c0 c1;rw [Nat.zero_add] at c0 c1;exact ⟨c0,c1⟩
end Go.Proofs.YtiidmgchadagbaaGreatDoor
