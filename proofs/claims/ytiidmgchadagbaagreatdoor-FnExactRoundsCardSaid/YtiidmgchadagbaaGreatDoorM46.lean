/- Of the proof of FnExactRounds: AllQ, RndI, SFn. -/
import Derived.Test.YtiidmgchadagbaaGreatDoorM45
set_option linter.unusedVariables false
set_option maxHeartbeats 4000000
set_option maxRecDepth 100000
namespace Go.Proofs.YtiidmgchadagbaaGreatDoor
open Go.RowKit D
theorem D.lev_lt {rs:List Ru} (h:RsOk rs) {r:Ru} (hr:r ∈ rs):nameLev rs r.head.name < rs.length:=by
 obtain ⟨i,hi,rfl⟩:=List.getElem_of_mem hr
 obtain ⟨h1,h2⟩:=closed_sol h.cyc
 have h3:=no_cyc_of h1
 have e:ruleAt rs i=rs[i]:=by unfold ruleAt; simp [List.getD,hi]
 have h4:=h2 i hi
 rw [e] at h4
 rw [← h4]
 unfold cycB at h3
 rw [List.any_eq_false] at h3
 have h5:atL (levelsL rs) i ∈ levelsL rs:=by
  unfold atL; rw [List.getD_eq_getElem?_getD,List.getElem?_eq_getElem (by rw [levels_len]; exact hi)]; exact List.getElem_mem _
 have:=h3 _ h5
 simpa using this
structure D.LevSt (rs:List Ru) (given:List A) (L:Nat) (fs:List A) (rn:List Nat) (number:Nat) (r:Rd) (fuel:Nat):Prop where
 sim:Sim fs rn r
 ok:RdOk r
 fact:∀ x ∈ r.1,FactOk x
 len:r.1.length≤300
 num:number≤r.1.length
 fu:302≤fuel+r.1.length
 run:runR rs given=goR rs (levelsL rs) (rs.length+1 - L) fuel r number
def D.AllSt (rs:List Ru) (given:List A) (L:Nat) (fs:List A) (rn:List Nat) (number:Nat):Prop:=∃ r fuel,LevSt rs given L fs rn number r fuel
def D.MidSt (rs:List Ru) (given:List A) (L:Nat) (own next:List Ru) (fs:List A) (rn:List Nat) (number:Nat):Prop:=
 (∃ r fuel,LevSt rs given L fs rn number r fuel∧(∀ q ∈ next,q ∈ own)∧∀ q ∈ own,q ∉ next→∀ t,FolW fs q t→t ∈ fs)∨(next = []∧AllSt rs given (L+1) fs rn number)
open Classical in
noncomputable def D.touchL (own:List Ru) (new:List A):List Ru:=own.filter fun q=>q.body.any fun p=>!p.no && decide (∃ t ∈ new,t.name=p.atom.name)
section
variable {rs:List Ru} {given:List A} {L:Nat} {own next:List Ru} {fs:List A} {rn:List Nat} {number fuel:Nat} {r:Rd}
theorem D.LevSt.flen (h:LevSt rs given L fs rn number r fuel):fs.length=r.1.length:=(h.sim.fst h.ok).length_eq
theorem D.LevSt.facts (h:LevSt rs given L fs rn number r fuel):∀ x ∈ fs,FactOk x:=fun x hx=>h.fact x ((h.sim.fst h.ok).mem_iff.1 hx)
theorem D.AllSt.few (h:AllSt rs given L fs rn number):fs.length≤300∧rn.length=fs.length∧number≤fs.length∧∀ x ∈ fs,FactOk x:=by
 obtain ⟨r,fuel,h⟩:=h
 have:=h.flen
 exact ⟨by have:=h.len; omega,h.sim.len,by have:=h.num; omega,h.facts⟩
theorem D.MidSt.few (h:MidSt rs given L own next fs rn number):fs.length≤300∧rn.length=fs.length∧number≤fs.length∧∀ x ∈ fs,FactOk x:=by
 rcases h with ⟨r,fuel,h,_⟩ | ⟨_,h⟩
 ·exact AllSt.few ⟨r,fuel,h⟩
 ·exact h.few
theorem D.all_start (ha:asc given=true) (hf:∀ x ∈ given,FactOk x) (hl:given.length≤300):AllSt rs given 0 given (List.replicate given.length 0) 0:=
 ⟨(given,List.replicate given.length 0),302,⟨by simp,List.Perm.refl _⟩,⟨ha,by simp⟩,hf,hl,Nat.zero_le _,by show 302≤302+given.length; omega,rfl⟩
theorem D.AllSt.enter (h:AllSt rs given L fs rn number):MidSt rs given L own own fs rn number:=by
 obtain ⟨r,fuel,h⟩:=h
 exact .inl ⟨r,fuel,h,fun q hq=>hq,fun q hq hn=>absurd hq hn⟩
theorem D.LevSt.go (h:LevSt rs given L fs rn number r fuel) (hL:L≤rs.length):∃ f,fuel=f+1∧runR rs given =
  if 300 < (stepR rs (levelsL rs) L r (number+1)).1.length then (stepR rs (levelsL rs) L r (number+1),false)
  else if (stepR rs (levelsL rs) L r (number+1)).1.length=r.1.length then goR rs (levelsL rs) (rs.length - L) 302 (stepR rs (levelsL rs) L r (number+1)) number
  else goR rs (levelsL rs) (rs.length - L+1) f (stepR rs (levelsL rs) L r (number+1)) (number+1):=by
 have h1:=h.fu
 have h2:=h.len
 obtain ⟨f,rfl⟩:∃ f,fuel=f+1:=⟨fuel - 1,by omega⟩
 refine ⟨f,rfl,?_⟩
 rw [h.run,show rs.length+1 - L=rs.length - L+1 by omega,goR,show rs.length - (rs.length - L)=L by omega]
theorem D.LevSt.stepOk (H:RsOk rs) (h:LevSt rs given L fs rn number r fuel) (n:Nat):RdOk (stepR rs (levelsL rs) L r n)∧∀ x ∈ (stepR rs (levelsL rs) L r n).1,FactOk x:=
 ⟨(putAll_ok h.ok n _).1,(step_mem H h.fact L n).1⟩
theorem D.MidSt.done (H:RsOk rs) (hL:L≤rs.length) (hown:OwnAt rs L own) (h:MidSt rs given L own [] fs rn number):AllSt rs given (L+1) fs rn number:=by
 rcases h with ⟨r,fuel,h,_,h2⟩ | ⟨_,h⟩
 ·obtain ⟨f,rfl,e⟩:=h.go hL
  obtain ⟨s1,s2⟩:=sim_round (next:=[]) (new:=[]) (n:=number+1) H h.ok h.fact h.sim (fun q hq=>by simp at hq) (fun q hq hl _ t hf=>h2 q ((hown q).2 ⟨hq,hl⟩) (by simp) t hf) List.nodup_nil (fun t=>by simp)
  have hfl:=h.flen
  have hl:=h.len
  simp only [List.length_nil,Nat.add_zero] at s2
  rw [if_neg (by omega),if_pos (by omega)] at e
  simp only [List.append_nil,List.length_nil,List.replicate_zero] at s1
  obtain ⟨o1,o2⟩:=h.stepOk H (number+1)
  exact ⟨_,302,s1,o1,o2,by omega,by have:=h.num; omega,by omega,by rw [e,show rs.length+1 - (L+1)=rs.length - L by omega]⟩
 ·exact h
theorem D.MidSt.round (H:RsOk rs) (hL:L≤rs.length) (hown:OwnAt rs L own) (h:MidSt rs given L own next fs rn number) {new:List A} (hne:next ≠ []) (hn:new.Nodup) (hnew:∀ t,t ∈ new ↔ t ∉ fs∧∃ q ∈ next,FolW fs q t) (hfew:fs.length+new.length≤300):
  (new = []→MidSt rs given L own [] fs rn number)∧(new ≠ []→MidSt rs given L own (touchL own new) (fs ++ new) (rn ++ List.replicate new.length (number+1)) (number+1)):=by
 classical
 rcases h with ⟨r,fuel,h,h1,h2⟩ | ⟨h,_⟩
 ·obtain ⟨f,rfl,e⟩:=h.go hL
  obtain ⟨s1,s2⟩:=sim_round (next:=next) (new:=new) (n:=number+1) H h.ok h.fact h.sim (fun q hq=>(hown q).1 (h1 q hq)) (fun q hq hl hnn t hf=>h2 q ((hown q).2 ⟨hq,hl⟩) hnn t hf) hn hnew
  have hfl:=h.flen
  have hl:=h.len
  obtain ⟨o1,o2⟩:=h.stepOk H (number+1)
  refine ⟨fun hz=>?_,fun hz=>?_⟩
  ·subst hz
   simp only [List.length_nil,Nat.add_zero] at s2
   rw [if_neg (by omega),if_pos (by omega)] at e
   simp only [List.append_nil,List.length_nil,List.replicate_zero] at s1
   exact .inr ⟨rfl,_,302,s1,o1,o2,by omega,by have:=h.num; omega,by omega,by rw [e,show rs.length+1 - (L+1)=rs.length - L by omega]⟩
  ·have hp:0 < new.length:=List.length_pos_iff.2 hz
   rw [if_neg (by omega),if_neg (by omega)] at e
   have hfu:=h.fu
   have hnu:=h.num
   refine .inl ⟨_,f,⟨s1,o1,o2,by omega,by omega,by omega,by rw [e,show rs.length+1 - L=rs.length - L+1 by omega]⟩,fun q hq=>(List.mem_filter.1 hq).1,fun q hq hnq t hf=>?_⟩
   have hnt:∀ p ∈ q.body,p.no=false→∀ t ∈ new,t.name ≠ p.atom.name:=fun p hp hno t ht he=>hnq (List.mem_filter.2 ⟨hq,List.any_eq_true.2 ⟨p,hp,by simp [hno]; exact ⟨t,ht,he⟩⟩⟩)
   have hf0:=not_touched hnt hf
   by_cases hm:t ∈ fs
   ·exact List.mem_append_left _ hm
   ·by_cases hqn:q ∈ next
    ·exact List.mem_append_right _ ((hnew t).2 ⟨hm,q,hqn,hf0⟩)
    ·exact absurd (h2 q hq hqn t hf0) hm
 ·exact absurd h hne
theorem D.MidSt.over (H:RsOk rs) (hL:L≤rs.length) (hown:OwnAt rs L own) (h:MidSt rs given L own next fs rn number) {new:List A} (hne:next ≠ []) (hn:new.Nodup) (hnew:∀ t ∈ new,t ∉ fs∧∃ q ∈ next,FolW fs q t) (hm:300 < fs.length+new.length):(runR rs given).2=false:=by
 rcases h with ⟨r,fuel,h,h1,h2⟩ | ⟨h,_⟩
 ·obtain ⟨f,rfl,e⟩:=h.go hL
  have:=sim_over (n:=number+1) H h.ok h.fact h.sim (fun q hq=>(hown q).1 (h1 q hq)) hn hnew hm
  rw [e,if_pos this]
 ·exact absurd h hne
theorem D.AllSt.fin (H:RsOk rs) (h:AllSt rs given rs.length fs rn number):(runR rs given).2=true∧Sim fs rn (runR rs given).1∧RdOk (runR rs given).1∧(∀ x ∈ fs,FactOk x)∧fs.length≤300:=by
 have hown:OwnAt rs rs.length []:=fun q=>⟨fun h=>by simp at h,fun ⟨h1,h2⟩=>by have:=lev_lt H h1; omega⟩
 obtain ⟨r,fuel,h2⟩:=(h.enter (own:=[])).done H (Nat.le_refl _) hown
 have e:=h2.run
 rw [Nat.sub_self,goR] at e
 have hf:=h2.flen
 exact ⟨by rw [e],by rw [e]; exact h2.sim,by rw [e]; exact h2.ok,h2.facts,by have:=h2.len; omega⟩
end
end Go.Proofs.YtiidmgchadagbaaGreatDoor
namespace Go.Proofs.YtiidmgchadagbaaGreatDoor
open Go.RowKit D
attribute [local go_sem ↓] Go.wp_at_zero Go.wp_at_succ
def D.FqK (w:World):List Value→List A→List Nat→Prop
 | [],[],b=>b = []
 | v :: vs,a :: l,b=>∃ c b1 b2,v=.agg #[.string a.name,c]∧b=b1 ++ b2∧atomK w [.string a.name,c] a b1∧FqK w vs l b2
 | _,_,_=>False
theorem D.FqK.len {w:World}:∀ {vs:List Value} {l:List A} {b:List Nat},FqK w vs l b→vs.length=l.length
 | [],[],_,_=>rfl
 | v :: vs,a :: l,b,h=>by
  obtain ⟨_,_,_,_,_,_,h⟩:=h
  simp [h.len]
 | [],a :: l,_,h=>h.elim
 | v :: vs,[],_,h=>h.elim
theorem D.FqK.keep {w w':World}:∀ {vs:List Value} {l:List A} {b:List Nat},FqK w vs l b→(∀ x ∈ b,w'.heap[x]? = w.heap[x]?)→FqK w' vs l b
 | [],[],_,h,_=>h
 | v :: vs,a :: l,b,h,hk=>by
  obtain ⟨c,b1,b2,h1,h2,h3,h4⟩:=h
  subst h2
  exact ⟨c,b1,b2,h1,rfl,atomK_good.keep h3 fun x hx=>hk x (List.mem_append_left _ hx),h4.keep fun x hx=>hk x (List.mem_append_right _ hx)⟩
 | [],a :: l,_,h,_=>h.elim
 | v :: vs,[],_,h,_=>h.elim
theorem D.FqK.lt {w:World}:∀ {vs:List Value} {l:List A} {b:List Nat},FqK w vs l b→∀ x ∈ b,x < w.heap.size
 | [],[],b,h,x,hx=>by rw [show b = [] from h] at hx; simp at hx
 | v :: vs,a :: l,b,h,x,hx=>by
  obtain ⟨c,b1,b2,h1,h2,h3,h4⟩:=h
  subst h2
  rcases List.mem_append.1 hx with hx | hx
  ·exact atomK_good.lt h3 x hx
  ·exact h4.lt x hx
 | [],a :: l,_,h,_,_=>h.elim
 | v :: vs,[],_,h,_,_=>h.elim
theorem D.FqK.snoc {w:World} {a:A} {c:Value} {ba:List Nat} (ha:atomK w [.string a.name,c] a ba):∀ {vs:List Value} {l:List A} {b:List Nat},FqK w vs l b→FqK w (vs ++ [.agg #[.string a.name,c]]) (l ++ [a]) (b ++ ba)
 | [],[],b,h=>by
  rw [show b = [] from h]
  exact ⟨c,ba,[],rfl,by simp,ha,rfl⟩
 | v :: vs,a' :: l,b,h=>by
  obtain ⟨c',b1,b2,h1,h2,h3,h4⟩:=h
  subst h2
  exact ⟨c',b1,b2 ++ ba,h1,by simp,h3,h4.snoc ha⟩
 | [],a :: l,_,h=>h.elim
 | v :: vs,[],_,h=>h.elim
def D.seenL (nr:Nat) (l:List A):List (Value × Value):=l.map fun a=>(.string (aText a),.int .i64 (nr:Nat))
theorem D.seenL_look {nr ms:Nat} {l:List A} {w:World} (h:MapV isStr ms (seenL nr l) w) (s:ByteArray) (hs:s.size≤maxLen):
  ∃ i:Nat,(Instr.lookup 85 (.map (some ms)) (.string s) true).run Tryz.prog w=.ok (.tuple #[.int .i64 i,.bool (decide (s ∈ l.map aText))]) w:=by
 by_cases hm:s ∈ l.map aText
 ·obtain ⟨a,ha,rfl⟩:=List.mem_map.1 hm
  refine ⟨nr,?_⟩
  rw [decide_eq_true hm]
  exact run_mapv_hit keyV_str trivial true Tryz.underlying85 h (List.mem_map.2 ⟨a,ha,rfl⟩)
 ·refine ⟨0,?_⟩
  rw [decide_eq_false hm]
  have hno:∀ p ∈ seenL nr l,p.1 ≠ .string s:=fun p hp e=>by
   obtain ⟨a,ha,rfl⟩:=List.mem_map.1 hp
   simp at e
   exact hm (List.mem_map.2 ⟨a,ha,e⟩)
  obtain ⟨⟨es,ck,hb,hL⟩,h2,h3⟩:=h
  rw [← hL] at h2 hno
  have hSs:∀ e ∈ es.toList,isStr e.key:=fun e he=>h2 (e.key,e.val) (List.mem_map.2 ⟨e,he,rfl⟩)
  rcases findKey_v keyV_str (w:=w) trivial (k:=.string s) ⟨s,rfl,hs⟩ es.toList hSs with ⟨h5,h6⟩ | ⟨i,e1,h5,h6,h7⟩
  ·simp [Instr.lookup,run_underlying Tryz.underlying85,MapKept.run_getObj_map hb,keyV_str.check w _ ⟨s,rfl,hs⟩,h5,Result.andThen]
  ·exact absurd h7 (hno (e1.key,e1.val) (List.mem_map.2 ⟨e1,List.mem_of_getElem? h6,rfl⟩))
theorem D.mapV_len {S:Value→Prop} {b:Nat} {L:List (Value × Value)} {w:World} (h:MapV S b L w) (ty:TypeId):(Builtin.len_ #[85] ty #[.map (some b)]).run Tryz.prog w=.ok (.int .i64 L.length) w:=by
 obtain ⟨⟨es,ck,hb,hL⟩,_,_⟩:=h
 have e:L.length=es.size:=by rw [← hL]; simp
 rw [e]
 exact run_len_map (P:=Tryz.prog) (w:=w) 85 ty b es ck (by kernel_rfl) hb
theorem D.seenL_len {nr:Nat} {l:List A}:(seenL nr l).length=l.length:=by simp [seenL]
structure D.RBx where
 bM:Nat
 bS:Nat
 bN:Nat
 bF:Nat
 bC:Nat
 ms:Nat
 ch:Nat
 sb:Nat
 nr:Nat
def D.RBx.own (x:RBx):List Nat:=[x.bM,x.bS,x.bN,x.bF,x.bC,x.ms,x.ch]
def D.RBx.K (x:RBx) (k:Nat):Prop:=k=x.ms∨k=x.bF∨k=x.ch
def D.RBx.clb (x:RBx):Array Value:=#[.pointer (some ⟨x.bM,0,none⟩),.pointer (some ⟨x.bS,0,none⟩),.pointer (some ⟨x.bN,0,none⟩),.pointer (some ⟨x.bF,0,none⟩),.pointer (some ⟨x.bC,0,none⟩)]
structure D.RndOn (x:RBx) (n0:Nat) (fs:List A) (bst:List Nat) (w:World) (told:List A) (fb:List Nat):Prop where
 cM:w.heap[x.bM]? = some (.cells #[.map (some x.ms)] 85 (0,0))
 cS:w.heap[x.bS]? = some (.cells #[.pointer (some ⟨x.sb,0,none⟩)] 80 (0,0))
 cN:w.heap[x.bN]? = some (.cells #[.int .i64 x.nr] 3 (0,0))
 cF:w.heap[x.bF]? = some (.cells #[.bool true] 4 (0,0))
 cC:w.heap[x.bC]? = some (.cells #[.chan (some x.ch)] 158 (0,0))
 sn:MapV isStr x.ms (seenL x.nr (newL fs told)) w
 cH:∃ vs sd bb,w.heap[x.ch]? = some (.chan 301 ⟨vs⟩ false sd 0 false)∧FqK w vs (newL fs told) bb∧∀ k ∈ bb,k ∈ fb∧n0≤k∧k ∉ x.own
 st:∃ rn,StoreV x.sb fs rn bst w
 few:fs.length+(newL fs told).length≤300
 tok:∀ t ∈ told,FactOk t
 nd:x.own.Nodup
 ow:∀ k ∈ x.own,k ∈ fb
 sto:∀ k ∈ bst,k ∈ fb∧k ∉ x.own
 lo:n0≤x.bM
 lt:∀ k ∈ fb,k < w.heap.size
structure D.RndOff (x:RBx) (w:World) (fb:List Nat):Prop where
 cF:w.heap[x.bF]? = some (.cells #[.bool false] 4 (0,0))
 ow:∀ k ∈ x.own,k ∈ fb
 lt:∀ k ∈ fb,k < w.heap.size
def D.RndSt (x:RBx) (n0:Nat) (fs:List A) (bst:List Nat) (f:Bool) (w:World) (told:List A) (fb:List Nat):Prop:=if f then RndOn x n0 fs bst w told fb else RndOff x w fb
theorem D.RndOn.keep {x:RBx} {n0:Nat} {fs:List A} {bst:List Nat} {w w':World} {told:List A} {fb:List Nat} (h:RndOn x n0 fs bst w told fb) (hk:∀ k ∈ fb,w'.heap[k]? = w.heap[k]?) (hs:w.heap.size≤w'.heap.size):RndOn x n0 fs bst w' told fb:=by
 have ko:∀ k ∈ x.own,w'.heap[k]? = w.heap[k]?:=fun k hk'=>hk k (h.ow k hk')
 obtain ⟨vs,sd,bb,h1,h2,h3⟩:=h.cH
 obtain ⟨rn,hst⟩:=h.st
 exact ⟨(ko _ (by simp [RBx.own])).trans h.cM,(ko _ (by simp [RBx.own])).trans h.cS,(ko _ (by simp [RBx.own])).trans h.cN,(ko _ (by simp [RBx.own])).trans h.cF,(ko _ (by simp [RBx.own])).trans h.cC,h.sn.same (ko _ (by simp [RBx.own])),
  ⟨vs,sd,bb,(ko _ (by simp [RBx.own])).trans h1,h2.keep fun k hk'=>hk k (h3 k hk').1,h3⟩,⟨rn,hst.keep (fun k hk'=>hk k (h.sto k hk').1) hs⟩,h.few,h.tok,h.nd,h.ow,h.sto,h.lo,fun k hk'=>Nat.lt_of_lt_of_le (h.lt k hk') hs⟩
theorem D.RndOff.keep {x:RBx} {w w':World} {fb:List Nat} (h:RndOff x w fb) (hk:∀ k ∈ fb,w'.heap[k]? = w.heap[k]?) (hs:w.heap.size≤w'.heap.size):RndOff x w' fb:=
 ⟨(hk _ (h.ow _ (by simp [RBx.own]))).trans h.cF,h.ow,fun k hk'=>Nat.lt_of_lt_of_le (h.lt k hk') hs⟩
theorem D.RndOn.same {x:RBx} {n0:Nat} {fs:List A} {bst:List Nat} {w w':World} {told:List A} {fb:List Nat} (h:RndOn x n0 fs bst w told fb) {a:A} (hok:FactOk a) (hm:a ∈ fs∨a ∈ newL fs told) (hb:Below w.heap.size w w'):
  goN fs (told ++ [a])=true∧RndOn x n0 fs bst w' (told ++ [a]) fb:=by
 classical
 have e:newL fs (told ++ [a])=newL fs told:=by rw [newL_snoc,if_pos hm]
 refine ⟨?_,?_⟩
 ·rw [goN_snoc]
  exact decide_eq_true (hm.elim .inl fun h=>.inr (.inl h))
 ·have k:=h.keep (fun k hk=>hb.block k (h.lt k hk)) hb.size
  exact ⟨k.cM,k.cS,k.cN,k.cF,k.cC,e ▸ k.sn,e ▸ k.cH,k.st,e ▸ k.few,fun t ht=>(List.mem_append.1 ht).elim (k.tok t) fun h=>by rw [List.mem_singleton.1 h]; exact hok,k.nd,k.ow,k.sto,k.lo,k.lt⟩
theorem roundTell_any (x:RBx) (n0:Nat) (fs:List A) (bst:List Nat) (hfs:∀ f ∈ fs,FactOk f) (told:List A) (fb:List Nat) (a:A) (c1:Value) (ba:List Nat) (b0:Nat) (w:World) (F:RndOn x n0 fs bst w told fb) (hb0:∀ k ∈ fb,k < b0) (hn:New b0 w ba) (ha:atomK w [.string a.name,c1] a ba) (hok:FactOk a):
  Calls Tryz.prog 109 (#[.agg #[.string a.name,c1]] ++ x.clb) w fun e w'=>e=.returned (.bool (goN fs (told ++ [a])))∧(∃ fb',RndSt x n0 fs bst (goN fs (told ++ [a])) w' (told ++ [a]) fb'∧∀ k ∈ fb',k ∈ fb∨b0≤k)∧AllBut x.K w w':=by
 obtain ⟨Ae,ce,_,rfl⟩:=atom_cells2 ha
 have hA:Below w.heap.size w (w.alloc (.cells #[.string a.name,.slice Ae a.args.length ce] 68)):=(Below.refl _ _).alloc (Nat.le_refl _) _
 have hbulk:bulkA a≤16777216:=by have:=bulk_ok hok.ok; omega
 have hT:=η (atomText_any a (.string a.name) (.slice Ae a.args.length ce) ba _ (atomK_good.below ha hA) hbulk)
 have hx:w.heap.size < (w.alloc (.cells #[.string a.name,.slice Ae a.args.length ce] 68)).heap.size:=by simp
 have y0:(w.alloc (.cells #[.string a.name,.slice Ae a.args.length ce] 68)).heap[w.heap.size]? = some (.cells #[.string a.name,.slice Ae a.args.length ce] 68 (0,0)):=heap_alloc_new _ _
 have z0:(w.alloc (.cells #[.string a.name,.slice Ae a.args.length ce] 68)).cell? ⟨w.heap.size,0,none⟩=some (.string a.name):=cell_of_blk y0
 have z1:(w.alloc (.cells #[.string a.name,.slice Ae a.args.length ce] 68)).cell? ⟨w.heap.size,1,none⟩=some (.slice Ae a.args.length ce):=cell_of_blk y0
 have HF:=η F
 have HA:=η hA
 have HB0:=η hb0
 have HN:=η hn
 have HAT:=η ha
 have HY0:=η y0
 clear F hb0 hn ha hA y0 hbulk
 unfold RBx.clb
 go_enter Tryz.func109,Tryz.ntmps109
 go_wp2_with fail
 refine hT.out.mono ?_
 rintro e w2 ⟨rfl,hb2⟩
 have HB2:=η (HA.out.trans (hb2.mono HA.out.size))
 have hx2:=Nat.lt_of_lt_of_le hx hb2.size
 have z0:=cell_later hb2 z0
 have z1:=cell_later hb2 z1
 have HF2:=η (HF.out.keep (fun k hk=>HB2.out.block k (HF.out.lt k hk)) HB2.out.size)
 have HAT2:=η (atomK_good.below HAT.out HB2.out)
 have HB2X:Hid (w2.heap[w.heap.size]? = some (.cells #[.string a.name,.slice Ae a.args.length ce] 68 (0,0))):=η ((hb2.block _ hx).trans HY0.out)
 clear hT hb2
 have hnew:∀ t ∈ newL fs told,FactOk t:=fun t ht=>HF.out.tok t (((newL_spec fs told).2 t).1 ht).1
 have xM:w2.cell? ⟨x.bM,0,none⟩=some (.map (some x.ms)):=cell_of_blk HF2.out.cM
 have xS:w2.cell? ⟨x.bS,0,none⟩=some (.pointer (some ⟨x.sb,0,none⟩)):=cell_of_blk HF2.out.cS
 have xN:w2.cell? ⟨x.bN,0,none⟩=some (.int .i64 x.nr):=cell_of_blk HF2.out.cN
 obtain ⟨vi,hlk⟩:=seenL_look HF2.out.sn (aText a) (aText_size hok.ok)
 have hm1:=mem_text hnew hok
 generalize decide (aText a ∈ (newL fs told).map aText)=s1 at hlk hm1
 unfold aText at hlk
 cases s1 with
 | true=>
  have HD:=η (HF.out.same hok (.inr (hm1.1 rfl)) HB2.out)
  clear hm1 hnew
  go_wp2
  go_ret
  obtain ⟨e1,h1⟩:=HD.out
  rw [e1]
  exact ⟨rfl,⟨fb,h1,fun k hk=>.inl hk⟩,AllBut.of_below HB2.out⟩
 | false=>
  have hno1:a ∉ newL fs told:=fun h=>by have:=hm1.2 h; simp at this
  obtain ⟨rn,hst⟩:=HF2.out.st
  have hcall:=holds_any x.sb fs rn bst a _ _ ba w2 hst HAT2.out hok.ok
  have hm2:=mem_text hfs hok
  generalize decide (aText a ∈ fs.map aText)=s2 at hcall hm2
  clear hst
  go_wp2_with fail
  refine hcall.mono ?_
  rintro e w3 ⟨rfl,hb3⟩
  clear hcall hlk
  have HB3:=η (HB2.out.trans (hb3.mono HB2.out.size))
  have xM:=cell_later hb3 xM
  have xS:=cell_later hb3 xS
  have xN:=cell_later hb3 xN
  have z0:=cell_later hb3 z0
  have z1:=cell_later hb3 z1
  have hx3:=Nat.lt_of_lt_of_le hx2 hb3.size
  cases s2 with
  | true=>
   have HD:=η (HF.out.same hok (.inl (hm2.1 rfl)) HB3.out)
   clear hm1 hm2 hnew
   go_wp2
   go_ret
   obtain ⟨e1,h1⟩:=HD.out
   rw [e1]
   exact ⟨rfl,⟨fb,h1,fun k hk=>.inl hk⟩,AllBut.of_below HB3.out⟩
  | false=>
   have hno2:a ∉ fs:=fun h=>by have:=hm2.2 h; simp at this
   have HF3:=η (HF.out.keep (fun k hk=>HB3.out.block k (HF.out.lt k hk)) HB3.out.size)
   obtain ⟨w4,hup,hm4,hg4,-⟩:=run_mapv_new keyV_str (w:=w3) trivial Tryz.underlying85 (k:=.string (aText a)) (.int .i64 x.nr) HF3.out.sn ⟨_,rfl,aText_size hok.ok⟩ (fun p hp e=>by
    obtain ⟨t,ht,rfl⟩:=List.mem_map.1 hp
    simp at e
    exact hno1 (aText_inj (hnew t ht).ok hok.ok e ▸ ht))
   unfold aText at hup
   go_upto_region 6 with fail
   have hs4:=hg4.size
   have nd:=HF.out.nd
   simp only [RBx.own,List.nodup_cons,List.mem_cons,List.not_mem_nil,or_false,not_or,List.nodup_nil,and_true,not_false_eq_true] at nd
   have k4:∀ k,k < w3.heap.size→k ≠ x.ms→w4.heap[k]? = w3.heap[k]?:=fun k h1 h2=>hg4.block k h1 (fun e=>h2 (by injection e))
   have ko:∀ k ∈ x.own,k < w3.heap.size:=fun k hk=>HF3.out.lt k (HF3.out.ow k hk)
   have bS4:=(k4 _ (ko _ (by simp [RBx.own])) (by omega)).trans HF3.out.cS
   have bM4:=(k4 _ (ko _ (by simp [RBx.own])) (by omega)).trans HF3.out.cM
   have bF4:=(k4 _ (ko _ (by simp [RBx.own])) (by omega)).trans HF3.out.cF
   have bC4:=(k4 _ (ko _ (by simp [RBx.own])) (by omega)).trans HF3.out.cC
   have bX4:=(k4 _ hx3 (by have:=HF.out.lt x.ms (HF.out.ow _ (by simp [RBx.own])); omega)).trans ((hb3.block _ hx2).trans (HB2X.out))
   have HF4:=η (And.intro bM4 (And.intro bS4 (And.intro bF4 (And.intro bC4 (And.intro bX4 (And.intro hm4 (And.intro hg4 (And.intro k4 (And.intro hs4 (And.intro nd (And.intro hno1 hno2)))))))))))
   have c0:w4.cell? ⟨x.bS,0,none⟩=some (.pointer (some ⟨x.sb,0,none⟩)):=cell_of_blk bS4
   have c1:w4.cell? ⟨x.bM,0,none⟩=some (.map (some x.ms)):=cell_of_blk bM4
   have c2:w4.cell? ⟨x.bF,0,none⟩=some (.bool true):=cell_of_blk bF4
   have c3:w4.frozen? ⟨x.bF,0,none⟩=false:=frozen_of_blk bF4
   have l2:=lt_of_cell c2
   obtain ⟨rn3,hst3⟩:=HF3.out.st
   obtain ⟨Af,cf,hsb3⟩:∃ Af cf,w3.cell? ⟨x.sb,0,none⟩=some (.slice Af fs.length cf):=by
    obtain ⟨⟨Af,cf,_,_,_,_,_,_,_,_,h1,_⟩,_,_⟩:=hst3
    exact ⟨Af,cf,cell_of_blk h1⟩
   have c4:w4.cell? ⟨x.sb,0,none⟩=some (.slice Af fs.length cf):=(World.cell?_of_block (k4 _ (lt_of_cell hsb3) (fun e=>(HF3.out.sto _ hst3.own).2 (by have e:x.sb=x.ms:=e; rw [e]; simp [RBx.own])))).trans hsb3
   have hln:∀ ty,(Builtin.len_ #[85] ty #[.map (some x.ms)]).run Tryz.prog w4.drew=.ok (.int .i64 ((newL fs told).length+1:Nat)) w4.drew:=fun ty=>by
    have:=mapV_len (w:=w4.drew) (hm4.same rfl) ty
    simpa [seenL_len] using this
   have hfew:=HF.out.few
   have hn0:(0:Int)≤fs.length:=by omega
   have hn1:(0:Int)≤((newL fs told).length+1:Nat):=by omega
   have hn2:(fs.length:Int)+((newL fs told).length+1:Nat)≤301:=by omega
   clear hst3 hsb3 hup bS4 bM4 bF4 bC4 bX4 hm4 hg4 hs4 nd k4 ko hno1 hno2 hm1 hm2 hnew xM xS xN z0 z1
   go_region
   clear c0 c1 c2 c3 c4 hln l2
   obtain ⟨bM4,bS4,bF4,bC4,bX4,hm4,hg4,k4,hs4,nd,hno1,hno2⟩:=HF4.out
   have hnl:newL fs (told ++ [a])=newL fs told ++ [a]:=by
    classical
    rw [newL_snoc,if_neg (fun h=>h.elim hno2 hno1)]
   have hgo:goN fs (told ++ [a])=decide ((fs.length:Int)+((newL fs told).length+1)≤300):=by
    classical
    rw [goN_snoc]
    refine decide_eq_decide.2 ⟨fun h=>?_,fun h=>?_⟩
    ·rcases h with h | h | h
     ·exact absurd h hno2
     ·exact absurd h hno1
     ·rw [hnl,List.length_append,List.length_singleton] at h; omega
    ·rw [hnl,List.length_append,List.length_singleton]; exact .inr (.inr (by omega))
   have bF5:∀ v,(w4.setCell ⟨x.bF,0,none⟩ v).drew.heap[x.bF]? = some (.cells #[v] 4 (0,0)):=fun v=>by
    have:=blk_setG (o:=0) (u:=v) bF4
    exact this
   have k5:∀ v k,k ≠ x.bF→(w4.setCell ⟨x.bF,0,none⟩ v).drew.heap[k]? = w4.heap[k]?:=fun v k hk=>Below.heap_setCell _ _ _ _ hk
   have s5:∀ v,(w4.setCell ⟨x.bF,0,none⟩ v).drew.heap.size=w4.heap.size:=fun v=>by simp [World.setCell]
   have ab5:∀ v,AllBut x.K w (w4.setCell ⟨x.bF,0,none⟩ v).drew:=fun v=>by
    have h3:=HB3.out
    refine ⟨hg4.os.trans h3.os,hg4.tape.trans h3.tape,hg4.output.trans h3.output,?_,fun k hk hK=>?_⟩
    ·rw [s5]; exact Nat.le_trans h3.size hs4
    ·rw [k5 _ _ (fun e=>hK (.inr (.inl e))),k4 k (Nat.lt_of_lt_of_le hk h3.size) (fun e=>hK (.inl e)),h3.block k hk]
   rw [← hgo]
   generalize hgv:goN fs (told ++ [a])=g at *
   generalize hW:(w4.setCell ⟨x.bF,0,none⟩ (.bool g)).drew=W5 at *
   have bF6:=hW ▸ bF5 (.bool g)
   have k6:=fun k hk=>hW ▸ k5 (.bool g) k hk
   have s6:=hW ▸ s5 (.bool g)
   have ab6:=hW ▸ ab5 (.bool g)
   clear bF5 k5 s5 ab5 hW
   have q0:W5.cell? ⟨x.bF,0,none⟩=some (.bool g):=cell_of_blk bF6
   have lts:∀ k ∈ x.own,k < w.heap.size:=fun k hk=>HF.out.lt k (HF.out.ow k hk)
   have ltF:=lts x.bF (by simp [RBx.own])
   have q1:W5.cell? ⟨x.bC,0,none⟩=some (.chan (some x.ch)):=cell_of_blk ((k6 _ (by omega)).trans bC4)
   have bX5:=(k6 w.heap.size (by omega)).trans bX4
   have q2:W5.cell? ⟨w.heap.size,0,none⟩=some (.string a.name):=cell_of_blk bX5
   have q3:W5.cell? ⟨w.heap.size,1,none⟩=some (.slice Ae a.args.length ce):=cell_of_blk bX5
   cases g with
   | false=>
    have HD:Hid (RndOff x W5 fb∧AllBut x.K w W5):=η ⟨⟨bF6,HF.out.ow,fun k hk=>Nat.lt_of_lt_of_le (HF.out.lt k hk) ab6.size⟩,ab6⟩
    clear hgo hnl bM4 bS4 bF4 bC4 bX4 hm4 hg4 k4 hs4 nd hno1 hno2 bF6 k6 s6 ab6 bX5 lts
    go_wp2
    go_ret
    rw [hgv]
    exact ⟨rfl,⟨fb,HD.out.1,fun k hk=>.inl hk⟩,HD.out.2⟩
   | true=>
    have hle:=of_decide_eq_true hgo.symm
    clear hgo
    go_upto_region 8 with fail
    refine inR_region ?_
    obtain ⟨vs,sd,bb,hch3,hfq3,hbb⟩:=HF3.out.cH
    have hch5:W5.heap[x.ch]? = some (.chan 301 ⟨vs⟩ false sd 0 false):=(k6 _ (by omega)).trans ((k4 _ (Nat.lt_of_lt_of_le (lts _ (by simp [RBx.own])) HB3.out.size) (by omega)).trans hch3)
    have hlen:=hfq3.len
    refine inR_value (i:=0) (by rfl) (by rfl) (v:=.chan (some x.ch)) (w':=W5) (by go_simp) ?_
    refine inR_value (i:=1) (by rfl) (by rfl) (v:=.agg #[.string a.name,.slice Ae a.args.length ce]) (w':=W5) (by go_simp) ?_
    refine inR_send (i:=2) (w':=W5) (v:=.agg #[.string a.name,.slice Ae a.args.length ce]) (by rfl) (by rfl) (by go_simp; rfl) hch5 (by show vs.length < 301; omega) ?_
    refine inR_ops (show Exit.then _ _ Exit.normal _ _ from ?_)
    have hlt6:x.ch < W5.heap.size:=lt_of_block hch5
    have bH7:=Go.Conc.heap_setChan W5 x.ch 301 ((⟨vs⟩:Array Value).push (.agg #[.string a.name,.slice Ae a.args.length ce])) false (sd+1) 0 false hlt6
    have k7:∀ k,k ≠ x.ch→(W5.setChan x.ch 301 ((⟨vs⟩:Array Value).push (.agg #[.string a.name,.slice Ae a.args.length ce])) false (sd+1) 0 false).heap[k]? = W5.heap[k]?:=fun k hk=>by
     simp only [World.setChan]; rw [Array.getElem?_setIfInBounds_ne (by omega)]
    have s7:(W5.setChan x.ch 301 ((⟨vs⟩:Array Value).push (.agg #[.string a.name,.slice Ae a.args.length ce])) false (sd+1) 0 false).heap.size=W5.heap.size:=by simp [World.setChan]
    have o7:(W5.setChan x.ch 301 ((⟨vs⟩:Array Value).push (.agg #[.string a.name,.slice Ae a.args.length ce])) false (sd+1) 0 false).os=W5.os∧(W5.setChan x.ch 301 ((⟨vs⟩:Array Value).push (.agg #[.string a.name,.slice Ae a.args.length ce])) false (sd+1) 0 false).tape=W5.tape∧(W5.setChan x.ch 301 ((⟨vs⟩:Array Value).push (.agg #[.string a.name,.slice Ae a.args.length ce])) false (sd+1) 0 false).output=W5.output:=⟨rfl,rfl,rfl⟩
    generalize W5.setChan x.ch 301 ((⟨vs⟩:Array Value).push (.agg #[.string a.name,.slice Ae a.args.length ce])) false (sd+1) 0 false=W7 at *
    have q0:W7.cell? ⟨x.bF,0,none⟩=some (.bool true):=(World.cell?_of_block (k7 _ (by show x.bF ≠ x.ch; omega))).trans q0
    have HD:Hid ((∃ fb',RndOn x n0 fs bst W7 (told ++ [a]) fb'∧∀ k ∈ fb',k ∈ fb∨b0≤k)∧AllBut x.K w W7):=η (by
     have h3:=HB3.out
     have b3:=HF.out
     have hsz:w.heap.size≤W7.heap.size:=by rw [s7]; exact ab6.size
     have kk:∀ k,k < w.heap.size→k ∉ x.own→W7.heap[k]? = w.heap[k]?:=fun k hk hno=>by
      simp only [RBx.own,List.mem_cons,List.not_mem_nil,or_false,not_or] at hno
      rw [k7 k (by omega),k6 k (by omega),k4 k (Nat.lt_of_lt_of_le hk h3.size) (by omega),h3.block k hk]
     have hba:∀ k ∈ ba,b0≤k∧k < w.heap.size∧k ∉ x.own:=fun k hk=>by
      have h1:=HN.out.own k hk
      exact ⟨h1.1,(atomK_good.lt HAT.out k hk),fun hm=>by have:=HB0.out k (b3.ow k hm); omega⟩
     obtain ⟨rn0,hst0⟩:=b3.st
     refine ⟨⟨fb ++ ba,⟨?_,?_,?_,?_,?_,?_,⟨vs ++ [.agg #[.string a.name,.slice Ae a.args.length ce]],sd+1,bb ++ ba,?_,?_,?_⟩,⟨rn0,hst0.keep (fun k hk=>kk k (hst0.lt k hk) (b3.sto k hk).2) hsz⟩,?_,?_,b3.nd,?_,?_,b3.lo,?_⟩,?_⟩,?_⟩
     ·rw [k7 _ (by omega),k6 _ (by omega)]; exact bM4
     ·rw [k7 _ (by omega),k6 _ (by omega)]; exact bS4
     ·rw [k7 _ (by omega),k6 _ (by omega),k4 _ (Nat.lt_of_lt_of_le (lts _ (by simp [RBx.own])) h3.size) (by omega),h3.block _ (lts _ (by simp [RBx.own]))]; exact b3.cN
     ·rw [k7 _ (by omega)]; exact bF6
     ·rw [k7 _ (by omega),k6 _ (by omega)]; exact bC4
     ·rw [hnl]
      have e:seenL x.nr (newL fs told ++ [a])=seenL x.nr (newL fs told) ++ [(.string (aText a),.int .i64 (x.nr:Nat))]:=by simp [seenL]
      rw [e]
      exact hm4.same (by rw [k7 _ (by omega),k6 _ (by omega)])
     ·rw [bH7]; simp
     ·rw [hnl]
      have hw:FqK w vs (newL fs told) bb:=hfq3.keep fun k hk=>(h3.block k (b3.lt k (hbb k hk).1)).symm
      exact (hw.keep fun k hk=>kk k (b3.lt k (hbb k hk).1) (hbb k hk).2.2).snoc (atomK_good.keep HAT.out fun k hk=>kk k (hba k hk).2.1 (hba k hk).2.2)
     ·intro k hk
      rcases List.mem_append.1 hk with hk | hk
      ·exact ⟨List.mem_append_left _ (hbb k hk).1,(hbb k hk).2⟩
      ·have h1:=hba k hk
       have h2:=HB0.out x.bM (b3.ow _ (by simp [RBx.own]))
       have h4:=b3.lo
       exact ⟨List.mem_append_right _ hk,by omega,h1.2.2⟩
     ·rw [hnl,List.length_append,List.length_singleton]; omega
     ·intro t ht
      rcases List.mem_append.1 ht with ht | ht
      ·exact b3.tok t ht
      ·rw [List.mem_singleton.1 ht]; exact hok
     ·exact fun k hk=>List.mem_append_left _ (b3.ow k hk)
     ·exact fun k hk=>⟨List.mem_append_left _ (b3.sto k hk).1,(b3.sto k hk).2⟩
     ·intro k hk
      rcases List.mem_append.1 hk with hk | hk
      ·exact Nat.lt_of_lt_of_le (b3.lt k hk) hsz
      ·exact Nat.lt_of_lt_of_le (hba k hk).2.1 hsz
     ·intro k hk
      rcases List.mem_append.1 hk with hk | hk
      ·exact .inl hk
      ·exact .inr (hba k hk).1
     ·exact ⟨o7.1.trans ab6.os,o7.2.1.trans ab6.tape,o7.2.2.trans ab6.output,hsz,fun k hk hK=>(k7 k (fun e=>hK (.inr (.inr e)))).trans (ab6.block k hk hK)⟩)
    clear hnl bM4 bS4 bF4 bC4 bX4 hm4 hg4 k4 hs4 nd hno1 hno2 bF6 k6 s6 ab6 bX5 lts k7 s7 o7 bH7 hch5 hfq3 hbb hch3
    go_wp2
    go_ret
    rw [hgv]
    obtain ⟨⟨fb',h1,h2⟩,h3⟩:=HD.out
    exact ⟨rfl,⟨fb',h1,h2⟩,h3⟩
theorem D.tlr_round (x:RBx) (n0:Nat) (fs:List A) (bst:List Nat) (hfs:∀ f ∈ fs,FactOk f):Tlr 109 x.clb x.K (RndSt x n0 fs bst) (goN fs):=by
 refine ⟨enters_of Tryz.func109 (by kernel_rfl) rfl,fun {f w told fb} h=>?_,fun {f w told fb} h k hk=>?_,fun {f w w' told fb} h hk hs=>?_,fun w told fb a c1 ba b0 h hb0 hn ha hok=>roundTell_any x n0 fs bst hfs told fb a c1 ba b0 w h hb0 hn ha hok⟩
 ·cases f with
  | true=>exact RndOn.lt h
  | false=>exact RndOff.lt h
 ·have ho:k ∈ x.own:=by
   rcases hk with rfl | rfl | rfl <;> simp [RBx.own]
  cases f with
  | true=>exact RndOn.ow h k ho
  | false=>exact RndOff.ow h k ho
 ·cases f with
  | true=>exact RndOn.keep h hk hs
  | false=>exact RndOff.keep h hk hs
end Go.Proofs.YtiidmgchadagbaaGreatDoor
namespace Go.Proofs.YtiidmgchadagbaaGreatDoor
open Go.Shelf Go.RowKit Go.Lib Go.Sort D
theorem D.heap_mapBlock_other (w:World) (g:Nat) (f:Array Value→Array Value) {x:Nat} (h:x ≠ g):(mapBlock w g f).heap[x]? = w.heap[x]?:=by
 simp only [mapBlock,Array.getElem?_modify]
 rw [if_neg (fun e=>h e.symm)]
end Go.Proofs.YtiidmgchadagbaaGreatDoor
