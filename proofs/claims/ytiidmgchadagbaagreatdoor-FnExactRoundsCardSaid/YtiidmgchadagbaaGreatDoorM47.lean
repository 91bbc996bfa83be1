/- Of the proof of FnExactRounds: RouP, SrtP, InoI, RouI, InoJ, StAl, EvI, SimQ, EvC, RdsC, RdsS, RdsI, LwRounds. -/
import Derived.Test.YtiidmgchadagbaaGreatDoorM46
import Derived.Test.YtiidmgchadagbaaGreatDoorM42
import Derived.Deep.CutBlock
set_option linter.unusedVariables false
set_option maxHeartbeats 4000000
set_option maxRecDepth 100000
namespace Go.Proofs.YtiidmgchadagbaaGreatDoor
open Go.RowKit D
theorem D.alloc_get (w:World) (o:Obj) (k:Nat):(w.alloc o).heap[k]? = if k=w.heap.size then some o else w.heap[k]?:=by
 by_cases h:k=w.heap.size
 ·rw [if_pos h,h]; exact heap_alloc_new w o
 ·rw [if_neg h]
  by_cases h2:k < w.heap.size
  ·exact Below.heap_alloc w o k h2
  ·have h3:(w.alloc o).heap.size=w.heap.size+1:=by simp
   rw [Array.getElem?_eq_none (by omega),Array.getElem?_eq_none (by omega)]
def D.rx (z sb nr:Nat):RBx:=⟨z+1+1+1+1+1,z,z+1,z+1+1+1+1+1+1,z+1+1+1,z+1+1+1+1,z+1+1,sb,nr⟩
def D.rW (w:World) (sb nr:Nat):World:=(((((((w.alloc (.cells #[.pointer (some ⟨sb,0,none⟩)] 80)).alloc (.cells #[.int .i64 nr] 3)).alloc (.chan 301 #[] false 0 0 false)).alloc (.cells #[.chan (some (w.heap.size+1+1))] 158)).alloc (.map #[] 0)).alloc
 (.cells #[.map (some (w.heap.size+1+1+1+1))] 85)).alloc (.cells #[.bool true] 4))
theorem D.rW_size (w:World) (sb nr:Nat):(rW w sb nr).heap.size=w.heap.size+7:=by unfold rW; simp
theorem D.rW_get (w:World) (sb nr:Nat) (k:Nat):(rW w sb nr).heap[k]? = if k=w.heap.size+6 then some (.cells #[.bool true] 4) else if k=w.heap.size+5 then some (.cells #[.map (some (w.heap.size+1+1+1+1))] 85) else if k=w.heap.size+4 then some (.map #[] 0) else
  if k=w.heap.size+3 then some (.cells #[.chan (some (w.heap.size+1+1))] 158) else if k=w.heap.size+2 then some (.chan 301 #[] false 0 0 false) else if k=w.heap.size+1 then some (.cells #[.int .i64 nr] 3) else if k=w.heap.size then some (.cells #[.pointer (some ⟨sb,0,none⟩)] 80) else w.heap[k]?:=by
 unfold rW
 simp only [alloc_get]
 simp
theorem D.rW_below (w:World) (sb nr:Nat):Below w.heap.size w (rW w sb nr):=by
 refine ⟨rfl,rfl,rfl,by rw [rW_size]; omega,fun k hk=>?_⟩
 rw [rW_get]
 simp only [show ¬ k=w.heap.size+6 by omega,show ¬ k=w.heap.size+5 by omega,show ¬ k=w.heap.size+4 by omega,show ¬ k=w.heap.size+3 by omega,show ¬ k=w.heap.size+2 by omega,show ¬ k=w.heap.size+1 by omega,show ¬ k=w.heap.size by omega,if_false]
theorem D.rnd_start (w:World) (sb nr:Nat) (fs:List A) (rn bst:List Nat) (hst:StoreV sb fs rn bst w) (hl:fs.length≤300):RndOn (rx w.heap.size sb nr) w.heap.size fs bst (rW w sb nr) [] (bst ++ (rx w.heap.size sb nr).own):=by
 have hb:=rW_below w sb nr
 have e0:newL fs [] = []:=rfl
 have lt:=hst.lt
 have es:(rx w.heap.size sb nr).own = [w.heap.size+5,w.heap.size,w.heap.size+1,w.heap.size+6,w.heap.size+3,w.heap.size+4,w.heap.size+2]:=rfl
 refine ⟨?_,?_,?_,?_,?_,?_,⟨[],0,[],?_,?_,?_⟩,⟨rn,hst.below hb⟩,by rw [e0]; simpa using hl,fun t ht=>by simp at ht,?_,?_,?_,?_,?_⟩
 ·show (rW w sb nr).heap[w.heap.size+5]? = _
  rw [rW_get]; simp; rfl
 ·show (rW w sb nr).heap[w.heap.size]? = _
  rw [rW_get]; simp; rfl
 ·show (rW w sb nr).heap[w.heap.size+1]? = _
  rw [rW_get]; simp; rfl
 ·show (rW w sb nr).heap[w.heap.size+6]? = _
  rw [rW_get]; simp
 ·show (rW w sb nr).heap[w.heap.size+3]? = _
  rw [rW_get]; simp; rfl
 ·rw [e0]
  have:(rW w sb nr).heap[w.heap.size+4]? = some (.map #[] 0):=by rw [rW_get]; simp
  exact ⟨⟨#[],0,this,rfl⟩,fun p h=>by simp [seenL] at h,List.Pairwise.nil⟩
 ·show (rW w sb nr).heap[w.heap.size+2]? = _
  rw [rW_get]; simp
 ·rw [e0]; rfl
 ·exact fun k hk=>by simp at hk
 ·rw [es]; simp
 ·exact fun k hk=>List.mem_append_right _ hk
 ·intro k hk
  have:=lt k hk
  refine ⟨List.mem_append_left _ hk,fun hm=>?_⟩
  rw [es] at hm; simp at hm; omega
 ·show w.heap.size≤w.heap.size+5; omega
 ·intro k hk
  rw [rW_size]
  rcases List.mem_append.1 hk with hk | hk
  ·have:=lt k hk; omega
  ·rw [es] at hk; simp at hk; omega
theorem D.rou_take {rs:List Ru} {xs:List A} {k:Nat} (h:k < rs.length) (t:A):(∃ r ∈ rs.take (k+1),FolW xs r t) ↔ (∃ r ∈ rs.take k,FolW xs r t)∨FolW xs rs[k] t:=by
 rw [List.take_succ_eq_append_getElem h]
 constructor
 ·rintro ⟨r,hr,hf⟩
  rcases List.mem_append.1 hr with hr | hr
  ·exact .inl ⟨r,hr,hf⟩
  ·rw [List.mem_singleton.1 hr] at hf; exact .inr hf
 ·rintro (⟨r,hr,hf⟩ | hf)
  ·exact ⟨r,List.mem_append_left _ hr,hf⟩
  ·exact ⟨_,List.mem_append_right _ (List.mem_singleton.2 rfl),hf⟩
structure D.Rcv where
 B:Nat
 sb:Nat
 mu:Nat
 mp:Nat
 nr:Nat
 B0:Nat
 bS:Nat
 bN:Nat
 ch:Nat
 mc:Nat
 sd:Nat
 Fb:Nat→Prop
 fr:List Nat
 f2:List Nat
 fs:List A
 rn:List Nat
 new:List A
structure D.RcvOk (x:Rcv):Prop where
 sub:∀ k ∈ x.fr,k ∈ x.f2
 mS:x.bS ∈ x.f2
 mN:x.bN ∈ x.f2
 mH:x.ch ∈ x.f2
 mM:x.mc ∈ x.f2
 nH:¬ x.Fb x.ch
 nM:¬ x.Fb x.mc
 df:x.bS ≠ x.ch∧x.bN ≠ x.ch∧x.mc ≠ x.ch∧x.mc ≠ x.bS∧x.mc ≠ x.bN
 fh:x.ch ∉ x.fr
 fm:x.mc ∉ x.fr
 lH:x.B0≤x.ch
 lM:x.B0≤x.mc
 b0:x.B0≤x.sb∧x.B0≤x.mu∧x.B0≤x.mp∧x.B0≤x.B
 fok:∀ f ∈ x.fs,FactOk f
 nok:∀ f ∈ x.new,FactOk f
 nd:x.new.Nodup
 no:∀ t ∈ x.new,t ∉ x.fs
 few:x.fs.length+x.new.length≤300
 rfew:x.rn.length≤300
structure D.RcvSt (x:Rcv) (w:World) (k:Nat) (wr:World):Prop where
 bel:Below x.B0 w wr
 kep:∀ k ∈ x.fr,wr.heap[k]? = w.heap[k]?
 cS:wr.heap[x.bS]? = some (.cells #[.pointer (some ⟨x.sb,0,none⟩)] 80 (0,0))
 cN:wr.heap[x.bN]? = some (.cells #[.int .i64 x.nr] 3 (0,0))
 chn:∃ vs bb,wr.heap[x.ch]? = some (.chan 301 ⟨vs⟩ true x.sd k false)∧FqK wr vs (x.new.drop k) bb∧∀ k ∈ bb,k ∈ x.f2∧x.Fb k
 sto:StoS x.B x.sb x.mu x.mp x.Fb x.f2 (x.fs ++ x.new.take k) (x.rn ++ List.replicate k x.nr) wr
 cam:∃ n L f,MapF x.mc n L f wr∧n≤k∧(∀ s,s ∈ L ↔ ∃ t ∈ x.new.take k,t.name=s)∧∀ s ∈ L,1≤f s∧f s≤(k:Int)
structure D.RcvMid (x:Rcv) (w:World) (k:Nat) (a:A) (c:Value) (ba:List Nat) (wr:World):Prop where
 bel:Below x.B0 w wr
 kep:∀ k ∈ x.fr,wr.heap[k]? = w.heap[k]?
 cS:wr.heap[x.bS]? = some (.cells #[.pointer (some ⟨x.sb,0,none⟩)] 80 (0,0))
 cN:wr.heap[x.bN]? = some (.cells #[.int .i64 x.nr] 3 (0,0))
 chn:∃ vs bb,wr.heap[x.ch]? = some (.chan 301 ⟨vs⟩ true x.sd (k+1) false)∧FqK wr vs (x.new.drop (k+1)) bb∧∀ k ∈ bb,k ∈ x.f2∧x.Fb k
 sto:StoS x.B x.sb x.mu x.mp x.Fb x.f2 (x.fs ++ x.new.take k) (x.rn ++ List.replicate k x.nr) wr
 cam:∃ n L f,MapF x.mc n L f wr∧n≤k∧(∀ s,s ∈ L ↔ ∃ t ∈ x.new.take k,t.name=s)∧∀ s ∈ L,1≤f s∧f s≤(k:Int)
 at':atomK wr [.string a.name,c] a ba
 bas:∀ k ∈ ba,k ∈ x.f2∧x.Fb k
theorem D.RcvSt.recv {x:Rcv} (X:RcvOk x) {w:World} {k:Nat} {wr:World} (h:RcvSt x w k wr) (hk:k < x.new.length):
  ∃ c vs ba,wr.heap[x.ch]? = some (.chan 301 ⟨.agg #[.string x.new[k].name,c] :: vs⟩ true x.sd k false)∧RcvMid x w k x.new[k] c ba (wr.setChan x.ch 301 ⟨vs⟩ true x.sd (k+1) false):=by
 obtain ⟨vs0,bb,h1,h2,h3⟩:=h.chn
 rw [List.drop_eq_getElem_cons hk] at h2
 cases vs0 with
 | nil=>exact h2.elim
 | cons v vs=>
  obtain ⟨c,b1,b2,rfl,rfl,h4,h5⟩:=h2
  have hlt:=lt_of_block h1
  have hc:=Go.Conc.heap_setChan wr x.ch 301 ⟨vs⟩ true x.sd (k+1) false hlt
  have ko:∀ j,j ≠ x.ch→(wr.setChan x.ch 301 ⟨vs⟩ true x.sd (k+1) false).heap[j]? = wr.heap[j]?:=fun j hj=>by
   simp only [World.setChan]; rw [Array.getElem?_setIfInBounds_ne (by omega)]
  have hs:(wr.setChan x.ch 301 ⟨vs⟩ true x.sd (k+1) false).heap.size=wr.heap.size:=by simp [World.setChan]
  have nF:∀ j,x.Fb j→j ≠ x.ch:=fun j hj e=>X.nH (e ▸ hj)
  obtain ⟨n,L,f,m1,m2⟩:=h.cam
  refine ⟨c,vs,b1,h1,⟨?_,fun j hj=>(ko j (fun e=>X.fh (e ▸ hj))).trans (h.kep j hj),(ko _ X.df.1).trans h.cS,(ko _ X.df.2.1).trans h.cN,⟨vs,b2,hc,h5.keep fun j hj=>ko j (nF j (h3 j (List.mem_append_right _ hj)).2),fun j hj=>h3 j (List.mem_append_right _ hj)⟩,
   h.sto.other X.mH X.nH (by rw [hs]; exact Nat.le_refl _) (fun j _ hj=>ko j hj),⟨n,L,f,m1.same (ko _ X.df.2.2.1),m2⟩,atomK_good.keep h4 fun j hj=>ko j (nF j (h3 j (List.mem_append_left _ hj)).2),fun j hj=>h3 j (List.mem_append_left _ hj)⟩⟩
  exact Go.Conc.below_setChan h.bel X.lH 301 ⟨vs⟩ true x.sd (k+1) false
theorem D.RcvMid.later {x:Rcv} (X:RcvOk x) {w:World} {k:Nat} {a:A} {c:Value} {ba:List Nat} {wr w':World} (h:RcvMid x w k a c ba wr) (hk:Below wr.heap.size wr w'):RcvMid x w k a c ba w':=by
 have lt:=h.sto.lt
 have b0:=X.b0
 have k2:∀ j ∈ x.f2,w'.heap[j]? = wr.heap[j]?:=fun j hj=>hk.block j (lt.2.2 j hj)
 obtain ⟨vs,bb,h1,h2,h3⟩:=h.chn
 obtain ⟨n,L,f,m1,m2⟩:=h.cam
 exact ⟨h.bel.trans (hk.mono (by omega)),fun j hj=>(k2 j (X.sub j hj)).trans (h.kep j hj),(k2 _ X.mS).trans h.cS,(k2 _ X.mN).trans h.cN,⟨vs,bb,(k2 _ X.mH).trans h1,h2.keep fun j hj=>k2 j (h3 j hj).1,h3⟩,h.sto.later hk,⟨n,L,f,m1.same (k2 _ X.mM),m2⟩,
  atomK_good.keep h.at' fun j hj=>k2 j (h.bas j hj).1,h.bas⟩
theorem D.RcvMid.done {x:Rcv} (X:RcvOk x) {w:World} {k:Nat} (hk:k < x.new.length) {c:Value} {ba:List Nat} {wr w5 w6:World} (h:RcvMid x w k x.new[k] c ba wr) (hb:Below x.B0 wr w5) (hS:StoS x.B x.sb x.mu x.mp x.Fb x.f2 (x.fs ++ x.new.take k ++ [x.new[k]]) (x.rn ++ List.replicate k x.nr ++ [x.nr]) w5)
  (hf:∀ j ∈ x.f2,w5.heap[j]? = wr.heap[j]?) {n:Nat} {L:List ByteArray} {f:ByteArray→Int} (hM:MapF x.mc (n+1) (putNew L x.new[k].name) (fun t=>if t=x.new[k].name then (if x.new[k].name ∈ L then f x.new[k].name else 0)+1 else f t) w6) (hg:w5.grownBy w6 (some x.mc))
  (hn:n≤k) (hL:∀ s,s ∈ L ↔ ∃ t ∈ x.new.take k,t.name=s) (hv:∀ s ∈ L,1≤f s∧f s≤(k:Int)):RcvSt x w (k+1) w6:=by
 have lt5:=hS.lt
 have k6:∀ j,j < w5.heap.size→j ≠ x.mc→w6.heap[j]? = w5.heap[j]?:=fun j h1 h2=>hg.block j h1 (fun e=>h2 (by injection e))
 have nF:∀ j,x.Fb j→j ≠ x.mc:=fun j hj e=>X.nM (e ▸ hj)
 have kk:∀ j ∈ x.f2,j ≠ x.mc→w6.heap[j]? = wr.heap[j]?:=fun j hj hne=>(k6 j (lt5.2.2 j hj) hne).trans (hf j hj)
 obtain ⟨vs,bb,h1,h2,h3⟩:=h.chn
 have et:x.new.take (k+1)=x.new.take k ++ [x.new[k]]:=List.take_succ_eq_append_getElem hk
 refine ⟨?_,fun j hj=>(kk j (X.sub j hj) (fun e=>X.fm (e ▸ hj))).trans (h.kep j hj),(kk _ X.mS X.df.2.2.2.1.symm).trans h.cS,(kk _ X.mN X.df.2.2.2.2.symm).trans h.cN,⟨vs,bb,(kk _ X.mH X.df.2.2.1.symm).trans h1,h2.keep fun j hj=>kk j (h3 j hj).1 (nF j (h3 j hj).2),h3⟩,?_,⟨n+1,_,_,hM,by omega,fun s=>?_,fun s hs=>?_⟩⟩
 ·exact (h.bel.trans hb).grown hg (by have:=X.b0; omega) fun j e=>by injection e with e; have:=X.lM; omega
 ·rw [et,← List.append_assoc,List.replicate_succ',← List.append_assoc]
  exact hS.other X.mM X.nM hg.size (fun j h1 h2=>k6 j h1 h2)
 ·rw [putNew_mem,hL,et]
  constructor
  ·rintro (⟨t,ht,e⟩ | e)
   ·exact ⟨t,List.mem_append_left _ ht,e⟩
   ·exact ⟨x.new[k],List.mem_append_right _ (List.mem_singleton.2 rfl),e.symm⟩
  ·rintro ⟨t,ht,e⟩
   rcases List.mem_append.1 ht with ht | ht
   ·exact .inl ⟨t,ht,e⟩
   ·rw [List.mem_singleton.1 ht] at e; exact .inr e.symm
 ·show 1≤(if s=x.new[k].name then _ else f s)∧(if s=x.new[k].name then _ else f s)≤((k+1:Nat):Int)
  split
  ·split
   ·rename_i hm
    have:=hv _ hm
    omega
   ·omega
  ·rename_i hne
   rcases putNew_mem.1 hs with h | h
   ·have:=hv s h; omega
   ·exact absurd h hne
def D.rcv (B sb mu mp nr B0 z mc sd:Nat) (Fb:Nat→Prop) (fr bb:List Nat) (fs:List A) (rn:List Nat) (new:List A):Rcv:=
 ⟨B,sb,mu,mp,nr,B0,z,z+1,z+1+1,mc,sd,fun k=>Fb k∧k ≠ z+2∧k ≠ mc,fr,fr ++ ([z,z+1,z+2,mc] ++ bb),fs,rn,new⟩
theorem D.rcv_ok {B sb mu mp nr B0 mc sd:Nat} {Fb:Nat→Prop} {fr bb bst fb:List Nat} {fs told:List A} {rn:List Nat} {w wr:World} (S:StoS B sb mu mp Fb fr fs rn w) (F:RndOn (rx w.heap.size sb nr) w.heap.size fs bst wr told fb) (hb:w.heap.size < wr.heap.size) (hmc:mc=wr.heap.size) (hB0:B0≤sb∧B0≤mu∧B0≤mp∧B0≤B) (hfs:∀ f ∈ fs,FactOk f) (hrl:rn.length≤300):
  RcvOk (rcv B sb mu mp nr B0 w.heap.size mc sd Fb fr bb fs rn (newL fs told)):=by
 have lt:=S.lt
 have hn:=newL_spec fs told
 have l2:w.heap.size+2 < wr.heap.size:=F.lt _ (F.ow (w.heap.size+2) (by show _ ∈ [_,_,_,_,_,_,_]; simp [rx]))
 refine ⟨fun k hk=>List.mem_append_left _ hk,by simp [rcv],by simp [rcv],by simp [rcv],by simp [rcv],fun h=>h.2.1 rfl,fun h=>h.2.2 rfl,?_,fun h=>?_,fun h=>?_,?_,?_,hB0,hfs,fun t ht=>F.tok t ((hn.2 t).1 ht).1,hn.1,fun t ht=>((hn.2 t).1 ht).2,F.few,hrl⟩
 ·simp only [rcv]; omega
 ·have h1:w.heap.size+2 < w.heap.size:=lt.2.2 _ h; omega
 ·have h1:mc < w.heap.size:=lt.2.2 _ h; omega
 ·simp only [rcv]; omega
 ·simp only [rcv]; omega
theorem D.rcv_start {B sb mu mp nr B0 sd:Nat} {Fb:Nat→Prop} {fr bb bst fb:List Nat} {fs told:List A} {rn:List Nat} {w wr:World} {vs:List Value} (hFb:∀ x,B≤x→Fb x) (S:StoS B sb mu mp Fb fr fs rn w) (F:RndOn (rx w.heap.size sb nr) w.heap.size fs bst wr told fb) (hb:Below w.heap.size w wr) (hB0:B0≤sb∧B0≤mu∧B0≤mp∧B0≤B)
  (h1:wr.heap[w.heap.size+1+1]? = some (.chan 301 ⟨vs⟩ false sd 0 false)) (h2:FqK wr vs (newL fs told) bb) (h3:∀ k ∈ bb,k ∈ fb∧w.heap.size≤k∧k ∉ (rx w.heap.size sb nr).own):
  RcvSt (rcv B sb mu mp nr B0 w.heap.size wr.heap.size sd Fb fr bb fs rn (newL fs told)) w 0 ((wr.setChan (w.heap.size+1+1) 301 ⟨vs⟩ true sd 0 false).alloc (.map #[] 0)):=by
 have lt:=S.lt
 have hs1:(wr.setChan (w.heap.size+1+1) 301 ⟨vs⟩ true sd 0 false).heap.size=wr.heap.size:=by simp [World.setChan]
 have hH:=Go.Conc.heap_setChan wr (w.heap.size+1+1) 301 ⟨vs⟩ true sd 0 false (lt_of_block h1)
 have ko:∀ j,j ≠ w.heap.size+1+1→(wr.setChan (w.heap.size+1+1) 301 ⟨vs⟩ true sd 0 false).heap[j]? = wr.heap[j]?:=fun j hj=>by
  simp only [World.setChan]; rw [Array.getElem?_setIfInBounds_ne (by omega)]
 have kal:∀ j,j < wr.heap.size→((wr.setChan (w.heap.size+1+1) 301 ⟨vs⟩ true sd 0 false).alloc (.map #[] 0)).heap[j]? = (wr.setChan (w.heap.size+1+1) 301 ⟨vs⟩ true sd 0 false).heap[j]?:=fun j hj=>Below.heap_alloc _ _ _ (by rw [hs1]; exact hj)
 have own:∀ j ∈ (rx w.heap.size sb nr).own,j < wr.heap.size:=fun j hj=>F.lt j (F.ow j hj)
 have o0:w.heap.size < wr.heap.size:=own _ (by show _ ∈ [_,_,_,_,_,_,_]; simp [rx])
 have o1:w.heap.size+1 < wr.heap.size:=own _ (by show _ ∈ [_,_,_,_,_,_,_]; simp [rx])
 have o2:w.heap.size+2 < wr.heap.size:=lt_of_block h1
 have hB2:Below w.heap.size w ((wr.setChan (w.heap.size+1+1) 301 ⟨vs⟩ true sd 0 false).alloc (.map #[] 0)):=(Go.Conc.below_setChan hb (by omega) 301 ⟨vs⟩ true sd 0 false).alloc (by rw [hs1]; exact hb.size) _
 have hz:((wr.setChan (w.heap.size+1+1) 301 ⟨vs⟩ true sd 0 false).alloc (.map #[] 0)).heap.size=wr.heap.size+1:=by simp [hs1]
 refine ⟨hB2.mono (by show B0≤_; omega),fun j hj=>hB2.block j (lt.2.2 j hj),?_,?_,⟨vs,bb,?_,?_,?_⟩,?_,⟨0,[],fun _=>0,?_,Nat.le_refl _,fun s=>by simp,fun s hs=>by simp at hs⟩⟩
 ·show (World.alloc _ _).heap[w.heap.size]? = _
  rw [kal _ o0,ko _ (by omega)]; exact F.cS
 ·show (World.alloc _ _).heap[w.heap.size+1]? = _
  rw [kal _ o1,ko _ (by omega)]; exact F.cN
 ·show (World.alloc _ _).heap[w.heap.size+2]? = _
  rw [kal _ o2]; exact hH
 ·show FqK _ vs (List.drop 0 (newL fs told)) bb
  rw [List.drop_zero]
  refine h2.keep fun j hj=>?_
  have g:=h3 j hj
  rw [kal _ (h2.lt j hj),ko _ (fun e=>g.2.2 (by rw [e]; show _ ∈ [_,_,_,_,_,_,_]; simp [rx]))]
 ·intro j hj
  have g:=h3 j hj
  have gl:=h2.lt j hj
  refine ⟨by simp [rcv,hj],hFb j (by omega),fun e=>g.2.2 (by rw [e]; show _ ∈ [_,_,_,_,_,_,_]; simp [rx]),?_⟩
  show j ≠ wr.heap.size
  omega
 ·have h:=(S.mono (Fb':=fun k=>Fb k∧k ≠ w.heap.size+2∧k ≠ wr.heap.size) fun x hx hl=>⟨hx,by omega,by omega⟩).more hB2 ([w.heap.size,w.heap.size+1,w.heap.size+2,wr.heap.size] ++ bb) (fun x hx=>by
   rw [hz]
   rcases List.mem_append.1 hx with hx | hx
   ·simp at hx; omega
   ·have:=(h3 x hx).2.1; have:=h2.lt x hx; omega)
  simpa [rcv] using h
 ·have:=MapF.made (wr.setChan (w.heap.size+1+1) 301 ⟨vs⟩ true sd 0 false) (fun _=>0)
  rw [hs1] at this
  exact this
theorem D.asc_sorted {ts:List A} (hf:∀ t ∈ ts,FactOk t) (hn:ts.Nodup) (hs:ts.Pairwise (fun a b=>¬ cmpA b a < 0)):asc ts=true:=by
 rw [asc_iff]
 intro i hi
 have h1:=List.pairwise_iff_getElem.1 hs i (i+1) (by omega) hi (by omega)
 have h2:=List.pairwise_iff_getElem.1 hn i (i+1) (by omega) hi (by omega)
 by_cases h0:cmpA ts[i] ts[i+1]=0
 ·exact absurd (gr_eq (hf _ (List.getElem_mem _)).gr (hf _ (List.getElem_mem _)).gr h0) h2
 ·rw [cmpA_lex] at h0 h1 ⊢
  have h4:=cmpA_is.anti (keyA ts[i+1]) (keyA ts[i])
  omega
end Go.Proofs.YtiidmgchadagbaaGreatDoor
namespace Go.Proofs.YtiidmgchadagbaaGreatDoor
open Go.Shelf Go.RowKit Go.Lib Go.Sort D
attribute [local go_sem ↓] Go.wp_at_zero Go.wp_at_succ
theorem D.Grew.drew (w:World):Grew w w.drew:=⟨(Below.refl _ _).drew,Nat.le_succ _⟩
theorem D.swo_by {α:Type} (f:α→A):SWO (ltOf fun x y=>cmpA (f x) (f y)) where
 irrefl x:=by unfold ltOf; exact decide_eq_false (by dsimp only; rw [cmpA_refl]; omega)
 trans x y z h1 h2:=by
  unfold ltOf at *
  simp only [decide_eq_true_eq] at *
  rw [cmpA_lex] at *
  exact (lexL_is cmpS_is).lt_of_lt_le h1 (by omega)
 ntrans x y z h1 h2:=by
  unfold ltOf at *
  simp only [decide_eq_false_iff_not] at *
  rw [cmpA_lex] at *
  have a1:=(lexL_is cmpS_is).anti (keyA (f x)) (keyA (f y))
  have a2:=(lexL_is cmpS_is).anti (keyA (f y)) (keyA (f z))
  have a3:=(lexL_is cmpS_is).anti (keyA (f x)) (keyA (f z))
  have a4:=(lexL_is cmpS_is).trans (keyA (f z)) (keyA (f y)) (keyA (f x)) (by omega) (by omega)
  omega
theorem inoCmp_any (bc sb:Nat) (Af:Option Addr) (cf:Nat) (fs:List A) (bf:List Nat) (i j:Nat) (w:World) (hc:w.cell? ⟨bc,0,none⟩=some (.pointer (some ⟨sb,0,none⟩))) (hs:w.cell? ⟨sb,0,none⟩=some (.slice Af fs.length cf)) (h:atomsK w [.slice Af fs.length cf] fs bf) (hi:i < fs.length) (hj:j < fs.length):
  Calls Tryz.prog 74 #[.int .i64 i,.int .i64 j,.pointer (some ⟨bc,0,none⟩)] w fun e w'=>e=.returned (.int .i64 (cmpA fs[i] fs[j]))∧Grew w w':=by
 obtain ⟨Ad,cap,e0,hlc,hm⟩:=sliceK_form h
 have hlm:=nat_ge_max (Nat.le_trans hlc hm)
 obtain ⟨bq,oq,Ae,ce,ba,rfl,_,f0,f1,hat,hsub⟩:=atoms_el h hi
 obtain ⟨bq2,oq2,Ae2,ce2,ba2,e2,_,g0,g1,hat2,hsub2⟩:=atoms_el h hj
 cases e2
 have hi0:(0:Int)≤(i:Int):=by omega
 have hi1:(i:Int) < (fs.length:Int):=by omega
 have hj0:(0:Int)≤(j:Int):=by omega
 have hj1:(j:Int) < (fs.length:Int):=by omega
 have HO:=η (atomOrder_grew fs[i] fs[j] _ _ _ _ ba ba2 w hat hat2)
 have HO2:=η (atomOrder_grew fs[i] fs[j] _ _ _ _ ba ba2 w.drew (atomK_good.keep hat fun _ _=>rfl) (atomK_good.keep hat2 fun _ _=>rfl))
 clear hat hat2 h hlc hm hsub hsub2 e0
 generalize fs[i]=a at *
 generalize fs[j]=b at *
 clear hi hj
 go_enter Tryz.func74,Tryz.ntmps74
 go_wp2_with fail
 go_region_law
  (go_simp; go_at_call 65; refine HO2.out.mono ?_; rintro e w2 ⟨rfl,hg2⟩; have HG:=η hg2; clear hg2)
 all_goals
  clear HO HO2 hc hs f0 f1 g0 g1
  go_wp2
  go_ret
  exact ⟨rfl,(Grew.drew w).trans HG.out⟩
theorem D.sort1_other {α:Type} [Inhabited α] (enc:α→Value) (w:World) (g n:Nat) (d:Array α) (os:Array Obj) {x:Nat} (hx:x < w.heap.size) (h:x ≠ g):(sortWorld enc w g 0 n d os).heap[x]? = w.heap[x]?:=by
 unfold sortWorld
 have hs:(putRow enc (Go.Sort.ahead w n) g 0 d).heap.size=w.heap.size:=by simp [putRow,mapBlock,Go.Sort.ahead]
 have e1:(grow (putRow enc (Go.Sort.ahead w n) g 0 d) os).heap[x]? = (putRow enc (Go.Sort.ahead w n) g 0 d).heap[x]?:=by
  show (_ ++ os)[x]? = _
  rw [Array.getElem?_append_left (by rw [hs]; exact hx)]
 rw [e1]
 exact heap_mapBlock_other (Go.Sort.ahead w n) g _ h
theorem D.sort1_but {α:Type} [Inhabited α] (enc:α→Value) (w:World) (g n:Nat) (d:Array α) (os:Array Obj):AllBut (fun x=>x=g) w (sortWorld enc w g 0 n d os):=
 ⟨rfl,rfl,rfl,by
  unfold sortWorld
  show w.heap.size≤(_ ++ os).size
  rw [Array.size_append]
  have hs:(putRow enc (Go.Sort.ahead w n) g 0 d).heap.size=w.heap.size:=by simp [putRow,mapBlock,Go.Sort.ahead]
  omega,fun x hx h=>sort1_other enc w g n d os hx h⟩
theorem sortPlaces_any (bc sb pb cap:Nat) (Af:Option Addr) (cf:Nat) (fs:List A) (bf:List Nat) (ps:List Nat) (w:World) (hc:w.cell? ⟨bc,0,none⟩=some (.pointer (some ⟨sb,0,none⟩))) (hs:w.cell? ⟨sb,0,none⟩=some (.slice Af fs.length cf)) (h:atomsK w [.slice Af fs.length cf] fs bf)
  (hlt:∀ p ∈ ps,p < fs.length) (hp:∀ k p,ps[k]? = some p→w.cell? ⟨pb,k,none⟩=some (.int .i64 (p:Nat))) (hfz:∀ q,w.frozen? ⟨pb,q,none⟩=false) (hpb:pb < w.heap.size) (h1:pb ≠ bc) (h2:pb ≠ sb) (h3:pb ∉ bf) (hsz:ps.length < 4611686018427387904):
  Calls Tryz.prog 73 #[.slice (some ⟨pb,0,none⟩) ps.length cap,.func (.func 74) #[] #[.pointer (some ⟨bc,0,none⟩)]] w fun e w'=>e=.returned (.tuple #[])∧
   ∃ qs:List Nat,qs.Perm ps∧qs.Pairwise (fun a b=>∀ (ha:a < fs.length) (hb:b < fs.length),¬ cmpA fs[b] fs[a] < 0)∧(∀ k q,qs[k]? = some q→w'.cell? ⟨pb,k,none⟩=some (.int .i64 (q:Nat)))∧AllBut (fun x=>x=pb) w w':=by
 cases hx:ps with
 | nil=>
  refine (Tryz.slices_SortFunc_none (α:=Nat) (some ⟨pb,0,none⟩) cap (.func (.func 74) #[] #[.pointer (some ⟨bc,0,none⟩)]) w).mono ?_
  rintro e w' ⟨rfl,rfl⟩
  exact ⟨rfl,[],List.Perm.refl _,List.Pairwise.nil,fun k y h=>by simp at h,AllBut.refl _ _⟩
 | cons p0 rest=>
  rw [← hx]
  have hm0:p0 ∈ ps:=by rw [hx]; exact List.mem_cons_self ..
  letI:Inhabited {i:Nat // i < fs.length}:=⟨⟨p0,hlt p0 hm0⟩⟩
  obtain ⟨L,hL⟩:∃ L:List {i:Nat // i < fs.length},L=ps.attach.map (fun x=>⟨x.1,hlt x.1 x.2⟩):=⟨_,rfl⟩
  have hLx:L.map (·.1)=ps:=by rw [hL,List.map_map]; exact List.attach_map_subtype_val ps
  have hlen:L.length=ps.length:=by rw [← hLx]; simp
  have hH:Holds (fun x:{i:Nat // i < fs.length}=>Value.int .i64 (x.1:Nat)) w pb 0 L.toArray:=by
   intro j hj
   refine ⟨?_,hfz _⟩
   have hj':j < L.length:=by simpa using hj
   rw [getElem!_pos L.toArray j hj,Nat.zero_add]
   exact hp j _ (by rw [← hLx,List.getElem?_map,List.getElem?_eq_getElem hj']; rfl)
  have hcmp:CmpLays1 Tryz.prog 74 #[.pointer (some ⟨bc,0,none⟩)] (fun x:{i:Nat // i < fs.length}=>Value.int .i64 (x.1:Nat)) (fun x y=>cmpA fs[x.1] fs[y.1]) pb 0 L.toArray.size w:=fun m os dk hdk x y=>by
   have hb:=sort1_but (fun x:{i:Nat // i < fs.length}=>Value.int .i64 (x.1:Nat)) w pb m dk os
   have kk:∀ k,k < w.heap.size→k ≠ pb→(sortWorld (fun x:{i:Nat // i < fs.length}=>Value.int .i64 (x.1:Nat)) w pb 0 m dk os).heap[k]? = w.heap[k]?:=fun k hk hne=>hb.block k hk hne
   refine (inoCmp_any bc sb Af cf fs bf x.1 y.1 (sortWorld (fun x:{i:Nat // i < fs.length}=>Value.int .i64 (x.1:Nat)) w pb 0 m dk os) ((World.cell?_of_block (kk bc (lt_of_cell hc) h1.symm)).trans hc) ((World.cell?_of_block (kk sb (lt_of_cell hs) h2.symm)).trans hs) (atomsK_good.keep h fun b hb'=>kk b (atomsK_good.lt h b hb') (fun e=>h3 (e ▸ hb'))) x.2 y.2).mono ?_
   rintro e w' ⟨rfl,hgw⟩
   exact ⟨rfl,hgw.is⟩
  have hcon:=Tryz.slices_SortFunc (fun x:{i:Nat // i < fs.length}=>Value.int .i64 (x.1:Nat)) (fun x=>rfl) (fun x y=>cmpA fs[x.1] fs[y.1]) (swo_by fun x:{i:Nat // i < fs.length}=>fs[x.1]) 74 #[.pointer (some ⟨bc,0,none⟩)] pb 0 cap L.toArray w (enters_of Tryz.func74 (by kernel_rfl) rfl) hcmp hH hpb (by simpa [hlen] using hsz)
  have hs':L.toArray.size=ps.length:=by simp [hlen]
  rw [hs'] at hcon
  refine hcon.mono ?_
  rintro e w' ⟨rfl,d',n,os,hpm,hsrt,rfl⟩
  have hd:d'.size=ps.length:=by rw [hpm.1,hs']
  have hH2:=holds_sortWorld (fun x:{i:Nat // i < fs.length}=>Value.int .i64 (x.1:Nat)) w pb 0 n L.toArray d' os hpb hH (by rw [hpm.1])
  refine ⟨rfl,d'.toList.map (·.1),?_,?_,fun k q hk=>?_,sort1_but _ _ _ _ _ _⟩
  ·have h3:=hpm.2.2
   rw [Array.extract_eq_self_of_le (by omega),Array.extract_eq_self_of_le (by omega)] at h3
   have h4:=h3.map (·.1)
   rwa [List.toList_toArray,hLx] at h4
  ·refine List.pairwise_map.2 (List.pairwise_iff_getElem.2 fun i j hi hj hij ha hb=>?_)
   have h3:=hsrt i j (Nat.zero_le _) hij (by simp at hj; omega)
   rw [getElem!_pos d' i (by simpa using hi),getElem!_pos d' j (by simpa using hj)] at h3
   unfold ltOf at h3
   simpa using h3
  ·obtain ⟨z,hz,rfl⟩:∃ z,d'[k]? = some z∧z.1=q:=by
    rw [List.getElem?_map] at hk
    obtain ⟨z,hz,rfl⟩:=Option.map_eq_some_iff.1 hk
    exact ⟨z,by simpa using hz,rfl⟩
   obtain ⟨hkl,rfl⟩:=Array.getElem?_eq_some_iff.1 hz
   have c0:=(hH2 k hkl).1
   rw [getElem!_pos d' k hkl,Nat.zero_add] at c0
   exact c0
end Go.Proofs.YtiidmgchadagbaaGreatDoor
namespace Go.Proofs.YtiidmgchadagbaaGreatDoor
open Go.RowKit D
attribute [local go_sem ↓] Go.wp_at_zero Go.wp_at_succ
theorem D.mk_chan (w:World):(Instr.makeChan 158 (.int .i64 301)).run Tryz.prog w=.ok (.chan (some w.heap.size)) (w.alloc (.chan 301 #[] false 0 0 false)):=by
 obtain ⟨i,hi,hb⟩:∃ i,Tryz.prog.info? 68=some i∧i.bytes=40:=by
  obtain ⟨i,hi,_,_,h2⟩:=info_parts infoAtm
  exact ⟨i,hi,h2⟩
 simpa using Go.Conc.run_makeChan (P:=Tryz.prog) (w:=w) Tryz.underlying158 hi .i64 301 (by omega) (by rw [hb]; omega)
def D.RndPost (B sb mu mp:Nat) (Fb:Nat→Prop) (fr:List Nat) (fs:List A) (rn:List Nat) (next:List Ru) (nr B0:Nat) (w:World) (e:Ending) (w':World):Prop:=
 Below B0 w w'∧((∃ new mc n L f,e=.returned (.tuple #[.map (some mc),.bool true])∧new.Nodup∧(∀ t ∈ new,FactOk t)∧(∀ t,t ∈ new ↔ t ∉ fs∧∃ q ∈ next,FolW fs q t)∧fs.length+new.length≤300∧
   StoS B sb mu mp Fb fr (fs ++ new) (rn ++ List.replicate new.length nr) w'∧(∀ x ∈ fr,w'.heap[x]? = w.heap[x]?)∧MapF mc n L f w'∧w.heap.size≤mc∧(∀ s,s ∈ L ↔ ∃ t ∈ new,t.name=s)∧∀ s ∈ L,1≤f s∧f s≤1000000) ∨
  (e=.returned (.tuple #[.map none,.bool false])∧∃ new:List A,new.Nodup∧(∀ t ∈ new,t ∉ fs∧∃ q ∈ next,FolW fs q t)∧300 < fs.length+new.length))
structure D.RouSt (x:RBx) (fs:List A) (bst:List Nat) (next:List Ru) (w:World) (k:Nat) (wr:World):Prop where
 ex:∃ told fb,RndOn x w.heap.size fs bst wr told fb∧∀ t,t ∈ told ↔ ∃ r ∈ next.take k,FolW fs r t
 bel:Below w.heap.size w wr
theorem rcv_put {x:Rcv} (X:RcvOk x) {w:World} {k:Nat} (hk:k < x.new.length) {c:Value} {ba:List Nat} {wr:World} (h:RcvMid x w k x.new[k] c ba wr):
  Calls Tryz.prog 75 #[.pointer (some ⟨x.sb,0,none⟩),.agg #[.string x.new[k].name,c],.int .i64 x.nr] (wr.alloc (.cells #[.string x.new[k].name,c] 68)) fun e w5=>e=.returned (.tuple #[])∧Below x.B0 wr w5∧
   StoS x.B x.sb x.mu x.mp x.Fb x.f2 (x.fs ++ x.new.take k ++ [x.new[k]]) (x.rn ++ List.replicate k x.nr ++ [x.nr]) w5∧(∀ j ∈ x.f2,w5.heap[j]? = wr.heap[j]?)∧w5.heap[wr.heap.size]? = some (.cells #[.string x.new[k].name,c] 68 (0,0)):=by
 have hA:Below wr.heap.size wr (wr.alloc (.cells #[.string x.new[k].name,c] 68)):=(Below.refl _ _).alloc (Nat.le_refl _) _
 have h1:=h.later X hA
 have hs:=h.sto.more hA [wr.heap.size] (fun j hj=>by simp at hj; subst hj; exact ⟨Nat.le_refl _,by simp⟩)
 have hlt:=h.sto.lt
 have hfew:=X.few
 have hmem:x.new[k] ∈ x.new:=List.getElem_mem hk
 have hnd:=X.nd
 refine (put_sto (fr:=x.f2 ++ [wr.heap.size]) hs h1.at' (fun j hj=>List.mem_append_left _ (h1.bas j hj).1) (fun j hj=>(h1.bas j hj).2) (fun f hf=>?_) (X.nok _ hmem) (fun hm=>?_) ?_ ?_ x.nr x.B0 X.b0).mono ?_
 ·rcases List.mem_append.1 hf with hf | hf
  ·exact X.fok f hf
  ·exact X.nok f (List.mem_of_mem_take hf)
 ·rcases List.mem_append.1 hm with hm | hm
  ·exact X.no _ hmem hm
  ·obtain ⟨i,hi,e⟩:=List.getElem_of_mem hm
   rw [List.length_take] at hi
   rw [List.getElem_take] at e
   have:=(List.getElem_inj hnd).1 e
   omega
 ·rw [List.length_append,List.length_take]; omega
 ·have:=X.rfew
  rw [List.length_append,List.length_replicate]; omega
 ·rintro e w5 ⟨rfl,hb,hS,hf⟩
  refine ⟨rfl,?_,hS.sub fun j hj=>List.mem_append_left _ hj,fun j hj=>(hf j (List.mem_append_left _ hj)).trans (hA.block j (hlt.2.2 j hj)),(hf _ (List.mem_append_right _ (List.mem_singleton.2 rfl))).trans (heap_alloc_new _ _)⟩
  have:=X.b0
  exact (hA.mono (by omega)).trans hb
theorem round_any (B sb mu mp:Nat) (Fb:Nat→Prop) (hFb:∀ x,B≤x→Fb x) (fr:List Nat) (fs:List A) (rn:List Nat) (next:List Ru) (v:Value) (bn:List Nat) (nr B0:Nat) (w:World) (S:StoS B sb mu mp Fb fr fs rn w) (h:rulesK w [v] next bn)
  (hfs:∀ f ∈ fs,FactOk f) (hfl:fs.length≤300) (hrl:rn.length≤300) (hR:∀ r ∈ next,RuleFol r) (hB0:B0≤sb∧B0≤mu∧B0≤mp∧B0≤B):
  Calls Tryz.prog 71 #[.pointer (some ⟨sb,0,none⟩),v,.int .i64 nr] w (RndPost B sb mu mp Fb fr fs rn next nr B0 w):=by
 obtain ⟨Ad,cap,rfl,hlc,hlm⟩:=sliceK_form h
 have hlmm:=nat_ge_max (Nat.le_trans hlc hlm)
 have HH:=η h
 have HS:=η S
 clear h S hlc hlm
 have hmm:=@run_makeMap Tryz.prog
 have hmc:=mk_chan
 go_enter Tryz.func71,Tryz.ntmps71
 go_wp2
 obtain ⟨bst,hst⟩:=HS.out.view
 have HI0:Hid (RouSt (rx w.heap.size sb nr) fs bst next w 0 (rW w sb nr)):=η ⟨⟨[],_,rnd_start w sb nr fs rn bst hst hfl,fun t=>by simp⟩,rW_below w sb nr⟩
 have eW:(((((((w.alloc (.cells #[.pointer (some ⟨sb,0,none⟩)] 80)).alloc (.cells #[.int .i64 nr] 3)).alloc (.chan 301 #[] false 0 0 false)).alloc (.cells #[.chan (some (w.heap.size+1+1))] 158)).alloc (.map #[] 0)).alloc (.cells #[.map (some (w.heap.size+1+1+1+1))] 85)).alloc (.cells #[.bool true] 4))=rW w sb nr:=rfl
 rw [eW]
 have HBS:Hid (∀ x ∈ bst,x < w.heap.size):=η hst.lt
 generalize rW w sb nr=W at *
 clear eW hst
 go_loopw [19] (fun i wr=>∃ k:Nat,k≤next.length∧i=.int .i64 k∧RouSt (rx w.heap.size sb nr) fs bst next w k wr) (fun i _=>next.length - (intOf i).toNat)
 case atStart=>exact ⟨0,Nat.zero_le _,rfl,HI0.out⟩
 case round=>
  obtain ⟨k,hk,rfl,hI⟩:=hrel
  clear HI0
  by_cases hlt:k < next.length
  ·have hk0:(0:Int)≤(k:Int):=by omega
   have hk1:(k:Int) < (next.length:Int):=by omega
   obtain ⟨⟨told,fb,hF,htold⟩,hbel⟩:=hI
   obtain ⟨bq,oq,Ae,ce,Af,cf,bk,rfl,_,f0,f1,f2,hrk,hsub⟩:=rules_el (rulesK_good.below HH.out hbel) hlt
   have hA:Below wr.heap.size wr (wr.alloc (.cells #[.string next[k].head.name,.slice Ae next[k].head.args.length ce,.slice Af next[k].body.length cf] 71)):=(Below.refl _ _).alloc (Nat.le_refl _) _
   have hFA:=hF.keep (fun x hx=>hA.block x (hF.lt x hx)) hA.size
   obtain ⟨rn',hS'⟩:=hFA.st
   have hcall:=follow_any sb fs rn' bst next[k] (.string next[k].head.name) (.slice Ae next[k].head.args.length ce) (.slice Af next[k].body.length cf) bk (tlr_round (rx w.heap.size sb nr) w.heap.size fs bst hfs) told fb _ hS' hfs (by omega) (ruleK_good.below hrk hA) (hR _ (List.getElem_mem hlt)) hFA (fun x hx e=>(hF.sto x hx).2 (by rcases e with rfl | rfl | rfl <;> simp [RBx.own])) (fun x hx e=>by
    have h1:=rulesK_good.lt HH.out x (hsub x hx)
    rcases e with rfl | rfl | rfl <;> (simp only [rx] at h1; omega))
   have HN:Hid (∀ w9 ts fb' more,RndSt (rx w.heap.size sb nr) w.heap.size fs bst more w9 (told ++ ts) fb'→AllBut (rx w.heap.size sb nr).K (wr.alloc (.cells #[.string next[k].head.name,.slice Ae next[k].head.args.length ce,.slice Af next[k].body.length cf] 71)) w9→(∀ t ∈ ts,FolW fs next[k] t)→(more=true→∀ t,FolW fs next[k] t→t ∈ ts)→(more=false→goN fs (told ++ ts)=false)→
     w9.cell? ⟨w.heap.size+1+1+1+1+1+1,0,none⟩=some (.bool more)∧(more=true→RouSt (rx w.heap.size sb nr) fs bst next w (k+1) w9)∧(more=false→RndPost B sb mu mp Fb fr fs rn next nr B0 w (.returned (.tuple #[.map none,.bool false])) w9)):=η fun w9 ts fb' more q1 q3 q4 q5 q6=>by
    have hz:=hbel.size
    have hB9:Below w.heap.size w w9:=⟨q3.os.trans (hA.os.trans hbel.os),q3.tape.trans (hA.tape.trans hbel.tape),q3.output.trans (hA.output.trans hbel.output),Nat.le_trans hz (Nat.le_trans hA.size q3.size),fun x hx=>(q3.block x (by have:=hA.size; omega) (fun e=>by rcases e with e | e | e <;> (simp only [rx] at e; omega))).trans ((hA.block x (by omega)).trans (hbel.block x hx))⟩
    refine ⟨?_,fun hm=>?_,fun hm=>?_⟩
    ·cases more with
     | true=>exact cell_of_blk (RndOn.cF q1)
     | false=>exact cell_of_blk (RndOff.cF q1)
    ·subst hm
     refine ⟨⟨told ++ ts,fb',q1,fun t=>?_⟩,hB9⟩
     rw [List.mem_append,htold,rou_take hlt]
     exact or_congr Iff.rfl ⟨q4 t,q5 rfl t⟩
    ·subst hm
     have hg:=goN_false (q6 rfl)
     have hn:=newL_spec fs (told ++ ts)
     refine ⟨hB9.mono (by have:=HS.out.lt; omega),.inr ⟨rfl,newL fs (told ++ ts),hn.1,fun t ht=>?_,hg⟩⟩
     obtain ⟨h1,h2⟩:=(hn.2 t).1 ht
     refine ⟨h2,?_⟩
     rcases List.mem_append.1 h1 with h1 | h1
     ·obtain ⟨r,hr,hf⟩:=(htold t).1 h1
      exact ⟨r,List.mem_of_mem_take hr,hf⟩
     ·exact ⟨next[k],List.getElem_mem hlt,q4 t h1⟩
   have y0:wr.cell? ⟨w.heap.size,0,none⟩=some (.pointer (some ⟨sb,0,none⟩)):=cell_of_blk hF.cS
   have hz0:w.heap.size < wr.heap.size:=hF.lt _ (hF.ow _ (by show _ ∈ [_,_,_,_,_,_,_]; simp [rx]))
   have HLT:=η hlt
   clear hF htold hFA hS' hbel hA hrk hsub hk
   generalize next[k]=r at *
   obtain ⟨⟨rn0,ra⟩,rb⟩:=r
   dsimp only at *
   clear hlt
   unfold rx RBx.clb at hcall
   go_wp2_with fail
   refine hcall.mono ?_
   rintro e w9 ⟨rfl,ts,fb',more,q1,q2,q3,q4,q5,q6⟩
   obtain ⟨y1,hI9,hP9⟩:=HN.out w9 ts fb' more q1 q3 q4 q5 q6
   have HI9:=η hI9
   have HP9:=η hP9
   clear hcall HN q1 q2 q3 q4 q5 q6 hI9 hP9
   cases more with
   | false=>
    have HP:=η (HP9.out rfl)
    clear HI9 HP9
    go_wp2
    go_ret2
    exact HP.out
   | true=>
    have HI:=η (HI9.out rfl)
    clear HI9 HP9
    go_wp2
    go_roundw
    case rel=>exact ⟨k+1,HLT.out,by go_num,HI.out⟩
    case measure=>have:=HLT.out; simp [intOf]; omega
  ·have he:k=next.length:=by omega
   have hk1:¬ (k:Int) < (next.length:Int):=by omega
   obtain ⟨⟨told,fb,hF,htold⟩,hbel⟩:=hI
   rw [List.take_of_length_le (Nat.le_of_eq he.symm)] at htold
   obtain ⟨vs,sd,bb,hch,hfq,hbb⟩:=hF.cH
   have hz1:w.heap.size < wr.heap.size:=hF.lt _ (hF.ow _ (by show _ ∈ [_,_,_,_,_,_,_]; simp [rx]))
   have y0:wr.cell? ⟨w.heap.size+1+1+1,0,none⟩=some (.chan (some (w.heap.size+1+1))):=cell_of_blk hF.cC
   have HF0:Hid (∀ t,t ∈ newL fs told ↔ t ∉ fs∧∃ q ∈ next,FolW fs q t):=η fun t=>by rw [(newL_spec fs told).2,htold]; exact And.comm
   have HX:=η (rcv_ok (sd:=sd) (B0:=B0) (bb:=bb) HS.out hF hz1 rfl hB0 hfs hrl)
   have HI:=η (rcv_start (sd:=sd) hFb HS.out hF hbel hB0 hch hfq hbb)
   have hcl:∀ ats ty,(Builtin.close_ ats ty #[.chan (some (w.heap.size+1+1))]).run Tryz.prog wr=.ok (.tuple #[]) (wr.setChan (w.heap.size+1+1) 301 ⟨vs⟩ true sd 0 false):=fun ats ty=>run_close_open ats ty hch
   have hsz:(wr.setChan (w.heap.size+1+1) 301 ⟨vs⟩ true sd 0 false).heap.size=wr.heap.size:=by simp [World.setChan]
   have hmm1:=hmm 85 (wr.setChan (w.heap.size+1+1) 301 ⟨vs⟩ true sd 0 false)
   rw [hsz] at hmm1
   have hl3:w.heap.size+1+1+1 < wr.heap.size:=lt_of_cell y0
   have y1:((wr.setChan (w.heap.size+1+1) 301 ⟨vs⟩ true sd 0 false).alloc (.map #[] 0)).cell? ⟨w.heap.size+1+1+1,0,none⟩=some (.chan (some (w.heap.size+1+1))):=by
    refine (World.cell?_of_block ?_).trans y0
    show (World.alloc _ _).heap[w.heap.size+1+1+1]? = _
    rw [Below.heap_alloc _ _ _ (by rw [hsz]; exact hl3)]
    simp only [World.setChan]
    rw [Array.getElem?_setIfInBounds_ne (by omega)]
   have hbelz:w.heap.size≤wr.heap.size:=hbel.size
   clear hF htold hfq hbb hch hmm hmc hbel HBS
   go_wp2
   clear hcl y0 hsz hl3
   generalize (wr.setChan (w.heap.size+1+1) 301 ⟨vs⟩ true sd 0 false).alloc (.map #[] 0)=W2 at *
   clear hmm1
   have hMC:=η hbelz
   generalize wr.heap.size=mc at *
   clear hz1
   go_loopg [34] (newL fs told).length (fun gg _ wr2=>∃ kk:Nat,kk≤(newL fs told).length∧(newL fs told).length - kk≤gg∧Aside (RcvSt (rcv B sb mu mp nr B0 w.heap.size mc sd Fb fr bb fs rn (newL fs told)) w kk wr2))
   case atStart=>exact ⟨0,Nat.zero_le _,by omega,HI.out⟩
   case round=>
    obtain ⟨kk,hkk,hg,hI⟩:=hrel
    clear HI y1
    by_cases hlt:kk < (newL fs told).length
    ·obtain ⟨c,vs2,ba,hch,hM⟩:=RcvSt.recv HX.out hI.out hlt
     have hch2:wr.heap[w.heap.size+1+1]? = some (.chan 301 ⟨.agg #[.string (newL fs told)[kk].name,c] :: vs2⟩ true sd kk false):=hch
     have hM2:RcvMid (rcv B sb mu mp nr B0 w.heap.size mc sd Fb fr bb fs rn (newL fs told)) w kk (newL fs told)[kk] c ba (wr.setChan (w.heap.size+1+1) 301 ⟨vs2⟩ true sd (kk+1) false):=hM
     have hex:(⟨.agg #[.string (newL fs told)[kk].name,c] :: vs2⟩:Array Value).extract 1 (⟨.agg #[.string (newL fs told)[kk].name,c] :: vs2⟩:Array Value).size=⟨vs2⟩:=by simp
     clear hM hch
     go_upto_region 14 with fail
     refine inR_region ?_
     refine inR_recv (i:=0) (w':=wr) (ok:=true) (z:=.agg #[.string ⟨#[]⟩,.slice none 0 0]) (by rfl) (by rfl) (by go_simp; rfl) hch2 (by simp) ?_
     rw [hex]
     refine inR_value (i:=1) (by rfl) (by rfl) (v:=.bool true) (w':=wr.setChan (w.heap.size+1+1) 301 ⟨vs2⟩ true sd (kk+1) false) (by simp [Go.Conc.got]; go_simp) ?_
     refine inR_ops (show Exit.then _ _ Exit.normal _ _ from ?_)
     generalize wr.setChan (w.heap.size+1+1) 301 ⟨vs2⟩ true sd (kk+1) false=W3 at *
     clear hex hch2
     obtain ⟨Ae,ce,_,rfl⟩:=atom_cells2 hM2.at'
     have z0:W3.cell? ⟨w.heap.size,0,none⟩=some (.pointer (some ⟨sb,0,none⟩)):=cell_of_blk hM2.cS
     have z1:W3.cell? ⟨w.heap.size+1,0,none⟩=some (.int .i64 nr):=cell_of_blk hM2.cN
     have lz0:=lt_of_cell z0
     have lz1:=lt_of_cell z1
     have hcall:=rcv_put HX.out hlt hM2
     have HM2:=η hM2
     clear hM2
     simp only [Go.Conc.got,if_true]
     go_wp2_with fail
     refine hcall.mono ?_
     rintro e w5 ⟨rfl,q1,q2,q3,q4⟩
     obtain ⟨n,L,f,m1,m2,m3,m4⟩:=HM2.out.cam
     have HM5:Hid (MapF mc n L f w5):=η (m1.same (q3 _ HX.out.mM))
     obtain ⟨v,hv⟩:∃ v,(if (newL fs told)[kk].name ∈ L then f (newL fs told)[kk].name else 0)=v:=⟨_,rfl⟩
     have hfew:=HX.out.few
     have hk3:kk≤300:=by have:fs.length+(newL fs told).length≤300:=hfew; omega
     have hv0:0≤v:=by
      rw [← hv]
      split
      ·rename_i hm; have:=m4 _ hm; omega
      ·omega
     have hv1:v≤300:=by
      rw [← hv]
      split
      ·rename_i hm; have:=m4 _ hm; omega
      ·omega
     have HDN:Hid (∀ w6,MapF mc (n+1) (putNew L (newL fs told)[kk].name) (fun t=>if t=(newL fs told)[kk].name then v+1 else f t) w6→w5.grownBy w6 (some mc)→RcvSt (rcv B sb mu mp nr B0 w.heap.size mc sd Fb fr bb fs rn (newL fs told)) w (kk+1) w6):=η fun w6 h6 hg6=>RcvMid.done HX.out hlt HM2.out q1 q2 q3 (by rw [← hv] at h6; exact h6) hg6 m2 m3 m4
     have HS5:Hid ((newL fs told)[kk].name.size≤maxLen):=η (by obtain ⟨_,_,hs,_⟩:=HM2.out.at'; exact hs)
     have z5:w5.cell? ⟨W3.heap.size,0,none⟩=some (.string (newL fs told)[kk].name):=cell_of_blk q4
     have lz5:=lt_of_cell z5
     have HV:=η hv
     have HLT:=η hlt
     have hnl:n < maxLen:=by unfold maxLen; omega
     clear q1 q2 q3 q4 m1 m2 m3 m4 hcall HM2 hfew hv z0 z1 lz0 lz1 hI
     generalize (newL fs told)[kk]=a at *
     clear hlt
     go_wp2_with (first | (at_lookup; refine wpList_mapf _ rfl _ _ _ rfl Tryz.underlying85 _ _ L _ rfl HM5.out a.name rfl HS5.out v HV.out ?_) | (at_mapUpdate; refine wpList_mapf_put _ rfl _ _ _ _ rfl Tryz.underlying85 _ _ L _ rfl HM5.out a.name rfl HS5.out (v+1) rfl hnl (by omega) ?_; intro w6 hM6 hg6))
     have HR6:=η (HDN.out w6 hM6 hg6)
     clear hM6 hg6 HDN
     go_roundg ((newL fs told).length - (kk+1))
     case measure=>have:=HLT.out; omega
     case rel=>exact ⟨kk+1,HLT.out,Nat.le_refl _,HR6.out⟩
    ·have hkl:kk=(newL fs told).length:=by omega
     obtain ⟨vs3,b3,hch,hfq,_⟩:=hI.out.chn
     have hfq3:FqK wr vs3 ((newL fs told).drop kk) b3:=hfq
     rw [List.drop_of_length_le (by omega)] at hfq3
     have hvs:vs3 = []:=by
      cases vs3 with
      | nil=>rfl
      | cons v vs=>exact hfq3.elim
     subst hvs
     have hch2:wr.heap[w.heap.size+1+1]? = some (.chan 301 #[] true sd kk false):=hch
     have HP:Hid (RndPost B sb mu mp Fb fr fs rn next nr B0 w (.returned (.tuple #[.map (some mc),.bool true])) wr):=η (by
      have h:=hI.out
      have hX:=HX.out
      have hn:=newL_spec fs told
      obtain ⟨n,L,f,m1,m2,m3,m4⟩:=h.cam
      have et:(newL fs told).take kk=newL fs told:=List.take_of_length_le (by omega)
      have hs:StoS B sb mu mp (fun k=>Fb k∧k ≠ w.heap.size+2∧k ≠ mc) (fr ++ ([w.heap.size,w.heap.size+1,w.heap.size+2,mc] ++ bb)) (fs ++ (newL fs told).take kk) (rn ++ List.replicate kk nr) wr:=h.sto
      have hm3:∀ s,s ∈ L ↔ ∃ t ∈ (newL fs told).take kk,t.name=s:=m3
      have hfew:fs.length+(newL fs told).length≤300:=hX.few
      rw [et] at hs hm3
      rw [hkl] at hs
      refine ⟨h.bel,.inl ⟨newL fs told,mc,n,L,f,rfl,hn.1,fun t ht=>hX.nok t ht,HF0.out,hfew,(hs.mono fun x hx _=>hx.1).sub fun x hx=>List.mem_append_left _ hx,h.kep,m1,hMC.out,hm3,fun s hs'=>?_⟩⟩
      have:=m4 s hs'
      omega)
     clear hI hfq hfq3 hch HX HF0
     go_upto_region 14 with fail
     refine inR_region ?_
     refine inR_shut (i:=0) (w':=wr) (ok:=true) (z:=.agg #[.string ⟨#[]⟩,.slice none 0 0]) (by rfl) (by rfl) (by go_simp; rfl) hch2 ?_
     refine inR_value (i:=1) (by rfl) (by rfl) (v:=.bool false) (w':=wr) (by simp [Go.Conc.got]; go_simp) ?_
     refine inR_ops (show Exit.then _ _ Exit.normal _ _ from ?_)
     simp only [Go.Conc.got,if_true]
     clear hch2
     go_wp2
     go_ret2
     exact HP.out
structure D.OldSt (sb:Nat) (fs:List A) (rn:List Nat) (Af:Option Addr) (cf:Nat) (Ar:Option Addr) (cr:Nat) (bf br:List Nat) (w:World):Prop where
 c0:w.cell? ⟨sb,0,none⟩=some (.slice Af fs.length cf)
 c1:w.cell? ⟨sb,1,none⟩=some (.slice Ar rn.length cr)
 fa:atomsK w [.slice Af fs.length cf] fs bf
 ra:intsK w [.slice Ar rn.length cr] rn br
theorem D.OldSt.below {sb:Nat} {fs:List A} {rn:List Nat} {Af:Option Addr} {cf:Nat} {Ar:Option Addr} {cr:Nat} {bf br:List Nat} {w w':World} (h:OldSt sb fs rn Af cf Ar cr bf br w) (hb:Below w.heap.size w w'):OldSt sb fs rn Af cf Ar cr bf br w':=
 ⟨cell_later hb h.c0,cell_later hb h.c1,atomsK_good.below h.fa hb,intsK_good.below h.ra hb⟩
theorem D.StoS.old {B sb mu mp:Nat} {Fb:Nat→Prop} {fr:List Nat} {fs:List A} {rn:List Nat} {w:World} (h:StoS B sb mu mp Fb fr fs rn w):∃ Af cf Ar cr bf br,OldSt sb fs rn Af cf Ar cr bf br w:=by
 obtain ⟨Af,cf,Lf,Ar,cr,Lr,ou,bf,S,_,_⟩:=h
 obtain ⟨b1,h1,_⟩:=S.cF.slice
 obtain ⟨b2,h2,_⟩:=S.cR.slice
 exact ⟨Af,cf,Ar,cr,b1,b2,cell_of_blk S.blk,cell_of_blk S.blk,h1,h2⟩
def D.atA (fs:List A) (q:Nat):A:=fs.getD q ⟨⟨#[]⟩,[]⟩
theorem D.atA_get {fs:List A} {q:Nat} (h:q < fs.length):atA fs q=fs[q]:=by unfold atA; simp [List.getD,h]
def D.iotaK (n k:Nat):List Nat:=List.range k ++ List.replicate (n - k) 0
theorem D.iotaK_set {n k:Nat} (h:k < n):(iotaK n k).set k k=iotaK n (k+1):=by
 unfold iotaK
 obtain ⟨m,hm⟩:∃ m,n - k=m+1:=⟨n - k - 1,by omega⟩
 rw [hm,show n - (k+1)=m by omega,List.range_succ,List.replicate_succ,List.set_append_right _ _ (by simp)]
 simp
theorem D.iotaK_len {n k:Nat} (h:k≤n):(iotaK n k).length=n:=by unfold iotaK; simp; omega
theorem D.iotaK_all (n:Nat):iotaK n n=List.range n:=by unfold iotaK; simp
theorem D.StoS.low {B sb mu mp:Nat} {Fb:Nat→Prop} {fr:List Nat} {fs:List A} {rn:List Nat} {w:World} (h:StoS B sb mu mp Fb fr fs rn w) (xs:List Nat) (hx:∀ x ∈ xs,x < B∧x ≠ sb∧x ≠ mu∧x ≠ mp):StoS B sb mu mp Fb (fr ++ xs) fs rn w:=by
 obtain ⟨Af,cf,Lf,Ar,cr,Lr,ou,bf,S,h1,h2⟩:=h
 refine ⟨Af,cf,Lf,Ar,cr,Lr,ou,bf,S,h1,fun x hm=>(List.mem_append.1 hm).elim (h2 x) fun hm=>⟨S.low (hx x hm),?_⟩⟩
 have:=(hx x hm).1
 have:=S.siz
 omega
structure D.NewSt (w:World) (sb z:Nat) (bf qs:List Nat) (fs:List A) (rn:List Nat) (k:Nat) (wr:World):Prop where
 bel:Below w.heap.size w wr
 box:wr.heap[w.heap.size]? = some (.cells #[.pointer (some ⟨sb,0,none⟩)] 80 (0,0))
 pl:∀ k q,qs[k]? = some q→wr.cell? ⟨w.heap.size+1,k,none⟩=some (.int .i64 (q:Nat))
 sto:StoS (z+3) (z+2) z (z+1) (fun _=>True) (bf ++ [w.heap.size,w.heap.size+1]) ((qs.take k).map (atA fs)) ((qs.take k).map (atL rn)) wr
theorem inOrder_any (sb:Nat) (fs:List A) (rn:List Nat) (Af:Option Addr) (cf:Nat) (Ar:Option Addr) (cr:Nat) (bf br:List Nat) (w:World) (O:OldSt sb fs rn Af cf Ar cr bf br w) (hfs:∀ f ∈ fs,FactOk f) (hnd:fs.Nodup) (hl:fs.length≤300) (hr:rn.length=fs.length):
  Calls Tryz.prog 44 #[.pointer (some ⟨sb,0,none⟩)] w fun e w'=>Below w.heap.size w w'∧∃ (z:Nat) (qs:List Nat),w.heap.size≤z∧e=.returned (.pointer (some ⟨z+2,0,none⟩))∧qs.Perm (List.range fs.length)∧
   qs.Pairwise (fun a b=>∀ (ha:a < fs.length) (hb:b < fs.length),¬ cmpA fs[b] fs[a] < 0)∧StoS (z+3) (z+2) z (z+1) (fun _=>True) bf (qs.map (atA fs)) (qs.map (atL rn)) w':=by
 have hmk:=fun w'=>run_make_row' (P:=Tryz.prog) 37 3 (.int .i64 0) 8 Tryz.underlying37 infoInt rfl .i64 .i64 fs.length (by omega) (by omega) w'
 simp only [ofL_zero] at hmk
 have HO:=η O
 have x0:=O.c0
 have lsb:sb < w.heap.size:=lt_of_cell x0
 have hA1:Below w.heap.size w (w.alloc (.cells #[.pointer (some ⟨sb,0,none⟩)] 80)):=(Below.refl _ _).alloc (Nat.le_refl _) _
 have x1:=cell_later hA1 x0
 have hA2:Below w.heap.size w ((w.alloc (.cells #[.pointer (some ⟨sb,0,none⟩)] 80)).alloc (.cells (ofL (List.replicate fs.length 0)) 3)):=hA1.alloc hA1.size _
 have HI0:Hid (Below w.heap.size w ((w.alloc (.cells #[.pointer (some ⟨sb,0,none⟩)] 80)).alloc (.cells (ofL (List.replicate fs.length 0)) 3))∧((w.alloc (.cells #[.pointer (some ⟨sb,0,none⟩)] 80)).alloc (.cells (ofL (List.replicate fs.length 0)) 3)).heap[w.heap.size]? = some (.cells #[.pointer (some ⟨sb,0,none⟩)] 80 (0,0))∧
   ((w.alloc (.cells #[.pointer (some ⟨sb,0,none⟩)] 80)).alloc (.cells (ofL (List.replicate fs.length 0)) 3)).heap[w.heap.size+1]? = some (.cells (ofL (iotaK fs.length 0)) 3 (0,0))):=η ⟨hA2,(Below.heap_alloc _ _ _ (by simp)).trans (heap_alloc_new _ _),by
  have:=heap_alloc_new (w.alloc (.cells #[.pointer (some ⟨sb,0,none⟩)] 80)) (.cells (ofL (List.replicate fs.length 0)) 3)
  simpa [iotaK] using this⟩
 have hl0:(0:Int)≤(fs.length:Int):=by omega
 have hl1:(fs.length:Int)≤300:=by omega
 clear O hA1 hA2
 go_enter Tryz.func44,Tryz.ntmps44
 go_wp2
 generalize ((w.alloc (.cells #[.pointer (some ⟨sb,0,none⟩)] 80)).alloc (.cells (ofL (List.replicate fs.length 0)) 3))=W at *
 clear x0 x1 hmk
 go_loopw [16] (fun i wr=>∃ k:Nat,k≤fs.length∧i=.int .i64 k∧Below w.heap.size w wr∧wr.heap[w.heap.size]? = some (.cells #[.pointer (some ⟨sb,0,none⟩)] 80 (0,0))∧wr.heap[w.heap.size+1]? = some (.cells (ofL (iotaK fs.length k)) 3 (0,0))) (fun i _=>fs.length - (intOf i).toNat)
 case atStart=>exact ⟨0,Nat.zero_le _,rfl,HI0.out⟩
 case round=>
  obtain ⟨k,hk,rfl,hbel,hbx,hpl⟩:=hrel
  clear HI0
  by_cases hlt:k < fs.length
  ·have hk0:(0:Int)≤(k:Int):=by omega
   have hk1:(k:Int) < (fs.length:Int):=by omega
   have y0:wr.cell? ⟨w.heap.size+1,k,none⟩=some (.int .i64 (atL (iotaK fs.length k) k:Nat)):=(cell_of_blk hpl).trans (ofL_at (by rw [iotaK_len hk]; exact hlt))
   have y1:wr.frozen? ⟨w.heap.size+1,k,none⟩=false:=frozen_of_blk hpl
   have HN:Hid (Below w.heap.size w (wr.setCell ⟨w.heap.size+1,k,none⟩ (.int .i64 (k:Nat)))∧(wr.setCell ⟨w.heap.size+1,k,none⟩ (.int .i64 (k:Nat))).heap[w.heap.size]? = some (.cells #[.pointer (some ⟨sb,0,none⟩)] 80 (0,0))∧(wr.setCell ⟨w.heap.size+1,k,none⟩ (.int .i64 (k:Nat))).heap[w.heap.size+1]? = some (.cells (ofL (iotaK fs.length (k+1))) 3 (0,0))):=η ⟨hbel.setCell (Nat.le_succ _) _,(Below.heap_setCell _ _ _ _ (by show w.heap.size ≠ w.heap.size+1; omega)).trans hbx,by
    rw [blk_setG hpl,ofL_set,iotaK_set hlt]⟩
   have HLT:=η hlt
   clear hbel hbx hpl hlt
   go_wp2
   go_roundw
   case rel=>exact ⟨k+1,HLT.out,by go_num,HN.out⟩
   case measure=>have:=HLT.out; simp [intOf]; omega
  ·have he:k=fs.length:=by omega
   have hk1:¬ (k:Int) < (fs.length:Int):=by omega
   rw [he,iotaK_all] at hpl
   have hO:=HO.out.below hbel
   have hbl:=hbel.size
   have hsort:=sortPlaces_any w.heap.size sb (w.heap.size+1) fs.length Af cf fs bf (List.range fs.length) wr (cell_of_blk hbx) hO.c0 hO.fa (fun p hp=>List.mem_range.1 hp) (fun k p hp=>by
    obtain ⟨h1,rfl⟩:=List.getElem?_eq_some_iff.1 hp
    have h2:k < fs.length:=by simpa using h1
    rw [cell_of_blk hpl,ofL_at h1]
    unfold atL
    simp [List.getD,h2]) (fun q=>frozen_of_blk hpl) (lt_of_block hpl) (by omega) (by omega) (fun hm=>by have:=atomsK_good.lt HO.out.fa _ hm; omega) (by simp; omega)
   rw [List.length_range] at hsort
   have HBX:=η hbx
   have HBEL:=η hbel
   have HPL0:=η hpl
   clear hbx hpl hbel hO
   go_wp2_with fail
   refine hsort.mono ?_
   rintro e w2 ⟨rfl,qs,q1,q2,q3,q4⟩
   have HQ1:=η q1
   have HQ2:Hid (qs.Pairwise (fun a b=>∀ (ha:a < fs.length) (hb:b < fs.length),¬ cmpA fs[b] fs[a] < 0)):=η (q2.imp fun h ha hb=>by have:=h ha hb; omega)
   have hb2:Below w.heap.size w w2:=⟨q4.os.trans HBEL.out.os,q4.tape.trans HBEL.out.tape,q4.output.trans HBEL.out.output,Nat.le_trans HBEL.out.size q4.size,fun k hk=>(q4.block k (Nat.lt_of_lt_of_le hk HBEL.out.size) (by omega)).trans (HBEL.out.block k hk)⟩
   have hbx2:=(q4.block w.heap.size (lt_of_block HBX.out) (by omega)).trans HBX.out
   have hz2:w.heap.size+1 < w2.heap.size:=Nat.lt_of_lt_of_le (lt_of_block HPL0.out) q4.size
   have hso:=storeOf_raw [] (.slice none 0 0) [] w2 ⟨none,0,rfl,Nat.le_refl _,Nat.zero_le _,fun _=>rfl,fun h=>absurd rfl h⟩ (fun f hf=>by simp at hf) List.Pairwise.nil (Nat.zero_le _)
   have HB2:=η hb2
   have HBX2:=η hbx2
   have HQ3:=η q3
   clear q1 q2 q3 q4 hsort hb2 hbx2
   go_wp2_with fail
   refine hso.mono ?_
   rintro e w3 ⟨rfl,hS⟩
   obtain ⟨hb3,hst⟩:=hS.sto (fun x hx=>by simp at hx)
   have hst2:=(hst.mono (Fb':=fun _=>True) fun _ _ _=>trivial).low (bf ++ [w.heap.size,w.heap.size+1]) fun x hx=>by
    have:x < w2.heap.size:=by
     rcases List.mem_append.1 hx with hx | hx
     ·have:=atomsK_good.lt HO.out.fa x hx; have:=HB2.out.size; omega
     ·simp at hx; omega
    omega
   have HI2:Hid (NewSt w sb w2.heap.size bf qs fs rn 0 w3):=η ⟨HB2.out.trans (hb3.mono HB2.out.size),(hb3.block _ (by omega)).trans HBX2.out,fun k q hq=>(World.cell?_of_block (hb3.block _ hz2)).trans (HQ3.out k q hq),by simpa using hst2⟩
   have hql:qs.length=fs.length:=by rw [HQ1.out.length_eq,List.length_range]
   have HZ2:Hid (w.heap.size+1 < w2.heap.size):=η (by omega)
   have HQL:=η hql
   clear hso hS hb3 hst hst2 hql HB2 HBX2 HQ3 HBX HBEL
   go_wp2
   generalize w2.heap.size=z at *
   go_loopw [30] (fun i wr=>∃ k:Nat,k≤fs.length∧i=.int .i64 k∧NewSt w sb z bf qs fs rn k wr) (fun i _=>fs.length - (intOf i).toNat)
   case atStart=>exact ⟨0,Nat.zero_le _,rfl,HI2.out⟩
   case round=>
    obtain ⟨k,hk,rfl,hI⟩:=hrel
    clear HI2
    by_cases hlt:k < fs.length
    ·have hlq:k < qs.length:=by rw [HQL.out]; exact hlt
     have hq:qs[k]? = some qs[k]:=List.getElem?_eq_getElem hlq
     have hqlt:qs[k] < fs.length:=List.mem_range.1 (HQ1.out.mem_iff.1 (List.getElem_mem hlq))
     have y0:=hI.pl k _ hq
     have y1:wr.cell? ⟨w.heap.size,0,none⟩=some (.pointer (some ⟨sb,0,none⟩)):=cell_of_blk hI.box
     have hO:=HO.out.below hI.bel
     have y2:=hO.c0
     have y3:=hO.c1
     obtain ⟨bq,oq,Ae,ce,ba,rfl,_,f0,f1,hat,hsub⟩:=atoms_el hO.fa hqlt
     obtain ⟨b7,o7,rfl,_,e7⟩:=intsK_at (k:=qs[k]) hO.ra (by rw [hr]; exact hqlt)
     have hk0:(0:Int)≤(k:Int):=by omega
     have hk1:(k:Int) < (fs.length:Int):=by omega
     have hq0:(0:Int)≤(qs[k]:Int):=by omega
     have hq1:(qs[k]:Int) < (fs.length:Int):=by omega
     have hq2:(qs[k]:Int) < (rn.length:Int):=by omega
     have hno:atA fs qs[k] ∉ (qs.take k).map (atA fs):=fun hm=>by
      obtain ⟨q',hq',e⟩:=List.mem_map.1 hm
      obtain ⟨i,hi,rfl⟩:=List.getElem_of_mem hq'
      rw [List.length_take] at hi
      rw [List.getElem_take] at e
      have hi2:i < qs.length:=by omega
      have hqi:qs[i] < fs.length:=List.mem_range.1 (HQ1.out.mem_iff.1 (List.getElem_mem hi2))
      rw [atA_get hqi,atA_get hqlt] at e
      have e1:=(List.getElem_inj hnd).1 e
      have hqn:qs.Nodup:=HQ1.out.nodup_iff.2 List.nodup_range
      have:=(List.getElem_inj hqn).1 e1
      omega
     have hfk:FactOk fs[qs[k]]:=hfs _ (List.getElem_mem hqlt)
     have hcall:=put_sto (fr:=bf ++ [w.heap.size,w.heap.size+1]) (hI.sto.later ((Below.refl wr.heap.size wr).drew)) (atomK_good.keep hat fun _ _=>rfl) (fun x hx=>List.mem_append_left _ (hsub x hx)) (fun _ _=>trivial) (fun f hf=>by
      obtain ⟨q',hq',rfl⟩:=List.mem_map.1 hf
      have hq2:q' < fs.length:=List.mem_range.1 (HQ1.out.mem_iff.1 (List.mem_of_mem_take hq'))
      rw [atA_get hq2]; exact hfs _ (List.getElem_mem hq2)) hfk (by rw [atA_get hqlt] at hno; exact hno) (by rw [List.length_map,List.length_take]; omega) (by rw [List.length_map,List.length_take]; omega) (rn[qs[k]]'(by rw [hr]; exact hqlt)) z (by omega)
     have HN:Hid (∀ w5,Below z wr.drew w5→StoS (z+3) (z+2) z (z+1) (fun _=>True) (bf ++ [w.heap.size,w.heap.size+1]) ((qs.take k).map (atA fs) ++ [fs[qs[k]]]) ((qs.take k).map (atL rn) ++ [rn[qs[k]]'(by rw [hr]; exact hqlt)]) w5→NewSt w sb z bf qs fs rn (k+1) w5):=η fun w5 h5 hs5=>by
      have hzz:=HZ2.out
      have hzw:z≤wr.heap.size:=by have:=hI.sto.lt.1; omega
      refine ⟨hI.bel.trans ((Below.refl w.heap.size wr).drew.trans (h5.mono (by omega))),(h5.block _ (by have:=lt_of_cell y1; omega)).trans hI.box,fun j q hj=>(World.cell?_of_block (h5.block (w.heap.size+1) (by omega))).trans (hI.pl j q hj),?_⟩
      rw [List.take_succ_eq_append_getElem hlq,List.map_append,List.map_append]
      show StoS (z+3) (z+2) z (z+1) _ _ (_ ++ [atA fs qs[k]]) (_ ++ [atL rn qs[k]]) w5
      rw [atA_get hqlt,show atL rn qs[k]=rn[qs[k]]'(by rw [hr]; exact hqlt) from by unfold atL; simp [List.getD,hr,hqlt]]
      exact hs5
     have HC:=η hcall
     have HLT:=η hlt
     clear hcall hat hI hO hno hfk hsub hlt hq
     have hrq:qs[k] < rn.length:=by rw [hr]; exact hqlt
     generalize rn[qs[k]]=rv at *
     generalize fs[qs[k]]=a at *
     generalize qs[k]=q at *
     clear hrq hqlt hlq
     obtain ⟨an,aargs⟩:=a
     dsimp only at *
     have lsb9:=lt_of_cell y2
     go_wp2_with fail
     go_region_law
      (go_simp; go_at_call 75; refine HC.out.mono ?_; rintro e w5 ⟨rfl,h5,hs5,_⟩; have HI5:=η (HN.out w5 h5 hs5); clear h5 hs5)
     all_goals
      clear HC HN y0 y1 y2 y3 f0 f1 e7
      go_wp2
      go_roundw
      case rel=>exact ⟨k+1,HLT.out,by go_num,HI5.out⟩
      case measure=>have:=HLT.out; simp [intOf]; omega
    ·have he:k=fs.length:=by omega
     have hk1:¬ (k:Int) < (fs.length:Int):=by omega
     have HD:Hid (Below w.heap.size w wr∧StoS (z+3) (z+2) z (z+1) (fun _=>True) bf (qs.map (atA fs)) (qs.map (atL rn)) wr):=η ⟨hI.bel,by
      have h1:=hI.sto
      rw [List.take_of_length_le (by rw [HQL.out]; omega)] at h1
      exact h1.sub fun x hx=>List.mem_append_left _ hx⟩
     have hz9:=HZ2.out
     clear hI
     go_wp2
     go_ret
     exact ⟨HD.out.1,z,by omega,rfl,qs,HQ1.out,HQ2.out,HD.out.2⟩
theorem D.may_ok (rs:List Ru) (xs:List A):evalOk rs xs=(decide (xs.length≤40) && factsFit rs xs):=by
 unfold evalOk factsFit okB factsOk
 by_cases h1:xs.length≤40
 ·have h2:xs.length≤300:=by omega
  rw [decide_eq_true h1,decide_eq_true h2]
  simp
 ·rw [decide_eq_false h1]
  simp
theorem mayBeGiven_any (rs:List Ru) (xs:List A) (v1 v2:Value) (b1 b2:List Nat) (w:World) (h:rulesK w [v1] rs b1) (h2:atomsK w [v2] xs b2) (hg:LaidE w):
  Calls Tryz.prog 48 #[v1,v2] w fun e w'=>e=.returned (.bool (evalOk rs xs))∧Below w.heap.size w w':=by
 have c1:=factsFit_impl rs xs v1 v2 b1 b2 w h h2 hg
 have HE:=η (may_ok rs xs)
 obtain ⟨Ad2,cap2,rfl,_,_⟩:=sliceK_form h2
 clear h h2 hg
 generalize factsFit rs xs=q at *
 by_cases hl:(xs.length:Int)≤40
 ·have HE2:Hid (q=evalOk rs xs):=η (by rw [HE.out,decide_eq_true (by omega)]; simp)
  go_enter Tryz.func48,Tryz.ntmps48
  go_wp2_with (go_at_call 80; refine c1.mono ?_; rintro e w1 ⟨rfl,hb1⟩)
  go_ret
  exact ⟨ret_bool HE2.out,hb1⟩
 ·have HE2:Hid (false=evalOk rs xs):=η (by rw [HE.out,decide_eq_false (by omega)]; simp)
  go_enter Tryz.func48,Tryz.ntmps48
  go_wp2
  go_ret
  exact ⟨ret_bool HE2.out,(Below.refl w.heap.size w)⟩
structure D.OwnInv (w:World) (b1:List Nat) (v:Value) (L:List Value) (xs:List Ru) (wr:World):Prop where
 coll:∃ bs,Coll 3 ruleK (w.heap.size+1) 71 wr v L xs bs∧∀ b ∈ bs,b ∈ b1
 bel:Below w.heap.size w wr
theorem D.OwnInv.below {w wr w':World} {b1:List Nat} {v:Value} {L:List Value} {xs:List Ru} (h:OwnInv w b1 v L xs wr) (hb:Below wr.heap.size wr w'):OwnInv w b1 v L xs w':=
 ⟨by obtain ⟨bs,hc,h1⟩:=h.coll; exact ⟨bs,hc.below ruleK_good hb,h1⟩,h.bel.trans (hb.mono h.bel.size)⟩
def D.ownL (rs:List Ru) (L:Nat):List Ru:=rs.filter fun r=>decide (nameLev rs r.head.name=L)
theorem D.own_at (rs:List Ru) (L:Nat):OwnAt rs L (ownL rs L):=fun r=>by unfold ownL; rw [List.mem_filter,decide_eq_true_iff]
theorem D.lev_get {rs:List Ru} (H:RsOk rs) {k:Nat} (hk:k < rs.length) (hk2:k < (levelsL rs).length):(levelsL rs)[k]=nameLev rs rs[k].head.name:=by
 have h2:=(closed_sol H.cyc).2 k hk
 have e1:ruleAt rs k=rs[k]:=by unfold ruleAt; simp [List.getD,hk]
 have e2:atL (levelsL rs) k=(levelsL rs)[k]:=by unfold atL; simp [List.getD,hk2]
 rw [← e2,h2,e1]
structure D.WhSt (rs:List Ru) (xs:List A) (L z:Nat) (own:List Ru) (fr:List Nat) (w W:World) (next:List Ru) (fs:List A) (rn:List Nat) (number:Nat) (wr:World):Prop where
 mid:MidSt rs xs L own next fs rn number
 sub:∀ q ∈ next,q ∈ own
 sto:StoS (z+3) (z+2) z (z+1) (fun _=>True) fr fs rn wr
 bel:Below w.heap.size w wr
 kep:∀ x ∈ fr,wr.heap[x]? = W.heap[x]?
theorem D.touch_eq {own:List Ru} {new:List A} {Lm:List ByteArray} (h:∀ s,s ∈ Lm ↔ ∃ t ∈ new,t.name=s):(own.filter fun r=>r.body.any (touB Lm))=touchL own new:=by
 classical
 unfold touchL
 refine List.filter_congr fun q _=>?_
 refine congrArg (fun f=>q.body.any f) (funext fun p=>?_)
 unfold touB
 rw [decide_eq_decide.2 (h p.atom.name)]
theorem D.touch_none {own:List Ru} {Lm:List ByteArray} (h:Lm = []):(own.filter fun r=>r.body.any (touB Lm)) = []:=by
 subst h
 rw [List.filter_eq_nil_iff]
 intro q _ hq
 obtain ⟨p,_,hp⟩:=List.any_eq_true.1 hq
 unfold touB at hp
 simp at hp
def D.AllPost (rs:List Ru) (xs:List A) (w:World) (e:Ending) (w':World):Prop:=
 Below w.heap.size w w'∧((evalOk rs xs=true∧(runR rs xs).2=true∧∃ z fr fs rn,w.heap.size≤z∧e=.returned (.tuple #[.pointer (some ⟨z+2,0,none⟩),.bool true])∧StoS (z+3) (z+2) z (z+1) (fun _=>True) fr fs rn w'∧Sim fs rn (runR rs xs).1∧(∀ x ∈ fs,FactOk x)∧fs.length≤300) ∨
  ((evalOk rs xs=true→(runR rs xs).2=false)∧e=.returned (.tuple #[.pointer none,.bool false])))
theorem storeAll_any (rs:List Ru) (xs:List A) (v1 v2:Value) (b1 b2:List Nat) (w:World) (h:rulesK w [v1] rs b1) (h2:atomsK w [v2] xs b2) (hg:LaidE w):
  Calls Tryz.prog 43 #[v1,v2] w (AllPost rs xs w):=by
 have c1:=mayBeGiven_any rs xs v1 v2 b1 b2 w h h2 hg
 obtain ⟨Ad,cap,rfl,hlc,hlm⟩:=sliceK_form h
 obtain ⟨Ad2,cap2,rfl,_,_⟩:=sliceK_form h2
 have hlmm:=nat_ge_max (Nat.le_trans hlc hlm)
 have HH:=η (And.intro h h2)
 obtain ⟨i0,hi,hz0,hz1,hz2⟩:=info_parts infoRuleT
 clear h h2 hg hlc hlm
 cases hf:evalOk rs xs with
 | false=>
  have HP:Hid (∀ w',Below w.heap.size w w'→AllPost rs xs w (.returned (.tuple #[.pointer none,.bool false])) w'):=η fun w' hb=>⟨hb,.inr ⟨fun h=>absurd (hf.symm.trans h) (by decide),rfl⟩⟩
  rw [hf] at c1
  clear hf
  go_enter Tryz.func43,Tryz.ntmps43
  go_wp2_with fail
  refine c1.mono ?_
  rintro e w1 ⟨rfl,hb1⟩
  have HB:=η hb1
  clear c1 hb1
  go_wp2
  go_ret2
  exact HP.out _ HB.out
 | true=>
  have hK:=evalOk_run hf
  have HF:=η hf
  rw [hf] at c1
  clear hf
  go_enter Tryz.func43,Tryz.ntmps43
  go_wp2_with fail
  refine c1.mono ?_
  rintro e w1 ⟨rfl,hb1⟩
  have HB1:=η hb1
  clear c1 hb1
  have hR:=rs_ok ((fine_iff rs).2 hK.fine)
  have hfok:∀ f ∈ xs,FactOk f:=fun f hf=>isFact_ok (hK.facts f hf)
  have c2:=storeOf_raw xs _ b2 w1 (atomsK_good.below HH.out.2 HB1.out) hfok (asc_nodup hK.asc) (by have:=hK.n; omega)
  go_wp2_with fail
  refine c2.mono ?_
  rintro e w2 ⟨rfl,hS⟩
  obtain ⟨hb2,hst⟩:=hS.sto (fun x hx=>Nat.lt_of_lt_of_le (atomsK_good.lt HH.out.2 x hx) HB1.out.size)
  have HB2:=η (HB1.out.trans (hb2.mono HB1.out.size))
  have HST:=η hst
  clear hS hst hb2 c2
  have c3:=strataOf_any rs _ b1 w2 (rulesK_good.below HH.out.1 HB2.out) hK.m hK.ok
  go_wp2_with fail
  refine c3.mono ?_
  rintro e w3 ⟨hb3,hcase⟩
  clear c3
  rcases hcase with ⟨hcyc,_⟩ | ⟨_,v5,b5,rfl,hstr,hnew⟩
  ·have:=hK.fine.no
   rw [this] at hcyc; cases hcyc
  ·obtain ⟨A5,c5,rfl,_,_⟩:=sliceK_form hstr
   have hsto:StoS (w1.heap.size+3) (w1.heap.size+2) w1.heap.size (w1.heap.size+1) (fun _=>True) b5 xs (List.replicate xs.length 0) w3:=by
    have:=(HST.out.mono (Fb':=fun _=>True) fun _ _ _=>trivial).more hb3 b5 fun x hx=>⟨(hnew.own x hx).1,hnew.lt hx⟩
    simpa using this
   have HI0:Hid (AllSt rs xs 0 xs (List.replicate xs.length 0) 0):=η (all_start hK.asc hfok (by have:=hK.n; omega))
   have HS0:=η hsto
   have HB3:=η (HB2.out.trans (hb3.mono HB2.out.size))
   have HSTR:=η hstr
   have HL5:Hid ((levelsL rs).length=rs.length):=η (levels_len rs)
   clear hsto hstr hnew hb3 HST
   have HRS:=η hR
   have HK:=η hK
   have HZ1:=η HB1.out.size
   have hlen8:rs.length≤8:=hK.m
   clear hfok hR hK
   go_wp2
   generalize w1.heap.size=z at *
   clear HB1 HB2
   go_loopw [9,30] (fun v9 i wr=>∃ (L:Nat) (fs:List A) (rn:List Nat) (number:Nat),L≤rs.length∧i=.int .i64 L∧v9=.int .i64 number∧AllSt rs xs L fs rn number∧StoS (z+3) (z+2) z (z+1) (fun _=>True) b5 fs rn wr∧Below w.heap.size w wr∧∀ x ∈ b5,wr.heap[x]? = w3.heap[x]?) (fun _ i _=>rs.length - (intOf i).toNat)
   case atStart=>exact ⟨0,xs,_,0,Nat.zero_le _,rfl,rfl,HI0.out,HS0.out,HB3.out,fun x _=>rfl⟩
   case round=>
    obtain ⟨L,fs,rn,number,hL,rfl,rfl,hall,hsto,hbel,hkep⟩:=hrel
    clear HI0 HS0 HB3
    have HAL:=η hall
    have HSTO:=η hsto
    have HBEL:=η hbel
    have HKEP:=η hkep
    by_cases hlt:L < rs.length
    ·have HV0:Hid (OwnInv wr b1 (.slice none 0 0) [] [] wr):=η ⟨⟨[],Coll.nil _,fun b hb=>by simp at hb⟩,Below.refl _ _⟩
     have hL0:(0:Int)≤(L:Int):=by omega
     have hL1:(L:Int) < (rs.length:Int):=by omega
     have HLT:=η hlt
     clear hall hsto hbel hkep
     obtain ⟨W0,hW0⟩:∃ W0,W0=wr:=⟨_,rfl⟩
     subst hW0
     go_wp2
     go_loopw [11,35] (fun v i wr2=>∃ (k:Nat) (Av:Option Addr) (cp:Nat) (M:List Value) (ys:List Ru),k≤rs.length∧i=.int .i64 k∧v=.slice Av ys.length cp∧ys=(rs.take k).filter (fun r=>decide (nameLev rs r.head.name=L))∧OwnInv W0 b1 (.slice Av ys.length cp) M ys wr2) (fun _ i _=>rs.length - (intOf i).toNat)
     case atStart=>exact ⟨0,none,0,[],[],Nat.zero_le _,rfl,rfl,rfl,HV0.out⟩
     case round=>
      obtain ⟨k,Av,cp,M,ys,hk,rfl,rfl,hys,hV⟩:=hrel
      clear HV0
      have HY:=η hys
      have HLY:Hid (ys.length≤1000000):=η (by
       rw [hys]
       refine Nat.le_trans (List.length_filter_le _ _) ?_
       rw [List.length_take]; omega)
      clear hys
      have hB:=HBEL.out.trans (hV.bel.mono HBEL.out.size)
      by_cases hlt:k < rs.length
      ·obtain ⟨b,o,Ae,ce,Af,cf,bk,rfl,_,d0,d1,d2,hel,hsub⟩:=rules_el HH.out.1 hlt
       replace d0:=cell_later hB d0
       replace d1:=cell_later hB d1
       replace d2:=cell_later hB d2
       have hk5:k < (levelsL rs).length:=by rw [HL5.out]; exact hlt
       obtain ⟨b7,o7,rfl,hb7,e7⟩:=intsK_at HSTR.out hk5
       have e8:wr.cell? ⟨b7,o7+k,none⟩=some (.int .i64 ((levelsL rs)[k]:Nat)):=(World.cell?_of_block ((hV.bel.block b7 (HSTO.out.lt.2.2 _ hb7)).trans (HKEP.out _ hb7))).trans e7
       have hk0:(0:Int)≤(k:Int):=by omega
       have hk1:(k:Int) < (rs.length:Int):=by omega
       have hk2:(k:Int) < ((levelsL rs).length:Int):=by omega
       have hlq:=lev_get HRS.out hlt hk5
       have hA:Below wr.heap.size wr (wr.alloc (.cells #[.string rs[k].head.name,.slice Ae rs[k].head.args.length ce,.slice Af rs[k].body.length cf] 71)):=(Below.refl _ _).alloc (Nat.le_refl _) _
       have HV1:=η (hV.below hA)
       have HEL:=η (ruleK_good.below (ruleK_good.below hel hB) hA)
       have HSN:=η (filter_step (fun r:Ru=>decide (nameLev rs r.head.name=L)) rs k hlt)
       have HBK:Hid (∀ c ∈ bk,c < W0.heap.size):=η fun c hc=>Nat.lt_of_lt_of_le (ruleK_good.lt hel c hc) HBEL.out.size
       have HSUB:=η hsub
       have hwb:W0.heap.size≤wr.heap.size:=hV.bel.size
       have le8:=lt_of_cell e8
       clear hel hsub hV hA hB e7
       generalize (levelsL rs)[k]=lv at *
       generalize rs[k]=r at *
       obtain ⟨⟨nm,args⟩,body⟩:=r
       dsimp only at *
       have HLT2:=η hlt
       clear hlt hk5
       by_cases hq:lv=L
       ·have hqb:((lv:Int) == (L:Int))=true:=beq_iff_eq.2 (by omega)
        have HQ:Hid ((rs.take (k+1)).filter (fun r=>decide (nameLev rs r.head.name=L))=ys ++ [(⟨⟨nm,args⟩,body⟩:Ru)]):=η (by rw [HSN.out,HY.out,if_pos (by simp [← hlq,hq])])
        have hA2:Below (wr.alloc (.cells #[.string nm,.slice Ae args.length ce,.slice Af body.length cf] 71)).heap.size (wr.alloc (.cells #[.string nm,.slice Ae args.length ce,.slice Af body.length cf] 71)) ((wr.alloc (.cells #[.string nm,.slice Ae args.length ce,.slice Af body.length cf] 71)).alloc (.cells #[.string nm,.slice Ae args.length ce,.slice Af body.length cf] 71)):=(Below.refl _ _).alloc (Nat.le_refl _) _
        obtain ⟨bs0,hC0,hC1⟩:=(HV1.out.below hA2).coll
        have HC:=η hC0
        have HC1:=η hC1
        have HB:=η (HV1.out.below hA2).bel
        have HR:Hid (Rowed 3 ruleK ((wr.alloc (.cells #[.string nm,.slice Ae args.length ce,.slice Af body.length cf] 71)).alloc (.cells #[.string nm,.slice Ae args.length ce,.slice Af body.length cf] 71)) [.string nm,.slice Ae args.length ce,.slice Af body.length cf] [(⟨⟨nm,args⟩,body⟩:Ru)] bk):=η (Rowed.one_el ruleK_ones (ruleK_good.below HEL.out hA2))
        have HL:Hid (Lies ((wr.alloc (.cells #[.string nm,.slice Ae args.length ce,.slice Af body.length cf] 71)).alloc (.cells #[.string nm,.slice Ae args.length ce,.slice Af body.length cf] 71)) (some ⟨wr.heap.size+1,0,none⟩) [.string nm,.slice Ae args.length ce,.slice Af body.length cf]):=η (by
         have:=lies_block (heap_alloc_new (wr.alloc (.cells #[.string nm,.slice Ae args.length ce,.slice Af body.length cf] 71)) (.cells #[.string nm,.slice Ae args.length ce,.slice Af body.length cf] 71))
         simpa using this)
        have HF:Hid (∀ c,c < W0.heap.size+1→(Value.slice Av ys.length cp).ownBlock ≠ some c):=η fun c hc=>own_block_ge hC0.own hc
        have hbase:W0.heap.size+1≤((wr.alloc (.cells #[.string nm,.slice Ae args.length ce,.slice Af body.length cf] 71)).alloc (.cells #[.string nm,.slice Ae args.length ce,.slice Af body.length cf] 71)).heap.size:=by simp; omega
        have HBA:=η hbase
        clear hC0 hC1 hA2 hbase hlq hq
        go_wp2_with (at_builtin; refine wpList_coll rfl _ _ _ rfl (W0.heap.size+1) 71 i0 (.agg #[.string ⟨#[]⟩,.slice none 0 0,.slice none 0 0]) 3 64 Tryz.underlying29 hi hz0 hz1 hz2 rfl (by omega) ruleK_good (.slice Av ys.length cp) ys.length _ _ _ rfl HC.out rfl (some ⟨wr.heap.size+1,0,none⟩) 1 1 _ [⟨⟨nm,args⟩,body⟩] _ rfl HR.out rfl HL.out (fun c hc=>HF.out c (by have:=HBK.out c hc; omega)) (by have:=HLY.out; unfold maxLen; omega) (by have:=HLY.out; omega) W0 W0.heap.size HB.out (Nat.le_succ _) HBA.out ?_; intro A9 cp9 w9 hC9 hB9 hS9 hg9)
        have HV3:Hid (OwnInv W0 b1 (.slice A9 (ys ++ [(⟨⟨nm,args⟩,body⟩:Ru)]).length cp9) (M ++ [.string nm,.slice Ae args.length ce,.slice Af body.length cf]) (ys ++ [(⟨⟨nm,args⟩,body⟩:Ru)]) w9):=η ⟨⟨_,by rw [List.length_append]; exact hC9,fun b hb=>(List.mem_append.1 hb).elim (HC1.out b) (HSUB.out b)⟩,hB9⟩
        have hlx:ys.length+1=(ys ++ [(⟨⟨nm,args⟩,body⟩:Ru)]).length:=by simp
        rw [hlx]
        clear hC9 hB9 hS9 hg9 HC HB HR HL HF hlx
        go_roundw
        case rel=>exact ⟨k+1,_,_,_,_,HLT2.out,by go_num,rfl,HQ.out.symm,HV3.out⟩
        case measure=>have:=HLT2.out; simp [intOf]; omega
       ·have hqb:((lv:Int) == (L:Int))=false:=by
         rw [beq_eq_false_iff_ne]; omega
        have HQ:Hid ((rs.take (k+1)).filter (fun r=>decide (nameLev rs r.head.name=L))=ys):=η (by rw [HSN.out,HY.out,if_neg (by simp [← hlq,hq])])
        clear hlq hq
        go_wp2
        go_roundw
        case rel=>exact ⟨k+1,_,_,_,_,HLT2.out,by go_num,rfl,HQ.out.symm,HV1.out⟩
        case measure=>have:=HLT2.out; simp [intOf]; omega
      ·have hkl:k=rs.length:=by omega
       have hk1:¬ (k:Int) < (rs.length:Int):=by omega
       have HYO:Hid (ys=ownL rs L):=η (by rw [HY.out,List.take_of_length_le (Nat.le_of_eq hkl.symm)]; rfl)
       obtain ⟨bs0,hC0,hC1⟩:=hV.coll
       obtain ⟨b6,hs6,hb6⟩:=hC0.slice
       obtain ⟨fr1,hfr⟩:∃ fr1,fr1=b5 ++ b6.filter (fun b=>decide (W0.heap.size≤b)):=⟨_,rfl⟩
       have hsto1:StoS (z+3) (z+2) z (z+1) (fun _=>True) fr1 fs rn wr:=hfr ▸ HSTO.out.more hV.bel _ fun x hx=>by
        obtain ⟨h1,h2⟩:=List.mem_filter.1 hx
        exact ⟨of_decide_eq_true h2,rulesK_good.lt hs6 x h1⟩
       have HOWN:Hid (∀ w',Below w.heap.size w w'→(∀ x ∈ fr1,w'.heap[x]? = wr.heap[x]?)→rulesK w' [.slice Av ys.length cp] ys b6):=η fun w' h1 h2=>rulesK_good.keep hs6 fun b hb=>by
        by_cases hbb:W0.heap.size≤b
        ·exact h2 b (hfr ▸ List.mem_append_right _ (List.mem_filter.2 ⟨hb,decide_eq_true hbb⟩))
        ·rcases hb6 b hb with h3 | h3
         ·omega
         ·have h4:=rulesK_good.lt HH.out.1 b (hC1 b h3)
          exact (h1.block b h4).trans (hB.block b h4).symm
       have HFR:Hid (∀ x ∈ b5,x ∈ fr1):=η fun x hx=>hfr ▸ List.mem_append_left _ hx
       have HKW:Hid (∀ x ∈ b5,wr.heap[x]? = w3.heap[x]?):=η fun x hx=>(hV.bel.block x (HSTO.out.lt.2.2 x hx)).trans (HKEP.out x hx)
       have HWB:=η hB
       have hmid:MidSt rs xs L ys ys fs rn number:=HAL.out.enter
       have HW0:Hid (WhSt rs xs L z ys fr1 w wr ys fs rn number wr):=η ⟨hmid,fun q hq=>hq,hsto1,hB,fun x _=>rfl⟩
       have HR0:Hid (rulesK wr [.slice Av ys.length cp] ys b6):=η hs6
       clear hV hC0 hs6 hb6 hfr hsto1 hB hmid HY hC1
       obtain ⟨W9,hW9⟩:∃ W9,W9=wr:=⟨_,rfl⟩
       subst hW9
       go_wp2
       go_loopg [9,14] 1000 (fun gg v9 v14 wr4=>∃ (next:List Ru) (A14:Option Addr) (c14:Nat) (b14:List Nat) (fs4:List A) (rn4:List Nat) (nu4:Nat),v9=.int .i64 nu4∧v14=.slice A14 next.length c14∧2 * (300 - fs4.length)+(if next = [] then 0 else 1)≤gg∧Aside (WhSt rs xs L z ys fr1 w W9 next fs4 rn4 nu4 wr4)∧Aside (rulesK wr4 [.slice A14 next.length c14] next b14))
       case atStart=>exact ⟨ys,Av,cp,b6,fs,rn,number,rfl,rfl,by split <;> omega,HW0.out,HR0.out⟩
       case round=>
        obtain ⟨next,A14,c14,b14,fs4,rn4,nu4,rfl,rfl,hgg,hwh,hrk⟩:=hrel
        clear HW0 HR0
        by_cases hne:next = []
        ·subst hne
         have HD:Hid (AllSt rs xs (L+1) fs4 rn4 nu4∧StoS (z+3) (z+2) z (z+1) (fun _=>True) b5 fs4 rn4 wr∧Below w.heap.size w wr∧∀ x ∈ b5,wr.heap[x]? = w3.heap[x]?):=η ⟨hwh.out.mid.done HRS.out (Nat.le_of_lt HLT.out) (HYO.out ▸ own_at rs L),hwh.out.sto.sub HFR.out,hwh.out.bel,fun x hx=>(hwh.out.kep x (HFR.out x hx)).trans (HKW.out x hx)⟩
         clear hwh hrk hgg
         go_wp2
         go_roundw
         case rel=>exact ⟨L+1,fs4,rn4,nu4,HLT.out,by go_num,rfl,HD.out⟩
         case measure=>have:=HLT.out; simp [intOf]; omega
        ·have hpos:0 < next.length:=List.length_pos_iff.2 hne
         rw [if_neg hne] at hgg
         have hpi:(0:Int) < (next.length:Int):=by omega
         obtain ⟨hf300,hrl,hnu,hfacts⟩:=hwh.out.mid.few
         have hown9:OwnAt rs L ys:=HYO.out ▸ own_at rs L
         have hcall:=round_any (z+3) (z+2) z (z+1) (fun _=>True) (fun _ _=>trivial) fr1 fs4 rn4 next _ b14 (nu4+1) w.heap.size wr hwh.out.sto hrk.out hfacts hf300 (by omega) (fun r hr=>HRS.out.fol r ((hown9 r).1 (hwh.out.sub r hr)).1) (by have:=HZ1.out; omega)
         have hnu0:(0:Int)≤(nu4:Int):=by omega
         have hnu1:(nu4:Int)≤300:=by omega
         have ecast:((nu4+1:Nat):Int)=(nu4:Int)+1:=by omega
         rw [ecast] at hcall
         clear ecast
         have HG:=η hgg
         have HNE:=η hne
         have HWH:=η hwh.out
         have HO9:=η hown9
         clear hgg hne hwh hrk hfacts hown9 hrl
         go_wp2_with fail
         refine hcall.mono ?_
         rintro e w5 ⟨hb5,hcase⟩
         clear hcall
         rcases hcase with ⟨new,mc,n,Lm,fm,rfl,hn1,hn2,hn3,hn4,hs5,hk5,hm5,hmc,hl5,hf5⟩ | ⟨rfl,new,hn1,hn2,hn3⟩
         ·have hbel5:=HWH.out.bel.trans hb5
          have hkep5:∀ x ∈ fr1,w5.heap[x]? = W9.heap[x]?:=fun x hx=>(hk5 x hx).trans (HWH.out.kep x hx)
          have hmid:=HWH.out.mid.round HRS.out (Nat.le_of_lt HLT.out) HO9.out HNE.out hn1 hn3 hn4
          have HT:=η (touched_any mc n Lm fm ys (.slice Av ys.length cp) b6 w5 (HOWN.out w5 hbel5 hkep5) hm5 hf5 HLY.out)
          have HM5:=η hm5
          by_cases hz:new = []
          ·have hLm:Lm = []:=List.eq_nil_iff_forall_not_mem.2 fun s hs=>by
            obtain ⟨t,ht,_⟩:=(hl5 s).1 hs
            rw [hz] at ht; simp at ht
           have hs5':StoS (z+3) (z+2) z (z+1) (fun _=>True) fr1 fs4 rn4 w5:=by
            rw [hz] at hs5; simpa using hs5
           have HN:Hid ((ys.filter fun r=>r.body.any (touB Lm)) = []∧∀ w6,Below w5.heap.size w5 w6→WhSt rs xs L z ys fr1 w W9 (ys.filter fun r=>r.body.any (touB Lm)) fs4 rn4 nu4 w6):=η ⟨touch_none hLm,fun w6 hb6=>by
            rw [touch_none hLm]
            exact ⟨hmid.1 hz,fun q hq=>by simp at hq,hs5'.later hb6,hbel5.trans (hb6.mono hbel5.size),fun x hx=>(hb6.block x (hs5'.lt.2.2 x hx)).trans (hkep5 x hx)⟩⟩
           have hl0:(Lm.length:Int)=0:=by rw [hLm]; rfl
           clear hb5 hs5 hs5' hk5 hm5 hl5 hf5 hbel5 hkep5 hmid hLm hn1 hn2 hn3 hn4
           go_wp2_with (at_len; refine wpList_mapf_len _ rfl _ _ rfl Tryz.underlying85 _ _ Lm _ rfl HM5.out ?_)
           go_wp2_with fail
           refine HT.out.mono ?_
           rintro e w6 ⟨hb6,A15,c15,b15,rfl,hr15⟩
           have HW6:=η (HN.out.2 w6 hb6)
           have HR6:=η hr15
           have HN1:=η HN.out.1
           clear hb6 hr15 HT HN HM5
           go_wp2
           go_roundg (2 * (300 - fs4.length))
           case measure=>have:=HG.out; omega
           case rel=>exact ⟨_,_,_,_,fs4,rn4,nu4,rfl,rfl,by rw [if_pos HN1.out]; omega,HW6.out,HR6.out⟩
          ·have hpn:0 < new.length:=List.length_pos_iff.2 hz
           have hLm:Lm ≠ []:=fun e=>by
            obtain ⟨t,ht⟩:=List.exists_mem_of_ne_nil _ hz
            have:=(hl5 t.name).2 ⟨t,ht,rfl⟩
            rw [e] at this; simp at this
           have hl0:(0:Int) < (Lm.length:Int):=by have:=List.length_pos_iff.2 hLm; omega
           have HN:Hid (∀ w6,Below w5.heap.size w5 w6→WhSt rs xs L z ys fr1 w W9 (ys.filter fun r=>r.body.any (touB Lm)) (fs4 ++ new) (rn4 ++ List.replicate new.length (nu4+1)) (nu4+1) w6):=η fun w6 hb6=>by
            have h1:=hmid.2 hz
            rw [← touch_eq hl5] at h1
            exact ⟨h1,fun q hq=>(List.mem_filter.1 hq).1,hs5.later hb6,hbel5.trans (hb6.mono hbel5.size),fun x hx=>(hb6.block x (hs5.lt.2.2 x hx)).trans (hkep5 x hx)⟩
           have HG2:Hid (2 * (300 - (fs4 ++ new).length)+1 < 2 * (300 - fs4.length)+1):=η (by rw [List.length_append]; omega)
           clear hb5 hs5 hk5 hm5 hl5 hf5 hbel5 hkep5 hmid hLm hn1 hn2 hn3 hn4
           go_wp2_with (at_len; refine wpList_mapf_len _ rfl _ _ rfl Tryz.underlying85 _ _ Lm _ rfl HM5.out ?_)
           go_wp2_with fail
           refine HT.out.mono ?_
           rintro e w6 ⟨hb6,A15,c15,b15,rfl,hr15⟩
           have HW6:=η (HN.out w6 hb6)
           have HR6:=η hr15
           clear hb6 hr15 HT HN HM5
           go_wp2
           go_roundg (2 * (300 - (fs4 ++ new).length)+1)
           case measure=>have:=HG.out; have:=HG2.out; omega
           case rel=>exact ⟨_,_,_,_,fs4 ++ new,_,nu4+1,by go_num,rfl,by split <;> omega,HW6.out,HR6.out⟩
         ·have HP:Hid (AllPost rs xs w (.returned (.tuple #[.pointer none,.bool false])) w5):=η ⟨HWH.out.bel.trans hb5,.inr ⟨fun _=>HWH.out.mid.over HRS.out (Nat.le_of_lt HLT.out) HO9.out HNE.out hn1 hn2 hn3,rfl⟩⟩
          clear hb5 hn1 hn2 hn3
          go_wp2
          go_ret2
          exact HP.out
    ·have hLe:L=rs.length:=by omega
     have hL1:¬ (L:Int) < (rs.length:Int):=by omega
     have HP:Hid (AllPost rs xs w (.returned (.tuple #[.pointer (some ⟨z+2,0,none⟩),.bool true])) wr):=η (by
      rw [hLe] at hall
      obtain ⟨h1,h2,h3,h4,h5⟩:=hall.fin HRS.out
      exact ⟨hbel,.inl ⟨HF.out,h1,z,b5,fs,rn,HZ1.out,rfl,hsto,h2,h4,h5⟩⟩)
     clear hall hsto hbel hkep
     go_wp2
     go_ret2
     exact HP.out
theorem D.run_facts {rs:List Ru} {xs:List A} (h:evalOk rs xs=true) (h2:(runR rs xs).2=true):RdOk (runR rs xs).1∧(∀ x ∈ (runR rs xs).1.1,FactOk x)∧(runR rs xs).1.1.length≤300∧∀ t,t ∈ (runR rs xs).1.1 ↔ allS rs (fun x=>x ∈ xs) t:=by
 have hK:=evalOk_run h
 rcases run_sets (rs_ok ((fine_iff rs).2 hK.fine)) hK.asc (fun f hf=>isFact_ok (hK.facts f hf)) (by have:=hK.n; omega) with ⟨_,h3,h4,h5,h6⟩ | ⟨h3,_⟩
 ·exact ⟨h4,h5,h3,h6⟩
 ·rw [h2] at h3; cases h3
end Go.Proofs.YtiidmgchadagbaaGreatDoor
namespace Go.Proofs.YtiidmgchadagbaaGreatDoor
open Go.RowKit D
theorem D.range_atA (fs:List A):(List.range fs.length).map (atA fs)=fs:=by
 apply List.ext_getElem
 ·simp
 ·intro i h1 h2
  simp only [List.getElem_map,List.getElem_range]
  exact atA_get h2
theorem D.atL_get {rn:List Nat} {q:Nat} (h:q < rn.length):atL rn q=rn[q]:=by unfold atL; simp [List.getD,h]
theorem D.range_zip (fs:List A) (rn:List Nat) (h:rn.length=fs.length):(List.range fs.length).map (fun q=>(atA fs q,atL rn q))=fs.zip rn:=by
 apply List.ext_getElem
 ·simp [h]
 ·intro i h1 h2
  simp only [List.getElem_map,List.getElem_range,List.getElem_zip]
  rw [List.length_zip] at h2
  rw [atA_get (by omega),atL_get (by omega)]
theorem D.sim_sorted {fs:List A} {rn:List Nat} {r:Rd} (hs:Sim fs rn r) (hr:RdOk r) (hfok:∀ f ∈ fs,FactOk f) (hrok:∀ f ∈ r.1,FactOk f) {qs:List Nat} (hq:qs.Perm (List.range fs.length)) (hp:qs.Pairwise (fun a b=>∀ (ha:a < fs.length) (hb:b < fs.length),¬ cmpA fs[b] fs[a] < 0)):
  qs.map (atA fs)=r.1∧qs.map (atL rn)=r.2:=by
 have hql:∀ q ∈ qs,q < fs.length:=fun q h=>List.mem_range.1 (hq.mem_iff.1 h)
 have hpm:(qs.map (atA fs)).Perm fs:=by
  have:=hq.map (atA fs)
  rwa [range_atA] at this
 have hrp:=hs.fst hr
 have hok1:∀ t ∈ qs.map (atA fs),FactOk t:=fun t ht=>hfok t (hpm.mem_iff.1 ht)
 have hsrt:(qs.map (atA fs)).Pairwise (fun a b=>¬ cmpA b a < 0):=by
  rw [List.pairwise_map]
  refine (List.Pairwise.and_mem.1 hp).imp fun {a b} ⟨ha,hb,h⟩=>?_
  rw [atA_get (hql a ha),atA_get (hql b hb)]
  exact h _ _
 have e1:qs.map (atA fs)=r.1:=asc_same (asc_sorted hok1 ((hpm.trans hrp).nodup_iff.2 (asc_nodup hr.asc)) hsrt) hr.asc hok1 hrok fun t=>by rw [hpm.mem_iff,hrp.mem_iff]
 refine ⟨e1,?_⟩
 have hz:(qs.map fun q=>(atA fs q,atL rn q)).Perm (r.1.zip r.2):=by
  have:=hq.map fun q=>(atA fs q,atL rn q)
  rw [range_zip fs rn hs.len] at this
  exact this.trans hs.perm
 have hlen:qs.length=r.1.length:=by rw [← e1,List.length_map]
 have hl2:=hr.len
 have hnd:=asc_nodup hr.asc
 apply List.ext_getElem
 ·rw [List.length_map]; omega
 ·intro i h1 h2
  have hi:i < qs.length:=by simpa using h1
  have hm:(atA fs qs[i],atL rn qs[i]) ∈ r.1.zip r.2:=hz.mem_iff.1 (List.mem_map.2 ⟨_,List.getElem_mem hi,rfl⟩)
  obtain ⟨j,hj,ej⟩:=List.getElem_of_mem hm
  rw [List.length_zip] at hj
  rw [List.getElem_zip] at ej
  simp only [Prod.mk.injEq] at ej
  have e2:r.1[i]'(by omega)=atA fs qs[i]:=by
   have:(qs.map (atA fs))[i]'(by simpa using hi)=atA fs qs[i]:=by simp
   rw [← this]
   congr 1
   exact e1.symm
  have hij:j=i:=(List.getElem_inj hnd).1 (ej.1.trans e2.symm)
  subst hij
  rw [List.getElem_map]
  exact ej.2.symm
def D.roundsR (rs:List Ru) (xs:List A):List A × List Nat × Bool:=if evalOk rs xs then (if (runR rs xs).2 then ((runR rs xs).1.1,(runR rs xs).1.2,true) else ([],[],false)) else ([],[],false)
theorem D.rounds_yes {rs:List Ru} {xs:List A} (h:evalOk rs xs=true) (h2:(runR rs xs).2=true):roundsR rs xs=((runR rs xs).1.1,(runR rs xs).1.2,true):=by unfold roundsR; rw [if_pos h,if_pos h2]
theorem D.rounds_no {rs:List Ru} {xs:List A} (h:evalOk rs xs=true→(runR rs xs).2=false):roundsR rs xs=([],[],false):=by
 unfold roundsR
 by_cases hh:evalOk rs xs=true
 ·rw [if_pos hh,h hh]; rfl
 ·rw [if_neg hh]
theorem D.facts_cnt:∀ l:List A,(∀ t ∈ l,FactOk t)→sumL cntA l≤l.length * 7:=by
 intro l
 induction l with
 | nil=>intro _; simp [sumL]
 | cons t l ih=>
  intro h
  have g1:=ih fun u hu=>h u (List.mem_cons_of_mem _ hu)
  have g2:=atom_few (h t (List.mem_cons_self ..)).ok
  have e:sumL cntA (t :: l)=cntA t+sumL cntA l:=by simp [sumL]
  have e2:cntA t=1+2 * t.args.length:=rfl
  rw [e,e2,List.length_cons]
  omega
theorem rounds_cnt (rs:List Ru) (xs:List A):sumL cntA (roundsR rs xs).1≤900000000∧(roundsR rs xs).2.1.length≤900000000:=by
 by_cases hc:evalOk rs xs=true∧(runR rs xs).2=true
 ·obtain ⟨r1,r2,r3,_⟩:=run_facts hc.1 hc.2
  rw [rounds_yes hc.1 hc.2]
  have:=facts_cnt _ r2
  have hl:=r1.len
  exact ⟨by show sumL cntA (runR rs xs).1.1≤_; omega,by show (runR rs xs).1.2.length≤_; omega⟩
 ·rw [rounds_no (fun h=>by
   cases hr:(runR rs xs).2
   ·rfl
   ·exact absurd ⟨h,hr⟩ hc)]
  exact ⟨by simp [sumL],Nat.zero_le _⟩
end Go.Proofs.YtiidmgchadagbaaGreatDoor
namespace Go.Proofs.YtiidmgchadagbaaGreatDoor
open Go.RowKit D
attribute [local go_sem ↓] Go.wp_at_zero Go.wp_at_succ
theorem ints_empty {w:World} {A:Option Addr}:intsK w [.slice A 0 0] [] []:=⟨A,0,rfl,Nat.le_refl _,Nat.zero_le _,fun _=>rfl,fun h=>absurd rfl h⟩
theorem rounds_spec (rs:List Ru) (xs:List A) (v1 v2:Value) (b1 b2:List Nat) (w:World) (h:rulesK w [v1] rs b1) (h2:atomsK w [v2] xs b2):
  Calls Tryz.prog 17 #[v1,v2] w fun e w'=>Below w.heap.size w w'∧∃ Av cv Au cu bs bt,e=.returned (.tuple #[.slice Av (roundsR rs xs).1.length cv,.slice Au (roundsR rs xs).2.1.length cu,.bool (roundsR rs xs).2.2])∧atomsK w' [.slice Av (roundsR rs xs).1.length cv] (roundsR rs xs).1 bs∧intsK w' [.slice Au (roundsR rs xs).2.1.length cu] (roundsR rs xs).2.1 bt:=by
 have c1:=l4Ok_any rs xs v1 v2 b1 b2 w h h2
 have HR:=η h
 have HX:=η h2
 clear h h2
 cases hok:evalOk rs xs with
 | false=>
  have HE:Hid (roundsR rs xs=([],[],false)):=η (by unfold roundsR; rw [hok]; rfl)
  rw [hok] at c1
  clear hok
  go_enter Tryz.func17,Tryz.ntmps17
  go_wp2_with fail
  refine c1.mono ?_
  rintro e w1 ⟨rfl,hb1⟩
  have HB1:=η hb1
  clear c1 hb1
  go_wp2
  go_ret3
  rw [HE.out]
  exact ⟨(HB1.out.alloc HB1.out.size _).alloc (by simp; exact Nat.le_succ_of_le HB1.out.size) _,some ⟨w1.heap.size,0,none⟩,0,some ⟨w1.heap.size+1,0,none⟩,0,[],[],rfl,atoms_empty,ints_empty⟩
 | true=>
  have HK0:=η hok
  have HK:=η (evalOk_run hok)
  rw [hok] at c1
  go_enter Tryz.func17,Tryz.ntmps17
  go_wp2_with fail
  refine c1.mono ?_
  rintro e w1 ⟨rfl,hb1⟩
  have q:=run_any rs xs v1 v2 b1 b2 w1 (rulesK_good.below HR.out hb1) (atomsK_good.below HX.out hb1) HK.out.asc (by have:=HK.out.n; omega) HK.out.m HK.out.ok HK.out.rules HK.out.args
  clear c1 hok
  have HOK:Hid (evalOk rs xs=true):=η HK0.out
  go_wp2_with fail
  refine q.mono ?_
  rintro e w2 ⟨hb2,e0,e1,bs2,rfl,h2⟩
  have B2:=η (hb1.trans (hb2.mono hb1.size))
  obtain ⟨A3,p3,bx,ox,cx,ba,bb,rfl,rfl,rfl,h3,h4,-⟩:=round_form h2
  have hA:Below w2.heap.size w2 (w2.alloc (.cells #[.slice A3 (runR rs xs).1.1.length p3,.slice (some ⟨bx,ox,none⟩) (runR rs xs).1.2.length cx] 63)):=(Below.refl _ _).alloc (Nat.le_refl _) _
  have H3:=η (atomsK_good.below h3 hA)
  have H4:=η (intsK_good.below h4 hA)
  have B3:=η (B2.out.trans (hA.mono B2.out.size))
  clear q h2 h3 h4 hb1 hb2 hA
  cases hr:(runR rs xs).2 with
  | false=>
   have HE:Hid (roundsR rs xs=([],[],false)):=η (rounds_no fun _=>hr)
   have B4:=η ((B3.out.alloc B3.out.size (.cells #[] 68)).alloc (by simp; have:=B2.out.size; omega) (.cells #[] 3))
   clear hr
   go_wp2
   go_ret3
   rw [HE.out]
   exact ⟨B4.out,_,_,_,_,[],[],rfl,atoms_empty,ints_empty⟩
  | true=>
   have HE:Hid (roundsR rs xs=((runR rs xs).1.1,(runR rs xs).1.2,true)):=η (rounds_yes HOK.out hr)
   clear hr
   go_wp2_with fail
   go_region
   go_wp2
   go_ret3
   rw [HE.out]
   exact ⟨B3.out.drew,_,_,_,_,ba,bb,rfl,atomsK_good.keep H3.out fun _ _=>rfl,intsK_good.keep H4.out fun _ _=>rfl⟩
def D.MakesR (r:List A × List Nat × Bool) (B:Nat) (w:World) (e:Ending) (w':World):Prop:=
 Below B w w'∧∃ Av cv Au cu bs bt,e=.returned (.tuple #[.slice Av r.1.length cv,.slice Au r.2.1.length cu,.bool r.2.2])∧atomsK w' [.slice Av r.1.length cv] r.1 bs∧intsK w' [.slice Au r.2.1.length cu] r.2.1 bt∧New B w' bs∧New B w' bt∧∀ x ∈ bs,x ∉ bt
theorem rounds_impl (rs:List Ru) (xs:List A) (v1 v2:Value) (b1 b2:List Nat) (w:World) (h:rulesK w [v1] rs b1) (h2:atomsK w [v2] xs b2) (hg:LaidE w):
  Calls Tryz.prog 18 #[v1,v2] w (MakesR (roundsR rs xs) w.heap.size w):=by
 have c1:=storeAll_any rs xs v1 v2 b1 b2 w h h2 hg
 obtain ⟨Ad,cap,rfl,hlc,hlm⟩:=sliceK_form h
 obtain ⟨Ad2,cap2,rfl,_,_⟩:=sliceK_form h2
 clear h h2 hg hlc hlm
 go_enter Tryz.func18,Tryz.ntmps18
 go_wp2_with fail
 refine c1.mono ?_
 rintro e w1 ⟨hb1,hcase⟩
 clear c1
 rcases hcase with ⟨hok,hrun,z,fr,fs,rn,hz,rfl,hsto,hsim,hfok,hlen⟩ | ⟨hno,rfl⟩
 ·obtain ⟨Af,cf,Ar,cr,bf,br,hO⟩:=hsto.old
  obtain ⟨r1,r2,r3,_⟩:=run_facts hok hrun
  have hpm:=hsim.fst r1
  have hfn:fs.Nodup:=hpm.nodup_iff.2 (asc_nodup r1.asc)
  have c2:=inOrder_any (z+2) fs rn Af cf Ar cr bf br w1 hO hfok hfn hlen hsim.len
  have HB1:=η hb1
  have HE:=η (rounds_yes hok hrun)
  have HQ:Hid (∀ qs:List Nat,qs.Perm (List.range fs.length)→qs.Pairwise (fun a b=>∀ (ha:a < fs.length) (hb:b < fs.length),¬ cmpA fs[b] fs[a] < 0)→qs.map (atA fs)=(runR rs xs).1.1∧qs.map (atL rn)=(runR rs xs).1.2):=η fun qs p1 p2=>sim_sorted hsim r1 hfok r2 p1 p2
  have HN:Hid ((runR rs xs).1.1.length≤16777216∧∀ a ∈ (runR rs xs).1.1,a.args.length≤16777216):=η ⟨by omega,fun a ha=>by have:=atom_few (r2 a ha).ok; omega⟩
  clear hsto hsim hfok hlen hO r1 r2 r3 hpm hfn hb1 hok hrun
  go_wp2_with fail
  refine c2.mono ?_
  rintro e w2 ⟨hb2,z2,qs,hz2,rfl,p1,p2,hst2⟩
  obtain ⟨e1,e2⟩:=HQ.out qs p1 p2
  rw [e1,e2] at hst2
  obtain ⟨Bf,df,Lf,Bs,dr,Lr,ou,bg,S,_,_⟩:=hst2
  obtain ⟨b5,h5,_⟩:=S.cF.slice
  obtain ⟨b6,h6,n6⟩:=S.cR.new (New.nil _ _)
  have x0:w2.cell? ⟨z2+2,0,none⟩=some (.slice Bf (runR rs xs).1.1.length df):=cell_of_blk S.blk
  have x1:w2.cell? ⟨z2+2,1,none⟩=some (.slice Bs (runR rs xs).1.2.length dr):=cell_of_blk S.blk
  have lx:=lt_of_cell x0
  have c3:=copyAtoms_any _ _ b5 w2.drew (atomsK_good.keep h5 fun _ _=>rfl) HN.out.1 HN.out.2
  have HB2:=η (HB1.out.trans (hb2.mono HB1.out.size))
  have H6:=η h6
  have N6:=η (n6.mono (show w.heap.size≤z2+3 by have:=HB1.out.size; omega))
  clear c2 hb2 HQ p1 p2 e1 e2 S h5 h6 n6
  go_wp2_with fail
  have HC3:Hid (Calls Tryz.prog 36 #[.slice Bf (runR rs xs).1.1.length df] w2.drew fun e w3=>∃ A9 c9,e=.returned (.slice A9 (runR rs xs).1.1.length c9)∧w3.cell? ⟨z2+2,0,none⟩=some (.slice Bf (runR rs xs).1.1.length df)∧w3.cell? ⟨z2+2,1,none⟩=some (.slice Bs (runR rs xs).1.2.length dr)∧z2+2 < w3.heap.size∧
    ∃ b9,Below w2.heap.size w2 w3∧atomsK w3 [.slice A9 (runR rs xs).1.1.length c9] (runR rs xs).1.1 b9∧New w2.heap.size w3 b9):=η (c3.mono fun e w3 ⟨hb3,v9,b9,he,h9,n9⟩=>by
   obtain ⟨A9,c9,rfl,_,_⟩:=sliceK_form h9
   have hb:Below w2.heap.size w2 w3:=(Below.refl w2.heap.size w2).drew.trans hb3
   exact ⟨A9,c9,he,cell_later hb x0,cell_later hb x1,Nat.lt_of_lt_of_le lx hb.size,b9,hb,h9,n9⟩)
  clear c3
  go_region_law
   (go_simp; go_at_call 36; refine HC3.out.mono ?_; rintro e w3 ⟨A9,c9,rfl,y0,y1,ly,b9,g1,g2,g3⟩; have HG:=η (And.intro g1 (And.intro g2 g3)); clear g1 g2 g3)
  all_goals
   clear HC3 x0 x1 y0 y1
   go_wp2
   go_ret3
   rw [HE.out]
   obtain ⟨g1,g2,g3⟩:=HG.out
   have hz3:=HB2.out.size
   refine ⟨HB2.out.trans (g1.mono hz3),_,_,_,_,b9,b6,rfl,g2,intsK_good.below H6.out g1,g3.mono hz3,N6.out.below g1,fun x hx hm=>?_⟩
   have q1:=(g3.own x hx).1
   have q2:=N6.out.lt hm
   omega
 ·have HE:=η (rounds_no hno)
  clear hno
  go_wp2
  go_ret3
  rw [HE.out]
  exact ⟨hb1,none,0,none,0,[],[],rfl,⟨none,0,rfl,Nat.le_refl _,Nat.zero_le _,fun _=>rfl,fun h=>absurd rfl h⟩,⟨none,0,rfl,Nat.le_refl _,Nat.zero_le _,fun _=>rfl,fun h=>absurd rfl h⟩,New.nil _ _,New.nil _ _,fun x hx=>by simp at hx⟩
theorem exactRounds_walk (a0:List Ru) (c0:Value) (p0:List Nat) (a1:List A) (c1:Value) (p1:List Nat) (w:World) (h0:rulesK w [c0] a0 p0) (h1:atomsK w [c1] a1 p1) (hg:LaidE w):
  Calls Tryz.prog 4 #[c0,c1] w fun e w'=>e=.returned (.bool true)∧Below w.heap.size w w':=by
 have HG:=η hg
 clear hg
 obtain ⟨Adq0,capq0,rfl,hlq0,hmq0⟩:=sliceK_form h0
 obtain ⟨Adq1,capq1,rfl,hlq1,hmq1⟩:=sliceK_form h1
 have sz0:=fun l (g0:0≤l) (g1:l≤1048576) w' (hb:Below w.heap.size w w')=>szRuleS_any a0 _ p0 l w' (rulesK_good.below h0 hb) g0 g1
 have to0:=fun (hl:bulkRs a0≤1048576) w' (hb:Below w.heap.size w w')=>toRuleS_any a0 _ p0 w' (rulesK_good.below h0 hb) hl
 have sz1:=fun l (g0:0≤l) (g1:l≤1048576) w' (hb:Below w.heap.size w w')=>szAtomS_any a1 _ p1 l w' (atomsK_good.below h1 hb) g0 g1
 have to1:=fun (hl:bulkAs a1≤1048576) w' (hb:Below w.heap.size w w')=>toAtomS_any a1 _ p1 w' (atomsK_good.below h1 hb) hl
 have lm0:=nat_ge_max (Nat.le_trans hlq0 hmq0)
 have lm1:=nat_ge_max (Nat.le_trans hlq1 hmq1)
 have hVB:=rounds_cnt a0 a1
 clear h0 h1
 have B0:=Below.refl w.heap.size w
 go_enter Tryz.func4,Tryz.ntmps4
 go_wp2_with fail
 refine (sz0 _ (by omega) (by omega) _ B0).mono ?_
 rintro e w1 ⟨hb1,r1,rfl,hr1⟩
 have B1:=B0.trans (hb1.mono B0.size)
 clear sz0
 rcases hr1 with rfl | ⟨hr1a,hr1b⟩
 ·go_wp2
  go_ret
  exact ⟨rfl,B1⟩
 ·skip
  go_wp2_with fail
  refine (sz1 _ (by omega) (by omega) _ B1).mono ?_
  rintro e w2 ⟨hb2,r2,rfl,hr2⟩
  have B2:=B1.trans (hb2.mono B1.size)
  clear sz1
  rcases hr2 with rfl | ⟨hr2a,hr2b⟩
  ·go_wp2
   go_ret
   exact ⟨rfl,B2⟩
  ·skip
   have T0:=to0 (by omega)
   have HT0:=η T0
   have HB0:Hid (bulkRs a0≤1048576):=η (by omega)
   have T1:=to1 (by omega)
   have HT1:=η T1
   have HB1:Hid (bulkAs a1≤1048576):=η (by omega)
   have HVB:=η hVB
   clear hVB to0 T0 to1 T1 hr1b hr2b
   go_wp2_with fail
   refine (HT0.out _ B2).mono ?_
   rintro e w3 ⟨hb3,v3,bs3,rfl,hR3,hN3⟩
   obtain ⟨Ad3,cap3,rfl,_,_⟩:=sliceK_form hR3
   have B3:=B2.trans (hb3.mono B2.size)
   go_wp2_with fail
   refine (HT1.out _ B3).mono ?_
   rintro e w4 ⟨hb4,v4,bs4,rfl,hR4,hN4⟩
   obtain ⟨Ad4,cap4,rfl,_,_⟩:=sliceK_form hR4
   have B4:=B3.trans (hb4.mono B3.size)
   replace hR3:=rulesK_good.below hR3 hb4
   go_wp2_with fail
   refine (rounds_spec a0 a1 _ _ bs3 bs4 _ hR3 hR4).mono ?_
   rintro e w5 ⟨hb5,Ad5,cap5,Ae5,cape5,bs5,bt5,rfl,hR5,hS5⟩
   have B5:=B4.trans (hb5.mono B4.size)
   clear hR3 hN3 hR4 hN4
   have US:Hid (∀ b ∈ bs5,b < w5.heap.size):=η (atomsK_good.lt hR5)
   have UT:Hid (∀ b ∈ bt5,b < w5.heap.size):=η (intsK_good.lt hS5)
   have RS:=η hR5
   have RT:=η hS5
   clear hR5 hS5
   go_wp2_with fail
   refine (HT0.out _ B5).mono ?_
   rintro e w6 ⟨hb6,v6,bs6,rfl,hR6,hN6⟩
   obtain ⟨Ad6,cap6,rfl,_,_⟩:=sliceK_form hR6
   have B6:=B5.trans (hb6.mono B5.size)
   replace RS:=η (atomsK_good.below RS.out hb6)
   replace RT:=η (intsK_good.below RT.out hb6)
   have Q1:Hid (w5.heap.size≤w6.heap.size):=η hb6.size
   have L6:Hid (∀ b ∈ bs6,w5.heap.size≤b):=η fun b hb=>(hN6.own b hb).1
   have U6:Hid (∀ b ∈ bs6,b < w6.heap.size):=η (rulesK_good.lt hR6)
   have N6:=η hN6
   have R6:=η hR6
   clear hR6 hN6
   go_wp2_with fail
   refine (HT1.out _ B6).mono ?_
   rintro e w7 ⟨hb7,v7,bs7,rfl,hR7,hN7⟩
   obtain ⟨Ad7,cap7,rfl,_,_⟩:=sliceK_form hR7
   have B7:=B6.trans (hb7.mono B6.size)
   replace RS:=η (atomsK_good.below RS.out hb7)
   replace RT:=η (intsK_good.below RT.out hb7)
   replace R6:=η (rulesK_good.below R6.out hb7)
   replace N6:=η (N6.out.below hb7)
   have Q2:Hid (w6.heap.size≤w7.heap.size):=η hb7.size
   have L7:Hid (∀ b ∈ bs7,w6.heap.size≤b):=η fun b hb=>(hN7.own b hb).1
   have U7:Hid (∀ b ∈ bs7,b < w7.heap.size):=η (atomsK_good.lt hR7)
   have N7:=η hN7
   have R7:=η hR7
   clear hR7 hN7
   go_wp2_with fail
   refine (rounds_impl a0 a1 _ _ bs6 bs7 _ R6.out R7.out (HG.out.below B7)).mono ?_
   rintro e w8 ⟨hb8,Ad8,cap8,Ae8,cape8,bs8,bt8,rfl,hR8,hS8,hN8,hM8,hd8⟩
   have B8:=B7.trans (hb8.mono B7.size)
   replace RS:=η (atomsK_good.below RS.out hb8)
   replace RT:=η (intsK_good.below RT.out hb8)
   replace R6:=η (rulesK_good.below R6.out hb8)
   replace R7:=η (atomsK_good.below R7.out hb8)
   replace N6:=η (N6.out.below hb8)
   replace N7:=η (N7.out.below hb8)
   have Q3:Hid (w7.heap.size≤w8.heap.size):=η hb8.size
   have L8:Hid (∀ b ∈ bs8,w7.heap.size≤b):=η fun b hb=>(hN8.own b hb).1
   have LT8:Hid (∀ b ∈ bt8,w7.heap.size≤b):=η fun b hb=>(hM8.own b hb).1
   have U8:Hid (∀ b ∈ bs8,b < w8.heap.size):=η (atomsK_good.lt hR8)
   have UT8:Hid (∀ b ∈ bt8,b < w8.heap.size):=η (intsK_good.lt hS8)
   have HD8:=η hd8
   have R8:=η hR8
   have S8:=η hS8
   have N8:=η hN8
   have M8:=η hM8
   clear hR8 hS8 hN8 hM8 hd8
   go_wp2_with fail
   refine (eqAtomS_same (roundsR a0 a1).1 _ _ bs8 bs5 _ R8.out RS.out).mono ?_
   rintro e w9 ⟨rfl,hb9⟩
   have B9:=B8.trans (hb9.mono B8.size)
   replace RS:=η (atomsK_good.below RS.out hb9)
   replace RT:=η (intsK_good.below RT.out hb9)
   replace R6:=η (rulesK_good.below R6.out hb9)
   replace R7:=η (atomsK_good.below R7.out hb9)
   replace R8:=η (atomsK_good.below R8.out hb9)
   replace S8:=η (intsK_good.below S8.out hb9)
   replace N6:=η (N6.out.below hb9)
   replace N7:=η (N7.out.below hb9)
   replace N8:=η (N8.out.below hb9)
   replace M8:=η (M8.out.below hb9)
   go_wp2_with fail
   refine (eqIntS_same (roundsR a0 a1).2.1 _ _ bt8 bt5 _ S8.out RT.out).mono ?_
   rintro e w10 ⟨rfl,hb10⟩
   have B10:=B9.trans (hb10.mono B9.size)
   replace RS:=η (atomsK_good.below RS.out hb10)
   replace RT:=η (intsK_good.below RT.out hb10)
   replace R6:=η (rulesK_good.below R6.out hb10)
   replace R7:=η (atomsK_good.below R7.out hb10)
   replace R8:=η (atomsK_good.below R8.out hb10)
   replace S8:=η (intsK_good.below S8.out hb10)
   replace N6:=η (N6.out.below hb10)
   replace N7:=η (N7.out.below hb10)
   replace N8:=η (N8.out.below hb10)
   replace M8:=η (M8.out.below hb10)
   go_wp2_with fail
   refine (HT0.out _ B10).mono ?_
   rintro e w11 ⟨hb11,v11,bs11,rfl,hR11,hN11⟩
   obtain ⟨Ad11,cap11,rfl,_,_⟩:=sliceK_form hR11
   have B11:=B10.trans (hb11.mono B10.size)
   replace RS:=η (atomsK_good.below RS.out hb11)
   replace RT:=η (intsK_good.below RT.out hb11)
   replace R6:=η (rulesK_good.below R6.out hb11)
   replace R7:=η (atomsK_good.below R7.out hb11)
   replace R8:=η (atomsK_good.below R8.out hb11)
   replace S8:=η (intsK_good.below S8.out hb11)
   replace N6:=η (N6.out.below hb11)
   replace N7:=η (N7.out.below hb11)
   replace N8:=η (N8.out.below hb11)
   replace M8:=η (M8.out.below hb11)
   go_wp2_with fail
   refine (eqRuleS_same a0 _ _ bs6 bs11 _ R6.out hR11).mono ?_
   rintro e w12 ⟨rfl,hb12⟩
   have B12:=B11.trans (hb12.mono B11.size)
   replace RS:=η (atomsK_good.below RS.out hb12)
   replace RT:=η (intsK_good.below RT.out hb12)
   replace R6:=η (rulesK_good.below R6.out hb12)
   replace R7:=η (atomsK_good.below R7.out hb12)
   replace R8:=η (atomsK_good.below R8.out hb12)
   replace S8:=η (intsK_good.below S8.out hb12)
   replace N6:=η (N6.out.below hb12)
   replace N7:=η (N7.out.below hb12)
   replace N8:=η (N8.out.below hb12)
   replace M8:=η (M8.out.below hb12)
   clear hR11 hN11
   go_wp2_with fail
   refine (HT1.out _ B12).mono ?_
   rintro e w13 ⟨hb13,v13,bs13,rfl,hR13,hN13⟩
   obtain ⟨Ad13,cap13,rfl,_,_⟩:=sliceK_form hR13
   have B13:=B12.trans (hb13.mono B12.size)
   replace RS:=η (atomsK_good.below RS.out hb13)
   replace RT:=η (intsK_good.below RT.out hb13)
   replace R6:=η (rulesK_good.below R6.out hb13)
   replace R7:=η (atomsK_good.below R7.out hb13)
   replace R8:=η (atomsK_good.below R8.out hb13)
   replace S8:=η (intsK_good.below S8.out hb13)
   replace N6:=η (N6.out.below hb13)
   replace N7:=η (N7.out.below hb13)
   replace N8:=η (N8.out.below hb13)
   replace M8:=η (M8.out.below hb13)
   go_wp2_with fail
   refine (eqAtomS_same a1 _ _ bs7 bs13 _ R7.out hR13).mono ?_
   rintro e w14 ⟨rfl,hb14⟩
   have B14:=B13.trans (hb14.mono B13.size)
   replace RS:=η (atomsK_good.below RS.out hb14)
   replace RT:=η (intsK_good.below RT.out hb14)
   replace R6:=η (rulesK_good.below R6.out hb14)
   replace R7:=η (atomsK_good.below R7.out hb14)
   replace R8:=η (atomsK_good.below R8.out hb14)
   replace S8:=η (intsK_good.below S8.out hb14)
   replace N6:=η (N6.out.below hb14)
   replace N7:=η (N7.out.below hb14)
   replace N8:=η (N8.out.below hb14)
   replace M8:=η (M8.out.below hb14)
   clear hR13 hN13
   go_wp2_with fail
   refine (markRuleS_any a0 _ bs6 1 _ _ R6.out N6.out (by have:=HB0.out; have:=cntRs_le a0; omega)).mono ?_
   rintro e w15 ⟨hk15,hR15,_,hK15⟩
   replace RS:=η (Good.kept atomsK_good RS.out hK15 (fun b hb hc=>by have:=US.out _ hb; have:=L6.out _ hc; have:=U6.out _ hc; have:=Q1.out; have:=Q2.out; have:=Q3.out; omega))
   replace RT:=η (Good.kept intsK_good RT.out hK15 (fun b hb hc=>by have:=UT.out _ hb; have:=L6.out _ hc; have:=U6.out _ hc; have:=Q1.out; have:=Q2.out; have:=Q3.out; omega))
   replace R7:=η (Good.kept atomsK_good R7.out hK15 (fun b hb hc=>by have:=L7.out _ hb; have:=U7.out _ hb; have:=L6.out _ hc; have:=U6.out _ hc; have:=Q1.out; have:=Q2.out; have:=Q3.out; omega))
   replace R8:=η (Good.kept atomsK_good R8.out hK15 (fun b hb hc=>by have:=L8.out _ hb; have:=U8.out _ hb; have:=L6.out _ hc; have:=U6.out _ hc; have:=Q1.out; have:=Q2.out; have:=Q3.out; omega))
   replace S8:=η (Good.kept intsK_good S8.out hK15 (fun b hb hc=>by have:=LT8.out _ hb; have:=UT8.out _ hb; have:=L6.out _ hc; have:=U6.out _ hc; have:=Q1.out; have:=Q2.out; have:=Q3.out; omega))
   replace N7:=η (New.kept N7.out hK15 (fun b hb hc=>by have:=L7.out _ hb; have:=U7.out _ hb; have:=L6.out _ hc; have:=U6.out _ hc; have:=Q1.out; have:=Q2.out; have:=Q3.out; omega))
   replace N8:=η (New.kept N8.out hK15 (fun b hb hc=>by have:=L8.out _ hb; have:=U8.out _ hb; have:=L6.out _ hc; have:=U6.out _ hc; have:=Q1.out; have:=Q2.out; have:=Q3.out; omega))
   replace M8:=η (New.kept M8.out hK15 (fun b hb hc=>by have:=LT8.out _ hb; have:=UT8.out _ hb; have:=L6.out _ hc; have:=U6.out _ hc; have:=Q1.out; have:=Q2.out; have:=Q3.out; omega))
   have B15:=B14.trans (hK15.below (fun b hb=>by have:=L6.out _ hb; have:=U6.out _ hb; have:=B14.size; have:=B5.size; have:=Q1.out; have:=Q2.out; have:=Q3.out; omega) B14.size)
   obtain ⟨k1,he1⟩:∃ n:Nat,n=1+sumL cntRu a0:=⟨_,rfl⟩
   rw [← he1] at hk15
   have kb1:Hid (k1≤10000000):=η (by have:=HB0.out; have:=cntRs_le a0; omega)
   have kn1:¬ ((k1:Int) < 0):=by omega
   clear he1 hR15
   subst hk15
   go_wp2_with fail
   refine (markAtomS_any a1 _ bs7 k1 _ _ R7.out N7.out (by have:=kb1.out; have:=HB1.out; have:=cntAs_le a1; omega)).mono ?_
   rintro e w16 ⟨hk16,hR16,_,hK16⟩
   replace RS:=η (Good.kept atomsK_good RS.out hK16 (fun b hb hc=>by have:=US.out _ hb; have:=L7.out _ hc; have:=U7.out _ hc; have:=Q1.out; have:=Q2.out; have:=Q3.out; omega))
   replace RT:=η (Good.kept intsK_good RT.out hK16 (fun b hb hc=>by have:=UT.out _ hb; have:=L7.out _ hc; have:=U7.out _ hc; have:=Q1.out; have:=Q2.out; have:=Q3.out; omega))
   replace R8:=η (Good.kept atomsK_good R8.out hK16 (fun b hb hc=>by have:=L8.out _ hb; have:=U8.out _ hb; have:=L7.out _ hc; have:=U7.out _ hc; have:=Q1.out; have:=Q2.out; have:=Q3.out; omega))
   replace S8:=η (Good.kept intsK_good S8.out hK16 (fun b hb hc=>by have:=LT8.out _ hb; have:=UT8.out _ hb; have:=L7.out _ hc; have:=U7.out _ hc; have:=Q1.out; have:=Q2.out; have:=Q3.out; omega))
   replace N8:=η (New.kept N8.out hK16 (fun b hb hc=>by have:=L8.out _ hb; have:=U8.out _ hb; have:=L7.out _ hc; have:=U7.out _ hc; have:=Q1.out; have:=Q2.out; have:=Q3.out; omega))
   replace M8:=η (New.kept M8.out hK16 (fun b hb hc=>by have:=LT8.out _ hb; have:=UT8.out _ hb; have:=L7.out _ hc; have:=U7.out _ hc; have:=Q1.out; have:=Q2.out; have:=Q3.out; omega))
   have B16:=B15.trans (hK16.below (fun b hb=>by have:=L7.out _ hb; have:=U7.out _ hb; have:=B15.size; have:=B5.size; have:=Q1.out; have:=Q2.out; have:=Q3.out; omega) B15.size)
   obtain ⟨k2,he2⟩:∃ n:Nat,n=k1+sumL cntA a1:=⟨_,rfl⟩
   rw [← he2] at hk16
   have kn2:¬ ((k2:Int) < 0):=by omega
   clear he2 hR16
   subst hk16
   go_wp2_with fail
   refine (eqAtomS_same (roundsR a0 a1).1 _ _ bs8 bs5 _ R8.out RS.out).mono ?_
   rintro e w17 ⟨rfl,hb17⟩
   have B17:=B16.trans (hb17.mono B16.size)
   replace RS:=η (atomsK_good.below RS.out hb17)
   replace RT:=η (intsK_good.below RT.out hb17)
   replace R8:=η (atomsK_good.below R8.out hb17)
   replace S8:=η (intsK_good.below S8.out hb17)
   replace N8:=η (N8.out.below hb17)
   replace M8:=η (M8.out.below hb17)
   go_wp2_with fail
   refine (eqIntS_same (roundsR a0 a1).2.1 _ _ bt8 bt5 _ S8.out RT.out).mono ?_
   rintro e w18 ⟨rfl,hb18⟩
   have B18:=B17.trans (hb18.mono B17.size)
   replace RS:=η (atomsK_good.below RS.out hb18)
   replace RT:=η (intsK_good.below RT.out hb18)
   replace R8:=η (atomsK_good.below R8.out hb18)
   replace S8:=η (intsK_good.below S8.out hb18)
   replace N8:=η (N8.out.below hb18)
   replace M8:=η (M8.out.below hb18)
   go_wp2_with fail
   refine (markAtomS_any (roundsR a0 a1).1 _ bs8 1 _ _ R8.out N8.out (by have:=HVB.out.1; omega)).mono ?_
   rintro e w19 ⟨hk19,hR19,_,hK19⟩
   replace RS:=η (Good.kept atomsK_good RS.out hK19 (fun b hb hc=>by have:=US.out _ hb; have:=L8.out _ hc; have:=U8.out _ hc; have:=Q1.out; have:=Q2.out; have:=Q3.out; omega))
   replace RT:=η (Good.kept intsK_good RT.out hK19 (fun b hb hc=>by have:=UT.out _ hb; have:=L8.out _ hc; have:=U8.out _ hc; have:=Q1.out; have:=Q2.out; have:=Q3.out; omega))
   replace S8:=η (Good.kept intsK_good S8.out hK19 (fun b hb hc=>HD8.out _ hc hb))
   replace M8:=η (New.kept M8.out hK19 (fun b hb hc=>HD8.out _ hc hb))
   have B19:=B18.trans (hK19.below (fun b hb=>by have:=L8.out _ hb; have:=U8.out _ hb; have:=B18.size; have:=B5.size; have:=Q1.out; have:=Q2.out; have:=Q3.out; omega) B18.size)
   have HRA:Hid (atomsK w19 [.slice Ad8 (roundsR a0 a1).1.length cap8] (markAs (roundsR a0 a1).1 1) bs8):=η hR19
   obtain ⟨m1,hm1⟩:∃ n:Nat,n=1+sumL cntA (roundsR a0 a1).1:=⟨_,rfl⟩
   have hmb:m1≤1000000000:=by have:=HVB.out.1; omega
   have HM1:=η hm1
   rw [← hm1] at hk19
   clear hm1 hR19
   subst hk19
   have hm0:¬ ((m1:Int) < 0):=by omega
   go_wp2_with fail
   refine (markIntS_any (roundsR a0 a1).2.1 _ bt8 m1 _ _ S8.out M8.out (by have:=HVB.out.2; omega)).mono ?_
   rintro e w20 ⟨hk20,hR20,_,hK20⟩
   replace RS:=η (Good.kept atomsK_good RS.out hK20 (fun b hb hc=>by have:=US.out _ hb; have:=LT8.out _ hc; have:=UT8.out _ hc; have:=Q1.out; have:=Q2.out; have:=Q3.out; omega))
   replace RT:=η (Good.kept intsK_good RT.out hK20 (fun b hb hc=>by have:=UT.out _ hb; have:=LT8.out _ hc; have:=UT8.out _ hc; have:=Q1.out; have:=Q2.out; have:=Q3.out; omega))
   replace HRA:=η (Good.kept atomsK_good HRA.out hK20 (fun b hb hc=>HD8.out _ hb hc))
   have B20:=B19.trans (hK20.below (fun b hb=>by have:=LT8.out _ hb; have:=UT8.out _ hb; have:=B19.size; have:=B5.size; have:=Q1.out; have:=Q2.out; have:=Q3.out; omega) B19.size)
   have HRI:Hid (intsK w20 [.slice Ae8 (roundsR a0 a1).2.1.length cape8] (markIs (roundsR a0 a1).2.1 m1) bt8):=η hR20
   obtain ⟨m2,hm2⟩:∃ n:Nat,n=m1+(roundsR a0 a1).2.1.length:=⟨_,rfl⟩
   have HM2:=η hm2
   have hmb2:m2≤2000000000:=by have:=HVB.out.2; omega
   rw [← hm2] at hk20
   clear hm2 hR20
   subst hk20
   have hm3:¬ ((m2:Int) < 0):=by omega
   have MA:∀ w',Below w20.heap.size w20 w'→Calls Tryz.prog 16 #[.slice Ad8 (roundsR a0 a1).1.length cap8,.int .i64 1] w' (Held m1 w'):=fun w' hb=>by rw [HM1.out]; exact heldAtomS_any (roundsR a0 a1).1 _ bs8 1 w' (atomsK_good.below HRA.out hb) (by have:=HVB.out.1; omega)
   have MI:∀ w',Below w20.heap.size w20 w'→Calls Tryz.prog 21 #[.slice Ae8 (roundsR a0 a1).2.1.length cape8,.int .i64 m1] w' (Held m2 w'):=fun w' hb=>by rw [HM2.out]; exact heldIntS_any (roundsR a0 a1).2.1 _ bt8 m1 w' (intsK_good.below HRI.out hb) (by have:=HVB.out.2; omega)
   have HMA:=η MA
   have HMI:=η MI
   clear MA MI HRI
   clear HRA
   have HM:Hid (Below w20.heap.size w20 w20):=η (Below.refl _ _)
   go_wp2_with fail
   refine (HMA.out _ HM.out).mono ?_
   rintro e w21 ⟨rfl,hb21⟩
   have B21:=B20.trans (hb21.mono B20.size)
   replace RS:=η (atomsK_good.below RS.out hb21)
   replace RT:=η (intsK_good.below RT.out hb21)
   replace HM:=η (HM.out.trans (hb21.mono HM.out.size))
   go_wp2_with fail
   refine (HMI.out _ HM.out).mono ?_
   rintro e w22 ⟨rfl,hb22⟩
   have B22:=B21.trans (hb22.mono B21.size)
   replace RS:=η (atomsK_good.below RS.out hb22)
   replace RT:=η (intsK_good.below RT.out hb22)
   replace HM:=η (HM.out.trans (hb22.mono HM.out.size))
   go_wp2_with fail
   refine (HT0.out _ B22).mono ?_
   rintro e w23 ⟨hb23,v23,bs23,rfl,hR23,hN23⟩
   obtain ⟨Ad23,cap23,rfl,_,_⟩:=sliceK_form hR23
   have B23:=B22.trans (hb23.mono B22.size)
   replace RS:=η (atomsK_good.below RS.out hb23)
   replace RT:=η (intsK_good.below RT.out hb23)
   replace HM:=η (HM.out.trans (hb23.mono HM.out.size))
   go_wp2_with fail
   refine (HT1.out _ B23).mono ?_
   rintro e w24 ⟨hb24,v24,bs24,rfl,hR24,hN24⟩
   obtain ⟨Ad24,cap24,rfl,_,_⟩:=sliceK_form hR24
   have B24:=B23.trans (hb24.mono B23.size)
   replace RS:=η (atomsK_good.below RS.out hb24)
   replace RT:=η (intsK_good.below RT.out hb24)
   replace HM:=η (HM.out.trans (hb24.mono HM.out.size))
   replace hR23:=rulesK_good.below hR23 hb24
   go_wp2_with fail
   refine (rounds_impl a0 a1 _ _ bs23 bs24 _ hR23 hR24 (HG.out.below B24)).mono ?_
   rintro e w25 ⟨hb25,Ad25,cap25,Ae25,cape25,bs25,bt25,rfl,hR25,hS25,_,_,_⟩
   have B25:=B24.trans (hb25.mono B24.size)
   replace RS:=η (atomsK_good.below RS.out hb25)
   replace RT:=η (intsK_good.below RT.out hb25)
   replace HM:=η (HM.out.trans (hb25.mono HM.out.size))
   clear hR23 hN23 hR24 hN24
   have RZ:=η hR25
   have SZ:=η hS25
   clear hR25 hS25
   go_wp2_with fail
   refine (eqAtomS_same (roundsR a0 a1).1 _ _ bs25 bs5 _ RZ.out RS.out).mono ?_
   rintro e w26 ⟨rfl,hb26⟩
   have B26:=B25.trans (hb26.mono B25.size)
   replace RS:=η (atomsK_good.below RS.out hb26)
   replace RT:=η (intsK_good.below RT.out hb26)
   replace RZ:=η (atomsK_good.below RZ.out hb26)
   replace SZ:=η (intsK_good.below SZ.out hb26)
   replace HM:=η (HM.out.trans (hb26.mono HM.out.size))
   go_wp2_with fail
   refine (eqIntS_same (roundsR a0 a1).2.1 _ _ bt25 bt5 _ SZ.out RT.out).mono ?_
   rintro e w27 ⟨rfl,hb27⟩
   have B27:=B26.trans (hb27.mono B26.size)
   replace RS:=η (atomsK_good.below RS.out hb27)
   replace RT:=η (intsK_good.below RT.out hb27)
   replace RZ:=η (atomsK_good.below RZ.out hb27)
   replace SZ:=η (intsK_good.below SZ.out hb27)
   replace HM:=η (HM.out.trans (hb27.mono HM.out.size))
   go_wp2_with fail
   refine (HMA.out _ HM.out).mono ?_
   rintro e w28 ⟨rfl,hb28⟩
   have B28:=B27.trans (hb28.mono B27.size)
   replace RS:=η (atomsK_good.below RS.out hb28)
   replace RT:=η (intsK_good.below RT.out hb28)
   replace RZ:=η (atomsK_good.below RZ.out hb28)
   replace SZ:=η (intsK_good.below SZ.out hb28)
   replace HM:=η (HM.out.trans (hb28.mono HM.out.size))
   go_wp2_with fail
   refine (HMI.out _ HM.out).mono ?_
   rintro e w29 ⟨rfl,hb29⟩
   have B29:=B28.trans (hb29.mono B28.size)
   replace RS:=η (atomsK_good.below RS.out hb29)
   replace RT:=η (intsK_good.below RT.out hb29)
   replace RZ:=η (atomsK_good.below RZ.out hb29)
   replace SZ:=η (intsK_good.below SZ.out hb29)
   replace HM:=η (HM.out.trans (hb29.mono HM.out.size))
   go_wp2
   go_ret
   exact ⟨rfl,B29⟩
end Go.Proofs.YtiidmgchadagbaaGreatDoor
