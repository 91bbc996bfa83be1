/- Of the proof of FnExactDelta: RouP, SrtP. -/
import Derived.Test.YtiidmgchadagbaaGreatDoorM41
set_option linter.unusedVariables false
namespace Go.Proofs.YtiidmgchadagbaaGreatDoor
open Go.RowKit D
theorem D.QE (w:World) (o:Obj) (k:Nat):(w.alloc o).heap[k]? = if k=w.heap.size then some o else w.heap[k]?:=by
 by_cases h:k=w.heap.size
 ·rw [if_pos h,h]; exact heap_alloc_new w o
 ·rw [if_neg h]
  by_cases h2:k < w.heap.size
  ·exact Below.heap_alloc w o k h2
  ·have h3:(w.alloc o).heap.size=w.heap.size+1:=by simp
   rw [Array.getElem?_eq_none (by omega),Array.getElem?_eq_none (by omega)]
def D.rx (z sb nr:Nat):qE:=⟨z+1+1+1+1+1,z,z+1,z+1+1+1+1+1+1,z+1+1+1,z+1+1+1+1,z+1+1,sb,nr⟩
def D.rW (w:World) (sb nr:Nat):World:=(((((((w.alloc (.cells #[.pointer (some ⟨sb,0,none⟩)] 80)).alloc (.cells #[.int .i64 nr] 3)).alloc (.chan 301 #[] false 0 0 false)).alloc (.cells #[.chan (some (w.heap.size+1+1))] 158)).alloc (.map #[] 0)).alloc
 (.cells #[.map (some (w.heap.size+1+1+1+1))] 85)).alloc (.cells #[.bool true] 4))
theorem D.OG (w:World) (sb nr:Nat):(rW w sb nr).heap.size=w.heap.size+7:=by unfold rW; simp
theorem D.uz (w:World) (sb nr:Nat) (k:Nat):(rW w sb nr).heap[k]? = if k=w.heap.size+6 then some (.cells #[.bool true] 4) else if k=w.heap.size+5 then some (.cells #[.map (some (w.heap.size+1+1+1+1))] 85) else if k=w.heap.size+4 then some (.map #[] 0) else
  if k=w.heap.size+3 then some (.cells #[.chan (some (w.heap.size+1+1))] 158) else if k=w.heap.size+2 then some (.chan 301 #[] false 0 0 false) else if k=w.heap.size+1 then some (.cells #[.int .i64 nr] 3) else if k=w.heap.size then some (.cells #[.pointer (some ⟨sb,0,none⟩)] 80) else w.heap[k]?:=by
 unfold rW;simp only [QE];simp
theorem D.KU (w:World) (sb nr:Nat):Below w.heap.size w (rW w sb nr):=by
 refine ⟨rfl,rfl,rfl,by rw [OG]; omega,fun k hk=>?_⟩;rw [uz];simp only [show ¬ k=w.heap.size+6 by omega,show ¬ k=w.heap.size+5 by omega,show ¬ k=w.heap.size+4 by omega,show ¬ k=w.heap.size+3 by omega,show ¬ k=w.heap.size+2 by omega,show ¬ k=w.heap.size+1 by omega,show ¬ k=w.heap.size by omega,if_false]
theorem D.QF (w:World) (sb nr:Nat) (fs:List A) (rn bst:List Nat) (hst:kE sb fs rn bst w) (hl:fs.length≤300):ni (rx w.heap.size sb nr) w.heap.size fs bst (rW w sb nr) [] (bst ++ (rx w.heap.size sb nr).own):=by
 have hb:=KU w sb nr;have e0:newL fs [] = []:=rfl;have lt:=hst.lt;have es:(rx w.heap.size sb nr).own = [w.heap.size+5,w.heap.size,w.heap.size+1,w.heap.size+6,w.heap.size+3,w.heap.size+4,w.heap.size+2]:=rfl;refine ⟨?_,?_,?_,?_,?_,?_,⟨[],0,[],?_,?_,?_⟩,⟨rn,hst.below hb⟩,by rw [e0]; simpa using hl,fun t ht=>by simp at ht,?_,?_,?_,?_,?_⟩
 ·show (rW w sb nr).heap[w.heap.size+5]? = _
  rw [uz]; simp; rfl
 ·show (rW w sb nr).heap[w.heap.size]? = _
  rw [uz]; simp; rfl
 ·show (rW w sb nr).heap[w.heap.size+1]? = _
  rw [uz]; simp; rfl
 ·show (rW w sb nr).heap[w.heap.size+6]? = _
  rw [uz]; simp
 ·show (rW w sb nr).heap[w.heap.size+3]? = _
  rw [uz]; simp; rfl
 ·rw [e0]
  have:(rW w sb nr).heap[w.heap.size+4]? = some (.map #[] 0):=by rw [uz]; simp
  exact ⟨⟨#[],0,this,rfl⟩,fun p h=>by simp [yF] at h,List.Pairwise.nil⟩
 ·show (rW w sb nr).heap[w.heap.size+2]? = _
  rw [uz]; simp
 ·rw [e0]; rfl
 ·exact fun k hk=>by simp at hk
 ·rw [es]; simp
 ·exact fun k hk=>List.mem_append_right _ hk
 ·intro k hk
  have:=lt k hk;refine ⟨List.mem_append_left _ hk,fun hm=>?_⟩;rw [es] at hm; simp at hm; omega
 ·show w.heap.size≤w.heap.size+5; omega
 ·intro k hk
  rw [OG]
  rcases List.mem_append.1 hk with hk | hk
  ·have:=lt k hk; omega
  ·rw [es] at hk; simp at hk; omega
theorem D.Us {rs:List Ru} {xs:List A} {k:Nat} (h:k < rs.length) (t:A):(∃ r ∈ rs.take (k+1),lg xs r t) ↔ (∃ r ∈ rs.take k,lg xs r t)∨lg xs rs[k] t:=by
 rw [List.take_succ_eq_append_getElem h];constructor
 ·rintro ⟨r,hr,hf⟩
  rcases List.mem_append.1 hr with hr | hr
  ·exact .inl ⟨r,hr,hf⟩
  ·rw [List.mem_singleton.1 hr] at hf; exact .inr hf
 ·rintro (⟨r,hr,hf⟩ | hf)
  ·exact ⟨r,List.mem_append_left _ hr,hf⟩
  ·exact ⟨_,List.mem_append_right _ (List.mem_singleton.2 rfl),hf⟩
structure D.VJ where
 B:Nat
 sb:Nat
 mu:Nat
 mp:Nat
 nr:Nat
 B0:Nat
 bS:Nat
 bN:Nat
 ch:Nat
 mc:Nat
 sd:Nat
 Fb:Nat→Prop
 fr:List Nat
 f2:List Nat
 fs:List A
 rn:List Nat
 new:List A
structure D.KW (x:VJ):Prop where
 sub:∀ k ∈ x.fr,k ∈ x.f2
 mS:x.bS ∈ x.f2
 mN:x.bN ∈ x.f2
 mH:x.ch ∈ x.f2
 mM:x.mc ∈ x.f2
 nH:¬ x.Fb x.ch
 nM:¬ x.Fb x.mc
 df:x.bS ≠ x.ch∧x.bN ≠ x.ch∧x.mc ≠ x.ch∧x.mc ≠ x.bS∧x.mc ≠ x.bN
 fh:x.ch ∉ x.fr
 fm:x.mc ∉ x.fr
 lH:x.B0≤x.ch
 lM:x.B0≤x.mc
 b0:x.B0≤x.sb∧x.B0≤x.mu∧x.B0≤x.mp∧x.B0≤x.B
 fok:∀ f ∈ x.fs,aX f
 nok:∀ f ∈ x.new,aX f
 nd:x.new.Nodup
 no:∀ t ∈ x.new,t ∉ x.fs
 few:x.fs.length+x.new.length≤300
 rfew:x.rn.length≤300
structure D.DK (x:VJ) (w:World) (k:Nat) (wr:World):Prop where
 bel:Below x.B0 w wr
 kep:∀ k ∈ x.fr,wr.heap[k]? = w.heap[k]?
 cS:wr.heap[x.bS]? = some (.cells #[.pointer (some ⟨x.sb,0,none⟩)] 80 (0,0))
 cN:wr.heap[x.bN]? = some (.cells #[.int .i64 x.nr] 3 (0,0))
 chn:∃ vs bb,wr.heap[x.ch]? = some (.chan 301 ⟨vs⟩ true x.sd k false)∧Ia wr vs (x.new.drop k) bb∧∀ k ∈ bb,k ∈ x.f2∧x.Fb k
 rY:jy x.B x.sb x.mu x.mp x.Fb x.f2 (x.fs ++ x.new.take k) (x.rn ++ List.replicate k x.nr) wr
 cam:∃ n L f,iG x.mc n L f wr∧n≤k∧(∀ s,s ∈ L ↔ ∃ t ∈ x.new.take k,t.name=s)∧∀ s ∈ L,1≤f s∧f s≤(k:Int)
structure D.rO (x:VJ) (w:World) (k:Nat) (a:A) (c:Value) (ba:List Nat) (wr:World):Prop where
 bel:Below x.B0 w wr
 kep:∀ k ∈ x.fr,wr.heap[k]? = w.heap[k]?
 cS:wr.heap[x.bS]? = some (.cells #[.pointer (some ⟨x.sb,0,none⟩)] 80 (0,0))
 cN:wr.heap[x.bN]? = some (.cells #[.int .i64 x.nr] 3 (0,0))
 chn:∃ vs bb,wr.heap[x.ch]? = some (.chan 301 ⟨vs⟩ true x.sd (k+1) false)∧Ia wr vs (x.new.drop (k+1)) bb∧∀ k ∈ bb,k ∈ x.f2∧x.Fb k
 rY:jy x.B x.sb x.mu x.mp x.Fb x.f2 (x.fs ++ x.new.take k) (x.rn ++ List.replicate k x.nr) wr
 cam:∃ n L f,iG x.mc n L f wr∧n≤k∧(∀ s,s ∈ L ↔ ∃ t ∈ x.new.take k,t.name=s)∧∀ s ∈ L,1≤f s∧f s≤(k:Int)
 at':aU wr [.string a.name,c] a ba
 bas:∀ k ∈ ba,k ∈ x.f2∧x.Fb k
theorem D.DK.recv {x:VJ} (X:KW x) {w:World} {k:Nat} {wr:World} (h:DK x w k wr) (hk:k < x.new.length):
  ∃ c vs ba,wr.heap[x.ch]? = some (.chan 301 ⟨.agg #[.string x.new[k].name,c] :: vs⟩ true x.sd k false)∧rO x w k x.new[k] c ba (wr.setChan x.ch 301 ⟨vs⟩ true x.sd (k+1) false):=by
 obtain ⟨vs0,bb,h1,h2,h3⟩:=h.chn;rw [List.drop_eq_getElem_cons hk] at h2
 cases vs0 with
 | nil=>exact h2.elim
 | cons v vs=>
  obtain ⟨c,b1,b2,rfl,rfl,h4,h5⟩:=h2;have hlt:=lt_of_block h1;have hc:=Go.Conc.heap_setChan wr x.ch 301 ⟨vs⟩ true x.sd (k+1) false hlt
  have ko:∀ j,j ≠ x.ch→(wr.setChan x.ch 301 ⟨vs⟩ true x.sd (k+1) false).heap[j]? = wr.heap[j]?:=fun j hj=>by
   simp only [World.setChan]; rw [Array.getElem?_setIfInBounds_ne (by omega)]
  have hs:(wr.setChan x.ch 301 ⟨vs⟩ true x.sd (k+1) false).heap.size=wr.heap.size:=by simp [World.setChan]
  have nF:∀ j,x.Fb j→j ≠ x.ch:=fun j hj e=>X.nH (e ▸ hj)
  obtain ⟨n,L,f,m1,m2⟩:=h.cam
  refine ⟨c,vs,b1,h1,⟨?_,fun j hj=>(ko j (fun e=>X.fh (e ▸ hj))).trans (h.kep j hj),(ko _ X.df.1).trans h.cS,(ko _ X.df.2.1).trans h.cN,⟨vs,b2,hc,h5.keep fun j hj=>ko j (nF j (h3 j (List.mem_append_right _ hj)).2),fun j hj=>h3 j (List.mem_append_right _ hj)⟩,
   h.rY.other X.mH X.nH (by rw [hs]; exact Nat.le_refl _) (fun j _ hj=>ko j hj),⟨n,L,f,m1.same (ko _ X.df.2.2.1),m2⟩,aj.keep h4 fun j hj=>ko j (nF j (h3 j (List.mem_append_left _ hj)).2),fun j hj=>h3 j (List.mem_append_left _ hj)⟩⟩
  exact Go.Conc.below_setChan h.bel X.lH 301 ⟨vs⟩ true x.sd (k+1) false
theorem D.rO.later {x:VJ} (X:KW x) {w:World} {k:Nat} {a:A} {c:Value} {ba:List Nat} {wr w':World} (h:rO x w k a c ba wr) (hk:Below wr.heap.size wr w'):rO x w k a c ba w':=by
 have lt:=h.rY.lt;have b0:=X.b0;have k2:∀ j ∈ x.f2,w'.heap[j]? = wr.heap[j]?:=fun j hj=>hk.block j (lt.2.2 j hj)
 obtain ⟨vs,bb,h1,h2,h3⟩:=h.chn;obtain ⟨n,L,f,m1,m2⟩:=h.cam
 exact ⟨h.bel.trans (hk.mono (by omega)),fun j hj=>(k2 j (X.sub j hj)).trans (h.kep j hj),(k2 _ X.mS).trans h.cS,(k2 _ X.mN).trans h.cN,⟨vs,bb,(k2 _ X.mH).trans h1,h2.keep fun j hj=>k2 j (h3 j hj).1,h3⟩,h.rY.later hk,⟨n,L,f,m1.same (k2 _ X.mM),m2⟩,
  aj.keep h.at' fun j hj=>k2 j (h.bas j hj).1,h.bas⟩
theorem D.rO.done {x:VJ} (X:KW x) {w:World} {k:Nat} (hk:k < x.new.length) {c:Value} {ba:List Nat} {wr w5 w6:World} (h:rO x w k x.new[k] c ba wr) (hb:Below x.B0 wr w5) (hS:jy x.B x.sb x.mu x.mp x.Fb x.f2 (x.fs ++ x.new.take k ++ [x.new[k]]) (x.rn ++ List.replicate k x.nr ++ [x.nr]) w5)
  (hf:∀ j ∈ x.f2,w5.heap[j]? = wr.heap[j]?) {n:Nat} {L:List ByteArray} {f:ByteArray→Int} (hM:iG x.mc (n+1) (gQ L x.new[k].name) (fun t=>if t=x.new[k].name then (if x.new[k].name ∈ L then f x.new[k].name else 0)+1 else f t) w6) (hg:w5.grownBy w6 (some x.mc))
  (hn:n≤k) (hL:∀ s,s ∈ L ↔ ∃ t ∈ x.new.take k,t.name=s) (hv:∀ s ∈ L,1≤f s∧f s≤(k:Int)):DK x w (k+1) w6:=by
 have lt5:=hS.lt;have k6:∀ j,j < w5.heap.size→j ≠ x.mc→w6.heap[j]? = w5.heap[j]?:=fun j h1 h2=>hg.block j h1 (fun e=>h2 (by injection e))
 have nF:∀ j,x.Fb j→j ≠ x.mc:=fun j hj e=>X.nM (e ▸ hj)
 have kk:∀ j ∈ x.f2,j ≠ x.mc→w6.heap[j]? = wr.heap[j]?:=fun j hj hne=>(k6 j (lt5.2.2 j hj) hne).trans (hf j hj)
 obtain ⟨vs,bb,h1,h2,h3⟩:=h.chn;have et:x.new.take (k+1)=x.new.take k ++ [x.new[k]]:=List.take_succ_eq_append_getElem hk;refine ⟨?_,fun j hj=>(kk j (X.sub j hj) (fun e=>X.fm (e ▸ hj))).trans (h.kep j hj),(kk _ X.mS X.df.2.2.2.1.symm).trans h.cS,(kk _ X.mN X.df.2.2.2.2.symm).trans h.cN,⟨vs,bb,(kk _ X.mH X.df.2.2.1.symm).trans h1,h2.keep fun j hj=>kk j (h3 j hj).1 (nF j (h3 j hj).2),h3⟩,?_,⟨n+1,_,_,hM,by omega,fun s=>?_,fun s hs=>?_⟩⟩
 ·exact (h.bel.trans hb).grown hg (by have:=X.b0; omega) fun j e=>by injection e with e; have:=X.lM; omega
 ·rw [et,← List.append_assoc,List.replicate_succ',← List.append_assoc]
  exact hS.other X.mM X.nM hg.size (fun j h1 h2=>k6 j h1 h2)
 ·rw [jg,hL,et]
  constructor
  ·rintro (⟨t,ht,e⟩ | e)
   ·exact ⟨t,List.mem_append_left _ ht,e⟩
   ·exact ⟨x.new[k],List.mem_append_right _ (List.mem_singleton.2 rfl),e.symm⟩
  ·rintro ⟨t,ht,e⟩
   rcases List.mem_append.1 ht with ht | ht
   ·exact .inl ⟨t,ht,e⟩
   ·rw [List.mem_singleton.1 ht] at e; exact .inr e.symm
 ·show 1≤(if s=x.new[k].name then _ else f s)∧(if s=x.new[k].name then _ else f s)≤((k+1:Nat):Int)
  split
  ·split
   ·rename_i hm
    have:=hv _ hm;omega
   ·omega
  ·rename_i hne
   rcases jg.1 hs with h | h
   ·have:=hv s h; omega
   ·exact absurd h hne
def D.rcv (B sb mu mp nr B0 z mc sd:Nat) (Fb:Nat→Prop) (fr bb:List Nat) (fs:List A) (rn:List Nat) (new:List A):VJ:=
 ⟨B,sb,mu,mp,nr,B0,z,z+1,z+1+1,mc,sd,fun k=>Fb k∧k ≠ z+2∧k ≠ mc,fr,fr ++ ([z,z+1,z+2,mc] ++ bb),fs,rn,new⟩
theorem D.WA {B sb mu mp nr B0 mc sd:Nat} {Fb:Nat→Prop} {fr bb bst fb:List Nat} {fs told:List A} {rn:List Nat} {w wr:World} (S:jy B sb mu mp Fb fr fs rn w) (F:ni (rx w.heap.size sb nr) w.heap.size fs bst wr told fb) (hb:w.heap.size < wr.heap.size) (hmc:mc=wr.heap.size) (hB0:B0≤sb∧B0≤mu∧B0≤mp∧B0≤B) (hfs:∀ f ∈ fs,aX f) (hrl:rn.length≤300):
  KW (rcv B sb mu mp nr B0 w.heap.size mc sd Fb fr bb fs rn (newL fs told)):=by
 have lt:=S.lt;have hn:=qA fs told;have l2:w.heap.size+2 < wr.heap.size:=F.lt _ (F.ow (w.heap.size+2) (by show _ ∈ [_,_,_,_,_,_,_]; simp [rx]));refine ⟨fun k hk=>List.mem_append_left _ hk,by simp [rcv],by simp [rcv],by simp [rcv],by simp [rcv],fun h=>h.2.1 rfl,fun h=>h.2.2 rfl,?_,fun h=>?_,fun h=>?_,?_,?_,hB0,hfs,fun t ht=>F.tok t ((hn.2 t).1 ht).1,hn.1,fun t ht=>((hn.2 t).1 ht).2,F.few,hrl⟩
 ·simp only [rcv]; omega
 ·have h1:w.heap.size+2 < w.heap.size:=lt.2.2 _ h; omega
 ·have h1:mc < w.heap.size:=lt.2.2 _ h; omega
 ·simp only [rcv]; omega
 ·simp only [rcv]; omega
theorem D.QG {B sb mu mp nr B0 sd:Nat} {Fb:Nat→Prop} {fr bb bst fb:List Nat} {fs told:List A} {rn:List Nat} {w wr:World} {vs:List Value} (hFb:∀ x,B≤x→Fb x) (S:jy B sb mu mp Fb fr fs rn w) (F:ni (rx w.heap.size sb nr) w.heap.size fs bst wr told fb) (hb:Below w.heap.size w wr) (hB0:B0≤sb∧B0≤mu∧B0≤mp∧B0≤B)
  (h1:wr.heap[w.heap.size+1+1]? = some (.chan 301 ⟨vs⟩ false sd 0 false)) (h2:Ia wr vs (newL fs told) bb) (h3:∀ k ∈ bb,k ∈ fb∧w.heap.size≤k∧k ∉ (rx w.heap.size sb nr).own):
  DK (rcv B sb mu mp nr B0 w.heap.size wr.heap.size sd Fb fr bb fs rn (newL fs told)) w 0 ((wr.setChan (w.heap.size+1+1) 301 ⟨vs⟩ true sd 0 false).alloc (.map #[] 0)):=by
 have lt:=S.lt;have hs1:(wr.setChan (w.heap.size+1+1) 301 ⟨vs⟩ true sd 0 false).heap.size=wr.heap.size:=by simp [World.setChan]
 have hH:=Go.Conc.heap_setChan wr (w.heap.size+1+1) 301 ⟨vs⟩ true sd 0 false (lt_of_block h1)
 have ko:∀ j,j ≠ w.heap.size+1+1→(wr.setChan (w.heap.size+1+1) 301 ⟨vs⟩ true sd 0 false).heap[j]? = wr.heap[j]?:=fun j hj=>by
  simp only [World.setChan]; rw [Array.getElem?_setIfInBounds_ne (by omega)]
 have kal:∀ j,j < wr.heap.size→((wr.setChan (w.heap.size+1+1) 301 ⟨vs⟩ true sd 0 false).alloc (.map #[] 0)).heap[j]? = (wr.setChan (w.heap.size+1+1) 301 ⟨vs⟩ true sd 0 false).heap[j]?:=fun j hj=>Below.heap_alloc _ _ _ (by rw [hs1]; exact hj)
 have own:∀ j ∈ (rx w.heap.size sb nr).own,j < wr.heap.size:=fun j hj=>F.lt j (F.ow j hj)
 have o0:w.heap.size < wr.heap.size:=own _ (by show _ ∈ [_,_,_,_,_,_,_]; simp [rx]);have o1:w.heap.size+1 < wr.heap.size:=own _ (by show _ ∈ [_,_,_,_,_,_,_]; simp [rx]);have o2:w.heap.size+2 < wr.heap.size:=lt_of_block h1;have hB2:Below w.heap.size w ((wr.setChan (w.heap.size+1+1) 301 ⟨vs⟩ true sd 0 false).alloc (.map #[] 0)):=(Go.Conc.below_setChan hb (by omega) 301 ⟨vs⟩ true sd 0 false).alloc (by rw [hs1]; exact hb.size) _;have hz:((wr.setChan (w.heap.size+1+1) 301 ⟨vs⟩ true sd 0 false).alloc (.map #[] 0)).heap.size=wr.heap.size+1:=by simp [hs1]
 refine ⟨hB2.mono (by show B0≤_; omega),fun j hj=>hB2.block j (lt.2.2 j hj),?_,?_,⟨vs,bb,?_,?_,?_⟩,?_,⟨0,[],fun _=>0,?_,Nat.le_refl _,fun s=>by simp,fun s hs=>by simp at hs⟩⟩
 ·show (World.alloc _ _).heap[w.heap.size]? = _
  rw [kal _ o0,ko _ (by omega)]; exact F.cS
 ·show (World.alloc _ _).heap[w.heap.size+1]? = _
  rw [kal _ o1,ko _ (by omega)]; exact F.cN
 ·show (World.alloc _ _).heap[w.heap.size+2]? = _
  rw [kal _ o2]; exact hH
 ·show Ia _ vs (List.drop 0 (newL fs told)) bb
  rw [List.drop_zero];refine h2.keep fun j hj=>?_
  have g:=h3 j hj;rw [kal _ (h2.lt j hj),ko _ (fun e=>g.2.2 (by rw [e]; show _ ∈ [_,_,_,_,_,_,_]; simp [rx]))]
 ·intro j hj
  have g:=h3 j hj;have gl:=h2.lt j hj;refine ⟨by simp [rcv,hj],hFb j (by omega),fun e=>g.2.2 (by rw [e]; show _ ∈ [_,_,_,_,_,_,_]; simp [rx]),?_⟩;show j ≠ wr.heap.size;omega
 ·have h:=(S.mono (Fb':=fun k=>Fb k∧k ≠ w.heap.size+2∧k ≠ wr.heap.size) fun x hx hl=>⟨hx,by omega,by omega⟩).more hB2 ([w.heap.size,w.heap.size+1,w.heap.size+2,wr.heap.size] ++ bb) (fun x hx=>by
   rw [hz]
   rcases List.mem_append.1 hx with hx | hx
   ·simp at hx; omega
   ·have:=(h3 x hx).2.1; have:=h2.lt x hx; omega)
  simpa [rcv] using h
 ·have:=iG.made (wr.setChan (w.heap.size+1+1) 301 ⟨vs⟩ true sd 0 false) (fun _=>0)
  rw [hs1] at this;exact this
theorem D.QI {α β:Type} (f:α→β) {ys xs:List β} (h:ys.Perm xs):∀ L:List α,xs=L.map f→∃ L':List α,L'.Perm L∧ys=L'.map f:=by
 induction h with
 | nil=>intro L e; exact ⟨L,List.Perm.refl _,e⟩
 | cons x _ ih=>
  intro L e
  cases L with
  | nil=>simp at e
  | cons a L=>
   simp only [List.map_cons,List.cons.injEq] at e;obtain ⟨L',h1,h2⟩:=ih L e.2;exact ⟨a :: L',h1.cons a,by rw [List.map_cons,e.1,h2]⟩
 | swap x y l=>
  intro L e
  match L,e with
  | [],e=>simp at e
  | [a],e=>simp at e
  | a :: b :: L,e=>
   simp only [List.map_cons,List.cons.injEq] at e;exact ⟨b :: a :: L,List.Perm.swap a b L,by rw [List.map_cons,List.map_cons,e.1,e.2.1,e.2.2]⟩
 | trans _ _ ih1 ih2=>
  intro L e;obtain ⟨L1,h1,h2⟩:=ih2 L e;obtain ⟨L2,h3,h4⟩:=ih1 L1 h2;exact ⟨L2,h3.trans h1,h4⟩
structure D.Fq where
 t:A
 c1:Value
 ba:List Nat
def D.Fq.cs (x:Fq):List Value:=[.string x.t.name,x.c1]
def D.Fq.fc (x:Fq):Fc:=⟨x.t,x.c1⟩
theorem D.chunks {L:List Value} {n:Nat} (h:L.length=n * 2):L=(List.range n).flatMap fun j=>(L.drop (j * 2)).take 2:=by
 have key:∀ k,k≤n→L.take (k * 2)=(List.range k).flatMap fun j=>(L.drop (j * 2)).take 2:=by
  intro k
  induction k with
  | zero=>intro _; simp
  | succ k ih=>
   intro hk;rw [List.range_succ,List.flatMap_append,← ih (by omega),Nat.add_mul,Nat.one_mul];simp [List.take_add]
 have:=key n (Nat.le_refl _)
 rwa [← h,List.take_length] at this
theorem D.QJ {w:World} {L:List Value} {xs:List A} {bs:List Nat} (h:aV 2 aU w L xs bs):∃ zs:List Fq,zs.map (·.t)=xs∧zs.flatMap (·.cs)=L∧zs.flatMap (·.ba)=bs∧∀ z ∈ zs,aU w [.string z.t.name,z.c1] z.t z.ba:=by
 obtain ⟨h1,h2,G,rfl,h3⟩:=h
 have hex:∀ j:Fin xs.length,∃ s,(L.drop (j.1 * 2)).take 2 = [.string xs[j.1].name,s]:=fun j=>by
  obtain ⟨s,e,_⟩:=h3 j.1 j.2;exact ⟨s,e⟩
 let f:Fin xs.length→Fq:=fun j=>⟨xs[j.1],Classical.choose (hex j),G j.1⟩
 have hf:∀ j:Fin xs.length,(f j).cs=(L.drop (j.1 * 2)).take 2:=fun j=>(Classical.choose_spec (hex j)).symm
 have hr:∀ (γ:Type) (q:Nat→List γ),(List.finRange xs.length).flatMap (fun j=>q j.1)=(List.range xs.length).flatMap q:=fun γ q=>by
  have e:List.range xs.length=(List.finRange xs.length).map (fun j=>j.1):=by
   apply List.ext_getElem
   ·simp
   ·intro i h1 h2
    simp
  rw [e,List.flatMap_map]
 refine ⟨(List.finRange xs.length).map f,?_,?_,?_,fun z hz=>?_⟩
 ·apply List.ext_getElem
  ·simp
  ·intro i h1 h2
   simp [f]
 ·rw [List.flatMap_map]
  rw [chunks h1]
  conv=>rhs; rw [← hr]
  refine congrArg (fun g=>List.flatMap g (List.finRange xs.length)) (funext fun j=>?_);exact hf j
 ·rw [List.flatMap_map]
  exact hr Nat G
 ·obtain ⟨j,_,rfl⟩:=List.mem_map.1 hz
  have:=h3 j.1 j.2;rw [← hf j] at this;exact this
theorem D.FT {w:World}:∀ {zs:List Fq},(∀ z ∈ zs,aU w [.string z.t.name,z.c1] z.t z.ba)→aV 2 aU w (zs.flatMap (·.cs)) (zs.map (·.t)) (zs.flatMap (·.ba))
 | [],_=>aV.nil
 | z :: zs,h=>by
  have h1:aV 2 aU w z.cs [z.t] z.ba:=aV.dB dP (h z (List.mem_cons_self ..));exact h1.append (FT fun y hy=>h y (List.mem_cons_of_mem _ hy))
theorem D.VK (zs:List Fq) (k:Nat) (h:k < zs.length):(zs.flatMap (·.cs))[k * 2]? = some (.string zs[k].t.name)∧(zs.flatMap (·.cs))[k * 2+1]? = some zs[k].c1:=by
 induction zs generalizing k with
 | nil=>simp at h
 | cons z zs ih=>
  cases k with
  | zero=>simp [Fq.cs]
  | succ k=>
   have:=ih k (by simpa using h);have e1:(k+1) * 2=k * 2+2:=by omega
   have e2:(k+1) * 2+1=k * 2+1+2:=by omega
   rw [e1,show k * 2+2+1=k * 2+1+2 by omega];simp only [List.flatMap_cons,Fq.cs,List.cons_append,List.nil_append,List.getElem?_cons_succ,List.getElem_cons_succ];exact this
theorem D.Ut (zs:List Fq):(zs.flatMap (·.cs)).length=zs.length * 2:=by
 induction zs with
 | nil=>rfl
 | cons z zs ih=>simp only [List.flatMap_cons,List.length_append,ih,List.length_cons]; simp [Fq.cs]; omega
theorem Ht (xs:List A) (v:Value) (L:List Value) (bs:List Nat) (base:Nat) (w:World) (C:cO 2 aU base 68 w v L xs bs) (hsz:xs.length < 4611686018427387904):
  Calls Tryz.prog 64 #[v,.func (.func 65) #[] #[]] w fun e w'=>e=.returned (.tuple #[])∧
   ∃ ys L' bs',ys.Perm xs∧ys.Pairwise (fun a b=>¬ bQ b a < 0)∧bs'.Perm bs∧cO 2 aU base 68 w' v L' ys bs'∧gW (fun x=>v.ownBlock=some x) w w':=by
 obtain ⟨zs,e1,e2,e3,hz⟩:=QJ C.row;obtain ⟨hlen,hown⟩:=C.own
 rcases hown with ⟨rfl,hL⟩ | ⟨g,cap,cur,rfl,hg,hh,hc1,hc2,hc3,hc4⟩
 ·have hx:xs = []:=List.length_eq_zero_iff.1 hL
  subst hx;refine (Go.Proofs.AnyF.slices_SortFunc_none Tryz.sortA none 0 (.func (.func 65) #[] #[]) w).mono ?_;rintro e w' ⟨rfl,rfl⟩;exact ⟨rfl,[],L,bs,List.Perm.refl _,List.Pairwise.nil,List.Perm.refl _,C,gW.refl _ _⟩
 ·have hgl:g < w.heap.size:=lt_of_block hh
  have hzl:zs.length=xs.length:=by rw [← e1]; simp
  have hgz:∀ z ∈ zs,g ∉ z.ba:=fun z hzm hm=>C.far g (by rw [← e3]; exact List.mem_flatMap.2 ⟨z,hzm,hm⟩) rfl
  have hcs:∀ q,q < xs.length * 2→w.cell? ⟨g,q,none⟩=L[q]?:=fun q hq=>by
   rw [ak hh,← hc4,List.getElem?_take_of_lt hq,Array.getElem?_toList]
  have hm:=Ej g cap (zs.map Fq.fc) w hgl (fun k x hk=>by
   rw [List.getElem?_map] at hk;obtain ⟨z,hzk,rfl⟩:=Option.map_eq_some_iff.1 hk;obtain ⟨hkl,rfl⟩:=List.getElem?_eq_some_iff.1 hzk;have:=VK zs k hkl;rw [e2] at this
   exact ⟨(hcs _ (by omega)).trans this.1,(hcs _ (by omega)).trans this.2⟩) (fun q=>aB hh) (fun x hx=>by
   obtain ⟨z,hzm,rfl⟩:=List.mem_map.1 hx
   exact ⟨z.ba,hz z hzm,hgz z hzm⟩) (by simp; omega)
  rw [List.length_map,hzl] at hm;refine hm.mono ?_;rintro e w' ⟨rfl,ys,hp,hs,hcy,hbut,hshape⟩;obtain ⟨zs',hp',rfl⟩:=QI Fq.fc hp zs rfl;obtain ⟨cur',hh',hsz'⟩:=hshape cur _ hh;have hl':zs'.length=xs.length:=by rw [hp'.length_eq,hzl]
  have hz':∀ z ∈ zs',aU w' [.string z.t.name,z.c1] z.t z.ba:=fun z hzm=>by
   have h1:=hz z (hp'.mem_iff.1 hzm);exact aj.keep h1 fun b hb=>hbut.block b (aj.lt h1 b hb) (fun e=>hgz z (hp'.mem_iff.1 hzm) (e ▸ hb))
  refine ⟨rfl,zs'.map (·.t),zs'.flatMap (·.cs),zs'.flatMap (·.ba),by rw [← e1]; exact hp'.map _,?_,by rw [← e3]; exact hp'.flatMap_right _,⟨⟨?_,.inr ⟨g,cap,cur',?_,hg,hh',?_,hc2,by rw [hsz']; exact hc3,?_⟩⟩,FT hz',fun b hb e=>?_⟩,?_⟩
  ·rw [List.pairwise_map] at hs ⊢
   exact hs
  ·rw [Ut]; simp
  ·rw [List.length_map,hl']
  ·rw [List.length_map,hl']; exact hc1
  ·apply List.ext_getElem?
   intro q;by_cases hq:q < xs.length * 2
   ·rw [List.getElem?_take_of_lt (by rw [List.length_map,hl']; exact hq),Array.getElem?_toList,← ak hh']
    have hk:q / 2 < zs'.length:=by omega
    have h1:=hcy (q / 2) (zs'[q / 2].fc) (by rw [List.getElem?_map,List.getElem?_eq_getElem hk]; rfl);have h2:=VK zs' (q / 2) hk
    rcases (show q=q / 2 * 2∨q=q / 2 * 2+1 by omega) with e | e
    ·rw [e]
     have e':q / 2 * 2 / 2=q / 2:=by omega
     simp only [e'] at *;exact h1.1.trans h2.1.symm
    ·rw [e]
     have e':(q / 2 * 2+1) / 2=q / 2:=by omega
     simp only [e'] at *;exact h1.2.trans h2.2.symm
   ·rw [List.getElem?_eq_none (by simp; omega),List.getElem?_eq_none (by rw [Ut]; omega)]
  ·obtain ⟨z,hzm,hb⟩:=List.mem_flatMap.1 hb
   injection e with e
   have e':g=b:=e;exact hgz z (hp'.mem_iff.1 hzm) (e' ▸ hb)
  ·exact ⟨hbut.os,hbut.tape,hbut.output,hbut.size,fun k hk hne=>hbut.block k hk fun e=>hne (by rw [e]; rfl)⟩
theorem D.NZ {ts:List A} (hf:∀ t ∈ ts,aX t) (hn:ts.Nodup) (hs:ts.Pairwise (fun a b=>¬ bQ b a < 0)):ig ts=true:=by
 rw [wU];intro i hi;have h1:=List.pairwise_iff_getElem.1 hs i (i+1) (by omega) hi (by omega);have h2:=List.pairwise_iff_getElem.1 hn i (i+1) (by omega) hi (by omega);by_cases h0:bQ ts[i] ts[i+1]=0
 ·exact absurd (VF (hf _ (List.getElem_mem _)).gr (hf _ (List.getElem_mem _)).gr h0) h2
 ·rw [jB] at h0 h1 ⊢
  have h4:=F8.anti (rV ts[i+1]) (rV ts[i]);omega
end Go.Proofs.YtiidmgchadagbaaGreatDoor
