/- Of the proof of FnDelta: RouP, SrtP, RouI. -/
import Derived.Test.YtkjinanbccloeaaGreatDoorA43
import Derived.Deep.CutBlock
set_option linter.unusedVariables false
set_option maxHeartbeats 4000000
set_option maxRecDepth 100000
namespace Go.Proofs.YtkjinanbccloeaaGreatDoor
section
open Go.RowKit D
theorem D.Si (w:World) (o:Obj) (k:Nat):(w.alloc o).heap[k]? = if k=w.heap.size then some o else w.heap[k]?:=by
 by_cases h:k=w.heap.size
 ·rw [if_pos h,h]; exact ω w o
 ·rw [if_neg h]
  by_cases y:k < w.heap.size
  ·exact Below.heap_alloc w o k y
  ·have I:(w.alloc o).heap.size=w.heap.size+1:=by simp
   rw [Array.getElem?_eq_none (by omega),Array.getElem?_eq_none (by omega)]
def D.rx (z sb nr:Nat):qN:=⟨z+1+1+1+1+1,z,z+1,z+1+1+1+1+1+1,z+1+1+1,z+1+1+1+1,z+1+1,sb,nr⟩
def D.rW (w:World) (sb nr:Nat):World:=(((((((w.alloc (.cells #[.pointer (some ⟨sb,0,none⟩)] 100)).alloc (.cells #[.int .i64 nr] 3)).alloc (.chan 301 #[] false 0 0 false)).alloc (.cells #[.chan (some (w.heap.size+1+1))] 262)).alloc (.map #[] 0)).alloc
 (.cells #[.map (some (w.heap.size+1+1+1+1))] 116)).alloc (.cells #[.bool true] 4))
theorem D.P6 (w:World) (sb nr:Nat):(rW w sb nr).heap.size=w.heap.size+7:=by unfold rW; simp
theorem D.uJ (w:World) (sb nr:Nat) (k:Nat):(rW w sb nr).heap[k]? = if k=w.heap.size+6 then some (.cells #[.bool true] 4) else if k=w.heap.size+5 then some (.cells #[.map (some (w.heap.size+1+1+1+1))] 116) else if k=w.heap.size+4 then some (.map #[] 0) else
  if k=w.heap.size+3 then some (.cells #[.chan (some (w.heap.size+1+1))] 262) else if k=w.heap.size+2 then some (.chan 301 #[] false 0 0 false) else if k=w.heap.size+1 then some (.cells #[.int .i64 nr] 3) else if k=w.heap.size then some (.cells #[.pointer (some ⟨sb,0,none⟩)] 100) else w.heap[k]?:=by
 unfold rW;simp only [Si];simp
theorem D.Nj (w:World) (sb nr:Nat):Below w.heap.size w (rW w sb nr):=by
 refine ⟨rfl,rfl,rfl,by rw [P6]; omega,fun k y=>?_⟩;rw [uJ];simp only [show ¬ k=w.heap.size+6 by omega,show ¬ k=w.heap.size+5 by omega,show ¬ k=w.heap.size+4 by omega,show ¬ k=w.heap.size+3 by omega,show ¬ k=w.heap.size+2 by omega,show ¬ k=w.heap.size+1 by omega,show ¬ k=w.heap.size by omega,if_false]
theorem D.Sj (w:World) (sb nr:Nat) (fs:List A) (rn I:List Nat) (J:kR sb fs rn I w) (hl:fs.length≤300):nN (rx w.heap.size sb nr) w.heap.size fs I (rW w sb nr) [] (I ++ (rx w.heap.size sb nr).own):=by
 have hb:=Nj w sb nr;have U:newL fs [] = []:=rfl;have lt:=J.lt;have es:(rx w.heap.size sb nr).own = [w.heap.size+5,w.heap.size,w.heap.size+1,w.heap.size+6,w.heap.size+3,w.heap.size+4,w.heap.size+2]:=rfl;refine ⟨?_,?_,?_,?_,?_,?_,⟨[],0,[],?_,?_,?_⟩,⟨rn,J.below hb⟩,by rw [U]; simpa using hl,fun t ht=>by simp at ht,?_,?_,?_,?_,?_⟩
 ·show (rW w sb nr).heap[w.heap.size+5]? = _
  rw [uJ]; simp; rfl
 ·show (rW w sb nr).heap[w.heap.size]? = _
  rw [uJ]; simp; rfl
 ·show (rW w sb nr).heap[w.heap.size+1]? = _
  rw [uJ]; simp; rfl
 ·show (rW w sb nr).heap[w.heap.size+6]? = _
  rw [uJ]; simp
 ·show (rW w sb nr).heap[w.heap.size+3]? = _
  rw [uJ]; simp; rfl
 ·rw [U]
  have:(rW w sb nr).heap[w.heap.size+4]? = some (.map #[] 0):=by rw [uJ]; simp
  exact ⟨⟨#[],0,this,rfl⟩,fun p h=>by simp [yV] at h,List.Pairwise.nil⟩
 ·show (rW w sb nr).heap[w.heap.size+2]? = _
  rw [uJ]; simp
 ·rw [U]; rfl
 ·exact fun k y=>by simp at y
 ·rw [es]; simp
 ·exact fun k y=>Ω _ y
 ·intro k y
  have:=lt k y;refine ⟨Ξ _ y,fun hm=>?_⟩;rw [es] at hm; simp at hm; omega
 ·show w.heap.size≤w.heap.size+5; omega
 ·intro k y
  rw [P6]
  rcases μ.1 y with y | y
  ·have:=lt k y; omega
  ·rw [es] at y; simp at y; omega
theorem D.VA {rs:List Ru} {xs:List A} {k:Nat} (h:k < rs.length) (t:A):(∃ r ∈ rs.take (k+1),lK xs r t) ↔ (∃ r ∈ rs.take k,lK xs r t)∨lK xs rs[k] t:=by
 rw [ρ h];constructor
 ·rintro ⟨r,hr,hf⟩
  rcases μ.1 hr with hr | hr
  ·exact .inl ⟨r,hr,hf⟩
  ·rw [List.mem_singleton.1 hr] at hf; exact .inr hf
 ·rintro (⟨r,hr,hf⟩ | hf)
  ·exact ⟨r,Ξ _ hr,hf⟩
  ·exact ⟨_,Ω _ (List.mem_singleton.2 rfl),hf⟩
structure D.Xl where
 B:Nat
 sb:Nat
 mu:Nat
 mp:Nat
 nr:Nat
 B0:Nat
 bS:Nat
 bN:Nat
 ch:Nat
 mc:Nat
 sd:Nat
 Fb:Nat→Prop
 fr:List Nat
 f2:List Nat
 fs:List A
 rn:List Nat
 new:List A
structure D.Nk (x:Xl):Prop where
 sub:∀ k ∈ x.fr,k ∈ x.f2
 mS:x.bS ∈ x.f2
 mN:x.bN ∈ x.f2
 mH:x.ch ∈ x.f2
 mM:x.mc ∈ x.f2
 nH:¬ x.Fb x.ch
 nM:¬ x.Fb x.mc
 df:x.bS ≠ x.ch∧x.bN ≠ x.ch∧x.mc ≠ x.ch∧x.mc ≠ x.bS∧x.mc ≠ x.bN
 fh:x.ch ∉ x.fr
 fm:x.mc ∉ x.fr
 lH:x.B0≤x.ch
 lM:x.B0≤x.mc
 b0:x.B0≤x.sb∧x.B0≤x.mu∧x.B0≤x.mp∧x.B0≤x.B
 fok:∀ f ∈ x.fs,aW f
 nok:∀ f ∈ x.new,aW f
 nd:x.new.Nodup
 no:∀ t ∈ x.new,t ∉ x.fs
 few:x.fs.length+x.new.length≤300
 rfew:x.rn.length≤300
structure D.Ez (x:Xl) (w:World) (k:Nat) (wr:World):Prop where
 bel:Below x.B0 w wr
 kep:∀ k ∈ x.fr,wr.heap[k]? = w.heap[k]?
 cS:wr.heap[x.bS]? = some (.cells #[.pointer (some ⟨x.sb,0,none⟩)] 100 (0,0))
 cN:wr.heap[x.bN]? = some (.cells #[.int .i64 x.nr] 3 (0,0))
 chn:∃ vs bb,wr.heap[x.ch]? = some (.chan 301 ⟨vs⟩ true x.sd k false)∧IW wr vs (x.new.drop k) bb∧∀ k ∈ bb,k ∈ x.f2∧x.Fb k
 sN:jJ x.B x.sb x.mu x.mp x.Fb x.f2 (x.fs ++ x.new.take k) (x.rn ++ List.replicate k x.nr) wr
 cam:∃ n L f,iI x.mc n L f wr∧n≤k∧(∀ s,s ∈ L ↔ ∃ t ∈ x.new.take k,t.name=s)∧∀ s ∈ L,1≤f s∧f s≤(k:Int)
structure D.rZ (x:Xl) (w:World) (k:Nat) (a:A) (c:Value) (ba:List Nat) (wr:World):Prop where
 bel:Below x.B0 w wr
 kep:∀ k ∈ x.fr,wr.heap[k]? = w.heap[k]?
 cS:wr.heap[x.bS]? = some (.cells #[.pointer (some ⟨x.sb,0,none⟩)] 100 (0,0))
 cN:wr.heap[x.bN]? = some (.cells #[.int .i64 x.nr] 3 (0,0))
 chn:∃ vs bb,wr.heap[x.ch]? = some (.chan 301 ⟨vs⟩ true x.sd (k+1) false)∧IW wr vs (x.new.drop (k+1)) bb∧∀ k ∈ bb,k ∈ x.f2∧x.Fb k
 sN:jJ x.B x.sb x.mu x.mp x.Fb x.f2 (x.fs ++ x.new.take k) (x.rn ++ List.replicate k x.nr) wr
 cam:∃ n L f,iI x.mc n L f wr∧n≤k∧(∀ s,s ∈ L ↔ ∃ t ∈ x.new.take k,t.name=s)∧∀ s ∈ L,1≤f s∧f s≤(k:Int)
 at':aJ wr [.string a.name,c] a ba
 bas:∀ k ∈ ba,k ∈ x.f2∧x.Fb k
theorem D.Ez.recv {x:Xl} (X:Nk x) {w:World} {k:Nat} {wr:World} (h:Ez x w k wr) (hk:k < x.new.length):
  ∃ c vs ba,wr.heap[x.ch]? = some (.chan 301 ⟨.agg #[.string x.new[k].name,c] :: vs⟩ true x.sd k false)∧rZ x w k x.new[k] c ba (wr.setChan x.ch 301 ⟨vs⟩ true x.sd (k+1) false):=by
 obtain ⟨U,bb,h1,h2,J⟩:=h.chn;rw [List.drop_eq_getElem_cons hk] at h2
 cases U with
 | nil=>exact h2.elim
 | cons v vs=>
  obtain ⟨c,b1,b2,rfl,rfl,h4,h5⟩:=h2;have a0:=ψ h1;have hc:=Go.Conc.heap_setChan wr x.ch 301 ⟨vs⟩ true x.sd (k+1) false a0
  have I:∀ j,j ≠ x.ch→(wr.setChan x.ch 301 ⟨vs⟩ true x.sd (k+1) false).heap[j]? = wr.heap[j]?:=fun j y=>by
   simp only [World.setChan]; rw [Array.getElem?_setIfInBounds_ne (by omega)]
  have hs:(wr.setChan x.ch 301 ⟨vs⟩ true x.sd (k+1) false).heap.size=wr.heap.size:=by simp [World.setChan]
  have nF:∀ j,x.Fb j→j ≠ x.ch:=fun j y e=>X.nH (e ▸ y)
  obtain ⟨n,L,f,m1,m2⟩:=h.cam
  refine ⟨c,vs,b1,h1,⟨?_,fun j y=>(I j (fun e=>X.fh (e ▸ y))).trans (h.kep j y),(I _ X.df.1).trans h.cS,(I _ X.df.2.1).trans h.cN,⟨vs,b2,hc,h5.keep fun j y=>I j (nF j (J j (Ω _ y)).2),fun j y=>J j (Ω _ y)⟩,
   h.sN.other X.mH X.nH (by rw [hs]; exact ν) (fun j _ y=>I j y),⟨n,L,f,m1.same (I _ X.df.2.2.1),m2⟩,au.keep h4 fun j y=>I j (nF j (J j (Ξ _ y)).2),fun j y=>J j (Ξ _ y)⟩⟩
  exact Go.Conc.below_setChan h.bel X.lH 301 ⟨vs⟩ true x.sd (k+1) false
theorem D.rZ.later {x:Xl} (X:Nk x) {w:World} {k:Nat} {a:A} {c:Value} {ba:List Nat} {wr w':World} (h:rZ x w k a c ba wr) (I:Below wr.heap.size wr w'):rZ x w k a c ba w':=by
 have lt:=h.sN.lt;have b0:=X.b0;have k2:∀ j ∈ x.f2,w'.heap[j]? = wr.heap[j]?:=fun j y=>I.block j (lt.2.2 j y)
 obtain ⟨vs,bb,h1,U,J⟩:=h.chn;obtain ⟨n,L,f,m1,m2⟩:=h.cam
 exact ⟨h.bel.trans (I.mono (by omega)),fun j y=>(k2 j (X.sub j y)).trans (h.kep j y),(k2 _ X.mS).trans h.cS,(k2 _ X.mN).trans h.cN,⟨vs,bb,(k2 _ X.mH).trans h1,U.keep fun j y=>k2 j (J j y).1,J⟩,h.sN.later I,⟨n,L,f,m1.same (k2 _ X.mM),m2⟩,
  au.keep h.at' fun j y=>k2 j (h.bas j y).1,h.bas⟩
theorem D.rZ.done {x:Xl} (X:Nk x) {w:World} {k:Nat} (hk:k < x.new.length) {c:Value} {ba:List Nat} {wr U w6:World} (h:rZ x w k x.new[k] c ba wr) (hb:Below x.B0 wr U) (hS:jJ x.B x.sb x.mu x.mp x.Fb x.f2 (x.fs ++ x.new.take k ++ [x.new[k]]) (x.rn ++ List.replicate k x.nr ++ [x.nr]) U)
  (hf:∀ j ∈ x.f2,U.heap[j]? = wr.heap[j]?) {n:Nat} {L:List ByteArray} {f:ByteArray→Int} (hM:iI x.mc (n+1) (gU L x.new[k].name) (fun t=>if t=x.new[k].name then (if x.new[k].name ∈ L then f x.new[k].name else 0)+1 else f t) w6) (hg:U.grownBy w6 (some x.mc))
  (hn:n≤k) (hL:∀ s,s ∈ L ↔ ∃ t ∈ x.new.take k,t.name=s) (hv:∀ s ∈ L,1≤f s∧f s≤(k:Int)):Ez x w (k+1) w6:=by
 have a0:=hS.lt;have k6:∀ j,j < U.heap.size→j ≠ x.mc→w6.heap[j]? = U.heap[j]?:=fun j h1 h2=>hg.block j h1 (fun e=>h2 (by injection e))
 have nF:∀ j,x.Fb j→j ≠ x.mc:=fun j y e=>X.nM (e ▸ y)
 have kk:∀ j ∈ x.f2,j ≠ x.mc→w6.heap[j]? = wr.heap[j]?:=fun j y I=>(k6 j (a0.2.2 j y) I).trans (hf j y)
 obtain ⟨vs,bb,h1,h2,h3⟩:=h.chn;have et:x.new.take (k+1)=x.new.take k ++ [x.new[k]]:=ρ hk;refine ⟨?_,fun j y=>(kk j (X.sub j y) (fun e=>X.fm (e ▸ y))).trans (h.kep j y),(kk _ X.mS X.df.2.2.2.1.symm).trans h.cS,(kk _ X.mN X.df.2.2.2.2.symm).trans h.cN,⟨vs,bb,(kk _ X.mH X.df.2.2.1.symm).trans h1,h2.keep fun j y=>kk j (h3 j y).1 (nF j (h3 j y).2),h3⟩,?_,⟨n+1,_,_,hM,by omega,fun s=>?_,fun s hs=>?_⟩⟩
 ·exact (h.bel.trans hb).grown hg (by have:=X.b0; omega) fun j e=>by injection e with e; have:=X.lM; omega
 ·rw [et,← List.append_assoc,List.replicate_succ',← List.append_assoc]
  exact hS.other X.mM X.nM hg.size (fun j h1 h2=>k6 j h1 h2)
 ·rw [jq,hL,et]
  constructor
  ·rintro (⟨t,J,e⟩ | e)
   ·exact ⟨t,Ξ _ J,e⟩
   ·exact ⟨x.new[k],Ω _ (List.mem_singleton.2 rfl),e.symm⟩
  ·rintro ⟨t,J,e⟩
   rcases μ.1 J with J | J
   ·exact .inl ⟨t,J,e⟩
   ·rw [List.mem_singleton.1 J] at e; exact .inr e.symm
 ·show 1≤(if s=x.new[k].name then _ else f s)∧(if s=x.new[k].name then _ else f s)≤((k+1:Nat):Int)
  split
  ·split
   ·rename_i hm
    have:=hv _ hm;omega
   ·omega
  ·rename_i I
   rcases jq.1 hs with h | h
   ·have:=hv s h; omega
   ·exact absurd h I
def D.rcv (B sb mu mp nr B0 z mc sd:Nat) (Fb:Nat→Prop) (fr bb:List Nat) (fs:List A) (rn:List Nat) (new:List A):Xl:=
 ⟨B,sb,mu,mp,nr,B0,z,z+1,z+1+1,mc,sd,fun k=>Fb k∧k ≠ z+2∧k ≠ mc,fr,fr ++ ([z,z+1,z+2,mc] ++ bb),fs,rn,new⟩
theorem D.X5 {B sb mu mp nr B0 mc sd:Nat} {Fb:Nat→Prop} {fr bb y fb:List Nat} {fs told:List A} {rn:List Nat} {w wr:World} (S:jJ B sb mu mp Fb fr fs rn w) (F:nN (rx w.heap.size sb nr) w.heap.size fs y wr told fb) (hb:w.heap.size < wr.heap.size) (a0:mc=wr.heap.size) (I:B0≤sb∧B0≤mu∧B0≤mp∧B0≤B) (J:∀ f ∈ fs,aW f) (U:rn.length≤300):
  Nk (rcv B sb mu mp nr B0 w.heap.size mc sd Fb fr bb fs rn (newL fs told)):=by
 have lt:=S.lt;have hn:=qK fs told;have l2:w.heap.size+2 < wr.heap.size:=F.lt _ (F.ow (w.heap.size+2) (by show _ ∈ [_,_,_,_,_,_,_]; simp [rx]));refine ⟨fun k hk=>Ξ _ hk,by simp [rcv],by simp [rcv],by simp [rcv],by simp [rcv],fun h=>h.2.1 rfl,fun h=>h.2.2 rfl,?_,fun h=>?_,fun h=>?_,?_,?_,I,J,fun t ht=>F.tok t ((hn.2 t).1 ht).1,hn.1,fun t ht=>((hn.2 t).1 ht).2,F.few,U⟩
 ·simp only [rcv]; omega
 ·have h1:w.heap.size+2 < w.heap.size:=lt.2.2 _ h; omega
 ·have h1:mc < w.heap.size:=lt.2.2 _ h; omega
 ·simp only [rcv]; omega
 ·simp only [rcv]; omega
theorem D.Sl {B sb mu mp nr B0 sd:Nat} {Fb:Nat→Prop} {fr bb a1 fb:List Nat} {fs told:List A} {rn:List Nat} {w wr:World} {vs:List Value} (a2:∀ x,B≤x→Fb x) (S:jJ B sb mu mp Fb fr fs rn w) (F:nN (rx w.heap.size sb nr) w.heap.size fs a1 wr told fb) (hb:Below w.heap.size w wr) (a3:B0≤sb∧B0≤mu∧B0≤mp∧B0≤B)
  (h1:wr.heap[w.heap.size+1+1]? = some (.chan 301 ⟨vs⟩ false sd 0 false)) (h2:IW wr vs (newL fs told) bb) (h3:∀ k ∈ bb,k ∈ fb∧w.heap.size≤k∧k ∉ (rx w.heap.size sb nr).own):
  Ez (rcv B sb mu mp nr B0 w.heap.size wr.heap.size sd Fb fr bb fs rn (newL fs told)) w 0 ((wr.setChan (w.heap.size+1+1) 301 ⟨vs⟩ true sd 0 false).alloc (.map #[] 0)):=by
 have lt:=S.lt;have I:(wr.setChan (w.heap.size+1+1) 301 ⟨vs⟩ true sd 0 false).heap.size=wr.heap.size:=by simp [World.setChan]
 have hH:=Go.Conc.heap_setChan wr (w.heap.size+1+1) 301 ⟨vs⟩ true sd 0 false (ψ h1)
 have ko:∀ j,j ≠ w.heap.size+1+1→(wr.setChan (w.heap.size+1+1) 301 ⟨vs⟩ true sd 0 false).heap[j]? = wr.heap[j]?:=fun j y=>by
  simp only [World.setChan]; rw [Array.getElem?_setIfInBounds_ne (by omega)]
 have J:∀ j,j < wr.heap.size→((wr.setChan (w.heap.size+1+1) 301 ⟨vs⟩ true sd 0 false).alloc (.map #[] 0)).heap[j]? = (wr.setChan (w.heap.size+1+1) 301 ⟨vs⟩ true sd 0 false).heap[j]?:=fun j y=>Below.heap_alloc _ _ _ (by rw [I]; exact y)
 have own:∀ j ∈ (rx w.heap.size sb nr).own,j < wr.heap.size:=fun j y=>F.lt j (F.ow j y)
 have o0:w.heap.size < wr.heap.size:=own _ (by show _ ∈ [_,_,_,_,_,_,_]; simp [rx]);have o1:w.heap.size+1 < wr.heap.size:=own _ (by show _ ∈ [_,_,_,_,_,_,_]; simp [rx]);have o2:w.heap.size+2 < wr.heap.size:=ψ h1;have a0:Below w.heap.size w ((wr.setChan (w.heap.size+1+1) 301 ⟨vs⟩ true sd 0 false).alloc (.map #[] 0)):=(Go.Conc.below_setChan hb (by omega) 301 ⟨vs⟩ true sd 0 false).alloc (by rw [I]; exact hb.size) _;have hz:((wr.setChan (w.heap.size+1+1) 301 ⟨vs⟩ true sd 0 false).alloc (.map #[] 0)).heap.size=wr.heap.size+1:=by simp [I]
 refine ⟨a0.mono (by show B0≤_; omega),fun j y=>a0.block j (lt.2.2 j y),?_,?_,⟨vs,bb,?_,?_,?_⟩,?_,⟨0,[],fun _=>0,?_,ν,fun s=>by simp,fun s hs=>by simp at hs⟩⟩
 ·show (World.alloc _ _).heap[w.heap.size]? = _
  rw [J _ o0,ko _ (by omega)]; exact F.cS
 ·show (World.alloc _ _).heap[w.heap.size+1]? = _
  rw [J _ o1,ko _ (by omega)]; exact F.cN
 ·show (World.alloc _ _).heap[w.heap.size+2]? = _
  rw [J _ o2]; exact hH
 ·show IW _ vs (List.drop 0 (newL fs told)) bb
  rw [List.drop_zero];refine h2.keep fun j y=>?_
  have g:=h3 j y;rw [J _ (h2.lt j y),ko _ (fun e=>g.2.2 (by rw [e]; show _ ∈ [_,_,_,_,_,_,_]; simp [rx]))]
 ·intro j y
  have g:=h3 j y;have gl:=h2.lt j y;refine ⟨by simp [rcv,y],a2 j (by omega),fun e=>g.2.2 (by rw [e]; show _ ∈ [_,_,_,_,_,_,_]; simp [rx]),?_⟩;show j ≠ wr.heap.size;omega
 ·have h:=(S.mono (Fb':=fun k=>Fb k∧k ≠ w.heap.size+2∧k ≠ wr.heap.size) fun x U hl=>⟨U,by omega,by omega⟩).more a0 ([w.heap.size,w.heap.size+1,w.heap.size+2,wr.heap.size] ++ bb) (fun x U=>by
   rw [hz]
   rcases μ.1 U with U | U
   ·simp at U; omega
   ·have:=(h3 x U).2.1; have:=h2.lt x U; omega)
  simpa [rcv] using h
 ·have:=iI.made (wr.setChan (w.heap.size+1+1) 301 ⟨vs⟩ true sd 0 false) (fun _=>0)
  rw [I] at this;exact this
theorem D.Sr {α β:Type} (f:α→β) {ys xs:List β} (h:ys.Perm xs):∀ L:List α,xs=L.map f→∃ I:List α,I.Perm L∧ys=I.map f:=by
 induction h with
 | nil=>intro L e; exact ⟨L,List.Perm.refl _,e⟩
 | cons x _ ih=>
  intro L e
  cases L with
  | nil=>simp at e
  | cons a L=>
   simp only [List.map_cons,List.cons.injEq] at e;obtain ⟨I,h1,J⟩:=ih L e.2;exact ⟨a :: I,h1.cons a,by rw [List.map_cons,e.1,J]⟩
 | swap x y l=>
  intro L e
  match L,e with
  | [],e=>simp at e
  | [a],e=>simp at e
  | a :: b :: L,e=>
   simp only [List.map_cons,List.cons.injEq] at e;exact ⟨b :: a :: L,List.Perm.swap a b L,by rw [List.map_cons,List.map_cons,e.1,e.2.1,e.2.2]⟩
 | trans _ _ ih1 ih2=>
  intro L e;obtain ⟨U,h1,J⟩:=ih2 L e;obtain ⟨L2,h3,h4⟩:=ih1 U J;exact ⟨L2,h3.trans h1,h4⟩
structure D.Fq where
 t:A
 c1:Value
 ba:List Nat
def D.Fq.cs (x:Fq):List Value:=[.string x.t.name,x.c1]
def D.Fq.fc (x:Fq):Fc:=⟨x.t,x.c1⟩
theorem D.chunks {L:List Value} {n:Nat} (h:L.length=n * 2):L=(List.range n).flatMap fun j=>(L.drop (j * 2)).take 2:=by
 have key:∀ k,k≤n→L.take (k * 2)=(List.range k).flatMap fun j=>(L.drop (j * 2)).take 2:=by
  intro k
  induction k with
  | zero=>intro _; simp
  | succ k ih=>
   intro y;rw [List.range_succ,List.flatMap_append,← ih (by omega),Nat.add_mul,Nat.one_mul];simp [List.take_add]
 have:=key n ν
 rwa [← h,List.take_length] at this
theorem D.Sv {w:World} {L:List Value} {xs:List A} {bs:List Nat} (h:aT 2 aJ w L xs bs):∃ zs:List Fq,zs.map (·.t)=xs∧zs.flatMap (·.cs)=L∧zs.flatMap (·.ba)=bs∧∀ z ∈ zs,aJ w [.string z.t.name,z.c1] z.t z.ba:=by
 obtain ⟨h1,y,G,rfl,I⟩:=h
 have hex:∀ j:Fin xs.length,∃ s,(L.drop (j.1 * 2)).take 2 = [.string xs[j.1].name,s]:=fun j=>by
  obtain ⟨s,e,_⟩:=I j.1 j.2;exact ⟨s,e⟩
 let f:Fin xs.length→Fq:=fun j=>⟨xs[j.1],Classical.choose (hex j),G j.1⟩
 have hf:∀ j:Fin xs.length,(f j).cs=(L.drop (j.1 * 2)).take 2:=fun j=>(Classical.choose_spec (hex j)).symm
 have hr:∀ (γ:Type) (q:Nat→List γ),(List.finRange xs.length).flatMap (fun j=>q j.1)=(List.range xs.length).flatMap q:=fun γ q=>by
  have e:List.range xs.length=(List.finRange xs.length).map (fun j=>j.1):=by
   apply List.ext_getElem
   ·simp
   ·intro i h1 y
    simp
  rw [e,List.flatMap_map]
 refine ⟨(List.finRange xs.length).map f,?_,?_,?_,fun z J=>?_⟩
 ·apply List.ext_getElem
  ·simp
  ·intro i h1 y
   simp [f]
 ·rw [List.flatMap_map]
  rw [chunks h1]
  conv=>rhs; rw [← hr]
  refine congrArg (fun g=>List.flatMap g (List.finRange xs.length)) (funext fun j=>?_);exact hf j
 ·rw [List.flatMap_map]
  exact hr Nat G
 ·obtain ⟨j,_,rfl⟩:=List.mem_map.1 J
  have:=I j.1 j.2;rw [← hf j] at this;exact this
theorem D.GX {w:World}:∀ {zs:List Fq},(∀ z ∈ zs,aJ w [.string z.t.name,z.c1] z.t z.ba)→aT 2 aJ w (zs.flatMap (·.cs)) (zs.map (·.t)) (zs.flatMap (·.ba))
 | [],_=>aT.nil
 | z :: zs,h=>by
  have h1:aT 2 aJ w z.cs [z.t] z.ba:=aT.dH eY (h z Γ);exact h1.append (GX fun y I=>h y (Δ _ I))
theorem D.Xm (zs:List Fq) (k:Nat) (h:k < zs.length):(zs.flatMap (·.cs))[k * 2]? = some (.string zs[k].t.name)∧(zs.flatMap (·.cs))[k * 2+1]? = some zs[k].c1:=by
 induction zs generalizing k with
 | nil=>simp at h
 | cons z zs ih=>
  cases k with
  | zero=>simp [Fq.cs]
  | succ k=>
   have:=ih k (by simpa using h);have y:(k+1) * 2=k * 2+2:=by omega
   have I:(k+1) * 2+1=k * 2+1+2:=by omega
   rw [y,show k * 2+2+1=k * 2+1+2 by omega];simp only [List.flatMap_cons,Fq.cs,List.cons_append,List.nil_append,List.getElem?_cons_succ,List.getElem_cons_succ];exact this
theorem D.VB (zs:List Fq):(zs.flatMap (·.cs)).length=zs.length * 2:=by
 induction zs with
 | nil=>rfl
 | cons z zs ih=>simp only [List.flatMap_cons,χ,ih,List.length_cons]; simp [Fq.cs]; omega
theorem IL (xs:List A) (v:Value) (L:List Value) (bs:List Nat) (base:Nat) (w:World) (C:aY 2 aJ base 33 w v L xs bs) (av:xs.length < 4611686018427387904):
  Calls Tryz.prog 103 #[v,.func (.func 64) #[] #[]] w fun e w'=>e=.returned (.tuple #[])∧
   ∃ ys L' bs',ys.Perm xs∧ys.Pairwise (fun a b=>¬ bU b a < 0)∧bs'.Perm bs∧aY 2 aJ base 33 w' v L' ys bs'∧gX (fun x=>v.ownBlock=some x) w w':=by
 obtain ⟨zs,e1,e2,e3,hz⟩:=Sv C.row;obtain ⟨hlen,a3⟩:=C.own
 rcases a3 with ⟨rfl,hL⟩ | ⟨g,cap,a9,rfl,hg,hh,aa,ab,ac,ae⟩
 ·have hx:xs = []:=List.length_eq_zero_iff.1 hL
  subst hx;refine (Go.Proofs.AnyF.slices_SortFunc_none Tryz.sortA none 0 (.func (.func 64) #[] #[]) w).mono ?_;rintro e w' ⟨rfl,rfl⟩;exact ⟨rfl,[],L,bs,List.Perm.refl _,List.Pairwise.nil,List.Perm.refl _,C,gX.refl _ _⟩
 ·have af:g < w.heap.size:=ψ hh
  have a4:zs.length=xs.length:=by rw [← e1]; simp
  have a1:∀ z ∈ zs,g ∉ z.ba:=fun z I hm=>C.far g (by rw [← e3]; exact List.mem_flatMap.2 ⟨z,I,hm⟩) rfl
  have a5:∀ q,q < xs.length * 2→w.cell? ⟨g,q,none⟩=L[q]?:=fun q hq=>by
   rw [ai hh,← ae,List.getElem?_take_of_lt hq,Array.getElem?_toList]
  have hm:=Fe g cap (zs.map Fq.fc) w af (fun k x hk=>by
   rw [List.getElem?_map] at hk;obtain ⟨z,ag,rfl⟩:=Option.map_eq_some_iff.1 hk;obtain ⟨am,rfl⟩:=List.getElem?_eq_some_iff.1 ag;have:=Xm zs k am;rw [e2] at this
   exact ⟨(a5 _ (by omega)).trans this.1,(a5 _ (by omega)).trans this.2⟩) (fun q=>ax hh) (fun x hx=>by
   obtain ⟨z,I,rfl⟩:=List.mem_map.1 hx
   exact ⟨z.ba,hz z I,a1 z I⟩) (by simp; omega)
  rw [List.length_map,a4] at hm;refine hm.mono ?_;rintro e w' ⟨rfl,ys,hp,hs,ao,y,a0⟩;obtain ⟨J,U,rfl⟩:=Sr Fq.fc hp zs rfl;obtain ⟨a6,a7,a8⟩:=a0 a9 _ hh;have a2:J.length=xs.length:=by rw [U.length_eq,a4]
  have aq:∀ z ∈ J,aJ w' [.string z.t.name,z.c1] z.t z.ba:=fun z I=>by
   have h1:=hz z (U.mem_iff.1 I);exact au.keep h1 fun b hb=>y.block b (au.lt h1 b hb) (fun e=>a1 z (U.mem_iff.1 I) (e ▸ hb))
  refine ⟨rfl,J.map (·.t),J.flatMap (·.cs),J.flatMap (·.ba),by rw [← e1]; exact U.map _,?_,by rw [← e3]; exact U.flatMap_right _,⟨⟨?_,.inr ⟨g,cap,a6,?_,hg,a7,?_,ab,by rw [a8]; exact ac,?_⟩⟩,GX aq,fun b hb e=>?_⟩,?_⟩
  ·rw [List.pairwise_map] at hs ⊢
   exact hs
  ·rw [VB]; simp
  ·rw [List.length_map,a2]
  ·rw [List.length_map,a2]; exact aa
  ·apply List.ext_getElem?
   intro q;by_cases hq:q < xs.length * 2
   ·rw [List.getElem?_take_of_lt (by rw [List.length_map,a2]; exact hq),Array.getElem?_toList,← ai a7]
    have hk:q / 2 < J.length:=by omega
    have h1:=ao (q / 2) (J[q / 2].fc) (by rw [List.getElem?_map,Ψ hk]; rfl);have h2:=Xm J (q / 2) hk
    rcases (show q=q / 2 * 2∨q=q / 2 * 2+1 by omega) with e | e
    ·rw [e]
     have e':q / 2 * 2 / 2=q / 2:=by omega
     simp only [e'] at *;exact h1.1.trans h2.1.symm
    ·rw [e]
     have e':(q / 2 * 2+1) / 2=q / 2:=by omega
     simp only [e'] at *;exact h1.2.trans h2.2.symm
   ·rw [List.getElem?_eq_none (by simp; omega),List.getElem?_eq_none (by rw [VB]; omega)]
  ·obtain ⟨z,I,hb⟩:=List.mem_flatMap.1 hb
   injection e with e
   have e':g=b:=e;exact a1 z (U.mem_iff.1 I) (e' ▸ hb)
  ·exact ⟨y.os,y.tape,y.output,y.size,fun k hk ar=>y.block k hk fun e=>ar (by rw [e]; rfl)⟩
theorem D.O9 {y:List A} (hf:∀ t ∈ y,aW t) (hn:y.Nodup) (J:y.Pairwise (fun a b=>¬ bU b a < 0)):fU y=true:=by
 rw [xC];intro i I;have h1:=List.pairwise_iff_getElem.1 J i (i+1) (by omega) I (by omega);have U:=List.pairwise_iff_getElem.1 hn i (i+1) (by omega) I (by omega);by_cases h0:bU y[i] y[i+1]=0
 ·exact absurd (Xg (hf _ (δ _)).gr (hf _ (δ _)).gr h0) U
 ·rw [jL] at h0 h1 ⊢
  have h4:=Hg.anti (sH y[i+1]) (sH y[i]);omega
end
section
open Go.RowKit D
attribute [local go_sem ↓] Go.wp_at_zero Go.wp_at_succ
theorem D.Xc (w:World):(Instr.makeChan 262 (.int .i64 301)).run Tryz.prog w=.ok (.chan (some w.heap.size)) (w.alloc (.chan 301 #[] false 0 0 false)):=by
 obtain ⟨i,y,hb⟩:∃ i,Tryz.prog.info? 33=some i∧i.bytes=40:=by
  obtain ⟨i,y,_,_,I⟩:=info_parts PV;exact ⟨i,y,I⟩
 simpa using Go.Conc.run_makeChan (P:=Tryz.prog) (w:=w) Tryz.underlying262 y .i64 301 (by omega) (by rw [hb]; omega)
def D.IQ (B sb mu mp:Nat) (Fb:Nat→Prop) (fr:List Nat) (fs:List A) (rn:List Nat) (next:List Ru) (nr B0:Nat) (w:World) (e:Ending) (w':World):Prop:=
 Below B0 w w'∧((∃ new mc n L f,e=.returned (.tuple #[.map (some mc),.bool true])∧new.Nodup∧(∀ t ∈ new,aW t)∧(∀ t,t ∈ new ↔ t ∉ fs∧∃ q ∈ next,lK fs q t)∧fs.length+new.length≤300∧
   jJ B sb mu mp Fb fr (fs ++ new) (rn ++ List.replicate new.length nr) w'∧(∀ x ∈ fr,w'.heap[x]? = w.heap[x]?)∧iI mc n L f w'∧w.heap.size≤mc∧(∀ s,s ∈ L ↔ ∃ t ∈ new,t.name=s)∧∀ s ∈ L,1≤f s∧f s≤1000000) ∨
  (e=.returned (.tuple #[.map none,.bool false])∧∃ new:List A,new.Nodup∧(∀ t ∈ new,t ∉ fs∧∃ q ∈ next,lK fs q t)∧300 < fs.length+new.length))
structure D.VD (x:qN) (fs:List A) (bst:List Nat) (next:List Ru) (w:World) (k:Nat) (wr:World):Prop where
 ex:∃ told fb,nN x w.heap.size fs bst wr told fb∧∀ t,t ∈ told ↔ ∃ r ∈ next.take k,lK fs r t
 bel:Below w.heap.size w wr
theorem Xd {x:Xl} (X:Nk x) {w:World} {k:Nat} (hk:k < x.new.length) {c:Value} {ba:List Nat} {wr:World} (h:rZ x w k x.new[k] c ba wr):
  Calls Tryz.prog 112 #[.pointer (some ⟨x.sb,0,none⟩),.agg #[.string x.new[k].name,c],.int .i64 x.nr] (wr.alloc (.cells #[.string x.new[k].name,c] 33)) fun e J=>e=.returned (.tuple #[])∧Below x.B0 wr J∧
   jJ x.B x.sb x.mu x.mp x.Fb x.f2 (x.fs ++ x.new.take k ++ [x.new[k]]) (x.rn ++ List.replicate k x.nr ++ [x.nr]) J∧(∀ j ∈ x.f2,J.heap[j]? = wr.heap[j]?)∧J.heap[wr.heap.size]? = some (.cells #[.string x.new[k].name,c] 33 (0,0)):=by
 have U:Below wr.heap.size wr (wr.alloc (.cells #[.string x.new[k].name,c] 33)):=ζ;have h1:=h.later X U;have hs:=h.sN.more U [wr.heap.size] (fun j y=>by simp at y; subst y; exact ⟨ν,by simp⟩);have a0:=h.sN.lt;have a2:=X.few;have I:x.new[k] ∈ x.new:=δ hk;have a1:=X.nd;refine (WW (fr:=x.f2 ++ [wr.heap.size]) hs h1.at' (fun j y=>Ξ _ (h1.bas j y).1) (fun j y=>(h1.bas j y).2) (fun f hf=>?_) (X.nok _ I) (fun hm=>?_) ?_ ?_ x.nr x.B0 X.b0).mono ?_
 ·rcases μ.1 hf with hf | hf
  ·exact X.fok f hf
  ·exact X.nok f (List.mem_of_mem_take hf)
 ·rcases μ.1 hm with hm | hm
  ·exact X.no _ I hm
  ·obtain ⟨i,hi,e⟩:=List.getElem_of_mem hm
   rw [List.length_take] at hi;rw [List.getElem_take] at e;have:=(List.getElem_inj a1).1 e;omega
 ·rw [χ,List.length_take]; omega
 ·have:=X.rfew
  rw [χ,List.length_replicate]; omega
 ·rintro e J ⟨rfl,hb,hS,hf⟩
  refine ⟨rfl,?_,hS.sub fun j y=>Ξ _ y,fun j y=>(hf j (Ξ _ y)).trans (U.block j (a0.2.2 j y)),(hf _ (Ω _ (List.mem_singleton.2 rfl))).trans (ω _ _)⟩;have:=X.b0;exact (U.mono (by omega)).trans hb
theorem Sz (B sb mu mp:Nat) (Fb:Nat→Prop) (bo:∀ x,B≤x→Fb x) (fr:List Nat) (fs:List A) (rn:List Nat) (next:List Ru) (v:Value) (bn:List Nat) (nr B0:Nat) (w:World) (S:jJ B sb mu mp Fb fr fs rn w) (h:eu w [v] next bn)
  (ag:∀ f ∈ fs,aW f) (bp:fs.length≤300) (br:rn.length≤300) (hR:∀ r ∈ next,kZ r) (aE:B0≤sb∧B0≤mu∧B0≤mp∧B0≤B):
  Calls Tryz.prog 134 #[.pointer (some ⟨sb,0,none⟩),v,.int .i64 nr] w (IQ B sb mu mp Fb fr fs rn next nr B0 w):=by
 obtain ⟨Ad,cap,rfl,aL,aM⟩:=aj h;have c4:=aA (τ aL aM);have HH:=η h;have HS:=η S;clear h S aL aM;have aR:=@run_makeMap Tryz.prog;have bt:=Xc
 go_enter Tryz.func134,Tryz.ntmps134
 go_wp2;obtain ⟨a2,am⟩:=HS.out.view;have b1:Hid (VD (rx w.heap.size sb nr) fs a2 next w 0 (rW w sb nr)):=η ⟨⟨[],_,Sj w sb nr fs rn a2 am bp,fun t=>by simp⟩,Nj w sb nr⟩;have eW:(((((((w.alloc (.cells #[.pointer (some ⟨sb,0,none⟩)] 100)).alloc (.cells #[.int .i64 nr] 3)).alloc (.chan 301 #[] false 0 0 false)).alloc (.cells #[.chan (some (w.heap.size+1+1))] 262)).alloc (.map #[] 0)).alloc (.cells #[.map (some (w.heap.size+1+1+1+1))] 116)).alloc (.cells #[.bool true] 4))=rW w sb nr:=rfl;rw [eW];have bu:Hid (∀ x ∈ a2,x < w.heap.size):=η am.lt;generalize rW w sb nr=W at *;clear eW am
 go_loopw [19] (fun i wr=>∃ k:Nat,k≤next.length∧i=.int .i64 k∧VD (rx w.heap.size sb nr) fs a2 next w k wr) (fun i _=>next.length - (intOf i).toNat)
 case atStart=>exact ⟨0,ε,rfl,b1.out⟩
 case round=>
  obtain ⟨k,hk,rfl,hI⟩:=hrel;clear b1;by_cases a0:k < next.length
  ·have c5:(0:Int)≤(k:Int):=by omega
   have bv:(k:Int) < (next.length:Int):=by omega
   obtain ⟨⟨told,fb,hF,J⟩,y⟩:=hI;obtain ⟨bq,oq,Ae,ce,Af,cf,bk,rfl,_,f0,f1,f2,b2,ae⟩:=iP (aQ.below HH.out y) a0;have hA:Below wr.heap.size wr (wr.alloc (.cells #[.string next[k].head.name,.slice Ae next[k].head.args.length ce,.slice Af next[k].body.length cf] 40)):=ζ;have ao:=hF.keep (fun x hx=>hA.block x (hF.lt x hx)) hA.size;obtain ⟨bw,b4⟩:=ao.st
   have U:=O6 sb fs bw a2 next[k] (.string next[k].head.name) (.slice Ae next[k].head.args.length ce) (.slice Af next[k].body.length cf) bk (RY (rx w.heap.size sb nr) w.heap.size fs a2 ag) told fb _ b4 ag (by omega) (aX.below b2 hA) (hR _ (δ a0)) ao (fun x hx e=>(hF.sN x hx).2 (by rcases e with rfl | rfl | rfl <;> simp [qN.own])) (fun x hx e=>by
    have h1:=aQ.lt HH.out x (ae x hx)
    rcases e with rfl | rfl | rfl <;> (simp only [rx] at h1; omega))
   have HN:Hid (∀ w9 ts a7 more,Vz (rx w.heap.size sb nr) w.heap.size fs a2 more w9 (told ++ ts) a7→gX (rx w.heap.size sb nr).K (wr.alloc (.cells #[.string next[k].head.name,.slice Ae next[k].head.args.length ce,.slice Af next[k].body.length cf] 40)) w9→(∀ t ∈ ts,lK fs next[k] t)→(more=true→∀ t,lK fs next[k] t→t ∈ ts)→(more=false→Vt fs (told ++ ts)=false)→
     w9.cell? ⟨w.heap.size+1+1+1+1+1+1,0,none⟩=some (.bool more)∧(more=true→VD (rx w.heap.size sb nr) fs a2 next w (k+1) w9)∧(more=false→IQ B sb mu mp Fb fr fs rn next nr B0 w (.returned (.tuple #[.map none,.bool false])) w9)):=η fun w9 ts a7 more q1 q3 q4 q5 q6=>by
    have hz:=y.size;have b5:Below w.heap.size w w9:=⟨q3.os.trans (hA.os.trans y.os),q3.tape.trans (hA.tape.trans y.tape),q3.output.trans (hA.output.trans y.output),τ hz (τ hA.size q3.size),fun x hx=>(q3.block x (by have:=hA.size; omega) (fun e=>by rcases e with e | e | e <;> (simp only [rx] at e; omega))).trans ((hA.block x (by omega)).trans (y.block x hx))⟩;refine ⟨?_,fun hm=>?_,fun hm=>?_⟩
    ·cases more with
     | true=>exact ai (nN.cF q1)
     | false=>exact ai (rY.cF q1)
    ·subst hm
     refine ⟨⟨told ++ ts,a7,q1,fun t=>?_⟩,b5⟩;rw [μ,J,VA a0];exact or_congr Iff.rfl ⟨q4 t,q5 rfl t⟩
    ·subst hm
     have hg:=RS (q6 rfl);have hn:=qK fs (told ++ ts);refine ⟨b5.mono (by have:=HS.out.lt; omega),.inr ⟨rfl,newL fs (told ++ ts),hn.1,fun t ht=>?_,hg⟩⟩;obtain ⟨h1,h2⟩:=(hn.2 t).1 ht;refine ⟨h2,?_⟩
     rcases μ.1 h1 with h1 | h1
     ·obtain ⟨r,hr,hf⟩:=(J t).1 h1
      exact ⟨r,List.mem_of_mem_take hr,hf⟩
     ·exact ⟨next[k],δ a0,q4 t h1⟩
   have y0:wr.cell? ⟨w.heap.size,0,none⟩=some (.pointer (some ⟨sb,0,none⟩)):=ai hF.cS;have c6:w.heap.size < wr.heap.size:=hF.lt _ (hF.ow _ (by show _ ∈ [_,_,_,_,_,_,_]; simp [rx]));have a8:=η a0;clear hF J ao b4 y hA b2 ae hk;generalize next[k]=r at *;obtain ⟨⟨c7,ra⟩,rb⟩:=r;dsimp only at *;clear a0;unfold rx qN.vX at U
   go_wp2_with fail
   refine U.mono ?_;rintro e w9 ⟨rfl,ts,a7,more,q1,q2,q3,q4,q5,q6⟩;obtain ⟨y1,b6,b7⟩:=HN.out w9 ts a7 more q1 q3 q4 q5 q6;have aq:=η b6;have ar:=η b7;clear U HN q1 q2 q3 q4 q5 q6 b6 b7
   cases more with
   | false=>
    have HP:=η (ar.out rfl);clear aq ar;go_wp2;go_ret2;exact HP.out
   | true=>
    have HI:=η (aq.out rfl);clear aq ar;go_wp2;go_roundw
    case rel=>exact ⟨k+1,a8.out,by go_num,HI.out⟩
    case measure=>have:=a8.out; simp [intOf]; omega
  ·have he:k=next.length:=by omega
   have bv:¬ (k:Int) < (next.length:Int):=by omega
   obtain ⟨⟨told,fb,hF,J⟩,y⟩:=hI;rw [ϕ (Nat.le_of_eq he.symm)] at J;obtain ⟨vs,sd,bb,a1,a9,b8⟩:=hF.cH;have b9:w.heap.size < wr.heap.size:=hF.lt _ (hF.ow _ (by show _ ∈ [_,_,_,_,_,_,_]; simp [rx]));have y0:wr.cell? ⟨w.heap.size+1+1+1,0,none⟩=some (.chan (some (w.heap.size+1+1))):=ai hF.cC;have bc:Hid (∀ t,t ∈ newL fs told ↔ t ∉ fs∧∃ q ∈ next,lK fs q t):=η fun t=>by rw [(qK fs told).2,J]; exact And.comm
   have HX:=η (X5 (sd:=sd) (B0:=B0) (bb:=bb) HS.out hF b9 rfl aE ag br);have HI:=η (Sl (sd:=sd) bo HS.out hF y aE a1 a9 b8);have bx:∀ av ty,(Builtin.close_ av ty #[.chan (some (w.heap.size+1+1))]).run Tryz.prog wr=.ok (.tuple #[]) (wr.setChan (w.heap.size+1+1) 301 ⟨vs⟩ true sd 0 false):=fun av ty=>run_close_open av ty a1
   have aw:(wr.setChan (w.heap.size+1+1) 301 ⟨vs⟩ true sd 0 false).heap.size=wr.heap.size:=by simp [World.setChan]
   have af:=aR 116 (wr.setChan (w.heap.size+1+1) 301 ⟨vs⟩ true sd 0 false);rw [aw] at af;have bf:w.heap.size+1+1+1 < wr.heap.size:=lt_of_cell y0
   have y1:((wr.setChan (w.heap.size+1+1) 301 ⟨vs⟩ true sd 0 false).alloc (.map #[] 0)).cell? ⟨w.heap.size+1+1+1,0,none⟩=some (.chan (some (w.heap.size+1+1))):=by
    refine (World.cell?_of_block ?_).trans y0;show (World.alloc _ _).heap[w.heap.size+1+1+1]? = _;rw [Below.heap_alloc _ _ _ (by rw [aw]; exact bf)];simp only [World.setChan];rw [Array.getElem?_setIfInBounds_ne (by omega)]
   have az:w.heap.size≤wr.heap.size:=y.size;clear hF J a9 b8 a1 aR bt y bu;go_wp2;clear bx y0 aw bf;generalize (wr.setChan (w.heap.size+1+1) 301 ⟨vs⟩ true sd 0 false).alloc (.map #[] 0)=W2 at *;clear af;have bz:=η az;generalize wr.heap.size=mc at *;clear b9
   go_loopg [34] (newL fs told).length (fun gg _ bA=>∃ I:Nat,I≤(newL fs told).length∧(newL fs told).length - I≤gg∧Aside (Ez (rcv B sb mu mp nr B0 w.heap.size mc sd Fb fr bb fs rn (newL fs told)) w I bA))
   case atStart=>exact ⟨0,ε,by omega,HI.out⟩
   case round=>
    obtain ⟨I,c8,hg,hI⟩:=hrel;clear HI y1;by_cases a0:I < (newL fs told).length
    ·obtain ⟨c,a4,ba,a1,hM⟩:=Ez.recv HX.out hI.out a0
     have a3:wr.heap[w.heap.size+1+1]? = some (.chan 301 ⟨.agg #[.string (newL fs told)[I].name,c] :: a4⟩ true sd I false):=a1;have a6:rZ (rcv B sb mu mp nr B0 w.heap.size mc sd Fb fr bb fs rn (newL fs told)) w I (newL fs told)[I] c ba (wr.setChan (w.heap.size+1+1) 301 ⟨a4⟩ true sd (I+1) false):=hM;have hex:(⟨.agg #[.string (newL fs told)[I].name,c] :: a4⟩:Array Value).extract 1 (⟨.agg #[.string (newL fs told)[I].name,c] :: a4⟩:Array Value).size=⟨a4⟩:=by simp
     clear hM a1
     go_upto_region 14 with fail
     refine wJ ?_;refine TK (i:=0) (w':=wr) (ok:=true) (z:=.agg #[.string ⟨#[]⟩,.slice none 0 0]) (by rfl) (by rfl) (by go_simp; rfl) a3 (by simp) ?_;rw [hex];refine uU (i:=1) (by rfl) (by rfl) (v:=.bool true) (w':=wr.setChan (w.heap.size+1+1) 301 ⟨a4⟩ true sd (I+1) false) (by simp [Go.Conc.got]; go_simp) ?_;refine Hq (show Exit.then _ _ Exit.normal _ _ from ?_);generalize wr.setChan (w.heap.size+1+1) 301 ⟨a4⟩ true sd (I+1) false=W3 at *;clear hex a3;obtain ⟨Ae,ce,_,rfl⟩:=bG a6.at';have z0:W3.cell? ⟨w.heap.size,0,none⟩=some (.pointer (some ⟨sb,0,none⟩)):=ai a6.cS;have z1:W3.cell? ⟨w.heap.size+1,0,none⟩=some (.int .i64 nr):=ai a6.cN;have bB:=lt_of_cell z0;have bE:=lt_of_cell z1;have U:=Xd HX.out a0 a6;have ab:=η a6;clear a6;simp only [Go.Conc.got,if_true]
     go_wp2_with fail
     refine U.mono ?_;rintro e w5 ⟨rfl,q1,q2,q3,q4⟩;obtain ⟨n,L,f,m1,m2,m3,m4⟩:=ab.out.cam;have bg:Hid (iI mc n L f w5):=η (m1.same (q3 _ HX.out.mM));obtain ⟨v,hv⟩:∃ v,(if (newL fs told)[I].name ∈ L then f (newL fs told)[I].name else 0)=v:=⟨_,rfl⟩;have a5:=HX.out.few;have c9:I≤300:=by have:fs.length+(newL fs told).length≤300:=a5; omega
     have ca:0≤v:=by
      rw [← hv]
      split
      ·rename_i hm; have:=m4 _ hm; omega
      ·omega
     have cb:v≤300:=by
      rw [← hv]
      split
      ·rename_i hm; have:=m4 _ hm; omega
      ·omega
     have bh:Hid (∀ w6,iI mc (n+1) (gU L (newL fs told)[I].name) (fun t=>if t=(newL fs told)[I].name then v+1 else f t) w6→w5.grownBy w6 (some mc)→Ez (rcv B sb mu mp nr B0 w.heap.size mc sd Fb fr bb fs rn (newL fs told)) w (I+1) w6):=η fun w6 h6 ac=>rZ.done HX.out a0 ab.out q1 q2 q3 (by rw [← hv] at h6; exact h6) ac m2 m3 m4
     have bi:Hid ((newL fs told)[I].name.size≤maxLen):=η (by obtain ⟨_,_,hs,_⟩:=ab.out.at'; exact hs);have z5:w5.cell? ⟨W3.heap.size,0,none⟩=some (.string (newL fs told)[I].name):=ai q4;have cc:=lt_of_cell z5;have HV:=η hv;have a8:=η a0;have bL:n < maxLen:=by unfold maxLen; omega
     clear q1 q2 q3 q4 m1 m2 m3 m4 U ab a5 hv z0 z1 bB bE hI;generalize (newL fs told)[I]=a at *;clear a0
     go_wp2_with (first | (at_lookup; refine tZ _ rfl _ _ _ rfl Tryz.underlying116 _ _ L _ rfl bg.out a.name rfl bi.out v HV.out ?_) | (at_mapUpdate; refine kY _ rfl _ _ _ _ rfl Tryz.underlying116 _ _ L _ rfl bg.out a.name rfl bi.out (v+1) rfl bL (by omega) ?_; intro w6 bj ac))
     have bO:=η (bh.out w6 bj ac);clear bj ac bh
     go_roundg ((newL fs told).length - (I+1))
     case measure=>have:=a8.out; omega
     case rel=>exact ⟨I+1,a8.out,ν,bO.out⟩
    ·have bR:I=(newL fs told).length:=by omega
     obtain ⟨aD,b3,a1,a9,_⟩:=hI.out.chn;have aa:IW wr aD ((newL fs told).drop I) b3:=a9;rw [List.drop_of_length_le (by omega)] at aa
     have bX:aD = []:=by
      cases aD with
      | nil=>rfl
      | cons v vs=>exact aa.elim
     subst bX;have a3:wr.heap[w.heap.size+1+1]? = some (.chan 301 #[] true sd I false):=a1
     have HP:Hid (IQ B sb mu mp Fb fr fs rn next nr B0 w (.returned (.tuple #[.map (some mc),.bool true])) wr):=η (by
      have h:=hI.out;have hX:=HX.out;have hn:=qK fs told;obtain ⟨n,L,f,m1,m2,m3,m4⟩:=h.cam;have et:(newL fs told).take I=newL fs told:=ϕ (by omega);have hs:jJ B sb mu mp (fun k=>Fb k∧k ≠ w.heap.size+2∧k ≠ mc) (fr ++ ([w.heap.size,w.heap.size+1,w.heap.size+2,mc] ++ bb)) (fs ++ (newL fs told).take I) (rn ++ List.replicate I nr) wr:=h.sN;have bl:∀ s,s ∈ L ↔ ∃ t ∈ (newL fs told).take I,t.name=s:=m3;have a5:fs.length+(newL fs told).length≤300:=hX.few;rw [et] at hs bl;rw [bR] at hs;refine ⟨h.bel,.inl ⟨newL fs told,mc,n,L,f,rfl,hn.1,fun t ht=>hX.nok t ht,bc.out,a5,(hs.mono fun x hx _=>hx.1).sub fun x hx=>Ξ _ hx,h.kep,m1,bz.out,bl,fun s c3=>?_⟩⟩;have:=m4 s c3
      omega)
     clear hI a9 aa a1 HX bc
     go_upto_region 14 with fail
     refine wJ ?_;refine TM (i:=0) (w':=wr) (ok:=true) (z:=.agg #[.string ⟨#[]⟩,.slice none 0 0]) (by rfl) (by rfl) (by go_simp; rfl) a3 ?_;refine uU (i:=1) (by rfl) (by rfl) (v:=.bool false) (w':=wr) (by simp [Go.Conc.got]; go_simp) ?_;refine Hq (show Exit.then _ _ Exit.normal _ _ from ?_);simp only [Go.Conc.got,if_true];clear a3;go_wp2;go_ret2;exact HP.out
end
end Go.Proofs.YtkjinanbccloeaaGreatDoor
