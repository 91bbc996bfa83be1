/- Of the proof of FnExactProofOk: RouP, SrtP. -/
import Derived.Test.YtlmngncogomgeaaGreatDoorM42
set_option linter.unusedVariables false
namespace Go.Proofs.YtlmngncogomgeaaGreatDoor
open Go.RowKit D
theorem D.PI (w:World) (o:Obj) (k:Nat):(w.alloc o).heap[k]? = if k=w.heap.size then some o else w.heap[k]?:=by
 by_cases h:k=w.heap.size
 ·rw [if_pos h,h]; exact ω w o
 ·rw [if_neg h]
  by_cases y:k < w.heap.size
  ·exact Below.heap_alloc w o k y
  ·have I:(w.alloc o).heap.size=w.heap.size+1:=by simp
   rw [Array.getElem?_eq_none (by omega),Array.getElem?_eq_none (by omega)]
def D.rx (z sb nr:Nat):pI:=⟨z+1+1+1+1+1,z,z+1,z+1+1+1+1+1+1,z+1+1+1,z+1+1+1+1,z+1+1,sb,nr⟩
def D.rW (w:World) (sb nr:Nat):World:=(((((((w.alloc (.cells #[.pointer (some ⟨sb,0,none⟩)] 103)).alloc (.cells #[.int .i64 nr] 3)).alloc (.chan 301 #[] false 0 0 false)).alloc (.cells #[.chan (some (w.heap.size+1+1))] 249)).alloc (.map #[] 0)).alloc
 (.cells #[.map (some (w.heap.size+1+1+1+1))] 112)).alloc (.cells #[.bool true] 4))
theorem D.NM (w:World) (sb nr:Nat):(rW w sb nr).heap.size=w.heap.size+7:=by unfold rW; simp
theorem D.rV (w:World) (sb nr:Nat) (k:Nat):(rW w sb nr).heap[k]? = if k=w.heap.size+6 then some (.cells #[.bool true] 4) else if k=w.heap.size+5 then some (.cells #[.map (some (w.heap.size+1+1+1+1))] 112) else if k=w.heap.size+4 then some (.map #[] 0) else
  if k=w.heap.size+3 then some (.cells #[.chan (some (w.heap.size+1+1))] 249) else if k=w.heap.size+2 then some (.chan 301 #[] false 0 0 false) else if k=w.heap.size+1 then some (.cells #[.int .i64 nr] 3) else if k=w.heap.size then some (.cells #[.pointer (some ⟨sb,0,none⟩)] 103) else w.heap[k]?:=by
 unfold rW;simp only [PI];simp
theorem D.J6 (w:World) (sb nr:Nat):Below w.heap.size w (rW w sb nr):=by
 refine ⟨rfl,rfl,rfl,by rw [NM]; omega,fun k hk=>?_⟩;rw [rV];simp only [show ¬ k=w.heap.size+6 by omega,show ¬ k=w.heap.size+5 by omega,show ¬ k=w.heap.size+4 by omega,show ¬ k=w.heap.size+3 by omega,show ¬ k=w.heap.size+2 by omega,show ¬ k=w.heap.size+1 by omega,show ¬ k=w.heap.size by omega,if_false]
theorem D.PK (w:World) (sb nr:Nat) (fs:List A) (rn y:List Nat) (I:jO sb fs rn y w) (U:fs.length≤300):lN (rx w.heap.size sb nr) w.heap.size fs y (rW w sb nr) [] (y ++ (rx w.heap.size sb nr).own):=by
 have hb:=J6 w sb nr;have J:newL fs [] = []:=rfl;have lt:=I.lt;have es:(rx w.heap.size sb nr).own = [w.heap.size+5,w.heap.size,w.heap.size+1,w.heap.size+6,w.heap.size+3,w.heap.size+4,w.heap.size+2]:=rfl;refine ⟨?_,?_,?_,?_,?_,?_,⟨[],0,[],?_,?_,?_⟩,⟨rn,I.below hb⟩,by rw [J]; simpa using U,fun t ht=>by simp at ht,?_,?_,?_,?_,?_⟩
 ·show (rW w sb nr).heap[w.heap.size+5]? = _
  rw [rV]; simp; rfl
 ·show (rW w sb nr).heap[w.heap.size]? = _
  rw [rV]; simp; rfl
 ·show (rW w sb nr).heap[w.heap.size+1]? = _
  rw [rV]; simp; rfl
 ·show (rW w sb nr).heap[w.heap.size+6]? = _
  rw [rV]; simp
 ·show (rW w sb nr).heap[w.heap.size+3]? = _
  rw [rV]; simp; rfl
 ·rw [J]
  have:(rW w sb nr).heap[w.heap.size+4]? = some (.map #[] 0):=by rw [rV]; simp
  exact ⟨⟨#[],0,this,rfl⟩,fun p h=>by simp [x9] at h,List.Pairwise.nil⟩
 ·show (rW w sb nr).heap[w.heap.size+2]? = _
  rw [rV]; simp
 ·rw [J]; rfl
 ·exact fun k hk=>by simp at hk
 ·rw [es]; simp
 ·exact fun k hk=>Ω _ hk
 ·intro k hk
  have:=lt k hk;refine ⟨Ξ _ hk,fun hm=>?_⟩;rw [es] at hm; simp at hm; omega
 ·show w.heap.size≤w.heap.size+5; omega
 ·intro k hk
  rw [NM]
  rcases μ.1 hk with hk | hk
  ·have:=lt k hk; omega
  ·rw [es] at hk; simp at hk; omega
theorem D.Tq {rs:List Ru} {xs:List A} {k:Nat} (h:k < rs.length) (t:A):(∃ r ∈ rs.take (k+1),kE xs r t) ↔ (∃ r ∈ rs.take k,kE xs r t)∨kE xs rs[k] t:=by
 rw [ρ h];constructor
 ·rintro ⟨r,hr,hf⟩
  rcases μ.1 hr with hr | hr
  ·exact .inl ⟨r,hr,hf⟩
  ·rw [ώ.1 hr] at hf; exact .inr hf
 ·rintro (⟨r,hr,hf⟩ | hf)
  ·exact ⟨r,Ξ _ hr,hf⟩
  ·exact ⟨_,Ω _ (ώ.2 rfl),hf⟩
structure D.U7 where
 B:Nat
 sb:Nat
 mu:Nat
 mp:Nat
 nr:Nat
 B0:Nat
 bS:Nat
 bN:Nat
 ch:Nat
 mc:Nat
 sd:Nat
 Fb:Nat→Prop
 fr:List Nat
 f2:List Nat
 fs:List A
 rn:List Nat
 new:List A
structure D.J7 (x:U7):Prop where
 sub:∀ k ∈ x.fr,k ∈ x.f2
 mS:x.bS ∈ x.f2
 mN:x.bN ∈ x.f2
 mH:x.ch ∈ x.f2
 mM:x.mc ∈ x.f2
 nH:¬ x.Fb x.ch
 nM:¬ x.Fb x.mc
 df:x.bS ≠ x.ch∧x.bN ≠ x.ch∧x.mc ≠ x.ch∧x.mc ≠ x.bS∧x.mc ≠ x.bN
 fh:x.ch ∉ x.fr
 fm:x.mc ∉ x.fr
 lH:x.B0≤x.ch
 lM:x.B0≤x.mc
 b0:x.B0≤x.sb∧x.B0≤x.mu∧x.B0≤x.mp∧x.B0≤x.B
 fok:∀ f ∈ x.fs,aT f
 nok:∀ f ∈ x.new,aT f
 nd:x.new.Nodup
 no:∀ t ∈ x.new,t ∉ x.fs
 few:x.fs.length+x.new.length≤300
 rfew:x.rn.length≤300
structure D.Dv (x:U7) (w:World) (k:Nat) (wr:World):Prop where
 bel:Below x.B0 w wr
 kep:∀ k ∈ x.fr,wr.heap[k]? = w.heap[k]?
 cS:wr.heap[x.bS]? = some (.cells #[.pointer (some ⟨x.sb,0,none⟩)] 103 (0,0))
 cN:wr.heap[x.bN]? = some (.cells #[.int .i64 x.nr] 3 (0,0))
 chn:∃ vs bb,wr.heap[x.ch]? = some (.chan 301 ⟨vs⟩ true x.sd k false)∧GN wr vs (x.new.drop k) bb∧∀ k ∈ bb,k ∈ x.f2∧x.Fb k
 qM:je x.B x.sb x.mu x.mp x.Fb x.f2 (x.fs ++ x.new.take k) (x.rn ++ List.replicate k x.nr) wr
 cam:∃ n L f,gQ x.mc n L f wr∧n≤k∧(∀ s,s ∈ L ↔ ∃ t ∈ x.new.take k,t.name=s)∧∀ s ∈ L,1≤f s∧f s≤(k:Int)
structure D.qF (x:U7) (w:World) (k:Nat) (a:A) (c:Value) (ba:List Nat) (wr:World):Prop where
 bel:Below x.B0 w wr
 kep:∀ k ∈ x.fr,wr.heap[k]? = w.heap[k]?
 cS:wr.heap[x.bS]? = some (.cells #[.pointer (some ⟨x.sb,0,none⟩)] 103 (0,0))
 cN:wr.heap[x.bN]? = some (.cells #[.int .i64 x.nr] 3 (0,0))
 chn:∃ vs bb,wr.heap[x.ch]? = some (.chan 301 ⟨vs⟩ true x.sd (k+1) false)∧GN wr vs (x.new.drop (k+1)) bb∧∀ k ∈ bb,k ∈ x.f2∧x.Fb k
 qM:je x.B x.sb x.mu x.mp x.Fb x.f2 (x.fs ++ x.new.take k) (x.rn ++ List.replicate k x.nr) wr
 cam:∃ n L f,gQ x.mc n L f wr∧n≤k∧(∀ s,s ∈ L ↔ ∃ t ∈ x.new.take k,t.name=s)∧∀ s ∈ L,1≤f s∧f s≤(k:Int)
 at':aP wr [.string a.name,c] a ba
 bas:∀ k ∈ ba,k ∈ x.f2∧x.Fb k
theorem D.Dv.recv {x:U7} (X:J7 x) {w:World} {k:Nat} {wr:World} (h:Dv x w k wr) (hk:k < x.new.length):
  ∃ c vs ba,wr.heap[x.ch]? = some (.chan 301 ⟨.agg #[.string x.new[k].name,c] :: vs⟩ true x.sd k false)∧qF x w k x.new[k] c ba (wr.setChan x.ch 301 ⟨vs⟩ true x.sd (k+1) false):=by
 obtain ⟨U,bb,h1,h2,J⟩:=h.chn;rw [List.drop_eq_getElem_cons hk] at h2
 cases U with
 | nil=>exact h2.elim
 | cons v vs=>
  obtain ⟨c,b1,b2,rfl,rfl,h4,h5⟩:=h2;have a0:=ψ h1;have hc:=Go.Conc.heap_setChan wr x.ch 301 ⟨vs⟩ true x.sd (k+1) false a0
  have I:∀ j,j ≠ x.ch→(wr.setChan x.ch 301 ⟨vs⟩ true x.sd (k+1) false).heap[j]? = wr.heap[j]?:=fun j y=>by
   simp only [World.setChan]; rw [Array.getElem?_setIfInBounds_ne (by omega)]
  have hs:(wr.setChan x.ch 301 ⟨vs⟩ true x.sd (k+1) false).heap.size=wr.heap.size:=by simp [World.setChan]
  have nF:∀ j,x.Fb j→j ≠ x.ch:=fun j y e=>X.nH (e ▸ y)
  obtain ⟨n,L,f,m1,m2⟩:=h.cam
  refine ⟨c,vs,b1,h1,⟨?_,fun j y=>(I j (fun e=>X.fh (e ▸ y))).trans (h.kep j y),(I _ X.df.1).trans h.cS,(I _ X.df.2.1).trans h.cN,⟨vs,b2,hc,h5.keep fun j y=>I j (nF j (J j (Ω _ y)).2),fun j y=>J j (Ω _ y)⟩,
   h.qM.other X.mH X.nH (by rw [hs]; exact ν) (fun j _ y=>I j y),⟨n,L,f,m1.same (I _ X.df.2.2.1),m2⟩,ak.keep h4 fun j y=>I j (nF j (J j (Ξ _ y)).2),fun j y=>J j (Ξ _ y)⟩⟩
  exact Go.Conc.below_setChan h.bel X.lH 301 ⟨vs⟩ true x.sd (k+1) false
theorem D.qF.later {x:U7} (X:J7 x) {w:World} {k:Nat} {a:A} {c:Value} {ba:List Nat} {wr w':World} (h:qF x w k a c ba wr) (hk:Below wr.heap.size wr w'):qF x w k a c ba w':=by
 have lt:=h.qM.lt;have b0:=X.b0;have k2:∀ j ∈ x.f2,w'.heap[j]? = wr.heap[j]?:=fun j y=>hk.block j (lt.2.2 j y)
 obtain ⟨vs,bb,h1,J,I⟩:=h.chn;obtain ⟨n,L,f,U,m2⟩:=h.cam
 exact ⟨h.bel.trans (hk.mono (by omega)),fun j y=>(k2 j (X.sub j y)).trans (h.kep j y),(k2 _ X.mS).trans h.cS,(k2 _ X.mN).trans h.cN,⟨vs,bb,(k2 _ X.mH).trans h1,J.keep fun j y=>k2 j (I j y).1,I⟩,h.qM.later hk,⟨n,L,f,U.same (k2 _ X.mM),m2⟩,
  ak.keep h.at' fun j y=>k2 j (h.bas j y).1,h.bas⟩
theorem D.qF.done {x:U7} (X:J7 x) {w:World} {k:Nat} (hk:k < x.new.length) {c:Value} {ba:List Nat} {wr U w6:World} (h:qF x w k x.new[k] c ba wr) (hb:Below x.B0 wr U) (hS:je x.B x.sb x.mu x.mp x.Fb x.f2 (x.fs ++ x.new.take k ++ [x.new[k]]) (x.rn ++ List.replicate k x.nr ++ [x.nr]) U)
  (hf:∀ j ∈ x.f2,U.heap[j]? = wr.heap[j]?) {n:Nat} {L:List ByteArray} {f:ByteArray→Int} (hM:gQ x.mc (n+1) (fO L x.new[k].name) (fun t=>if t=x.new[k].name then (if x.new[k].name ∈ L then f x.new[k].name else 0)+1 else f t) w6) (hg:U.grownBy w6 (some x.mc))
  (hn:n≤k) (hL:∀ s,s ∈ L ↔ ∃ t ∈ x.new.take k,t.name=s) (hv:∀ s ∈ L,1≤f s∧f s≤(k:Int)):Dv x w (k+1) w6:=by
 have a0:=hS.lt;have k6:∀ j,j < U.heap.size→j ≠ x.mc→w6.heap[j]? = U.heap[j]?:=fun j h1 h2=>hg.block j h1 (fun e=>h2 (by injection e))
 have nF:∀ j,x.Fb j→j ≠ x.mc:=fun j y e=>X.nM (e ▸ y)
 have kk:∀ j ∈ x.f2,j ≠ x.mc→w6.heap[j]? = wr.heap[j]?:=fun j y I=>(k6 j (a0.2.2 j y) I).trans (hf j y)
 obtain ⟨vs,bb,h1,h2,h3⟩:=h.chn;have et:x.new.take (k+1)=x.new.take k ++ [x.new[k]]:=ρ hk;refine ⟨?_,fun j y=>(kk j (X.sub j y) (fun e=>X.fm (e ▸ y))).trans (h.kep j y),(kk _ X.mS X.df.2.2.2.1.symm).trans h.cS,(kk _ X.mN X.df.2.2.2.2.symm).trans h.cN,⟨vs,bb,(kk _ X.mH X.df.2.2.1.symm).trans h1,h2.keep fun j y=>kk j (h3 j y).1 (nF j (h3 j y).2),h3⟩,?_,⟨n+1,_,_,hM,by omega,fun s=>?_,fun s hs=>?_⟩⟩
 ·exact (h.bel.trans hb).grown hg (by have:=X.b0; omega) fun j e=>by injection e with e; have:=X.lM; omega
 ·rw [et,← List.append_assoc,List.replicate_succ',← List.append_assoc]
  exact hS.other X.mM X.nM hg.size (fun j h1 h2=>k6 j h1 h2)
 ·rw [iT,hL,et]
  constructor
  ·rintro (⟨t,J,e⟩ | e)
   ·exact ⟨t,Ξ _ J,e⟩
   ·exact ⟨x.new[k],Ω _ (ώ.2 rfl),e.symm⟩
  ·rintro ⟨t,J,e⟩
   rcases μ.1 J with J | J
   ·exact .inl ⟨t,J,e⟩
   ·rw [ώ.1 J] at e; exact .inr e.symm
 ·show 1≤(if s=x.new[k].name then _ else f s)∧(if s=x.new[k].name then _ else f s)≤((k+1:Nat):Int)
  split
  ·split
   ·rename_i hm
    have:=hv _ hm;omega
   ·omega
  ·rename_i I
   rcases iT.1 hs with h | h
   ·have:=hv s h; omega
   ·exact absurd h I
def D.rcv (B sb mu mp nr B0 z mc sd:Nat) (Fb:Nat→Prop) (fr bb:List Nat) (fs:List A) (rn:List Nat) (new:List A):U7:=
 ⟨B,sb,mu,mp,nr,B0,z,z+1,z+1+1,mc,sd,fun k=>Fb k∧k ≠ z+2∧k ≠ mc,fr,fr ++ ([z,z+1,z+2,mc] ++ bb),fs,rn,new⟩
theorem D.VE {B sb mu mp nr B0 mc sd:Nat} {Fb:Nat→Prop} {fr bb y fb:List Nat} {fs told:List A} {rn:List Nat} {w wr:World} (S:je B sb mu mp Fb fr fs rn w) (F:lN (rx w.heap.size sb nr) w.heap.size fs y wr told fb) (hb:w.heap.size < wr.heap.size) (a0:mc=wr.heap.size) (I:B0≤sb∧B0≤mu∧B0≤mp∧B0≤B) (J:∀ f ∈ fs,aT f) (U:rn.length≤300):
  J7 (rcv B sb mu mp nr B0 w.heap.size mc sd Fb fr bb fs rn (newL fs told)):=by
 have lt:=S.lt;have hn:=pq fs told;have l2:w.heap.size+2 < wr.heap.size:=F.lt _ (F.ow (w.heap.size+2) (by show _ ∈ [_,_,_,_,_,_,_]; simp [rx]));refine ⟨fun k hk=>Ξ _ hk,by simp [rcv],by simp [rcv],by simp [rcv],by simp [rcv],fun h=>h.2.1 rfl,fun h=>h.2.2 rfl,?_,fun h=>?_,fun h=>?_,?_,?_,I,J,fun t ht=>F.tok t ((hn.2 t).1 ht).1,hn.1,fun t ht=>((hn.2 t).1 ht).2,F.few,U⟩
 ·simp only [rcv]; omega
 ·have h1:w.heap.size+2 < w.heap.size:=lt.2.2 _ h; omega
 ·have h1:mc < w.heap.size:=lt.2.2 _ h; omega
 ·simp only [rcv]; omega
 ·simp only [rcv]; omega
theorem D.PL {B sb mu mp nr B0 sd:Nat} {Fb:Nat→Prop} {fr bb a1 fb:List Nat} {fs told:List A} {rn:List Nat} {w wr:World} {vs:List Value} (a2:∀ x,B≤x→Fb x) (S:je B sb mu mp Fb fr fs rn w) (F:lN (rx w.heap.size sb nr) w.heap.size fs a1 wr told fb) (hb:Below w.heap.size w wr) (a3:B0≤sb∧B0≤mu∧B0≤mp∧B0≤B)
  (h1:wr.heap[w.heap.size+1+1]? = some (.chan 301 ⟨vs⟩ false sd 0 false)) (h2:GN wr vs (newL fs told) bb) (h3:∀ k ∈ bb,k ∈ fb∧w.heap.size≤k∧k ∉ (rx w.heap.size sb nr).own):
  Dv (rcv B sb mu mp nr B0 w.heap.size wr.heap.size sd Fb fr bb fs rn (newL fs told)) w 0 ((wr.setChan (w.heap.size+1+1) 301 ⟨vs⟩ true sd 0 false).alloc (.map #[] 0)):=by
 have lt:=S.lt;have I:(wr.setChan (w.heap.size+1+1) 301 ⟨vs⟩ true sd 0 false).heap.size=wr.heap.size:=by simp [World.setChan]
 have hH:=Go.Conc.heap_setChan wr (w.heap.size+1+1) 301 ⟨vs⟩ true sd 0 false (ψ h1)
 have ko:∀ j,j ≠ w.heap.size+1+1→(wr.setChan (w.heap.size+1+1) 301 ⟨vs⟩ true sd 0 false).heap[j]? = wr.heap[j]?:=fun j y=>by
  simp only [World.setChan]; rw [Array.getElem?_setIfInBounds_ne (by omega)]
 have J:∀ j,j < wr.heap.size→((wr.setChan (w.heap.size+1+1) 301 ⟨vs⟩ true sd 0 false).alloc (.map #[] 0)).heap[j]? = (wr.setChan (w.heap.size+1+1) 301 ⟨vs⟩ true sd 0 false).heap[j]?:=fun j y=>Below.heap_alloc _ _ _ (by rw [I]; exact y)
 have own:∀ j ∈ (rx w.heap.size sb nr).own,j < wr.heap.size:=fun j y=>F.lt j (F.ow j y)
 have o0:w.heap.size < wr.heap.size:=own _ (by show _ ∈ [_,_,_,_,_,_,_]; simp [rx]);have o1:w.heap.size+1 < wr.heap.size:=own _ (by show _ ∈ [_,_,_,_,_,_,_]; simp [rx]);have o2:w.heap.size+2 < wr.heap.size:=ψ h1;have a0:Below w.heap.size w ((wr.setChan (w.heap.size+1+1) 301 ⟨vs⟩ true sd 0 false).alloc (.map #[] 0)):=(Go.Conc.below_setChan hb (by omega) 301 ⟨vs⟩ true sd 0 false).alloc (by rw [I]; exact hb.size) _;have hz:((wr.setChan (w.heap.size+1+1) 301 ⟨vs⟩ true sd 0 false).alloc (.map #[] 0)).heap.size=wr.heap.size+1:=by simp [I]
 refine ⟨a0.mono (by show B0≤_; omega),fun j y=>a0.block j (lt.2.2 j y),?_,?_,⟨vs,bb,?_,?_,?_⟩,?_,⟨0,[],fun _=>0,?_,ν,fun s=>by simp,fun s hs=>by simp at hs⟩⟩
 ·show (World.alloc _ _).heap[w.heap.size]? = _
  rw [J _ o0,ko _ (by omega)]; exact F.cS
 ·show (World.alloc _ _).heap[w.heap.size+1]? = _
  rw [J _ o1,ko _ (by omega)]; exact F.cN
 ·show (World.alloc _ _).heap[w.heap.size+2]? = _
  rw [J _ o2]; exact hH
 ·show GN _ vs (List.drop 0 (newL fs told)) bb
  rw [List.drop_zero];refine h2.keep fun j y=>?_
  have g:=h3 j y;rw [J _ (h2.lt j y),ko _ (fun e=>g.2.2 (by rw [e]; show _ ∈ [_,_,_,_,_,_,_]; simp [rx]))]
 ·intro j y
  have g:=h3 j y;have gl:=h2.lt j y;refine ⟨by simp [rcv,y],a2 j (by omega),fun e=>g.2.2 (by rw [e]; show _ ∈ [_,_,_,_,_,_,_]; simp [rx]),?_⟩;show j ≠ wr.heap.size;omega
 ·have h:=(S.mono (Fb':=fun k=>Fb k∧k ≠ w.heap.size+2∧k ≠ wr.heap.size) fun x U hl=>⟨U,by omega,by omega⟩).more a0 ([w.heap.size,w.heap.size+1,w.heap.size+2,wr.heap.size] ++ bb) (fun x U=>by
   rw [hz]
   rcases μ.1 U with U | U
   ·simp at U; omega
   ·have:=(h3 x U).2.1; have:=h2.lt x U; omega)
  simpa [rcv] using h
 ·have:=gQ.made (wr.setChan (w.heap.size+1+1) 301 ⟨vs⟩ true sd 0 false) (fun _=>0)
  rw [I] at this;exact this
theorem D.PN {α β:Type} (f:α→β) {ys xs:List β} (h:ys.Perm xs):∀ L:List α,xs=L.map f→∃ I:List α,I.Perm L∧ys=I.map f:=by
 induction h with
 | nil=>intro L e; exact ⟨L,List.Perm.refl _,e⟩
 | cons x _ ih=>
  intro L e
  cases L with
  | nil=>simp at e
  | cons a L=>
   simp only [List.map_cons,List.cons.injEq] at e;obtain ⟨I,h1,J⟩:=ih L e.2;exact ⟨a :: I,h1.cons a,by rw [List.map_cons,e.1,J]⟩
 | swap x y l=>
  intro L e
  match L,e with
  | [],e=>simp at e
  | [a],e=>simp at e
  | a :: b :: L,e=>
   simp only [List.map_cons,List.cons.injEq] at e;exact ⟨b :: a :: L,List.Perm.swap a b L,by rw [List.map_cons,List.map_cons,e.1,e.2.1,e.2.2]⟩
 | trans _ _ ih1 ih2=>
  intro L e;obtain ⟨U,h1,J⟩:=ih2 L e;obtain ⟨L2,h3,h4⟩:=ih1 U J;exact ⟨L2,h3.trans h1,h4⟩
structure D.Fq where
 t:A
 c1:Value
 ba:List Nat
def D.Fq.cs (x:Fq):List Value:=[.string x.t.name,x.c1]
def D.Fq.fc (x:Fq):Fc:=⟨x.t,x.c1⟩
theorem D.chunks {L:List Value} {n:Nat} (h:L.length=n * 2):L=(List.range n).flatMap fun j=>(L.drop (j * 2)).take 2:=by
 have y:∀ k,k≤n→L.take (k * 2)=(List.range k).flatMap fun j=>(L.drop (j * 2)).take 2:=by
  intro k
  induction k with
  | zero=>intro _; simp
  | succ k ih=>
   intro hk;rw [List.range_succ,List.flatMap_append,← ih (by omega),Nat.add_mul,Nat.one_mul];simp [List.take_add]
 have:=y n ν
 rwa [← h,List.take_length] at this
theorem D.PS {w:World} {L:List Value} {xs:List A} {y:List Nat} (h:aV 2 aP w L xs y):∃ zs:List Fq,zs.map (·.t)=xs∧zs.flatMap (·.cs)=L∧zs.flatMap (·.ba)=y∧∀ z ∈ zs,aP w [.string z.t.name,z.c1] z.t z.ba:=by
 obtain ⟨h1,I,G,rfl,J⟩:=h
 have hex:∀ j:Fin xs.length,∃ s,(L.drop (j.1 * 2)).take 2 = [.string xs[j.1].name,s]:=fun j=>by
  obtain ⟨s,e,_⟩:=J j.1 j.2;exact ⟨s,e⟩
 let f:Fin xs.length→Fq:=fun j=>⟨xs[j.1],Classical.choose (hex j),G j.1⟩
 have hf:∀ j:Fin xs.length,(f j).cs=(L.drop (j.1 * 2)).take 2:=fun j=>(Classical.choose_spec (hex j)).symm
 have hr:∀ (γ:Type) (q:Nat→List γ),(List.finRange xs.length).flatMap (fun j=>q j.1)=(List.range xs.length).flatMap q:=fun γ q=>by
  have e:List.range xs.length=(List.finRange xs.length).map (fun j=>j.1):=by
   apply List.ext_getElem
   ·simp
   ·intro i h1 I
    simp
  rw [e,List.flatMap_map]
 refine ⟨(List.finRange xs.length).map f,?_,?_,?_,fun z U=>?_⟩
 ·apply List.ext_getElem
  ·simp
  ·intro i h1 I
   simp [f]
 ·rw [List.flatMap_map]
  rw [chunks h1]
  conv=>rhs; rw [← hr]
  refine congrArg (fun g=>List.flatMap g (List.finRange xs.length)) (funext fun j=>?_);exact hf j
 ·rw [List.flatMap_map]
  exact hr Nat G
 ·obtain ⟨j,_,rfl⟩:=List.mem_map.1 U
  have:=J j.1 j.2;rw [← hf j] at this;exact this
theorem D.EQ {w:World}:∀ {zs:List Fq},(∀ z ∈ zs,aP w [.string z.t.name,z.c1] z.t z.ba)→aV 2 aP w (zs.flatMap (·.cs)) (zs.map (·.t)) (zs.flatMap (·.ba))
 | [],_=>aV.nil
 | z :: zs,h=>by
  have h1:aV 2 aP w z.cs [z.t] z.ba:=aV.dY fM (h z Γ);exact h1.append (EQ fun y I=>h y (Δ _ I))
theorem D.U8 (zs:List Fq) (k:Nat) (h:k < zs.length):(zs.flatMap (·.cs))[k * 2]? = some (.string zs[k].t.name)∧(zs.flatMap (·.cs))[k * 2+1]? = some zs[k].c1:=by
 induction zs generalizing k with
 | nil=>simp at h
 | cons z zs ih=>
  cases k with
  | zero=>simp [Fq.cs]
  | succ k=>
   have:=ih k (by simpa using h);have y:(k+1) * 2=k * 2+2:=by omega
   have I:(k+1) * 2+1=k * 2+1+2:=by omega
   rw [y,show k * 2+2+1=k * 2+1+2 by omega];simp only [List.flatMap_cons,Fq.cs,List.cons_append,List.nil_append,List.getElem?_cons_succ,List.getElem_cons_succ];exact this
theorem D.Tt (zs:List Fq):(zs.flatMap (·.cs)).length=zs.length * 2:=by
 induction zs with
 | nil=>rfl
 | cons z zs ih=>simp only [List.flatMap_cons,χ,ih,List.length_cons]; simp [Fq.cs]; omega
theorem Gz (xs:List A) (v:Value) (L:List Value) (bs:List Nat) (base:Nat) (w:World) (C:cu 2 aP base 40 w v L xs bs) (ar:xs.length < 4611686018427387904):
  Calls Tryz.prog 81 #[v,.func (.func 82) #[] #[]] w fun e w'=>e=.returned (.tuple #[])∧
   ∃ ys L' bs',ys.Perm xs∧ys.Pairwise (fun a b=>¬ dJ b a < 0)∧bs'.Perm bs∧cu 2 aP base 40 w' v L' ys bs'∧fV (fun x=>v.ownBlock=some x) w w':=by
 obtain ⟨zs,e1,e2,e3,hz⟩:=PS C.row;obtain ⟨hlen,a3⟩:=C.own
 rcases a3 with ⟨rfl,hL⟩ | ⟨g,cap,a9,rfl,hg,hh,aa,ab,ac,ae⟩
 ·have hx:xs = []:=List.length_eq_zero_iff.1 hL
  subst hx;refine (Go.Proofs.AnyF.slices_SortFunc_none Tryz.sortA none 0 (.func (.func 82) #[] #[]) w).mono ?_;rintro e w' ⟨rfl,rfl⟩;exact ⟨rfl,[],L,bs,List.Perm.refl _,List.Pairwise.nil,List.Perm.refl _,C,fV.refl _ _⟩
 ·have af:g < w.heap.size:=ψ hh
  have a4:zs.length=xs.length:=by rw [← e1]; simp
  have a1:∀ z ∈ zs,g ∉ z.ba:=fun z I hm=>C.far g (by rw [← e3]; exact List.mem_flatMap.2 ⟨z,I,hm⟩) rfl
  have a5:∀ q,q < xs.length * 2→w.cell? ⟨g,q,none⟩=L[q]?:=fun q hq=>by
   rw [aj hh,← ae,List.getElem?_take_of_lt hq,Array.getElem?_toList]
  have hm:=DV g cap (zs.map Fq.fc) w af (fun k x hk=>by
   rw [List.getElem?_map] at hk;obtain ⟨z,ag,rfl⟩:=Option.map_eq_some_iff.1 hk;obtain ⟨am,rfl⟩:=List.getElem?_eq_some_iff.1 ag;have:=U8 zs k am;rw [e2] at this
   exact ⟨(a5 _ (by omega)).trans this.1,(a5 _ (by omega)).trans this.2⟩) (fun q=>aB hh) (fun x hx=>by
   obtain ⟨z,I,rfl⟩:=List.mem_map.1 hx
   exact ⟨z.ba,hz z I,a1 z I⟩) (by simp; omega)
  rw [List.length_map,a4] at hm;refine hm.mono ?_;rintro e w' ⟨rfl,ys,hp,hs,ao,y,a0⟩;obtain ⟨J,U,rfl⟩:=PN Fq.fc hp zs rfl;obtain ⟨a6,a7,a8⟩:=a0 a9 _ hh;have a2:J.length=xs.length:=by rw [U.length_eq,a4]
  have ap:∀ z ∈ J,aP w' [.string z.t.name,z.c1] z.t z.ba:=fun z I=>by
   have h1:=hz z (U.mem_iff.1 I);exact ak.keep h1 fun b hb=>y.block b (ak.lt h1 b hb) (fun e=>a1 z (U.mem_iff.1 I) (e ▸ hb))
  refine ⟨rfl,J.map (·.t),J.flatMap (·.cs),J.flatMap (·.ba),by rw [← e1]; exact U.map _,?_,by rw [← e3]; exact U.flatMap_right _,⟨⟨?_,.inr ⟨g,cap,a6,?_,hg,a7,?_,ab,by rw [a8]; exact ac,?_⟩⟩,EQ ap,fun b hb e=>?_⟩,?_⟩
  ·rw [List.pairwise_map] at hs ⊢
   exact hs
  ·rw [Tt]; simp
  ·rw [List.length_map,a2]
  ·rw [List.length_map,a2]; exact aa
  ·apply List.ext_getElem?
   intro q;by_cases hq:q < xs.length * 2
   ·rw [List.getElem?_take_of_lt (by rw [List.length_map,a2]; exact hq),Array.getElem?_toList,← aj a7]
    have hk:q / 2 < J.length:=by omega
    have h1:=ao (q / 2) (J[q / 2].fc) (by rw [List.getElem?_map,Ψ hk]; rfl);have h2:=U8 J (q / 2) hk
    rcases (show q=q / 2 * 2∨q=q / 2 * 2+1 by omega) with e | e
    ·rw [e]
     have e':q / 2 * 2 / 2=q / 2:=by omega
     simp only [e'] at *;exact h1.1.trans h2.1.symm
    ·rw [e]
     have e':(q / 2 * 2+1) / 2=q / 2:=by omega
     simp only [e'] at *;exact h1.2.trans h2.2.symm
   ·rw [List.getElem?_eq_none (by simp; omega),List.getElem?_eq_none (by rw [Tt]; omega)]
  ·obtain ⟨z,I,hb⟩:=List.mem_flatMap.1 hb
   injection e with e
   have e':g=b:=e;exact a1 z (U.mem_iff.1 I) (e' ▸ hb)
  ·exact ⟨y.os,y.tape,y.output,y.size,fun k hk aq=>y.block k hk fun e=>aq (by rw [e]; rfl)⟩
theorem D.Na {y:List A} (hf:∀ t ∈ y,aT t) (I:y.Nodup) (J:y.Pairwise (fun a b=>¬ dJ b a < 0)):iF y=true:=by
 rw [vY];intro i hi;have h1:=List.pairwise_iff_getElem.1 J i (i+1) (by omega) hi (by omega);have U:=List.pairwise_iff_getElem.1 I i (i+1) (by omega) hi (by omega);by_cases h0:dJ y[i] y[i+1]=0
 ·exact absurd (Q8 (hf _ (δ _)).gr (hf _ (δ _)).gr h0) U
 ·rw [jP] at h0 h1 ⊢
  have h4:=Fa.anti (qJ y[i+1]) (qJ y[i]);omega
end Go.Proofs.YtlmngncogomgeaaGreatDoor
