/- Of the proof of FnEvalOnly: BdP, fJ, Bound. -/
import Derived.Test.YtkjinanbccloeaaGreatDoorB16
set_option linter.unusedVariables false
set_option maxHeartbeats 1000000
namespace Go.Proofs.YtkjinanbccloeaaGreatDoor
section
open Go.RowKit D
def D.Iq (vars:List ByteArray) (b:Bd) (i:Nat):ByteArray:=if h:i < vars.length then iU b vars[i] else ⟨#[]⟩
structure D.gJ (vars:List ByteArray) (b:Bd) (blk o:Nat) (w:World):Prop where
 wd:∀ i,i < 12→w.cell? ⟨blk,o+i,none⟩=some (.string (Iq vars b i))
 bd:∀ i,i < 12→∃ z:Int,w.cell? ⟨blk,o+12+i,none⟩=some (.int .i64 z)∧∀ h:i < b.length,z=(vars.idxOf b[i].1:Nat)
 ct:w.cell? ⟨blk,o+24,none⟩=some (.int .i64 b.length)
 fz:∀ i,i < 25→w.frozen? ⟨blk,o+i,none⟩=false
structure D.jq (vars:List ByteArray) (b:Bd):Prop where
 inn:∀ p ∈ b,p.1 ∈ vars
 once:(b.map (·.1)).Nodup
 full:∀ p ∈ b,p.2 ≠ ⟨#[]⟩
 size:∀ p ∈ b,p.2.size≤maxLen
structure D.jr (vars:List ByteArray):Prop where
 few:vars.length≤12
 once:vars.Nodup
theorem D.yg {b:Bd} {n:ByteArray}:eY b n=none ↔ ∀ p ∈ b,p.1 ≠ n:=by
 induction b with
 | nil=>simp [eY]
 | cons p b ih=>
  rw [eY]
  split
  ·rename_i h; simp [h]
  ·rename_i h; simp [h,ih]
theorem D.wP {b:Bd} {n v:ByteArray} (h:eY b n=some v):(n,v) ∈ b:=by
 induction b with
 | nil=>simp [eY] at h
 | cons p b ih=>
  rw [eY] at h
  split at h
  ·rename_i e
   cases h;subst e;exact Γ
  ·exact Δ _ (ih h)
theorem D.Dn {b:Bd} {n v:ByteArray} (h:eY b n=none):eY (b ++ [(n,v)]) n=some v:=by rw [lQ,h]; simp [eY]
theorem D.zJ {b:Bd} {n m v:ByteArray} (h:n ≠ m):eY (b ++ [(n,v)]) m=eY b m:=by
 rw [lQ];simp [eY,h]
theorem D.jq.oU {vars:List ByteArray} {b:Bd} (h:jq vars b) (n:ByteArray):iU b n=⟨#[]⟩ ↔ eY b n=none:=by
 unfold iU
 cases hg:eY b n with
 | none=>simp
 | some v=>simp [h.full _ (wP hg)]
theorem D.jq.len {vars:List ByteArray} {b:Bd} (h:jq vars b):b.length≤vars.length:=by
 have:(b.map (·.1)).length≤vars.length:=mW h.once fun x y=>by
  obtain ⟨p,I,rfl⟩:=List.mem_map.1 y;exact h.inn p I
 simpa using this
theorem D.jq.lt {vars:List ByteArray} {b:Bd} (h:jq vars b) {n:ByteArray} (U:n ∈ vars) (hg:eY b n=none):b.length < vars.length:=by
 have y:(n :: b.map (·.1)).Nodup:=List.nodup_cons.2 ⟨fun hm=>by
  obtain ⟨p,I,e⟩:=List.mem_map.1 hm
  exact yg.1 hg p I e,h.once⟩
 have:(n :: b.map (·.1)).length≤vars.length:=mW y fun x J=>by
  rcases List.mem_cons.1 J with rfl | J
  ·exact U
  ·obtain ⟨p,I,rfl⟩:=List.mem_map.1 J
   exact h.inn p I
 simp at this;omega
theorem D.jq.snoc {vars:List ByteArray} {b:Bd} (h:jq vars b) {n v:ByteArray} (U:n ∈ vars) (hg:eY b n=none) (hv:v ≠ ⟨#[]⟩) (hs:v.size≤maxLen):jq vars (b ++ [(n,v)]):=by
 refine ⟨fun p I=>?_,?_,fun p I=>?_,fun p I=>?_⟩
 ·rcases μ.1 I with I | I
  ·exact h.inn p I
  ·rw [List.mem_singleton.1 I]; exact U
 ·rw [List.map_append]
  refine List.nodup_append.2 ⟨h.once,by simp,fun x hx y J e=>?_⟩;simp at J;obtain ⟨p,I,rfl⟩:=List.mem_map.1 hx;exact yg.1 hg p I (e.trans J)
 ·rcases μ.1 I with I | I
  ·exact h.full p I
  ·rw [List.mem_singleton.1 I]; exact hv
 ·rcases μ.1 I with I | I
  ·exact h.size p I
  ·rw [List.mem_singleton.1 I]; exact hs
theorem D.jq.init {vars:List ByteArray} {b:Bd} {p:ByteArray × ByteArray} (h:jq vars (b ++ [p])):jq vars b∧p.1 ∈ vars∧eY b p.1=none:=by
 have y:=h.once;rw [List.map_append] at y;obtain ⟨I,_,J⟩:=List.nodup_append.1 y;exact ⟨⟨fun q hq=>h.inn q (Ξ _ hq),I,fun q hq=>h.full q (Ξ _ hq),fun q hq=>h.size q (Ξ _ hq)⟩,h.inn p (by simp),yg.2 fun q hq e=>J q.1 (List.mem_map.2 ⟨q,hq,rfl⟩) p.1 (by simp) e⟩
theorem D.jq.nil (vars:List ByteArray):jq vars []:=⟨fun p h=>by simp at h,by simp,fun p h=>by simp at h,fun p h=>by simp at h⟩
theorem D.jq.PW {vars:List ByteArray} {b:Bd} (h:jq vars b) {t:T} (y:t.var=false→t.name.size≤maxLen):(dA b t).name.size≤maxLen:=by
 unfold dA;cases hv:t.var
 ·simpa using y hv
 ·simp only [if_true,iU]
  cases hg:eY b t.name with
  | none=>decide
  | some v=>exact h.size _ (wP hg)
theorem D.JW {vars:List ByteArray} (hv:jr vars) {b:Bd} {n v:ByteArray} (J:n ∈ vars) (U:eY b n=none) (i:Nat):
  Iq vars (b ++ [(n,v)]) i=if i=vars.idxOf n then v else Iq vars b i:=by
 have hl:=List.idxOf_lt_length_of_mem J;unfold Iq;by_cases y:i < vars.length
 ·rw [dif_pos y,dif_pos y]
  split
  ·rename_i e
   subst e;have:vars[vars.idxOf n]=n:=List.getElem_idxOf y;unfold iU;rw [this,Dn U]; rfl
  ·rename_i e
   have I:n ≠ vars[i]:=fun e2=>e (by rw [e2]; exact (List.Nodup.idxOf_getElem hv.once i y).symm)
   unfold iU;rw [zJ I]
 ·rw [dif_neg y,dif_neg y]
  split
  ·omega
  ·rfl
section
variable {vars:List ByteArray} {b:Bd} {blk o:Nat} {w:World}
theorem D.gJ.keep {w':World} (h:gJ vars b blk o w) (e:w'.heap[blk]? = w.heap[blk]?):gJ vars b blk o w':=
 ⟨fun i y=>(World.cell?_of_block e).trans (h.wd i y),fun i y=>by obtain ⟨z,h1,I⟩:=h.bd i y; exact ⟨z,(World.cell?_of_block e).trans h1,I⟩,(World.cell?_of_block e).trans h.ct,fun i y=>(World.frozen?_of_block e).trans (h.fz i y)⟩
theorem D.gJ.lt (h:gJ vars b blk o w):blk < w.heap.size:=lt_of_cell h.ct
theorem D.jK (w:World) (b o:Nat) (v:Value) {u:Value} (h:w.cell? ⟨b,o,none⟩=some u) (q:Nat):(w.setCell ⟨b,o,none⟩ v).cell? ⟨b,q,none⟩=if q=o then some v else w.cell? ⟨b,q,none⟩:=by
 split
 ·rename_i e; subst e; exact World.cell?_setCell_same _ _ _ h
 ·rename_i e; exact World.cell?_setCell_other _ _ _ _ (fun y=>e (by injection y with _ e3 _; exact e3.symm))
theorem D.gJ.bind (hv:jr vars) (h:gJ vars b blk o w) (hb:jq vars b) {n v:ByteArray} (U:n ∈ vars) (hg:eY b n=none):
  gJ vars (b ++ [(n,v)]) blk o (((w.setCell ⟨blk,o+vars.idxOf n,none⟩ (.string v)).setCell ⟨blk,o+12+b.length,none⟩ (.int .i64 (vars.idxOf n:Nat))).setCell ⟨blk,o+24,none⟩ (.int .i64 ((b ++ [(n,v)]).length:Nat))):=by
 have hl:=hb.lt U hg;have hf:=hv.few;have hi:=List.idxOf_lt_length_of_mem U;obtain ⟨z0,a0,_⟩:=h.bd b.length (by omega);have c1:=D.jK w blk (o+vars.idxOf n) (.string v) (h.wd _ (by omega));have c2:=D.jK (w.setCell ⟨blk,o+vars.idxOf n,none⟩ (.string v)) blk (o+12+b.length) (.int .i64 (vars.idxOf n:Nat)) (u:=.int .i64 z0) (by rw [c1,if_neg (by omega)]; exact a0)
 have c3:=D.jK ((w.setCell ⟨blk,o+vars.idxOf n,none⟩ (.string v)).setCell ⟨blk,o+12+b.length,none⟩ (.int .i64 (vars.idxOf n:Nat))) blk (o+24) (.int .i64 ((b ++ [(n,v)]).length:Nat)) (u:=.int .i64 b.length)
  (by rw [c2,if_neg (by omega),c1,if_neg (by omega)]; exact h.ct)
 refine ⟨fun i y=>?_,fun i y=>?_,?_,fun i y=>?_⟩
 ·rw [c3,if_neg (by omega),c2,if_neg (by omega),c1,JW hv U hg]
  by_cases e:i=vars.idxOf n
  ·rw [if_pos (by omega),if_pos e]
  ·rw [if_neg (by omega),if_neg e]; exact h.wd i y
 ·rw [c3,if_neg (by omega),c2]
  by_cases e:i=b.length
  ·subst e
   rw [if_pos rfl];exact ⟨_,rfl,fun J=>by simp⟩
  ·rw [if_neg (by omega),c1,if_neg (by omega)]
   obtain ⟨z,h1,h2⟩:=h.bd i y;refine ⟨z,h1,fun J=>?_⟩;have I:i < b.length:=by simp at J; omega
   rw [h2 I,List.getElem_append_left I]
 ·rw [c3,if_pos rfl]
 ·simp only [World.frozen?_setCell]
  exact h.fz i y
theorem D.gJ.unbind (hv:jr vars) {n v:ByteArray} (h:gJ vars (b ++ [(n,v)]) blk o w) (hb:jq vars (b ++ [(n,v)])):
  gJ vars b blk o ((w.setCell ⟨blk,o+24,none⟩ (.int .i64 (b.length:Nat))).setCell ⟨blk,o+vars.idxOf n,none⟩ (.string ⟨#[]⟩)):=by
 obtain ⟨I,J,U⟩:=hb.init;have hf:=hv.few;have hi:=List.idxOf_lt_length_of_mem J;dsimp only at J U hi;have c1:=D.jK w blk (o+24) (.int .i64 (b.length:Nat)) h.ct;have c2:=D.jK (w.setCell ⟨blk,o+24,none⟩ (.int .i64 (b.length:Nat))) blk (o+vars.idxOf n) (.string ⟨#[]⟩) (by rw [c1,if_neg (by omega)]; exact h.wd _ (by omega));refine ⟨fun i y=>?_,fun i y=>?_,?_,fun i y=>?_⟩
 ·rw [c2]
  by_cases e:i=vars.idxOf n
  ·rw [if_pos (by omega)]
   subst e;unfold Iq;rw [dif_pos hi];have:vars[vars.idxOf n]=n:=List.getElem_idxOf hi;rw [this,(I.oU n).2 U]
  ·rw [if_neg (by omega),c1,if_neg (by omega),h.wd i y,JW hv J U,if_neg e]
 ·rw [c2,if_neg (by omega),c1,if_neg (by omega)]
  obtain ⟨z,h1,h2⟩:=h.bd i y;refine ⟨z,h1,fun a0=>?_⟩;rw [h2 (by simp; omega),List.getElem_append_left a0]
 ·rw [c2,if_neg (by omega),c1,if_pos rfl]
 ·simp only [World.frozen?_setCell]
  exact h.fz i y
end
structure D.cZ (blk o:Nat) (w w':World):Prop where
 grow:w.grownBy w' (some blk)
 rest:∀ q,(q < o∨o+25≤q)→w'.cell? ⟨blk,q,none⟩=w.cell? ⟨blk,q,none⟩
section
variable {blk o:Nat} {w w' w2:World}
theorem D.cZ.refl (blk o:Nat) (w:World):cZ blk o w w:=⟨⟨rfl,rfl,rfl,ν,fun _ _ _=>rfl⟩,fun _ _=>rfl⟩
theorem D.cZ.trans (h:cZ blk o w w') (k:cZ blk o w' w2):cZ blk o w w2:=
 ⟨⟨k.grow.os.trans h.grow.os,k.grow.tape.trans h.grow.tape,k.grow.output.trans h.grow.output,τ h.grow.size k.grow.size,fun i I y=>(k.grow.block i (κ I h.grow.size) y).trans (h.grow.block i I y)⟩,
  fun q hq=>(k.rest q hq).trans (h.rest q hq)⟩
theorem D.cZ.of_below (h:Below w.heap.size w w') (y:blk < w.heap.size):cZ blk o w w':=
 ⟨⟨h.os,h.tape,h.output,h.size,fun i I _=>h.block i I⟩,fun q _=>World.cell?_of_block (h.block _ y)⟩
theorem D.cZ.put (w:World) (i:Nat) (I:i < 25) (v:Value):cZ blk o w (w.setCell ⟨blk,o+i,none⟩ v):=
 ⟨⟨rfl,rfl,rfl,by simp [World.setCell],fun k _ y=>π _ _ _ _ (fun e=>y (by rw [e]))⟩,
  fun q hq=>World.cell?_setCell_other _ _ _ _ (fun e=>by injection e with _ e2 _; omega)⟩
theorem D.cZ.keep {α:Type} {R:Rel α} (g:Good R) {cs:List Value} {x:α} {bs:List Nat} (h:cZ blk o w w') (hr:R w cs x bs) (I:blk ∉ bs):R w' cs x bs:=
 g.keep hr fun b y=>h.grow.block b (g.lt hr b y) (fun e=>I (by injection e with e; rw [← e]; exact y))
theorem D.cZ.block (h:cZ blk o w w') {b:Nat} (I:b < w.heap.size) (y:b ≠ blk):w'.heap[b]? = w.heap[b]?:=h.grow.block b I (fun e=>y (by injection e))
end
theorem D.JX {vars:List ByteArray} {b:Bd} (U:jq vars b) (t f:T) (I fs:List T) (hc:t.var=false→t.name ≠ ⟨#[]⟩):
  bY (t :: I) (f :: fs) b=if (dA b t).name=⟨#[]⟩ then bY I fs (b ++ [(t.name,f.name)]) else if (dA b t).name=f.name then bY I fs b else (b,false):=by
 obtain ⟨tv,y⟩:=t;rw [bY];unfold dA;cases tv
 ·simp only [Bool.false_eq_true,if_false]
  rw [if_neg (hc rfl)]
 ·simp only [if_true]
  cases hg:eY b y with
  | none=>
   have:iU b y=⟨#[]⟩:=(U.oU y).2 hg;rw [if_pos this]
  | some v=>
   have e:iU b y=v:=by unfold iU; rw [hg]; rfl
   have J:v ≠ ⟨#[]⟩:=U.full _ (wP hg);simp only [e];rw [if_neg J]
theorem D.Nv {vars:List ByteArray} {b:Bd} (y:jq vars b) {t:T} (hc:t.var=false→t.name ≠ ⟨#[]⟩) (h:(dA b t).name=⟨#[]⟩):t.var=true∧eY b t.name=none:=by
 unfold dA at h;cases hv:t.var
 ·simp [hv] at h; exact absurd h (hc hv)
 ·simp [hv] at h; exact ⟨rfl,(y.oU _).1 h⟩
theorem FV:(Tryz.prog.info? 40).map (fun i=>(i.zero,i.size,i.bytes))=some (some (.agg #[.string ⟨#[]⟩,.slice none 0 0,.slice none 0 0]),3,64):=by kernel_rfl
def D.AtS (a:A):Prop:=Sm a.name∧a.args.length≤4∧∀ t ∈ a.args,Sm t.name
def D.QZ (r:Ru):Prop:=AtS r.head∧r.body.length≤8∧∀ x ∈ r.body,Wi x
structure fJ (g p:Nat) (w:World) (xs:List Ru) (v:Value) (wr:World):Prop where
 coll:∃ L bs,aZ 3 fG w.heap.size 40 wr v L xs bs∧∀ b ∈ bs,w.heap.size≤b
 small:∀ x ∈ xs,QZ x
 rdr:kH g p wr
 kept:aH [g] w wr
 glt:g < w.heap.size
section
variable {g p:Nat} {w:World} {xs:List Ru} {v:Value} {wr:World}
theorem fJ.call {p2:Nat} {w2:World} (h:fJ g p w xs v wr) (I:kH g p2 w2) (hK:aH [g] wr w2):fJ g p2 w xs v w2:=by
 obtain ⟨L,bs,J,y⟩:=h.coll;exact ⟨⟨L,bs,J.Om aV hK h.glt (fun U=>by have:=y g U; have:=h.glt; omega),y⟩,h.small,I,h.kept.trans hK,h.glt⟩
theorem fJ.below {w2:World} (h:fJ g p w xs v wr) (hB:Below wr.heap.size wr w2):fJ g p w xs v w2:=by
 obtain ⟨L,bs,I,y⟩:=h.coll;exact ⟨⟨L,bs,I.below aV hB,y⟩,h.small,h.rdr.below hB,h.kept.fM hB h.kept.size,h.glt⟩
theorem fJ.rules (h:fJ g p w xs v wr):∃ bs,dS wr [v] xs bs∧∀ b ∈ bs,w.heap.size≤b:=by
 obtain ⟨L,bs,I,y⟩:=h.coll;obtain ⟨J,U,h2⟩:=I.slice;exact ⟨J,U,fun b hb=>(h2 b hb).elim id (y b)⟩
theorem fJ.shape (h:fJ g p w xs v wr):∃ A c,v=.slice A xs.length c:=by
 obtain ⟨L,bs,y,_⟩:=h.coll;exact fE y.own
theorem fJ.start (I:g < w.heap.size) (J:kH g p w):fJ g p w [] (.slice (some ⟨w.heap.size,0,none⟩) 0 0) (w.alloc (.cells #[] 40)):=by
 have y:Below w.heap.size w (w.alloc (.cells #[] 40)):=ζ;exact ⟨⟨[],[],aZ.empty (ω _ _) ν,fun b U=>by simp at U⟩,fun x hx=>by simp at hx,J.below y,aH.of_below y,I⟩
theorem fJ.arm {r:Ru} {c0 c1 c2:Value} {y:List Nat} {W:World} (h:fJ g p w xs v wr) (hB:Below wr.heap.size wr W) (hr:fG W [c0,c1,c2] r y) (I:∀ b ∈ y,wr.heap.size≤b):
  ∃ L bs,aZ 3 fG w.heap.size 40 (W.alloc (.cells #[c0,c1,c2] 40)) v L xs bs∧(∀ b ∈ bs ++ y,w.heap.size≤b)∧aQ 3 fG (W.alloc (.cells #[c0,c1,c2] 40)) [c0,c1,c2] [r] y∧
   Lies (W.alloc (.cells #[c0,c1,c2] 40)) (some ⟨W.heap.size,0,none⟩) [c0,c1,c2]∧(∀ b ∈ y,v.ownBlock ≠ some b)∧Below w.heap.size wr (W.alloc (.cells #[c0,c1,c2] 40))∧w.heap.size≤(W.alloc (.cells #[c0,c1,c2] 40)).heap.size:=by
 obtain ⟨L,bs,hC,U⟩:=h.coll;have hA:Below W.heap.size W (W.alloc (.cells #[c0,c1,c2] 40)):=ζ;have hs:=h.kept.size;have a0:=hB.size;have hT:Below wr.heap.size wr (W.alloc (.cells #[c0,c1,c2] 40)):=hB.trans (hA.mono a0);exact ⟨L,bs,hC.below aV hT,fun b J=>(μ.1 J).elim (U b) (fun J=>by have:=I b J; omega),aQ.dh kY (aV.below hr hA),aS (ω _ _),fun b J=>jM hC.own (I b J),hT.mono hs,by simp; omega⟩
theorem fJ.far (h:fJ g p w xs v wr) {b:Nat} (y:wr.heap.size≤b):v.ownBlock ≠ some b:=by
 obtain ⟨L,bs,I,J⟩:=h.coll;exact jM I.own y
theorem fJ.VA {r:Ru} {c0 c1 c2:Value} {y:List Nat} {W:World} (h:fJ g p w xs v wr) (hB:Below wr.heap.size wr W) (hr:fG W [c0,c1,c2] r y) (I:∀ b ∈ y,w.heap.size≤b∧v.ownBlock ≠ some b):
  ∃ L bs,aZ 3 fG w.heap.size 40 (W.alloc (.cells #[c0,c1,c2] 40)) v L xs bs∧(∀ b ∈ bs ++ y,w.heap.size≤b)∧aQ 3 fG (W.alloc (.cells #[c0,c1,c2] 40)) [c0,c1,c2] [r] y∧
   Lies (W.alloc (.cells #[c0,c1,c2] 40)) (some ⟨W.heap.size,0,none⟩) [c0,c1,c2]∧(∀ b ∈ y,v.ownBlock ≠ some b)∧Below w.heap.size wr (W.alloc (.cells #[c0,c1,c2] 40))∧w.heap.size≤(W.alloc (.cells #[c0,c1,c2] 40)).heap.size:=by
 obtain ⟨L,bs,hC,U⟩:=h.coll;have hA:Below W.heap.size W (W.alloc (.cells #[c0,c1,c2] 40)):=ζ;have hs:=h.kept.size;have a0:=hB.size;have hT:Below wr.heap.size wr (W.alloc (.cells #[c0,c1,c2] 40)):=hB.trans (hA.mono a0);exact ⟨L,bs,hC.below aV hT,fun b J=>(μ.1 J).elim (U b) (fun J=>(I b J).1),aQ.dh kY (aV.below hr hA),aS (ω _ _),fun b J=>(I b J).2,hT.mono hs,by simp; omega⟩
theorem fJ.app {J:World} {v4:Value} {L4:List Value} {I:List Nat} {y:Ru} (h:fJ g p w xs v wr) (hC:aZ 3 fG w.heap.size 40 J v4 L4 (xs ++ [y]) I) (U:∀ b ∈ I,w.heap.size≤b) (hB:Below w.heap.size wr J) (hy:QZ y):fJ g p w (xs ++ [y]) v4 J:=
 ⟨⟨L4,I,hC,U⟩,fun x hx=>(μ.1 hx).elim (h.small x) (fun hx=>by rw [List.mem_singleton.1 hx]; exact hy),h.rdr.fM hB h.glt,h.kept.fM hB ν,h.glt⟩
end
def Ti (m g p q:Nat) (w:World) (e:Ending) (w':World):Prop:=
 ∃ (xs:List Ru) (v:Value) (y:Nat),e=.returned v∧xs.length≤m∧y≤p+q∧fJ g y w xs v w'
theorem D.PX {w:World} {b:Nat} {no:Bool} {nm:ByteArray} {s:Value} {a:A} {U:List Nat} (h:w.heap[b]? = some (.cells #[.bool no,.string nm,s] 42 (0,0))) (ha:aG w [.string nm,s] a U):gW w [.slice (some ⟨b,0,none⟩) 1 1] [⟨no,a⟩] (b :: U):=by
 obtain ⟨s',J,hn,ht⟩:=ha;simp only [List.cons.injEq,and_true,Value.string.injEq] at J;obtain ⟨rfl,rfl⟩:=J;refine ⟨_,1,rfl,ν,by unfold maxLen; omega,fun h=>by simp at h,fun _=>⟨b,0,rfl,fun _=>[.bool no,.string a.name,s],fun _=>U,by simp,fun k t I=>?_⟩⟩
 match k,I with
 | 0,I=>
  simp only [List.getElem?_cons_zero,Option.some.injEq] at I;subst I;refine ⟨rfl,fun j v y=>?_,s,rfl,hn,ht⟩
  match j,y with
  | 0,y=>rw [ai h]; simpa using y
  | 1,y=>rw [ai h]; simpa using y
  | 2,y=>rw [ai h]; simpa using y
  | j+3,y=>simp at y
 | k+1,I=>simp at I
theorem D.yh {w:World} {b:Nat} {no U:Bool} {nm a0:ByteArray} {s s2:Value} {a a2:A} {b1 b2:List Nat} (h:w.heap[b]? = some (.cells #[.bool no,.string nm,s,.bool U,.string a0,s2] 42 (0,0)))
  (ha:aG w [.string nm,s] a b1) (a1:aG w [.string a0,s2] a2 b2):gW w [.slice (some ⟨b,0,none⟩) 2 2] [⟨no,a⟩,⟨U,a2⟩] (b :: (b1 ++ b2)):=by
 obtain ⟨s',I,hn,ht⟩:=ha;simp only [List.cons.injEq,and_true,Value.string.injEq] at I;obtain ⟨rfl,rfl⟩:=I;obtain ⟨a5,I,a3,a4⟩:=a1;simp only [List.cons.injEq,and_true,Value.string.injEq] at I;obtain ⟨rfl,rfl⟩:=I;refine ⟨_,2,rfl,ν,by unfold maxLen; omega,fun h=>by simp at h,fun _=>⟨b,0,rfl,fun k=>if k=0 then [.bool no,.string a.name,s] else [.bool U,.string a2.name,s2],fun k=>if k=0 then b1 else b2,by simp [List.range_succ],fun k t J=>?_⟩⟩
 match k,J with
 | 0,J=>
  simp only [List.getElem?_cons_zero,Option.some.injEq] at J;subst J;refine ⟨rfl,fun j v y=>?_,s,rfl,hn,ht⟩
  match j,y with
  | 0,y=>rw [ai h]; simpa using y
  | 1,y=>rw [ai h]; simpa using y
  | 2,y=>rw [ai h]; simpa using y
  | j+3,y=>simp at y
 | 1,J=>
  simp only [List.getElem?_cons_succ,List.getElem?_cons_zero,Option.some.injEq] at J;subst J;refine ⟨rfl,fun j v y=>?_,s2,rfl,a3,a4⟩
  match j,y with
  | 0,y=>rw [ai h]; simpa using y
  | 1,y=>rw [ai h]; simpa using y
  | 2,y=>rw [ai h]; simpa using y
  | j+3,y=>simp at y
 | k+2,J=>simp at J
theorem D.ng {w:World} {b:Nat} {x:ByteArray} {c:Bool} (h:w.heap[b]? = some (.cells #[.bool c,.string x] 91 (0,0))) (J:x.size≤maxLen):
  eP w [.slice (some ⟨b,0,none⟩) 1 1] [⟨c,x⟩] [b]:=by
 refine ⟨_,1,rfl,ν,by unfold maxLen; omega,fun h=>by simp at h,fun _=>⟨b,0,rfl,fun k=>[.bool c,.string x],fun _=>[],by simp,fun k t I=>?_⟩⟩
 match k,I with
 | 0,I=>
  simp only [List.getElem?_cons_zero,Option.some.injEq] at I;subst I;refine ⟨rfl,fun j v y=>?_,rfl,J,rfl⟩
  match j,y with
  | 0,y=>rw [ai h]; simpa using y
  | 1,y=>rw [ai h]; simpa using y
  | j+2,y=>simp at y
 | k+1,I=>simp at I
end
section
open Go.RowKit D
attribute [local go_sem ↓] Go.wp_at_zero Go.wp_at_succ
theorem rC {B:Nat} {a w:World} (h:Below B a w) (n:Nat):Below B a (w.drewN n):=⟨h.os,h.tape,h.output,h.size,h.block⟩
theorem Ez (y:List T) (s:ByteArray) (v:Value) (bs:List Nat) (w:World) (h:eP w [v] y bs):
  Calls Tryz.prog 289 #[v,.agg #[.bool true,.string s]] w fun e w'=>∃ r:Int,e=.returned (.int .i64 r)∧(0≤r ↔ jP s y)∧Below w.heap.size w w':=by
 obtain ⟨Ad,cap,rfl,hl,hm⟩:=ak h;have a6:=aA (τ hl hm);have hA:Below w.heap.size w (w.alloc (.cells #[.bool true,.string s] 91)):=ζ;have x0:(w.alloc (.cells #[.bool true,.string s] 91)).cell? ⟨w.heap.size,0,none⟩=some (.bool true):=by go_simp
 have x1:(w.alloc (.cells #[.bool true,.string s] 91)).cell? ⟨w.heap.size,1,none⟩=some (.string s):=by go_simp
 have I:=η (ι hA (ι x0 x1));clear hl hm hA x0 x1
 go_enter Tryz.func289,Tryz.ntmps289
 go_wp2
 go_loopw [5,8] (fun a i wr=>∃ k:Nat,k≤y.length∧i=.int .i64 k∧(∀ j (h1:j < y.length),j < k→¬ (y[j].var=true∧y[j].name=s))∧Below w.heap.size w wr∧wr.cell? ⟨w.heap.size,0,none⟩=some (.bool true)∧wr.cell? ⟨w.heap.size,1,none⟩=some (.string s)) (fun _ i _=>y.length - (intOf i).toNat)
 case atStart=>exact ⟨0,ε,rfl,fun j _ h=>by omega,I.out.1,I.out.2.1,I.out.2.2⟩
 case round=>
  obtain ⟨k,hk,rfl,a0,hb,x0,x1⟩:=hrel;have HA:=η a0;have HB:=η hb;clear a0 I;by_cases J:k < y.length
  ·obtain ⟨b,o,rfl,_,e0,e1,_⟩:=dY (aN.below h hb) J
   have a2:(0:Int)≤(k:Int):=by omega
   have a3:(k:Int) < (y.length:Int):=by omega
   have U:=η J;have HI:Hid (∀ (_:y[k].var=true∧y[k].name=s),jP s y):=η (fun e=>⟨_,δ J,e⟩)
   have HN:Hid (¬ (y[k].var=true∧y[k].name=s)→∀ j (h1:j < y.length),j < k+1→¬ (y[j].var=true∧y[j].name=s)):=η (fun e j h1 hj=>by
    by_cases a4:j=k
    ·subst a4; exact e
    ·exact HA.out j h1 (by omega))
   generalize y[k]=t at *;obtain ⟨tv,tn⟩:=t;dsimp only at *;clear hb J h;cases tv
   ·have a1:=η (HN.out (by simp))
    clear HI HN;go_wp2
    go_quiet (fail)
    go_wp2;go_roundw
    case rel=>exact ⟨k+1,U.out,by go_num,a1.out,rC HB.out _,x0,x1⟩
    case measure=>have:=U.out; simp [intOf]; omega
   ·cases hs:(s.toList == tn.toList)
    ·have a1:=η (HN.out (fun e=>by rw [e.2] at hs; simp at hs))
     clear HI HN;go_wp2
     go_quiet (fail)
     go_wp2;go_roundw
     case rel=>exact ⟨k+1,U.out,by go_num,a1.out,rC HB.out _,x0,x1⟩
     case measure=>have:=U.out; simp [intOf]; omega
    ·have a5:=η (HI.out ⟨rfl,by have:=(eX.eq s tn).1 (by have h9:=zS s tn; rw [hs] at h9; simpa using h9.symm); exact this.symm⟩)
     clear HI HN;go_wp2
     go_quiet (fail)
     go_wp2;go_ret;exact ⟨k,rfl,⟨fun _=>a5.out,fun _=>a2⟩,rC HB.out _⟩
  ·have he:=η (show k=y.length by omega)
   have a3:¬ (k:Int) < (y.length:Int):=by omega
   clear h hb;go_wp2;go_ret
   exact ⟨-1,rfl,⟨fun h0=>absurd h0 (by decide),fun ⟨t,ht,h1⟩=>by
    obtain ⟨j,hj,rfl⟩:=List.mem_iff_getElem.1 ht
    exact absurd h1 (HA.out j hj (by rw [he.out]; exact hj))⟩,HB.out⟩
theorem yj (I:List T) (s:ByteArray) (v:Value) (bs:List Nat) (w:World) (h:eP w [v] I bs):
  Calls Tryz.prog 286 #[v,.agg #[.bool true,.string s]] w fun e w'=>∃ r:Bool,e=.returned (.bool r)∧(r=true ↔ jP s I)∧Below w.heap.size w w':=by
 obtain ⟨Ad,cap,rfl,hl,hm⟩:=ak h;have y:Below w.heap.size w (w.alloc (.cells #[.bool true,.string s] 91)):=ζ;have U:=Ez I s _ bs _ (aN.below h y);clear h hl hm
 go_enter Tryz.func286,Tryz.ntmps286
 go_wp2_with fail
 refine U.mono ?_;rintro e w1 ⟨r,rfl,hr,J⟩;have HR:=η hr;have B1:=η (y.trans (J.mono y.size));clear U hr y;go_wp2;go_ret;exact ⟨decide (0≤r),rfl,by rw [decide_eq_true_iff]; exact HR.out,B1.out⟩
namespace D
def qA (x:ByteArray) (p:Pt):Bool:=!p.no && p.atom.args.any fun t=>t.var && decide (fA t.name x=0)
theorem PY (p:Pt) (x:ByteArray):qA x p=true ↔ p.no=false∧jP x p.atom.args:=by
 unfold qA jP;simp only [ο,Bool.not_eq_true',List.any_eq_true,decide_eq_true_eq,eX.eq]
theorem Nw {ps:List Pt} {x:ByteArray} {k:Nat} (y:k < ps.length) (h:qA x ps[k]=true):iw ps x=true:=by
 unfold iw; rw [List.any_eq_true]; exact ⟨_,δ y,h⟩
theorem PZ {ps:List Pt} {x:ByteArray} (h:ps.all (fun p=>!qA x p)=true):iw ps x=false:=by
 unfold iw;rw [List.any_eq_false];intro p y I;have:=List.all_eq_true.1 h p y;rw [show qA x p=true from I] at this; cases this
end D
theorem JY (ps:List Pt) (x:ByteArray) (v:Value) (bs:List Nat) (w:World) (h:gW w [v] ps bs):
  Calls Tryz.prog 274 #[v,.string x] w fun e w'=>e=.returned (.bool (iw ps x))∧Below w.heap.size w w':=by
 obtain ⟨Ad,cap,rfl,hl,hm⟩:=ak h;have a5:=aA (τ hl hm);clear hl hm
 go_enter Tryz.func274,Tryz.ntmps274
 go_wp2
 go_loopw [9] (fun i wr=>∃ k:Nat,k≤ps.length∧i=.int .i64 k∧(ps.take k).all (fun p=>!qA x p)=true∧Below w.heap.size w wr) (fun i _=>ps.length - (intOf i).toNat)
 case atStart=>exact ⟨0,ε,rfl,rfl,ϑ⟩
 case round=>
  obtain ⟨k,hk,rfl,J,hb⟩:=hrel;have HA:=η J;clear J;by_cases y:k < ps.length
  ·obtain ⟨b,o,Ae,ce,bk,rfl,_,d0,d1,d2,a0,_⟩:=iH (dw.below h hb) y
   have a6:(0:Int)≤(k:Int):=by omega
   have a3:(k:Int) < (ps.length:Int):=by omega
   have I:=η y;have hA:Below wr.heap.size wr (wr.alloc (.cells #[.bool ps[k].no,.string ps[k].atom.name,.slice Ae ps[k].atom.args.length ce] 42)):=ζ;have hc:=yj ps[k].atom.args x _ bk _ (aN.below (dm (iV a0)) hA);have HY:Hid (qA x ps[k]=true→iw ps x=true):=η (Nw y);have HN:Hid (qA x ps[k]=false→(ps.take (k+1)).all (fun p=>!qA x p)=true):=η (fun e=>by rw [iP ps k y,HA.out]; show (true && !qA x ps[k])=true; rw [e]; rfl);have HB:=η (hb.trans (hA.mono hb.size));have HI:=η (PY ps[k] x);generalize ps[k]=p at *;obtain ⟨no,nm,args⟩:=p;dsimp only at *;clear h a0 hA hb y;cases no
   ·go_wp2_with fail
    refine hc.mono ?_;rintro e w1 ⟨r,rfl,hr,a1⟩;have HR:=η hr;have a2:=η (HB.out.trans (a1.mono HB.out.size));clear hc hr a1;cases r
    ·have U:=η (HN.out (by cases hx:qA x ⟨false,nm,args⟩; rfl; exact absurd (HR.out.2 (HI.out.1 hx).2) (by simp)))
     clear HN HY HR;go_wp2;go_roundw
     case rel=>exact ⟨k+1,I.out,by go_num,U.out,a2.out⟩
     case measure=>have:=I.out; simp [intOf]; omega
    ·have a4:=η (HY.out (HI.out.2 ⟨by simp,HR.out.1 rfl⟩))
     clear HN HY HR;go_wp2;go_ret;exact ⟨aJ a4.out.symm,a2.out⟩
   ·have U:=η (HN.out (by cases hx:qA x ⟨true,nm,args⟩; rfl; exact absurd (HI.out.1 hx).1 (by simp)))
    clear HN HY hc;go_wp2;go_roundw
    case rel=>exact ⟨k+1,I.out,by go_num,U.out,HB.out⟩
    case measure=>have:=I.out; simp [intOf]; omega
  ·have he:=η (show k=ps.length by omega)
   have a3:¬ (k:Int) < (ps.length:Int):=by omega
   have HE:=η (PZ (ps:=ps) (x:=x) (by have:=HA.out; rw [he.out,ϕ ν] at this; exact this));have HB:=η hb;clear h hb;go_wp2;go_ret;exact ⟨aJ HE.out.symm,HB.out⟩
theorem Tj (s:ByteArray) (w:World):(Instr.typeAssert (.iface 245 (.string s)) 239 241 true).run Tryz.prog w=.ok (.tuple #[.string ⟨#[]⟩,.bool false]) w:=by kernel_rfl
theorem wQ (ps:List Pt) (a:A) (v c0 c1:Value) (bs b2:List Nat) (w:World) (h:gW w [v] ps bs) (h2:aG w [c0,c1] a b2):
  Calls Tryz.prog 238 #[v,.agg #[c0,c1]] w fun e w'=>e=.returned (.bool (fF ps a))∧Below w.heap.size w w':=by
 obtain ⟨Ad,cap,rfl,hl,hm⟩:=ak h;have ht:=dm h2;obtain ⟨Aa,ca,rfl,rfl⟩:=aY h2;have am:=aA (τ hl hm);obtain ⟨_,_,ac,a7,a8⟩:=ak ht;have ao:=aA (τ a7 a8);have hA:Below w.heap.size w (w.alloc (.cells #[.string a.name,.slice Aa a.args.length ca] 33)):=ζ;clear hl hm a7 a8 ac h2;unfold fF;obtain ⟨an,args⟩:=a;dsimp only at *
 go_enter Tryz.func238,Tryz.ntmps238
 have a1:=Ci;have a2:=Tj;go_wp2
 go_loopw [12] (fun i wr=>∃ k:Nat,k≤args.length∧i=.int .i64 k∧(args.take k).all (fun t=>!t.var || iw ps t.name)=true∧Below w.heap.size w wr) (fun i _=>args.length - (intOf i).toNat)
 case atStart=>exact ⟨0,ε,rfl,rfl,hA⟩
 case round=>
  obtain ⟨k,hk,rfl,a3,hb⟩:=hrel;have HA:=η a3;clear a3 hA;by_cases I:k < args.length
  ·obtain ⟨b,o,rfl,_,d0,d1,_⟩:=dY (aN.below ht hb) I
   have ap:(0:Int)≤(k:Int):=by omega
   have ae:(k:Int) < (args.length:Int):=by omega
   have a0:=η I;have hA:Below wr.heap.size wr (wr.alloc (.cells #[.bool args[k].var,.string args[k].name] 91)):=ζ;have a9:=hb.trans (hA.mono hb.size);have y:=uI args[k] (wr.alloc (.cells #[.bool args[k].var,.string args[k].name] 91));have a5:=fun w' (af:Below w.heap.size w w')=>JY ps args[k].name _ bs w' (dw.below h af)
   have HY:Hid ((!args[k].var || iw ps args[k].name)=true→(args.take (k+1)).all (fun t=>!t.var || iw ps t.name)=true):=η (fun e=>by rw [iP args k I,HA.out]; show (true && (!args[k].var || iw ps args[k].name))=true; rw [e]; rfl);have HN:Hid ((!args[k].var || iw ps args[k].name)=false→args.all (fun t=>!t.var || iw ps t.name)=false):=η (fun e=>rZ args k I e);have HB:=η a9;generalize args[k]=t at *;obtain ⟨tv,tn⟩:=t;dsimp only at *;clear h ht hA hb a9 I;cases tv
   ·simp only [Bool.false_eq_true,if_false] at y
    have a6:=η (HY.out rfl);clear HY HN a5
    go_wp2_with fail
    refine y.mono ?_;rintro e w1 ⟨rfl,J⟩;have U:=η (HB.out.trans (J.mono HB.out.size));clear y J;go_wp2;go_roundw
    case rel=>exact ⟨k+1,a0.out,by go_num,a6.out,U.out⟩
    case measure=>have:=a0.out; simp [intOf]; omega
   ·simp only [if_true] at y
    go_wp2_with fail
    refine y.mono ?_;rintro e w1 ⟨rfl,J⟩;have U:=η (HB.out.trans (J.mono HB.out.size));have hv:=qP tn w1;have a4:=a5 w1 U.out;have HG:Hid ((!true || iw ps tn)=iw ps tn):=η rfl;rw [HG.out] at HY HN;generalize iw ps tn=r at *;clear y a5 J
    go_wp2_with fail
    refine hv.mono ?_;rintro e w2 ⟨rfl,rfl⟩
    go_wp2_with fail
    refine a4.mono ?_;rintro e w3 ⟨rfl,aa⟩;have ab:=η (U.out.trans (aa.mono U.out.size));clear hv a4 aa;cases r
    ·have ag:=η (HN.out rfl)
     clear HN HY;go_wp2;go_ret;exact ⟨aJ ag.out.symm,ab.out⟩
    ·have a6:=η (HY.out rfl)
     clear HN HY;go_wp2;go_roundw
     case rel=>exact ⟨k+1,a0.out,by go_num,a6.out,ab.out⟩
     case measure=>have:=a0.out; simp [intOf]; omega
  ·have he:=η (show k=args.length by omega)
   have ae:¬ (k:Int) < (args.length:Int):=by omega
   have HE:Hid (args.all (fun t=>!t.var || iw ps t.name)=true):=η (by have:=HA.out; rw [he.out,ϕ ν] at this; exact this);have HB:=η hb;clear h ht hb;go_wp2;go_ret;exact ⟨aJ HE.out.symm,HB.out⟩
theorem EC (ps:List Pt) (v:Value) (bs:List Nat) (w:World) (h:gW w [v] ps bs):
  Calls Tryz.prog 239 #[v] w fun e w'=>e=.returned (.bool (qN ps))∧Below w.heap.size w w':=by
 obtain ⟨Ad,cap,rfl,hl,hm⟩:=ak h;have a7:=aA (τ hl hm);clear hl hm;unfold qN
 go_enter Tryz.func239,Tryz.ntmps239
 go_wp2
 go_loopw [7] (fun i wr=>∃ k:Nat,k≤ps.length∧i=.int .i64 k∧(ps.take k).all (fun p=>fF ps p.atom)=true∧Below w.heap.size w wr) (fun i _=>ps.length - (intOf i).toNat)
 case atStart=>exact ⟨0,ε,rfl,rfl,ϑ⟩
 case round=>
  obtain ⟨k,hk,rfl,I,U⟩:=hrel;have HA:=η I;clear I;by_cases y:k < ps.length
  ·obtain ⟨b,o,Ae,ce,bk,rfl,_,d0,d1,d2,a0,_⟩:=iH (dw.below h U) y
   have a8:(0:Int)≤(k:Int):=by omega
   have a4:(k:Int) < (ps.length:Int):=by omega
   have a1:=η y;have hA:Below wr.heap.size wr (wr.alloc (.cells #[.bool ps[k].no,.string ps[k].atom.name,.slice Ae ps[k].atom.args.length ce] 42)):=ζ;have J:=U.trans (hA.mono U.size);have hc:=wQ ps ps[k].atom _ _ _ bs bk _ (dw.below h J) (aj.below (iV a0) hA);have HY:Hid (fF ps ps[k].atom=true→(ps.take (k+1)).all (fun p=>fF ps p.atom)=true):=η (fun e=>by rw [iP ps k y,HA.out]; show (true && fF ps ps[k].atom)=true; rw [e]; rfl);have HN:Hid (fF ps ps[k].atom=false→ps.all (fun p=>fF ps p.atom)=false):=η (fun e=>rZ ps k y e);have HB:=η J;generalize fF ps ps[k].atom=r at *;generalize ps[k]=p at *;clear h a0 hA U J y
   go_wp2_with fail
   refine hc.mono ?_;rintro e w1 ⟨rfl,a2⟩;have a3:=η (HB.out.trans (a2.mono HB.out.size));clear hc a2;cases r
   ·have a5:=η (HN.out rfl)
    clear HN HY;go_wp2;go_ret;exact ⟨aJ (by rw [a5.out]; rfl),a3.out⟩
   ·have a6:=η (HY.out rfl)
    clear HN HY;go_wp2;go_roundw
    case rel=>exact ⟨k+1,a1.out,by go_num,a6.out,a3.out⟩
    case measure=>have:=a1.out; simp [intOf]; omega
  ·have he:=η (show k=ps.length by omega)
   have a4:¬ (k:Int) < (ps.length:Int):=by omega
   have HE:Hid (ps.all (fun p=>fF ps p.atom)=true):=η (by have:=HA.out; rw [he.out,ϕ ν] at this; exact this);have HB:=η U;clear h U;go_wp2;go_ret;exact ⟨aJ (by rw [HE.out]; rfl),HB.out⟩
end
end Go.Proofs.YtkjinanbccloeaaGreatDoor
