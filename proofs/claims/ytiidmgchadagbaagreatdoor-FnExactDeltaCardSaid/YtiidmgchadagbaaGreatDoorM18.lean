/- Of the proof of FnExactDelta: QryQ, BdP, DoP, ChB, HChange. -/
import Derived.Test.YtiidmgchadagbaaGreatDoorM14
import Derived.Test.YtiidmgchadagbaaGreatDoorM17
set_option linter.unusedVariables false
set_option maxHeartbeats 1000000
namespace Go.Proofs.YtiidmgchadagbaaGreatDoor
open Go.RowKit D
theorem D.SQ {w w':World} {base e size n:Nat} {v:Value} {L:List Value} (h:w.ownsRow base e size v n L) (hk:∀ b,v.ownBlock=some b→w'.heap[b]? = w.heap[b]?):w'.ownsRow base e size v n L:=by
 refine ⟨h.1,?_⟩
 rcases h.2 with h2 | ⟨g,cap,cur,rfl,h3,h4,h5⟩
 ·exact .inl h2
 ·exact .inr ⟨g,cap,cur,rfl,h3,(hk g (by simp [Value.ownBlock])).trans h4,h5⟩
theorem D.bD {w:World} {base e size n b:Nat} {v:Value} {L:List Value} (h:w.ownsRow base e size v n L) (hb:v.ownBlock=some b):base≤b∧b < w.heap.size:=by
 rcases h.2 with ⟨rfl,_⟩ | ⟨g,cap,cur,rfl,h3,h4,_⟩
 ·simp [Value.ownBlock] at hb
 ·simp [Value.ownBlock] at hb
  subst hb;exact ⟨h3,lt_of_block h4⟩
theorem D.cO.mX {α:Type} {n:Nat} {R:Rel α} {base e:Nat} {w w':World} {v:Value} {L:List Value} {xs:List α} {bs:List Nat} (g:Good R) (h:cO n R base e w v L xs bs)
  (h1:∀ b,v.ownBlock=some b→w'.heap[b]? = w.heap[b]?) (h2:∀ b ∈ bs,w'.heap[b]? = w.heap[b]?):cO n R base e w' v L xs bs:=
 ⟨SQ h.own h1,h.row.keep g h2,h.far⟩
theorem D.PV (ps:List Pt) (k:Nat) (h:k < ps.length):gZ (ps.take (k+1))=gZ (ps.take k) ++ (if ps[k].no then [] else [ps[k].atom]):=by
 unfold gZ;rw [List.take_succ_eq_append_getElem h,List.filter_append,List.map_append]
 cases hn:ps[k].no <;> simp [hn]
theorem D.PW (ps:List Pt) (k:Nat) (h:k < ps.length):dX (ps.take (k+1))=dX (ps.take k) ++ (if ps[k].no then [ps[k].atom] else []):=by
 unfold dX;rw [List.take_succ_eq_append_getElem h,List.filter_append,List.map_append]
 cases hn:ps[k].no <;> simp [hn]
structure D.uS (vars:List ByteArray) (w:World) (hz hb B:Nat) (vv:Value) (b3:List Nat) (v1:Value) (L1:List Value) (xs1:List A) (bs1:List Nat) (v2:Value) (L2:List Value) (xs2:List A) (bs2:List Nat) (wr:World):Prop where
 r0:wr.heap[hz]? = some (.cells #[.slice none 0 0,.slice none 0 0,.slice none 0 0] 195 (0,0))
 r1:wr.heap[hb]? = some (.cells #[v1,v2,vv] 195 (0,0))
 h0:w.heap.size≤hz
 h1:hz < hb
 hB:hb < B
 c1:cO 2 (D5 vars) B 199 wr v1 L1 xs1 bs1
 c2:cO 2 (D5 vars) B 199 wr v2 L2 xs2 bs2
 k1:∀ b ∈ bs1,B≤b
 k2:∀ b ∈ bs2,B≤b
 f12:∀ b,v1.ownBlock=some b→v2.ownBlock ≠ some b∧b ∉ bs2
 f21:∀ b,v2.ownBlock=some b→b ∉ bs1
 vs:jL wr [vv] vars b3
 kv:∀ b ∈ b3,w.heap.size≤b∧b < hb∧b ≠ hz
 bel:Below w.heap.size w wr
 pX:B≤wr.heap.size
section
variable {vars:List ByteArray} {w:World} {hz hb B:Nat} {vv:Value} {b3:List Nat} {v1:Value} {L1:List Value} {xs1:List A} {bs1:List Nat} {v2:Value} {L2:List Value} {xs2:List A} {bs2:List Nat} {wr:World}
theorem D.uS.later {w' : World} (h : uS vars w hz hb B vv b3 v1 L1 xs1 bs1 v2 L2 xs2 bs2 wr) (hk : Below wr.heap.size wr w') : uS vars w hz hb B vv b3 v1 L1 xs1 bs1 v2 L2 xs2 bs2 w' :=
  ⟨(hk.block _ (lt_of_block h.r0)).trans h.r0, (hk.block _ (lt_of_block h.r1)).trans h.r1, h.h0, h.h1, h.hB, h.c1.below (iI _) hk, h.c2.below (iI _) hk, h.k1, h.k2, h.f12, h.f21, cZ.below h.vs hk, h.kv,
    h.bel.trans (hk.mono h.bel.size), Nat.le_trans h.pX hk.size⟩
theorem D.uS.lit {a:A} {v9:Value} {b9:List Nat} {w2:World} {v:Value} {L:List Value} {n:Nat} (hk:Below wr.heap.size wr w2) (hB:B≤wr.heap.size) (hown:wr.ownsRow B 199 2 v n L) (hnm:a.name.size≤maxLen) (hp:kP vars w2 [v9] a.args b9) (h9:Value.oneCell' v9=true):
  (w2.alloc (.cells #[.string a.name,v9] 199)).ownsRow B 199 2 v n L∧
   Lies (w2.alloc (.cells #[.string a.name,v9] 199)) (some ⟨w2.heap.size,0,none⟩) [.string a.name,v9]∧(∀ u ∈ [.string a.name,v9],Value.oneCell' u=true)∧B≤(w2.alloc (.cells #[.string a.name,v9] 199)).heap.size:=by
 have hA:Below w2.heap.size w2 (w2.alloc (.cells #[.string a.name,v9] 199)):=(Below.refl _ _).alloc (Nat.le_refl _) _;have hb:=hk.trans (hA.mono hk.size);refine ⟨own_below hown hb,by have:=aS (heap_alloc_new w2 (.cells #[.string a.name,v9] 199)); simpa using this,fun u hu=>?_,Nat.le_trans hB hb.size⟩
 rcases List.mem_cons.1 hu with rfl | hu
 ·rfl
 ·rw [List.mem_singleton.1 hu]; exact h9
theorem D.uS.app1 {a:A} {v9:Value} {b9:List Nat} {w2 w5:World} {A5:Option Addr} {c5:Nat} (h:uS vars w hz hb B vv b3 v1 L1 xs1 bs1 v2 L2 xs2 bs2 wr) (hk:Below wr.heap.size wr w2) (hnm:a.name.size≤maxLen) (hp:kP vars w2 [v9] a.args b9) (hn:New wr.heap.size w2 b9) (h9:Value.oneCell' v9=true)
  (hown:w5.ownsRow B 199 2 (.slice A5 (xs1.length+1) c5) (xs1.length+1) (L1 ++ [.string a.name,v9])) (hg:(w2.alloc (.cells #[.string a.name,v9] 199)).grownBy w5 v1.ownBlock)
  (hloc:(Value.slice A5 (xs1.length+1) c5).ownBlock=v1.ownBlock∨(Value.slice A5 (xs1.length+1) c5).ownBlock=some (w2.alloc (.cells #[.string a.name,v9] 199)).heap.size):
  w5.cell? ⟨hb,0,none⟩=some v1∧w5.cell? ⟨hb,1,none⟩=some v2∧w5.cell? ⟨hb,2,none⟩=some vv∧w5.frozen? ⟨hb,0,none⟩=false∧
   uS vars w hz hb B vv b3 (.slice A5 (xs1.length+1) c5) (L1 ++ [.string a.name,v9]) (xs1 ++ [a]) (bs1 ++ b9) v2 L2 xs2 bs2 (w5.setCell ⟨hb,0,none⟩ (.slice A5 (xs1.length+1) c5)):=by
 have hA:Below w2.heap.size w2 (w2.alloc (.cells #[.string a.name,v9] 199)):=(Below.refl _ _).alloc (Nat.le_refl _) _;have hbw:=hk.trans (hA.mono hk.size);have h2:=h.later hbw;have hlt:=h2.pX;have hs2:=hk.size;have hB9:=h.hB;have h19:=h.h1;have h09:=h.h0;have hs9:=h.pX;have g9:∀ b ∈ b9,wr.heap.size≤b∧b < w2.heap.size:=fun b hb=>⟨(hn.own b hb).1,hn.lt hb⟩
 have hgb:∀ b,b < w2.heap.size+1→v1.ownBlock ≠ some b→w5.heap[b]? = (w2.alloc (.cells #[.string a.name,v9] 199)).heap[b]?:=fun b hb hne=>hg.block b (by simpa using hb) (fun e=>hne e.symm)
 have o1:∀ b,v1.ownBlock=some b→B≤b∧b < wr.heap.size:=fun b hb=>bD h.c1.own hb
 have o2:∀ b,v2.ownBlock=some b→B≤b∧b < wr.heap.size:=fun b hb=>bD h.c2.own hb
 have l1:∀ b ∈ bs1,b < wr.heap.size:=fun b hb=>h.c1.row.lt (iI _) b hb
 have l2:∀ b ∈ bs2,b < wr.heap.size:=fun b hb=>h.c2.row.lt (iI _) b hb
 have n1:v1.ownBlock ≠ some hb:=fun e=>by have:=(o1 _ e).1; omega
 have n0:v1.ownBlock ≠ some hz:=fun e=>by have:=(o1 _ e).1; omega
 have hr1:=(hgb hb (by omega) n1).trans h2.r1;have hr0:=(hgb hz (by omega) n0).trans h2.r0;have hp2:D5 vars (w2.alloc (.cells #[.string a.name,v9] 199)) [.string a.name,v9] a b9:=⟨v9,rfl,hnm,(dm _).below hp hA⟩
 have hc1:cO 2 (D5 vars) B 199 w5 (.slice A5 (xs1.length+1) c5) (L1 ++ [.string a.name,v9]) (xs1 ++ [a]) (bs1 ++ b9):=
  h2.c1.app (iI _) (aV.dB (EY _) hp2) (fun b hb e=>by have:=(o1 _ e).2; have:=(g9 b hb).1; omega) hown hg hloc
 have hkc:∀ b,b ≠ hb→(w5.setCell ⟨hb,0,none⟩ (.slice A5 (xs1.length+1) c5)).heap[b]? = w5.heap[b]?:=fun b hne=>Below.heap_setCell _ _ _ _ hne
 have onew:∀ b,(Value.slice A5 (xs1.length+1) c5).ownBlock=some b→v1.ownBlock=some b∨b=w2.heap.size+1:=fun b e=>by
  rcases hloc with h' | h'
  ·left; rw [← h']; exact e
  ·right; rw [h'] at e; simp at e; omega
 refine ⟨ak hr1,ak hr1,ak hr1,aB hr1,⟨(hkc _ (by omega)).trans hr0,?_,h09,h19,hB9,?_,?_,?_,h.k2,?_,?_,?_,h.kv,?_,?_⟩⟩
 ·have:=bZ (o:=0) (u:=.slice A5 (xs1.length+1) c5) hr1
  simpa using this
 ·exact hc1.mX (iI _) (fun b e=>hkc b (fun e2=>by
   subst e2
   rcases onew _ e with h' | h'
   ·exact n1 h'
   ·omega)) (fun b hb'=>hkc b (fun e2=>by
   subst e2
   rcases List.mem_append.1 hb' with h' | h'
   ·have:=h.k1 _ h'; omega
   ·have:=(g9 _ h').1; omega))
 ·refine (h2.c2.mX (iI _) (fun b e=>?_) (fun b hb'=>?_))
  ·have:=o2 _ e
   rw [hkc b (by omega)];exact hgb b (by omega) (fun e2=>(h.f12 b e2).1 e)
  ·have:=l2 _ hb'
   have:=h.k2 _ hb';rw [hkc b (by omega)];exact hgb b (by omega) (fun e2=>(h.f12 b e2).2 hb')
 ·intro b hb'
  rcases List.mem_append.1 hb' with h' | h'
  ·exact h.k1 _ h'
  ·have:=(g9 _ h').1; omega
 ·intro b e
  rcases onew _ e with h' | h'
  ·exact h.f12 b h'
  ·exact ⟨fun e2=>by have:=(o2 _ e2).2; omega,fun e2=>by have:=l2 _ e2; omega⟩
 ·intro b e hb'
  rcases List.mem_append.1 hb' with h' | h'
  ·exact h.f21 b e h'
  ·have:=(o2 _ e).2; have:=(g9 _ h').1; omega
 ·refine cZ.keep h2.vs fun b hb'=>?_
  have:=h.kv b hb';rw [hkc b (by omega)];exact hgb b (by omega) (fun e=>by have:=(o1 _ e).1; omega)
 ·have hbel:Below w.heap.size w w5:=h2.bel.grown hg h2.bel.size fun k e=>by have:=(o1 _ e).1; omega
  exact hbel.setCell (by show w.heap.size≤hb; omega) _
 ·have:=hg.size; simp [World.setCell]; simp at this; omega
theorem D.uS.WX {a:A} {v9:Value} {b9:List Nat} {w2 w5:World} {A5:Option Addr} {c5:Nat} (h:uS vars w hz hb B vv b3 v1 L1 xs1 bs1 v2 L2 xs2 bs2 wr) (hk:Below wr.heap.size wr w2) (hnm:a.name.size≤maxLen) (hp:kP vars w2 [v9] a.args b9) (hn:New wr.heap.size w2 b9) (h9:Value.oneCell' v9=true)
  (hown:w5.ownsRow B 199 2 (.slice A5 (xs2.length+1) c5) (xs2.length+1) (L2 ++ [.string a.name,v9])) (hg:(w2.alloc (.cells #[.string a.name,v9] 199)).grownBy w5 v2.ownBlock)
  (hloc:(Value.slice A5 (xs2.length+1) c5).ownBlock=v2.ownBlock∨(Value.slice A5 (xs2.length+1) c5).ownBlock=some (w2.alloc (.cells #[.string a.name,v9] 199)).heap.size):
  w5.cell? ⟨hb,0,none⟩=some v1∧w5.cell? ⟨hb,1,none⟩=some v2∧w5.cell? ⟨hb,2,none⟩=some vv∧w5.frozen? ⟨hb,1,none⟩=false∧
   uS vars w hz hb B vv b3 v1 L1 xs1 bs1 (.slice A5 (xs2.length+1) c5) (L2 ++ [.string a.name,v9]) (xs2 ++ [a]) (bs2 ++ b9) (w5.setCell ⟨hb,1,none⟩ (.slice A5 (xs2.length+1) c5)):=by
 have hA:Below w2.heap.size w2 (w2.alloc (.cells #[.string a.name,v9] 199)):=(Below.refl _ _).alloc (Nat.le_refl _) _;have hbw:=hk.trans (hA.mono hk.size);have h2:=h.later hbw;have hlt:=h2.pX;have hs2:=hk.size;have hB9:=h.hB;have h19:=h.h1;have h09:=h.h0;have hs9:=h.pX;have g9:∀ b ∈ b9,wr.heap.size≤b∧b < w2.heap.size:=fun b hb=>⟨(hn.own b hb).1,hn.lt hb⟩
 have hgb:∀ b,b < w2.heap.size+1→v2.ownBlock ≠ some b→w5.heap[b]? = (w2.alloc (.cells #[.string a.name,v9] 199)).heap[b]?:=fun b hb hne=>hg.block b (by simpa using hb) (fun e=>hne e.symm)
 have o1:∀ b,v1.ownBlock=some b→B≤b∧b < wr.heap.size:=fun b hb=>bD h.c1.own hb
 have o2:∀ b,v2.ownBlock=some b→B≤b∧b < wr.heap.size:=fun b hb=>bD h.c2.own hb
 have l1:∀ b ∈ bs1,b < wr.heap.size:=fun b hb=>h.c1.row.lt (iI _) b hb
 have l2:∀ b ∈ bs2,b < wr.heap.size:=fun b hb=>h.c2.row.lt (iI _) b hb
 have n1:v2.ownBlock ≠ some hb:=fun e=>by have:=(o2 _ e).1; omega
 have n0:v2.ownBlock ≠ some hz:=fun e=>by have:=(o2 _ e).1; omega
 have hr1:=(hgb hb (by omega) n1).trans h2.r1;have hr0:=(hgb hz (by omega) n0).trans h2.r0;have hp2:D5 vars (w2.alloc (.cells #[.string a.name,v9] 199)) [.string a.name,v9] a b9:=⟨v9,rfl,hnm,(dm _).below hp hA⟩
 have hc1:cO 2 (D5 vars) B 199 w5 (.slice A5 (xs2.length+1) c5) (L2 ++ [.string a.name,v9]) (xs2 ++ [a]) (bs2 ++ b9):=
  h2.c2.app (iI _) (aV.dB (EY _) hp2) (fun b hb e=>by have:=(o2 _ e).2; have:=(g9 b hb).1; omega) hown hg hloc
 have hkc:∀ b,b ≠ hb→(w5.setCell ⟨hb,1,none⟩ (.slice A5 (xs2.length+1) c5)).heap[b]? = w5.heap[b]?:=fun b hne=>Below.heap_setCell _ _ _ _ hne
 have onew:∀ b,(Value.slice A5 (xs2.length+1) c5).ownBlock=some b→v2.ownBlock=some b∨b=w2.heap.size+1:=fun b e=>by
  rcases hloc with h' | h'
  ·left; rw [← h']; exact e
  ·right; rw [h'] at e; simp at e; omega
 refine ⟨ak hr1,ak hr1,ak hr1,aB hr1,⟨(hkc _ (by omega)).trans hr0,?_,h09,h19,hB9,?_,?_,h.k1,?_,?_,?_,?_,h.kv,?_,?_⟩⟩
 ·have:=bZ (o:=1) (u:=.slice A5 (xs2.length+1) c5) hr1
  simpa using this
 ·refine (h2.c1.mX (iI _) (fun b e=>?_) (fun b hb'=>?_))
  ·have:=o1 _ e
   rw [hkc b (by omega)];exact hgb b (by omega) (fun e2=>(h.f12 b e).1 e2)
  ·have:=l1 _ hb'
   have:=h.k1 _ hb';rw [hkc b (by omega)];exact hgb b (by omega) (fun e2=>h.f21 b e2 hb')
 ·exact hc1.mX (iI _) (fun b e=>hkc b (fun e2=>by
   subst e2
   rcases onew _ e with h' | h'
   ·exact n1 h'
   ·omega)) (fun b hb'=>hkc b (fun e2=>by
   subst e2
   rcases List.mem_append.1 hb' with h' | h'
   ·have:=h.k2 _ h'; omega
   ·have:=(g9 _ h').1; omega))
 ·intro b hb'
  rcases List.mem_append.1 hb' with h' | h'
  ·exact h.k2 _ h'
  ·have:=(g9 _ h').1; omega
 ·intro b e
  refine ⟨fun e2=>?_,fun hb'=>?_⟩
  ·rcases onew _ e2 with h' | h'
   ·exact (h.f12 b e).1 h'
   ·have:=(o1 _ e).2; omega
  ·rcases List.mem_append.1 hb' with h' | h'
   ·exact (h.f12 b e).2 h'
   ·have:=(o1 _ e).2; have:=(g9 _ h').1; omega
 ·intro b e hb'
  rcases onew _ e with h' | h'
  ·exact h.f21 b h' hb'
  ·have:=l1 _ hb'; omega
 ·refine cZ.keep h2.vs fun b hb'=>?_
  have:=h.kv b hb';rw [hkc b (by omega)];exact hgb b (by omega) (fun e=>by have:=(o2 _ e).1; omega)
 ·have hbel:Below w.heap.size w w5:=h2.bel.grown hg h2.bel.size fun k e=>by have:=(o2 _ e).1; omega
  exact hbel.setCell (by show w.heap.size≤hb; omega) _
 ·have:=hg.size; simp [World.setCell]; simp at this; omega
end
def D.Hz (vars:List ByteArray) (b:Bd) (i:Nat):ByteArray:=if h:i < vars.length then ji b vars[i] else ⟨#[]⟩
structure D.iJ (vars:List ByteArray) (b:Bd) (blk o:Nat) (w:World):Prop where
 wd:∀ i,i < 12→w.cell? ⟨blk,o+i,none⟩=some (.string (Hz vars b i))
 bd:∀ i,i < 12→∃ z:Int,w.cell? ⟨blk,o+12+i,none⟩=some (.int .i64 z)∧∀ h:i < b.length,z=(vars.idxOf b[i].1:Nat)
 ct:w.cell? ⟨blk,o+24,none⟩=some (.int .i64 b.length)
 fz:∀ i,i < 25→w.frozen? ⟨blk,o+i,none⟩=false
structure D.jJ (vars:List ByteArray) (b:Bd):Prop where
 inn:∀ p ∈ b,p.1 ∈ vars
 once:(b.map (·.1)).Nodup
 full:∀ p ∈ b,p.2 ≠ ⟨#[]⟩
 size:∀ p ∈ b,p.2.size≤maxLen
structure D.jT (vars:List ByteArray):Prop where
 few:vars.length≤12
 once:vars.Nodup
theorem D.yV {b:Bd} {n:ByteArray}:fV b n=none ↔ ∀ p ∈ b,p.1 ≠ n:=by
 induction b with
 | nil=>simp [fV]
 | cons p b ih=>
  rw [fV]
  split
  ·rename_i h; simp [h]
  ·rename_i h; simp [h,ih]
theorem D.xZ {b:Bd} {n v:ByteArray} (h:fV b n=some v):(n,v) ∈ b:=by
 induction b with
 | nil=>simp [fV] at h
 | cons p b ih=>
  rw [fV] at h
  split at h
  ·rename_i e
   cases h;subst e;exact List.mem_cons_self ..
  ·exact List.mem_cons_of_mem _ (ih h)
theorem D.Df {b:Bd} {n v:ByteArray} (h:fV b n=none):fV (b ++ [(n,v)]) n=some v:=by rw [mQ,h]; simp [fV]
theorem D.zY {b:Bd} {n m v:ByteArray} (h:n ≠ m):fV (b ++ [(n,v)]) m=fV b m:=by
 rw [mQ];simp [fV,h]
theorem D.jJ.qo {vars:List ByteArray} {b:Bd} (h:jJ vars b) (n:ByteArray):ji b n=⟨#[]⟩ ↔ fV b n=none:=by
 unfold ji
 cases hg:fV b n with
 | none=>simp
 | some v=>simp [h.full _ (xZ hg)]
theorem D.jJ.len {vars:List ByteArray} {b:Bd} (h:jJ vars b):b.length≤vars.length:=by
 have:(b.map (·.1)).length≤vars.length:=qh h.once fun x hx=>by
  obtain ⟨p,hp,rfl⟩:=List.mem_map.1 hx;exact h.inn p hp
 simpa using this
theorem D.jJ.lt {vars:List ByteArray} {b:Bd} (h:jJ vars b) {n:ByteArray} (hn:n ∈ vars) (hg:fV b n=none):b.length < vars.length:=by
 have hnd:(n :: b.map (·.1)).Nodup:=List.nodup_cons.2 ⟨fun hm=>by
  obtain ⟨p,hp,e⟩:=List.mem_map.1 hm
  exact yV.1 hg p hp e,h.once⟩
 have:(n :: b.map (·.1)).length≤vars.length:=qh hnd fun x hx=>by
  rcases List.mem_cons.1 hx with rfl | hx
  ·exact hn
  ·obtain ⟨p,hp,rfl⟩:=List.mem_map.1 hx
   exact h.inn p hp
 simp at this;omega
theorem D.jJ.snoc {vars:List ByteArray} {b:Bd} (h:jJ vars b) {n v:ByteArray} (hn:n ∈ vars) (hg:fV b n=none) (hv:v ≠ ⟨#[]⟩) (hs:v.size≤maxLen):jJ vars (b ++ [(n,v)]):=by
 refine ⟨fun p hp=>?_,?_,fun p hp=>?_,fun p hp=>?_⟩
 ·rcases List.mem_append.1 hp with hp | hp
  ·exact h.inn p hp
  ·rw [List.mem_singleton.1 hp]; exact hn
 ·rw [List.map_append]
  refine List.nodup_append.2 ⟨h.once,by simp,fun x hx y hy e=>?_⟩;simp at hy;obtain ⟨p,hp,rfl⟩:=List.mem_map.1 hx;exact yV.1 hg p hp (e.trans hy)
 ·rcases List.mem_append.1 hp with hp | hp
  ·exact h.full p hp
  ·rw [List.mem_singleton.1 hp]; exact hv
 ·rcases List.mem_append.1 hp with hp | hp
  ·exact h.size p hp
  ·rw [List.mem_singleton.1 hp]; exact hs
theorem D.jJ.init {vars:List ByteArray} {b:Bd} {p:ByteArray × ByteArray} (h:jJ vars (b ++ [p])):jJ vars b∧p.1 ∈ vars∧fV b p.1=none:=by
 have h2:=h.once;rw [List.map_append] at h2;obtain ⟨h3,_,h4⟩:=List.nodup_append.1 h2;exact ⟨⟨fun q hq=>h.inn q (List.mem_append_left _ hq),h3,fun q hq=>h.full q (List.mem_append_left _ hq),fun q hq=>h.size q (List.mem_append_left _ hq)⟩,h.inn p (by simp),yV.2 fun q hq e=>h4 q.1 (List.mem_map.2 ⟨q,hq,rfl⟩) p.1 (by simp) e⟩
theorem D.jJ.nil (vars:List ByteArray):jJ vars []:=⟨fun p h=>by simp at h,by simp,fun p h=>by simp at h,fun p h=>by simp at h⟩
theorem D.jJ.PX {vars:List ByteArray} {b:Bd} (h:jJ vars b) {t:T} (ht:t.var=false→t.name.size≤maxLen):(dH b t).name.size≤maxLen:=by
 unfold dH;cases hv:t.var
 ·simpa using ht hv
 ·simp only [if_true,ji]
  cases hg:fV b t.name with
  | none=>decide
  | some v=>exact h.size _ (xZ hg)
theorem D.JI {vars:List ByteArray} (hv:jT vars) {b:Bd} {n v:ByteArray} (hn:n ∈ vars) (hg:fV b n=none) (i:Nat):
  Hz vars (b ++ [(n,v)]) i=if i=vars.idxOf n then v else Hz vars b i:=by
 have hl:=List.idxOf_lt_length_of_mem hn;unfold Hz;by_cases hi:i < vars.length
 ·rw [dif_pos hi,dif_pos hi]
  split
  ·rename_i e
   subst e;have:vars[vars.idxOf n]=n:=List.getElem_idxOf hi;unfold ji;rw [this,Df hg]; rfl
  ·rename_i e
   have hne:n ≠ vars[i]:=fun e2=>e (by rw [e2]; exact (List.Nodup.idxOf_getElem hv.once i hi).symm)
   unfold ji;rw [zY hne]
 ·rw [dif_neg hi,dif_neg hi]
  split
  ·omega
  ·rfl
section
variable {vars:List ByteArray} {b:Bd} {blk o:Nat} {w:World}
theorem D.iJ.keep {w':World} (h:iJ vars b blk o w) (e:w'.heap[blk]? = w.heap[blk]?):iJ vars b blk o w':=
 ⟨fun i hi=>(World.cell?_of_block e).trans (h.wd i hi),fun i hi=>by obtain ⟨z,h1,h2⟩:=h.bd i hi; exact ⟨z,(World.cell?_of_block e).trans h1,h2⟩,(World.cell?_of_block e).trans h.ct,fun i hi=>(World.frozen?_of_block e).trans (h.fz i hi)⟩
theorem D.iJ.lt (h:iJ vars b blk o w):blk < w.heap.size:=lt_of_cell h.ct
theorem D.jU (w:World) (b o:Nat) (v:Value) {u:Value} (h:w.cell? ⟨b,o,none⟩=some u) (q:Nat):(w.setCell ⟨b,o,none⟩ v).cell? ⟨b,q,none⟩=if q=o then some v else w.cell? ⟨b,q,none⟩:=by
 split
 ·rename_i e; subst e; exact World.cell?_setCell_same _ _ _ h
 ·rename_i e; exact World.cell?_setCell_other _ _ _ _ (fun e2=>e (by injection e2 with _ e3 _; exact e3.symm))
theorem D.iJ.bind (hv:jT vars) (h:iJ vars b blk o w) (hb:jJ vars b) {n v:ByteArray} (hn:n ∈ vars) (hg:fV b n=none):
  iJ vars (b ++ [(n,v)]) blk o (((w.setCell ⟨blk,o+vars.idxOf n,none⟩ (.string v)).setCell ⟨blk,o+12+b.length,none⟩ (.int .i64 (vars.idxOf n:Nat))).setCell ⟨blk,o+24,none⟩ (.int .i64 ((b ++ [(n,v)]).length:Nat))):=by
 have hl:=hb.lt hn hg;have hf:=hv.few;have hi:=List.idxOf_lt_length_of_mem hn;obtain ⟨z0,hz0,_⟩:=h.bd b.length (by omega);have c1:=D.jU w blk (o+vars.idxOf n) (.string v) (h.wd _ (by omega));have c2:=D.jU (w.setCell ⟨blk,o+vars.idxOf n,none⟩ (.string v)) blk (o+12+b.length) (.int .i64 (vars.idxOf n:Nat)) (u:=.int .i64 z0) (by rw [c1,if_neg (by omega)]; exact hz0)
 have c3:=D.jU ((w.setCell ⟨blk,o+vars.idxOf n,none⟩ (.string v)).setCell ⟨blk,o+12+b.length,none⟩ (.int .i64 (vars.idxOf n:Nat))) blk (o+24) (.int .i64 ((b ++ [(n,v)]).length:Nat)) (u:=.int .i64 b.length)
  (by rw [c2,if_neg (by omega),c1,if_neg (by omega)]; exact h.ct)
 refine ⟨fun i hi'=>?_,fun i hi'=>?_,?_,fun i hi'=>?_⟩
 ·rw [c3,if_neg (by omega),c2,if_neg (by omega),c1,JI hv hn hg]
  by_cases e:i=vars.idxOf n
  ·rw [if_pos (by omega),if_pos e]
  ·rw [if_neg (by omega),if_neg e]; exact h.wd i hi'
 ·rw [c3,if_neg (by omega),c2]
  by_cases e:i=b.length
  ·subst e
   rw [if_pos rfl];exact ⟨_,rfl,fun hlt=>by simp⟩
  ·rw [if_neg (by omega),c1,if_neg (by omega)]
   obtain ⟨z,h1,h2⟩:=h.bd i hi';refine ⟨z,h1,fun hlt=>?_⟩;have hlt':i < b.length:=by simp at hlt; omega
   rw [h2 hlt',List.getElem_append_left hlt']
 ·rw [c3,if_pos rfl]
 ·simp only [World.frozen?_setCell]
  exact h.fz i hi'
theorem D.iJ.unbind (hv:jT vars) {n v:ByteArray} (h:iJ vars (b ++ [(n,v)]) blk o w) (hb:jJ vars (b ++ [(n,v)])):
  iJ vars b blk o ((w.setCell ⟨blk,o+24,none⟩ (.int .i64 (b.length:Nat))).setCell ⟨blk,o+vars.idxOf n,none⟩ (.string ⟨#[]⟩)):=by
 obtain ⟨hb0,hn,hg⟩:=hb.init;have hf:=hv.few;have hi:=List.idxOf_lt_length_of_mem hn;dsimp only at hn hg hi;have c1:=D.jU w blk (o+24) (.int .i64 (b.length:Nat)) h.ct;have c2:=D.jU (w.setCell ⟨blk,o+24,none⟩ (.int .i64 (b.length:Nat))) blk (o+vars.idxOf n) (.string ⟨#[]⟩) (by rw [c1,if_neg (by omega)]; exact h.wd _ (by omega));refine ⟨fun i hi'=>?_,fun i hi'=>?_,?_,fun i hi'=>?_⟩
 ·rw [c2]
  by_cases e:i=vars.idxOf n
  ·rw [if_pos (by omega)]
   subst e;unfold Hz;rw [dif_pos hi];have:vars[vars.idxOf n]=n:=List.getElem_idxOf hi;rw [this,(hb0.qo n).2 hg]
  ·rw [if_neg (by omega),c1,if_neg (by omega),h.wd i hi',JI hv hn hg,if_neg e]
 ·rw [c2,if_neg (by omega),c1,if_neg (by omega)]
  obtain ⟨z,h1,h2⟩:=h.bd i hi';refine ⟨z,h1,fun hlt=>?_⟩;rw [h2 (by simp; omega),List.getElem_append_left hlt]
 ·rw [c2,if_neg (by omega),c1,if_pos rfl]
 ·simp only [World.frozen?_setCell]
  exact h.fz i hi'
end
structure D.dD (blk o:Nat) (w w':World):Prop where
 grow:w.grownBy w' (some blk)
 rest:∀ q,(q < o∨o+25≤q)→w'.cell? ⟨blk,q,none⟩=w.cell? ⟨blk,q,none⟩
section
variable {blk o:Nat} {w w' w2:World}
theorem D.dD.refl (blk o:Nat) (w:World):dD blk o w w:=⟨⟨rfl,rfl,rfl,Nat.le_refl _,fun _ _ _=>rfl⟩,fun _ _=>rfl⟩
theorem D.dD.trans (h:dD blk o w w') (k:dD blk o w' w2):dD blk o w w2:=
 ⟨⟨k.grow.os.trans h.grow.os,k.grow.tape.trans h.grow.tape,k.grow.output.trans h.grow.output,Nat.le_trans h.grow.size k.grow.size,fun i hi hne=>(k.grow.block i (Nat.lt_of_lt_of_le hi h.grow.size) hne).trans (h.grow.block i hi hne)⟩,
  fun q hq=>(k.rest q hq).trans (h.rest q hq)⟩
theorem D.dD.of_below (h:Below w.heap.size w w') (hb:blk < w.heap.size):dD blk o w w':=
 ⟨⟨h.os,h.tape,h.output,h.size,fun i hi _=>h.block i hi⟩,fun q _=>World.cell?_of_block (h.block _ hb)⟩
theorem D.dD.put (w:World) (i:Nat) (hi:i < 25) (v:Value):dD blk o w (w.setCell ⟨blk,o+i,none⟩ v):=
 ⟨⟨rfl,rfl,rfl,by simp [World.setCell],fun k _ hne=>Below.heap_setCell _ _ _ _ (fun e=>hne (by rw [e]))⟩,
  fun q hq=>World.cell?_setCell_other _ _ _ _ (fun e=>by injection e with _ e2 _; omega)⟩
theorem D.dD.keep {α:Type} {R:Rel α} (g:Good R) {cs:List Value} {x:α} {bs:List Nat} (h:dD blk o w w') (hr:R w cs x bs) (hb:blk ∉ bs):R w' cs x bs:=
 g.keep hr fun b hb'=>h.grow.block b (g.lt hr b hb') (fun e=>hb (by injection e with e; rw [← e]; exact hb'))
theorem D.dD.block (h:dD blk o w w') {b:Nat} (hb:b < w.heap.size) (hne:b ≠ blk):w'.heap[b]? = w.heap[b]?:=h.grow.block b hb (fun e=>hne (by injection e))
end
theorem D.JJ {vars:List ByteArray} {b:Bd} (hb:jJ vars b) (t f:T) (ts fs:List T) (hc:t.var=false→t.name ≠ ⟨#[]⟩):
  cu (t :: ts) (f :: fs) b=if (dH b t).name=⟨#[]⟩ then cu ts fs (b ++ [(t.name,f.name)]) else if (dH b t).name=f.name then cu ts fs b else (b,false):=by
 obtain ⟨tv,tn⟩:=t;rw [cu];unfold dH;cases tv
 ·simp only [Bool.false_eq_true,if_false]
  rw [if_neg (hc rfl)]
 ·simp only [if_true]
  cases hg:fV b tn with
  | none=>
   have:ji b tn=⟨#[]⟩:=(hb.qo tn).2 hg;rw [if_pos this]
  | some v=>
   have e:ji b tn=v:=by unfold ji; rw [hg]; rfl
   have hne:v ≠ ⟨#[]⟩:=hb.full _ (xZ hg);simp only [e];rw [if_neg hne]
theorem D.Nr {vars:List ByteArray} {b:Bd} (hb:jJ vars b) {t:T} (hc:t.var=false→t.name ≠ ⟨#[]⟩) (h:(dH b t).name=⟨#[]⟩):t.var=true∧fV b t.name=none:=by
 unfold dH at h;cases hv:t.var
 ·simp [hv] at h; exact absurd h (hc hv)
 ·simp [hv] at h; exact ⟨rfl,(hb.qo _).1 h⟩
def D.behind (xs:List A) (c:Ch):List A:=kS (dW xs c.goes) c.comes
theorem D.PY (L ys:List A) (k:Nat) (h:k < ys.length):kS L (ys.take (k+1))=fA (kS L (ys.take k)) ys[k]:=by
 unfold kS; rw [List.take_succ_eq_append_getElem h,List.foldl_append]; rfl
theorem D.kQ {c:Ch} (h:jC c=true):bH c.comes=true∧bH c.goes=true:=by
 unfold jC at h; simp only [Bool.and_eq_true] at h; exact ⟨h.1.1,h.1.2⟩
theorem D.Ns {xs:List A} {c:Ch} {x:A} (h:x ∈ behind xs c):x ∈ xs∨x ∈ c.comes:=(Bc h).imp wW id
theorem D.Nu (xs:List A) (c:Ch):(behind xs c).length≤xs.length+c.comes.length:=by
 have h1:=sD c.comes (dW xs c.goes);have h2:(dW xs c.goes).length≤xs.length:=List.length_filter_le _ _;unfold behind; omega
theorem D.GY {xs:List A} {c:Ch} (h:bH xs=true) (hc:jC c=true):dw (fQ xs c.goes) c.comes=behind xs c:=by
 rw [vN (fE h) (fE (kQ hc).2)];exact LK (Iy (fE h)) (fE (kQ hc).1) (fun x hx=>nJ h x (wW hx)) (nJ (kQ hc).1)
theorem D.Nv {xs:List A} {c:Ch} (h:CV xs) (hc:CV c.comes):(behind xs c).length≤2000000∧∀ x ∈ behind xs c,x.args.length≤16777216:=
 ⟨by have:=Nu xs c; have:=h.1; have:=hc.1; omega,fun x hx=>(Ns hx).elim (h.2 x) (hc.2 x)⟩
theorem D.JK {xs:List A} (h:bH xs=true) (ys:List A):bI jf (dW xs ys)≤2100:=by
 have h1:=Ew (dW xs ys) (fun x hx=>nJ h x (wW hx));have h2:(dW xs ys).length≤xs.length:=List.length_filter_le _ _;have:=jM h;omega
theorem D.PZ (xs ys:List A):qZ (tJ xs ys)≤900000000:=by
 unfold tJ
 split
 ·rename_i h
  rw [Bool.and_eq_true] at h;have h1:=JK h.2 xs;have h2:=JK h.1 ys;show bI jf (dW ys xs)+bI jf (dW xs ys)≤_;omega
 ·simp [qZ,bI]
theorem GZ (r:Ch) (c0 c1:Value) (bs:List Nat) (left:Int) (w:World) (h:dU w [c0,c1] r bs) (h0:0≤left) (h1:left≤1048576):
  Calls Tryz.prog 22 #[.agg #[c0,c1],.int .i64 left] w (Left left (AV r) w.heap.size w):=by
 obtain ⟨b1,b2,rfl,hp,hq⟩:=dZ h;obtain ⟨Ad,cap,Ae,cape,rfl,rfl⟩:=eG h;have q1:=fun w' (hb:Below w.heap.size w w')=>tN r.comes _ b1 left w' (ai.below hp hb) h0 h1
 have q2:=fun l (g0:0≤l) (g1:l≤1048576) w' (hb:Below w.heap.size w w')=>tN r.goes _ b2 l w' (ai.below hq hb) g0 g1
 have hbk:AV r=kM r.comes+kM r.goes:=rfl;have HB:=η hbk;clear h hp hq hbk;have hA:=(Below.refl w.heap.size w).alloc (Nat.le_refl _) (.cells #[.slice Ad r.comes.length cap,.slice Ae r.goes.length cape] 43)
 go_enter Tryz.func22,Tryz.ntmps22
 go_wp2_with fail
 refine (q1 _ hA).mono ?_;rintro e w1 ⟨hb1,z,rfl,hr⟩;have B1:=hA.trans (hb1.mono hA.size);have x0:w1.cell? ⟨w.heap.size,0,none⟩=some (.slice Ad r.comes.length cap):=cell_later hb1 (by go_simp);have x1:w1.cell? ⟨w.heap.size,1,none⟩=some (.slice Ae r.goes.length cape):=cell_later hb1 (by go_simp);clear q1 hA
 rcases hr with rfl | ⟨hr0,hr1⟩
 ·go_wp2
  go_ret;exact ⟨B1,_,rfl,.inl rfl⟩
 ·go_wp2_with fail
  refine (q2 z hr0 (by omega) _ B1).mono ?_;rintro e w2 ⟨hb2,z2,rfl,hr2⟩;have B2:=B1.trans (hb2.mono B1.size)
  rcases hr2 with rfl | ⟨hr3,hr4⟩
  ·go_wp2
   go_ret;exact ⟨B2,_,rfl,.inl rfl⟩
  ·go_wp2
   go_ret;exact ⟨B2,_,rfl,.inr ⟨hr3,by rw [HB.out]; omega⟩⟩
theorem mD (r:Ch) (c0 c1 d0 d1:Value) (b1 b2:List Nat) (w:World) (h1:dU w [c0,c1] r b1) (h2:dU w [d0,d1] r b2):
  Calls Tryz.prog 26 #[.agg #[c0,c1],.agg #[d0,d1]] w (Yes w.heap.size w):=by
 obtain ⟨b11,b12,rfl,p1,q1⟩:=dZ h1;obtain ⟨b21,b22,rfl,p2,q2⟩:=dZ h2;obtain ⟨Ad,cap,Ae,cape,rfl,rfl⟩:=eG h1;obtain ⟨Ad2,cap2,Ae2,cape2,rfl,rfl⟩:=eG h2;have e1:=fun w' (hb:Below w.heap.size w w')=>rq r.comes _ _ b11 b21 w' (ai.below p1 hb) (ai.below p2 hb)
 have e2:=fun w' (hb:Below w.heap.size w w')=>rq r.goes _ _ b12 b22 w' (ai.below q1 hb) (ai.below q2 hb)
 clear h1 h2 p1 p2 q1 q2;have hA:=((Below.refl w.heap.size w).alloc (Nat.le_refl _) (.cells #[.slice Ad r.comes.length cap,.slice Ae r.goes.length cape] 46)).alloc (by simp) (.cells #[.slice Ad2 r.comes.length cap2,.slice Ae2 r.goes.length cape2] 46)
 go_enter Tryz.func26,Tryz.ntmps26
 go_wp2_with fail
 refine (e1 _ hA).mono ?_;rintro e w1 ⟨rfl,hb1⟩;have B1:=hA.trans (hb1.mono hA.size);have x0:w1.cell? ⟨w.heap.size,0,none⟩=some (.slice Ad r.comes.length cap):=cell_later hb1 (by go_simp);have y0:w1.cell? ⟨w.heap.size+1,0,none⟩=some (.slice Ad2 r.comes.length cap2):=cell_later hb1 (by go_simp);have x1:w1.cell? ⟨w.heap.size,1,none⟩=some (.slice Ae r.goes.length cape):=cell_later hb1 (by go_simp);have y1:w1.cell? ⟨w.heap.size+1,1,none⟩=some (.slice Ae2 r.goes.length cape2):=cell_later hb1 (by go_simp);clear e1 hA
 go_wp2_with fail
 refine (e2 _ B1).mono ?_;rintro e w2 ⟨rfl,hb2⟩;go_wp2;go_ret;exact ⟨rfl,B1.trans (hb2.mono B1.size)⟩
theorem Nw (r : Ch) (c0 c1 : Value) (bs : List Nat) (w : World) (h : dU w [c0, c1] r bs) (hn : AV r ≤ 1048576) :
    Calls Tryz.prog 24 #[.agg #[c0, c1]] w (vJ dU r w.heap.size w) := by
  obtain ⟨b1, b2, rfl, hp, hq⟩ := dZ h;obtain ⟨Ad, cap, Ae, cape, rfl, rfl⟩ := eG h;have hbk : kM r.comes + kM r.goes ≤ 1048576 := hn;have q1 := fun w' (hb : Below w.heap.size w w') => tV r.comes _ b1 w' (ai.below hp hb) (by omega)
  have q2 := fun w' (hb : Below w.heap.size w w') => tV r.goes _ b2 w' (ai.below hq hb) (by omega)
  clear h hp hq;have hA := (((Below.refl w.heap.size w).alloc (Nat.le_refl _) (.cells #[.slice Ad r.comes.length cap, .slice Ae r.goes.length cape] 43)).alloc (by simp) (.cells #[.slice none 0 0, .slice none 0 0] 46)).alloc (by simp; omega) (.cells #[.slice none 0 0, .slice none 0 0] 46)
  go_enter Tryz.func24, Tryz.ntmps24
  go_wp2_with fail
  refine (q1 _ hA).mono ?_;rintro e w1 ⟨hb1, v1, bs1, rfl, hR1, hN1⟩;obtain ⟨Ad3, cap3, rfl, _, _⟩ := af hR1;have B1 := hA.trans (hb1.mono hA.size);have x0 : w1.cell? ⟨w.heap.size, 0, none⟩ = some (.slice Ad r.comes.length cap) := cell_later hb1 (by go_simp);have x1 : w1.cell? ⟨w.heap.size, 1, none⟩ = some (.slice Ae r.goes.length cape) := cell_later hb1 (by go_simp);have k0 : w1.cell? ⟨w.heap.size + 1 + 1, 0, none⟩ = some (.slice none 0 0) := cell_later hb1 (by go_simp);have k1 : w1.cell? ⟨w.heap.size + 1 + 1, 1, none⟩ = some (.slice none 0 0) := cell_later hb1 (by go_simp);have l0 : w1.cell? ⟨w.heap.size + 1, 0, none⟩ = some (.slice none 0 0) := cell_later hb1 (by go_simp);have l1 : w1.cell? ⟨w.heap.size + 1, 1, none⟩ = some (.slice none 0 0) := cell_later hb1 (by go_simp);have f0 : w1.frozen? ⟨w.heap.size + 1 + 1, 0, none⟩ = false := (hb1.frozen (p := ⟨w.heap.size + 1 + 1, 0, none⟩) (by simp)).trans (by go_simp)
  have f1 : w1.frozen? ⟨w.heap.size + 1 + 1, 1, none⟩ = false := (hb1.frozen (p := ⟨w.heap.size + 1 + 1, 1, none⟩) (by simp)).trans (by go_simp);have g0 : w1.frozen? ⟨w.heap.size + 1, 0, none⟩ = false := (hb1.frozen (p := ⟨w.heap.size + 1, 0, none⟩) (by simp)).trans (by go_simp);have g1 : w1.frozen? ⟨w.heap.size + 1, 1, none⟩ = false := (hb1.frozen (p := ⟨w.heap.size + 1, 1, none⟩) (by simp)).trans (by go_simp);have hge1 : ∀ b ∈ bs1, w.heap.size + 1 + 1 < b := fun b hb => by have := (hN1.own b hb).1; simp at this; omega
  have hS1 : w.heap.size + 1 + 1 < w1.heap.size := lt_of_cell k0;have hB1 : Below w.heap.size w (w1.setCell ⟨w.heap.size + 1 + 1, 0, none⟩ (.slice Ad3 r.comes.length cap3)) := (Below.setCell B1 (by simp; omega) (.slice Ad3 r.comes.length cap3) (p := ⟨w.heap.size + 1 + 1, 0, none⟩));clear hA q1
  go_wp2_with fail
  refine (q2 _ hB1).mono ?_;rintro e w2 ⟨hb2, v2, bs2, rfl, hR2, hN2⟩;obtain ⟨Ae3, cape3, rfl, _, _⟩ := af hR2;have B2 := hB1.trans (hb2.mono hB1.size);have k0' : w2.cell? ⟨w.heap.size + 1 + 1, 0, none⟩ = some (.slice Ad3 r.comes.length cap3) := cell_later hb2 (by go_simp);have k1' : w2.cell? ⟨w.heap.size + 1 + 1, 1, none⟩ = some (.slice none 0 0) := cell_later hb2 (by go_simp);have l0' : w2.cell? ⟨w.heap.size + 1, 0, none⟩ = some (.slice none 0 0) := cell_later hb2 (by go_simp);have l1' : w2.cell? ⟨w.heap.size + 1, 1, none⟩ = some (.slice none 0 0) := cell_later hb2 (by go_simp);have f1' : w2.frozen? ⟨w.heap.size + 1 + 1, 1, none⟩ = false := (hb2.frozen (p := ⟨w.heap.size + 1 + 1, 1, none⟩) (by simp; omega)).trans (by go_simp);have g0' : w2.frozen? ⟨w.heap.size + 1, 0, none⟩ = false := (hb2.frozen (p := ⟨w.heap.size + 1, 0, none⟩) (by simp; omega)).trans (by go_simp)
  have g1' : w2.frozen? ⟨w.heap.size + 1, 1, none⟩ = false := (hb2.frozen (p := ⟨w.heap.size + 1, 1, none⟩) (by simp; omega)).trans (by go_simp);have hge2 : ∀ b ∈ bs2, w.heap.size + 1 + 1 < b := fun b hb => by have := (hN2.own b hb).1; simp at this; omega
  have hk1 : ∀ b ∈ bs1, (w1.setCell ⟨w.heap.size + 1 + 1, 0, none⟩ (.slice Ad3 r.comes.length cap3)).heap[b]? = w1.heap[b]? := fun b hb => by
    have := hge1 b hb;rw [Below.heap_setCell _ _ _ _ (by simp; omega)]
  have hR1' := ai.below (ai.keep hR1 hk1) hb2;have hN1' := (hN1.keep hk1).below hb2;have hlt1 : ∀ b ∈ bs1, b < w1.heap.size := fun b hb => hN1.lt hb
  clear x0 k0 l0 f0 g0 x1 k1 l1 f1 g1 q2 hk1 hR1;go_wp2
  have hk : ∀ b, w.heap.size + 1 + 1 < b → (((w2.setCell ⟨w.heap.size + 1 + 1, 1, none⟩ (.slice Ae3 r.goes.length cape3)).setCell ⟨w.heap.size + 1, 0, none⟩ (.slice Ad3 r.comes.length cap3)).setCell ⟨w.heap.size + 1, 1, none⟩ (.slice Ae3 r.goes.length cape3)).heap[b]? = w2.heap[b]? := fun b hb => by
    rw [Below.heap_setCell _ _ _ _ (by simp; omega), Below.heap_setCell _ _ _ _ (by simp; omega), Below.heap_setCell _ _ _ _ (by simp; omega)]
  exact bodyPost_ret (v := .agg #[.slice Ad3 r.comes.length cap3, .slice Ae3 r.goes.length cape3]) (by simp [results, Tryz.results24, go_sem, l0', l1']) rfl
    ⟨(((B2.setCell (by first | (simp; done) | (simp; omega)) _).setCell (by first | (simp; done) | (simp; omega)) _).setCell (by first | (simp; done) | (simp; omega)) _), _, bs1 ++ bs2, rfl, ⟨_, _, bs1, bs2, rfl, rfl, ai.keep hR1' (fun b hb => hk b (hge1 b hb)), ai.keep hR2 (fun b hb => hk b (hge2 b hb))⟩,
      (New.append ((hN1'.keep (fun b hb => hk b (hge1 b hb))).mono (B' := w.heap.size) (by simp; omega)) ((hN2.keep (fun b hb => hk b (hge2 b hb))).mono (B' := w1.heap.size) (by simp)) (by have := B1.size; omega) hlt1)⟩
end Go.Proofs.YtiidmgchadagbaaGreatDoor
