/- Of the proof of FnEvalNeeds: SortI, QryQ, BdP, fH. -/
import Derived.Test.YtkjinanbccloeaaGreatDoorM15
import Derived.Test.YtkjinanbccloeaaGreatDoorM17
set_option linter.unusedVariables false
namespace Go.Proofs.YtkjinanbccloeaaGreatDoor
section
open Go.RowKit Go.Sort D
theorem Gw (xs:List ByteArray) (v:Value) (L:List Value) (base:Nat) (w:World) (hC:aW 1 iW base 9 w v L xs []) (hl:xs.length≤16777216):
  Calls Tryz.prog 226 #[v] w fun e w'=>∃ (v2:Value) (ys:List ByteArray),e=.returned v2∧ys.map (·.data.toList)=Lib.compact (xs.map (·.data.toList))∧aW 1 iW base 9 w' v2 (ys.map Value.string) ys []∧w.grownBy w' v.ownBlock:=by
 obtain ⟨rfl,hs,_⟩:=EN hC;have I:=hC.own
 rcases I.2 with ⟨rfl,hx⟩ | ⟨g,cap,a4,rfl,a1,hb,h1,h2,h3,h4⟩
 ·have a2:xs = []:=by simpa using hx
  subst a2;refine (Tryz.slices_Compact_string_empty none 0 w).mono ?_;rintro e w' ⟨rfl,rfl⟩;exact ⟨_,[],rfl,by simp [Lib.compact,Lib.compactUpTo],aW.nil _,World.grownBy.refl _ _⟩
 ·have J:(xs.map (·.data.toList)).length=xs.length:=by simp
  have hH:Holds encStr w g 0 (xs.map (·.data.toList)).toArray:=holds_of_block hb (by rw [J,Lib.map_encStr]; simpa using h4);have c:=Tryz.slices_Compact_string g 0 cap (xs.map (·.data.toList)) w hH (by omega) (by omega);rw [J] at c;refine c.mono ?_;rintro e w' ⟨rfl,q,rfl⟩;obtain ⟨zs,U⟩:∃ zs,Lib.compact (xs.map (·.data.toList))=zs:=⟨_,rfl⟩;have a3:zs.length≤xs.length:=by rw [← U,← J]; exact LW _
  rw [U];have y:=Lib.ownsRow_putRow (enc:=encStr) (zs:=xs.map (·.data.toList)) (ys:=zs ++ List.replicate (xs.length - zs.length) []) (q:=q) (k:=zs.length) (by rw [Lib.map_encStr]; exact I) (by simp; omega) a3;rw [List.take_append_of_le_length ν,ϕ ν] at y;have a0:(CJ zs).length=zs.length:=by unfold CJ; rw [List.length_map]
  rw [← Ji,← a0] at y;refine ⟨_,CJ zs,rfl,CO _,?_,?_⟩
  ·rw [← a0]
   exact vW y (EO fun b hb=>CP hs b ((yP _ _).1 (by rw [U]; exact hb)))
  ·have:=grownBy_sorted (w:=w) (g:=g) (n:=q) (os:=#[]) (zs ++ List.replicate (xs.length - zs.length) []).toArray
   rw [grow_empty] at this;exact this
end
section
open Go.RowKit D
theorem D.Rt {w w':World} {base e size n:Nat} {v:Value} {L:List Value} (h:w.ownsRow base e size v n L) (I:∀ b,v.ownBlock=some b→w'.heap[b]? = w.heap[b]?):w'.ownsRow base e size v n L:=by
 refine ⟨h.1,?_⟩
 rcases h.2 with J | ⟨g,cap,y,rfl,U,h4,h5⟩
 ·exact .inl J
 ·exact .inr ⟨g,cap,y,rfl,U,(I g (by simp [Value.ownBlock])).trans h4,h5⟩
theorem D.aZ {w:World} {base e size n b:Nat} {v:Value} {L:List Value} (h:w.ownsRow base e size v n L) (hb:v.ownBlock=some b):base≤b∧b < w.heap.size:=by
 rcases h.2 with ⟨rfl,_⟩ | ⟨g,cap,y,rfl,I,J,_⟩
 ·simp [Value.ownBlock] at hb
 ·simp [Value.ownBlock] at hb
  subst hb;exact ⟨I,ψ J⟩
theorem D.aW.lQ {α:Type} {n:Nat} {R:Rel α} {base e:Nat} {w w':World} {v:Value} {L:List Value} {xs:List α} {bs:List Nat} (g:Good R) (h:aW n R base e w v L xs bs)
  (h1:∀ b,v.ownBlock=some b→w'.heap[b]? = w.heap[b]?) (y:∀ b ∈ bs,w'.heap[b]? = w.heap[b]?):aW n R base e w' v L xs bs:=
 ⟨Rt h.own h1,h.row.keep g y,h.far⟩
theorem D.OV (ps:List Pt) (k:Nat) (h:k < ps.length):fQ (ps.take (k+1))=fQ (ps.take k) ++ (if ps[k].no then [] else [ps[k].atom]):=by
 unfold fQ;rw [ρ h,List.filter_append,List.map_append]
 cases hn:ps[k].no <;> simp [hn]
theorem D.OW (ps:List Pt) (k:Nat) (h:k < ps.length):dH (ps.take (k+1))=dH (ps.take k) ++ (if ps[k].no then [ps[k].atom] else []):=by
 unfold dH;rw [ρ h,List.filter_append,List.map_append]
 cases hn:ps[k].no <;> simp [hn]
structure D.sZ (vars:List ByteArray) (w:World) (hz hb B:Nat) (vv:Value) (b3:List Nat) (v1:Value) (L1:List Value) (xs1:List A) (bs1:List Nat) (v2:Value) (L2:List Value) (xs2:List A) (bs2:List Nat) (wr:World):Prop where
 r0:wr.heap[hz]? = some (.cells #[.slice none 0 0,.slice none 0 0,.slice none 0 0] 164 (0,0))
 r1:wr.heap[hb]? = some (.cells #[v1,v2,vv] 164 (0,0))
 h0:w.heap.size≤hz
 h1:hz < hb
 hB:hb < B
 c1:aW 2 (D6 vars) B 168 wr v1 L1 xs1 bs1
 c2:aW 2 (D6 vars) B 168 wr v2 L2 xs2 bs2
 k1:∀ b ∈ bs1,B≤b
 k2:∀ b ∈ bs2,B≤b
 f12:∀ b,v1.ownBlock=some b→v2.ownBlock ≠ some b∧b ∉ bs2
 f21:∀ b,v2.ownBlock=some b→b ∉ bs1
 vs:fU wr [vv] vars b3
 kv:∀ b ∈ b3,w.heap.size≤b∧b < hb∧b ≠ hz
 bel:Below w.heap.size w wr
 oD:B≤wr.heap.size
section
variable {vars:List ByteArray} {w:World} {hz hb B:Nat} {vv:Value} {b3:List Nat} {v1:Value} {L1:List Value} {xs1:List A} {bs1:List Nat} {v2:Value} {L2:List Value} {xs2:List A} {bs2:List Nat} {wr:World}
theorem D.sZ.later {w' : World} (h : sZ vars w hz hb B vv b3 v1 L1 xs1 bs1 v2 L2 xs2 bs2 wr) (y : Below wr.heap.size wr w') : sZ vars w hz hb B vv b3 v1 L1 xs1 bs1 v2 L2 xs2 bs2 w' :=
  ⟨(y.block _ (lt_of_block h.r0)).trans h.r0, (y.block _ (lt_of_block h.r1)).trans h.r1, h.h0, h.h1, h.hB, h.c1.below (gQ _) y, h.c2.below (gQ _) y, h.k1, h.k2, h.f12, h.f21, bH.below h.vs y, h.kv,
    h.bel.trans (y.mono h.bel.size), Nat.le_trans h.oD y.size⟩
theorem D.sZ.lit {a:A} {y:Value} {b9:List Nat} {w2:World} {v:Value} {L:List Value} {n:Nat} (U:Below wr.heap.size wr w2) (hB:B≤wr.heap.size) (I:wr.ownsRow B 168 2 v n L) (a0:a.name.size≤maxLen) (hp:jK vars w2 [y] a.args b9) (h9:Value.oneCell' y=true):
  (w2.alloc (.cells #[.string a.name,y] 168)).ownsRow B 168 2 v n L∧
   Lies (w2.alloc (.cells #[.string a.name,y] 168)) (some ⟨w2.heap.size,0,none⟩) [.string a.name,y]∧(∀ u ∈ [.string a.name,y],Value.oneCell' u=true)∧B≤(w2.alloc (.cells #[.string a.name,y] 168)).heap.size:=by
 have hA:Below w2.heap.size w2 (w2.alloc (.cells #[.string a.name,y] 168)):=ζ;have hb:=U.trans (hA.mono U.size);refine ⟨own_below I hb,by have:=aP (ω w2 (.cells #[.string a.name,y] 168)); simpa using this,fun u J=>?_,τ hB hb.size⟩
 rcases List.mem_cons.1 J with rfl | J
 ·rfl
 ·rw [List.mem_singleton.1 J]; exact h9
theorem D.sZ.app1 {a:A} {U:Value} {b9:List Nat} {w2 w5:World} {A5:Option Addr} {c5:Nat} (h:sZ vars w hz hb B vv b3 v1 L1 xs1 bs1 v2 L2 xs2 bs2 wr) (hk:Below wr.heap.size wr w2) (a7:a.name.size≤maxLen) (hp:jK vars w2 [U] a.args b9) (hn:New wr.heap.size w2 b9) (h9:Value.oneCell' U=true)
  (a5:w5.ownsRow B 168 2 (.slice A5 (xs1.length+1) c5) (xs1.length+1) (L1 ++ [.string a.name,U])) (hg:(w2.alloc (.cells #[.string a.name,U] 168)).grownBy w5 v1.ownBlock)
  (a2:(Value.slice A5 (xs1.length+1) c5).ownBlock=v1.ownBlock∨(Value.slice A5 (xs1.length+1) c5).ownBlock=some (w2.alloc (.cells #[.string a.name,U] 168)).heap.size):
  w5.cell? ⟨hb,0,none⟩=some v1∧w5.cell? ⟨hb,1,none⟩=some v2∧w5.cell? ⟨hb,2,none⟩=some vv∧w5.frozen? ⟨hb,0,none⟩=false∧
   sZ vars w hz hb B vv b3 (.slice A5 (xs1.length+1) c5) (L1 ++ [.string a.name,U]) (xs1 ++ [a]) (bs1 ++ b9) v2 L2 xs2 bs2 (w5.setCell ⟨hb,0,none⟩ (.slice A5 (xs1.length+1) c5)):=by
 have hA:Below w2.heap.size w2 (w2.alloc (.cells #[.string a.name,U] 168)):=ζ;have a8:=hk.trans (hA.mono hk.size);have h2:=h.later a8;have ag:=h2.oD;have am:=hk.size;have a9:=h.hB;have aa:=h.h1;have ab:=h.h0;have ao:=h.oD;have g9:∀ b ∈ b9,wr.heap.size≤b∧b < w2.heap.size:=fun b hb=>⟨(hn.own b hb).1,hn.lt hb⟩
 have a0:∀ b,b < w2.heap.size+1→v1.ownBlock ≠ some b→w5.heap[b]? = (w2.alloc (.cells #[.string a.name,U] 168)).heap[b]?:=fun b hb a4=>hg.block b (by simpa using hb) (fun e=>a4 e.symm)
 have o1:∀ b,v1.ownBlock=some b→B≤b∧b < wr.heap.size:=fun b hb=>aZ h.c1.own hb
 have o2:∀ b,v2.ownBlock=some b→B≤b∧b < wr.heap.size:=fun b hb=>aZ h.c2.own hb
 have l1:∀ b ∈ bs1,b < wr.heap.size:=fun b hb=>h.c1.row.lt (gQ _) b hb
 have l2:∀ b ∈ bs2,b < wr.heap.size:=fun b hb=>h.c2.row.lt (gQ _) b hb
 have n1:v1.ownBlock ≠ some hb:=fun e=>by have:=(o1 _ e).1; omega
 have n0:v1.ownBlock ≠ some hz:=fun e=>by have:=(o1 _ e).1; omega
 have a1:=(a0 hb (by omega) n1).trans h2.r1;have ac:=(a0 hz (by omega) n0).trans h2.r0;have ae:D6 vars (w2.alloc (.cells #[.string a.name,U] 168)) [.string a.name,U] a b9:=⟨U,rfl,a7,(bY _).below hp hA⟩
 have af:aW 2 (D6 vars) B 168 w5 (.slice A5 (xs1.length+1) c5) (L1 ++ [.string a.name,U]) (xs1 ++ [a]) (bs1 ++ b9):=
  h2.c1.app (gQ _) (aQ.cu (EW _) ae) (fun b hb e=>by have:=(o1 _ e).2; have:=(g9 b hb).1; omega) a5 hg a2
 have J:∀ b,b ≠ hb→(w5.setCell ⟨hb,0,none⟩ (.slice A5 (xs1.length+1) c5)).heap[b]? = w5.heap[b]?:=fun b a4=>π _ _ _ _ a4
 have a3:∀ b,(Value.slice A5 (xs1.length+1) c5).ownBlock=some b→v1.ownBlock=some b∨b=w2.heap.size+1:=fun b e=>by
  rcases a2 with I | I
  ·left; rw [← I]; exact e
  ·right; rw [I] at e; simp at e; omega
 refine ⟨ai a1,ai a1,ai a1,ax a1,⟨(J _ (by omega)).trans ac,?_,ab,aa,a9,?_,?_,?_,h.k2,?_,?_,?_,h.kv,?_,?_⟩⟩
 ·have:=bP (o:=0) (u:=.slice A5 (xs1.length+1) c5) a1
  simpa using this
 ·exact af.lQ (gQ _) (fun b e=>J b (fun e2=>by
   subst e2
   rcases a3 _ e with I | I
   ·exact n1 I
   ·omega)) (fun b y=>J b (fun e2=>by
   subst e2
   rcases μ.1 y with I | I
   ·have:=h.k1 _ I; omega
   ·have:=(g9 _ I).1; omega))
 ·refine (h2.c2.lQ (gQ _) (fun b e=>?_) (fun b y=>?_))
  ·have:=o2 _ e
   rw [J b (by omega)];exact a0 b (by omega) (fun e2=>(h.f12 b e2).1 e)
  ·have:=l2 _ y
   have:=h.k2 _ y;rw [J b (by omega)];exact a0 b (by omega) (fun e2=>(h.f12 b e2).2 y)
 ·intro b y
  rcases μ.1 y with I | I
  ·exact h.k1 _ I
  ·have:=(g9 _ I).1; omega
 ·intro b e
  rcases a3 _ e with I | I
  ·exact h.f12 b I
  ·exact ⟨fun e2=>by have:=(o2 _ e2).2; omega,fun e2=>by have:=l2 _ e2; omega⟩
 ·intro b e y
  rcases μ.1 y with I | I
  ·exact h.f21 b e I
  ·have:=(o2 _ e).2; have:=(g9 _ I).1; omega
 ·refine bH.keep h2.vs fun b y=>?_
  have:=h.kv b y;rw [J b (by omega)];exact a0 b (by omega) (fun e=>by have:=(o1 _ e).1; omega)
 ·have a6:Below w.heap.size w w5:=h2.bel.grown hg h2.bel.size fun k e=>by have:=(o1 _ e).1; omega
  exact a6.setCell (by show w.heap.size≤hb; omega) _
 ·have:=hg.size; simp [World.setCell]; simp at this; omega
theorem D.sZ.Wy {a:A} {U:Value} {b9:List Nat} {w2 w5:World} {A5:Option Addr} {c5:Nat} (h:sZ vars w hz hb B vv b3 v1 L1 xs1 bs1 v2 L2 xs2 bs2 wr) (hk:Below wr.heap.size wr w2) (a7:a.name.size≤maxLen) (hp:jK vars w2 [U] a.args b9) (hn:New wr.heap.size w2 b9) (h9:Value.oneCell' U=true)
  (a5:w5.ownsRow B 168 2 (.slice A5 (xs2.length+1) c5) (xs2.length+1) (L2 ++ [.string a.name,U])) (hg:(w2.alloc (.cells #[.string a.name,U] 168)).grownBy w5 v2.ownBlock)
  (a3:(Value.slice A5 (xs2.length+1) c5).ownBlock=v2.ownBlock∨(Value.slice A5 (xs2.length+1) c5).ownBlock=some (w2.alloc (.cells #[.string a.name,U] 168)).heap.size):
  w5.cell? ⟨hb,0,none⟩=some v1∧w5.cell? ⟨hb,1,none⟩=some v2∧w5.cell? ⟨hb,2,none⟩=some vv∧w5.frozen? ⟨hb,1,none⟩=false∧
   sZ vars w hz hb B vv b3 v1 L1 xs1 bs1 (.slice A5 (xs2.length+1) c5) (L2 ++ [.string a.name,U]) (xs2 ++ [a]) (bs2 ++ b9) (w5.setCell ⟨hb,1,none⟩ (.slice A5 (xs2.length+1) c5)):=by
 have hA:Below w2.heap.size w2 (w2.alloc (.cells #[.string a.name,U] 168)):=ζ;have a8:=hk.trans (hA.mono hk.size);have h2:=h.later a8;have ag:=h2.oD;have am:=hk.size;have a9:=h.hB;have aa:=h.h1;have ab:=h.h0;have ao:=h.oD;have g9:∀ b ∈ b9,wr.heap.size≤b∧b < w2.heap.size:=fun b hb=>⟨(hn.own b hb).1,hn.lt hb⟩
 have a0:∀ b,b < w2.heap.size+1→v2.ownBlock ≠ some b→w5.heap[b]? = (w2.alloc (.cells #[.string a.name,U] 168)).heap[b]?:=fun b hb a4=>hg.block b (by simpa using hb) (fun e=>a4 e.symm)
 have o1:∀ b,v1.ownBlock=some b→B≤b∧b < wr.heap.size:=fun b hb=>aZ h.c1.own hb
 have o2:∀ b,v2.ownBlock=some b→B≤b∧b < wr.heap.size:=fun b hb=>aZ h.c2.own hb
 have l1:∀ b ∈ bs1,b < wr.heap.size:=fun b hb=>h.c1.row.lt (gQ _) b hb
 have l2:∀ b ∈ bs2,b < wr.heap.size:=fun b hb=>h.c2.row.lt (gQ _) b hb
 have n1:v2.ownBlock ≠ some hb:=fun e=>by have:=(o2 _ e).1; omega
 have n0:v2.ownBlock ≠ some hz:=fun e=>by have:=(o2 _ e).1; omega
 have a1:=(a0 hb (by omega) n1).trans h2.r1;have ac:=(a0 hz (by omega) n0).trans h2.r0;have ae:D6 vars (w2.alloc (.cells #[.string a.name,U] 168)) [.string a.name,U] a b9:=⟨U,rfl,a7,(bY _).below hp hA⟩
 have af:aW 2 (D6 vars) B 168 w5 (.slice A5 (xs2.length+1) c5) (L2 ++ [.string a.name,U]) (xs2 ++ [a]) (bs2 ++ b9):=
  h2.c2.app (gQ _) (aQ.cu (EW _) ae) (fun b hb e=>by have:=(o2 _ e).2; have:=(g9 b hb).1; omega) a5 hg a3
 have J:∀ b,b ≠ hb→(w5.setCell ⟨hb,1,none⟩ (.slice A5 (xs2.length+1) c5)).heap[b]? = w5.heap[b]?:=fun b a4=>π _ _ _ _ a4
 have a2:∀ b,(Value.slice A5 (xs2.length+1) c5).ownBlock=some b→v2.ownBlock=some b∨b=w2.heap.size+1:=fun b e=>by
  rcases a3 with I | I
  ·left; rw [← I]; exact e
  ·right; rw [I] at e; simp at e; omega
 refine ⟨ai a1,ai a1,ai a1,ax a1,⟨(J _ (by omega)).trans ac,?_,ab,aa,a9,?_,?_,h.k1,?_,?_,?_,?_,h.kv,?_,?_⟩⟩
 ·have:=bP (o:=1) (u:=.slice A5 (xs2.length+1) c5) a1
  simpa using this
 ·refine (h2.c1.lQ (gQ _) (fun b e=>?_) (fun b y=>?_))
  ·have:=o1 _ e
   rw [J b (by omega)];exact a0 b (by omega) (fun e2=>(h.f12 b e).1 e2)
  ·have:=l1 _ y
   have:=h.k1 _ y;rw [J b (by omega)];exact a0 b (by omega) (fun e2=>h.f21 b e2 y)
 ·exact af.lQ (gQ _) (fun b e=>J b (fun e2=>by
   subst e2
   rcases a2 _ e with I | I
   ·exact n1 I
   ·omega)) (fun b y=>J b (fun e2=>by
   subst e2
   rcases μ.1 y with I | I
   ·have:=h.k2 _ I; omega
   ·have:=(g9 _ I).1; omega))
 ·intro b y
  rcases μ.1 y with I | I
  ·exact h.k2 _ I
  ·have:=(g9 _ I).1; omega
 ·intro b e
  refine ⟨fun e2=>?_,fun y=>?_⟩
  ·rcases a2 _ e2 with I | I
   ·exact (h.f12 b e).1 I
   ·have:=(o1 _ e).2; omega
  ·rcases μ.1 y with I | I
   ·exact (h.f12 b e).2 I
   ·have:=(o1 _ e).2; have:=(g9 _ I).1; omega
 ·intro b e y
  rcases a2 _ e with I | I
  ·exact h.f21 b I y
  ·have:=l1 _ y; omega
 ·refine bH.keep h2.vs fun b y=>?_
  have:=h.kv b y;rw [J b (by omega)];exact a0 b (by omega) (fun e=>by have:=(o2 _ e).1; omega)
 ·have a6:Below w.heap.size w w5:=h2.bel.grown hg h2.bel.size fun k e=>by have:=(o2 _ e).1; omega
  exact a6.setCell (by show w.heap.size≤hb; omega) _
 ·have:=hg.size; simp [World.setCell]; simp at this; omega
end
def D.Hf (vars:List ByteArray) (b:Bd) (i:Nat):ByteArray:=if h:i < vars.length then iO b vars[i] else ⟨#[]⟩
structure D.gG (vars:List ByteArray) (b:Bd) (blk o:Nat) (w:World):Prop where
 wd:∀ i,i < 12→w.cell? ⟨blk,o+i,none⟩=some (.string (Hf vars b i))
 bd:∀ i,i < 12→∃ z:Int,w.cell? ⟨blk,o+12+i,none⟩=some (.int .i64 z)∧∀ h:i < b.length,z=(vars.idxOf b[i].1:Nat)
 ct:w.cell? ⟨blk,o+24,none⟩=some (.int .i64 b.length)
 fz:∀ i,i < 25→w.frozen? ⟨blk,o+i,none⟩=false
structure D.jm (vars:List ByteArray) (b:Bd):Prop where
 inn:∀ p ∈ b,p.1 ∈ vars
 once:(b.map (·.1)).Nodup
 full:∀ p ∈ b,p.2 ≠ ⟨#[]⟩
 size:∀ p ∈ b,p.2.size≤maxLen
structure D.jo (vars:List ByteArray):Prop where
 few:vars.length≤12
 once:vars.Nodup
theorem D.xX {b:Bd} {n:ByteArray}:eY b n=none ↔ ∀ p ∈ b,p.1 ≠ n:=by
 induction b with
 | nil=>simp [eY]
 | cons p b ih=>
  rw [eY]
  split
  ·rename_i h; simp [h]
  ·rename_i h; simp [h,ih]
theorem D.wH {b:Bd} {n v:ByteArray} (h:eY b n=some v):(n,v) ∈ b:=by
 induction b with
 | nil=>simp [eY] at h
 | cons p b ih=>
  rw [eY] at h
  split at h
  ·rename_i e
   cases h;subst e;exact Γ
  ·exact Δ _ (ih h)
theorem D.Di {b:Bd} {n v:ByteArray} (h:eY b n=none):eY (b ++ [(n,v)]) n=some v:=by rw [lJ,h]; simp [eY]
theorem D.zY {b:Bd} {n m v:ByteArray} (h:n ≠ m):eY (b ++ [(n,v)]) m=eY b m:=by
 rw [lJ];simp [eY,h]
theorem D.jm.oN {vars:List ByteArray} {b:Bd} (h:jm vars b) (n:ByteArray):iO b n=⟨#[]⟩ ↔ eY b n=none:=by
 unfold iO
 cases hg:eY b n with
 | none=>simp
 | some v=>simp [h.full _ (wH hg)]
theorem D.jm.len {vars:List ByteArray} {b:Bd} (h:jm vars b):b.length≤vars.length:=by
 have:(b.map (·.1)).length≤vars.length:=oI h.once fun x y=>by
  obtain ⟨p,I,rfl⟩:=List.mem_map.1 y;exact h.inn p I
 simpa using this
theorem D.jm.lt {vars:List ByteArray} {b:Bd} (h:jm vars b) {n:ByteArray} (U:n ∈ vars) (hg:eY b n=none):b.length < vars.length:=by
 have y:(n :: b.map (·.1)).Nodup:=List.nodup_cons.2 ⟨fun hm=>by
  obtain ⟨p,I,e⟩:=List.mem_map.1 hm
  exact xX.1 hg p I e,h.once⟩
 have:(n :: b.map (·.1)).length≤vars.length:=oI y fun x J=>by
  rcases List.mem_cons.1 J with rfl | J
  ·exact U
  ·obtain ⟨p,I,rfl⟩:=List.mem_map.1 J
   exact h.inn p I
 simp at this;omega
theorem D.jm.snoc {vars:List ByteArray} {b:Bd} (h:jm vars b) {n v:ByteArray} (U:n ∈ vars) (hg:eY b n=none) (hv:v ≠ ⟨#[]⟩) (hs:v.size≤maxLen):jm vars (b ++ [(n,v)]):=by
 refine ⟨fun p I=>?_,?_,fun p I=>?_,fun p I=>?_⟩
 ·rcases μ.1 I with I | I
  ·exact h.inn p I
  ·rw [List.mem_singleton.1 I]; exact U
 ·rw [List.map_append]
  refine List.nodup_append.2 ⟨h.once,by simp,fun x hx y J e=>?_⟩;simp at J;obtain ⟨p,I,rfl⟩:=List.mem_map.1 hx;exact xX.1 hg p I (e.trans J)
 ·rcases μ.1 I with I | I
  ·exact h.full p I
  ·rw [List.mem_singleton.1 I]; exact hv
 ·rcases μ.1 I with I | I
  ·exact h.size p I
  ·rw [List.mem_singleton.1 I]; exact hs
theorem D.jm.init {vars:List ByteArray} {b:Bd} {p:ByteArray × ByteArray} (h:jm vars (b ++ [p])):jm vars b∧p.1 ∈ vars∧eY b p.1=none:=by
 have y:=h.once;rw [List.map_append] at y;obtain ⟨I,_,J⟩:=List.nodup_append.1 y;exact ⟨⟨fun q hq=>h.inn q (Ξ _ hq),I,fun q hq=>h.full q (Ξ _ hq),fun q hq=>h.size q (Ξ _ hq)⟩,h.inn p (by simp),xX.2 fun q hq e=>J q.1 (List.mem_map.2 ⟨q,hq,rfl⟩) p.1 (by simp) e⟩
theorem D.jm.nil (vars:List ByteArray):jm vars []:=⟨fun p h=>by simp at h,by simp,fun p h=>by simp at h,fun p h=>by simp at h⟩
theorem D.jm.OX {vars:List ByteArray} {b:Bd} (h:jm vars b) {t:T} (y:t.var=false→t.name.size≤maxLen):(dm b t).name.size≤maxLen:=by
 unfold dm;cases hv:t.var
 ·simpa using y hv
 ·simp only [if_true,iO]
  cases hg:eY b t.name with
  | none=>decide
  | some v=>exact h.size _ (wH hg)
theorem D.Ju {vars:List ByteArray} (hv:jo vars) {b:Bd} {n v:ByteArray} (J:n ∈ vars) (U:eY b n=none) (i:Nat):
  Hf vars (b ++ [(n,v)]) i=if i=vars.idxOf n then v else Hf vars b i:=by
 have hl:=List.idxOf_lt_length_of_mem J;unfold Hf;by_cases y:i < vars.length
 ·rw [dif_pos y,dif_pos y]
  split
  ·rename_i e
   subst e;have:vars[vars.idxOf n]=n:=List.getElem_idxOf y;unfold iO;rw [this,Di U]; rfl
  ·rename_i e
   have I:n ≠ vars[i]:=fun e2=>e (by rw [e2]; exact (List.Nodup.idxOf_getElem hv.once i y).symm)
   unfold iO;rw [zY I]
 ·rw [dif_neg y,dif_neg y]
  split
  ·omega
  ·rfl
section
variable {vars:List ByteArray} {b:Bd} {blk o:Nat} {w:World}
theorem D.gG.keep {w':World} (h:gG vars b blk o w) (e:w'.heap[blk]? = w.heap[blk]?):gG vars b blk o w':=
 ⟨fun i y=>(World.cell?_of_block e).trans (h.wd i y),fun i y=>by obtain ⟨z,h1,I⟩:=h.bd i y; exact ⟨z,(World.cell?_of_block e).trans h1,I⟩,(World.cell?_of_block e).trans h.ct,fun i y=>(World.frozen?_of_block e).trans (h.fz i y)⟩
theorem D.gG.lt (h:gG vars b blk o w):blk < w.heap.size:=lt_of_cell h.ct
theorem D.jD (w:World) (b o:Nat) (v:Value) {u:Value} (h:w.cell? ⟨b,o,none⟩=some u) (q:Nat):(w.setCell ⟨b,o,none⟩ v).cell? ⟨b,q,none⟩=if q=o then some v else w.cell? ⟨b,q,none⟩:=by
 split
 ·rename_i e; subst e; exact World.cell?_setCell_same _ _ _ h
 ·rename_i e; exact World.cell?_setCell_other _ _ _ _ (fun y=>e (by injection y with _ e3 _; exact e3.symm))
theorem D.gG.bind (hv:jo vars) (h:gG vars b blk o w) (hb:jm vars b) {n v:ByteArray} (U:n ∈ vars) (hg:eY b n=none):
  gG vars (b ++ [(n,v)]) blk o (((w.setCell ⟨blk,o+vars.idxOf n,none⟩ (.string v)).setCell ⟨blk,o+12+b.length,none⟩ (.int .i64 (vars.idxOf n:Nat))).setCell ⟨blk,o+24,none⟩ (.int .i64 ((b ++ [(n,v)]).length:Nat))):=by
 have hl:=hb.lt U hg;have hf:=hv.few;have hi:=List.idxOf_lt_length_of_mem U;obtain ⟨z0,a0,_⟩:=h.bd b.length (by omega);have c1:=D.jD w blk (o+vars.idxOf n) (.string v) (h.wd _ (by omega));have c2:=D.jD (w.setCell ⟨blk,o+vars.idxOf n,none⟩ (.string v)) blk (o+12+b.length) (.int .i64 (vars.idxOf n:Nat)) (u:=.int .i64 z0) (by rw [c1,if_neg (by omega)]; exact a0)
 have c3:=D.jD ((w.setCell ⟨blk,o+vars.idxOf n,none⟩ (.string v)).setCell ⟨blk,o+12+b.length,none⟩ (.int .i64 (vars.idxOf n:Nat))) blk (o+24) (.int .i64 ((b ++ [(n,v)]).length:Nat)) (u:=.int .i64 b.length)
  (by rw [c2,if_neg (by omega),c1,if_neg (by omega)]; exact h.ct)
 refine ⟨fun i y=>?_,fun i y=>?_,?_,fun i y=>?_⟩
 ·rw [c3,if_neg (by omega),c2,if_neg (by omega),c1,Ju hv U hg]
  by_cases e:i=vars.idxOf n
  ·rw [if_pos (by omega),if_pos e]
  ·rw [if_neg (by omega),if_neg e]; exact h.wd i y
 ·rw [c3,if_neg (by omega),c2]
  by_cases e:i=b.length
  ·subst e
   rw [if_pos rfl];exact ⟨_,rfl,fun J=>by simp⟩
  ·rw [if_neg (by omega),c1,if_neg (by omega)]
   obtain ⟨z,h1,h2⟩:=h.bd i y;refine ⟨z,h1,fun J=>?_⟩;have I:i < b.length:=by simp at J; omega
   rw [h2 I,List.getElem_append_left I]
 ·rw [c3,if_pos rfl]
 ·simp only [World.frozen?_setCell]
  exact h.fz i y
theorem D.gG.unbind (hv:jo vars) {n v:ByteArray} (h:gG vars (b ++ [(n,v)]) blk o w) (hb:jm vars (b ++ [(n,v)])):
  gG vars b blk o ((w.setCell ⟨blk,o+24,none⟩ (.int .i64 (b.length:Nat))).setCell ⟨blk,o+vars.idxOf n,none⟩ (.string ⟨#[]⟩)):=by
 obtain ⟨I,J,U⟩:=hb.init;have hf:=hv.few;have hi:=List.idxOf_lt_length_of_mem J;dsimp only at J U hi;have c1:=D.jD w blk (o+24) (.int .i64 (b.length:Nat)) h.ct;have c2:=D.jD (w.setCell ⟨blk,o+24,none⟩ (.int .i64 (b.length:Nat))) blk (o+vars.idxOf n) (.string ⟨#[]⟩) (by rw [c1,if_neg (by omega)]; exact h.wd _ (by omega));refine ⟨fun i y=>?_,fun i y=>?_,?_,fun i y=>?_⟩
 ·rw [c2]
  by_cases e:i=vars.idxOf n
  ·rw [if_pos (by omega)]
   subst e;unfold Hf;rw [dif_pos hi];have:vars[vars.idxOf n]=n:=List.getElem_idxOf hi;rw [this,(I.oN n).2 U]
  ·rw [if_neg (by omega),c1,if_neg (by omega),h.wd i y,Ju hv J U,if_neg e]
 ·rw [c2,if_neg (by omega),c1,if_neg (by omega)]
  obtain ⟨z,h1,h2⟩:=h.bd i y;refine ⟨z,h1,fun a0=>?_⟩;rw [h2 (by simp; omega),List.getElem_append_left a0]
 ·rw [c2,if_neg (by omega),c1,if_pos rfl]
 ·simp only [World.frozen?_setCell]
  exact h.fz i y
end
structure D.cO (blk o:Nat) (w w':World):Prop where
 grow:w.grownBy w' (some blk)
 rest:∀ q,(q < o∨o+25≤q)→w'.cell? ⟨blk,q,none⟩=w.cell? ⟨blk,q,none⟩
section
variable {blk o:Nat} {w w' w2:World}
theorem D.cO.refl (blk o:Nat) (w:World):cO blk o w w:=⟨⟨rfl,rfl,rfl,ν,fun _ _ _=>rfl⟩,fun _ _=>rfl⟩
theorem D.cO.trans (h:cO blk o w w') (k:cO blk o w' w2):cO blk o w w2:=
 ⟨⟨k.grow.os.trans h.grow.os,k.grow.tape.trans h.grow.tape,k.grow.output.trans h.grow.output,τ h.grow.size k.grow.size,fun i I y=>(k.grow.block i (κ I h.grow.size) y).trans (h.grow.block i I y)⟩,
  fun q hq=>(k.rest q hq).trans (h.rest q hq)⟩
theorem D.cO.of_below (h:Below w.heap.size w w') (hb:blk < w.heap.size):cO blk o w w':=
 ⟨⟨h.os,h.tape,h.output,h.size,fun i y _=>h.block i y⟩,fun q _=>World.cell?_of_block (h.block _ hb)⟩
theorem D.cO.put (w:World) (i:Nat) (I:i < 25) (v:Value):cO blk o w (w.setCell ⟨blk,o+i,none⟩ v):=
 ⟨⟨rfl,rfl,rfl,by simp [World.setCell],fun k _ y=>π _ _ _ _ (fun e=>y (by rw [e]))⟩,
  fun q hq=>World.cell?_setCell_other _ _ _ _ (fun e=>by injection e with _ e2 _; omega)⟩
theorem D.cO.keep {α:Type} {R:Rel α} (g:Good R) {cs:List Value} {x:α} {bs:List Nat} (h:cO blk o w w') (hr:R w cs x bs) (hb:blk ∉ bs):R w' cs x bs:=
 g.keep hr fun b y=>h.grow.block b (g.lt hr b y) (fun e=>hb (by injection e with e; rw [← e]; exact y))
theorem D.cO.block (h:cO blk o w w') {b:Nat} (hb:b < w.heap.size) (y:b ≠ blk):w'.heap[b]? = w.heap[b]?:=h.grow.block b hb (fun e=>y (by injection e))
end
theorem D.Jv {vars:List ByteArray} {b:Bd} (hb:jm vars b) (t f:T) (I fs:List T) (hc:t.var=false→t.name ≠ ⟨#[]⟩):
  bV (t :: I) (f :: fs) b=if (dm b t).name=⟨#[]⟩ then bV I fs (b ++ [(t.name,f.name)]) else if (dm b t).name=f.name then bV I fs b else (b,false):=by
 obtain ⟨U,y⟩:=t;rw [bV];unfold dm;cases U
 ·simp only [Bool.false_eq_true,if_false]
  rw [if_neg (hc rfl)]
 ·simp only [if_true]
  cases hg:eY b y with
  | none=>
   have:iO b y=⟨#[]⟩:=(hb.oN y).2 hg;rw [if_pos this]
  | some v=>
   have e:iO b y=v:=by unfold iO; rw [hg]; rfl
   have J:v ≠ ⟨#[]⟩:=hb.full _ (wH hg);simp only [e];rw [if_neg J]
theorem D.MG {vars:List ByteArray} {b:Bd} (hb:jm vars b) {t:T} (hc:t.var=false→t.name ≠ ⟨#[]⟩) (h:(dm b t).name=⟨#[]⟩):t.var=true∧eY b t.name=none:=by
 unfold dm at h;cases hv:t.var
 ·simp [hv] at h; exact absurd h (hc hv)
 ·simp [hv] at h; exact ⟨rfl,(hb.oN _).1 h⟩
theorem EZ:(Tryz.prog.info? 40).map (fun i=>(i.zero,i.size,i.bytes))=some (some (.agg #[.string ⟨#[]⟩,.slice none 0 0,.slice none 0 0]),3,64):=by kernel_rfl
def D.AtS (a:A):Prop:=Sm a.name∧a.args.length≤4∧∀ t ∈ a.args,Sm t.name
def D.Qc (r:Ru):Prop:=AtS r.head∧r.body.length≤8∧∀ x ∈ r.body,Vj x
structure fH (g p:Nat) (w:World) (xs:List Ru) (v:Value) (wr:World):Prop where
 coll:∃ L bs,aW 3 fG w.heap.size 40 wr v L xs bs∧∀ b ∈ bs,w.heap.size≤b
 small:∀ x ∈ xs,Qc x
 rdr:kC g p wr
 kept:aG [g] w wr
 glt:g < w.heap.size
section
variable {g p:Nat} {w:World} {xs:List Ru} {v:Value} {wr:World}
theorem fH.call {p2:Nat} {w2:World} (h:fH g p w xs v wr) (I:kC g p2 w2) (hK:aG [g] wr w2):fH g p2 w xs v w2:=by
 obtain ⟨L,bs,J,y⟩:=h.coll;exact ⟨⟨L,bs,J.NC aU hK h.glt (fun U=>by have:=y g U; have:=h.glt; omega),y⟩,h.small,I,h.kept.trans hK,h.glt⟩
theorem fH.below {w2:World} (h:fH g p w xs v wr) (hB:Below wr.heap.size wr w2):fH g p w xs v w2:=by
 obtain ⟨L,bs,I,y⟩:=h.coll;exact ⟨⟨L,bs,I.below aU hB,y⟩,h.small,h.rdr.below hB,h.kept.fJ hB h.kept.size,h.glt⟩
theorem fH.rules (h:fH g p w xs v wr):∃ bs,dI wr [v] xs bs∧∀ b ∈ bs,w.heap.size≤b:=by
 obtain ⟨L,bs,I,y⟩:=h.coll;obtain ⟨J,U,h2⟩:=I.slice;exact ⟨J,U,fun b hb=>(h2 b hb).elim id (y b)⟩
theorem fH.shape (h:fH g p w xs v wr):∃ A c,v=.slice A xs.length c:=by
 obtain ⟨L,bs,y,_⟩:=h.coll;exact fE y.own
theorem fH.start (I:g < w.heap.size) (J:kC g p w):fH g p w [] (.slice (some ⟨w.heap.size,0,none⟩) 0 0) (w.alloc (.cells #[] 40)):=by
 have y:Below w.heap.size w (w.alloc (.cells #[] 40)):=ζ;exact ⟨⟨[],[],aW.empty (ω _ _) ν,fun b hb=>by simp at hb⟩,fun x U=>by simp at U,J.below y,aG.of_below y,I⟩
theorem fH.arm {r:Ru} {y c1 c2:Value} {I:List Nat} {W:World} (h:fH g p w xs v wr) (hB:Below wr.heap.size wr W) (hr:fG W [y,c1,c2] r I) (J:∀ b ∈ I,wr.heap.size≤b):
  ∃ L bs,aW 3 fG w.heap.size 40 (W.alloc (.cells #[y,c1,c2] 40)) v L xs bs∧(∀ b ∈ bs ++ I,w.heap.size≤b)∧aQ 3 fG (W.alloc (.cells #[y,c1,c2] 40)) [y,c1,c2] [r] I∧
   Lies (W.alloc (.cells #[y,c1,c2] 40)) (some ⟨W.heap.size,0,none⟩) [y,c1,c2]∧(∀ b ∈ I,v.ownBlock ≠ some b)∧Below w.heap.size wr (W.alloc (.cells #[y,c1,c2] 40))∧w.heap.size≤(W.alloc (.cells #[y,c1,c2] 40)).heap.size:=by
 obtain ⟨L,bs,hC,U⟩:=h.coll;have hA:Below W.heap.size W (W.alloc (.cells #[y,c1,c2] 40)):=ζ;have hs:=h.kept.size;have a0:=hB.size;have hT:Below wr.heap.size wr (W.alloc (.cells #[y,c1,c2] 40)):=hB.trans (hA.mono a0);exact ⟨L,bs,hC.below aU hT,fun b hb=>(μ.1 hb).elim (U b) (fun hb=>by have:=J b hb; omega),aQ.cu kU (aU.below hr hA),aP (ω _ _),fun b hb=>jG hC.own (J b hb),hT.mono hs,by simp; omega⟩
theorem fH.far (h:fH g p w xs v wr) {b:Nat} (hb:wr.heap.size≤b):v.ownBlock ≠ some b:=by
 obtain ⟨L,bs,y,I⟩:=h.coll;exact jG y.own hb
theorem fH.UG {r:Ru} {y c1 c2:Value} {I:List Nat} {W:World} (h:fH g p w xs v wr) (hB:Below wr.heap.size wr W) (hr:fG W [y,c1,c2] r I) (J:∀ b ∈ I,w.heap.size≤b∧v.ownBlock ≠ some b):
  ∃ L bs,aW 3 fG w.heap.size 40 (W.alloc (.cells #[y,c1,c2] 40)) v L xs bs∧(∀ b ∈ bs ++ I,w.heap.size≤b)∧aQ 3 fG (W.alloc (.cells #[y,c1,c2] 40)) [y,c1,c2] [r] I∧
   Lies (W.alloc (.cells #[y,c1,c2] 40)) (some ⟨W.heap.size,0,none⟩) [y,c1,c2]∧(∀ b ∈ I,v.ownBlock ≠ some b)∧Below w.heap.size wr (W.alloc (.cells #[y,c1,c2] 40))∧w.heap.size≤(W.alloc (.cells #[y,c1,c2] 40)).heap.size:=by
 obtain ⟨L,bs,hC,U⟩:=h.coll;have hA:Below W.heap.size W (W.alloc (.cells #[y,c1,c2] 40)):=ζ;have hs:=h.kept.size;have a0:=hB.size;have hT:Below wr.heap.size wr (W.alloc (.cells #[y,c1,c2] 40)):=hB.trans (hA.mono a0);exact ⟨L,bs,hC.below aU hT,fun b hb=>(μ.1 hb).elim (U b) (fun hb=>(J b hb).1),aQ.cu kU (aU.below hr hA),aP (ω _ _),fun b hb=>(J b hb).2,hT.mono hs,by simp; omega⟩
theorem fH.app {J:World} {v4:Value} {L4:List Value} {I:List Nat} {y:Ru} (h:fH g p w xs v wr) (hC:aW 3 fG w.heap.size 40 J v4 L4 (xs ++ [y]) I) (U:∀ b ∈ I,w.heap.size≤b) (hB:Below w.heap.size wr J) (hy:Qc y):fH g p w (xs ++ [y]) v4 J:=
 ⟨⟨L4,I,hC,U⟩,fun x hx=>(μ.1 hx).elim (h.small x) (fun hx=>by rw [List.mem_singleton.1 hx]; exact hy),h.rdr.fJ hB h.glt,h.kept.fJ hB ν,h.glt⟩
end
def Rw (m g p q:Nat) (w:World) (e:Ending) (w':World):Prop:=
 ∃ (xs:List Ru) (v:Value) (y:Nat),e=.returned v∧xs.length≤m∧y≤p+q∧fH g y w xs v w'
theorem D.OY {w:World} {b:Nat} {no:Bool} {nm:ByteArray} {s:Value} {a:A} {U:List Nat} (h:w.heap[b]? = some (.cells #[.bool no,.string nm,s] 42 (0,0))) (ha:aI w [.string nm,s] a U):gU w [.slice (some ⟨b,0,none⟩) 1 1] [⟨no,a⟩] (b :: U):=by
 obtain ⟨s',J,hn,ht⟩:=ha;simp only [List.cons.injEq,and_true,Value.string.injEq] at J;obtain ⟨rfl,rfl⟩:=J;refine ⟨_,1,rfl,ν,by unfold maxLen; omega,fun h=>by simp at h,fun _=>⟨b,0,rfl,fun _=>[.bool no,.string a.name,s],fun _=>U,by simp,fun k t I=>?_⟩⟩
 match k,I with
 | 0,I=>
  simp only [List.getElem?_cons_zero,Option.some.injEq] at I;subst I;refine ⟨rfl,fun j v y=>?_,s,rfl,hn,ht⟩
  match j,y with
  | 0,y=>rw [ai h]; simpa using y
  | 1,y=>rw [ai h]; simpa using y
  | 2,y=>rw [ai h]; simpa using y
  | j+3,y=>simp at y
 | k+1,I=>simp at I
theorem D.xY {w:World} {b:Nat} {no U:Bool} {nm a0:ByteArray} {s s2:Value} {a a2:A} {b1 b2:List Nat} (h:w.heap[b]? = some (.cells #[.bool no,.string nm,s,.bool U,.string a0,s2] 42 (0,0)))
  (ha:aI w [.string nm,s] a b1) (a1:aI w [.string a0,s2] a2 b2):gU w [.slice (some ⟨b,0,none⟩) 2 2] [⟨no,a⟩,⟨U,a2⟩] (b :: (b1 ++ b2)):=by
 obtain ⟨s',I,hn,ht⟩:=ha;simp only [List.cons.injEq,and_true,Value.string.injEq] at I;obtain ⟨rfl,rfl⟩:=I;obtain ⟨a5,I,a3,a4⟩:=a1;simp only [List.cons.injEq,and_true,Value.string.injEq] at I;obtain ⟨rfl,rfl⟩:=I;refine ⟨_,2,rfl,ν,by unfold maxLen; omega,fun h=>by simp at h,fun _=>⟨b,0,rfl,fun k=>if k=0 then [.bool no,.string a.name,s] else [.bool U,.string a2.name,s2],fun k=>if k=0 then b1 else b2,by simp [List.range_succ],fun k t J=>?_⟩⟩
 match k,J with
 | 0,J=>
  simp only [List.getElem?_cons_zero,Option.some.injEq] at J;subst J;refine ⟨rfl,fun j v y=>?_,s,rfl,hn,ht⟩
  match j,y with
  | 0,y=>rw [ai h]; simpa using y
  | 1,y=>rw [ai h]; simpa using y
  | 2,y=>rw [ai h]; simpa using y
  | j+3,y=>simp at y
 | 1,J=>
  simp only [List.getElem?_cons_succ,List.getElem?_cons_zero,Option.some.injEq] at J;subst J;refine ⟨rfl,fun j v y=>?_,s2,rfl,a3,a4⟩
  match j,y with
  | 0,y=>rw [ai h]; simpa using y
  | 1,y=>rw [ai h]; simpa using y
  | 2,y=>rw [ai h]; simpa using y
  | j+3,y=>simp at y
 | k+2,J=>simp at J
theorem D.mP {w:World} {b:Nat} {x:ByteArray} {c:Bool} (h:w.heap[b]? = some (.cells #[.bool c,.string x] 91 (0,0))) (J:x.size≤maxLen):
  eH w [.slice (some ⟨b,0,none⟩) 1 1] [⟨c,x⟩] [b]:=by
 refine ⟨_,1,rfl,ν,by unfold maxLen; omega,fun h=>by simp at h,fun _=>⟨b,0,rfl,fun k=>[.bool c,.string x],fun _=>[],by simp,fun k t I=>?_⟩⟩
 match k,I with
 | 0,I=>
  simp only [List.getElem?_cons_zero,Option.some.injEq] at I;subst I;refine ⟨rfl,fun j v y=>?_,rfl,J,rfl⟩
  match j,y with
  | 0,y=>rw [ai h]; simpa using y
  | 1,y=>rw [ai h]; simpa using y
  | j+2,y=>simp at y
 | k+1,I=>simp at I
end
end Go.Proofs.YtkjinanbccloeaaGreatDoor
