/- Of the proof of FnExactProofOk: StoR. -/
import Derived.Test.YtlmngncogomgeaaGreatDoorM27
set_option linter.unusedVariables false
namespace Go.Proofs.YtlmngncogomgeaaGreatDoor
open Go.RowKit D
structure D.kD (B sb mu mp:Nat) (Af:Option Addr) (nf cf:Nat) (Lf:List Value) (fs:List A) (bf:List Nat) (Ar:Option Addr) (nr cr:Nat) (Lr:List Value) (rn:List Nat) (Lp:List (Value × Value)) (G:WK→List Nat) (ou:List Nat) (w:World):Prop where
 blk:w.heap[sb]? = some (.cells #[.slice Af nf cf,.slice Ar nr cr,.map (some mu),.map (some mp)] 114 (0,0))
 ef:nf=fs.length
 er:nr=rn.length
 cF:cu 2 aP B 40 w (.slice Af nf cf) Lf fs bf
 cR:cu 1 xk B 3 w (.slice Ar nr cr) Lr rn []
 un:rM B mu G ou w
 pl:gq isStr mp Lp w
 dFR:Vu (.slice Af nf cf) (.slice Ar nr cr)
 dF:∀ x ∈ ou,(Value.slice Af nf cf).ownBlock ≠ some x
 dR:∀ x ∈ ou,(Value.slice Ar nr cr).ownBlock ≠ some x
 bfs:∀ x ∈ bf,x ≠ sb∧x ≠ mu∧x ≠ mp∧x ∉ ou∧(Value.slice Ar nr cr).ownBlock ≠ some x
 lo:sb < B∧mu < B∧mp < B∧sb ≠ mu∧sb ≠ mp∧mu ≠ mp
 ous:∀ x ∈ ou,B≤x∧x < w.heap.size
 oH:B≤w.heap.size
structure D.Free (B sb mu mp:Nat) (vF vR:Value) (ou:List Nat) (b:Nat):Prop where
 f:vF.ownBlock ≠ some b
 r:vR.ownBlock ≠ some b
 u:b ∉ ou
 s:b ≠ sb∧b ≠ mu∧b ≠ mp
section
variable {B sb mu mp:Nat} {Af:Option Addr} {nf cf:Nat} {Lf:List Value} {fs:List A} {bf:List Nat} {Ar:Option Addr} {nr cr:Nat} {Lr:List Value} {rn:List Nat} {Lp:List (Value × Value)} {G:WK→List Nat} {ou:List Nat} {w w':World}
theorem D.kD.later (h:kD B sb mu mp Af nf cf Lf fs bf Ar nr cr Lr rn Lp G ou w) (hk:Below w.heap.size w w'):kD B sb mu mp Af nf cf Lf fs bf Ar nr cr Lr rn Lp G ou w':=by
 obtain ⟨J,l2,U,_⟩:=h.lo;have I:=h.oH;exact ⟨(hk.block _ (by omega)).trans h.blk,h.ef,h.er,h.cF.below ak hk,h.cR.below iI hk,h.un.keep (hk.block _ (by omega)) fun x y=>hk.block x (h.ous x y).2,h.pl.below hk (by omega),h.dFR,h.dF,h.dR,h.bfs,h.lo,fun x y=>⟨(h.ous x y).1,κ (h.ous x y).2 hk.size⟩,τ I hk.size⟩
theorem D.kD.low (h:kD B sb mu mp Af nf cf Lf fs bf Ar nr cr Lr rn Lp G ou w) {x:Nat} (y:x < B∧x ≠ sb∧x ≠ mu∧x ≠ mp):Free B sb mu mp (.slice Af nf cf) (.slice Ar nr cr) ou x:=
 ⟨fun e=>by have:=(bD h.cF.own e).1; omega,fun e=>by have:=(bD h.cR.own e).1; omega,fun e=>by have:=(h.ous x e).1; omega,y.2⟩
theorem D.kD.fact (h:kD B sb mu mp Af nf cf Lf fs bf Ar nr cr Lr rn Lp G ou w) {w5:World} {J:Option Addr} {U:Nat} {cs:List Value} {a:A} {ba:List Nat} (a3:aV 2 aP w cs [a] ba)
  (a4:w5.ownsRow B 40 2 (.slice J (nf+1) U) (nf+1) (Lf ++ cs)) (hg:w.grownBy w5 (Value.slice Af nf cf).ownBlock) (a1:(Value.slice J (nf+1) U).ownBlock=(Value.slice Af nf cf).ownBlock∨(Value.slice J (nf+1) U).ownBlock=some w.heap.size)
  (a2:∀ x ∈ ba,Free B sb mu mp (.slice Af nf cf) (.slice Ar nr cr) ou x):
  w5.cell? ⟨sb,0,none⟩=some (.slice Af nf cf)∧w5.frozen? ⟨sb,0,none⟩=false∧kD B sb mu mp J (nf+1) U (Lf ++ cs) (fs ++ [a]) (bf ++ ba) Ar nr cr Lr rn Lp G ou (w5.setCell ⟨sb,0,none⟩ (.slice J (nf+1) U))∧
   (∀ x,x < w.heap.size→(Value.slice Af nf cf).ownBlock ≠ some x→x ≠ sb→(w5.setCell ⟨sb,0,none⟩ (.slice J (nf+1) U)).heap[x]? = w.heap[x]?)∧∀ x,(Value.slice J (nf+1) U).ownBlock=some x→(Value.slice Af nf cf).ownBlock=some x∨x=w.heap.size:=by
 obtain ⟨l1,l2,l3,l4,l5,l6⟩:=h.lo;have hs:=h.oH;have oF:∀ x,(Value.slice Af nf cf).ownBlock=some x→B≤x∧x < w.heap.size:=fun x y=>bD h.cF.own y
 have oR:∀ x,(Value.slice Ar nr cr).ownBlock=some x→B≤x∧x < w.heap.size:=fun x y=>bD h.cR.own y
 have k5:∀ x,x < w.heap.size→(Value.slice Af nf cf).ownBlock ≠ some x→w5.heap[x]? = w.heap[x]?:=fun x h1 h2=>hg.block x h1 (fun e=>h2 e.symm)
 have kp:∀ x,x < w.heap.size→(Value.slice Af nf cf).ownBlock ≠ some x→x ≠ sb→(w5.setCell ⟨sb,0,none⟩ (.slice J (nf+1) U)).heap[x]? = w.heap[x]?:=fun x h1 h2 h3=>(π _ _ _ _ h3).trans (k5 x h1 h2)
 have a0:∀ x,x < B→(Value.slice Af nf cf).ownBlock ≠ some x:=fun x y e=>by have:=(oF x e).1; omega
 have b5:=(k5 sb (by omega) (a0 sb l1)).trans h.blk
 have I:∀ x,(Value.slice J (nf+1) U).ownBlock=some x→(Value.slice Af nf cf).ownBlock=some x∨x=w.heap.size:=fun x y=>by
  rcases a1 with e | e
  ·exact .inl (e ▸ y)
  ·right; rw [e] at y; injection y with y; exact y.symm
 have a6:cu 2 aP B 40 w5 (.slice J (nf+1) U) (Lf ++ cs) (fs ++ [a]) (bf ++ ba):=by
  have a7:=h.ef;subst a7;exact h.cF.app ak a3 (fun b hb=>(a2 b hb).f) a4 hg a1
 refine ⟨aj b5,aB b5,⟨?_,by rw [χ,h.ef]; rfl,h.er,?_,?_,?_,?_,?_,?_,h.dR,?_,h.lo,?_,?_⟩,kp,I⟩
 ·have:=bY (o:=0) (u:=.slice J (nf+1) U) b5
  simpa using this
 ·exact a6.lI ak (fun x y=>π _ _ _ _ (by
   rcases I x y with e | e
   ·have:=(oF x e).1; show x ≠ sb; omega
   ·show x ≠ sb; omega)) (fun x y=>π _ _ _ _ (by
   rcases μ.1 y with y | y
   ·exact (h.bfs x y).1
   ·exact (a2 x y).s.1))
 ·exact h.cR.lI iI (fun x y=>kp x (oR x y).2 (fun e=>h.dFR x e y) (by have:=(oR x y).1; omega)) (fun x y=>by simp at y)
 ·exact h.un.keep (kp mu (by omega) (a0 mu l2) (by omega)) fun x y=>kp x (h.ous x y).2 (h.dF x y) (by have:=(h.ous x y).1; omega)
 ·exact h.pl.same (kp mp (by omega) (a0 mp l3) (by omega))
 ·intro x y a5
  rcases I x y with e | e
  ·exact h.dFR x e a5
  ·have:=(oR x a5).2; omega
 ·intro x y e
  rcases I x e with e | e
  ·exact h.dF x y e
  ·have:=(h.ous x y).2; omega
 ·intro x y
  rcases μ.1 y with y | y
  ·exact h.bfs x y
  ·have g:=a2 x y
   exact ⟨g.s.1,g.s.2.1,g.s.2.2,g.u,g.r⟩
 ·intro x y
  have:=h.ous x y;have:=hg.size;exact ⟨by omega,by simp [World.setCell]; omega⟩
 ·have:=hg.size
  simp [World.setCell]; omega
theorem D.kD.round (h:kD B sb mu mp Af nf cf Lf fs bf Ar nr cr Lr rn Lp G ou w) {w5:World} {J:Option Addr} {U:Nat} {cs:List Value} {i:Nat} (a2:aV 1 xk w cs [i] [])
  (a3:w5.ownsRow B 3 1 (.slice J (nr+1) U) (nr+1) (Lr ++ cs)) (hg:w.grownBy w5 (Value.slice Ar nr cr).ownBlock) (a1:(Value.slice J (nr+1) U).ownBlock=(Value.slice Ar nr cr).ownBlock∨(Value.slice J (nr+1) U).ownBlock=some w.heap.size):
  w5.cell? ⟨sb,1,none⟩=some (.slice Ar nr cr)∧w5.frozen? ⟨sb,1,none⟩=false∧kD B sb mu mp Af nf cf Lf fs bf J (nr+1) U (Lr ++ cs) (rn ++ [i]) Lp G ou (w5.setCell ⟨sb,1,none⟩ (.slice J (nr+1) U))∧
   (∀ x,x < w.heap.size→(Value.slice Ar nr cr).ownBlock ≠ some x→x ≠ sb→(w5.setCell ⟨sb,1,none⟩ (.slice J (nr+1) U)).heap[x]? = w.heap[x]?)∧∀ x,(Value.slice J (nr+1) U).ownBlock=some x→(Value.slice Ar nr cr).ownBlock=some x∨x=w.heap.size:=by
 obtain ⟨l1,l2,l3,l4,l5,l6⟩:=h.lo;have hs:=h.oH;have oF:∀ x,(Value.slice Af nf cf).ownBlock=some x→B≤x∧x < w.heap.size:=fun x y=>bD h.cF.own y
 have oR:∀ x,(Value.slice Ar nr cr).ownBlock=some x→B≤x∧x < w.heap.size:=fun x y=>bD h.cR.own y
 have k5:∀ x,x < w.heap.size→(Value.slice Ar nr cr).ownBlock ≠ some x→w5.heap[x]? = w.heap[x]?:=fun x h1 h2=>hg.block x h1 (fun e=>h2 e.symm)
 have kp:∀ x,x < w.heap.size→(Value.slice Ar nr cr).ownBlock ≠ some x→x ≠ sb→(w5.setCell ⟨sb,1,none⟩ (.slice J (nr+1) U)).heap[x]? = w.heap[x]?:=fun x h1 h2 h3=>(π _ _ _ _ h3).trans (k5 x h1 h2)
 have a0:∀ x,x < B→(Value.slice Ar nr cr).ownBlock ≠ some x:=fun x y e=>by have:=(oR x e).1; omega
 have b5:=(k5 sb (by omega) (a0 sb l1)).trans h.blk
 have I:∀ x,(Value.slice J (nr+1) U).ownBlock=some x→(Value.slice Ar nr cr).ownBlock=some x∨x=w.heap.size:=fun x y=>by
  rcases a1 with e | e
  ·exact .inl (e ▸ y)
  ·right; rw [e] at y; injection y with y; exact y.symm
 have a4:cu 1 xk B 3 w5 (.slice J (nr+1) U) (Lr ++ cs) (rn ++ [i]) []:=by
  have a5:=h.er;subst a5;exact h.cR.app iI a2 (fun b hb=>by simp at hb) a3 hg a1
 refine ⟨aj b5,aB b5,⟨?_,h.ef,by rw [χ,h.er]; rfl,?_,?_,?_,?_,?_,h.dF,?_,?_,h.lo,?_,?_⟩,kp,I⟩
 ·have:=bY (o:=1) (u:=.slice J (nr+1) U) b5
  simpa using this
 ·exact h.cF.lI ak (fun x y=>kp x (oF x y).2 (fun e=>h.dFR x y e) (by have:=(oF x y).1; omega)) (fun x y=>kp x (h.cF.row.lt ak x y) (h.bfs x y).2.2.2.2 (h.bfs x y).1)
 ·exact a4.lI iI (fun x y=>π _ _ _ _ (by
   rcases I x y with e | e
   ·have:=(oR x e).1; show x ≠ sb; omega
   ·show x ≠ sb; omega)) (fun x y=>by simp at y)
 ·exact h.un.keep (kp mu (by omega) (a0 mu l2) (by omega)) fun x y=>kp x (h.ous x y).2 (h.dR x y) (by have:=(h.ous x y).1; omega)
 ·exact h.pl.same (kp mp (by omega) (a0 mp l3) (by omega))
 ·intro x y a6
  rcases I x a6 with e | e
  ·exact h.dFR x y e
  ·have:=(oF x y).2; omega
 ·intro x y e
  rcases I x e with e | e
  ·exact h.dR x y e
  ·have:=(h.ous x y).2; omega
 ·intro x y
  obtain ⟨g1,g2,g3,g4,g5⟩:=h.bfs x y;refine ⟨g1,g2,g3,g4,fun e=>?_⟩
  rcases I x e with e | e
  ·exact g5 e
  ·have:=h.cF.row.lt ak x y; omega
 ·intro x y
  have:=h.ous x y;have:=hg.size;exact ⟨by omega,by simp [World.setCell]; omega⟩
 ·have:=hg.size
  simp [World.setCell]; omega
theorem D.kD.place (h:kD B sb mu mp Af nf cf Lf fs bf Ar nr cr Lr rn Lp G ou w) {U:World} {J:List (Value × Value)} (hp:gq isStr mp J U) (hg:w.grownBy U (some mp)):kD B sb mu mp Af nf cf Lf fs bf Ar nr cr Lr rn J G ou U:=by
 obtain ⟨l1,l2,l3,l4,l5,l6⟩:=h.lo;have hs:=h.oH;have oF:∀ x,(Value.slice Af nf cf).ownBlock=some x→B≤x∧x < w.heap.size:=fun x y=>bD h.cF.own y
 have oR:∀ x,(Value.slice Ar nr cr).ownBlock=some x→B≤x∧x < w.heap.size:=fun x y=>bD h.cR.own y
 have I:∀ x,x < w.heap.size→x ≠ mp→U.heap[x]? = w.heap[x]?:=fun x h1 h2=>hg.block x h1 (fun e=>h2 (by injection e))
 exact ⟨(I sb (by omega) l5).trans h.blk,h.ef,h.er,h.cF.lI ak (fun x y=>I x (oF x y).2 (by have:=(oF x y).1; omega)) (fun x y=>I x (h.cF.row.lt ak x y) (h.bfs x y).2.2.1),
  h.cR.lI iI (fun x y=>I x (oR x y).2 (by have:=(oR x y).1; omega)) (fun x y=>by simp at y),h.un.keep (I mu (by omega) l6) fun x y=>I x (h.ous x y).2 (by have:=(h.ous x y).1; omega),hp,h.dFR,h.dF,h.dR,h.bfs,h.lo,
  fun x y=>⟨(h.ous x y).1,κ (h.ous x y).2 hg.size⟩,τ hs hg.size⟩
theorem D.kD.under (h:kD B sb mu mp Af nf cf Lf fs bf Ar nr cr Lr rn Lp G ou w) {J:World} {G':WK→List Nat} {I:List Nat} (a0:w.heap.size≤J.heap.size) (hk:∀ x,x < w.heap.size→x ≠ mu→x ∉ ou→J.heap[x]? = w.heap[x]?) (hu:rM B mu G' I J) (U:∀ x ∈ I,x ∈ ou∨(w.heap.size≤x∧x < J.heap.size)):
  kD B sb mu mp Af nf cf Lf fs bf Ar nr cr Lr rn Lp G' I J:=by
 obtain ⟨l1,l2,l3,l4,l5,l6⟩:=h.lo;have hs:=h.oH;have oF:∀ x,(Value.slice Af nf cf).ownBlock=some x→B≤x∧x < w.heap.size:=fun x y=>bD h.cF.own y
 have oR:∀ x,(Value.slice Ar nr cr).ownBlock=some x→B≤x∧x < w.heap.size:=fun x y=>bD h.cR.own y
 have low:∀ x,x < B→x ∉ ou:=fun x y e=>by have:=(h.ous x e).1; omega
 refine ⟨(hk sb (by omega) l4 (low sb l1)).trans h.blk,h.ef,h.er,h.cF.lI ak (fun x y=>hk x (oF x y).2 (by have:=(oF x y).1; omega) (fun e=>h.dF x e y)) (fun x y=>hk x (h.cF.row.lt ak x y) (h.bfs x y).2.1 (h.bfs x y).2.2.2.1),
  h.cR.lI iI (fun x y=>hk x (oR x y).2 (by have:=(oR x y).1; omega) (fun e=>h.dR x e y)) (fun x y=>by simp at y),hu,h.pl.same (hk mp (by omega) l6.symm (low mp l3)),h.dFR,fun x y e=>?_,fun x y e=>?_,fun x y=>?_,h.lo,fun x y=>?_,by omega⟩
 ·rcases U x y with g | g
  ·exact h.dF x g e
  ·have:=(oF x e).2; omega
 ·rcases U x y with g | g
  ·exact h.dR x g e
  ·have:=(oR x e).2; omega
 ·obtain ⟨g1,g2,g3,g4,g5⟩:=h.bfs x y
  refine ⟨g1,g2,g3,fun e=>?_,g5⟩
  rcases U x e with g | g
  ·exact g4 g
  ·have:=h.cF.row.lt ak x y; omega
 ·rcases U x y with g | g
  ·have:=h.ous x g; omega
  ·omega
end
end Go.Proofs.YtlmngncogomgeaaGreatDoor
