/- Of the proof of FnDeltaBoth: Laid, StoR, HolI, SetI, WanI, UndI. -/
import Derived.Test.YtkjinanbccloeaaGreatDoorC22
import Derived.Test.YtkjinanbccloeaaGreatDoorC21
set_option linter.unusedVariables false
set_option maxHeartbeats 4000000
set_option maxRecDepth 100000
namespace Go.Proofs.YtkjinanbccloeaaGreatDoor
section
open Go.ChangeShapes Go.WideShapes Go.RowKit D
theorem Yt : Tryz.prog.globalNamed "errors.errorType" = some 1 := by kernel_rfl
theorem Yu : (Tryz.prog.cutTypes.find? (·.1 == "internal/reflectlite.rtype")).map (·.2) = some 350 := by kernel_rfl
theorem Vs:Tryz.prog.types.size=401:=by kernel_rfl
theorem Px:((List.range 401).filter fun t=>Tryz.prog.rowNamed t [101,114,114,111,114]) = [186]:=by kernel_rfl
theorem handle_of_laid {W : World} (h : laidMetH Tryz.prog [("errors.errorType", Rows.laid_errors_errorType)] W) : qw W := by
 have I : laidMet Tryz.prog [] W ∧ handlesMet Tryz.prog [("errors.errorType", Rows.laid_errors_errorType)] W := h
 obtain ⟨name,u,ty,J,U,e3,e4,y⟩:=I.2 _ (ώ.2 rfl);have en:name = [101,114,114,111,114]:=(Option.some.inj J).symm;subst en;obtain rfl:=Option.some.inj (Yu.symm.trans U);have hm:ty ∈ (List.range 401).filter fun t=>Tryz.prog.rowNamed t [101,114,114,111,114]:=List.mem_filter.2 ⟨List.mem_range.2 (by rw [← Vs]; exact e3),e4⟩
 rw [Px] at hm;obtain rfl:=ώ.1 hm;have hh:typeHandle Tryz.prog 186=.pointer (some ⟨2,186,none⟩):=by kernel_rfl
 rw [hh] at y;unfold qw;simpa using World.var?_cell Yt y 0
noncomputable def laidWorld (os:Os):World:=
 let y:=World.holding Tryz.prog os ⟨#[],#[],[]⟩
 { y with heap:=y.heap.modify 1 fun
  | .cells _ t frozen=>.cells #[.iface 350 (.agg #[.pointer (some ⟨2,186,none⟩)])] t frozen
  | o=>o }
theorem laidWorld_met (os : Os) (args : Array Value) : laidMetH Tryz.prog [("errors.errorType", Rows.laid_errors_errorType)] ((laidWorld os).forCall (fun _ _ => 0) ⟨#[], args, []⟩).memory :=
 laidMetH_of_parts (laidMet_nil _ _) (by kernel_rfl)
end
section
open Go.RowKit D
structure D.lT (B sb mu mp:Nat) (Af:Option Addr) (nf cf:Nat) (Lf:List Value) (fs:List A) (bf:List Nat) (Ar:Option Addr) (nr cr:Nat) (Lr:List Value) (rn:List Nat) (Lp:List (Value × Value)) (G:WK→List Nat) (ou:List Nat) (w:World):Prop where
 blk:w.heap[sb]? = some (.cells #[.slice Af nf cf,.slice Ar nr cr,.map (some mu),.map (some mp)] 127 (0,0))
 ef:nf=fs.length
 er:nr=rn.length
 cF:bK 2 aK B 33 w (.slice Af nf cf) Lf fs bf
 cR:bK 1 yT B 3 w (.slice Ar nr cr) Lr rn []
 un:uX B mu G ou w
 pl:oH isStr mp Lp w
 dFR:Yp (.slice Af nf cf) (.slice Ar nr cr)
 dF:∀ x ∈ ou,(Value.slice Af nf cf).ownBlock ≠ some x
 dR:∀ x ∈ ou,(Value.slice Ar nr cr).ownBlock ≠ some x
 bfs:∀ x ∈ bf,x ≠ sb∧x ≠ mu∧x ≠ mp∧x ∉ ou∧(Value.slice Ar nr cr).ownBlock ≠ some x
 lo:sb < B∧mu < B∧mp < B∧sb ≠ mu∧sb ≠ mp∧mu ≠ mp
 ous:∀ x ∈ ou,B≤x∧x < w.heap.size
 qH:B≤w.heap.size
structure D.Free (B sb mu mp:Nat) (vF vR:Value) (ou:List Nat) (b:Nat):Prop where
 f:vF.ownBlock ≠ some b
 r:vR.ownBlock ≠ some b
 u:b ∉ ou
 s:b ≠ sb∧b ≠ mu∧b ≠ mp
section
variable {B sb mu mp:Nat} {Af:Option Addr} {nf cf:Nat} {Lf:List Value} {fs:List A} {bf:List Nat} {Ar:Option Addr} {nr cr:Nat} {Lr:List Value} {rn:List Nat} {Lp:List (Value × Value)} {G:WK→List Nat} {ou:List Nat} {w w':World}
theorem D.lT.later (h:lT B sb mu mp Af nf cf Lf fs bf Ar nr cr Lr rn Lp G ou w) (y:Below w.heap.size w w'):lT B sb mu mp Af nf cf Lf fs bf Ar nr cr Lr rn Lp G ou w':=by
 obtain ⟨U,l2,l3,_⟩:=h.lo;have J:=h.qH;exact ⟨(y.block _ (by omega)).trans h.blk,h.ef,h.er,h.cF.below au y,h.cR.below jh y,h.un.keep (y.block _ (by omega)) fun x I=>y.block x (h.ous x I).2,h.pl.below y (by omega),h.dFR,h.dF,h.dR,h.bfs,h.lo,fun x I=>⟨(h.ous x I).1,κ (h.ous x I).2 y.size⟩,τ J y.size⟩
theorem D.lT.low (h:lT B sb mu mp Af nf cf Lf fs bf Ar nr cr Lr rn Lp G ou w) {x:Nat} (y:x < B∧x ≠ sb∧x ≠ mu∧x ≠ mp):Free B sb mu mp (.slice Af nf cf) (.slice Ar nr cr) ou x:=
 ⟨fun e=>by have:=(bZ h.cF.own e).1; omega,fun e=>by have:=(bZ h.cR.own e).1; omega,fun e=>by have:=(h.ous x e).1; omega,y.2⟩
theorem D.lT.fact (h:lT B sb mu mp Af nf cf Lf fs bf Ar nr cr Lr rn Lp G ou w) {w5:World} {J:Option Addr} {U:Nat} {cs:List Value} {a:A} {ba:List Nat} (a3:aW 2 aK w cs [a] ba)
  (a4:w5.ownsRow B 33 2 (.slice J (nf+1) U) (nf+1) (Lf ++ cs)) (hg:w.grownBy w5 (Value.slice Af nf cf).ownBlock) (a1:(Value.slice J (nf+1) U).ownBlock=(Value.slice Af nf cf).ownBlock∨(Value.slice J (nf+1) U).ownBlock=some w.heap.size)
  (a2:∀ x ∈ ba,Free B sb mu mp (.slice Af nf cf) (.slice Ar nr cr) ou x):
  w5.cell? ⟨sb,0,none⟩=some (.slice Af nf cf)∧w5.frozen? ⟨sb,0,none⟩=false∧lT B sb mu mp J (nf+1) U (Lf ++ cs) (fs ++ [a]) (bf ++ ba) Ar nr cr Lr rn Lp G ou (w5.setCell ⟨sb,0,none⟩ (.slice J (nf+1) U))∧
   (∀ x,x < w.heap.size→(Value.slice Af nf cf).ownBlock ≠ some x→x ≠ sb→(w5.setCell ⟨sb,0,none⟩ (.slice J (nf+1) U)).heap[x]? = w.heap[x]?)∧∀ x,(Value.slice J (nf+1) U).ownBlock=some x→(Value.slice Af nf cf).ownBlock=some x∨x=w.heap.size:=by
 obtain ⟨l1,l2,l3,l4,l5,l6⟩:=h.lo;have hs:=h.qH;have oF:∀ x,(Value.slice Af nf cf).ownBlock=some x→B≤x∧x < w.heap.size:=fun x y=>bZ h.cF.own y
 have oR:∀ x,(Value.slice Ar nr cr).ownBlock=some x→B≤x∧x < w.heap.size:=fun x y=>bZ h.cR.own y
 have k5:∀ x,x < w.heap.size→(Value.slice Af nf cf).ownBlock ≠ some x→w5.heap[x]? = w.heap[x]?:=fun x h1 h2=>hg.block x h1 (fun e=>h2 e.symm)
 have kp:∀ x,x < w.heap.size→(Value.slice Af nf cf).ownBlock ≠ some x→x ≠ sb→(w5.setCell ⟨sb,0,none⟩ (.slice J (nf+1) U)).heap[x]? = w.heap[x]?:=fun x h1 h2 h3=>(π _ _ _ _ h3).trans (k5 x h1 h2)
 have a0:∀ x,x < B→(Value.slice Af nf cf).ownBlock ≠ some x:=fun x y e=>by have:=(oF x e).1; omega
 have b5:=(k5 sb (by omega) (a0 sb l1)).trans h.blk
 have I:∀ x,(Value.slice J (nf+1) U).ownBlock=some x→(Value.slice Af nf cf).ownBlock=some x∨x=w.heap.size:=fun x y=>by
  rcases a1 with e | e
  ·exact .inl (e ▸ y)
  ·right; rw [e] at y; injection y with y; exact y.symm
 have a6:bK 2 aK B 33 w5 (.slice J (nf+1) U) (Lf ++ cs) (fs ++ [a]) (bf ++ ba):=by
  have a7:=h.ef;subst a7;exact h.cF.app au a3 (fun b hb=>(a2 b hb).f) a4 hg a1
 refine ⟨ai b5,ax b5,⟨?_,by rw [χ,h.ef]; rfl,h.er,?_,?_,?_,?_,?_,?_,h.dR,?_,h.lo,?_,?_⟩,kp,I⟩
 ·have:=dw (o:=0) (u:=.slice J (nf+1) U) b5
  simpa using this
 ·exact a6.nV au (fun x y=>π _ _ _ _ (by
   rcases I x y with e | e
   ·have:=(oF x e).1; show x ≠ sb; omega
   ·show x ≠ sb; omega)) (fun x y=>π _ _ _ _ (by
   rcases μ.1 y with y | y
   ·exact (h.bfs x y).1
   ·exact (a2 x y).s.1))
 ·exact h.cR.nV jh (fun x y=>kp x (oR x y).2 (fun e=>h.dFR x e y) (by have:=(oR x y).1; omega)) (fun x y=>by simp at y)
 ·exact h.un.keep (kp mu (by omega) (a0 mu l2) (by omega)) fun x y=>kp x (h.ous x y).2 (h.dF x y) (by have:=(h.ous x y).1; omega)
 ·exact h.pl.same (kp mp (by omega) (a0 mp l3) (by omega))
 ·intro x y a5
  rcases I x y with e | e
  ·exact h.dFR x e a5
  ·have:=(oR x a5).2; omega
 ·intro x y e
  rcases I x e with e | e
  ·exact h.dF x y e
  ·have:=(h.ous x y).2; omega
 ·intro x y
  rcases μ.1 y with y | y
  ·exact h.bfs x y
  ·have g:=a2 x y
   exact ⟨g.s.1,g.s.2.1,g.s.2.2,g.u,g.r⟩
 ·intro x y
  have:=h.ous x y;have:=hg.size;exact ⟨by omega,by simp [World.setCell]; omega⟩
 ·have:=hg.size
  simp [World.setCell]; omega
theorem D.lT.round (h:lT B sb mu mp Af nf cf Lf fs bf Ar nr cr Lr rn Lp G ou w) {w5:World} {J:Option Addr} {U:Nat} {cs:List Value} {i:Nat} (a2:aW 1 yT w cs [i] [])
  (a3:w5.ownsRow B 3 1 (.slice J (nr+1) U) (nr+1) (Lr ++ cs)) (hg:w.grownBy w5 (Value.slice Ar nr cr).ownBlock) (a1:(Value.slice J (nr+1) U).ownBlock=(Value.slice Ar nr cr).ownBlock∨(Value.slice J (nr+1) U).ownBlock=some w.heap.size):
  w5.cell? ⟨sb,1,none⟩=some (.slice Ar nr cr)∧w5.frozen? ⟨sb,1,none⟩=false∧lT B sb mu mp Af nf cf Lf fs bf J (nr+1) U (Lr ++ cs) (rn ++ [i]) Lp G ou (w5.setCell ⟨sb,1,none⟩ (.slice J (nr+1) U))∧
   (∀ x,x < w.heap.size→(Value.slice Ar nr cr).ownBlock ≠ some x→x ≠ sb→(w5.setCell ⟨sb,1,none⟩ (.slice J (nr+1) U)).heap[x]? = w.heap[x]?)∧∀ x,(Value.slice J (nr+1) U).ownBlock=some x→(Value.slice Ar nr cr).ownBlock=some x∨x=w.heap.size:=by
 obtain ⟨l1,l2,l3,l4,l5,l6⟩:=h.lo;have hs:=h.qH;have oF:∀ x,(Value.slice Af nf cf).ownBlock=some x→B≤x∧x < w.heap.size:=fun x y=>bZ h.cF.own y
 have oR:∀ x,(Value.slice Ar nr cr).ownBlock=some x→B≤x∧x < w.heap.size:=fun x y=>bZ h.cR.own y
 have k5:∀ x,x < w.heap.size→(Value.slice Ar nr cr).ownBlock ≠ some x→w5.heap[x]? = w.heap[x]?:=fun x h1 h2=>hg.block x h1 (fun e=>h2 e.symm)
 have kp:∀ x,x < w.heap.size→(Value.slice Ar nr cr).ownBlock ≠ some x→x ≠ sb→(w5.setCell ⟨sb,1,none⟩ (.slice J (nr+1) U)).heap[x]? = w.heap[x]?:=fun x h1 h2 h3=>(π _ _ _ _ h3).trans (k5 x h1 h2)
 have a0:∀ x,x < B→(Value.slice Ar nr cr).ownBlock ≠ some x:=fun x y e=>by have:=(oR x e).1; omega
 have b5:=(k5 sb (by omega) (a0 sb l1)).trans h.blk
 have I:∀ x,(Value.slice J (nr+1) U).ownBlock=some x→(Value.slice Ar nr cr).ownBlock=some x∨x=w.heap.size:=fun x y=>by
  rcases a1 with e | e
  ·exact .inl (e ▸ y)
  ·right; rw [e] at y; injection y with y; exact y.symm
 have a4:bK 1 yT B 3 w5 (.slice J (nr+1) U) (Lr ++ cs) (rn ++ [i]) []:=by
  have a5:=h.er;subst a5;exact h.cR.app jh a2 (fun b hb=>by simp at hb) a3 hg a1
 refine ⟨ai b5,ax b5,⟨?_,h.ef,by rw [χ,h.er]; rfl,?_,?_,?_,?_,?_,h.dF,?_,?_,h.lo,?_,?_⟩,kp,I⟩
 ·have:=dw (o:=1) (u:=.slice J (nr+1) U) b5
  simpa using this
 ·exact h.cF.nV au (fun x y=>kp x (oF x y).2 (fun e=>h.dFR x y e) (by have:=(oF x y).1; omega)) (fun x y=>kp x (h.cF.row.lt au x y) (h.bfs x y).2.2.2.2 (h.bfs x y).1)
 ·exact a4.nV jh (fun x y=>π _ _ _ _ (by
   rcases I x y with e | e
   ·have:=(oR x e).1; show x ≠ sb; omega
   ·show x ≠ sb; omega)) (fun x y=>by simp at y)
 ·exact h.un.keep (kp mu (by omega) (a0 mu l2) (by omega)) fun x y=>kp x (h.ous x y).2 (h.dR x y) (by have:=(h.ous x y).1; omega)
 ·exact h.pl.same (kp mp (by omega) (a0 mp l3) (by omega))
 ·intro x y a6
  rcases I x a6 with e | e
  ·exact h.dFR x y e
  ·have:=(oF x y).2; omega
 ·intro x y e
  rcases I x e with e | e
  ·exact h.dR x y e
  ·have:=(h.ous x y).2; omega
 ·intro x y
  obtain ⟨g1,g2,g3,g4,g5⟩:=h.bfs x y;refine ⟨g1,g2,g3,g4,fun e=>?_⟩
  rcases I x e with e | e
  ·exact g5 e
  ·have:=h.cF.row.lt au x y; omega
 ·intro x y
  have:=h.ous x y;have:=hg.size;exact ⟨by omega,by simp [World.setCell]; omega⟩
 ·have:=hg.size
  simp [World.setCell]; omega
theorem D.lT.place (h:lT B sb mu mp Af nf cf Lf fs bf Ar nr cr Lr rn Lp G ou w) {U:World} {J:List (Value × Value)} (hp:oH isStr mp J U) (hg:w.grownBy U (some mp)):lT B sb mu mp Af nf cf Lf fs bf Ar nr cr Lr rn J G ou U:=by
 obtain ⟨l1,l2,l3,l4,l5,l6⟩:=h.lo;have hs:=h.qH;have oF:∀ x,(Value.slice Af nf cf).ownBlock=some x→B≤x∧x < w.heap.size:=fun x y=>bZ h.cF.own y
 have oR:∀ x,(Value.slice Ar nr cr).ownBlock=some x→B≤x∧x < w.heap.size:=fun x y=>bZ h.cR.own y
 have I:∀ x,x < w.heap.size→x ≠ mp→U.heap[x]? = w.heap[x]?:=fun x h1 h2=>hg.block x h1 (fun e=>h2 (by injection e))
 exact ⟨(I sb (by omega) l5).trans h.blk,h.ef,h.er,h.cF.nV au (fun x y=>I x (oF x y).2 (by have:=(oF x y).1; omega)) (fun x y=>I x (h.cF.row.lt au x y) (h.bfs x y).2.2.1),
  h.cR.nV jh (fun x y=>I x (oR x y).2 (by have:=(oR x y).1; omega)) (fun x y=>by simp at y),h.un.keep (I mu (by omega) l6) fun x y=>I x (h.ous x y).2 (by have:=(h.ous x y).1; omega),hp,h.dFR,h.dF,h.dR,h.bfs,h.lo,
  fun x y=>⟨(h.ous x y).1,κ (h.ous x y).2 hg.size⟩,τ hs hg.size⟩
theorem D.lT.under (h:lT B sb mu mp Af nf cf Lf fs bf Ar nr cr Lr rn Lp G ou w) {J:World} {G':WK→List Nat} {I:List Nat} (a0:w.heap.size≤J.heap.size) (U:∀ x,x < w.heap.size→x ≠ mu→x ∉ ou→J.heap[x]? = w.heap[x]?) (hu:uX B mu G' I J) (ho:∀ x ∈ I,x ∈ ou∨(w.heap.size≤x∧x < J.heap.size)):
  lT B sb mu mp Af nf cf Lf fs bf Ar nr cr Lr rn Lp G' I J:=by
 obtain ⟨l1,l2,l3,l4,l5,l6⟩:=h.lo;have hs:=h.qH;have oF:∀ x,(Value.slice Af nf cf).ownBlock=some x→B≤x∧x < w.heap.size:=fun x y=>bZ h.cF.own y
 have oR:∀ x,(Value.slice Ar nr cr).ownBlock=some x→B≤x∧x < w.heap.size:=fun x y=>bZ h.cR.own y
 have low:∀ x,x < B→x ∉ ou:=fun x y e=>by have:=(h.ous x e).1; omega
 refine ⟨(U sb (by omega) l4 (low sb l1)).trans h.blk,h.ef,h.er,h.cF.nV au (fun x y=>U x (oF x y).2 (by have:=(oF x y).1; omega) (fun e=>h.dF x e y)) (fun x y=>U x (h.cF.row.lt au x y) (h.bfs x y).2.1 (h.bfs x y).2.2.2.1),
  h.cR.nV jh (fun x y=>U x (oR x y).2 (by have:=(oR x y).1; omega) (fun e=>h.dR x e y)) (fun x y=>by simp at y),hu,h.pl.same (U mp (by omega) l6.symm (low mp l3)),h.dFR,fun x y e=>?_,fun x y e=>?_,fun x y=>?_,h.lo,fun x y=>?_,by omega⟩
 ·rcases ho x y with g | g
  ·exact h.dF x g e
  ·have:=(oF x e).2; omega
 ·rcases ho x y with g | g
  ·exact h.dR x g e
  ·have:=(oR x e).2; omega
 ·obtain ⟨g1,g2,g3,g4,g5⟩:=h.bfs x y
  refine ⟨g1,g2,g3,fun e=>?_,g5⟩
  rcases ho x e with g | g
  ·exact g4 g
  ·have:=h.cF.row.lt au x y; omega
 ·rcases ho x y with g | g
  ·have:=h.ous x g; omega
  ·omega
end
end
section
open Go.RowKit D
attribute [local go_sem ↓] Go.wp_at_zero Go.wp_at_succ
theorem Bc (sb:Nat) (fs:List A) (rn:List Nat) (bs:List Nat) (a:A) (c0 c1:Value) (ba:List Nat) (w:World) (h:kW sb fs rn bs w) (ha:aK w [c0,c1] a ba) (hok:bU a=true):
  Calls Tryz.prog 193 #[.pointer (some ⟨sb,0,none⟩),.agg #[c0,c1]] w fun e w'=>e=.returned (.bool (decide (fF a ∈ fs.map fF)))∧Below w.heap.size w w':=by
 obtain ⟨J,U,rfl,rfl⟩:=bY ha;have hA:Below w.heap.size w (w.alloc (.cells #[.string a.name,.slice J a.args.length U] 33)).drew:=(ζ).drew;have y:Ko a≤16777216:=by have:=JE hok; omega
 have hT:=η (rQ a (.string a.name) (.slice J a.args.length U) ba _ (au.below ha hA) y);obtain ⟨⟨Af,cf,Ar,cr,mu,mp,bf,br,Lu,Lp,h1,h2,h3,h4,h5,h6,h7,h8,h9,a1,a2,a3⟩,ho,hl⟩:=h;have a4:=hl _ ho;have H5:=η h5;have H7:=η (ι h7 h8);have HA:=η hA;have HM:=η (hl _ a1);have HS:=η (sG hok);have y0:(w.alloc (.cells #[.string a.name,.slice J a.args.length U] 33)).cell? ⟨sb,3,none⟩=some (.map (some mp)):=(World.cell?_alloc_lt _ _ _ a4).trans (ai h1);have y1:(w.alloc (.cells #[.string a.name,.slice J a.args.length U] 33)).cell? ⟨w.heap.size,0,none⟩=some (.string a.name):=by go_simp
 have y2:(w.alloc (.cells #[.string a.name,.slice J a.args.length U] 33)).cell? ⟨w.heap.size,1,none⟩=some (.slice J a.args.length U):=by go_simp
 have a7:sb < (w.alloc (.cells #[.string a.name,.slice J a.args.length U] 33)).heap.size:=by simp; omega
 clear h1 h2 h3 h4 h5 h6 h7 h8 h9 a1 a2 a3 ho hl hA ha hok y;generalize hr:decide (fF a ∈ fs.map fF)=r at *;have HR:=η hr;clear hr
 go_enter Tryz.func193,Tryz.ntmps193
 go_wp2;generalize w.alloc (.cells #[.string a.name,.slice J a.args.length U] 33)=W at *
 go_region_law
  (first
   | (go_simp; go_at_call 61; refine hT.out.mono ?_; rintro e w2 ⟨rfl,I⟩; have a5:=η I; replace y0:=ξ ((Below.refl W.heap.size W).drew.trans I) y0; obtain ⟨vi,a0⟩:=MS (H5.out.below (HA.out.trans (I.mono HA.out.size)) HM.out) H7.out.1 H7.out.2 (fF a) HS.out; rw [HR.out] at a0; unfold fF at a0; clear I))
 all_goals
  have a6:=η (HA.out.trans (a5.out.mono HA.out.size));clear y0 y1 y2 a0;go_wp2;go_ret;exact ⟨rfl,a6.out⟩
theorem D.SL {p f:A} {b:Bd} (h:(aF p f b).2=true):(⟨p.name,p.args.length,-1,⟨#[]⟩⟩:WK) ∈ keysOf f:=by
 unfold aF at h
 split at h
 ·rename_i e
  rw [e.1,e.2];exact Γ
 ·cases h
theorem D.Yv {p f:A} {b:Bd} (hf:Gr f) (h:(aF p f b).2=true) {i:Nat} (J:i < p.args.length) (y:(dU b p.args[i]).name ≠ ⟨#[]⟩):(⟨p.name,p.args.length,i,(dU b p.args[i]).name⟩:WK) ∈ keysOf f:=by
 obtain ⟨h1,U⟩:=nT hf h;have I:=oV p f b;generalize (aF p f b).1=b' at *;subst U
 have e:(dU b p.args[i]).name=((dD p b').args[i]'(by simp [dD]; exact J)).name:=by
  simp only [dD,List.getElem_map];unfold dU at *;cases hv:p.args[i].var
  ·rfl
  ·simp only [hv,if_true] at y ⊢
   cases hg:gJ b p.args[i].name with
   | none=>unfold jC at y; rw [hg] at y; exact absurd rfl y
   | some v=>unfold jC; rw [hg,I _ _ hg]
 rw [e];have:=SB (a:=dD p b') (i:=i) (by simp [dD]; exact J);simpa [dD] using this
theorem F5 (vars:List ByteArray) (hv:kC vars) (b:Bd) (sb:Nat) (fs:List A) (rn:List Nat) (bs:List Nat) (a:A) (Ae:Option Addr) (ce:Nat) (b1:List Nat) (blk o:Nat) (w:World) (h:kW sb fs rn bs w) (hb:iR vars b blk o w)
  (ha:kV vars w [.slice Ae a.args.length ce] a.args b1) (hin:∀ t ∈ a.args,t.var=true→t.name ∈ vars) (bh:a.args.length≤1000000) (af:fs.length≤1000000):
  Calls Tryz.prog 272 #[.pointer (some ⟨sb,0,none⟩),.agg #[.string a.name,.slice Ae a.args.length ce],.pointer (some ⟨blk,o,none⟩)] w fun e w'=>
   ∃ A9 c9 k bx,e=.returned (.slice A9 (idxs fs k).length c9)∧jS w' [.slice A9 (idxs fs k).length c9] (idxs fs k) bx∧(∀ x ∈ bx,x ∈ bs)∧(∀ f,Gr f→(aF a f b).2=true→k ∈ keysOf f)∧Below w.heap.size w w':=by
 obtain ⟨an,args⟩:=a;dsimp only at *;obtain ⟨⟨Af,cf,Ar,cr,mu,mp,bf,br,Lu,Lp,h1,h2,h3,h4,h5,h6,h7,h8,h9,aE,aL,aM⟩,ho,hl⟩:=h;have hA:Below w.heap.size w ((w.alloc (.cells #[.string an,.slice Ae args.length ce] 168)).alloc (.cells #[.string an,.int .i64 args.length,.int .i64 (-1),.string ⟨#[]⟩] 236)):=(ζ).alloc (by simp) _;have ag:=hb.lt;have aR:=hl _ ho
 have am:((w.alloc (.cells #[.string an,.slice Ae args.length ce] 168)).alloc (.cells #[.string an,.int .i64 args.length,.int .i64 (-1),.string ⟨#[]⟩] 236)).heap[w.heap.size+1]? = some (.cells #[.string an,.int .i64 args.length,.int .i64 (-1),.string ⟨#[]⟩] 236 (0,0)):=by
  have:=ω (w.alloc (.cells #[.string an,.slice Ae args.length ce] 168)) (.cells #[.string an,.int .i64 args.length,.int .i64 (-1),.string ⟨#[]⟩] 236);simpa using this
 have bi:((w.alloc (.cells #[.string an,.slice Ae args.length ce] 168)).alloc (.cells #[.string an,.int .i64 args.length,.int .i64 (-1),.string ⟨#[]⟩] 236)).drew.cell? ⟨w.heap.size,1,none⟩=some (.slice Ae args.length ce):=by go_simp
 have HX:=η (ι ha hin);have HB:=η hb;have HA:=η hA;have HQ:=η am;have HS:=η (ι h1 aR);have y0:=ξ hA (show w.cell? ⟨sb,2,none⟩=some (.map (some mu)) from ai h1);have a4:SE mu fs bs w:=⟨⟨Lu,h4,h6⟩,h9,hl⟩;have HU:=η a4;have ao:=η hl;obtain ⟨A0,c0,b2,aq,ar,aa⟩:=(a4.below (hA.trans ϑ.drew) hl).look ⟨an,args.length,-1,⟨#[]⟩⟩;dsimp only at aq;clear a4;have a7:=η (ι ar (ι aa (fun f (_:Gr f) hm=>SL (p:=⟨an,args⟩) (f:=f) (b:=b) hm)));clear hA hb ha hin h1 h2 h3 h4 h5 h6 h7 h8 h9 aE aL aM ho hl am ar aa
 go_enter Tryz.func272,Tryz.ntmps272
 go_wp2;generalize ((w.alloc (.cells #[.string an,.slice Ae args.length ce] 168)).alloc (.cells #[.string an,.int .i64 args.length,.int .i64 (-1),.string ⟨#[]⟩] 236))=W at *;have x0:W.cell? ⟨w.heap.size+1,0,none⟩=some (.string an):=ai HQ.out;have x1:W.cell? ⟨w.heap.size+1,1,none⟩=some (.int .i64 args.length):=ai HQ.out;have x2:W.cell? ⟨w.heap.size+1,2,none⟩=some (.int .i64 (-1)):=ai HQ.out;have x3:W.cell? ⟨w.heap.size+1,3,none⟩=some (.string ⟨#[]⟩):=ai HQ.out;go_region
 have av:Hid (∃ (key:WK) (bx:List Nat) (z:Int) (s:ByteArray),key=⟨an,args.length,-1,⟨#[]⟩⟩∧jS W.drew [.slice A0 (idxs fs ⟨an,args.length,-1,⟨#[]⟩⟩).length c0] (idxs fs ⟨an,args.length,-1,⟨#[]⟩⟩) bx∧(∀ x ∈ bx,x ∈ bs)∧(∀ f,Gr f→(aF ⟨an,args⟩ f b).2=true→(⟨an,args.length,-1,⟨#[]⟩⟩:WK) ∈ keysOf f)∧Below w.heap.size w W.drew∧W.drew.heap[w.heap.size+1]? = some (.cells #[.string an,.int .i64 args.length,.int .i64 z,.string s] 236 (0,0))):=
  η ⟨_,b2,-1,⟨#[]⟩,rfl,a7.out.1,a7.out.2.1,a7.out.2.2,HA.out.drew,HQ.out⟩
 clear a7 HA HQ aq x0 x1 x2 x3 y0;generalize W.drew=W1 at *;go_wp2
 go_loopw [8,28] (fun best i wr=>∃ (k:Nat) (A9:Option Addr) (c9:Nat) (key:WK) (bx:List Nat) (z:Int) (s:ByteArray),k≤args.length∧i=.int .i64 k∧best=.slice A9 (idxs fs key).length c9∧jS wr [.slice A9 (idxs fs key).length c9] (idxs fs key) bx∧(∀ x ∈ bx,x ∈ bs)∧(∀ f,Gr f→(aF ⟨an,args⟩ f b).2=true→key ∈ keysOf f)∧Below w.heap.size w wr∧wr.heap[w.heap.size+1]? = some (.cells #[.string an,.int .i64 args.length,.int .i64 z,.string s] 236 (0,0))) (fun _ i _=>args.length - (intOf i).toNat)
 case atStart=>
  obtain ⟨key,bx,z,s,rfl,h⟩:=av.out;exact ⟨0,A0,c0,_,bx,z,s,ε,rfl,rfl,h⟩
 case round=>
  obtain ⟨k,A9,c9,key,bx,z,s,hk,rfl,rfl,hi,hin,a1,y,hq⟩:=hrel;clear av;by_cases a5:k < args.length
  ·obtain ⟨bq,oq,rfl,_,f0,f1,b3⟩:=yQ ((dK vars).below HX.out.1 y) a5
   have bj:(0:Int)≤(k:Int):=by omega
   have b4:(k:Int) < (args.length:Int):=by omega
   have ac:Below wr.heap.size wr (wr.alloc (.cells #[.int .i64 (kK vars args[k]),.string (kL args[k])] 244)):=ζ;have a6:=xU vars hv b args[k] (HX.out.2 _ (δ a5)) blk o _ (HB.out.keep ((y.trans (ac.mono y.size)).block _ ag));have a3:=η a5;have b5:Hid (∀ f,Gr f→(aF ⟨an,args⟩ f b).2=true→(dU b args[k]).name ≠ ⟨#[]⟩→(⟨an,args.length,k,(dU b args[k]).name⟩:WK) ∈ keysOf f):=η fun f hf hm hw=>Yv (p:=⟨an,args⟩) hf hm a5 hw
   have HI:=η (ι hi (ι hin (ι a1 (ι y hq))));have ae:=η ac;have bk:(idxs fs key).length≤1000000:=τ (nY _ _) af;clear hi a1 hin y hq ac b3 hk;generalize kK vars args[k]=sn at *;generalize kL args[k]=ss at *;generalize args[k]=t at *;clear a5
   go_wp2_with fail
   refine a6.mono ?_;rintro e w2 ⟨rfl,aw⟩;have a2:=ae.out.trans (aw.mono ae.out.size);have a0:w2.heap[w.heap.size+1]? = some (.cells #[.string an,.int .i64 args.length,.int .i64 z,.string s] 236 (0,0)):=(a2.block _ (ψ HI.out.2.2.2.2)).trans HI.out.2.2.2.2;have I:=HI.out.2.2.2.1.trans (a2.mono HI.out.2.2.2.1.size);have a8:=dW.below HI.out.1 a2;have a9:=η (ι a8 (ι HI.out.2.1 (ι HI.out.2.2.1 (ι I a0))));clear HI a6 aw a2 ae;by_cases hw:(dU b t).name=⟨#[]⟩
   ·have hw':=zq
    rw [hw];clear a0 I a8;go_wp2;go_roundw
    case rel=>exact ⟨k+1,A9,c9,key,bx,z,s,a3.out,by go_num,rfl,a9.out⟩
    case measure=>have:=a3.out; simp [intOf]; omega
   ·have hw':=zo hw
    have x2:w2.cell? ⟨w.heap.size+1,2,none⟩=some (.int .i64 z):=ai a0;have x3:w2.cell? ⟨w.heap.size+1,3,none⟩=some (.string s):=ai a0;have x4:=fun q=>ax a0 (o:=q)
    have HW:=η hw;have U:=dw (o:=3) (u:=.string (dU b t).name) (dw (o:=2) (u:=.int .i64 k) a0);have J:Below w.heap.size w ((w2.setCell ⟨w.heap.size+1,2,none⟩ (.int .i64 k)).setCell ⟨w.heap.size+1,3,none⟩ (.string (dU b t).name)).drew:=((I.setCell (p:=⟨w.heap.size+1,2,none⟩) (Nat.le_succ _) _).setCell (p:=⟨w.heap.size+1,3,none⟩) (Nat.le_succ _) _).drew;obtain ⟨A8,c8,b6,b7,az,ab⟩:=(HU.out.below J ao.out).look ⟨an,args.length,k,(dU b t).name⟩;have bg:(idxs fs ⟨an,args.length,k,(dU b t).name⟩).length≤1000000:=τ (nY _ _) af;dsimp only at b7;simp at U
    have aD:jS ((w2.setCell ⟨w.heap.size+1,2,none⟩ (.int .i64 k)).setCell ⟨w.heap.size+1,3,none⟩ (.string (dU b t).name)).drew [.slice A9 (idxs fs key).length c9] (idxs fs key) bx:=dW.keep a8 fun x hx=>by
     have:=ao.out _ (a9.out.2.1 x hx);show (World.setCell _ _ _).heap[_]? = _;rw [π _ _ _ _ (by show x ≠ w.heap.size+1; omega),π _ _ _ _ (by show x ≠ w.heap.size+1; omega)]
    have b8:=η (ι aD (ι a9.out.2.1 (ι a9.out.2.2.1 (ι J U))));have b9:=η (ι az (ι ab (ι (fun f hf hm=>b5.out f hf hm HW.out) (ι J U))))
    have y2:((w2.setCell ⟨w.heap.size+1,2,none⟩ (.int .i64 k)).setCell ⟨w.heap.size+1,3,none⟩ (.string (dU b t).name)).cell? ⟨sb,2,none⟩=some (.map (some mu)):=by
     rw [World.cell?_setCell_far _ _ _ _ (by show w.heap.size+1 ≠ sb; omega),World.cell?_setCell_far _ _ _ _ (by show w.heap.size+1 ≠ sb; omega)];exact ξ I (ai HS.out.1)
    have z0:((w2.setCell ⟨w.heap.size+1,2,none⟩ (.int .i64 k)).setCell ⟨w.heap.size+1,3,none⟩ (.string (dU b t).name)).cell? ⟨w.heap.size+1,0,none⟩=some (.string an):=ai U;have z1:((w2.setCell ⟨w.heap.size+1,2,none⟩ (.int .i64 k)).setCell ⟨w.heap.size+1,3,none⟩ (.string (dU b t).name)).cell? ⟨w.heap.size+1,1,none⟩=some (.int .i64 args.length):=ai U;have z2:((w2.setCell ⟨w.heap.size+1,2,none⟩ (.int .i64 k)).setCell ⟨w.heap.size+1,3,none⟩ (.string (dU b t).name)).cell? ⟨w.heap.size+1,2,none⟩=some (.int .i64 k):=ai U;have z3:((w2.setCell ⟨w.heap.size+1,2,none⟩ (.int .i64 k)).setCell ⟨w.heap.size+1,3,none⟩ (.string (dU b t).name)).cell? ⟨w.heap.size+1,3,none⟩=some (.string (dU b t).name):=ai U;clear a0 I a8 U J aD az ab;go_wp2;generalize ((w2.setCell ⟨w.heap.size+1,2,none⟩ (.int .i64 k)).setCell ⟨w.heap.size+1,3,none⟩ (.string (dU b t).name))=W3 at *;go_region;by_cases hc:(idxs fs ⟨an,args.length,k,(dU b t).name⟩).length < (idxs fs key).length
    ·have bc:((idxs fs ⟨an,args.length,k,(dU b t).name⟩).length:Int) < ((idxs fs key).length:Int):=by omega
     go_wp2;go_roundw
     case rel=>exact ⟨k+1,A8,c8,_,b6,_,_,a3.out,by go_num,rfl,b9.out⟩
     case measure=>have:=a3.out; simp [intOf]; omega
    ·have bc:¬ ((idxs fs ⟨an,args.length,k,(dU b t).name⟩).length:Int) < ((idxs fs key).length:Int):=by omega
     go_wp2;go_roundw
     case rel=>exact ⟨k+1,A9,c9,key,bx,_,_,a3.out,by go_num,rfl,b8.out⟩
     case measure=>have:=a3.out; simp [intOf]; omega
  ·have he:k=args.length:=by omega
   have b4:¬ (k:Int) < (args.length:Int):=by omega
   have HP:=η (ι hi (ι hin (ι a1 y)));clear hi hin a1 y hq;go_wp2;go_ret;exact ⟨A9,c9,key,rfl,bx,HP.out⟩
theorem D.SN (cs:Array Value) (k:Nat) (v:Bool) (J:k < 12) (h:cs[k]? = some (.bool v)) (w:World):(Instr.index 171 (.agg cs) (.int .i64 k)).run Tryz.prog w=.ok (.bool v) w:=by
 have h1:(Tryz.prog.info? 4).map (fun i=>i.size)=some 1:=by kernel_rfl
 obtain ⟨U,y,I⟩:=Option.map_eq_some_iff.1 h1;simp [Instr.index,asIntOf,run_underlying Tryz.underlying171,run_underlying Tryz.underlying4,sizeOf,typeInfo,y,I,part,isAgg,h,J,Result.andThen]
theorem uY (vars:List ByteArray) (b:Bd) (sk sb:Nat) (v1 v2:Value) (wt:Nat→Bool) (io:Bool) (ah:Int) (tell:Value) (w:World) (h:mJ sk sb v1 v2 wt io ah tell w) (hb:iR vars b sk 18 w):
  Calls Tryz.prog 229 #[.pointer (some ⟨sk,0,none⟩)] w fun e w'=>e=.returned (.bool (setB vars b wt))∧Below w.heap.size w w':=by
 have w0:=h.wd 0 (by omega);have w1:=h.wd 1 (by omega);have w2:=h.wd 2 (by omega);have w3:=h.wd 3 (by omega);have w4:=h.wd 4 (by omega);have w5:=h.wd 5 (by omega);have w6:=h.wd 6 (by omega);have w7:=h.wd 7 (by omega);have w8:=h.wd 8 (by omega);have w9:=h.wd 9 (by omega);have a1:=h.wd 10 (by omega);have a2:=h.wd 11 (by omega);simp only [Nat.add_zero,Nat.reduceAdd] at w0 w1 w2 w3 w4 w5 w6 w7 w8 w9 a1 a2;have HB:=η hb;clear h hb
 go_enter Tryz.func229,Tryz.ntmps229
 go_wp2
 have U:∀ i,i < 12→(#[.bool (wt 0),.bool (wt 1),.bool (wt 2),.bool (wt 3),.bool (wt 4),.bool (wt 5),.bool (wt 6),.bool (wt 7),.bool (wt 8),.bool (wt 9),.bool (wt 10),.bool (wt 11)]:Array Value)[i]? = some (.bool (wt i)):=by
  intro i hi;have:i=0∨i=1∨i=2∨i=3∨i=4∨i=5∨i=6∨i=7∨i=8∨i=9∨i=10∨i=11:=by omega
  rcases this with rfl | rfl | rfl | rfl | rfl | rfl | rfl | rfl | rfl | rfl | rfl | rfl <;> rfl
 have a3:=η U;clear U w0 w1 w2 w3 w4 w5 w6 w7 w8 w9 a1 a2;generalize (#[.bool (wt 0),.bool (wt 1),.bool (wt 2),.bool (wt 3),.bool (wt 4),.bool (wt 5),.bool (wt 6),.bool (wt 7),.bool (wt 8),.bool (wt 9),.bool (wt 10),.bool (wt 11)]:Array Value)=cs at *
 go_loopw [9] (fun i wr=>∃ (k:Nat),k≤12∧i=.int .i64 k∧(∀ j,j < k→wt j=true→JV vars b j ≠ ⟨#[]⟩)∧wr=w) (fun i _=>12 - (intOf i).toNat)
 case atStart=>exact ⟨0,ε,rfl,fun j hj=>by omega,rfl⟩
 case round=>
  obtain ⟨k,hk,rfl,y,rfl⟩:=hrel;by_cases I:k < 12
  ·have a5:(0:Int)≤(k:Int):=by omega
   have a6:(k:Int) < 12:=by omega
   have hc:=SN cs k (wt k) I (a3.out k I) wr;have y0:=HB.out.wd k I;have J:=η I;have a0:=η y;clear y hk I;cases hwk:wt k
   ·rw [hwk] at hc
    have HK:Hid (∀ j,j < k+1→wt j=true→JV vars b j ≠ ⟨#[]⟩):=η fun j hj hw=>by
     rcases Nat.lt_succ_iff_lt_or_eq.1 hj with h | rfl
     ·exact a0.out j h hw
     ·rw [hwk] at hw; cases hw
    go_wp2;go_roundw
    case rel=>exact ⟨k+1,J.out,by go_num,HK.out,by trivial⟩
    case measure=>have:=J.out; simp [intOf]; omega
   ·rw [hwk] at hc
    by_cases hw:JV vars b k=⟨#[]⟩
    ·have hw':=zq
     rw [hw] at y0
     have HF:Hid (setB vars b wt=false):=η (by
      cases h:setB vars b wt
      ·rfl
      ·exact absurd hw (FQ.1 h k J.out hwk))
     go_wp2;go_ret;rw [HF.out];exact ⟨rfl,ϑ⟩
    ·have hw':=zo hw
     have HK:Hid (∀ j,j < k+1→wt j=true→JV vars b j ≠ ⟨#[]⟩):=η fun j hj a4=>by
      rcases Nat.lt_succ_iff_lt_or_eq.1 hj with h | rfl
      ·exact a0.out j h a4
      ·exact hw
     go_wp2;go_roundw
     case rel=>exact ⟨k+1,J.out,by go_num,HK.out,by trivial⟩
     case measure=>have:=J.out; simp [intOf]; omega
  ·have he:k=12:=by omega
   subst he;have HF:Hid (setB vars b wt=true):=η (FQ.2 y);go_wp2;go_ret;rw [HF.out];exact ⟨rfl,ϑ⟩
def D.gW (vars:List ByteArray) (y:List T) (i:Nat):Bool:=y.any fun t=>t.var && vars.idxOf t.name == i
theorem D.Py (vars:List ByteArray) (y:List T) (k i:Nat) (h:k < y.length):gW vars (y.take (k+1)) i=(gW vars (y.take k) i || (y[k].var && vars.idxOf y[k].name == i)):=by
 unfold gW;rw [ρ h,List.any_append];simp
structure D.iZ (sk:Nat) (w w':World):Prop where
 grow:w.grownBy w' (some sk)
 rest:∀ q,(q < 4∨16≤q)→w'.cell? ⟨sk,q,none⟩=w.cell? ⟨sk,q,none⟩
 frz:∀ q,w'.frozen? ⟨sk,q,none⟩=w.frozen? ⟨sk,q,none⟩
theorem D.iZ.trans {sk:Nat} {w w' I:World} (h:iZ sk w w') (k:iZ sk w' I):iZ sk w I:=
 ⟨⟨k.grow.os.trans h.grow.os,k.grow.tape.trans h.grow.tape,k.grow.output.trans h.grow.output,τ h.grow.size k.grow.size,fun i J y=>(k.grow.block i (κ J h.grow.size) y).trans (h.grow.block i J y)⟩,
  fun q hq=>(k.rest q hq).trans (h.rest q hq),fun q=>(k.frz q).trans (h.frz q)⟩
theorem D.iZ.of_below {sk:Nat} {w w':World} (h:Below w.heap.size w w') (hb:sk < w.heap.size):iZ sk w w':=
 ⟨⟨h.os,h.tape,h.output,h.size,fun i y _=>h.block i y⟩,fun q _=>World.cell?_of_block (h.block _ hb),fun q=>World.frozen?_of_block (h.block _ hb)⟩
theorem D.iZ.put {sk:Nat} (w:World) (i:Nat) (I:i < 12) (v:Value):iZ sk w (w.setCell ⟨sk,4+i,none⟩ v):=
 ⟨⟨rfl,rfl,rfl,by simp [World.setCell],fun k _ y=>π _ _ _ _ (fun e=>y (by rw [e]))⟩,
  fun q hq=>World.cell?_setCell_other _ _ _ _ (fun e=>by injection e with _ e2 _; omega),fun q=>World.frozen?_setCell _ _ _ _⟩
theorem D.iR.wt {vars:List ByteArray} {b:Bd} {sk:Nat} {w w':World} (h:iR vars b sk 18 w) (k:iZ sk w w'):iR vars b sk 18 w':=
 ⟨fun i y=>(k.rest _ (by omega)).trans (h.wd i y),fun i y=>by obtain ⟨z,h1,I⟩:=h.bd i y; exact ⟨z,(k.rest _ (by omega)).trans h1,I⟩,(k.rest _ (by omega)).trans h.ct,fun i y=>(k.frz _).trans (h.fz i y)⟩
theorem D.mJ.put {sk sb:Nat} {I J:Value} {wt:Nat→Bool} {io:Bool} {ah:Int} {tell:Value} {w:World} (h:mJ sk sb I J wt io ah tell w) (j:Nat) (U:j < 12) (y:Nat→Bool) (hw:∀ i,i < 12→y i=(wt i || j == i)):
  mJ sk sb I J y io ah tell (w.setCell ⟨sk,4+j,none⟩ (.bool true)):=by
 have k:=iZ.put (sk:=sk) w j U (.bool true);have c:=D.kM w sk (4+j) (.bool true) (h.wd j U);refine ⟨(k.rest _ (by omega)).trans h.st,(k.rest _ (by omega)).trans h.p1,(k.rest _ (by omega)).trans h.p2,fun i hi=>?_,(k.rest _ (by omega)).trans h.io,(k.rest _ (by omega)).trans h.ah,(k.rest _ (by omega)).trans h.tl⟩;rw [c,hw i hi];by_cases e:i=j
 ·subst e; simp
 ·rw [if_neg (by omega),h.wd i hi]
  have:(j == i)=false:=beq_eq_false_iff_ne.2 (fun e2=>e e2.symm);rw [this,Bool.or_false]
theorem Ns (vars : List ByteArray) (hv : kC vars) (a : A) (Ae : Option Addr) (ce : Nat) (b1 : List Nat) (sk sb : Nat) (v1 v2 : Value) (wt : Nat → Bool) (io : Bool) (ah : Int) (tell : Value) (w : World) (h : mJ sk sb v1 v2 wt io ah tell w)
    (hf : ∀ q, w.frozen? ⟨sk, q, none⟩ = false) (ha : kV vars w [.slice Ae a.args.length ce] a.args b1) (hin : ∀ t ∈ a.args, t.var = true → t.name ∈ vars) (h1 : sk ∉ b1) (am : a.args.length ≤ 1000000) :
    Calls Tryz.prog 115 #[.pointer (some ⟨sk, 0, none⟩), .agg #[.string a.name, .slice Ae a.args.length ce]] w fun e w' => e = .returned (.tuple #[]) ∧ mJ sk sb v1 v2 (fun i => wt i || gW vars a.args i) io ah tell w' ∧ iZ sk w w' := by
  obtain ⟨an, args⟩ := a;dsimp only at *;have a5 := h.lt;have hA : Below w.heap.size w (w.alloc (.cells #[.string an, .slice Ae args.length ce] 168)) := (Below.refl _ _).alloc (Nat.le_refl _) _
  have a6 : Hid (mJ sk sb v1 v2 (fun i => wt i || gW vars (args.take 0) i) io ah tell (w.alloc (.cells #[.string an, .slice Ae args.length ce] 168)) ∧ iZ sk w (w.alloc (.cells #[.string an, .slice Ae args.length ce] 168))) :=
    Lib.hid ⟨by have e : (fun i => wt i || gW vars (args.take 0) i) = wt := funext fun i => by simp [gW]
                rw [e]; exact h.keep (hA.block _ a5), iZ.of_below hA a5⟩
  have HX := Lib.hid (And.intro ha (And.intro hin hf));clear h ha hin hf hA
  go_enter Tryz.func115, Tryz.ntmps115
  go_wp2;generalize w.alloc (.cells #[.string an, .slice Ae args.length ce] 168) = W at *
  go_loopw [9] (fun i wr => ∃ (k : Nat), k ≤ args.length ∧ i = .int .i64 k ∧ mJ sk sb v1 v2 (fun i => wt i || gW vars (args.take k) i) io ah tell wr ∧ iZ sk w wr) (fun i _ => args.length - (intOf i).toNat)
  case atStart => exact ⟨0, Nat.zero_le _, rfl, a6.out⟩
  case round =>
    obtain ⟨k, hk, rfl, hI, hK⟩ := hrel;clear a6;by_cases y : k < args.length
    · have ao := hK.grow.size
      have a7 : kV vars wr [.slice Ae args.length ce] args b1 := (dK vars).keep HX.out.1 fun b hb => hK.grow.block b ((dK vars).lt HX.out.1 b hb) (fun e => h1 (by injection e with e; rw [← e]; exact hb))
      obtain ⟨bq, oq, rfl, _, f0, f1, aa⟩ := yQ a7 y;have aq : (0 : Int) ≤ (k : Int) := by omega
      have ab : (k : Int) < (args.length : Int) := by omega
      have a8 := Lib.hid (HX.out.2.1 _ (List.getElem_mem y));have a2 : Hid (∀ i, gW vars (args.take (k + 1)) i = (gW vars (args.take k) i || (args[k].var && vars.idxOf args[k].name == i))) := Lib.hid fun i => Py vars args k i y
      have a3 : Below wr.heap.size wr (wr.alloc (.cells #[.int .i64 (kK vars args[k]), .string (kL args[k])] 244)) := (Below.refl _ _).alloc (Nat.le_refl _) _;have a1 : sk < wr.heap.size := by omega
      have I := hI.keep (a3.block _ a1);have J := Lib.hid (hK.trans (iZ.of_below a3 a1));have U := Lib.hid y;have ar : (wr.alloc (.cells #[.int .i64 (kK vars args[k]), .string (kL args[k])] 244)).cell? ⟨wr.heap.size, 0, none⟩ = some (.int .i64 (kK vars args[k])) := by go_simp
      clear hI hK a3 aa hk a7;generalize hsn : kK vars args[k] = sn at *;generalize kL args[k] = ss at *;generalize args[k] = t at *;clear y;have a4 := Lib.hid hsn;have av : Hid (sk ≠ wr.heap.size) := Lib.hid (by omega);clear hsn;cases htv : t.var
      · have hs : sn = -1 := by rw [← a4.out]; unfold kK; simp [htv]
        subst hs
        have a0 : Hid (mJ sk sb v1 v2 (fun i => wt i || gW vars (args.take (k + 1)) i) io ah tell (wr.alloc (.cells #[.int .i64 (-1), .string ss] 244))) := Lib.hid (by
          have e : (fun i => wt i || gW vars (args.take (k + 1)) i) = fun i => wt i || gW vars (args.take k) i := funext fun i => by rw [a2.out]; simp [htv]
          rw [e]; exact I)
        clear I;go_wp2;go_roundw
        case rel => exact ⟨k + 1, U.out, by go_num, a0.out, J.out⟩
        case measure => have := U.out; simp [intOf]; omega
      · have hn := a8.out htv
        have hi := List.idxOf_lt_length_of_mem hn;have ag := hv.few;have hs : sn = ((vars.idxOf t.name : Nat) : Int) := by rw [← a4.out]; unfold kK; simp [htv]
        subst hs;have hj : vars.idxOf t.name < 12 := by omega
        have a9 : ∀ i, i < 12 → (wt i || gW vars (args.take (k + 1)) i) = ((wt i || gW vars (args.take k) i) || vars.idxOf t.name == i) := fun i _ => by rw [a2.out]; simp [htv, Bool.or_assoc]
        clear htv a4 hn hi a8 a2;generalize vars.idxOf t.name = j at *;have y0 := I.wd j hj;have y1 : (wr.alloc (.cells #[.int .i64 (j : Nat), .string ss] 244)).frozen? ⟨sk, 4 + j, none⟩ = false := (J.out.frz _).trans (HX.out.2.2 _);have aw : (0 : Int) ≤ (j : Int) := by omega
        have az : (j : Int) < 12 := by omega
        have a0 := Lib.hid (I.put j hj (fun i => wt i || gW vars (args.take (k + 1)) i) a9);have ac := Lib.hid (J.out.trans (iZ.put _ j hj (.bool true)));clear I J a9;go_wp2;generalize wr.alloc (.cells #[.int .i64 (j : Nat), .string ss] 244) = W1 at *;go_region;have ae : Hid (mJ sk sb v1 v2 (fun i => wt i || gW vars (args.take (k + 1)) i) io ah tell (W1.setCell ⟨sk, 4 + j, none⟩ (.bool true)).drew) := Lib.hid (a0.out.keep rfl);have af : Hid (iZ sk w (W1.setCell ⟨sk, 4 + j, none⟩ (.bool true)).drew) := Lib.hid (ac.out.trans (iZ.of_below ((Below.refl _ _).drew) a0.out.lt));go_wp2;go_roundw
        case rel => exact ⟨k + 1, U.out, by go_num, ae.out, af.out⟩
        case measure => have := U.out; simp [intOf]; omega
    · have he : k = args.length := by omega
      have ab : ¬ (k : Int) < (args.length : Int) := by omega
      rw [List.take_of_length_le (Nat.le_of_eq he.symm)] at hI;have HP := Lib.hid (And.intro hI hK);clear hI hK;go_wp2
      go_end0
      exact ⟨rfl, HP.out⟩
def D.Nu (w:World) (blk o:Nat):Nat:=match w.cell? ⟨blk,o+24,none⟩ with | some (.int _ n)=>n.toNat | _=>0
theorem D.iR.cnt {vars:List ByteArray} {b:Bd} {blk o:Nat} {w:World} (h:iR vars b blk o w):Nu w blk o=b.length:=by unfold Nu; rw [h.ct]; simp
theorem Nv (vars:List ByteArray) (hv:kC vars) (b:Bd) (ac:jZ vars b) (m:Nat) (hm:m≤b.length) (blk o:Nat) (w:World) (hb:iR vars b blk o w):
  Calls Tryz.prog 232 #[.pointer (some ⟨blk,o,none⟩),.int .i64 m] w fun e w'=>e=.returned (.tuple #[])∧kE vars blk o w (b.take m) w':=by
 have a5:=hb.lt;have a6:Hid (kE vars blk o w b w):=η ⟨hb,ac,dN.refl _ _ _⟩;clear hb
 go_enter Tryz.func232,Tryz.ntmps232
 go_wp2
 go_loopw [] (fun wr=>∃ (k:Nat),m≤k∧k≤b.length∧kE vars blk o w (b.take k) wr) (fun wr=>Nu wr blk o)
 case atStart=>exact ⟨b.length,hm,ν,by rw [ϕ ν]; exact a6.out⟩
 case round=>
  obtain ⟨k,ae,af,I⟩:=hrel;clear a6;have U:=I.at_.ct;have a0:(b.take k).length=k:=by simp; omega
  rw [a0] at U;by_cases ag:m < k
  ·obtain ⟨k,rfl⟩:∃ k',k=k'+1:=⟨k - 1,by omega⟩
   have a7:k < b.length:=by omega
   have a1:b.take (k+1)=b.take k ++ [(b[k].1,b[k].2)]:=ρ a7;have hok:=I.ok;rw [a1] at hok;have y:(b.take k).length=k:=by simp; omega
   obtain ⟨J,hn,a8⟩:=hok.init;dsimp only at hn a8;have a2:=I.at_;rw [a1] at a2;have a3:=a2.unbind hv hok;rw [y] at a3;have hi:=List.idxOf_lt_length_of_mem hn;have ar:=hv.few;have hlen:=J.len;rw [y] at hlen;obtain ⟨z,a9,aa⟩:=I.at_.bd k (by have:=hok.len; simp at this; omega)
   have am:z=(vars.idxOf b[k].1:Nat):=by
    rw [aa (by omega)];simp
   subst am;have x0:=I.at_.wd (vars.idxOf b[k].1) (by omega);have x1:=I.at_.fz (vars.idxOf b[k].1) (by omega);have x3:=I.at_.fz 24 (by omega);have a4:=I.at_.cnt;rw [a0] at a4;have HK:=η I.kept;have av:k < 12:=by have:=hok.len; simp at this; omega
   clear I a2 aa hok a1 hn a8;generalize vars.idxOf b[k].1=j at *;have aw:(m:Int) < ((k+1:Nat):Int):=by omega
   have az:(0:Int)≤(k:Int):=by omega
   have ao:(k:Int) < 12:=by omega
   have aD:(0:Int)≤(j:Int):=by omega
   have aE:(j:Int) < 12:=by omega
   have e1:((k+1:Nat):Int) - 1=(k:Int):=by omega
   have p1:=D.kM wr blk (o+24) (.int .i64 (k:Nat)) U;have c1:(wr.setCell ⟨blk,o+24,none⟩ (.int .i64 (k:Nat))).cell? ⟨blk,o+24,none⟩=some (.int .i64 (k:Nat)):=(p1 _).trans (if_pos rfl);have c2:(wr.setCell ⟨blk,o+24,none⟩ (.int .i64 (k:Nat))).cell? ⟨blk,o+12+k,none⟩=some (.int .i64 (j:Nat)):=((p1 _).trans (if_neg (by omega))).trans a9;have c3:(wr.setCell ⟨blk,o+24,none⟩ (.int .i64 (k:Nat))).cell? ⟨blk,o+j,none⟩=_:=((p1 _).trans (if_neg (by omega))).trans x0;have c4:(wr.setCell ⟨blk,o+24,none⟩ (.int .i64 (k:Nat))).frozen? ⟨blk,o+j,none⟩=false:=(World.frozen?_setCell _ _ _ _).trans x1
   have ab:dN blk o w (((wr.setCell ⟨blk,o+24,none⟩ (.int .i64 (k:Nat))).setCell ⟨blk,o+j,none⟩ (.string ⟨#[]⟩)).drew):=by
    have k1:=HK.out.trans (dN.put wr 24 (by omega) (.int .i64 (k:Nat)));have k2:=k1.trans (dN.put _ j (by omega) (.string ⟨#[]⟩));exact k2.trans (dN.of_below (ϑ.drew) (κ a5 k2.grow.size))
   have HP:Hid (kE vars blk o w (b.take k) (((wr.setCell ⟨blk,o+24,none⟩ (.int .i64 (k:Nat))).setCell ⟨blk,o+j,none⟩ (.string ⟨#[]⟩)).drew)):=η ⟨a3.keep rfl,J,ab⟩;have HN:=η (ι ae (ι ag af));have aq:=η a4;have HL:=η y;clear a3 J ab p1 a0 y a4;go_wp2;go_region;have HM:Hid (Nu (((wr.setCell ⟨blk,o+24,none⟩ (.int .i64 (k:Nat))).setCell ⟨blk,o+j,none⟩ (.string ⟨#[]⟩)).drew) blk o < Nu wr blk o):=η (by rw [HP.out.at_.cnt,HL.out,aq.out]; omega);clear c1 c2 c3 c4 x0 x1 x3 U a9;generalize (((wr.setCell ⟨blk,o+24,none⟩ (.int .i64 (k:Nat))).setCell ⟨blk,o+j,none⟩ (.string ⟨#[]⟩)).drew)=S1 at *;go_wp2;go_roundw
   case rel=>exact ⟨k,by have:=HN.out; omega,by have:=HN.out; omega,HP.out⟩
   case measure=>exact HM.out
  ·have he:k=m:=by omega
   subst he;have ao:¬ (k:Int) < (k:Int):=by omega
   have HP:=η I;clear I;go_wp2
   go_end0
   exact ⟨rfl,HP.out⟩
end
end Go.Proofs.YtkjinanbccloeaaGreatDoor
