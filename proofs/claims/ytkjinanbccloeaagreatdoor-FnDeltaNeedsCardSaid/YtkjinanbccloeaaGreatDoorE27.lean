/- Of the proof of FnDeltaNeeds: DrawDl, RunP2, StPI. -/
import Derived.Test.YtkjinanbccloeaaGreatDoorE25
set_option linter.unusedVariables false
set_option maxHeartbeats 4000000
set_option maxRecDepth 100000
namespace Go.Proofs.YtkjinanbccloeaaGreatDoor
section
open Go.RowKit D
attribute [local go_sem ↓] Go.wp_at_zero Go.wp_at_succ
def Y4 (w:World) (e:Ending) (w':World):Prop:=∃ (rs:List Ru) (A0:Option Addr) (c0:Nat) (b0:List Nat) (xs:List A) (A1:Option Addr) (c1:Nat) (b1:List Nat) (c:Ch) (A2 A3:Option Addr) (c2 c3:Nat) (b2 b3:List Nat),
 e=.returned (.tuple #[.slice A0 rs.length c0,.slice A1 xs.length c1,.agg #[.slice A2 c.comes.length c2,.slice A3 c.goes.length c3]])∧dW w' [.slice A0 rs.length c0] rs b0∧aC w' [.slice A1 xs.length c1] xs b1∧aC w' [.slice A2 c.comes.length c2] c.comes b2∧aC w' [.slice A3 c.goes.length c3] c.goes b3∧
  rs.length≤9∧xs.length≤50∧(c.comes.length≤50∧c.goes.length≤50)∧Below w.heap.size w w'
structure QE (g q:Nat) (w:World) (n0 n1:Nat) (rs:List Ru) (A0:Option Addr) (c0:Nat) (b0:List Nat) (xs:List A) (A1:Option Addr) (c1:Nat) (b1:List Nat) (c:Ch) (A2 A3:Option Addr) (c2 c3:Nat) (b2 b3:List Nat) (wr:World):Prop where
 r0:wr.heap[n0]? = some (.cells #[.slice none 0 0,.slice none 0 0] 54 (0,0))
 r1:wr.heap[n1]? = some (.cells #[.slice A2 c.comes.length c2,.slice A3 c.goes.length c3] 54 (0,0))
 rl:dW wr [.slice A0 rs.length c0] rs b0
 at1:aC wr [.slice A1 xs.length c1] xs b1
 at2:aC wr [.slice A2 c.comes.length c2] c.comes b2
 at3:aC wr [.slice A3 c.goes.length c3] c.goes b3
 ap:∀ b ∈ b0,b ≠ n0∧b ≠ n1∧b ≠ g
 rdr:kQ g q wr
 bel:Below w.heap.size w wr
 hn:w.heap.size≤n0∧n0 < n1∧n0 < g∧g < n1
section
variable {g q:Nat} {w:World} {n0 n1:Nat} {rs:List Ru} {A0:Option Addr} {c0:Nat} {b0:List Nat} {xs:List A} {A1:Option Addr} {c1:Nat} {b1:List Nat} {c:Ch} {A2 A3:Option Addr} {c2 c3:Nat} {b2 b3:List Nat} {wr:World}
theorem QE.call {q2:Nat} {w2:World} (h:QE g q w n0 n1 rs A0 c0 b0 xs A1 c1 b1 c A2 A3 c2 c3 b2 b3 wr) (y:kQ g q2 w2) (hK:aI [g] wr w2):QE g q2 w n0 n1 rs A0 c0 b0 xs A1 c1 b1 c A2 A3 c2 c3 b2 b3 w2:=by
 have hn:=h.hn;have I:=dH h.rdr.Gh h.at1;have J:=dH h.rdr.Gh h.at2;have U:=dH h.rdr.Gh h.at3;exact ⟨hK.blk h.r0 (by simp; omega),hK.blk h.r1 (by simp; omega),Good.kept aS h.rl hK (fun b hb=>by simp; exact (h.ap b hb).2.2),Good.kept au h.at1 hK (fun b hb=>by simp; intro e; exact I (e ▸ hb)),Good.kept au h.at2 hK (fun b hb=>by simp; intro e; exact J (e ▸ hb)),Good.kept au h.at3 hK (fun b hb=>by simp; intro e; exact U (e ▸ hb)),h.ap,y,h.bel.trans (hK.below (fun b hb=>by simp at hb; omega) h.bel.size),hn⟩
theorem wu {w:World} {n0:Nat} {o:Nat} {u v:Value} {xs:List Ru} {bs:List Nat} (h:dW w [v] xs bs) (hn:∀ b ∈ bs,b ≠ n0):dW (w.setCell ⟨n0,o,none⟩ u) [v] xs bs:=
 aS.keep h fun b hb=>π _ _ _ _ (hn b hb)
theorem QE.goes {a:A} {y I:Value} {bk:List Nat} (h:QE g q w n0 n1 rs A0 c0 b0 xs A1 c1 b1 c A2 A3 c2 c3 b2 b3 wr) (ha:aJ wr [y,I] a bk):∃ U,QE g q w n0 n1 rs A0 c0 b0 xs A1 c1 b1 ⟨[],[a]⟩ none (some ⟨wr.heap.size,0,none⟩) 0 1 [] U (((wr.alloc (.cells #[y,I] 33)).setCell ⟨n1,0,none⟩ (.slice none 0 0)).setCell ⟨n1,1,none⟩ (.slice (some ⟨wr.heap.size,0,none⟩) 1 1)):=by
 have hn:=h.hn;have J:Below wr.heap.size wr (wr.alloc (.cells #[y,I] 33)):=ζ;obtain ⟨U,h4,_⟩:=(aT.dJ (n:=2) (R:=aJ) eH (ak.below ha J)).slice (World.ownsRow_lit (base:=wr.heap.size) (e:=33) wr #[y,I] 1 ν (by unfold maxLen; omega) rfl);have r0:=(J.block n0 (ψ h.r0)).trans h.r0;have r1:=(J.block n1 (ψ h.r1)).trans h.r1;have s1:=dH (iT r1) (au.below h.at1 J);have s4:=dH (iT r1) h4;have hB:Below w.heap.size (wr.alloc (.cells #[y,I] 33)) (((wr.alloc (.cells #[y,I] 33)).setCell ⟨n1,0,none⟩ (.slice none 0 0)).setCell ⟨n1,1,none⟩ (.slice (some ⟨wr.heap.size,0,none⟩) 1 1)):=(ϑ.setCell (p:=⟨n1,0,none⟩) (by dsimp only; omega) _).setCell (p:=⟨n1,1,none⟩) (by dsimp only; omega) _;have a0:Below (g+1) (wr.alloc (.cells #[y,I] 33)) (((wr.alloc (.cells #[y,I] 33)).setCell ⟨n1,0,none⟩ (.slice none 0 0)).setCell ⟨n1,1,none⟩ (.slice (some ⟨wr.heap.size,0,none⟩) 1 1)):=(ϑ.setCell (p:=⟨n1,0,none⟩) (by dsimp only; omega) _).setCell (p:=⟨n1,1,none⟩) (by dsimp only; omega) _
 exact ⟨U,(π _ _ _ _ (by dsimp only; omega)).trans ((π _ _ _ _ (by dsimp only; omega)).trans r0),vO (qJ r1),wu (wu (aS.below h.rl J) fun b hb=>(h.ap b hb).2.1) fun b hb=>(h.ap b hb).2.1,fH (fH (au.below h.at1 J) s1) s1,dh _,fH (fH h4 s4) s4,h.ap,(h.rdr.below J).eP a0 (Nat.lt_succ_self g),h.bel.trans ((J.mono h.bel.size).trans hB),hn⟩
theorem QE.done (h:QE g q w n0 n1 rs A0 c0 b0 xs A1 c1 b1 c A2 A3 c2 c3 b2 b3 wr) (h1:rs.length≤9) (y:xs.length≤50) (I:c.comes.length≤50∧c.goes.length≤50):
  Y4 w (.returned (.tuple #[.slice A0 rs.length c0,.slice A1 xs.length c1,.agg #[.slice A2 c.comes.length c2,.slice A3 c.goes.length c3]])) ((wr.setCell ⟨n0,0,none⟩ (.slice A2 c.comes.length c2)).setCell ⟨n0,1,none⟩ (.slice A3 c.goes.length c3)):=by
 have hn:=h.hn;have s1:=dH (iT h.r0) h.at1;have s2:=dH (iT h.r0) h.at2;have s3:=dH (iT h.r0) h.at3;exact ⟨rs,A0,c0,b0,xs,A1,c1,b1,c,A2,A3,c2,c3,b2,b3,rfl,wu (wu h.rl fun b hb=>(h.ap b hb).1) fun b hb=>(h.ap b hb).1,fH (fH h.at1 s1) s1,fH (fH h.at2 s2) s2,fH (fH h.at3 s3) s3,h1,y,I,(h.bel.setCell (p:=⟨n0,0,none⟩) (by dsimp only; omega) _).setCell (p:=⟨n0,1,none⟩) (by dsimp only; omega) _⟩
theorem QE.drew (h:QE g q w n0 n1 rs A0 c0 b0 xs A1 c1 b1 c A2 A3 c2 c3 b2 b3 wr):QE g q w n0 n1 rs A0 c0 b0 xs A1 c1 b1 c A2 A3 c2 c3 b2 b3 wr.drew:=
 ⟨h.r0,h.r1,aS.keep h.rl fun _ _=>rfl,au.keep h.at1 fun _ _=>rfl,au.keep h.at2 fun _ _=>rfl,au.keep h.at3 fun _ _=>rfl,h.ap,h.rdr.drew,h.bel.drew,h.hn⟩
theorem QE.cells (h:QE g q w n0 n1 rs A0 c0 b0 xs A1 c1 b1 c A2 A3 c2 c3 b2 b3 wr):wr.cell? ⟨n1,0,none⟩=some (.slice A2 c.comes.length c2)∧wr.cell? ⟨n1,1,none⟩=some (.slice A3 c.goes.length c3)∧wr.frozen? ⟨n1,0,none⟩=false∧wr.frozen? ⟨n1,1,none⟩=false∧wr.cell? ⟨n0,0,none⟩=some (.slice none 0 0)∧wr.cell? ⟨n0,1,none⟩=some (.slice none 0 0)∧wr.frozen? ⟨n0,0,none⟩=false∧wr.frozen? ⟨n0,1,none⟩=false:=
 ⟨ai h.r1,ai h.r1,ax h.r1,ax h.r1,ai h.r0,ai h.r0,ax h.r0,ax h.r0⟩
end
theorem GH (v:Value) (cs:List UInt8) (bs:List Nat) (w:World) (h:uj w [v] cs bs) (hn:cs.length≤1048576):
  Calls Tryz.prog 28 #[v] w (Y4 w):=by
 have hA:Below w.heap.size w (w.alloc (.cells #[.slice none 0 0,.slice none 0 0] 54)):=ζ;have HZ:=η (ω w (.cells #[.slice none 0 0,.slice none 0 0] 54));have ho:=open_any v cs bs _ (BU.below h hA) hn;have HA:=η hA;have HS:Hid ((w.alloc (.cells #[.slice none 0 0,.slice none 0 0] 54)).heap.size=w.heap.size+1):=η (by simp);clear h hA
 go_enter Tryz.func28,Tryz.ntmps28
 go_wp2_with fail
 refine ho.mono ?_;rintro e w1 ⟨rfl,hR,hb⟩;have HB:=η (HA.out.trans (hb.mono HA.out.size));have a3:=η ((hb.block _ (ψ HZ.out)).trans HZ.out);have hd:=JL _ 0 w1 hR (by omega);have HG:=η hR.lt;rw [HS.out] at hR hd HG;clear ho hb HZ HA
 go_wp2_with fail
 refine hd.mono ?_;rintro e w2 ⟨rs,A0,c0,b0,xs,A1,c1,b1,p',rfl,h1,h2,g0,g1,h3,h4,h5,h6,a5,af,hK⟩;have av:Hid (w.heap.size+1 < w2.heap.size):=η (by have:=HG.out; have:=hK.size; omega);have a6:=BI (w.heap.size+1) p' _ a5 (by omega);have HX:=η (ι h1 (ι h2 (ι g0 (ι g1 (ι h3 (ι h5 hK))))));have HP:Hid (p'≤400):=η (by omega);clear hd h1 h2 g0 g1 h3 h4 h5 h6 a5 af hK hR
 go_wp2_with fail
 refine a6.mono ?_;rintro e J ⟨c,A2,A3,c2,c3,b2,b3,q,rfl,hc,hg,⟨s1,s2,_,_⟩,a7,hq,a0⟩;have U:Below J.heap.size J (J.alloc (.cells #[.slice A2 c.comes.length c2,.slice A3 c.goes.length c3] 54)):=ζ;have aw:Hid (J.heap[w.heap.size]? = some (.cells #[.slice none 0 0,.slice none 0 0] 54 (0,0))):=η (a0.blk ((HX.out.2.2.2.2.2.2.blk a3.out (by simp))) (by simp))
 have I:Hid (QE (w.heap.size+1) q w w.heap.size J.heap.size rs A0 c0 b0 xs A1 c1 b1 c A2 A3 c2 c3 b2 b3 (J.alloc (.cells #[.slice A2 c.comes.length c2,.slice A3 c.goes.length c3] 54))):=η (by
  obtain ⟨x1,x2,x3,x4,x5,x6,x7⟩:=HX.out;have az:=HG.out;have hz:=(a0.blk ((x7.blk a3.out (by simp))) (by simp));have aD:=a0.size;have aE:=x7.size;have l0:=Good.kept aS x1 a0 (fun b hb=>by simp; have:=x3 b hb; omega);have l1:=Good.kept au x2 a0 (fun b hb=>by simp; have:=x4 b hb; omega);have k9:Below w.heap.size w J:=HB.out.trans ((x7.trans a0).below (fun b hb=>by simp at hb; omega) HB.out.size)
  exact ⟨(U.block _ (ψ hz)).trans hz,ω J _,aS.below l0 U,au.below l1 U,au.below hc U,au.below hg U,fun b hb=>⟨by have:=x3 b hb; omega,by have:=aS.lt l0 b hb; omega,by have:=x3 b hb; omega⟩,a7.below U,k9.trans (U.mono k9.size),⟨ν,by omega,by omega,by omega⟩⟩)
 have y:Hid (rs.length≤9∧xs.length≤50∧c.comes.length≤50∧c.goes.length≤50∧q≤700):=η ⟨HX.out.2.2.2.2.1,HX.out.2.2.2.2.2.1,s1,by omega,by have:=HP.out; omega⟩;clear a6 hc hg s1 s2 a7 hq a0 HX a3 HB U;have ag:Hid (w.heap.size < J.heap.size):=η I.out.hn.2.1;have aL:=ag.out;by_cases a4:xs.length=0
 ·have am:¬ (0:Int) < (xs.length:Int):=by omega
  clear a4
  go_wp2_with fail
  obtain ⟨W,hW⟩:∃ W,W=J.alloc (.cells #[.slice A2 c.comes.length c2,.slice A3 c.goes.length c3] 54):=⟨_,rfl⟩;rw [← hW] at I;rw [← hW];clear hW;obtain ⟨q0,q1,_,_,z0,z1,f0,f1⟩:=I.out.cells;have HD:=η (I.out.drew.done y.out.1 y.out.2.1 ⟨y.out.2.2.1,y.out.2.2.2.1⟩);clear I;go_region;go_wp2;refine bodyPost_ret (v:=.tuple #[.slice A0 rs.length c0,.slice A1 xs.length c1,.agg #[.slice A2 c.comes.length c2,.slice A3 c.goes.length c3]]) (by simp [results,Tryz.results28,go_sem,z0,z1]) rfl HD.out
 ·have am:(0:Int) < (xs.length:Int):=by omega
  have a1:=pick_any _ q 2 _ I.out.rdr (by have:=y.out; omega) (by omega) (by omega);have ao:=η a4;clear a4
  go_wp2_with fail
  refine a1.mono ?_;rintro e w4 ⟨j,rfl,hj,a8,a9⟩;replace I:=η (I.out.call a8 (aI.dB a9));clear a1 a8 a9;by_cases aq:j=0
  ·subst aq
   clear hj;have a1:=pick_any _ (q+1) xs.length w4 I.out.rdr (by have:=y.out; omega) (by have:=ao.out; omega) (by have:=y.out; omega)
   go_wp2_with fail
   refine a1.mono ?_;rintro e w5 ⟨k,rfl,hk,aa,ab⟩;replace I:=η (I.out.call aa (aI.dB ab));have ac:k < xs.length:=by omega
   obtain ⟨bq,oq,Ae,ce,bk,e0,_,y0,y1,ae,_⟩:=dL I.out.at1 ac;subst e0;obtain ⟨q0,q1,p0,p1,z0,z1,f0,f1⟩:=I.out.cells;obtain ⟨b4,hI⟩:=I.out.goes ae;have aM:=ψ I.out.r1;have aR:=ψ I.out.r0;have b5:(0:Int)≤(k:Int):=by omega
   have a2:=η hI;clear a1 aa ab ae hI I;generalize xs[k]=a at *;clear ac;have ar:¬ (J.heap.size=w.heap.size):=by omega
   go_wp2_with fail
   have he:((w5.alloc (.cells #[.string a.name,.slice Ae a.args.length ce] 33)).setCell ⟨J.heap.size,0,none⟩ (.slice none 0 0)).setCell ⟨J.heap.size,1,none⟩ (.slice (some ⟨w5.heap.size,0,none⟩) 1 1)=((w5.setCell ⟨J.heap.size,0,none⟩ (.slice none 0 0)).setCell ⟨J.heap.size,1,none⟩ (.slice (some ⟨w5.heap.size,0,none⟩) 1 1)).alloc (.cells #[.string a.name,.slice Ae a.args.length ce] 33):=by go_simp
   rw [he] at a2;clear he;obtain ⟨W,hW⟩:∃ W,W=((w5.setCell ⟨J.heap.size,0,none⟩ (.slice none 0 0)).setCell ⟨J.heap.size,1,none⟩ (.slice (some ⟨w5.heap.size,0,none⟩) 1 1)).alloc (.cells #[.string a.name,.slice Ae a.args.length ce] 33):=⟨_,rfl⟩;rw [← hW] at a2;rw [← hW];clear hW;clear q0 q1 p0 p1 z0 z1 f0 f1;obtain ⟨q0,q1,_,_,z0,z1,f0,f1⟩:=a2.out.cells;have HD:=η (a2.out.drew.done y.out.1 y.out.2.1 ⟨ε,(by decide:1≤50)⟩);clear a2;go_region;go_wp2;refine bodyPost_ret (v:=.tuple #[.slice A0 rs.length c0,.slice (some ⟨bq,oq,none⟩) xs.length c1,.agg #[.slice none 0 0,.slice (some ⟨w5.heap.size,0,none⟩) 1 1]]) (by simp [results,Tryz.results28,go_sem,z0,z1]) rfl HD.out
  ·have b6:((j:Int) == 0)=false:=beq_eq_false_iff_ne.2 (by omega)
   obtain ⟨q0,q1,_,_,z0,z1,f0,f1⟩:=I.out.cells;have HD:=η (I.out.drew.done y.out.1 y.out.2.1 ⟨y.out.2.2.1,y.out.2.2.2.1⟩);clear I;go_wp2;go_region;go_wp2;refine bodyPost_ret (v:=.tuple #[.slice A0 rs.length c0,.slice A1 xs.length c1,.agg #[.slice A2 c.comes.length c2,.slice A3 c.goes.length c3]]) (by simp [results,Tryz.results28,go_sem,z0,z1]) rfl HD.out
end
section
open Go.RowKit D
structure D.tq (vars:List ByteArray) (fs ps ns:List A) (head:A) (wt:Nat→Bool):Prop where
 hv:kC vars
 p4:ps.length≤4
 fl:fs.length≤1000000
 nl:ns.length≤1000000
 fok:∀ f ∈ fs,aW f
 pok:∀ p ∈ ps,aZ p=true
 nok:∀ n ∈ ns,aZ n=true
 hok:aZ head=true
 pin:∀ p ∈ ps,∀ t ∈ p.args,t.var=true→t.name ∈ vars
 nin:∀ n ∈ ns,∀ t ∈ n.args,t.var=true→t.name ∈ vars
 hin:∀ t ∈ head.args,t.var=true→t.name ∈ vars
 want:∀ i,i < 12→wt i=NP vars head ns i
 tight:∀ b,(∀ p ∈ ps,yO b p.args)→yO b head.args∧∀ n ∈ ns,yO b n.args
structure D.bW (K:Nat→Prop) (sk:Nat) (w w':World):Prop where
 os:w'.os=w.os
 tape:w'.tape=w.tape
 output:w'.output=w.output
 size:w.heap.size≤w'.heap.size
 block:∀ k,k < w.heap.size→K k→w'.heap[k]? = w.heap[k]?
 rest:∀ q,(q < 18∨43≤q)→w'.cell? ⟨sk,q,none⟩=w.cell? ⟨sk,q,none⟩
section
variable {K:Nat→Prop} {sk:Nat} {w w' w2:World}
theorem D.bW.trans (h:bW K sk w w') (k:bW K sk w' w2):bW K sk w w2:=
 ⟨k.os.trans h.os,k.tape.trans h.tape,k.output.trans h.output,τ h.size k.size,fun i y hK=>(k.block i (κ y h.size) hK).trans (h.block i y hK),fun q hq=>(k.rest q hq).trans (h.rest q hq)⟩
theorem D.bW.Dt (hK:∀ k,K k→k ≠ sk) (h:dK sk 18 w w'):bW K sk w w':=
 ⟨h.grow.os,h.grow.tape,h.grow.output,h.grow.size,fun k I y=>h.block I (hK k y),fun q hq=>h.rest q (by omega)⟩
theorem D.bW.of_below (y:sk < w.heap.size) (h:Below w.heap.size w w'):bW K sk w w':=
 ⟨h.os,h.tape,h.output,h.size,fun k I _=>h.block k I,fun q _=>World.cell?_of_block (h.block _ y)⟩
theorem D.bW.keep {α:Type} {R:Rel α} (g:Good R) {cs:List Value} {x:α} {bs:List Nat} (h:bW K sk w w') (hr:R w cs x bs) (hb:∀ b ∈ bs,K b):R w' cs x bs:=
 g.keep hr fun b y=>h.block b (g.lt hr b y) (hb b y)
theorem D.mP.run {sb:Nat} {v1 v2:Value} {wt:Nat→Bool} {io:Bool} {ah:Int} {tell:Value} (h:mP sk sb v1 v2 wt io ah tell w) (k:bW K sk w w'):mP sk sb v1 v2 wt io ah tell w':=
 ⟨(k.rest _ (by omega)).trans h.st,(k.rest _ (by omega)).trans h.p1,(k.rest _ (by omega)).trans h.p2,fun i y=>(k.rest _ (by omega)).trans (h.wd i y),(k.rest _ (by omega)).trans h.io,(k.rest _ (by omega)).trans h.ah,(k.rest _ (by omega)).trans h.tl⟩
end
structure D.qW (vars:List ByteArray) (fs:List A) (rn:List Nat) (bs:List Nat) (ps ns:List A) (sk sb:Nat) (v1 v2:Value) (bp bn:List Nat) (wt:Nat→Bool) (ah:Int) (tell:Value) (K:Nat→Prop) (b:Bd) (w:World):Prop where
 sea:mP sk sb v1 v2 wt false ah tell w
 at_:iM vars b sk 18 w
 ok:jZ vars b
 wds:vg b
 uh:kW sb fs rn bs w
 pps:uN vars w [v1] ps bp
 pns:uN vars w [v2] ns bn
 kbs:∀ x ∈ bs,K x
 kbp:∀ x ∈ bp,K x
 kbn:∀ x ∈ bn,K x
section
variable {vars:List ByteArray} {fs:List A} {rn:List Nat} {bs:List Nat} {ps ns:List A} {sk sb:Nat} {v1 v2:Value} {bp bn:List Nat} {wt:Nat→Bool} {ah:Int} {tell:Value} {K:Nat→Prop} {b b':Bd} {w w':World}
theorem D.qW.kept (h:qW vars fs rn bs ps ns sk sb v1 v2 bp bn wt ah tell K b w) (k:bW K sk w w') (h1:iM vars b' sk 18 w') (I:jZ vars b') (J:vg b'):qW vars fs rn bs ps ns sk sb v1 v2 bp bn wt ah tell K b' w':=
 ⟨h.sea.run k,h1,I,J,h.uh.keep (fun x y=>k.block x (h.uh.lt x y) (h.kbs x y)) k.size,k.keep (dX vars) h.pps h.kbp,k.keep (dX vars) h.pns h.kbn,h.kbs,h.kbp,h.kbn⟩
theorem D.qW.below (h:qW vars fs rn bs ps ns sk sb v1 v2 bp bn wt ah tell K b w) (k:Below w.heap.size w w'):qW vars fs rn bs ps ns sk sb v1 v2 bp bn wt ah tell K b w':=
 h.kept (bW.of_below h.sea.lt k) (h.at_.keep (k.block _ h.sea.lt)) h.ok h.wds
end
structure D.xW (vars:List ByteArray) (head:A) (sk:Nat) (K:Nat→Prop) (c5 c7:Addr) (T:Bool→World→List A→Prop) (go:List A→Bool):Prop where
 call:∀ (w:World) (b:Bd) (told:List A),jZ vars b→vg b→yO b head.args→iM vars b sk 18 w→T true w told→Calls Tryz.prog 116 #[.pointer (some ⟨sk,18,none⟩),.pointer (some c5),.pointer (some c7)] w fun e w'=>
  e=.returned (.bool (go (told ++ [cO head b])))∧T (go (told ++ [cO head b])) w' (told ++ [cO head b])∧bW K sk w w'∧w'.heap[sk]? = w.heap[sk]?
 keep:∀ {f:Bool} (w w':World) (told:List A),T f w told→dK sk 18 w w'→T f w' told
def D.jr (vars:List ByteArray) (fs ps ns:List A) (head:A) (K:Nat→Prop) (sk:Nat) (T:Bool→World→List A→Prop) (go:List A→Bool) (b:Bd) (left:Nat) (told:List A) (held more:Bool) (w w':World):Prop:=
 ∃ y,bW K sk w w'∧iM vars b sk 18 w'∧T more w' (told ++ y)∧(∀ t ∈ y,∃ σ,wG fs ps ns b left σ∧iC σ head=t)∧(more=true→∀ σ,wG fs ps ns b left σ→iC σ head ∈ y)∧(held=true→y ≠ [])∧(more=false→go (told ++ y)=false)
section
variable {vars:List ByteArray} {fs ps ns:List A} {head:A} {wt:Nat→Bool} {K:Nat→Prop} {sk:Nat} {T:Bool→World→List A→Prop} {go:List A→Bool} {b:Bd} {left:Nat} {told:List A} {w w':World}
theorem D.IK {a:A} (h:aZ a=true):∀ t ∈ a.args,t.var=false→t.name ≠ ⟨#[]⟩:=fun t y hv=>by
 unfold aZ at h;simp only [ο,decide_eq_true_eq,ό] at h;have:=h.2 t y;unfold jv at this;rw [hv] at this;exact vk (by simpa using this)
theorem D.oM {a:A} (h:aZ a=true):a.args.length≤3:=by
 unfold aZ at h;simp only [ο,decide_eq_true_eq] at h;exact h.1.2
theorem D.VX (E:tq vars fs ps ns head wt) (y:vg b) (hc:∀ n ∈ ns,yO b n.args) (h:zq fs ns b=true) (σ:Wo):¬ wG fs ps ns b left σ:=by
 rintro ⟨h1,_,I⟩;obtain ⟨n,hn,J⟩:=List.any_eq_true.1 h;have:=(zu E.fok (vZ (E.nok n hn) y (hc n hn))).1 J;rw [kR (hc n hn) h1] at this;exact I n hn this
theorem D.VY (E:tq vars fs ps ns head wt) (y:vg b) (hc:∀ n ∈ ns,yO b n.args) (h:zq fs ns b=false):∀ n ∈ ns,cO n b ∉ fs:=fun n hn hm=>by
 have h1:decide (eX (cO n b) ∈ fs.map eX)=true:=(zu E.fok (vZ (E.nok n hn) y (hc n hn))).2 hm;have:zq fs ns b=true:=List.any_eq_true.2 ⟨n,hn,h1⟩;rw [h] at this; cases this
theorem D.VZ (hc:yO b head.args) {y:List A} (U:∀ t ∈ y,∃ σ,wG fs ps ns b left σ∧iC σ head=t) (I:y ≠ []) (σ:Wo) (h:wG fs ps ns b left σ):iC σ head ∈ y:=by
 obtain ⟨t,J⟩:=List.exists_mem_of_ne_nil y I;obtain ⟨σ0,h0,e0⟩:=U t J;rw [← kR hc h.1,kR hc h0.1,e0]; exact J
end
end
section
open Go.RowKit D
attribute [local go_sem ↓] Go.wp_at_zero Go.wp_at_succ
theorem QF:(Tryz.prog.info? 33).map (fun i=>(i.zero,i.size,i.bytes))=some (some (.agg #[.string ⟨#[]⟩,.slice none 0 0]),2,40):=by kernel_rfl
theorem XM:(Tryz.prog.info? 3).map (fun i=>(i.zero,i.size,i.bytes))=some (some (.int .i64 0),1,8):=by kernel_rfl
theorem D.IL:Dv 1 yT:=fun h=>by obtain ⟨rfl,_⟩:=h; simp [Value.oneCell']
def D.wH (G:WK→List Nat) (a:A) (i j:Nat):WK→List Nat:=fun k=>if k ∈ (keysOf a).take j then G k ++ [i] else G k
theorem D.P5 {a:A} (h:aZ a=true):(a.args.length:Int)≤3:=by
 unfold aZ at h;simp only [ο,decide_eq_true_eq] at h;have:=h.1.2;omega
theorem D.P6 (a:A):(keysOf a).Nodup:=by
 unfold keysOf;refine List.nodup_cons.2 ⟨fun h=>?_,?_⟩
 ·obtain ⟨i,y,e⟩:=List.mem_mapIdx.1 h
  simp at e
 ·refine List.pairwise_iff_getElem.2 fun i j y J I e=>?_
  simp at e;omega
theorem D.zB (a:A):(keysOf a).length=a.args.length+1:=by simp [keysOf]
theorem D.QG (a:A) (j:Nat) (h:j < a.args.length):(keysOf a)[j+1]'(by rw [zB]; omega)=⟨a.name,a.args.length,j,a.args[j].name⟩:=by simp [keysOf]
theorem D.NQ (G:WK→List Nat) (a:A) (i j:Nat) (h:j < (keysOf a).length):wH G a i j (keysOf a)[j]=G (keysOf a)[j]:=by
 unfold wH;rw [if_neg];intro hm;obtain ⟨m,I,y⟩:=List.getElem_of_mem hm;simp at I y;exact List.pairwise_iff_getElem.1 (P6 a) m j (by omega) h (by omega) y
theorem D.IQ (G:WK→List Nat) (a:A) (i j:Nat) (h:j < (keysOf a).length):FK (wH G a i j) (keysOf a)[j] i=wH G a i (j+1):=by
 funext k
 unfold FK;by_cases e:k=(keysOf a)[j]
 ·rw [if_pos e,NQ G a i j h,e]
  unfold wH;rw [if_pos (by rw [ρ h]; exact Ω _ (List.mem_singleton_self _))]
 ·rw [if_neg e]
  unfold wH
  have:k ∈ (keysOf a).take (j+1) ↔ k ∈ (keysOf a).take j:=by
   rw [ρ h,μ,ώ];exact ⟨fun g=>g.resolve_right e,.inl⟩
  simp only [this]
theorem D.V3 (G:WK→List Nat) (a:A) (i:Nat):FK G ⟨a.name,a.args.length,-1,⟨#[]⟩⟩ i=wH G a i 1:=by
 have h:=IQ G a i 0 (by rw [zB]; omega);have e:wH G a i 0=G:=by funext k; unfold wH; simp
 rw [e] at h;exact h
theorem D.V4 (fs:List A) (a:A):wH (idxs fs) a fs.length (a.args.length+1)=idxs (fs ++ [a]):=by
 funext k
 unfold wH;rw [ϕ (by rw [zB]; omega),SV]
 split <;> simp
def D.BoxOk (bx:Nat) (fr:List Nat) (a:A) (Ae:Option Addr) (ce:Nat) (w0 w:World):Prop:=w.heap[bx]? = some (.cells #[.string a.name,.slice Ae a.args.length ce] 33 (0,0))∧(∃ ba,aJ w [.string a.name,.slice Ae a.args.length ce] a ba∧∀ x ∈ ba,x ∈ fr)∧(∀ x ∈ fr,x < w.heap.size)∧∀ x ∈ fr,w.heap[x]? = w0.heap[x]?
theorem D.BoxOk.keep {bx:Nat} {fr:List Nat} {a:A} {Ae:Option Addr} {ce:Nat} {w0 w w':World} (h:BoxOk bx fr a Ae ce w0 w) (h1:w'.heap[bx]? = w.heap[bx]?) (I:∀ x ∈ fr,w'.heap[x]? = w.heap[x]?) (U:w.heap.size≤w'.heap.size):BoxOk bx fr a Ae ce w0 w':=by
 obtain ⟨g1,⟨ba,g2,J⟩,g4,g5⟩:=h;exact ⟨h1.trans g1,⟨ba,ak.keep g2 fun x y=>I x (J x y),J⟩,fun x y=>κ (g4 x y) U,fun x y=>(I x y).trans (g5 x y)⟩
def D.NR (B sb mu mp:Nat) (y I:Value) (J:List Nat) (bx:Nat) (fr:List Nat):Prop:=Free B sb mu mp y I J bx∧∀ x ∈ fr,Free B sb mu mp y I J x
def D.kF (B sb mu mp nf nr:Nat) (fs:List A) (bf:List Nat) (rn:List Nat) (Lp:List (Value × Value)) (G:WK→List Nat) (B0 bx:Nat) (fr:List Nat) (a:A) (Ae:Option Addr) (ce:Nat) (w0 w:World):Prop:=
 ∃ y cf Lf I J Lr U,lV B sb mu mp y nf cf Lf fs bf I nr J Lr rn Lp G U w∧NR B sb mu mp (.slice y nf cf) (.slice I nr J) U bx fr∧BoxOk bx fr a Ae ce w0 w∧Below B0 w0 w∧B0≤B
theorem D.kF.fact {B sb mu mp nf nr cf:Nat} {J Ar:Option Addr} {cr:Nat} {Lf Lr:List Value} {fs:List A} {bf:List Nat} {rn:List Nat} {Lp:List (Value × Value)} {G:WK→List Nat} {ou:List Nat} {B0 bx:Nat} {fr:List Nat} {a:A} {Ae:Option Addr} {ce:Nat} {w0 w:World}
  (h:lV B sb mu mp J nf cf Lf fs bf Ar nr cr Lr rn Lp G ou w) (hf:NR B sb mu mp (.slice J nf cf) (.slice Ar nr cr) ou bx fr) (hx:BoxOk bx fr a Ae ce w0 w) (hb:Below B0 w0 w) (I:B0≤sb∧B0≤mu∧B0≤mp∧B0≤B)
  {U:World} {A5:Option Addr} {c5:Nat} {cs:List Value} {ba:List Nat} (a0:aT 2 aJ w cs [a] ba)
  (a1:U.ownsRow B 33 2 (.slice A5 (nf+1) c5) (nf+1) (Lf ++ cs)) (hg:w.grownBy U (Value.slice J nf cf).ownBlock) (a2:(Value.slice A5 (nf+1) c5).ownBlock=(Value.slice J nf cf).ownBlock∨(Value.slice A5 (nf+1) c5).ownBlock=some w.heap.size)
  (a3:∀ x ∈ ba,Free B sb mu mp (.slice J nf cf) (.slice Ar nr cr) ou x):U.cell? ⟨sb,0,none⟩=some (.slice J nf cf)∧U.frozen? ⟨sb,0,none⟩=false∧kF B sb mu mp (nf+1) nr (fs ++ [a]) (bf ++ ba) rn Lp G B0 bx fr a Ae ce w0 (U.setCell ⟨sb,0,none⟩ (.slice A5 (nf+1) c5)):=by
 obtain ⟨z1,z2,z3,z4,z5⟩:=h.fact a0 a1 hg a2 a3;have a4:=ψ hx.1;have hs:=h.qE;refine ⟨z1,z2,A5,c5,_,Ar,cr,Lr,ou,z3,⟨⟨fun e=>?_,hf.1.r,hf.1.u,hf.1.s⟩,fun x y=>⟨fun e=>?_,(hf.2 x y).r,(hf.2 x y).u,(hf.2 x y).s⟩⟩,hx.keep (z4 bx a4 hf.1.f hf.1.s.1) (fun x y=>z4 x (hx.2.2.1 x y) (hf.2 x y).f (hf.2 x y).s.1) (by have:=hg.size; simp [World.setCell]; omega),?_,I.2.2.2⟩
 ·rcases z5 bx e with e | e
  ·exact hf.1.f e
  ·omega
 ·rcases z5 x e with e | e
  ·exact (hf.2 x y).f e
  ·have:=hx.2.2.1 x y; omega
 ·have a5:Below B0 w0 U:=hb.grown hg (τ I.2.2.2 hs) fun k e=>τ I.2.2.2 (bH h.cF.own e).1
  exact a5.setCell (p:=⟨sb,0,none⟩) I.1 _
theorem D.kF.round {B sb mu mp nf nr cf:Nat} {Af U:Option Addr} {cr:Nat} {Lf Lr:List Value} {fs:List A} {bf:List Nat} {rn:List Nat} {Lp:List (Value × Value)} {G:WK→List Nat} {ou:List Nat} {B0 bx:Nat} {fr:List Nat} {a:A} {Ae:Option Addr} {ce:Nat} {w0 w:World}
  (h:lV B sb mu mp Af nf cf Lf fs bf U nr cr Lr rn Lp G ou w) (hf:NR B sb mu mp (.slice Af nf cf) (.slice U nr cr) ou bx fr) (hx:BoxOk bx fr a Ae ce w0 w) (hb:Below B0 w0 w) (I:B0≤sb∧B0≤mu∧B0≤mp∧B0≤B)
  {J:World} {A5:Option Addr} {c5:Nat} {cs:List Value} {i:Nat} (a0:aT 1 yT w cs [i] [])
  (a1:J.ownsRow B 3 1 (.slice A5 (nr+1) c5) (nr+1) (Lr ++ cs)) (hg:w.grownBy J (Value.slice U nr cr).ownBlock) (a2:(Value.slice A5 (nr+1) c5).ownBlock=(Value.slice U nr cr).ownBlock∨(Value.slice A5 (nr+1) c5).ownBlock=some w.heap.size):
  J.cell? ⟨sb,1,none⟩=some (.slice U nr cr)∧J.frozen? ⟨sb,1,none⟩=false∧kF B sb mu mp nf (nr+1) fs bf (rn ++ [i]) Lp G B0 bx fr a Ae ce w0 (J.setCell ⟨sb,1,none⟩ (.slice A5 (nr+1) c5)):=by
 obtain ⟨z1,z2,z3,z4,z5⟩:=h.round a0 a1 hg a2;have a3:=ψ hx.1;have hs:=h.qE;refine ⟨z1,z2,Af,cf,Lf,A5,c5,_,ou,z3,⟨⟨hf.1.f,fun e=>?_,hf.1.u,hf.1.s⟩,fun x y=>⟨(hf.2 x y).f,fun e=>?_,(hf.2 x y).u,(hf.2 x y).s⟩⟩,hx.keep (z4 bx a3 hf.1.r hf.1.s.1) (fun x y=>z4 x (hx.2.2.1 x y) (hf.2 x y).r (hf.2 x y).s.1) (by have:=hg.size; simp [World.setCell]; omega),?_,I.2.2.2⟩
 ·rcases z5 bx e with e | e
  ·exact hf.1.r e
  ·omega
 ·rcases z5 x e with e | e
  ·exact (hf.2 x y).r e
  ·have:=hx.2.2.1 x y; omega
 ·have a4:Below B0 w0 J:=hb.grown hg (τ I.2.2.2 hs) fun k e=>τ I.2.2.2 (bH h.cR.own e).1
  exact a4.setCell (p:=⟨sb,1,none⟩) I.1 _
theorem D.kF.later {B sb mu mp nf nr:Nat} {fs:List A} {bf:List Nat} {rn:List Nat} {Lp:List (Value × Value)} {G:WK→List Nat} {B0 bx:Nat} {fr:List Nat} {a:A} {Ae:Option Addr} {ce:Nat} {w0 w w':World} (h:kF B sb mu mp nf nr fs bf rn Lp G B0 bx fr a Ae ce w0 w) (y:Below w.heap.size w w'):kF B sb mu mp nf nr fs bf rn Lp G B0 bx fr a Ae ce w0 w':=by
 obtain ⟨J,cf,Lf,U,cr,Lr,ou,h1,h2,I,h4,h5⟩:=h;have hs:=h1.qE;exact ⟨J,cf,Lf,U,cr,Lr,ou,h1.later y,h2,I.keep (y.block _ (ψ I.1)) (fun x hx=>y.block x (I.2.2.1 x hx)) y.size,h4.trans (y.mono (by omega)),h5⟩
theorem D.kF.place {B sb mu mp nf nr:Nat} {fs:List A} {bf:List Nat} {rn:List Nat} {Lp:List (Value × Value)} {G:WK→List Nat} {B0 bx:Nat} {fr:List Nat} {a:A} {Ae:Option Addr} {ce:Nat} {w0 w:World} (h:kF B sb mu mp nf nr fs bf rn Lp G B0 bx fr a Ae ce w0 w) (hB:B0≤mp) {s:ByteArray} (hs:s.size≤maxLen) (v:Value) (J:∀ p ∈ Lp,p.1 ≠ .string s):
  ∃ I,(Instr.mapUpdate 116 (.map (some mp)) (.string s) v).run Tryz.prog w=.ok () I∧kF B sb mu mp nf nr fs bf rn (Lp ++ [(.string s,v)]) G B0 bx fr a Ae ce w0 I:=by
 obtain ⟨Af,cf,Lf,Ar,cr,Lr,ou,h1,U,h3,h4,h5⟩:=h;obtain ⟨I,r1,r2,y,-⟩:=yX nP (w:=w) trivial Tryz.underlying116 v h1.pl ⟨_,rfl,hs⟩ J;have hz:=h1.qE;exact ⟨I,r1,Af,cf,Lf,Ar,cr,Lr,ou,h1.place r2 y,U,h3.keep (y.block _ (ψ h3.1) (fun e=>U.1.s.2.2 (by injection e))) (fun x hx=>y.block x (h3.2.2.1 x hx) (fun e=>(U.2 x hx).s.2.2 (by injection e))) y.size,h4.grown y (by omega) fun k e=>by injection e with e; omega,h5⟩
structure D.NS (B sb mu mp nf nr:Nat) (fs:List A) (bf:List Nat) (rn:List Nat) (Lp:List (Value × Value)) (G:WK→List Nat) (B0 bx:Nat) (fr:List Nat) (a:A) (Ae:Option Addr) (ce:Nat) (w0:World) (k:WK) (u:Value) (L:List Value) (n:Nat) (w:World):Prop where
 ex:∃ Af cf Lf Ar cr Lr ou w1,lV B sb mu mp Af nf cf Lf fs bf Ar nr cr Lr rn Lp G ou w1∧NR B sb mu mp (.slice Af nf cf) (.slice Ar nr cr) ou bx fr∧BoxOk bx fr a Ae ce w0 w1∧Below B0 w0 w1∧B0≤B∧B0≤mu∧
  FI B mu G ou k u L n w∧w1.grownBy w (some mu)
theorem D.kF.entry {B sb mu mp nf nr:Nat} {fs:List A} {bf:List Nat} {rn:List Nat} {Lp:List (Value × Value)} {G:WK→List Nat} {B0 bx:Nat} {fr:List Nat} {a:A} {Ae:Option Addr} {ce:Nat} {w0 w:World} (h:kF B sb mu mp nf nr fs bf rn Lp G B0 bx fr a Ae ce w0 w) (hB:B0≤mu) (k:WK):
  ∃ r y,(Instr.mapEntry 125 (.map (some mu)) (.agg #[.string k.name,.int .i64 k.size,.int .i64 k.place,.string k.word])).run Tryz.prog w=.ok r y∧∃ u n L,r=.tuple #[u,.int .i64 (n:Nat)]∧NS B sb mu mp nf nr fs bf rn Lp G B0 bx fr a Ae ce w0 k u L n y∧w.grownBy y (some mu):=by
 obtain ⟨J,cf,Lf,U,cr,Lr,ou,h1,h2,h3,h4,h5⟩:=h;obtain ⟨y,u,n,L,r1,r2,I⟩:=h1.un.entry h1.lo.2.1 k;exact ⟨_,y,r1,u,n,L,rfl,⟨J,cf,Lf,U,cr,Lr,ou,w,h1,h2,h3,h4,h5,hB,r2,I⟩,I⟩
section
variable {B sb mu mp nf nr:Nat} {fs:List A} {bf:List Nat} {rn:List Nat} {Lp:List (Value × Value)} {G:WK→List Nat} {B0 bx:Nat} {fr:List Nat} {a:A} {Ae:Option Addr} {ce:Nat} {w0 w w':World} {k:WK} {u:Value} {L:List Value} {n:Nat}
theorem D.NS.own (h:NS B sb mu mp nf nr fs bf rn Lp G B0 bx fr a Ae ce w0 k u L n w):w.ownsRow B 3 1 u (G k).length L:=by
 obtain ⟨_,_,_,_,_,_,_,_,_,_,_,_,_,_,h,_⟩:=h.ex;exact h.coll.own
theorem D.NS.qE (h:NS B sb mu mp nf nr fs bf rn Lp G B0 bx fr a Ae ce w0 k u L n w):B≤w.heap.size:=by
 obtain ⟨_,_,_,_,_,_,_,I,h1,_,_,_,_,_,_,y⟩:=h.ex;exact τ h1.qE y.size
theorem D.NS.store (h:NS B sb mu mp nf nr fs bf rn Lp G B0 bx fr a Ae ce w0 k u L n w) (hk:Below w.heap.size w w') {A5:Option Addr} {c5 i:Nat} {w5:World} (J:w5.ownsRow B 3 1 (.slice A5 ((G k).length+1) c5) ((G k).length+1) (L ++ [.int .i64 (i:Nat)])) (hg:w'.grownBy w5 u.ownBlock)
  (U:(Value.slice A5 ((G k).length+1) c5).ownBlock=u.ownBlock∨(Value.slice A5 ((G k).length+1) c5).ownBlock=some w'.heap.size):
  ∃ w9,(Instr.entryStore 125 (.map (some mu)) (.int .i64 (n:Nat)) (.slice A5 ((G k).length+1) c5)).run Tryz.prog w5=.ok () w9∧kF B sb mu mp nf nr fs bf rn Lp (FK G k i) B0 bx fr a Ae ce w0 w9:=by
 obtain ⟨Af,cf,Lf,Ar,cr,Lr,ou,w1,h1,I,h3,h4,h5,h6,h7,h8⟩:=h.ex;have a2:mu < w.heap.size:=by have:=h1.qE; have:=h1.lo.2.1; have:=h8.size; omega
 have a3:∀ x ∈ ou,x < w.heap.size:=fun x y=>κ (h1.ous x y).2 h8.size
 have hP:=h7.keep (w':=w') (hk.block _ a2) fun x y=>hk.block x (a3 x y)
 have hC:aX 1 yT B 3 w5 (.slice A5 ((G k).length+1) c5) (L ++ [.int .i64 (i:Nat)]) (G k ++ [i]) []:=hP.coll.app ji (aT.dJ IL ⟨rfl,rfl⟩) (fun b hb=>by simp at hb) J hg U;obtain ⟨w9,a0,r1,r2,r3,r4⟩:=hP.store h1.lo.2.1 hg hC U;have a6:=h8.size;have a7:=hk.size;have a8:=hg.size;have a9:=r3.size;have ku:∀ x,u.ownBlock=some x→x ∈ ou:=hP.own
 have kp:∀ x,x < w1.heap.size→x ≠ mu→x ∉ ou→w9.heap[x]? = w1.heap[x]?:=fun x y a1 a4=>
  (r3.block x (by omega) (fun e=>a1 (by injection e))).trans ((hg.block x (by omega) (fun e=>a4 (ku x e.symm))).trans ((hk.block x (by omega)).trans (h8.block x y (fun e=>a1 (by injection e)))))
 have new:∀ x ∈ a0,x ∈ ou∨(w1.heap.size≤x∧x < w9.heap.size):=fun x y=>by
  rcases r4 x y with g | ⟨g1,g2⟩
  ·exact .inl g
  ·have:=(bH J g1).2
   exact .inr ⟨by omega,by omega⟩
 have a5:=ψ h3.1;have aa:=h1.qE;refine ⟨w9,r1,Af,cf,Lf,Ar,cr,Lr,a0,h1.under (by omega) kp r2 new,⟨⟨I.1.f,I.1.r,fun e=>?_,I.1.s⟩,fun x y=>⟨(I.2 x y).f,(I.2 x y).r,fun e=>?_,(I.2 x y).s⟩⟩,h3.keep (kp bx a5 I.1.s.2.1 I.1.u) (fun x y=>kp x (h3.2.2.1 x y) (I.2 x y).s.2.1 (I.2 x y).u) (by omega),⟨?_,?_,?_,by have:=h4.size; omega,fun x y=>?_⟩,h5⟩
 ·rcases new bx e with g | g
  ·exact I.1.u g
  ·omega
 ·rcases new x e with g | g
  ·exact (I.2 x y).u g
  ·have:=h3.2.2.1 x y; omega
 ·exact r3.os.trans (hg.os.trans (hk.os.trans (h8.os.trans h4.os)))
 ·exact r3.tape.trans (hg.tape.trans (hk.tape.trans (h8.tape.trans h4.tape)))
 ·exact r3.output.trans (hg.output.trans (hk.output.trans (h8.output.trans h4.output)))
 ·exact (kp x (by omega) (by omega) (fun e=>by have:=(h1.ous x e).1; omega)).trans (h4.block x y)
end
section
variable {P:Program} {ops:Array Oper} {rest:List Oper} {o:Oper} {a:Act} {Q:Exit→Act→World→Prop}
end
theorem D.kF.cells {B sb mu mp nf nr:Nat} {fs:List A} {bf:List Nat} {rn:List Nat} {Lp:List (Value × Value)} {G:WK→List Nat} {B0 bx:Nat} {fr:List Nat} {a:A} {Ae:Option Addr} {ce:Nat} {w0 w:World} (h:kF B sb mu mp nf nr fs bf rn Lp G B0 bx fr a Ae ce w0 w):
  w.cell? ⟨sb,2,none⟩=some (.map (some mu))∧w.cell? ⟨sb,3,none⟩=some (.map (some mp))∧w.cell? ⟨bx,0,none⟩=some (.string a.name)∧w.cell? ⟨bx,1,none⟩=some (.slice Ae a.args.length ce)∧sb < w.heap.size∧bx < w.heap.size∧∃ ba,aJ w [.string a.name,.slice Ae a.args.length ce] a ba:=by
 obtain ⟨I,cf,Lf,J,U,Lr,ou,h1,h2,y,h4,h5⟩:=h;obtain ⟨ba,g,_⟩:=y.2.1;exact ⟨ai h1.blk,ai h1.blk,ai y.1,ai y.1,ψ h1.blk,ψ y.1,ba,g⟩
theorem put_any (B sb mu mp:Nat) (Af:Option Addr) (cf:Nat) (Lf:List Value) (fs:List A) (bf:List Nat) (Ar:Option Addr) (cr:Nat) (Lr:List Value) (rn:List Nat) (Lp:List (Value × Value)) (ou:List Nat) (a:A) (c1:Value) (ba:List Nat) (fr:List Nat) (rd:Nat) (w:World)
  (S:lV B sb mu mp Af fs.length cf Lf fs bf Ar rn.length cr Lr rn Lp (idxs fs) ou w) (ha:aJ w [.string a.name,c1] a ba) (bj:∀ x ∈ ba,x ∈ fr) (bk:∀ x ∈ fr,Free B sb mu mp (.slice Af fs.length cf) (.slice Ar rn.length cr) ou x) (aE:∀ x ∈ fr,x < w.heap.size) (hok:aZ a=true) (ci:∀ p ∈ Lp,p.1 ≠ .string (eX a)) (cK:fs.length≤1000000) (cL:rn.length≤1000000) (B0:Nat) (a9:B0≤sb∧B0≤mu∧B0≤mp∧B0≤B):
  Calls Tryz.prog 112 #[.pointer (some ⟨sb,0,none⟩),.agg #[.string a.name,c1],.int .i64 rd] w fun e w'=>e=.returned (.tuple #[])∧Below B0 w w'∧
   ∃ bl bo cj bq br ck bt,lV B sb mu mp bl (fs.length+1) bo cj (fs ++ [a]) (bf ++ ba) bq (rn.length+1) br ck (rn ++ [rd]) (Lp ++ [(.string (eX a),.int .i64 (fs.length:Nat))]) (idxs (fs ++ [a])) bt w'∧∀ x ∈ fr,Free B sb mu mp (.slice bl (fs.length+1) bo) (.slice bq (rn.length+1) br) bt x∧w'.heap[x]? = w.heap[x]?:=by
 obtain ⟨i0,hi,cl,cm,cn⟩:=info_parts QF;obtain ⟨i9,hj,ac,ae,af⟩:=info_parts XM;obtain ⟨Ae,ce,_,rfl⟩:=bG ha;have hA:Below w.heap.size w (w.alloc (.cells #[.string a.name,.slice Ae a.args.length ce] 33)):=ζ;have ag:=S.later hA;have aL:=ak.below ha hA;have bu:(w.alloc (.cells #[.string a.name,.slice Ae a.args.length ce] 33)).heap[w.heap.size]? = some (.cells #[.string a.name,.slice Ae a.args.length ce] 33 (0,0)):=ω _ _;have az:∀ w2:World,Below (w.alloc (.cells #[.string a.name,.slice Ae a.args.length ce] 33)).heap.size (w.alloc (.cells #[.string a.name,.slice Ae a.args.length ce] 33)) w2→aT 2 aJ w2 [.string a.name,.slice Ae a.args.length ce] [a] ba:=fun w2 h2=>aT.dJ eH (ak.below aL h2)
 have q0:(w.alloc (.cells #[.string a.name,.slice Ae a.args.length ce] 33)).cell? ⟨sb,0,none⟩=some (.slice Af fs.length cf):=ai ag.blk;have q1:(w.alloc (.cells #[.string a.name,.slice Ae a.args.length ce] 33)).frozen? ⟨sb,0,none⟩=false:=ax ag.blk;have q2:sb < (w.alloc (.cells #[.string a.name,.slice Ae a.args.length ce] 33)).heap.size:=ψ ag.blk;have HS:=η ag;have bv:=η bu;have bw:=η az;have co:=η aL;have HA:=η hA;have bz:Hid (fs.length+1≤maxLen∧(fs.length+1) * 40≤140737488355328):=η (by unfold maxLen; omega);have z0:(w.alloc (.cells #[.string a.name,.slice Ae a.args.length ce] 33)).cell? ⟨w.heap.size,0,none⟩=some (.string a.name):=by go_simp
 have z1:(w.alloc (.cells #[.string a.name,.slice Ae a.args.length ce] 33)).cell? ⟨w.heap.size,1,none⟩=some (.slice Ae a.args.length ce):=by go_simp
 have aM:(w.alloc (.cells #[.string a.name,.slice Ae a.args.length ce] 33)).heap.size=w.heap.size+1:=by simp
 have bA:w.heap.size < (w.alloc (.cells #[.string a.name,.slice Ae a.args.length ce] 33)).heap.size:=by rw [aM]; omega
 have cJ:sb < w.heap.size:=ψ S.blk
 have bB:Hid (NR B sb mu mp (.slice Af fs.length cf) (.slice Ar rn.length cr) ou w.heap.size fr):=η (by
  obtain ⟨l1,l2,l3,_⟩:=S.lo;have hs:=S.qE
  exact ⟨⟨fun e=>by have:=(bH S.cF.own e).2; omega,fun e=>by have:=(bH S.cR.own e).2; omega,fun e=>by have:=(S.ous _ e).2; omega,by omega⟩,bk⟩)
 have cP:=η aM;clear S ha hA ag aL bu az aM
 go_enter Tryz.func112,Tryz.ntmps112
 go_wp2;generalize w.alloc (.cells #[.string a.name,.slice Ae a.args.length ce] 33)=W1 at *;have hL:Below W1.heap.size W1 (W1.drew.alloc (.cells #[.string a.name,.slice Ae a.args.length ce] 33)):=(ϑ.drew).alloc ν _;have a0:=η (HS.out.later hL);have a7:=η (bw.out _ hL)
 have am:Hid (Lies (W1.drew.alloc (.cells #[.string a.name,.slice Ae a.args.length ce] 33)) (some ⟨W1.heap.size,0,none⟩) [.string a.name,.slice Ae a.args.length ce]):=η (by
  have:=aP (ω W1.drew (.cells #[.string a.name,.slice Ae a.args.length ce] 33)); simpa using this)
 have bE:(W1.drew.alloc (.cells #[.string a.name,.slice Ae a.args.length ce] 33)).heap[w.heap.size]? = some (.cells #[.string a.name,.slice Ae a.args.length ce] 33 (0,0)):=(hL.block _ bA).trans bv.out;have bL:Hid (BoxOk w.heap.size fr a Ae ce w (W1.drew.alloc (.cells #[.string a.name,.slice Ae a.args.length ce] 33))):=η ⟨bE,⟨ba,ak.below co.out hL,bj⟩,fun x hx=>κ (κ (aE x hx) HA.out.size) hL.size,fun x hx=>(hL.block x (κ (aE x hx) HA.out.size)).trans (HA.out.block x (aE x hx))⟩;have bO:Hid (Below B0 w (W1.drew.alloc (.cells #[.string a.name,.slice Ae a.args.length ce] 33))):=η ((HA.out.trans (hL.mono HA.out.size)).mono (by omega));clear bE hL
 go_cut [] from 16 to 25 (fun wx=>kF B sb mu mp (fs.length+1) rn.length (fs ++ [a]) (bf ++ ba) rn Lp (idxs fs) B0 w.heap.size fr a Ae ce w wx)
 case first=>
  go_region_law
   (first
    | (refine iJ (by rfl) (.tmp 20) (.tmp 22) _ (by rfl) B 33 i0 (.agg #[.string ⟨#[]⟩,.slice none 0 0]) 2 40 Tryz.underlying24 hi cl cm cn rfl (Θ 1) (.slice Af fs.length cf) fs.length Lf (by rfl) a0.out.cF.own (some ⟨W1.heap.size,0,none⟩) 1 1 _ (by rfl) rfl am.out a7.out.one bz.out.1 bz.out.2 a0.out.qE ?_; intro A5 c5 w5 h5 g5 l5; have HZ:=η (kF.fact a0.out bB.out bL.out bO.out a9 a7.out h5 g5 l5 fun x hx=>bk x (bj x hx)); replace q0:=HZ.out.1; replace q1:=HZ.out.2.1; clear h5 g5 l5))
  all_goals
   have cp:=η HZ.out.2.2;clear q0 q1 HZ
   go_wp2_with fail
   go_meet
   exact cp.out
 case rest=>
  clear a0 a7 am bL bO HS bB q0 q1 q2 z0 z1 bv;obtain ⟨cQ,cT,cU,bR,bX,cq,cV,S2,F2,X2,B2,_⟩:=hcut;have aa:Below wc.heap.size wc (wc.alloc (.cells #[.int .i64 rd] 3)):=ζ;have cW:=S2.qE;have a0:=η (S2.later aa);have c4:=η F2;have c7:=η (X2.keep (aa.block _ (ψ X2.1)) (fun x hx=>aa.block x (X2.2.2.1 x hx)) aa.size);have ab:=η (B2.trans (aa.mono (by omega)));have a7:Hid (aT 1 yT (wc.alloc (.cells #[.int .i64 rd] 3)) [.int .i64 (rd:Nat)] [rd] []):=η (aT.dJ IL ⟨rfl,rfl⟩)
  have am:Hid (Lies (wc.alloc (.cells #[.int .i64 rd] 3)) (some ⟨wc.heap.size,0,none⟩) [.int .i64 (rd:Nat)]):=η (by
   have:=aP (ω wc (.cells #[.int .i64 rd] 3)); simpa using this)
  have c8:Hid (rn.length+1≤maxLen∧(rn.length+1) * 8≤140737488355328):=η (by unfold maxLen; omega);have q0:wc.cell? ⟨sb,1,none⟩=some (.slice bR rn.length bX):=ai S2.blk;have q1:wc.frozen? ⟨sb,1,none⟩=false:=ax S2.blk;have q2:sb < wc.heap.size:=ψ S2.blk;clear S2 F2 X2 B2 aa
  go_wp2_with (first | (at_builtin; refine wW (by rfl) (.tmp 30) (.tmp 32) _ (by rfl) B 3 i9 (.int .i64 0) 1 8 Tryz.underlying49 hj ac ae af rfl (Θ 0) (.slice bR rn.length bX) rn.length cq (by rfl) a0.out.cR.own (some ⟨wc.heap.size,0,none⟩) 1 1 _ (by rfl) rfl am.out a7.out.one c8.out.1 c8.out.2 a0.out.qE ?_; intro A5 c5 w5 h5 g5 l5; have HZ:=η (kF.round a0.out c4.out c7.out ab.out a9 a7.out h5 g5 l5); replace q0:=HZ.out.1; replace q1:=HZ.out.2.1; clear h5 g5 l5) | go_in)
  have aR:=η HZ.out.2.2;clear q0 q1 q2 HZ a0 c4 c7 ab a7 am;generalize (w5.setCell ⟨sb,1,none⟩ (.slice A5 (rn.length+1) c5))=W3 at *;obtain ⟨_,y3,y4,y5,y6,y7,cv,aD⟩:=aR.out.cells;have hT:=η (rV a (.string a.name) (.slice Ae a.args.length ce) cv W3.drew (ak.keep aD fun _ _=>rfl) (by have:=JH hok; omega));have c9:Hid (∀ w2:World,Below W3.heap.size W3 w2→∃ w9,(Instr.mapUpdate 116 (.map (some mp)) (.string ⟨(yw a).toArray⟩) (.int .i64 fs.length)).run Tryz.prog w2=.ok () w9∧kF B sb mu mp (fs.length+1) (rn.length+1) (fs ++ [a]) (bf ++ ba) (rn ++ [rd]) (Lp ++ [(.string (eX a),.int .i64 (fs.length:Nat))]) (idxs fs) B0 w.heap.size fr a Ae ce w w9):=η fun w2 h2=>(aR.out.later h2).place a9.2.2.1 (sK hok) _ ci
  clear aD
  go_cut [] from 36 to 42 (fun wx=>kF B sb mu mp (fs.length+1) (rn.length+1) (fs ++ [a]) (bf ++ ba) (rn ++ [rd]) (Lp ++ [(.string (eX a),.int .i64 (fs.length:Nat))]) (idxs fs) B0 w.heap.size fr a Ae ce w wx)
  case first=>
   go_region_law
    (first
     | (go_simp; go_at_call 61; refine hT.out.mono ?_; rintro e w2 ⟨rfl,ca⟩; have ab:=η ((Below.refl W3.heap.size W3).drew.trans ca); replace y3:=ξ ab.out y3; obtain ⟨w9,cw,y⟩:=c9.out w2 ab.out; have a8:=η y; clear ca y))
   all_goals
    clear y3 y4 y5 cw ab
    go_wp2_with fail
    go_meet
    exact a8.out
  case rest=>
   have b4:=η hcut;clear hcut aR hT c9 y3 y4 y5 y6 y7;obtain ⟨y2,_,y4,y5,y6,y7,_⟩:=b4.out.cells;have b5:Below wc.heap.size wc (wc.alloc (.cells #[.string a.name,.int .i64 a.args.length,.int .i64 (-1),.string ⟨#[]⟩] 236)):=ζ;have b6:=η (b4.out.later b5);have k0:(wc.alloc (.cells #[.string a.name,.int .i64 a.args.length,.int .i64 (-1),.string ⟨#[]⟩] 236)).cell? ⟨wc.heap.size,0,none⟩=some (.string a.name):=by go_simp
   have k1:(wc.alloc (.cells #[.string a.name,.int .i64 a.args.length,.int .i64 (-1),.string ⟨#[]⟩] 236)).cell? ⟨wc.heap.size,1,none⟩=some (.int .i64 a.args.length):=by go_simp
   have k2:(wc.alloc (.cells #[.string a.name,.int .i64 a.args.length,.int .i64 (-1),.string ⟨#[]⟩] 236)).cell? ⟨wc.heap.size,2,none⟩=some (.int .i64 (-1)):=by go_simp
   have k3:(wc.alloc (.cells #[.string a.name,.int .i64 a.args.length,.int .i64 (-1),.string ⟨#[]⟩] 236)).cell? ⟨wc.heap.size,3,none⟩=some (.string ⟨#[]⟩):=by go_simp
   have x2:=ξ b5 y2;have kz:=lt_of_cell k0;have sz:sb < (wc.alloc (.cells #[.string a.name,.int .i64 a.args.length,.int .i64 (-1),.string ⟨#[]⟩] 236)).heap.size:=by simp; omega
   clear b5;go_wp2;generalize wc.alloc (.cells #[.string a.name,.int .i64 a.args.length,.int .i64 (-1),.string ⟨#[]⟩] 236)=W5 at *;have b1:Below W5.heap.size W5 W5.drew:=ϑ.drew;have b2:Below W5.heap.size W5 (W5.alloc (.cells #[.int .i64 fs.length] 3)).drew:=(ζ).drew;have cx:=η (ι b1 b2);have b7:Hid (∀ w':World,Below W5.heap.size W5 w'→∃ r w9,(Instr.mapEntry 125 (.map (some mu)) (.agg #[.string a.name,.int .i64 a.args.length,.int .i64 (-1),.string ⟨#[]⟩])).run Tryz.prog w'=.ok r w9∧∃ u n L,r=.tuple #[u,.int .i64 (n:Nat)]∧NS B sb mu mp (fs.length+1) (rn.length+1) (fs ++ [a]) (bf ++ ba) (rn ++ [rd]) (Lp ++ [(.string (eX a),.int .i64 (fs.length:Nat))]) (idxs fs) B0 w.heap.size fr a Ae ce w ⟨a.name,a.args.length,-1,⟨#[]⟩⟩ u L n w9∧w'.grownBy w9 (some mu)):=η fun w' h'=>(b6.out.later h').entry a9.2.1 ⟨a.name,a.args.length,-1,⟨#[]⟩⟩
   have aw:Hid (mu < W5.heap.size):=η (by
    obtain ⟨_,_,_,_,_,_,_,h1,_⟩:=b6.out
    have:=h1.qE; have:=h1.lo.2.1; omega)
   have cb:Hid ((W5.alloc (.cells #[.int .i64 fs.length] 3)).drew.heap[W5.heap.size]? = some (.cells #[.int .i64 fs.length] 3 (0,0))):=η (ω W5 _)
   have U:Hid ((idxs fs ⟨a.name,a.args.length,-1,⟨#[]⟩⟩).length+1≤maxLen∧((idxs fs ⟨a.name,a.args.length,-1,⟨#[]⟩⟩).length+1) * 8≤140737488355328):=η (by
    have:=nX fs ⟨a.name,a.args.length,-1,⟨#[]⟩⟩
    unfold maxLen; omega)
   obtain ⟨_,ao,a1,u1,n1,L1,rfl,a3,aq⟩:=b7.out _ b1;obtain ⟨_,b9,a2,u2,n2,L2,rfl,a4,a5⟩:=b7.out _ b2;have I:=η a3;have J:=η a4
   have a6:Hid (Lies b9 (some ⟨W5.heap.size,0,none⟩) [.int .i64 (fs.length:Nat)]):=η (by
    have hh:=(a5.block W5.heap.size (by simp) (fun e=>by have:=aw.out; injection e with e; omega)).trans cb.out
    have:=aP hh; simpa using this)
   clear b1 b2 a3 a4 aq a5
   go_cut [] from 49 to 59 (fun wx=>kF B sb mu mp (fs.length+1) (rn.length+1) (fs ++ [a]) (bf ++ ba) (rn ++ [rd]) (Lp ++ [(.string (eX a),.int .i64 (fs.length:Nat))]) (FK (idxs fs) ⟨a.name,a.args.length,-1,⟨#[]⟩⟩ fs.length) B0 w.heap.size fr a Ae ce w wx)
   case first=>
    go_region_law
     (first
      | (refine iJ (by rfl) (.tmp 54) (.tmp 56) _ (by rfl) B 3 i9 (.int .i64 0) 1 8 Tryz.underlying49 hj ac ae af rfl (Θ 0) u2 (idxs fs ⟨a.name,a.args.length,-1,⟨#[]⟩⟩).length L2 (by rfl) J.out.own (some ⟨W5.heap.size,0,none⟩) 1 1 [.int .i64 (fs.length:Nat)] (by rfl) rfl a6.out (by simp [Value.oneCell']) U.out.1 U.out.2 J.out.qE ?_; intro A6 c6 w6 h6 g6 l6; obtain ⟨w9,ar,y⟩:=J.out.store ϑ h6 g6 l6; have a8:=η y; clear h6 g6 l6 y)
      | (refine iJ (by rfl) (.tmp 54) (.tmp 56) _ (by rfl) B 3 i9 (.int .i64 0) 1 8 Tryz.underlying49 hj ac ae af rfl (Θ 0) u1 (idxs fs ⟨a.name,a.args.length,-1,⟨#[]⟩⟩).length L1 (by rfl) (I.out.WI (ζ)) (some ⟨ao.heap.size,0,none⟩) 1 1 [.int .i64 (fs.length:Nat)] (by rfl) rfl (by have:=aP (ω ao (.cells #[.int .i64 fs.length] 3)); simpa using this) (by simp [Value.oneCell']) U.out.1 U.out.2 (τ I.out.qE (by simp)) ?_; intro A6 c6 w6 h6 g6 l6; obtain ⟨w9,ar,y⟩:=I.out.store (ζ) h6 g6 l6; have a8:=η y; clear h6 g6 l6 y))
    all_goals
     clear ar
     go_wp2_with fail
     go_meet
     exact a8.out
   case rest=>
    rw [V3] at hcut;have cc:=η hcut;obtain ⟨_,_,y4,y5,y6,y7,_⟩:=hcut.cells;have cX:=P5 hok;clear hcut b4 b6 k0 k1 k2 k3 x2 kz sz a1 a2 I J a6 b7 cx cb U aw y2;go_wp2
    go_loopw [63] (fun i wr=>∃ (k:Nat),k≤a.args.length∧i=.int .i64 k∧kF B sb mu mp (fs.length+1) (rn.length+1) (fs ++ [a]) (bf ++ ba) (rn ++ [rd]) (Lp ++ [(.string (eX a),.int .i64 (fs.length:Nat))]) (wH (idxs fs) a fs.length (k+1)) B0 w.heap.size fr a Ae ce w wr) (fun i _=>a.args.length - (intOf i).toNat)
    case atStart=>exact ⟨0,ε,rfl,cc.out⟩
    case round=>
     obtain ⟨k,hk,rfl,hI⟩:=hrel;clear cc y4 y5 y6 y7;by_cases av:k < a.args.length
     ·obtain ⟨y2,_,y4,y5,y6,y7,cY,cd⟩:=hI.cells
      obtain ⟨b8,o8,rfl,_,f0,f1,_⟩:=fJ (dM cd) av;have d0:(0:Int)≤(k:Int):=by omega
      have cy:(k:Int) < (a.args.length:Int):=by omega
      have bc:Hid (∀ w9,kF B sb mu mp (fs.length+1) (rn.length+1) (fs ++ [a]) (bf ++ ba) (rn ++ [rd]) (Lp ++ [(.string (eX a),.int .i64 (fs.length:Nat))]) (FK (wH (idxs fs) a fs.length (k+1)) ⟨a.name,a.args.length,k,a.args[k].name⟩ fs.length) B0 w.heap.size fr a (some ⟨b8,o8,none⟩) ce w w9→kF B sb mu mp (fs.length+1) (rn.length+1) (fs ++ [a]) (bf ++ ba) (rn ++ [rd]) (Lp ++ [(.string (eX a),.int .i64 (fs.length:Nat))]) (wH (idxs fs) a fs.length (k+1+1)) B0 w.heap.size fr a (some ⟨b8,o8,none⟩) ce w w9):=η fun w9 h9=>by
       rw [← QG a k av,IQ] at h9; exact h9
      have U:Hid ((wH (idxs fs) a fs.length (k+1) ⟨a.name,a.args.length,k,a.args[k].name⟩).length+1≤maxLen∧((wH (idxs fs) a fs.length (k+1) ⟨a.name,a.args.length,k,a.args[k].name⟩).length+1) * 8≤140737488355328):=η (by
       rw [← QG a k av,NQ];have:=nX fs ((keysOf a)[k+1]'(by rw [zB]; omega))
       unfold maxLen; omega)
      have cg:=η av;have HI:=η hI;clear hI cd hk;generalize a.args[k]=t at *;clear av;have bg:Below wr.heap.size wr ((wr.alloc (.cells #[.bool t.var,.string t.name] 91)).alloc (.cells #[.string a.name,.int .i64 a.args.length,.int .i64 k,.string t.name] 236)):=(ζ).alloc (by simp) _;have bh:=η (HI.out.later bg);have x2:=ξ bg y2;have bi:((wr.alloc (.cells #[.bool t.var,.string t.name] 91)).alloc (.cells #[.string a.name,.int .i64 a.args.length,.int .i64 k,.string t.name] 236)).heap.size=wr.heap.size+2:=by simp
      have k0:((wr.alloc (.cells #[.bool t.var,.string t.name] 91)).alloc (.cells #[.string a.name,.int .i64 a.args.length,.int .i64 k,.string t.name] 236)).cell? ⟨wr.heap.size+1,0,none⟩=some (.string a.name):=by go_simp
      have k1:((wr.alloc (.cells #[.bool t.var,.string t.name] 91)).alloc (.cells #[.string a.name,.int .i64 a.args.length,.int .i64 k,.string t.name] 236)).cell? ⟨wr.heap.size+1,1,none⟩=some (.int .i64 a.args.length):=by go_simp
      have k2:((wr.alloc (.cells #[.bool t.var,.string t.name] 91)).alloc (.cells #[.string a.name,.int .i64 a.args.length,.int .i64 k,.string t.name] 236)).cell? ⟨wr.heap.size+1,2,none⟩=some (.int .i64 k):=by go_simp
      have k3:((wr.alloc (.cells #[.bool t.var,.string t.name] 91)).alloc (.cells #[.string a.name,.int .i64 a.args.length,.int .i64 k,.string t.name] 236)).cell? ⟨wr.heap.size+1,3,none⟩=some (.string t.name):=by go_simp
      have kz:wr.heap.size+1 < ((wr.alloc (.cells #[.bool t.var,.string t.name] 91)).alloc (.cells #[.string a.name,.int .i64 a.args.length,.int .i64 k,.string t.name] 236)).heap.size:=by rw [bi]; omega
      have sz:sb < ((wr.alloc (.cells #[.bool t.var,.string t.name] 91)).alloc (.cells #[.string a.name,.int .i64 a.args.length,.int .i64 k,.string t.name] 236)).heap.size:=by rw [bi]; omega
      clear bg bi;go_wp2;generalize ((wr.alloc (.cells #[.bool t.var,.string t.name] 91)).alloc (.cells #[.string a.name,.int .i64 a.args.length,.int .i64 k,.string t.name] 236))=W5 at *;have b1:Below W5.heap.size W5 W5.drew:=ϑ.drew;have b2:Below W5.heap.size W5 (W5.alloc (.cells #[.int .i64 fs.length] 3)).drew:=(ζ).drew
      have aw:Hid (mu < W5.heap.size):=η (by
       obtain ⟨_,_,_,_,_,_,_,h1,_⟩:=bh.out
       have:=h1.qE; have:=h1.lo.2.1; omega)
      obtain ⟨_,ao,a1,u1,n1,L1,rfl,a3,aq⟩:=(bh.out.later b1).entry a9.2.1 ⟨a.name,a.args.length,k,t.name⟩;obtain ⟨_,b9,a2,u2,n2,L2,rfl,a4,a5⟩:=(bh.out.later b2).entry a9.2.1 ⟨a.name,a.args.length,k,t.name⟩;dsimp only at a1 a2;have I:=η a3;have J:=η a4
      have a6:Hid (Lies b9 (some ⟨W5.heap.size,0,none⟩) [.int .i64 (fs.length:Nat)]):=η (by
       have hh:=(a5.block W5.heap.size (by simp) (fun e=>by have:=aw.out; injection e with e; omega)).trans (ω W5 (.cells #[.int .i64 fs.length] 3))
       have:=aP hh; simpa using this)
      clear b1 b2 a3 a4 aq a5
      go_region_law
       (first
        | (refine iJ (by rfl) (.tmp 82) (.tmp 84) _ (by rfl) B 3 i9 (.int .i64 0) 1 8 Tryz.underlying49 hj ac ae af rfl (Θ 0) u2 _ L2 (by rfl) J.out.own (some ⟨W5.heap.size,0,none⟩) 1 1 [.int .i64 (fs.length:Nat)] (by rfl) rfl a6.out (by simp [Value.oneCell']) U.out.1 U.out.2 J.out.qE ?_; intro A6 c6 w6 h6 g6 l6; obtain ⟨w9,ar,y⟩:=J.out.store ϑ h6 g6 l6; have a8:=η (bc.out _ y); clear h6 g6 l6 y)
        | (refine iJ (by rfl) (.tmp 82) (.tmp 84) _ (by rfl) B 3 i9 (.int .i64 0) 1 8 Tryz.underlying49 hj ac ae af rfl (Θ 0) u1 _ L1 (by rfl) (I.out.WI (ζ)) (some ⟨ao.heap.size,0,none⟩) 1 1 [.int .i64 (fs.length:Nat)] (by rfl) rfl (by have:=aP (ω ao (.cells #[.int .i64 fs.length] 3)); simpa using this) (by simp [Value.oneCell']) U.out.1 U.out.2 (τ I.out.qE (by simp)) ?_; intro A6 c6 w6 h6 g6 l6; obtain ⟨w9,ar,y⟩:=I.out.store (ζ) h6 g6 l6; have a8:=η (bc.out _ y); clear h6 g6 l6 y))
      all_goals
       clear ar x2 k0 k1 k2 k3 a1 a2 I J a6 bc U;go_wp2;go_roundw
       case rel=>exact ⟨k+1,cg.out,by go_num,a8.out⟩
       case measure=>have:=cg.out; simp [intOf]; omega
     ·have he:k=a.args.length:=by omega
      subst he;have cy:¬ (a.args.length:Int) < (a.args.length:Int):=by omega
      rw [V4] at hI;have HD:=η hI;clear hI;go_wp2
      go_end0
      obtain ⟨cz,cA,cB,cD,cE,cG,cI,h1,h2,h3,h4,h5⟩:=HD.out;exact ⟨rfl,h4,cz,cA,cB,cD,cE,cG,cI,h1,fun x hx=>⟨h2.2 x hx,h3.2.2.2 x hx⟩⟩
end
end Go.Proofs.YtkjinanbccloeaaGreatDoor
