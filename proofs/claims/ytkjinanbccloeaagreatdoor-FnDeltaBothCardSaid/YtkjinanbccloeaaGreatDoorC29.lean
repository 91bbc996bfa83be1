/- Of the proof of FnDeltaBoth: DrawDl, RunP2. -/
import Derived.Test.YtkjinanbccloeaaGreatDoorC28
set_option linter.unusedVariables false
set_option maxHeartbeats 4000000
set_option maxRecDepth 100000
namespace Go.Proofs.YtkjinanbccloeaaGreatDoor
section
open Go.RowKit D
attribute [local go_sem ↓] Go.wp_at_zero Go.wp_at_succ
def YL (w:World) (e:Ending) (w':World):Prop:=∃ (rs:List Ru) (A0:Option Addr) (c0:Nat) (b0:List Nat) (xs:List A) (A1:Option Addr) (c1:Nat) (b1:List Nat) (c:Ch) (A2 A3:Option Addr) (c2 c3:Nat) (b2 b3:List Nat),
 e=.returned (.tuple #[.slice A0 rs.length c0,.slice A1 xs.length c1,.agg #[.slice A2 c.comes.length c2,.slice A3 c.goes.length c3]])∧fA w' [.slice A0 rs.length c0] rs b0∧ay w' [.slice A1 xs.length c1] xs b1∧ay w' [.slice A2 c.comes.length c2] c.comes b2∧ay w' [.slice A3 c.goes.length c3] c.goes b3∧
  rs.length≤9∧xs.length≤50∧(c.comes.length≤50∧c.goes.length≤50)∧Below w.heap.size w w'
structure Qu (g q:Nat) (w:World) (n0 n1:Nat) (rs:List Ru) (A0:Option Addr) (c0:Nat) (b0:List Nat) (xs:List A) (A1:Option Addr) (c1:Nat) (b1:List Nat) (c:Ch) (A2 A3:Option Addr) (c2 c3:Nat) (b2 b3:List Nat) (wr:World):Prop where
 r0:wr.heap[n0]? = some (.cells #[.slice none 0 0,.slice none 0 0] 54 (0,0))
 r1:wr.heap[n1]? = some (.cells #[.slice A2 c.comes.length c2,.slice A3 c.goes.length c3] 54 (0,0))
 rl:fA wr [.slice A0 rs.length c0] rs b0
 at1:ay wr [.slice A1 xs.length c1] xs b1
 at2:ay wr [.slice A2 c.comes.length c2] c.comes b2
 at3:ay wr [.slice A3 c.goes.length c3] c.goes b3
 ap:∀ b ∈ b0,b ≠ n0∧b ≠ n1∧b ≠ g
 rdr:kP g q wr
 bel:Below w.heap.size w wr
 hn:w.heap.size≤n0∧n0 < n1∧n0 < g∧g < n1
section
variable {g q:Nat} {w:World} {n0 n1:Nat} {rs:List Ru} {A0:Option Addr} {c0:Nat} {b0:List Nat} {xs:List A} {A1:Option Addr} {c1:Nat} {b1:List Nat} {c:Ch} {A2 A3:Option Addr} {c2 c3:Nat} {b2 b3:List Nat} {wr:World}
theorem Qu.call {q2:Nat} {w2:World} (h:Qu g q w n0 n1 rs A0 c0 b0 xs A1 c1 b1 c A2 A3 c2 c3 b2 b3 wr) (y:kP g q2 w2) (hK:aI [g] wr w2):Qu g q2 w n0 n1 rs A0 c0 b0 xs A1 c1 b1 c A2 A3 c2 c3 b2 b3 w2:=by
 have hn:=h.hn;have I:=dB h.rdr.Gm h.at1;have J:=dB h.rdr.Gm h.at2;have U:=dB h.rdr.Gm h.at3;exact ⟨hK.blk h.r0 (by simp; omega),hK.blk h.r1 (by simp; omega),Good.kept aU h.rl hK (fun b hb=>by simp; exact (h.ap b hb).2.2),Good.kept ak h.at1 hK (fun b hb=>by simp; intro e; exact I (e ▸ hb)),Good.kept ak h.at2 hK (fun b hb=>by simp; intro e; exact J (e ▸ hb)),Good.kept ak h.at3 hK (fun b hb=>by simp; intro e; exact U (e ▸ hb)),h.ap,y,h.bel.trans (hK.below (fun b hb=>by simp at hb; omega) h.bel.size),hn⟩
theorem vY {w:World} {n0:Nat} {o:Nat} {u v:Value} {xs:List Ru} {bs:List Nat} (h:fA w [v] xs bs) (hn:∀ b ∈ bs,b ≠ n0):fA (w.setCell ⟨n0,o,none⟩ u) [v] xs bs:=
 aU.keep h fun b hb=>π _ _ _ _ (hn b hb)
theorem Qu.goes {a:A} {y I:Value} {bk:List Nat} (h:Qu g q w n0 n1 rs A0 c0 b0 xs A1 c1 b1 c A2 A3 c2 c3 b2 b3 wr) (ha:aK wr [y,I] a bk):∃ U,Qu g q w n0 n1 rs A0 c0 b0 xs A1 c1 b1 ⟨[],[a]⟩ none (some ⟨wr.heap.size,0,none⟩) 0 1 [] U (((wr.alloc (.cells #[y,I] 33)).setCell ⟨n1,0,none⟩ (.slice none 0 0)).setCell ⟨n1,1,none⟩ (.slice (some ⟨wr.heap.size,0,none⟩) 1 1)):=by
 have hn:=h.hn;have J:Below wr.heap.size wr (wr.alloc (.cells #[y,I] 33)):=ζ;obtain ⟨U,h4,_⟩:=(aW.dP (n:=2) (R:=aK) fJ (au.below ha J)).slice (World.ownsRow_lit (base:=wr.heap.size) (e:=33) wr #[y,I] 1 ν (by unfold maxLen; omega) rfl);have r0:=(J.block n0 (ψ h.r0)).trans h.r0;have r1:=(J.block n1 (ψ h.r1)).trans h.r1;have s1:=dB (iw r1) (ak.below h.at1 J);have s4:=dB (iw r1) h4;have hB:Below w.heap.size (wr.alloc (.cells #[y,I] 33)) (((wr.alloc (.cells #[y,I] 33)).setCell ⟨n1,0,none⟩ (.slice none 0 0)).setCell ⟨n1,1,none⟩ (.slice (some ⟨wr.heap.size,0,none⟩) 1 1)):=(ϑ.setCell (p:=⟨n1,0,none⟩) (by dsimp only; omega) _).setCell (p:=⟨n1,1,none⟩) (by dsimp only; omega) _;have a0:Below (g+1) (wr.alloc (.cells #[y,I] 33)) (((wr.alloc (.cells #[y,I] 33)).setCell ⟨n1,0,none⟩ (.slice none 0 0)).setCell ⟨n1,1,none⟩ (.slice (some ⟨wr.heap.size,0,none⟩) 1 1)):=(ϑ.setCell (p:=⟨n1,0,none⟩) (by dsimp only; omega) _).setCell (p:=⟨n1,1,none⟩) (by dsimp only; omega) _
 exact ⟨U,(π _ _ _ _ (by dsimp only; omega)).trans ((π _ _ _ _ (by dsimp only; omega)).trans r0),rG (pG r1),vY (vY (aU.below h.rl J) fun b hb=>(h.ap b hb).2.1) fun b hb=>(h.ap b hb).2.1,eu (eu (ak.below h.at1 J) s1) s1,bW _,eu (eu h4 s4) s4,h.ap,(h.rdr.below J).fE a0 (Nat.lt_succ_self g),h.bel.trans ((J.mono h.bel.size).trans hB),hn⟩
theorem Qu.done (h:Qu g q w n0 n1 rs A0 c0 b0 xs A1 c1 b1 c A2 A3 c2 c3 b2 b3 wr) (h1:rs.length≤9) (y:xs.length≤50) (I:c.comes.length≤50∧c.goes.length≤50):
  YL w (.returned (.tuple #[.slice A0 rs.length c0,.slice A1 xs.length c1,.agg #[.slice A2 c.comes.length c2,.slice A3 c.goes.length c3]])) ((wr.setCell ⟨n0,0,none⟩ (.slice A2 c.comes.length c2)).setCell ⟨n0,1,none⟩ (.slice A3 c.goes.length c3)):=by
 have hn:=h.hn;have s1:=dB (iw h.r0) h.at1;have s2:=dB (iw h.r0) h.at2;have s3:=dB (iw h.r0) h.at3;exact ⟨rs,A0,c0,b0,xs,A1,c1,b1,c,A2,A3,c2,c3,b2,b3,rfl,vY (vY h.rl fun b hb=>(h.ap b hb).1) fun b hb=>(h.ap b hb).1,eu (eu h.at1 s1) s1,eu (eu h.at2 s2) s2,eu (eu h.at3 s3) s3,h1,y,I,(h.bel.setCell (p:=⟨n0,0,none⟩) (by dsimp only; omega) _).setCell (p:=⟨n0,1,none⟩) (by dsimp only; omega) _⟩
theorem Qu.drew (h:Qu g q w n0 n1 rs A0 c0 b0 xs A1 c1 b1 c A2 A3 c2 c3 b2 b3 wr):Qu g q w n0 n1 rs A0 c0 b0 xs A1 c1 b1 c A2 A3 c2 c3 b2 b3 wr.drew:=
 ⟨h.r0,h.r1,aU.keep h.rl fun _ _=>rfl,ak.keep h.at1 fun _ _=>rfl,ak.keep h.at2 fun _ _=>rfl,ak.keep h.at3 fun _ _=>rfl,h.ap,h.rdr.drew,h.bel.drew,h.hn⟩
theorem Qu.cells (h:Qu g q w n0 n1 rs A0 c0 b0 xs A1 c1 b1 c A2 A3 c2 c3 b2 b3 wr):wr.cell? ⟨n1,0,none⟩=some (.slice A2 c.comes.length c2)∧wr.cell? ⟨n1,1,none⟩=some (.slice A3 c.goes.length c3)∧wr.frozen? ⟨n1,0,none⟩=false∧wr.frozen? ⟨n1,1,none⟩=false∧wr.cell? ⟨n0,0,none⟩=some (.slice none 0 0)∧wr.cell? ⟨n0,1,none⟩=some (.slice none 0 0)∧wr.frozen? ⟨n0,0,none⟩=false∧wr.frozen? ⟨n0,1,none⟩=false:=
 ⟨ai h.r1,ai h.r1,ax h.r1,ax h.r1,ai h.r0,ai h.r0,ax h.r0,ax h.r0⟩
end
theorem wR (v:Value) (cs:List UInt8) (bs:List Nat) (w:World) (h:tX w [v] cs bs) (hn:cs.length≤1048576):
  Calls Tryz.prog 28 #[v] w (YL w):=by
 have hA:Below w.heap.size w (w.alloc (.cells #[.slice none 0 0,.slice none 0 0] 54)):=ζ;have HZ:=η (ω w (.cells #[.slice none 0 0,.slice none 0 0] 54));have ho:=open_any v cs bs _ (tY.below h hA) hn;have HA:=η hA;have HS:Hid ((w.alloc (.cells #[.slice none 0 0,.slice none 0 0] 54)).heap.size=w.heap.size+1):=η (by simp);clear h hA
 go_enter Tryz.func28,Tryz.ntmps28
 go_wp2_with fail
 refine ho.mono ?_;rintro e w1 ⟨rfl,hR,hb⟩;have HB:=η (HA.out.trans (hb.mono HA.out.size));have a3:=η ((hb.block _ (ψ HZ.out)).trans HZ.out);have hd:=JK _ 0 w1 hR (by omega);have HG:=η hR.lt;rw [HS.out] at hR hd HG;clear ho hb HZ HA
 go_wp2_with fail
 refine hd.mono ?_;rintro e w2 ⟨rs,A0,c0,b0,xs,A1,c1,b1,p',rfl,h1,h2,g0,g1,h3,h4,h5,h6,a5,af,hK⟩;have av:Hid (w.heap.size+1 < w2.heap.size):=η (by have:=HG.out; have:=hK.size; omega);have a6:=Bf (w.heap.size+1) p' _ a5 (by omega);have HX:=η (ι h1 (ι h2 (ι g0 (ι g1 (ι h3 (ι h5 hK))))));have HP:Hid (p'≤400):=η (by omega);clear hd h1 h2 g0 g1 h3 h4 h5 h6 a5 af hK hR
 go_wp2_with fail
 refine a6.mono ?_;rintro e J ⟨c,A2,A3,c2,c3,b2,b3,q,rfl,hc,hg,⟨s1,s2,_,_⟩,a7,hq,a0⟩;have U:Below J.heap.size J (J.alloc (.cells #[.slice A2 c.comes.length c2,.slice A3 c.goes.length c3] 54)):=ζ;have aw:Hid (J.heap[w.heap.size]? = some (.cells #[.slice none 0 0,.slice none 0 0] 54 (0,0))):=η (a0.blk ((HX.out.2.2.2.2.2.2.blk a3.out (by simp))) (by simp))
 have I:Hid (Qu (w.heap.size+1) q w w.heap.size J.heap.size rs A0 c0 b0 xs A1 c1 b1 c A2 A3 c2 c3 b2 b3 (J.alloc (.cells #[.slice A2 c.comes.length c2,.slice A3 c.goes.length c3] 54))):=η (by
  obtain ⟨x1,x2,x3,x4,x5,x6,x7⟩:=HX.out;have az:=HG.out;have hz:=(a0.blk ((x7.blk a3.out (by simp))) (by simp));have aD:=a0.size;have aE:=x7.size;have l0:=Good.kept aU x1 a0 (fun b hb=>by simp; have:=x3 b hb; omega);have l1:=Good.kept ak x2 a0 (fun b hb=>by simp; have:=x4 b hb; omega);have k9:Below w.heap.size w J:=HB.out.trans ((x7.trans a0).below (fun b hb=>by simp at hb; omega) HB.out.size)
  exact ⟨(U.block _ (ψ hz)).trans hz,ω J _,aU.below l0 U,ak.below l1 U,ak.below hc U,ak.below hg U,fun b hb=>⟨by have:=x3 b hb; omega,by have:=aU.lt l0 b hb; omega,by have:=x3 b hb; omega⟩,a7.below U,k9.trans (U.mono k9.size),⟨ν,by omega,by omega,by omega⟩⟩)
 have y:Hid (rs.length≤9∧xs.length≤50∧c.comes.length≤50∧c.goes.length≤50∧q≤700):=η ⟨HX.out.2.2.2.2.1,HX.out.2.2.2.2.2.1,s1,by omega,by have:=HP.out; omega⟩;clear a6 hc hg s1 s2 a7 hq a0 HX a3 HB U;have ag:Hid (w.heap.size < J.heap.size):=η I.out.hn.2.1;have aL:=ag.out;by_cases a4:xs.length=0
 ·have am:¬ (0:Int) < (xs.length:Int):=by omega
  clear a4
  go_wp2_with fail
  obtain ⟨W,hW⟩:∃ W,W=J.alloc (.cells #[.slice A2 c.comes.length c2,.slice A3 c.goes.length c3] 54):=⟨_,rfl⟩;rw [← hW] at I;rw [← hW];clear hW;obtain ⟨q0,q1,_,_,z0,z1,f0,f1⟩:=I.out.cells;have HD:=η (I.out.drew.done y.out.1 y.out.2.1 ⟨y.out.2.2.1,y.out.2.2.2.1⟩);clear I;go_region;go_wp2;refine bodyPost_ret (v:=.tuple #[.slice A0 rs.length c0,.slice A1 xs.length c1,.agg #[.slice A2 c.comes.length c2,.slice A3 c.goes.length c3]]) (by simp [results,Tryz.results28,go_sem,z0,z1]) rfl HD.out
 ·have am:(0:Int) < (xs.length:Int):=by omega
  have a1:=pick_any _ q 2 _ I.out.rdr (by have:=y.out; omega) (by omega) (by omega);have ao:=η a4;clear a4
  go_wp2_with fail
  refine a1.mono ?_;rintro e w4 ⟨j,rfl,hj,a8,a9⟩;replace I:=η (I.out.call a8 (aI.dL a9));clear a1 a8 a9;by_cases aq:j=0
  ·subst aq
   clear hj;have a1:=pick_any _ (q+1) xs.length w4 I.out.rdr (by have:=y.out; omega) (by have:=ao.out; omega) (by have:=y.out; omega)
   go_wp2_with fail
   refine a1.mono ?_;rintro e w5 ⟨k,rfl,hk,aa,ab⟩;replace I:=η (I.out.call aa (aI.dL ab));have ac:k < xs.length:=by omega
   obtain ⟨bq,oq,Ae,ce,bk,e0,_,y0,y1,ae,_⟩:=eG I.out.at1 ac;subst e0;obtain ⟨q0,q1,p0,p1,z0,z1,f0,f1⟩:=I.out.cells;obtain ⟨b4,hI⟩:=I.out.goes ae;have aM:=ψ I.out.r1;have aR:=ψ I.out.r0;have b5:(0:Int)≤(k:Int):=by omega
   have a2:=η hI;clear a1 aa ab ae hI I;generalize xs[k]=a at *;clear ac;have ar:¬ (J.heap.size=w.heap.size):=by omega
   go_wp2_with fail
   have he:((w5.alloc (.cells #[.string a.name,.slice Ae a.args.length ce] 33)).setCell ⟨J.heap.size,0,none⟩ (.slice none 0 0)).setCell ⟨J.heap.size,1,none⟩ (.slice (some ⟨w5.heap.size,0,none⟩) 1 1)=((w5.setCell ⟨J.heap.size,0,none⟩ (.slice none 0 0)).setCell ⟨J.heap.size,1,none⟩ (.slice (some ⟨w5.heap.size,0,none⟩) 1 1)).alloc (.cells #[.string a.name,.slice Ae a.args.length ce] 33):=by go_simp
   rw [he] at a2;clear he;obtain ⟨W,hW⟩:∃ W,W=((w5.setCell ⟨J.heap.size,0,none⟩ (.slice none 0 0)).setCell ⟨J.heap.size,1,none⟩ (.slice (some ⟨w5.heap.size,0,none⟩) 1 1)).alloc (.cells #[.string a.name,.slice Ae a.args.length ce] 33):=⟨_,rfl⟩;rw [← hW] at a2;rw [← hW];clear hW;clear q0 q1 p0 p1 z0 z1 f0 f1;obtain ⟨q0,q1,_,_,z0,z1,f0,f1⟩:=a2.out.cells;have HD:=η (a2.out.drew.done y.out.1 y.out.2.1 ⟨ε,(by decide:1≤50)⟩);clear a2;go_region;go_wp2;refine bodyPost_ret (v:=.tuple #[.slice A0 rs.length c0,.slice (some ⟨bq,oq,none⟩) xs.length c1,.agg #[.slice none 0 0,.slice (some ⟨w5.heap.size,0,none⟩) 1 1]]) (by simp [results,Tryz.results28,go_sem,z0,z1]) rfl HD.out
  ·have b6:((j:Int) == 0)=false:=beq_eq_false_iff_ne.2 (by omega)
   obtain ⟨q0,q1,_,_,z0,z1,f0,f1⟩:=I.out.cells;have HD:=η (I.out.drew.done y.out.1 y.out.2.1 ⟨y.out.2.2.1,y.out.2.2.2.1⟩);clear I;go_wp2;go_region;go_wp2;refine bodyPost_ret (v:=.tuple #[.slice A0 rs.length c0,.slice A1 xs.length c1,.agg #[.slice A2 c.comes.length c2,.slice A3 c.goes.length c3]]) (by simp [results,Tryz.results28,go_sem,z0,z1]) rfl HD.out
end
section
open Go.RowKit D
structure D.sS (vars:List ByteArray) (fs ps ns:List A) (head:A) (wt:Nat→Bool):Prop where
 hv:kC vars
 p4:ps.length≤4
 fl:fs.length≤1000000
 nl:ns.length≤1000000
 fok:∀ f ∈ fs,bG f
 pok:∀ p ∈ ps,bU p=true
 nok:∀ n ∈ ns,bU n=true
 hok:bU head=true
 pin:∀ p ∈ ps,∀ t ∈ p.args,t.var=true→t.name ∈ vars
 nin:∀ n ∈ ns,∀ t ∈ n.args,t.var=true→t.name ∈ vars
 hin:∀ t ∈ head.args,t.var=true→t.name ∈ vars
 want:∀ i,i < 12→wt i=ND vars head ns i
 tight:∀ b,(∀ p ∈ ps,yO b p.args)→yO b head.args∧∀ n ∈ ns,yO b n.args
structure D.dm (K:Nat→Prop) (sk:Nat) (w w':World):Prop where
 os:w'.os=w.os
 tape:w'.tape=w.tape
 output:w'.output=w.output
 size:w.heap.size≤w'.heap.size
 block:∀ k,k < w.heap.size→K k→w'.heap[k]? = w.heap[k]?
 rest:∀ q,(q < 18∨43≤q)→w'.cell? ⟨sk,q,none⟩=w.cell? ⟨sk,q,none⟩
section
variable {K:Nat→Prop} {sk:Nat} {w w' w2:World}
theorem D.dm.trans (h:dm K sk w w') (k:dm K sk w' w2):dm K sk w w2:=
 ⟨k.os.trans h.os,k.tape.trans h.tape,k.output.trans h.output,τ h.size k.size,fun i y hK=>(k.block i (κ y h.size) hK).trans (h.block i y hK),fun q hq=>(k.rest q hq).trans (h.rest q hq)⟩
theorem D.dm.CY (hK:∀ k,K k→k ≠ sk) (h:dN sk 18 w w'):dm K sk w w':=
 ⟨h.grow.os,h.grow.tape,h.grow.output,h.grow.size,fun k I y=>h.block I (hK k y),fun q hq=>h.rest q (by omega)⟩
theorem D.dm.of_below (y:sk < w.heap.size) (h:Below w.heap.size w w'):dm K sk w w':=
 ⟨h.os,h.tape,h.output,h.size,fun k I _=>h.block k I,fun q _=>World.cell?_of_block (h.block _ y)⟩
theorem D.dm.keep {α:Type} {R:Rel α} (g:Good R) {cs:List Value} {x:α} {bs:List Nat} (h:dm K sk w w') (hr:R w cs x bs) (hb:∀ b ∈ bs,K b):R w' cs x bs:=
 g.keep hr fun b y=>h.block b (g.lt hr b y) (hb b y)
theorem D.mJ.run {sb:Nat} {v1 v2:Value} {wt:Nat→Bool} {io:Bool} {ah:Int} {tell:Value} (h:mJ sk sb v1 v2 wt io ah tell w) (k:dm K sk w w'):mJ sk sb v1 v2 wt io ah tell w':=
 ⟨(k.rest _ (by omega)).trans h.st,(k.rest _ (by omega)).trans h.p1,(k.rest _ (by omega)).trans h.p2,fun i y=>(k.rest _ (by omega)).trans (h.wd i y),(k.rest _ (by omega)).trans h.io,(k.rest _ (by omega)).trans h.ah,(k.rest _ (by omega)).trans h.tl⟩
end
structure D.qW (vars:List ByteArray) (fs:List A) (rn:List Nat) (bs:List Nat) (ps ns:List A) (sk sb:Nat) (v1 v2:Value) (bp bn:List Nat) (wt:Nat→Bool) (ah:Int) (tell:Value) (K:Nat→Prop) (b:Bd) (w:World):Prop where
 sea:mJ sk sb v1 v2 wt false ah tell w
 at_:iR vars b sk 18 w
 ok:jZ vars b
 wds:uZ b
 tV:kW sb fs rn bs w
 pps:uM vars w [v1] ps bp
 pns:uM vars w [v2] ns bn
 kbs:∀ x ∈ bs,K x
 kbp:∀ x ∈ bp,K x
 kbn:∀ x ∈ bn,K x
section
variable {vars:List ByteArray} {fs:List A} {rn:List Nat} {bs:List Nat} {ps ns:List A} {sk sb:Nat} {v1 v2:Value} {bp bn:List Nat} {wt:Nat→Bool} {ah:Int} {tell:Value} {K:Nat→Prop} {b b':Bd} {w w':World}
theorem D.qW.kept (h:qW vars fs rn bs ps ns sk sb v1 v2 bp bn wt ah tell K b w) (k:dm K sk w w') (h1:iR vars b' sk 18 w') (I:jZ vars b') (J:uZ b'):qW vars fs rn bs ps ns sk sb v1 v2 bp bn wt ah tell K b' w':=
 ⟨h.sea.run k,h1,I,J,h.tV.keep (fun x y=>k.block x (h.tV.lt x y) (h.kbs x y)) k.size,k.keep (eP vars) h.pps h.kbp,k.keep (eP vars) h.pns h.kbn,h.kbs,h.kbp,h.kbn⟩
theorem D.qW.below (h:qW vars fs rn bs ps ns sk sb v1 v2 bp bn wt ah tell K b w) (k:Below w.heap.size w w'):qW vars fs rn bs ps ns sk sb v1 v2 bp bn wt ah tell K b w':=
 h.kept (dm.of_below h.sea.lt k) (h.at_.keep (k.block _ h.sea.lt)) h.ok h.wds
end
structure D.xZ (vars:List ByteArray) (head:A) (sk:Nat) (K:Nat→Prop) (c5 c7:Addr) (T:Bool→World→List A→Prop) (go:List A→Bool):Prop where
 call:∀ (w:World) (b:Bd) (told:List A),jZ vars b→uZ b→yO b head.args→iR vars b sk 18 w→T true w told→Calls Tryz.prog 116 #[.pointer (some ⟨sk,18,none⟩),.pointer (some c5),.pointer (some c7)] w fun e w'=>
  e=.returned (.bool (go (told ++ [dD head b])))∧T (go (told ++ [dD head b])) w' (told ++ [dD head b])∧dm K sk w w'∧w'.heap[sk]? = w.heap[sk]?
 keep:∀ {f:Bool} (w w':World) (told:List A),T f w told→dN sk 18 w w'→T f w' told
def D.jr (vars:List ByteArray) (fs ps ns:List A) (head:A) (K:Nat→Prop) (sk:Nat) (T:Bool→World→List A→Prop) (go:List A→Bool) (b:Bd) (left:Nat) (told:List A) (held more:Bool) (w w':World):Prop:=
 ∃ y,dm K sk w w'∧iR vars b sk 18 w'∧T more w' (told ++ y)∧(∀ t ∈ y,∃ σ,wG fs ps ns b left σ∧iF σ head=t)∧(more=true→∀ σ,wG fs ps ns b left σ→iF σ head ∈ y)∧(held=true→y ≠ [])∧(more=false→go (told ++ y)=false)
section
variable {vars:List ByteArray} {fs ps ns:List A} {head:A} {wt:Nat→Bool} {K:Nat→Prop} {sk:Nat} {T:Bool→World→List A→Prop} {go:List A→Bool} {b:Bd} {left:Nat} {told:List A} {w w':World}
theorem D.IL {a:A} (h:bU a=true):∀ t ∈ a.args,t.var=false→t.name ≠ ⟨#[]⟩:=fun t y hv=>by
 unfold bU at h;simp only [ο,decide_eq_true_eq,ό] at h;have:=h.2 t y;unfold jv at this;rw [hv] at this;exact vg (by simpa using this)
theorem D.oO {a:A} (h:bU a=true):a.args.length≤3:=by
 unfold bU at h;simp only [ο,decide_eq_true_eq] at h;exact h.1.2
theorem D.VF (E:sS vars fs ps ns head wt) (y:uZ b) (hc:∀ n ∈ ns,yO b n.args) (h:zB fs ns b=true) (σ:Wo):¬ wG fs ps ns b left σ:=by
 rintro ⟨h1,_,I⟩;obtain ⟨n,hn,J⟩:=List.any_eq_true.1 h;have:=(zC E.fok (vX (E.nok n hn) y (hc n hn))).1 J;rw [kQ (hc n hn) h1] at this;exact I n hn this
theorem D.VG (E:sS vars fs ps ns head wt) (y:uZ b) (hc:∀ n ∈ ns,yO b n.args) (h:zB fs ns b=false):∀ n ∈ ns,dD n b ∉ fs:=fun n hn hm=>by
 have h1:decide (fF (dD n b) ∈ fs.map fF)=true:=(zC E.fok (vX (E.nok n hn) y (hc n hn))).2 hm;have:zB fs ns b=true:=List.any_eq_true.2 ⟨n,hn,h1⟩;rw [h] at this; cases this
theorem D.VH (hc:yO b head.args) {y:List A} (U:∀ t ∈ y,∃ σ,wG fs ps ns b left σ∧iF σ head=t) (I:y ≠ []) (σ:Wo) (h:wG fs ps ns b left σ):iF σ head ∈ y:=by
 obtain ⟨t,J⟩:=List.exists_mem_of_ne_nil y I;obtain ⟨σ0,h0,e0⟩:=U t J;rw [← kQ hc h.1,kQ hc h0.1,e0]; exact J
end
end
end Go.Proofs.YtkjinanbccloeaaGreatDoor
