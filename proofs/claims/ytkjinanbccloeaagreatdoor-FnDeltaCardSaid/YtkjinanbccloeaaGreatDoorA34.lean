/- Of the proof of FnDelta: Draw9, RunP, ChoI, HinI. -/
import Derived.Test.YtkjinanbccloeaaGreatDoorA30
import Derived.Test.YtkjinanbccloeaaGreatDoorA32
import Derived.Test.YtkjinanbccloeaaGreatDoorA31
set_option linter.unusedVariables false
set_option maxHeartbeats 4000000
set_option maxRecDepth 100000
namespace Go.Proofs.YtkjinanbccloeaaGreatDoor
section
open Go.RowKit D
attribute [local go_sem ↓] Go.wp_at_zero Go.wp_at_succ
theorem D.iM {w:World} {n0:Nat} {A B:Option Addr} {l c I J:Nat} {t:TypeId} (h:w.heap[n0]? = some (.cells #[.slice A l c,.slice B I J] t (0,0))):Qz w n0:=fun o u y=>by
 rw [ai h] at y
 match o with
 | 0=>simp at y; subst y; exact ⟨fun s=>by simp,fun b=>by simp⟩
 | 1=>simp at y; subst y; exact ⟨fun s=>by simp,fun b=>by simp⟩
 | o+2=>simp at y
theorem D.fE {w:World} {n0:Nat} {o:Nat} {u v:Value} {xs:List A} {bs:List Nat} (h:aB w [v] xs bs) (hn:n0 ∉ bs):aB (w.setCell ⟨n0,o,none⟩ u) [v] xs bs:=
 ak.keep h fun b hb=>π _ _ _ _ (by intro e; have y:b=n0:=e; exact hn (y ▸ hb))
def Yh (g p q:Nat) (w:World) (e:Ending) (w':World):Prop:=
 ∃ (c:Ch) (A1 A2:Option Addr) (c1 c2:Nat) (L:List Value) (b1 b2:List Nat) (y:Nat),e=.returned (.agg #[.slice A1 c.comes.length c1,.slice A2 c.goes.length c2])∧aB w' [.slice A1 c.comes.length c1] c.comes b1∧
  aY 2 aJ w.heap.size 33 w' (.slice A2 c.goes.length c2) L c.goes b2∧(∀ b ∈ b1,(Value.slice A2 c.goes.length c2).ownBlock ≠ some b)∧(c.comes.length≤50∧c.goes.length≤5∧(∀ a ∈ c.comes,a.args.length≤4)∧∀ a ∈ c.goes,a.args.length≤4)∧
  kJ g y w'∧y≤p+q∧aH [g] w w'
theorem EX (g p:Nat) (w:World) (h:kJ g p w) (hp:p≤600000):
  Calls Tryz.prog 138 #[.pointer (some ⟨g,0,none⟩)] w (Yh g p 80 w):=by
 have hA:Below w.heap.size w (w.alloc (.cells #[.slice none 0 0,.slice none 0 0] 54)):=ζ;have I:=η (ω w (.cells #[.slice none 0 0,.slice none 0 0] 54));have HL:=η h.lt;have k1:=nY g p 5 _ (h.below hA) (by omega) (by omega) (by omega);have HA:=η hA;have HP:=η hp;clear h hA hp
 go_enter Tryz.func138,Tryz.ntmps138
 go_wp2_with fail
 refine k1.mono ?_;rintro e w1 ⟨xs,v1,p1,rfl,am,a1,a7,ao,y⟩;obtain ⟨A1,c1,rfl⟩:=y.shape;obtain ⟨b1,a2,a9⟩:=y.atoms;have aq:Hid (∀ n0,n0=w.heap.size→n0 ∉ [g]):=η (fun n0 e=>by have:=HL.out; simp; omega);replace I:=η (y.kept.blk I.out (aq.out _ rfl));have ar:=η ((aH.of_below HA.out).trans y.kept);have b6:=η y.rdr;have a0:=η a2;have aL:=η (dD y.rdr.EJ a2);have a6:=η (ι am (ι a1 (ι a7 ao)));have k2:=nY g p1 5 w1 y.rdr (by have:=HP.out; omega) (by omega) (by omega);clear k1 y a2 a9 am a1 a7 ao
 go_wp2_with fail
 refine k2.mono ?_;rintro e w2 ⟨ys,v2,p2,rfl,aM,a3,a4,av,J⟩;obtain ⟨A2,c2,rfl⟩:=J.shape;obtain ⟨b2,a8,aa⟩:=J.atoms;replace I:=η (J.kept.blk I.out (aq.out _ rfl));replace a0:=η (Good.kept ak a0.out J.kept (fun b hb=>by simp; intro e; exact aL.out (e ▸ hb)));have aw:=η (ar.out.trans J.kept);have aR:=η J.rdr;have ab:Hid (ys.length≤5∧(∀ a ∈ ys,a.args.length≤3)∧p2≤p1+40):=η ⟨a3,a4,av⟩;have k3:=D5 ys xs _ _ b2 b1 w2 a8 a0.out a6.out.1 (by omega) (fun a ha=>by have:=a4 a ha; omega);clear k2 J a8 aa aM a3 a4 av
 go_wp2_with fail
 refine k3.mono ?_;rintro e w3 ⟨a5,v3,L3,b3,rfl,U,ac⟩;obtain ⟨A3,c3,rfl⟩:=dO U.own;replace I:=η ((a5.block _ (ψ I.out)).trans I.out);have b4:=η (ak.lt a0.out);have b7:=η ar.out.size;have az:=η aw.out.size;have ae:w.heap.size ∉ b1:=dD (iM (I.out)) (ak.below a0.out a5);have af:w.heap.size ∉ b3:=uq (iM (I.out)) U.row;have a1:=fE (o:=0) (u:=.slice A1 xs.length c1) (ak.below a0.out a5) ae;have a3:=fE (o:=1) (u:=.slice A3 (bZ ys xs).length c3) a1 ae;have z1:=qo (u:=.slice A1 xs.length c1) I.out;have aD:=U.lS (o:=0) (u:=.slice A1 xs.length c1) au (gB U.own I.out (by decide)) af;have aE:=aD.lS (o:=1) (u:=.slice A3 (bZ ys xs).length c3) au (gB U.own I.out (by decide)) af;have ag:Below w.heap.size w3 ((w3.setCell ⟨w.heap.size,0,none⟩ (.slice A1 xs.length c1)).setCell ⟨w.heap.size,1,none⟩ (.slice A3 (bZ ys xs).length c3)):=((Below.refl w.heap.size w3).setCell (p:=⟨w.heap.size,0,none⟩) ν _).setCell (p:=⟨w.heap.size,1,none⟩) ν _
 have HD:Hid (Yh g p 80 w (.returned (.agg #[.slice A1 xs.length c1,.slice A3 (bZ ys xs).length c3])) ((w3.setCell ⟨w.heap.size,0,none⟩ (.slice A1 xs.length c1)).setCell ⟨w.heap.size,1,none⟩ (.slice A3 (bZ ys xs).length c3))):=η
  ⟨⟨xs,bZ ys xs⟩,A1,A3,c1,c3,L3,b1,b3,p2,rfl,a3,aE.mono az.out,fun b hb=>aO U.own (b4.out b hb),⟨by have:=a6.out.2.1; dsimp only; omega,by have:=ab.out.1; have h9:(bZ ys xs).length≤ys.length:=List.length_filter_le _ _; dsimp only; omega,fun a ha=>by have:=a6.out.2.2.1 a ha; omega,fun a ha=>by have:=ab.out.2.1 a (sS ha); omega⟩,
   ((aR.out.below a5).eG ag HL.out),by have:=a6.out.2.2.2; have:=ab.out.2.2; omega,(aw.out.eG a5 az.out).eG ag ν⟩
 have z0:w3.cell? ⟨w.heap.size,0,none⟩=some (.slice none 0 0):=ai I.out;have b5:w3.cell? ⟨w.heap.size,1,none⟩=some (.slice none 0 0):=ai I.out;have f0:w3.frozen? ⟨w.heap.size,0,none⟩=false:=ax I.out;have f1:w3.frozen? ⟨w.heap.size,1,none⟩=false:=ax I.out;clear k3 U ac a1 a3 aD aE ae af z1 ag;go_wp2;refine bodyPost_ret (v:=.agg #[.slice A1 xs.length c1,.slice A3 (bZ ys xs).length c3]) (by simp [results,Tryz.results138,go_sem,z0,b5]) rfl HD.out
structure sJ (g p:Nat) (w:World) (n0 n1:Nat) (c:Ch) (A1 A2:Option Addr) (c1 c2:Nat) (L:List Value) (b1 b2:List Nat) (wr:World):Prop where
 r0:wr.heap[n0]? = some (.cells #[.slice none 0 0,.slice none 0 0] 54 (0,0))
 r1:wr.heap[n1]? = some (.cells #[.slice A1 c.comes.length c1,.slice A2 c.goes.length c2] 54 (0,0))
 h0:w.heap.size≤n0
 h1:w.heap.size≤n1
 ne:n0 ≠ n1
 at1:aB wr [.slice A1 c.comes.length c1] c.comes b1
 coll:aY 2 aJ w.heap.size 33 wr (.slice A2 c.goes.length c2) L c.goes b2
 dif:∀ b ∈ b1,(Value.slice A2 c.goes.length c2).ownBlock ≠ some b
 rdr:kJ g p wr
 kept:aH [g] w wr
 glt:g < w.heap.size
structure EY (g p:Nat) (w:World) (n0 n1:Nat) (c:Ch) (A1 A2:Option Addr) (c1 c2:Nat) (b1 b2:List Nat) (wr:World):Prop where
 r0:wr.heap[n0]? = some (.cells #[.slice none 0 0,.slice none 0 0] 54 (0,0))
 r1:wr.heap[n1]? = some (.cells #[.slice A1 c.comes.length c1,.slice A2 c.goes.length c2] 54 (0,0))
 h0:w.heap.size≤n0
 h1:w.heap.size≤n1
 ne:n0 ≠ n1
 at1:aB wr [.slice A1 c.comes.length c1] c.comes b1
 at2:aB wr [.slice A2 c.goes.length c2] c.goes b2
 rdr:kJ g p wr
 kept:aH [g] w wr
 glt:g < w.heap.size
def U4 (g p q:Nat) (w:World) (e:Ending) (w':World):Prop:=
 ∃ (c:Ch) (A1 A2:Option Addr) (c1 c2:Nat) (b1 b2:List Nat) (y:Nat),e=.returned (.agg #[.slice A1 c.comes.length c1,.slice A2 c.goes.length c2])∧aB w' [.slice A1 c.comes.length c1] c.comes b1∧aB w' [.slice A2 c.goes.length c2] c.goes b2∧
  (c.comes.length≤50∧c.goes.length≤6∧(∀ a ∈ c.comes,a.args.length≤4)∧∀ a ∈ c.goes,a.args.length≤4)∧kJ g y w'∧y≤p+q∧aH [g] w w'
section
variable {g p:Nat} {w:World} {n0 n1:Nat} {c:Ch} {A1 A2:Option Addr} {c1 c2:Nat} {L:List Value} {b1 b2:List Nat} {wr:World}
theorem sJ.call {p2:Nat} {y:World} (h:sJ g p w n0 n1 c A1 A2 c1 c2 L b1 b2 wr) (J:kJ g p2 y) (hK:aH [g] wr y):sJ g p2 w n0 n1 c A1 A2 c1 c2 L b1 b2 y:=by
 have I:=h.glt; have h0:=h.h0; have h1:=h.h1
 have ha:=dD h.rdr.EJ h.at1;exact ⟨hK.blk h.r0 (by simp; omega),hK.blk h.r1 (by simp; omega),h0,h1,h.ne,Good.kept ak h.at1 hK (fun b hb=>by simp; intro e; exact ha (e ▸ hb)),h.coll.Jl au hK I (uq h.rdr.EJ h.coll.row),h.dif,J,h.kept.trans hK,I⟩
theorem sJ.drew (h:sJ g p w n0 n1 c A1 A2 c1 c2 L b1 b2 wr):sJ g p w n0 n1 c A1 A2 c1 c2 L b1 b2 wr.drew:=
 ⟨h.r0,h.r1,h.h0,h.h1,h.ne,ak.keep h.at1 fun _ _=>rfl,⟨h.coll.own,h.coll.row.keep au fun _ _=>rfl,h.coll.far⟩,h.dif,h.rdr.drew,h.kept.drew,h.glt⟩
theorem sJ.alloc (h:sJ g p w n0 n1 c A1 A2 c1 c2 L b1 b2 wr) (o:Obj):sJ g p w n0 n1 c A1 A2 c1 c2 L b1 b2 (wr.alloc o):=by
 have y:Below wr.heap.size wr (wr.alloc o):=ζ;exact ⟨(y.block n0 (ψ h.r0)).trans h.r0,(y.block n1 (ψ h.r1)).trans h.r1,h.h0,h.h1,h.ne,ak.below h.at1 y,h.coll.below au y,h.dif,h.rdr.below y,h.kept.eG y h.kept.size,h.glt⟩
theorem sJ.Yw (h:sJ g p w n0 n1 c A1 A2 c1 c2 L b1 b2 wr):∃ y,EY g p w n0 n1 c A1 A2 c1 c2 b1 y wr:=by
 obtain ⟨y,I,_⟩:=h.coll.slice;exact ⟨y,h.r0,h.r1,h.h0,h.h1,h.ne,h.at1,I,h.rdr,h.kept,h.glt⟩
theorem sJ.cells (h:sJ g p w n0 n1 c A1 A2 c1 c2 L b1 b2 wr):wr.cell? ⟨n1,0,none⟩=some (.slice A1 c.comes.length c1)∧wr.cell? ⟨n1,1,none⟩=some (.slice A2 c.goes.length c2)∧wr.frozen? ⟨n1,1,none⟩=false:=⟨ai h.r1,ai h.r1,ax h.r1⟩
theorem sJ.lit {a:A} {y:Option Addr} {I:Nat} {J:List Nat} (h:sJ g p w n0 n1 c A1 A2 c1 c2 L b1 b2 wr) (ha:aJ wr [.string a.name,.slice y a.args.length I] a J) (hb:∀ b ∈ J,(Value.slice A2 c.goes.length c2).ownBlock ≠ some b):
  aY 2 aJ w.heap.size 33 (wr.alloc (.cells #[.string a.name,.slice y a.args.length I] 33)) (.slice A2 c.goes.length c2) L c.goes b2∧aT 2 aJ (wr.alloc (.cells #[.string a.name,.slice y a.args.length I] 33)) [.string a.name,.slice y a.args.length I] [a] J∧
   Lies (wr.alloc (.cells #[.string a.name,.slice y a.args.length I] 33)) (some ⟨wr.heap.size,0,none⟩) [.string a.name,.slice y a.args.length I]∧Below w.heap.size wr (wr.alloc (.cells #[.string a.name,.slice y a.args.length I] 33))∧w.heap.size≤(wr.alloc (.cells #[.string a.name,.slice y a.args.length I] 33)).heap.size:=by
 have U:=h.alloc (.cells #[.string a.name,.slice y a.args.length I] 33);have hA:Below wr.heap.size wr (wr.alloc (.cells #[.string a.name,.slice y a.args.length I] 33)):=ζ;exact ⟨U.coll,aT.dH eY (au.below ha hA),aS (ω wr _),ϑ.alloc h.kept.size _,U.kept.size⟩
theorem sJ.app {J:World} {o:Obj} {A3:Option Addr} {k3 c3:Nat} {L3:List Value} {U:List A} {b3:List Nat} (h:sJ g p w n0 n1 c A1 A2 c1 c2 L b1 b2 wr) (hC:aY 2 aJ w.heap.size 33 J (.slice A3 k3 c3) L3 U b3) (hk:k3=U.length) (hB:Below w.heap.size wr J) (hG:(wr.alloc o).grownBy J (Value.slice A2 c.goes.length c2).ownBlock):
  J.cell? ⟨n1,0,none⟩=some (.slice A1 c.comes.length c1)∧J.cell? ⟨n1,1,none⟩=some (.slice A2 c.goes.length c2)∧J.frozen? ⟨n1,1,none⟩=false∧∃ b4,EY g p w n0 n1 ⟨c.comes,U⟩ A1 A3 c1 c3 b1 b4 (J.setCell ⟨n1,1,none⟩ (.slice A3 k3 c3)):=by
 subst hk;have I:=h.alloc o;have b0:=(hG.block n0 (ψ I.r0) (gB I.coll.own I.r0 (by decide)).symm).trans I.r0;have y:=(hG.block n1 (ψ I.r1) (gB I.coll.own I.r1 (by decide)).symm).trans I.r1;have ha:aB J [.slice A1 c.comes.length c1] c.comes b1:=ak.keep I.at1 fun b hb=>hG.block b (ak.lt I.at1 b hb) (I.dif b hb).symm
 obtain ⟨b4,hs,_⟩:=hC.slice;refine ⟨ai y,ai y,ax y,b4,(π _ _ _ _ h.ne).trans b0,uT y,h.h0,h.h1,h.ne,fE ha (dD (iM y) ha),fE hs (dD (iM y) hs),?_,(h.kept.eG hB ν).zh h.h1 _,h.glt⟩;exact (h.rdr.eG hB h.glt).eG ((Below.refl w.heap.size J).setCell h.h1 _) h.glt
theorem EY.call {p2:Nat} {y:World} (h:EY g p w n0 n1 c A1 A2 c1 c2 b1 b2 wr) (J:kJ g p2 y) (hK:aH [g] wr y):EY g p2 w n0 n1 c A1 A2 c1 c2 b1 b2 y:=by
 have U:=h.glt; have h0:=h.h0; have h1:=h.h1
 have ha:=dD h.rdr.EJ h.at1;have I:=dD h.rdr.EJ h.at2;exact ⟨hK.blk h.r0 (by simp; omega),hK.blk h.r1 (by simp; omega),h0,h1,h.ne,Good.kept ak h.at1 hK (fun b hb=>by simp; intro e; exact ha (e ▸ hb)),Good.kept ak h.at2 hK (fun b hb=>by simp; intro e; exact I (e ▸ hb)),J,h.kept.trans hK,U⟩
theorem EY.comes {xs:List A} {y:Option Addr} {I:Nat} {J:List Nat} (h:EY g p w n0 n1 c A1 A2 c1 c2 b1 b2 wr) (ha:aB wr [.slice y xs.length I] xs J):EY g p w n0 n1 ⟨xs,c.goes⟩ y A2 I c2 J b2 (wr.setCell ⟨n1,0,none⟩ (.slice y xs.length I)):=
 ⟨(π _ _ _ _ h.ne).trans h.r0,qo h.r1,h.h0,h.h1,h.ne,fE ha (dD (iM h.r1) ha),fE h.at2 (dD (iM h.r1) h.at2),h.rdr.eG ((Below.refl w.heap.size wr).setCell h.h1 _) h.glt,h.kept.zh h.h1 _,h.glt⟩
theorem EY.done {q p0:Nat} (h:EY g p w n0 n1 c A1 A2 c1 c2 b1 b2 wr) (J:c.comes.length≤50∧c.goes.length≤6∧(∀ a ∈ c.comes,a.args.length≤4)∧∀ a ∈ c.goes,a.args.length≤4) (U:p≤p0+q):
  U4 g p0 q w (.returned (.agg #[.slice A1 c.comes.length c1,.slice A2 c.goes.length c2])) ((wr.setCell ⟨n0,0,none⟩ (.slice A1 c.comes.length c1)).setCell ⟨n0,1,none⟩ (.slice A2 c.goes.length c2)):=by
 have hB:Below w.heap.size wr ((wr.setCell ⟨n0,0,none⟩ (.slice A1 c.comes.length c1)).setCell ⟨n0,1,none⟩ (.slice A2 c.goes.length c2)):=(ϑ.setCell h.h0 _).setCell h.h0 _;have y:=dD (iM h.r0) h.at1;have I:=dD (iM h.r0) h.at2;exact ⟨c,A1,A2,c1,c2,b1,b2,p,rfl,fE (fE h.at1 y) y,fE (fE h.at2 I) I,J,h.rdr.eG hB h.glt,U,h.kept.eG hB ν⟩
end
theorem zN (g p:Nat) (w:World) (h:kJ g p w) (hp:p≤500000):
  Calls Tryz.prog 74 #[.pointer (some ⟨g,0,none⟩)] w (U4 g p 300 w):=by
 obtain ⟨i0,hi,b7,b8,b9⟩:=info_parts Gy;have hA:Below w.heap.size w (w.alloc (.cells #[.slice none 0 0,.slice none 0 0] 54)):=ζ;have HZ:=η (ω w (.cells #[.slice none 0 0,.slice none 0 0] 54));have HL:=η h.lt;have k1:=EX g p _ (h.below hA) (by omega);have HA:=η hA;have HP:=η hp;clear h hA hp
 go_enter Tryz.func74,Tryz.ntmps74
 go_wp2_with fail
 refine k1.mono ?_;rintro e J ⟨c,A1,A2,c1,c2,L,b1,b2,p1,rfl,a0,hC,a8,ae,hR,af,hK⟩;have HX:=η (ι ae af)
 have I:Hid (sJ g p1 w w.heap.size J.heap.size c A1 A2 c1 c2 L b1 b2 (J.alloc (.cells #[.slice A1 c.comes.length c1,.slice A2 c.goes.length c2] 54))):=η (by
  have a1:Below J.heap.size J (J.alloc (.cells #[.slice A1 c.comes.length c1,.slice A2 c.goes.length c2] 54)):=ζ;have hz:=hK.blk HZ.out (by have:=HL.out; simp; omega);have hk:=(aH.of_below HA.out).trans hK
  exact ⟨(a1.block _ (ψ hz)).trans hz,ω J _,ν,hk.size,Nat.ne_of_lt (ψ hz),ak.below a0 a1,(hC.mono (by have:=HA.out.size; simp)).below au a1,a8,hR.below a1,hk.eG a1 hk.size,HL.out⟩)
 have bi:w.heap.size < J.heap.size:=ψ (hK.blk HZ.out (by have:=HL.out; simp; omega));have ag:=pick_any g p1 16 _ I.out.rdr (by have:=HP.out; omega) (by omega) (by omega);clear k1 a0 hC a8 ae hR af hK HZ
 go_wp2_with fail
 refine ag.mono ?_;rintro e w2 ⟨j,rfl,hj,am,ao⟩;replace I:=η (I.out.call am (aH.dA ao));clear ag am ao;by_cases aa:j=0
 ·subst aa
  clear hj;replace I:=η I.out.drew;have q0:=I.out.cells.1;have q1:=I.out.cells.2.1;have q2:=I.out.cells.2.2;have bc:Hid (c.goes.length+1≤maxLen):=η (by have:=HX.out.1.2.1; unfold maxLen; omega);have bf:Hid ((c.goes.length+1) * 40≤140737488355328):=η (by have:=HX.out.1.2.1; omega);go_wp2
  go_region_law
   (first
    | (go_simp; go_at_call 139; refine (tY g _ _ I.out.rdr (by have:=HP.out; have:=HX.out.2; omega)).mono ?_; rintro e w3 ⟨a,v3,L3,p3,rfl,aq,ar,ab,a2,a6,a3⟩; have HF:Hid (∀ b,_≤b→(Value.slice A2 c.goes.length c2).ownBlock ≠ some b):=η (fun b hb=>je I.out.coll.own hb); replace I:=η (I.out.call a2 a3); replace q0:=I.out.cells.1; replace q1:=I.out.cells.2.1; replace q2:=I.out.cells.2.2; have q3:J.heap.size < w3.heap.size:=lt_of_cell q1; obtain ⟨A3,c3,rfl⟩:=dO ab.own; obtain ⟨b5,a9,a4⟩:=ab.slice; have ac:Hid (∀ b ∈ b5,(Value.slice A2 c.goes.length c2).ownBlock ≠ some b):=η (fun b hb=>HF.out b ((a4 b hb).resolve_right (by simp))); have HT:=η (I.out.lit (a:=a) ⟨_,rfl,Sm.max aq,a9⟩ ac.out); have av:Hid (a.args.length≤4∧p3≤p1+1+20):=η ⟨ar,a6⟩; clear a9 a4 aq ar a6; clear ab a2 a3)
    | (refine aV (by rfl) (.tmp 11) (.tmp 14) _ (by rfl) w.heap.size 33 i0 (.agg #[.string ⟨#[]⟩,.slice none 0 0]) 2 40 Tryz.underlying24 hi b7 b8 b9 rfl (Θ 1) au (.slice A2 c.goes.length c2) c.goes.length L c.goes b2 (by rfl) HT.out.1 rfl (some ⟨w3.heap.size,0,none⟩) 1 1 _ [a] _ (by rfl) HT.out.2.1 rfl HT.out.2.2.1 ac.out bc.out bf.out w3 w.heap.size HT.out.2.2.2.1 ν HT.out.2.2.2.2 ?_; intro A4 c4 w4 aw az bj aD; have a5:=η (I.out.app aw (by simp) az aD); replace q0:=a5.out.1; replace q1:=a5.out.2.1; replace q2:=a5.out.2.2.1; clear aw az aD))
  all_goals
   obtain ⟨b4,y⟩:=a5.out.2.2.2;obtain ⟨G,a7⟩:∃ G,G=c.goes ++ [a]:=⟨_,rfl⟩;have hlen:c.goes.length+1=G.length:=by rw [a7]; simp
   have aE:Hid (G.length≤6∧∀ x ∈ G,x.args.length≤4):=η (by
    have h5:=HX.out.1.2.1;refine ⟨by omega,fun x hx=>?_⟩;rw [a7] at hx
    rcases μ.1 hx with hx | hx
    ·exact HX.out.1.2.2.2 x hx
    ·rw [List.mem_singleton.1 hx]; exact av.out.1)
   rw [← a7,hlen] at y;rw [hlen];clear a7 hlen HT I HF ac a5 q0 q1 q2;obtain ⟨W,hW⟩:∃ W,W=w4.setCell ⟨J.heap.size,1,none⟩ (.slice A4 G.length c4):=⟨_,rfl⟩;rw [← hW] at y ⊢;clear hW;have q0:W.cell? ⟨J.heap.size,0,none⟩=some (.slice A1 c.comes.length c1):=ai y.r1;have q1:W.cell? ⟨J.heap.size,1,none⟩=some (.slice A4 G.length c4):=ai y.r1;have z0:W.cell? ⟨w.heap.size,0,none⟩=some (.slice none 0 0):=ai y.r0;have z1:W.cell? ⟨w.heap.size,1,none⟩=some (.slice none 0 0):=ai y.r0;have f0:W.frozen? ⟨w.heap.size,0,none⟩=false:=ax y.r0;have f1:W.frozen? ⟨w.heap.size,1,none⟩=false:=ax y.r0;have HD:Hid (U4 g p 300 w (.returned (.agg #[.slice A1 c.comes.length c1,.slice A4 G.length c4])) ((W.setCell ⟨w.heap.size,0,none⟩ (.slice A1 c.comes.length c1)).setCell ⟨w.heap.size,1,none⟩ (.slice A4 G.length c4))):=η (y.done (p0:=p) (q:=300) ⟨HX.out.1.1,aE.out.1,HX.out.1.2.2.1,aE.out.2⟩ (by have:=av.out.2; have:=HX.out.2; omega));clear y;go_wp2
   refine bodyPost_ret (v:=.agg #[.slice A1 c.comes.length c1,.slice A4 G.length c4]) (by simp [results,Tryz.results74,go_sem,z0,z1]) rfl HD.out
 ·have bg:((j:Int) == 0)=false:=beq_eq_false_iff_ne.2 (by omega)
  obtain ⟨b3,hD⟩:=I.out.Yw;clear I;by_cases aL:j=1
  ·subst aL
   have hc:=sF g _ w2 hD.rdr (by have:=HP.out; have:=HX.out.2; omega);have aM:=η hD;clear hD hj aa
   go_wp2_with fail
   refine hc.mono ?_;rintro e w3 ⟨xs,v3,b5,p3,rfl,⟨a0,aR⟩,hx,b6,a2,a6,a3⟩;obtain ⟨A3,c3,rfl,_,_⟩:=aj a0;have U:=aM.out.call a2 a3;have q0:w3.cell? ⟨J.heap.size,0,none⟩=some (.slice A1 c.comes.length c1):=ai U.r1;have q1:w3.cell? ⟨J.heap.size,1,none⟩=some (.slice A2 c.goes.length c2):=ai U.r1;have q2:w3.frozen? ⟨J.heap.size,0,none⟩=false:=ax U.r1;have z0:w3.cell? ⟨w.heap.size,0,none⟩=some (.slice none 0 0):=ai U.r0;have z1:w3.cell? ⟨w.heap.size,1,none⟩=some (.slice none 0 0):=ai U.r0;have f0:w3.frozen? ⟨w.heap.size,0,none⟩=false:=ax U.r0;have f1:w3.frozen? ⟨w.heap.size,1,none⟩=false:=ax U.r0;have bk:¬ (w.heap.size=J.heap.size):=by omega
   have bl:¬ (J.heap.size=w.heap.size):=by omega
   have HD:Hid (U4 g p 300 w (.returned (.agg #[.slice A3 xs.length c3,.slice A2 c.goes.length c2])) (((w3.setCell ⟨J.heap.size,0,none⟩ (.slice A3 xs.length c3)).setCell ⟨w.heap.size,0,none⟩ (.slice A3 xs.length c3)).setCell ⟨w.heap.size,1,none⟩ (.slice A2 c.goes.length c2))):=η ((U.comes a0).done (p0:=p) (q:=300) ⟨hx,by have:=HX.out.1.2.1; dsimp only; omega,b6,HX.out.1.2.2.2⟩ (by have:=HX.out.2; omega));clear hc aM U a0 aR hx b6 a2 a6 a3;go_wp2;refine bodyPost_ret (v:=.agg #[.slice A3 xs.length c3,.slice A2 c.goes.length c2]) (by simp [results,Tryz.results74,go_sem,z0,z1]) rfl HD.out
  ·have bh:((j:Int) == 1)=false:=beq_eq_false_iff_ne.2 (by omega)
   have q0:w2.cell? ⟨J.heap.size,0,none⟩=some (.slice A1 c.comes.length c1):=ai hD.r1;have q1:w2.cell? ⟨J.heap.size,1,none⟩=some (.slice A2 c.goes.length c2):=ai hD.r1;have z0:w2.cell? ⟨w.heap.size,0,none⟩=some (.slice none 0 0):=ai hD.r0;have z1:w2.cell? ⟨w.heap.size,1,none⟩=some (.slice none 0 0):=ai hD.r0;have f0:w2.frozen? ⟨w.heap.size,0,none⟩=false:=ax hD.r0;have f1:w2.frozen? ⟨w.heap.size,1,none⟩=false:=ax hD.r0;have HD:Hid (U4 g p 300 w (.returned (.agg #[.slice A1 c.comes.length c1,.slice A2 c.goes.length c2])) ((w2.setCell ⟨w.heap.size,0,none⟩ (.slice A1 c.comes.length c1)).setCell ⟨w.heap.size,1,none⟩ (.slice A2 c.goes.length c2))):=η (hD.done (p0:=p) (q:=300) ⟨HX.out.1.1,by have:=HX.out.1.2.1; omega,HX.out.1.2.2.1,HX.out.1.2.2.2⟩ (by have:=HX.out.2; omega));clear hD hj aa aL;go_wp2;refine bodyPost_ret (v:=.agg #[.slice A1 c.comes.length c1,.slice A2 c.goes.length c2]) (by simp [results,Tryz.results74,go_sem,z0,z1]) rfl HD.out
end
section
open Go.RowKit D
def D.jr (more:List A) (n:Nat) (r:Rd):Rd:=more.foldl (fun r a=>iE r a n) r
theorem D.MG (more:List A) (n:Nat) (r:Rd) (k:Nat) (h:k < more.length):jr (more.take (k+1)) n r=iE (jr (more.take k) n r) more[k] n:=by
 unfold jr;rw [ρ h,List.foldl_append];rfl
theorem D.vk (r:Rd) (a:A) (n:Nat):(iE r a n).1=eF r.1 a:=by
 unfold iE eF
 split
 ·rfl
 ·rfl
structure D.qh (r:Rd):Prop where
 fU:fU r.1=true
 len:r.2.length=r.1.length
theorem D.qh.put {r:Rd} (h:qh r) (a:A) (n:Nat):qh (iE r a n):=by
 refine ⟨by rw [vk]; exact xG h.fU a,?_⟩;unfold iE;have J:=(qm h.fU a).2.2;have I:=h.len;by_cases y:hasB r.1 a=true
 ·rw [if_pos y]; exact I
 ·rw [if_neg y]
  show (r.2.take (pl r.1 a) ++ [n] ++ r.2.drop (pl r.1 a)).length=(eF r.1 a).length;unfold eF;rw [if_neg y];simp;omega
theorem D.MH (r:Rd) (a:A) (n:Nat):r.1.length≤(iE r a n).1.length∧(iE r a n).1.length≤r.1.length+1:=by
 rw [vk];refine ⟨?_,IA _ _⟩;unfold eF
 split
 ·exact ν
 ·simp
  omega
theorem D.oG {r:Rd} (h:qh r) (n:Nat):∀ more,qh (jr more n r)∧r.1.length≤(jr more n r).1.length∧(jr more n r).1.length≤r.1.length+more.length:=by
 intro more
 induction more generalizing r with
 | nil=>exact ⟨h,ν,ν⟩
 | cons a more ih=>
  have h1:=ih (h.put a n);have y:=MH r a n;refine ⟨h1.1,?_,?_⟩
  ·exact τ y.1 h1.2.1
  ·have:=h1.2.2
   simp only [jr,List.foldl_cons,List.length_cons] at *;omega
def D.fM (rs:List Ru) (lv:List Nat) (level:Nat) (r:Rd) (n:Nat):Rd:=jr (jh r.1 level (rs.zip lv)) n r
def D.CG (rs:List Ru) (lv:List Nat):Nat→Nat→Rd→Nat→Rd × Bool
 | 0,_,r,_=>(r,true)
 | k+1,0,r,_=>(r,false)
 | k+1,fuel+1,r,n=>
  if 300 < (fM rs lv (rs.length - k) r (n+1)).1.length then (fM rs lv (rs.length - k) r (n+1),false)
  else if (fM rs lv (rs.length - k) r (n+1)).1.length=r.1.length then CG rs lv k 302 (fM rs lv (rs.length - k) r (n+1)) n
  else CG rs lv (k+1) fuel (fM rs lv (rs.length - k) r (n+1)) (n+1)
 termination_by k fuel=>(k,fuel)
def D.iF (rs:List Ru) (given:List A):Rd × Bool:=CG rs (ay rs) (rs.length+1) 302 (given,List.replicate given.length 0) 0
end
section
open Go.RowKit D
attribute [local go_sem ↓] Go.wp_at_zero Go.wp_at_succ
theorem D.U5 (l i:Nat) (y:l < 16) (I:i < 4):(bits .and .i64 (l:Int) (wrap64 (2 ^ i)) == 0) = !l.testBit i:=by
 have h:∀ l:Nat,l < 16→∀ i:Nat,i < 4→(bits .and .i64 (l:Int) (wrap64 (2 ^ i)) == 0) = !l.testBit i:=by decide +kernel
 exact h l y i I
structure D.wZ (fs ps:List A) (b:Bd) (bs:List Nat) (left m:Nat) (A9:Option Addr) (c9:Nat) (key:WK) (bx:List Nat) (w:World):Prop where
 lt:m < ps.length
 bit:left.testBit m=true
 row:jM w [.slice A9 (idxs fs key).length c9] (idxs fs key) bx
 sub:∀ x ∈ bx,x ∈ bs
 key_:∀ p,ps[m]? = some p→∀ f,Gr f→(aF p f b).2=true→key ∈ keysOf f
theorem D.wZ.below {fs ps:List A} {b:Bd} {bs:List Nat} {left m:Nat} {y:Option Addr} {I:Nat} {key:WK} {J:List Nat} {w w':World} (h:wZ fs ps b bs left m y I key J w) (hb:Below w.heap.size w w'):wZ fs ps b bs left m y I key J w':=
 ⟨h.lt,h.bit,dM.below h.row hb,h.sub,h.key_⟩
theorem OX (vars:List ByteArray) (hv:jU vars) (b:Bd) (fs:List A) (rn:List Nat) (bs:List Nat) (ps:List A) (Ap:Option Addr) (cp:Nat) (bp:List Nat) (sk sb:Nat) (v2:Value) (wt:Nat→Bool) (ah:Int) (tell:Value) (left:Nat) (w:World)
  (h:l9 sk sb (.slice Ap ps.length cp) v2 wt false ah tell w) (hb:iJ vars b sk 18 w) (aq:kR sb fs rn bs w) (ar:uf vars w [.slice Ap ps.length cp] ps bp) (hin:∀ p ∈ ps,∀ t ∈ p.args,t.var=true→t.name ∈ vars) (av:∀ p ∈ ps,p.args.length≤1000000) (b8:ps.length≤4) (aw:left < 16) (ag:fs.length≤1000000)
  (a6:∃ j,j < ps.length∧left.testBit j=true):
  Calls Tryz.prog 231 #[.pointer (some ⟨sk,0,none⟩),.int .i64 left] w fun e w'=>∃ m A9 c9 key bx,e=.returned (.tuple #[.int .i64 (m:Nat),.slice A9 (idxs fs key).length c9])∧wZ fs ps b bs left m A9 c9 key bx w'∧Below w.heap.size w w':=by
 have a7:=h.lt;have y0:=h.p1;have HX:=η (ι h (ι hb (ι aq (ι ar (ι hin (ι av a6))))));clear h hb aq ar hin av a6
 go_enter Tryz.func231,Tryz.ntmps231
 go_wp2
 go_loopw [6,7,17] (fun best list i wr=>∃ (k:Nat),k≤ps.length∧i=.int .i64 k∧Below w.heap.size w wr∧
  ((best=.int .i64 (-1)∧list=.slice none 0 0∧∀ j,j < k→left.testBit j=false)∨∃ m A9 c9 key bx,best=.int .i64 (m:Nat)∧list=.slice A9 (idxs fs key).length c9∧wZ fs ps b bs left m A9 c9 key bx wr)) (fun _ _ i _=>ps.length - (intOf i).toNat)
 case atStart=>exact ⟨0,ε,rfl,ϑ,.inl ⟨rfl,rfl,fun j hj=>by omega⟩⟩
 case round=>
  obtain ⟨k,hk,rfl,I,halt⟩:=hrel;by_cases a0:k < ps.length
  ·obtain ⟨bq,oq,Ae,ce,bk,rfl,_,f0,f1,⟨vv,az,aD,am⟩,_⟩:=yu ((dW vars).below HX.out.2.2.2.1 I) a0
   simp only [List.cons.injEq,and_true,true_and] at az;subst az;have b9:(0:Int)≤(k:Int):=by omega
   have b4:(k:Int) < (ps.length:Int):=by omega
   have bc:(k:Int) < 4:=by omega
   have af:=U5 left k aw (by omega);have a8:Below wr.heap.size wr (wr.alloc (.cells #[.string ps[k].name,.slice Ae ps[k].args.length ce] 168)):=ζ;have a1:=I.trans (a8.mono I.size);have J:=η a0;have aE:=η a8;have a9:=η a1;have a4:=η halt;cases htb:left.testBit k
   ·rw [htb] at af
    have ao:=η htb;clear a8 a1 aD am I htb hk halt;simp only [Bool.not_false] at af;generalize ps[k].name=pn at *;generalize ps[k].args.length=pl at *;clear a0;go_wp2;go_roundw
    case rel=>
     refine ⟨k+1,J.out,by go_num,a9.out,?_⟩
     rcases a4.out with ⟨h1,h2,h3⟩ | ⟨m,A9,c9,key,bx,h1,h2,h3⟩
     ·refine .inl ⟨h1,h2,fun j hj=>?_⟩
      rcases Nat.lt_succ_iff_lt_or_eq.1 hj with h | rfl
      ·exact h3 j h
      ·exact ao.out
     ·exact .inr ⟨m,A9,c9,key,bx,h1,h2,h3.below aE.out⟩
    case measure=>have:=J.out; simp [intOf]; omega
   ·rw [htb] at af
    have b7:sk < (wr.alloc (.cells #[.string ps[k].name,.slice Ae ps[k].args.length ce] 168)).heap.size:=κ a7 a1.size;have HC:=η (Es vars hv b sb fs rn bs ps[k] Ae ce bk sk 18 (wr.alloc (.cells #[.string ps[k].name,.slice Ae ps[k].args.length ce] 168)).drew (HX.out.2.2.1.below a1.drew) (HX.out.2.1.keep (a1.drew.block _ a7)) ((dm vars).below am a8.drew) (HX.out.2.2.2.2.1 _ (δ a0)) (HX.out.2.2.2.2.2.1 _ (δ a0)) ag);have s0:(wr.alloc (.cells #[.string ps[k].name,.slice Ae ps[k].args.length ce] 168)).cell? ⟨sk,0,none⟩=some (.pointer (some ⟨sb,0,none⟩)):=(HX.out.1.keep (a1.block _ a7)).st;have z0:(wr.alloc (.cells #[.string ps[k].name,.slice Ae ps[k].args.length ce] 168)).cell? ⟨wr.heap.size,0,none⟩=some (.string ps[k].name):=by go_simp
    have z1:(wr.alloc (.cells #[.string ps[k].name,.slice Ae ps[k].args.length ce] 168)).cell? ⟨wr.heap.size,1,none⟩=some (.slice Ae ps[k].args.length ce):=by go_simp
    have aL:Hid (∀ p,ps[k]? = some p→p=ps[k]):=η fun p hp=>by rw [Ψ a0] at hp; exact (Option.some.inj hp).symm
    have ao:=η htb;clear a8 a1 aD am I htb hk halt;simp only [Bool.not_true] at af;generalize ps[k]=p at *;clear a0;obtain ⟨pn,a2⟩:=p;dsimp only at *
    have aM:∀ (y:WK) (a3:List Nat) (A8:Option Addr) (c8:Nat) (w8:World),jM w8 [.slice A8 (idxs fs y).length c8] (idxs fs y) a3→(∀ x ∈ a3,x ∈ bs)→(∀ f,Gr f→(aF ⟨pn,a2⟩ f b).2=true→y ∈ keysOf f)→wZ fs ps b bs left k A8 c8 y a3 w8:=
     fun _ _ _ _ _ h1 h2 h3=>⟨J.out,ao.out,h1,h2,fun p hp=>by rw [aL.out p hp]; exact h3⟩
    have aR:=η aM;clear aM aL
    rcases a4.out with ⟨rfl,rfl,_⟩ | ⟨m,A9,c9,key,bx,rfl,rfl,h3⟩
    ·clear a4
     go_wp2;generalize wr.alloc (.cells #[.string pn,.slice Ae a2.length ce] 168)=W1 at *
     go_region_law
      (first
       | (go_simp; go_at_call 272; refine HC.out.mono ?_; rintro e w2 ⟨A8,c8,y,a3,rfl,aa,ab,ac,ae⟩; have U:=η ((Below.refl W1.heap.size W1).drew.trans ae); replace s0:=ξ U.out s0; have H8:=η (aR.out _ _ _ _ _ aa ab ac); clear aa ab ac ae))
     all_goals
      have a5:=η (a9.out.trans (U.out.mono a9.out.size));have q9:=(HX.out.1.keep (a5.out.block _ a7)).io;clear s0 z0 z1 HC U;go_wp2;go_roundw
      case rel=>exact ⟨k+1,J.out,by go_num,a5.out,.inr ⟨k,A8,c8,y,a3,rfl,rfl,H8.out⟩⟩
      case measure=>have:=J.out; simp [intOf]; omega
    ·have bf:¬ ((m:Nat):Int) < 0:=by omega
     have H3:=η h3;clear a4 h3;go_wp2;generalize wr.alloc (.cells #[.string pn,.slice Ae a2.length ce] 168)=W1 at *
     go_region_law
      (first
       | (go_simp; go_at_call 272; refine HC.out.mono ?_; rintro e w2 ⟨A8,c8,y,a3,rfl,aa,ab,ac,ae⟩; have U:=η ((Below.refl W1.heap.size W1).drew.trans ae); replace s0:=ξ U.out s0; have H8:=η (aR.out _ _ _ _ _ aa ab ac); clear aa ab ac ae))
     all_goals
      have a5:=η (a9.out.trans (U.out.mono a9.out.size));have q9:=(HX.out.1.keep (a5.out.block _ a7)).io;have H4:=η ((H3.out.below aE.out).below U.out);have bg:(idxs fs y).length≤1000000:=τ (nK _ _) ag;have bh:(idxs fs key).length≤1000000:=τ (nK _ _) ag;clear s0 z0 z1 HC U H3;by_cases hc:(idxs fs y).length < (idxs fs key).length
      ·have b5:((idxs fs y).length:Int) < ((idxs fs key).length:Int):=by omega
       go_wp2;go_roundw
       case rel=>exact ⟨k+1,J.out,by go_num,a5.out,.inr ⟨k,A8,c8,y,a3,rfl,rfl,H8.out⟩⟩
       case measure=>have:=J.out; simp [intOf]; omega
      ·have b5:¬ ((idxs fs y).length:Int) < ((idxs fs key).length:Int):=by omega
       go_wp2;go_roundw
       case rel=>exact ⟨k+1,J.out,by go_num,a5.out,.inr ⟨m,A9,c9,key,bx,rfl,rfl,H4.out⟩⟩
       case measure=>have:=J.out; simp [intOf]; omega
  ·have he:k=ps.length:=by omega
   subst he;have b4:¬ (ps.length:Int) < (ps.length:Int):=by omega
   rcases halt with ⟨rfl,rfl,h3⟩ | ⟨m,A9,c9,key,bx,rfl,rfl,h3⟩
   ·obtain ⟨j,b6,b3⟩:=HX.out.2.2.2.2.2.2
    rw [h3 j b6] at b3;cases b3
   ·have HP:=η (ι h3 I)
    clear h3 I;go_wp2;go_ret2;exact ⟨m,A9,c9,key,rfl,⟨bx,HP.out.1⟩,HP.out.2⟩
def D.yP (fs:List A) (y:List A) (b:Bd):Bool:=y.any fun n=>decide (eH (cu n b) ∈ fs.map eH)
theorem D.RH (fs y:List A) (b:Bd) (k:Nat) (h:k < y.length):yP fs (y.take (k+1)) b=(yP fs (y.take k) b || decide (eH (cu y[k] b) ∈ fs.map eH)):=by
 unfold yP;rw [ρ h,List.any_append];simp
theorem D.WQ {fs y:List A} {b:Bd} {k:Nat} (h:k < y.length) (I:decide (eH (cu y[k] b) ∈ fs.map eH)=true):yP fs y b=true:=List.any_eq_true.2 ⟨y[k],δ h,I⟩
theorem rP (vars:List ByteArray) (hv:jU vars) (b:Bd) (aL:jT vars b) (fs:List A) (rn:List Nat) (bs:List Nat) (y:List A) (An:Option Addr) (cn:Nat) (bn:List Nat) (sk sb:Nat) (v1:Value) (wt:Nat→Bool) (io:Bool) (ah:Int) (tell:Value) (w:World)
  (h:l9 sk sb v1 (.slice An y.length cn) wt io ah tell w) (hb:iJ vars b sk 18 w) (aq:kR sb fs rn bs w) (ar:uf vars w [.slice An y.length cn] y bn) (hin:∀ n ∈ y,∀ t ∈ n.args,t.var=true→t.name ∈ vars) (hok:∀ n ∈ y,aZ (cu n b)=true) (b4:y.length≤1000000):
  Calls Tryz.prog 230 #[.pointer (some ⟨sk,0,none⟩)] w fun e w'=>e=.returned (.bool (yP fs y b))∧Below w.heap.size w w':=by
 have ae:=h.lt;have y0:=h.p2;have HX:=η (ι h (ι hb (ι aq (ι ar (ι hin hok)))));clear h hb aq ar hin hok
 go_enter Tryz.func230,Tryz.ntmps230
 go_wp2
 go_loopw [11] (fun i wr=>∃ (k:Nat),k≤y.length∧i=.int .i64 k∧yP fs (y.take k) b=false∧Below w.heap.size w wr) (fun i _=>y.length - (intOf i).toNat)
 case atStart=>exact ⟨0,ε,rfl,by simp [yP],ϑ⟩
 case round=>
  obtain ⟨k,hk,rfl,a3,U⟩:=hrel;by_cases a0:k < y.length
  ·obtain ⟨bq,oq,Ae,ce,bk,rfl,_,f0,f1,⟨vv,av,aw,az⟩,_⟩:=yu ((dW vars).below HX.out.2.2.2.1 U) a0
   simp only [List.cons.injEq,and_true,true_and] at av;subst av;have b5:(0:Int)≤(k:Int):=by omega
   have aM:(k:Int) < (y.length:Int):=by omega
   have af:=RH fs y b k a0;rw [a3,Bool.false_or] at af;have aR:=η af;have b3:=η (fun hd=>WQ (fs:=fs) (b:=b) a0 hd)
   have aD:y[k].args.length≤1000000:=by
    have h9:=HX.out.2.2.2.2.2 _ (δ a0);unfold aZ at h9;simp only [ο,decide_eq_true_eq] at h9;have:=h9.1.2;simp [cu] at this; omega
   have ag:Below wr.heap.size wr (wr.alloc (.cells #[.string y[k].name,.slice Ae y[k].args.length ce] 168)):=ζ;have a2:=U.trans (ag.mono U.size);have a1:sk < (wr.alloc (.cells #[.string y[k].name,.slice Ae y[k].args.length ce] 168)).heap.size:=κ ae a2.size;have HF:=η (LY vars hv b aL y[k] Ae ce bk sk 18 (wr.alloc (.cells #[.string y[k].name,.slice Ae y[k].args.length ce] 168)).drew ((HX.out.2.1.keep (a2.block _ ae)).keep rfl) aw ((dm vars).below az (ag.drew)) (HX.out.2.2.2.2.1 _ (δ a0)) aD);have aa:=η (HX.out.2.2.2.2.2 _ (δ a0));have ab:=η (HX.out.2.2.1.below a2);have ac:=η a2;have s0:(wr.alloc (.cells #[.string y[k].name,.slice Ae y[k].args.length ce] 168)).cell? ⟨sk,0,none⟩=some (.pointer (some ⟨sb,0,none⟩)):=(HX.out.1.keep (a2.block _ ae)).st;have z0:(wr.alloc (.cells #[.string y[k].name,.slice Ae y[k].args.length ce] 168)).cell? ⟨wr.heap.size,0,none⟩=some (.string y[k].name):=by go_simp
   have z1:(wr.alloc (.cells #[.string y[k].name,.slice Ae y[k].args.length ce] 168)).cell? ⟨wr.heap.size,1,none⟩=some (.slice Ae y[k].args.length ce):=by go_simp
   have aE:=η a0;clear a3 U hk ag a2 aw az af aD;generalize y[k]=n at *;clear a0;obtain ⟨nn,J⟩:=n;dsimp only at *;generalize hr:decide (eH (cu ⟨nn,J⟩ b) ∈ fs.map eH)=r at *;have HR:=η hr;clear hr;cases r
   ·go_wp2
    generalize wr.alloc (.cells #[.string nn,.slice Ae J.length ce] 168)=W1 at *
    go_region_law
     (first
      | (go_simp; go_at_call 117; refine HF.out.mono ?_; rintro e w2 ⟨v9,b9,rfl,a4,a5,am⟩; have I:=η ((Below.refl W1.heap.size W1).drew.trans a4); replace s0:=ξ I.out s0; replace a1:=κ a1 I.out.size; have a6:=zM sb fs rn bs (cu ⟨nn,J⟩ b) (.string nn) v9 b9 w2 (ab.out.below I.out) a5 aa.out; have a7:=η a6; clear a4 a5 am a6)
      | (go_simp; go_at_call 193; refine a7.out.mono ?_; rintro e w3 ⟨rfl,a8⟩; have a9:=η (I.out.trans (a8.mono I.out.size)); rw [HR.out]; clear a8))
    all_goals
     have ao:=η (ac.out.trans (a9.out.mono ac.out.size));clear s0 z0 z1 HF a7 I a9 ab aa;go_wp2;go_roundw
     case rel=>exact ⟨k+1,aE.out,by go_num,aR.out,ao.out⟩
     case measure=>have:=aE.out; simp [intOf]; omega
   ·go_wp2
    generalize wr.alloc (.cells #[.string nn,.slice Ae J.length ce] 168)=W1 at *
    go_region_law
     (first
      | (go_simp; go_at_call 117; refine HF.out.mono ?_; rintro e w2 ⟨v9,b9,rfl,a4,a5,am⟩; have I:=η ((Below.refl W1.heap.size W1).drew.trans a4); replace s0:=ξ I.out s0; replace a1:=κ a1 I.out.size; have a6:=zM sb fs rn bs (cu ⟨nn,J⟩ b) (.string nn) v9 b9 w2 (ab.out.below I.out) a5 aa.out; have a7:=η a6; clear a4 a5 am a6)
      | (go_simp; go_at_call 193; refine a7.out.mono ?_; rintro e w3 ⟨rfl,a8⟩; have a9:=η (I.out.trans (a8.mono I.out.size)); rw [HR.out]; clear a8))
    all_goals
     have ao:=η (ac.out.trans (a9.out.mono ac.out.size));clear s0 z0 z1 HF a7 I a9 ab aa;go_wp2;go_ret;rw [b3.out (by trivial)];exact ⟨rfl,ao.out⟩
  ·have he:k=y.length:=by omega
   have aM:¬ (k:Int) < (y.length:Int):=by omega
   rw [ϕ (Nat.le_of_eq he.symm)] at a3;have HP:=η (ι a3 U);clear a3 U;go_wp2;go_ret;rw [HP.out.1];exact ⟨rfl,HP.out.2⟩
end
end Go.Proofs.YtkjinanbccloeaaGreatDoor
