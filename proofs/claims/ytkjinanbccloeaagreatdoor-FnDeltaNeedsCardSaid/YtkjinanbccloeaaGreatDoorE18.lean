/- Of the proof of FnDeltaNeeds: jm, VarsI, WdI, AllS, LooseI. -/
import Derived.Test.YtkjinanbccloeaaGreatDoorE14
set_option linter.unusedVariables false
set_option maxHeartbeats 8000000
set_option maxRecDepth 100000
namespace Go.Proofs.YtkjinanbccloeaaGreatDoor
section
open Go.RowKit D
def D.YD (w:World) (y:Nat):Prop:=∀ o u,w.cell? ⟨y,o,none⟩=some u→∀ b,u ≠ .bool b
theorem D.Na {w:World} {I:Nat} {s:ByteArray} {A B:Option Addr} {l c m d:Nat} {t:TypeId} (h:w.heap[I]? = some (.cells #[.string s,.slice A l c,.slice B m d] t (0,0))):YD w I:=by
 intro o u y;rw [ai h] at y
 match o with
 | 0=>simp at y; subst y; exact fun b=>by simp
 | 1=>simp at y; subst y; exact fun b=>by simp
 | 2=>simp at y; subst y; exact fun b=>by simp
 | o+3=>simp at y
theorem D.sN {w:World} {n0:Nat} (ha:YD w n0) {v:Value} {U:List T} {bs:List Nat} (h:gG w [v] U bs):n0 ∉ bs:=by
 intro hb;obtain ⟨Ad,cap,a4,hl,hm,g0,g1⟩:=h;by_cases I:U = []
 ·rw [g0 I] at hb; simp at hb
 ·obtain ⟨b,o,rfl,F,G,rfl,hF⟩:=g1 I
  rcases ύ.1 hb with rfl | hb
  ·match U,I with
   | y :: r,_=>
    obtain ⟨a1,a2,a3⟩:=hF 0 y rfl;obtain ⟨e,_,_⟩:=a3;have:=a2 0 (.bool y.var) (by rw [e]; rfl);exact ha _ _ this _ rfl
  ·obtain ⟨k,hk,J⟩:=List.mem_flatMap.1 hb
   have a0:=List.mem_range.1 hk;obtain ⟨a1,a2,a3⟩:=hF k U[k] (Ψ a0);obtain ⟨_,_,e⟩:=a3;rw [e] at J; simp at J
theorem D.Gq {w:World} {y:Nat} (ha:YD w y) {L:List Value} {xs:List Pt} {bs:List Nat} (h:aT 3 qF w L xs bs):y ∉ bs:=by
 obtain ⟨h1,h2,G,rfl,I⟩:=h;intro hb;obtain ⟨j,J,hc⟩:=List.mem_flatMap.1 hb;obtain ⟨s,_,_,U⟩:=I j (List.mem_range.1 J);exact sN ha U hc
theorem Vp {w:World} {base e n k c:Nat} {A:Option Addr} {L:List Value} (h:w.ownsRow base e n (.slice A k c) k L):Lies w A L:=by
 rcases h.2 with ⟨I,U⟩ | ⟨g,cap,a0,I,_,hh,_,_,a1,ht⟩
 ·have:L.length=0:=by rw [h.1,U,Nat.zero_mul]
  rw [List.length_eq_zero_iff.1 this];exact Lies.nil _ _
 ·simp only [Value.slice.injEq] at I
  rw [I.1];refine Lies.mk fun j u y=>?_
  rw [Nat.zero_add,ai hh];rw [← ht] at y;by_cases J:j < k * n
  ·rw [List.getElem?_take_of_lt J] at y
   simpa using y
  ·rw [List.getElem?_take_eq_none (by omega)] at y
   cases y
structure jm (g p rb:Nat) (wb:World) (a:A) (A1:Option Addr) (c1:Nat) (b1:List Nat) (xs:List Pt) (A2:Option Addr) (c2:Nat) (wr:World):Prop where
 box:wr.heap[rb]? = some (.cells #[.string a.name,.slice A1 a.args.length c1,.slice A2 xs.length c2] 40 (0,0))
 at_:aJ wr [.string a.name,.slice A1 a.args.length c1] a b1
 alt:∀ b ∈ b1,b < wb.heap.size
 bd:kT g p wb xs (.slice A2 xs.length c2) wr
 gb:g ≠ rb
 ga:g ∉ b1
 rbb:wb.heap.size≤rb
section
variable {g p rb:Nat} {wb:World} {a:A} {A1:Option Addr} {c1:Nat} {b1:List Nat} {xs:List Pt} {A2:Option Addr} {c2:Nat} {wr:World}
theorem jm.call {p2:Nat} {y:World} (h:jm g p rb wb a A1 c1 b1 xs A2 c2 wr) (I:kQ g p2 y) (hK:aI [g] wr y):jm g p2 rb wb a A1 c1 b1 xs A2 c2 y:=
 ⟨hK.blk h.box (by simp; exact fun e=>h.gb e.symm),Good.kept ak h.at_ hK (fun b hb=>by simp; rintro rfl; exact h.ga hb),h.alt,h.bd.call I hK,h.gb,h.ga,h.rbb⟩
theorem jm.below {y:World} (h:jm g p rb wb a A1 c1 b1 xs A2 c2 wr) (hB:Below wr.heap.size wr y):jm g p rb wb a A1 c1 b1 xs A2 c2 y:=
 ⟨(hB.block _ (ψ h.box)).trans h.box,ak.below h.at_ hB,h.alt,h.bd.below hB,h.gb,h.ga,h.rbb⟩
theorem jm.start {y:World} (I:aJ wb [.string a.name,.slice A1 a.args.length c1] a b1) (J:g ∉ b1) (hF:kT g p wb xs (.slice A2 xs.length c2) y):
  jm g p y.heap.size wb a A1 c1 b1 xs A2 c2 (y.alloc (.cells #[.string a.name,.slice A1 a.args.length c1,.slice A2 xs.length c2] 40)):=by
 have U:Below y.heap.size y (y.alloc (.cells #[.string a.name,.slice A1 a.args.length c1,.slice A2 xs.length c2] 40)):=ζ;exact ⟨ω y _,ak.below (Good.kept ak I hF.kept (fun b hb=>by simp; rintro rfl; exact J hb)) U,ak.lt I,hF.below U,by have:=hF.kept.size; have:=hF.glt; omega,J,hF.kept.size⟩
theorem jm.put {ys:List Pt} {U:Option Addr} {c3:Nat} {w2:World} (h:jm g p rb wb a A1 c1 b1 xs A2 c2 wr) (a0:w2.heap[rb]? = wr.heap[rb]?) (a2:∀ b ∈ b1,w2.heap[b]? = wr.heap[b]?) (y:kT g p wb ys (.slice U ys.length c3) w2):
  jm g p rb wb a A1 c1 b1 ys U c3 (w2.setCell ⟨rb,2,none⟩ (.slice U ys.length c3)):=by
 have J:=a0.trans h.box;have hx:=bY (o:=2) (u:=.slice U ys.length c3) J;have a1:=Na J;have I:=ak.keep h.at_ a2;have a3:rb ∉ b1:=sN a1 (dM I);obtain ⟨L,bs,hC,a4⟩:=y.coll;have a5:rb ∉ bs:=Gq a1 hC.row;have a6:(Value.slice U ys.length c3).ownBlock ≠ some rb:=gV hC.own J (by decide);exact ⟨hx,ak.keep I fun b hb=>π _ _ _ _ (by rintro rfl; exact a3 hb),h.alt,⟨⟨L,bs,hC.l9 jH a6 a5,a4⟩,y.small,y.rdr.eP ((Below.refl wb.heap.size w2).setCell h.rbb _) y.glt,y.kept.zK h.rbb _,y.glt⟩,h.gb,h.ga,h.rbb⟩
theorem jm.bare (h:jm g p rb wb a A1 c1 b1 xs A2 c2 wr):jm g p rb wb a A1 c1 b1 [] (some ⟨wr.heap.size,0,none⟩) 0 ((wr.setCell ⟨rb,2,none⟩ (.slice (some ⟨wr.heap.size,0,none⟩) 0 0)).alloc (.cells #[] 42)):=by
 have I:=bY (o:=2) (u:=.slice (some ⟨wr.heap.size,0,none⟩) 0 0) h.box;have J:rb ∉ b1:=sN (Na h.box) (dM h.at_);have U:=ak.keep h.at_ (w':=wr.setCell ⟨rb,2,none⟩ (.slice (some ⟨wr.heap.size,0,none⟩) 0 0)) fun b hb=>π _ _ _ _ (by rintro rfl; exact J hb)
 have a0:=h.bd.rdr.eP ((Below.refl wb.heap.size wr).setCell (p:=⟨rb,2,none⟩) h.rbb (.slice (some ⟨wr.heap.size,0,none⟩) 0 0)) h.bd.glt;have hk:=h.bd.kept.zK (p:=⟨rb,2,none⟩) h.rbb (.slice (some ⟨wr.heap.size,0,none⟩) 0 0);have a1:(wr.setCell ⟨rb,2,none⟩ (.slice (some ⟨wr.heap.size,0,none⟩) 0 0)).heap.size=wr.heap.size:=by simp [World.setCell]
 generalize wr.setCell ⟨rb,2,none⟩ (.slice (some ⟨wr.heap.size,0,none⟩) 0 0)=wx at *;rw [← a1] at I ⊢;have y:Below wx.heap.size wx (wx.alloc (.cells #[] 42)):=ζ;exact ⟨(y.block _ (ψ I)).trans I,ak.below U y,h.alt,⟨⟨_,_,aX.empty (ω wx _) hk.size,fun b hb=>by simp at hb⟩,fun a ha=>by simp at ha,a0.below y,hk.eP y hk.size,h.bd.glt⟩,h.gb,h.ga,h.rbb⟩
theorem jm.cell (h:jm g p rb wb a A1 c1 b1 xs A2 c2 wr):wr.cell? ⟨rb,0,none⟩=some (.string a.name)∧wr.cell? ⟨rb,1,none⟩=some (.slice A1 a.args.length c1)∧wr.cell? ⟨rb,2,none⟩=some (.slice A2 xs.length c2):=⟨ai h.box,ai h.box,ai h.box⟩
theorem jm.wE (h:jm g p rb wb a A1 c1 b1 xs A2 c2 wr) (o:Nat):wr.frozen? ⟨rb,o,none⟩=false:=ax h.box
theorem jm.keep {wx I:World} (h:jm g p rb wb a A1 c1 b1 xs A2 c2 wr) (hA:Below wr.heap.size wr wx) (hG:wx.grownBy I (Value.slice A2 xs.length c2).ownBlock):
  I.heap[rb]? = wr.heap[rb]?∧I.cell? ⟨rb,2,none⟩=some (.slice A2 xs.length c2)∧I.frozen? ⟨rb,2,none⟩=false∧rb < I.heap.size:=by
 obtain ⟨L,bs,J,a0⟩:=h.bd.coll;have U:(Value.slice A2 xs.length c2).ownBlock ≠ some rb:=gV J.own h.box (by decide)
 have y:I.heap[rb]? = wr.heap[rb]?:=by
  rw [hG.block rb (κ (ψ h.box) hA.size) (fun e=>U e.symm)];exact hA.block rb (ψ h.box)
 have hb:=y.trans h.box;exact ⟨y,ai hb,ax hb,ψ hb⟩
theorem jm.app {y:A} {U:Option Addr} {c4:Nat} {wx J:World} {L4:List Value} {I:List Nat} (h:jm g p rb wb a A1 c1 b1 xs A2 c2 wr) (hA:Below wr.heap.size wr wx) (hC:aX 3 qF wb.heap.size 42 J (.slice U (xs.length+1) c4) L4 (xs ++ [⟨false,y⟩]) I) (a0:∀ b ∈ I,wb.heap.size≤b) (hB:Below wb.heap.size wr J) (hG:wx.grownBy J (Value.slice A2 xs.length c2).ownBlock) (hy:X7 ⟨false,y⟩):
  jm g p rb wb a A1 c1 b1 (xs ++ [⟨false,y⟩]) U c4 (J.setCell ⟨rb,2,none⟩ (.slice U (xs.length+1) c4)):=by
 have a1:=h.bd.app hC a0 hB hy;have e:xs.length+1=(xs ++ [(⟨false,y⟩:Pt)]).length:=by simp
 rw [e];exact h.put (h.keep hA hG).1 (fun b hb=>hB.block b (h.alt b hb)) (by rw [← e]; exact a1)
theorem jm.rule {B:Nat} (h:jm g p rb wb a A1 c1 b1 xs A2 c2 wr) (I:∀ b ∈ b1,B≤b) (hB:B≤wb.heap.size):∃ br,iy wr [.string a.name,.slice A1 a.args.length c1,.slice A2 xs.length c2] ⟨a,xs⟩ br∧∀ b ∈ br,B≤b:=by
 obtain ⟨b2,hp,h2⟩:=h.bd.parts;obtain ⟨s,y,J,U⟩:=h.at_;simp only [List.cons.injEq,and_true,true_and] at y;subst y;exact ⟨b1 ++ b2,⟨_,_,b1,b2,rfl,J,rfl,U,hp⟩,fun b hb=>(μ.1 hb).elim (I b) (fun hb=>τ hB (h2 b hb))⟩
end
theorem D.Nb {w:World} {b:Nat} {x y z:ByteArray} (h:w.heap[b]? = some (.cells #[.bool true,.string x,.bool true,.string y,.bool true,.string z] 91 (0,0))) (U:x.size≤maxLen) (hy:y.size≤maxLen) (hz:z.size≤maxLen):
  gG w [.slice (some ⟨b,0,none⟩) 3 3] [⟨true,x⟩,⟨true,y⟩,⟨true,z⟩] [b]:=by
 refine ⟨_,3,rfl,ν,by unfold maxLen; omega,fun h=>by simp at h,fun _=>⟨b,0,rfl,fun k=>if k=0 then [.bool true,.string x] else if k=1 then [.bool true,.string y] else [.bool true,.string z],fun _=>[],by simp,fun k t J=>?_⟩⟩
 match k,J with
 | 0,J=>
  simp only [List.getElem?_cons_zero,Option.some.injEq] at J;subst J;refine ⟨rfl,fun j v I=>?_,rfl,U,rfl⟩
  match j,I with
  | 0,I=>rw [ai h]; simpa using I
  | 1,I=>rw [ai h]; simpa using I
  | j+2,I=>simp at I
 | 1,J=>
  simp only [List.getElem?_cons_succ,List.getElem?_cons_zero,Option.some.injEq] at J;subst J;refine ⟨rfl,fun j v I=>?_,rfl,hy,rfl⟩
  match j,I with
  | 0,I=>rw [ai h]; simpa using I
  | 1,I=>rw [ai h]; simpa using I
  | j+2,I=>simp at I
 | 2,J=>
  simp only [List.getElem?_cons_succ,List.getElem?_cons_zero,Option.some.injEq] at J;subst J;refine ⟨rfl,fun j v I=>?_,rfl,hz,rfl⟩
  match j,I with
  | 0,I=>rw [ai h]; simpa using I
  | 1,I=>rw [ai h]; simpa using I
  | j+2,I=>simp at I
 | k+3,J=>simp at J
theorem FC {g p n:Nat} {w y U:World} {xs:List Ru} {Av:Option Addr} {cp:Nat} {I:TypeInfo} (hi:Tryz.prog.info? 40=some I) (a0:I.zero=some (.agg #[.string ⟨#[]⟩,.slice none 0 0,.slice none 0 0])) (a1:I.size=3) (a2:I.bytes=64)
  {a3:Array Oper} {o:Oper} {a:Act} {K:Act→World→Prop} {Q:Exit→Act→World→Prop} {E:Prop} (a4:o.guard=none) (s x:Operand)
  (ho:o.op=.call { callee:=.builtin .append,args:=#[s,x],argTypes:=#[23,23] }) (b:Nat) (hs:a.eval s=.slice (some ⟨b,0,none⟩) 0 0) (hE:U.heap[b]? = some (.cells #[] 40 (0,0))) (hb:y.heap.size≤b)
  (H:gZ g p w xs (.slice Av n cp) y) (hx:a.eval x=.slice Av n cp) (hn:xs.length=n) (hB:Below y.heap.size y U) (hlen:n≤100)
  (h:∀ A cap w',(∃ L bs,aX 3 iy y.heap.size 40 w' (.slice A n cap) L xs bs∧(∀ b ∈ bs,w.heap.size≤b))→Below y.heap.size y w'→U.grownBy w' (some b)→K (a.put o.dst (.slice A n cap)) w'):if Region.wanted o (yielded a3 a.tmps)=true then Oper.wp Tryz.prog o a U K Q else E:=by
 subst hn;obtain ⟨L,bs,hC,a5⟩:=H.coll;have J:=hC.below aY hB
 refine aV a4 s x _ ho y.heap.size 40 I _ 3 64 Tryz.underlying23 hi a0 a1 a2 rfl (by omega) aY (.slice (some ⟨b,0,none⟩) 0 0) 0 [] [] [] hs (aX.empty hE hb) rfl Av xs.length cp L xs bs hx J.row rfl (Vp J.own) (fun c hc=>by
  have:=hC.row.lt aY c hc
  simp [Value.ownBlock]; omega) (by unfold maxLen; omega) (by omega) y y.heap.size hB ν hB.size fun A cap w' a6 a7 _ hG=>?_
 rw [Nat.zero_add] at *;exact h A cap w' ⟨L,bs,by simpa using a6,a5⟩ a7 hG
theorem Vq {g p n:Nat} {w y W2:World} {xs:List Ru} {Av:Option Addr} {cp:Nat} {I:TypeInfo} (hi:Tryz.prog.info? 40=some I) (a0:I.zero=some (.agg #[.string ⟨#[]⟩,.slice none 0 0,.slice none 0 0])) (a1:I.size=3) (a2:I.bytes=64)
  {a3:Array Oper} {o:Oper} {a:Act} {K:Act→World→Prop} {Q:Exit→Act→World→Prop} {E:Prop} (a4:o.guard=none) (s x:Operand)
  (ho:o.op=.call { callee:=.builtin .append,args:=#[s,x],argTypes:=#[23,23] }) {L:List Value} {bs:List Nat} (hs:a.eval s=.slice Av n cp) (hC:aX 3 iy y.heap.size 40 W2 (.slice Av n cp) L xs bs) (a5:∀ b ∈ bs,w.heap.size≤b)
  {v:Value} (H:gZ g p w xs v y) (lb:Nat) (hx:a.eval x=.slice (some ⟨lb,0,none⟩) 1 1) {c0 c1 c2:Value} (hl:W2.heap[lb]? = some (.cells #[c0,c1,c2] 40 (0,0))) {r:Ru} {br:List Nat} (hr:iy y [c0,c1,c2] r br) (a6:∀ b ∈ br,w.heap.size≤b) (a7:Uc r) (hn:xs.length=n) (hB:Below y.heap.size y W2) (hlen:n≤100)
  (h:∀ A cap w',gZ g p w (xs ++ [r]) (.slice A (n+1) cap) w'→Below y.heap.size y w'→K (a.put o.dst (.slice A (n+1) cap)) w'):if Region.wanted o (yielded a3 a.tmps)=true then Oper.wp Tryz.prog o a W2 K Q else E:=by
 subst hn;have J:=H.kept.size;refine aV a4 s x _ ho y.heap.size 40 I _ 3 64 Tryz.underlying23 hi a0 a1 a2 rfl (by omega) aY (.slice Av xs.length cp) xs.length L xs bs hs hC rfl (some ⟨lb,0,none⟩) 1 1 _ [r] br hx (aT.dJ oW (aY.below hr hB)) rfl (aP hl) (fun c hc=>aO hC.own (aY.lt hr c hc)) (by unfold maxLen; omega) (by omega) y y.heap.size hB ν hB.size fun A cap w' a8 U _ hG=>?_
 have a9:Below w.heap.size y w':=U.mono J;exact h A cap w' (H.app (a8.mono J) (fun b hb=>(μ.1 hb).elim (a5 b) (a6 b)) a9 a7) U
end
section
open Go.RowKit D
attribute [local go_sem ↓] Go.wp_at_zero Go.wp_at_succ
theorem Vr:(Tryz.prog.info? 9).map (fun i=>(i.zero,i.size,i.bytes))=some (some (.string ⟨#[]⟩),1,16):=by kernel_rfl
structure D.Vs (w:World) (v:Value) (L:List Value) (xs:List ByteArray) (wr:World):Prop where
 coll:aX 1 jI w.heap.size 9 wr v L xs []
 bel:Below w.heap.size w wr
theorem D.Vs.below {w wr w':World} {v:Value} {L:List Value} {xs:List ByteArray} (h:Vs w v L xs wr) (hb:Below wr.heap.size wr w'):Vs w v L xs w':=⟨h.coll.below aK hb,h.bel.trans (hb.mono h.bel.size)⟩
theorem JI (ps:List Pt) (v:Value) (bs:List Nat) (w:World) (h:jd w [v] ps bs) (hs:je (fun p=>p.atom.args.length) ps≤1000000):
  Calls Tryz.prog 173 #[v] w (Makes iF (aF ps) w.heap.size w):=by
 obtain ⟨Ad,cap,rfl,hl,hm⟩:=aj h;have bq:=ay (τ hl hm);obtain ⟨i0,hi,aM,aR,b3⟩:=info_parts Vr;have b4:Hid (∀ k,(jM (ps.take k)).length≤je (fun p=>p.atom.args.length) (ps.take k)):=η fun k=>uG _
 have HS:=η hs;have HV:=η (aX.nil (n:=1) (R:=jI) (base:=w.heap.size) (e:=9) w);clear hl hm hs
 go_enter Tryz.func173,Tryz.ntmps173
 go_wp2
 go_loopw [3,10] (fun v i wr=>∃ (k:Nat) (Av:Option Addr) (cp:Nat) (L:List Value) (xs:List ByteArray),k≤ps.length∧i=.int .i64 k∧v=.slice Av xs.length cp∧xs=jM (ps.take k)∧Vs w (.slice Av xs.length cp) L xs wr) (fun _ i _=>ps.length - (intOf i).toNat)
 case atStart=>exact ⟨0,none,0,[],[],ε,rfl,rfl,rfl,HV.out,ϑ⟩
 case round=>
  obtain ⟨k,Av,cp,L,xs,hk,rfl,rfl,ab,J⟩:=hrel;clear HV;have HV:=η J;have HX:=η ab;clear ab;obtain ⟨wo,rfl⟩:∃ wo:World,wo=wr:=⟨_,rfl⟩;by_cases I:k < ps.length
  ·obtain ⟨b,o,Ae,ce,bk,rfl,_,d0,d1,d2,ac,_⟩:=iV h I
   replace d0:=ξ J.bel d0;replace d1:=ξ J.bel d1;replace d2:=ξ J.bel d2;have br:(0:Int)≤(k:Int):=by omega
   have b5:(k:Int) < (ps.length:Int):=by omega
   have ae:=η I;have HN:=η (Jq ps k I)
   have b6:Hid ((jM (ps.take k)).length+ps[k].atom.args.length≤1000000):=η (by
    have h1:=b4.out k;have h2:=GV (fun p:Pt=>p.atom.args.length) ps k I;have h3:=vH (fun p:Pt=>p.atom.args.length) ps (k+1);have:=HS.out
    omega)
   have hA:Below wo.heap.size wo (wo.alloc (.cells #[.bool ps[k].no,.string ps[k].atom.name,.slice Ae ps[k].atom.args.length ce] 42)):=ζ;have ht:=dM (jD ac);obtain ⟨_,_,b7,af,ag⟩:=aj ht;have bt:=ay (τ af ag);have am:=η (J.below hA);have HT:=η ht;clear h J ac hA ht af ag b7 HV;generalize ps[k]=p at *;clear I;obtain ⟨no,nm,args⟩:=p;dsimp only at *;go_wp2;generalize wo.alloc (.cells #[.bool no,.string nm,.slice Ae args.length ce] 42)=w1 at *
   go_loopw [3,18] (fun v i wr=>∃ (j:Nat) (Av:Option Addr) (cp:Nat) (L:List Value) (ys:List ByteArray),j≤args.length∧i=.int .i64 j∧v=.slice Av ys.length cp∧ys=jM (ps.take k) ++ jL (args.take j)∧Vs w (.slice Av ys.length cp) L ys wr) (fun _ i _=>args.length - (intOf i).toNat)
   case atStart=>exact ⟨0,Av,cp,L,xs,ε,rfl,rfl,by rw [← HX.out]; simp [jL],am.out⟩
   case round=>
    clear am HX;obtain ⟨j,Aw,cq,M,ys,hj,rfl,rfl,a0,J⟩:=hrel;have HV:=η J;have HY:=η a0;clear a0;by_cases I:j < args.length
    ·obtain ⟨b2,o2,rfl,_,f0,f1,ao⟩:=fJ (aQ.below HT.out J.bel) I
     have bu:(0:Int)≤(j:Int):=by omega
     have b8:(j:Int) < (args.length:Int):=by omega
     have a3:=η I;have a4:=η (Jp args j I);have a7:Below wr.heap.size wr (wr.alloc (.cells #[.bool args[j].var,.string args[j].name] 91)):=ζ;have aq:Below wr.heap.size wr ((wr.alloc (.cells #[.bool args[j].var,.string args[j].name] 91)).alloc (.cells #[.string args[j].name] 9)):=a7.alloc (by simp) _;have ar:=η (J.below a7);have a5:=η (J.below aq)
     have HK:Hid (ys.length+1≤maxLen∧(ys.length+1) * 16≤140737488355328):=η (by
      have h1:=CS (args.take j);rw [List.length_take] at h1;have h2:=b6.out;rw [HY.out,χ]
      unfold maxLen; omega)
     have bc:=η ao;clear J a7 aq ao HV;generalize args[j]=t at *;clear I;obtain ⟨tv,U⟩:=t;dsimp only at *;cases tv
     ·have a1:Hid (jL (args.take (j+1))=jL (args.take j)):=η (by rw [a4.out]; simp)
      clear a4 a5;go_wp2;go_roundw
      case rel=>exact ⟨j+1,Aw,cq,M,ys,a3.out,by go_num,rfl,by rw [a1.out]; exact HY.out,ar.out⟩
      case measure=>have:=a3.out; simp [intOf]; omega
     ·have a1:Hid (jL (args.take (j+1))=jL (args.take j) ++ [U]):=η (by rw [a4.out]; simp)
      have bf:Hid (aT 1 jI ((wr.alloc (.cells #[.bool true,.string U] 91)).alloc (.cells #[.string U] 9)) [.string U] [U] []):=η (aT.dJ jh ⟨rfl,bc.out,rfl⟩);have bg:Hid (Lies ((wr.alloc (.cells #[.bool true,.string U] 91)).alloc (.cells #[.string U] 9)) (some ⟨wr.heap.size+1,0,none⟩) [.string U]):=η (by have:=aP (ω (wr.alloc (.cells #[.bool true,.string U] 91)) (.cells #[.string U] 9)); simpa using this);clear a4 ar
      go_wp2_with (at_builtin; refine bU rfl _ _ _ rfl w.heap.size 9 i0 (.string ⟨#[]⟩) 1 16 Tryz.underlying44 hi aM aR b3 rfl (by omega) aK (.slice Aw ys.length cq) ys.length _ _ _ rfl a5.out.coll rfl (some ⟨wr.heap.size+1,0,none⟩) 1 1 _ [U] _ rfl bf.out rfl bg.out (fun b hb=>by simp at hb) HK.out.1 HK.out.2 w w.heap.size a5.out.bel ν a5.out.bel.size ?_; intro A2 bh w2 a2 av bi _)
      have bj:=η a2;have bl:=η av;clear a2 av bi;go_wp2;go_roundw
      case rel=>exact ⟨j+1,A2,bh,_,ys ++ [U],a3.out,by go_num,by simp,by rw [a1.out,HY.out,List.append_assoc],by rw [χ]; exact bj.out,bl.out⟩
      case measure=>have:=a3.out; simp [intOf]; omega
    ·have he:j=args.length:=by omega
     have b8:¬ (j:Int) < (args.length:Int):=by omega
     have HE:Hid (ys=jM (ps.take (k+1))):=η (by rw [HN.out,HY.out,he,ϕ ν]);clear J he;go_wp2;go_roundw
     case rel=>exact ⟨k+1,Aw,cq,M,ys,ae.out,by go_num,rfl,HE.out,HV.out⟩
     case measure=>have:=ae.out; simp [intOf]; omega
  ·have he:k=ps.length:=by omega
   have b5:¬ (k:Int) < (ps.length:Int):=by omega
   have a8:xs=jM ps:=by rw [HX.out,he,ϕ ν]
   have a9:xs.length≤16777216:=by rw [a8]; have:=uG ps; have:=HS.out; omega
   have bn:=η a8;have bo:=η a9;have c1:=Ih xs _ L w.heap.size wo J.coll a9;have bv:=η (dU J.coll.own);clear h J he a8 a9 HX hk
   go_wp2_with fail
   refine c1.mono ?_;rintro e w2 ⟨rfl,ys,a0,aw,aa,az⟩;have B2:Below w.heap.size w w2:=iQ HV.out.bel HV.out.coll.own ν HV.out.bel.size az;have c2:=JB ys _ _ w.heap.size w2 aa (by rw [aw]; exact bo.out);have HY:=η (ι a0 (ι aa B2));clear c1 a0 aw aa az B2
   go_wp2_with fail
   refine c2.mono ?_;rintro e w3 ⟨v3,zs,rfl,a6,a2,aD⟩
   have hz:zs=aF ps:=by
    have h1:=Jr ps;rw [HY.out.1,bn.out] at a6;rw [h1] at a6
    have bp:∀ (a b:List ByteArray),a.map (·.data.toList)=b.map (·.data.toList)→a=b:=by
     intro a
     induction a with
     | nil=>intro b h; cases b; rfl; simp at h
     | cons x a ih=>intro b h; cases b with
      | nil=>simp at h
      | cons y b=>simp only [List.map_cons,List.cons.injEq] at h; rw [bytes_inj h.1,ih b h.2]
    exact bp _ _ a6
   subst hz;obtain ⟨b9,aE,aL⟩:=a2.new (New.nil _ _);have B3:=iQ HY.out.2.2 HY.out.2.1.own ν HY.out.2.2.size aD;have HZ:Hid (Makes iF (aF ps) w.heap.size w (.returned v3) w3):=η ⟨B3,_,_,rfl,aE,aL⟩;clear c2 a6 a2 aD aE aL B3;go_wp2;go_ret;exact HZ.out
theorem D.IC {B:Nat} {a w:World} (h:Below B a w) (n:Nat):Below B a (w.drewN n):=⟨h.os,h.tape,h.output,h.size,h.block⟩
theorem xP (vars:List ByteArray) (hv:kC vars) (b:Bd) (t:T) (ht:t.var=true→t.name ∈ vars) (blk o:Nat) (w:World) (h:iM vars b blk o w):
  Calls Tryz.prog 178 #[.pointer (some ⟨blk,o,none⟩),.agg #[.int .i64 (kK vars t),.string (kL t)]] w fun e w'=>e=.returned (.string (dO b t).name)∧Below w.heap.size w w':=by
 obtain ⟨tv,y⟩:=t;have I:Below w.heap.size w (w.alloc (.cells #[.int .i64 (kK vars ⟨tv,y⟩),.string (kL ⟨tv,y⟩)] 244)):=ζ;have HB:=η I;cases tv
 ·have J:kK vars ⟨false,y⟩ = -1:=rfl
  have U:kL ⟨false,y⟩=y:=rfl;have e3:(dO b ⟨false,y⟩).name=y:=rfl;rw [J,U] at HB ⊢;rw [e3];clear h I ht J U e3
  go_enter Tryz.func178,Tryz.ntmps178
  go_wp2;go_ret;exact ⟨rfl,HB.out⟩
 ·have hn:=ht rfl
  have hi:vars.idxOf y < vars.length:=List.idxOf_lt_length_of_mem hn;have hf:=hv.few;have J:kK vars ⟨true,y⟩=((vars.idxOf y:Nat):Int):=rfl
  have e3:(dO b ⟨true,y⟩).name=JZ vars b (vars.idxOf y):=by
   unfold JZ;rw [dif_pos hi];have:vars[vars.idxOf y]=y:=List.getElem_idxOf hi;rw [this]; rfl
  have U:kL ⟨true,y⟩=⟨#[]⟩:=rfl;rw [J,U] at HB I ⊢;rw [e3];have hB:=(h.keep (I.block _ h.lt));have y0:=hB.wd (vars.idxOf y) (by omega);have k0:¬ ((vars.idxOf y:Nat):Int) < 0:=by omega
  have k1:((vars.idxOf y:Nat):Int) < 12:=by omega
  have k2:(0:Int)≤((vars.idxOf y:Nat):Int):=by omega
  generalize vars.idxOf y=j at *;clear h I ht hB J e3 U hi hn
  go_enter Tryz.func178,Tryz.ntmps178
  go_wp2
  go_quiet (fail)
  go_wp2;go_ret;exact ⟨rfl,IC HB.out _⟩
theorem D.Nc (w:World):iF w [.slice none 0 0] [] []:=⟨none,0,rfl,ν,ε,fun _=>rfl,fun h=>absurd rfl h⟩
theorem D.Vt (w:World):jE w [.slice none 0 0,.slice none 0 0] [] []:=⟨_,_,[],[],rfl,rfl,Nc w,Nc w⟩
theorem D.Tc (w:World):∃ bs,uD (w.alloc (.cells #[.slice none 0 0,.slice none 0 0] 234)) [.slice (some ⟨w.heap.size,0,none⟩) 1 1] [[]] bs:=by
 have hr:aT 2 jE (w.alloc (.cells #[.slice none 0 0,.slice none 0 0] 234)) [.slice none 0 0,.slice none 0 0] [([]:Bd)] []:=aT.dJ xO (Vt _)
 have y:(w.alloc (.cells #[.slice none 0 0,.slice none 0 0] 234)).ownsRow w.heap.size 234 2 (.slice (some ⟨w.heap.size,0,none⟩) 1 1) 1 [.slice none 0 0,.slice none 0 0]:=
  ⟨rfl,.inr ⟨w.heap.size,1,_,rfl,ν,ω w _,ν,by decide,by simp,by simp⟩⟩
 obtain ⟨bs,h,_⟩:=hr.slice y;exact ⟨bs,h⟩
theorem XA (list:List A) (body:List Pt) (v0 v1:Value) (bl bb:List Nat) (w:World) (hl:aC w [v0] list bl) (hb:jd w [v1] body bb)
  (hasc:gm list=true) (hn:list.length≤300) (hm:body.length≤4) (hbl:∀ p ∈ body,p.atom.args.length≤1000):
  Calls Tryz.prog 171 #[v0,v1] w fun e w'=>Below w.heap.size w w'∧∃ v bs,e=.returned v∧uD w' [v] (allB list body) bs:=by
 obtain ⟨Al,pl,rfl,hl1,hl2⟩:=aj hl;obtain ⟨Ab,pb,rfl,hb1,hb2⟩:=aj hb;obtain ⟨i0,hi,hz0,hz1,hz2⟩:=info_parts Iw;have HL:=η hl;have HB:=η hb;have HBL:=η hbl;have HM:=η hm;clear hl hb hl1 hl2 hb1 hb2 hbl;obtain ⟨bs0,h0⟩:=Tc w;have H0:=η h0;have hA0:Below w.heap.size w (w.alloc (.cells #[.slice none 0 0,.slice none 0 0] 234)):=ζ;clear h0
 go_enter Tryz.func171,Tryz.ntmps171
 go_wp2_with fail
 generalize w.alloc (.cells #[.slice none 0 0,.slice none 0 0] 234)=w0 at *
 go_loopw [5,6,7,8,9,10,11] (fun o i _ _ _ _ _ wr=>∃ (k:Nat) (out:List Bd) (Am:Option Addr) (cm:Nat) (bs:List Nat),k≤body.length∧i=.int .i64 k∧o=.slice Am out.length cm∧Hid (out=yG list (body.take k))∧out.length≤300 ^ k∧Hid (∀ b ∈ out,b.length≤1000 * k)∧Hid (uD wr [.slice Am out.length cm] out bs)∧Hid (Below w.heap.size w wr)) (fun _ i _ _ _ _ _ _=>body.length - (intOf i).toNat)
 case atStart=>exact ⟨0,[[]],_,_,_,ε,rfl,rfl,η rfl,by simp,η (fun b hb=>by rw [ώ.1 hb]; simp),H0,η hA0⟩
 case round=>
  obtain ⟨k,out,Am,cm,bs,hk,rfl,rfl,ho,hol,hoe,hO,hBw⟩:=hrel;clear H0 hA0;by_cases hlt:k < body.length
  ·have hk0:(0:Int)≤(k:Int):=by omega
   have hk1:(k:Int) < (body.length:Int):=by omega
   have hk4:k≤3:=by omega
   have hol3:out.length≤27000000:=τ hol (τ (Nat.pow_le_pow_right (by omega) hk4) (by decide));obtain ⟨pb1,po,Ae,ce,bk,rfl,_,e0,e1,e2,hel,_⟩:=iV (dN.below HB.out hBw.out) hlt;have HAT:=η (jD hel);have HRS:=η (vT list body k hlt);have HAL:=η (HBL.out _ (δ hlt));generalize wr=wo at *;generalize body[k]=p at *;obtain ⟨pno,px⟩:=p;dsimp only at *;clear hel
   cases pno with
   | true=>
    have HE:Hid (out=yG list (body.take (k+1))):=η (by rw [HRS.out,← ho.out]; rfl);clear HRS HAT HAL e1 e2;go_wp2;go_roundw
    case rel=>exact ⟨k+1,out,Am,cm,bs,hlt,by go_num,rfl,HE,τ hol (Nat.pow_le_pow_right (by omega) (by omega)),η (fun b hb=>by have:=hoe.out b hb; omega),hO,hBw⟩
    case measure=>simp [intOf]; omega
   | false=>
    have HE:Hid (out.flatMap (kG list px)=yG list (body.take (k+1))):=η (by rw [HRS.out,← ho.out]; rfl);clear HRS ho;have hA1:Below wo.heap.size wo (wo.alloc (.cells #[] 234)):=ζ;have hE1:aX 2 jE wo.heap.size 234 (wo.alloc (.cells #[] 234)) (.slice (some ⟨wo.heap.size,0,none⟩) 0 0) [] [] []:=aX.empty (ω wo _) ν
    go_wp2_with fail
    generalize wo.alloc (.cells #[] 234)=w1 at *
    go_loopw [7,8,9,10,11] (fun m i _ _ _ wr=>∃ (q:Nat) (xs:List Bd) (An:Option Addr) (cn:Nat) (L:List Value) (bn:List Nat),q≤out.length∧i=.int .i64 q∧m=.slice An xs.length cn∧Hid (xs=(out.take q).flatMap (kG list px))∧Hid (aX 2 jE wo.heap.size 234 wr (.slice An xs.length cn) L xs bn)∧Hid (Below wo.heap.size wo wr)) (fun _ i _ _ _ _=>out.length - (intOf i).toNat)
    case atStart=>exact ⟨0,[],_,_,_,_,ε,rfl,rfl,η rfl,η hE1,η hA1⟩
    case round=>
     obtain ⟨q,xs,An,cn,L,bn,hq,rfl,rfl,hxs,hC,hB1⟩:=hrel;clear hE1 hA1;by_cases hqt:q < out.length
     ·have hq0:(0:Int)≤(q:Int):=by omega
      have hq1:(q:Int) < (out.length:Int):=by omega
      obtain ⟨ab1,ao,A1,p1,A2,p2,bq,rfl,_,d0,d1,hbd,hsub⟩:=y8 hO.out hqt;have HFS:=η (RG list px out q hqt);have HBN:=η (hoe.out _ (δ hqt))
      have HXL:Hid (xs.length≤q * list.length):=η (by
       rw [hxs.out];refine τ (yH _) ?_;rw [List.length_take]
       exact Nat.mul_le_mul (Nat.min_le_left _ _) ν)
      have HBD:=η hbd;have HFAR:Hid (∀ c ∈ bq,c < wo.heap.size):=η fun c hc=>nN.lt hO.out c (hsub c hc)
      generalize wr=w2 at *;generalize out[q]=b0 at *;clear hbd hsub
      go_wp2_with fail
      go_loopw [7,9,10,11] (fun m i _ _ wr=>∃ (j:Nat) (ys:List Bd) (An:Option Addr) (cn:Nat) (L:List Value) (bn:List Nat),j≤list.length∧i=.int .i64 j∧m=.slice An ys.length cn∧Hid (ys=(out.take q).flatMap (kG list px) ++ kG (list.take j) px b0)∧Hid (aX 2 jE wo.heap.size 234 wr (.slice An ys.length cn) L ys bn)∧Hid (Below wo.heap.size wo wr)) (fun _ i _ _ _=>list.length - (intOf i).toNat)
      case atStart=>exact ⟨0,xs,An,cn,L,bn,ε,rfl,rfl,η (by rw [hxs.out]; simp [kG]),hC,hB1⟩
      case round=>
       obtain ⟨j,ys,An,cn,L,bn,hj,rfl,rfl,hys,hC,hB2⟩:=hrel;by_cases hjt:j < list.length
       ·have hj0:(0:Int)≤(j:Int):=by omega
        have hj1:(j:Int) < (list.length:Int):=by omega
        have hBW:=hBw.out.trans (hB2.out.mono hBw.out.size);obtain ⟨lb1,lo,Af,cf,bf,rfl,_,f0,f1,hfe,_⟩:=dL (au.below HL.out hBW) hjt;have g1:=ξ hB2.out e1;have g2:=ξ hB2.out e2;have g3:=ξ hB2.out d0;have g4:=ξ hB2.out d1;have n1:pb1 < wr.heap.size:=lt_of_cell g1;have n2:ab1 < wr.heap.size:=lt_of_cell g3;have n3:lb1 < wr.heap.size:=lt_of_cell f0;have HF1:=η (O7 list px b0 j hjt);generalize list[j]=f at *;have q5:=fun w' (hb:Below wr.heap.size wr w')=>RS px f b0 _ _ _ _ _ _ _ _ _ w' (ak.below HAT.out (hB2.out.trans (hb.mono hB2.out.size))) (ak.below hfe hb) (dm.below HBD.out (hB2.out.trans (hb.mono hB2.out.size))) (by have:=HBN.out; omega) (τ HAL.out (by omega))
        have Q5:=η q5;have hD1:Below wr.heap.size wr wr.drew:=Below.drew ϑ;have hD2:Below wr.heap.size wr (wr.alloc (.cells #[.slice none 0 0,.slice none 0 0] 234)).drew:=(ζ).drew;have HD2:=η hD2;have HD1:=η hD1;clear q5 hfe hD1 hD2
        go_wp2_with fail
        go_region_held3 (fun w'=>w'.cell? ⟨pb1,po+k * 3+1,none⟩=some (.string px.name)∧w'.cell? ⟨pb1,po+k * 3+2,none⟩=some (.slice Ae px.args.length ce)∧w'.cell? ⟨lb1,lo+j * 2,none⟩=some (.string f.name)∧w'.cell? ⟨lb1,lo+j * 2+1,none⟩=some (.slice Af f.args.length cf)∧w'.cell? ⟨ab1,ao+q * 2,none⟩=some (.slice A1 b0.length p1)∧w'.cell? ⟨ab1,ao+q * 2+1,none⟩=some (.slice A2 b0.length p2))
         (first | go_keep | exact hqk | exact hqk2)
         (first
          | (go_at_call 201; first
            | (refine (Q5.out _ HD1.out).mono ?_; rintro e w6 ⟨hb6,x0,x1,b6,rfl,h6,hfar6⟩; have B6:=HD1.out.trans (hb6.mono HD1.out.size); have hqk:=ι (ξ B6 g1) (ι (ξ B6 g2) (ι (ξ B6 f0) (ι (ξ B6 f1) (ι (ξ B6 g3) (ξ B6 g4))))); obtain ⟨B3,q3,B4,q4,hcs⟩:=ni h6; simp only [List.cons.injEq,and_true] at hcs; obtain ⟨rfl,rfl⟩:=hcs; have m1:=lt_of_cell (ξ B6 g1); have m2:=lt_of_cell (ξ B6 g3); have m3:=lt_of_cell (ξ B6 f0))
            | (refine (Q5.out _ HD2.out).mono ?_; rintro e w6 ⟨hb6,x0,x1,b6,rfl,h6,hfar6⟩; have B6:=HD2.out.trans (hb6.mono HD2.out.size); have hqk:=ι (ξ B6 g1) (ι (ξ B6 g2) (ι (ξ B6 f0) (ι (ξ B6 f1) (ι (ξ B6 g3) (ξ B6 g4))))); obtain ⟨B3,q3,B4,q4,hcs⟩:=ni h6; simp only [List.cons.injEq,and_true] at hcs; obtain ⟨rfl,rfl⟩:=hcs; have m1:=lt_of_cell (ξ B6 g1); have m2:=lt_of_cell (ξ B6 g3); have m3:=lt_of_cell (ξ B6 f0); have hM6:=(hb6.block wr.heap.size (by show wr.heap.size < (World.alloc wr _).heap.size; simp)).trans (ω wr (.cells #[.slice none 0 0,.slice none 0 0] 234)); have fz0:w6.frozen? ⟨wr.heap.size,0,none⟩=false:=ax hM6; have fz1:w6.frozen? ⟨wr.heap.size,1,none⟩=false:=ax hM6; have cz0:w6.cell? ⟨wr.heap.size,0,none⟩=some (.slice none 0 0):=ai hM6; have cz1:w6.cell? ⟨wr.heap.size,1,none⟩=some (.slice none 0 0):=ai hM6; have hqk2:=ι ((World.cell?_of_block (π _ ⟨wr.heap.size,1,none⟩ (.slice B4 (aG px f b0).1.length q4) _ (by show pb1 ≠ wr.heap.size; omega))).trans ((World.cell?_of_block (π _ ⟨wr.heap.size,0,none⟩ (.slice B3 (aG px f b0).1.length q3) _ (by show pb1 ≠ wr.heap.size; omega))).trans (ξ B6 g1))) (ι ((World.cell?_of_block (π _ ⟨wr.heap.size,1,none⟩ (.slice B4 (aG px f b0).1.length q4) _ (by show pb1 ≠ wr.heap.size; omega))).trans ((World.cell?_of_block (π _ ⟨wr.heap.size,0,none⟩ (.slice B3 (aG px f b0).1.length q3) _ (by show pb1 ≠ wr.heap.size; omega))).trans (ξ B6 g2))) (ι ((World.cell?_of_block (π _ ⟨wr.heap.size,1,none⟩ (.slice B4 (aG px f b0).1.length q4) _ (by show lb1 ≠ wr.heap.size; omega))).trans ((World.cell?_of_block (π _ ⟨wr.heap.size,0,none⟩ (.slice B3 (aG px f b0).1.length q3) _ (by show lb1 ≠ wr.heap.size; omega))).trans (ξ B6 f0))) (ι ((World.cell?_of_block (π _ ⟨wr.heap.size,1,none⟩ (.slice B4 (aG px f b0).1.length q4) _ (by show lb1 ≠ wr.heap.size; omega))).trans ((World.cell?_of_block (π _ ⟨wr.heap.size,0,none⟩ (.slice B3 (aG px f b0).1.length q3) _ (by show lb1 ≠ wr.heap.size; omega))).trans (ξ B6 f1))) (ι ((World.cell?_of_block (π _ ⟨wr.heap.size,1,none⟩ (.slice B4 (aG px f b0).1.length q4) _ (by show ab1 ≠ wr.heap.size; omega))).trans ((World.cell?_of_block (π _ ⟨wr.heap.size,0,none⟩ (.slice B3 (aG px f b0).1.length q3) _ (by show ab1 ≠ wr.heap.size; omega))).trans (ξ B6 g3))) ((World.cell?_of_block (π _ ⟨wr.heap.size,1,none⟩ (.slice B4 (aG px f b0).1.length q4) _ (by show ab1 ≠ wr.heap.size; omega))).trans ((World.cell?_of_block (π _ ⟨wr.heap.size,0,none⟩ (.slice B3 (aG px f b0).1.length q3) _ (by show ab1 ≠ wr.heap.size; omega))).trans (ξ B6 g4))))))))))
        all_goals
         have HFO:Hid (∀ c ∈ b6,(Value.slice An ys.length cn).ownBlock ≠ some c):=η fun c hc e=>by
          have h1:=jJ hC.out.own c e
          rcases hfar6 c hc with h2 | h2
          ·have:=HFAR.out c h2
           omega
          ·simp at h2
           omega
         have HML:=η (EG px f b0)
         first
          | (have hMf:=bY (o:=1) (u:=.slice B4 (aG px f b0).1.length q4) (bY (o:=0) (u:=.slice B3 (aG px f b0).1.length q3) hM6); have z0:((w6.setCell ⟨wr.heap.size,0,none⟩ (.slice B3 (aG px f b0).1.length q3)).setCell ⟨wr.heap.size,1,none⟩ (.slice B4 (aG px f b0).1.length q4)).cell? ⟨wr.heap.size,0,none⟩=some (.slice B3 (aG px f b0).1.length q3):=ai hMf; have z1:((w6.setCell ⟨wr.heap.size,0,none⟩ (.slice B3 (aG px f b0).1.length q3)).setCell ⟨wr.heap.size,1,none⟩ (.slice B4 (aG px f b0).1.length q4)).cell? ⟨wr.heap.size,1,none⟩=some (.slice B4 (aG px f b0).1.length q4):=ai hMf; clear hMf; have HBf:=η ((B6.setCell (p:=⟨wr.heap.size,0,none⟩) ν (.slice B3 (aG px f b0).1.length q3)).setCell (p:=⟨wr.heap.size,1,none⟩) ν (.slice B4 (aG px f b0).1.length q4)); have H6f:=η (qO (N:=wr.heap.size) (y0:=.slice B3 (aG px f b0).1.length q3) (y1:=.slice B4 (aG px f b0).1.length q4) h6 (fun hc=>by
            rcases hfar6 _ hc with h2 | h2
            ·have:=HFAR.out _ h2
             have:=hB2.out.size;omega
            ·exact absurd h2 (by show ¬ (World.alloc wr _).heap.size≤_; simp))); clear B6 hqk hqk2 m1 m2 m3 hb6 hfar6 h6 Q5 HD1 HD2 hM6 fz0 fz1 cz0 cz1; generalize hwf:(w6.setCell ⟨wr.heap.size,0,none⟩ (.slice B3 (aG px f b0).1.length q3)).setCell ⟨wr.heap.size,1,none⟩ (.slice B4 (aG px f b0).1.length q4)=wf at *; clear hwf)
          | (have hAf:=(Below.refl w6.heap.size w6).alloc ν (.cells #[.slice B3 (aG px f b0).1.length q3,.slice B4 (aG px f b0).1.length q4] 234); have HBf:=η (B6.trans (hAf.mono B6.size)); have hMf:=ω w6 (.cells #[.slice B3 (aG px f b0).1.length q3,.slice B4 (aG px f b0).1.length q4] 234); have z0:(w6.alloc (.cells #[.slice B3 (aG px f b0).1.length q3,.slice B4 (aG px f b0).1.length q4] 234)).cell? ⟨w6.heap.size,0,none⟩=some (.slice B3 (aG px f b0).1.length q3):=ai hMf; have z1:(w6.alloc (.cells #[.slice B3 (aG px f b0).1.length q3,.slice B4 (aG px f b0).1.length q4] 234)).cell? ⟨w6.heap.size,1,none⟩=some (.slice B4 (aG px f b0).1.length q4):=ai hMf; clear hMf; have H6f:=η (dm.below h6 hAf); clear hAf B6 hqk m1 m2 m3 hb6 hfar6 h6 Q5 HD1 HD2; generalize hwf:w6.alloc (.cells #[.slice B3 (aG px f b0).1.length q3,.slice B4 (aG px f b0).1.length q4] 234)=wf at *; clear hwf)
         have HXL2:Hid (ys.length≤8200000000):=η (by
          rw [hys.out,χ];have h1:=yH (list:=list) (a:=px) (out.take q);have h2:=Ia (list.take j) px b0;rw [List.length_take] at h1 h2;have h3:min q out.length * list.length≤27000000 * 300:=Nat.mul_le_mul (τ (Nat.min_le_right _ _) hol3) hn
          omega)
         cases hmf:(aG px f b0).2 with
         | false=>
          have HE2:Hid (ys=(out.take q).flatMap (kG list px) ++ kG (list.take (j+1)) px b0):=η (by rw [HF1.out,hmf,hys.out]; simp);have HC2:=η (hC.out.below dm HBf.out);have HB3:=η (hB2.out.trans (HBf.out.mono hB2.out.size));clear hmf HF1 hC hB2 HBf;go_wp2;go_roundw
          case rel=>exact ⟨j+1,ys,An,cn,L,bn,hjt,by go_num,rfl,HE2,HC2,HB3⟩
          case measure=>simp [intOf]; omega
         | true=>
          have HE2:Hid (ys ++ [(aG px f b0).1]=(out.take q).flatMap (kG list px) ++ kG (list.take (j+1)) px b0):=η (by rw [HF1.out,hmf,hys.out]; simp);have HC2:=η (hC.out.below dm HBf.out);have HB3:=η (hB2.out.trans (HBf.out.mono hB2.out.size));clear hmf HF1 hC hB2 HBf;generalize (aG px f b0).1=b1 at *;have hAt:Below wf.heap.size wf (wf.alloc (.cells #[.slice B3 b1.length q3,.slice B4 b1.length q4] 234)):=ζ
          have HLL:Hid (aX 2 jE wo.heap.size 234 (wf.alloc (.cells #[.slice B3 b1.length q3,.slice B4 b1.length q4] 234)) (.slice An ys.length cn) L ys bn∧aT 2 jE (wf.alloc (.cells #[.slice B3 b1.length q3,.slice B4 b1.length q4] 234)) [.slice B3 b1.length q3,.slice B4 b1.length q4] [b1] b6∧Lies (wf.alloc (.cells #[.slice B3 b1.length q3,.slice B4 b1.length q4] 234)) (some ⟨wf.heap.size,0,none⟩) [.slice B3 b1.length q3,.slice B4 b1.length q4]∧Below wo.heap.size wo (wf.alloc (.cells #[.slice B3 b1.length q3,.slice B4 b1.length q4] 234))∧wo.heap.size≤(wf.alloc (.cells #[.slice B3 b1.length q3,.slice B4 b1.length q4] 234)).heap.size):=
           η ⟨HC2.out.below dm hAt,aT.dJ xO (dm.below H6f.out hAt),aP (ω wf _),HB3.out.trans (hAt.mono HB3.out.size),τ HB3.out.size hAt.size⟩
          have H63:Hid (ys.length+1≤maxLen):=η (by have:=HXL2.out; unfold maxLen; omega);have HBY:Hid ((ys.length+1) * 48≤140737488355328):=η (by have:=HXL2.out; omega);clear hAt HC2 HB3 H6f
          go_wp2_with (at_builtin; refine bU rfl _ _ _ rfl wo.heap.size 234 i0 (.agg #[.slice none 0 0,.slice none 0 0]) 2 48 Tryz.underlying230 hi hz0 hz1 hz2 rfl (Θ 1) dm (.slice An ys.length cn) ys.length L _ bn rfl HLL.out.1 rfl (some ⟨wf.heap.size,0,none⟩) 1 1 _ [b1] b6 rfl HLL.out.2.1 rfl HLL.out.2.2.1 HFO.out H63.out HBY.out wo wo.heap.size HLL.out.2.2.2.1 ν HLL.out.2.2.2.2 ?_; intro A4 c4 w4 hC4 hB4 hS4 hG4; have HZ:=η (ι hC4 hB4); clear hC4 hB4 hS4 hG4)
          go_roundw
          case rel=>exact ⟨j+1,ys ++ [b1],A4,c4,_,_,hjt,by go_num,by rw [χ]; rfl,HE2,by rw [χ]; exact η HZ.out.1,η HZ.out.2⟩
          case measure=>simp [intOf]; omega
       ·have he:j=list.length:=by omega
        have hj1:¬ (j:Int) < (list.length:Int):=by omega
        have HE2:Hid (ys=(out.take (q+1)).flatMap (kG list px)):=η (by rw [hys.out,HFS.out,he,ϕ ν]);clear he hj;go_wp2;go_roundw
        case rel=>exact ⟨q+1,ys,An,cn,L,bn,hqt,by go_num,rfl,HE2,hC,hB2⟩
        case measure=>simp [intOf]; omega
     ·have he:q=out.length:=by omega
      have hq1:¬ (q:Int) < (out.length:Int):=by omega
      have HE2:Hid (xs=yG list (body.take (k+1))):=η (by rw [hxs.out,he,ϕ ν,HE.out])
      have HXL:Hid (xs.length≤300 ^ (k+1)):=η (by
       rw [hxs.out,he,ϕ ν];refine τ (yH _) ?_;rw [Nat.pow_succ]
       exact Nat.mul_le_mul hol hn)
      have HXE:Hid (∀ b ∈ xs,b.length≤1000 * (k+1)):=η (fun b hb=>by
       rw [hxs.out,he,ϕ ν] at hb;obtain ⟨b1,h1,h2⟩:=List.mem_flatMap.1 hb;have:=hoe.out b1 h1;have:=O8 h2;have:=HAL.out
       omega)
      obtain ⟨bx,hX,_⟩:=hC.out.slice;have HX:=η hX;have HBX:=η (hBw.out.trans (hB1.out.mono hBw.out.size));clear he hC hxs hX;go_wp2;go_roundw
      case rel=>exact ⟨k+1,xs,An,cn,bx,hlt,by go_num,rfl,HE2,HXL.out,HXE,HX,HBX⟩
      case measure=>simp [intOf]; omega
  ·have he:k=body.length:=by omega
   have hk1:¬ (k:Int) < (body.length:Int):=by omega
   have hk4:k≤4:=by omega
   have hol4:out.length≤10000000000:=τ hol (τ (Nat.pow_le_pow_right (by omega) hk4) (by decide));have HE:Hid (out.filter (jl list body)=allB list body):=η (by unfold allB; rw [ho.out,he,ϕ ν]);have q5:=Gp list body out _ _ _ bl bb bs wr (au.below HL.out hBw.out) (dN.below HB.out hBw.out) hO.out hasc hol4 (fun p hp=>τ (HBL.out p hp) (by omega));rw [HE.out] at q5;clear he ho
   go_wp2_with fail
   refine q5.mono ?_;rintro e w5 ⟨hb5,v5,b5,rfl,h5⟩;have B5:=hBw.out.trans (hb5.mono hBw.out.size);have H5:=η h5;clear q5 h5 hb5;go_wp2;go_ret;exact ⟨B5,_,_,rfl,H5.out⟩
theorem D.Nh (r:Ru):(!gY r.body r.head || uz r.body) = !fO r.head r.body:=by
 rw [Bool.eq_iff_iff];have h1:=Hq r.head r.body;have y:=rO r.body r.head;rw [← y] at h1
 cases ht:fO r.head r.body <;> cases ha:gY r.body r.head <;> cases hl:uz r.body <;> simp_all
theorem D.PN (rs:List Ru) (k:Nat) (h:k < rs.length) (h0:(rs.take k).all (fun r=>fO r.head r.body)=true):((rs.take (k+1)).all fun r=>fO r.head r.body)=fO rs[k].head rs[k].body:=by
 rw [ρ h,List.all_append,h0]; simp
theorem D.Td (rs:List Ru) (k:Nat) (h:k < rs.length) (h0:fO rs[k].head rs[k].body=false):(rs.all fun r=>fO r.head r.body)=false:=
 List.all_eq_false.2 ⟨_,δ h,by simp [h0]⟩
theorem Gs (r:Ru) (c0 c1 c2:Value) (bs:List Nat) (w:World) (h:iy w [c0,c1,c2] r bs):
  Calls Tryz.prog 188 #[.agg #[c0,c1,c2]] w fun e w'=>e=.returned (.bool (!fO r.head r.body))∧Below w.heap.size w w':=by
 obtain ⟨Ad,cap,Ae,I,rfl,rfl,rfl⟩:=pY h;have J:Below w.heap.size w (w.alloc (.cells #[.string r.head.name,.slice Ad r.head.args.length cap,.slice Ae r.body.length I] 40)):=ζ;obtain ⟨b1,b2,_,hh,hb⟩:=iW h;have c1:=fun w' (hw:Below w.heap.size w w')=>yZ r.body r.head _ _ _ b2 b1 w' (dN.below hb hw) (ak.below hh hw)
 have c2:=fun w' (hw:Below w.heap.size w w')=>Gn r.body _ b2 w' (dN.below hb hw)
 rw [← Nh r];clear h hh hb;obtain ⟨⟨nm,args⟩,body⟩:=r;dsimp only at *;cases ha:gY body ⟨nm,args⟩
 ·rw [ha] at c1
  clear c2 ha
  go_enter Tryz.func188,Tryz.ntmps188
  go_wp2_with fail
  refine (c1 _ J).mono ?_;rintro e w2 ⟨rfl,y⟩;have U:=J.trans (y.mono J.size);go_wp2;go_ret;exact ⟨rfl,U⟩
 ·rw [ha] at c1
  clear ha;generalize uz body=l at *
  go_enter Tryz.func188,Tryz.ntmps188
  go_wp2_with fail
  refine (c1 _ J).mono ?_;rintro e w2 ⟨rfl,y⟩;have U:=J.trans (y.mono J.size);have x2:w2.cell? ⟨w.heap.size,2,none⟩=some (.slice Ae body.length I):=ξ y (by go_simp)
  go_wp2_with fail
  refine (c2 _ U).mono ?_;rintro e w3 ⟨rfl,a0⟩;go_wp2;go_ret;exact ⟨aH (by simp),U.trans (a0.mono U.size)⟩
def YE (b:Bool) (w:World) (e:Ending) (w':World):Prop:=(∃ z:Int,e=.returned (.int .i64 z)∧decide (0≤z)=b)∧Below w.heap.size w w'
theorem FD (rs:List Ru) (v:Value) (bs:List Nat) (w:World) (h:dW w [v] rs bs):
  Calls Tryz.prog 237 #[v,.func (.func 188) #[] #[]] w (YE (!rs.all fun r=>fO r.head r.body) w):=by
 obtain ⟨Ad,cap,rfl,hl,hm⟩:=aj h;have a2:=ay (τ hl hm);clear hm
 go_enter Tryz.func237,Tryz.ntmps237
 go_wp2
 go_loopw [8] (fun i wr=>∃ k:Nat,k≤rs.length∧i=.int .i64 k∧(rs.take k).all (fun r=>fO r.head r.body)=true∧Below w.heap.size w wr) (fun i _=>rs.length - (intOf i).toNat)
 case atStart=>exact ⟨0,ε,rfl,rfl,ϑ⟩
 case round=>
  obtain ⟨k,hk,rfl,I,hb⟩:=hrel;have HA:=η I;clear I;by_cases y:k < rs.length
  ·obtain ⟨b,o,Ae,ce,Af,cf,bk,rfl,_,d0,d1,d2,J,_⟩:=iI (aS.below h hb) y
   have HS:=η (PN rs k y HA.out);have U:=η (Td rs k y);have a3:(0:Int)≤(k:Int):=by omega
   have a4:(k:Int) < (rs.length:Int):=by omega
   have a0:=η y;have c1:=Gs rs[k] _ _ _ bk wr J;clear h J;generalize rs[k]=r at *;clear y;obtain ⟨⟨nm,args⟩,body⟩:=r;dsimp only at *
   go_wp2_with fail
   refine c1.mono ?_;rintro e w' ⟨rfl,a1⟩;have B':=hb.trans (a1.mono hb.size);clear c1;cases hv:fO ⟨nm,args⟩ body
   ·have HV:=η (U.out hv)
    clear hv;go_wp2;go_ret;exact ⟨⟨_,rfl,by rw [HV.out]; simp⟩,B'⟩
   ·have HV:=η (HS.out.trans hv)
    clear hv;go_wp2;go_roundw
    case rel=>exact ⟨k+1,a0.out,by go_num,HV.out,B'⟩
    case measure=>have:=a0.out; simp [intOf]; omega
  ·have he:=η (show k=rs.length by omega)
   go_wp2;go_ret;exact ⟨⟨_,rfl,by have:=HA.out; rw [he.out,ϕ ν] at this; rw [this]; rfl⟩,hb⟩
theorem zh (rs:List Ru) (v:Value) (bs:List Nat) (w:World) (h:dW w [v] rs bs):
  Calls Tryz.prog 187 #[v,.func (.func 188) #[] #[]] w fun e w'=>e=.returned (.bool (!rs.all fun r=>fO r.head r.body))∧Below w.heap.size w w':=by
 have I:=FD rs v bs w h;clear h
 go_enter Tryz.func187,Tryz.ntmps187
 go_wp2_with fail
 refine I.mono ?_;rintro e w' ⟨⟨z,rfl,y⟩,hb⟩;have J:=η y;clear y;go_wp2;go_ret;exact ⟨aH J.out,hb⟩
end
end Go.Proofs.YtkjinanbccloeaaGreatDoor
