/- Of the proof of FnDelta: jg, VarsI, WdI. -/
import Derived.Test.YtkjinanbccloeaaGreatDoorA18
set_option linter.unusedVariables false
set_option maxHeartbeats 4000000
set_option maxRecDepth 100000
namespace Go.Proofs.YtkjinanbccloeaaGreatDoor
section
open Go.RowKit D
def D.XM (w:World) (y:Nat):Prop:=∀ o u,w.cell? ⟨y,o,none⟩=some u→∀ b,u ≠ .bool b
theorem D.LH {w:World} {I:Nat} {s:ByteArray} {A B:Option Addr} {l c m d:Nat} {t:TypeId} (h:w.heap[I]? = some (.cells #[.string s,.slice A l c,.slice B m d] t (0,0))):XM w I:=by
 intro o u y;rw [ai h] at y
 match o with
 | 0=>simp at y; subst y; exact fun b=>by simp
 | 1=>simp at y; subst y; exact fun b=>by simp
 | 2=>simp at y; subst y; exact fun b=>by simp
 | o+3=>simp at y
theorem D.rJ {w:World} {n0:Nat} (ha:XM w n0) {v:Value} {U:List T} {bs:List Nat} (h:gm w [v] U bs):n0 ∉ bs:=by
 intro hb;obtain ⟨Ad,cap,a4,hl,hm,g0,g1⟩:=h;by_cases I:U = []
 ·rw [g0 I] at hb; simp at hb
 ·obtain ⟨b,o,rfl,F,G,rfl,hF⟩:=g1 I
  rcases List.mem_cons.1 hb with rfl | hb
  ·match U,I with
   | y :: r,_=>
    obtain ⟨a1,a2,a3⟩:=hF 0 y rfl;obtain ⟨e,_,_⟩:=a3;have:=a2 0 (.bool y.var) (by rw [e]; rfl);exact ha _ _ this _ rfl
  ·obtain ⟨k,hk,J⟩:=List.mem_flatMap.1 hb
   have a0:=List.mem_range.1 hk;obtain ⟨a1,a2,a3⟩:=hF k U[k] (Ψ a0);obtain ⟨_,_,e⟩:=a3;rw [e] at J; simp at J
theorem D.EQ {w:World} {y:Nat} (ha:XM w y) {L:List Value} {xs:List Pt} {bs:List Nat} (h:aT 3 ql w L xs bs):y ∉ bs:=by
 obtain ⟨h1,h2,G,rfl,I⟩:=h;intro hb;obtain ⟨j,J,hc⟩:=List.mem_flatMap.1 hb;obtain ⟨s,_,_,U⟩:=I j (List.mem_range.1 J);exact rJ ha U hc
theorem UD {w:World} {base e n k c:Nat} {A:Option Addr} {L:List Value} (h:w.ownsRow base e n (.slice A k c) k L):Lies w A L:=by
 rcases h.2 with ⟨I,U⟩ | ⟨g,cap,a0,I,_,hh,_,_,a1,ht⟩
 ·have:L.length=0:=by rw [h.1,U,Nat.zero_mul]
  rw [List.length_eq_zero_iff.1 this];exact Lies.nil _ _
 ·simp only [Value.slice.injEq] at I
  rw [I.1];refine Lies.mk fun j u y=>?_
  rw [Nat.zero_add,ai hh];rw [← ht] at y;by_cases J:j < k * n
  ·rw [List.getElem?_take_of_lt J] at y
   simpa using y
  ·rw [List.getElem?_take_eq_none (by omega)] at y
   cases y
structure jg (g p rb:Nat) (wb:World) (a:A) (A1:Option Addr) (c1:Nat) (b1:List Nat) (xs:List Pt) (A2:Option Addr) (c2:Nat) (wr:World):Prop where
 box:wr.heap[rb]? = some (.cells #[.string a.name,.slice A1 a.args.length c1,.slice A2 xs.length c2] 40 (0,0))
 at_:aJ wr [.string a.name,.slice A1 a.args.length c1] a b1
 alt:∀ b ∈ b1,b < wb.heap.size
 bd:kM g p wb xs (.slice A2 xs.length c2) wr
 gb:g ≠ rb
 ga:g ∉ b1
 rbb:wb.heap.size≤rb
section
variable {g p rb:Nat} {wb:World} {a:A} {A1:Option Addr} {c1:Nat} {b1:List Nat} {xs:List Pt} {A2:Option Addr} {c2:Nat} {wr:World}
theorem jg.call {p2:Nat} {y:World} (h:jg g p rb wb a A1 c1 b1 xs A2 c2 wr) (I:kJ g p2 y) (hK:aH [g] wr y):jg g p2 rb wb a A1 c1 b1 xs A2 c2 y:=
 ⟨hK.blk h.box (by simp; exact fun e=>h.gb e.symm),Good.kept au h.at_ hK (fun b hb=>by simp; rintro rfl; exact h.ga hb),h.alt,h.bd.call I hK,h.gb,h.ga,h.rbb⟩
theorem jg.below {y:World} (h:jg g p rb wb a A1 c1 b1 xs A2 c2 wr) (hB:Below wr.heap.size wr y):jg g p rb wb a A1 c1 b1 xs A2 c2 y:=
 ⟨(hB.block _ (ψ h.box)).trans h.box,au.below h.at_ hB,h.alt,h.bd.below hB,h.gb,h.ga,h.rbb⟩
theorem jg.start {y:World} (I:aJ wb [.string a.name,.slice A1 a.args.length c1] a b1) (J:g ∉ b1) (hF:kM g p wb xs (.slice A2 xs.length c2) y):
  jg g p y.heap.size wb a A1 c1 b1 xs A2 c2 (y.alloc (.cells #[.string a.name,.slice A1 a.args.length c1,.slice A2 xs.length c2] 40)):=by
 have U:Below y.heap.size y (y.alloc (.cells #[.string a.name,.slice A1 a.args.length c1,.slice A2 xs.length c2] 40)):=ζ;exact ⟨ω y _,au.below (Good.kept au I hF.kept (fun b hb=>by simp; rintro rfl; exact J hb)) U,au.lt I,hF.below U,by have:=hF.kept.size; have:=hF.glt; omega,J,hF.kept.size⟩
theorem jg.put {ys:List Pt} {U:Option Addr} {c3:Nat} {w2:World} (h:jg g p rb wb a A1 c1 b1 xs A2 c2 wr) (a0:w2.heap[rb]? = wr.heap[rb]?) (a2:∀ b ∈ b1,w2.heap[b]? = wr.heap[b]?) (y:kM g p wb ys (.slice U ys.length c3) w2):
  jg g p rb wb a A1 c1 b1 ys U c3 (w2.setCell ⟨rb,2,none⟩ (.slice U ys.length c3)):=by
 have J:=a0.trans h.box;have hx:=bW (o:=2) (u:=.slice U ys.length c3) J;have a1:=LH J;have I:=au.keep h.at_ a2;have a3:rb ∉ b1:=rJ a1 (dI I);obtain ⟨L,bs,hC,a4⟩:=y.coll;have a5:rb ∉ bs:=EQ a1 hC.row;have a6:(Value.slice U ys.length c3).ownBlock ≠ some rb:=gB hC.own J (by decide);exact ⟨hx,au.keep I fun b hb=>π _ _ _ _ (by rintro rfl; exact a3 hb),h.alt,⟨⟨L,bs,hC.lS jD a6 a5,a4⟩,y.small,y.rdr.eG ((Below.refl wb.heap.size w2).setCell h.rbb _) y.glt,y.kept.zh h.rbb _,y.glt⟩,h.gb,h.ga,h.rbb⟩
theorem jg.bare (h:jg g p rb wb a A1 c1 b1 xs A2 c2 wr):jg g p rb wb a A1 c1 b1 [] (some ⟨wr.heap.size,0,none⟩) 0 ((wr.setCell ⟨rb,2,none⟩ (.slice (some ⟨wr.heap.size,0,none⟩) 0 0)).alloc (.cells #[] 42)):=by
 have I:=bW (o:=2) (u:=.slice (some ⟨wr.heap.size,0,none⟩) 0 0) h.box;have J:rb ∉ b1:=rJ (LH h.box) (dI h.at_);have U:=au.keep h.at_ (w':=wr.setCell ⟨rb,2,none⟩ (.slice (some ⟨wr.heap.size,0,none⟩) 0 0)) fun b hb=>π _ _ _ _ (by rintro rfl; exact J hb)
 have a0:=h.bd.rdr.eG ((Below.refl wb.heap.size wr).setCell (p:=⟨rb,2,none⟩) h.rbb (.slice (some ⟨wr.heap.size,0,none⟩) 0 0)) h.bd.glt;have hk:=h.bd.kept.zh (p:=⟨rb,2,none⟩) h.rbb (.slice (some ⟨wr.heap.size,0,none⟩) 0 0);have a1:(wr.setCell ⟨rb,2,none⟩ (.slice (some ⟨wr.heap.size,0,none⟩) 0 0)).heap.size=wr.heap.size:=by simp [World.setCell]
 generalize wr.setCell ⟨rb,2,none⟩ (.slice (some ⟨wr.heap.size,0,none⟩) 0 0)=wx at *;rw [← a1] at I ⊢;have y:Below wx.heap.size wx (wx.alloc (.cells #[] 42)):=ζ;exact ⟨(y.block _ (ψ I)).trans I,au.below U y,h.alt,⟨⟨_,_,aY.empty (ω wx _) hk.size,fun b hb=>by simp at hb⟩,fun a ha=>by simp at ha,a0.below y,hk.eG y hk.size,h.bd.glt⟩,h.gb,h.ga,h.rbb⟩
theorem jg.cell (h:jg g p rb wb a A1 c1 b1 xs A2 c2 wr):wr.cell? ⟨rb,0,none⟩=some (.string a.name)∧wr.cell? ⟨rb,1,none⟩=some (.slice A1 a.args.length c1)∧wr.cell? ⟨rb,2,none⟩=some (.slice A2 xs.length c2):=⟨ai h.box,ai h.box,ai h.box⟩
theorem jg.vH (h:jg g p rb wb a A1 c1 b1 xs A2 c2 wr) (o:Nat):wr.frozen? ⟨rb,o,none⟩=false:=ax h.box
theorem jg.keep {wx I:World} (h:jg g p rb wb a A1 c1 b1 xs A2 c2 wr) (hA:Below wr.heap.size wr wx) (hG:wx.grownBy I (Value.slice A2 xs.length c2).ownBlock):
  I.heap[rb]? = wr.heap[rb]?∧I.cell? ⟨rb,2,none⟩=some (.slice A2 xs.length c2)∧I.frozen? ⟨rb,2,none⟩=false∧rb < I.heap.size:=by
 obtain ⟨L,bs,J,a0⟩:=h.bd.coll;have U:(Value.slice A2 xs.length c2).ownBlock ≠ some rb:=gB J.own h.box (by decide)
 have y:I.heap[rb]? = wr.heap[rb]?:=by
  rw [hG.block rb (κ (ψ h.box) hA.size) (fun e=>U e.symm)];exact hA.block rb (ψ h.box)
 have hb:=y.trans h.box;exact ⟨y,ai hb,ax hb,ψ hb⟩
theorem jg.app {y:A} {U:Option Addr} {c4:Nat} {wx J:World} {L4:List Value} {I:List Nat} (h:jg g p rb wb a A1 c1 b1 xs A2 c2 wr) (hA:Below wr.heap.size wr wx) (hC:aY 3 ql wb.heap.size 42 J (.slice U (xs.length+1) c4) L4 (xs ++ [⟨false,y⟩]) I) (a0:∀ b ∈ I,wb.heap.size≤b) (hB:Below wb.heap.size wr J) (hG:wx.grownBy J (Value.slice A2 xs.length c2).ownBlock) (hy:Xi ⟨false,y⟩):
  jg g p rb wb a A1 c1 b1 (xs ++ [⟨false,y⟩]) U c4 (J.setCell ⟨rb,2,none⟩ (.slice U (xs.length+1) c4)):=by
 have a1:=h.bd.app hC a0 hB hy;have e:xs.length+1=(xs ++ [(⟨false,y⟩:Pt)]).length:=by simp
 rw [e];exact h.put (h.keep hA hG).1 (fun b hb=>hB.block b (h.alt b hb)) (by rw [← e]; exact a1)
theorem jg.rule {B:Nat} (h:jg g p rb wb a A1 c1 b1 xs A2 c2 wr) (I:∀ b ∈ b1,B≤b) (hB:B≤wb.heap.size):∃ br,gY wr [.string a.name,.slice A1 a.args.length c1,.slice A2 xs.length c2] ⟨a,xs⟩ br∧∀ b ∈ br,B≤b:=by
 obtain ⟨b2,hp,h2⟩:=h.bd.parts;obtain ⟨s,y,J,U⟩:=h.at_;simp only [List.cons.injEq,and_true,true_and] at y;subst y;exact ⟨b1 ++ b2,⟨_,_,b1,b2,rfl,J,rfl,U,hp⟩,fun b hb=>(μ.1 hb).elim (I b) (fun hb=>τ hB (h2 b hb))⟩
end
theorem D.LJ {w:World} {b:Nat} {x y z:ByteArray} (h:w.heap[b]? = some (.cells #[.bool true,.string x,.bool true,.string y,.bool true,.string z] 91 (0,0))) (U:x.size≤maxLen) (hy:y.size≤maxLen) (hz:z.size≤maxLen):
  gm w [.slice (some ⟨b,0,none⟩) 3 3] [⟨true,x⟩,⟨true,y⟩,⟨true,z⟩] [b]:=by
 refine ⟨_,3,rfl,ν,by unfold maxLen; omega,fun h=>by simp at h,fun _=>⟨b,0,rfl,fun k=>if k=0 then [.bool true,.string x] else if k=1 then [.bool true,.string y] else [.bool true,.string z],fun _=>[],by simp,fun k t J=>?_⟩⟩
 match k,J with
 | 0,J=>
  simp only [List.getElem?_cons_zero,Option.some.injEq] at J;subst J;refine ⟨rfl,fun j v I=>?_,rfl,U,rfl⟩
  match j,I with
  | 0,I=>rw [ai h]; simpa using I
  | 1,I=>rw [ai h]; simpa using I
  | j+2,I=>simp at I
 | 1,J=>
  simp only [List.getElem?_cons_succ,List.getElem?_cons_zero,Option.some.injEq] at J;subst J;refine ⟨rfl,fun j v I=>?_,rfl,hy,rfl⟩
  match j,I with
  | 0,I=>rw [ai h]; simpa using I
  | 1,I=>rw [ai h]; simpa using I
  | j+2,I=>simp at I
 | 2,J=>
  simp only [List.getElem?_cons_succ,List.getElem?_cons_zero,Option.some.injEq] at J;subst J;refine ⟨rfl,fun j v I=>?_,rfl,hz,rfl⟩
  match j,I with
  | 0,I=>rw [ai h]; simpa using I
  | 1,I=>rw [ai h]; simpa using I
  | j+2,I=>simp at I
 | k+3,J=>simp at J
theorem Ee {g p n:Nat} {w y U:World} {xs:List Ru} {Av:Option Addr} {cp:Nat} {I:TypeInfo} (hi:Tryz.prog.info? 40=some I) (a0:I.zero=some (.agg #[.string ⟨#[]⟩,.slice none 0 0,.slice none 0 0])) (a1:I.size=3) (a2:I.bytes=64)
  {a3:Array Oper} {o:Oper} {a:Act} {K:Act→World→Prop} {Q:Exit→Act→World→Prop} {E:Prop} (a4:o.guard=none) (s x:Operand)
  (ho:o.op=.call { callee:=.builtin .append,args:=#[s,x],argTypes:=#[23,23] }) (b:Nat) (hs:a.eval s=.slice (some ⟨b,0,none⟩) 0 0) (hE:U.heap[b]? = some (.cells #[] 40 (0,0))) (hb:y.heap.size≤b)
  (H:gQ g p w xs (.slice Av n cp) y) (hx:a.eval x=.slice Av n cp) (hn:xs.length=n) (hB:Below y.heap.size y U) (hlen:n≤100)
  (h:∀ A cap w',(∃ L bs,aY 3 gY y.heap.size 40 w' (.slice A n cap) L xs bs∧(∀ b ∈ bs,w.heap.size≤b))→Below y.heap.size y w'→U.grownBy w' (some b)→K (a.put o.dst (.slice A n cap)) w'):if Region.wanted o (yielded a3 a.tmps)=true then Oper.wp Tryz.prog o a U K Q else E:=by
 subst hn;obtain ⟨L,bs,hC,a5⟩:=H.coll;have J:=hC.below aX hB
 refine aV a4 s x _ ho y.heap.size 40 I _ 3 64 Tryz.underlying23 hi a0 a1 a2 rfl (by omega) aX (.slice (some ⟨b,0,none⟩) 0 0) 0 [] [] [] hs (aY.empty hE hb) rfl Av xs.length cp L xs bs hx J.row rfl (UD J.own) (fun c hc=>by
  have:=hC.row.lt aX c hc
  simp [Value.ownBlock]; omega) (by unfold maxLen; omega) (by omega) y y.heap.size hB ν hB.size fun A cap w' a6 a7 _ hG=>?_
 rw [Nat.zero_add] at *;exact h A cap w' ⟨L,bs,by simpa using a6,a5⟩ a7 hG
theorem UE {g p n:Nat} {w y W2:World} {xs:List Ru} {Av:Option Addr} {cp:Nat} {I:TypeInfo} (hi:Tryz.prog.info? 40=some I) (a0:I.zero=some (.agg #[.string ⟨#[]⟩,.slice none 0 0,.slice none 0 0])) (a1:I.size=3) (a2:I.bytes=64)
  {a3:Array Oper} {o:Oper} {a:Act} {K:Act→World→Prop} {Q:Exit→Act→World→Prop} {E:Prop} (a4:o.guard=none) (s x:Operand)
  (ho:o.op=.call { callee:=.builtin .append,args:=#[s,x],argTypes:=#[23,23] }) {L:List Value} {bs:List Nat} (hs:a.eval s=.slice Av n cp) (hC:aY 3 gY y.heap.size 40 W2 (.slice Av n cp) L xs bs) (a5:∀ b ∈ bs,w.heap.size≤b)
  {v:Value} (H:gQ g p w xs v y) (lb:Nat) (hx:a.eval x=.slice (some ⟨lb,0,none⟩) 1 1) {c0 c1 c2:Value} (hl:W2.heap[lb]? = some (.cells #[c0,c1,c2] 40 (0,0))) {r:Ru} {br:List Nat} (hr:gY y [c0,c1,c2] r br) (a6:∀ b ∈ br,w.heap.size≤b) (a7:SH r) (hn:xs.length=n) (hB:Below y.heap.size y W2) (hlen:n≤100)
  (h:∀ A cap w',gQ g p w (xs ++ [r]) (.slice A (n+1) cap) w'→Below y.heap.size y w'→K (a.put o.dst (.slice A (n+1) cap)) w'):if Region.wanted o (yielded a3 a.tmps)=true then Oper.wp Tryz.prog o a W2 K Q else E:=by
 subst hn;have J:=H.kept.size;refine aV a4 s x _ ho y.heap.size 40 I _ 3 64 Tryz.underlying23 hi a0 a1 a2 rfl (by omega) aX (.slice Av xs.length cp) xs.length L xs bs hs hC rfl (some ⟨lb,0,none⟩) 1 1 _ [r] br hx (aT.dH oI (aX.below hr hB)) rfl (aS hl) (fun c hc=>aO hC.own (aX.lt hr c hc)) (by unfold maxLen; omega) (by omega) y y.heap.size hB ν hB.size fun A cap w' a8 U _ hG=>?_
 have a9:Below w.heap.size y w':=U.mono J;exact h A cap w' (H.app (a8.mono J) (fun b hb=>(μ.1 hb).elim (a5 b) (a6 b)) a9 a7) U
end
section
open Go.RowKit D
attribute [local go_sem ↓] Go.wp_at_zero Go.wp_at_succ
theorem UF:(Tryz.prog.info? 9).map (fun i=>(i.zero,i.size,i.bytes))=some (some (.string ⟨#[]⟩),1,16):=by kernel_rfl
structure D.UG (w:World) (v:Value) (L:List Value) (xs:List ByteArray) (wr:World):Prop where
 coll:aY 1 jY w.heap.size 9 wr v L xs []
 bel:Below w.heap.size w wr
theorem D.UG.below {w wr w':World} {v:Value} {L:List Value} {xs:List ByteArray} (h:UG w v L xs wr) (hb:Below wr.heap.size wr w'):UG w v L xs w':=⟨h.coll.below aN hb,h.bel.trans (hb.mono h.bel.size)⟩
theorem Iz (ps:List Pt) (v:Value) (bs:List Nat) (w:World) (h:iY w [v] ps bs) (hs:iZ (fun p=>p.atom.args.length) ps≤1000000):
  Calls Tryz.prog 173 #[v] w (Makes jK (aC ps) w.heap.size w):=by
 obtain ⟨Ad,cap,rfl,hl,hm⟩:=aj h;have bq:=aA (τ hl hm);obtain ⟨i0,hi,aM,aR,b3⟩:=info_parts UF;have b4:Hid (∀ k,(jI (ps.take k)).length≤iZ (fun p=>p.atom.args.length) (ps.take k)):=η fun k=>tK _
 have HS:=η hs;have HV:=η (aY.nil (n:=1) (R:=jY) (base:=w.heap.size) (e:=9) w);clear hl hm hs
 go_enter Tryz.func173,Tryz.ntmps173
 go_wp2
 go_loopw [3,10] (fun v i wr=>∃ (k:Nat) (Av:Option Addr) (cp:Nat) (L:List Value) (xs:List ByteArray),k≤ps.length∧i=.int .i64 k∧v=.slice Av xs.length cp∧xs=jI (ps.take k)∧UG w (.slice Av xs.length cp) L xs wr) (fun _ i _=>ps.length - (intOf i).toNat)
 case atStart=>exact ⟨0,none,0,[],[],ε,rfl,rfl,rfl,HV.out,ϑ⟩
 case round=>
  obtain ⟨k,Av,cp,L,xs,hk,rfl,rfl,ab,J⟩:=hrel;clear HV;have HV:=η J;have HX:=η ab;clear ab;obtain ⟨wo,rfl⟩:∃ wo:World,wo=wr:=⟨_,rfl⟩;by_cases I:k < ps.length
  ·obtain ⟨b,o,Ae,ce,bk,rfl,_,d0,d1,d2,ac,_⟩:=jd h I
   replace d0:=ξ J.bel d0;replace d1:=ξ J.bel d1;replace d2:=ξ J.bel d2;have br:(0:Int)≤(k:Int):=by omega
   have b5:(k:Int) < (ps.length:Int):=by omega
   have ae:=η I;have HN:=η (Ib ps k I)
   have b6:Hid ((jI (ps.take k)).length+ps[k].atom.args.length≤1000000):=η (by
    have h1:=b4.out k;have h2:=Fv (fun p:Pt=>p.atom.args.length) ps k I;have h3:=uM (fun p:Pt=>p.atom.args.length) ps (k+1);have:=HS.out
    omega)
   have hA:Below wo.heap.size wo (wo.alloc (.cells #[.bool ps[k].no,.string ps[k].atom.name,.slice Ae ps[k].atom.args.length ce] 42)):=ζ;have ht:=dI (jy ac);obtain ⟨_,_,b7,af,ag⟩:=aj ht;have bt:=aA (τ af ag);have am:=η (J.below hA);have HT:=η ht;clear h J ac hA ht af ag b7 HV;generalize ps[k]=p at *;clear I;obtain ⟨no,nm,args⟩:=p;dsimp only at *;go_wp2;generalize wo.alloc (.cells #[.bool no,.string nm,.slice Ae args.length ce] 42)=w1 at *
   go_loopw [3,18] (fun v i wr=>∃ (j:Nat) (Av:Option Addr) (cp:Nat) (L:List Value) (ys:List ByteArray),j≤args.length∧i=.int .i64 j∧v=.slice Av ys.length cp∧ys=jI (ps.take k) ++ jH (args.take j)∧UG w (.slice Av ys.length cp) L ys wr) (fun _ i _=>args.length - (intOf i).toNat)
   case atStart=>exact ⟨0,Av,cp,L,xs,ε,rfl,rfl,by rw [← HX.out]; simp [jH],am.out⟩
   case round=>
    clear am HX;obtain ⟨j,Aw,cq,M,ys,hj,rfl,rfl,a0,J⟩:=hrel;have HV:=η J;have HY:=η a0;clear a0;by_cases I:j < args.length
    ·obtain ⟨b2,o2,rfl,_,f0,f1,ao⟩:=fF (aP.below HT.out J.bel) I
     have bu:(0:Int)≤(j:Int):=by omega
     have b8:(j:Int) < (args.length:Int):=by omega
     have a3:=η I;have a4:=η (Ia args j I);have a7:Below wr.heap.size wr (wr.alloc (.cells #[.bool args[j].var,.string args[j].name] 91)):=ζ;have aq:Below wr.heap.size wr ((wr.alloc (.cells #[.bool args[j].var,.string args[j].name] 91)).alloc (.cells #[.string args[j].name] 9)):=a7.alloc (by simp) _;have ar:=η (J.below a7);have a5:=η (J.below aq)
     have HK:Hid (ys.length+1≤maxLen∧(ys.length+1) * 16≤140737488355328):=η (by
      have h1:=AY (args.take j);rw [List.length_take] at h1;have h2:=b6.out;rw [HY.out,χ]
      unfold maxLen; omega)
     have bc:=η ao;clear J a7 aq ao HV;generalize args[j]=t at *;clear I;obtain ⟨tv,U⟩:=t;dsimp only at *;cases tv
     ·have a1:Hid (jH (args.take (j+1))=jH (args.take j)):=η (by rw [a4.out]; simp)
      clear a4 a5;go_wp2;go_roundw
      case rel=>exact ⟨j+1,Aw,cq,M,ys,a3.out,by go_num,rfl,by rw [a1.out]; exact HY.out,ar.out⟩
      case measure=>have:=a3.out; simp [intOf]; omega
     ·have a1:Hid (jH (args.take (j+1))=jH (args.take j) ++ [U]):=η (by rw [a4.out]; simp)
      have bf:Hid (aT 1 jY ((wr.alloc (.cells #[.bool true,.string U] 91)).alloc (.cells #[.string U] 9)) [.string U] [U] []):=η (aT.dH jA ⟨rfl,bc.out,rfl⟩);have bg:Hid (Lies ((wr.alloc (.cells #[.bool true,.string U] 91)).alloc (.cells #[.string U] 9)) (some ⟨wr.heap.size+1,0,none⟩) [.string U]):=η (by have:=aS (ω (wr.alloc (.cells #[.bool true,.string U] 91)) (.cells #[.string U] 9)); simpa using this);clear a4 ar
      go_wp2_with (at_builtin; refine cO rfl _ _ _ rfl w.heap.size 9 i0 (.string ⟨#[]⟩) 1 16 Tryz.underlying44 hi aM aR b3 rfl (by omega) aN (.slice Aw ys.length cq) ys.length _ _ _ rfl a5.out.coll rfl (some ⟨wr.heap.size+1,0,none⟩) 1 1 _ [U] _ rfl bf.out rfl bg.out (fun b hb=>by simp at hb) HK.out.1 HK.out.2 w w.heap.size a5.out.bel ν a5.out.bel.size ?_; intro A2 bh w2 a2 av bi _)
      have bj:=η a2;have bl:=η av;clear a2 av bi;go_wp2;go_roundw
      case rel=>exact ⟨j+1,A2,bh,_,ys ++ [U],a3.out,by go_num,by simp,by rw [a1.out,HY.out,List.append_assoc],by rw [χ]; exact bj.out,bl.out⟩
      case measure=>have:=a3.out; simp [intOf]; omega
    ·have he:j=args.length:=by omega
     have b8:¬ (j:Int) < (args.length:Int):=by omega
     have HE:Hid (ys=jI (ps.take (k+1))):=η (by rw [HN.out,HY.out,he,ϕ ν]);clear J he;go_wp2;go_roundw
     case rel=>exact ⟨k+1,Aw,cq,M,ys,ae.out,by go_num,rfl,HE.out,HV.out⟩
     case measure=>have:=ae.out; simp [intOf]; omega
  ·have he:k=ps.length:=by omega
   have b5:¬ (k:Int) < (ps.length:Int):=by omega
   have a8:xs=jI ps:=by rw [HX.out,he,ϕ ν]
   have a9:xs.length≤16777216:=by rw [a8]; have:=tK ps; have:=HS.out; omega
   have bn:=η a8;have bo:=η a9;have c1:=QK xs _ L w.heap.size wo J.coll a9;have bv:=η (dO J.coll.own);clear h J he a8 a9 HX hk
   go_wp2_with fail
   refine c1.mono ?_;rintro e w2 ⟨rfl,ys,a0,aw,aa,az⟩;have B2:Below w.heap.size w w2:=jb HV.out.bel HV.out.coll.own ν HV.out.bel.size az;have c2:=Iq ys _ _ w.heap.size w2 aa (by rw [aw]; exact bo.out);have HY:=η (ι a0 (ι aa B2));clear c1 a0 aw aa az B2
   go_wp2_with fail
   refine c2.mono ?_;rintro e w3 ⟨v3,zs,rfl,a6,a2,aD⟩
   have hz:zs=aC ps:=by
    have h1:=Ic ps;rw [HY.out.1,bn.out] at a6;rw [h1] at a6
    have bp:∀ (a b:List ByteArray),a.map (·.data.toList)=b.map (·.data.toList)→a=b:=by
     intro a
     induction a with
     | nil=>intro b h; cases b; rfl; simp at h
     | cons x a ih=>intro b h; cases b with
      | nil=>simp at h
      | cons y b=>simp only [List.map_cons,List.cons.injEq] at h; rw [bytes_inj h.1,ih b h.2]
    exact bp _ _ a6
   subst hz;obtain ⟨b9,aE,aL⟩:=a2.new (New.nil _ _);have B3:=jb HY.out.2.2 HY.out.2.1.own ν HY.out.2.2.size aD;have HZ:Hid (Makes jK (aC ps) w.heap.size w (.returned v3) w3):=η ⟨B3,_,_,rfl,aE,aL⟩;clear c2 a6 a2 aD aE aL B3;go_wp2;go_ret;exact HZ.out
theorem D.Gx {B:Nat} {a w:World} (h:Below B a w) (n:Nat):Below B a (w.drewN n):=⟨h.os,h.tape,h.output,h.size,h.block⟩
theorem wY (vars:List ByteArray) (hv:jU vars) (b:Bd) (t:T) (ht:t.var=true→t.name ∈ vars) (blk o:Nat) (w:World) (h:iJ vars b blk o w):
  Calls Tryz.prog 178 #[.pointer (some ⟨blk,o,none⟩),.agg #[.int .i64 (kD vars t),.string (kE t)]] w fun e w'=>e=.returned (.string (dK b t).name)∧Below w.heap.size w w':=by
 obtain ⟨tv,y⟩:=t;have I:Below w.heap.size w (w.alloc (.cells #[.int .i64 (kD vars ⟨tv,y⟩),.string (kE ⟨tv,y⟩)] 244)):=ζ;have HB:=η I;cases tv
 ·have J:kD vars ⟨false,y⟩ = -1:=rfl
  have U:kE ⟨false,y⟩=y:=rfl;have e3:(dK b ⟨false,y⟩).name=y:=rfl;rw [J,U] at HB ⊢;rw [e3];clear h I ht J U e3
  go_enter Tryz.func178,Tryz.ntmps178
  go_wp2;go_ret;exact ⟨rfl,HB.out⟩
 ·have hn:=ht rfl
  have hi:vars.idxOf y < vars.length:=List.idxOf_lt_length_of_mem hn;have hf:=hv.few;have J:kD vars ⟨true,y⟩=((vars.idxOf y:Nat):Int):=rfl
  have e3:(dK b ⟨true,y⟩).name=IV vars b (vars.idxOf y):=by
   unfold IV;rw [dif_pos hi];have:vars[vars.idxOf y]=y:=List.getElem_idxOf hi;rw [this]; rfl
  have U:kE ⟨true,y⟩=⟨#[]⟩:=rfl;rw [J,U] at HB I ⊢;rw [e3];have hB:=(h.keep (I.block _ h.lt));have y0:=hB.wd (vars.idxOf y) (by omega);have k0:¬ ((vars.idxOf y:Nat):Int) < 0:=by omega
  have k1:((vars.idxOf y:Nat):Int) < 12:=by omega
  have k2:(0:Int)≤((vars.idxOf y:Nat):Int):=by omega
  generalize vars.idxOf y=j at *;clear h I ht hB J e3 U hi hn
  go_enter Tryz.func178,Tryz.ntmps178
  go_wp2
  go_quiet (fail)
  go_wp2;go_ret;exact ⟨rfl,Gx HB.out _⟩
end
end Go.Proofs.YtkjinanbccloeaaGreatDoor
