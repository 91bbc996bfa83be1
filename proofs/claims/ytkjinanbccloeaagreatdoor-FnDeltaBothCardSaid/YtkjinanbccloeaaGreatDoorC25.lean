/- Of the proof of FnDeltaBoth: RPutS, FineI, ChgI, L3Do. -/
import Derived.Test.YtkjinanbccloeaaGreatDoorC21
import Derived.Test.YtkjinanbccloeaaGreatDoorC22
set_option linter.unusedVariables false
set_option maxHeartbeats 8000000
set_option maxRecDepth 100000
namespace Go.Proofs.YtkjinanbccloeaaGreatDoor
open Go.RowKit D
attribute [local go_sem ↓] Go.wp_at_zero Go.wp_at_succ
theorem Vt:(Tryz.prog.info? 3).map (fun i=>(i.zero,i.size,i.bytes))=some (some (.int .i64 0),1,8):=by kernel_rfl
abbrev D.Rd:=List A × List Nat
def D.iM (r:Rd) (a:A) (n:Nat):Rd:=if hasB r.1 a then r else (fD r.1 a,r.2.take (pl r.1 a) ++ [n] ++ r.2.drop (pl r.1 a))
def D.sK:Rel Rd:=fun w cs r bs=>∃ s b o c y I,cs = [s,.slice (some ⟨b,o,none⟩) r.2.length c]∧bs=y ++ I∧ay w [s] r.1 y∧jS w [.slice (some ⟨b,o,none⟩) r.2.length c] r.2 I∧r.2.length=r.1.length
theorem D.qy:Good sK:=
 ⟨fun h J=>by
   obtain ⟨s,b,o,c,U,b2,h1,rfl,y,I,h5⟩:=h
   exact ⟨s,b,o,c,U,b2,h1,rfl,ak.keep y fun b hb=>J b (Ξ _ hb),dW.keep I fun b hb=>J b (Ω _ hb),h5⟩,
  fun h b hb=>by
   obtain ⟨s,b',o,c,U,b2,h1,rfl,y,I,h5⟩:=h
   rcases μ.1 hb with hb | hb
   ·exact ak.lt y b hb
   ·exact dW.lt I b hb⟩
def D.jq (xs:List Nat):List Value:=xs.map fun x=>.int .i64 (x:Nat)
theorem D.Nw {base e:Nat} {w:World} {v:Value} {ys:List Nat} (h:w.ownsRow base e 1 v ys.length (jq ys)):∃ y,jS w [v] ys y∧∀ b ∈ y,base≤b:=by
 have hr:aW 1 yT w (jq ys) ys []:=by
  refine ⟨by simp [jq],fun u I=>?_,fun _=>[],by simp,fun j J=>⟨?_,rfl⟩⟩
  ·obtain ⟨s,_,rfl⟩:=List.mem_map.1 I
   rfl
  ·rw [Nat.mul_one]
   refine List.ext_getElem? fun i=>?_
   rcases i with _ | i
   ·simp [jq,List.getElem?_drop,J]
   ·simp [jq]; omega
 obtain ⟨y,U,h3⟩:=hr.slice h;exact ⟨y,U,fun b hb=>(h3 b hb).elim id fun h=>by cases h⟩
def D.PJ (Bk:List Nat) (w U:World) (xs X:List A) (ns:List Nat) (Ax:Option Addr) (px b o pr k:Nat) (n:Nat) (d0 d1 ao aq:Value) (L1 L2:List Value) (f:Nat→Bool) (a:Act) (w':World):Prop:=
 ∃ (a0 a1 a2 y a3 a4 a5 a6 a7 a8 a9 aa ab ac ae af ag I am:Value) (o1 o2:Option Nat) (bl:List Nat) (J:World),a=⟨#[.agg #[.slice Ax xs.length px,.slice (some ⟨b,o,none⟩) ns.length pr],.agg #[d0,d1],.int .i64 n,.pointer (some ⟨w.heap.size,0,none⟩),.pointer (some ⟨w.heap.size+1,0,none⟩),undef,.pointer (some ⟨w.heap.size+1+1,0,none⟩),.int .i64 k,.bool false,.tuple #[.int .i64 k,.bool false],.pointer (some ⟨w.heap.size,0,none⟩),.slice Ax xs.length px,.agg #[d0,d1],.tuple #[.int .i64 k,.bool false],.int .i64 k,.bool false,.bool false,undef,a0,a1,a2,y,a3,a4,a5,a6,a7,a8,a9,aa,ab,ac,ae,af,ag,I,am],[]⟩∧Below U.heap.size U J∧
  (f 17=false→tN U.heap.size 3 k L1 (.int .i64 n) (f 4) (f 9) (f 11) (f 12) a3 a8 aa ab o1 o2 J)∧(f 17=true→Et U.heap.size 3 J I (k+1+L2.length) (L1 ++ [.int .i64 n] ++ L2) o1)∧(KL U.heap.size J o1∧KL U.heap.size J o2∧(f 17=true→f 4=true∧f 9=true∧f 11=true∧f 12=true))∧
  (f 3=true→(∃ A cap,y=.slice A X.length cap)∧ay J [y] X bl∧∀ c ∈ bl,o1 ≠ some c∧o2 ≠ some c∧(c ∈ Bk∨U.heap.size≤c))∧
  ((f 0=true→a0=.pointer (some ⟨w.heap.size,0,none⟩))∧(f 1=true→a1=.slice Ax xs.length px)∧(f 2=true→a2=.agg #[d0,d1])∧(f 5=true→a4=.pointer (some ⟨w.heap.size,1,none⟩))∧(f 6=true→a5=.slice (some ⟨b,o,none⟩) ns.length pr)∧(f 7=true→a6=.int .i64 k)∧(f 8=true→a7=ao)∧(f 10=true→a9=.int .i64 n)∧(f 13=true→ac=.pointer (some ⟨w.heap.size,1,none⟩))∧(f 14=true→ae=.slice (some ⟨b,o,none⟩) ns.length pr)∧(f 15=true→af=.int .i64 k)∧(f 16=true→ag=aq)∧(f 18=true→am=.agg #[y,I]∧f 3=true∧f 17=true))∧
  (f 19=false→w'=J)∧(f 19=true→w'=(J.setCell ⟨w.heap.size+1+1,0,none⟩ y).setCell ⟨w.heap.size+1+1,1,none⟩ I)∧(f 19=true→∀ i,i < 19→f i=true)
theorem Vu (xs:List A) (J:List Nat) (a:A) (n:Nat) (c0 d0 d1:Value) (b o pr:Nat) (b0 b1 b2:List Nat) (w:World) (hx:ay w [c0] xs b0) (hi:jS w [.slice (some ⟨b,o,none⟩) J.length pr] J b1) (h2:aK w [d0,d1] a b2) (hlen:J.length=xs.length)
  (bv:gB xs=true) (hm:xs.length≤100000000000):
  Calls Tryz.prog 111 #[.agg #[c0,.slice (some ⟨b,o,none⟩) J.length pr],.agg #[d0,d1],.int .i64 n] w fun e w'=>Below w.heap.size w w'∧∃ e0 e1 bs',e=.returned (.agg #[e0,e1])∧sK w' [e0,e1] (iM (xs,J) a n) bs'∧∀ c ∈ bs',c ∈ b0 ++ b1 ++ b2∨w.heap.size≤c:=by
 obtain ⟨Ax,px,rfl,cY,d2⟩:=aj hx;obtain ⟨Ab,pb,cE,d3,cG⟩:=aj hi;simp only [Value.slice.injEq,true_and] at cE;obtain ⟨rfl,rfl⟩:=cE;obtain ⟨Aa,ca,rfl,rfl⟩:=bY h2;obtain ⟨i0,bw,cj,ck,cl⟩:=info_parts Vt;have HX:=η hx;have HI:=η hi;have cI:=η h2;have hA:Below w.heap.size w (((w.alloc (.cells #[.slice Ax xs.length px,.slice (some ⟨b,o,none⟩) J.length pr] 96)).alloc (.cells #[.string a.name,.slice Aa a.args.length ca] 33)).alloc (.cells #[.slice none 0 0,.slice none 0 0] 96)):=((ζ).alloc (by simp) _).alloc (by simp; omega) _;have bq:(((w.alloc (.cells #[.slice Ax xs.length px,.slice (some ⟨b,o,none⟩) J.length pr] 96)).alloc (.cells #[.string a.name,.slice Aa a.args.length ca] 33)).alloc (.cells #[.slice none 0 0,.slice none 0 0] 96)).heap[w.heap.size]? = some (.cells #[.slice Ax xs.length px,.slice (some ⟨b,o,none⟩) J.length pr] 96 (0,0)):=by rw [Below.heap_alloc _ _ _ (by simp; omega),Below.heap_alloc _ _ _ (by simp)]; exact ω w _
 have c5:(((w.alloc (.cells #[.slice Ax xs.length px,.slice (some ⟨b,o,none⟩) J.length pr] 96)).alloc (.cells #[.string a.name,.slice Aa a.args.length ca] 33)).alloc (.cells #[.slice none 0 0,.slice none 0 0] 96)).heap[w.heap.size+1]? = some (.cells #[.string a.name,.slice Aa a.args.length ca] 33 (0,0)):=by
  rw [Below.heap_alloc _ _ _ (by simp)];simpa using ω (w.alloc (.cells #[.slice Ax xs.length px,.slice (some ⟨b,o,none⟩) J.length pr] 96)) (.cells #[.string a.name,.slice Aa a.args.length ca] 33)
 have br:(((w.alloc (.cells #[.slice Ax xs.length px,.slice (some ⟨b,o,none⟩) J.length pr] 96)).alloc (.cells #[.string a.name,.slice Aa a.args.length ca] 33)).alloc (.cells #[.slice none 0 0,.slice none 0 0] 96)).heap[w.heap.size+1+1]? = some (.cells #[.slice none 0 0,.slice none 0 0] 96 (0,0)):=by
  simpa using ω ((w.alloc (.cells #[.slice Ax xs.length px,.slice (some ⟨b,o,none⟩) J.length pr] 96)).alloc (.cells #[.string a.name,.slice Aa a.args.length ca] 33)) (.cells #[.slice none 0 0,.slice none 0 0] 96)
 have q3:=yF xs a _ _ _ b0 b2 _ (ak.below hx hA) (au.below h2 hA) bv
 have cm:J ≠ []→b < w.heap.size:=fun d4=>by
  obtain ⟨b',o',e',bi,_⟩:=qP hi (k:=0) (by cases J with | nil=>exact absurd rfl d4 | cons=>simp);simp only [Option.some.injEq,Addr.mk.injEq,and_true] at e';rw [e'.1];exact dW.lt hi b' bi
 have cn:∀ j (hj:j < J.length),w.cell? ⟨b,o+j,none⟩=some (.int .i64 (J[j]:Nat)):=fun j hj=>by
  obtain ⟨b',o',e',bi,hc⟩:=qP hi hj;simp only [Option.some.injEq,Addr.mk.injEq,and_true] at e';obtain ⟨rfl,rfl⟩:=e';exact hc
 have dE:pl xs a≤xs.length:=(qJ bv a).2.2;have bx:Hid (iM (xs,J) a n=if hasB xs a then (xs,J) else (fD xs a,J.take (pl xs a) ++ [n] ++ J.drop (pl xs a))):=η rfl
 have cJ:Hid (∀ w',Below w.heap.size w w'→Lies w' (some ⟨b,o,none⟩) (jq (J.take (pl xs a)))):=η fun w' bi=>Lies.mk fun j u hj=>by
  have c6:=(List.getElem?_eq_some_iff.1 hj).1;simp [jq] at c6;have bh:j < J.length:=by omega
  refine ((bi.cell (p:=⟨b,o+j,none⟩) (cm (by intro e'; rw [e'] at bh; simp at bh))).trans (cn j bh)).trans ?_;rw [← hj]; simp [jq,c6]
 have cK:Hid (∀ w',Below w.heap.size w w'→Lies w' (some ⟨b,o+pl xs a,none⟩) (jq (J.drop (pl xs a)))):=η fun w' bi=>Lies.mk fun j u hj=>by
  have c6:=(List.getElem?_eq_some_iff.1 hj).1;simp [jq] at c6;have bh:pl xs a+j < J.length:=by omega
  rw [Nat.add_assoc];refine ((bi.cell (p:=⟨b,o+(pl xs a+j),none⟩) (cm (by intro e'; rw [e'] at bh; simp at bh))).trans (cn _ bh)).trans ?_;rw [← hj]; simp [jq,bh]
 have bp:=η (ak.lt hx);have cg:=η (dW.lt hi);have bz:=η (au.lt h2);have d5:=τ d3 cG;have bj:=η hlen;clear hx hi h2 cY d2 cm cn hlen
 cases hh:hasB xs a with
 | true=>
  rw [hh] at q3 bx;have co:Hid (iM (xs,J) a n=(xs,J)):=bx;clear hh bx
  go_enter Tryz.func111,Tryz.ntmps111
  go_wp2_with fail
  refine q3.mono ?_;rintro e w1 ⟨rfl,bf⟩;have B1:=η (hA.trans (bf.mono hA.size));have bk:=(bf.block _ (ψ bq)).trans bq;have bg:=(bf.block _ (ψ br)).trans br;have y0:w1.cell? ⟨w.heap.size,0,none⟩=some (.slice Ax xs.length px):=ai bk;have y1:w1.cell? ⟨w.heap.size,1,none⟩=some (.slice (some ⟨b,o,none⟩) J.length pr):=ai bk;have z0:w1.cell? ⟨w.heap.size+1+1,0,none⟩=some (.slice none 0 0):=ai bg;have z1:w1.cell? ⟨w.heap.size+1+1,1,none⟩=some (.slice none 0 0):=ai bg;have z2:w1.frozen? ⟨w.heap.size+1+1,0,none⟩=false:=ax bg;have z3:w1.frozen? ⟨w.heap.size+1+1,1,none⟩=false:=ax bg;have b9:=dw (o:=1) (u:=.slice (some ⟨b,o,none⟩) J.length pr) (dw (o:=0) (u:=.slice Ax xs.length px) bg);have c7:((w1.setCell ⟨w.heap.size+1+1,0,none⟩ (.slice Ax xs.length px)).setCell ⟨w.heap.size+1+1,1,none⟩ (.slice (some ⟨b,o,none⟩) J.length pr)).cell? ⟨w.heap.size+1+1,0,none⟩=some (.slice Ax xs.length px):=ai b9
  have c8:((w1.setCell ⟨w.heap.size+1+1,0,none⟩ (.slice Ax xs.length px)).setCell ⟨w.heap.size+1+1,1,none⟩ (.slice (some ⟨b,o,none⟩) J.length pr)).cell? ⟨w.heap.size+1+1,1,none⟩=some (.slice (some ⟨b,o,none⟩) J.length pr):=ai b9;have bt:∀ c,c < w.heap.size→((w1.setCell ⟨w.heap.size+1+1,0,none⟩ (.slice Ax xs.length px)).setCell ⟨w.heap.size+1+1,1,none⟩ (.slice (some ⟨b,o,none⟩) J.length pr)).heap[c]? = w.heap[c]?:=fun c hc=>by rw [π _ _ _ _ (by show c ≠ w.heap.size+1+1; omega),π _ _ _ _ (by show c ≠ w.heap.size+1+1; omega)]; exact B1.out.block c hc
  have cL:=η bt;have d6:=η ((B1.out.setCell (p:=⟨w.heap.size+1+1,0,none⟩) (by show w.heap.size≤w.heap.size+1+1; omega) (.slice Ax xs.length px)).setCell (p:=⟨w.heap.size+1+1,1,none⟩) (by show w.heap.size≤w.heap.size+1+1; omega) (.slice (some ⟨b,o,none⟩) J.length pr));clear q3 bf b9 bt bq c5 br hA;go_wp2;refine bodyPost_ret (v:=.agg #[.slice Ax xs.length px,.slice (some ⟨b,o,none⟩) J.length pr]) (by simp [results,Tryz.results111,go_sem,c7,c8]) rfl ⟨d6.out,_,_,b0 ++ b1,rfl,?_,fun c hc=>.inl (Ξ _ hc)⟩;rw [co.out];exact ⟨.slice Ax xs.length px,b,o,pr,b0,b1,rfl,rfl,ak.keep HX.out fun c hc=>cL.out c (bp.out c hc),dW.keep HI.out fun c hc=>cL.out c (cg.out c hc),bj.out⟩
 | false=>
  rw [hh] at q3;have co:Hid (iM (xs,J) a n=(fD xs a,J.take (pl xs a) ++ [n] ++ J.drop (pl xs a))):=η (by rw [bx.out,hh]; rfl);have d7:Hid ((fD xs a).length=xs.length+1):=η (by unfold fD; rw [hh]; simp; omega);clear hh bx;generalize pl xs a=k at *;clear d5
  go_enter Tryz.func111,Tryz.ntmps111
  go_wp2_with fail
  refine q3.mono ?_;rintro e w1 ⟨rfl,bf⟩;have B1:=η (hA.trans (bf.mono hA.size));have bk:=(bf.block _ (ψ bq)).trans bq;have cp:=(bf.block _ (ψ c5)).trans c5;have bg:=(bf.block _ (ψ br)).trans br;have cP:w.heap.size+3≤w1.heap.size:=by have:=ψ bg; omega
  have dT:(0:Int)≤(k:Int):=by omega
  have e3:(k:Int)≤(J.length:Int):=by have:=bj.out; omega
  have e4:(k:Int)≤(pr:Int):=by omega
  have e9:(J.length:Int)≤(pr:Int):=by omega
  have dz:=aB cG;have d8:(jq (J.take k)).length=k:=by have:=bj.out; simp [jq]; omega
  have bA:(jq (J.drop k)).length=J.length - k:=by simp [jq]
  have bB:∀ l:List Nat,∀ u ∈ jq l,Value.oneCell' u=true:=fun l u hu=>by obtain ⟨t,_,rfl⟩:=List.mem_map.1 hu; rfl
  clear q3 bq c5 br hA bf
  go_wp2_with fail
  obtain ⟨cQ,b6⟩:∃ V:Value,V=if pr=k then (.slice (some ⟨b,o,none⟩) (J.length - k) 0) else (.slice (some ⟨b,o+k,none⟩) (J.length - k) (pr - k)):=⟨_,rfl⟩
  have cT:∃ Ay c,cQ=.slice Ay (J.length - k) c∧∀ w',Below w.heap.size w w'→Lies w' Ay (jq (J.drop k)):=by
   by_cases hce:pr=k
   ·rw [if_pos hce] at b6
    exact ⟨_,_,b6,fun w' bi=>by rw [List.drop_eq_nil_of_le (by omega)]; exact Lies.nil _ _⟩
   ·rw [if_neg hce] at b6
    exact ⟨_,_,b6,cK.out⟩
  refine qB (PJ (b0 ++ b2) w w1 xs (fD xs a) J Ax px b o pr k n (.string a.name) (.slice Aa a.args.length ca) (.slice (some ⟨b,o,none⟩) k pr) cQ (jq (J.take k)) (jq (J.drop k))) (by kernel_rfl) (by kernel_rfl) ?h0 ?hs ?hd
  case h0=>exact ⟨undef,undef,undef,undef,undef,undef,undef,undef,undef,undef,undef,undef,undef,undef,undef,undef,undef,undef,undef,none,none,[],_,rfl,ϑ.drew,fun _=>tN.start,fun h=>(by cases h),⟨fun b h=>(by cases h),fun b h=>(by cases h),fun h=>(by cases h)⟩,fun h=>(by cases h),⟨fun h=>(by cases h),fun h=>(by cases h),fun h=>(by cases h),fun h=>(by cases h),fun h=>(by cases h),fun h=>(by cases h),fun h=>(by cases h),fun h=>(by cases h),fun h=>(by cases h),fun h=>(by cases h),fun h=>(by cases h),fun h=>(by cases h),fun h=>(by cases h)⟩,fun _=>rfl,fun h=>(by cases h),fun h=>(by cases h)⟩
  case hd=>
   intro f aa w3 hf hJ;obtain ⟨ag,am,ao,a2,a3,aq,ar,av,aw,a4,az,ae,a5,aD,aM,aR,b3,aE,af,o1,o2,bl,w2,rfl,hB,hC,hR,⟨a1,U,a0⟩,h3,⟨e0,e1,e2,e5,e6,e7,e8,a6,a7,a8,a9,ac,ab⟩,c9,bE,bL⟩:=hJ;obtain rfl:=bE (hf 19 (by simp));obtain ⟨⟨A3,q3,rfl⟩,cU,cq⟩:=h3 (hf 3 (by simp));obtain ⟨⟨A4,q4,b7⟩,bO,d9⟩:=hR (hf 17 (by simp));rw [bA] at b7 bO;subst b7;have cP:w.heap.size+3≤w2.heap.size:=τ cP hB.size;have bn:w2.heap[w.heap.size+1+1]? = some (.cells #[.slice none 0 0,.slice none 0 0] 96 (0,0)):=(hB.block _ (by omega)).trans bg;have b9:=dw (o:=1) (u:=.slice A4 (k+1+(J.length - k)) q4) (dw (o:=0) (u:=.slice A3 (fD xs a).length q3) bn);have c7:((w2.setCell ⟨w.heap.size+1+1,0,none⟩ (.slice A3 (fD xs a).length q3)).setCell ⟨w.heap.size+1+1,1,none⟩ (.slice A4 (k+1+(J.length - k)) q4)).cell? ⟨w.heap.size+1+1,0,none⟩=some (.slice A3 (fD xs a).length q3):=ai b9
   have c8:((w2.setCell ⟨w.heap.size+1+1,0,none⟩ (.slice A3 (fD xs a).length q3)).setCell ⟨w.heap.size+1+1,1,none⟩ (.slice A4 (k+1+(J.length - k)) q4)).cell? ⟨w.heap.size+1+1,1,none⟩=some (.slice A4 (k+1+(J.length - k)) q4):=ai b9;have bt:∀ c,c ≠ w.heap.size+1+1→((w2.setCell ⟨w.heap.size+1+1,0,none⟩ (.slice A3 (fD xs a).length q3)).setCell ⟨w.heap.size+1+1,1,none⟩ (.slice A4 (k+1+(J.length - k)) q4)).heap[c]? = w2.heap[c]?:=fun c hc=>by rw [π _ _ _ _ hc,π _ _ _ _ hc]
   have da:=η (((B1.out.trans (hB.mono B1.out.size)).setCell (p:=⟨w.heap.size+1+1,0,none⟩) (by show w.heap.size≤w.heap.size+1+1; omega) (.slice A3 (fD xs a).length q3)).setCell (p:=⟨w.heap.size+1+1,1,none⟩) (by show w.heap.size≤w.heap.size+1+1; omega) (.slice A4 (k+1+(J.length - k)) q4))
   have cb:Hid (∃ bs',sK ((w2.setCell ⟨w.heap.size+1+1,0,none⟩ (.slice A3 (fD xs a).length q3)).setCell ⟨w.heap.size+1+1,1,none⟩ (.slice A4 (k+1+(J.length - k)) q4)) [.slice A3 (fD xs a).length q3,.slice A4 (k+1+(J.length - k)) q4] (iM (xs,J) a n) bs'∧∀ c ∈ bs',c ∈ b0 ++ b1 ++ b2∨w.heap.size≤c):=η (by
    have cc:(J.take k ++ [n] ++ J.drop k).length=k+1+(J.length - k):=by have:=bj.out; simp; omega
    have db:jq (J.take k ++ [n] ++ J.drop k)=jq (J.take k) ++ [.int .i64 n] ++ jq (J.drop k):=by simp [jq]
    have cr:=uo (w':=((w2.setCell ⟨w.heap.size+1+1,0,none⟩ (.slice A3 (fD xs a).length q3)).setCell ⟨w.heap.size+1+1,1,none⟩ (.slice A4 (k+1+(J.length - k)) q4))) bO fun t ht=>bt t (by have:=(jJ bO t ht).1; omega)
    obtain ⟨g2,k2,r2⟩:=Nw (ys:=J.take k ++ [n] ++ J.drop k) (by rw [cc,db]; exact cr)
    obtain ⟨gg,gc,cV⟩:∃ gg gc,Value.slice A4 (k+1+(J.length - k)) q4=.slice (some ⟨gg,0,none⟩) (k+1+(J.length - k)) gc:=by
     rcases bO.2 with ⟨h,_⟩ | ⟨g,cap,_,h,_⟩
     ·simp at h
     ·exact ⟨g,cap,h⟩
    rw [co.out];refine ⟨bl ++ g2,⟨.slice A3 (fD xs a).length q3,gg,0,gc,bl,g2,by rw [cc,cV],rfl,ak.keep cU fun c hc=>bt c (fun e=>?_),by rw [cc,← cV]; exact k2,?_⟩,fun c hc=>?_⟩
    ·rcases (cq c hc).2.2 with h | h
     ·rcases μ.1 h with h | h
      ·have:=bp.out c h; omega
      ·have:=bz.out c h; omega
     ·omega
    ·show (J.take k ++ [n] ++ J.drop k).length=(fD xs a).length
     rw [cc,d7.out]; have:=bj.out; omega
    ·rcases μ.1 hc with hc | hc
     ·rcases (cq c hc).2.2 with h | h
      ·left; rcases μ.1 h with h | h
       ·exact Ξ _ (Ξ _ h)
       ·exact Ω _ h
      ·right; omega
     ·right; have:=r2 c hc; omega)
   clear hC hR h3 e0 e1 e2 e5 e6 e7 e8 a6 a7 a8 a9 ac ab c9 bE bL bO d9 cU cq hB bn b9 bt a1 U a0 HX HI cI cJ cK bp cg bz bk cp bg cT bB;go_wp2;exact bodyPost_ret (v:=.agg #[.slice A3 (fD xs a).length q3,.slice A4 (k+1+(J.length - k)) q4]) (by simp [results,Tryz.results111,go_sem,c7,c8]) rfl ⟨da.out,_,_,_,rfl,cb.out.choose_spec⟩
  case hs=>
   intro i oo ho f aa w2 hJ hf I;obtain ⟨ag,am,ao,a2,a3,aq,ar,av,aw,a4,az,ae,a5,aD,aM,aR,b3,aE,af,o1,o2,bl,wi,rfl,hB,hC,hR,⟨a1,U,a0⟩,h3,⟨e0,e1,e2,e5,e6,e7,e8,a6,a7,a8,a9,ac,ab⟩,c9,bE,bL⟩:=hJ;by_cases dc:i=19
   case pos=>
    subst dc;obtain rfl:=Option.some.inj ho;simp [Region.binds] at I;obtain ⟨cW,bu,f0,f1,f2,f3,f4,f5,f6,f7,f8,f9,cu,cd,f12,cv,cw,cx,cz,_⟩:=I;obtain rfl:=c9 hf;have de:=(ab cW).1;subst de;obtain ⟨⟨A3,q3,rfl⟩,_⟩:=h3 f3;obtain ⟨⟨A4,q4,b7⟩,_⟩:=hR bu;rw [bA] at b7;subst b7;have bn:w2.heap[w.heap.size+1+1]? = some (.cells #[.slice none 0 0,.slice none 0 0] 96 (0,0)):=(hB.block _ (by omega)).trans bg;have ea:w2.frozen? ⟨w.heap.size+1+1,0,none⟩=false:=ax bn;have eb:w2.frozen? ⟨w.heap.size+1+1,1,none⟩=false:=ax bn;have c7:w2.cell? ⟨w.heap.size+1+1,0,none⟩=some (.slice none 0 0):=ai bn;have c8:w2.cell? ⟨w.heap.size+1+1,1,none⟩=some (.slice none 0 0):=ai bn;refine wpOp_step rfl (fun K' hK=>?_);go_simp;refine hK _ _ ?_
    refine ⟨_,_,_,_,_,_,_,_,_,_,_,_,_,_,_,_,_,_,_,o1,o2,bl,w2,rfl,hB,hC,hR,⟨a1,U,a0⟩,h3,⟨fun _=>rfl,fun _=>rfl,fun _=>rfl,fun _=>rfl,fun _=>rfl,fun _=>rfl,fun _=>rfl,fun _=>rfl,fun _=>rfl,fun _=>rfl,fun _=>rfl,fun _=>b6.symm,fun _=>⟨rfl,f3,bu⟩⟩,fun h=>(by cases h),fun _=>rfl,fun _ i hi=>?_⟩
    match i,hi with
    | 0,_=>exact f0
    | 1,_=>exact f1
    | 2,_=>exact f2
    | 3,_=>exact f3
    | 4,_=>exact f4
    | 5,_=>exact f5
    | 6,_=>exact f6
    | 7,_=>exact f7
    | 8,_=>exact f8
    | 9,_=>exact f9
    | 10,_=>exact cu
    | 11,_=>exact cd
    | 12,_=>exact f12
    | 13,_=>exact cv
    | 14,_=>exact cw
    | 15,_=>exact cx
    | 16,_=>exact cz
    | 17,_=>exact bu
    | 18,_=>exact cW
    | q+19,h=>omega
   case neg=>
    have y:f 19=false:=by
     cases hc:f 19 with
     | false=>rfl
     | true=>
      by_cases dg:i < 19
      ·exact absurd (bL hc i dg) (by simp [hf])
      ·exfalso
       rw [Array.getElem?_eq_none (by simp; omega)] at ho;cases ho
    obtain rfl:=c9 y;have ce:=B1.out.trans (hB.mono B1.out.size);have b4:=hB.size
    match i,ho,hf,I with
    | 0,ho,hf,I=>
     obtain rfl:=Option.some.inj ho;refine wpOp_step rfl (fun K' hK=>?_);go_simp;refine hK _ _ ?_;exact ⟨(.pointer (some ⟨w.heap.size,0,none⟩)),am,ao,a2,a3,aq,ar,av,aw,a4,az,ae,a5,aD,aM,aR,b3,aE,af,o1,o2,bl,_,rfl,hB,hC,hR,⟨a1,U,a0⟩,h3,⟨fun _=>rfl,e1,e2,e5,e6,e7,e8,a6,a7,a8,a9,ac,ab⟩,fun _=>rfl,Φ y,Φ y⟩
    | 1,ho,hf,I=>
     obtain rfl:=Option.some.inj ho;simp [Region.binds] at I;have f0:=I;have g0:=e0 f0;subst g0;have hc:w2.cell? ⟨w.heap.size,0,none⟩=some (.slice Ax xs.length px):=(hB.cell (p:=⟨w.heap.size,0,none⟩) (by simp; omega)).trans (ai bk);refine wpOp_step rfl (fun K' hK=>?_);go_simp;refine hK _ _ ?_;exact ⟨_,(.slice Ax xs.length px),ao,a2,a3,aq,ar,av,aw,a4,az,ae,a5,aD,aM,aR,b3,aE,af,o1,o2,bl,_,rfl,hB,hC,hR,⟨a1,U,a0⟩,h3,⟨e0,fun _=>rfl,e2,e5,e6,e7,e8,a6,a7,a8,a9,ac,ab⟩,fun _=>rfl,Φ y,Φ y⟩
    | 2,ho,hf,I=>
     obtain rfl:=Option.some.inj ho;have hc:w2.cell? ⟨w.heap.size+1,0,none⟩=some (.string a.name):=(hB.cell (p:=⟨w.heap.size+1,0,none⟩) (by simp; omega)).trans (ai cp);have ec:w2.cell? ⟨w.heap.size+1,1,none⟩=some (.slice Aa a.args.length ca):=(hB.cell (p:=⟨w.heap.size+1,1,none⟩) (by simp; omega)).trans (ai cp);refine wpOp_step rfl (fun K' hK=>?_);go_simp;refine hK _ _ ?_;exact ⟨ag,am,(.agg #[.string a.name,.slice Aa a.args.length ca]),a2,a3,aq,ar,av,aw,a4,az,ae,a5,aD,aM,aR,b3,aE,af,o1,o2,bl,_,rfl,hB,hC,hR,⟨a1,U,a0⟩,h3,⟨e0,e1,fun _=>rfl,e5,e6,e7,e8,a6,a7,a8,a9,ac,ab⟩,fun _=>rfl,Φ y,Φ y⟩
    | 3,ho,hf,I=>
     obtain rfl:=Option.some.inj ho;simp [Region.binds] at I;obtain ⟨f1,f2⟩:=I;have g1:=e1 f1;subst g1;have g2:=e2 f2;subst g2;have g0:=ak.below HX.out ce;have q:=AU xs a _ _ _ b0 b2 w2 g0 (au.below cI.out ce) bv (by omega);refine wpOp_step rfl (fun K' hK=>?_);go_simp;refine q.mono ?_;rintro e w3 hr;obtain ⟨bR,A3,q3,di,rfl,dj,cA⟩:=IJ hr g0 (fun c hc=>Ξ _ hc)
     have cX:∀ c ∈ b0 ++ b2,c < w1.heap.size:=fun c hc=>by have:=B1.out.size; rcases μ.1 hc with hc | hc; have:=bp.out c hc; omega; have:=bz.out c hc; omega
     refine hK _ _ ?_;exact ⟨ag,_,_,(.slice A3 (fD xs a).length q3),a3,aq,ar,av,aw,a4,az,ae,a5,aD,aM,aR,b3,aE,af,o1,o2,di,_,rfl,hB.trans (bR.mono b4),fun h=>(hC h).below bR,fun h=>(hR h).keep fun b hb=>bR.block b (a1 b hb).2,⟨a1.keep bR.size,U.keep bR.size,a0⟩,fun _=>⟨⟨_,_,rfl⟩,dj,fun c hc=>⟨fun e=>by have:=a1 c e; rcases cA c hc with h | h; have:=cX c h; omega; omega,fun e=>by have:=U c e; rcases cA c hc with h | h; have:=cX c h; omega; omega,(cA c hc).imp id fun h=>τ b4 h⟩⟩,⟨e0,e1,e2,e5,e6,e7,e8,a6,a7,a8,a9,ac,fun h=>absurd ((ab h).2.1.symm.trans hf) (by decide)⟩,fun _=>rfl,Φ y,Φ y⟩
    | 4,ho,hf,I=>
     obtain rfl:=Option.some.inj ho
     have b5:f 17=false:=by
      cases hc:f 17 with
      | false=>rfl
      | true=>exact absurd (a0 hc).1 (by simp [hf])
     have C:=hC b5;rw [hf] at C;have bX:Below w2.heap.size w2 (w2.alloc (.cells #[] 3)):=ζ;have cB:KL w1.heap.size (w2.alloc (.cells #[] 3)) (some w2.heap.size):=fun c e=>by simp at e; subst e; simp; exact b4
     refine wpOp_step rfl (fun K' hK=>?_);go_simp;refine hK _ _ ?_;exact ⟨ag,am,ao,a2,(.slice (some ⟨w2.heap.size,0,none⟩) 0 0),aq,ar,av,aw,a4,az,ae,a5,aD,aM,aR,b3,aE,af,some w2.heap.size,o2,bl,_,rfl,hB.alloc b4 _,fun _=>C.Uy b4,Φ b5,⟨cB,U.keep bX.size,Φ b5⟩,fun f3=>⟨(h3 f3).1,ak.below (h3 f3).2.1 bX,fun c hc=>⟨fun e=>by have:=ak.lt (h3 f3).2.1 c hc; simp at e; omega,((h3 f3).2.2 c hc).2⟩⟩,⟨e0,e1,e2,e5,e6,e7,e8,a6,a7,a8,a9,ac,ab⟩,fun _=>rfl,Φ y,Φ y⟩
    | 5,ho,hf,I=>
     obtain rfl:=Option.some.inj ho;refine wpOp_step rfl (fun K' hK=>?_);go_simp;refine hK _ _ ?_;exact ⟨ag,am,ao,a2,a3,(.pointer (some ⟨w.heap.size,1,none⟩)),ar,av,aw,a4,az,ae,a5,aD,aM,aR,b3,aE,af,o1,o2,bl,_,rfl,hB,hC,hR,⟨a1,U,a0⟩,h3,⟨e0,e1,e2,fun _=>rfl,e6,e7,e8,a6,a7,a8,a9,ac,ab⟩,fun _=>rfl,Φ y,Φ y⟩
    | 6,ho,hf,I=>
     obtain rfl:=Option.some.inj ho;simp [Region.binds] at I;have f5:=I;have g5:=e5 f5;subst g5;have hc:w2.cell? ⟨w.heap.size,1,none⟩=some (.slice (some ⟨b,o,none⟩) J.length pr):=(hB.cell (p:=⟨w.heap.size,1,none⟩) (by simp; omega)).trans (ai bk);refine wpOp_step rfl (fun K' hK=>?_);go_simp;refine hK _ _ ?_;exact ⟨ag,am,ao,a2,a3,_,(.slice (some ⟨b,o,none⟩) J.length pr),av,aw,a4,az,ae,a5,aD,aM,aR,b3,aE,af,o1,o2,bl,_,rfl,hB,hC,hR,⟨a1,U,a0⟩,h3,⟨e0,e1,e2,e5,fun _=>rfl,e7,e8,a6,a7,a8,a9,ac,ab⟩,fun _=>rfl,Φ y,Φ y⟩
    | 7,ho,hf,I=>
     obtain rfl:=Option.some.inj ho;refine wpOp_step rfl (fun K' hK=>?_);go_simp;refine hK _ _ ?_;exact ⟨ag,am,ao,a2,a3,aq,ar,(.int .i64 k),aw,a4,az,ae,a5,aD,aM,aR,b3,aE,af,o1,o2,bl,_,rfl,hB,hC,hR,⟨a1,U,a0⟩,h3,⟨e0,e1,e2,e5,e6,fun _=>rfl,e8,a6,a7,a8,a9,ac,ab⟩,fun _=>rfl,Φ y,Φ y⟩
    | 8,ho,hf,I=>
     obtain rfl:=Option.some.inj ho;simp [Region.binds] at I;obtain ⟨f6,f7⟩:=I;have g6:=e6 f6;subst g6;have g7:=e7 f7;subst g7;refine wpOp_step rfl (fun K' hK=>?_);go_simp;refine hK _ _ ?_;exact ⟨ag,am,ao,a2,a3,aq,_,_,_,a4,az,ae,a5,aD,aM,aR,b3,aE,af,o1,o2,bl,_,rfl,hB,hC,hR,⟨a1,U,a0⟩,h3,⟨e0,e1,e2,e5,e6,e7,fun _=>rfl,a6,a7,a8,a9,ac,ab⟩,fun _=>rfl,Φ y,Φ y⟩
    | 9,ho,hf,I=>
     obtain rfl:=Option.some.inj ho;simp [Region.binds] at I;obtain ⟨f4,f8,f3⟩:=I;have g8:=e8 f8;subst g8
     have b5:f 17=false:=by
      cases hc:f 17 with
      | false=>rfl
      | true=>exact absurd (a0 hc).2.1 (by simp [hf])
     have C:=hC b5;rw [hf,f4] at C;have hE:=C.e_ rfl rfl;refine wpOp_step rfl (fun K' hK=>?_);refine iL rfl (.tmp 22) (.tmp 26) 49 rfl w1.heap.size 3 i0 (.int .i64 0) 1 8 Tryz.underlying49 bw cj ck cl rfl (by omega) a3 0 [] rfl hE.2.1 (some ⟨b,o,none⟩) k pr (jq (J.take k)) rfl (by rw [d8,Nat.mul_one]) (cJ.out w2 ce) (bB _) (by unfold maxLen; omega) (by omega) b4 (fun A cap w3 aL hg b8=>hK _ _ ?_);rw [Nat.zero_add] at aL b8 ⊢;rw [List.nil_append] at aL;have bo:=hg.size;have c3:=jg hB hE.2.1 ν b4 hg
     have c4:f 3=true→((∃ A cap,a2=.slice A (fD xs a).length cap)∧ay w3 [a2] (fD xs a) bl∧∀ c ∈ bl,(Value.slice A (k) cap).ownBlock ≠ some c∧o2 ≠ some c∧(c ∈ b0 ++ b2∨w1.heap.size≤c)):=fun f3=>⟨(h3 f3).1,ak.keep (h3 f3).2.1 fun c hc=>hg.block c (ak.lt (h3 f3).2.1 c hc) fun e=>((h3 f3).2.2 c hc).1 (hE.2.2 c e.symm),fun c hc=>⟨fun e=>by
      rcases b8 with bc | bc
      ·rw [bc] at e; exact ((h3 f3).2.2 c hc).1 (hE.2.2 c e)
      ·rw [bc] at e; have:=ak.lt (h3 f3).2.1 c hc; simp at e; omega,((h3 f3).2.2 c hc).2⟩⟩
     have hN:tN w1.heap.size 3 k (jq (J.take k)) (.int .i64 n) (f 4) true (f 11) (f 12) a3 (.slice A k cap) ae a5 (Value.slice A k cap).ownBlock o2 w3:=by rw [f4]; exact C.gq b4 aL hg bo b8 (jJ aL)
     exact ⟨ag,am,ao,a2,a3,aq,ar,av,_,(.slice A k cap),az,ae,a5,aD,aM,aR,b3,aE,af,(Value.slice A k cap).ownBlock,o2,bl,_,rfl,c3,fun _=>hN,Φ b5,⟨jJ aL,U.keep bo,Φ b5⟩,c4,⟨e0,e1,e2,e5,e6,e7,e8,a6,a7,a8,a9,ac,ab⟩,fun _=>rfl,Φ y,Φ y⟩
    | 10,ho,hf,I=>
     obtain rfl:=Option.some.inj ho;refine wpOp_step rfl (fun K' hK=>?_);go_simp;refine hK _ _ ?_;exact ⟨ag,am,ao,a2,a3,aq,ar,av,aw,a4,(.int .i64 n),ae,a5,aD,aM,aR,b3,aE,af,o1,o2,bl,_,rfl,hB,hC,hR,⟨a1,U,a0⟩,h3,⟨e0,e1,e2,e5,e6,e7,e8,fun _=>rfl,a7,a8,a9,ac,ab⟩,fun _=>rfl,Φ y,Φ y⟩
    | 11,ho,hf,I=>
     obtain rfl:=Option.some.inj ho;simp [Region.binds] at I;have cu:=I;have dk:=a6 cu;subst dk
     have b5:f 17=false:=by
      cases hc:f 17 with
      | false=>rfl
      | true=>exact absurd (a0 hc).2.2.1 (by simp [hf])
     have C:=hC b5;rw [hf] at C;have bX:Below w2.heap.size w2 (w2.alloc (.cells #[.int .i64 n] 3)):=ζ;have cB:KL w1.heap.size (w2.alloc (.cells #[.int .i64 n] 3)) (some w2.heap.size):=fun c e=>by simp at e; subst e; simp; exact b4
     refine wpOp_step rfl (fun K' hK=>?_);go_simp;refine hK _ _ ?_;exact ⟨ag,am,ao,a2,a3,aq,ar,av,aw,a4,_,(.slice (some ⟨w2.heap.size,0,none⟩) 1 1),a5,aD,aM,aR,b3,aE,af,o1,some w2.heap.size,bl,_,rfl,hB.alloc b4 _,fun _=>C.stepS b4,Φ b5,⟨a1.keep bX.size,cB,Φ b5⟩,fun f3=>⟨(h3 f3).1,ak.below (h3 f3).2.1 bX,fun c hc=>⟨((h3 f3).2.2 c hc).1,fun e=>by have:=ak.lt (h3 f3).2.1 c hc; simp at e; omega,((h3 f3).2.2 c hc).2.2⟩⟩,⟨e0,e1,e2,e5,e6,e7,e8,a6,a7,a8,a9,ac,ab⟩,fun _=>rfl,Φ y,Φ y⟩
    | 12,ho,hf,I=>
     obtain rfl:=Option.some.inj ho;simp [Region.binds] at I;obtain ⟨f9,cd,_⟩:=I
     have b5:f 17=false:=by
      cases hc:f 17 with
      | false=>rfl
      | true=>exact absurd (a0 hc).2.2.2 (by simp [hf])
     have C:=hC b5;have ci:f 4=true:=C.hr f9;rw [hf,f9,cd,ci] at C;have hE:=C.r_ rfl rfl;obtain ⟨l,rfl,hl,_⟩:=C.s_ rfl rfl;refine wpOp_step rfl (fun K' hK=>?_);refine iL rfl (.tmp 27) (.tmp 29) 49 rfl w1.heap.size 3 i0 (.int .i64 0) 1 8 Tryz.underlying49 bw cj ck cl rfl (by omega) a4 k (jq (J.take k)) rfl hE.2.1 (some ⟨l,0,none⟩) 1 1 [.int .i64 n] rfl rfl (aV hl) (fun u hu=>by rw [ώ.1 hu]; rfl) (by unfold maxLen; omega) (by omega) b4 (fun A cap w3 aL hg b8=>hK _ _ ?_);have bo:=hg.size;have c3:=jg hB hE.2.1 ν b4 hg
     have c4:f 3=true→((∃ A cap,a2=.slice A (fD xs a).length cap)∧ay w3 [a2] (fD xs a) bl∧∀ c ∈ bl,(Value.slice A (k+1) cap).ownBlock ≠ some c∧o2 ≠ some c∧(c ∈ b0 ++ b2∨w1.heap.size≤c)):=fun f3=>⟨(h3 f3).1,ak.keep (h3 f3).2.1 fun c hc=>hg.block c (ak.lt (h3 f3).2.1 c hc) fun e=>((h3 f3).2.2 c hc).1 (hE.2.2 c e.symm),fun c hc=>⟨fun e=>by
      rcases b8 with bc | bc
      ·rw [bc] at e; exact ((h3 f3).2.2 c hc).1 (hE.2.2 c e)
      ·rw [bc] at e; have:=ak.lt (h3 f3).2.1 c hc; simp at e; omega,((h3 f3).2.2 c hc).2⟩⟩
     have hN:tN w1.heap.size 3 k (jq (J.take k)) (.int .i64 n) (f 4) (f 9) (f 11) true a3 a4 (.slice (some ⟨l,0,none⟩) 1 1) (.slice A (k+1) cap) (Value.slice A (k+1) cap).ownBlock o2 w3:=by rw [ci,f9,cd]; exact C.Uz b4 aL hg bo b8 (jJ aL)
     exact ⟨ag,am,ao,a2,a3,aq,ar,av,aw,a4,az,_,(.slice A (k+1) cap),aD,aM,aR,b3,aE,af,(Value.slice A (k+1) cap).ownBlock,o2,bl,_,rfl,c3,fun _=>hN,Φ b5,⟨jJ aL,U.keep bo,Φ b5⟩,c4,⟨e0,e1,e2,e5,e6,e7,e8,a6,a7,a8,a9,ac,ab⟩,fun _=>rfl,Φ y,Φ y⟩
    | 13,ho,hf,I=>
     obtain rfl:=Option.some.inj ho;refine wpOp_step rfl (fun K' hK=>?_);go_simp;refine hK _ _ ?_;exact ⟨ag,am,ao,a2,a3,aq,ar,av,aw,a4,az,ae,a5,(.pointer (some ⟨w.heap.size,1,none⟩)),aM,aR,b3,aE,af,o1,o2,bl,_,rfl,hB,hC,hR,⟨a1,U,a0⟩,h3,⟨e0,e1,e2,e5,e6,e7,e8,a6,fun _=>rfl,a8,a9,ac,ab⟩,fun _=>rfl,Φ y,Φ y⟩
    | 14,ho,hf,I=>
     obtain rfl:=Option.some.inj ho;simp [Region.binds] at I;have cv:=I;have dl:=a7 cv;subst dl;have hc:w2.cell? ⟨w.heap.size,1,none⟩=some (.slice (some ⟨b,o,none⟩) J.length pr):=(hB.cell (p:=⟨w.heap.size,1,none⟩) (by simp; omega)).trans (ai bk);refine wpOp_step rfl (fun K' hK=>?_);go_simp;refine hK _ _ ?_;exact ⟨ag,am,ao,a2,a3,aq,ar,av,aw,a4,az,ae,a5,_,(.slice (some ⟨b,o,none⟩) J.length pr),aR,b3,aE,af,o1,o2,bl,_,rfl,hB,hC,hR,⟨a1,U,a0⟩,h3,⟨e0,e1,e2,e5,e6,e7,e8,a6,a7,fun _=>rfl,a9,ac,ab⟩,fun _=>rfl,Φ y,Φ y⟩
    | 15,ho,hf,I=>
     obtain rfl:=Option.some.inj ho;refine wpOp_step rfl (fun K' hK=>?_);go_simp;refine hK _ _ ?_;exact ⟨ag,am,ao,a2,a3,aq,ar,av,aw,a4,az,ae,a5,aD,aM,(.int .i64 k),b3,aE,af,o1,o2,bl,_,rfl,hB,hC,hR,⟨a1,U,a0⟩,h3,⟨e0,e1,e2,e5,e6,e7,e8,a6,a7,a8,fun _=>rfl,ac,ab⟩,fun _=>rfl,Φ y,Φ y⟩
    | 16,ho,hf,I=>
     obtain rfl:=Option.some.inj ho;simp [Region.binds] at I;obtain ⟨cw,cx⟩:=I;have dp:=a8 cw;subst dp;have ds:=a9 cx;subst ds;by_cases hce:pr=k
     ·have dt:(pr=k)=True:=eq_true hce
      rw [if_pos hce] at b6;refine wpOp_step rfl (fun K' hK=>?_);go_simp;refine hK _ _ ?_;subst hce;exact ⟨ag,am,ao,a2,a3,aq,ar,av,aw,a4,az,ae,a5,aD,_,_,_,aE,af,o1,o2,bl,_,rfl,hB,hC,hR,⟨a1,U,a0⟩,h3,⟨e0,e1,e2,e5,e6,e7,e8,a6,a7,a8,a9,fun _=>b6.symm,ab⟩,fun _=>rfl,Φ y,Φ y⟩
     ·have dt:(pr=k)=False:=eq_false hce
      rw [if_neg hce] at b6;have dC:¬ (pr:Int)=(k:Int):=by omega
      refine wpOp_step rfl (fun K' hK=>?_);go_simp;refine hK _ _ ?_;exact ⟨ag,am,ao,a2,a3,aq,ar,av,aw,a4,az,ae,a5,aD,_,_,_,aE,af,o1,o2,bl,_,rfl,hB,hC,hR,⟨a1,U,a0⟩,h3,⟨e0,e1,e2,e5,e6,e7,e8,a6,a7,a8,a9,fun _=>b6.symm,ab⟩,fun _=>rfl,Φ y,Φ y⟩
    | 17,ho,hf,I=>
     obtain rfl:=Option.some.inj ho;simp [Region.binds] at I;obtain ⟨f12,cz,_⟩:=I;have du:=ac cz;subst du;have C:=hC hf;rw [f12] at C;have hE:=C.f_ rfl;have cD:=C.hf rfl;have dv:=C.hr cD.1;obtain ⟨Ay,cy,dx,dy⟩:=cT;refine wpOp_step rfl (fun K' hK=>?_);refine iL rfl (.tmp 30) (.tmp 34) 49 rfl w1.heap.size 3 i0 (.int .i64 0) 1 8 Tryz.underlying49 bw cj ck cl rfl (by omega) a5 (k+1) (jq (J.take k) ++ [.int .i64 n]) rfl hE.2.1 Ay (J.length - k) cy (jq (J.drop k)) dx (by rw [bA,Nat.mul_one]) (dy w2 ce) (bB _) (by have:=bj.out; unfold maxLen; omega) (by have:=bj.out; omega) b4 (fun A cap w3 aL hg b8=>hK _ _ ?_);have bo:=hg.size;have c3:=jg hB hE.2.1 ν b4 hg
     have c4:f 3=true→((∃ A cap,a2=.slice A (fD xs a).length cap)∧ay w3 [a2] (fD xs a) bl∧∀ c ∈ bl,(Value.slice A (k+1+(J.length - k)) cap).ownBlock ≠ some c∧o2 ≠ some c∧(c ∈ b0 ++ b2∨w1.heap.size≤c)):=fun f3=>⟨(h3 f3).1,ak.keep (h3 f3).2.1 fun c hc=>hg.block c (ak.lt (h3 f3).2.1 c hc) fun e=>((h3 f3).2.2 c hc).1 (hE.2.2 c e.symm),fun c hc=>⟨fun e=>by
      rcases b8 with bc | bc
      ·rw [bc] at e; exact ((h3 f3).2.2 c hc).1 (hE.2.2 c e)
      ·rw [bc] at e; have:=ak.lt (h3 f3).2.1 c hc; simp at e; omega,((h3 f3).2.2 c hc).2⟩⟩
     exact ⟨ag,am,ao,a2,a3,aq,ar,av,aw,a4,az,ae,a5,aD,aM,aR,_,(.slice A (k+1+(J.length - k)) cap),af,(Value.slice A (k+1+(J.length - k)) cap).ownBlock,o2,bl,_,rfl,c3,fun h=>(by cases h),fun _=>by rw [bA]; exact ⟨⟨_,_,rfl⟩,aL,fun b hb=>hb⟩,⟨jJ aL,U.keep bo,fun _=>⟨dv,cD.1,cD.2,f12⟩⟩,c4,⟨e0,e1,e2,e5,e6,e7,e8,a6,a7,a8,a9,ac,fun h=>absurd ((ab h).2.2.symm.trans hf) (by decide)⟩,fun _=>rfl,Φ y,Φ y⟩
    | 18,ho,hf,I=>
     obtain rfl:=Option.some.inj ho;simp [Region.binds] at I;obtain ⟨f3,bu⟩:=I;obtain ⟨⟨A3,q3,rfl⟩,_⟩:=h3 f3;obtain ⟨⟨A4,q4,b7⟩,_⟩:=hR bu;rw [bA] at b7;subst b7;refine wpOp_step rfl (fun K' hK=>?_);go_simp;refine hK _ _ ?_;exact ⟨ag,am,ao,_,a3,aq,ar,av,aw,a4,az,ae,a5,aD,aM,aR,b3,_,_,o1,o2,bl,_,rfl,hB,hC,hR,⟨a1,U,a0⟩,h3,⟨e0,e1,e2,e5,e6,e7,e8,a6,a7,a8,a9,ac,fun _=>⟨rfl,f3,bu⟩⟩,fun _=>rfl,Φ y,Φ y⟩
    | q+19,ho,hf,I=>
     rw [Array.getElem?_eq_none (by simp; omega)] at ho;cases ho
theorem JI (rs:List Ru) (v:Value) (bs:List Nat) (w:World) (h:fA w [v] rs bs) (y:qw w):
  Calls Tryz.prog 68 #[v] w fun e w'=>e=.returned (.bool (decide (fV rs=0)))∧Below w.heap.size w w':=by
 have c1:=FY rs v bs w h y;have I:(fV rs:Int)≤5:=by have:=LH rs; omega
 clear h y;generalize fV rs=c at *;by_cases h0:c=0
 ·subst h0
  go_enter Tryz.func68,Tryz.ntmps68
  go_wp2_with fail
  refine c1.mono ?_;rintro e J ⟨rfl,hb⟩;go_wp2;go_ret;exact ⟨rfl,hb⟩
 ·have h1:¬ (c:Int)=0:=by omega
  have U:Hid (decide (c=0)=false):=η (decide_eq_false h0);clear h0
  go_enter Tryz.func68,Tryz.ntmps68
  go_wp2_with fail
  refine c1.mono ?_;rintro e J ⟨rfl,hb⟩;go_wp2;go_ret;exact ⟨aH (by rw [U.out]; exact beq_eq_false_iff_ne.2 h1),hb⟩
def D.Vw (U:List A) (B:Nat) (w:World) (e:Ending) (w':World):Prop:=Below B w w'∧∃ v bs y,y=(if U.length≤300 then U else [])∧e=.returned (.tuple #[v,.bool (decide (U.length≤300))])∧ay w' [v] y bs
theorem CW (xs:List A) (c:Ch) (v c0 c1:Value) (bs b2:List Nat) (w:World) (h:ay w [v] xs bs) (h2:dY w [c0,c1] c b2) (n1:xs.length≤500000) (n2:c.comes.length≤500000) (n3:c.goes.length≤500000):
  Calls Tryz.prog 76 #[v,.agg #[c0,c1]] w (Vw (dI (fH xs c.goes) c.comes) w.heap.size w):=by
 obtain ⟨Ad,cap,rfl,hl,hm⟩:=aj h;obtain ⟨Ac,y,Ag,I,rfl,rfl⟩:=fU h2;obtain ⟨d1,d2,rfl,ht,hp⟩:=fZ h2;have hA:Below w.heap.size w (w.alloc (.cells #[.slice Ac c.comes.length y,.slice Ag c.goes.length I] 54)):=ζ;have k1:=nZ xs c.goes _ _ bs d2 _ (ak.below h hA.drew) (ak.below hp hA.drew) (by omega) (by omega)
 have a4:(fH xs c.goes).length≤1000000:=by
  unfold fH;rw [List.length_map];exact τ (List.length_filter_le _ _) (τ (rE _ xs c.goes ν) (by omega))
 have k2:=fun v' bs' w' (hb:Below w.heap.size w w') (h':ay w' [v'] (fH xs c.goes) bs')=>AY (fH xs c.goes) c.comes v' _ bs' d1 w' h' (ak.below ht hb) a4 (by omega)
 have x0:(w.alloc (.cells #[.slice Ac c.comes.length y,.slice Ag c.goes.length I] 54)).cell? ⟨w.heap.size,0,none⟩=some (.slice Ac c.comes.length y):=by go_simp
 have x1:(w.alloc (.cells #[.slice Ac c.comes.length y,.slice Ag c.goes.length I] 54)).cell? ⟨w.heap.size,1,none⟩=some (.slice Ag c.goes.length I):=by go_simp
 clear h hp h2 ht hl hm n1 n2 n3 a4;generalize dI (fH xs c.goes) c.comes=U at *
 go_enter Tryz.func76,Tryz.ntmps76
 go_wp2
 go_region_held3 (fun w'=>w'.cell? ⟨w.heap.size,0,none⟩=some (.slice Ac c.comes.length y)∧w'.cell? ⟨w.heap.size,1,none⟩=some (.slice Ag c.goes.length I))
  (first | go_keep | exact ⟨x0,x1⟩)
  (first
   | (go_at_call 84; refine k1.mono ?_; rintro e w1 ⟨J,v1,b3,rfl,a1⟩; have k3:=k2 _ _ _ (hA.drew.trans (J.mono hA.drew.size)) a1; obtain ⟨A1,p1,rfl,_,_⟩:=aj a1; have B1:=hA.drew.trans (J.mono hA.drew.size); replace x0:=ξ J x0; replace x1:=ξ J x1; clear a1)
   | (go_at_call 83; refine k3.mono ?_; rintro e w2 ⟨a2,v2,b4,rfl,a3⟩; have HR:=η a3; obtain ⟨A2,p2,rfl,a5,a6⟩:=aj a3; have a8:=aB (τ a5 a6); have B2:=B1.trans (a2.mono B1.size); replace x0:=ξ a2 x0; replace x1:=ξ a2 x1; clear a3 a5 a6))
 by_cases a0:U.length≤300
 ·have a7:¬ (300:Int) < (U.length:Int):=by omega
  have HL:=η a0;clear a0;go_wp2;go_ret2;exact ⟨B2,_,b4,U,by rw [if_pos HL.out],by rw [decide_eq_true HL.out]; rfl,HR.out⟩
 ·have a7:(300:Int) < (U.length:Int):=by omega
  have HL:=η a0;clear a0;go_wp2;go_ret2;exact ⟨B2,_,[],[],by rw [if_neg HL.out],by rw [decide_eq_false HL.out]; rfl,bW _⟩
theorem Vx (xs:List A) (c:Ch) (v c0 c1:Value) (bs b2:List Nat) (w:World) (h:ay w [v] xs bs) (h2:dY w [c0,c1] c b2) (hs:gB xs=true) (hg:gB c.goes=true) (f1:Fa xs) (f2:Fa c.comes):
  Calls Tryz.prog 80 #[v,.agg #[c0,c1]] w (Reads ay (behind xs c) w.heap.size w):=by
 obtain ⟨Ad,cap,rfl,hl,hm⟩:=aj h;obtain ⟨Ac,J,Ag,a3,rfl,rfl⟩:=fU h2;obtain ⟨d1,d2,rfl,ht,hp⟩:=fZ h2;have hA:Below w.heap.size w (w.alloc (.cells #[.slice Ac c.comes.length J,.slice Ag c.goes.length a3] 54)):=ζ;have k1:=xP xs c.goes _ _ bs d2 _ (ak.below h hA) (ak.below hp hA) hg (τ f1.1 (by omega)) f1.2;have HB:=η (FC (c:=c) f1 f2);have aa:Hid ((bP xs c.goes).length+c.comes.length≤2000000):=η (by have h1:(bP xs c.goes).length≤xs.length:=List.length_filter_le _ _; have:=f1.1; have:=f2.1; omega);have ab:=η (ug (ys:=c.goes) hs);have HE:Hid (behind xs c=gZ (bP xs c.goes) c.comes):=η rfl;obtain ⟨_,_,_,a4,a5⟩:=aj ht;have ae:=aB (τ a4 a5);clear h hp h2 hs hg f1 f2 hl hm a4 a5;generalize bP xs c.goes=M at *
 go_enter Tryz.func80,Tryz.ntmps80
 go_wp2_with fail
 refine k1.mono ?_;rintro e w1 ⟨a6,v1,b3,rfl,a0⟩;obtain ⟨A1,p1,rfl,_,_⟩:=aj a0;have B1:=hA.trans (a6.mono hA.size);have x0:w1.cell? ⟨w.heap.size,0,none⟩=some (.slice Ac c.comes.length J):=ξ a6 (by go_simp);have HS:=η (ι a0 (ι B1 x0));clear k1 a0 B1 x0 hA;go_wp2
 go_loopw [5,6] (fun v i wr=>∃ (k m:Nat) (Av:Option Addr) (cp:Nat) (b4:List Nat),k≤c.comes.length∧i=.int .i64 k∧v=.slice Av m cp∧m=(gZ M (c.comes.take k)).length∧ay wr [.slice Av m cp] (gZ M (c.comes.take k)) b4∧Below w.heap.size w wr∧wr.cell? ⟨w.heap.size,0,none⟩=some (.slice Ac c.comes.length J)) (fun _ i _=>c.comes.length - (intOf i).toNat)
 case atStart=>exact ⟨0,M.length,A1,p1,b3,ε,rfl,rfl,rfl,HS.out.1,HS.out.2.1,HS.out.2.2⟩
 case round=>
  obtain ⟨k,m,Av,cp,b4,hk,rfl,rfl,y,hR,hb,x0⟩:=hrel;clear HS;have HM:=η y;by_cases a1:k < c.comes.length
  ·have af:(0:Int)≤(k:Int):=by omega
   have ag:(k:Int) < (c.comes.length:Int):=by omega
   obtain ⟨b,o,Ae,ce,bk,rfl,_,e0,e1,a7,_⟩:=eG (ak.below ht hb) a1
   have hlen:(gZ M (c.comes.take k)).length≤2000000:=by
    have h1:=nK (c.comes.take k) M;rw [List.length_take] at h1;have:=aa.out;omega
   have HT:Hid (gZ M (c.comes.take (k+1))=fD (gZ M (c.comes.take k)) c.comes[k]):=η (RP M c.comes k a1);have a8:=η a1;have a9:=RZ (gZ M (c.comes.take k)) c.comes[k] _ _ _ b4 bk wr hR a7 (uh ab.out) (by omega);clear y hR a7 hlen ht
   go_wp2_with fail
   refine a9.mono ?_;rintro e w2 ⟨U,v2,b5,rfl,I⟩;obtain ⟨A2,p2,rfl,_,_⟩:=aj I;have HX:=η (ι I (ι (hb.trans (U.mono hb.size)) (ξ U x0)));clear a9 I;go_wp2;go_roundw
   case rel=>exact ⟨k+1,_,A2,p2,b5,a8.out,by go_num,rfl,by rw [HT.out]; rfl,by rw [HT.out]; exact HX.out.1,HX.out.2.1,HX.out.2.2⟩
   case measure=>have:=a8.out; simp [intOf]; omega
  ·have he:k=c.comes.length:=by omega
   subst he;rw [ϕ ν] at hR;rw [← HE.out] at hR;have a2:=OY (behind xs c) _ b4 wr (by rw [y,ϕ ν,← HE.out] at hR; exact hR) (τ HB.out.1 (by omega)) HB.out.2;rw [ϕ ν,← HE.out] at y;rw [← y] at a2;clear hR ht;have ac:=η y;clear y HM
   go_wp2_with fail
   refine a2.mono ?_;rintro e w2 ⟨U,v2,b5,rfl,I⟩;have HX:=η (ι I (hb.trans (U.mono hb.size)));obtain ⟨A2,p2,rfl,_,_⟩:=aj I;clear a2 I;go_wp2;go_ret;exact ⟨HX.out.2,_,b5,rfl,HX.out.1⟩
end Go.Proofs.YtkjinanbccloeaaGreatDoor
