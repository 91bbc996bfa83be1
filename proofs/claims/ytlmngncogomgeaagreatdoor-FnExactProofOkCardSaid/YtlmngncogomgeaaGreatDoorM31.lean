/- Of the proof of FnExactProofOk: RPutS. -/
import Derived.Test.YtlmngncogomgeaaGreatDoorM28
set_option linter.unusedVariables false
set_option maxHeartbeats 8000000
set_option maxRecDepth 100000
namespace Go.Proofs.YtlmngncogomgeaaGreatDoor
open Go.RowKit D
attribute [local go_sem ↓] Go.wp_at_zero Go.wp_at_succ
theorem RV:(Tryz.prog.info? 3).map (fun i=>(i.zero,i.size,i.bytes))=some (some (.int .i64 0),1,8):=by kernel_rfl
abbrev D.Rd:=List A × List Nat
def D.gI (r:Rd) (a:A) (n:Nat):Rd:=if hasB r.1 a then r else (fC r.1 a,r.2.take (pl r.1 a) ++ [n] ++ r.2.drop (pl r.1 a))
def D.qp:Rel Rd:=fun w cs r I=>∃ s b o c y b2,cs = [s,.slice (some ⟨b,o,none⟩) r.2.length c]∧I=y ++ b2∧aQ w [s] r.1 y∧jf w [.slice (some ⟨b,o,none⟩) r.2.length c] r.2 b2∧r.2.length=r.1.length
theorem D.nV:Good qp:=
 ⟨fun h hk=>by
   obtain ⟨s,b,o,c,U,b2,h1,rfl,I,J,h5⟩:=h
   exact ⟨s,b,o,c,U,b2,h1,rfl,au.keep I fun b y=>hk b (Ξ _ y),dG.keep J fun b y=>hk b (Ω _ y),h5⟩,
  fun h b y=>by
   obtain ⟨s,b',o,c,U,b2,h1,rfl,I,J,h5⟩:=h
   rcases μ.1 y with y | y
   ·exact au.lt I b y
   ·exact dG.lt J b y⟩
def D.iM (xs:List Nat):List Value:=xs.map fun x=>.int .i64 (x:Nat)
theorem D.JA {base e:Nat} {w:World} {v:Value} {ys:List Nat} (h:w.ownsRow base e 1 v ys.length (iM ys)):∃ b2,jf w [v] ys b2∧∀ b ∈ b2,base≤b:=by
 have hr:aV 1 xk w (iM ys) ys []:=by
  refine ⟨by simp [iM],fun u y=>?_,fun _=>[],by simp,fun j I=>⟨?_,rfl⟩⟩
  ·obtain ⟨s,_,rfl⟩:=List.mem_map.1 y
   rfl
  ·rw [Nat.mul_one]
   refine List.ext_getElem? fun i=>?_
   rcases i with _ | i
   ·simp [iM,List.getElem?_drop,I]
   ·simp [iM]; omega
 obtain ⟨b2,J,U⟩:=hr.slice h;exact ⟨b2,J,fun b hb=>(U b hb).elim id fun h=>by cases h⟩
def D.PJ (Bk:List Nat) (w U:World) (xs X:List A) (ns:List Nat) (Ax:Option Addr) (px b o pr k:Nat) (n:Nat) (d0 d1 ao ap:Value) (L1 L2:List Value) (f:Nat→Bool) (a:Act) (w':World):Prop:=
 ∃ (a0 a1 a2 y a3 a4 a5 a6 a7 a8 a9 aa ab ac ae af ag I am:Value) (o1 o2:Option Nat) (bl:List Nat) (J:World),a=⟨#[.agg #[.slice Ax xs.length px,.slice (some ⟨b,o,none⟩) ns.length pr],.agg #[d0,d1],.int .i64 n,.pointer (some ⟨w.heap.size,0,none⟩),.pointer (some ⟨w.heap.size+1,0,none⟩),undef,.pointer (some ⟨w.heap.size+1+1,0,none⟩),.int .i64 k,.bool false,.tuple #[.int .i64 k,.bool false],.pointer (some ⟨w.heap.size,0,none⟩),.slice Ax xs.length px,.agg #[d0,d1],.tuple #[.int .i64 k,.bool false],.int .i64 k,.bool false,.bool false,undef,a0,a1,a2,y,a3,a4,a5,a6,a7,a8,a9,aa,ab,ac,ae,af,ag,I,am],[]⟩∧Below U.heap.size U J∧
  (f 17=false→qL U.heap.size 3 k L1 (.int .i64 n) (f 4) (f 9) (f 11) (f 12) a3 a8 aa ab o1 o2 J)∧(f 17=true→Bl U.heap.size 3 J I (k+1+L2.length) (L1 ++ [.int .i64 n] ++ L2) o1)∧(Hy U.heap.size J o1∧Hy U.heap.size J o2∧(f 17=true→f 4=true∧f 9=true∧f 11=true∧f 12=true))∧
  (f 3=true→(∃ A cap,y=.slice A X.length cap)∧aQ J [y] X bl∧∀ c ∈ bl,o1 ≠ some c∧o2 ≠ some c∧(c ∈ Bk∨U.heap.size≤c))∧
  ((f 0=true→a0=.pointer (some ⟨w.heap.size,0,none⟩))∧(f 1=true→a1=.slice Ax xs.length px)∧(f 2=true→a2=.agg #[d0,d1])∧(f 5=true→a4=.pointer (some ⟨w.heap.size,1,none⟩))∧(f 6=true→a5=.slice (some ⟨b,o,none⟩) ns.length pr)∧(f 7=true→a6=.int .i64 k)∧(f 8=true→a7=ao)∧(f 10=true→a9=.int .i64 n)∧(f 13=true→ac=.pointer (some ⟨w.heap.size,1,none⟩))∧(f 14=true→ae=.slice (some ⟨b,o,none⟩) ns.length pr)∧(f 15=true→af=.int .i64 k)∧(f 16=true→ag=ap)∧(f 18=true→am=.agg #[y,I]∧f 3=true∧f 17=true))∧
  (f 19=false→w'=J)∧(f 19=true→w'=(J.setCell ⟨w.heap.size+1+1,0,none⟩ y).setCell ⟨w.heap.size+1+1,1,none⟩ I)∧(f 19=true→∀ i,i < 19→f i=true)
theorem RX (xs:List A) (J:List Nat) (a:A) (n:Nat) (c0 d0 d1:Value) (b o pr:Nat) (b0 b1 b2:List Nat) (w:World) (hx:aQ w [c0] xs b0) (hi:jf w [.slice (some ⟨b,o,none⟩) J.length pr] J b1) (h2:aP w [d0,d1] a b2) (hlen:J.length=xs.length)
  (bt:iF xs=true) (hm:xs.length≤100000000000):
  Calls Tryz.prog 124 #[.agg #[c0,.slice (some ⟨b,o,none⟩) J.length pr],.agg #[d0,d1],.int .i64 n] w fun e w'=>Below w.heap.size w w'∧∃ e0 e1 bs',e=.returned (.agg #[e0,e1])∧qp w' [e0,e1] (gI (xs,J) a n) bs'∧∀ c ∈ bs',c ∈ b0 ++ b1 ++ b2∨w.heap.size≤c:=by
 obtain ⟨Ax,px,rfl,cX,cY⟩:=ai hx;obtain ⟨Ab,pb,cD,d2,cE⟩:=ai hi;simp only [Value.slice.injEq,true_and] at cD;obtain ⟨rfl,rfl⟩:=cD;obtain ⟨Aa,ca,rfl,rfl⟩:=bK h2;obtain ⟨i0,bu,cg,ci,cj⟩:=info_parts RV;have HX:=η hx;have HI:=η hi;have cG:=η h2;have hA:Below w.heap.size w (((w.alloc (.cells #[.slice Ax xs.length px,.slice (some ⟨b,o,none⟩) J.length pr] 117)).alloc (.cells #[.string a.name,.slice Aa a.args.length ca] 40)).alloc (.cells #[.slice none 0 0,.slice none 0 0] 117)):=((ζ).alloc (by simp) _).alloc (by simp; omega) _;have bp:(((w.alloc (.cells #[.slice Ax xs.length px,.slice (some ⟨b,o,none⟩) J.length pr] 117)).alloc (.cells #[.string a.name,.slice Aa a.args.length ca] 40)).alloc (.cells #[.slice none 0 0,.slice none 0 0] 117)).heap[w.heap.size]? = some (.cells #[.slice Ax xs.length px,.slice (some ⟨b,o,none⟩) J.length pr] 117 (0,0)):=by rw [Below.heap_alloc _ _ _ (by simp; omega),Below.heap_alloc _ _ _ (by simp)]; exact ω w _
 have c3:(((w.alloc (.cells #[.slice Ax xs.length px,.slice (some ⟨b,o,none⟩) J.length pr] 117)).alloc (.cells #[.string a.name,.slice Aa a.args.length ca] 40)).alloc (.cells #[.slice none 0 0,.slice none 0 0] 117)).heap[w.heap.size+1]? = some (.cells #[.string a.name,.slice Aa a.args.length ca] 40 (0,0)):=by
  rw [Below.heap_alloc _ _ _ (by simp)];simpa using ω (w.alloc (.cells #[.slice Ax xs.length px,.slice (some ⟨b,o,none⟩) J.length pr] 117)) (.cells #[.string a.name,.slice Aa a.args.length ca] 40)
 have bq:(((w.alloc (.cells #[.slice Ax xs.length px,.slice (some ⟨b,o,none⟩) J.length pr] 117)).alloc (.cells #[.string a.name,.slice Aa a.args.length ca] 40)).alloc (.cells #[.slice none 0 0,.slice none 0 0] 117)).heap[w.heap.size+1+1]? = some (.cells #[.slice none 0 0,.slice none 0 0] 117 (0,0)):=by
  simpa using ω ((w.alloc (.cells #[.slice Ax xs.length px,.slice (some ⟨b,o,none⟩) J.length pr] 117)).alloc (.cells #[.string a.name,.slice Aa a.args.length ca] 40)) (.cells #[.slice none 0 0,.slice none 0 0] 117)
 have q3:=wP xs a _ _ _ b0 b2 _ (au.below hx hA) (ak.below h2 hA) bt
 have ck:J ≠ []→b < w.heap.size:=fun d3=>by
  obtain ⟨b',o',e',bh,_⟩:=oQ hi (k:=0) (by cases J with | nil=>exact absurd rfl d3 | cons=>simp);simp only [Option.some.injEq,Addr.mk.injEq,and_true] at e';rw [e'.1];exact dG.lt hi b' bh
 have cl:∀ j (hj:j < J.length),w.cell? ⟨b,o+j,none⟩=some (.int .i64 (J[j]:Nat)):=fun j hj=>by
  obtain ⟨b',o',e',bh,hc⟩:=oQ hi hj;simp only [Option.some.injEq,Addr.mk.injEq,and_true] at e';obtain ⟨rfl,rfl⟩:=e';exact hc
 have dC:pl xs a≤xs.length:=(oL bt a).2.2;have bv:Hid (gI (xs,J) a n=if hasB xs a then (xs,J) else (fC xs a,J.take (pl xs a) ++ [n] ++ J.drop (pl xs a))):=η rfl
 have cI:Hid (∀ w',Below w.heap.size w w'→Lies w' (some ⟨b,o,none⟩) (iM (J.take (pl xs a)))):=η fun w' bh=>Lies.mk fun j u hj=>by
  have c4:=(List.getElem?_eq_some_iff.1 hj).1;simp [iM] at c4;have bg:j < J.length:=by omega
  refine ((bh.cell (p:=⟨b,o+j,none⟩) (ck (by intro e'; rw [e'] at bg; simp at bg))).trans (cl j bg)).trans ?_;rw [← hj]; simp [iM,c4]
 have cJ:Hid (∀ w',Below w.heap.size w w'→Lies w' (some ⟨b,o+pl xs a,none⟩) (iM (J.drop (pl xs a)))):=η fun w' bh=>Lies.mk fun j u hj=>by
  have c4:=(List.getElem?_eq_some_iff.1 hj).1;simp [iM] at c4;have bg:pl xs a+j < J.length:=by omega
  rw [Nat.add_assoc];refine ((bh.cell (p:=⟨b,o+(pl xs a+j),none⟩) (ck (by intro e'; rw [e'] at bg; simp at bg))).trans (cl _ bg)).trans ?_;rw [← hj]; simp [iM,bg]
 have bo:=η (au.lt hx);have cd:=η (dG.lt hi);have bw:=η (ak.lt h2);have d4:=τ d2 cE;have bi:=η hlen;clear hx hi h2 cX cY ck cl hlen
 cases hh:hasB xs a with
 | true=>
  rw [hh] at q3 bv;have cm:Hid (gI (xs,J) a n=(xs,J)):=bv;clear hh bv
  go_enter Tryz.func124,Tryz.ntmps124
  go_wp2_with fail
  refine q3.mono ?_;rintro e w1 ⟨rfl,bc⟩;have B1:=η (hA.trans (bc.mono hA.size));have bj:=(bc.block _ (ψ bp)).trans bp;have bf:=(bc.block _ (ψ bq)).trans bq;have y0:w1.cell? ⟨w.heap.size,0,none⟩=some (.slice Ax xs.length px):=aj bj;have y1:w1.cell? ⟨w.heap.size,1,none⟩=some (.slice (some ⟨b,o,none⟩) J.length pr):=aj bj;have z0:w1.cell? ⟨w.heap.size+1+1,0,none⟩=some (.slice none 0 0):=aj bf;have z1:w1.cell? ⟨w.heap.size+1+1,1,none⟩=some (.slice none 0 0):=aj bf;have z2:w1.frozen? ⟨w.heap.size+1+1,0,none⟩=false:=aB bf;have z3:w1.frozen? ⟨w.heap.size+1+1,1,none⟩=false:=aB bf;have b8:=bY (o:=1) (u:=.slice (some ⟨b,o,none⟩) J.length pr) (bY (o:=0) (u:=.slice Ax xs.length px) bf);have c5:((w1.setCell ⟨w.heap.size+1+1,0,none⟩ (.slice Ax xs.length px)).setCell ⟨w.heap.size+1+1,1,none⟩ (.slice (some ⟨b,o,none⟩) J.length pr)).cell? ⟨w.heap.size+1+1,0,none⟩=some (.slice Ax xs.length px):=aj b8
  have c6:((w1.setCell ⟨w.heap.size+1+1,0,none⟩ (.slice Ax xs.length px)).setCell ⟨w.heap.size+1+1,1,none⟩ (.slice (some ⟨b,o,none⟩) J.length pr)).cell? ⟨w.heap.size+1+1,1,none⟩=some (.slice (some ⟨b,o,none⟩) J.length pr):=aj b8;have br:∀ c,c < w.heap.size→((w1.setCell ⟨w.heap.size+1+1,0,none⟩ (.slice Ax xs.length px)).setCell ⟨w.heap.size+1+1,1,none⟩ (.slice (some ⟨b,o,none⟩) J.length pr)).heap[c]? = w.heap[c]?:=fun c hc=>by rw [π _ _ _ _ (by show c ≠ w.heap.size+1+1; omega),π _ _ _ _ (by show c ≠ w.heap.size+1+1; omega)]; exact B1.out.block c hc
  have cK:=η br;have d5:=η ((B1.out.setCell (p:=⟨w.heap.size+1+1,0,none⟩) (by show w.heap.size≤w.heap.size+1+1; omega) (.slice Ax xs.length px)).setCell (p:=⟨w.heap.size+1+1,1,none⟩) (by show w.heap.size≤w.heap.size+1+1; omega) (.slice (some ⟨b,o,none⟩) J.length pr));clear q3 bc b8 br bp c3 bq hA;go_wp2;refine bodyPost_ret (v:=.agg #[.slice Ax xs.length px,.slice (some ⟨b,o,none⟩) J.length pr]) (by simp [results,Tryz.results124,go_sem,c5,c6]) rfl ⟨d5.out,_,_,b0 ++ b1,rfl,?_,fun c hc=>.inl (Ξ _ hc)⟩;rw [cm.out];exact ⟨.slice Ax xs.length px,b,o,pr,b0,b1,rfl,rfl,au.keep HX.out fun c hc=>cK.out c (bo.out c hc),dG.keep HI.out fun c hc=>cK.out c (cd.out c hc),bi.out⟩
 | false=>
  rw [hh] at q3;have cm:Hid (gI (xs,J) a n=(fC xs a,J.take (pl xs a) ++ [n] ++ J.drop (pl xs a))):=η (by rw [bv.out,hh]; rfl);have d6:Hid ((fC xs a).length=xs.length+1):=η (by unfold fC; rw [hh]; simp; omega);clear hh bv;generalize pl xs a=k at *;clear d4
  go_enter Tryz.func124,Tryz.ntmps124
  go_wp2_with fail
  refine q3.mono ?_;rintro e w1 ⟨rfl,bc⟩;have B1:=η (hA.trans (bc.mono hA.size));have bj:=(bc.block _ (ψ bp)).trans bp;have cn:=(bc.block _ (ψ c3)).trans c3;have bf:=(bc.block _ (ψ bq)).trans bq;have cL:w.heap.size+3≤w1.heap.size:=by have:=ψ bf; omega
  have dE:(0:Int)≤(k:Int):=by omega
  have dT:(k:Int)≤(J.length:Int):=by have:=bi.out; omega
  have e3:(k:Int)≤(pr:Int):=by omega
  have e4:(J.length:Int)≤(pr:Int):=by omega
  have dy:=ay cE;have d7:(iM (J.take k)).length=k:=by have:=bi.out; simp [iM]; omega
  have bx:(iM (J.drop k)).length=J.length - k:=by simp [iM]
  have bz:∀ l:List Nat,∀ u ∈ iM l,Value.oneCell' u=true:=fun l u hu=>by obtain ⟨t,_,rfl⟩:=List.mem_map.1 hu; rfl
  clear q3 bp c3 bq hA bc
  go_wp2_with fail
  obtain ⟨cP,b5⟩:∃ V:Value,V=if pr=k then (.slice (some ⟨b,o,none⟩) (J.length - k) 0) else (.slice (some ⟨b,o+k,none⟩) (J.length - k) (pr - k)):=⟨_,rfl⟩
  have cQ:∃ Ay c,cP=.slice Ay (J.length - k) c∧∀ w',Below w.heap.size w w'→Lies w' Ay (iM (J.drop k)):=by
   by_cases hce:pr=k
   ·rw [if_pos hce] at b5
    exact ⟨_,_,b5,fun w' bh=>by rw [List.drop_eq_nil_of_le (by omega)]; exact Lies.nil _ _⟩
   ·rw [if_neg hce] at b5
    exact ⟨_,_,b5,cJ.out⟩
  refine nZ (PJ (b0 ++ b2) w w1 xs (fC xs a) J Ax px b o pr k n (.string a.name) (.slice Aa a.args.length ca) (.slice (some ⟨b,o,none⟩) k pr) cP (iM (J.take k)) (iM (J.drop k))) (by kernel_rfl) (by kernel_rfl) ?h0 ?hs ?hd
  case h0=>exact ⟨undef,undef,undef,undef,undef,undef,undef,undef,undef,undef,undef,undef,undef,undef,undef,undef,undef,undef,undef,none,none,[],_,rfl,ϑ.drew,fun _=>qL.start,fun h=>(by cases h),⟨fun b h=>(by cases h),fun b h=>(by cases h),fun h=>(by cases h)⟩,fun h=>(by cases h),⟨fun h=>(by cases h),fun h=>(by cases h),fun h=>(by cases h),fun h=>(by cases h),fun h=>(by cases h),fun h=>(by cases h),fun h=>(by cases h),fun h=>(by cases h),fun h=>(by cases h),fun h=>(by cases h),fun h=>(by cases h),fun h=>(by cases h),fun h=>(by cases h)⟩,fun _=>rfl,fun h=>(by cases h),fun h=>(by cases h)⟩
  case hd=>
   intro f aa w3 hf hJ;obtain ⟨ag,am,ao,a2,a3,ap,aq,ar,av,a4,aw,ae,a5,az,aL,aM,aR,aD,af,o1,o2,bl,w2,rfl,hB,hC,hR,⟨a1,U,a0⟩,h3,⟨e0,e1,e2,e5,e6,e7,e8,a6,a7,a8,a9,ac,ab⟩,c7,bA,bB⟩:=hJ;obtain rfl:=bA (hf 19 (by simp));obtain ⟨⟨A3,q3,rfl⟩,cT,co⟩:=h3 (hf 3 (by simp));obtain ⟨⟨A4,q4,b6⟩,bE,d8⟩:=hR (hf 17 (by simp));rw [bx] at b6 bE;subst b6;have cL:w.heap.size+3≤w2.heap.size:=τ cL hB.size;have bk:w2.heap[w.heap.size+1+1]? = some (.cells #[.slice none 0 0,.slice none 0 0] 117 (0,0)):=(hB.block _ (by omega)).trans bf;have b8:=bY (o:=1) (u:=.slice A4 (k+1+(J.length - k)) q4) (bY (o:=0) (u:=.slice A3 (fC xs a).length q3) bk);have c5:((w2.setCell ⟨w.heap.size+1+1,0,none⟩ (.slice A3 (fC xs a).length q3)).setCell ⟨w.heap.size+1+1,1,none⟩ (.slice A4 (k+1+(J.length - k)) q4)).cell? ⟨w.heap.size+1+1,0,none⟩=some (.slice A3 (fC xs a).length q3):=aj b8
   have c6:((w2.setCell ⟨w.heap.size+1+1,0,none⟩ (.slice A3 (fC xs a).length q3)).setCell ⟨w.heap.size+1+1,1,none⟩ (.slice A4 (k+1+(J.length - k)) q4)).cell? ⟨w.heap.size+1+1,1,none⟩=some (.slice A4 (k+1+(J.length - k)) q4):=aj b8;have br:∀ c,c ≠ w.heap.size+1+1→((w2.setCell ⟨w.heap.size+1+1,0,none⟩ (.slice A3 (fC xs a).length q3)).setCell ⟨w.heap.size+1+1,1,none⟩ (.slice A4 (k+1+(J.length - k)) q4)).heap[c]? = w2.heap[c]?:=fun c hc=>by rw [π _ _ _ _ hc,π _ _ _ _ hc]
   have d9:=η (((B1.out.trans (hB.mono B1.out.size)).setCell (p:=⟨w.heap.size+1+1,0,none⟩) (by show w.heap.size≤w.heap.size+1+1; omega) (.slice A3 (fC xs a).length q3)).setCell (p:=⟨w.heap.size+1+1,1,none⟩) (by show w.heap.size≤w.heap.size+1+1; omega) (.slice A4 (k+1+(J.length - k)) q4))
   have c8:Hid (∃ bs',qp ((w2.setCell ⟨w.heap.size+1+1,0,none⟩ (.slice A3 (fC xs a).length q3)).setCell ⟨w.heap.size+1+1,1,none⟩ (.slice A4 (k+1+(J.length - k)) q4)) [.slice A3 (fC xs a).length q3,.slice A4 (k+1+(J.length - k)) q4] (gI (xs,J) a n) bs'∧∀ c ∈ bs',c ∈ b0 ++ b1 ++ b2∨w.heap.size≤c):=η (by
    have c9:(J.take k ++ [n] ++ J.drop k).length=k+1+(J.length - k):=by have:=bi.out; simp; omega
    have da:iM (J.take k ++ [n] ++ J.drop k)=iM (J.take k) ++ [.int .i64 n] ++ iM (J.drop k):=by simp [iM]
    have cp:=qP (w':=((w2.setCell ⟨w.heap.size+1+1,0,none⟩ (.slice A3 (fC xs a).length q3)).setCell ⟨w.heap.size+1+1,1,none⟩ (.slice A4 (k+1+(J.length - k)) q4))) bE fun t ht=>br t (by have:=(ja bE t ht).1; omega)
    obtain ⟨g2,k2,r2⟩:=JA (ys:=J.take k ++ [n] ++ J.drop k) (by rw [c9,da]; exact cp)
    obtain ⟨gg,gc,cU⟩:∃ gg gc,Value.slice A4 (k+1+(J.length - k)) q4=.slice (some ⟨gg,0,none⟩) (k+1+(J.length - k)) gc:=by
     rcases bE.2 with ⟨h,_⟩ | ⟨g,cap,_,h,_⟩
     ·simp at h
     ·exact ⟨g,cap,h⟩
    rw [cm.out];refine ⟨bl ++ g2,⟨.slice A3 (fC xs a).length q3,gg,0,gc,bl,g2,by rw [c9,cU],rfl,au.keep cT fun c hc=>br c (fun e=>?_),by rw [c9,← cU]; exact k2,?_⟩,fun c hc=>?_⟩
    ·rcases (co c hc).2.2 with h | h
     ·rcases μ.1 h with h | h
      ·have:=bo.out c h; omega
      ·have:=bw.out c h; omega
     ·omega
    ·show (J.take k ++ [n] ++ J.drop k).length=(fC xs a).length
     rw [c9,d6.out]; have:=bi.out; omega
    ·rcases μ.1 hc with hc | hc
     ·rcases (co c hc).2.2 with h | h
      ·left; rcases μ.1 h with h | h
       ·exact Ξ _ (Ξ _ h)
       ·exact Ω _ h
      ·right; omega
     ·right; have:=r2 c hc; omega)
   clear hC hR h3 e0 e1 e2 e5 e6 e7 e8 a6 a7 a8 a9 ac ab c7 bA bB bE d8 cT co hB bk b8 br a1 U a0 HX HI cG cI cJ bo cd bw bj cn bf cQ bz;go_wp2;exact bodyPost_ret (v:=.agg #[.slice A3 (fC xs a).length q3,.slice A4 (k+1+(J.length - k)) q4]) (by simp [results,Tryz.results124,go_sem,c5,c6]) rfl ⟨d9.out,_,_,_,rfl,c8.out.choose_spec⟩
  case hs=>
   intro i oo ho f aa w2 hJ hf I;obtain ⟨ag,am,ao,a2,a3,ap,aq,ar,av,a4,aw,ae,a5,az,aL,aM,aR,aD,af,o1,o2,bl,wi,rfl,hB,hC,hR,⟨a1,U,a0⟩,h3,⟨e0,e1,e2,e5,e6,e7,e8,a6,a7,a8,a9,ac,ab⟩,c7,bA,bB⟩:=hJ;by_cases db:i=19
   case pos=>
    subst db;obtain rfl:=Option.some.inj ho;simp [Region.binds] at I;obtain ⟨cV,bs,f0,f1,f2,f3,f4,f5,f6,f7,f8,f9,cq,cb,f12,cr,cv,cw,cx,_⟩:=I;obtain rfl:=c7 hf;have dc:=(ab cV).1;subst dc;obtain ⟨⟨A3,q3,rfl⟩,_⟩:=h3 f3;obtain ⟨⟨A4,q4,b6⟩,_⟩:=hR bs;rw [bx] at b6;subst b6;have bk:w2.heap[w.heap.size+1+1]? = some (.cells #[.slice none 0 0,.slice none 0 0] 117 (0,0)):=(hB.block _ (by omega)).trans bf;have e9:w2.frozen? ⟨w.heap.size+1+1,0,none⟩=false:=aB bk;have ea:w2.frozen? ⟨w.heap.size+1+1,1,none⟩=false:=aB bk;have c5:w2.cell? ⟨w.heap.size+1+1,0,none⟩=some (.slice none 0 0):=aj bk;have c6:w2.cell? ⟨w.heap.size+1+1,1,none⟩=some (.slice none 0 0):=aj bk;refine wpOp_step rfl (fun K' hK=>?_);go_simp;refine hK _ _ ?_
    refine ⟨_,_,_,_,_,_,_,_,_,_,_,_,_,_,_,_,_,_,_,o1,o2,bl,w2,rfl,hB,hC,hR,⟨a1,U,a0⟩,h3,⟨fun _=>rfl,fun _=>rfl,fun _=>rfl,fun _=>rfl,fun _=>rfl,fun _=>rfl,fun _=>rfl,fun _=>rfl,fun _=>rfl,fun _=>rfl,fun _=>rfl,fun _=>b5.symm,fun _=>⟨rfl,f3,bs⟩⟩,fun h=>(by cases h),fun _=>rfl,fun _ i hi=>?_⟩
    match i,hi with
    | 0,_=>exact f0
    | 1,_=>exact f1
    | 2,_=>exact f2
    | 3,_=>exact f3
    | 4,_=>exact f4
    | 5,_=>exact f5
    | 6,_=>exact f6
    | 7,_=>exact f7
    | 8,_=>exact f8
    | 9,_=>exact f9
    | 10,_=>exact cq
    | 11,_=>exact cb
    | 12,_=>exact f12
    | 13,_=>exact cr
    | 14,_=>exact cv
    | 15,_=>exact cw
    | 16,_=>exact cx
    | 17,_=>exact bs
    | 18,_=>exact cV
    | q+19,h=>omega
   case neg=>
    have y:f 19=false:=by
     cases hc:f 19 with
     | false=>rfl
     | true=>
      by_cases de:i < 19
      ·exact absurd (bB hc i de) (by simp [hf])
      ·exfalso
       rw [Array.getElem?_eq_none (by simp; omega)] at ho;cases ho
    obtain rfl:=c7 y;have cc:=B1.out.trans (hB.mono B1.out.size);have b3:=hB.size
    match i,ho,hf,I with
    | 0,ho,hf,I=>
     obtain rfl:=Option.some.inj ho;refine wpOp_step rfl (fun K' hK=>?_);go_simp;refine hK _ _ ?_;exact ⟨(.pointer (some ⟨w.heap.size,0,none⟩)),am,ao,a2,a3,ap,aq,ar,av,a4,aw,ae,a5,az,aL,aM,aR,aD,af,o1,o2,bl,_,rfl,hB,hC,hR,⟨a1,U,a0⟩,h3,⟨fun _=>rfl,e1,e2,e5,e6,e7,e8,a6,a7,a8,a9,ac,ab⟩,fun _=>rfl,Φ y,Φ y⟩
    | 1,ho,hf,I=>
     obtain rfl:=Option.some.inj ho;simp [Region.binds] at I;have f0:=I;have g0:=e0 f0;subst g0;have hc:w2.cell? ⟨w.heap.size,0,none⟩=some (.slice Ax xs.length px):=(hB.cell (p:=⟨w.heap.size,0,none⟩) (by simp; omega)).trans (aj bj);refine wpOp_step rfl (fun K' hK=>?_);go_simp;refine hK _ _ ?_;exact ⟨_,(.slice Ax xs.length px),ao,a2,a3,ap,aq,ar,av,a4,aw,ae,a5,az,aL,aM,aR,aD,af,o1,o2,bl,_,rfl,hB,hC,hR,⟨a1,U,a0⟩,h3,⟨e0,fun _=>rfl,e2,e5,e6,e7,e8,a6,a7,a8,a9,ac,ab⟩,fun _=>rfl,Φ y,Φ y⟩
    | 2,ho,hf,I=>
     obtain rfl:=Option.some.inj ho;have hc:w2.cell? ⟨w.heap.size+1,0,none⟩=some (.string a.name):=(hB.cell (p:=⟨w.heap.size+1,0,none⟩) (by simp; omega)).trans (aj cn);have eb:w2.cell? ⟨w.heap.size+1,1,none⟩=some (.slice Aa a.args.length ca):=(hB.cell (p:=⟨w.heap.size+1,1,none⟩) (by simp; omega)).trans (aj cn);refine wpOp_step rfl (fun K' hK=>?_);go_simp;refine hK _ _ ?_;exact ⟨ag,am,(.agg #[.string a.name,.slice Aa a.args.length ca]),a2,a3,ap,aq,ar,av,a4,aw,ae,a5,az,aL,aM,aR,aD,af,o1,o2,bl,_,rfl,hB,hC,hR,⟨a1,U,a0⟩,h3,⟨e0,e1,fun _=>rfl,e5,e6,e7,e8,a6,a7,a8,a9,ac,ab⟩,fun _=>rfl,Φ y,Φ y⟩
    | 3,ho,hf,I=>
     obtain rfl:=Option.some.inj ho;simp [Region.binds] at I;obtain ⟨f1,f2⟩:=I;have g1:=e1 f1;subst g1;have g2:=e2 f2;subst g2;have g0:=au.below HX.out cc;have q:=EC xs a _ _ _ b0 b2 w2 g0 (ak.below cG.out cc) bt (by omega);refine wpOp_step rfl (fun K' hK=>?_);go_simp;refine q.mono ?_;rintro e w3 hr;obtain ⟨bL,A3,q3,dg,rfl,di,cz⟩:=EH hr g0 (fun c hc=>Ξ _ hc)
     have cW:∀ c ∈ b0 ++ b2,c < w1.heap.size:=fun c hc=>by have:=B1.out.size; rcases μ.1 hc with hc | hc; have:=bo.out c hc; omega; have:=bw.out c hc; omega
     refine hK _ _ ?_;exact ⟨ag,_,_,(.slice A3 (fC xs a).length q3),a3,ap,aq,ar,av,a4,aw,ae,a5,az,aL,aM,aR,aD,af,o1,o2,dg,_,rfl,hB.trans (bL.mono b3),fun h=>(hC h).below bL,fun h=>(hR h).keep fun b hb=>bL.block b (a1 b hb).2,⟨a1.keep bL.size,U.keep bL.size,a0⟩,fun _=>⟨⟨_,_,rfl⟩,di,fun c hc=>⟨fun e=>by have:=a1 c e; rcases cz c hc with h | h; have:=cW c h; omega; omega,fun e=>by have:=U c e; rcases cz c hc with h | h; have:=cW c h; omega; omega,(cz c hc).imp id fun h=>τ b3 h⟩⟩,⟨e0,e1,e2,e5,e6,e7,e8,a6,a7,a8,a9,ac,fun h=>absurd ((ab h).2.1.symm.trans hf) (by decide)⟩,fun _=>rfl,Φ y,Φ y⟩
    | 4,ho,hf,I=>
     obtain rfl:=Option.some.inj ho
     have b4:f 17=false:=by
      cases hc:f 17 with
      | false=>rfl
      | true=>exact absurd (a0 hc).1 (by simp [hf])
     have C:=hC b4;rw [hf] at C;have bO:Below w2.heap.size w2 (w2.alloc (.cells #[] 3)):=ζ;have cA:Hy w1.heap.size (w2.alloc (.cells #[] 3)) (some w2.heap.size):=fun c e=>by simp at e; subst e; simp; exact b3
     refine wpOp_step rfl (fun K' hK=>?_);go_simp;refine hK _ _ ?_;exact ⟨ag,am,ao,a2,(.slice (some ⟨w2.heap.size,0,none⟩) 0 0),ap,aq,ar,av,a4,aw,ae,a5,az,aL,aM,aR,aD,af,some w2.heap.size,o2,bl,_,rfl,hB.alloc b3 _,fun _=>C.Qz b3,Φ b4,⟨cA,U.keep bO.size,Φ b4⟩,fun f3=>⟨(h3 f3).1,au.below (h3 f3).2.1 bO,fun c hc=>⟨fun e=>by have:=au.lt (h3 f3).2.1 c hc; simp at e; omega,((h3 f3).2.2 c hc).2⟩⟩,⟨e0,e1,e2,e5,e6,e7,e8,a6,a7,a8,a9,ac,ab⟩,fun _=>rfl,Φ y,Φ y⟩
    | 5,ho,hf,I=>
     obtain rfl:=Option.some.inj ho;refine wpOp_step rfl (fun K' hK=>?_);go_simp;refine hK _ _ ?_;exact ⟨ag,am,ao,a2,a3,(.pointer (some ⟨w.heap.size,1,none⟩)),aq,ar,av,a4,aw,ae,a5,az,aL,aM,aR,aD,af,o1,o2,bl,_,rfl,hB,hC,hR,⟨a1,U,a0⟩,h3,⟨e0,e1,e2,fun _=>rfl,e6,e7,e8,a6,a7,a8,a9,ac,ab⟩,fun _=>rfl,Φ y,Φ y⟩
    | 6,ho,hf,I=>
     obtain rfl:=Option.some.inj ho;simp [Region.binds] at I;have f5:=I;have g5:=e5 f5;subst g5;have hc:w2.cell? ⟨w.heap.size,1,none⟩=some (.slice (some ⟨b,o,none⟩) J.length pr):=(hB.cell (p:=⟨w.heap.size,1,none⟩) (by simp; omega)).trans (aj bj);refine wpOp_step rfl (fun K' hK=>?_);go_simp;refine hK _ _ ?_;exact ⟨ag,am,ao,a2,a3,_,(.slice (some ⟨b,o,none⟩) J.length pr),ar,av,a4,aw,ae,a5,az,aL,aM,aR,aD,af,o1,o2,bl,_,rfl,hB,hC,hR,⟨a1,U,a0⟩,h3,⟨e0,e1,e2,e5,fun _=>rfl,e7,e8,a6,a7,a8,a9,ac,ab⟩,fun _=>rfl,Φ y,Φ y⟩
    | 7,ho,hf,I=>
     obtain rfl:=Option.some.inj ho;refine wpOp_step rfl (fun K' hK=>?_);go_simp;refine hK _ _ ?_;exact ⟨ag,am,ao,a2,a3,ap,aq,(.int .i64 k),av,a4,aw,ae,a5,az,aL,aM,aR,aD,af,o1,o2,bl,_,rfl,hB,hC,hR,⟨a1,U,a0⟩,h3,⟨e0,e1,e2,e5,e6,fun _=>rfl,e8,a6,a7,a8,a9,ac,ab⟩,fun _=>rfl,Φ y,Φ y⟩
    | 8,ho,hf,I=>
     obtain rfl:=Option.some.inj ho;simp [Region.binds] at I;obtain ⟨f6,f7⟩:=I;have g6:=e6 f6;subst g6;have g7:=e7 f7;subst g7;refine wpOp_step rfl (fun K' hK=>?_);go_simp;refine hK _ _ ?_;exact ⟨ag,am,ao,a2,a3,ap,_,_,_,a4,aw,ae,a5,az,aL,aM,aR,aD,af,o1,o2,bl,_,rfl,hB,hC,hR,⟨a1,U,a0⟩,h3,⟨e0,e1,e2,e5,e6,e7,fun _=>rfl,a6,a7,a8,a9,ac,ab⟩,fun _=>rfl,Φ y,Φ y⟩
    | 9,ho,hf,I=>
     obtain rfl:=Option.some.inj ho;simp [Region.binds] at I;obtain ⟨f4,f8,f3⟩:=I;have g8:=e8 f8;subst g8
     have b4:f 17=false:=by
      cases hc:f 17 with
      | false=>rfl
      | true=>exact absurd (a0 hc).2.1 (by simp [hf])
     have C:=hC b4;rw [hf,f4] at C;have hE:=C.e_ rfl rfl;refine wpOp_step rfl (fun K' hK=>?_);refine gG rfl (.tmp 22) (.tmp 26) 64 rfl w1.heap.size 3 i0 (.int .i64 0) 1 8 Tryz.underlying64 bu cg ci cj rfl (by omega) a3 0 [] rfl hE.2.1 (some ⟨b,o,none⟩) k pr (iM (J.take k)) rfl (by rw [d7,Nat.mul_one]) (cI.out w2 cc) (bz _) (by unfold maxLen; omega) (by omega) b3 (fun A cap w3 aE hg b7=>hK _ _ ?_);rw [Nat.zero_add] at aE b7 ⊢;rw [List.nil_append] at aE;have bn:=hg.size;have bR:=gX hB hE.2.1 ν b3 hg
     have bX:f 3=true→((∃ A cap,a2=.slice A (fC xs a).length cap)∧aQ w3 [a2] (fC xs a) bl∧∀ c ∈ bl,(Value.slice A (k) cap).ownBlock ≠ some c∧o2 ≠ some c∧(c ∈ b0 ++ b2∨w1.heap.size≤c)):=fun f3=>⟨(h3 f3).1,au.keep (h3 f3).2.1 fun c hc=>hg.block c (au.lt (h3 f3).2.1 c hc) fun e=>((h3 f3).2.2 c hc).1 (hE.2.2 c e.symm),fun c hc=>⟨fun e=>by
      rcases b7 with b9 | b9
      ·rw [b9] at e; exact ((h3 f3).2.2 c hc).1 (hE.2.2 c e)
      ·rw [b9] at e; have:=au.lt (h3 f3).2.1 c hc; simp at e; omega,((h3 f3).2.2 c hc).2⟩⟩
     have hN:qL w1.heap.size 3 k (iM (J.take k)) (.int .i64 n) (f 4) true (f 11) (f 12) a3 (.slice A k cap) ae a5 (Value.slice A k cap).ownBlock o2 w3:=by rw [f4]; exact C.dZ b3 aE hg bn b7 (ja aE)
     exact ⟨ag,am,ao,a2,a3,ap,aq,ar,_,(.slice A k cap),aw,ae,a5,az,aL,aM,aR,aD,af,(Value.slice A k cap).ownBlock,o2,bl,_,rfl,bR,fun _=>hN,Φ b4,⟨ja aE,U.keep bn,Φ b4⟩,bX,⟨e0,e1,e2,e5,e6,e7,e8,a6,a7,a8,a9,ac,ab⟩,fun _=>rfl,Φ y,Φ y⟩
    | 10,ho,hf,I=>
     obtain rfl:=Option.some.inj ho;refine wpOp_step rfl (fun K' hK=>?_);go_simp;refine hK _ _ ?_;exact ⟨ag,am,ao,a2,a3,ap,aq,ar,av,a4,(.int .i64 n),ae,a5,az,aL,aM,aR,aD,af,o1,o2,bl,_,rfl,hB,hC,hR,⟨a1,U,a0⟩,h3,⟨e0,e1,e2,e5,e6,e7,e8,fun _=>rfl,a7,a8,a9,ac,ab⟩,fun _=>rfl,Φ y,Φ y⟩
    | 11,ho,hf,I=>
     obtain rfl:=Option.some.inj ho;simp [Region.binds] at I;have cq:=I;have dj:=a6 cq;subst dj
     have b4:f 17=false:=by
      cases hc:f 17 with
      | false=>rfl
      | true=>exact absurd (a0 hc).2.2.1 (by simp [hf])
     have C:=hC b4;rw [hf] at C;have bO:Below w2.heap.size w2 (w2.alloc (.cells #[.int .i64 n] 3)):=ζ;have cA:Hy w1.heap.size (w2.alloc (.cells #[.int .i64 n] 3)) (some w2.heap.size):=fun c e=>by simp at e; subst e; simp; exact b3
     refine wpOp_step rfl (fun K' hK=>?_);go_simp;refine hK _ _ ?_;exact ⟨ag,am,ao,a2,a3,ap,aq,ar,av,a4,_,(.slice (some ⟨w2.heap.size,0,none⟩) 1 1),a5,az,aL,aM,aR,aD,af,o1,some w2.heap.size,bl,_,rfl,hB.alloc b3 _,fun _=>C.stepS b3,Φ b4,⟨a1.keep bO.size,cA,Φ b4⟩,fun f3=>⟨(h3 f3).1,au.below (h3 f3).2.1 bO,fun c hc=>⟨((h3 f3).2.2 c hc).1,fun e=>by have:=au.lt (h3 f3).2.1 c hc; simp at e; omega,((h3 f3).2.2 c hc).2.2⟩⟩,⟨e0,e1,e2,e5,e6,e7,e8,a6,a7,a8,a9,ac,ab⟩,fun _=>rfl,Φ y,Φ y⟩
    | 12,ho,hf,I=>
     obtain rfl:=Option.some.inj ho;simp [Region.binds] at I;obtain ⟨f9,cb,_⟩:=I
     have b4:f 17=false:=by
      cases hc:f 17 with
      | false=>rfl
      | true=>exact absurd (a0 hc).2.2.2 (by simp [hf])
     have C:=hC b4;have ce:f 4=true:=C.hr f9;rw [hf,f9,cb,ce] at C;have hE:=C.r_ rfl rfl;obtain ⟨l,rfl,hl,_⟩:=C.s_ rfl rfl;refine wpOp_step rfl (fun K' hK=>?_);refine gG rfl (.tmp 27) (.tmp 29) 64 rfl w1.heap.size 3 i0 (.int .i64 0) 1 8 Tryz.underlying64 bu cg ci cj rfl (by omega) a4 k (iM (J.take k)) rfl hE.2.1 (some ⟨l,0,none⟩) 1 1 [.int .i64 n] rfl rfl (aS hl) (fun u hu=>by rw [ώ.1 hu]; rfl) (by unfold maxLen; omega) (by omega) b3 (fun A cap w3 aE hg b7=>hK _ _ ?_);have bn:=hg.size;have bR:=gX hB hE.2.1 ν b3 hg
     have bX:f 3=true→((∃ A cap,a2=.slice A (fC xs a).length cap)∧aQ w3 [a2] (fC xs a) bl∧∀ c ∈ bl,(Value.slice A (k+1) cap).ownBlock ≠ some c∧o2 ≠ some c∧(c ∈ b0 ++ b2∨w1.heap.size≤c)):=fun f3=>⟨(h3 f3).1,au.keep (h3 f3).2.1 fun c hc=>hg.block c (au.lt (h3 f3).2.1 c hc) fun e=>((h3 f3).2.2 c hc).1 (hE.2.2 c e.symm),fun c hc=>⟨fun e=>by
      rcases b7 with b9 | b9
      ·rw [b9] at e; exact ((h3 f3).2.2 c hc).1 (hE.2.2 c e)
      ·rw [b9] at e; have:=au.lt (h3 f3).2.1 c hc; simp at e; omega,((h3 f3).2.2 c hc).2⟩⟩
     have hN:qL w1.heap.size 3 k (iM (J.take k)) (.int .i64 n) (f 4) (f 9) (f 11) true a3 a4 (.slice (some ⟨l,0,none⟩) 1 1) (.slice A (k+1) cap) (Value.slice A (k+1) cap).ownBlock o2 w3:=by rw [ce,f9,cb]; exact C.QA b3 aE hg bn b7 (ja aE)
     exact ⟨ag,am,ao,a2,a3,ap,aq,ar,av,a4,aw,_,(.slice A (k+1) cap),az,aL,aM,aR,aD,af,(Value.slice A (k+1) cap).ownBlock,o2,bl,_,rfl,bR,fun _=>hN,Φ b4,⟨ja aE,U.keep bn,Φ b4⟩,bX,⟨e0,e1,e2,e5,e6,e7,e8,a6,a7,a8,a9,ac,ab⟩,fun _=>rfl,Φ y,Φ y⟩
    | 13,ho,hf,I=>
     obtain rfl:=Option.some.inj ho;refine wpOp_step rfl (fun K' hK=>?_);go_simp;refine hK _ _ ?_;exact ⟨ag,am,ao,a2,a3,ap,aq,ar,av,a4,aw,ae,a5,(.pointer (some ⟨w.heap.size,1,none⟩)),aL,aM,aR,aD,af,o1,o2,bl,_,rfl,hB,hC,hR,⟨a1,U,a0⟩,h3,⟨e0,e1,e2,e5,e6,e7,e8,a6,fun _=>rfl,a8,a9,ac,ab⟩,fun _=>rfl,Φ y,Φ y⟩
    | 14,ho,hf,I=>
     obtain rfl:=Option.some.inj ho;simp [Region.binds] at I;have cr:=I;have dk:=a7 cr;subst dk;have hc:w2.cell? ⟨w.heap.size,1,none⟩=some (.slice (some ⟨b,o,none⟩) J.length pr):=(hB.cell (p:=⟨w.heap.size,1,none⟩) (by simp; omega)).trans (aj bj);refine wpOp_step rfl (fun K' hK=>?_);go_simp;refine hK _ _ ?_;exact ⟨ag,am,ao,a2,a3,ap,aq,ar,av,a4,aw,ae,a5,_,(.slice (some ⟨b,o,none⟩) J.length pr),aM,aR,aD,af,o1,o2,bl,_,rfl,hB,hC,hR,⟨a1,U,a0⟩,h3,⟨e0,e1,e2,e5,e6,e7,e8,a6,a7,fun _=>rfl,a9,ac,ab⟩,fun _=>rfl,Φ y,Φ y⟩
    | 15,ho,hf,I=>
     obtain rfl:=Option.some.inj ho;refine wpOp_step rfl (fun K' hK=>?_);go_simp;refine hK _ _ ?_;exact ⟨ag,am,ao,a2,a3,ap,aq,ar,av,a4,aw,ae,a5,az,aL,(.int .i64 k),aR,aD,af,o1,o2,bl,_,rfl,hB,hC,hR,⟨a1,U,a0⟩,h3,⟨e0,e1,e2,e5,e6,e7,e8,a6,a7,a8,fun _=>rfl,ac,ab⟩,fun _=>rfl,Φ y,Φ y⟩
    | 16,ho,hf,I=>
     obtain rfl:=Option.some.inj ho;simp [Region.binds] at I;obtain ⟨cv,cw⟩:=I;have dl:=a8 cv;subst dl;have dp:=a9 cw;subst dp;by_cases hce:pr=k
     ·have ds:(pr=k)=True:=eq_true hce
      rw [if_pos hce] at b5;refine wpOp_step rfl (fun K' hK=>?_);go_simp;refine hK _ _ ?_;subst hce;exact ⟨ag,am,ao,a2,a3,ap,aq,ar,av,a4,aw,ae,a5,az,_,_,_,aD,af,o1,o2,bl,_,rfl,hB,hC,hR,⟨a1,U,a0⟩,h3,⟨e0,e1,e2,e5,e6,e7,e8,a6,a7,a8,a9,fun _=>b5.symm,ab⟩,fun _=>rfl,Φ y,Φ y⟩
     ·have ds:(pr=k)=False:=eq_false hce
      rw [if_neg hce] at b5;have dz:¬ (pr:Int)=(k:Int):=by omega
      refine wpOp_step rfl (fun K' hK=>?_);go_simp;refine hK _ _ ?_;exact ⟨ag,am,ao,a2,a3,ap,aq,ar,av,a4,aw,ae,a5,az,_,_,_,aD,af,o1,o2,bl,_,rfl,hB,hC,hR,⟨a1,U,a0⟩,h3,⟨e0,e1,e2,e5,e6,e7,e8,a6,a7,a8,a9,fun _=>b5.symm,ab⟩,fun _=>rfl,Φ y,Φ y⟩
    | 17,ho,hf,I=>
     obtain rfl:=Option.some.inj ho;simp [Region.binds] at I;obtain ⟨f12,cx,_⟩:=I;have dt:=ac cx;subst dt;have C:=hC hf;rw [f12] at C;have hE:=C.f_ rfl;have cB:=C.hf rfl;have du:=C.hr cB.1;obtain ⟨Ay,cy,dv,dx⟩:=cQ;refine wpOp_step rfl (fun K' hK=>?_);refine gG rfl (.tmp 30) (.tmp 34) 64 rfl w1.heap.size 3 i0 (.int .i64 0) 1 8 Tryz.underlying64 bu cg ci cj rfl (by omega) a5 (k+1) (iM (J.take k) ++ [.int .i64 n]) rfl hE.2.1 Ay (J.length - k) cy (iM (J.drop k)) dv (by rw [bx,Nat.mul_one]) (dx w2 cc) (bz _) (by have:=bi.out; unfold maxLen; omega) (by have:=bi.out; omega) b3 (fun A cap w3 aE hg b7=>hK _ _ ?_);have bn:=hg.size;have bR:=gX hB hE.2.1 ν b3 hg
     have bX:f 3=true→((∃ A cap,a2=.slice A (fC xs a).length cap)∧aQ w3 [a2] (fC xs a) bl∧∀ c ∈ bl,(Value.slice A (k+1+(J.length - k)) cap).ownBlock ≠ some c∧o2 ≠ some c∧(c ∈ b0 ++ b2∨w1.heap.size≤c)):=fun f3=>⟨(h3 f3).1,au.keep (h3 f3).2.1 fun c hc=>hg.block c (au.lt (h3 f3).2.1 c hc) fun e=>((h3 f3).2.2 c hc).1 (hE.2.2 c e.symm),fun c hc=>⟨fun e=>by
      rcases b7 with b9 | b9
      ·rw [b9] at e; exact ((h3 f3).2.2 c hc).1 (hE.2.2 c e)
      ·rw [b9] at e; have:=au.lt (h3 f3).2.1 c hc; simp at e; omega,((h3 f3).2.2 c hc).2⟩⟩
     exact ⟨ag,am,ao,a2,a3,ap,aq,ar,av,a4,aw,ae,a5,az,aL,aM,_,(.slice A (k+1+(J.length - k)) cap),af,(Value.slice A (k+1+(J.length - k)) cap).ownBlock,o2,bl,_,rfl,bR,fun h=>(by cases h),fun _=>by rw [bx]; exact ⟨⟨_,_,rfl⟩,aE,fun b hb=>hb⟩,⟨ja aE,U.keep bn,fun _=>⟨du,cB.1,cB.2,f12⟩⟩,bX,⟨e0,e1,e2,e5,e6,e7,e8,a6,a7,a8,a9,ac,fun h=>absurd ((ab h).2.2.symm.trans hf) (by decide)⟩,fun _=>rfl,Φ y,Φ y⟩
    | 18,ho,hf,I=>
     obtain rfl:=Option.some.inj ho;simp [Region.binds] at I;obtain ⟨f3,bs⟩:=I;obtain ⟨⟨A3,q3,rfl⟩,_⟩:=h3 f3;obtain ⟨⟨A4,q4,b6⟩,_⟩:=hR bs;rw [bx] at b6;subst b6;refine wpOp_step rfl (fun K' hK=>?_);go_simp;refine hK _ _ ?_;exact ⟨ag,am,ao,_,a3,ap,aq,ar,av,a4,aw,ae,a5,az,aL,aM,aR,_,_,o1,o2,bl,_,rfl,hB,hC,hR,⟨a1,U,a0⟩,h3,⟨e0,e1,e2,e5,e6,e7,e8,a6,a7,a8,a9,ac,fun _=>⟨rfl,f3,bs⟩⟩,fun _=>rfl,Φ y,Φ y⟩
    | q+19,ho,hf,I=>
     rw [Array.getElem?_eq_none (by simp; omega)] at ho;cases ho
end Go.Proofs.YtlmngncogomgeaaGreatDoor
