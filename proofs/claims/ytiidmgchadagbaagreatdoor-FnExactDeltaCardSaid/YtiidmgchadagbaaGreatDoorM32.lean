/- Of the proof of FnExactDelta: RPutS. -/
import Derived.Test.YtiidmgchadagbaaGreatDoorM29
set_option linter.unusedVariables false
set_option maxHeartbeats 8000000
set_option maxRecDepth 100000
namespace Go.Proofs.YtiidmgchadagbaaGreatDoor
open Go.RowKit D
attribute [local go_sem ↓] Go.wp_at_zero Go.wp_at_succ
theorem TF:(Tryz.prog.info? 3).map (fun i=>(i.zero,i.size,i.bytes))=some (some (.int .i64 0),1,8):=by kernel_rfl
abbrev D.Rd:=List A × List Nat
def D.iD (r:Rd) (a:A) (n:Nat):Rd:=if hasB r.1 a then r else (fA r.1 a,r.2.take (pl r.1 a) ++ [n] ++ r.2.drop (pl r.1 a))
def D.rD:Rel Rd:=fun w cs r bs=>∃ s b o c b1 b2,cs = [s,.slice (some ⟨b,o,none⟩) r.2.length c]∧bs=b1 ++ b2∧aI w [s] r.1 b1∧jD w [.slice (some ⟨b,o,none⟩) r.2.length c] r.2 b2∧r.2.length=r.1.length
theorem D.pG:Good rD:=
 ⟨fun h hk=>by
   obtain ⟨s,b,o,c,b1,b2,h1,rfl,h3,h4,h5⟩:=h
   exact ⟨s,b,o,c,b1,b2,h1,rfl,ai.keep h3 fun b hb=>hk b (List.mem_append_left _ hb),dL.keep h4 fun b hb=>hk b (List.mem_append_right _ hb),h5⟩,
  fun h b hb=>by
   obtain ⟨s,b',o,c,b1,b2,h1,rfl,h3,h4,h5⟩:=h
   rcases List.mem_append.1 hb with hb | hb
   ·exact ai.lt h3 b hb
   ·exact dL.lt h4 b hb⟩
def D.jb (xs:List Nat):List Value:=xs.map fun x=>.int .i64 (x:Nat)
theorem D.Kt {base e:Nat} {w:World} {v:Value} {ys:List Nat} (h:w.ownsRow base e 1 v ys.length (jb ys)):∃ b2,jD w [v] ys b2∧∀ b ∈ b2,base≤b:=by
 have hr:aV 1 xU w (jb ys) ys []:=by
  refine ⟨by simp [jb],fun u hu=>?_,fun _=>[],by simp,fun j hj=>⟨?_,rfl⟩⟩
  ·obtain ⟨s,_,rfl⟩:=List.mem_map.1 hu
   rfl
  ·rw [Nat.mul_one]
   refine List.ext_getElem? fun i=>?_
   rcases i with _ | i
   ·simp [jb,List.getElem?_drop,hj]
   ·simp [jb]; omega
 obtain ⟨b2,h2,h3⟩:=hr.slice h;exact ⟨b2,h2,fun b hb=>(h3 b hb).elim id fun h=>by cases h⟩
def D.PJ (Bk:List Nat) (w wA:World) (xs X:List A) (ns:List Nat) (Ax:Option Addr) (px b o pr k:Nat) (n:Nat) (d0 d1 V26 V34:Value) (L1 L2:List Value) (f:Nat→Bool) (a:Act) (w':World):Prop:=
 ∃ (v18 v19 v20 v21 v22 v23 v24 v25 v26 v27 v28 v29 v30 v31 v32 v33 v34 v35 v36:Value) (o1 o2:Option Nat) (bl:List Nat) (wi:World),a=⟨#[.agg #[.slice Ax xs.length px,.slice (some ⟨b,o,none⟩) ns.length pr],.agg #[d0,d1],.int .i64 n,.pointer (some ⟨w.heap.size,0,none⟩),.pointer (some ⟨w.heap.size+1,0,none⟩),undef,.pointer (some ⟨w.heap.size+1+1,0,none⟩),.int .i64 k,.bool false,.tuple #[.int .i64 k,.bool false],.pointer (some ⟨w.heap.size,0,none⟩),.slice Ax xs.length px,.agg #[d0,d1],.tuple #[.int .i64 k,.bool false],.int .i64 k,.bool false,.bool false,undef,v18,v19,v20,v21,v22,v23,v24,v25,v26,v27,v28,v29,v30,v31,v32,v33,v34,v35,v36],[]⟩∧Below wA.heap.size wA wi∧
  (f 17=false→rX wA.heap.size 3 k L1 (.int .i64 n) (f 4) (f 9) (f 11) (f 12) v22 v27 v29 v30 o1 o2 wi)∧(f 17=true→BF wA.heap.size 3 wi v35 (k+1+L2.length) (L1 ++ [.int .i64 n] ++ L2) o1)∧(IV wA.heap.size wi o1∧IV wA.heap.size wi o2∧(f 17=true→f 4=true∧f 9=true∧f 11=true∧f 12=true))∧
  (f 3=true→(∃ A cap,v21=.slice A X.length cap)∧aI wi [v21] X bl∧∀ c ∈ bl,o1 ≠ some c∧o2 ≠ some c∧(c ∈ Bk∨wA.heap.size≤c))∧
  ((f 0=true→v18=.pointer (some ⟨w.heap.size,0,none⟩))∧(f 1=true→v19=.slice Ax xs.length px)∧(f 2=true→v20=.agg #[d0,d1])∧(f 5=true→v23=.pointer (some ⟨w.heap.size,1,none⟩))∧(f 6=true→v24=.slice (some ⟨b,o,none⟩) ns.length pr)∧(f 7=true→v25=.int .i64 k)∧(f 8=true→v26=V26)∧(f 10=true→v28=.int .i64 n)∧(f 13=true→v31=.pointer (some ⟨w.heap.size,1,none⟩))∧(f 14=true→v32=.slice (some ⟨b,o,none⟩) ns.length pr)∧(f 15=true→v33=.int .i64 k)∧(f 16=true→v34=V34)∧(f 18=true→v36=.agg #[v21,v35]∧f 3=true∧f 17=true))∧
  (f 19=false→w'=wi)∧(f 19=true→w'=(wi.setCell ⟨w.heap.size+1+1,0,none⟩ v21).setCell ⟨w.heap.size+1+1,1,none⟩ v35)∧(f 19=true→∀ i,i < 19→f i=true)
theorem TG (xs:List A) (ns:List Nat) (a:A) (n:Nat) (c0 d0 d1:Value) (b o pr:Nat) (b0 b1 b2:List Nat) (w:World) (hx:aI w [c0] xs b0) (hi:jD w [.slice (some ⟨b,o,none⟩) ns.length pr] ns b1) (h2:aU w [d0,d1] a b2) (hlen:ns.length=xs.length)
  (hasc:ig xs=true) (hm:xs.length≤100000000000):
  Calls Tryz.prog 61 #[.agg #[c0,.slice (some ⟨b,o,none⟩) ns.length pr],.agg #[d0,d1],.int .i64 n] w fun e w'=>Below w.heap.size w w'∧∃ e0 e1 bs',e=.returned (.agg #[e0,e1])∧rD w' [e0,e1] (iD (xs,ns) a n) bs'∧∀ c ∈ bs',c ∈ b0 ++ b1 ++ b2∨w.heap.size≤c:=by
 obtain ⟨Ax,px,rfl,hx1,hx2⟩:=af hx;obtain ⟨Ab,pb,hcs,hi1,hi2⟩:=af hi;simp only [Value.slice.injEq,true_and] at hcs;obtain ⟨rfl,rfl⟩:=hcs;obtain ⟨Aa,ca,rfl,rfl⟩:=bJ h2;obtain ⟨i0,hinf,hy0,hy1,hy2⟩:=info_parts TF;have HX:=η hx;have HI:=η hi;have HA2:=η h2;have hA:Below w.heap.size w (((w.alloc (.cells #[.slice Ax xs.length px,.slice (some ⟨b,o,none⟩) ns.length pr] 63)).alloc (.cells #[.string a.name,.slice Aa a.args.length ca] 68)).alloc (.cells #[.slice none 0 0,.slice none 0 0] 63)):=(((Below.refl _ _).alloc (Nat.le_refl _) _).alloc (by simp) _).alloc (by simp; omega) _
 have hM0:(((w.alloc (.cells #[.slice Ax xs.length px,.slice (some ⟨b,o,none⟩) ns.length pr] 63)).alloc (.cells #[.string a.name,.slice Aa a.args.length ca] 68)).alloc (.cells #[.slice none 0 0,.slice none 0 0] 63)).heap[w.heap.size]? = some (.cells #[.slice Ax xs.length px,.slice (some ⟨b,o,none⟩) ns.length pr] 63 (0,0)):=by rw [Below.heap_alloc _ _ _ (by simp; omega),Below.heap_alloc _ _ _ (by simp)]; exact heap_alloc_new w _
 have hM1:(((w.alloc (.cells #[.slice Ax xs.length px,.slice (some ⟨b,o,none⟩) ns.length pr] 63)).alloc (.cells #[.string a.name,.slice Aa a.args.length ca] 68)).alloc (.cells #[.slice none 0 0,.slice none 0 0] 63)).heap[w.heap.size+1]? = some (.cells #[.string a.name,.slice Aa a.args.length ca] 68 (0,0)):=by
  rw [Below.heap_alloc _ _ _ (by simp)];simpa using heap_alloc_new (w.alloc (.cells #[.slice Ax xs.length px,.slice (some ⟨b,o,none⟩) ns.length pr] 63)) (.cells #[.string a.name,.slice Aa a.args.length ca] 68)
 have hM2:(((w.alloc (.cells #[.slice Ax xs.length px,.slice (some ⟨b,o,none⟩) ns.length pr] 63)).alloc (.cells #[.string a.name,.slice Aa a.args.length ca] 68)).alloc (.cells #[.slice none 0 0,.slice none 0 0] 63)).heap[w.heap.size+1+1]? = some (.cells #[.slice none 0 0,.slice none 0 0] 63 (0,0)):=by
  simpa using heap_alloc_new ((w.alloc (.cells #[.slice Ax xs.length px,.slice (some ⟨b,o,none⟩) ns.length pr] 63)).alloc (.cells #[.string a.name,.slice Aa a.args.length ca] 68)) (.cells #[.slice none 0 0,.slice none 0 0] 63)
 have q3:=xA xs a _ _ _ b0 b2 _ (ai.below hx hA) (aj.below h2 hA) hasc
 have hbl:ns ≠ []→b < w.heap.size:=fun hne=>by
  obtain ⟨b',o',e',hb',_⟩:=qm hi (k:=0) (by cases ns with | nil=>exact absurd rfl hne | cons=>simp);simp only [Option.some.injEq,Addr.mk.injEq,and_true] at e';rw [e'.1];exact dL.lt hi b' hb'
 have hcl:∀ j (hj:j < ns.length),w.cell? ⟨b,o+j,none⟩=some (.int .i64 (ns[j]:Nat)):=fun j hj=>by
  obtain ⟨b',o',e',hb',hc⟩:=qm hi hj;simp only [Option.some.injEq,Addr.mk.injEq,and_true] at e';obtain ⟨rfl,rfl⟩:=e';exact hc
 have HPK:pl xs a≤xs.length:=(qf hasc a).2.2;have HPR:Hid (iD (xs,ns) a n=if hasB xs a then (xs,ns) else (fA xs a,ns.take (pl xs a) ++ [n] ++ ns.drop (pl xs a))):=η rfl
 have HL1:Hid (∀ w',Below w.heap.size w w'→Lies w' (some ⟨b,o,none⟩) (jb (ns.take (pl xs a)))):=η fun w' hb'=>Lies.mk fun j u hj=>by
  have hj2:=(List.getElem?_eq_some_iff.1 hj).1;simp [jb] at hj2;have hjn:j < ns.length:=by omega
  refine ((hb'.cell (p:=⟨b,o+j,none⟩) (hbl (by intro e'; rw [e'] at hjn; simp at hjn))).trans (hcl j hjn)).trans ?_;rw [← hj]; simp [jb,hj2]
 have HL2:Hid (∀ w',Below w.heap.size w w'→Lies w' (some ⟨b,o+pl xs a,none⟩) (jb (ns.drop (pl xs a)))):=η fun w' hb'=>Lies.mk fun j u hj=>by
  have hj2:=(List.getElem?_eq_some_iff.1 hj).1;simp [jb] at hj2;have hjn:pl xs a+j < ns.length:=by omega
  rw [Nat.add_assoc];refine ((hb'.cell (p:=⟨b,o+(pl xs a+j),none⟩) (hbl (by intro e'; rw [e'] at hjn; simp at hjn))).trans (hcl _ hjn)).trans ?_;rw [← hj]; simp [jb,hjn]
 have HLT0:=η (ai.lt hx);have HLT1:=η (dL.lt hi);have HLT2:=η (aj.lt h2);have hml:=Nat.le_trans hi1 hi2;have HLN:=η hlen;clear hx hi h2 hx1 hx2 hbl hcl hlen
 cases hh:hasB xs a with
 | true=>
  rw [hh] at q3 HPR;have HPX:Hid (iD (xs,ns) a n=(xs,ns)):=HPR;clear hh HPR
  go_enter Tryz.func61,Tryz.ntmps61
  go_wp2_with fail
  refine q3.mono ?_;rintro e w1 ⟨rfl,hb1⟩;have B1:=η (hA.trans (hb1.mono hA.size));have hN0:=(hb1.block _ (lt_of_block hM0)).trans hM0;have hN2:=(hb1.block _ (lt_of_block hM2)).trans hM2;have y0:w1.cell? ⟨w.heap.size,0,none⟩=some (.slice Ax xs.length px):=ak hN0;have y1:w1.cell? ⟨w.heap.size,1,none⟩=some (.slice (some ⟨b,o,none⟩) ns.length pr):=ak hN0;have z0:w1.cell? ⟨w.heap.size+1+1,0,none⟩=some (.slice none 0 0):=ak hN2;have z1:w1.cell? ⟨w.heap.size+1+1,1,none⟩=some (.slice none 0 0):=ak hN2;have z2:w1.frozen? ⟨w.heap.size+1+1,0,none⟩=false:=aB hN2;have z3:w1.frozen? ⟨w.heap.size+1+1,1,none⟩=false:=aB hN2;have hfin:=bZ (o:=1) (u:=.slice (some ⟨b,o,none⟩) ns.length pr) (bZ (o:=0) (u:=.slice Ax xs.length px) hN2);have hc0:((w1.setCell ⟨w.heap.size+1+1,0,none⟩ (.slice Ax xs.length px)).setCell ⟨w.heap.size+1+1,1,none⟩ (.slice (some ⟨b,o,none⟩) ns.length pr)).cell? ⟨w.heap.size+1+1,0,none⟩=some (.slice Ax xs.length px):=ak hfin
  have hc1:((w1.setCell ⟨w.heap.size+1+1,0,none⟩ (.slice Ax xs.length px)).setCell ⟨w.heap.size+1+1,1,none⟩ (.slice (some ⟨b,o,none⟩) ns.length pr)).cell? ⟨w.heap.size+1+1,1,none⟩=some (.slice (some ⟨b,o,none⟩) ns.length pr):=ak hfin;have hkp:∀ c,c < w.heap.size→((w1.setCell ⟨w.heap.size+1+1,0,none⟩ (.slice Ax xs.length px)).setCell ⟨w.heap.size+1+1,1,none⟩ (.slice (some ⟨b,o,none⟩) ns.length pr)).heap[c]? = w.heap[c]?:=fun c hc=>by rw [Below.heap_setCell _ _ _ _ (by show c ≠ w.heap.size+1+1; omega),Below.heap_setCell _ _ _ _ (by show c ≠ w.heap.size+1+1; omega)]; exact B1.out.block c hc
  have HKP:=η hkp;have HBF:=η ((B1.out.setCell (p:=⟨w.heap.size+1+1,0,none⟩) (by show w.heap.size≤w.heap.size+1+1; omega) (.slice Ax xs.length px)).setCell (p:=⟨w.heap.size+1+1,1,none⟩) (by show w.heap.size≤w.heap.size+1+1; omega) (.slice (some ⟨b,o,none⟩) ns.length pr));clear q3 hb1 hfin hkp hM0 hM1 hM2 hA;go_wp2;refine bodyPost_ret (v:=.agg #[.slice Ax xs.length px,.slice (some ⟨b,o,none⟩) ns.length pr]) (by simp [results,Tryz.results61,go_sem,hc0,hc1]) rfl ⟨HBF.out,_,_,b0 ++ b1,rfl,?_,fun c hc=>.inl (List.mem_append_left _ hc)⟩;rw [HPX.out];exact ⟨.slice Ax xs.length px,b,o,pr,b0,b1,rfl,rfl,ai.keep HX.out fun c hc=>HKP.out c (HLT0.out c hc),dL.keep HI.out fun c hc=>HKP.out c (HLT1.out c hc),HLN.out⟩
 | false=>
  rw [hh] at q3;have HPX:Hid (iD (xs,ns) a n=(fA xs a,ns.take (pl xs a) ++ [n] ++ ns.drop (pl xs a))):=η (by rw [HPR.out,hh]; rfl);have HIL:Hid ((fA xs a).length=xs.length+1):=η (by unfold fA; rw [hh]; simp; omega);clear hh HPR;generalize pl xs a=k at *;clear hml
  go_enter Tryz.func61,Tryz.ntmps61
  go_wp2_with fail
  refine q3.mono ?_;rintro e w1 ⟨rfl,hb1⟩;have B1:=η (hA.trans (hb1.mono hA.size));have hN0:=(hb1.block _ (lt_of_block hM0)).trans hM0;have hN1:=(hb1.block _ (lt_of_block hM1)).trans hM1;have hN2:=(hb1.block _ (lt_of_block hM2)).trans hM2;have hw3:w.heap.size+3≤w1.heap.size:=by have:=lt_of_block hN2; omega
  have hk0:(0:Int)≤(k:Int):=by omega
  have hk1:(k:Int)≤(ns.length:Int):=by have:=HLN.out; omega
  have hk2:(k:Int)≤(pr:Int):=by omega
  have hk4:(ns.length:Int)≤(pr:Int):=by omega
  have hprm:=au hi2;have hL1:(jb (ns.take k)).length=k:=by have:=HLN.out; simp [jb]; omega
  have hL2:(jb (ns.drop k)).length=ns.length - k:=by simp [jb]
  have hone:∀ l:List Nat,∀ u ∈ jb l,Value.oneCell' u=true:=fun l u hu=>by obtain ⟨t,_,rfl⟩:=List.mem_map.1 hu; rfl
  clear q3 hM0 hM1 hM2 hA hb1
  go_wp2_with fail
  obtain ⟨V34,hV34⟩:∃ V:Value,V=if pr=k then (.slice (some ⟨b,o,none⟩) (ns.length - k) 0) else (.slice (some ⟨b,o+k,none⟩) (ns.length - k) (pr - k)):=⟨_,rfl⟩
  have hLX:∃ Ay c,V34=.slice Ay (ns.length - k) c∧∀ w',Below w.heap.size w w'→Lies w' Ay (jb (ns.drop k)):=by
   by_cases hce:pr=k
   ·rw [if_pos hce] at hV34
    exact ⟨_,_,hV34,fun w' hb'=>by rw [List.drop_eq_nil_of_le (by omega)]; exact Lies.nil _ _⟩
   ·rw [if_neg hce] at hV34
    exact ⟨_,_,hV34,HL2.out⟩
  refine pJ (PJ (b0 ++ b2) w w1 xs (fA xs a) ns Ax px b o pr k n (.string a.name) (.slice Aa a.args.length ca) (.slice (some ⟨b,o,none⟩) k pr) V34 (jb (ns.take k)) (jb (ns.drop k))) (by kernel_rfl) (by kernel_rfl) ?h0 ?hs ?hd
  case h0=>exact ⟨undef,undef,undef,undef,undef,undef,undef,undef,undef,undef,undef,undef,undef,undef,undef,undef,undef,undef,undef,none,none,[],_,rfl,(Below.refl _ _).drew,fun _=>rX.start,fun h=>(by cases h),⟨fun b h=>(by cases h),fun b h=>(by cases h),fun h=>(by cases h)⟩,fun h=>(by cases h),⟨fun h=>(by cases h),fun h=>(by cases h),fun h=>(by cases h),fun h=>(by cases h),fun h=>(by cases h),fun h=>(by cases h),fun h=>(by cases h),fun h=>(by cases h),fun h=>(by cases h),fun h=>(by cases h),fun h=>(by cases h),fun h=>(by cases h),fun h=>(by cases h)⟩,fun _=>rfl,fun h=>(by cases h),fun h=>(by cases h)⟩
  case hd=>
   intro f aa w3 hf hJ;obtain ⟨v18,v19,v20,v21,v22,v23,v24,v25,v26,v27,v28,v29,v30,v31,v32,v33,v34,v35,v36,o1,o2,bl,w2,rfl,hB,hC,hR,⟨hi_1,hi_2,h17c⟩,h3,⟨e0,e1,e2,e5,e6,e7,e8,e10,e13,e14,e15,e16,e18⟩,hw0,hw19,hall⟩:=hJ;obtain rfl:=hw19 (hf 19 (by simp));obtain ⟨⟨A3,q3,rfl⟩,h3b,h3c⟩:=h3 (hf 3 (by simp));obtain ⟨⟨A4,q4,hv35⟩,ho4,ho5⟩:=hR (hf 17 (by simp));rw [hL2] at hv35 ho4;subst hv35;have hw3:w.heap.size+3≤w2.heap.size:=Nat.le_trans hw3 hB.size;have hbx:w2.heap[w.heap.size+1+1]? = some (.cells #[.slice none 0 0,.slice none 0 0] 63 (0,0)):=(hB.block _ (by omega)).trans hN2;have hfin:=bZ (o:=1) (u:=.slice A4 (k+1+(ns.length - k)) q4) (bZ (o:=0) (u:=.slice A3 (fA xs a).length q3) hbx);have hc0:((w2.setCell ⟨w.heap.size+1+1,0,none⟩ (.slice A3 (fA xs a).length q3)).setCell ⟨w.heap.size+1+1,1,none⟩ (.slice A4 (k+1+(ns.length - k)) q4)).cell? ⟨w.heap.size+1+1,0,none⟩=some (.slice A3 (fA xs a).length q3):=ak hfin
   have hc1:((w2.setCell ⟨w.heap.size+1+1,0,none⟩ (.slice A3 (fA xs a).length q3)).setCell ⟨w.heap.size+1+1,1,none⟩ (.slice A4 (k+1+(ns.length - k)) q4)).cell? ⟨w.heap.size+1+1,1,none⟩=some (.slice A4 (k+1+(ns.length - k)) q4):=ak hfin;have hkp:∀ c,c ≠ w.heap.size+1+1→((w2.setCell ⟨w.heap.size+1+1,0,none⟩ (.slice A3 (fA xs a).length q3)).setCell ⟨w.heap.size+1+1,1,none⟩ (.slice A4 (k+1+(ns.length - k)) q4)).heap[c]? = w2.heap[c]?:=fun c hc=>by rw [Below.heap_setCell _ _ _ _ hc,Below.heap_setCell _ _ _ _ hc]
   have hBF:=η (((B1.out.trans (hB.mono B1.out.size)).setCell (p:=⟨w.heap.size+1+1,0,none⟩) (by show w.heap.size≤w.heap.size+1+1; omega) (.slice A3 (fA xs a).length q3)).setCell (p:=⟨w.heap.size+1+1,1,none⟩) (by show w.heap.size≤w.heap.size+1+1; omega) (.slice A4 (k+1+(ns.length - k)) q4))
   have hfinal:Hid (∃ bs',rD ((w2.setCell ⟨w.heap.size+1+1,0,none⟩ (.slice A3 (fA xs a).length q3)).setCell ⟨w.heap.size+1+1,1,none⟩ (.slice A4 (k+1+(ns.length - k)) q4)) [.slice A3 (fA xs a).length q3,.slice A4 (k+1+(ns.length - k)) q4] (iD (xs,ns) a n) bs'∧∀ c ∈ bs',c ∈ b0 ++ b1 ++ b2∨w.heap.size≤c):=η (by
    have hle:(ns.take k ++ [n] ++ ns.drop k).length=k+1+(ns.length - k):=by have:=HLN.out; simp; omega
    have hiv:jb (ns.take k ++ [n] ++ ns.drop k)=jb (ns.take k) ++ [.int .i64 n] ++ jb (ns.drop k):=by simp [jb]
    have hown2:=sJ (w':=((w2.setCell ⟨w.heap.size+1+1,0,none⟩ (.slice A3 (fA xs a).length q3)).setCell ⟨w.heap.size+1+1,1,none⟩ (.slice A4 (k+1+(ns.length - k)) q4))) ho4 fun t ht=>hkp t (by have:=(jq ho4 t ht).1; omega)
    obtain ⟨g2,k2,r2⟩:=Kt (ys:=ns.take k ++ [n] ++ ns.drop k) (by rw [hle,hiv]; exact hown2)
    obtain ⟨gg,gc,hgg⟩:∃ gg gc,Value.slice A4 (k+1+(ns.length - k)) q4=.slice (some ⟨gg,0,none⟩) (k+1+(ns.length - k)) gc:=by
     rcases ho4.2 with ⟨h,_⟩ | ⟨g,cap,_,h,_⟩
     ·simp at h
     ·exact ⟨g,cap,h⟩
    rw [HPX.out];refine ⟨bl ++ g2,⟨.slice A3 (fA xs a).length q3,gg,0,gc,bl,g2,by rw [hle,hgg],rfl,ai.keep h3b fun c hc=>hkp c (fun e=>?_),by rw [hle,← hgg]; exact k2,?_⟩,fun c hc=>?_⟩
    ·rcases (h3c c hc).2.2 with h | h
     ·rcases List.mem_append.1 h with h | h
      ·have:=HLT0.out c h; omega
      ·have:=HLT2.out c h; omega
     ·omega
    ·show (ns.take k ++ [n] ++ ns.drop k).length=(fA xs a).length
     rw [hle,HIL.out]; have:=HLN.out; omega
    ·rcases List.mem_append.1 hc with hc | hc
     ·rcases (h3c c hc).2.2 with h | h
      ·left; rcases List.mem_append.1 h with h | h
       ·exact List.mem_append_left _ (List.mem_append_left _ h)
       ·exact List.mem_append_right _ h
      ·right; omega
     ·right; have:=r2 c hc; omega)
   clear hC hR h3 e0 e1 e2 e5 e6 e7 e8 e10 e13 e14 e15 e16 e18 hw0 hw19 hall ho4 ho5 h3b h3c hB hbx hfin hkp hi_1 hi_2 h17c HX HI HA2 HL1 HL2 HLT0 HLT1 HLT2 hN0 hN1 hN2 hLX hone;go_wp2;exact bodyPost_ret (v:=.agg #[.slice A3 (fA xs a).length q3,.slice A4 (k+1+(ns.length - k)) q4]) (by simp [results,Tryz.results61,go_sem,hc0,hc1]) rfl ⟨hBF.out,_,_,_,rfl,hfinal.out.choose_spec⟩
  case hs=>
   intro i oo ho f aa w2 hJ hf haf;obtain ⟨v18,v19,v20,v21,v22,v23,v24,v25,v26,v27,v28,v29,v30,v31,v32,v33,v34,v35,v36,o1,o2,bl,wi,rfl,hB,hC,hR,⟨hi_1,hi_2,h17c⟩,h3,⟨e0,e1,e2,e5,e6,e7,e8,e10,e13,e14,e15,e16,e18⟩,hw0,hw19,hall⟩:=hJ;by_cases h19:i=19
   case pos=>
    subst h19;obtain rfl:=Option.some.inj ho;simp [Region.binds] at haf;obtain ⟨f18,f17,f0,f1,f2,f3,f4,f5,f6,f7,f8,f9,f10,f11,f12,f13,f14,f15,f16,_⟩:=haf;obtain rfl:=hw0 hf;have g18:=(e18 f18).1;subst g18;obtain ⟨⟨A3,q3,rfl⟩,_⟩:=h3 f3;obtain ⟨⟨A4,q4,hv35⟩,_⟩:=hR f17;rw [hL2] at hv35;subst hv35;have hbx:w2.heap[w.heap.size+1+1]? = some (.cells #[.slice none 0 0,.slice none 0 0] 63 (0,0)):=(hB.block _ (by omega)).trans hN2;have hf0:w2.frozen? ⟨w.heap.size+1+1,0,none⟩=false:=aB hbx;have hf1:w2.frozen? ⟨w.heap.size+1+1,1,none⟩=false:=aB hbx;have hc0:w2.cell? ⟨w.heap.size+1+1,0,none⟩=some (.slice none 0 0):=ak hbx;have hc1:w2.cell? ⟨w.heap.size+1+1,1,none⟩=some (.slice none 0 0):=ak hbx;refine wpOp_step rfl (fun K' hK=>?_);go_simp;refine hK _ _ ?_
    refine ⟨_,_,_,_,_,_,_,_,_,_,_,_,_,_,_,_,_,_,_,o1,o2,bl,w2,rfl,hB,hC,hR,⟨hi_1,hi_2,h17c⟩,h3,⟨fun _=>rfl,fun _=>rfl,fun _=>rfl,fun _=>rfl,fun _=>rfl,fun _=>rfl,fun _=>rfl,fun _=>rfl,fun _=>rfl,fun _=>rfl,fun _=>rfl,fun _=>hV34.symm,fun _=>⟨rfl,f3,f17⟩⟩,fun h=>(by cases h),fun _=>rfl,fun _ i hi=>?_⟩
    match i,hi with
    | 0,_=>exact f0
    | 1,_=>exact f1
    | 2,_=>exact f2
    | 3,_=>exact f3
    | 4,_=>exact f4
    | 5,_=>exact f5
    | 6,_=>exact f6
    | 7,_=>exact f7
    | 8,_=>exact f8
    | 9,_=>exact f9
    | 10,_=>exact f10
    | 11,_=>exact f11
    | 12,_=>exact f12
    | 13,_=>exact f13
    | 14,_=>exact f14
    | 15,_=>exact f15
    | 16,_=>exact f16
    | 17,_=>exact f17
    | 18,_=>exact f18
    | q+19,h=>omega
   case neg=>
    have h19f:f 19=false:=by
     cases hc:f 19 with
     | false=>rfl
     | true=>
      by_cases hlt:i < 19
      ·exact absurd (hall hc i hlt) (by simp [hf])
      ·exfalso
       rw [Array.getElem?_eq_none (by simp; omega)] at ho;cases ho
    obtain rfl:=hw0 h19f;have hBW:=B1.out.trans (hB.mono B1.out.size);have hsz:=hB.size
    match i,ho,hf,haf with
    | 0,ho,hf,haf=>
     obtain rfl:=Option.some.inj ho;refine wpOp_step rfl (fun K' hK=>?_);go_simp;refine hK _ _ ?_;exact ⟨(.pointer (some ⟨w.heap.size,0,none⟩)),v19,v20,v21,v22,v23,v24,v25,v26,v27,v28,v29,v30,v31,v32,v33,v34,v35,v36,o1,o2,bl,_,rfl,hB,hC,hR,⟨hi_1,hi_2,h17c⟩,h3,⟨fun _=>rfl,e1,e2,e5,e6,e7,e8,e10,e13,e14,e15,e16,e18⟩,fun _=>rfl,fun h=>absurd (h19f.symm.trans h) (by decide),fun h=>absurd (h19f.symm.trans h) (by decide)⟩
    | 1,ho,hf,haf=>
     obtain rfl:=Option.some.inj ho;simp [Region.binds] at haf;have f0:=haf;have g0:=e0 f0;subst g0;have hc:w2.cell? ⟨w.heap.size,0,none⟩=some (.slice Ax xs.length px):=(hB.cell (p:=⟨w.heap.size,0,none⟩) (by simp; omega)).trans (ak hN0);refine wpOp_step rfl (fun K' hK=>?_);go_simp;refine hK _ _ ?_;exact ⟨_,(.slice Ax xs.length px),v20,v21,v22,v23,v24,v25,v26,v27,v28,v29,v30,v31,v32,v33,v34,v35,v36,o1,o2,bl,_,rfl,hB,hC,hR,⟨hi_1,hi_2,h17c⟩,h3,⟨e0,fun _=>rfl,e2,e5,e6,e7,e8,e10,e13,e14,e15,e16,e18⟩,fun _=>rfl,fun h=>absurd (h19f.symm.trans h) (by decide),fun h=>absurd (h19f.symm.trans h) (by decide)⟩
    | 2,ho,hf,haf=>
     obtain rfl:=Option.some.inj ho;have hc:w2.cell? ⟨w.heap.size+1,0,none⟩=some (.string a.name):=(hB.cell (p:=⟨w.heap.size+1,0,none⟩) (by simp; omega)).trans (ak hN1);have hc':w2.cell? ⟨w.heap.size+1,1,none⟩=some (.slice Aa a.args.length ca):=(hB.cell (p:=⟨w.heap.size+1,1,none⟩) (by simp; omega)).trans (ak hN1);refine wpOp_step rfl (fun K' hK=>?_);go_simp;refine hK _ _ ?_;exact ⟨v18,v19,(.agg #[.string a.name,.slice Aa a.args.length ca]),v21,v22,v23,v24,v25,v26,v27,v28,v29,v30,v31,v32,v33,v34,v35,v36,o1,o2,bl,_,rfl,hB,hC,hR,⟨hi_1,hi_2,h17c⟩,h3,⟨e0,e1,fun _=>rfl,e5,e6,e7,e8,e10,e13,e14,e15,e16,e18⟩,fun _=>rfl,fun h=>absurd (h19f.symm.trans h) (by decide),fun h=>absurd (h19f.symm.trans h) (by decide)⟩
    | 3,ho,hf,haf=>
     obtain rfl:=Option.some.inj ho;simp [Region.binds] at haf;obtain ⟨f1,f2⟩:=haf;have g1:=e1 f1;subst g1;have g2:=e2 f2;subst g2;have g0:=ai.below HX.out hBW;have q:=yY xs a _ _ _ b0 b2 w2 g0 (aj.below HA2.out hBW) hasc (by omega);refine wpOp_step rfl (fun K' hK=>?_);go_simp;refine q.mono ?_;rintro e w3 hr;obtain ⟨hb3,A3,q3,bl3,rfl,h3',hf3⟩:=Fz hr g0 (fun c hc=>List.mem_append_left _ hc)
     have hlo:∀ c ∈ b0 ++ b2,c < w1.heap.size:=fun c hc=>by have:=B1.out.size; rcases List.mem_append.1 hc with hc | hc; have:=HLT0.out c hc; omega; have:=HLT2.out c hc; omega
     refine hK _ _ ?_;exact ⟨v18,_,_,(.slice A3 (fA xs a).length q3),v22,v23,v24,v25,v26,v27,v28,v29,v30,v31,v32,v33,v34,v35,v36,o1,o2,bl3,_,rfl,hB.trans (hb3.mono hsz),fun h=>(hC h).below hb3,fun h=>(hR h).keep fun b hb=>hb3.block b (hi_1 b hb).2,⟨hi_1.keep hb3.size,hi_2.keep hb3.size,h17c⟩,fun _=>⟨⟨_,_,rfl⟩,h3',fun c hc=>⟨fun e=>by have:=hi_1 c e; rcases hf3 c hc with h | h; have:=hlo c h; omega; omega,fun e=>by have:=hi_2 c e; rcases hf3 c hc with h | h; have:=hlo c h; omega; omega,(hf3 c hc).imp id fun h=>Nat.le_trans hsz h⟩⟩,⟨e0,e1,e2,e5,e6,e7,e8,e10,e13,e14,e15,e16,fun h=>absurd ((e18 h).2.1.symm.trans hf) (by decide)⟩,fun _=>rfl,fun h=>absurd (h19f.symm.trans h) (by decide),fun h=>absurd (h19f.symm.trans h) (by decide)⟩
    | 4,ho,hf,haf=>
     obtain rfl:=Option.some.inj ho
     have h17:f 17=false:=by
      cases hc:f 17 with
      | false=>rfl
      | true=>exact absurd (h17c hc).1 (by simp [hf])
     have C:=hC h17;rw [hf] at C;have hA2:Below w2.heap.size w2 (w2.alloc (.cells #[] 3)):=(Below.refl _ _).alloc (Nat.le_refl _) _;have hNI:IV w1.heap.size (w2.alloc (.cells #[] 3)) (some w2.heap.size):=fun c e=>by simp at e; subst e; simp; exact hsz
     refine wpOp_step rfl (fun K' hK=>?_);go_simp;refine hK _ _ ?_;exact ⟨v18,v19,v20,v21,(.slice (some ⟨w2.heap.size,0,none⟩) 0 0),v23,v24,v25,v26,v27,v28,v29,v30,v31,v32,v33,v34,v35,v36,some w2.heap.size,o2,bl,_,rfl,hB.alloc hsz _,fun _=>C.RD hsz,fun h=>absurd (h17.symm.trans h) (by decide),⟨hNI,hi_2.keep hA2.size,fun h=>absurd (h17.symm.trans h) (by decide)⟩,fun f3=>⟨(h3 f3).1,ai.below (h3 f3).2.1 hA2,fun c hc=>⟨fun e=>by have:=ai.lt (h3 f3).2.1 c hc; simp at e; omega,((h3 f3).2.2 c hc).2⟩⟩,⟨e0,e1,e2,e5,e6,e7,e8,e10,e13,e14,e15,e16,e18⟩,fun _=>rfl,fun h=>absurd (h19f.symm.trans h) (by decide),fun h=>absurd (h19f.symm.trans h) (by decide)⟩
    | 5,ho,hf,haf=>
     obtain rfl:=Option.some.inj ho;refine wpOp_step rfl (fun K' hK=>?_);go_simp;refine hK _ _ ?_;exact ⟨v18,v19,v20,v21,v22,(.pointer (some ⟨w.heap.size,1,none⟩)),v24,v25,v26,v27,v28,v29,v30,v31,v32,v33,v34,v35,v36,o1,o2,bl,_,rfl,hB,hC,hR,⟨hi_1,hi_2,h17c⟩,h3,⟨e0,e1,e2,fun _=>rfl,e6,e7,e8,e10,e13,e14,e15,e16,e18⟩,fun _=>rfl,fun h=>absurd (h19f.symm.trans h) (by decide),fun h=>absurd (h19f.symm.trans h) (by decide)⟩
    | 6,ho,hf,haf=>
     obtain rfl:=Option.some.inj ho;simp [Region.binds] at haf;have f5:=haf;have g5:=e5 f5;subst g5;have hc:w2.cell? ⟨w.heap.size,1,none⟩=some (.slice (some ⟨b,o,none⟩) ns.length pr):=(hB.cell (p:=⟨w.heap.size,1,none⟩) (by simp; omega)).trans (ak hN0);refine wpOp_step rfl (fun K' hK=>?_);go_simp;refine hK _ _ ?_;exact ⟨v18,v19,v20,v21,v22,_,(.slice (some ⟨b,o,none⟩) ns.length pr),v25,v26,v27,v28,v29,v30,v31,v32,v33,v34,v35,v36,o1,o2,bl,_,rfl,hB,hC,hR,⟨hi_1,hi_2,h17c⟩,h3,⟨e0,e1,e2,e5,fun _=>rfl,e7,e8,e10,e13,e14,e15,e16,e18⟩,fun _=>rfl,fun h=>absurd (h19f.symm.trans h) (by decide),fun h=>absurd (h19f.symm.trans h) (by decide)⟩
    | 7,ho,hf,haf=>
     obtain rfl:=Option.some.inj ho;refine wpOp_step rfl (fun K' hK=>?_);go_simp;refine hK _ _ ?_;exact ⟨v18,v19,v20,v21,v22,v23,v24,(.int .i64 k),v26,v27,v28,v29,v30,v31,v32,v33,v34,v35,v36,o1,o2,bl,_,rfl,hB,hC,hR,⟨hi_1,hi_2,h17c⟩,h3,⟨e0,e1,e2,e5,e6,fun _=>rfl,e8,e10,e13,e14,e15,e16,e18⟩,fun _=>rfl,fun h=>absurd (h19f.symm.trans h) (by decide),fun h=>absurd (h19f.symm.trans h) (by decide)⟩
    | 8,ho,hf,haf=>
     obtain rfl:=Option.some.inj ho;simp [Region.binds] at haf;obtain ⟨f6,f7⟩:=haf;have g6:=e6 f6;subst g6;have g7:=e7 f7;subst g7;refine wpOp_step rfl (fun K' hK=>?_);go_simp;refine hK _ _ ?_;exact ⟨v18,v19,v20,v21,v22,v23,_,_,_,v27,v28,v29,v30,v31,v32,v33,v34,v35,v36,o1,o2,bl,_,rfl,hB,hC,hR,⟨hi_1,hi_2,h17c⟩,h3,⟨e0,e1,e2,e5,e6,e7,fun _=>rfl,e10,e13,e14,e15,e16,e18⟩,fun _=>rfl,fun h=>absurd (h19f.symm.trans h) (by decide),fun h=>absurd (h19f.symm.trans h) (by decide)⟩
    | 9,ho,hf,haf=>
     obtain rfl:=Option.some.inj ho;simp [Region.binds] at haf;obtain ⟨f4,f8,f3⟩:=haf;have g8:=e8 f8;subst g8
     have h17:f 17=false:=by
      cases hc:f 17 with
      | false=>rfl
      | true=>exact absurd (h17c hc).2.1 (by simp [hf])
     have C:=hC h17;rw [hf,f4] at C;have hE:=C.e_ rfl rfl;refine wpOp_step rfl (fun K' hK=>?_);refine iC rfl (.tmp 22) (.tmp 26) 37 rfl w1.heap.size 3 i0 (.int .i64 0) 1 8 Tryz.underlying37 hinf hy0 hy1 hy2 rfl (by omega) v22 0 [] rfl hE.2.1 (some ⟨b,o,none⟩) k pr (jb (ns.take k)) rfl (by rw [hL1,Nat.mul_one]) (HL1.out w2 hBW) (hone _) (by unfold maxLen; omega) (by omega) hsz (fun A cap w3 hown hg hloc=>hK _ _ ?_);rw [Nat.zero_add] at hown hloc ⊢;rw [List.nil_append] at hown;have hs2:=hg.size;have hB2:=iV hB hE.2.1 (Nat.le_refl _) hsz hg
     have hK3:f 3=true→((∃ A cap,v21=.slice A (fA xs a).length cap)∧aI w3 [v21] (fA xs a) bl∧∀ c ∈ bl,(Value.slice A (k) cap).ownBlock ≠ some c∧o2 ≠ some c∧(c ∈ b0 ++ b2∨w1.heap.size≤c)):=fun f3=>⟨(h3 f3).1,ai.keep (h3 f3).2.1 fun c hc=>hg.block c (ai.lt (h3 f3).2.1 c hc) fun e=>((h3 f3).2.2 c hc).1 (hE.2.2 c e.symm),fun c hc=>⟨fun e=>by
      rcases hloc with hl9 | hl9
      ·rw [hl9] at e; exact ((h3 f3).2.2 c hc).1 (hE.2.2 c e)
      ·rw [hl9] at e; have:=ai.lt (h3 f3).2.1 c hc; simp at e; omega,((h3 f3).2.2 c hc).2⟩⟩
     have hN:rX w1.heap.size 3 k (jb (ns.take k)) (.int .i64 n) (f 4) true (f 11) (f 12) v22 (.slice A k cap) v29 v30 (Value.slice A k cap).ownBlock o2 w3:=by rw [f4]; exact C.fG hsz hown hg hs2 hloc (jq hown)
     exact ⟨v18,v19,v20,v21,v22,v23,v24,v25,_,(.slice A k cap),v28,v29,v30,v31,v32,v33,v34,v35,v36,(Value.slice A k cap).ownBlock,o2,bl,_,rfl,hB2,fun _=>hN,fun h=>absurd (h17.symm.trans h) (by decide),⟨jq hown,hi_2.keep hs2,fun h=>absurd (h17.symm.trans h) (by decide)⟩,hK3,⟨e0,e1,e2,e5,e6,e7,e8,e10,e13,e14,e15,e16,e18⟩,fun _=>rfl,fun h=>absurd (h19f.symm.trans h) (by decide),fun h=>absurd (h19f.symm.trans h) (by decide)⟩
    | 10,ho,hf,haf=>
     obtain rfl:=Option.some.inj ho;refine wpOp_step rfl (fun K' hK=>?_);go_simp;refine hK _ _ ?_;exact ⟨v18,v19,v20,v21,v22,v23,v24,v25,v26,v27,(.int .i64 n),v29,v30,v31,v32,v33,v34,v35,v36,o1,o2,bl,_,rfl,hB,hC,hR,⟨hi_1,hi_2,h17c⟩,h3,⟨e0,e1,e2,e5,e6,e7,e8,fun _=>rfl,e13,e14,e15,e16,e18⟩,fun _=>rfl,fun h=>absurd (h19f.symm.trans h) (by decide),fun h=>absurd (h19f.symm.trans h) (by decide)⟩
    | 11,ho,hf,haf=>
     obtain rfl:=Option.some.inj ho;simp [Region.binds] at haf;have f10:=haf;have g10:=e10 f10;subst g10
     have h17:f 17=false:=by
      cases hc:f 17 with
      | false=>rfl
      | true=>exact absurd (h17c hc).2.2.1 (by simp [hf])
     have C:=hC h17;rw [hf] at C;have hA2:Below w2.heap.size w2 (w2.alloc (.cells #[.int .i64 n] 3)):=(Below.refl _ _).alloc (Nat.le_refl _) _;have hNI:IV w1.heap.size (w2.alloc (.cells #[.int .i64 n] 3)) (some w2.heap.size):=fun c e=>by simp at e; subst e; simp; exact hsz
     refine wpOp_step rfl (fun K' hK=>?_);go_simp;refine hK _ _ ?_;exact ⟨v18,v19,v20,v21,v22,v23,v24,v25,v26,v27,_,(.slice (some ⟨w2.heap.size,0,none⟩) 1 1),v30,v31,v32,v33,v34,v35,v36,o1,some w2.heap.size,bl,_,rfl,hB.alloc hsz _,fun _=>C.stepS hsz,fun h=>absurd (h17.symm.trans h) (by decide),⟨hi_1.keep hA2.size,hNI,fun h=>absurd (h17.symm.trans h) (by decide)⟩,fun f3=>⟨(h3 f3).1,ai.below (h3 f3).2.1 hA2,fun c hc=>⟨((h3 f3).2.2 c hc).1,fun e=>by have:=ai.lt (h3 f3).2.1 c hc; simp at e; omega,((h3 f3).2.2 c hc).2.2⟩⟩,⟨e0,e1,e2,e5,e6,e7,e8,e10,e13,e14,e15,e16,e18⟩,fun _=>rfl,fun h=>absurd (h19f.symm.trans h) (by decide),fun h=>absurd (h19f.symm.trans h) (by decide)⟩
    | 12,ho,hf,haf=>
     obtain rfl:=Option.some.inj ho;simp [Region.binds] at haf;obtain ⟨f9,f11,_⟩:=haf
     have h17:f 17=false:=by
      cases hc:f 17 with
      | false=>rfl
      | true=>exact absurd (h17c hc).2.2.2 (by simp [hf])
     have C:=hC h17;have hbe0:f 4=true:=C.hr f9;rw [hf,f9,f11,hbe0] at C;have hE:=C.r_ rfl rfl;obtain ⟨l,rfl,hl,_⟩:=C.s_ rfl rfl;refine wpOp_step rfl (fun K' hK=>?_);refine iC rfl (.tmp 27) (.tmp 29) 37 rfl w1.heap.size 3 i0 (.int .i64 0) 1 8 Tryz.underlying37 hinf hy0 hy1 hy2 rfl (by omega) v27 k (jb (ns.take k)) rfl hE.2.1 (some ⟨l,0,none⟩) 1 1 [.int .i64 n] rfl rfl (aS hl) (fun u hu=>by rw [List.mem_singleton.1 hu]; rfl) (by unfold maxLen; omega) (by omega) hsz (fun A cap w3 hown hg hloc=>hK _ _ ?_);have hs2:=hg.size;have hB2:=iV hB hE.2.1 (Nat.le_refl _) hsz hg
     have hK3:f 3=true→((∃ A cap,v21=.slice A (fA xs a).length cap)∧aI w3 [v21] (fA xs a) bl∧∀ c ∈ bl,(Value.slice A (k+1) cap).ownBlock ≠ some c∧o2 ≠ some c∧(c ∈ b0 ++ b2∨w1.heap.size≤c)):=fun f3=>⟨(h3 f3).1,ai.keep (h3 f3).2.1 fun c hc=>hg.block c (ai.lt (h3 f3).2.1 c hc) fun e=>((h3 f3).2.2 c hc).1 (hE.2.2 c e.symm),fun c hc=>⟨fun e=>by
      rcases hloc with hl9 | hl9
      ·rw [hl9] at e; exact ((h3 f3).2.2 c hc).1 (hE.2.2 c e)
      ·rw [hl9] at e; have:=ai.lt (h3 f3).2.1 c hc; simp at e; omega,((h3 f3).2.2 c hc).2⟩⟩
     have hN:rX w1.heap.size 3 k (jb (ns.take k)) (.int .i64 n) (f 4) (f 9) (f 11) true v22 v27 (.slice (some ⟨l,0,none⟩) 1 1) (.slice A (k+1) cap) (Value.slice A (k+1) cap).ownBlock o2 w3:=by rw [hbe0,f9,f11]; exact C.RF hsz hown hg hs2 hloc (jq hown)
     exact ⟨v18,v19,v20,v21,v22,v23,v24,v25,v26,v27,v28,_,(.slice A (k+1) cap),v31,v32,v33,v34,v35,v36,(Value.slice A (k+1) cap).ownBlock,o2,bl,_,rfl,hB2,fun _=>hN,fun h=>absurd (h17.symm.trans h) (by decide),⟨jq hown,hi_2.keep hs2,fun h=>absurd (h17.symm.trans h) (by decide)⟩,hK3,⟨e0,e1,e2,e5,e6,e7,e8,e10,e13,e14,e15,e16,e18⟩,fun _=>rfl,fun h=>absurd (h19f.symm.trans h) (by decide),fun h=>absurd (h19f.symm.trans h) (by decide)⟩
    | 13,ho,hf,haf=>
     obtain rfl:=Option.some.inj ho;refine wpOp_step rfl (fun K' hK=>?_);go_simp;refine hK _ _ ?_;exact ⟨v18,v19,v20,v21,v22,v23,v24,v25,v26,v27,v28,v29,v30,(.pointer (some ⟨w.heap.size,1,none⟩)),v32,v33,v34,v35,v36,o1,o2,bl,_,rfl,hB,hC,hR,⟨hi_1,hi_2,h17c⟩,h3,⟨e0,e1,e2,e5,e6,e7,e8,e10,fun _=>rfl,e14,e15,e16,e18⟩,fun _=>rfl,fun h=>absurd (h19f.symm.trans h) (by decide),fun h=>absurd (h19f.symm.trans h) (by decide)⟩
    | 14,ho,hf,haf=>
     obtain rfl:=Option.some.inj ho;simp [Region.binds] at haf;have f13:=haf;have g13:=e13 f13;subst g13;have hc:w2.cell? ⟨w.heap.size,1,none⟩=some (.slice (some ⟨b,o,none⟩) ns.length pr):=(hB.cell (p:=⟨w.heap.size,1,none⟩) (by simp; omega)).trans (ak hN0);refine wpOp_step rfl (fun K' hK=>?_);go_simp;refine hK _ _ ?_;exact ⟨v18,v19,v20,v21,v22,v23,v24,v25,v26,v27,v28,v29,v30,_,(.slice (some ⟨b,o,none⟩) ns.length pr),v33,v34,v35,v36,o1,o2,bl,_,rfl,hB,hC,hR,⟨hi_1,hi_2,h17c⟩,h3,⟨e0,e1,e2,e5,e6,e7,e8,e10,e13,fun _=>rfl,e15,e16,e18⟩,fun _=>rfl,fun h=>absurd (h19f.symm.trans h) (by decide),fun h=>absurd (h19f.symm.trans h) (by decide)⟩
    | 15,ho,hf,haf=>
     obtain rfl:=Option.some.inj ho;refine wpOp_step rfl (fun K' hK=>?_);go_simp;refine hK _ _ ?_;exact ⟨v18,v19,v20,v21,v22,v23,v24,v25,v26,v27,v28,v29,v30,v31,v32,(.int .i64 k),v34,v35,v36,o1,o2,bl,_,rfl,hB,hC,hR,⟨hi_1,hi_2,h17c⟩,h3,⟨e0,e1,e2,e5,e6,e7,e8,e10,e13,e14,fun _=>rfl,e16,e18⟩,fun _=>rfl,fun h=>absurd (h19f.symm.trans h) (by decide),fun h=>absurd (h19f.symm.trans h) (by decide)⟩
    | 16,ho,hf,haf=>
     obtain rfl:=Option.some.inj ho;simp [Region.binds] at haf;obtain ⟨f14,f15⟩:=haf;have g14:=e14 f14;subst g14;have g15:=e15 f15;subst g15;by_cases hce:pr=k
     ·have hct:(pr=k)=True:=eq_true hce
      rw [if_pos hce] at hV34;refine wpOp_step rfl (fun K' hK=>?_);go_simp;refine hK _ _ ?_;subst hce;exact ⟨v18,v19,v20,v21,v22,v23,v24,v25,v26,v27,v28,v29,v30,v31,_,_,_,v35,v36,o1,o2,bl,_,rfl,hB,hC,hR,⟨hi_1,hi_2,h17c⟩,h3,⟨e0,e1,e2,e5,e6,e7,e8,e10,e13,e14,e15,fun _=>hV34.symm,e18⟩,fun _=>rfl,fun h=>absurd (h19f.symm.trans h) (by decide),fun h=>absurd (h19f.symm.trans h) (by decide)⟩
     ·have hct:(pr=k)=False:=eq_false hce
      rw [if_neg hce] at hV34;have hce2:¬ (pr:Int)=(k:Int):=by omega
      refine wpOp_step rfl (fun K' hK=>?_);go_simp;refine hK _ _ ?_;exact ⟨v18,v19,v20,v21,v22,v23,v24,v25,v26,v27,v28,v29,v30,v31,_,_,_,v35,v36,o1,o2,bl,_,rfl,hB,hC,hR,⟨hi_1,hi_2,h17c⟩,h3,⟨e0,e1,e2,e5,e6,e7,e8,e10,e13,e14,e15,fun _=>hV34.symm,e18⟩,fun _=>rfl,fun h=>absurd (h19f.symm.trans h) (by decide),fun h=>absurd (h19f.symm.trans h) (by decide)⟩
    | 17,ho,hf,haf=>
     obtain rfl:=Option.some.inj ho;simp [Region.binds] at haf;obtain ⟨f12,f16,_⟩:=haf;have g16:=e16 f16;subst g16;have C:=hC hf;rw [f12] at C;have hE:=C.f_ rfl;have h9b:=C.hf rfl;have h4b:=C.hr h9b.1;obtain ⟨Ay,cy,hVy,hLy⟩:=hLX;refine wpOp_step rfl (fun K' hK=>?_);refine iC rfl (.tmp 30) (.tmp 34) 37 rfl w1.heap.size 3 i0 (.int .i64 0) 1 8 Tryz.underlying37 hinf hy0 hy1 hy2 rfl (by omega) v30 (k+1) (jb (ns.take k) ++ [.int .i64 n]) rfl hE.2.1 Ay (ns.length - k) cy (jb (ns.drop k)) hVy (by rw [hL2,Nat.mul_one]) (hLy w2 hBW) (hone _) (by have:=HLN.out; unfold maxLen; omega) (by have:=HLN.out; omega) hsz (fun A cap w3 hown hg hloc=>hK _ _ ?_);have hs2:=hg.size;have hB2:=iV hB hE.2.1 (Nat.le_refl _) hsz hg
     have hK3:f 3=true→((∃ A cap,v21=.slice A (fA xs a).length cap)∧aI w3 [v21] (fA xs a) bl∧∀ c ∈ bl,(Value.slice A (k+1+(ns.length - k)) cap).ownBlock ≠ some c∧o2 ≠ some c∧(c ∈ b0 ++ b2∨w1.heap.size≤c)):=fun f3=>⟨(h3 f3).1,ai.keep (h3 f3).2.1 fun c hc=>hg.block c (ai.lt (h3 f3).2.1 c hc) fun e=>((h3 f3).2.2 c hc).1 (hE.2.2 c e.symm),fun c hc=>⟨fun e=>by
      rcases hloc with hl9 | hl9
      ·rw [hl9] at e; exact ((h3 f3).2.2 c hc).1 (hE.2.2 c e)
      ·rw [hl9] at e; have:=ai.lt (h3 f3).2.1 c hc; simp at e; omega,((h3 f3).2.2 c hc).2⟩⟩
     exact ⟨v18,v19,v20,v21,v22,v23,v24,v25,v26,v27,v28,v29,v30,v31,v32,v33,_,(.slice A (k+1+(ns.length - k)) cap),v36,(Value.slice A (k+1+(ns.length - k)) cap).ownBlock,o2,bl,_,rfl,hB2,fun h=>(by cases h),fun _=>by rw [hL2]; exact ⟨⟨_,_,rfl⟩,hown,fun b hb=>hb⟩,⟨jq hown,hi_2.keep hs2,fun _=>⟨h4b,h9b.1,h9b.2,f12⟩⟩,hK3,⟨e0,e1,e2,e5,e6,e7,e8,e10,e13,e14,e15,e16,fun h=>absurd ((e18 h).2.2.symm.trans hf) (by decide)⟩,fun _=>rfl,fun h=>absurd (h19f.symm.trans h) (by decide),fun h=>absurd (h19f.symm.trans h) (by decide)⟩
    | 18,ho,hf,haf=>
     obtain rfl:=Option.some.inj ho;simp [Region.binds] at haf;obtain ⟨f3,f17⟩:=haf;obtain ⟨⟨A3,q3,rfl⟩,_⟩:=h3 f3;obtain ⟨⟨A4,q4,hv35⟩,_⟩:=hR f17;rw [hL2] at hv35;subst hv35;refine wpOp_step rfl (fun K' hK=>?_);go_simp;refine hK _ _ ?_;exact ⟨v18,v19,v20,_,v22,v23,v24,v25,v26,v27,v28,v29,v30,v31,v32,v33,v34,_,_,o1,o2,bl,_,rfl,hB,hC,hR,⟨hi_1,hi_2,h17c⟩,h3,⟨e0,e1,e2,e5,e6,e7,e8,e10,e13,e14,e15,e16,fun _=>⟨rfl,f3,f17⟩⟩,fun _=>rfl,fun h=>absurd (h19f.symm.trans h) (by decide),fun h=>absurd (h19f.symm.trans h) (by decide)⟩
    | q+19,ho,hf,haf=>
     rw [Array.getElem?_eq_none (by simp; omega)] at ho;cases ho
end Go.Proofs.YtiidmgchadagbaaGreatDoor
