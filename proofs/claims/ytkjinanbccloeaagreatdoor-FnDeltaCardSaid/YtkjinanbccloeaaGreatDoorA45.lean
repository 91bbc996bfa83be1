/- Of the proof of FnDelta: StAl, EvI, EvC, EvL, DltP, DltL, DltI, DltS, LwDeltaL. -/
import Derived.Test.YtkjinanbccloeaaGreatDoorA44
set_option linter.unusedVariables false
set_option maxHeartbeats 8000000
set_option maxRecDepth 100000
namespace Go.Proofs.YtkjinanbccloeaaGreatDoor
section
open Go.RowKit D
attribute [local go_sem ↓] Go.wp_at_zero Go.wp_at_succ
theorem D.X6 (rs:List Ru) (xs:List A):fA rs xs=(decide (xs.length≤40) && jO rs xs):=by
 unfold fA jO okB aU;by_cases h1:xs.length≤40
 ·have y:xs.length≤300:=by omega
  rw [decide_eq_true h1,decide_eq_true y];simp
 ·rw [decide_eq_false h1]
  simp
theorem uK (rs:List Ru) (xs:List A) (I J:Value) (b1 b2:List Nat) (w:World) (h:eu w [I] rs b1) (U:aB w [J] xs b2) (hg:pO w):
  Calls Tryz.prog 75 #[I,J] w fun e w'=>e=.returned (.bool (fA rs xs))∧Below w.heap.size w w':=by
 have c1:=EZ rs xs I J b1 b2 w h U hg;have HE:=η (X6 rs xs);obtain ⟨a1,cap2,rfl,_,_⟩:=aj U;clear h U hg;generalize jO rs xs=q at *;by_cases hl:(xs.length:Int)≤40
 ·have y:Hid (q=fA rs xs):=η (by rw [HE.out,decide_eq_true (by omega)]; simp)
  go_enter Tryz.func75,Tryz.ntmps75
  go_wp2_with (go_at_call 19; refine c1.mono ?_; rintro e w1 ⟨rfl,a0⟩)
  go_ret;exact ⟨aG y.out,a0⟩
 ·have y:Hid (false=fA rs xs):=η (by rw [HE.out,decide_eq_false (by omega)]; simp)
  go_enter Tryz.func75,Tryz.ntmps75
  go_wp2;go_ret;exact ⟨aG y.out,(Below.refl w.heap.size w)⟩
structure D.zU (w:World) (b1:List Nat) (v:Value) (L:List Value) (xs:List Ru) (wr:World):Prop where
 coll:∃ bs,aY 3 gY (w.heap.size+1) 40 wr v L xs bs∧∀ b ∈ bs,b ∈ b1
 bel:Below w.heap.size w wr
theorem D.zU.below {w wr w':World} {y:List Nat} {v:Value} {L:List Value} {xs:List Ru} (h:zU w y v L xs wr) (hb:Below wr.heap.size wr w'):zU w y v L xs w':=
 ⟨by obtain ⟨bs,hc,h1⟩:=h.coll; exact ⟨bs,hc.below aX hb,h1⟩,h.bel.trans (hb.mono h.bel.size)⟩
def D.VE (rs:List Ru) (L:Nat):List Ru:=rs.filter fun r=>decide (iU rs r.head.name=L)
theorem D.VF (rs:List Ru) (L:Nat):OwnAt rs L (VE rs L):=fun r=>by unfold VE; rw [List.mem_filter,decide_eq_true_iff]
theorem D.Xe {rs:List Ru} (H:xq rs) {k:Nat} (I:k < rs.length) (y:k < (ay rs).length):(ay rs)[k]=iU rs rs[k].head.name:=by
 have J:=(oM H.cyc).2 k I;have U:dV rs k=rs[k]:=by unfold dV; simp [List.getD,I]
 have e2:iV (ay rs) k=(ay rs)[k]:=by unfold iV; simp [List.getD,y]
 rw [← e2,J,U]
structure D.Xf (rs:List Ru) (xs:List A) (L z:Nat) (own:List Ru) (fr:List Nat) (w W:World) (next:List Ru) (fs:List A) (rn:List Nat) (number:Nat) (wr:World):Prop where
 mid:qM rs xs L own next fs rn number
 sub:∀ q ∈ next,q ∈ own
 sN:jJ (z+3) (z+2) z (z+1) (fun _=>True) fr fs rn wr
 bel:Below w.heap.size w wr
 kep:∀ x ∈ fr,wr.heap[x]? = W.heap[x]?
theorem D.VG {own:List Ru} {new:List A} {y:List ByteArray} (h:∀ s,s ∈ y ↔ ∃ t ∈ new,t.name=s):(own.filter fun r=>r.body.any (lY y))=O7 own new:=by
 classical
 unfold O7;refine List.filter_congr fun q _=>?_
 refine congrArg (fun f=>q.body.any f) (funext fun p=>?_);unfold lY;rw [decide_eq_decide.2 (h p.atom.name)]
theorem D.EC {own:List Ru} {y:List ByteArray} (h:y = []):(own.filter fun r=>r.body.any (lY y)) = []:=by
 subst h;rw [List.filter_eq_nil_iff];intro q _ hq;obtain ⟨p,_,I⟩:=List.any_eq_true.1 hq;unfold lY at I;simp at I
def D.CJ (rs:List Ru) (xs:List A) (w:World) (e:Ending) (w':World):Prop:=
 Below w.heap.size w w'∧((fA rs xs=true∧(iF rs xs).2=true∧∃ z fr fs rn,w.heap.size≤z∧e=.returned (.tuple #[.pointer (some ⟨z+2,0,none⟩),.bool true])∧jJ (z+3) (z+2) z (z+1) (fun _=>True) fr fs rn w'∧Xk fs rn (iF rs xs).1∧(∀ x ∈ fs,aW x)∧fs.length≤300) ∨
  ((fA rs xs=true→(iF rs xs).2=false)∧e=.returned (.tuple #[.pointer none,.bool false])))
theorem IU (rs:List Ru) (xs:List A) (v1 v2:Value) (b1 b2:List Nat) (w:World) (h:eu w [v1] rs b1) (h2:aB w [v2] xs b2) (hg:pO w):
  Calls Tryz.prog 72 #[v1,v2] w (CJ rs xs w):=by
 have c1:=uK rs xs v1 v2 b1 b2 w h h2 hg;obtain ⟨Ad,cap,rfl,cg,ci⟩:=aj h;obtain ⟨e3,cap2,rfl,_,_⟩:=aj h2;have dT:=aA (τ cg ci);have HH:=η (ι h h2);obtain ⟨i0,hi,cQ,cT,cU⟩:=info_parts Gt;clear h h2 hg cg ci
 cases hf:fA rs xs with
 | false=>
  have HP:Hid (∀ w',Below w.heap.size w w'→CJ rs xs w (.returned (.tuple #[.pointer none,.bool false])) w'):=η fun w' hb=>⟨hb,.inr ⟨Φ hf,rfl⟩⟩
  rw [hf] at c1;clear hf
  go_enter Tryz.func72,Tryz.ntmps72
  go_wp2_with fail
  refine c1.mono ?_;rintro e w1 ⟨rfl,aD⟩;have HB:=η aD;clear c1 aD;go_wp2;go_ret2;exact HP.out _ HB.out
 | true=>
  have hK:=mV hf;have HF:=η hf;rw [hf] at c1;clear hf
  go_enter Tryz.func72,Tryz.ntmps72
  go_wp2_with fail
  refine c1.mono ?_;rintro e w1 ⟨rfl,aD⟩;have ao:=η aD;clear c1 aD;have hR:=Vo ((qA rs).2 hK.fine);have aE:∀ f ∈ xs,aW f:=fun f hf=>zS (hK.facts f hf)
  have c2:=MQ xs _ b2 w1 (ak.below HH.out.2 ao.out) aE (lG hK.fU) (by have:=hK.n; omega)
  go_wp2_with fail
  refine c2.mono ?_;rintro e w2 ⟨rfl,hS⟩;obtain ⟨cj,ck⟩:=hS.sN (fun x hx=>κ (ak.lt HH.out.2 x hx) ao.out.size);have bp:=η (ao.out.trans (cj.mono ao.out.size));have cl:=η ck;clear hS ck cj c2;have c3:=yH rs _ b1 w2 (aQ.below HH.out.1 bp.out) hK.m hK.ok
  go_wp2_with fail
  refine c3.mono ?_;rintro e w3 ⟨bE,a9⟩;clear c3
  rcases a9 with ⟨bz,_⟩ | ⟨_,v5,b5,rfl,aL,aM⟩
  ·have:=hK.fine.no
   rw [this] at bz; cases bz
  ·obtain ⟨A5,c5,rfl,_,_⟩:=aj aL
   have a1:jJ (w1.heap.size+3) (w1.heap.size+2) w1.heap.size (w1.heap.size+1) (fun _=>True) b5 xs (List.replicate xs.length 0) w3:=by
    have:=(cl.out.mono (Fb':=fun _=>True) fun _ _ _=>trivial).more bE b5 fun x hx=>⟨(aM.own x hx).1,aM.lt hx⟩
    simpa using this
   have cm:Hid (qL rs xs 0 xs (List.replicate xs.length 0) 0):=η (all_start hK.fU aE (by have:=hK.n; omega));have cn:=η a1;have co:=η (bp.out.trans (bE.mono bp.out.size));have cq:=η aL;have cV:Hid ((ay rs).length=rs.length):=η (gG rs);clear a1 aL aM bE cl;have aq:=η hR;have HK:=η hK;have cr:=η ao.out.size;have cW:rs.length≤8:=hK.m;clear aE hR hK;go_wp2;generalize w1.heap.size=z at *;clear ao bp
   go_loopw [9,30] (fun v9 i wr=>∃ (L:Nat) (fs:List A) (rn:List Nat) (number:Nat),L≤rs.length∧i=.int .i64 L∧v9=.int .i64 number∧qL rs xs L fs rn number∧jJ (z+3) (z+2) z (z+1) (fun _=>True) b5 fs rn wr∧Below w.heap.size w wr∧∀ x ∈ b5,wr.heap[x]? = w3.heap[x]?) (fun _ i _=>rs.length - (intOf i).toNat)
   case atStart=>exact ⟨0,xs,_,0,ε,rfl,rfl,cm.out,cn.out,co.out,fun x _=>rfl⟩
   case round=>
    obtain ⟨L,fs,rn,number,hL,rfl,rfl,a6,a1,af,aR⟩:=hrel;clear cm cn co;have cX:=η a6;have b3:=η a1;have b4:=η af;have bA:=η aR;by_cases a7:L < rs.length
    ·have cv:Hid (zU wr b1 (.slice none 0 0) [] [] wr):=η ⟨⟨[],aY.nil _,fun b hb=>by simp at hb⟩,ϑ⟩
     have e4:(0:Int)≤(L:Int):=by omega
     have cY:(L:Int) < (rs.length:Int):=by omega
     have b8:=η a7;clear a6 a1 af aR;obtain ⟨W0,d3⟩:∃ W0,W0=wr:=⟨_,rfl⟩;subst d3;go_wp2
     go_loopw [11,35] (fun v i d4=>∃ (k:Nat) (Av:Option Addr) (cp:Nat) (M:List Value) (ys:List Ru),k≤rs.length∧i=.int .i64 k∧v=.slice Av ys.length cp∧ys=(rs.take k).filter (fun r=>decide (iU rs r.head.name=L))∧zU W0 b1 (.slice Av ys.length cp) M ys d4) (fun _ i _=>rs.length - (intOf i).toNat)
     case atStart=>exact ⟨0,none,0,[],[],ε,rfl,rfl,rfl,cv.out⟩
     case round=>
      obtain ⟨k,Av,cp,M,ys,hk,rfl,rfl,bL,hV⟩:=hrel;clear cv;have HY:=η bL
      have bO:Hid (ys.length≤1000000):=η (by
       rw [bL];refine τ (List.length_filter_le _ _) ?_
       rw [List.length_take]; omega)
      clear bL;have hB:=b4.out.trans (hV.bel.mono b4.out.size);by_cases a7:k < rs.length
      ·obtain ⟨b,o,Ae,ce,Af,cf,bk,rfl,_,d0,d1,d2,bR,bB⟩:=iP HH.out.1 a7
       replace d0:=ξ hB d0;replace d1:=ξ hB d1;replace d2:=ξ hB d2;have aa:k < (ay rs).length:=by rw [cV.out]; exact a7
       obtain ⟨b7,o7,rfl,cw,e7⟩:=qC cq.out aa;have e8:wr.cell? ⟨b7,o7+k,none⟩=some (.int .i64 ((ay rs)[k]:Nat)):=(World.cell?_of_block ((hV.bel.block b7 (b3.out.lt.2.2 _ cw)).trans (bA.out _ cw))).trans e7;have e5:(0:Int)≤(k:Int):=by omega
       have d5:(k:Int) < (rs.length:Int):=by omega
       have e6:(k:Int) < ((ay rs).length:Int):=by omega
       have bq:=Xe aq.out a7 aa;have hA:Below wr.heap.size wr (wr.alloc (.cells #[.string rs[k].head.name,.slice Ae rs[k].head.args.length ce,.slice Af rs[k].body.length cf] 40)):=ζ;have bX:=η (hV.below hA);have d6:=η (aX.below (aX.below bR hB) hA);have cx:=η (BF (fun r:Ru=>decide (iU rs r.head.name=L)) rs k a7);have d7:Hid (∀ c ∈ bk,c < W0.heap.size):=η fun c hc=>κ (aX.lt bR c hc) b4.out.size
       have cy:=η bB;have e9:W0.heap.size≤wr.heap.size:=hV.bel.size;have ea:=lt_of_cell e8;clear bR bB hV hA hB e7;generalize (ay rs)[k]=lv at *;generalize rs[k]=r at *;obtain ⟨⟨nm,args⟩,body⟩:=r;dsimp only at *;have ag:=η a7;clear a7 aa;by_cases hq:lv=L
       ·have d8:((lv:Int) == (L:Int))=true:=beq_iff_eq.2 (by omega)
        have HQ:Hid ((rs.take (k+1)).filter (fun r=>decide (iU rs r.head.name=L))=ys ++ [(⟨⟨nm,args⟩,body⟩:Ru)]):=η (by rw [cx.out,HY.out,if_pos (by simp [← bq,hq])]);have br:Below (wr.alloc (.cells #[.string nm,.slice Ae args.length ce,.slice Af body.length cf] 40)).heap.size (wr.alloc (.cells #[.string nm,.slice Ae args.length ce,.slice Af body.length cf] 40)) ((wr.alloc (.cells #[.string nm,.slice Ae args.length ce,.slice Af body.length cf] 40)).alloc (.cells #[.string nm,.slice Ae args.length ce,.slice Af body.length cf] 40)):=ζ;obtain ⟨d9,ar,b9⟩:=(bX.out.below br).coll;have HC:=η ar;have da:=η b9;have HB:=η (bX.out.below br).bel;have HR:Hid (aT 3 gY ((wr.alloc (.cells #[.string nm,.slice Ae args.length ce,.slice Af body.length cf] 40)).alloc (.cells #[.string nm,.slice Ae args.length ce,.slice Af body.length cf] 40)) [.string nm,.slice Ae args.length ce,.slice Af body.length cf] [(⟨⟨nm,args⟩,body⟩:Ru)] bk):=η (aT.dH oI (aX.below d6.out br))
        have HL:Hid (Lies ((wr.alloc (.cells #[.string nm,.slice Ae args.length ce,.slice Af body.length cf] 40)).alloc (.cells #[.string nm,.slice Ae args.length ce,.slice Af body.length cf] 40)) (some ⟨wr.heap.size+1,0,none⟩) [.string nm,.slice Ae args.length ce,.slice Af body.length cf]):=η (by
         have:=aS (ω (wr.alloc (.cells #[.string nm,.slice Ae args.length ce,.slice Af body.length cf] 40)) (.cells #[.string nm,.slice Ae args.length ce,.slice Af body.length cf] 40))
         simpa using this)
        have HF:Hid (∀ c,c < W0.heap.size+1→(Value.slice Av ys.length cp).ownBlock ≠ some c):=η fun c hc=>aO ar.own hc
        have bc:W0.heap.size+1≤((wr.alloc (.cells #[.string nm,.slice Ae args.length ce,.slice Af body.length cf] 40)).alloc (.cells #[.string nm,.slice Ae args.length ce,.slice Af body.length cf] 40)).heap.size:=by simp; omega
        have db:=η bc;clear ar b9 br bc bq hq
        go_wp2_with (at_builtin; refine cO rfl _ _ _ rfl (W0.heap.size+1) 40 i0 (.agg #[.string ⟨#[]⟩,.slice none 0 0,.slice none 0 0]) 3 64 Tryz.underlying23 hi cQ cT cU rfl (by omega) aX (.slice Av ys.length cp) ys.length _ _ _ rfl HC.out rfl (some ⟨wr.heap.size+1,0,none⟩) 1 1 _ [⟨⟨nm,args⟩,body⟩] _ rfl HR.out rfl HL.out (fun c hc=>HF.out c (by have:=d7.out c hc; omega)) (by have:=bO.out; unfold maxLen; omega) (by have:=bO.out; omega) W0 W0.heap.size HB.out (Nat.le_succ _) db.out ?_; intro A9 dc w9 cz cA de dg)
        have di:Hid (zU W0 b1 (.slice A9 (ys ++ [(⟨⟨nm,args⟩,body⟩:Ru)]).length dc) (M ++ [.string nm,.slice Ae args.length ce,.slice Af body.length cf]) (ys ++ [(⟨⟨nm,args⟩,body⟩:Ru)]) w9):=η ⟨⟨_,by rw [χ]; exact cz,fun b hb=>(μ.1 hb).elim (da.out b) (cy.out b)⟩,cA⟩;have cB:ys.length+1=(ys ++ [(⟨⟨nm,args⟩,body⟩:Ru)]).length:=by simp
        rw [cB];clear cz cA de dg HC HB HR HL HF cB;go_roundw
        case rel=>exact ⟨k+1,_,_,_,_,ag.out,by go_num,rfl,HQ.out.symm,di.out⟩
        case measure=>have:=ag.out; simp [intOf]; omega
       ·have d8:((lv:Int) == (L:Int))=false:=by
         rw [beq_eq_false_iff_ne]; omega
        have HQ:Hid ((rs.take (k+1)).filter (fun r=>decide (iU rs r.head.name=L))=ys):=η (by rw [cx.out,HY.out,if_neg (by simp [← bq,hq])]);clear bq hq;go_wp2;go_roundw
        case rel=>exact ⟨k+1,_,_,_,_,ag.out,by go_num,rfl,HQ.out.symm,bX.out⟩
        case measure=>have:=ag.out; simp [intOf]; omega
      ·have dj:k=rs.length:=by omega
       have d5:¬ (k:Int) < (rs.length:Int):=by omega
       have cD:Hid (ys=VE rs L):=η (by rw [HY.out,ϕ (Nat.le_of_eq dj.symm)]; rfl);obtain ⟨d9,ar,b9⟩:=hV.coll;obtain ⟨b6,bt,y⟩:=ar.slice;obtain ⟨a0,bu⟩:∃ a0,a0=b5 ++ b6.filter (fun b=>decide (W0.heap.size≤b)):=⟨_,rfl⟩
       have bf:jJ (z+3) (z+2) z (z+1) (fun _=>True) a0 fs rn wr:=bu ▸ b3.out.more hV.bel _ fun x hx=>by
        obtain ⟨h1,h2⟩:=List.mem_filter.1 hx;exact ⟨of_decide_eq_true h2,aQ.lt bt x h1⟩
       have cE:Hid (∀ w',Below w.heap.size w w'→(∀ x ∈ a0,w'.heap[x]? = wr.heap[x]?)→eu w' [.slice Av ys.length cp] ys b6):=η fun w' h1 h2=>aQ.keep bt fun b hb=>by
        by_cases dk:W0.heap.size≤b
        ·exact h2 b (bu ▸ Ω _ (List.mem_filter.2 ⟨hb,decide_eq_true dk⟩))
        ·rcases y b hb with h3 | h3
         ·omega
         ·have h4:=aQ.lt HH.out.1 b (b9 b h3)
          exact (h1.block b h4).trans (hB.block b h4).symm
       have cG:Hid (∀ x ∈ b5,x ∈ a0):=η fun x hx=>bu ▸ Ξ _ hx
       have dl:Hid (∀ x ∈ b5,wr.heap[x]? = w3.heap[x]?):=η fun x hx=>(hV.bel.block x (b3.out.lt.2.2 x hx)).trans (bA.out x hx)
       have eb:=η hB;have a2:qM rs xs L ys ys fs rn number:=cX.out.enter;have cI:Hid (Xf rs xs L z ys a0 w wr ys fs rn number wr):=η ⟨a2,fun q hq=>hq,bf,hB,fun x _=>rfl⟩;have cJ:Hid (eu wr [.slice Av ys.length cp] ys b6):=η bt;clear hV ar bt y bu bf hB a2 HY b9;obtain ⟨W9,dp⟩:∃ W9,W9=wr:=⟨_,rfl⟩;subst dp;go_wp2
       go_loopg [9,14] 1000 (fun gg v9 ds cK=>∃ (next:List Ru) (c4:Option Addr) (c6:Nat) (c7:List Nat) (I:List A) (a4:List Nat) (J:Nat),v9=.int .i64 J∧ds=.slice c4 next.length c6∧2 * (300 - I.length)+(if next = [] then 0 else 1)≤gg∧Aside (Xf rs xs L z ys a0 w W9 next I a4 J cK)∧Aside (eu cK [.slice c4 next.length c6] next c7))
       case atStart=>exact ⟨ys,Av,cp,b6,fs,rn,number,rfl,rfl,by split <;> omega,cI.out,cJ.out⟩
       case round=>
        obtain ⟨next,c4,c6,c7,I,a4,J,rfl,rfl,bv,a5,c8⟩:=hrel;clear cI cJ;by_cases bg:next = []
        ·subst bg
         have HD:Hid (qL rs xs (L+1) I a4 J∧jJ (z+3) (z+2) z (z+1) (fun _=>True) b5 I a4 wr∧Below w.heap.size w wr∧∀ x ∈ b5,wr.heap[x]? = w3.heap[x]?):=η ⟨a5.out.mid.done aq.out (Nat.le_of_lt b8.out) (cD.out ▸ VF rs L),a5.out.sN.sub cG.out,a5.out.bel,fun x hx=>(a5.out.kep x (cG.out x hx)).trans (dl.out x hx)⟩;clear a5 c8 bv;go_wp2;go_roundw
         case rel=>exact ⟨L+1,I,a4,J,b8.out,by go_num,rfl,HD.out⟩
         case measure=>have:=b8.out; simp [intOf]; omega
        ·have e0:0 < next.length:=List.length_pos_iff.2 bg
         rw [if_neg bg] at bv;have ec:(0:Int) < (next.length:Int):=by omega
         obtain ⟨c9,dt,ed,am⟩:=a5.out.mid.few;have ab:OwnAt rs L ys:=cD.out ▸ VF rs L;have ac:=Sz (z+3) (z+2) z (z+1) (fun _=>True) (fun _ _=>trivial) a0 I a4 next _ c7 (J+1) w.heap.size wr a5.out.sN c8.out am c9 (by omega) (fun r hr=>aq.out.fol r ((ab r).1 (a5.out.sub r hr)).1) (by have:=cr.out; omega);have e1:(0:Int)≤(J:Int):=by omega
         have e2:(J:Int)≤300:=by omega
         have bh:((J+1:Nat):Int)=(J:Int)+1:=by omega
         rw [bh] at ac;clear bh;have HG:=η bv;have cL:=η bg;have bi:=η a5.out;have cP:=η ab;clear bv bg a5 c8 am ab dt
         go_wp2_with fail
         refine ac.mono ?_;rintro e w5 ⟨bj,a9⟩;clear ac
         rcases a9 with ⟨new,mc,n,Lm,fm,rfl,av,bl,aw,ca,az,aa,bw,ee,bn,cb⟩ | ⟨rfl,new,av,bl,aw⟩
         ·have U:=bi.out.bel.trans bj
          have a3:∀ x ∈ a0,w5.heap[x]? = W9.heap[x]?:=fun x hx=>(aa x hx).trans (bi.out.kep x hx)
          have a2:=bi.out.mid.round aq.out (Nat.le_of_lt b8.out) cP.out cL.out av aw ca;have HT:=η (Ls mc n Lm fm ys (.slice Av ys.length cp) b6 w5 (cE.out w5 U a3) bw cb bO.out);have bx:=η bw;by_cases hz:new = []
          ·have ae:Lm = []:=List.eq_nil_iff_forall_not_mem.2 fun s hs=>by
            obtain ⟨t,ht,_⟩:=(bn s).1 hs;rw [hz] at ht; simp at ht
           have bo:jJ (z+3) (z+2) z (z+1) (fun _=>True) a0 I a4 w5:=by
            rw [hz] at az; simpa using az
           have HN:Hid ((ys.filter fun r=>r.body.any (lY Lm)) = []∧∀ w6,Below w5.heap.size w5 w6→Xf rs xs L z ys a0 w W9 (ys.filter fun r=>r.body.any (lY Lm)) I a4 J w6):=η ⟨EC ae,fun w6 y=>by
            rw [EC ae]
            exact ⟨a2.1 hz,fun q hq=>by simp at hq,bo.later y,U.trans (y.mono U.size),fun x hx=>(y.block x (bo.lt.2.2 x hx)).trans (a3 x hx)⟩⟩
           have du:(Lm.length:Int)=0:=by rw [ae]; rfl
           clear bj az bo aa bw bn cb U a3 a2 ae av bl aw ca
           go_wp2_with (at_len; refine iC _ rfl _ _ rfl Tryz.underlying116 _ _ Lm _ rfl bx.out ?_)
           go_wp2_with fail
           refine HT.out.mono ?_;rintro e w6 ⟨y,dv,dx,dy,rfl,a8⟩;have cc:=η (HN.out.2 w6 y);have cd:=η a8;have dz:=η HN.out.1;clear y a8 HT HN bx;go_wp2
           go_roundg (2 * (300 - I.length))
           case measure=>have:=HG.out; omega
           case rel=>exact ⟨_,_,_,_,I,a4,J,rfl,rfl,by rw [if_pos dz.out]; omega,cc.out,cd.out⟩
          ·have eg:0 < new.length:=List.length_pos_iff.2 hz
           have ae:Lm ≠ []:=fun e=>by
            obtain ⟨t,ht⟩:=List.exists_mem_of_ne_nil _ hz;have:=(bn t.name).2 ⟨t,ht,rfl⟩;rw [e] at this; simp at this
           have du:(0:Int) < (Lm.length:Int):=by have:=List.length_pos_iff.2 ae; omega
           have HN:Hid (∀ w6,Below w5.heap.size w5 w6→Xf rs xs L z ys a0 w W9 (ys.filter fun r=>r.body.any (lY Lm)) (I ++ new) (a4 ++ List.replicate new.length (J+1)) (J+1) w6):=η fun w6 y=>by
            have h1:=a2.2 hz;rw [← VG bn] at h1;exact ⟨h1,fun q hq=>(List.mem_filter.1 hq).1,az.later y,U.trans (y.mono U.size),fun x hx=>(y.block x (az.lt.2.2 x hx)).trans (a3 x hx)⟩
           have dC:Hid (2 * (300 - (I ++ new).length)+1 < 2 * (300 - I.length)+1):=η (by rw [χ]; omega);clear bj az aa bw bn cb U a3 a2 ae av bl aw ca
           go_wp2_with (at_len; refine iC _ rfl _ _ rfl Tryz.underlying116 _ _ Lm _ rfl bx.out ?_)
           go_wp2_with fail
           refine HT.out.mono ?_;rintro e w6 ⟨y,dv,dx,dy,rfl,a8⟩;have cc:=η (HN.out w6 y);have cd:=η a8;clear y a8 HT HN bx;go_wp2
           go_roundg (2 * (300 - (I ++ new).length)+1)
           case measure=>have:=HG.out; have:=dC.out; omega
           case rel=>exact ⟨_,_,_,_,I ++ new,_,J+1,by go_num,rfl,by split <;> omega,cc.out,cd.out⟩
         ·have HP:Hid (CJ rs xs w (.returned (.tuple #[.pointer none,.bool false])) w5):=η ⟨bi.out.bel.trans bj,.inr ⟨fun _=>bi.out.mid.over aq.out (Nat.le_of_lt b8.out) cP.out cL.out av bl aw,rfl⟩⟩
          clear bj av bl aw;go_wp2;go_ret2;exact HP.out
    ·have dE:L=rs.length:=by omega
     have cY:¬ (L:Int) < (rs.length:Int):=by omega
     have HP:Hid (CJ rs xs w (.returned (.tuple #[.pointer (some ⟨z+2,0,none⟩),.bool true])) wr):=η (by
      rw [dE] at a6;obtain ⟨h1,h2,h3,h4,h5⟩:=a6.fin aq.out
      exact ⟨af,.inl ⟨HF.out,h1,z,b5,fs,rn,cr.out,rfl,a1,h2,h4,h5⟩⟩)
     clear a6 a1 af aR;go_wp2;go_ret2;exact HP.out
theorem D.zV {rs:List Ru} {xs:List A} (h:fA rs xs=true) (I:(iF rs xs).2=true):qh (iF rs xs).1∧(∀ x ∈ (iF rs xs).1.1,aW x)∧(iF rs xs).1.1.length≤300∧∀ t,t ∈ (iF rs xs).1.1 ↔ O3 rs (fun x=>x ∈ xs) t:=by
 have hK:=mV h
 rcases MX (Vo ((qA rs).2 hK.fine)) hK.fU (fun f hf=>zS (hK.facts f hf)) (by have:=hK.n; omega) with ⟨_,y,J,U,h6⟩ | ⟨y,_⟩
 ·exact ⟨J,U,y,h6⟩
 ·rw [I] at y; cases y
theorem D.yX {rs:List Ru} {xs:List A} (h:fA rs xs=true) (y:(iF rs xs).2=true):bI rs xs=((iF rs xs).1.1,true):=by unfold bI; rw [if_pos h,if_pos y]
theorem D.yY {rs:List Ru} {xs:List A} (h:fA rs xs=true→(iF rs xs).2=false):bI rs xs=([],false):=by
 unfold bI;by_cases y:fA rs xs=true
 ·rw [if_pos y,h y]; rfl
 ·rw [if_neg y]
theorem zW (rs:List Ru) (xs:List A) (v1 v2:Value) (b1 b2:List Nat) (w:World) (h:eu w [v1] rs b1) (h2:aB w [v2] xs b2) (hg:pO w):
  Calls Tryz.prog 53 #[v1,v2] w fun e w'=>Below w.heap.size w w'∧∃ Av cp bs,e=.returned (.tuple #[.slice Av (bI rs xs).1.length cp,.bool (bI rs xs).2])∧aB w' [.slice Av (bI rs xs).1.length cp] (bI rs xs).1 bs:=by
 have c1:=IU rs xs v1 v2 b1 b2 w h h2 hg;obtain ⟨Ad,cap,rfl,a7,a8⟩:=aj h;obtain ⟨ac,cap2,rfl,_,_⟩:=aj h2;clear h h2 hg a7 a8
 go_enter Tryz.func53,Tryz.ntmps53
 go_wp2_with fail
 refine c1.mono ?_;rintro e w1 ⟨y,a2⟩;clear c1
 rcases a2 with ⟨hok,I,z,fr,fs,rn,hz,rfl,a4,U,a0,hlen⟩ | ⟨a5,rfl⟩
 ·obtain ⟨Af,cf,Lf,Ar,cr,Lr,ou,bf,S,_,_⟩:=a4
  have hC:=S.cF;have c2:=IL fs _ Lf bf (z+3) w1 hC (by omega);have x0:w1.cell? ⟨z+2,0,none⟩=some (.slice Af fs.length cf):=ai S.blk;have lx:=lt_of_cell x0
  have hE:Hid (∀ w2 ys L' bs',ys.Perm fs→ys.Pairwise (fun a b=>¬ bU b a < 0)→aY 2 aJ (z+3) 33 w2 (.slice Af fs.length cf) L' ys bs'→gX (fun x=>(Value.slice Af fs.length cf).ownBlock=some x) w1 w2→
    w2.cell? ⟨z+2,0,none⟩=some (.slice Af fs.length cf)∧Below w.heap.size w w2∧(bI rs xs).2=true∧(bI rs xs).1.length=fs.length∧∃ b9,aB w2 [.slice Af fs.length cf] (bI rs xs).1 b9):=η fun w2 ys L' bs' q1 q2 q3 J=>by
   have a6:∀ x,(Value.slice Af fs.length cf).ownBlock=some x→z+3≤x:=fun x hx=>by
    have h9:¬ x < z+3:=fun h=>aO hC.own h hx
    exact Nat.le_of_not_lt h9
   obtain ⟨r1,r2,r3,r4⟩:=zV hok I;have a3:=U.fst r1;have a1:∀ t ∈ ys,aW t:=fun t ht=>a0 t (q1.mem_iff.1 ht)
   have a9:ys.Nodup:=(q1.trans a3).nodup_iff.2 (lG r1.fU);have aa:ys=(iF rs xs).1.1:=Vj (O9 a1 a9 q2) r1.fU a1 r2 fun t=>by rw [q1.mem_iff,a3.mem_iff]
   obtain ⟨b9,ab,_⟩:=q3.slice;rw [yX hok I];refine ⟨(World.cell?_of_block (J.block (z+2) (lt_of_cell x0) (fun e=>by have:=a6 (z+2) e; omega))).trans x0,⟨J.os.trans y.os,J.tape.trans y.tape,J.output.trans y.output,τ y.size J.size,fun k hk=>(J.block k (κ hk y.size) fun e=>by have:=a6 k e; omega).trans (y.block k hk)⟩,rfl,a3.length_eq.symm,b9,?_⟩;rw [← aa];exact ab
  clear S hC U a0 y hok I
  go_wp2_with fail
  refine c2.mono ?_;rintro e w2 ⟨rfl,ys,L',bs',q1,q2,_,J,q5⟩;obtain ⟨y0,y1,y2,y3,b9,y4⟩:=hE.out w2 ys L' bs' q1 q2 J q5;have HB:=η y1;have H4:=η y4;have H2:=η y2;have H3:=η y3;clear hE c2 q1 q2 J q5 y1 y4 y2 y3 x0;go_wp2;go_ret2;rw [H2.out,H3.out];exact ⟨HB.out,Af,cf,b9,rfl,H4.out⟩
 ·have HE:=η (yY a5)
  clear a5;go_wp2;go_ret2;rw [HE.out];exact ⟨y,none,0,[],rfl,⟨none,0,rfl,ν,ε,fun _=>rfl,fun h=>absurd rfl h⟩⟩
theorem GY (rs:List Ru) (xs:List A) (v1 v2:Value) (b1 b2:List Nat) (w:World) (h:eu w [v1] rs b1) (h2:aB w [v2] xs b2) (hg:pO w):
  Calls Tryz.prog 13 #[v1,v2] w (TA aB (bI rs xs) w.heap.size w):=by
 have c1:=zW rs xs v1 v2 b1 b2 w h h2 hg;obtain ⟨Ad,cap,rfl,a1,a2⟩:=aj h;obtain ⟨a3,cap2,rfl,_,_⟩:=aj h2
 have HN:Hid ((bI rs xs).1.length≤16777216∧∀ a ∈ (bI rs xs).1,a.args.length≤16777216):=η (by
  by_cases hc:fA rs xs=true∧(iF rs xs).2=true
  ·obtain ⟨r1,r2,r3,r4⟩:=zV hc.1 hc.2
   rw [yX hc.1 hc.2];exact ⟨by show (iF rs xs).1.1.length≤_; omega,fun a ha=>by have:=Eu (r2 a ha).ok; omega⟩
  ·rw [yY (fun h=>by
    cases hr:(iF rs xs).2
    ·rfl
    ·exact absurd ⟨h,hr⟩ hc)]
   exact ⟨ε,fun a ha=>by simp at ha⟩)
 clear h h2 hg a1 a2;generalize bI rs xs=ev at *;obtain ⟨el,eb⟩:=ev;dsimp only at *
 go_enter Tryz.func13,Tryz.ntmps13
 go_wp2_with fail
 refine c1.mono ?_;rintro e w1 ⟨I,Av,cp,bs,rfl,J⟩;have c2:=mX el _ bs w1 J HN.out.1 HN.out.2;have y:=η I;clear c1 J I
 go_wp2_with fail
 refine c2.mono ?_;rintro e w2 ⟨U,v9,b9,rfl,h9,a0⟩;obtain ⟨A9,c9,rfl,_,_⟩:=aj h9;have HZ:Hid (TA aB (el,eb) w.heap.size w (.returned (.tuple #[.slice A9 el.length c9,.bool eb])) w2):=η ⟨y.out.trans (U.mono y.out.size),_,b9,rfl,h9,a0.mono y.out.size⟩;clear c2 U h9 a0;go_wp2;go_ret2;exact HZ.out
end
section
open Go.RowKit D
theorem D.ED (rs:List Ru) (xs:List A):(fA rs xs=true∧(iF rs xs).2=true∧bI rs xs=((iF rs xs).1.1,true))∨bI rs xs=([],false):=by
 by_cases hc:fA rs xs=true∧(iF rs xs).2=true
 ·exact .inl ⟨hc.1,hc.2,yX hc.1 hc.2⟩
 ·refine .inr (yY fun h=>?_)
  cases hr:(iF rs xs).2
  ·rfl
  ·exact absurd ⟨h,hr⟩ hc
theorem D.X7 {xs:List A} (h1:xs.length≤300) (y:∀ x ∈ xs,aW x) (I:fU xs=true):aU xs=true:=by
 unfold aU;simp only [ο,decide_eq_true_eq,List.all_eq_true];exact ⟨⟨h1,fun x J=>vC (y x J)⟩,I⟩
theorem D.SA {rs:List Ru} {xs:List A} (h0:fH rs=0) (h1:xs.length≤40) (y:∀ x ∈ xs,aW x) (I:fU xs=true) (J:rG (aI rs) xs=true):fA rs xs=true:=by
 unfold fA okB;simp only [ο,decide_eq_true_eq,List.all_eq_true];exact ⟨⟨h0,⟨fun x U=>vC (y x U),I⟩,h1⟩,J⟩
structure D.VH (rs:List Ru) (xs:List A):Prop where
 prog:fH rs=0
 few:xs.length≤40
 fact:∀ x ∈ xs,aW x
 fU:fU xs=true
 fit:rG (aI rs) xs=true
theorem D.zX {rs:List Ru} {xs:List A}:fA rs xs=true ↔ VH rs xs:=by
 constructor
 ·intro h
  have hK:=mV h;exact ⟨(qA rs).2 hK.fine,hK.n,fun x y=>zS (hK.facts x y),hK.fU,hK.fit⟩
 ·exact fun h=>SA h.prog h.few h.fact h.fU h.fit
theorem D.VH.rules {rs:List Ru} {xs:List A} (h:VH rs xs):xq rs:=Vo h.prog
theorem D.Pg {rs:List Ru} {xs:List A} (h:VH rs xs):(∃ ys,bI rs xs=(ys,true)∧fU ys=true∧(∀ y ∈ ys,aW y)∧ys.length≤300∧∀ t,t ∈ ys ↔ O3 rs (fun x=>x ∈ xs) t) ∨
  (bI rs xs=([],false)∧∃ L:List A,L.Nodup∧300 < L.length∧∀ t ∈ L,O3 rs (fun x=>x ∈ xs) t):=by
 have hok:=zX.2 h
 rcases MX h.rules h.fU h.fact (by have:=h.few; omega) with ⟨I,J,U,h5,h6⟩ | ⟨I,hL⟩
 ·exact .inl ⟨_,yX hok I,U.fU,h5,J,h6⟩
 ·exact .inr ⟨yY fun _=>I,hL⟩
theorem D.Nl {rs:List Ru} {xs:List A} (h:(bI rs xs).2=true):VH rs xs∧fU (bI rs xs).1=true∧(∀ y ∈ (bI rs xs).1,aW y)∧(bI rs xs).1.length≤300∧∀ t,t ∈ (bI rs xs).1 ↔ O3 rs (fun x=>x ∈ xs) t:=by
 rcases ED rs xs with ⟨h1,h2,e⟩ | e
 ·have hin:=zX.1 h1
  rcases Pg hin with ⟨ys,I,J,U,h5,h6⟩ | ⟨I,_⟩
  ·rw [I]
   exact ⟨hin,J,U,h5,h6⟩
  ·rw [I] at h; cases h
 ·rw [e] at h; cases h
section
variable {rs:List Ru} {xs:List A}
end
def D.eP (rs:List Ru) (xs:List A) (c:Ch):Ch × Bool:=
 if (fA rs xs && dX c)=true then (if ((bI rs xs).2 && (bI rs (behind xs c)).2)=true then (qE (bI rs xs).1 (bI rs (behind xs c)).1,true) else (⟨[],[]⟩,false)) else (⟨[],[]⟩,false)
theorem D.su {rs:List Ru} {xs:List A}:aU (bI rs xs).1=true:=by
 rcases ED rs xs with ⟨h1,y,e⟩ | e
 ·rw [e]
  obtain ⟨r1,I,J,_⟩:=zV h1 y
  exact wE J (fun x U=>by
   have h:=I x U;unfold dN kN;rw [h.ok,Bool.true_and,Bool.not_eq_true',List.any_eq_false];intro t ht;rw [h.gr t ht]
   simp) r1.fU
 ·rw [e]; rfl
theorem D.qj {rs:List Ru} {xs:List A} (h:fA rs xs=true):aU xs=true:=by
 have hK:=mV h;exact wE (by have:=hK.n; omega) hK.facts hK.fU
theorem D.BL (xs:List A):behind xs ⟨[],[]⟩=xs:=by
 unfold behind kT bZ;simp only [List.foldl_nil];rw [List.filter_eq_self];intro x _;simp [hasB]
theorem D.Fg:dX ⟨[],[]⟩=true:=by decide
theorem D.GZ {rs:List Ru} {xs:List A} {c:Ch} (h:(eP rs xs c).2=true):fA rs xs=true∧dX c=true∧(bI rs xs).2=true∧(bI rs (behind xs c)).2=true∧(eP rs xs c).1=qE (bI rs xs).1 (bI rs (behind xs c)).1:=by
 unfold eP at *
 split at h
 ·rename_i h1
  split at h
  ·rename_i h2
   rw [ο] at h1 h2;refine ⟨h1.1,h1.2,h2.1,h2.2,?_⟩;rw [if_pos (by rw [h1.1,h1.2]; rfl),if_pos (by rw [h2.1,h2.2]; rfl)]
  ·cases h
 ·cases h
theorem D.VI {rs:List Ru} {xs:List A} {c:Ch} (h1:fA rs xs=true) (y:dX c=true) (I:(bI rs xs).2=true) (J:(bI rs (behind xs c)).2=true):eP rs xs c=(qE (bI rs xs).1 (bI rs (behind xs c)).1,true):=by
 unfold eP;rw [h1,y,I,J]; rfl
theorem D.oV (rs:List Ru) (xs:List A):aU (bI rs xs).1=true:=su
theorem D.X8 {xs:List A} {c:Ch} (y:aU xs=true) (hc:dX c=true) (I:(behind xs c).length≤300):SG xs c=behind xs c:=by
 unfold SG;rw [y,hc,Bool.and_self,if_pos rfl,if_pos I]
theorem D.SB {rs:List Ru} {xs:List A} {c:Ch} (h:(eP rs xs c).2=true):SG xs c=behind xs c∧dX (eP rs xs c).1=true∧SG (bI rs xs).1 (eP rs xs c).1=(bI rs (behind xs c)).1∧eP rs xs ⟨[],[]⟩=(⟨[],[]⟩,true):=by
 obtain ⟨h1,U,y,I,J⟩:=GZ h;have hx:=qj h1;have hb:=(zX.2 (Nl I).1);have hl:(behind xs c).length≤40:=(Nl I).1.few
 have e:qE (bI rs xs).1 (bI rs (behind xs c)).1=⟨bZ (bI rs (behind xs c)).1 (bI rs xs).1,bZ (bI rs xs).1 (bI rs (behind xs c)).1⟩:=by
  unfold qE; rw [oV,oV]; rfl
 refine ⟨X8 hx U (by omega),?_,?_,?_⟩
 ·rw [J,e]; exact UC (oV _ _) (oV _ _)
 ·rw [J,e]; exact XL (oV _ _) (oV _ _)
 ·rw [VI h1 Fg y (by rw [BL]; exact y),BL]
  unfold qE;rw [oV];simp [Rw]
end
section
open Go.RowKit D
attribute [local go_sem ↓] Go.wp_at_zero Go.wp_at_succ
theorem EF (rs:List Ru) (xs:List A) (c:Ch) (v1 v2 c0 c1:Value) (b1 b2 b3:List Nat) (w:World) (h:eu w [v1] rs b1) (h2:aB w [v2] xs b2) (h3:fQ w [c0,c1] c b3) (hg:pO w):
  Calls Tryz.prog 29 #[v1,v2,.agg #[c0,c1]] w (WB (eP rs xs c) w.heap.size w):=by
 obtain ⟨Ad,cap,rfl,_,_⟩:=aj h;obtain ⟨aE,cap2,rfl,_,_⟩:=aj h2;obtain ⟨Aa,ca,Ag,cg,rfl,rfl⟩:=gy h3;have hA:Below w.heap.size w ((w.alloc (.cells #[.slice Aa c.comes.length ca,.slice Ag c.goes.length cg] 54)).alloc (.cells #[.slice none 0 0,.slice none 0 0] 54)):=(ζ).alloc (by simp) _;have k1:=fun w' (J:Below w.heap.size w w')=>uK rs xs _ _ b1 b2 w' (aQ.below h J) (ak.below h2 J) (hg.below J)
 have k2:=fun w' (J:Below w.heap.size w w')=>qg c _ _ b3 w' (dS.below h3 J)
 have k3:=fun w' (J:Below w.heap.size w w')=>zW rs xs _ _ b1 b2 w' (aQ.below h J) (ak.below h2 J) (hg.below J)
 have k4:=fun (hx:aU xs=true) (hc:dX c=true) w' (J:Below w.heap.size w w')=>BI xs c _ _ _ b2 b3 w' (ak.below h2 J) (dS.below h3 J) (by have:=gZ hx; omega) (by have:=gZ (iR hc).1; omega) (by have:=gZ (iR hc).2; omega)
 have k5:=fun ys v' bs' w' (J:Below w.heap.size w w') (h':aB w' [v'] ys bs')=>zW rs ys _ _ b1 bs' w' (aQ.below h J) h' (hg.below J)
 have HD:=η (show eP rs xs c=_ from rfl);have HX:=η fun (h0:fA rs xs=true)=>qj h0
 have y:Hid (((w.alloc (.cells #[.slice Aa c.comes.length ca,.slice Ag c.goes.length cg] 54)).alloc (.cells #[.slice none 0 0,.slice none 0 0] 54)).heap[w.heap.size+1]? = some (.cells #[.slice none 0 0,.slice none 0 0] 54 (0,0))):=η (kU w _ _).2;have x0:((w.alloc (.cells #[.slice Aa c.comes.length ca,.slice Ag c.goes.length cg] 54)).alloc (.cells #[.slice none 0 0,.slice none 0 0] 54)).cell? ⟨w.heap.size,0,none⟩=some (.slice Aa c.comes.length ca):=by go_simp
 have x1:((w.alloc (.cells #[.slice Aa c.comes.length ca,.slice Ag c.goes.length cg] 54)).alloc (.cells #[.slice none 0 0,.slice none 0 0] 54)).cell? ⟨w.heap.size,1,none⟩=some (.slice Ag c.goes.length cg):=by go_simp
 clear h h2 h3 hg HD
 go_enter Tryz.func29,Tryz.ntmps29
 go_wp2_with fail
 refine (k1 _ hA).mono ?_;rintro e w1 ⟨rfl,a4⟩;have B1:=hA.trans (a4.mono hA.size);replace y:=η (eX a4 y.out);replace x0:=ξ a4 x0;replace x1:=ξ a4 x1;clear k1 hA a4
 cases hok:fA rs xs with
 | false=>
  have I:Hid (eP rs xs c=(⟨[],[]⟩,false)):=η (by unfold eP; rw [hok]; rfl);clear hok k2 k3 k4 k5 HX;have z0:w1.cell? ⟨w.heap.size+1,0,none⟩=some (.slice none 0 0):=dB y.out;have z1:w1.cell? ⟨w.heap.size+1,1,none⟩=some (.slice none 0 0):=dB y.out;have f0:w1.frozen? ⟨w.heap.size+1,0,none⟩=false:=bJ y.out;have f1:w1.frozen? ⟨w.heap.size+1,1,none⟩=false:=bJ y.out;have HF:=η (fK (c:=⟨[],[]⟩) y.out (bQ _) (bQ _));go_wp2;refine bodyPost_ret (v:=.tuple #[.agg #[.slice none 0 0,.slice none 0 0],.bool false]) (by simp [results,Tryz.results29,go_sem,z0,z1]) rfl ⟨(B1.setCell (by dsimp only; omega) _).setCell (by dsimp only; omega) _,_,[],by rw [I.out],by rw [I.out]; exact HF.out,New.nil _ _⟩
 | true=>
  have hx:=HX.out hok;have av:=η hx;have ac:=η hok;clear HX hok
  go_wp2_with fail
  refine (k2 _ B1).mono ?_;rintro e w2 ⟨rfl,a5⟩;have B2:=B1.trans (a5.mono B1.size);replace y:=η (eX a5 y.out);replace x0:=ξ a5 x0;replace x1:=ξ a5 x1;clear k2 a5
  cases hc:dX c with
  | false=>
   have I:Hid (eP rs xs c=(⟨[],[]⟩,false)):=η (by unfold eP; rw [ac.out,hc]; rfl);clear hc hx k3 k4 k5;have z0:w2.cell? ⟨w.heap.size+1,0,none⟩=some (.slice none 0 0):=dB y.out;have z1:w2.cell? ⟨w.heap.size+1,1,none⟩=some (.slice none 0 0):=dB y.out;have f0:w2.frozen? ⟨w.heap.size+1,0,none⟩=false:=bJ y.out;have f1:w2.frozen? ⟨w.heap.size+1,1,none⟩=false:=bJ y.out;have HF:=η (fK (c:=⟨[],[]⟩) y.out (bQ _) (bQ _));go_wp2;refine bodyPost_ret (v:=.tuple #[.agg #[.slice none 0 0,.slice none 0 0],.bool false]) (by simp [results,Tryz.results29,go_sem,z0,z1]) rfl ⟨(B2.setCell (by dsimp only; omega) _).setCell (by dsimp only; omega) _,_,[],by rw [I.out],by rw [I.out]; exact HF.out,New.nil _ _⟩
  | true=>
   have HC:=η hc;have K4:=η (k4 hx hc);clear k4 hc hx;have K3:=η k3;have K5:=η k5;clear k3 k5;have HD:Hid (eP rs xs c=if ((bI rs xs).2 && (bI rs (behind xs c)).2)=true then (qE (bI rs xs).1 (bI rs (behind xs c)).1,true) else (⟨[],[]⟩,false)):=η (by unfold eP; rw [ac.out,HC.out]; rfl)
   go_wp2_with fail
   refine (K4.out _ B2).mono ?_;rintro e w3 ⟨a1,v3,aL,U',hU,rfl,h3⟩;obtain ⟨A3,p3,rfl,_,_⟩:=aj h3;have B3:=B2.trans (a1.mono B2.size);replace y:=η (eX a1 y.out);replace x0:=ξ a1 x0;replace x1:=ξ a1 x1;have aa:dw (fZ xs c.goes) c.comes=behind xs c:=yE av.out HC.out;rw [aa] at hU ⊢;by_cases a6:(behind xs c).length≤300
   case neg=>
    rw [decide_eq_false a6];clear K4 a1 h3;have ae:bI rs (behind xs c)=([],false):=yY fun e=>absurd (mV e).n (by omega)
    have I:Hid (eP rs xs c=(⟨[],[]⟩,false)):=η (by rw [HD.out,ae]; simp);clear K3 K5 hU aa ae;have z0:w3.cell? ⟨w.heap.size+1,0,none⟩=some (.slice none 0 0):=dB y.out;have z1:w3.cell? ⟨w.heap.size+1,1,none⟩=some (.slice none 0 0):=dB y.out;have f0:w3.frozen? ⟨w.heap.size+1,0,none⟩=false:=bJ y.out;have f1:w3.frozen? ⟨w.heap.size+1,1,none⟩=false:=bJ y.out;have HF:=η (fK (c:=⟨[],[]⟩) y.out (bQ _) (bQ _));go_wp2;refine bodyPost_ret (v:=.tuple #[.agg #[.slice none 0 0,.slice none 0 0],.bool false]) (by simp [results,Tryz.results29,go_sem,z0,z1]) rfl ⟨(B3.setCell (by dsimp only; omega) _).setCell (by dsimp only; omega) _,_,[],by rw [I.out],by rw [I.out]; exact HF.out,New.nil _ _⟩
   rw [decide_eq_true a6];rw [if_pos a6] at hU;subst hU;have H3:=η h3;clear a1 h3 K4 aa
   go_wp2_with fail
   refine (K3.out _ B3).mono ?_;rintro e w4 ⟨a2,A4,p4,ba,rfl,af⟩;have B4:=B3.trans (a2.mono B3.size);replace y:=η (eX a2 y.out);replace x0:=ξ a2 x0;replace x1:=ξ a2 x1;have a9:=η af;replace H3:=η (ak.below H3.out a2);clear a2 af K3
   cases he1:(bI rs xs).2 with
   | false=>
    have I:Hid (eP rs xs c=(⟨[],[]⟩,false)):=η (by rw [HD.out,he1]; simp);clear he1 K5;have z0:w4.cell? ⟨w.heap.size+1,0,none⟩=some (.slice none 0 0):=dB y.out;have z1:w4.cell? ⟨w.heap.size+1,1,none⟩=some (.slice none 0 0):=dB y.out;have f0:w4.frozen? ⟨w.heap.size+1,0,none⟩=false:=bJ y.out;have f1:w4.frozen? ⟨w.heap.size+1,1,none⟩=false:=bJ y.out;have HF:=η (fK (c:=⟨[],[]⟩) y.out (bQ _) (bQ _));go_wp2;refine bodyPost_ret (v:=.tuple #[.agg #[.slice none 0 0,.slice none 0 0],.bool false]) (by simp [results,Tryz.results29,go_sem,z0,z1]) rfl ⟨(B4.setCell (by dsimp only; omega) _).setCell (by dsimp only; omega) _,_,[],by rw [I.out],by rw [I.out]; exact HF.out,New.nil _ _⟩
   | true=>
    have aw:=η he1;clear he1;have k5:=K5.out _ _ _ _ B4 H3.out;clear K5 H3
    go_wp2_with fail
    refine k5.mono ?_;rintro e w5 ⟨a3,A5,p5,bb,rfl,ag⟩;have B5:=B4.trans (a3.mono B4.size);replace y:=η (eX a3 y.out);replace x0:=ξ a3 x0;replace x1:=ξ a3 x1;replace a9:=η (ak.below a9.out a3);have am:=η ag;clear a3 ag k5
    cases he2:(bI rs (behind xs c)).2 with
    | false=>
     have I:Hid (eP rs xs c=(⟨[],[]⟩,false)):=η (by rw [HD.out,he2]; simp);clear he2;have z0:w5.cell? ⟨w.heap.size+1,0,none⟩=some (.slice none 0 0):=dB y.out;have z1:w5.cell? ⟨w.heap.size+1,1,none⟩=some (.slice none 0 0):=dB y.out;have f0:w5.frozen? ⟨w.heap.size+1,0,none⟩=false:=bJ y.out;have f1:w5.frozen? ⟨w.heap.size+1,1,none⟩=false:=bJ y.out;have HF:=η (fK (c:=⟨[],[]⟩) y.out (bQ _) (bQ _));go_wp2;refine bodyPost_ret (v:=.tuple #[.agg #[.slice none 0 0,.slice none 0 0],.bool false]) (by simp [results,Tryz.results29,go_sem,z0,z1]) rfl ⟨(B5.setCell (by dsimp only; omega) _).setCell (by dsimp only; omega) _,_,[],by rw [I.out],by rw [I.out]; exact HF.out,New.nil _ _⟩
    | true=>
     have I:Hid (eP rs xs c=(qE (bI rs xs).1 (bI rs (behind xs c)).1,true)):=η (by rw [HD.out,aw.out,he2]; rfl);clear he2 HD;generalize eP rs xs c=G at *;have U:aU (bI rs xs).1=true:=su;have a0:aU (bI rs (behind xs c)).1=true:=su;have ao:(⟨fZ (bI rs (behind xs c)).1 (bI rs xs).1,fZ (bI rs xs).1 (bI rs (behind xs c)).1⟩:Ch)=qE (bI rs xs).1 (bI rs (behind xs c)).1:=by unfold qE; rw [U,a0,wB (dQ U) (dQ a0),wB (dQ a0) (dQ U)]; rfl
     have ab:DU (qE (bI rs xs).1 (bI rs (behind xs c)).1).comes∧DU (qE (bI rs xs).1 (bI rs (behind xs c)).1).goes:=by
      unfold qE; rw [U,a0]; exact ⟨KT (jQ a0) _,KT (jQ U) _⟩
     have k6:=Ep _ _ _ _ ba bb w5 a9.out am.out (by have:=gZ U; omega) (by have:=gZ a0; omega);rw [ao] at k6;generalize qE (bI rs xs).1 (bI rs (behind xs c)).1=C at *;clear a9 am U a0 ao
     go_wp2_with fail
     refine k6.mono ?_;rintro e w6 ⟨a7,aM,b6,rfl,h6⟩;obtain ⟨A6,p6,E6,q6,rfl⟩:=kG h6;have B6:=B5.trans (a7.mono B5.size);replace y:=η (eX a7 y.out);replace x0:=ξ a7 x0;replace x1:=ξ a7 x1;have az:Hid (w.heap.size+1 < w6.heap.size):=η (ψ y.out);have k7:=Ea C _ _ b6 w6 h6 ab.1 ab.2;clear a7 h6 k6 ab
     go_wp2_with fail
     refine k7.mono ?_;rintro e w7 ⟨a8,aR,b7,rfl,h7,n7⟩;obtain ⟨A7,p7,E7,q7,rfl⟩:=kG h7;have B7:=B6.trans (a8.mono B6.size);replace y:=η (eX a8 y.out);replace x0:=ξ a8 x0;replace x1:=ξ a8 x1;have H7:=η h7;have N7:=η n7;clear a8 h7 n7 k7;have z0:w7.cell? ⟨w.heap.size+1,0,none⟩=some (.slice none 0 0):=dB y.out;have z1:w7.cell? ⟨w.heap.size+1,1,none⟩=some (.slice none 0 0):=dB y.out;have f0:w7.frozen? ⟨w.heap.size+1,0,none⟩=false:=bJ y.out;have f1:w7.frozen? ⟨w.heap.size+1,1,none⟩=false:=bJ y.out;obtain ⟨e1,e2,aD,aq,ar⟩:=iG H7.out;have HF:=η (fK (c:=C) y.out aq ar);clear aq ar
     have HN:Hid (New w.heap.size ((w7.setCell ⟨w.heap.size+1,0,none⟩ (.slice A7 C.comes.length p7)).setCell ⟨w.heap.size+1,1,none⟩ (.slice E7 C.goes.length q7)) (e1 ++ e2)):=η (by
      rw [← aD];have h9:=B6.size;refine ⟨N7.out.nodup,fun b hb=>?_⟩;have h8:=N7.out.own b hb;have b4:w.heap.size+1 < w6.heap.size:=az.out;refine ⟨by omega,?_⟩;rw [π _ _ _ _ (by dsimp only; omega),π _ _ _ _ (by dsimp only; omega)]
      exact h8.2)
     go_wp2;refine bodyPost_ret (v:=.tuple #[.agg #[.slice A7 C.comes.length p7,.slice E7 C.goes.length q7],.bool true]) (by simp [results,Tryz.results29,go_sem,z0,z1]) rfl ⟨(B7.setCell (by dsimp only; omega) _).setCell (by dsimp only; omega) _,_,_,by rw [I.out],by rw [I.out]; exact HF.out,HN.out⟩
theorem Ph (rs:List Ru) (xs:List A) (c:Ch) (v1 v2 c0 c1:Value) (b1 b2 b3:List Nat) (w:World) (h:eu w [v1] rs b1) (h2:aB w [v2] xs b2) (h3:fQ w [c0,c1] c b3):
  Calls Tryz.prog 30 #[v1,v2,.agg #[c0,c1]] w (WA (eP rs xs c) w.heap.size w):=by
 obtain ⟨Ad,cap,rfl,_,_⟩:=aj h;obtain ⟨ae,cap2,rfl,_,_⟩:=aj h2;obtain ⟨Aa,ca,Ag,cg,rfl,rfl⟩:=gy h3;have hA:Below w.heap.size w ((w.alloc (.cells #[.slice Aa c.comes.length ca,.slice Ag c.goes.length cg] 54)).alloc (.cells #[.slice none 0 0,.slice none 0 0] 54)):=(ζ).alloc (by simp) _;have k1:=fun w' (J:Below w.heap.size w w')=>MN rs xs _ _ b1 b2 w' (aQ.below h J) (ak.below h2 J)
 have k2:=fun w' (J:Below w.heap.size w w')=>EU c _ _ b3 w' (dS.below h3 J)
 have k3:=fun w' (J:Below w.heap.size w w')=>eval_any rs xs _ _ b1 b2 w' (aQ.below h J) (ak.below h2 J)
 have k4:=fun (hx:aU xs=true) (hc:dX c=true) w' (J:Below w.heap.size w w')=>U0 xs c _ _ _ b2 b3 w' (ak.below h2 J) (dS.below h3 J) (dQ hx) (dQ (iR hc).2) (jQ hx) (jQ (iR hc).1)
 have k5:=fun ys v' bs' w' (J:Below w.heap.size w w') (h':aB w' [v'] ys bs')=>eval_any rs ys _ _ b1 bs' w' (aQ.below h J) h'
 have HD:=η (show eP rs xs c=_ from rfl);have HX:=η fun (h0:fA rs xs=true)=>qj h0
 have y:Hid (((w.alloc (.cells #[.slice Aa c.comes.length ca,.slice Ag c.goes.length cg] 54)).alloc (.cells #[.slice none 0 0,.slice none 0 0] 54)).heap[w.heap.size+1]? = some (.cells #[.slice none 0 0,.slice none 0 0] 54 (0,0))):=η (kU w _ _).2;have x0:((w.alloc (.cells #[.slice Aa c.comes.length ca,.slice Ag c.goes.length cg] 54)).alloc (.cells #[.slice none 0 0,.slice none 0 0] 54)).cell? ⟨w.heap.size,0,none⟩=some (.slice Aa c.comes.length ca):=by go_simp
 have x1:((w.alloc (.cells #[.slice Aa c.comes.length ca,.slice Ag c.goes.length cg] 54)).alloc (.cells #[.slice none 0 0,.slice none 0 0] 54)).cell? ⟨w.heap.size,1,none⟩=some (.slice Ag c.goes.length cg):=by go_simp
 clear h h2 h3 HD
 go_enter Tryz.func30,Tryz.ntmps30
 go_wp2_with fail
 refine (k1 _ hA).mono ?_;rintro e w1 ⟨rfl,a2⟩;have B1:=hA.trans (a2.mono hA.size);replace y:=η (eX a2 y.out);replace x0:=ξ a2 x0;replace x1:=ξ a2 x1;clear k1 hA a2
 cases hok:fA rs xs with
 | false=>
  have I:Hid (eP rs xs c=(⟨[],[]⟩,false)):=η (by unfold eP; rw [hok]; rfl);clear hok k2 k3 k4 k5 HX;have z0:w1.cell? ⟨w.heap.size+1,0,none⟩=some (.slice none 0 0):=dB y.out;have z1:w1.cell? ⟨w.heap.size+1,1,none⟩=some (.slice none 0 0):=dB y.out;have f0:w1.frozen? ⟨w.heap.size+1,0,none⟩=false:=bJ y.out;have f1:w1.frozen? ⟨w.heap.size+1,1,none⟩=false:=bJ y.out;have HF:=η (fK (c:=⟨[],[]⟩) y.out (bQ _) (bQ _));go_wp2;refine bodyPost_ret (v:=.tuple #[.agg #[.slice none 0 0,.slice none 0 0],.bool false]) (by simp [results,Tryz.results30,go_sem,z0,z1]) rfl ⟨(B1.setCell (by dsimp only; omega) _).setCell (by dsimp only; omega) _,_,_,by rw [I.out],by rw [I.out]; exact HF.out⟩
 | true=>
  have hx:=HX.out hok;have af:=η hx;have a8:=η hok;clear HX hok
  go_wp2_with fail
  refine (k2 _ B1).mono ?_;rintro e w2 ⟨rfl,a3⟩;have B2:=B1.trans (a3.mono B1.size);replace y:=η (eX a3 y.out);replace x0:=ξ a3 x0;replace x1:=ξ a3 x1;clear k2 a3
  cases hc:dX c with
  | false=>
   have I:Hid (eP rs xs c=(⟨[],[]⟩,false)):=η (by unfold eP; rw [a8.out,hc]; rfl);clear hc hx k3 k4 k5;have z0:w2.cell? ⟨w.heap.size+1,0,none⟩=some (.slice none 0 0):=dB y.out;have z1:w2.cell? ⟨w.heap.size+1,1,none⟩=some (.slice none 0 0):=dB y.out;have f0:w2.frozen? ⟨w.heap.size+1,0,none⟩=false:=bJ y.out;have f1:w2.frozen? ⟨w.heap.size+1,1,none⟩=false:=bJ y.out;have HF:=η (fK (c:=⟨[],[]⟩) y.out (bQ _) (bQ _));go_wp2;refine bodyPost_ret (v:=.tuple #[.agg #[.slice none 0 0,.slice none 0 0],.bool false]) (by simp [results,Tryz.results30,go_sem,z0,z1]) rfl ⟨(B2.setCell (by dsimp only; omega) _).setCell (by dsimp only; omega) _,_,_,by rw [I.out],by rw [I.out]; exact HF.out⟩
  | true=>
   have HC:=η hc;have K4:=η (k4 hx hc);clear k4 hc hx;have K3:=η k3;have K5:=η k5;clear k3 k5;have HD:Hid (eP rs xs c=if ((bI rs xs).2 && (bI rs (behind xs c)).2)=true then (qE (bI rs xs).1 (bI rs (behind xs c)).1,true) else (⟨[],[]⟩,false)):=η (by unfold eP; rw [a8.out,HC.out]; rfl)
   go_wp2_with fail
   refine (K3.out _ B2).mono ?_;rintro e w3 ⟨a4,va,ba,rfl,a6⟩;obtain ⟨A3,p3,rfl,_,_⟩:=aj a6;have B3:=B2.trans (a4.mono B2.size);replace y:=η (eX a4 y.out);replace x0:=ξ a4 x0;replace x1:=ξ a4 x1;have U:=η a6;clear a4 a6 K3
   go_wp2_with fail
   refine (K4.out _ B3).mono ?_;rintro e w4 ⟨a0,v4,b4,rfl,h4⟩;obtain ⟨A4,p4,rfl,_,_⟩:=aj h4;have B4:=B3.trans (a0.mono B3.size);replace y:=η (eX a0 y.out);replace x0:=ξ a0 x0;replace x1:=ξ a0 x1;replace U:=η (ak.below U.out a0);have k5:=K5.out _ _ _ _ B4 h4;clear a0 h4 K4 K5
   go_wp2_with fail
   refine k5.mono ?_;rintro e w5 ⟨a1,vb,bb,rfl,a7⟩;obtain ⟨A5,p5,rfl,_,_⟩:=aj a7;have B5:=B4.trans (a1.mono B4.size);replace y:=η (eX a1 y.out);replace x0:=ξ a1 x0;replace x1:=ξ a1 x1;replace U:=η (ak.below U.out a1);have a9:=η a7;clear a1 a7 k5
   cases he1:(bI rs xs).2 with
   | false=>
    have I:Hid (eP rs xs c=(⟨[],[]⟩,false)):=η (by rw [HD.out,he1]; simp);clear he1;have z0:w5.cell? ⟨w.heap.size+1,0,none⟩=some (.slice none 0 0):=dB y.out;have z1:w5.cell? ⟨w.heap.size+1,1,none⟩=some (.slice none 0 0):=dB y.out;have f0:w5.frozen? ⟨w.heap.size+1,0,none⟩=false:=bJ y.out;have f1:w5.frozen? ⟨w.heap.size+1,1,none⟩=false:=bJ y.out;have HF:=η (fK (c:=⟨[],[]⟩) y.out (bQ _) (bQ _));go_wp2;refine bodyPost_ret (v:=.tuple #[.agg #[.slice none 0 0,.slice none 0 0],.bool false]) (by simp [results,Tryz.results30,go_sem,z0,z1]) rfl ⟨(B5.setCell (by dsimp only; omega) _).setCell (by dsimp only; omega) _,_,_,by rw [I.out],by rw [I.out]; exact HF.out⟩
   | true=>
    have ac:=η he1;clear he1
    cases he2:(bI rs (behind xs c)).2 with
    | false=>
     have I:Hid (eP rs xs c=(⟨[],[]⟩,false)):=η (by rw [HD.out,he2]; simp);clear he2;have z0:w5.cell? ⟨w.heap.size+1,0,none⟩=some (.slice none 0 0):=dB y.out;have z1:w5.cell? ⟨w.heap.size+1,1,none⟩=some (.slice none 0 0):=dB y.out;have f0:w5.frozen? ⟨w.heap.size+1,0,none⟩=false:=bJ y.out;have f1:w5.frozen? ⟨w.heap.size+1,1,none⟩=false:=bJ y.out;have HF:=η (fK (c:=⟨[],[]⟩) y.out (bQ _) (bQ _));go_wp2;refine bodyPost_ret (v:=.tuple #[.agg #[.slice none 0 0,.slice none 0 0],.bool false]) (by simp [results,Tryz.results30,go_sem,z0,z1]) rfl ⟨(B5.setCell (by dsimp only; omega) _).setCell (by dsimp only; omega) _,_,_,by rw [I.out],by rw [I.out]; exact HF.out⟩
    | true=>
     have I:Hid (eP rs xs c=(qE (bI rs xs).1 (bI rs (behind xs c)).1,true)):=η (by rw [HD.out,ac.out,he2]; rfl);clear he2 HD;generalize eP rs xs c=G at *;have k6:=EW _ _ _ _ ba bb w5 U.out a9.out;generalize qE (bI rs xs).1 (bI rs (behind xs c)).1=C at *;clear U a9
     go_wp2_with fail
     refine k6.mono ?_;rintro e w7 ⟨a5,ag,b7,rfl,h7⟩;obtain ⟨A7,p7,E7,q7,rfl⟩:=kG h7;have B7:=B5.trans (a5.mono B5.size);replace y:=η (eX a5 y.out);replace x0:=ξ a5 x0;replace x1:=ξ a5 x1;have H7:=η h7;clear a5 h7 k6;have z0:w7.cell? ⟨w.heap.size+1,0,none⟩=some (.slice none 0 0):=dB y.out;have z1:w7.cell? ⟨w.heap.size+1,1,none⟩=some (.slice none 0 0):=dB y.out;have f0:w7.frozen? ⟨w.heap.size+1,0,none⟩=false:=bJ y.out;have f1:w7.frozen? ⟨w.heap.size+1,1,none⟩=false:=bJ y.out;obtain ⟨e1,e2,am,aa,ab⟩:=iG H7.out;have HF:=η (fK (c:=C) y.out aa ab);clear aa ab;go_wp2;refine bodyPost_ret (v:=.tuple #[.agg #[.slice A7 C.comes.length p7,.slice E7 C.goes.length q7],.bool true]) (by simp [results,Tryz.results30,go_sem,z0,z1]) rfl ⟨(B7.setCell (by dsimp only; omega) _).setCell (by dsimp only; omega) _,_,_,by rw [I.out],by rw [I.out]; exact HF.out⟩
theorem D.SC {rs:List Ru} {xs:List A} {c D:Ch} (h:eP rs xs c=(D,true)):∃ y I,bI rs xs=(y,true)∧bI rs (SG xs c)=(I,true)∧dX D=true∧SG y D=I∧eP rs xs ⟨[],[]⟩=(⟨[],[]⟩,true):=by
 have J:(eP rs xs c).2=true:=by rw [h]
 obtain ⟨k1,k2,U,k4⟩:=SB J;obtain ⟨_,_,h3,h4,_⟩:=GZ J;rw [h] at k2 U;exact ⟨_,_,Prod.ext rfl h3,by rw [k1]; exact Prod.ext rfl h4,k2,U,k4⟩
theorem Fh (cs:List UInt8) (v1:Value) (c4:List Nat) (w:World) (h1:vY w [v1] cs c4) (hg:pO w):
  Calls Tryz.prog 8 #[v1] w fun e w'=>e=.returned (.bool true)∧Below w.heap.size w w':=by
 obtain ⟨Ad,cap,rfl,hl,hm⟩:=aj h1;have cP:=aA (τ hl hm);have HG:=η hg;clear hl hm hg;by_cases hn:cs.length≤1048576
 ·have cB:¬ (1048576:Int) < (cs.length:Int):=by omega
  have hd:=E5 _ cs c4 w h1 hn;clear h1 hn
  go_enter Tryz.func8,Tryz.ntmps8
  go_wp2_with fail
  refine hd.mono ?_;rintro e w1 ⟨rs,A0,c0,b0,xs,A1,c1,b1,c,A2,A3,c2,c3,b2,b3,rfl,c9,cd,hC,hG,cg,ci,cj,bk⟩;have ck:fQ w1 [.slice A2 c.comes.length c2,.slice A3 c.goes.length c3] c (b2 ++ b3):=⟨_,_,b2,b3,rfl,rfl,hC,hG⟩;obtain ⟨D,z,hE⟩:∃ D z,eP rs xs c=(D,z):=⟨_,_,rfl⟩;have HE:=η hE;have a3:Below w1.heap.size w1 (w1.alloc (.cells #[.slice A2 c.comes.length c2,.slice A3 c.goes.length c3] 54)):=ζ;have af:Hid (∀ w',Below (w1.alloc (.cells #[.slice A2 c.comes.length c2,.slice A3 c.goes.length c3] 54)).heap.size (w1.alloc (.cells #[.slice A2 c.comes.length c2,.slice A3 c.goes.length c3] 54)) w'→w'.cell? ⟨w1.heap.size,0,none⟩=some (.slice A2 c.comes.length c2)∧w'.cell? ⟨w1.heap.size,1,none⟩=some (.slice A3 c.goes.length c3)):=η fun w' hb=>⟨ξ hb (ai (ω w1 _)),ξ hb (ai (ω w1 _))⟩
  have I:=η (bk.trans (a3.mono bk.size));have y:=η (ι (aQ.below c9 a3) (ι (ak.below cd a3) (dS.below ck a3)));have cQ:=η (ι cg (ι ci cj));have aM:=EF rs xs c _ _ _ _ b0 b1 _ _ y.out.1 y.out.2.1 y.out.2.2 (HG.out.below I.out);rw [hE] at aM;obtain ⟨x0,x1⟩:=af.out _ ϑ;clear hd c9 cd bk hE cg ci cj hC hG ck a3
  go_wp2_with fail
  obtain ⟨W1,bl⟩:∃ W1,W1=(w1.alloc (.cells #[.slice A2 c.comes.length c2,.slice A3 c.goes.length c3] 54)):=⟨_,rfl⟩;rw [← bl] at aM I y af x0 x1
  first | rw [← bl] | skip
  clear bl;refine aM.mono ?_;rintro e w2 ⟨bn,cT,g2,rfl,aR,-⟩;obtain ⟨A5,c5,A6,c6,rfl⟩:=kG aR;dsimp only at aR;clear x0 x1;have ag:Below w2.heap.size w2 (w2.alloc (.cells #[.slice A5 D.comes.length c5,.slice A6 D.goes.length c6] 54)):=ζ;have aa:Hid (∀ w',Below (w2.alloc (.cells #[.slice A5 D.comes.length c5,.slice A6 D.goes.length c6] 54)).heap.size (w2.alloc (.cells #[.slice A5 D.comes.length c5,.slice A6 D.goes.length c6] 54)) w'→w'.cell? ⟨w2.heap.size,0,none⟩=some (.slice A5 D.comes.length c5)∧w'.cell? ⟨w2.heap.size,1,none⟩=some (.slice A6 D.goes.length c6)):=η fun w' hb=>⟨ξ hb (ai (ω w2 _)),ξ hb (ai (ω w2 _))⟩
  have a1:=η (bn.trans (ag.mono bn.size));have am:=η (dS.below aR ag);obtain ⟨x0,x1⟩:=af.out _ a1.out;obtain ⟨y0,y1⟩:=aa.out _ ϑ;have b4:=Ph rs xs c _ _ _ _ b0 b1 _ _ (aQ.below y.out.1 a1.out) (ak.below y.out.2.1 a1.out) (dS.below y.out.2.2 a1.out);rw [HE.out] at b4;clear aM bn aR ag
  go_wp2_with fail
  obtain ⟨W2,bo⟩:∃ W2,W2=(w2.alloc (.cells #[.slice A5 D.comes.length c5,.slice A6 D.goes.length c6] 54)):=⟨_,rfl⟩;rw [← bo] at b4 a1 am aa x0 x1 y0 y1
  first | rw [← bo] | skip
  clear bo;refine b4.mono ?_;rintro e w3 ⟨bp,cU,g3,rfl,b5⟩;obtain ⟨A7,c7,A8,c8,rfl⟩:=kG b5;dsimp only at b5;clear x0 x1 y0 y1;have ao:Below w3.heap.size w3 (w3.alloc (.cells #[.slice A7 D.comes.length c7,.slice A8 D.goes.length c8] 54)):=ζ;have bq:Hid (∀ w',Below (w3.alloc (.cells #[.slice A7 D.comes.length c7,.slice A8 D.goes.length c8] 54)).heap.size (w3.alloc (.cells #[.slice A7 D.comes.length c7,.slice A8 D.goes.length c8] 54)) w'→w'.cell? ⟨w3.heap.size,0,none⟩=some (.slice A7 D.comes.length c7)∧w'.cell? ⟨w3.heap.size,1,none⟩=some (.slice A8 D.goes.length c8)):=η fun w' hb=>⟨ξ hb (ai (ω w3 _)),ξ hb (ai (ω w3 _))⟩
  have a4:=η (bp.trans (ao.mono bp.size));have cl:=η (a1.out.trans (a4.out.mono a1.out.size));have br:=η (dS.below b5 ao);have cV:(z != z)=false:=by simp
  have cW:(z == z)=true:=by simp
  obtain ⟨x0,x1⟩:=af.out _ cl.out;obtain ⟨y0,y1⟩:=aa.out _ a4.out;obtain ⟨z0,z1⟩:=bq.out _ ϑ;clear b4 bp b5 ao;have bt:=vT D _ _ _ _ g2 g3 _ (dS.below am.out a4.out) br.out
  go_wp2_with fail
  obtain ⟨W3,bu⟩:∃ W3,W3=(w3.alloc (.cells #[.slice A7 D.comes.length c7,.slice A8 D.goes.length c8] 54)):=⟨_,rfl⟩;rw [← bu] at bt a4 cl br bq x0 x1 y0 y1 z0 z1
  first | rw [← bu] | skip
  clear bu;have co:Below W3.heap.size W3 W3:=ϑ;obtain ⟨w4,cD⟩:∃ w4,w4=W3:=⟨_,rfl⟩;subst cD;have aq:=η a4.out;have ar:=η co;clear co x0 x1;refine bt.mono ?_;rintro e w5 ⟨rfl,bv⟩;clear y0 y1 z0 z1 bt;have bc:=η (ar.out.trans (bv.mono ar.out.size));have a5:=η (aq.out.trans (bv.mono aq.out.size));have J:=η (a1.out.trans (a5.out.mono a1.out.size));clear bv aq ar;cases z
  ·obtain ⟨y0,y1⟩:=aa.out _ a5.out
   obtain ⟨z0,z1⟩:=bq.out _ bc.out;have cp:=vT D _ _ _ _ g2 g3 _ (dS.below am.out a5.out) (dS.below br.out bc.out)
   go_wp2_with fail
   refine cp.mono ?_;rintro e w6 ⟨rfl,ab⟩;have a8:=η (J.out.trans (ab.mono J.out.size));clear cp ab y0 y1 z0 z1;go_wp2;go_ret;exact ⟨rfl,I.out.trans (a8.out.mono I.out.size)⟩
  ·obtain ⟨ya,yb,cq,cr,hok,cv,av⟩:=SC HE.out
   have cE:=η hok;have cG:=η cv;have cI:=η cr;have cJ:=η av;have cw:=HG.out.below (I.out.trans (J.out.mono I.out.size));have bw:=GY rs xs _ _ b0 b1 w5 (aQ.below y.out.1 J.out) (ak.below y.out.2.1 J.out) cw;rw [cq] at bw;clear hok cv cr av cq cw
   go_wp2_with fail
   refine bw.mono ?_;rintro e w6 ⟨ab,va,ba,rfl,bx,-⟩;obtain ⟨Aa,ca,rfl,_,_⟩:=aj bx;have a8:=η (J.out.trans (ab.mono J.out.size));have bf:=η (a5.out.trans (ab.mono a5.out.size));have U:=η bx;clear bw ab bx;obtain ⟨x0,x1⟩:=af.out _ a8.out;have ac:=vU xs c _ _ _ b1 _ w6 (ak.below y.out.2.1 a8.out) (dS.below y.out.2.2 a8.out)
   go_wp2_with fail
   refine ac.mono ?_;rintro e w7 ⟨b6,vd,bd,rfl,bz,-⟩;obtain ⟨Ab,cb,rfl,_,_⟩:=aj bz;have b7:=η (a8.out.trans (b6.mono a8.out.size));have bg:=η (bf.out.trans (b6.mono bf.out.size));replace U:=η (ak.below U.out b6);have bA:=GY rs (SG xs c) _ _ b0 bd w7 (aQ.below y.out.1 b7.out) bz (HG.out.below (I.out.trans (b7.out.mono I.out.size)));rw [cI.out] at bA;clear ac b6 bz x0 x1
   go_wp2_with fail
   refine bA.mono ?_;rintro e w8 ⟨b8,vb,bb,rfl,bB,-⟩;obtain ⟨Ac,cc,rfl,_,_⟩:=aj bB;have aw:=η (b7.out.trans (b8.mono b7.out.size));have bh:=η (bg.out.trans (b8.mono bg.out.size));replace U:=η (ak.below U.out b8);have ae:=η bB;have cx:fQ w8 [.slice none 0 0,.slice none 0 0] ⟨[],[]⟩ ([] ++ []):=⟨_,_,[],[],rfl,rfl,bQ _,bQ _⟩;have bE:=EF rs xs ⟨[],[]⟩ _ _ _ _ b0 b1 _ w8 (aQ.below y.out.1 aw.out) (ak.below y.out.2.1 aw.out) cx (HG.out.below (I.out.trans (aw.out.mono I.out.size)));rw [cJ.out] at bE;clear bA b8 bB cx
   go_wp2_with fail
   refine bE.mono ?_;rintro e w9 ⟨a2,cX,gn,rfl,bL,-⟩;obtain ⟨An,cn,Am,cm,rfl⟩:=kG bL;dsimp only at bL;simp only [List.length_nil];have a6:Below w9.heap.size w9 (w9.alloc (.cells #[.slice An 0 cn,.slice Am 0 cm] 54)):=ζ;have cy:Hid (∀ w',Below (w9.alloc (.cells #[.slice An 0 cn,.slice Am 0 cm] 54)).heap.size (w9.alloc (.cells #[.slice An 0 cn,.slice Am 0 cm] 54)) w'→w'.cell? ⟨w9.heap.size,0,none⟩=some (.slice An 0 cn)∧w'.cell? ⟨w9.heap.size,1,none⟩=some (.slice Am 0 cm)):=η fun w' hb=>⟨ξ hb (ai (ω w9 _)),ξ hb (ai (ω w9 _))⟩
   have bO:=η (aw.out.trans ((a2.trans (a6.mono a2.size)).mono aw.out.size));have a7:=η (bh.out.trans ((a2.trans (a6.mono a2.size)).mono bh.out.size));replace U:=η (ak.below U.out (a2.trans (a6.mono a2.size)));replace ae:=η (ak.below ae.out (a2.trans (a6.mono a2.size)));obtain ⟨y0,y1⟩:=aa.out _ a7.out;have b9:=qg D _ _ _ _ (dS.below am.out a7.out);rw [cE.out] at b9;clear bE a2 bL a6
   go_wp2_with fail
   obtain ⟨W9,bR⟩:∃ W9,W9=(w9.alloc (.cells #[.slice An 0 cn,.slice Am 0 cm] 54)):=⟨_,rfl⟩;rw [← bR] at b9 bO a7 cy U ae y0 y1
   first | rw [← bR] | skip
   clear bR;refine b9.mono ?_;rintro e cK ⟨rfl,a0⟩;clear b9 y0 y1;have bi:=η (bO.out.trans (a0.mono bO.out.size));have az:=η (a7.out.trans (a0.mono a7.out.size));have aD:=η a0;replace U:=η (ak.below U.out a0);replace ae:=η (ak.below ae.out a0);obtain ⟨y0,y1⟩:=aa.out _ az.out;have ac:=vU ya D _ _ _ ba _ cK U.out (dS.below am.out az.out);rw [cG.out] at ac;clear a0
   go_wp2_with fail
   refine ac.mono ?_;rintro e cL ⟨a9,ve,be,rfl,bX,-⟩;obtain ⟨Ae,ce,rfl,_,_⟩:=aj bX;have bj:=η (bi.out.trans (a9.mono bi.out.size));have aE:=η (aD.out.trans (a9.mono aD.out.size));have cz:=Lj yb _ _ be bb cL bX (ak.below ae.out a9);clear ac a9 bX y0 y1
   go_wp2_with fail
   refine cz.mono ?_;rintro e cY ⟨rfl,aL⟩;have cA:=η (bj.out.trans (aL.mono bj.out.size));obtain ⟨n0,n1⟩:=cy.out _ (aE.out.trans (aL.mono aE.out.size));clear cz aL;go_wp2;go_ret;exact ⟨rfl,I.out.trans (cA.out.mono I.out.size)⟩
 ·have cB:(1048576:Int) < (cs.length:Int):=by omega
  clear h1
  go_enter Tryz.func8,Tryz.ntmps8
  go_wp2;go_ret;exact ⟨rfl,ϑ⟩
end
end Go.Proofs.YtkjinanbccloeaaGreatDoor
