/- Of the proof of FnEvalOnly: StAl, EvI, EvC, SimQ, EvL, RdsI, RdsS, RdL, EvO, LwEvalOnlyL. -/
import Derived.Test.YtkjinanbccloeaaGreatDoorB43
import Derived.Test.YtkjinanbccloeaaGreatDoorB44
set_option linter.unusedVariables false
set_option maxHeartbeats 8000000
set_option maxRecDepth 100000
namespace Go.Proofs.YtkjinanbccloeaaGreatDoor
section
open Go.RowKit D
attribute [local go_sem ↓] Go.wp_at_zero Go.wp_at_succ
theorem D.Xj (rs:List Ru) (xs:List A):eu rs xs=(decide (xs.length≤40) && eF rs xs):=by
 unfold eu eF okB jy;by_cases h1:xs.length≤40
 ·have y:xs.length≤300:=by omega
  rw [decide_eq_true h1,decide_eq_true y];simp
 ·rw [decide_eq_false h1]
  simp
theorem D6 (rs:List Ru) (xs:List A) (I J:Value) (b1 b2:List Nat) (w:World) (h:dS w [I] rs b1) (U:aU w [J] xs b2) (hg:oV w):
  Calls Tryz.prog 75 #[I,J] w fun e w'=>e=.returned (.bool (eu rs xs))∧Below w.heap.size w w':=by
 have c1:=tX rs xs I J b1 b2 w h U hg;have HE:=η (Xj rs xs);obtain ⟨a1,cap2,rfl,_,_⟩:=ak U;clear h U hg;generalize eF rs xs=q at *;by_cases hl:(xs.length:Int)≤40
 ·have y:Hid (q=eu rs xs):=η (by rw [HE.out,decide_eq_true (by omega)]; simp)
  go_enter Tryz.func75,Tryz.ntmps75
  go_wp2_with (go_at_call 19; refine c1.mono ?_; rintro e w1 ⟨rfl,a0⟩)
  go_ret;exact ⟨aJ y.out,a0⟩
 ·have y:Hid (false=eu rs xs):=η (by rw [HE.out,decide_eq_false (by omega)]; simp)
  go_enter Tryz.func75,Tryz.ntmps75
  go_wp2;go_ret;exact ⟨aJ y.out,(Below.refl w.heap.size w)⟩
structure D.yF (w:World) (b1:List Nat) (v:Value) (L:List Value) (xs:List Ru) (wr:World):Prop where
 coll:∃ bs,aZ 3 fG (w.heap.size+1) 40 wr v L xs bs∧∀ b ∈ bs,b ∈ b1
 bel:Below w.heap.size w wr
theorem D.yF.below {w wr w':World} {y:List Nat} {v:Value} {L:List Value} {xs:List Ru} (h:yF w y v L xs wr) (I:Below wr.heap.size wr w'):yF w y v L xs w':=
 ⟨by obtain ⟨bs,hc,h1⟩:=h.coll; exact ⟨bs,hc.below aV I,h1⟩,h.bel.trans (I.mono h.bel.size)⟩
def D.UQ (rs:List Ru) (L:Nat):List Ru:=rs.filter fun r=>decide (gY rs r.head.name=L)
theorem D.UR (rs:List Ru) (L:Nat):OwnAt rs L (UQ rs L):=fun r=>by unfold UQ; rw [List.mem_filter,decide_eq_true_iff]
theorem D.V5 {rs:List Ru} (H:qF rs) {k:Nat} (I:k < rs.length) (y:k < (ay rs).length):(ay rs)[k]=gY rs rs[k].head.name:=by
 have J:=(nG H.cyc).2 k I;have U:dH rs k=rs[k]:=by unfold dH; simp [List.getD,I]
 have e2:fU (ay rs) k=(ay rs)[k]:=by unfold fU; simp [List.getD,y]
 rw [← e2,J,U]
structure D.V6 (rs:List Ru) (xs:List A) (L z:Nat) (own:List Ru) (fr:List Nat) (w W:World) (next:List Ru) (fs:List A) (rn:List Nat) (number:Nat) (wr:World):Prop where
 mid:pG rs xs L own next fs rn number
 sub:∀ q ∈ next,q ∈ own
 oK:gK (z+3) (z+2) z (z+1) (fun _=>True) fr fs rn wr
 bel:Below w.heap.size w wr
 kep:∀ x ∈ fr,wr.heap[x]? = W.heap[x]?
theorem D.UU {own:List Ru} {new:List A} {y:List ByteArray} (h:∀ s,s ∈ y ↔ ∃ t ∈ new,t.name=s):(own.filter fun r=>r.body.any (kS y))=NZ own new:=by
 classical
 unfold NZ;refine List.filter_congr fun q _=>?_
 refine congrArg (fun f=>q.body.any f) (funext fun p=>?_);unfold kS;rw [decide_eq_decide.2 (h p.atom.name)]
theorem D.D7 {own:List Ru} {y:List ByteArray} (h:y = []):(own.filter fun r=>r.body.any (kS y)) = []:=by
 subst h;rw [List.filter_eq_nil_iff];intro q _ hq;obtain ⟨p,_,I⟩:=List.any_eq_true.1 hq;unfold kS at I;simp at I
def D.Ac (rs:List Ru) (xs:List A) (w:World) (e:Ending) (w':World):Prop:=
 Below w.heap.size w w'∧((eu rs xs=true∧(dW rs xs).2=true∧∃ z fr fs rn,w.heap.size≤z∧e=.returned (.tuple #[.pointer (some ⟨z+2,0,none⟩),.bool true])∧gK (z+3) (z+2) z (z+1) (fun _=>True) fr fs rn w'∧VX fs rn (dW rs xs).1∧(∀ x ∈ fs,aI x)∧fs.length≤300) ∨
  ((eu rs xs=true→(dW rs xs).2=false)∧e=.returned (.tuple #[.pointer none,.bool false])))
theorem Ip (rs:List Ru) (xs:List A) (v1 v2:Value) (b1 b2:List Nat) (w:World) (h:dS w [v1] rs b1) (h2:aU w [v2] xs b2) (hg:oV w):
  Calls Tryz.prog 72 #[v1,v2] w (Ac rs xs w):=by
 have c1:=D6 rs xs v1 v2 b1 b2 w h h2 hg;obtain ⟨Ad,cap,rfl,cd,cg⟩:=ak h;obtain ⟨e1,cap2,rfl,_,_⟩:=ak h2;have dC:=aA (τ cd cg);have HH:=η (ι h h2);obtain ⟨i0,hi,cL,cP,cQ⟩:=info_parts FX;clear h h2 hg cd cg
 cases hf:eu rs xs with
 | false=>
  have HP:Hid (∀ w',Below w.heap.size w w'→Ac rs xs w (.returned (.tuple #[.pointer none,.bool false])) w'):=η fun w' hb=>⟨hb,.inr ⟨Φ hf,rfl⟩⟩
  rw [hf] at c1;clear hf
  go_enter Tryz.func72,Tryz.ntmps72
  go_wp2_with fail
  refine c1.mono ?_;rintro e w1 ⟨rfl,az⟩;have HB:=η az;clear c1 az;go_wp2;go_ret2;exact HP.out _ HB.out
 | true=>
  have hK:=qw hf;have HF:=η hf;rw [hf] at c1;clear hf
  go_enter Tryz.func72,Tryz.ntmps72
  go_wp2_with fail
  refine c1.mono ?_;rintro e w1 ⟨rfl,az⟩;have ao:=η az;clear c1 az;have hR:=Ut ((lN rs).2 hK.fine);have aD:∀ f ∈ xs,aI f:=fun f hf=>sV (hK.facts f hf)
  have c2:=rV xs _ b2 w1 (au.below HH.out.2 ao.out) aD (iG hK.fK) (by have:=hK.n; omega)
  go_wp2_with fail
  refine c2.mono ?_;rintro e w2 ⟨rfl,hS⟩;obtain ⟨ci,cj⟩:=hS.oK (fun x hx=>κ (au.lt HH.out.2 x hx) ao.out.size);have bo:=η (ao.out.trans (ci.mono ao.out.size));have ck:=η cj;clear hS cj ci c2;have c3:=wS rs _ b1 w2 (bJ.below HH.out.1 bo.out) hK.m hK.ok
  go_wp2_with fail
  refine c3.mono ?_;rintro e w3 ⟨bB,a9⟩;clear c3
  rcases a9 with ⟨bx,_⟩ | ⟨_,v5,b5,rfl,aE,aL⟩
  ·have:=hK.fine.no
   rw [this] at bx; cases bx
  ·obtain ⟨A5,c5,rfl,_,_⟩:=ak aE
   have a1:gK (w1.heap.size+3) (w1.heap.size+2) w1.heap.size (w1.heap.size+1) (fun _=>True) b5 xs (List.replicate xs.length 0) w3:=by
    have:=(ck.out.mono (Fb':=fun _=>True) fun _ _ _=>trivial).more bB b5 fun x hx=>⟨(aL.own x hx).1,aL.lt hx⟩
    simpa using this
   have cl:Hid (pF rs xs 0 xs (List.replicate xs.length 0) 0):=η (all_start hK.fK aD (by have:=hK.n; omega));have cm:=η a1;have cn:=η (bo.out.trans (bB.mono bo.out.size));have co:=η aE;have cT:Hid ((ay rs).length=rs.length):=η (fC rs);clear a1 aE aL bB ck;have ap:=η hR;have HK:=η hK;have cq:=η ao.out.size;have cU:rs.length≤8:=hK.m;clear aD hR hK;go_wp2;generalize w1.heap.size=z at *;clear ao bo
   go_loopw [9,30] (fun v9 i wr=>∃ (L:Nat) (fs:List A) (rn:List Nat) (number:Nat),L≤rs.length∧i=.int .i64 L∧v9=.int .i64 number∧pF rs xs L fs rn number∧gK (z+3) (z+2) z (z+1) (fun _=>True) b5 fs rn wr∧Below w.heap.size w wr∧∀ x ∈ b5,wr.heap[x]? = w3.heap[x]?) (fun _ i _=>rs.length - (intOf i).toNat)
   case atStart=>exact ⟨0,xs,_,0,ε,rfl,rfl,cl.out,cm.out,cn.out,fun x _=>rfl⟩
   case round=>
    obtain ⟨L,fs,rn,number,hL,rfl,rfl,a6,a1,af,aM⟩:=hrel;clear cl cm cn;have cV:=η a6;have aR:=η a1;have b3:=η af;have bz:=η aM;by_cases a7:L < rs.length
    ·have cr:Hid (yF wr b1 (.slice none 0 0) [] [] wr):=η ⟨⟨[],aZ.nil _,fun b hb=>by simp at hb⟩,ϑ⟩
     have e2:(0:Int)≤(L:Int):=by omega
     have cW:(L:Int) < (rs.length:Int):=by omega
     have b4:=η a7;clear a6 a1 af aM;obtain ⟨W0,cX⟩:∃ W0,W0=wr:=⟨_,rfl⟩;subst cX;go_wp2
     go_loopw [11,35] (fun v i cY=>∃ (k:Nat) (Av:Option Addr) (cp:Nat) (M:List Value) (ys:List Ru),k≤rs.length∧i=.int .i64 k∧v=.slice Av ys.length cp∧ys=(rs.take k).filter (fun r=>decide (gY rs r.head.name=L))∧yF W0 b1 (.slice Av ys.length cp) M ys cY) (fun _ i _=>rs.length - (intOf i).toNat)
     case atStart=>exact ⟨0,none,0,[],[],ε,rfl,rfl,rfl,cr.out⟩
     case round=>
      obtain ⟨k,Av,cp,M,ys,hk,rfl,rfl,bE,hV⟩:=hrel;clear cr;have HY:=η bE
      have bL:Hid (ys.length≤1000000):=η (by
       rw [bE];refine τ (List.length_filter_le _ _) ?_
       rw [List.length_take]; omega)
      clear bE;have hB:=b3.out.trans (hV.bel.mono b3.out.size);by_cases a7:k < rs.length
      ·obtain ⟨b,o,Ae,ce,Af,cf,bk,rfl,_,d0,d1,d2,bO,bA⟩:=gy HH.out.1 a7
       replace d0:=ξ hB d0;replace d1:=ξ hB d1;replace d2:=ξ hB d2;have aa:k < (ay rs).length:=by rw [cT.out]; exact a7
       obtain ⟨b7,o7,rfl,cu,e7⟩:=nK co.out aa;have e8:wr.cell? ⟨b7,o7+k,none⟩=some (.int .i64 ((ay rs)[k]:Nat)):=(World.cell?_of_block ((hV.bel.block b7 (aR.out.lt.2.2 _ cu)).trans (bz.out _ cu))).trans e7;have e3:(0:Int)≤(k:Int):=by omega
       have d3:(k:Int) < (rs.length:Int):=by omega
       have e4:(k:Int) < ((ay rs).length:Int):=by omega
       have bp:=V5 ap.out a7 aa;have hA:Below wr.heap.size wr (wr.alloc (.cells #[.string rs[k].head.name,.slice Ae rs[k].head.args.length ce,.slice Af rs[k].body.length cf] 40)):=ζ;have bR:=η (hV.below hA);have d4:=η (aV.below (aV.below bO hB) hA);have cv:=η (zo (fun r:Ru=>decide (gY rs r.head.name=L)) rs k a7);have d5:Hid (∀ c ∈ bk,c < W0.heap.size):=η fun c hc=>κ (aV.lt bO c hc) b3.out.size
       have cw:=η bA;have e5:W0.heap.size≤wr.heap.size:=hV.bel.size;have e6:=lt_of_cell e8;clear bO bA hV hA hB e7;generalize (ay rs)[k]=lv at *;generalize rs[k]=r at *;obtain ⟨⟨nm,args⟩,body⟩:=r;dsimp only at *;have ag:=η a7;clear a7 aa;by_cases hq:lv=L
       ·have d6:((lv:Int) == (L:Int))=true:=beq_iff_eq.2 (by omega)
        have HQ:Hid ((rs.take (k+1)).filter (fun r=>decide (gY rs r.head.name=L))=ys ++ [(⟨⟨nm,args⟩,body⟩:Ru)]):=η (by rw [cv.out,HY.out,if_pos (by simp [← bp,hq])]);have bq:Below (wr.alloc (.cells #[.string nm,.slice Ae args.length ce,.slice Af body.length cf] 40)).heap.size (wr.alloc (.cells #[.string nm,.slice Ae args.length ce,.slice Af body.length cf] 40)) ((wr.alloc (.cells #[.string nm,.slice Ae args.length ce,.slice Af body.length cf] 40)).alloc (.cells #[.string nm,.slice Ae args.length ce,.slice Af body.length cf] 40)):=ζ;obtain ⟨d7,aq,b8⟩:=(bR.out.below bq).coll;have HC:=η aq;have d8:=η b8;have HB:=η (bR.out.below bq).bel;have HR:Hid (aQ 3 fG ((wr.alloc (.cells #[.string nm,.slice Ae args.length ce,.slice Af body.length cf] 40)).alloc (.cells #[.string nm,.slice Ae args.length ce,.slice Af body.length cf] 40)) [.string nm,.slice Ae args.length ce,.slice Af body.length cf] [(⟨⟨nm,args⟩,body⟩:Ru)] bk):=η (aQ.dh kY (aV.below d4.out bq))
        have HL:Hid (Lies ((wr.alloc (.cells #[.string nm,.slice Ae args.length ce,.slice Af body.length cf] 40)).alloc (.cells #[.string nm,.slice Ae args.length ce,.slice Af body.length cf] 40)) (some ⟨wr.heap.size+1,0,none⟩) [.string nm,.slice Ae args.length ce,.slice Af body.length cf]):=η (by
         have:=aS (ω (wr.alloc (.cells #[.string nm,.slice Ae args.length ce,.slice Af body.length cf] 40)) (.cells #[.string nm,.slice Ae args.length ce,.slice Af body.length cf] 40))
         simpa using this)
        have HF:Hid (∀ c,c < W0.heap.size+1→(Value.slice Av ys.length cp).ownBlock ≠ some c):=η fun c hc=>aP aq.own hc
        have b9:W0.heap.size+1≤((wr.alloc (.cells #[.string nm,.slice Ae args.length ce,.slice Af body.length cf] 40)).alloc (.cells #[.string nm,.slice Ae args.length ce,.slice Af body.length cf] 40)).heap.size:=by simp; omega
        have d9:=η b9;clear aq b8 bq b9 bp hq
        go_wp2_with (at_builtin; refine bW rfl _ _ _ rfl (W0.heap.size+1) 40 i0 (.agg #[.string ⟨#[]⟩,.slice none 0 0,.slice none 0 0]) 3 64 Tryz.underlying23 hi cL cP cQ rfl (by omega) aV (.slice Av ys.length cp) ys.length _ _ _ rfl HC.out rfl (some ⟨wr.heap.size+1,0,none⟩) 1 1 _ [⟨⟨nm,args⟩,body⟩] _ rfl HR.out rfl HL.out (fun c hc=>HF.out c (by have:=d5.out c hc; omega)) (by have:=bL.out; unfold maxLen; omega) (by have:=bL.out; omega) W0 W0.heap.size HB.out (Nat.le_succ _) d9.out ?_; intro A9 da w9 cx cy db dc)
        have de:Hid (yF W0 b1 (.slice A9 (ys ++ [(⟨⟨nm,args⟩,body⟩:Ru)]).length da) (M ++ [.string nm,.slice Ae args.length ce,.slice Af body.length cf]) (ys ++ [(⟨⟨nm,args⟩,body⟩:Ru)]) w9):=η ⟨⟨_,by rw [χ]; exact cx,fun b hb=>(μ.1 hb).elim (d8.out b) (cw.out b)⟩,cy⟩;have cz:ys.length+1=(ys ++ [(⟨⟨nm,args⟩,body⟩:Ru)]).length:=by simp
        rw [cz];clear cx cy db dc HC HB HR HL HF cz;go_roundw
        case rel=>exact ⟨k+1,_,_,_,_,ag.out,by go_num,rfl,HQ.out.symm,de.out⟩
        case measure=>have:=ag.out; simp [intOf]; omega
       ·have d6:((lv:Int) == (L:Int))=false:=by
         rw [beq_eq_false_iff_ne]; omega
        have HQ:Hid ((rs.take (k+1)).filter (fun r=>decide (gY rs r.head.name=L))=ys):=η (by rw [cv.out,HY.out,if_neg (by simp [← bp,hq])]);clear bp hq;go_wp2;go_roundw
        case rel=>exact ⟨k+1,_,_,_,_,ag.out,by go_num,rfl,HQ.out.symm,bR.out⟩
        case measure=>have:=ag.out; simp [intOf]; omega
      ·have dg:k=rs.length:=by omega
       have d3:¬ (k:Int) < (rs.length:Int):=by omega
       have cA:Hid (ys=UQ rs L):=η (by rw [HY.out,ϕ (Nat.le_of_eq dg.symm)]; rfl);obtain ⟨d7,aq,b8⟩:=hV.coll;obtain ⟨b6,br,y⟩:=aq.slice;obtain ⟨a0,bt⟩:∃ a0,a0=b5 ++ b6.filter (fun b=>decide (W0.heap.size≤b)):=⟨_,rfl⟩
       have bc:gK (z+3) (z+2) z (z+1) (fun _=>True) a0 fs rn wr:=bt ▸ aR.out.more hV.bel _ fun x hx=>by
        obtain ⟨h1,h2⟩:=List.mem_filter.1 hx;exact ⟨of_decide_eq_true h2,bJ.lt br x h1⟩
       have cB:Hid (∀ w',Below w.heap.size w w'→(∀ x ∈ a0,w'.heap[x]? = wr.heap[x]?)→dS w' [.slice Av ys.length cp] ys b6):=η fun w' h1 h2=>bJ.keep br fun b hb=>by
        by_cases di:W0.heap.size≤b
        ·exact h2 b (bt ▸ Ω _ (List.mem_filter.2 ⟨hb,decide_eq_true di⟩))
        ·rcases y b hb with h3 | h3
         ·omega
         ·have h4:=bJ.lt HH.out.1 b (b8 b h3)
          exact (h1.block b h4).trans (hB.block b h4).symm
       have cD:Hid (∀ x ∈ b5,x ∈ a0):=η fun x hx=>bt ▸ Ξ _ hx
       have dj:Hid (∀ x ∈ b5,wr.heap[x]? = w3.heap[x]?):=η fun x hx=>(hV.bel.block x (aR.out.lt.2.2 x hx)).trans (bz.out x hx)
       have e9:=η hB;have a2:pG rs xs L ys ys fs rn number:=cV.out.enter;have cE:Hid (V6 rs xs L z ys a0 w wr ys fs rn number wr):=η ⟨a2,fun q hq=>hq,bc,hB,fun x _=>rfl⟩;have cG:Hid (dS wr [.slice Av ys.length cp] ys b6):=η br;clear hV aq br y bt bc hB a2 HY b8;obtain ⟨W9,dk⟩:∃ W9,W9=wr:=⟨_,rfl⟩;subst dk;go_wp2
       go_loopg [9,14] 1000 (fun gg v9 dl cI=>∃ (next:List Ru) (bX:Option Addr) (c4:Nat) (c6:List Nat) (I:List A) (a4:List Nat) (J:Nat),v9=.int .i64 J∧dl=.slice bX next.length c4∧2 * (300 - I.length)+(if next = [] then 0 else 1)≤gg∧Aside (V6 rs xs L z ys a0 w W9 next I a4 J cI)∧Aside (dS cI [.slice bX next.length c4] next c6))
       case atStart=>exact ⟨ys,Av,cp,b6,fs,rn,number,rfl,rfl,by split <;> omega,cE.out,cG.out⟩
       case round=>
        obtain ⟨next,bX,c4,c6,I,a4,J,rfl,rfl,bu,a5,c7⟩:=hrel;clear cE cG;by_cases bf:next = []
        ·subst bf
         have HD:Hid (pF rs xs (L+1) I a4 J∧gK (z+3) (z+2) z (z+1) (fun _=>True) b5 I a4 wr∧Below w.heap.size w wr∧∀ x ∈ b5,wr.heap[x]? = w3.heap[x]?):=η ⟨a5.out.mid.done ap.out (Nat.le_of_lt b4.out) (cA.out ▸ UR rs L),a5.out.oK.sub cD.out,a5.out.bel,fun x hx=>(a5.out.kep x (cD.out x hx)).trans (dj.out x hx)⟩;clear a5 c7 bu;go_wp2;go_roundw
         case rel=>exact ⟨L+1,I,a4,J,b4.out,by go_num,rfl,HD.out⟩
         case measure=>have:=b4.out; simp [intOf]; omega
        ·have dE:0 < next.length:=List.length_pos_iff.2 bf
         rw [if_neg bf] at bu;have ea:(0:Int) < (next.length:Int):=by omega
         obtain ⟨c8,dp,eb,am⟩:=a5.out.mid.few;have ab:OwnAt rs L ys:=cA.out ▸ UR rs L;have ac:=QE (z+3) (z+2) z (z+1) (fun _=>True) (fun _ _=>trivial) a0 I a4 next _ c6 (J+1) w.heap.size wr a5.out.oK c7.out am c8 (by omega) (fun r hr=>ap.out.fol r ((ab r).1 (a5.out.sub r hr)).1) (by have:=cq.out; omega);have dT:(0:Int)≤(J:Int):=by omega
         have e0:(J:Int)≤300:=by omega
         have bg:((J+1:Nat):Int)=(J:Int)+1:=by omega
         rw [bg] at ac;clear bg;have HG:=η bu;have cJ:=η bf;have bh:=η a5.out;have cK:=η ab;clear bu bf a5 c7 am ab dp
         go_wp2_with fail
         refine ac.mono ?_;rintro e w5 ⟨bi,a9⟩;clear ac
         rcases a9 with ⟨new,mc,n,Lm,fm,rfl,ar,bj,av,c9,aw,aa,bv,ec,bl,ca⟩ | ⟨rfl,new,ar,bj,av⟩
         ·have U:=bh.out.bel.trans bi
          have a3:∀ x ∈ a0,w5.heap[x]? = W9.heap[x]?:=fun x hx=>(aa x hx).trans (bh.out.kep x hx)
          have a2:=bh.out.mid.round ap.out (Nat.le_of_lt b4.out) cK.out cJ.out ar av c9;have HT:=η (JZ mc n Lm fm ys (.slice Av ys.length cp) b6 w5 (cB.out w5 U a3) bv ca bL.out);have bw:=η bv;by_cases hz:new = []
          ·have ae:Lm = []:=List.eq_nil_iff_forall_not_mem.2 fun s hs=>by
            obtain ⟨t,ht,_⟩:=(bl s).1 hs;rw [hz] at ht; simp at ht
           have bn:gK (z+3) (z+2) z (z+1) (fun _=>True) a0 I a4 w5:=by
            rw [hz] at aw; simpa using aw
           have HN:Hid ((ys.filter fun r=>r.body.any (kS Lm)) = []∧∀ w6,Below w5.heap.size w5 w6→V6 rs xs L z ys a0 w W9 (ys.filter fun r=>r.body.any (kS Lm)) I a4 J w6):=η ⟨D7 ae,fun w6 y=>by
            rw [D7 ae]
            exact ⟨a2.1 hz,fun q hq=>by simp at hq,bn.later y,U.trans (y.mono U.size),fun x hx=>(y.block x (bn.lt.2.2 x hx)).trans (a3 x hx)⟩⟩
           have ds:(Lm.length:Int)=0:=by rw [ae]; rfl
           clear bi aw bn aa bv bl ca U a3 a2 ae ar bj av c9
           go_wp2_with (at_len; refine gu _ rfl _ _ rfl Tryz.underlying116 _ _ Lm _ rfl bw.out ?_)
           go_wp2_with fail
           refine HT.out.mono ?_;rintro e w6 ⟨y,dt,du,dv,rfl,a8⟩;have cb:=η (HN.out.2 w6 y);have cc:=η a8;have dx:=η HN.out.1;clear y a8 HT HN bw;go_wp2
           go_roundg (2 * (300 - I.length))
           case measure=>have:=HG.out; omega
           case rel=>exact ⟨_,_,_,_,I,a4,J,rfl,rfl,by rw [if_pos dx.out]; omega,cb.out,cc.out⟩
          ·have ed:0 < new.length:=List.length_pos_iff.2 hz
           have ae:Lm ≠ []:=fun e=>by
            obtain ⟨t,ht⟩:=List.exists_mem_of_ne_nil _ hz;have:=(bl t.name).2 ⟨t,ht,rfl⟩;rw [e] at this; simp at this
           have ds:(0:Int) < (Lm.length:Int):=by have:=List.length_pos_iff.2 ae; omega
           have HN:Hid (∀ w6,Below w5.heap.size w5 w6→V6 rs xs L z ys a0 w W9 (ys.filter fun r=>r.body.any (kS Lm)) (I ++ new) (a4 ++ List.replicate new.length (J+1)) (J+1) w6):=η fun w6 y=>by
            have h1:=a2.2 hz;rw [← UU bl] at h1;exact ⟨h1,fun q hq=>(List.mem_filter.1 hq).1,aw.later y,U.trans (y.mono U.size),fun x hx=>(y.block x (aw.lt.2.2 x hx)).trans (a3 x hx)⟩
           have dy:Hid (2 * (300 - (I ++ new).length)+1 < 2 * (300 - I.length)+1):=η (by rw [χ]; omega);clear bi aw aa bv bl ca U a3 a2 ae ar bj av c9
           go_wp2_with (at_len; refine gu _ rfl _ _ rfl Tryz.underlying116 _ _ Lm _ rfl bw.out ?_)
           go_wp2_with fail
           refine HT.out.mono ?_;rintro e w6 ⟨y,dt,du,dv,rfl,a8⟩;have cb:=η (HN.out w6 y);have cc:=η a8;clear y a8 HT HN bw;go_wp2
           go_roundg (2 * (300 - (I ++ new).length)+1)
           case measure=>have:=HG.out; have:=dy.out; omega
           case rel=>exact ⟨_,_,_,_,I ++ new,_,J+1,by go_num,rfl,by split <;> omega,cb.out,cc.out⟩
         ·have HP:Hid (Ac rs xs w (.returned (.tuple #[.pointer none,.bool false])) w5):=η ⟨bh.out.bel.trans bi,.inr ⟨fun _=>bh.out.mid.over ap.out (Nat.le_of_lt b4.out) cK.out cJ.out ar bj av,rfl⟩⟩
          clear bi ar bj av;go_wp2;go_ret2;exact HP.out
    ·have dz:L=rs.length:=by omega
     have cW:¬ (L:Int) < (rs.length:Int):=by omega
     have HP:Hid (Ac rs xs w (.returned (.tuple #[.pointer (some ⟨z+2,0,none⟩),.bool true])) wr):=η (by
      rw [dz] at a6;obtain ⟨h1,h2,h3,h4,h5⟩:=a6.fin ap.out
      exact ⟨af,.inl ⟨HF.out,h1,z,b5,fs,rn,cq.out,rfl,a1,h2,h4,h5⟩⟩)
     clear a6 a1 af aM;go_wp2;go_ret2;exact HP.out
theorem D.Gp {rs:List Ru} {xs:List A} (h:eu rs xs=true) (I:(dW rs xs).2=true):l9 (dW rs xs).1∧(∀ x ∈ (dW rs xs).1.1,aI x)∧(dW rs xs).1.1.length≤300∧∀ t,t ∈ (dW rs xs).1.1 ↔ NW rs (fun x=>x ∈ xs) t:=by
 have hK:=qw h
 rcases Lh (Ut ((lN rs).2 hK.fine)) hK.fK (fun f hf=>sV (hK.facts f hf)) (by have:=hK.n; omega) with ⟨_,y,J,U,h6⟩ | ⟨y,_⟩
 ·exact ⟨J,U,y,h6⟩
 ·rw [I] at y; cases y
theorem D.D8 {rs:List Ru} {xs:List A} (h:eu rs xs=true) (y:(dW rs xs).2=true):kV rs xs=((dW rs xs).1.1,true):=by unfold kV; rw [if_pos h,if_pos y]
theorem D.OO {rs:List Ru} {xs:List A} (h:eu rs xs=true→(dW rs xs).2=false):kV rs xs=([],false):=by
 unfold kV;by_cases y:eu rs xs=true
 ·rw [if_pos y,h y]; rfl
 ·rw [if_neg y]
end
section
open Go.RowKit D
theorem D.Oa (rs:List Ru) (xs:List A):(eu rs xs=true∧(dW rs xs).2=true∧kV rs xs=((dW rs xs).1.1,true))∨kV rs xs=([],false):=by
 by_cases hc:eu rs xs=true∧(dW rs xs).2=true
 ·exact .inl ⟨hc.1,hc.2,D8 hc.1 hc.2⟩
 ·refine .inr (OO fun h=>?_)
  cases hr:(dW rs xs).2
  ·rfl
  ·exact absurd ⟨h,hr⟩ hc
theorem D.QN (fs:List A):(List.range fs.length).map (zZ fs)=fs:=by
 apply List.ext_getElem
 ·simp
 ·intro i h1 y
  simp only [List.getElem_map,List.getElem_range];exact mV y
theorem D.V7 {rn:List Nat} {q:Nat} (h:q < rn.length):fU rn q=rn[q]:=by unfold fU; simp [List.getD,h]
theorem D.QO (fs:List A) (rn:List Nat) (h:rn.length=fs.length):(List.range fs.length).map (fun q=>(zZ fs q,fU rn q))=fs.zip rn:=by
 apply List.ext_getElem
 ·simp [h]
 ·intro i h1 y
  simp only [List.getElem_map,List.getElem_range,List.getElem_zip];rw [List.length_zip] at y;rw [mV (by omega),V7 (by omega)]
theorem D.Ob {fs:List A} {rn:List Nat} {r:Rd} (hs:VX fs rn r) (hr:l9 r) (U:∀ f ∈ fs,aI f) (a0:∀ f ∈ r.1,aI f) {y:List Nat} (hq:y.Perm (List.range fs.length)) (hp:y.Pairwise (fun a b=>∀ (ha:a < fs.length) (hb:b < fs.length),¬ dD fs[b] fs[a] < 0)):
  y.map (zZ fs)=r.1∧y.map (fU rn)=r.2:=by
 have a1:∀ q ∈ y,q < fs.length:=fun q h=>List.mem_range.1 (hq.mem_iff.1 h)
 have J:(y.map (zZ fs)).Perm fs:=by
  have:=hq.map (zZ fs)
  rwa [QN] at this
 have a2:=hs.fst hr;have I:∀ t ∈ y.map (zZ fs),aI t:=fun t ht=>U t (J.mem_iff.1 ht)
 have a3:(y.map (zZ fs)).Pairwise (fun a b=>¬ dD b a < 0):=by
  rw [List.pairwise_map];refine (List.Pairwise.and_mem.1 hp).imp fun {a b} ⟨ha,hb,h⟩=>?_
  rw [mV (a1 a ha),mV (a1 b hb)];exact h _ _
 have e1:y.map (zZ fs)=r.1:=KZ (DY I ((J.trans a2).nodup_iff.2 (iG hr.fK)) a3) hr.fK I a0 fun t=>by rw [J.mem_iff,a2.mem_iff]
 refine ⟨e1,?_⟩
 have hz:(y.map fun q=>(zZ fs q,fU rn q)).Perm (r.1.zip r.2):=by
  have:=hq.map fun q=>(zZ fs q,fU rn q)
  rw [QO fs rn hs.len] at this;exact this.trans hs.perm
 have hlen:y.length=r.1.length:=by rw [← e1,List.length_map]
 have a6:=hr.len;have a4:=iG hr.fK;apply List.ext_getElem
 ·rw [List.length_map]; omega
 ·intro i h1 h2
  have hi:i < y.length:=by simpa using h1
  have hm:(zZ fs y[i],fU rn y[i]) ∈ r.1.zip r.2:=hz.mem_iff.1 (List.mem_map.2 ⟨_,δ hi,rfl⟩);obtain ⟨j,hj,ej⟩:=List.getElem_of_mem hm;rw [List.length_zip] at hj;rw [List.getElem_zip] at ej;simp only [Prod.mk.injEq] at ej
  have e2:r.1[i]'(by omega)=zZ fs y[i]:=by
   have:(y.map (zZ fs))[i]'(by simpa using hi)=zZ fs y[i]:=by simp
   rw [← this]
   congr 1
   exact e1.symm
  have a5:j=i:=(List.getElem_inj a4).1 (ej.1.trans e2.symm);subst a5;rw [List.getElem_map];exact ej.2.symm
def D.bI (rs:List Ru) (xs:List A):List A × List Nat × Bool:=if eu rs xs then (if (dW rs xs).2 then ((dW rs xs).1.1,(dW rs xs).1.2,true) else ([],[],false)) else ([],[],false)
theorem D.vk {rs:List Ru} {xs:List A} (h:eu rs xs=true) (y:(dW rs xs).2=true):bI rs xs=((dW rs xs).1.1,(dW rs xs).1.2,true):=by unfold bI; rw [if_pos h,if_pos y]
theorem D.yG {rs:List Ru} {xs:List A} (h:eu rs xs=true→(dW rs xs).2=false):bI rs xs=([],[],false):=by
 unfold bI;by_cases y:eu rs xs=true
 ·rw [if_pos y,h y]; rfl
 ·rw [if_neg y]
theorem D.D9 {xs:List A} (h1:xs.length≤300) (y:∀ x ∈ xs,aI x) (I:fK xs=true):jy xs=true:=by
 unfold jy;simp only [ο,decide_eq_true_eq,List.all_eq_true];exact ⟨⟨h1,fun x J=>sW (y x J)⟩,I⟩
theorem D.QS {rs:List Ru} {xs:List A} (h0:dV rs=0) (h1:xs.length≤40) (y:∀ x ∈ xs,aI x) (I:fK xs=true) (J:mP (aF rs) xs=true):eu rs xs=true:=by
 unfold eu okB;simp only [ο,decide_eq_true_eq,List.all_eq_true];exact ⟨⟨h0,⟨fun x U=>sW (y x U),I⟩,h1⟩,J⟩
structure D.QT (rs:List Ru) (xs:List A):Prop where
 prog:dV rs=0
 few:xs.length≤40
 fact:∀ x ∈ xs,aI x
 fK:fK xs=true
 fit:mP (aF rs) xs=true
theorem D.yH {rs:List Ru} {xs:List A}:eu rs xs=true ↔ QT rs xs:=by
 constructor
 ·intro h
  have hK:=qw h;exact ⟨(lN rs).2 hK.fine,hK.n,fun x y=>sV (hK.facts x y),hK.fK,hK.fit⟩
 ·exact fun h=>QS h.prog h.few h.fact h.fK h.fit
theorem D.QT.rules {rs:List Ru} {xs:List A} (h:QT rs xs):qF rs:=Ut h.prog
theorem D.Oc {rs:List Ru} {xs:List A} (h:QT rs xs):(∃ ys,kV rs xs=(ys,true)∧fK ys=true∧(∀ y ∈ ys,aI y)∧ys.length≤300∧∀ t,t ∈ ys ↔ NW rs (fun x=>x ∈ xs) t) ∨
  (kV rs xs=([],false)∧∃ L:List A,L.Nodup∧300 < L.length∧∀ t ∈ L,NW rs (fun x=>x ∈ xs) t):=by
 have hok:=yH.2 h
 rcases Lh h.rules h.fK h.fact (by have:=h.few; omega) with ⟨I,J,U,h5,h6⟩ | ⟨I,hL⟩
 ·exact .inl ⟨_,D8 hok I,U.fK,h5,J,h6⟩
 ·exact .inr ⟨OO fun _=>I,hL⟩
theorem D.Ea {rs:List Ru} {xs:List A} (h:(kV rs xs).2=true):QT rs xs∧fK (kV rs xs).1=true∧(∀ y ∈ (kV rs xs).1,aI y)∧(kV rs xs).1.length≤300∧∀ t,t ∈ (kV rs xs).1 ↔ NW rs (fun x=>x ∈ xs) t:=by
 rcases Oa rs xs with ⟨h1,h2,e⟩ | e
 ·have hin:=yH.1 h1
  rcases Oc hin with ⟨ys,I,J,U,h5,h6⟩ | ⟨I,_⟩
  ·rw [I]
   exact ⟨hin,J,U,h5,h6⟩
  ·rw [I] at h; cases h
 ·rw [e] at h; cases h
section
variable {rs:List Ru} {xs:List A}
theorem D.Oe (a:A) (σ:Wo) (b:A):clash b (fH σ a)=clash b a:=by
 unfold clash fH;simp
theorem D.UW (h:(kV rs xs).2=true):mP (aF rs) (kV rs xs).1=true:=by
 obtain ⟨h1,_,_,_,J⟩:=Ea h;have y:=((lN rs).1 h1.prog).alike;rw [qV,Bool.not_eq_true',List.any_eq_false] at y;unfold mP J3;simp only [List.all_eq_true];intro x U a ha
 rcases DU ((J x).1 U) with hg | ⟨r,hr,σ,rfl⟩
 ·have:=h1.fit
  unfold mP J3 at this;simp only [List.all_eq_true] at this;exact this x hg a ha
 ·rw [Oe]
  have I:=y a ha;rw [Bool.not_eq_true,List.any_eq_false] at I;have h7:=I r.head (List.mem_flatMap.2 ⟨r,hr,by unfold iZ; simp⟩);simpa using h7
end
end
section
open Go.RowKit D
attribute [local go_sem ↓] Go.wp_at_zero Go.wp_at_succ
def D.Xk (r:List A × List Nat × Bool) (B:Nat) (w:World) (e:Ending) (w':World):Prop:=
 Below B w w'∧∃ I J U cu bs y,e=.returned (.tuple #[.slice I r.1.length J,.slice U r.2.1.length cu,.bool r.2.2])∧aU w' [.slice I r.1.length J] r.1 bs∧gU w' [.slice U r.2.1.length cu] r.2.1 y∧New B w' bs∧New B w' y∧∀ x ∈ bs,x ∉ y
theorem LQ (rs:List Ru) (xs:List A) (v1 v2:Value) (b1 b2:List Nat) (w:World) (h:dS w [v1] rs b1) (h2:aU w [v2] xs b2) (hg:oV w):
  Calls Tryz.prog 25 #[v1,v2] w (Xk (bI rs xs) w.heap.size w):=by
 have c1:=Ip rs xs v1 v2 b1 b2 w h h2 hg;obtain ⟨Ad,cap,rfl,ac,ae⟩:=ak h;obtain ⟨ag,cap2,rfl,_,_⟩:=ak h2;clear h h2 hg ac ae
 go_enter Tryz.func25,Tryz.ntmps25
 go_wp2_with fail
 refine c1.mono ?_;rintro e w1 ⟨a2,a3⟩;clear c1
 rcases a3 with ⟨hok,I,z,fr,fs,rn,hz,rfl,a0,y,J,hlen⟩ | ⟨a5,rfl⟩
 ·obtain ⟨Af,cf,Ar,cr,bf,br,hO⟩:=a0.old
  obtain ⟨r1,r2,r3,_⟩:=Gp hok I;have a6:=y.fst r1;have a7:fs.Nodup:=a6.nodup_iff.2 (iG r1.fK);have c2:=LM (z+2) fs rn Af cf Ar cr bf br w1 hO J a7 hlen y.len;have a4:=η a2;have HE:=η (vk hok I);have HQ:Hid (∀ qs:List Nat,qs.Perm (List.range fs.length)→qs.Pairwise (fun a b=>∀ (ha:a < fs.length) (hb:b < fs.length),¬ dD fs[b] fs[a] < 0)→qs.map (zZ fs)=(dW rs xs).1.1∧qs.map (fU rn)=(dW rs xs).1.2):=η fun qs p1 p2=>Ob y r1 J r2 p1 p2
  have HN:Hid ((dW rs xs).1.1.length≤16777216∧∀ a ∈ (dW rs xs).1.1,a.args.length≤16777216):=η ⟨by omega,fun a ha=>by have:=DN (r2 a ha).ok; omega⟩;clear a0 y J hlen hO r1 r2 r3 a6 a7 a2 hok I
  go_wp2_with fail
  refine c2.mono ?_;rintro e U ⟨a8,z2,qs,am,rfl,p1,p2,a1⟩;obtain ⟨e1,e2⟩:=HQ.out qs p1 p2;rw [e1,e2] at a1;obtain ⟨Bf,df,Lf,Bs,dr,Lr,ou,bg,S,_,_⟩:=a1;obtain ⟨b5,h5,_⟩:=S.cF.slice;obtain ⟨b6,h6,n6⟩:=S.cR.new (New.nil _ _);have x0:U.cell? ⟨z2+2,0,none⟩=some (.slice Bf (dW rs xs).1.1.length df):=ai S.blk;have x1:U.cell? ⟨z2+2,1,none⟩=some (.slice Bs (dW rs xs).1.2.length dr):=ai S.blk;have lx:=lt_of_cell x0;have c3:=Eu _ _ b5 U.drew (au.keep h5 fun _ _=>rfl) HN.out.1 HN.out.2;have a9:=η (a4.out.trans (a8.mono a4.out.size));have H6:=η h6;have N6:=η (n6.mono (show w.heap.size≤z2+3 by have:=a4.out.size; omega));clear c2 a8 HQ p1 p2 e1 e2 S h5 h6 n6
  go_wp2_with fail
  have aa:Hid (Calls Tryz.prog 54 #[.slice Bf (dW rs xs).1.1.length df] U.drew fun e w3=>∃ A9 c9,e=.returned (.slice A9 (dW rs xs).1.1.length c9)∧w3.cell? ⟨z2+2,0,none⟩=some (.slice Bf (dW rs xs).1.1.length df)∧w3.cell? ⟨z2+2,1,none⟩=some (.slice Bs (dW rs xs).1.2.length dr)∧z2+2 < w3.heap.size∧
    ∃ b9,Below U.heap.size U w3∧aU w3 [.slice A9 (dW rs xs).1.1.length c9] (dW rs xs).1.1 b9∧New U.heap.size w3 b9):=η (c3.mono fun e w3 ⟨af,v9,b9,he,h9,n9⟩=>by
   obtain ⟨A9,c9,rfl,_,_⟩:=ak h9;have hb:Below U.heap.size U w3:=(Below.refl U.heap.size U).drew.trans af
   exact ⟨A9,c9,he,ξ hb x0,ξ hb x1,κ lx hb.size,b9,hb,h9,n9⟩)
  clear c3
  go_region_law
   (go_simp; go_at_call 54; refine aa.out.mono ?_; rintro e w3 ⟨A9,c9,rfl,y0,y1,ly,b9,g1,g2,g3⟩; have HG:=η (ι g1 (ι g2 g3)); clear g1 g2 g3)
  all_goals
   clear aa x0 x1 y0 y1;go_wp2;go_ret3;rw [HE.out];obtain ⟨g1,g2,g3⟩:=HG.out;have ab:=a9.out.size;refine ⟨a9.out.trans (g1.mono ab),_,_,_,_,b9,b6,rfl,g2,aW.below H6.out g1,g3.mono ab,N6.out.below g1,fun x hx hm=>?_⟩;have q1:=(g3.own x hx).1;have q2:=N6.out.lt hm;omega
 ·have HE:=η (yG a5)
  clear a5;go_wp2;go_ret3;rw [HE.out];exact ⟨a2,none,0,none,0,[],[],rfl,⟨none,0,rfl,ν,ε,fun _=>rfl,fun h=>absurd rfl h⟩,⟨none,0,rfl,ν,ε,fun _=>rfl,fun h=>absurd rfl h⟩,New.nil _ _,New.nil _ _,fun x hx=>by simp at hx⟩
theorem Eb {w:World} {A:Option Addr}:gU w [.slice A 0 0] [] []:=⟨A,0,rfl,ν,ε,fun _=>rfl,fun h=>absurd rfl h⟩
theorem LU (rs:List Ru) (xs:List A) (v1 v2:Value) (b1 b2:List Nat) (w:World) (h:dS w [v1] rs b1) (J:aU w [v2] xs b2):
  Calls Tryz.prog 26 #[v1,v2] w fun e w'=>Below w.heap.size w w'∧∃ Av cv Au cu bs bt,e=.returned (.tuple #[.slice Av (bI rs xs).1.length cv,.slice Au (bI rs xs).2.1.length cu,.bool (bI rs xs).2.2])∧aU w' [.slice Av (bI rs xs).1.length cv] (bI rs xs).1 bs∧gU w' [.slice Au (bI rs xs).2.1.length cu] (bI rs xs).2.1 bt:=by
 have c1:=Uj rs xs v1 v2 b1 b2 w h J;have HR:=η h;have HX:=η J;clear h J
 cases hok:eu rs xs with
 | false=>
  have HE:Hid (bI rs xs=([],[],false)):=η (by unfold bI; rw [hok]; rfl);rw [hok] at c1;clear hok
  go_enter Tryz.func26,Tryz.ntmps26
  go_wp2_with fail
  refine c1.mono ?_;rintro e w1 ⟨rfl,y⟩;have I:=η y;clear c1 y;go_wp2;go_ret3;rw [HE.out];exact ⟨(I.out.alloc I.out.size _).alloc (by simp; exact Nat.le_succ_of_le I.out.size) _,some ⟨w1.heap.size,0,none⟩,0,some ⟨w1.heap.size+1,0,none⟩,0,[],[],rfl,qJ,Eb⟩
 | true=>
  have a1:=η hok;have U:=η (qw hok);rw [hok] at c1
  go_enter Tryz.func26,Tryz.ntmps26
  go_wp2_with fail
  refine c1.mono ?_;rintro e w1 ⟨rfl,y⟩;have q:=run_any rs xs v1 v2 b1 b2 w1 (bJ.below HR.out y) (au.below HX.out y) U.out.fK (by have:=U.out.n; omega) U.out.m U.out.ok U.out.rules U.out.args;clear c1 hok;have a2:Hid (eu rs xs=true):=η a1.out
  go_wp2_with fail
  refine q.mono ?_;rintro e w2 ⟨a0,e0,e1,a3,rfl,J⟩;have B2:=η (y.trans (a0.mono y.size));obtain ⟨A3,p3,bx,ox,cx,ba,bb,rfl,rfl,rfl,h3,h4,-⟩:=nO J;have hA:Below w2.heap.size w2 (w2.alloc (.cells #[.slice A3 (dW rs xs).1.1.length p3,.slice (some ⟨bx,ox,none⟩) (dW rs xs).1.2.length cx] 96)):=ζ;have H3:=η (au.below h3 hA);have H4:=η (aW.below h4 hA);have B3:=η (B2.out.trans (hA.mono B2.out.size));clear q J h3 h4 y a0 hA
  cases hr:(dW rs xs).2 with
  | false=>
   have HE:Hid (bI rs xs=([],[],false)):=η (yG fun _=>hr);have B4:=η ((B3.out.alloc B3.out.size (.cells #[] 33)).alloc (by simp; have:=B2.out.size; omega) (.cells #[] 3));clear hr;go_wp2;go_ret3;rw [HE.out];exact ⟨B4.out,_,_,_,_,[],[],rfl,qJ,Eb⟩
  | true=>
   have HE:Hid (bI rs xs=((dW rs xs).1.1,(dW rs xs).1.2,true)):=η (vk a2.out hr);clear hr
   go_wp2_with fail
   go_region;go_wp2;go_ret3;rw [HE.out];exact ⟨B3.out.drew,_,_,_,_,ba,bb,rfl,au.keep H3.out fun _ _=>rfl,aW.keep H4.out fun _ _=>rfl⟩
end
section
open Go.RowKit D
def D.yI (r:Rd) (m:Nat) (x:A):Prop:=∃ k,(x,k) ∈ r.1.zip r.2∧k < m
structure D.zB (rs:List Ru) (xs:List A) (r:Rd) (n:Nat):Prop where
 ok:l9 r
 fact:∀ x ∈ r.1,aI x
 giv:∀ x ∈ xs,x ∈ r.1
 row:∀ p ∈ r.1.zip r.2,p.2≤n∧(p.2=0 ↔ p.1 ∈ xs)∧(0 < p.2→∃ q ∈ rs,Ii (yI r p.2) q p.1)
theorem D.Aj {r:Rd} (h:l9 r) {x:A}:x ∈ r.1 ↔ ∃ m,(x,m) ∈ r.1.zip r.2:=by
 constructor
 ·intro y
  obtain ⟨i,I,rfl⟩:=List.getElem_of_mem y;have J:=h.len;exact ⟨r.2[i]'(by omega),List.mem_iff_getElem.2 ⟨i,by rw [List.length_zip]; omega,by rw [List.getElem_zip]⟩⟩
 ·rintro ⟨m,hm⟩
  exact (List.of_mem_zip hm).1
open Classical in
theorem D.zB.step {rs:List Ru} (H:qF rs) {xs:List A} {r:Rd} {n level:Nat} (h:zB rs xs r n):
  ∃ new:List A,((dK rs (ay rs) level r (n+1)).1.zip (dK rs (ay rs) level r (n+1)).2).Perm (r.1.zip r.2 ++ new.map fun a=>(a,n+1))∧l9 (dK rs (ay rs) level r (n+1))∧(∀ x ∈ (dK rs (ay rs) level r (n+1)).1,aI x)∧
   (∀ a ∈ new,a ∉ r.1∧∃ q ∈ rs,Ii (fun x=>x ∈ r.1) q a)∧(dK rs (ay rs) level r (n+1)).1.length=r.1.length+new.length:=by
 obtain ⟨k1,k2,J⟩:=Ij H h.fact level;have I:=DT h.ok h.fact (n+1) _ k2 (iG k1);have y:=(lq h.ok (n+1) (fZ r.1 level (rs.zip (ay rs)))).1;have U:=I.length_eq;have h1:=y.len;have h2:=h.ok.len;rw [List.length_zip,χ,List.length_map,List.length_zip] at U;refine ⟨_,I,y,(jU H h.fact level (n+1)).1,fun a ha=>?_,?_⟩
 ·obtain ⟨g1,g2⟩:=List.mem_filter.1 ha
  obtain ⟨q,hq,_,hf⟩:=(J a).1 g1;exact ⟨of_decide_eq_true g2,q,hq,hf⟩
 ·show (iy _ _ _).1.length=_
  omega
theorem D.zB.next {rs:List Ru} (H:qF rs) {xs:List A} {r:Rd} {n level:Nat} (h:zB rs xs r n):zB rs xs (dK rs (ay rs) level r (n+1)) (n+1)∧
  ((dK rs (ay rs) level r (n+1)).1.length=r.1.length→zB rs xs (dK rs (ay rs) level r (n+1)) n):=by
 obtain ⟨new,hz,J,hf,a2,hlen⟩:=h.step H (level:=level);generalize dK rs (ay rs) level r (n+1)=r' at *
 have y:∀ p,p ∈ r'.1.zip r'.2 ↔ p ∈ r.1.zip r.2∨(p.1 ∈ new∧p.2=n+1):=fun p=>by
  rw [hz.mem_iff,μ,List.mem_map];refine or_congr Iff.rfl ⟨?_,?_⟩
  ·rintro ⟨a,ha,rfl⟩; exact ⟨ha,rfl⟩
  ·rintro ⟨ha,e⟩; exact ⟨p.1,ha,by rw [← e]⟩
 have a3:∀ m,m≤n+1→∀ x,yI r' m x ↔ yI r m x:=fun m hm x=>by
  constructor
  ·rintro ⟨k,hk,U⟩
   rcases (y _).1 hk with g | ⟨_,g⟩
   ·exact ⟨k,g,U⟩
   ·simp at g; omega
  ·rintro ⟨k,hk,U⟩
   exact ⟨k,(y _).2 (.inl hk),U⟩
 have I:∀ x ∈ xs,x ∈ r'.1:=fun x hx=>by
  obtain ⟨m,hm⟩:=(Aj h.ok).1 (h.giv x hx);exact (Aj J).2 ⟨m,(y _).2 (.inl hm)⟩
 have hold:∀ p ∈ r.1.zip r.2,p.2≤n∧(p.2=0 ↔ p.1 ∈ xs)∧(0 < p.2→∃ q ∈ rs,Ii (yI r' p.2) q p.1):=fun p hp=>by
  obtain ⟨g1,g2,g3⟩:=h.row p hp;refine ⟨g1,g2,fun a4=>?_⟩;obtain ⟨q,hq,a0⟩:=g3 a4;exact ⟨q,hq,(jZ fun x _=>a3 p.2 (by omega) x).2 a0⟩
 refine ⟨⟨J,hf,I,fun p hp=>?_⟩,fun he=>⟨J,hf,I,fun p hp=>?_⟩⟩
 ·rcases (y p).1 hp with g | ⟨g1,g2⟩
  ·obtain ⟨k1,k2,k3⟩:=hold p g
   exact ⟨by omega,k2,k3⟩
  ·obtain ⟨a1,q,hq,a0⟩:=a2 _ g1
   refine ⟨by omega,⟨fun e=>by omega,fun e=>absurd (h.giv _ e) a1⟩,fun _=>⟨q,hq,(jZ fun x _=>?_).2 a0⟩⟩;rw [a3 p.2 (by omega)];constructor
   ·rintro ⟨k,hk,_⟩; exact (Aj h.ok).2 ⟨k,hk⟩
   ·intro hx
    obtain ⟨m,hm⟩:=(Aj h.ok).1 hx;have:=(h.row _ hm).1;exact ⟨m,hm,by simp at this; omega⟩
 ·have a5:new = []:=List.length_eq_zero_iff.1 (by omega)
  rcases (y p).1 hp with g | ⟨g1,_⟩
  ·exact hold p g
  ·rw [a5] at g1; simp at g1
theorem D.Og {rs:List Ru} {xs:List A} (hin:QT rs xs) (I:(dW rs xs).2=true):∃ n,zB rs xs (dW rs xs).1 n:=by
 have H:=hin.rules
 have main:=OJ (rs:=rs) (lv:=ay rs) (fun _ r n=>zB rs xs r n) (fun k r n y=>y.ok) (fun k r n J y _ _=>(y.next H).1) (fun k r n J y he=>(y.next H).2 he)
  (rs.length+1) 302 (xs,List.replicate xs.length 0) 0 ν ⟨⟨hin.fK,by simp⟩,hin.fact,fun x U=>U,fun p hp=>by
   obtain ⟨g1,g2⟩:=List.of_mem_zip (a:=p.1) (b:=p.2) hp;have e:=List.eq_of_mem_replicate g2
   exact ⟨by omega,⟨fun _=>g1,fun _=>e⟩,fun h=>by omega⟩⟩ (by have:=hin.few; show xs.length≤300; omega) (by show 302≤302+xs.length; omega)
 rcases main with ⟨_,_,n',y⟩ | ⟨h1,_⟩
 ·exact ⟨n',y⟩
 ·have:(dW rs xs).2=false:=h1
  rw [I] at this; cases this
def D.iC (ys:List A) (rn:List Nat) (m:Nat):List A:=((ys.zip rn).filter fun p=>decide (p.2 < m)).map (·.1)
theorem D.Gq (ys:List A) (rn:List Nat) (m:Nat):(iC ys rn m).Sublist ys:=by
 unfold iC;have h1:(((ys.zip rn).filter fun p=>decide (p.2 < m)).map (·.1)).Sublist ((ys.zip rn).map (·.1)):=List.filter_sublist.map _;refine h1.trans ?_;clear h1
 induction ys generalizing rn with
 | nil=>simp
 | cons y ys ih=>
  cases rn with
  | nil=>simp
  | cons n rn=>rw [List.zip_cons_cons,List.map_cons]; exact (ih rn).cons_cons _
theorem D.QU {r:Rd} {m:Nat} {x:A}:x ∈ iC r.1 r.2 m ↔ yI r m x:=by
 unfold iC yI;rw [List.mem_map];constructor
 ·rintro ⟨p,I,rfl⟩
  obtain ⟨h1,J⟩:=List.mem_filter.1 I;exact ⟨p.2,h1,of_decide_eq_true J⟩
 ·rintro ⟨k,U,y⟩
  exact ⟨(x,k),List.mem_filter.2 ⟨U,decide_eq_true y⟩,rfl⟩
theorem D.Ec (ys:List A) (rn:List Nat) (m k:Nat) (h:k < ys.length) (y:k < rn.length):iC (ys.take (k+1)) (rn.take (k+1)) m=if rn[k] < m then iC (ys.take k) (rn.take k) m ++ [ys[k]] else iC (ys.take k) (rn.take k) m:=by
 unfold iC;rw [ρ h,ρ y,List.zip_append (by simp; omega),List.filter_append,List.map_append];by_cases hc:rn[k] < m
 ·simp [hc]
 ·simp [hc]
theorem D.zC {rs:List Ru} {xs:List A} (h:(bI rs xs).2.2=true):(kV rs xs).2=true∧(bI rs xs).1=(kV rs xs).1∧(bI rs xs).2.1.length=(bI rs xs).1.length∧jy (bI rs xs).1=true∧
  ∀ i (y:i < (bI rs xs).1.length) (I:i < (bI rs xs).2.1.length),((bI rs xs).2.1[i]=0 ↔ (bI rs xs).1[i] ∈ xs)∧
   (0 < (bI rs xs).2.1[i]→∃ q ∈ rs,ja (iC (bI rs xs).1 (bI rs xs).2.1 (bI rs xs).2.1[i]) q (bI rs xs).1[i]):=by
 by_cases hc:eu rs xs=true∧(dW rs xs).2=true
 ·have J:=D8 hc.1 hc.2
  have hin:=yH.1 hc.1;obtain ⟨r1,U,r3,_⟩:=Gp hc.1 hc.2;obtain ⟨n,hI⟩:=Og hin hc.2;rw [vk hc.1 hc.2,J];refine ⟨rfl,rfl,r1.len,D9 r3 U r1.fK,fun i y I=>?_⟩;have hm:((dW rs xs).1.1[i],(dW rs xs).1.2[i]) ∈ (dW rs xs).1.1.zip (dW rs xs).1.2:=List.mem_iff_getElem.2 ⟨i,by rw [List.length_zip]; exact Nat.lt_min.2 ⟨y,I⟩,by rw [List.getElem_zip]⟩;obtain ⟨_,g2,g3⟩:=hI.row _ hm;refine ⟨g2,fun hp=>?_⟩;obtain ⟨q,hq,hf⟩:=g3 hp;exact ⟨q,hq,(jZ fun x _=>QU).2 hf⟩
 ·rw [yG (fun h=>by
   cases hr:(dW rs xs).2
   ·rfl
   ·exact absurd ⟨h,hr⟩ hc)] at h
  cases h
theorem D.UX {rs:List Ru} {xs ys:List A} (U:dV rs=0) (h1:fK ys=true) (h2:∀ y ∈ ys,aI y) (h3:ys.length≤300) (h4:mP (aF rs) ys=true) (I:xs.Sublist ys):eF rs xs=true:=by
 unfold eF;rw [decide_eq_true U,D9 (τ I.length_le h3) (fun x J=>h2 x (I.subset J)) (GI h1 I),Bool.true_and,Bool.true_and];unfold mP at *;simp only [List.all_eq_true] at *;exact fun x J=>h4 x (I.subset J)
theorem D.V8 {rs:List Ru} {xs:List A} (y:qF rs) (h:eF rs xs=true) (I:∀ x ∈ xs,aI x) (t:A):t ∈ rJ rs xs ↔ ∃ r ∈ rs,ja xs r t:=by
 unfold rJ;rw [h];exact (Gj I fun r hr=>y.fol r hr).2.2 t
theorem D.LV {rs:List Ru} {xs:List A} (h:(bI rs xs).2.2=true) (i:Nat) (U:i < (bI rs xs).1.length) (hj:i < (bI rs xs).2.1.length):
  ((bI rs xs).2.1[i]=0 ↔ (bI rs xs).1[i] ∈ xs)∧(0 < (bI rs xs).2.1[i]→(bI rs xs).1[i] ∈ rJ rs (iC (bI rs xs).1 (bI rs xs).2.1 (bI rs xs).2.1[i])):=by
 obtain ⟨he,e1,_,_,y⟩:=zC h;obtain ⟨g1,g2⟩:=y i U hj;refine ⟨g1,fun hp=>?_⟩;obtain ⟨q,hq,hf⟩:=g2 hp;obtain ⟨h1,h2,J,h4,h5⟩:=Ea he;have hs:=Gq (bI rs xs).1 (bI rs xs).2.1 (bI rs xs).2.1[i];have I:(iC (bI rs xs).1 (bI rs xs).2.1 (bI rs xs).2.1[i]).Sublist (kV rs xs).1:=e1 ▸ hs;exact (V8 h1.rules (UX h1.prog h2 J h4 (UW he) I) (fun x hx=>J x (I.subset hx)) _).2 ⟨q,hq,hf⟩
end
section
open Go.RowKit D
attribute [local go_sem ↓] Go.wp_at_zero Go.wp_at_succ
theorem QV:(Tryz.prog.info? 33).map (fun i=>(i.zero,i.size,i.bytes))=some (some (.agg #[.string ⟨#[]⟩,.slice none 0 0]),2,40):=by kernel_rfl
theorem Ed (v:Value) (cs:List UInt8) (bs:List Nat) (w:World) (h:qH w [v] cs bs) (hn:cs.length≤1048576):
  Calls Tryz.prog 24 #[v] w (Qm w):=by
 have y:=Ie v cs bs w h hn;clear h
 go_enter Tryz.func24,Tryz.ntmps24
 go_wp2_with fail
 refine y.mono ?_;rintro e w1 ⟨rs,I,c0,b0,xs,J,c1,b1,rfl,h1,U,h3,h4,hb⟩;have HZ:Hid (Qm w (.returned (.tuple #[.slice I rs.length c0,.slice J xs.length c1])) w1):=η ⟨rs,I,c0,b0,xs,J,c1,b1,rfl,h1,U,h3,h4,hb⟩;clear y h1 U h3 h4 hb;go_wp2;go_ret2;exact HZ.out
theorem D.QW (ys:List A) (rn:List Nat) (m k:Nat) (h:ys.length≤300):(iC (ys.take k) (rn.take k) m).length≤300:=by
 have h1:=(Gq (ys.take k) (rn.take k) m).length_le;rw [List.length_take] at h1;omega
theorem D.QX {ys:List A} {rn:List Nat} {m k:Nat} (h:k < ys.length) (y:k < rn.length) (hm:rn[k] < m):iC (ys.take (k+1)) (rn.take (k+1)) m=iC (ys.take k) (rn.take k) m ++ [ys[k]]:=by rw [Ec ys rn m k h y,if_pos hm]
theorem D.UY {ys:List A} {rn:List Nat} {m k:Nat} (h:k < ys.length) (y:k < rn.length) (hm:¬ rn[k] < m):iC (ys.take (k+1)) (rn.take (k+1)) m=iC (ys.take k) (rn.take k) m:=by rw [Ec ys rn m k h y,if_neg hm]
theorem yJ (cs:List UInt8) (v1:Value) (bt:List Nat) (w:World) (h1:qH w [v1] cs bt) (hg:oV w):
  Calls Tryz.prog 7 #[v1] w fun e w'=>e=.returned (.bool true)∧Below w.heap.size w w':=by
 obtain ⟨Ad,cap,rfl,hl,hm⟩:=ak h1;have cP:=aA (τ hl hm);obtain ⟨i0,hi,cm,cn,co⟩:=info_parts QV;have HG:=η hg;clear hl hm hg;by_cases hn:cs.length≤1048576
 ·have cp:¬ (1048576:Int) < (cs.length:Int):=by omega
  have hd:=Ed _ cs bt w h1 hn;clear h1 hn
  go_enter Tryz.func7,Tryz.ntmps7
  go_wp2_with fail
  refine hd.mono ?_;rintro e w1 ⟨rs,A0,c0,b0,xs,A1,c1,b1,rfl,b9,bc,-,-,bf⟩;obtain ⟨ys,rn,z,hE⟩:∃ ys rn z,bI rs xs=(ys,rn,z):=⟨_,_,_,rfl⟩;have HE:=η hE;have a8:=η bf;have aq:=η (ι b9 bc);have bg:=LQ rs xs _ _ b0 b1 w1 b9 bc (HG.out.below bf);rw [hE] at bg;clear hd b9 bc bf hE
  go_wp2_with fail
  refine bg.mono ?_;rintro e w2 ⟨J,A2,c2,A3,c3,b2,b3,rfl,bu,bv,-,-,-⟩;have bw:=η J;have bh:=η (ι bu bv);have bj:=LU rs xs _ _ b0 b1 w2 (bJ.below aq.out.1 J) (au.below aq.out.2 J);rw [HE.out] at bj;clear bg J bu bv
  go_wp2_with fail
  refine bj.mono ?_;rintro e w3 ⟨ar,A4,c4,A5,c5,b4,b5,rfl,bx,bz⟩;have bA:=η (bw.out.trans (ar.mono bw.out.size));have a4:=η (ι (au.below bh.out.1 ar) (ι (aW.below bh.out.2 ar) (ι bx bz)));have cQ:(z != z)=false:=by simp
  have cT:(z == z)=true:=by simp
  have af:=Cj ys ys _ _ b2 b4 w3 a4.out.1 a4.out.2.2.1;clear bj ar bx bz bh
  go_wp2_with fail
  refine af.mono ?_;rintro e w4 ⟨r4,rfl,bB,a9⟩;obtain rfl:r4=true:=bB.2 (by first | trivial | rfl);have bE:=η (bA.out.trans (a9.mono bA.out.size));have a5:=η (ι (au.below a4.out.1 a9) (ι (aW.below a4.out.2.1 a9) (ι (au.below a4.out.2.2.1 a9) (aW.below a4.out.2.2.2 a9))));clear af bB a9 a4;have ag:=zq rn _ _ b3 b5 w4 a5.out.2.1 a5.out.2.2.2
  go_wp2_with fail
  refine ag.mono ?_;rintro e w5 ⟨rfl,aa⟩;have a1:=η (bE.out.trans (aa.mono bE.out.size));have a0:=η (ι (au.below a5.out.1 aa) (ι (aW.below a5.out.2.1 aa) (ι (au.below a5.out.2.2.1 aa) (aW.below a5.out.2.2.2 aa))));clear ag aa a5;cases z
  ·have af:=Cj ys ys _ _ b2 b4 w5 a0.out.1 a0.out.2.2.1
   go_wp2_with fail
   refine af.mono ?_;rintro e w6 ⟨r6,rfl,av,U⟩;obtain rfl:r6=true:=av.2 (by first | trivial | rfl);have a6:=η (a1.out.trans (U.mono a1.out.size));have ag:=zq rn _ _ b3 b5 w6 (aW.below a0.out.2.1 U) (aW.below a0.out.2.2.2 U);clear af av U
   go_wp2_with fail
   refine ag.mono ?_;rintro e w7 ⟨rfl,bL⟩;have cq:=η (a6.out.trans (bL.mono a6.out.size));clear ag bL;go_wp2;go_ret;exact ⟨rfl,a8.out.trans (cq.out.mono a8.out.size)⟩
  ·have ab:Hid (rn.length=ys.length∧ys.length≤300∧∀ i (hi:i < ys.length) (hj:i < rn.length),(rn[i]=0 ↔ ys[i] ∈ xs)∧(0 < rn[i]→ys[i] ∈ rJ rs (iC ys rn rn[i]))):=η (by
    have ht:(bI rs xs).2.2=true:=by rw [HE.out]
    obtain ⟨k1,k2,k3,k4,_⟩:=zC ht;have k5:=fun i hi hj=>LV ht i hi hj
    have k6:=(Ea k1).2.2.2.1;rw [← k2] at k6;rw [HE.out] at k3 k6;simp only [HE.out] at k5
    exact ⟨k3,k6,k5⟩)
   have cU:(ys.length:Int)≤300:=by have:=ab.out.2.1; omega
   clear HE;go_wp2
   go_loopw [11,12,13] (fun i e k wr=>∃ (q:Nat) (u1 u2:Value),q≤ys.length∧i=.int .i64 q∧e=u1∧k=u2∧Below w5.heap.size w5 wr) (fun i _ _ _=>ys.length - (intOf i).toNat)
   case atStart=>exact ⟨0,_,_,ε,rfl,rfl,rfl,ϑ⟩
   case round=>
    obtain ⟨q,u1,u2,hq,rfl,rfl,rfl,hb⟩:=hrel;have HB:=η hb;by_cases I:q < ys.length
    ·have a2:q < rn.length:=by have:=ab.out.1; omega
     obtain ⟨bi,oi,cr,-,c0⟩:=sO (aW.below a0.out.2.1 hb) a2;subst cr;obtain ⟨bq,oq,Ae,ce,bk,ac,-,f0,f1,bl,-⟩:=dJ (au.below a0.out.1 hb) I;subst ac;have cV:(0:Int)≤(q:Int):=by omega
     have cu:(q:Int) < (ys.length:Int):=by omega
     have cW:(q:Int) < (rn.length:Int):=by omega
     have aw:=η (ab.out.2.2 q I a2);have hh:=FD xs ys[q] _ (.string ys[q].name) (.slice Ae ys[q].args.length ce) b1 bk wr.drew (au.below aq.out.2 ((a1.out.trans (HB.out.mono a1.out.size)).drew)) (aj.below bl (Below.drew ϑ));have cv:=η bl;have az:=η I;clear bl hb hq;generalize rn[q]=m at *;generalize ys[q]=a at *;clear I a2;have cX:¬ ((m:Nat):Int) < 0:=by omega
     obtain ⟨r,hr⟩:∃ r:Bool,(r=true ↔ a ∈ xs):=by
      by_cases h:a ∈ xs
      ·exact ⟨true,by simp [h]⟩
      ·exact ⟨false,by simp [h]⟩
     have cw:(((m:Int)) == 0)=r:=by
      have h0:=aw.out.1;cases r
      ·rw [beq_eq_false_iff_ne]
       intro e;have:m=0:=by omega
       have:=hr.2 (h0.1 this);cases this
      ·rw [beq_iff_eq]
       have:=h0.2 (hr.1 rfl);omega
     have bn:=η hr;clear hr;have cY:(r != r)=false:=by simp
     go_wp2
     go_region_held3 (fun w'=>w'.cell? ⟨bi,oi+q,none⟩=some (.int .i64 (m:Nat))∧w'.cell? ⟨bq,oq+q * 2,none⟩=some (.string a.name)∧w'.cell? ⟨bq,oq+q * 2+1,none⟩=some (.slice Ae a.args.length ce)) (first | go_keep | exact ⟨c0,f0,f1⟩)
      (first
       | (go_at_call 16; (with_reducible refine Calls.mono hh ?_); rintro e w6 ⟨r6,rfl,av,U⟩; obtain rfl:r=r6:=(by have:=bn.out; cases r6 <;> cases r <;> simp_all); have a6:=η (HB.out.drew.trans (U.mono HB.out.drew.size)); have aM:=η ((Below.drew ϑ).trans U); replace c0:=ξ U c0; replace f0:=ξ U f0; replace f1:=ξ U f1; clear av U))
     clear hh;cases r
     ·have bO:0 < m:=by
       rw [beq_eq_false_iff_ne] at cw;omega
      have cx:=η (aw.out.2 bO);clear bO bn aw;have bR:Below w6.heap.size w6 (w6.alloc (.cells #[] 33)):=ζ;have bX:=aZ.empty (n:=2) (R:=aG) (e:=33) (ω w6 (.cells #[] 33)) (Nat.le_refl w6.heap.size);go_wp2
      go_loopw [12,13] (fun v i c6=>∃ (k p:Nat) (At:Option Addr) (ct:Nat) (L:List Value) (bb:List Nat),k≤ys.length∧i=.int .i64 k∧v=.slice At p ct∧p=(iC (ys.take k) (rn.take k) m).length∧aZ 2 aG w6.heap.size 33 c6 (.slice At p ct) L (iC (ys.take k) (rn.take k) m) bb∧Below w6.heap.size w6 c6) (fun _ i _=>ys.length - (intOf i).toNat)
      case atStart=>exact ⟨0,0,_,_,_,_,ε,rfl,rfl,rfl,bX,bR⟩
      case round=>
       obtain ⟨k,p,At,ct,L,bb,hk,rfl,rfl,ae,hC,J⟩:=hrel;clear bX bR;have d1:p≤300:=by rw [ae]; exact QW ys rn m k ab.out.2.1
       have HM:=η ae;have a3:=η J;have a7:=η (a6.out.trans (J.mono a6.out.size));have HC:=η hC;have g0:=ξ J c0;have g1:=ξ J f0;have g2:=ξ J f1;clear ae hC J;by_cases I:k < ys.length
       ·have a2:k < rn.length:=by have:=ab.out.1; omega
        obtain ⟨d2,d3,e1,-,d0⟩:=sO (aW.below a0.out.2.1 a7.out) a2;simp only [Option.some.injEq,Addr.mk.injEq,and_true] at e1;obtain ⟨rfl,rfl⟩:=e1;obtain ⟨d4,d5,c7,c9,ca,e2,-,h0,h1,cb,cc⟩:=dJ (au.below a0.out.1 a7.out) I;simp only [Option.some.injEq,Addr.mk.injEq,and_true] at e2;obtain ⟨rfl,rfl⟩:=e2;have d6:(0:Int)≤(k:Int):=by omega
        have cy:(k:Int) < (ys.length:Int):=by omega
        have d7:(k:Int) < (rn.length:Int):=by omega
        have am:=η (QX (ys:=ys) (rn:=rn) (m:=m) I a2);have bo:=η (UY (ys:=ys) (rn:=rn) (m:=m) I a2);have aD:=η I;have bp:=η cb;have cz:Hid (∀ c ∈ ca,c < w6.heap.size):=η fun c hc=>κ (au.lt a0.out.1 c (cc c hc)) a6.out.size
        clear cb cc hk;generalize rn[k]=mk at *;generalize ys[k]=y at *;clear I a2;by_cases aE:mk < m
        ·have cA:(mk:Int) < (m:Int):=by omega
         have HT:=η (am.out aE);have ac:∀ n,Below wr.heap.size wr ((wr.drewN n).alloc (.cells #[.string y.name,.slice c7 y.args.length c9] 33)):=fun n=>(below_drewN ϑ n).alloc ν _
         have aR:=η (fun n=>a3.out.trans ((ac n).mono a3.out.size));have cB:=η (fun n=>HC.out.below aj (ac n));have HL:=η (fun n=>aS (ω (wr.drewN n) (.cells #[.string y.name,.slice c7 y.args.length c9] 33)));have cD:=η (fun n=>aQ.dh (n:=2) (R:=aG) eU (aj.below bp.out (ac n)));have HF:Hid (∀ c ∈ ca,(Value.slice At p ct).ownBlock ≠ some c):=η (fun c hc=>aP HC.out.own (cz.out c hc));have cd:Hid ((iC (ys.take k) (rn.take k) m).length=p):=η HM.out.symm;clear ac bp am bo aE;go_wp2
         go_quiet (fail)
         go_wp2_with (at_builtin; refine bW rfl _ _ _ rfl w6.heap.size 33 i0 (.agg #[.string ⟨#[]⟩,.slice none 0 0]) 2 40 Tryz.underlying24 hi cm cn co rfl (by omega) aj (.slice At p ct) p _ _ _ rfl (cB.out _) cd.out (some ⟨wr.heap.size,0,none⟩) 1 1 _ [y] _ rfl (cD.out _) rfl (HL.out _) HF.out (by unfold maxLen; omega) (by omega) w6 w6.heap.size (aR.out _) ν (aR.out _).size ?_; intro A7 cE w7 cg cG d8 _)
         have cI:=η cg;clear cg;go_wp2;go_roundw
         case rel=>exact ⟨k+1,p+1,A7,cE,_,_,aD.out,by go_num,rfl,by rw [HT.out,χ,cd.out]; rfl,by rw [HT.out]; exact cI.out,cG⟩
         case measure=>have:=aD.out; simp [intOf]; omega
        ·have cA:¬ (mk:Int) < (m:Int):=by omega
         have HT:=η (bo.out aE);clear am bo bp aE;go_wp2
         go_quiet (fail)
         go_wp2;go_roundw
         case rel=>exact ⟨k+1,p,At,ct,_,_,aD.out,by go_num,rfl,by rw [HT.out]; exact HM.out,by rw [HT.out]; exact HC.out.below aj (below_drewN ϑ _),below_drewN a3.out _⟩
         case measure=>have:=aD.out; simp [intOf]; omega
       ·have he:k=ys.length:=by omega
        subst he;have cy:¬ (ys.length:Int) < (ys.length:Int):=by omega
        have hC:=HC.out;have ae:=HM.out;rw [ϕ ν,ϕ (by have:=ab.out.1; omega)] at hC ae;obtain ⟨b7,ci,_⟩:=hC.slice;have cj:=η (a1.out.trans (a7.out.mono a1.out.size));have b6:=η a7.out.drew;subst ae;have ao:=QM rs (iC ys rn m) _ _ b0 b7 wr.drew (bJ.below aq.out.1 cj.out.drew) (au.below ci (Below.drew ϑ)) (HG.out.below (a8.out.trans (cj.out.drew.mono a8.out.size)));have cJ:=η (aj.below cv.out (aM.out.trans (a3.out.mono aM.out.size)));generalize rJ rs (iC ys rn m)=O at *;clear hC ci hk I HM HC a3;go_wp2
        go_region_held3 (fun w'=>w'.cell? ⟨bq,oq+q * 2,none⟩=some (.string a.name)∧w'.cell? ⟨bq,oq+q * 2+1,none⟩=some (.slice Ae a.args.length ce)) (first | go_keep | exact ⟨g1,g2⟩)
         (first
          | (go_at_call 17; (with_reducible refine Calls.mono ao ?_); rintro e w8 ⟨ap,v8,b8,rfl,br,_⟩; have ck:=η (b6.out.trans (ap.mono b6.out.size)); have hh:=FD O a _ (.string a.name) (.slice Ae a.args.length ce) b8 bk w8 br (aj.below cJ.out ((Below.drew ϑ).trans ap)); obtain ⟨A8,c8,rfl,_,_⟩:=ak br; replace g1:=ξ ap g1; replace g2:=ξ ap g2; clear br ap)
          | (go_at_call 16; (with_reducible refine Calls.mono hh ?_); rintro e w9 ⟨r9,rfl,cl,aL⟩; obtain rfl:true=r9:=(cl.2 cx.out).symm; have cK:=η (ck.out.trans (aL.mono ck.out.size)); replace g1:=ξ aL g1; replace g2:=ξ aL g2; clear aL cl))
        have cL:=η cK.out;clear ao hh g0 g1 g2;go_wp2;go_roundw
        case rel=>exact ⟨q+1,_,_,az.out,by go_num,rfl,rfl,cL.out⟩
        case measure=>have:=az.out; simp [intOf]; omega
     ·clear bn aw
      go_wp2;go_roundw
      case rel=>exact ⟨q+1,_,_,az.out,by go_num,rfl,rfl,a6.out⟩
      case measure=>have:=az.out; simp [intOf]; omega
    ·have he:q=ys.length:=by omega
     subst he;have cu:¬ (ys.length:Int) < (ys.length:Int):=by omega
     clear hb hq I;go_wp2;go_ret;exact ⟨rfl,a8.out.trans ((a1.out.trans (HB.out.mono a1.out.size)).mono a8.out.size)⟩
 ·have cp:(1048576:Int) < (cs.length:Int):=by omega
  clear h1
  go_enter Tryz.func7,Tryz.ntmps7
  go_wp2;go_ret;exact ⟨rfl,ϑ⟩
end
end Go.Proofs.YtkjinanbccloeaaGreatDoor
