/- Of the proof of FnEval,FnEvalOrder,FnEvalMore: StAl, EvI, EvC, SimQ, EvL, DltP, RdL, LwEvalOrderL, LwEvalMoreL, EvO, LwEvalL. -/
import Derived.Test.YtkjinanbccloeaaGreatDoorM44
set_option linter.unusedVariables false
set_option maxHeartbeats 8000000
set_option maxRecDepth 100000
namespace Go.Proofs.YtkjinanbccloeaaGreatDoor
open Go.RowKit D
attribute [local go_sem ↓] Go.wp_at_zero Go.wp_at_succ
theorem D.Yc (rs:List Ru) (xs:List A):fD rs xs=(decide (xs.length≤40) && dU rs xs):=by
 unfold fD dU okB iP;by_cases h1:xs.length≤40
 ·have y:xs.length≤300:=by omega
  rw [decide_eq_true h1,decide_eq_true y];simp
 ·rw [decide_eq_false h1]
  simp
theorem EK (rs:List Ru) (xs:List A) (I J:Value) (b1 b2:List Nat) (w:World) (h:dS w [I] rs b1) (U:aW w [J] xs b2) (hg:mr w):
  Calls Tryz.prog 75 #[I,J] w fun e w'=>e=.returned (.bool (fD rs xs))∧Below w.heap.size w w':=by
 have c1:=oM rs xs I J b1 b2 w h U hg;have HE:=η (Yc rs xs);obtain ⟨a1,cap2,rfl,_,_⟩:=ak U;clear h U hg;generalize dU rs xs=q at *;by_cases hl:(xs.length:Int)≤40
 ·have y:Hid (q=fD rs xs):=η (by rw [HE.out,decide_eq_true (by omega)]; simp)
  go_enter Tryz.func75,Tryz.ntmps75
  go_wp2_with (go_at_call 19; refine c1.mono ?_; rintro e w1 ⟨rfl,a0⟩)
  go_ret;exact ⟨aI y.out,a0⟩
 ·have y:Hid (false=fD rs xs):=η (by rw [HE.out,decide_eq_false (by omega)]; simp)
  go_enter Tryz.func75,Tryz.ntmps75
  go_wp2;go_ret;exact ⟨aI y.out,(Below.refl w.heap.size w)⟩
structure D.yM (w:World) (b1:List Nat) (v:Value) (L:List Value) (xs:List Ru) (wr:World):Prop where
 coll:∃ bs,aY 3 eX (w.heap.size+1) 40 wr v L xs bs∧∀ b ∈ bs,b ∈ b1
 bel:Below w.heap.size w wr
theorem D.yM.below {w wr w':World} {y:List Nat} {v:Value} {L:List Value} {xs:List Ru} (h:yM w y v L xs wr) (I:Below wr.heap.size wr w'):yM w y v L xs w':=
 ⟨by obtain ⟨bs,hc,h1⟩:=h.coll; exact ⟨bs,hc.below aU I,h1⟩,h.bel.trans (I.mono h.bel.size)⟩
def D.VK (rs:List Ru) (L:Nat):List Ru:=rs.filter fun r=>decide (dH rs r.head.name=L)
theorem D.VL (rs:List Ru) (L:Nat):OwnAt rs L (VK rs L):=fun r=>by unfold VK; rw [List.mem_filter,decide_eq_true_iff]
theorem D.Xk {rs:List Ru} (H:nP rs) {k:Nat} (I:k < rs.length) (y:k < (aA rs).length):(aA rs)[k]=dH rs rs[k].head.name:=by
 have J:=(gX H.cyc).2 k I;have U:dh rs k=rs[k]:=by unfold dh; simp [List.getD,I]
 have e2:gW (aA rs) k=(aA rs)[k]:=by unfold gW; simp [List.getD,y]
 rw [← e2,J,U]
structure D.Xl (rs:List Ru) (xs:List A) (L z:Nat) (own:List Ru) (fr:List Nat) (w W:World) (next:List Ru) (fs:List A) (rn:List Nat) (number:Nat) (wr:World):Prop where
 mid:pK rs xs L own next fs rn number
 sub:∀ q ∈ next,q ∈ own
 qK:jf (z+3) (z+2) z (z+1) (fun _=>True) fr fs rn wr
 bel:Below w.heap.size w wr
 kep:∀ x ∈ fr,wr.heap[x]? = W.heap[x]?
theorem D.VN {own:List Ru} {new:List A} {y:List ByteArray} (h:∀ s,s ∈ y ↔ ∃ t ∈ new,t.name=s):(own.filter fun r=>r.body.any (kU y))=O4 own new:=by
 classical
 unfold O4;refine List.filter_congr fun q _=>?_
 refine congrArg (fun f=>q.body.any f) (funext fun p=>?_);unfold kU;rw [decide_eq_decide.2 (h p.atom.name)]
theorem D.EL {own:List Ru} {y:List ByteArray} (h:y = []):(own.filter fun r=>r.body.any (kU y)) = []:=by
 subst h;rw [List.filter_eq_nil_iff];intro q _ hq;obtain ⟨p,_,I⟩:=List.any_eq_true.1 hq;unfold kU at I;simp at I
def D.BH (rs:List Ru) (xs:List A) (w:World) (e:Ending) (w':World):Prop:=
 Below w.heap.size w w'∧((fD rs xs=true∧(gy rs xs).2=true∧∃ z fr fs rn,w.heap.size≤z∧e=.returned (.tuple #[.pointer (some ⟨z+2,0,none⟩),.bool true])∧jf (z+3) (z+2) z (z+1) (fun _=>True) fr fs rn w'∧Xt fs rn (gy rs xs).1∧(∀ x ∈ fs,aN x)∧fs.length≤300) ∨
  ((fD rs xs=true→(gy rs xs).2=false)∧e=.returned (.tuple #[.pointer none,.bool false])))
theorem I8 (rs:List Ru) (xs:List A) (v1 v2:Value) (b1 b2:List Nat) (w:World) (h:dS w [v1] rs b1) (h2:aW w [v2] xs b2) (hg:mr w):
  Calls Tryz.prog 72 #[v1,v2] w (BH rs xs w):=by
 have c1:=EK rs xs v1 v2 b1 b2 w h h2 hg;obtain ⟨Ad,cap,rfl,cc,cd⟩:=ak h;obtain ⟨e1,cap2,rfl,_,_⟩:=ak h2;have dC:=ay (Nat.le_trans cc cd);have HH:=η (And.intro h h2);obtain ⟨i0,hi,cL,cP,cQ⟩:=info_parts GH;clear h h2 hg cc cd
 cases hf:fD rs xs with
 | false=>
  have HP:Hid (∀ w',Below w.heap.size w w'→BH rs xs w (.returned (.tuple #[.pointer none,.bool false])) w'):=η fun w' hb=>⟨hb,.inr ⟨fun h=>absurd (hf.symm.trans h) (by decide),rfl⟩⟩
  rw [hf] at c1;clear hf
  go_enter Tryz.func72,Tryz.ntmps72
  go_wp2_with fail
  refine c1.mono ?_;rintro e w1 ⟨rfl,az⟩;have HB:=η az;clear c1 az;go_wp2;go_ret2;exact HP.out _ HB.out
 | true=>
  have hK:=qB hf;have HF:=η hf;rw [hf] at c1;clear hf
  go_enter Tryz.func72,Tryz.ntmps72
  go_wp2_with fail
  refine c1.mono ?_;rintro e w1 ⟨rfl,az⟩;have ao:=η az;clear c1 az;have hR:=PY ((jU rs).2 hK.fine);have aD:∀ f ∈ xs,aN f:=fun f hf=>tu (hK.facts f hf)
  have c2:=zH xs _ b2 w1 (au.below HH.out.2 ao.out) aD (jL hK.fJ) (by have:=hK.n; omega)
  go_wp2_with fail
  refine c2.mono ?_;rintro e w2 ⟨rfl,hS⟩;obtain ⟨cg,ci⟩:=hS.qK (fun x hx=>Nat.lt_of_lt_of_le (au.lt HH.out.2 x hx) ao.out.size);have bo:=η (ao.out.trans (cg.mono ao.out.size));have cj:=η ci;clear hS ci cg c2;have c3:=wW rs _ b1 w2 (aV.below HH.out.1 bo.out) hK.m hK.ok
  go_wp2_with fail
  refine c3.mono ?_;rintro e w3 ⟨bB,a9⟩;clear c3
  rcases a9 with ⟨bx,_⟩ | ⟨_,v5,b5,rfl,aE,aL⟩
  ·have:=hK.fine.no
   rw [this] at bx; cases bx
  ·obtain ⟨A5,c5,rfl,_,_⟩:=ak aE
   have a1:jf (w1.heap.size+3) (w1.heap.size+2) w1.heap.size (w1.heap.size+1) (fun _=>True) b5 xs (List.replicate xs.length 0) w3:=by
    have:=(cj.out.mono (Fb':=fun _=>True) fun _ _ _=>trivial).more bB b5 fun x hx=>⟨(aL.own x hx).1,aL.lt hx⟩
    simpa using this
   have ck:Hid (pJ rs xs 0 xs (List.replicate xs.length 0) 0):=η (all_start hK.fJ aD (by have:=hK.n; omega));have cl:=η a1;have cm:=η (bo.out.trans (bB.mono bo.out.size));have cn:=η aE;have cT:Hid ((aA rs).length=rs.length):=η (eP rs);clear a1 aE aL bB cj;have ap:=η hR;have HK:=η hK;have co:=η ao.out.size;have cU:rs.length≤8:=hK.m;clear aD hR hK;go_wp2;generalize w1.heap.size=z at *;clear ao bo
   go_loopw [9,30] (fun v9 i wr=>∃ (L:Nat) (fs:List A) (rn:List Nat) (number:Nat),L≤rs.length∧i=.int .i64 L∧v9=.int .i64 number∧pJ rs xs L fs rn number∧jf (z+3) (z+2) z (z+1) (fun _=>True) b5 fs rn wr∧Below w.heap.size w wr∧∀ x ∈ b5,wr.heap[x]? = w3.heap[x]?) (fun _ i _=>rs.length - (intOf i).toNat)
   case atStart=>exact ⟨0,xs,_,0,Nat.zero_le _,rfl,rfl,ck.out,cl.out,cm.out,fun x _=>rfl⟩
   case round=>
    obtain ⟨L,fs,rn,number,hL,rfl,rfl,a6,a1,af,aM⟩:=hrel;clear ck cl cm;have cV:=η a6;have aR:=η a1;have b3:=η af;have bz:=η aM;by_cases a7:L < rs.length
    ·have cq:Hid (yM wr b1 (.slice none 0 0) [] [] wr):=η ⟨⟨[],aY.nil _,fun b hb=>by simp at hb⟩,Below.refl _ _⟩
     have e2:(0:Int)≤(L:Int):=by omega
     have cW:(L:Int) < (rs.length:Int):=by omega
     have b4:=η a7;clear a6 a1 af aM;obtain ⟨W0,cX⟩:∃ W0,W0=wr:=⟨_,rfl⟩;subst cX;go_wp2
     go_loopw [11,35] (fun v i cY=>∃ (k:Nat) (Av:Option Addr) (cp:Nat) (M:List Value) (ys:List Ru),k≤rs.length∧i=.int .i64 k∧v=.slice Av ys.length cp∧ys=(rs.take k).filter (fun r=>decide (dH rs r.head.name=L))∧yM W0 b1 (.slice Av ys.length cp) M ys cY) (fun _ i _=>rs.length - (intOf i).toNat)
     case atStart=>exact ⟨0,none,0,[],[],Nat.zero_le _,rfl,rfl,rfl,cq.out⟩
     case round=>
      obtain ⟨k,Av,cp,M,ys,hk,rfl,rfl,bE,hV⟩:=hrel;clear cq;have HY:=η bE
      have bL:Hid (ys.length≤1000000):=η (by
       rw [bE];refine Nat.le_trans (List.length_filter_le _ _) ?_
       rw [List.length_take]; omega)
      clear bE;have hB:=b3.out.trans (hV.bel.mono b3.out.size);by_cases a7:k < rs.length
      ·obtain ⟨b,o,Ae,ce,Af,cf,bk,rfl,_,d0,d1,d2,bO,bA⟩:=fH HH.out.1 a7
       replace d0:=cell_later hB d0;replace d1:=cell_later hB d1;replace d2:=cell_later hB d2;have aa:k < (aA rs).length:=by rw [cT.out]; exact a7
       obtain ⟨b7,o7,rfl,cr,e7⟩:=oZ cn.out aa;have e8:wr.cell? ⟨b7,o7+k,none⟩=some (.int .i64 ((aA rs)[k]:Nat)):=(World.cell?_of_block ((hV.bel.block b7 (aR.out.lt.2.2 _ cr)).trans (bz.out _ cr))).trans e7;have e3:(0:Int)≤(k:Int):=by omega
       have d3:(k:Int) < (rs.length:Int):=by omega
       have e4:(k:Int) < ((aA rs).length:Int):=by omega
       have bp:=Xk ap.out a7 aa;have hA:Below wr.heap.size wr (wr.alloc (.cells #[.string rs[k].head.name,.slice Ae rs[k].head.args.length ce,.slice Af rs[k].body.length cf] 40)):=(Below.refl _ _).alloc (Nat.le_refl _) _;have bR:=η (hV.below hA);have d4:=η (aU.below (aU.below bO hB) hA);have cv:=η (zD (fun r:Ru=>decide (dH rs r.head.name=L)) rs k a7);have d5:Hid (∀ c ∈ bk,c < W0.heap.size):=η fun c hc=>Nat.lt_of_lt_of_le (aU.lt bO c hc) b3.out.size
       have cw:=η bA;have e5:W0.heap.size≤wr.heap.size:=hV.bel.size;have e6:=lt_of_cell e8;clear bO bA hV hA hB e7;generalize (aA rs)[k]=lv at *;generalize rs[k]=r at *;obtain ⟨⟨nm,args⟩,body⟩:=r;dsimp only at *;have ag:=η a7;clear a7 aa;by_cases hq:lv=L
       ·have d6:((lv:Int) == (L:Int))=true:=beq_iff_eq.2 (by omega)
        have HQ:Hid ((rs.take (k+1)).filter (fun r=>decide (dH rs r.head.name=L))=ys ++ [(⟨⟨nm,args⟩,body⟩:Ru)]):=η (by rw [cv.out,HY.out,if_pos (by simp [← bp,hq])]);have bq:Below (wr.alloc (.cells #[.string nm,.slice Ae args.length ce,.slice Af body.length cf] 40)).heap.size (wr.alloc (.cells #[.string nm,.slice Ae args.length ce,.slice Af body.length cf] 40)) ((wr.alloc (.cells #[.string nm,.slice Ae args.length ce,.slice Af body.length cf] 40)).alloc (.cells #[.string nm,.slice Ae args.length ce,.slice Af body.length cf] 40)):=(Below.refl _ _).alloc (Nat.le_refl _) _;obtain ⟨d7,aq,b8⟩:=(bR.out.below bq).coll;have HC:=η aq;have d8:=η b8;have HB:=η (bR.out.below bq).bel
        have HR:Hid (aQ 3 eX ((wr.alloc (.cells #[.string nm,.slice Ae args.length ce,.slice Af body.length cf] 40)).alloc (.cells #[.string nm,.slice Ae args.length ce,.slice Af body.length cf] 40)) [.string nm,.slice Ae args.length ce,.slice Af body.length cf] [(⟨⟨nm,args⟩,body⟩:Ru)] bk):=η (aQ.cZ jY (aU.below d4.out bq))
        have HL:Hid (Lies ((wr.alloc (.cells #[.string nm,.slice Ae args.length ce,.slice Af body.length cf] 40)).alloc (.cells #[.string nm,.slice Ae args.length ce,.slice Af body.length cf] 40)) (some ⟨wr.heap.size+1,0,none⟩) [.string nm,.slice Ae args.length ce,.slice Af body.length cf]):=η (by
         have:=aS (heap_alloc_new (wr.alloc (.cells #[.string nm,.slice Ae args.length ce,.slice Af body.length cf] 40)) (.cells #[.string nm,.slice Ae args.length ce,.slice Af body.length cf] 40))
         simpa using this)
        have HF:Hid (∀ c,c < W0.heap.size+1→(Value.slice Av ys.length cp).ownBlock ≠ some c):=η fun c hc=>aJ aq.own hc
        have b9:W0.heap.size+1≤((wr.alloc (.cells #[.string nm,.slice Ae args.length ce,.slice Af body.length cf] 40)).alloc (.cells #[.string nm,.slice Ae args.length ce,.slice Af body.length cf] 40)).heap.size:=by simp; omega
        have d9:=η b9;clear aq b8 bq b9 bp hq
        go_wp2_with (at_builtin; refine bU rfl _ _ _ rfl (W0.heap.size+1) 40 i0 (.agg #[.string ⟨#[]⟩,.slice none 0 0,.slice none 0 0]) 3 64 Tryz.underlying23 hi cL cP cQ rfl (by omega) aU (.slice Av ys.length cp) ys.length _ _ _ rfl HC.out rfl (some ⟨wr.heap.size+1,0,none⟩) 1 1 _ [⟨⟨nm,args⟩,body⟩] _ rfl HR.out rfl HL.out (fun c hc=>HF.out c (by have:=d5.out c hc; omega)) (by have:=bL.out; unfold maxLen; omega) (by have:=bL.out; omega) W0 W0.heap.size HB.out (Nat.le_succ _) d9.out ?_; intro A9 da w9 cx cy db dc)
        have de:Hid (yM W0 b1 (.slice A9 (ys ++ [(⟨⟨nm,args⟩,body⟩:Ru)]).length da) (M ++ [.string nm,.slice Ae args.length ce,.slice Af body.length cf]) (ys ++ [(⟨⟨nm,args⟩,body⟩:Ru)]) w9):=η ⟨⟨_,by rw [List.length_append]; exact cx,fun b hb=>(List.mem_append.1 hb).elim (d8.out b) (cw.out b)⟩,cy⟩;have cz:ys.length+1=(ys ++ [(⟨⟨nm,args⟩,body⟩:Ru)]).length:=by simp
        rw [cz];clear cx cy db dc HC HB HR HL HF cz;go_roundw
        case rel=>exact ⟨k+1,_,_,_,_,ag.out,by go_num,rfl,HQ.out.symm,de.out⟩
        case measure=>have:=ag.out; simp [intOf]; omega
       ·have d6:((lv:Int) == (L:Int))=false:=by
         rw [beq_eq_false_iff_ne]; omega
        have HQ:Hid ((rs.take (k+1)).filter (fun r=>decide (dH rs r.head.name=L))=ys):=η (by rw [cv.out,HY.out,if_neg (by simp [← bp,hq])]);clear bp hq;go_wp2;go_roundw
        case rel=>exact ⟨k+1,_,_,_,_,ag.out,by go_num,rfl,HQ.out.symm,bR.out⟩
        case measure=>have:=ag.out; simp [intOf]; omega
      ·have dg:k=rs.length:=by omega
       have d3:¬ (k:Int) < (rs.length:Int):=by omega
       have cA:Hid (ys=VK rs L):=η (by rw [HY.out,List.take_of_length_le (Nat.le_of_eq dg.symm)]; rfl);obtain ⟨d7,aq,b8⟩:=hV.coll;obtain ⟨b6,br,y⟩:=aq.slice;obtain ⟨a0,bt⟩:∃ a0,a0=b5 ++ b6.filter (fun b=>decide (W0.heap.size≤b)):=⟨_,rfl⟩
       have bc:jf (z+3) (z+2) z (z+1) (fun _=>True) a0 fs rn wr:=bt ▸ aR.out.more hV.bel _ fun x hx=>by
        obtain ⟨h1,h2⟩:=List.mem_filter.1 hx;exact ⟨of_decide_eq_true h2,aV.lt br x h1⟩
       have cB:Hid (∀ w',Below w.heap.size w w'→(∀ x ∈ a0,w'.heap[x]? = wr.heap[x]?)→dS w' [.slice Av ys.length cp] ys b6):=η fun w' h1 h2=>aV.keep br fun b hb=>by
        by_cases di:W0.heap.size≤b
        ·exact h2 b (bt ▸ List.mem_append_right _ (List.mem_filter.2 ⟨hb,decide_eq_true di⟩))
        ·rcases y b hb with h3 | h3
         ·omega
         ·have h4:=aV.lt HH.out.1 b (b8 b h3)
          exact (h1.block b h4).trans (hB.block b h4).symm
       have cD:Hid (∀ x ∈ b5,x ∈ a0):=η fun x hx=>bt ▸ List.mem_append_left _ hx
       have dj:Hid (∀ x ∈ b5,wr.heap[x]? = w3.heap[x]?):=η fun x hx=>(hV.bel.block x (aR.out.lt.2.2 x hx)).trans (bz.out x hx)
       have e9:=η hB;have a2:pK rs xs L ys ys fs rn number:=cV.out.enter;have cE:Hid (Xl rs xs L z ys a0 w wr ys fs rn number wr):=η ⟨a2,fun q hq=>hq,bc,hB,fun x _=>rfl⟩;have cG:Hid (dS wr [.slice Av ys.length cp] ys b6):=η br;clear hV aq br y bt bc hB a2 HY b8;obtain ⟨W9,dk⟩:∃ W9,W9=wr:=⟨_,rfl⟩;subst dk;go_wp2
       go_loopg [9,14] 1000 (fun gg v9 dl cI=>∃ (next:List Ru) (bX:Option Addr) (c0:Nat) (c4:List Nat) (I:List A) (a4:List Nat) (J:Nat),v9=.int .i64 J∧dl=.slice bX next.length c0∧2 * (300 - I.length)+(if next = [] then 0 else 1)≤gg∧Aside (Xl rs xs L z ys a0 w W9 next I a4 J cI)∧Aside (dS cI [.slice bX next.length c0] next c4))
       case atStart=>exact ⟨ys,Av,cp,b6,fs,rn,number,rfl,rfl,by split <;> omega,cE.out,cG.out⟩
       case round=>
        obtain ⟨next,bX,c0,c4,I,a4,J,rfl,rfl,bu,a5,c6⟩:=hrel;clear cE cG;by_cases bf:next = []
        ·subst bf
         have HD:Hid (pJ rs xs (L+1) I a4 J∧jf (z+3) (z+2) z (z+1) (fun _=>True) b5 I a4 wr∧Below w.heap.size w wr∧∀ x ∈ b5,wr.heap[x]? = w3.heap[x]?):=η ⟨a5.out.mid.done ap.out (Nat.le_of_lt b4.out) (cA.out ▸ VL rs L),a5.out.qK.sub cD.out,a5.out.bel,fun x hx=>(a5.out.kep x (cD.out x hx)).trans (dj.out x hx)⟩;clear a5 c6 bu;go_wp2;go_roundw
         case rel=>exact ⟨L+1,I,a4,J,b4.out,by go_num,rfl,HD.out⟩
         case measure=>have:=b4.out; simp [intOf]; omega
        ·have dE:0 < next.length:=List.length_pos_iff.2 bf
         rw [if_neg bf] at bu;have ea:(0:Int) < (next.length:Int):=by omega
         obtain ⟨c7,dp,eb,am⟩:=a5.out.mid.few;have ab:OwnAt rs L ys:=cA.out ▸ VL rs L;have ac:=Sr (z+3) (z+2) z (z+1) (fun _=>True) (fun _ _=>trivial) a0 I a4 next _ c4 (J+1) w.heap.size wr a5.out.qK c6.out am c7 (by omega) (fun r hr=>ap.out.fol r ((ab r).1 (a5.out.sub r hr)).1) (by have:=co.out; omega);have dT:(0:Int)≤(J:Int):=by omega
         have e0:(J:Int)≤300:=by omega
         have bg:((J+1:Nat):Int)=(J:Int)+1:=by omega
         rw [bg] at ac;clear bg;have HG:=η bu;have cJ:=η bf;have bh:=η a5.out;have cK:=η ab;clear bu bf a5 c6 am ab dp
         go_wp2_with fail
         refine ac.mono ?_;rintro e w5 ⟨bi,a9⟩;clear ac
         rcases a9 with ⟨new,mc,n,Lm,fm,rfl,ar,bj,av,c8,aw,aa,bv,ec,bl,c9⟩ | ⟨rfl,new,ar,bj,av⟩
         ·have U:=bh.out.bel.trans bi
          have a3:∀ x ∈ a0,w5.heap[x]? = W9.heap[x]?:=fun x hx=>(aa x hx).trans (bh.out.kep x hx)
          have a2:=bh.out.mid.round ap.out (Nat.le_of_lt b4.out) cK.out cJ.out ar av c8;have HT:=η (KO mc n Lm fm ys (.slice Av ys.length cp) b6 w5 (cB.out w5 U a3) bv c9 bL.out);have bw:=η bv;by_cases hz:new = []
          ·have ae:Lm = []:=List.eq_nil_iff_forall_not_mem.2 fun s hs=>by
            obtain ⟨t,ht,_⟩:=(bl s).1 hs;rw [hz] at ht; simp at ht
           have bn:jf (z+3) (z+2) z (z+1) (fun _=>True) a0 I a4 w5:=by
            rw [hz] at aw; simpa using aw
           have HN:Hid ((ys.filter fun r=>r.body.any (kU Lm)) = []∧∀ w6,Below w5.heap.size w5 w6→Xl rs xs L z ys a0 w W9 (ys.filter fun r=>r.body.any (kU Lm)) I a4 J w6):=η ⟨EL ae,fun w6 y=>by
            rw [EL ae]
            exact ⟨a2.1 hz,fun q hq=>by simp at hq,bn.later y,U.trans (y.mono U.size),fun x hx=>(y.block x (bn.lt.2.2 x hx)).trans (a3 x hx)⟩⟩
           have ds:(Lm.length:Int)=0:=by rw [ae]; rfl
           clear bi aw bn aa bv bl c9 U a3 a2 ae ar bj av c8
           go_wp2_with (at_len; refine gm _ rfl _ _ rfl Tryz.underlying116 _ _ Lm _ rfl bw.out ?_)
           go_wp2_with fail
           refine HT.out.mono ?_;rintro e w6 ⟨y,dt,du,dv,rfl,a8⟩;have ca:=η (HN.out.2 w6 y);have cb:=η a8;have dx:=η HN.out.1;clear y a8 HT HN bw;go_wp2
           go_roundg (2 * (300 - I.length))
           case measure=>have:=HG.out; omega
           case rel=>exact ⟨_,_,_,_,I,a4,J,rfl,rfl,by rw [if_pos dx.out]; omega,ca.out,cb.out⟩
          ·have ed:0 < new.length:=List.length_pos_iff.2 hz
           have ae:Lm ≠ []:=fun e=>by
            obtain ⟨t,ht⟩:=List.exists_mem_of_ne_nil _ hz;have:=(bl t.name).2 ⟨t,ht,rfl⟩;rw [e] at this; simp at this
           have ds:(0:Int) < (Lm.length:Int):=by have:=List.length_pos_iff.2 ae; omega
           have HN:Hid (∀ w6,Below w5.heap.size w5 w6→Xl rs xs L z ys a0 w W9 (ys.filter fun r=>r.body.any (kU Lm)) (I ++ new) (a4 ++ List.replicate new.length (J+1)) (J+1) w6):=η fun w6 y=>by
            have h1:=a2.2 hz;rw [← VN bl] at h1;exact ⟨h1,fun q hq=>(List.mem_filter.1 hq).1,aw.later y,U.trans (y.mono U.size),fun x hx=>(y.block x (aw.lt.2.2 x hx)).trans (a3 x hx)⟩
           have dy:Hid (2 * (300 - (I ++ new).length)+1 < 2 * (300 - I.length)+1):=η (by rw [List.length_append]; omega);clear bi aw aa bv bl c9 U a3 a2 ae ar bj av c8
           go_wp2_with (at_len; refine gm _ rfl _ _ rfl Tryz.underlying116 _ _ Lm _ rfl bw.out ?_)
           go_wp2_with fail
           refine HT.out.mono ?_;rintro e w6 ⟨y,dt,du,dv,rfl,a8⟩;have ca:=η (HN.out w6 y);have cb:=η a8;clear y a8 HT HN bw;go_wp2
           go_roundg (2 * (300 - (I ++ new).length)+1)
           case measure=>have:=HG.out; have:=dy.out; omega
           case rel=>exact ⟨_,_,_,_,I ++ new,_,J+1,by go_num,rfl,by split <;> omega,ca.out,cb.out⟩
         ·have HP:Hid (BH rs xs w (.returned (.tuple #[.pointer none,.bool false])) w5):=η ⟨bh.out.bel.trans bi,.inr ⟨fun _=>bh.out.mid.over ap.out (Nat.le_of_lt b4.out) cK.out cJ.out ar bj av,rfl⟩⟩
          clear bi ar bj av;go_wp2;go_ret2;exact HP.out
    ·have dz:L=rs.length:=by omega
     have cW:¬ (L:Int) < (rs.length:Int):=by omega
     have HP:Hid (BH rs xs w (.returned (.tuple #[.pointer (some ⟨z+2,0,none⟩),.bool true])) wr):=η (by
      rw [dz] at a6;obtain ⟨h1,h2,h3,h4,h5⟩:=a6.fin ap.out
      exact ⟨af,.inl ⟨HF.out,h1,z,b5,fs,rn,co.out,rfl,a1,h2,h4,h5⟩⟩)
     clear a6 a1 af aM;go_wp2;go_ret2;exact HP.out
theorem D.yN {rs:List Ru} {xs:List A} (h:fD rs xs=true) (I:(gy rs xs).2=true):oL (gy rs xs).1∧(∀ x ∈ (gy rs xs).1.1,aN x)∧(gy rs xs).1.1.length≤300∧∀ t,t ∈ (gy rs xs).1.1 ↔ nO rs (fun x=>x ∈ xs) t:=by
 have hK:=qB h
 rcases MG (PY ((jU rs).2 hK.fine)) hK.fJ (fun f hf=>tu (hK.facts f hf)) (by have:=hK.n; omega) with ⟨_,y,J,U,h6⟩ | ⟨y,_⟩
 ·exact ⟨J,U,y,h6⟩
 ·rw [I] at y; cases y
theorem D.xP {rs:List Ru} {xs:List A} (h:fD rs xs=true) (y:(gy rs xs).2=true):bW rs xs=((gy rs xs).1.1,true):=by unfold bW; rw [if_pos h,if_pos y]
theorem D.tJ {rs:List Ru} {xs:List A} (h:fD rs xs=true→(gy rs xs).2=false):bW rs xs=([],false):=by
 unfold bW;by_cases y:fD rs xs=true
 ·rw [if_pos y,h y]; rfl
 ·rw [if_neg y]
theorem SC (rs:List Ru) (xs:List A) (v1 v2:Value) (b1 b2:List Nat) (w:World) (h:dS w [v1] rs b1) (h2:aW w [v2] xs b2) (hg:mr w):
  Calls Tryz.prog 53 #[v1,v2] w fun e w'=>Below w.heap.size w w'∧∃ Av cp bs,e=.returned (.tuple #[.slice Av (bW rs xs).1.length cp,.bool (bW rs xs).2])∧aW w' [.slice Av (bW rs xs).1.length cp] (bW rs xs).1 bs:=by
 have c1:=I8 rs xs v1 v2 b1 b2 w h h2 hg;obtain ⟨Ad,cap,rfl,a7,a8⟩:=ak h;obtain ⟨ac,cap2,rfl,_,_⟩:=ak h2;clear h h2 hg a7 a8
 go_enter Tryz.func53,Tryz.ntmps53
 go_wp2_with fail
 refine c1.mono ?_;rintro e w1 ⟨y,a2⟩;clear c1
 rcases a2 with ⟨hok,I,z,fr,fs,rn,hz,rfl,a4,U,a0,hlen⟩ | ⟨a5,rfl⟩
 ·obtain ⟨Af,cf,Lf,Ar,cr,Lr,ou,bf,S,_,_⟩:=a4
  have hC:=S.cF;have c2:=xO fs _ Lf bf (z+3) w1 hC (by omega);have x0:w1.cell? ⟨z+2,0,none⟩=some (.slice Af fs.length cf):=ai S.blk;have lx:=lt_of_cell x0
  have hE:Hid (∀ w2 ys L' bs',ys.Perm fs→ys.Pairwise (fun a b=>¬ dJ b a < 0)→aY 2 aG (z+3) 33 w2 (.slice Af fs.length cf) L' ys bs'→dX (fun x=>(Value.slice Af fs.length cf).ownBlock=some x) w1 w2→
    w2.cell? ⟨z+2,0,none⟩=some (.slice Af fs.length cf)∧Below w.heap.size w w2∧(bW rs xs).2=true∧(bW rs xs).1.length=fs.length∧∃ b9,aW w2 [.slice Af fs.length cf] (bW rs xs).1 b9):=η fun w2 ys L' bs' q1 q2 q3 J=>by
   have a6:∀ x,(Value.slice Af fs.length cf).ownBlock=some x→z+3≤x:=fun x hx=>by
    have h9:¬ x < z+3:=fun h=>aJ hC.own h hx
    exact Nat.le_of_not_lt h9
   obtain ⟨r1,r2,r3,r4⟩:=yN hok I;have a3:=U.fst r1;have a1:∀ t ∈ ys,aN t:=fun t ht=>a0 t (q1.mem_iff.1 ht)
   have a9:ys.Nodup:=(q1.trans a3).nodup_iff.2 (jL r1.fJ);have aa:ys=(gy rs xs).1.1:=xI (EI a1 a9 q2) r1.fJ a1 r2 fun t=>by rw [q1.mem_iff,a3.mem_iff]
   obtain ⟨b9,ab,_⟩:=q3.slice;rw [xP hok I];refine ⟨(World.cell?_of_block (J.block (z+2) (lt_of_cell x0) (fun e=>by have:=a6 (z+2) e; omega))).trans x0,⟨J.os.trans y.os,J.tape.trans y.tape,J.output.trans y.output,Nat.le_trans y.size J.size,fun k hk=>(J.block k (Nat.lt_of_lt_of_le hk y.size) fun e=>by have:=a6 k e; omega).trans (y.block k hk)⟩,rfl,a3.length_eq.symm,b9,?_⟩;rw [← aa];exact ab
  clear S hC U a0 y hok I
  go_wp2_with fail
  refine c2.mono ?_;rintro e w2 ⟨rfl,ys,L',bs',q1,q2,_,J,q5⟩;obtain ⟨y0,y1,y2,y3,b9,y4⟩:=hE.out w2 ys L' bs' q1 q2 J q5;have HB:=η y1;have H4:=η y4;have H2:=η y2;have H3:=η y3;clear hE c2 q1 q2 J q5 y1 y4 y2 y3 x0;go_wp2;go_ret2;rw [H2.out,H3.out];exact ⟨HB.out,Af,cf,b9,rfl,H4.out⟩
 ·have HE:=η (tJ a5)
  clear a5;go_wp2;go_ret2;rw [HE.out];exact ⟨y,none,0,[],rfl,⟨none,0,rfl,Nat.le_refl _,Nat.zero_le _,fun _=>rfl,fun h=>absurd rfl h⟩⟩
theorem ng (rs:List Ru) (xs:List A) (v1 v2:Value) (b1 b2:List Nat) (w:World) (h:dS w [v1] rs b1) (h2:aW w [v2] xs b2) (hg:mr w):
  Calls Tryz.prog 13 #[v1,v2] w (Nl aW (bW rs xs) w.heap.size w):=by
 have c1:=SC rs xs v1 v2 b1 b2 w h h2 hg;obtain ⟨Ad,cap,rfl,a1,a2⟩:=ak h;obtain ⟨a3,cap2,rfl,_,_⟩:=ak h2
 have HN:Hid ((bW rs xs).1.length≤16777216∧∀ a ∈ (bW rs xs).1,a.args.length≤16777216):=η (by
  by_cases hc:fD rs xs=true∧(gy rs xs).2=true
  ·obtain ⟨r1,r2,r3,r4⟩:=yN hc.1 hc.2
   rw [xP hc.1 hc.2];exact ⟨by show (gy rs xs).1.1.length≤_; omega,fun a ha=>by have:=Ez (r2 a ha).ok; omega⟩
  ·rw [tJ (fun h=>by
    cases hr:(gy rs xs).2
    ·rfl
    ·exact absurd ⟨h,hr⟩ hc)]
   exact ⟨Nat.zero_le _,fun a ha=>by simp at ha⟩)
 clear h h2 hg a1 a2;generalize bW rs xs=ev at *;obtain ⟨el,eb⟩:=ev;dsimp only at *
 go_enter Tryz.func13,Tryz.ntmps13
 go_wp2_with fail
 refine c1.mono ?_;rintro e w1 ⟨I,Av,cp,bs,rfl,J⟩;have c2:=Fg el _ bs w1 J HN.out.1 HN.out.2;have y:=η I;clear c1 J I
 go_wp2_with fail
 refine c2.mono ?_;rintro e w2 ⟨U,v9,b9,rfl,h9,a0⟩;obtain ⟨A9,c9,rfl,_,_⟩:=ak h9;have HZ:Hid (Nl aW (el,eb) w.heap.size w (.returned (.tuple #[.slice A9 el.length c9,.bool eb])) w2):=η ⟨y.out.trans (U.mono y.out.size),_,b9,rfl,h9,a0.mono y.out.size⟩;clear c2 U h9 a0;go_wp2;go_ret2;exact HZ.out
end Go.Proofs.YtkjinanbccloeaaGreatDoor
namespace Go.Proofs.YtkjinanbccloeaaGreatDoor
open Go.RowKit D
theorem D.EM (rs:List Ru) (xs:List A):(fD rs xs=true∧(gy rs xs).2=true∧bW rs xs=((gy rs xs).1.1,true))∨bW rs xs=([],false):=by
 by_cases hc:fD rs xs=true∧(gy rs xs).2=true
 ·exact .inl ⟨hc.1,hc.2,xP hc.1 hc.2⟩
 ·refine .inr (tJ fun h=>?_)
  cases hr:(gy rs xs).2
  ·rfl
  ·exact absurd ⟨h,hr⟩ hc
theorem D.tK {y l2:List A} (h:y.Nodup) (I:∀ x ∈ y,x ∈ l2):y.length≤l2.length:=by
 classical exact lm h I
theorem D.O7 {xs:List A} (h1:xs.length≤300) (y:∀ x ∈ xs,aN x) (I:fJ xs=true):iP xs=true:=by
 unfold iP;simp only [Bool.and_eq_true,decide_eq_true_eq,List.all_eq_true];exact ⟨⟨h1,fun x J=>tH (y x J)⟩,I⟩
theorem D.SE {rs:List Ru} {xs:List A} (h0:dQ rs=0) (h1:xs.length≤40) (y:∀ x ∈ xs,aN x) (I:fJ xs=true) (J:kV (aF rs) xs=true):fD rs xs=true:=by
 unfold fD okB;simp only [Bool.and_eq_true,decide_eq_true_eq,List.all_eq_true];exact ⟨⟨h0,⟨fun x U=>tH (y x U),I⟩,h1⟩,J⟩
structure D.xQ (rs:List Ru) (xs:List A):Prop where
 prog:dQ rs=0
 few:xs.length≤40
 fact:∀ x ∈ xs,aN x
 fJ:fJ xs=true
 fit:kV (aF rs) xs=true
theorem D.tN {rs:List Ru} {xs:List A}:fD rs xs=true ↔ xQ rs xs:=by
 constructor
 ·intro h
  have hK:=qB h;exact ⟨(jU rs).2 hK.fine,hK.n,fun x y=>tu (hK.facts x y),hK.fJ,hK.fit⟩
 ·exact fun h=>SE h.prog h.few h.fact h.fJ h.fit
theorem D.xQ.rules {rs:List Ru} {xs:List A} (h:xQ rs xs):nP rs:=PY h.prog
theorem D.lC {rs:List Ru} {xs:List A} (h:xQ rs xs):(∃ ys,bW rs xs=(ys,true)∧fJ ys=true∧(∀ y ∈ ys,aN y)∧ys.length≤300∧∀ t,t ∈ ys ↔ nO rs (fun x=>x ∈ xs) t) ∨
  (bW rs xs=([],false)∧∃ L:List A,L.Nodup∧300 < L.length∧∀ t ∈ L,nO rs (fun x=>x ∈ xs) t):=by
 have hok:=tN.2 h
 rcases MG h.rules h.fJ h.fact (by have:=h.few; omega) with ⟨I,J,U,h5,h6⟩ | ⟨I,hL⟩
 ·exact .inl ⟨_,xP hok I,U.fJ,h5,J,h6⟩
 ·exact .inr ⟨tJ fun _=>I,hL⟩
theorem D.lZ {rs:List Ru} {xs:List A} (h:(bW rs xs).2=true):xQ rs xs∧fJ (bW rs xs).1=true∧(∀ y ∈ (bW rs xs).1,aN y)∧(bW rs xs).1.length≤300∧∀ t,t ∈ (bW rs xs).1 ↔ nO rs (fun x=>x ∈ xs) t:=by
 rcases EM rs xs with ⟨h1,h2,e⟩ | e
 ·have hin:=tN.1 h1
  rcases lC hin with ⟨ys,I,J,U,h5,h6⟩ | ⟨I,_⟩
  ·rw [I]
   exact ⟨hin,J,U,h5,h6⟩
  ·rw [I] at h; cases h
 ·rw [e] at h; cases h
theorem D.VO {rs:List Ru} {xs:List A} (h:xQ rs xs) {U:List A} (hU:U.length≤300) (y:∀ t,nO rs (fun x=>x ∈ xs) t→t ∈ U):(bW rs xs).2=true:=by
 rcases lC h with ⟨ys,e,_⟩ | ⟨_,L,h1,h2,I⟩
 ·rw [e]
 ·have:=tK h1 (l2:=U) fun t J=>y t (I t J)
  omega
section
variable {rs:List Ru} {xs:List A}
theorem D.O8 (h:(bW rs xs).2=true):∀ x ∈ xs,x ∈ (bW rs xs).1:=fun x y=>((lZ h).2.2.2.2 x).2 (O1 y)
theorem D.He (h:(bW rs xs).2=true) {r:Ru} (hr:r ∈ rs) {t:A} (hf:iW (bW rs xs).1 r t):t ∈ (bW rs xs).1:=by
 obtain ⟨h1,_,_,_,y⟩:=lZ h;exact (y t).2 (MK h1.rules hr ((lu fun x _=>y x).1 hf))
theorem D.O9 (a:A) (σ:Wo) (b:A):clash b (fA σ a)=clash b a:=by
 unfold clash fA;simp
theorem D.MS (h:(bW rs xs).2=true):kV (aF rs) (bW rs xs).1=true:=by
 obtain ⟨h1,_,_,_,J⟩:=lZ h;have y:=((jU rs).1 h1.prog).alike;rw [nZ,Bool.not_eq_true',List.any_eq_false] at y;unfold kV IJ;simp only [List.all_eq_true];intro x U a ha
 rcases ED ((J x).1 U) with hg | ⟨r,hr,σ,rfl⟩
 ·have:=h1.fit
  unfold kV IJ at this;simp only [List.all_eq_true] at this;exact this x hg a ha
 ·rw [O9]
  have I:=y a ha;rw [Bool.not_eq_true,List.any_eq_false] at I;have h7:=I r.head (List.mem_flatMap.2 ⟨r,hr,by unfold iV; simp⟩);simpa using h7
theorem D.Pg (h:(bW rs xs).2=true) (hl:(bW rs xs).1.length≤40):bW rs (bW rs xs).1=((bW rs xs).1,true):=by
 obtain ⟨h1,J,U,h4,h5⟩:=lZ h;have hin:xQ rs (bW rs xs).1:=⟨h1.prog,hl,U,J,MS h⟩;have y:∀ t,nO rs (fun x=>x ∈ (bW rs xs).1) t ↔ t ∈ (bW rs xs).1:=RP fun r hr t hf=>He h hr hf
 rcases lC hin with ⟨ys,e,I,g2,_,g4⟩ | ⟨_,L,I,g2,g3⟩
 ·rw [e]
  have:ys=(bW rs xs).1:=xI I J g2 U fun t=>by rw [g4,y]
  rw [this]
 ·have:=tK I (l2:=(bW rs xs).1) fun t ht=>(y t).1 (g3 t ht)
  omega
theorem D.SG {y:List Ru} {xs':List A} (h:xQ rs xs) (h':xQ y xs') (U:∀ t,nO rs (fun x=>x ∈ xs) t ↔ nO y (fun x=>x ∈ xs') t):bW rs xs=bW y xs':=by
 rcases lC h with ⟨ys,e,g1,g2,g3,g4⟩ | ⟨e,L,g1,g2,g3⟩
 ·rcases lC h' with ⟨I,J,k1,k2,_,k4⟩ | ⟨J,L',k1,k2,k3⟩
  ·rw [e,J,xI g1 k1 g2 k2 fun t=>by rw [g4,k4,U]]
  ·have:=tK k1 (l2:=ys) fun t ht=>(g4 t).2 ((U t).2 (k3 t ht))
   omega
 ·rcases lC h' with ⟨I,J,k1,k2,k3,k4⟩ | ⟨J,_⟩
  ·have:=tK g1 (l2:=I) fun t ht=>(k4 t).2 ((U t).1 (g3 t ht))
   omega
  ·rw [e,J]
end
theorem D.VP {rs:List Ru} (H:nP rs) {T:ByteArray→Nat} (I:Jb rs T) {r:Ru} (hr:r ∈ rs):dH rs r.head.name≤T r.head.name:=by
 obtain ⟨i,y,rfl⟩:=List.getElem_of_mem hr;have e:dh rs i=rs[i]:=by unfold dh; simp [List.getD,y]
 have h1:=uS I i y;have J:=(gX H.cyc).2 i y;rw [e] at h1 J;omega
theorem D.yO {rs y:List Ru} (hm:∀ r,r ∈ rs ↔ r ∈ y) {S:ByteArray→Nat} (h:Jb rs S):Jb y S:=fun r hr p I J=>h r ((hm r).2 hr) p I (by
 obtain ⟨q,hq,e⟩:=List.mem_map.1 J
 exact List.mem_map.2 ⟨q,(hm q).2 hq,e⟩)
theorem D.SH {rs y:List Ru} (H:nP rs) (I:nP y) (hm:∀ r,r ∈ rs ↔ r ∈ y):∀ r ∈ rs,dH rs r.head.name=dH y r.head.name:=fun r hr=>by
 have h1:=VP H (yO (fun r=>(hm r).symm) (gX I.cyc).1) hr;have J:=VP I (yO hm (gX H.cyc).1) ((hm r).1 hr);omega
theorem D.su {rs y:List Ru} (hm:∀ r,r ∈ rs ↔ r ∈ y) (a:A):a ∈ aF rs ↔ a ∈ aF y:=by
 unfold aF;rw [List.mem_flatMap,List.mem_flatMap];exact ⟨fun ⟨r,hr,h⟩=>⟨r,(hm r).1 hr,h⟩,fun ⟨r,hr,h⟩=>⟨r,(hm r).2 hr,h⟩⟩
theorem D.SI {rs y:List Ru} (hm:∀ r,r ∈ rs ↔ r ∈ y) (xs:List A) (h:kV (aF rs) xs=true):kV (aF y) xs=true:=by
 unfold kV IJ at *;simp only [List.all_eq_true] at *;exact fun x I a ha=>h x I a ((su hm a).2 ha)
theorem D.Ph {rs y:List Ru} (U:rs.length=y.length) (hm:∀ r,r ∈ rs ↔ r ∈ y) (h:dQ rs=0):dQ y=0:=by
 have hf:=(jU rs).1 h;have H:=PY h;refine (jU y).2 ⟨List.all_eq_true.2 fun r hr=>List.all_eq_true.1 hf.ok r ((hm r).2 hr),by have:=hf.few; omega,?_,List.all_eq_true.2 fun r hr=>List.all_eq_true.1 hf.tight r ((hm r).2 hr),oU (yO hm (gX H.cyc).1)⟩;have h1:=hf.alike;rw [nZ,Bool.not_eq_true',List.any_eq_false] at h1 ⊢;intro a ha;have I:=h1 a ((su hm a).2 ha);rw [Bool.not_eq_true,List.any_eq_false] at I ⊢;exact fun b J=>I b ((su hm b).2 J)
theorem D.Pj {rs y:List Ru} (J:rs.length=y.length) (hm:∀ r,r ∈ rs ↔ r ∈ y) (xs:List A):bW rs xs=bW y xs:=by
 have U:∀ {rs y:List Ru},rs.length=y.length→(∀ r,r ∈ rs ↔ r ∈ y)→xQ rs xs→xQ y xs:=fun J hm h=>⟨Ph J hm h.prog,h.few,h.fact,h.fJ,SI hm xs h.fit⟩
 by_cases h:xQ rs xs
 ·have I:=U J hm h
  exact SG h I (O3 J hm (SH h.rules I.rules hm) _)
 ·have I:¬ xQ y xs:=fun I=>h (U J.symm (fun r=>(hm r).symm) I)
  rw [tJ fun e=>absurd (tN.1 e) h,tJ fun e=>absurd (tN.1 e) I]
theorem D.SK {rs:List Ru} {xs xs':List A} (h:(bW rs xs).2=true) (hn:∀ r ∈ rs,∀ p ∈ r.body,p.no=false) (I:xs'.Sublist xs):(bW rs xs').2=true∧∀ t ∈ (bW rs xs').1,t ∈ (bW rs xs).1:=by
 obtain ⟨h1,h2,h3,h4,h5⟩:=lZ h
 have hin:xQ rs xs':=⟨h1.prog,Nat.le_trans I.length_le h1.few,fun x J=>h1.fact x (I.subset J),Bh h1.fJ I,by
  have:=h1.fit;unfold kV at *;simp only [List.all_eq_true] at *
  exact fun x J=>this x (I.subset J)⟩
 have y:∀ t,nO rs (fun x=>x ∈ xs') t→t ∈ (bW rs xs).1:=fun t U=>(h5 t).2 (RQ hn (fun x J=>I.subset J) U)
 have h6:=VO hin h4 y;exact ⟨h6,fun t U=>y t (((lZ h6).2.2.2.2 t).1 U)⟩
theorem D.I9 {rs:List Ru} {xs:List A}:iP (bW rs xs).1=true:=by
 rcases EM rs xs with ⟨h1,y,e⟩ | e
 ·rw [e]
  obtain ⟨r1,I,J,_⟩:=yN h1 y
  exact NT J (fun x U=>by
   have h:=I x U;unfold dO jP;rw [h.ok,Bool.true_and,Bool.not_eq_true',List.any_eq_false];intro t ht;rw [h.gr t ht]
   simp) r1.fJ
 ·rw [e]; rfl
end Go.Proofs.YtkjinanbccloeaaGreatDoor
namespace Go.Proofs.YtkjinanbccloeaaGreatDoor
open Go.RowKit D
attribute [local go_sem ↓] Go.wp_at_zero Go.wp_at_succ
theorem SL:(Tryz.prog.info? 40).map (fun i=>(i.zero,i.size,i.bytes))=some (some (.agg #[.string ⟨#[]⟩,.slice none 0 0,.slice none 0 0]),3,64):=by kernel_rfl
structure D.VQ (rs:List Ru) (base k:Nat) (v:Value) (w wr:World):Prop where
 coll:∃ L bs,aY 3 eX base 40 wr v L ((rs.drop k).reverse) bs
 below:Below base w wr
theorem D.SN (rs:List Ru) (j:Nat) (h:j < rs.length):(rs.drop j).reverse=(rs.drop (j+1)).reverse ++ [rs[j]]:=by
 rw [List.drop_eq_getElem_cons h,List.reverse_cons]
theorem xR (cs:List UInt8) (v1:Value) (aw:List Nat) (w:World) (h1:oD w [v1] cs aw) (hg:mr w):
  Calls Tryz.prog 4 #[v1] w fun e w'=>e=.returned (.bool true)∧Below w.heap.size w w':=by
 obtain ⟨Ad,cap,rfl,hl,hm⟩:=ak h1;have c8:=ay (Nat.le_trans hl hm);obtain ⟨i0,hi,bo,bp,bq⟩:=info_parts SL;clear hl hm;have HG:=η hg;clear hg;by_cases hn:cs.length≤1048576
 ·have hd:=qy _ cs aw w h1 hn
  have bt:¬ (1048576:Int) < (cs.length:Int):=by omega
  clear h1 hn
  go_enter Tryz.func4,Tryz.ntmps4
  go_wp2_with fail
  refine hd.mono ?_;rintro e w1 ⟨rs,A0,c0,b0,xs,A1,c1,b1,rfl,a9,aa,bu,_,ab⟩;obtain ⟨ys,z,hE⟩:∃ ys z,bW rs xs=(ys,z):=⟨_,_,rfl⟩;have HE:=η hE;have a0:=η ab;have a4:=η (And.intro a9 aa);have bv:=η bu;have ac:=ng rs xs _ _ b0 b1 w1 a9 aa (HG.out.below ab);rw [hE] at ac;clear hd a9 aa ab hE
  go_wp2_with fail
  refine ac.mono ?_;rintro e w2 ⟨a5,v2,b2,rfl,ae,_⟩;obtain ⟨A2,c2,rfl,_,_⟩:=ak ae;have a1:=η a5;have a6:=η ae;have af:=eval_any rs xs _ _ b0 b1 w2 (aV.below a4.out.1 a5) (au.below a4.out.2 a5);rw [HE.out] at af;clear ac a5 ae
  go_wp2_with fail
  refine af.mono ?_;rintro e I ⟨ag,v3,b3,rfl,am⟩;obtain ⟨A3,c3,rfl,_,_⟩:=ak am;have ao:=η (a1.out.trans (ag.mono a1.out.size));replace a6:=η (au.below a6.out ag);have bw:=η am;have az:=η (aV.below a4.out.1 ao.out);have aD:Below I.heap.size I (I.alloc (.cells #[] 40)):=(Below.refl _ _).alloc (Nat.le_refl _) _
  have aE:Hid (VQ rs I.heap.size rs.length (.slice (some ⟨I.heap.size,0,none⟩) 0 0) I (I.alloc (.cells #[] 40))):=η ⟨by
   rw [List.drop_of_length_le (Nat.le_refl _)]
   exact ⟨_,_,aY.empty (heap_alloc_new I _) (Nat.le_refl _)⟩,aD⟩
  clear af ag am aD;go_wp2
  go_loopw [9,10] (fun t i wr=>∃ (k:Nat) (At:Option Addr) (ct m:Nat),k≤rs.length∧i=.int .i64 ((k:Int) - 1)∧m=rs.length - k∧t=.slice At m ct∧VQ rs I.heap.size k (.slice At m ct) I wr) (fun _ i _=>(intOf i+1).toNat)
  case atStart=>exact ⟨rs.length,_,_,0,Nat.le_refl _,by go_num,by omega,rfl,aE.out⟩
  case round=>
   obtain ⟨k,At,ct,m,hk,rfl,aL,rfl,hT⟩:=hrel;have HM:=η aL;clear aL aE;by_cases aM:0 < k
   ·obtain ⟨j,rfl⟩:∃ j,k=j+1:=⟨k - 1,by omega⟩
    obtain ⟨⟨L,bs,hC⟩,J⟩:=hT;have hj:j < rs.length:=by omega
    obtain ⟨br,c9,Ae,ce,Af,cf,bk,bx,_,f0,f1,f2,aR,b6⟩:=fH (aV.below az.out J) hj;subst bx;have ca:(0:Int)≤(j:Int):=by omega
    have cb:(j:Int) < (rs.length:Int):=by omega
    have b7:((j+1:Nat):Int) - 1=(j:Int):=by omega
    rw [b7];have HC:=η hC;have bz:=η (SN rs j hj);have HJ:=η hj;have b8:=η J;have bA:Hid (∀ c ∈ bk,c < I.heap.size):=η fun c hc=>aV.lt az.out c (b6 c hc)
    have b9:=η aR;clear hC b6 aR hk aM b7 J;generalize rs[j]=r at *;have cc:m≤9:=by have:=HM.out; have:=bv.out; omega
    have a7:Below wr.heap.size wr (wr.alloc (.cells #[.string r.head.name,.slice Ae r.head.args.length ce,.slice Af r.body.length cf] 40)):=(Below.refl _ _).alloc (Nat.le_refl _) _;have a1:=η (b8.out.trans (a7.mono b8.out.size));have bB:=η (HC.out.below aU a7);have HL:=η (aS (heap_alloc_new wr (.cells #[.string r.head.name,.slice Ae r.head.args.length ce,.slice Af r.body.length cf] 40)));have bE:=η (aQ.cZ (n:=3) (R:=eX) jY (aU.below b9.out a7));have HF:Hid (∀ b ∈ bk,(Value.slice At m ct).ownBlock ≠ some b):=η (fun b bL=>aJ HC.out.own (bA.out b bL));have bO:Hid (((rs.drop (j+1)).reverse).length=m):=η (by rw [HM.out]; simp);clear hj a7 b9
    go_wp2_with (at_builtin; refine bU rfl _ _ _ rfl I.heap.size 40 i0 (.agg #[.string ⟨#[]⟩,.slice none 0 0,.slice none 0 0]) 3 64 Tryz.underlying23 hi bo bp bq rfl (by omega) aU (.slice At m ct) m _ _ _ rfl bB.out bO.out (some ⟨wr.heap.size,0,none⟩) 1 1 _ [r] _ rfl bE.out rfl HL.out HF.out (by unfold maxLen; omega) (by omega) I I.heap.size a1.out (Nat.le_refl _) a1.out.size ?_; intro A4 c4 w4 bc U bR _)
    have bX:Hid (VQ rs I.heap.size j (.slice A4 (m+1) c4) I w4):=η ⟨⟨_,_,by rw [bz.out]; exact bc⟩,U⟩;clear bc U bR;go_wp2;go_roundw
    case rel=>exact ⟨j,A4,c4,m+1,by have:=HJ.out; omega,by first | go_num | rfl,by have:=HM.out; have:=HJ.out; omega,rfl,bX.out⟩
    case measure=>simp [intOf] <;> omega
   ·obtain rfl:k=0:=by omega
    obtain ⟨⟨L,bs,hC⟩,J⟩:=hT;obtain ⟨b4,ap,_⟩:=hC.slice;rw [List.drop_zero] at ap;have U:=ao.out.trans (J.mono ao.out.size);have aq:=ng rs.reverse xs _ _ b4 b1 wr ap (au.below a4.out.2 U) (HG.out.below (a0.out.trans (U.mono a0.out.size)));rw [← Pj (rs:=rs) (List.length_reverse ..).symm (fun r=>List.mem_reverse.symm),HE.out] at aq;have bf:=η U;have y:=η J;have cd:(z == z)=true:=by simp
    clear hk aM hC ap U J
    go_wp2_with fail
    refine aq.mono ?_;rintro e w5 ⟨a2,v5,b5,rfl,ar,_⟩;obtain ⟨A5,c5,rfl,_,_⟩:=ak ar;have bg:=η (bf.out.trans (a2.mono bf.out.size));have c6:=η ar;have bh:=jZ ys ys _ _ b2 b3 w5 (au.below a6.out (y.out.trans (a2.mono y.out.size))) (au.below bw.out (y.out.trans (a2.mono y.out.size)));have a3:=η (y.out.trans (a2.mono y.out.size));clear aq a2 ar
    go_wp2_with fail
    refine bh.mono ?_;rintro e w6 ⟨r6,rfl,bi,a8⟩;obtain rfl:r6=true:=bi.2 (by first | trivial | rfl);have av:=η (bg.out.trans (a8.mono bg.out.size));have bj:=jZ ys ys _ _ b5 b2 w6 (au.below c6.out a8) (au.below a6.out (a3.out.trans (a8.mono a3.out.size)));clear bh bi a8;cases z
    ·go_wp2
     go_ret;exact ⟨rfl,a0.out.trans (av.out.mono a0.out.size)⟩
    ·go_wp2_with fail
     refine bj.mono ?_;rintro e w7 ⟨r7,rfl,bl,bn⟩;obtain rfl:r7=true:=bl.2 (by first | trivial | rfl);have c7:=η (av.out.trans (bn.mono av.out.size));clear bj bl bn;go_wp2;go_ret;exact ⟨rfl,a0.out.trans (c7.out.mono a0.out.size)⟩
 ·have bt:(1048576:Int) < (cs.length:Int):=by omega
  clear h1
  go_enter Tryz.func4,Tryz.ntmps4
  go_wp2;go_ret;exact ⟨rfl,Below.refl _ _⟩
theorem SQ:(Tryz.prog.info? 33).map (fun i=>(i.zero,i.size,i.bytes))=some (some (.agg #[.string ⟨#[]⟩,.slice none 0 0]),2,40):=by kernel_rfl
theorem D.Xm {α:Type} (xs:List α) (n:Nat):(xs.take n ++ xs.drop (n+1)).Sublist xs:=by
 conv=>rhs; rw [← List.take_append_drop n xs]
 refine List.Sublist.append (List.Sublist.refl _) ?_;rw [← List.drop_drop];exact List.drop_sublist _ _
theorem yP (cs:List UInt8) (v1:Value) (cB:List Nat) (ae:List UInt8) (v2:Value) (dz:List Nat) (w:World) (h1:oD w [v1] cs cB) (h2:oD w [v2] ae dz) (hg:mr w):
  Calls Tryz.prog 5 #[v1,v2] w fun e w'=>e=.returned (.bool true)∧Below w.heap.size w w':=by
 obtain ⟨Ad,cap,rfl,hl,hm⟩:=ak h1;have el:=ay (Nat.le_trans hl hm);obtain ⟨em,cap2,rfl,af,ag⟩:=ak h2;have eh:=ay (Nat.le_trans af ag);clear af ag h2;have HG:=η hg;clear hl hm hg;obtain ⟨i0,hi,bi,bj,bl⟩:=info_parts SQ;by_cases hn:cs.length≤1048576
 ·have dC:¬ (1048576:Int) < (cs.length:Int):=by omega
  by_cases hq:ae.length≤1048576
  ·have dE:¬ (1048576:Int) < (ae.length:Int):=by omega
   have hd:=qy _ cs cB w h1 hn;clear h1 hn hq
   go_enter Tryz.func5,Tryz.ntmps5
   go_wp2_with fail
   refine hd.mono ?_;rintro e w1 ⟨rs,A0,c0,b0,xs,A1,c1,b1,rfl,c5,c6,a1,am,c8⟩;obtain ⟨ys,z,hE⟩:∃ ys z,bW rs xs=(ys,z):=⟨_,_,rfl⟩;have HE:=η hE;have J:=η c8;have ao:=η (And.intro c5 c6);have cD:=η (And.intro a1 am);have c9:=ng rs xs _ _ b0 b1 w1 c5 c6 (HG.out.below c8);rw [hE] at c9;clear hd c5 c6 c8 hE a1 am
   go_wp2_with fail
   refine c9.mono ?_;rintro e w2 ⟨a2,v2,b2,rfl,ca,_⟩;obtain ⟨A2,c2,rfl,af,ag⟩:=ak ca;have ei:=ay (Nat.le_trans af ag);have U:=η a2;have ap:=η ca;have cb:=eval_any rs xs _ _ b0 b1 w2 (aV.below ao.out.1 a2) (au.below ao.out.2 a2);rw [HE.out] at cb;clear c9 a2 ca af ag
   go_wp2_with fail
   refine cb.mono ?_;rintro e w3 ⟨a7,v3,b3,rfl,cc⟩;obtain ⟨A3,c3,rfl,_,_⟩:=ak cc;have a4:=η (U.out.trans (a7.mono U.out.size));replace ap:=η (au.below ap.out a7);have cd:=η cc;have en:(z != z)=false:=by simp
   have eo:(z == z)=true:=by simp
   clear cb a7 cc;have cE:=jZ ys ys _ _ b2 b3 w3 ap.out cd.out
   go_wp2_with fail
   refine cE.mono ?_;rintro e w4 ⟨r4,rfl,cG,bn⟩;obtain rfl:r4=true:=cG.2 (by first | trivial | rfl);have I:=η (a4.out.trans (bn.mono a4.out.size));have bo:=η (And.intro (au.below ap.out bn) (au.below cd.out bn));clear cE cG bn ap cd;have a5:=jZ ys ys _ _ b2 b3 w4 bo.out.1 bo.out.2;cases z
   ·go_wp2_with fail
    refine a5.mono ?_;rintro e w5 ⟨r5,rfl,aq,ar⟩;obtain rfl:r5=true:=aq.2 (by first | trivial | rfl);have cg:=η (I.out.trans (ar.mono I.out.size));clear a5 aq ar;go_wp2;go_ret;exact ⟨rfl,J.out.trans (cg.out.mono J.out.size)⟩
   ·by_cases dT:xs.length=0
    ·have cI:((xs.length:Int) == 0)=true:=by rw [beq_iff_eq]; omega
     go_wp2_with fail
     refine a5.mono ?_;rintro e w5 ⟨r5,rfl,aq,ar⟩;obtain rfl:r5=true:=aq.2 (by first | trivial | rfl);have cg:=η (I.out.trans (ar.mono I.out.size));clear a5 aq ar;go_wp2;go_ret;exact ⟨rfl,J.out.trans (cg.out.mono J.out.size)⟩
    ·have cI:((xs.length:Int) == 0)=false:=beq_eq_false_iff_ne.2 (by omega)
     have cJ:0 < xs.length:=by omega
     have e0:=η cJ;clear a5 dT cJ;have cK:=η (aV.below ao.out.1 I.out);have a1:(rs.length:Int)≤9:=by have:=cD.out.1; omega
     go_wp2
     go_loopw [11,12] (fun i k wr=>∃ (q:Nat) (u:Value),q≤rs.length∧i=.int .i64 q∧k=u∧(∀ j (hj:j < rs.length),j < q→∀ p ∈ rs[j].body,p.no=false)∧Below w4.heap.size w4 wr) (fun i _ _=>rs.length - (intOf i).toNat)
     case atStart=>exact ⟨0,_,Nat.zero_le _,rfl,rfl,fun j _ h=>absurd h (Nat.not_lt_zero _),Below.refl _ _⟩
     case round=>
      obtain ⟨q,u,hq,rfl,rfl,bA,hb⟩:=hrel;have av:=η bA;have HB:=η hb;clear bA;by_cases y:q < rs.length
      ·obtain ⟨br,ep,Ae,ce,Af,cf,bk,e1,-,f0,f1,f2,cL,-⟩:=fH (aV.below cK.out hb) y
       subst e1;have cP:(0:Int)≤(q:Int):=by omega
       have a8:(q:Int) < (rs.length:Int):=by omega
       have a6:=η y;obtain ⟨bh,bb,-,-,ci⟩:=gV cL;have e2:=η ci;obtain ⟨_,_,e9,cQ,cT⟩:=ak ci;simp only [Value.slice.injEq,true_and] at e9;obtain ⟨rfl,rfl⟩:=e9;have ej:=ay (Nat.le_trans cQ cT)
       have e3:Hid ((∀ p ∈ rs[q].body,p.no=false)→∀ j (hj:j < rs.length),j < q+1→∀ p ∈ rs[j].body,p.no=false):=η fun h j hj et=>by
        by_cases e:j=q
        ·subst e; exact h
        ·exact av.out j hj (by omega)
       clear cL ci hb hq cQ cT;generalize rs[q].body=ps at *;clear y f0 f1;go_wp2
       go_loopw [12] (fun k e4=>∃ m:Nat,m≤ps.length∧k=.int .i64 m∧(∀ j (hj:j < ps.length),j < m→ps[j].no=false)∧Below wr.heap.size wr e4) (fun k _=>ps.length - (intOf k).toNat)
       case atStart=>exact ⟨0,Nat.zero_le _,rfl,fun j _ h=>absurd h (Nat.not_lt_zero _),Below.refl _ _⟩
       case round=>
        obtain ⟨m,hm,rfl,cU,a2⟩:=hrel;have cV:=η cU;have U:=η a2;have g2:=cell_later a2 f2;clear cU;by_cases bu:m < ps.length
        ·obtain ⟨bp,op,Ap,cp,ew,e5,-,d0,d1,d2,-,-⟩:=gU (cO.below e2.out a2) bu
         subst e5;have ey:(0:Int)≤(m:Int):=by omega
         have e6:(m:Int) < (ps.length:Int):=by omega
         have cW:=η bu
         have e7:Hid (ps[m].no=false→∀ j (hj:j < ps.length),j < m+1→ps[j].no=false):=η fun h j hj ez=>by
          by_cases e:j=m
          ·subst e; exact h
          ·exact cV.out j hj (by omega)
         clear hm a2;generalize ps[m].no=no at *;clear bu d1 d2
         cases no with
         | true=>
          go_wp2;go_ret;exact ⟨rfl,J.out.trans ((I.out.trans ((HB.out.trans (U.out.mono HB.out.size)).mono I.out.size)).mono J.out.size)⟩
         | false=>
          go_wp2;go_roundw
          case rel=>exact ⟨m+1,cW.out,by go_num,e7.out rfl,U.out⟩
          case measure=>have:=cW.out; simp [intOf]; omega
        ·have he:m=ps.length:=by omega
         subst he;have e6:¬ (ps.length:Int) < (ps.length:Int):=by omega
         clear hm bu;go_wp2;go_roundw
         case rel=>exact ⟨q+1,_,a6.out,by go_num,rfl,e3.out (fun p hp=>by obtain ⟨j,hj,rfl⟩:=List.getElem_of_mem hp; exact cV.out j hj hj),HB.out.trans (U.out.mono HB.out.size)⟩
         case measure=>have:=a6.out; simp [intOf]; omega
      ·have he:q=rs.length:=by omega
       subst he;have a8:¬ (rs.length:Int) < (rs.length:Int):=by omega
       have e8:Hid (∀ r ∈ rs,∀ p ∈ r.body,p.no=false):=η fun r hr=>by obtain ⟨j,hj,rfl⟩:=List.getElem_of_mem hr; exact av.out j hj hj
       clear hb hq y av cK;have cj:=e0.out;obtain ⟨n,hn⟩:∃ n,n=ae.length % xs.length:=⟨_,rfl⟩;have ek:((ae.length:Int) % (xs.length:Int))=(n:Int):=by rw [hn]; omega
       have cX:n < xs.length:=by rw [hn]; exact Nat.mod_lt _ cj
       clear hn;have bv:=au.below ao.out.2 (I.out.trans (HB.out.mono I.out.size));obtain ⟨_,_,e9,eA,eB⟩:=ak bv;simp only [Value.slice.injEq,true_and] at e9;obtain ⟨rfl,rfl⟩:=e9;have am:xs.length≤50:=cD.out.2;have cY:=SK (rs:=rs) (xs:=xs) (xs':=xs.take n ++ xs.drop (n+1)) (by rw [HE.out]) e8.out (Xm xs n);obtain ⟨zs,t,hz⟩:∃ zs t,bW rs (xs.take n ++ xs.drop (n+1))=(zs,t):=⟨_,_,rfl⟩;rw [hz,HE.out] at cY;obtain ⟨rfl,bB⟩:=cY;have bE:Hid (∀ x ∈ zs,x ∈ ys):=η bB
       have d3:Hid (∀ w' v b,Below wr.heap.size wr w'→aW w' [v] (xs.take n ++ xs.drop (n+1)) b→Calls Tryz.prog 13 #[.slice A0 rs.length c0,v] w' (Nl aW (zs,true) w'.heap.size w')):=η fun w' v b hb h=>by
        have d4:=I.out.trans ((HB.out.trans (hb.mono HB.out.size)).mono I.out.size);have:=ng rs (xs.take n ++ xs.drop (n+1)) _ v b0 b w' (aV.below ao.out.1 d4) h (HG.out.below (J.out.trans (d4.mono J.out.size)));rw [hz] at this;exact this
       obtain ⟨L,eC,aw,a7,bL⟩:=ny eH (by omega) bv;obtain ⟨bt,d5,d6⟩:=aw.take (k:=n) (by omega);obtain ⟨bd,d7,d8⟩:=aw.drop (k:=n+1) (by omega);obtain ⟨b,o,ea,eb,az⟩:=bL (by intro e; rw [e] at cX; simp at cX);subst ea;have aD:=au.lt bv;have d9:(0:Int)≤(n:Int):=by omega
       have da:(n:Int)≤(xs.length:Int):=by omega
       have db:(n:Int)≤(c1:Int):=by omega
       have dc:(n:Int)+1≤(xs.length:Int):=by omega
       have de:(xs.length:Int)≤(c1:Int):=by omega
       have dg:IntKind.i64.wrap ((n:Int)+1)=(n:Int)+1:=IntWalk.i64_in _ (by omega);have di:(0:Int)≤(n:Int)+1:=by omega
       have dj:((n:Int)+1).toNat=n+1:=by omega
       have dk:(n:Int)+1≤(c1:Int):=by omega
       have eD:¬ ((xs.length:Int)=0):=by omega
       have dl:=aD b eb;have dp:Below wr.heap.size wr (wr.alloc (.cells #[] 33)):=(Below.refl _ _).alloc (Nat.le_refl _) _;have BE:Below wr.heap.size wr (wr.alloc (.cells #[] 33)).drew:=dp.drew;have ck:=aY.empty (n:=2) (R:=aG) (e:=33) (show (wr.alloc (.cells #[] 33)).drew.heap[wr.heap.size]? = _ from heap_alloc_new wr (.cells #[] 33)) (Nat.le_refl wr.heap.size);have bO:(xs.take n).length=n:=by rw [List.length_take]; omega
       have bR:(xs.drop (n+1)).length=xs.length - (n+1):=List.length_drop;have cl:=η d7;have HC:=η az;have ds:=η ck
       have dt:Hid (Lies (wr.alloc (.cells #[] 33)).drew (some ⟨b,o,none⟩) (L.take (n * 2))):=η (Lies.mk fun j u hj=>(BE.cell (p:=⟨b,o+j,none⟩) dl).trans (HC.out j u (by
        have ec:=(List.getElem?_eq_some_iff.1 hj).1
        rw [List.getElem?_take_of_lt (by simp at ec; omega)] at hj; exact hj)))
       have du:Hid (∀ w',Below wr.heap.size wr w'→Lies w' (some ⟨b,o+(n+1) * 2,none⟩) (L.drop ((n+1) * 2))):=η fun w' ed=>Lies.mk fun j u hj=>(ed.cell (p:=⟨b,o+(n+1) * 2+j,none⟩) dl).trans (by rw [Nat.add_assoc]; exact HC.out _ u (by rw [List.getElem?_drop] at hj; exact hj))
       have H5:Hid (0+n≤maxLen):=η (by unfold maxLen; omega);have H6:Hid ((0+n) * 40≤140737488355328):=η (by omega);have H8:Hid (n+(xs.length - (n+1))≤maxLen):=η (by unfold maxLen; omega);have H9:Hid ((n+(xs.length - (n+1))) * 40≤140737488355328):=η (by omega);have bw:=η bO;have cm:=η bR;have bx:=η BE;have bX:=η (d5.below aj BE);have dv:Hid (∀ c ∈ bt,(Value.slice (some ⟨wr.heap.size,0,none⟩) 0 0).ownBlock ≠ some c):=η fun c hc=>aJ ck.own (aD c (a7 c (d6 c hc)))
       have bz:Hid (∀ c ∈ bd,c < wr.heap.size):=η fun c hc=>aD c (a7 c (d8 c hc))
       clear ck bO bR BE dp d6 d8 a7 aw bL d5 d7 az bv bB hz;by_cases hce:c1=n+1
       ·have eE:(c1=n+1)=True:=eq_true hce
        have dx:xs.length=n+1:=by omega
        have c4:L.drop ((n+1) * 2) = []:=List.length_eq_zero_iff.1 (by rw [cl.out.len,cm.out,dx]; simp);have ee:Hid (∀ w' Ad,Lies w' Ad (L.drop ((n+1) * 2))):=η (by rw [c4]; exact fun w' Ad=>Lies.nil w' Ad);clear dx c4 du hce cj am;go_wp2
        go_region_held3 (fun _=>True) (trivial) ((first
         | (refine aT (by rfl) (.tmp 100) (.tmp 103) _ (by rfl) wr.heap.size 33 i0 (.agg #[.string ⟨#[]⟩,.slice none 0 0]) 2 40 Tryz.underlying24 hi bi bj bl rfl (by omega) aj (.slice (some ⟨wr.heap.size,0,none⟩) 0 0) 0 [] [] [] (by rfl) ds.out rfl (some ⟨b,o,none⟩) n c1 (L.take (n * 2)) _ _ (by rfl) bX.out bw.out dt.out dv.out H5.out H6.out wr wr.heap.size bx.out (Nat.le_refl _) bx.out.size ?_; intro Aa cn w5 a3 a9 aE _; simp only [Nat.zero_add,List.nil_append] at a3 ⊢; have co:=η a3; have cq:=η (cl.out.keep aj fun c hc=>a9.block c (bz.out c hc)); have cr:=η (fun c hc=>aJ a3.own (bz.out c hc)); have U:=η a9; have cv:=η aE; clear a3 a9 aE)
         | (refine aT (by rfl) (.tmp 104) (.tmp 108) _ (by rfl) wr.heap.size 33 i0 (.agg #[.string ⟨#[]⟩,.slice none 0 0]) 2 40 Tryz.underlying24 hi bi bj bl rfl (by omega) aj (.slice Aa n cn) n _ _ _ (by rfl) co.out bw.out (some ⟨b,o,none⟩) (xs.length - (n+1)) (c1 - (n+1)) (L.drop ((n+1) * 2)) _ _ (by rfl) cq.out cm.out (ee.out _ _) cr.out H8.out H9.out wr wr.heap.size U.out (Nat.le_refl _) cv.out ?_; intro Ab eg w6 aL aa cw _; have a4:=η aa; obtain ⟨b4,aM,_⟩:=aL.slice; have a0:=d3.out _ _ _ aa aM; clear aL aa cw aM)
         | (go_at_call 13; (with_reducible refine Calls.mono a0 ?_); rintro e w7 ⟨aR,v7,b7,rfl,ab,_⟩; obtain ⟨A7,c7,rfl,b5,b6⟩:=ak ab; have cx:=η (a4.out.trans (aR.mono a4.out.size)); have b8:=η (And.intro ab (ay (Nat.le_trans b5 b6))); clear aR ab b5 b6 a0)))
        have dy:=b8.out.2;have b9:=η b8.out.1;have ac:=η (HB.out.trans (cx.out.mono HB.out.size));clear d9 da db dc de dg di dj dk;go_wp2
        go_loopw [16] (fun i wr=>∃ q:Nat,q≤(zs).length∧i=.int .i64 q∧Below w7.heap.size w7 wr) (fun i _=>(zs).length - (intOf i).toNat)
        case atStart=>exact ⟨0,Nat.zero_le _,rfl,Below.refl _ _⟩
        case round=>
         obtain ⟨q,hq,rfl,hb⟩:=hrel;by_cases y:q < (zs).length
         ·have cP:(0:Int)≤(q:Int):=by omega
          have a8:(q:Int) < ((zs).length:Int):=by omega
          obtain ⟨bq,oq,Ae,ce,bk,rfl,_,f0,f1,bc,_⟩:=dK (au.below b9.out hb) y;have bf:(zs)[q] ∈ ys:=bE.out _ (List.getElem_mem y);have hh:=sQ ys (zs)[q] _ (.string (zs)[q].name) (.slice Ae (zs)[q].args.length ce) b2 bk wr (au.below (au.below bo.out.1 ac.out) hb) bc;have a6:=η y;have HB:=η hb;clear bc hb hq;generalize (zs)[q]=a at *;clear y
          go_wp2_with fail
          refine hh.mono ?_;rintro e w9 ⟨r9,rfl,a1,bg⟩;obtain rfl:r9=true:=a1.2 bf;have cy:=η (HB.out.trans (bg.mono HB.out.size));clear hh a1 bg bf f0 f1;go_wp2;go_roundw
          case rel=>exact ⟨q+1,a6.out,by go_num,cy.out⟩
          case measure=>have:=a6.out; simp [intOf]; omega
         ·have he:q=(zs).length:=by omega
          subst he;have a8:¬ ((zs).length:Int) < ((zs).length:Int):=by omega
          have cz:=η hb;clear hb hq y;clear a8;have cA:=η (I.out.trans ((ac.out.trans (cz.out.mono ac.out.size)).mono I.out.size));go_wp2;go_ret;exact ⟨rfl,J.out.trans (cA.out.mono J.out.size)⟩
       ·clear cj am
        go_wp2
        go_region_held3 (fun _=>True) (trivial) ((first
         | (refine aT (by rfl) (.tmp 100) (.tmp 103) _ (by rfl) wr.heap.size 33 i0 (.agg #[.string ⟨#[]⟩,.slice none 0 0]) 2 40 Tryz.underlying24 hi bi bj bl rfl (by omega) aj (.slice (some ⟨wr.heap.size,0,none⟩) 0 0) 0 [] [] [] (by rfl) ds.out rfl (some ⟨b,o,none⟩) n c1 (L.take (n * 2)) _ _ (by rfl) bX.out bw.out dt.out dv.out H5.out H6.out wr wr.heap.size bx.out (Nat.le_refl _) bx.out.size ?_; intro Aa cn w5 a3 a9 aE _; simp only [Nat.zero_add,List.nil_append] at a3 ⊢; have co:=η a3; have cq:=η (cl.out.keep aj fun c hc=>a9.block c (bz.out c hc)); have cr:=η (fun c hc=>aJ a3.own (bz.out c hc)); have U:=η a9; have cv:=η aE; clear a3 a9 aE)
         | (refine aT (by rfl) (.tmp 104) (.tmp 108) _ (by rfl) wr.heap.size 33 i0 (.agg #[.string ⟨#[]⟩,.slice none 0 0]) 2 40 Tryz.underlying24 hi bi bj bl rfl (by omega) aj (.slice Aa n cn) n _ _ _ (by rfl) co.out bw.out (some ⟨b,o+(n+1) * 2,none⟩) (xs.length - (n+1)) (c1 - (n+1)) (L.drop ((n+1) * 2)) _ _ (by rfl) cq.out cm.out (du.out _ U.out) cr.out H8.out H9.out wr wr.heap.size U.out (Nat.le_refl _) cv.out ?_; intro Ab eg w6 aL aa cw _; have a4:=η aa; obtain ⟨b4,aM,_⟩:=aL.slice; have a0:=d3.out _ _ _ aa aM; clear aL aa cw aM)
         | (go_at_call 13; (with_reducible refine Calls.mono a0 ?_); rintro e w7 ⟨aR,v7,b7,rfl,ab,_⟩; obtain ⟨A7,c7,rfl,b5,b6⟩:=ak ab; have cx:=η (a4.out.trans (aR.mono a4.out.size)); have b8:=η (And.intro ab (ay (Nat.le_trans b5 b6))); clear aR ab b5 b6 a0)))
        have dy:=b8.out.2;have b9:=η b8.out.1;have ac:=η (HB.out.trans (cx.out.mono HB.out.size));clear d9 da db dc de dg di dj dk;go_wp2
        go_loopw [16] (fun i wr=>∃ q:Nat,q≤(zs).length∧i=.int .i64 q∧Below w7.heap.size w7 wr) (fun i _=>(zs).length - (intOf i).toNat)
        case atStart=>exact ⟨0,Nat.zero_le _,rfl,Below.refl _ _⟩
        case round=>
         obtain ⟨q,hq,rfl,hb⟩:=hrel;by_cases y:q < (zs).length
         ·have cP:(0:Int)≤(q:Int):=by omega
          have a8:(q:Int) < ((zs).length:Int):=by omega
          obtain ⟨bq,oq,Ae,ce,bk,rfl,_,f0,f1,bc,_⟩:=dK (au.below b9.out hb) y;have bf:(zs)[q] ∈ ys:=bE.out _ (List.getElem_mem y);have hh:=sQ ys (zs)[q] _ (.string (zs)[q].name) (.slice Ae (zs)[q].args.length ce) b2 bk wr (au.below (au.below bo.out.1 ac.out) hb) bc;have a6:=η y;have HB:=η hb;clear bc hb hq;generalize (zs)[q]=a at *;clear y
          go_wp2_with fail
          refine hh.mono ?_;rintro e w9 ⟨r9,rfl,a1,bg⟩;obtain rfl:r9=true:=a1.2 bf;have cy:=η (HB.out.trans (bg.mono HB.out.size));clear hh a1 bg bf f0 f1;go_wp2;go_roundw
          case rel=>exact ⟨q+1,a6.out,by go_num,cy.out⟩
          case measure=>have:=a6.out; simp [intOf]; omega
         ·have he:q=(zs).length:=by omega
          subst he;have a8:¬ ((zs).length:Int) < ((zs).length:Int):=by omega
          have cz:=η hb;clear hb hq y;clear a8;have cA:=η (I.out.trans ((ac.out.trans (cz.out.mono ac.out.size)).mono I.out.size));go_wp2;go_ret;exact ⟨rfl,J.out.trans (cA.out.mono J.out.size)⟩
  ·have dE:(1048576:Int) < (ae.length:Int):=by omega
   clear h1
   go_enter Tryz.func5,Tryz.ntmps5
   go_wp2;go_ret;exact ⟨rfl,Below.refl _ _⟩
 ·have dC:(1048576:Int) < (cs.length:Int):=by omega
  clear h1
  go_enter Tryz.func5,Tryz.ntmps5
  go_wp2;go_ret;exact ⟨rfl,Below.refl _ _⟩
end Go.Proofs.YtkjinanbccloeaaGreatDoor
namespace Go.Proofs.YtkjinanbccloeaaGreatDoor
open Go.RowKit D
theorem D.VR {rs:List Ru} {xs ys:List A} (U:dQ rs=0) (h1:fJ ys=true) (h2:∀ y ∈ ys,aN y) (h3:ys.length≤300) (h4:kV (aF rs) ys=true) (I:xs.Sublist ys):dU rs xs=true:=by
 unfold dU;rw [decide_eq_true U,O7 (Nat.le_trans I.length_le h3) (fun x J=>h2 x (I.subset J)) (Bh h1 I),Bool.true_and,Bool.true_and];unfold kV at *;simp only [List.all_eq_true] at *;exact fun x J=>h4 x (I.subset J)
theorem D.P6 {rs:List Ru} {xs:List A} (h:(bW rs xs).2=true):dU rs (bW rs xs).1=true:=by
 obtain ⟨h1,y,I,J,_⟩:=lZ h;exact VR h1.prog y I J (MS h) (List.Sublist.refl _)
theorem D.Xn {rs:List Ru} {xs:List A} (y:nP rs) (h:dU rs xs=true) (I:∀ x ∈ xs,aN x) (t:A):t ∈ rP rs xs ↔ ∃ r ∈ rs,iW xs r t:=by
 unfold rP;rw [h];exact (G7 I fun r hr=>y.fol r hr).2.2 t
theorem D.SS {rs:List Ru} {xs:List A} (h:(bW rs xs).2=true):∀ t ∈ rP rs (bW rs xs).1,t ∈ (bW rs xs).1:=fun t y=>by
 obtain ⟨h1,J,I,U,h5⟩:=lZ h;obtain ⟨r,hr,hf⟩:=(Xn h1.rules (P6 h) I t).1 y;exact He h hr hf
end Go.Proofs.YtkjinanbccloeaaGreatDoor
namespace Go.Proofs.YtkjinanbccloeaaGreatDoor
open Go.RowKit D
attribute [local go_sem ↓] Go.wp_at_zero Go.wp_at_succ
theorem Ja (cs:List UInt8) (v1:Value) (bi:List Nat) (w:World) (h1:oD w [v1] cs bi) (hg:mr w):
  Calls Tryz.prog 3 #[v1] w fun e w'=>e=.returned (.bool true)∧Below w.heap.size w w':=by
 obtain ⟨Ad,cap,rfl,hl,hm⟩:=ak h1;have ck:=ay (Nat.le_trans hl hm);have HG:=η hg;clear hl hm hg;by_cases hn:cs.length≤1048576
 ·have bO:¬ (1048576:Int) < (cs.length:Int):=by omega
  have hd:=qy _ cs bi w h1 hn;clear h1 hn
  go_enter Tryz.func3,Tryz.ntmps3
  go_wp2_with fail
  refine hd.mono ?_;rintro e w1 ⟨rs,A0,c0,b0,xs,A1,c1,b1,rfl,ar,av,a2,bj,aw⟩;obtain ⟨ys,z,hE⟩:∃ ys z,bW rs xs=(ys,z):=⟨_,_,rfl⟩;have HE:=η hE;have y:=η aw;have a6:=η (And.intro ar av);have bR:=η (And.intro a2 bj);have az:=ng rs xs _ _ b0 b1 w1 ar av (HG.out.below aw);rw [hE] at az;clear hd ar av aw hE a2 bj
  go_wp2_with fail
  refine az.mono ?_;rintro e w2 ⟨ao,v2,b2,rfl,aD,_⟩;obtain ⟨A2,c2,rfl,bl,bn⟩:=ak aD;have cg:=ay (Nat.le_trans bl bn);have bo:=η ao;have a8:=η aD;have aE:=eval_any rs xs _ _ b0 b1 w2 (aV.below a6.out.1 ao) (au.below a6.out.2 ao);rw [HE.out] at aE;clear az ao aD bl bn
  go_wp2_with fail
  refine aE.mono ?_;rintro e w3 ⟨aL,v3,b3,rfl,aM⟩;obtain ⟨A3,c3,rfl,_,_⟩:=ak aM;have bp:=η (bo.out.trans (aL.mono bo.out.size));replace a8:=η (au.below a8.out aL);have aR:=η aM;have cl:(z != z)=false:=by simp
  have cm:(z == z)=true:=by simp
  clear aE aL aM;have br:=jZ ys ys _ _ b2 b3 w3 a8.out aR.out
  go_wp2_with fail
  refine br.mono ?_;rintro e w4 ⟨r4,rfl,bt,ap⟩;obtain rfl:r4=true:=bt.2 (by first | trivial | rfl);have a1:=η (bp.out.trans (ap.mono bp.out.size));have a0:=η (And.intro (au.below a8.out ap) (au.below aR.out ap));clear br bt ap a8 aR;have a9:=jZ ys ys _ _ b2 b3 w4 a0.out.1 a0.out.2;cases z
  ·go_wp2_with fail
   refine a9.mono ?_;rintro e w5 ⟨r5,rfl,aa,bu⟩;obtain rfl:r5=true:=aa.2 (by first | trivial | rfl);have bX:=η (a1.out.trans (bu.mono a1.out.size));clear a9 aa bu;go_wp2;go_ret;exact ⟨rfl,y.out.trans (bX.out.mono y.out.size)⟩
  ·clear a9
   have c4:=η (au.below a6.out.2 a1.out);have c5:Hid (∀ t ∈ xs,t ∈ ys):=η (by have:=O8 (rs:=rs) (xs:=xs) (by rw [HE.out]); rw [HE.out] at this; exact this);have bv:Hid (iP ys=true):=η (by have:=I9 (rs:=rs) (xs:=xs); rw [HE.out] at this; exact this);have c7:Hid (dU rs ys=true):=η (by have:=P6 (rs:=rs) (xs:=xs) (by rw [HE.out]); rw [HE.out] at this; exact this);have ci:(xs.length:Int)≤50:=by have:=bR.out.2; omega
   go_wp2
   go_loopw [9] (fun i wr=>∃ q:Nat,q≤(xs).length∧i=.int .i64 q∧Below w4.heap.size w4 wr) (fun i _=>(xs).length - (intOf i).toNat)
   case atStart=>exact ⟨0,Nat.zero_le _,rfl,Below.refl _ _⟩
   case round=>
    obtain ⟨q,hq,rfl,hb⟩:=hrel;by_cases U:q < (xs).length
    ·have c8:(0:Int)≤(q:Int):=by omega
     have ab:(q:Int) < ((xs).length:Int):=by omega
     obtain ⟨bq,oq,Ae,ce,bk,rfl,_,f0,f1,ac,_⟩:=dK (au.below c4.out hb) U;have ae:(xs)[q] ∈ ys:=c5.out _ (List.getElem_mem U);have hh:=sQ ys (xs)[q] _ (.string (xs)[q].name) (.slice Ae (xs)[q].args.length ce) b2 bk wr (au.below a0.out.1 hb) ac;have af:=η U;have HB:=η hb;clear ac hb hq;generalize (xs)[q]=a at *;clear U
     go_wp2_with fail
     refine hh.mono ?_;rintro e w9 ⟨r9,rfl,a2,ag⟩;obtain rfl:r9=true:=a2.2 ae;have b4:=η (HB.out.trans (ag.mono HB.out.size));clear hh a2 ag ae f0 f1;go_wp2;go_roundw
     case rel=>exact ⟨q+1,af.out,by go_num,b4.out⟩
     case measure=>have:=af.out; simp [intOf]; omega
    ·have he:q=(xs).length:=by omega
     subst he;have ab:¬ ((xs).length:Int) < ((xs).length:Int):=by omega
     have am:=η hb;clear hb hq U;have bw:=SB rs ys _ _ b0 b2 wr (aV.below a6.out.1 (a1.out.trans (am.out.mono a1.out.size))) (au.below a0.out.1 am.out) (HG.out.below (y.out.trans ((a1.out.trans (am.out.mono a1.out.size)).mono y.out.size)));have c9:Hid (∀ t ∈ rP rs ys,t ∈ ys):=η (by have:=SS (rs:=rs) (xs:=xs) (by rw [HE.out]); rw [HE.out] at this; exact this);generalize rP rs ys=os at *;clear ab
     go_wp2_with fail
     refine bw.mono ?_;rintro e w6 ⟨bx,v6,b6,rfl,b5,_⟩;obtain ⟨A6,c6,rfl,bz,bA⟩:=ak b5;have cj:=ay (Nat.le_trans bz bA);have I:=η (am.out.trans (bx.mono am.out.size));have J:=η (a1.out.trans (I.out.mono a1.out.size));have cb:=η b5;clear bw bx b5 bz bA;go_wp2
     go_loopw [11] (fun i wr=>∃ q:Nat,q≤(os).length∧i=.int .i64 q∧Below w6.heap.size w6 wr) (fun i _=>(os).length - (intOf i).toNat)
     case atStart=>exact ⟨0,Nat.zero_le _,rfl,Below.refl _ _⟩
     case round=>
      obtain ⟨q,hq,rfl,hb⟩:=hrel;by_cases U:q < (os).length
      ·have c8:(0:Int)≤(q:Int):=by omega
       have ab:(q:Int) < ((os).length:Int):=by omega
       obtain ⟨bq,oq,Ae,ce,bk,rfl,_,f0,f1,ac,_⟩:=dK (au.below cb.out hb) U;have ae:(os)[q] ∈ ys:=c9.out _ (List.getElem_mem U);have hh:=sQ ys (os)[q] _ (.string (os)[q].name) (.slice Ae (os)[q].args.length ce) b2 bk wr (au.below (au.below a0.out.1 I.out) hb) ac;have af:=η U;have HB:=η hb;clear ac hb hq;generalize (os)[q]=a at *;clear U
       go_wp2_with fail
       refine hh.mono ?_;rintro e w9 ⟨r9,rfl,a2,ag⟩;obtain rfl:r9=true:=a2.2 ae;have b4:=η (HB.out.trans (ag.mono HB.out.size));clear hh a2 ag ae f0 f1;go_wp2;go_roundw
       case rel=>exact ⟨q+1,af.out,by go_num,b4.out⟩
       case measure=>have:=af.out; simp [intOf]; omega
      ·have he:q=(os).length:=by omega
       subst he;have ab:¬ ((os).length:Int) < ((os).length:Int):=by omega
       have a3:=η hb;clear hb hq U;clear ab;have cn:(ys.length:Int)≤9223372036854775807:=by omega
       by_cases hy:ys.length≤40
       ·have cc:¬ (40:Int) < (ys.length:Int):=by omega
        have b7:=ng rs ys _ _ b0 b2 wr (aV.below a6.out.1 (J.out.trans (a3.out.mono J.out.size))) (au.below a0.out.1 (I.out.trans (a3.out.mono I.out.size))) (HG.out.below (y.out.trans ((J.out.trans (a3.out.mono J.out.size)).mono y.out.size)));have aq:=Pg (rs:=rs) (xs:=xs) (by rw [HE.out]) (by rw [HE.out]; exact hy);rw [HE.out] at aq;dsimp only at aq;rw [aq] at b7;clear aq hy
        go_wp2_with fail
        refine b7.mono ?_;rintro e wa ⟨bB,va,ba,rfl,b8,_⟩;obtain ⟨Aa,ca,rfl,_,_⟩:=ak b8;have b9:=η (a3.out.trans (bB.mono a3.out.size));have bc:=η b8;have a4:=ql ys _ b2 wa (au.below a0.out.1 (I.out.trans (b9.out.mono I.out.size)));rw [bv.out] at a4;clear b7 bB b8
        go_wp2_with fail
        refine a4.mono ?_;rintro e wb ⟨rfl,a7⟩;have a5:=η (b9.out.trans (a7.mono b9.out.size));replace bc:=η (au.below bc.out a7);have bf:=oM rs ys _ _ b0 b2 wb (aV.below a6.out.1 (J.out.trans (a5.out.mono J.out.size))) (au.below a0.out.1 (I.out.trans (a5.out.mono I.out.size))) (HG.out.below (y.out.trans ((J.out.trans (a5.out.mono J.out.size)).mono y.out.size)));rw [c7.out] at bf;clear a4 a7
        go_wp2_with fail
        refine bf.mono ?_;rintro e wc ⟨rfl,bg⟩;have bh:=η (a5.out.trans (bg.mono a5.out.size));have bE:=jZ ys ys _ _ ba b2 wc (au.below bc.out bg) (au.below a0.out.1 (I.out.trans (bh.out.mono I.out.size)));clear bf bg
        go_wp2_with fail
        refine bE.mono ?_;rintro e wd ⟨r5,rfl,aa,bL⟩;obtain rfl:r5=true:=aa.2 (by first | trivial | rfl);have cd:=η (J.out.trans ((bh.out.trans (bL.mono bh.out.size)).mono J.out.size));clear bE aa bL;go_wp2;go_ret;exact ⟨rfl,y.out.trans (cd.out.mono y.out.size)⟩
       ·have cc:(40:Int) < (ys.length:Int):=by omega
        have a4:=ql ys _ b2 wr (au.below a0.out.1 (I.out.trans (a3.out.mono I.out.size)));rw [bv.out] at a4
        go_wp2_with fail
        refine a4.mono ?_;rintro e wb ⟨rfl,a7⟩;have a5:=η (J.out.trans ((a3.out.trans (a7.mono a3.out.size)).mono J.out.size));clear a4 a7;go_wp2;go_ret;exact ⟨rfl,y.out.trans (a5.out.mono y.out.size)⟩
 ·have bO:(1048576:Int) < (cs.length:Int):=by omega
  clear h1
  go_enter Tryz.func3,Tryz.ntmps3
  go_wp2;go_ret;exact ⟨rfl,Below.refl _ _⟩
end Go.Proofs.YtkjinanbccloeaaGreatDoor
