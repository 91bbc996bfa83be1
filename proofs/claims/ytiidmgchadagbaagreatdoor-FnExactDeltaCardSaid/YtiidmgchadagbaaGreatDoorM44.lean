/- Of the proof of FnExactDelta: StAl, EvI, EvC, DltP, DltC. -/
import Derived.Test.YtiidmgchadagbaaGreatDoorM43
set_option linter.unusedVariables false
set_option maxHeartbeats 4000000
set_option maxRecDepth 100000
namespace Go.Proofs.YtiidmgchadagbaaGreatDoor
open Go.RowKit D
attribute [local go_sem ↓] Go.wp_at_zero Go.wp_at_succ
theorem D.WB (rs:List Ru) (xs:List A):fP rs xs=(decide (xs.length≤40) && jE rs xs):=by
 unfold fP jE okB bH;by_cases h1:xs.length≤40
 ·have h2:xs.length≤300:=by omega
  rw [decide_eq_true h1,decide_eq_true h2];simp
 ·rw [decide_eq_false h1]
  simp
theorem uD (rs:List Ru) (xs:List A) (v1 v2:Value) (b1 b2:List Nat) (w:World) (h:dO w [v1] rs b1) (h2:aI w [v2] xs b2) (hg:qp w):
  Calls Tryz.prog 48 #[v1,v2] w fun e w'=>e=.returned (.bool (fP rs xs))∧Below w.heap.size w w':=by
 have c1:=Eg rs xs v1 v2 b1 b2 w h h2 hg;have HE:=η (WB rs xs);obtain ⟨Ad2,cap2,rfl,_,_⟩:=af h2;clear h h2 hg;generalize jE rs xs=q at *;by_cases hl:(xs.length:Int)≤40
 ·have HE2:Hid (q=fP rs xs):=η (by rw [HE.out,decide_eq_true (by omega)]; simp)
  go_enter Tryz.func48,Tryz.ntmps48
  go_wp2_with (go_at_call 80; refine c1.mono ?_; rintro e w1 ⟨rfl,hb1⟩)
  go_ret;exact ⟨aO HE2.out,hb1⟩
 ·have HE2:Hid (false=fP rs xs):=η (by rw [HE.out,decide_eq_false (by omega)]; simp)
  go_enter Tryz.func48,Tryz.ntmps48
  go_wp2;go_ret;exact ⟨aO HE2.out,(Below.refl w.heap.size w)⟩
structure D.zi (w:World) (b1:List Nat) (v:Value) (L:List Value) (xs:List Ru) (wr:World):Prop where
 coll:∃ bs,cO 3 jK (w.heap.size+1) 71 wr v L xs bs∧∀ b ∈ bs,b ∈ b1
 bel:Below w.heap.size w wr
theorem D.zi.below {w wr w':World} {b1:List Nat} {v:Value} {L:List Value} {xs:List Ru} (h:zi w b1 v L xs wr) (hb:Below wr.heap.size wr w'):zi w b1 v L xs w':=
 ⟨by obtain ⟨bs,hc,h1⟩:=h.coll; exact ⟨bs,hc.below dY hb,h1⟩,h.bel.trans (hb.mono h.bel.size)⟩
def D.Uw (rs:List Ru) (L:Nat):List Ru:=rs.filter fun r=>decide (iO rs r.head.name=L)
theorem D.Ux (rs:List Ru) (L:Nat):OwnAt rs L (Uw rs L):=fun r=>by unfold Uw; rw [List.mem_filter,decide_eq_true_iff]
theorem D.VB {rs:List Ru} (H:yE rs) {k:Nat} (hk:k < rs.length) (hk2:k < (ax rs).length):(ax rs)[k]=iO rs rs[k].head.name:=by
 have h2:=(oC H.cyc).2 k hk;have e1:dQ rs k=rs[k]:=by unfold dQ; simp [List.getD,hk]
 have e2:iP (ax rs) k=(ax rs)[k]:=by unfold iP; simp [List.getD,hk2]
 rw [← e2,h2,e1]
structure D.VD (rs:List Ru) (xs:List A) (L z:Nat) (own:List Ru) (fr:List Nat) (w W:World) (next:List Ru) (fs:List A) (rn:List Nat) (number:Nat) (wr:World):Prop where
 mid:qC rs xs L own next fs rn number
 sub:∀ q ∈ next,q ∈ own
 rY:jy (z+3) (z+2) z (z+1) (fun _=>True) fr fs rn wr
 bel:Below w.heap.size w wr
 kep:∀ x ∈ fr,wr.heap[x]? = W.heap[x]?
theorem D.Uy {own:List Ru} {new:List A} {Lm:List ByteArray} (h:∀ s,s ∈ Lm ↔ ∃ t ∈ new,t.name=s):(own.filter fun r=>r.body.any (lJ Lm))=NW own new:=by
 classical
 unfold NW;refine List.filter_congr fun q _=>?_
 refine congrArg (fun f=>q.body.any f) (funext fun p=>?_);unfold lJ;rw [decide_eq_decide.2 (h p.atom.name)]
theorem D.DL {own:List Ru} {Lm:List ByteArray} (h:Lm = []):(own.filter fun r=>r.body.any (lJ Lm)) = []:=by
 subst h;rw [List.filter_eq_nil_iff];intro q _ hq;obtain ⟨p,_,hp⟩:=List.any_eq_true.1 hq;unfold lJ at hp;simp at hp
def D.AU (rs:List Ru) (xs:List A) (w:World) (e:Ending) (w':World):Prop:=
 Below w.heap.size w w'∧((fP rs xs=true∧(iM rs xs).2=true∧∃ z fr fs rn,w.heap.size≤z∧e=.returned (.tuple #[.pointer (some ⟨z+2,0,none⟩),.bool true])∧jy (z+3) (z+2) z (z+1) (fun _=>True) fr fs rn w'∧VI fs rn (iM rs xs).1∧(∀ x ∈ fs,aX x)∧fs.length≤300) ∨
  ((fP rs xs=true→(iM rs xs).2=false)∧e=.returned (.tuple #[.pointer none,.bool false])))
theorem Hw (rs:List Ru) (xs:List A) (v1 v2:Value) (b1 b2:List Nat) (w:World) (h:dO w [v1] rs b1) (h2:aI w [v2] xs b2) (hg:qp w):
  Calls Tryz.prog 43 #[v1,v2] w (AU rs xs w):=by
 have c1:=uD rs xs v1 v2 b1 b2 w h h2 hg;obtain ⟨Ad,cap,rfl,hlc,hlm⟩:=af h;obtain ⟨Ad2,cap2,rfl,_,_⟩:=af h2;have hlmm:=au (Nat.le_trans hlc hlm);have HH:=η (And.intro h h2);obtain ⟨i0,hi,hz0,hz1,hz2⟩:=info_parts Fe;clear h h2 hg hlc hlm
 cases hf:fP rs xs with
 | false=>
  have HP:Hid (∀ w',Below w.heap.size w w'→AU rs xs w (.returned (.tuple #[.pointer none,.bool false])) w'):=η fun w' hb=>⟨hb,.inr ⟨fun h=>absurd (hf.symm.trans h) (by decide),rfl⟩⟩
  rw [hf] at c1;clear hf
  go_enter Tryz.func43,Tryz.ntmps43
  go_wp2_with fail
  refine c1.mono ?_;rintro e w1 ⟨rfl,hb1⟩;have HB:=η hb1;clear c1 hb1;go_wp2;go_ret2;exact HP.out _ HB.out
 | true=>
  have hK:=oK hf;have HF:=η hf;rw [hf] at c1;clear hf
  go_enter Tryz.func43,Tryz.ntmps43
  go_wp2_with fail
  refine c1.mono ?_;rintro e w1 ⟨rfl,hb1⟩;have HB1:=η hb1;clear c1 hb1;have hR:=VH ((sW rs).2 hK.fine);have hfok:∀ f ∈ xs,aX f:=fun f hf=>FN (hK.facts f hf)
  have c2:=KH xs _ b2 w1 (ai.below HH.out.2 HB1.out) hfok (kX hK.ig) (by have:=hK.n; omega)
  go_wp2_with fail
  refine c2.mono ?_;rintro e w2 ⟨rfl,hS⟩;obtain ⟨hb2,hst⟩:=hS.rY (fun x hx=>Nat.lt_of_lt_of_le (ai.lt HH.out.2 x hx) HB1.out.size);have HB2:=η (HB1.out.trans (hb2.mono HB1.out.size));have HST:=η hst;clear hS hst hb2 c2;have c3:=yg rs _ b1 w2 (aC.below HH.out.1 HB2.out) hK.m hK.ok
  go_wp2_with fail
  refine c3.mono ?_;rintro e w3 ⟨hb3,hcase⟩;clear c3
  rcases hcase with ⟨hcyc,_⟩ | ⟨_,v5,b5,rfl,hstr,hnew⟩
  ·have:=hK.fine.no
   rw [this] at hcyc; cases hcyc
  ·obtain ⟨A5,c5,rfl,_,_⟩:=af hstr
   have hsto:jy (w1.heap.size+3) (w1.heap.size+2) w1.heap.size (w1.heap.size+1) (fun _=>True) b5 xs (List.replicate xs.length 0) w3:=by
    have:=(HST.out.mono (Fb':=fun _=>True) fun _ _ _=>trivial).more hb3 b5 fun x hx=>⟨(hnew.own x hx).1,hnew.lt hx⟩
    simpa using this
   have HI0:Hid (qB rs xs 0 xs (List.replicate xs.length 0) 0):=η (all_start hK.ig hfok (by have:=hK.n; omega));have HS0:=η hsto;have HB3:=η (HB2.out.trans (hb3.mono HB2.out.size));have HSTR:=η hstr;have HL5:Hid ((ax rs).length=rs.length):=η (gy rs);clear hsto hstr hnew hb3 HST;have HRS:=η hR;have HK:=η hK;have HZ1:=η HB1.out.size;have hlen8:rs.length≤8:=hK.m;clear hfok hR hK;go_wp2;generalize w1.heap.size=z at *;clear HB1 HB2
   go_loopw [9,30] (fun v9 i wr=>∃ (L:Nat) (fs:List A) (rn:List Nat) (number:Nat),L≤rs.length∧i=.int .i64 L∧v9=.int .i64 number∧qB rs xs L fs rn number∧jy (z+3) (z+2) z (z+1) (fun _=>True) b5 fs rn wr∧Below w.heap.size w wr∧∀ x ∈ b5,wr.heap[x]? = w3.heap[x]?) (fun _ i _=>rs.length - (intOf i).toNat)
   case atStart=>exact ⟨0,xs,_,0,Nat.zero_le _,rfl,rfl,HI0.out,HS0.out,HB3.out,fun x _=>rfl⟩
   case round=>
    obtain ⟨L,fs,rn,number,hL,rfl,rfl,hall,hsto,hbel,hkep⟩:=hrel;clear HI0 HS0 HB3;have HAL:=η hall;have HSTO:=η hsto;have HBEL:=η hbel;have HKEP:=η hkep;by_cases hlt:L < rs.length
    ·have HV0:Hid (zi wr b1 (.slice none 0 0) [] [] wr):=η ⟨⟨[],cO.nil _,fun b hb=>by simp at hb⟩,Below.refl _ _⟩
     have hL0:(0:Int)≤(L:Int):=by omega
     have hL1:(L:Int) < (rs.length:Int):=by omega
     have HLT:=η hlt;clear hall hsto hbel hkep;obtain ⟨W0,hW0⟩:∃ W0,W0=wr:=⟨_,rfl⟩;subst hW0;go_wp2
     go_loopw [11,35] (fun v i wr2=>∃ (k:Nat) (Av:Option Addr) (cp:Nat) (M:List Value) (ys:List Ru),k≤rs.length∧i=.int .i64 k∧v=.slice Av ys.length cp∧ys=(rs.take k).filter (fun r=>decide (iO rs r.head.name=L))∧zi W0 b1 (.slice Av ys.length cp) M ys wr2) (fun _ i _=>rs.length - (intOf i).toNat)
     case atStart=>exact ⟨0,none,0,[],[],Nat.zero_le _,rfl,rfl,rfl,HV0.out⟩
     case round=>
      obtain ⟨k,Av,cp,M,ys,hk,rfl,rfl,hys,hV⟩:=hrel;clear HV0;have HY:=η hys
      have HLY:Hid (ys.length≤1000000):=η (by
       rw [hys];refine Nat.le_trans (List.length_filter_le _ _) ?_
       rw [List.length_take]; omega)
      clear hys;have hB:=HBEL.out.trans (hV.bel.mono HBEL.out.size);by_cases hlt:k < rs.length
      ·obtain ⟨b,o,Ae,ce,Af,cf,bk,rfl,_,d0,d1,d2,hel,hsub⟩:=gq HH.out.1 hlt
       replace d0:=cell_later hB d0;replace d1:=cell_later hB d1;replace d2:=cell_later hB d2;have hk5:k < (ax rs).length:=by rw [HL5.out]; exact hlt
       obtain ⟨b7,o7,rfl,hb7,e7⟩:=qm HSTR.out hk5;have e8:wr.cell? ⟨b7,o7+k,none⟩=some (.int .i64 ((ax rs)[k]:Nat)):=(World.cell?_of_block ((hV.bel.block b7 (HSTO.out.lt.2.2 _ hb7)).trans (HKEP.out _ hb7))).trans e7;have hk0:(0:Int)≤(k:Int):=by omega
       have hk1:(k:Int) < (rs.length:Int):=by omega
       have hk2:(k:Int) < ((ax rs).length:Int):=by omega
       have hlq:=VB HRS.out hlt hk5;have hA:Below wr.heap.size wr (wr.alloc (.cells #[.string rs[k].head.name,.slice Ae rs[k].head.args.length ce,.slice Af rs[k].body.length cf] 71)):=(Below.refl _ _).alloc (Nat.le_refl _) _;have HV1:=η (hV.below hA);have HEL:=η (dY.below (dY.below hel hB) hA);have HSN:=η (zQ (fun r:Ru=>decide (iO rs r.head.name=L)) rs k hlt);have HBK:Hid (∀ c ∈ bk,c < W0.heap.size):=η fun c hc=>Nat.lt_of_lt_of_le (dY.lt hel c hc) HBEL.out.size
       have HSUB:=η hsub;have hwb:W0.heap.size≤wr.heap.size:=hV.bel.size;have le8:=lt_of_cell e8;clear hel hsub hV hA hB e7;generalize (ax rs)[k]=lv at *;generalize rs[k]=r at *;obtain ⟨⟨nm,args⟩,body⟩:=r;dsimp only at *;have HLT2:=η hlt;clear hlt hk5;by_cases hq:lv=L
       ·have hqb:((lv:Int) == (L:Int))=true:=beq_iff_eq.2 (by omega)
        have HQ:Hid ((rs.take (k+1)).filter (fun r=>decide (iO rs r.head.name=L))=ys ++ [(⟨⟨nm,args⟩,body⟩:Ru)]):=η (by rw [HSN.out,HY.out,if_pos (by simp [← hlq,hq])]);have hA2:Below (wr.alloc (.cells #[.string nm,.slice Ae args.length ce,.slice Af body.length cf] 71)).heap.size (wr.alloc (.cells #[.string nm,.slice Ae args.length ce,.slice Af body.length cf] 71)) ((wr.alloc (.cells #[.string nm,.slice Ae args.length ce,.slice Af body.length cf] 71)).alloc (.cells #[.string nm,.slice Ae args.length ce,.slice Af body.length cf] 71)):=(Below.refl _ _).alloc (Nat.le_refl _) _;obtain ⟨bs0,hC0,hC1⟩:=(HV1.out.below hA2).coll;have HC:=η hC0;have HC1:=η hC1;have HB:=η (HV1.out.below hA2).bel
        have HR:Hid (aV 3 jK ((wr.alloc (.cells #[.string nm,.slice Ae args.length ce,.slice Af body.length cf] 71)).alloc (.cells #[.string nm,.slice Ae args.length ce,.slice Af body.length cf] 71)) [.string nm,.slice Ae args.length ce,.slice Af body.length cf] [(⟨⟨nm,args⟩,body⟩:Ru)] bk):=η (aV.dB Bg (dY.below HEL.out hA2))
        have HL:Hid (Lies ((wr.alloc (.cells #[.string nm,.slice Ae args.length ce,.slice Af body.length cf] 71)).alloc (.cells #[.string nm,.slice Ae args.length ce,.slice Af body.length cf] 71)) (some ⟨wr.heap.size+1,0,none⟩) [.string nm,.slice Ae args.length ce,.slice Af body.length cf]):=η (by
         have:=aS (heap_alloc_new (wr.alloc (.cells #[.string nm,.slice Ae args.length ce,.slice Af body.length cf] 71)) (.cells #[.string nm,.slice Ae args.length ce,.slice Af body.length cf] 71))
         simpa using this)
        have HF:Hid (∀ c,c < W0.heap.size+1→(Value.slice Av ys.length cp).ownBlock ≠ some c):=η fun c hc=>aJ hC0.own hc
        have hbase:W0.heap.size+1≤((wr.alloc (.cells #[.string nm,.slice Ae args.length ce,.slice Af body.length cf] 71)).alloc (.cells #[.string nm,.slice Ae args.length ce,.slice Af body.length cf] 71)).heap.size:=by simp; omega
        have HBA:=η hbase;clear hC0 hC1 hA2 hbase hlq hq
        go_wp2_with (at_builtin; refine iH rfl _ _ _ rfl (W0.heap.size+1) 71 i0 (.agg #[.string ⟨#[]⟩,.slice none 0 0,.slice none 0 0]) 3 64 Tryz.underlying29 hi hz0 hz1 hz2 rfl (by omega) dY (.slice Av ys.length cp) ys.length _ _ _ rfl HC.out rfl (some ⟨wr.heap.size+1,0,none⟩) 1 1 _ [⟨⟨nm,args⟩,body⟩] _ rfl HR.out rfl HL.out (fun c hc=>HF.out c (by have:=HBK.out c hc; omega)) (by have:=HLY.out; unfold maxLen; omega) (by have:=HLY.out; omega) W0 W0.heap.size HB.out (Nat.le_succ _) HBA.out ?_; intro A9 cp9 w9 hC9 hB9 hS9 hg9)
        have HV3:Hid (zi W0 b1 (.slice A9 (ys ++ [(⟨⟨nm,args⟩,body⟩:Ru)]).length cp9) (M ++ [.string nm,.slice Ae args.length ce,.slice Af body.length cf]) (ys ++ [(⟨⟨nm,args⟩,body⟩:Ru)]) w9):=η ⟨⟨_,by rw [List.length_append]; exact hC9,fun b hb=>(List.mem_append.1 hb).elim (HC1.out b) (HSUB.out b)⟩,hB9⟩;have hlx:ys.length+1=(ys ++ [(⟨⟨nm,args⟩,body⟩:Ru)]).length:=by simp
        rw [hlx];clear hC9 hB9 hS9 hg9 HC HB HR HL HF hlx;go_roundw
        case rel=>exact ⟨k+1,_,_,_,_,HLT2.out,by go_num,rfl,HQ.out.symm,HV3.out⟩
        case measure=>have:=HLT2.out; simp [intOf]; omega
       ·have hqb:((lv:Int) == (L:Int))=false:=by
         rw [beq_eq_false_iff_ne]; omega
        have HQ:Hid ((rs.take (k+1)).filter (fun r=>decide (iO rs r.head.name=L))=ys):=η (by rw [HSN.out,HY.out,if_neg (by simp [← hlq,hq])]);clear hlq hq;go_wp2;go_roundw
        case rel=>exact ⟨k+1,_,_,_,_,HLT2.out,by go_num,rfl,HQ.out.symm,HV1.out⟩
        case measure=>have:=HLT2.out; simp [intOf]; omega
      ·have hkl:k=rs.length:=by omega
       have hk1:¬ (k:Int) < (rs.length:Int):=by omega
       have HYO:Hid (ys=Uw rs L):=η (by rw [HY.out,List.take_of_length_le (Nat.le_of_eq hkl.symm)]; rfl);obtain ⟨bs0,hC0,hC1⟩:=hV.coll;obtain ⟨b6,hs6,hb6⟩:=hC0.slice;obtain ⟨fr1,hfr⟩:∃ fr1,fr1=b5 ++ b6.filter (fun b=>decide (W0.heap.size≤b)):=⟨_,rfl⟩
       have hsto1:jy (z+3) (z+2) z (z+1) (fun _=>True) fr1 fs rn wr:=hfr ▸ HSTO.out.more hV.bel _ fun x hx=>by
        obtain ⟨h1,h2⟩:=List.mem_filter.1 hx;exact ⟨of_decide_eq_true h2,aC.lt hs6 x h1⟩
       have HOWN:Hid (∀ w',Below w.heap.size w w'→(∀ x ∈ fr1,w'.heap[x]? = wr.heap[x]?)→dO w' [.slice Av ys.length cp] ys b6):=η fun w' h1 h2=>aC.keep hs6 fun b hb=>by
        by_cases hbb:W0.heap.size≤b
        ·exact h2 b (hfr ▸ List.mem_append_right _ (List.mem_filter.2 ⟨hb,decide_eq_true hbb⟩))
        ·rcases hb6 b hb with h3 | h3
         ·omega
         ·have h4:=aC.lt HH.out.1 b (hC1 b h3)
          exact (h1.block b h4).trans (hB.block b h4).symm
       have HFR:Hid (∀ x ∈ b5,x ∈ fr1):=η fun x hx=>hfr ▸ List.mem_append_left _ hx
       have HKW:Hid (∀ x ∈ b5,wr.heap[x]? = w3.heap[x]?):=η fun x hx=>(hV.bel.block x (HSTO.out.lt.2.2 x hx)).trans (HKEP.out x hx)
       have HWB:=η hB;have hmid:qC rs xs L ys ys fs rn number:=HAL.out.enter;have HW0:Hid (VD rs xs L z ys fr1 w wr ys fs rn number wr):=η ⟨hmid,fun q hq=>hq,hsto1,hB,fun x _=>rfl⟩;have HR0:Hid (dO wr [.slice Av ys.length cp] ys b6):=η hs6;clear hV hC0 hs6 hb6 hfr hsto1 hB hmid HY hC1;obtain ⟨W9,hW9⟩:∃ W9,W9=wr:=⟨_,rfl⟩;subst hW9;go_wp2
       go_loopg [9,14] 1000 (fun gg v9 v14 wr4=>∃ (next:List Ru) (A14:Option Addr) (c14:Nat) (b14:List Nat) (fs4:List A) (rn4:List Nat) (nu4:Nat),v9=.int .i64 nu4∧v14=.slice A14 next.length c14∧2 * (300 - fs4.length)+(if next = [] then 0 else 1)≤gg∧Aside (VD rs xs L z ys fr1 w W9 next fs4 rn4 nu4 wr4)∧Aside (dO wr4 [.slice A14 next.length c14] next b14))
       case atStart=>exact ⟨ys,Av,cp,b6,fs,rn,number,rfl,rfl,by split <;> omega,HW0.out,HR0.out⟩
       case round=>
        obtain ⟨next,A14,c14,b14,fs4,rn4,nu4,rfl,rfl,hgg,hwh,hrk⟩:=hrel;clear HW0 HR0;by_cases hne:next = []
        ·subst hne
         have HD:Hid (qB rs xs (L+1) fs4 rn4 nu4∧jy (z+3) (z+2) z (z+1) (fun _=>True) b5 fs4 rn4 wr∧Below w.heap.size w wr∧∀ x ∈ b5,wr.heap[x]? = w3.heap[x]?):=η ⟨hwh.out.mid.done HRS.out (Nat.le_of_lt HLT.out) (HYO.out ▸ Ux rs L),hwh.out.rY.sub HFR.out,hwh.out.bel,fun x hx=>(hwh.out.kep x (HFR.out x hx)).trans (HKW.out x hx)⟩;clear hwh hrk hgg;go_wp2;go_roundw
         case rel=>exact ⟨L+1,fs4,rn4,nu4,HLT.out,by go_num,rfl,HD.out⟩
         case measure=>have:=HLT.out; simp [intOf]; omega
        ·have hpos:0 < next.length:=List.length_pos_iff.2 hne
         rw [if_neg hne] at hgg;have hpi:(0:Int) < (next.length:Int):=by omega
         obtain ⟨hf300,hrl,hnu,hfacts⟩:=hwh.out.mid.few;have hown9:OwnAt rs L ys:=HYO.out ▸ Ux rs L;have hcall:=QK (z+3) (z+2) z (z+1) (fun _=>True) (fun _ _=>trivial) fr1 fs4 rn4 next _ b14 (nu4+1) w.heap.size wr hwh.out.rY hrk.out hfacts hf300 (by omega) (fun r hr=>HRS.out.fol r ((hown9 r).1 (hwh.out.sub r hr)).1) (by have:=HZ1.out; omega);have hnu0:(0:Int)≤(nu4:Int):=by omega
         have hnu1:(nu4:Int)≤300:=by omega
         have ecast:((nu4+1:Nat):Int)=(nu4:Int)+1:=by omega
         rw [ecast] at hcall;clear ecast;have HG:=η hgg;have HNE:=η hne;have HWH:=η hwh.out;have HO9:=η hown9;clear hgg hne hwh hrk hfacts hown9 hrl
         go_wp2_with fail
         refine hcall.mono ?_;rintro e w5 ⟨hb5,hcase⟩;clear hcall
         rcases hcase with ⟨new,mc,n,Lm,fm,rfl,hn1,hn2,hn3,hn4,hs5,hk5,hm5,hmc,hl5,hf5⟩ | ⟨rfl,new,hn1,hn2,hn3⟩
         ·have hbel5:=HWH.out.bel.trans hb5
          have hkep5:∀ x ∈ fr1,w5.heap[x]? = W9.heap[x]?:=fun x hx=>(hk5 x hx).trans (HWH.out.kep x hx)
          have hmid:=HWH.out.mid.round HRS.out (Nat.le_of_lt HLT.out) HO9.out HNE.out hn1 hn3 hn4;have HT:=η (JM mc n Lm fm ys (.slice Av ys.length cp) b6 w5 (HOWN.out w5 hbel5 hkep5) hm5 hf5 HLY.out);have HM5:=η hm5;by_cases hz:new = []
          ·have hLm:Lm = []:=List.eq_nil_iff_forall_not_mem.2 fun s hs=>by
            obtain ⟨t,ht,_⟩:=(hl5 s).1 hs;rw [hz] at ht; simp at ht
           have hs5':jy (z+3) (z+2) z (z+1) (fun _=>True) fr1 fs4 rn4 w5:=by
            rw [hz] at hs5; simpa using hs5
           have HN:Hid ((ys.filter fun r=>r.body.any (lJ Lm)) = []∧∀ w6,Below w5.heap.size w5 w6→VD rs xs L z ys fr1 w W9 (ys.filter fun r=>r.body.any (lJ Lm)) fs4 rn4 nu4 w6):=η ⟨DL hLm,fun w6 hb6=>by
            rw [DL hLm]
            exact ⟨hmid.1 hz,fun q hq=>by simp at hq,hs5'.later hb6,hbel5.trans (hb6.mono hbel5.size),fun x hx=>(hb6.block x (hs5'.lt.2.2 x hx)).trans (hkep5 x hx)⟩⟩
           have hl0:(Lm.length:Int)=0:=by rw [hLm]; rfl
           clear hb5 hs5 hs5' hk5 hm5 hl5 hf5 hbel5 hkep5 hmid hLm hn1 hn2 hn3 hn4
           go_wp2_with (at_len; refine iy _ rfl _ _ rfl Tryz.underlying85 _ _ Lm _ rfl HM5.out ?_)
           go_wp2_with fail
           refine HT.out.mono ?_;rintro e w6 ⟨hb6,A15,c15,b15,rfl,hr15⟩;have HW6:=η (HN.out.2 w6 hb6);have HR6:=η hr15;have HN1:=η HN.out.1;clear hb6 hr15 HT HN HM5;go_wp2
           go_roundg (2 * (300 - fs4.length))
           case measure=>have:=HG.out; omega
           case rel=>exact ⟨_,_,_,_,fs4,rn4,nu4,rfl,rfl,by rw [if_pos HN1.out]; omega,HW6.out,HR6.out⟩
          ·have hpn:0 < new.length:=List.length_pos_iff.2 hz
           have hLm:Lm ≠ []:=fun e=>by
            obtain ⟨t,ht⟩:=List.exists_mem_of_ne_nil _ hz;have:=(hl5 t.name).2 ⟨t,ht,rfl⟩;rw [e] at this; simp at this
           have hl0:(0:Int) < (Lm.length:Int):=by have:=List.length_pos_iff.2 hLm; omega
           have HN:Hid (∀ w6,Below w5.heap.size w5 w6→VD rs xs L z ys fr1 w W9 (ys.filter fun r=>r.body.any (lJ Lm)) (fs4 ++ new) (rn4 ++ List.replicate new.length (nu4+1)) (nu4+1) w6):=η fun w6 hb6=>by
            have h1:=hmid.2 hz;rw [← Uy hl5] at h1;exact ⟨h1,fun q hq=>(List.mem_filter.1 hq).1,hs5.later hb6,hbel5.trans (hb6.mono hbel5.size),fun x hx=>(hb6.block x (hs5.lt.2.2 x hx)).trans (hkep5 x hx)⟩
           have HG2:Hid (2 * (300 - (fs4 ++ new).length)+1 < 2 * (300 - fs4.length)+1):=η (by rw [List.length_append]; omega);clear hb5 hs5 hk5 hm5 hl5 hf5 hbel5 hkep5 hmid hLm hn1 hn2 hn3 hn4
           go_wp2_with (at_len; refine iy _ rfl _ _ rfl Tryz.underlying85 _ _ Lm _ rfl HM5.out ?_)
           go_wp2_with fail
           refine HT.out.mono ?_;rintro e w6 ⟨hb6,A15,c15,b15,rfl,hr15⟩;have HW6:=η (HN.out w6 hb6);have HR6:=η hr15;clear hb6 hr15 HT HN HM5;go_wp2
           go_roundg (2 * (300 - (fs4 ++ new).length)+1)
           case measure=>have:=HG.out; have:=HG2.out; omega
           case rel=>exact ⟨_,_,_,_,fs4 ++ new,_,nu4+1,by go_num,rfl,by split <;> omega,HW6.out,HR6.out⟩
         ·have HP:Hid (AU rs xs w (.returned (.tuple #[.pointer none,.bool false])) w5):=η ⟨HWH.out.bel.trans hb5,.inr ⟨fun _=>HWH.out.mid.over HRS.out (Nat.le_of_lt HLT.out) HO9.out HNE.out hn1 hn2 hn3,rfl⟩⟩
          clear hb5 hn1 hn2 hn3;go_wp2;go_ret2;exact HP.out
    ·have hLe:L=rs.length:=by omega
     have hL1:¬ (L:Int) < (rs.length:Int):=by omega
     have HP:Hid (AU rs xs w (.returned (.tuple #[.pointer (some ⟨z+2,0,none⟩),.bool true])) wr):=η (by
      rw [hLe] at hall;obtain ⟨h1,h2,h3,h4,h5⟩:=hall.fin HRS.out
      exact ⟨hbel,.inl ⟨HF.out,h1,z,b5,fs,rn,HZ1.out,rfl,hsto,h2,h4,h5⟩⟩)
     clear hall hsto hbel hkep;go_wp2;go_ret2;exact HP.out
theorem D.FU {rs:List Ru} {xs:List A} (h:fP rs xs=true) (h2:(iM rs xs).2=true):pW (iM rs xs).1∧(∀ x ∈ (iM rs xs).1.1,aX x)∧(iM rs xs).1.1.length≤300∧∀ t,t ∈ (iM rs xs).1.1 ↔ Vu rs (fun x=>x ∈ xs) t:=by
 have hK:=oK h
 rcases Uf (VH ((sW rs).2 hK.fine)) hK.ig (fun f hf=>FN (hK.facts f hf)) (by have:=hK.n; omega) with ⟨_,h3,h4,h5,h6⟩ | ⟨h3,_⟩
 ·exact ⟨h4,h5,h3,h6⟩
 ·rw [h2] at h3; cases h3
theorem D.KX {rs:List Ru} {xs:List A} (h:fP rs xs=true) (h2:(iM rs xs).2=true):dJ rs xs=((iM rs xs).1.1,true):=by unfold dJ; rw [if_pos h,if_pos h2]
theorem D.Hy {rs:List Ru} {xs:List A} (h:fP rs xs=true→(iM rs xs).2=false):dJ rs xs=([],false):=by
 unfold dJ;by_cases hh:fP rs xs=true
 ·rw [if_pos hh,h hh]; rfl
 ·rw [if_neg hh]
theorem FV (rs:List Ru) (xs:List A) (v1 v2:Value) (b1 b2:List Nat) (w:World) (h:dO w [v1] rs b1) (h2:aI w [v2] xs b2) (hg:qp w):
  Calls Tryz.prog 35 #[v1,v2] w fun e w'=>Below w.heap.size w w'∧∃ Av cp bs,e=.returned (.tuple #[.slice Av (dJ rs xs).1.length cp,.bool (dJ rs xs).2])∧aI w' [.slice Av (dJ rs xs).1.length cp] (dJ rs xs).1 bs:=by
 have c1:=Hw rs xs v1 v2 b1 b2 w h h2 hg;obtain ⟨Ad,cap,rfl,hlc,hlm⟩:=af h;obtain ⟨Ad2,cap2,rfl,_,_⟩:=af h2;clear h h2 hg hlc hlm
 go_enter Tryz.func35,Tryz.ntmps35
 go_wp2_with fail
 refine c1.mono ?_;rintro e w1 ⟨hb1,hcase⟩;clear c1
 rcases hcase with ⟨hok,hrun,z,fr,fs,rn,hz,rfl,hsto,hsim,hfok,hlen⟩ | ⟨hno,rfl⟩
 ·obtain ⟨Af,cf,Lf,Ar,cr,Lr,ou,bf,S,_,_⟩:=hsto
  have hC:=S.cF;have c2:=Ht fs _ Lf bf (z+3) w1 hC (by omega);have x0:w1.cell? ⟨z+2,0,none⟩=some (.slice Af fs.length cf):=ak S.blk;have lx:=lt_of_cell x0
  have hE:Hid (∀ w2 ys L' bs',ys.Perm fs→ys.Pairwise (fun a b=>¬ bQ b a < 0)→cO 2 aU (z+3) 68 w2 (.slice Af fs.length cf) L' ys bs'→gW (fun x=>(Value.slice Af fs.length cf).ownBlock=some x) w1 w2→
    w2.cell? ⟨z+2,0,none⟩=some (.slice Af fs.length cf)∧Below w.heap.size w w2∧(dJ rs xs).2=true∧(dJ rs xs).1.length=fs.length∧∃ b9,aI w2 [.slice Af fs.length cf] (dJ rs xs).1 b9):=η fun w2 ys L' bs' q1 q2 q3 q4=>by
   have hge:∀ x,(Value.slice Af fs.length cf).ownBlock=some x→z+3≤x:=fun x hx=>by
    have h9:¬ x < z+3:=fun h=>aJ hC.own h hx
    exact Nat.le_of_not_lt h9
   obtain ⟨r1,r2,r3,r4⟩:=FU hok hrun;have hpm:=hsim.fst r1;have hyok:∀ t ∈ ys,aX t:=fun t ht=>hfok t (q1.mem_iff.1 ht)
   have hnd:ys.Nodup:=(q1.trans hpm).nodup_iff.2 (kX r1.ig);have hys:ys=(iM rs xs).1.1:=Ub (NZ hyok hnd q2) r1.ig hyok r2 fun t=>by rw [q1.mem_iff,hpm.mem_iff]
   obtain ⟨b9,hs9,_⟩:=q3.slice;rw [KX hok hrun];refine ⟨(World.cell?_of_block (q4.block (z+2) (lt_of_cell x0) (fun e=>by have:=hge (z+2) e; omega))).trans x0,⟨q4.os.trans hb1.os,q4.tape.trans hb1.tape,q4.output.trans hb1.output,Nat.le_trans hb1.size q4.size,fun k hk=>(q4.block k (Nat.lt_of_lt_of_le hk hb1.size) fun e=>by have:=hge k e; omega).trans (hb1.block k hk)⟩,rfl,hpm.length_eq.symm,b9,?_⟩;rw [← hys];exact hs9
  clear S hC hsim hfok hb1 hok hrun
  go_wp2_with fail
  refine c2.mono ?_;rintro e w2 ⟨rfl,ys,L',bs',q1,q2,_,q4,q5⟩;obtain ⟨y0,y1,y2,y3,b9,y4⟩:=hE.out w2 ys L' bs' q1 q2 q4 q5;have HB:=η y1;have H4:=η y4;have H2:=η y2;have H3:=η y3;clear hE c2 q1 q2 q4 q5 y1 y4 y2 y3 x0;go_wp2;go_ret2;rw [H2.out,H3.out];exact ⟨HB.out,Af,cf,b9,rfl,H4.out⟩
 ·have HE:=η (Hy hno)
  clear hno;go_wp2;go_ret2;rw [HE.out];exact ⟨hb1,none,0,[],rfl,⟨none,0,rfl,Nat.le_refl _,Nat.zero_le _,fun _=>rfl,fun h=>absurd rfl h⟩⟩
end Go.Proofs.YtiidmgchadagbaaGreatDoor
namespace Go.Proofs.YtiidmgchadagbaaGreatDoor
open Go.RowKit D
theorem D.Oa (rs:List Ru) (xs:List A):(fP rs xs=true∧(iM rs xs).2=true∧dJ rs xs=((iM rs xs).1.1,true))∨dJ rs xs=([],false):=by
 by_cases hc:fP rs xs=true∧(iM rs xs).2=true
 ·exact .inl ⟨hc.1,hc.2,KX hc.1 hc.2⟩
 ·refine .inr (Hy fun h=>?_)
  cases hr:(iM rs xs).2
  ·rfl
  ·exact absurd ⟨h,hr⟩ hc
def D.bW (rs:List Ru) (xs:List A) (c:Ch):Ch × Bool:=
 if (fP rs xs && jC c)=true then (if ((dJ rs xs).2 && (dJ rs (behind xs c)).2)=true then (tJ (dJ rs xs).1 (dJ rs (behind xs c)).1,true) else (⟨[],[]⟩,false)) else (⟨[],[]⟩,false)
theorem D.yG {rs:List Ru} {xs:List A}:bH (dJ rs xs).1=true:=by
 rcases Oa rs xs with ⟨h1,h2,e⟩ | e
 ·rw [e]
  obtain ⟨r1,r2,r3,_⟩:=FU h1 h2
  exact Bz r3 (fun x hx=>by
   have h:=r2 x hx;unfold dM kC;rw [h.ok,Bool.true_and,Bool.not_eq_true',List.any_eq_false];intro t ht;rw [h.gr t ht]
   simp) r1.ig
 ·rw [e]; rfl
theorem D.vH {rs:List Ru} {xs:List A} (h:fP rs xs=true):bH xs=true:=by
 have hK:=oK h;exact Bz (by have:=hK.n; omega) hK.facts hK.ig
theorem QL (rs:List Ru) (xs:List A) (c:Ch):qZ (bW rs xs c).1≤900000000:=by
 unfold bW
 split
 ·split
  ·exact PZ _ _
  ·simp [qZ,bI]
 ·simp [qZ,bI]
end Go.Proofs.YtiidmgchadagbaaGreatDoor
