/- Of the proof of FnExactDelta: WoS, L3P. -/
import Derived.Test.YtiidmgchadagbaaGreatDoorM15
set_option linter.unusedVariables false
set_option maxHeartbeats 4000000
set_option maxRecDepth 100000
namespace Go.Proofs.YtiidmgchadagbaaGreatDoor
open Go.RowKit D
attribute [local go_sem ↓] Go.wp_at_zero Go.wp_at_succ
theorem Fa:(Tryz.prog.info? 141).map (fun i=>(i.zero,i.size,i.bytes))=some (some (.agg #[.slice none 0 0,.slice none 0 0]),2,48):=by kernel_rfl
theorem D.wH:Bf 2 jl:=fun h=>by
 obtain ⟨s,v,b1,b2,rfl,_,h1,h2⟩:=h;obtain ⟨A1,p1,rfl,_⟩:=af h1;obtain ⟨A2,p2,rfl,_⟩:=af h2;simp [Value.oneCell']
theorem D.yc {w:World} {Ad:Option Addr} {len cap k:Nat} {xs:List Bd} {bs:List Nat} (h:sQ w [.slice Ad len cap] xs bs) (hk:k < xs.length):
  ∃ b o A1 p1 A2 p2 bk,Ad=some ⟨b,o,none⟩∧b ∈ bs∧w.cell? ⟨b,o+k * 2,none⟩=some (.slice A1 xs[k].length p1)∧w.cell? ⟨b,o+k * 2+1,none⟩=some (.slice A2 xs[k].length p2)∧jl w [.slice A1 xs[k].length p1,.slice A2 xs[k].length p2] xs[k] bk∧∀ c ∈ bk,c ∈ bs:=by
 obtain ⟨b,o,cs,bk,rfl,hb,hcs,hcell,hR,hsub⟩:=jF h hk;obtain ⟨A1,p1,A2,p2,rfl⟩:=lZ hR;exact ⟨b,o,A1,p1,A2,p2,bk,rfl,hb,by simpa using hcell 0 _ rfl,by simpa [Nat.add_assoc] using hcell 1 _ rfl,hR,hsub⟩
theorem D.Nz (list:List A) (body:List Pt) (b:Bd) (k:Nat) (h:k < body.length):iZ list (body.take (k+1)) b=(iZ list (body.take k) b && (!body[k].no || !hasB list (bY body[k].atom b))):=by
 unfold iZ;rw [List.take_succ_eq_append_getElem h,List.all_append];simp
theorem Ea (list:List A) (body:List Pt) (all:List Bd) (v0 v1 v2:Value) (bl bb ba:List Nat) (w:World) (hl:aI w [v0] list bl) (hb:gm w [v1] body bb) (h:sQ w [v2] all ba)
  (hasc:ig list=true) (hn:all.length≤10000000000) (hbl:∀ p ∈ body,p.atom.args.length≤1000000):
  Calls Tryz.prog 126 #[v0,v1,v2] w fun e w'=>Below w.heap.size w w'∧∃ v bs,e=.returned v∧sQ w' [v] (all.filter (iZ list body)) bs:=by
 obtain ⟨Al,pl,rfl,hl1,hl2⟩:=af hl;obtain ⟨Ab,pb,rfl,hb1,hb2⟩:=af hb;obtain ⟨Aa,pa,rfl,ha1,ha2⟩:=af h;obtain ⟨i0,hi,hz0,hz1,hz2⟩:=info_parts Fa;have hlm:=au (Nat.le_trans hb1 hb2);have hlm2:=au (Nat.le_trans ha1 ha2);have HL:=η hl;have HB:=η hb;have HA:=η h;have HBL:=η hbl;clear hl hb h hl1 hl2 hb2 ha2 hbl;have hA0:Below w.heap.size w (w.alloc (.cells #[] 141)):=(Below.refl _ _).alloc (Nat.le_refl _) _;have hE:cO 2 jl w.heap.size 141 (w.alloc (.cells #[] 141)) (.slice (some ⟨w.heap.size,0,none⟩) 0 0) [] [] []:=cO.empty (heap_alloc_new w _) (Nat.le_refl _)
 go_enter Tryz.func126,Tryz.ntmps126
 go_wp2_with fail
 generalize w.alloc (.cells #[] 141)=w0 at *
 go_loopw [7,8,9,10] (fun o i _ _ wr=>∃ (k:Nat) (Am:Option Addr) (cm:Nat) (L:List Value) (bs:List Nat),k≤all.length∧i=.int .i64 k∧o=.slice Am ((all.take k).filter (iZ list body)).length cm∧Hid (cO 2 jl w.heap.size 141 wr (.slice Am ((all.take k).filter (iZ list body)).length cm) L ((all.take k).filter (iZ list body)) bs)∧Hid (Below w.heap.size w wr)) (fun _ i _ _ _=>all.length - (intOf i).toNat)
 case atStart=>exact ⟨0,_,_,_,_,Nat.zero_le _,rfl,rfl,η hE,η hA0⟩
 case round=>
  obtain ⟨k,Am,cm,L,bs,hk,rfl,rfl,hC,hBw⟩:=hrel;clear hE hA0;by_cases hlt:k < all.length
  ·have hk0:(0:Int)≤(k:Int):=by omega
   have hk1:(k:Int) < (all.length:Int):=by omega
   have HSN:Hid ((all.take (k+1)).filter (iZ list body)=(all.take k).filter (iZ list body) ++ (if iZ list body all[k] then [all[k]] else [])):=η (by
    rw [List.take_succ_eq_append_getElem hlt,List.filter_append]
    congr 1
    by_cases hf:iZ list body all[k]=true
    ·simp [List.filter,hf]
    ·simp [List.filter,hf])
   have HLEN:Hid (((all.take k).filter (iZ list body)).length≤k):=η (Nat.le_trans (List.length_filter_le _ _) (by simp; omega));generalize hys:(all.take k).filter (iZ list body)=ys at *;generalize hb0:all[k]=b0 at *;clear hys;generalize wr=wo at *
   go_wp2_with fail
   go_loopw [9,10] (fun ok i wr=>∃ (j:Nat),j≤body.length∧i=.int .i64 j∧ok=.bool (iZ list (body.take j) b0)∧Hid (Below wo.heap.size wo wr)) (fun _ i _=>body.length - (intOf i).toNat)
   case atStart=>exact ⟨0,Nat.zero_le _,rfl,rfl,η (Below.refl _ _)⟩
   case round=>
    obtain ⟨j,hj,rfl,rfl,hB2⟩:=hrel;have hBW2:=hBw.out.trans (hB2.out.mono hBw.out.size);by_cases hjt:j < body.length
    ·obtain ⟨pb1,po,Ae,ce,bk,rfl,_,e0,e1,e2,hel,_⟩:=gJ (aY.below HB.out hBW2) hjt
     obtain ⟨ab1,ao,A1,p1,A2,p2,bq,rfl,_,d0,d1,hbd,_⟩:=yc (mJ.below HA.out hBW2) hlt;rw [hb0] at d0 d1 hbd;have hj0:(0:Int)≤(j:Int):=by omega
     have hj1:(j:Int) < (body.length:Int):=by omega
     have HFS:=η (Nz list body b0 j hjt);have HJT:=η hjt;have HAL:=η (HBL.out _ (List.getElem_mem hjt));generalize body[j]=p at *;obtain ⟨pno,px⟩:=p;dsimp only at *
     cases hfb:iZ list (body.take j) b0 with
     | false=>
      have HZ:Hid (iZ list (body.take (j+1)) b0=false):=η (by rw [HFS.out,hfb]; rfl);clear HFS hfb e0 e1 e2 hel d0 d1 hbd
      go_wp2_with fail
      go_quiet (fail)
      go_wp2;go_roundw
      case rel=>exact ⟨j+1,hjt,by go_num,by rw [HZ.out],η (below_drewN hB2.out _)⟩
      case measure=>simp [intOf]; omega
     | true=>
      cases pno with
      | false=>
       have HZ:Hid (iZ list (body.take (j+1)) b0=true):=η (by rw [HFS.out,hfb]; rfl);clear HFS hfb e1 e2 hel d0 d1 hbd
       go_wp2_with fail
       go_quiet (fail)
       go_wp2;go_roundw
       case rel=>exact ⟨j+1,hjt,by go_num,by rw [HZ.out],η (below_drewN hB2.out _)⟩
       case measure=>simp [intOf]; omega
      | true=>
       have HZ:Hid (iZ list (body.take (j+1)) b0 = !hasB list (bY px b0)):=η (by rw [HFS.out,hfb]; simp)
       have hat:aU wr [.string px.name,.slice Ae px.args.length ce] px bk:=by
        obtain ⟨t,hcs,h1,h2⟩:=hel;simp only [List.cons.injEq,true_and,and_true] at hcs;subst hcs;exact ⟨_,rfl,h1,h2⟩
       have hD:Below wr.heap.size wr wr.drew:=Below.drew (Below.refl _ _);have q1:=fun w' (hb:Below wr.heap.size wr w')=>JA px b0 _ _ _ _ bk bq w' (aj.below hat hb) (dh.below hbd hb) HAL.out
       have q2:=fun w' (hb:Below wr.heap.size wr w') d0 d1 b5 (h5:aU w' [d0,d1] (bY px b0) b5)=>yR list (bY px b0) _ d0 d1 bl b5 w' (ai.below HL.out (hBW2.trans (hb.mono hBW2.size))) h5 hasc
       have Q1:=η q1;have Q2:=η q2;clear HFS hfb hel hbd q1 q2 hat
       go_wp2_with fail
       go_region_held3 (fun w'=>w'.cell? ⟨pb1,po+j * 3,none⟩=some (.bool true)∧w'.cell? ⟨pb1,po+j * 3+1,none⟩=some (.string px.name)∧w'.cell? ⟨pb1,po+j * 3+2,none⟩=some (.slice Ae px.args.length ce)∧w'.cell? ⟨ab1,ao+k * 2,none⟩=some (.slice A1 b0.length p1)∧w'.cell? ⟨ab1,ao+k * 2+1,none⟩=some (.slice A2 b0.length p2))
        (first | go_keep | exact hq | exact hq2)
        (first
         | (go_at_call 96; refine (Q1.out _ hD).mono ?_; rintro e w5 ⟨hb5,g0,g1,b5,rfl,h5,_⟩; have B5:=hD.trans (hb5.mono hD.size); have hq:=And.intro (cell_later B5 e0) (And.intro (cell_later B5 e1) (And.intro (cell_later B5 e2) (And.intro (cell_later B5 d0) (cell_later B5 d1)))))
         | (go_at_call 77; refine (Q2.out _ B5 _ _ _ h5).mono ?_; rintro e w6 ⟨rfl,hb6⟩; have B6:=B5.trans (hb6.mono B5.size); have hq2:=And.intro (cell_later B6 e0) (And.intro (cell_later B6 e1) (And.intro (cell_later B6 e2) (And.intro (cell_later B6 d0) (cell_later B6 d1))))))
       have HB6:=η (hB2.out.trans (B6.mono hB2.out.size));clear Q1 Q2 hq hq2 h5 hb5 hb6 B5 B6 e0 e1 e2 d0 d1;go_wp2;go_roundw
       case rel=>exact ⟨j+1,hjt,by go_num,by rw [HZ.out],HB6⟩
       case measure=>simp [intOf]; omega
    ·have he:j=body.length:=by omega
     have hj1:¬ (j:Int) < (body.length:Int):=by omega
     have HFR:Hid (iZ list (body.take j) b0=iZ list body b0):=η (by rw [he,List.take_of_length_le (Nat.le_refl _)]);have HC2:=η (hC.out.below dh hB2.out);have HBW2:=η hBW2;clear he hj
     cases hfb:iZ list (body.take j) b0 with
     | false=>
      have HE:Hid ((all.take (k+1)).filter (iZ list body)=ys):=η (by rw [HSN.out,← HFR.out,hfb]; simp);clear hfb HSN HFR;go_wp2;go_roundw
      case rel=>exact ⟨k+1,Am,cm,L,bs,hlt,by go_num,by rw [HE.out],by rw [HE.out]; exact HC2,HBW2⟩
      case measure=>simp [intOf]; omega
     | true=>
      have HE:Hid ((all.take (k+1)).filter (iZ list body)=ys ++ [b0]):=η (by rw [HSN.out,← HFR.out,hfb]; simp);obtain ⟨ab1,ao,A1,p1,A2,p2,bq,rfl,_,d0,d1,hbd,hsub⟩:=yc (mJ.below HA.out hBW2) hlt;rw [hb0] at d0 d1 hbd;clear hfb HSN HFR;have hAt:Below wr.heap.size wr (wr.alloc (.cells #[.slice A1 b0.length p1,.slice A2 b0.length p2] 141)):=(Below.refl _ _).alloc (Nat.le_refl _) _
      have hfar:∀ c ∈ bq,(Value.slice Am ys.length cm).ownBlock ≠ some c:=fun c hc e=>by
       have h1:=(jq HC2.out.own c e).1;have h2:=mJ.lt HA.out c (hsub c hc);omega
      have HLL:Hid (cO 2 jl w.heap.size 141 (wr.alloc (.cells #[.slice A1 b0.length p1,.slice A2 b0.length p2] 141)) (.slice Am ys.length cm) L ys bs∧aV 2 jl (wr.alloc (.cells #[.slice A1 b0.length p1,.slice A2 b0.length p2] 141)) [.slice A1 b0.length p1,.slice A2 b0.length p2] [b0] bq∧Lies (wr.alloc (.cells #[.slice A1 b0.length p1,.slice A2 b0.length p2] 141)) (some ⟨wr.heap.size,0,none⟩) [.slice A1 b0.length p1,.slice A2 b0.length p2]∧Below w.heap.size w (wr.alloc (.cells #[.slice A1 b0.length p1,.slice A2 b0.length p2] 141))∧w.heap.size≤(wr.alloc (.cells #[.slice A1 b0.length p1,.slice A2 b0.length p2] 141)).heap.size∧∀ c ∈ bq,(Value.slice Am ys.length cm).ownBlock ≠ some c):=
       η ⟨HC2.out.below dh hAt,aV.dB wH (dh.below hbd hAt),aS (heap_alloc_new wr _),HBW2.out.trans (hAt.mono HBW2.out.size),Nat.le_trans HBW2.out.size hAt.size,hfar⟩
      have H63:Hid (ys.length+1≤maxLen):=η (by have:=HLEN.out; unfold maxLen; omega);have HBY:Hid ((ys.length+1) * 48≤140737488355328):=η (by have:=HLEN.out; omega);clear hAt hfar hbd hC hBw hBW2 hB2 HC2
      go_wp2_with (at_builtin; refine iH rfl _ _ _ rfl w.heap.size 141 i0 (.agg #[.slice none 0 0,.slice none 0 0]) 2 48 Tryz.underlying136 hi hz0 hz1 hz2 rfl (Nat.zero_lt_succ 1) dh (.slice Am ys.length cm) ys.length L _ bs rfl HLL.out.1 rfl (some ⟨wr.heap.size,0,none⟩) 1 1 _ [b0] bq rfl HLL.out.2.1 rfl HLL.out.2.2.1 HLL.out.2.2.2.2.2 H63.out HBY.out w w.heap.size HLL.out.2.2.2.1 (Nat.le_refl _) HLL.out.2.2.2.2.1 ?_; intro A4 c4 w4 hC4 hB4 hS4 hG4; have HZ:=η (And.intro hC4 hB4); clear hC4 hB4 hS4 hG4)
      go_roundw
      case rel=>exact ⟨k+1,A4,c4,_,_,hlt,by go_num,by rw [HE.out,List.length_append]; rfl,by rw [HE.out,List.length_append]; exact η HZ.out.1,η HZ.out.2⟩
      case measure=>simp [intOf]; omega
  ·have he:k=all.length:=by omega
   have hk1:¬ (k:Int) < (all.length:Int):=by omega
   have HR:Hid (∃ b2,sQ wr [.slice Am ((all.take k).filter (iZ list body)).length cm] (all.filter (iZ list body)) b2):=η (by
    obtain ⟨b2,h2,_⟩:=hC.out.slice;rw [he,List.take_of_length_le (Nat.le_refl _)] at h2;rw [he,List.take_of_length_le (Nat.le_refl _)]
    exact ⟨b2,h2⟩)
   clear hC he hk;go_wp2;go_ret;exact ⟨hBw.out,_,rfl,HR.out⟩
theorem yY (xs:List A) (a:A) (v d0 d1:Value) (bs b2:List Nat) (w:World) (h:aI w [v] xs bs) (h2:aU w [d0,d1] a b2) (hs:ig xs=true) (hn:xs.length≤100000000000):
  Calls Tryz.prog 79 #[v,.agg #[d0,d1]] w (GU (bs ++ b2) xs (fA xs a) v w.heap.size w):=by
 obtain ⟨Ad,cap,rfl,hl,hm⟩:=af h;obtain ⟨Aa,ca,rfl,rfl⟩:=bJ h2;obtain ⟨i0,hi,hz0,hz1,hz2⟩:=info_parts qg;have hlm:=au hm;have hA:Below w.heap.size w (w.alloc (.cells #[.string a.name,.slice Aa a.args.length ca] 68)):=(Below.refl _ _).alloc (Nat.le_refl _) _;have hk:=xA xs a _ _ _ bs b2 _ (ai.below h hA) (aj.below h2 hA) hs;have HD:Hid (fA xs a=if hasB xs a then xs else xs.take (pl xs a) ++ a :: xs.drop (pl xs a)):=η rfl;cases hh:hasB xs a
 ·rw [hh] at hk
  have HX:Hid (fA xs a=xs.take (pl xs a) ++ [a] ++ xs.drop (pl xs a)):=η (by rw [HD.out,hh]; simp);have hlt:pl xs a≤xs.length:=(qf hs a).2.2;clear hh HD;obtain ⟨L,b3,hrow,hb3,hsrc⟩:=qJ dP (by omega) h;obtain ⟨bt,hrt,hbt⟩:=hrow.take (k:=pl xs a) (by omega);obtain ⟨bd,hrd,hbd⟩:=hrow.drop (k:=pl xs a) (by omega);have hlts:=ai.lt h;have h2lt:=aj.lt h2;generalize pl xs a=k at *;have HRT:=η hrt;have HBT:Hid (∀ c ∈ bt,c ∈ bs):=η (fun c hc=>hb3 c (hbt c hc));have HBD:Hid (∀ c ∈ bd,c ∈ bs):=η (fun c hc=>hb3 c (hbd c hc));have HRD:=η hrd;have HLW:Hid (∀ w',Below w.heap.size w w'→Lies w' Ad L):=η fun w' hb'=>IE hrow (by omega) hsrc hlts hb'
  by_cases hne:xs = []
  ·subst hne
   have hx:=η (PS a _ _ _ bs b2 w h h2 hs);exact hx.out
  ·obtain ⟨b,o,rfl,hbb,hcell⟩:=hsrc hne
   have hbl:=hlts b hbb
   go_enter Tryz.func79,Tryz.ntmps79
   go_wp2_with fail
   refine hk.mono ?_;rintro e w1 ⟨rfl,hb1⟩;have B1:=hA.trans (hb1.mono hA.size);have x0:w1.cell? ⟨w.heap.size,0,none⟩=some (.string a.name):=cell_later hb1 (by go_simp);have x1:w1.cell? ⟨w.heap.size,1,none⟩=some (.slice Aa a.args.length ca):=cell_later hb1 (by go_simp);clear hk;have hk0:(0:Int)≤(k:Int):=by omega
   have hk1:(k:Int)≤(xs.length:Int):=by omega
   have hk2:(k:Int)≤(cap:Int):=by omega
   have hk4:(xs.length:Int)≤(cap:Int):=by omega
   have hlt':(xs.take k).length=k:=by rw [List.length_take]; omega
   have hld':(xs.drop k).length=xs.length - k:=List.length_drop
   have HLT:Hid (∀ w',Below w.heap.size w w'→Lies w' (some ⟨b,o,none⟩) (L.take (k * 2))):=η fun w' hb'=>Lies.mk fun j u hj=>(hb'.cell (p:=⟨b,o+j,none⟩) hbl).trans (hcell j u (by
    have hj2:=(List.getElem?_eq_some_iff.1 hj).1
    rw [List.getElem?_take_of_lt (by simp at hj2; omega)] at hj; exact hj))
   have HL2:Hid (∀ w',Below w.heap.size w w'→Lies w' (some ⟨b,o+k * 2,none⟩) (L.drop (k * 2))):=η fun w' hb'=>Lies.mk fun j u hj=>(hb'.cell (p:=⟨b,o+k * 2+j,none⟩) hbl).trans (by rw [Nat.add_assoc]; exact hcell _ u (by rw [List.getElem?_drop] at hj; exact hj))
   have H5:Hid (0+k≤maxLen):=η (by unfold maxLen; omega);have H6:Hid ((0+k) * 40≤140737488355328):=η (by omega);have H8:Hid (k+1≤maxLen):=η (by unfold maxLen; omega);have H9:Hid ((k+1) * 40≤140737488355328):=η (by omega);have H10:Hid (k+1+(xs.length - k)≤maxLen):=η (by unfold maxLen; omega);have H11:Hid ((k+1+(xs.length - k)) * 40≤140737488355328):=η (by omega);have HN1:=η hlt';have HN2:=η hld';have HN3:Hid ((xs.take k ++ [a]).length=k+1):=η (by rw [List.length_append,hlt']; rfl);have HF2:Hid (∀ c ∈ bd,c < w1.heap.size):=η fun c hc=>Nat.lt_of_lt_of_le (hlts c (hb3 c (hbd c hc))) B1.size
   have HEa:Hid (((w1.alloc (.cells #[] 68)).alloc (.cells #[.string a.name,.slice Aa a.args.length ca] 68)).heap[w1.heap.size+1]? = some (.cells #[.string a.name,.slice Aa a.args.length ca] 68 (0,0))):=η (by have:=heap_alloc_new (w1.alloc (.cells #[] 68)) (.cells #[.string a.name,.slice Aa a.args.length ca] 68); rw [World.size_alloc] at this; exact this);have HEb:Hid (((w1.alloc (.cells #[.string a.name,.slice Aa a.args.length ca] 68)).alloc (.cells #[] 68)).heap[w1.heap.size]? = some (.cells #[.string a.name,.slice Aa a.args.length ca] 68 (0,0))):=η (by rw [Below.heap_alloc _ _ _ (by simp)]; exact heap_alloc_new _ _);have HRT1:=HRT.out.below aj B1;have hrd1:=HRD.out.below aj B1;have ha1:=aj.below h2 B1;have hBa:Below w1.heap.size w1 ((w1.alloc (.cells #[] 68)).alloc (.cells #[.string a.name,.slice Aa a.args.length ca] 68)).drew:=(((Below.refl _ _).alloc (Nat.le_refl _) _).alloc (by simp) _).drew
   have hCa:=cO.empty (n:=2) (R:=aU) (e:=68) (w:=((w1.alloc (.cells #[] 68)).alloc (.cells #[.string a.name,.slice Aa a.args.length ca] 68)).drew) (g:=w1.heap.size) (base:=w1.heap.size) (show ((w1.alloc (.cells #[] 68)).alloc (.cells #[.string a.name,.slice Aa a.args.length ca] 68)).heap[w1.heap.size]? = _ by rw [Below.heap_alloc _ _ _ (by simp)]; exact heap_alloc_new _ _) (by omega);have HBa:=η hBa;have HRa:=η (HRT1.below aj hBa);have HLa:Hid (Lies ((w1.alloc (.cells #[] 68)).alloc (.cells #[.string a.name,.slice Aa a.args.length ca] 68)).drew (some ⟨b,o,none⟩) (L.take (k * 2))):=η (HLT.out _ (B1.trans (hBa.mono B1.size)));have HFa:Hid (∀ c ∈ bt,(Value.slice (some ⟨w1.heap.size,0,none⟩) 0 0).ownBlock ≠ some c):=η fun c hc=>aJ hCa.own (Nat.lt_of_lt_of_le (hlts c (hb3 c (hbt c hc))) B1.size)
   have HCa:=η hCa;clear hBa hCa;have hBb:Below w1.heap.size w1 ((w1.alloc (.cells #[.string a.name,.slice Aa a.args.length ca] 68)).alloc (.cells #[] 68)).drew:=(((Below.refl _ _).alloc (Nat.le_refl _) _).alloc (by simp) _).drew;have hCb:=cO.empty (n:=2) (R:=aU) (e:=68) (w:=((w1.alloc (.cells #[.string a.name,.slice Aa a.args.length ca] 68)).alloc (.cells #[] 68)).drew) (g:=w1.heap.size+1) (base:=w1.heap.size) (show ((w1.alloc (.cells #[.string a.name,.slice Aa a.args.length ca] 68)).alloc (.cells #[] 68)).heap[w1.heap.size+1]? = _ by have:=heap_alloc_new (w1.alloc (.cells #[.string a.name,.slice Aa a.args.length ca] 68)) (.cells #[] 68); rw [World.size_alloc] at this; exact this) (by omega);have HBb:=η hBb;have HRb:=η (HRT1.below aj hBb);have HLb:Hid (Lies ((w1.alloc (.cells #[.string a.name,.slice Aa a.args.length ca] 68)).alloc (.cells #[] 68)).drew (some ⟨b,o,none⟩) (L.take (k * 2))):=η (HLT.out _ (B1.trans (hBb.mono B1.size)))
   have HFb:Hid (∀ c ∈ bt,(Value.slice (some ⟨w1.heap.size+1,0,none⟩) 0 0).ownBlock ≠ some c):=η fun c hc=>aJ hCb.own (Nat.lt_of_lt_of_le (hlts c (hb3 c (hbt c hc))) B1.size)
   have HCb:=η hCb;clear hBb hCb;have hBc:Below w1.heap.size w1 (w1.alloc (.cells #[] 68)).drew:=((Below.refl _ _).alloc (Nat.le_refl _) _).drew;have hCc:=cO.empty (n:=2) (R:=aU) (e:=68) (w:=(w1.alloc (.cells #[] 68)).drew) (g:=w1.heap.size) (base:=w1.heap.size) (show (w1.alloc (.cells #[] 68)).heap[w1.heap.size]? = _ from heap_alloc_new _ _) (by omega);have HBc:=η hBc;have HRc:=η (HRT1.below aj hBc);have HLc:Hid (Lies (w1.alloc (.cells #[] 68)).drew (some ⟨b,o,none⟩) (L.take (k * 2))):=η (HLT.out _ (B1.trans (hBc.mono B1.size)));have HFc:Hid (∀ c ∈ bt,(Value.slice (some ⟨w1.heap.size,0,none⟩) 0 0).ownBlock ≠ some c):=η fun c hc=>aJ hCc.own (Nat.lt_of_lt_of_le (hlts c (hb3 c (hbt c hc))) B1.size)
   have HCc:=η hCc;clear hBc hCc;have HBK:Hid (∀ w',Below w1.heap.size w1 w'→Below w.heap.size w w'):=η fun w' hb'=>B1.trans (hb'.mono B1.size)
   have HRD1:=η hrd1;have HA1:=η ha1;clear HRT1 hrd1 ha1;have hxx:w.heap.size < w1.heap.size:=lt_of_cell x0;have N1a:=η (own_ne (a:=w1.heap.size+1) (b:=w1.heap.size) (n:=0) (c:=0) (o:=0) (by omega));have N1b:=η (own_ne (a:=w1.heap.size) (b:=w1.heap.size+1) (n:=0) (c:=0) (o:=0) (by omega));have Sza:Hid (w1.heap.size+1 < ((w1.alloc (.cells #[] 68)).alloc (.cells #[.string a.name,.slice Aa a.args.length ca] 68)).drew.heap.size):=η (by simp);have Szb:Hid (w1.heap.size < ((w1.alloc (.cells #[.string a.name,.slice Aa a.args.length ca] 68)).alloc (.cells #[] 68)).drew.heap.size):=η (by simp <;> omega);have H2:=η h2;have H2L:Hid (∀ c ∈ b2,c < w1.heap.size):=η fun c hc=>Nat.lt_of_lt_of_le (h2lt c hc) B1.size
   clear hlt' hld' hbt hbd hb3 hrt hrd hrow hsrc hcell h h2 h2lt;by_cases hce:cap=k
   ·have hct:(cap=k)=True:=eq_true hce
    have hxl:xs.length=k:=by omega
    have hnil:L.drop (k * 2) = []:=List.length_eq_zero_iff.1 (by rw [HRD.out.len,HN2.out,hxl]; simp);have HLN:Hid (∀ w' Ad,Lies w' Ad (L.drop (k * 2))):=η (by rw [hnil]; exact fun w' Ad=>Lies.nil w' Ad);have HCP:=η hce;clear hxl hnil HL2 hce;go_wp2
    go_region_held3 (fun w'=>w'.cell? ⟨w.heap.size,0,none⟩=some (.string a.name)∧w'.cell? ⟨w.heap.size,1,none⟩=some (.slice Aa a.args.length ca)) (first | go_keep | exact ⟨q0,q1⟩ | exact ⟨r0,r1⟩ | exact ⟨s0,s1⟩) ((first
     | (refine aN ?_ (.tmp 15) (.tmp 18) _ ?_ w1.heap.size 68 i0 (.agg #[.string ⟨#[]⟩,.slice none 0 0]) 2 40 Tryz.underlying26 hi hz0 hz1 hz2 rfl (Nat.zero_lt_succ 1) aj (.slice (some ⟨w1.heap.size,0,none⟩) 0 0) 0 [] [] [] ?_ HCa.out rfl (some ⟨b,o,none⟩) k cap (L.take (k * 2)) _ _ ?_ HRa.out HN1.out HLa.out HFa.out H5.out H6.out w1 w1.heap.size HBa.out (Nat.le_refl _) HBa.out.size ?_; rfl; rfl; rfl; rfl; intro A1 cp1 w2 hC2 hB2 hS2 hG2; simp only [Nat.zero_add,List.nil_append] at hC2 ⊢; have q0:=cell_later hB2 x0; have q1:=cell_later hB2 x1; have HE2:Hid (w2.heap[w1.heap.size+1]? = some (.cells #[.string a.name,.slice Aa a.args.length ca] 68 (0,0))):=η ((hG2.block _ Sza.out N1a.out).trans HEa.out); clear hG2; have HLE:=η (aS HE2.out); have HRE:=η (aV.dB (n:=2) (R:=aU) dP (aj.below HA1.out hB2)); have HFE:=η (fun c hc=>aJ hC2.own (H2L.out c hc)); have HC2:=η hC2; have HB2:=η hB2; have HS2:=η hS2; clear hC2 hB2 hS2)
     | (refine aN ?_ (.tmp 15) (.tmp 18) _ ?_ w1.heap.size 68 i0 (.agg #[.string ⟨#[]⟩,.slice none 0 0]) 2 40 Tryz.underlying26 hi hz0 hz1 hz2 rfl (Nat.zero_lt_succ 1) aj (.slice (some ⟨w1.heap.size+1,0,none⟩) 0 0) 0 [] [] [] ?_ HCb.out rfl (some ⟨b,o,none⟩) k cap (L.take (k * 2)) _ _ ?_ HRb.out HN1.out HLb.out HFb.out H5.out H6.out w1 w1.heap.size HBb.out (Nat.le_refl _) HBb.out.size ?_; rfl; rfl; rfl; rfl; intro A1 cp1 w2 hC2 hB2 hS2 hG2; simp only [Nat.zero_add,List.nil_append] at hC2 ⊢; have q0:=cell_later hB2 x0; have q1:=cell_later hB2 x1; have HE2:Hid (w2.heap[w1.heap.size]? = some (.cells #[.string a.name,.slice Aa a.args.length ca] 68 (0,0))):=η ((hG2.block _ Szb.out N1b.out).trans HEb.out); clear hG2; have HLE:=η (aS HE2.out); have HRE:=η (aV.dB (n:=2) (R:=aU) dP (aj.below HA1.out hB2)); have HFE:=η (fun c hc=>aJ hC2.own (H2L.out c hc)); have HC2:=η hC2; have HB2:=η hB2; have HS2:=η hS2; clear hC2 hB2 hS2)
     | (refine aN ?_ (.tmp 15) (.tmp 18) _ ?_ w1.heap.size 68 i0 (.agg #[.string ⟨#[]⟩,.slice none 0 0]) 2 40 Tryz.underlying26 hi hz0 hz1 hz2 rfl (Nat.zero_lt_succ 1) aj (.slice (some ⟨w1.heap.size,0,none⟩) 0 0) 0 [] [] [] ?_ HCc.out rfl (some ⟨b,o,none⟩) k cap (L.take (k * 2)) _ _ ?_ HRc.out HN1.out HLc.out HFc.out H5.out H6.out w1 w1.heap.size HBc.out (Nat.le_refl _) HBc.out.size ?_; rfl; rfl; rfl; rfl; intro A1 cp1 w2 hC2 hB2 hS2 hG2; simp only [Nat.zero_add,List.nil_append] at hC2 ⊢; have q0:=cell_later hB2 x0; have q1:=cell_later hB2 x1; skip; clear hG2; have hB2':Below w1.heap.size w1 (w2.alloc (.cells #[.string a.name,.slice Aa a.args.length ca] 68)):=hB2.alloc hB2.size _; have HB2':=η hB2'; have HC2':=η (hC2.below aj ((Below.refl w2.heap.size w2).alloc (Nat.le_refl _) (.cells #[.string a.name,.slice Aa a.args.length ca] 68))); have HS2':=η hB2'.size; have HLE:=η (aS (heap_alloc_new w2 (.cells #[.string a.name,.slice Aa a.args.length ca] 68))); have HRE:=η (aV.dB (n:=2) (R:=aU) dP (aj.below HA1.out hB2')); have HFE:=η (fun c hc=>aJ hC2.own (H2L.out c hc)); clear hB2'; have HC2:=η hC2; have HB2:=η hB2; have HS2:=η hS2; clear hC2 hB2 hS2)
     | (refine aN ?_ (.tmp 19) (.tmp 21) _ ?_ w1.heap.size 68 i0 (.agg #[.string ⟨#[]⟩,.slice none 0 0]) 2 40 Tryz.underlying26 hi hz0 hz1 hz2 rfl (Nat.zero_lt_succ 1) aj (.slice A1 k cp1) k _ _ _ ?_ HC2.out HN1.out (some ⟨w1.heap.size+1,0,none⟩) 1 1 _ [a] _ ?_ HRE.out rfl HLE.out HFE.out H8.out H9.out w1 w1.heap.size HB2.out (Nat.le_refl _) HS2.out ?_; rfl; rfl; rfl; rfl; intro A2 cp2 w3 hC3 hB3 hS3 hG3; have r0:=cell_later hB3 x0; have r1:=cell_later hB3 x1; have HR3:=η (HRD1.out.below aj hB3); have HG3:=η (fun c hc=>aJ hC3.own (HF2.out c hc)); have HC3:=η hC3; have HB3:=η hB3; have HS3:=η hS3; clear hC3 hB3 hS3 hG3)
     | (refine aN ?_ (.tmp 19) (.tmp 21) _ ?_ w1.heap.size 68 i0 (.agg #[.string ⟨#[]⟩,.slice none 0 0]) 2 40 Tryz.underlying26 hi hz0 hz1 hz2 rfl (Nat.zero_lt_succ 1) aj (.slice A1 k cp1) k _ _ _ ?_ HC2.out HN1.out (some ⟨w1.heap.size,0,none⟩) 1 1 _ [a] _ ?_ HRE.out rfl HLE.out HFE.out H8.out H9.out w1 w1.heap.size HB2.out (Nat.le_refl _) HS2.out ?_; rfl; rfl; rfl; rfl; intro A2 cp2 w3 hC3 hB3 hS3 hG3; have r0:=cell_later hB3 x0; have r1:=cell_later hB3 x1; have HR3:=η (HRD1.out.below aj hB3); have HG3:=η (fun c hc=>aJ hC3.own (HF2.out c hc)); have HC3:=η hC3; have HB3:=η hB3; have HS3:=η hS3; clear hC3 hB3 hS3 hG3)
     | (refine aN ?_ (.tmp 19) (.tmp 21) _ ?_ w1.heap.size 68 i0 (.agg #[.string ⟨#[]⟩,.slice none 0 0]) 2 40 Tryz.underlying26 hi hz0 hz1 hz2 rfl (Nat.zero_lt_succ 1) aj (.slice A1 k cp1) k _ _ _ ?_ HC2'.out HN1.out (some ⟨w2.heap.size,0,none⟩) 1 1 _ [a] _ ?_ HRE.out rfl HLE.out HFE.out H8.out H9.out w1 w1.heap.size HB2'.out (Nat.le_refl _) HS2'.out ?_; rfl; rfl; rfl; rfl; intro A2 cp2 w3 hC3 hB3 hS3 hG3; have r0:=cell_later hB3 x0; have r1:=cell_later hB3 x1; have HR3:=η (HRD1.out.below aj hB3); have HG3:=η (fun c hc=>aJ hC3.own (HF2.out c hc)); have HC3:=η hC3; have HB3:=η hB3; have HS3:=η hS3; clear hC3 hB3 hS3 hG3)
     | (refine aN ?_ (.tmp 22) (.tmp 25) _ ?_ w1.heap.size 68 i0 (.agg #[.string ⟨#[]⟩,.slice none 0 0]) 2 40 Tryz.underlying26 hi hz0 hz1 hz2 rfl (Nat.zero_lt_succ 1) aj (.slice A2 (k+1) cp2) (k+1) _ _ _ ?_ HC3.out HN3.out (some ⟨b,o,none⟩) (xs.length - k) (cap - k) (L.drop (k * 2)) _ _ ?_ HR3.out HN2.out (HLN.out _ _) HG3.out H10.out H11.out w1 w1.heap.size HB3.out (Nat.le_refl _) HS3.out ?_; rfl; rfl; rfl; rfl; intro A3 cp3 w4 hC4 hB4 hS4 _; have s0:=cell_later hB4 x0; have s1:=cell_later hB4 x1; have HC4:=η hC4; have HB4:=η hB4; clear hC4 hB4 hS4)))
    all_goals
     obtain ⟨b4,hs4,_⟩:=HC4.out.slice;have HS:=η hs4;clear hs4;go_wp2;go_ret
     exact ⟨HBK.out _ HB4.out,_,b4,rfl,by rw [HX.out]; exact HS.out,.inr ⟨_,_,by rw [HX.out]; exact HC4.out.Ou B1.size,fun c hc=>by
      rcases List.mem_append.1 hc with hc | hc
      rcases List.mem_append.1 hc with hc | hc
      ·exact List.mem_append.2 (.inl (HBT.out c hc))
      ·exact List.mem_append.2 (.inr hc)
      ·exact List.mem_append.2 (.inl (HBD.out c hc))⟩⟩
   ·go_wp2
    go_region_held3 (fun w'=>w'.cell? ⟨w.heap.size,0,none⟩=some (.string a.name)∧w'.cell? ⟨w.heap.size,1,none⟩=some (.slice Aa a.args.length ca)) (first | go_keep | exact ⟨q0,q1⟩ | exact ⟨r0,r1⟩ | exact ⟨s0,s1⟩) ((first
     | (refine aN ?_ (.tmp 15) (.tmp 18) _ ?_ w1.heap.size 68 i0 (.agg #[.string ⟨#[]⟩,.slice none 0 0]) 2 40 Tryz.underlying26 hi hz0 hz1 hz2 rfl (Nat.zero_lt_succ 1) aj (.slice (some ⟨w1.heap.size,0,none⟩) 0 0) 0 [] [] [] ?_ HCa.out rfl (some ⟨b,o,none⟩) k cap (L.take (k * 2)) _ _ ?_ HRa.out HN1.out HLa.out HFa.out H5.out H6.out w1 w1.heap.size HBa.out (Nat.le_refl _) HBa.out.size ?_; rfl; rfl; rfl; rfl; intro A1 cp1 w2 hC2 hB2 hS2 hG2; simp only [Nat.zero_add,List.nil_append] at hC2 ⊢; have q0:=cell_later hB2 x0; have q1:=cell_later hB2 x1; have HE2:Hid (w2.heap[w1.heap.size+1]? = some (.cells #[.string a.name,.slice Aa a.args.length ca] 68 (0,0))):=η ((hG2.block _ Sza.out N1a.out).trans HEa.out); clear hG2; have HLE:=η (aS HE2.out); have HRE:=η (aV.dB (n:=2) (R:=aU) dP (aj.below HA1.out hB2)); have HFE:=η (fun c hc=>aJ hC2.own (H2L.out c hc)); have HC2:=η hC2; have HB2:=η hB2; have HS2:=η hS2; clear hC2 hB2 hS2)
     | (refine aN ?_ (.tmp 15) (.tmp 18) _ ?_ w1.heap.size 68 i0 (.agg #[.string ⟨#[]⟩,.slice none 0 0]) 2 40 Tryz.underlying26 hi hz0 hz1 hz2 rfl (Nat.zero_lt_succ 1) aj (.slice (some ⟨w1.heap.size+1,0,none⟩) 0 0) 0 [] [] [] ?_ HCb.out rfl (some ⟨b,o,none⟩) k cap (L.take (k * 2)) _ _ ?_ HRb.out HN1.out HLb.out HFb.out H5.out H6.out w1 w1.heap.size HBb.out (Nat.le_refl _) HBb.out.size ?_; rfl; rfl; rfl; rfl; intro A1 cp1 w2 hC2 hB2 hS2 hG2; simp only [Nat.zero_add,List.nil_append] at hC2 ⊢; have q0:=cell_later hB2 x0; have q1:=cell_later hB2 x1; have HE2:Hid (w2.heap[w1.heap.size]? = some (.cells #[.string a.name,.slice Aa a.args.length ca] 68 (0,0))):=η ((hG2.block _ Szb.out N1b.out).trans HEb.out); clear hG2; have HLE:=η (aS HE2.out); have HRE:=η (aV.dB (n:=2) (R:=aU) dP (aj.below HA1.out hB2)); have HFE:=η (fun c hc=>aJ hC2.own (H2L.out c hc)); have HC2:=η hC2; have HB2:=η hB2; have HS2:=η hS2; clear hC2 hB2 hS2)
     | (refine aN ?_ (.tmp 15) (.tmp 18) _ ?_ w1.heap.size 68 i0 (.agg #[.string ⟨#[]⟩,.slice none 0 0]) 2 40 Tryz.underlying26 hi hz0 hz1 hz2 rfl (Nat.zero_lt_succ 1) aj (.slice (some ⟨w1.heap.size,0,none⟩) 0 0) 0 [] [] [] ?_ HCc.out rfl (some ⟨b,o,none⟩) k cap (L.take (k * 2)) _ _ ?_ HRc.out HN1.out HLc.out HFc.out H5.out H6.out w1 w1.heap.size HBc.out (Nat.le_refl _) HBc.out.size ?_; rfl; rfl; rfl; rfl; intro A1 cp1 w2 hC2 hB2 hS2 hG2; simp only [Nat.zero_add,List.nil_append] at hC2 ⊢; have q0:=cell_later hB2 x0; have q1:=cell_later hB2 x1; skip; clear hG2; have hB2':Below w1.heap.size w1 (w2.alloc (.cells #[.string a.name,.slice Aa a.args.length ca] 68)):=hB2.alloc hB2.size _; have HB2':=η hB2'; have HC2':=η (hC2.below aj ((Below.refl w2.heap.size w2).alloc (Nat.le_refl _) (.cells #[.string a.name,.slice Aa a.args.length ca] 68))); have HS2':=η hB2'.size; have HLE:=η (aS (heap_alloc_new w2 (.cells #[.string a.name,.slice Aa a.args.length ca] 68))); have HRE:=η (aV.dB (n:=2) (R:=aU) dP (aj.below HA1.out hB2')); have HFE:=η (fun c hc=>aJ hC2.own (H2L.out c hc)); clear hB2'; have HC2:=η hC2; have HB2:=η hB2; have HS2:=η hS2; clear hC2 hB2 hS2)
     | (refine aN ?_ (.tmp 19) (.tmp 21) _ ?_ w1.heap.size 68 i0 (.agg #[.string ⟨#[]⟩,.slice none 0 0]) 2 40 Tryz.underlying26 hi hz0 hz1 hz2 rfl (Nat.zero_lt_succ 1) aj (.slice A1 k cp1) k _ _ _ ?_ HC2.out HN1.out (some ⟨w1.heap.size+1,0,none⟩) 1 1 _ [a] _ ?_ HRE.out rfl HLE.out HFE.out H8.out H9.out w1 w1.heap.size HB2.out (Nat.le_refl _) HS2.out ?_; rfl; rfl; rfl; rfl; intro A2 cp2 w3 hC3 hB3 hS3 hG3; have r0:=cell_later hB3 x0; have r1:=cell_later hB3 x1; have HR3:=η (HRD1.out.below aj hB3); have HG3:=η (fun c hc=>aJ hC3.own (HF2.out c hc)); have HC3:=η hC3; have HB3:=η hB3; have HS3:=η hS3; clear hC3 hB3 hS3 hG3)
     | (refine aN ?_ (.tmp 19) (.tmp 21) _ ?_ w1.heap.size 68 i0 (.agg #[.string ⟨#[]⟩,.slice none 0 0]) 2 40 Tryz.underlying26 hi hz0 hz1 hz2 rfl (Nat.zero_lt_succ 1) aj (.slice A1 k cp1) k _ _ _ ?_ HC2.out HN1.out (some ⟨w1.heap.size,0,none⟩) 1 1 _ [a] _ ?_ HRE.out rfl HLE.out HFE.out H8.out H9.out w1 w1.heap.size HB2.out (Nat.le_refl _) HS2.out ?_; rfl; rfl; rfl; rfl; intro A2 cp2 w3 hC3 hB3 hS3 hG3; have r0:=cell_later hB3 x0; have r1:=cell_later hB3 x1; have HR3:=η (HRD1.out.below aj hB3); have HG3:=η (fun c hc=>aJ hC3.own (HF2.out c hc)); have HC3:=η hC3; have HB3:=η hB3; have HS3:=η hS3; clear hC3 hB3 hS3 hG3)
     | (refine aN ?_ (.tmp 19) (.tmp 21) _ ?_ w1.heap.size 68 i0 (.agg #[.string ⟨#[]⟩,.slice none 0 0]) 2 40 Tryz.underlying26 hi hz0 hz1 hz2 rfl (Nat.zero_lt_succ 1) aj (.slice A1 k cp1) k _ _ _ ?_ HC2'.out HN1.out (some ⟨w2.heap.size,0,none⟩) 1 1 _ [a] _ ?_ HRE.out rfl HLE.out HFE.out H8.out H9.out w1 w1.heap.size HB2'.out (Nat.le_refl _) HS2'.out ?_; rfl; rfl; rfl; rfl; intro A2 cp2 w3 hC3 hB3 hS3 hG3; have r0:=cell_later hB3 x0; have r1:=cell_later hB3 x1; have HR3:=η (HRD1.out.below aj hB3); have HG3:=η (fun c hc=>aJ hC3.own (HF2.out c hc)); have HC3:=η hC3; have HB3:=η hB3; have HS3:=η hS3; clear hC3 hB3 hS3 hG3)
     | (refine aN ?_ (.tmp 22) (.tmp 25) _ ?_ w1.heap.size 68 i0 (.agg #[.string ⟨#[]⟩,.slice none 0 0]) 2 40 Tryz.underlying26 hi hz0 hz1 hz2 rfl (Nat.zero_lt_succ 1) aj (.slice A2 (k+1) cp2) (k+1) _ _ _ ?_ HC3.out HN3.out (some ⟨b,o+k * 2,none⟩) (xs.length - k) (cap - k) (L.drop (k * 2)) _ _ ?_ HR3.out HN2.out (HL2.out _ (HBK.out _ HB3.out)) HG3.out H10.out H11.out w1 w1.heap.size HB3.out (Nat.le_refl _) HS3.out ?_; rfl; rfl; rfl; rfl; intro A3 cp3 w4 hC4 hB4 hS4 _; have s0:=cell_later hB4 x0; have s1:=cell_later hB4 x1; have HC4:=η hC4; have HB4:=η hB4; clear hC4 hB4 hS4)))
    all_goals
     obtain ⟨b4,hs4,_⟩:=HC4.out.slice;have HS:=η hs4;clear hs4;go_wp2;go_ret
     exact ⟨HBK.out _ HB4.out,_,b4,rfl,by rw [HX.out]; exact HS.out,.inr ⟨_,_,by rw [HX.out]; exact HC4.out.Ou B1.size,fun c hc=>by
      rcases List.mem_append.1 hc with hc | hc
      rcases List.mem_append.1 hc with hc | hc
      ·exact List.mem_append.2 (.inl (HBT.out c hc))
      ·exact List.mem_append.2 (.inr hc)
      ·exact List.mem_append.2 (.inl (HBD.out c hc))⟩⟩
 ·rw [hh] at hk
  have HX:Hid (fA xs a=xs):=η (by rw [HD.out,hh]; rfl);clear hh HD
  go_enter Tryz.func79,Tryz.ntmps79
  go_wp2_with fail
  refine hk.mono ?_;rintro e w1 ⟨rfl,hb1⟩;have B1:=hA.trans (hb1.mono hA.size);have HR:=η (ai.below h B1);clear hk h h2;go_wp2;go_ret;exact ⟨B1,_,bs,rfl,by rw [HX.out]; exact HR.out,.inl ⟨rfl,HX.out⟩⟩
theorem P9 (xs:List A) (a:A) (v d0 d1:Value) (bs b2:List Nat) (w:World) (h:aI w [v] xs bs) (h2:aU w [d0,d1] a b2) (hs:ig xs=true) (hn:xs.length≤16777216):
 Calls Tryz.prog 79 #[v,.agg #[d0,d1]] w (GU (bs ++ b2) xs (fA xs a) v w.heap.size w):=yY xs a v d0 d1 bs b2 w h h2 hs (by omega)
theorem Qa (xs:List A) (a:A) (v d0 d1:Value) (bs b2:List Nat) (w:World) (h:aI w [v] xs bs) (h2:aU w [d0,d1] a b2) (hs:ig xs=true) (hn:xs.length≤16777216):
  Calls Tryz.prog 79 #[v,.agg #[d0,d1]] w (Reads aI (fA xs a) w.heap.size w):=
 (P9 xs a v d0 d1 bs b2 w h h2 hs hn).mono fun e w' ⟨h1,v',bs',h2,h3,_⟩=>⟨h1,v',bs',h2,h3⟩
end Go.Proofs.YtiidmgchadagbaaGreatDoor
