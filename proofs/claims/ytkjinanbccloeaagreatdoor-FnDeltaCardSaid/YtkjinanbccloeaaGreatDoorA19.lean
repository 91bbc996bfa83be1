/- Of the proof of FnDelta: WoS, L3P. -/
import Derived.Test.YtkjinanbccloeaaGreatDoorA14
import Derived.Test.YtkjinanbccloeaaGreatDoorA15
set_option linter.unusedVariables false
set_option maxHeartbeats 4000000
set_option maxRecDepth 100000
namespace Go.Proofs.YtkjinanbccloeaaGreatDoor
open Go.RowKit D
attribute [local go_sem ↓] Go.wp_at_zero Go.wp_at_succ
theorem Gs:(Tryz.prog.info? 234).map (fun i=>(i.zero,i.size,i.bytes))=some (some (.agg #[.slice none 0 0,.slice none 0 0]),2,48):=by kernel_rfl
theorem D.wX:BN 2 jB:=fun h=>by
 obtain ⟨s,v,I,J,rfl,_,h1,y⟩:=h;obtain ⟨U,p1,rfl,_⟩:=aj h1;obtain ⟨A2,p2,rfl,_⟩:=aj y;simp [Value.oneCell']
theorem D.yG {w:World} {Ad:Option Addr} {len cap k:Nat} {xs:List Bd} {bs:List Nat} (h:tH w [.slice Ad len cap] xs bs) (hk:k < xs.length):
  ∃ b o J p1 U p2 bk,Ad=some ⟨b,o,none⟩∧b ∈ bs∧w.cell? ⟨b,o+k * 2,none⟩=some (.slice J xs[k].length p1)∧w.cell? ⟨b,o+k * 2+1,none⟩=some (.slice U xs[k].length p2)∧jB w [.slice J xs[k].length p1,.slice U xs[k].length p2] xs[k] bk∧∀ c ∈ bk,c ∈ bs:=by
 obtain ⟨b,o,cs,bk,rfl,hb,a0,y,hR,I⟩:=jw h hk;obtain ⟨J,p1,U,p2,rfl⟩:=mQ hR;exact ⟨b,o,J,p1,U,p2,bk,rfl,hb,by simpa using y 0 _ rfl,by simpa [Nat.add_assoc] using y 1 _ rfl,hR,I⟩
theorem D.OI (list:List A) (body:List Pt) (b:Bd) (k:Nat) (h:k < body.length):jf list (body.take (k+1)) b=(jf list (body.take k) b && (!body[k].no || !hasB list (cu body[k].atom b))):=by
 unfold jf;rw [ρ h,List.all_append];simp
theorem EP (list:List A) (body:List Pt) (all:List Bd) (v0 v1 v2:Value) (bl bb ba:List Nat) (w:World) (hl:aB w [v0] list bl) (hb:iY w [v1] body bb) (h:tH w [v2] all ba)
  (af:fU list=true) (hn:all.length≤10000000000) (ag:∀ p ∈ body,p.atom.args.length≤1000000):
  Calls Tryz.prog 224 #[v0,v1,v2] w fun e w'=>Below w.heap.size w w'∧∃ v bs,e=.returned v∧tH w' [v] (all.filter (jf list body)) bs:=by
 obtain ⟨Al,pl,rfl,b1,b3⟩:=aj hl;obtain ⟨Ab,pb,rfl,b4,am⟩:=aj hb;obtain ⟨Aa,pa,rfl,b6,aq⟩:=aj h;obtain ⟨i0,hi,b7,b8,b9⟩:=info_parts Gs;have bu:=aA (τ b4 am);have bt:=aA (τ b6 aq);have HL:=η hl;have HB:=η hb;have HA:=η h;have bc:=η ag;clear hl hb h b1 b3 am aq ag;have ar:Below w.heap.size w (w.alloc (.cells #[] 234)):=ζ;have hE:aY 2 jB w.heap.size 234 (w.alloc (.cells #[] 234)) (.slice (some ⟨w.heap.size,0,none⟩) 0 0) [] [] []:=aY.empty (ω w _) ν
 go_enter Tryz.func224,Tryz.ntmps224
 go_wp2_with fail
 generalize w.alloc (.cells #[] 234)=w0 at *
 go_loopw [7,8,9,10] (fun o i _ _ wr=>∃ (k:Nat) (Am:Option Addr) (cm:Nat) (L:List Value) (bs:List Nat),k≤all.length∧i=.int .i64 k∧o=.slice Am ((all.take k).filter (jf list body)).length cm∧Hid (aY 2 jB w.heap.size 234 wr (.slice Am ((all.take k).filter (jf list body)).length cm) L ((all.take k).filter (jf list body)) bs)∧Hid (Below w.heap.size w wr)) (fun _ i _ _ _=>all.length - (intOf i).toNat)
 case atStart=>exact ⟨0,_,_,_,_,ε,rfl,rfl,η hE,η ar⟩
 case round=>
  obtain ⟨k,Am,cm,L,bs,hk,rfl,rfl,hC,a5⟩:=hrel;clear hE ar;by_cases a3:k < all.length
  ·have bv:(0:Int)≤(k:Int):=by omega
   have bf:(k:Int) < (all.length:Int):=by omega
   have a6:Hid ((all.take (k+1)).filter (jf list body)=(all.take k).filter (jf list body) ++ (if jf list body all[k] then [all[k]] else [])):=η (by
    rw [ρ a3,List.filter_append]
    congr 1
    by_cases hf:jf list body all[k]=true
    ·simp [List.filter,hf]
    ·simp [List.filter,hf])
   have aa:Hid (((all.take k).filter (jf list body)).length≤k):=η (τ (List.length_filter_le _ _) (by simp; omega));generalize hys:(all.take k).filter (jf list body)=ys at *;generalize hb0:all[k]=b0 at *;clear hys;generalize wr=wo at *
   go_wp2_with fail
   go_loopw [9,10] (fun ok i wr=>∃ (j:Nat),j≤body.length∧i=.int .i64 j∧ok=.bool (jf list (body.take j) b0)∧Hid (Below wo.heap.size wo wr)) (fun _ i _=>body.length - (intOf i).toNat)
   case atStart=>exact ⟨0,ε,rfl,rfl,η ϑ⟩
   case round=>
    obtain ⟨j,hj,rfl,rfl,J⟩:=hrel;have y:=a5.out.trans (J.out.mono a5.out.size);by_cases U:j < body.length
    ·obtain ⟨ac,po,Ae,ce,bk,rfl,_,e0,e1,e2,a7,_⟩:=jd (dJ.below HB.out y) U
     obtain ⟨ae,ao,A1,p1,A2,p2,bq,rfl,_,d0,d1,I,_⟩:=yG (ni.below HA.out y) a3;rw [hb0] at d0 d1 I;have bw:(0:Int)≤(j:Int):=by omega
     have bg:(j:Int) < (body.length:Int):=by omega
     have a1:=η (OI list body b0 j U);have bx:=η U;have bh:=η (bc.out _ (δ U));generalize body[j]=p at *;obtain ⟨bi,px⟩:=p;dsimp only at *
     cases hfb:jf list (body.take j) b0 with
     | false=>
      have HZ:Hid (jf list (body.take (j+1)) b0=false):=η (by rw [a1.out,hfb]; rfl);clear a1 hfb e0 e1 e2 a7 d0 d1 I
      go_wp2_with fail
      go_quiet (fail)
      go_wp2;go_roundw
      case rel=>exact ⟨j+1,U,by go_num,by rw [HZ.out],η (below_drewN J.out _)⟩
      case measure=>simp [intOf]; omega
     | true=>
      cases bi with
      | false=>
       have HZ:Hid (jf list (body.take (j+1)) b0=true):=η (by rw [a1.out,hfb]; rfl);clear a1 hfb e1 e2 a7 d0 d1 I
       go_wp2_with fail
       go_quiet (fail)
       go_wp2;go_roundw
       case rel=>exact ⟨j+1,U,by go_num,by rw [HZ.out],η (below_drewN J.out _)⟩
       case measure=>simp [intOf]; omega
      | true=>
       have HZ:Hid (jf list (body.take (j+1)) b0 = !hasB list (cu px b0)):=η (by rw [a1.out,hfb]; simp)
       have av:aJ wr [.string px.name,.slice Ae px.args.length ce] px bk:=by
        obtain ⟨t,aw,h1,h2⟩:=a7;simp only [List.cons.injEq,true_and,and_true] at aw;subst aw;exact ⟨_,rfl,h1,h2⟩
       have hD:Below wr.heap.size wr wr.drew:=Below.drew ϑ;have q1:=fun w' (hb:Below wr.heap.size wr w')=>KU px b0 _ _ _ _ bk bq w' (au.below av hb) (dh.below I hb) bh.out
       have q2:=fun w' (hb:Below wr.heap.size wr w') d0 d1 b5 (h5:aJ w' [d0,d1] (cu px b0) b5)=>zA list (cu px b0) _ d0 d1 bl b5 w' (ak.below HL.out (y.trans (hb.mono y.size))) h5 af
       have Q1:=η q1;have Q2:=η q2;clear a1 hfb a7 I q1 q2 av
       go_wp2_with fail
       go_region_held3 (fun w'=>w'.cell? ⟨ac,po+j * 3,none⟩=some (.bool true)∧w'.cell? ⟨ac,po+j * 3+1,none⟩=some (.string px.name)∧w'.cell? ⟨ac,po+j * 3+2,none⟩=some (.slice Ae px.args.length ce)∧w'.cell? ⟨ae,ao+k * 2,none⟩=some (.slice A1 b0.length p1)∧w'.cell? ⟨ae,ao+k * 2+1,none⟩=some (.slice A2 b0.length p2))
        (first | go_keep | exact hq | exact az)
        (first
         | (go_at_call 172; refine (Q1.out _ hD).mono ?_; rintro e w5 ⟨aD,g0,g1,b5,rfl,h5,_⟩; have B5:=hD.trans (aD.mono hD.size); have hq:=ι (ξ B5 e0) (ι (ξ B5 e1) (ι (ξ B5 e2) (ι (ξ B5 d0) (ξ B5 d1)))))
         | (go_at_call 141; refine (Q2.out _ B5 _ _ _ h5).mono ?_; rintro e w6 ⟨rfl,aE⟩; have B6:=B5.trans (aE.mono B5.size); have az:=ι (ξ B6 e0) (ι (ξ B6 e1) (ι (ξ B6 e2) (ι (ξ B6 d0) (ξ B6 d1))))))
       have bj:=η (J.out.trans (B6.mono J.out.size));clear Q1 Q2 hq az h5 aD aE B5 B6 e0 e1 e2 d0 d1;go_wp2;go_roundw
       case rel=>exact ⟨j+1,U,by go_num,by rw [HZ.out],bj⟩
       case measure=>simp [intOf]; omega
    ·have he:j=body.length:=by omega
     have bg:¬ (j:Int) < (body.length:Int):=by omega
     have a8:Hid (jf list (body.take j) b0=jf list body b0):=η (by rw [he,ϕ ν]);have a9:=η (hC.out.below dh J.out);have a0:=η y;clear he hj
     cases hfb:jf list (body.take j) b0 with
     | false=>
      have HE:Hid ((all.take (k+1)).filter (jf list body)=ys):=η (by rw [a6.out,← a8.out,hfb]; simp);clear hfb a6 a8;go_wp2;go_roundw
      case rel=>exact ⟨k+1,Am,cm,L,bs,a3,by go_num,by rw [HE.out],by rw [HE.out]; exact a9,a0⟩
      case measure=>simp [intOf]; omega
     | true=>
      have HE:Hid ((all.take (k+1)).filter (jf list body)=ys ++ [b0]):=η (by rw [a6.out,← a8.out,hfb]; simp);obtain ⟨ae,ao,A1,p1,A2,p2,bq,rfl,_,d0,d1,I,aL⟩:=yG (ni.below HA.out y) a3;rw [hb0] at d0 d1 I;clear hfb a6 a8;have a4:Below wr.heap.size wr (wr.alloc (.cells #[.slice A1 b0.length p1,.slice A2 b0.length p2] 234)):=ζ
      have ab:∀ c ∈ bq,(Value.slice Am ys.length cm).ownBlock ≠ some c:=fun c hc e=>by
       have h1:=(jF a9.out.own c e).1;have h2:=ni.lt HA.out c (aL c hc);omega
      have a2:Hid (aY 2 jB w.heap.size 234 (wr.alloc (.cells #[.slice A1 b0.length p1,.slice A2 b0.length p2] 234)) (.slice Am ys.length cm) L ys bs∧aT 2 jB (wr.alloc (.cells #[.slice A1 b0.length p1,.slice A2 b0.length p2] 234)) [.slice A1 b0.length p1,.slice A2 b0.length p2] [b0] bq∧Lies (wr.alloc (.cells #[.slice A1 b0.length p1,.slice A2 b0.length p2] 234)) (some ⟨wr.heap.size,0,none⟩) [.slice A1 b0.length p1,.slice A2 b0.length p2]∧Below w.heap.size w (wr.alloc (.cells #[.slice A1 b0.length p1,.slice A2 b0.length p2] 234))∧w.heap.size≤(wr.alloc (.cells #[.slice A1 b0.length p1,.slice A2 b0.length p2] 234)).heap.size∧∀ c ∈ bq,(Value.slice Am ys.length cm).ownBlock ≠ some c):=
       η ⟨a9.out.below dh a4,aT.dH wX (dh.below I a4),aS (ω wr _),a0.out.trans (a4.mono a0.out.size),τ a0.out.size a4.size,ab⟩
      have bn:Hid (ys.length+1≤maxLen):=η (by have:=aa.out; unfold maxLen; omega);have bo:Hid ((ys.length+1) * 48≤140737488355328):=η (by have:=aa.out; omega);clear a4 ab I hC a5 y J a9
      go_wp2_with (at_builtin; refine cO rfl _ _ _ rfl w.heap.size 234 i0 (.agg #[.slice none 0 0,.slice none 0 0]) 2 48 Tryz.underlying230 hi b7 b8 b9 rfl (Θ 1) dh (.slice Am ys.length cm) ys.length L _ bs rfl a2.out.1 rfl (some ⟨wr.heap.size,0,none⟩) 1 1 _ [b0] bq rfl a2.out.2.1 rfl a2.out.2.2.1 a2.out.2.2.2.2.2 bn.out bo.out w w.heap.size a2.out.2.2.2.1 ν a2.out.2.2.2.2.1 ?_; intro A4 c4 w4 aM aR bp br; have HZ:=η (ι aM aR); clear aM aR bp br)
      go_roundw
      case rel=>exact ⟨k+1,A4,c4,_,_,a3,by go_num,by rw [HE.out,χ]; rfl,by rw [HE.out,χ]; exact η HZ.out.1,η HZ.out.2⟩
      case measure=>simp [intOf]; omega
  ·have he:k=all.length:=by omega
   have bf:¬ (k:Int) < (all.length:Int):=by omega
   have HR:Hid (∃ b2,tH wr [.slice Am ((all.take k).filter (jf list body)).length cm] (all.filter (jf list body)) b2):=η (by
    obtain ⟨b2,h2,_⟩:=hC.out.slice;rw [he,ϕ ν] at h2;rw [he,ϕ ν]
    exact ⟨b2,h2⟩)
   clear hC he hk;go_wp2;go_ret;exact ⟨a5.out,_,rfl,HR.out⟩
theorem zI (xs:List A) (a:A) (v d0 d1:Value) (bs b2:List Nat) (w:World) (h:aB w [v] xs bs) (h2:aJ w [d0,d1] a b2) (hs:fU xs=true) (hn:xs.length≤100000000000):
  Calls Tryz.prog 49 #[v,.agg #[d0,d1]] w (Il (bs ++ b2) xs (eF xs a) v w.heap.size w):=by
 obtain ⟨Ad,cap,rfl,hl,hm⟩:=aj h;obtain ⟨Aa,ca,rfl,rfl⟩:=bG h2;obtain ⟨i0,hi,a4,a5,a6⟩:=info_parts qp;have cU:=aA hm;have hA:Below w.heap.size w (w.alloc (.cells #[.string a.name,.slice Aa a.args.length ca] 33)):=ζ;have hk:=xR xs a _ _ _ bs b2 _ (ak.below h hA) (au.below h2 hA) hs;have HD:Hid (eF xs a=if hasB xs a then xs else xs.take (pl xs a) ++ a :: xs.drop (pl xs a)):=η rfl;cases hh:hasB xs a
 ·rw [hh] at hk
  have HX:Hid (eF xs a=xs.take (pl xs a) ++ [a] ++ xs.drop (pl xs a)):=η (by rw [HD.out,hh]; simp);have cV:pl xs a≤xs.length:=(qm hs a).2.2;clear hh HD;obtain ⟨L,b3,ab,a7,ag⟩:=qQ eY (by omega) h;obtain ⟨bt,bz,am⟩:=ab.take (k:=pl xs a) (by omega);obtain ⟨bd,bA,bh⟩:=ab.drop (k:=pl xs a) (by omega);have a1:=ak.lt h;have b9:=au.lt h2;generalize pl xs a=k at *;have cg:=η bz;have ci:Hid (∀ c ∈ bt,c ∈ bs):=η (fun c hc=>a7 c (am c hc));have cj:Hid (∀ c ∈ bd,c ∈ bs):=η (fun c hc=>a7 c (bh c hc));have bB:=η bA;have cW:Hid (∀ w',Below w.heap.size w w'→Lies w' Ad L):=η fun w' a8=>Jm ab (by omega) ag a1 a8
  by_cases bE:xs = []
  ·subst bE
   have hx:=η (QO a _ _ _ bs b2 w h h2 hs);exact hx.out
  ·obtain ⟨b,o,rfl,ck,a9⟩:=ag bE
   have bL:=a1 b ck
   go_enter Tryz.func49,Tryz.ntmps49
   go_wp2_with fail
   refine hk.mono ?_;rintro e y ⟨rfl,ao⟩;have B1:=hA.trans (ao.mono hA.size);have x0:y.cell? ⟨w.heap.size,0,none⟩=some (.string a.name):=ξ ao (by go_simp);have x1:y.cell? ⟨w.heap.size,1,none⟩=some (.slice Aa a.args.length ca):=ξ ao (by go_simp);clear hk;have cX:(0:Int)≤(k:Int):=by omega
   have cY:(k:Int)≤(xs.length:Int):=by omega
   have d2:(k:Int)≤(cap:Int):=by omega
   have d3:(xs.length:Int)≤(cap:Int):=by omega
   have aq:(xs.take k).length=k:=by rw [List.length_take]; omega
   have bc:(xs.drop k).length=xs.length - k:=List.length_drop
   have bi:Hid (∀ w',Below w.heap.size w w'→Lies w' (some ⟨b,o,none⟩) (L.take (k * 2))):=η fun w' a8=>Lies.mk fun j u hj=>(a8.cell (p:=⟨b,o+j,none⟩) bL).trans (a9 j u (by
    have cl:=(List.getElem?_eq_some_iff.1 hj).1
    rw [List.getElem?_take_of_lt (by simp at cl; omega)] at hj; exact hj))
   have bO:Hid (∀ w',Below w.heap.size w w'→Lies w' (some ⟨b,o+k * 2,none⟩) (L.drop (k * 2))):=η fun w' a8=>Lies.mk fun j u hj=>(a8.cell (p:=⟨b,o+k * 2+j,none⟩) bL).trans (by rw [Nat.add_assoc]; exact a9 _ u (by rw [List.getElem?_drop] at hj; exact hj))
   have H5:Hid (0+k≤maxLen):=η (by unfold maxLen; omega);have H6:Hid ((0+k) * 40≤140737488355328):=η (by omega);have H8:Hid (k+1≤maxLen):=η (by unfold maxLen; omega);have H9:Hid ((k+1) * 40≤140737488355328):=η (by omega);have cm:Hid (k+1+(xs.length - k)≤maxLen):=η (by unfold maxLen; omega);have cn:Hid ((k+1+(xs.length - k)) * 40≤140737488355328):=η (by omega);have af:=η aq;have bR:=η bc;have co:Hid ((xs.take k ++ [a]).length=k+1):=η (by rw [χ,aq]; rfl);have bj:Hid (∀ c ∈ bd,c < y.heap.size):=η fun c hc=>κ (a1 c (a7 c (bh c hc))) B1.size
   have cp:Hid (((y.alloc (.cells #[] 33)).alloc (.cells #[.string a.name,.slice Aa a.args.length ca] 33)).heap[y.heap.size+1]? = some (.cells #[.string a.name,.slice Aa a.args.length ca] 33 (0,0))):=η (by have:=ω (y.alloc (.cells #[] 33)) (.cells #[.string a.name,.slice Aa a.args.length ca] 33); rw [World.size_alloc] at this; exact this);have cq:Hid (((y.alloc (.cells #[.string a.name,.slice Aa a.args.length ca] 33)).alloc (.cells #[] 33)).heap[y.heap.size]? = some (.cells #[.string a.name,.slice Aa a.args.length ca] 33 (0,0))):=η (by rw [Below.heap_alloc _ _ _ (by simp)]; exact ω _ _);have ac:=cg.out.below au B1;have bf:=bB.out.below au B1;have bX:=au.below h2 B1;have aL:Below y.heap.size y ((y.alloc (.cells #[] 33)).alloc (.cells #[.string a.name,.slice Aa a.args.length ca] 33)).drew:=((ζ).alloc (by simp) _).drew
   have bk:=aY.empty (n:=2) (R:=aJ) (e:=33) (w:=((y.alloc (.cells #[] 33)).alloc (.cells #[.string a.name,.slice Aa a.args.length ca] 33)).drew) (g:=y.heap.size) (base:=y.heap.size) (show ((y.alloc (.cells #[] 33)).alloc (.cells #[.string a.name,.slice Aa a.args.length ca] 33)).heap[y.heap.size]? = _ by rw [Below.heap_alloc _ _ _ (by simp)]; exact ω _ _) (by omega);have c3:=η aL;have cr:=η (ac.below au aL);have cv:Hid (Lies ((y.alloc (.cells #[] 33)).alloc (.cells #[.string a.name,.slice Aa a.args.length ca] 33)).drew (some ⟨b,o,none⟩) (L.take (k * 2))):=η (bi.out _ (B1.trans (aL.mono B1.size)));have cw:Hid (∀ c ∈ bt,(Value.slice (some ⟨y.heap.size,0,none⟩) 0 0).ownBlock ≠ some c):=η fun c hc=>aO bk.own (κ (a1 c (a7 c (am c hc))) B1.size)
   have cx:=η bk;clear aL bk;have aM:Below y.heap.size y ((y.alloc (.cells #[.string a.name,.slice Aa a.args.length ca] 33)).alloc (.cells #[] 33)).drew:=((ζ).alloc (by simp) _).drew;have bl:=aY.empty (n:=2) (R:=aJ) (e:=33) (w:=((y.alloc (.cells #[.string a.name,.slice Aa a.args.length ca] 33)).alloc (.cells #[] 33)).drew) (g:=y.heap.size+1) (base:=y.heap.size) (show ((y.alloc (.cells #[.string a.name,.slice Aa a.args.length ca] 33)).alloc (.cells #[] 33)).heap[y.heap.size+1]? = _ by have:=ω (y.alloc (.cells #[.string a.name,.slice Aa a.args.length ca] 33)) (.cells #[] 33); rw [World.size_alloc] at this; exact this) (by omega);have c4:=η aM;have cy:=η (ac.below au aM);have cz:Hid (Lies ((y.alloc (.cells #[.string a.name,.slice Aa a.args.length ca] 33)).alloc (.cells #[] 33)).drew (some ⟨b,o,none⟩) (L.take (k * 2))):=η (bi.out _ (B1.trans (aM.mono B1.size)))
   have cA:Hid (∀ c ∈ bt,(Value.slice (some ⟨y.heap.size+1,0,none⟩) 0 0).ownBlock ≠ some c):=η fun c hc=>aO bl.own (κ (a1 c (a7 c (am c hc))) B1.size)
   have cB:=η bl;clear aM bl;have aR:Below y.heap.size y (y.alloc (.cells #[] 33)).drew:=(ζ).drew;have bn:=aY.empty (n:=2) (R:=aJ) (e:=33) (w:=(y.alloc (.cells #[] 33)).drew) (g:=y.heap.size) (base:=y.heap.size) (show (y.alloc (.cells #[] 33)).heap[y.heap.size]? = _ from ω _ _) (by omega);have c5:=η aR;have cD:=η (ac.below au aR);have cE:Hid (Lies (y.alloc (.cells #[] 33)).drew (some ⟨b,o,none⟩) (L.take (k * 2))):=η (bi.out _ (B1.trans (aR.mono B1.size)));have cG:Hid (∀ c ∈ bt,(Value.slice (some ⟨y.heap.size,0,none⟩) 0 0).ownBlock ≠ some c):=η fun c hc=>aO bn.own (κ (a1 c (a7 c (am c hc))) B1.size)
   have cI:=η bn;clear aR bn;have c6:Hid (∀ w',Below y.heap.size y w'→Below w.heap.size w w'):=η fun w' a8=>B1.trans (a8.mono B1.size)
   have ar:=η bf;have bo:=η bX;clear ac bf bX;have d4:w.heap.size < y.heap.size:=lt_of_cell x0;have cJ:=η (own_ne (a:=y.heap.size+1) (b:=y.heap.size) (n:=0) (c:=0) (o:=0) (by omega));have cK:=η (own_ne (a:=y.heap.size) (b:=y.heap.size+1) (n:=0) (c:=0) (o:=0) (by omega));have cL:Hid (y.heap.size+1 < ((y.alloc (.cells #[] 33)).alloc (.cells #[.string a.name,.slice Aa a.args.length ca] 33)).drew.heap.size):=η (by simp);have cP:Hid (y.heap.size < ((y.alloc (.cells #[.string a.name,.slice Aa a.args.length ca] 33)).alloc (.cells #[] 33)).drew.heap.size):=η (by simp <;> omega);have H2:=η h2;have bp:Hid (∀ c ∈ b2,c < y.heap.size):=η fun c hc=>κ (b9 c hc) B1.size
   clear aq bc am bh a7 bz bA ab ag a9 h h2 b9;by_cases hce:cap=k
   case' pos=>
    have d5:(cap=k)=True:=eq_true hce;have c7:xs.length=k:=by omega
    have bg:L.drop (k * 2) = []:=List.length_eq_zero_iff.1 (by rw [bB.out.len,bR.out,c7]; simp);replace bO:Hid (∀ w',Below w.heap.size w w'→Lies w' (some ⟨b,o,none⟩) (L.drop (k * 2))):=η (fun w' _=>by rw [bg]; exact Lies.nil w' _);have d6:=η hce;clear c7 bg hce
   all_goals
    go_wp2
    go_region_held3 (fun w'=>w'.cell? ⟨w.heap.size,0,none⟩=some (.string a.name)∧w'.cell? ⟨w.heap.size,1,none⟩=some (.slice Aa a.args.length ca)) (first | go_keep | exact ⟨q0,q1⟩ | exact ⟨r0,r1⟩ | exact ⟨s0,s1⟩) ((first
     | (refine aV ?_ (.tmp 15) (.tmp 18) _ ?_ y.heap.size 33 i0 (.agg #[.string ⟨#[]⟩,.slice none 0 0]) 2 40 Tryz.underlying24 hi a4 a5 a6 rfl (Θ 1) au (.slice (some ⟨y.heap.size,0,none⟩) 0 0) 0 [] [] [] ?_ cx.out rfl (some ⟨b,o,none⟩) k cap (L.take (k * 2)) _ _ ?_ cr.out af.out cv.out cw.out H5.out H6.out y y.heap.size c3.out ν c3.out.size ?_; rfl; rfl; rfl; rfl; intro A1 av w2 U I a2 aa; simp only [Nat.zero_add,List.nil_append] at U ⊢; have q0:=ξ I x0; have q1:=ξ I x1; have bq:Hid (w2.heap[y.heap.size+1]? = some (.cells #[.string a.name,.slice Aa a.args.length ca] 33 (0,0))):=η ((aa.block _ cL.out cJ.out).trans cp.out); clear aa; have aw:=η (aS bq.out); have az:=η (aT.dH (n:=2) (R:=aJ) eY (au.below bo.out I)); have aD:=η (fun c hc=>aO U.own (bp.out c hc)); have b1:=η U; have b5:=η I; have b6:=η a2; clear U I a2)
     | (refine aV ?_ (.tmp 15) (.tmp 18) _ ?_ y.heap.size 33 i0 (.agg #[.string ⟨#[]⟩,.slice none 0 0]) 2 40 Tryz.underlying24 hi a4 a5 a6 rfl (Θ 1) au (.slice (some ⟨y.heap.size+1,0,none⟩) 0 0) 0 [] [] [] ?_ cB.out rfl (some ⟨b,o,none⟩) k cap (L.take (k * 2)) _ _ ?_ cy.out af.out cz.out cA.out H5.out H6.out y y.heap.size c4.out ν c4.out.size ?_; rfl; rfl; rfl; rfl; intro A1 av w2 U I a2 aa; simp only [Nat.zero_add,List.nil_append] at U ⊢; have q0:=ξ I x0; have q1:=ξ I x1; have bq:Hid (w2.heap[y.heap.size]? = some (.cells #[.string a.name,.slice Aa a.args.length ca] 33 (0,0))):=η ((aa.block _ cP.out cK.out).trans cq.out); clear aa; have aw:=η (aS bq.out); have az:=η (aT.dH (n:=2) (R:=aJ) eY (au.below bo.out I)); have aD:=η (fun c hc=>aO U.own (bp.out c hc)); have b1:=η U; have b5:=η I; have b6:=η a2; clear U I a2)
     | (refine aV ?_ (.tmp 15) (.tmp 18) _ ?_ y.heap.size 33 i0 (.agg #[.string ⟨#[]⟩,.slice none 0 0]) 2 40 Tryz.underlying24 hi a4 a5 a6 rfl (Θ 1) au (.slice (some ⟨y.heap.size,0,none⟩) 0 0) 0 [] [] [] ?_ cI.out rfl (some ⟨b,o,none⟩) k cap (L.take (k * 2)) _ _ ?_ cD.out af.out cE.out cG.out H5.out H6.out y y.heap.size c5.out ν c5.out.size ?_; rfl; rfl; rfl; rfl; intro A1 av w2 U I a2 aa; simp only [Nat.zero_add,List.nil_append] at U ⊢; have q0:=ξ I x0; have q1:=ξ I x1; skip; clear aa; have ae:Below y.heap.size y (w2.alloc (.cells #[.string a.name,.slice Aa a.args.length ca] 33)):=I.alloc I.size _; have c8:=η ae; have c9:=η (U.below au ((Below.refl w2.heap.size w2).alloc ν (.cells #[.string a.name,.slice Aa a.args.length ca] 33))); have cb:=η ae.size; have aw:=η (aS (ω w2 (.cells #[.string a.name,.slice Aa a.args.length ca] 33))); have az:=η (aT.dH (n:=2) (R:=aJ) eY (au.below bo.out ae)); have aD:=η (fun c hc=>aO U.own (bp.out c hc)); clear ae; have b1:=η U; have b5:=η I; have b6:=η a2; clear U I a2)
     | (refine aV ?_ (.tmp 19) (.tmp 21) _ ?_ y.heap.size 33 i0 (.agg #[.string ⟨#[]⟩,.slice none 0 0]) 2 40 Tryz.underlying24 hi a4 a5 a6 rfl (Θ 1) au (.slice A1 k av) k _ _ _ ?_ b1.out af.out (some ⟨y.heap.size+1,0,none⟩) 1 1 _ [a] _ ?_ az.out rfl aw.out aD.out H8.out H9.out y y.heap.size b5.out ν b6.out ?_; rfl; rfl; rfl; rfl; intro A2 br w3 a0 J a3 aE; have r0:=ξ J x0; have r1:=ξ J x1; have bu:=η (ar.out.below au J); have bv:=η (fun c hc=>aO a0.own (bj.out c hc)); have bw:=η a0; have b7:=η J; have bx:=η a3; clear a0 J a3 aE)
     | (refine aV ?_ (.tmp 19) (.tmp 21) _ ?_ y.heap.size 33 i0 (.agg #[.string ⟨#[]⟩,.slice none 0 0]) 2 40 Tryz.underlying24 hi a4 a5 a6 rfl (Θ 1) au (.slice A1 k av) k _ _ _ ?_ b1.out af.out (some ⟨y.heap.size,0,none⟩) 1 1 _ [a] _ ?_ az.out rfl aw.out aD.out H8.out H9.out y y.heap.size b5.out ν b6.out ?_; rfl; rfl; rfl; rfl; intro A2 br w3 a0 J a3 aE; have r0:=ξ J x0; have r1:=ξ J x1; have bu:=η (ar.out.below au J); have bv:=η (fun c hc=>aO a0.own (bj.out c hc)); have bw:=η a0; have b7:=η J; have bx:=η a3; clear a0 J a3 aE)
     | (refine aV ?_ (.tmp 19) (.tmp 21) _ ?_ y.heap.size 33 i0 (.agg #[.string ⟨#[]⟩,.slice none 0 0]) 2 40 Tryz.underlying24 hi a4 a5 a6 rfl (Θ 1) au (.slice A1 k av) k _ _ _ ?_ c9.out af.out (some ⟨w2.heap.size,0,none⟩) 1 1 _ [a] _ ?_ az.out rfl aw.out aD.out H8.out H9.out y y.heap.size c8.out ν cb.out ?_; rfl; rfl; rfl; rfl; intro A2 br w3 a0 J a3 aE; have r0:=ξ J x0; have r1:=ξ J x1; have bu:=η (ar.out.below au J); have bv:=η (fun c hc=>aO a0.own (bj.out c hc)); have bw:=η a0; have b7:=η J; have bx:=η a3; clear a0 J a3 aE)
     | (refine aV ?_ (.tmp 22) (.tmp 25) _ ?_ y.heap.size 33 i0 (.agg #[.string ⟨#[]⟩,.slice none 0 0]) 2 40 Tryz.underlying24 hi a4 a5 a6 rfl (Θ 1) au (.slice A2 (k+1) br) (k+1) _ _ _ ?_ bw.out co.out _ (xs.length - k) (cap - k) (L.drop (k * 2)) _ _ ?_ bu.out bR.out (bO.out _ (c6.out _ b7.out)) bv.out cm.out cn.out y y.heap.size b7.out ν bx.out ?_; rfl; rfl; rfl; rfl; intro A3 d7 w4 cc b8 cQ _; have s0:=ξ b8 x0; have s1:=ξ b8 x1; have cd:=η cc; have cT:=η b8; clear cc b8 cQ)))
    all_goals
     obtain ⟨b4,ce,_⟩:=cd.out.slice;have HS:=η ce;clear ce;go_wp2;go_ret
     exact ⟨c6.out _ cT.out,_,b4,rfl,by rw [HX.out]; exact HS.out,.inr ⟨_,_,by rw [HX.out]; exact cd.out.Xh B1.size,fun c hc=>by
      rcases μ.1 hc with hc | hc
      rcases μ.1 hc with hc | hc
      ·exact μ.2 (.inl (ci.out c hc))
      ·exact μ.2 (.inr hc)
      ·exact μ.2 (.inl (cj.out c hc))⟩⟩
 ·rw [hh] at hk
  have HX:Hid (eF xs a=xs):=η (by rw [HD.out,hh]; rfl);clear hh HD
  go_enter Tryz.func49,Tryz.ntmps49
  go_wp2_with fail
  refine hk.mono ?_;rintro e y ⟨rfl,ao⟩;have B1:=hA.trans (ao.mono hA.size);have HR:=η (ak.below h B1);clear hk h h2;go_wp2;go_ret;exact ⟨B1,_,bs,rfl,by rw [HX.out]; exact HR.out,.inl ⟨rfl,HX.out⟩⟩
theorem vg (xs:List A) (a:A) (v y I:Value) (bs J:List Nat) (w:World) (h:aB w [v] xs bs) (U:aJ w [y,I] a J) (hs:fU xs=true) (hn:xs.length≤16777216):
 Calls Tryz.prog 49 #[v,.agg #[y,I]] w (Il (bs ++ J) xs (eF xs a) v w.heap.size w):=zI xs a v y I bs J w h U hs (by omega)
theorem Q9 (xs:List A) (a:A) (v y I:Value) (bs U:List Nat) (w:World) (h:aB w [v] xs bs) (J:aJ w [y,I] a U) (hs:fU xs=true) (hn:xs.length≤16777216):
  Calls Tryz.prog 49 #[v,.agg #[y,I]] w (Reads aB (eF xs a) w.heap.size w):=
 (vg xs a v y I bs U w h J hs hn).mono fun e w' ⟨h1,v',bs',J,h3,_⟩=>⟨h1,v',bs',J,h3⟩
end Go.Proofs.YtkjinanbccloeaaGreatDoor
