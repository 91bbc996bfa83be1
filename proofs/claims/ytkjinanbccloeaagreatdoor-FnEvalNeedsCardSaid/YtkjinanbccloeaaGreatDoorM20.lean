/- Of the proof of FnEvalNeeds: WoS, L3P. -/
import Derived.Test.YtkjinanbccloeaaGreatDoorM15
import Derived.Test.YtkjinanbccloeaaGreatDoorM16
set_option linter.unusedVariables false
set_option maxHeartbeats 4000000
set_option maxRecDepth 100000
namespace Go.Proofs.YtkjinanbccloeaaGreatDoor
open Go.RowKit D
attribute [local go_sem ↓] Go.wp_at_zero Go.wp_at_succ
theorem E5:(Tryz.prog.info? 234).map (fun i=>(i.zero,i.size,i.bytes))=some (some (.agg #[.slice none 0 0,.slice none 0 0]),2,48):=by kernel_rfl
theorem D.uM:zl 2 iR:=fun h=>by
 obtain ⟨s,v,I,J,rfl,_,h1,y⟩:=h;obtain ⟨U,p1,rfl,_⟩:=ak h1;obtain ⟨A2,p2,rfl,_⟩:=ak y;simp [Value.oneCell']
theorem D.wJ {w:World} {Ad:Option Addr} {len cap k:Nat} {xs:List Bd} {bs:List Nat} (h:qQ w [.slice Ad len cap] xs bs) (hk:k < xs.length):
  ∃ b o J p1 U p2 bk,Ad=some ⟨b,o,none⟩∧b ∈ bs∧w.cell? ⟨b,o+k * 2,none⟩=some (.slice J xs[k].length p1)∧w.cell? ⟨b,o+k * 2+1,none⟩=some (.slice U xs[k].length p2)∧iR w [.slice J xs[k].length p1,.slice U xs[k].length p2] xs[k] bk∧∀ c ∈ bk,c ∈ bs:=by
 obtain ⟨b,o,cs,bk,rfl,hb,a0,y,hR,I⟩:=iP h hk;obtain ⟨J,p1,U,p2,rfl⟩:=kX hR;exact ⟨b,o,J,p1,U,p2,bk,rfl,hb,by simpa using y 0 _ rfl,by simpa [Nat.add_assoc] using y 1 _ rfl,hR,I⟩
theorem D.MI (list:List A) (body:List Pt) (b:Bd) (k:Nat) (h:k < body.length):iD list (body.take (k+1)) b=(iD list (body.take k) b && (!body[k].no || !hasB list (bU body[k].atom b))):=by
 unfold iD;rw [ρ h,List.all_append];simp
theorem D9 (list:List A) (body:List Pt) (all:List Bd) (v0 v1 v2:Value) (bl bb ba:List Nat) (w:World) (hl:aV w [v0] list bl) (hb:gU w [v1] body bb) (h:qQ w [v2] all ba)
  (af:gB list=true) (hn:all.length≤10000000000) (ag:∀ p ∈ body,p.atom.args.length≤1000000):
  Calls Tryz.prog 224 #[v0,v1,v2] w fun e w'=>Below w.heap.size w w'∧∃ v bs,e=.returned v∧qQ w' [v] (all.filter (iD list body)) bs:=by
 obtain ⟨Al,pl,rfl,aR,b1⟩:=ak hl;obtain ⟨Ab,pb,rfl,b3,am⟩:=ak hb;obtain ⟨Aa,pa,rfl,b4,ap⟩:=ak h;obtain ⟨i0,hi,b6,b7,b8⟩:=info_parts E5;have bt:=aA (τ b3 am);have br:=aA (τ b4 ap);have HL:=η hl;have HB:=η hb;have HA:=η h;have b9:=η ag;clear hl hb h aR b1 am ap ag;have aq:Below w.heap.size w (w.alloc (.cells #[] 234)):=ζ;have hE:aW 2 iR w.heap.size 234 (w.alloc (.cells #[] 234)) (.slice (some ⟨w.heap.size,0,none⟩) 0 0) [] [] []:=aW.empty (ω w _) ν
 go_enter Tryz.func224,Tryz.ntmps224
 go_wp2_with fail
 generalize w.alloc (.cells #[] 234)=w0 at *
 go_loopw [7,8,9,10] (fun o i _ _ wr=>∃ (k:Nat) (Am:Option Addr) (cm:Nat) (L:List Value) (bs:List Nat),k≤all.length∧i=.int .i64 k∧o=.slice Am ((all.take k).filter (iD list body)).length cm∧Hid (aW 2 iR w.heap.size 234 wr (.slice Am ((all.take k).filter (iD list body)).length cm) L ((all.take k).filter (iD list body)) bs)∧Hid (Below w.heap.size w wr)) (fun _ i _ _ _=>all.length - (intOf i).toNat)
 case atStart=>exact ⟨0,_,_,_,_,ε,rfl,rfl,η hE,η aq⟩
 case round=>
  obtain ⟨k,Am,cm,L,bs,hk,rfl,rfl,hC,a5⟩:=hrel;clear hE aq;by_cases a3:k < all.length
  ·have bu:(0:Int)≤(k:Int):=by omega
   have bc:(k:Int) < (all.length:Int):=by omega
   have a6:Hid ((all.take (k+1)).filter (iD list body)=(all.take k).filter (iD list body) ++ (if iD list body all[k] then [all[k]] else [])):=η (by
    rw [ρ a3,List.filter_append]
    congr 1
    by_cases hf:iD list body all[k]=true
    ·simp [List.filter,hf]
    ·simp [List.filter,hf])
   have aa:Hid (((all.take k).filter (iD list body)).length≤k):=η (τ (List.length_filter_le _ _) (by simp; omega));generalize hys:(all.take k).filter (iD list body)=ys at *;generalize hb0:all[k]=b0 at *;clear hys;generalize wr=wo at *
   go_wp2_with fail
   go_loopw [9,10] (fun ok i wr=>∃ (j:Nat),j≤body.length∧i=.int .i64 j∧ok=.bool (iD list (body.take j) b0)∧Hid (Below wo.heap.size wo wr)) (fun _ i _=>body.length - (intOf i).toNat)
   case atStart=>exact ⟨0,ε,rfl,rfl,η ϑ⟩
   case round=>
    obtain ⟨j,hj,rfl,rfl,J⟩:=hrel;have y:=a5.out.trans (J.out.mono a5.out.size);by_cases U:j < body.length
    ·obtain ⟨ac,po,Ae,ce,bk,rfl,_,e0,e1,e2,a7,_⟩:=gV (dh.below HB.out y) U
     obtain ⟨ae,ao,A1,p1,A2,p2,bq,rfl,_,d0,d1,I,_⟩:=wJ (lF.below HA.out y) a3;rw [hb0] at d0 d1 I;have bv:(0:Int)≤(j:Int):=by omega
     have bf:(j:Int) < (body.length:Int):=by omega
     have a1:=η (MI list body b0 j U);have bw:=η U;have bg:=η (b9.out _ (δ U));generalize body[j]=p at *;obtain ⟨bh,px⟩:=p;dsimp only at *
     cases hfb:iD list (body.take j) b0 with
     | false=>
      have HZ:Hid (iD list (body.take (j+1)) b0=false):=η (by rw [a1.out,hfb]; rfl);clear a1 hfb e0 e1 e2 a7 d0 d1 I
      go_wp2_with fail
      go_quiet (fail)
      go_wp2;go_roundw
      case rel=>exact ⟨j+1,U,by go_num,by rw [HZ.out],η (below_drewN J.out _)⟩
      case measure=>simp [intOf]; omega
     | true=>
      cases bh with
      | false=>
       have HZ:Hid (iD list (body.take (j+1)) b0=true):=η (by rw [a1.out,hfb]; rfl);clear a1 hfb e1 e2 a7 d0 d1 I
       go_wp2_with fail
       go_quiet (fail)
       go_wp2;go_roundw
       case rel=>exact ⟨j+1,U,by go_num,by rw [HZ.out],η (below_drewN J.out _)⟩
       case measure=>simp [intOf]; omega
      | true=>
       have HZ:Hid (iD list (body.take (j+1)) b0 = !hasB list (bU px b0)):=η (by rw [a1.out,hfb]; simp)
       have ar:aI wr [.string px.name,.slice Ae px.args.length ce] px bk:=by
        obtain ⟨t,av,h1,h2⟩:=a7;simp only [List.cons.injEq,true_and,and_true] at av;subst av;exact ⟨_,rfl,h1,h2⟩
       have hD:Below wr.heap.size wr wr.drew:=Below.drew ϑ;have q1:=fun w' (hb:Below wr.heap.size wr w')=>Jo px b0 _ _ _ _ bk bq w' (aj.below ar hb) (bW.below I hb) bg.out
       have q2:=fun w' (hb:Below wr.heap.size wr w') d0 d1 b5 (h5:aI w' [d0,d1] (bU px b0) b5)=>OH list (bU px b0) _ d0 d1 bl b5 w' (au.below HL.out (y.trans (hb.mono y.size))) h5 af
       have Q1:=η q1;have Q2:=η q2;clear a1 hfb a7 I q1 q2 ar
       go_wp2_with fail
       go_region_held3 (fun w'=>w'.cell? ⟨ac,po+j * 3,none⟩=some (.bool true)∧w'.cell? ⟨ac,po+j * 3+1,none⟩=some (.string px.name)∧w'.cell? ⟨ac,po+j * 3+2,none⟩=some (.slice Ae px.args.length ce)∧w'.cell? ⟨ae,ao+k * 2,none⟩=some (.slice A1 b0.length p1)∧w'.cell? ⟨ae,ao+k * 2+1,none⟩=some (.slice A2 b0.length p2))
        (first | go_keep | exact hq | exact aw)
        (first
         | (go_at_call 172; refine (Q1.out _ hD).mono ?_; rintro e w5 ⟨az,g0,g1,b5,rfl,h5,_⟩; have B5:=hD.trans (az.mono hD.size); have hq:=ι (ξ B5 e0) (ι (ξ B5 e1) (ι (ξ B5 e2) (ι (ξ B5 d0) (ξ B5 d1)))))
         | (go_at_call 141; refine (Q2.out _ B5 _ _ _ h5).mono ?_; rintro e w6 ⟨rfl,aD⟩; have B6:=B5.trans (aD.mono B5.size); have aw:=ι (ξ B6 e0) (ι (ξ B6 e1) (ι (ξ B6 e2) (ι (ξ B6 d0) (ξ B6 d1))))))
       have bi:=η (J.out.trans (B6.mono J.out.size));clear Q1 Q2 hq aw h5 az aD B5 B6 e0 e1 e2 d0 d1;go_wp2;go_roundw
       case rel=>exact ⟨j+1,U,by go_num,by rw [HZ.out],bi⟩
       case measure=>simp [intOf]; omega
    ·have he:j=body.length:=by omega
     have bf:¬ (j:Int) < (body.length:Int):=by omega
     have a8:Hid (iD list (body.take j) b0=iD list body b0):=η (by rw [he,ϕ ν]);have a9:=η (hC.out.below bW J.out);have a0:=η y;clear he hj
     cases hfb:iD list (body.take j) b0 with
     | false=>
      have HE:Hid ((all.take (k+1)).filter (iD list body)=ys):=η (by rw [a6.out,← a8.out,hfb]; simp);clear hfb a6 a8;go_wp2;go_roundw
      case rel=>exact ⟨k+1,Am,cm,L,bs,a3,by go_num,by rw [HE.out],by rw [HE.out]; exact a9,a0⟩
      case measure=>simp [intOf]; omega
     | true=>
      have HE:Hid ((all.take (k+1)).filter (iD list body)=ys ++ [b0]):=η (by rw [a6.out,← a8.out,hfb]; simp);obtain ⟨ae,ao,A1,p1,A2,p2,bq,rfl,_,d0,d1,I,aE⟩:=wJ (lF.below HA.out y) a3;rw [hb0] at d0 d1 I;clear hfb a6 a8;have a4:Below wr.heap.size wr (wr.alloc (.cells #[.slice A1 b0.length p1,.slice A2 b0.length p2] 234)):=ζ
      have ab:∀ c ∈ bq,(Value.slice Am ys.length cm).ownBlock ≠ some c:=fun c hc e=>by
       have h1:=(iY a9.out.own c e).1;have h2:=lF.lt HA.out c (aE c hc);omega
      have a2:Hid (aW 2 iR w.heap.size 234 (wr.alloc (.cells #[.slice A1 b0.length p1,.slice A2 b0.length p2] 234)) (.slice Am ys.length cm) L ys bs∧aQ 2 iR (wr.alloc (.cells #[.slice A1 b0.length p1,.slice A2 b0.length p2] 234)) [.slice A1 b0.length p1,.slice A2 b0.length p2] [b0] bq∧Lies (wr.alloc (.cells #[.slice A1 b0.length p1,.slice A2 b0.length p2] 234)) (some ⟨wr.heap.size,0,none⟩) [.slice A1 b0.length p1,.slice A2 b0.length p2]∧Below w.heap.size w (wr.alloc (.cells #[.slice A1 b0.length p1,.slice A2 b0.length p2] 234))∧w.heap.size≤(wr.alloc (.cells #[.slice A1 b0.length p1,.slice A2 b0.length p2] 234)).heap.size∧∀ c ∈ bq,(Value.slice Am ys.length cm).ownBlock ≠ some c):=
       η ⟨a9.out.below bW a4,aQ.cu uM (bW.below I a4),aP (ω wr _),a0.out.trans (a4.mono a0.out.size),τ a0.out.size a4.size,ab⟩
      have bj:Hid (ys.length+1≤maxLen):=η (by have:=aa.out; unfold maxLen; omega);have bn:Hid ((ys.length+1) * 48≤140737488355328):=η (by have:=aa.out; omega);clear a4 ab I hC a5 y J a9
      go_wp2_with (at_builtin; refine bJ rfl _ _ _ rfl w.heap.size 234 i0 (.agg #[.slice none 0 0,.slice none 0 0]) 2 48 Tryz.underlying230 hi b6 b7 b8 rfl (Θ 1) bW (.slice Am ys.length cm) ys.length L _ bs rfl a2.out.1 rfl (some ⟨wr.heap.size,0,none⟩) 1 1 _ [b0] bq rfl a2.out.2.1 rfl a2.out.2.2.1 a2.out.2.2.2.2.2 bj.out bn.out w w.heap.size a2.out.2.2.2.1 ν a2.out.2.2.2.2.1 ?_; intro A4 c4 w4 aL aM bo bp; have HZ:=η (ι aL aM); clear aL aM bo bp)
      go_roundw
      case rel=>exact ⟨k+1,A4,c4,_,_,a3,by go_num,by rw [HE.out,χ]; rfl,by rw [HE.out,χ]; exact η HZ.out.1,η HZ.out.2⟩
      case measure=>simp [intOf]; omega
  ·have he:k=all.length:=by omega
   have bc:¬ (k:Int) < (all.length:Int):=by omega
   have HR:Hid (∃ b2,qQ wr [.slice Am ((all.take k).filter (iD list body)).length cm] (all.filter (iD list body)) b2):=η (by
    obtain ⟨b2,h2,_⟩:=hC.out.slice;rw [he,ϕ ν] at h2;rw [he,ϕ ν]
    exact ⟨b2,h2⟩)
   clear hC he hk;go_wp2;go_ret;exact ⟨a5.out,_,rfl,HR.out⟩
theorem x9 (xs:List A) (a:A) (v d0 d1:Value) (bs b2:List Nat) (w:World) (h:aV w [v] xs bs) (h2:aI w [d0,d1] a b2) (hs:gB xs=true) (hn:xs.length≤100000000000):
  Calls Tryz.prog 49 #[v,.agg #[d0,d1]] w (Gv (bs ++ b2) xs (dP xs a) v w.heap.size w):=by
 obtain ⟨Ad,cap,rfl,hl,hm⟩:=ak h;obtain ⟨Aa,ca,rfl,rfl⟩:=bI h2;obtain ⟨i0,hi,a4,a5,a6⟩:=info_parts sF;have cQ:=aA hm;have hA:Below w.heap.size w (w.alloc (.cells #[.string a.name,.slice Aa a.args.length ca] 33)):=ζ;have hk:=vM xs a _ _ _ bs b2 _ (au.below h hA) (aj.below h2 hA) hs;have HD:Hid (dP xs a=if hasB xs a then xs else xs.take (pl xs a) ++ a :: xs.drop (pl xs a)):=η rfl;cases hh:hasB xs a
 ·rw [hh] at hk
  have HX:Hid (dP xs a=xs.take (pl xs a) ++ [a] ++ xs.drop (pl xs a)):=η (by rw [HD.out,hh]; simp);have cT:pl xs a≤xs.length:=(oH hs a).2.2;clear hh HD;obtain ⟨L,b3,ab,a7,ag⟩:=pq dZ (by omega) h;obtain ⟨bt,bx,am⟩:=ab.take (k:=pl xs a) (by omega);obtain ⟨bd,bz,bg⟩:=ab.drop (k:=pl xs a) (by omega);have a1:=au.lt h;have b8:=aj.lt h2;generalize pl xs a=k at *;have cd:=η bx;have ce:Hid (∀ c ∈ bt,c ∈ bs):=η (fun c hc=>a7 c (am c hc));have cg:Hid (∀ c ∈ bd,c ∈ bs):=η (fun c hc=>a7 c (bg c hc));have bA:=η bz;have cU:Hid (∀ w',Below w.heap.size w w'→Lies w' Ad L):=η fun w' a8=>Ip ab (by omega) ag a1 a8
  by_cases bB:xs = []
  ·subst bB
   have hx:=η (OT a _ _ _ bs b2 w h h2 hs);exact hx.out
  ·obtain ⟨b,o,rfl,ci,a9⟩:=ag bB
   have bE:=a1 b ci
   go_enter Tryz.func49,Tryz.ntmps49
   go_wp2_with fail
   refine hk.mono ?_;rintro e y ⟨rfl,ao⟩;have B1:=hA.trans (ao.mono hA.size);have x0:y.cell? ⟨w.heap.size,0,none⟩=some (.string a.name):=ξ ao (by go_simp);have x1:y.cell? ⟨w.heap.size,1,none⟩=some (.slice Aa a.args.length ca):=ξ ao (by go_simp);clear hk;have cV:(0:Int)≤(k:Int):=by omega
   have cW:(k:Int)≤(xs.length:Int):=by omega
   have cX:(k:Int)≤(cap:Int):=by omega
   have cY:(xs.length:Int)≤(cap:Int):=by omega
   have ap:(xs.take k).length=k:=by rw [List.length_take]; omega
   have b9:(xs.drop k).length=xs.length - k:=List.length_drop
   have bh:Hid (∀ w',Below w.heap.size w w'→Lies w' (some ⟨b,o,none⟩) (L.take (k * 2))):=η fun w' a8=>Lies.mk fun j u hj=>(a8.cell (p:=⟨b,o+j,none⟩) bE).trans (a9 j u (by
    have cj:=(List.getElem?_eq_some_iff.1 hj).1
    rw [List.getElem?_take_of_lt (by simp at cj; omega)] at hj; exact hj))
   have bL:Hid (∀ w',Below w.heap.size w w'→Lies w' (some ⟨b,o+k * 2,none⟩) (L.drop (k * 2))):=η fun w' a8=>Lies.mk fun j u hj=>(a8.cell (p:=⟨b,o+k * 2+j,none⟩) bE).trans (by rw [Nat.add_assoc]; exact a9 _ u (by rw [List.getElem?_drop] at hj; exact hj))
   have H5:Hid (0+k≤maxLen):=η (by unfold maxLen; omega);have H6:Hid ((0+k) * 40≤140737488355328):=η (by omega);have H8:Hid (k+1≤maxLen):=η (by unfold maxLen; omega);have H9:Hid ((k+1) * 40≤140737488355328):=η (by omega);have ck:Hid (k+1+(xs.length - k)≤maxLen):=η (by unfold maxLen; omega);have cl:Hid ((k+1+(xs.length - k)) * 40≤140737488355328):=η (by omega);have af:=η ap;have bO:=η b9;have cm:Hid ((xs.take k ++ [a]).length=k+1):=η (by rw [χ,ap]; rfl);have bi:Hid (∀ c ∈ bd,c < y.heap.size):=η fun c hc=>κ (a1 c (a7 c (bg c hc))) B1.size
   have cn:Hid (((y.alloc (.cells #[] 33)).alloc (.cells #[.string a.name,.slice Aa a.args.length ca] 33)).heap[y.heap.size+1]? = some (.cells #[.string a.name,.slice Aa a.args.length ca] 33 (0,0))):=η (by have:=ω (y.alloc (.cells #[] 33)) (.cells #[.string a.name,.slice Aa a.args.length ca] 33); rw [World.size_alloc] at this; exact this);have co:Hid (((y.alloc (.cells #[.string a.name,.slice Aa a.args.length ca] 33)).alloc (.cells #[] 33)).heap[y.heap.size]? = some (.cells #[.string a.name,.slice Aa a.args.length ca] 33 (0,0))):=η (by rw [Below.heap_alloc _ _ _ (by simp)]; exact ω _ _);have ac:=cd.out.below aj B1;have bc:=bA.out.below aj B1;have bR:=aj.below h2 B1;have aE:Below y.heap.size y ((y.alloc (.cells #[] 33)).alloc (.cells #[.string a.name,.slice Aa a.args.length ca] 33)).drew:=((ζ).alloc (by simp) _).drew
   have bj:=aW.empty (n:=2) (R:=aI) (e:=33) (w:=((y.alloc (.cells #[] 33)).alloc (.cells #[.string a.name,.slice Aa a.args.length ca] 33)).drew) (g:=y.heap.size) (base:=y.heap.size) (show ((y.alloc (.cells #[] 33)).alloc (.cells #[.string a.name,.slice Aa a.args.length ca] 33)).heap[y.heap.size]? = _ by rw [Below.heap_alloc _ _ _ (by simp)]; exact ω _ _) (by omega);have bX:=η aE;have cp:=η (ac.below aj aE);have cq:Hid (Lies ((y.alloc (.cells #[] 33)).alloc (.cells #[.string a.name,.slice Aa a.args.length ca] 33)).drew (some ⟨b,o,none⟩) (L.take (k * 2))):=η (bh.out _ (B1.trans (aE.mono B1.size)));have cr:Hid (∀ c ∈ bt,(Value.slice (some ⟨y.heap.size,0,none⟩) 0 0).ownBlock ≠ some c):=η fun c hc=>aO bj.own (κ (a1 c (a7 c (am c hc))) B1.size)
   have cv:=η bj;clear aE bj;have aL:Below y.heap.size y ((y.alloc (.cells #[.string a.name,.slice Aa a.args.length ca] 33)).alloc (.cells #[] 33)).drew:=((ζ).alloc (by simp) _).drew;have bk:=aW.empty (n:=2) (R:=aI) (e:=33) (w:=((y.alloc (.cells #[.string a.name,.slice Aa a.args.length ca] 33)).alloc (.cells #[] 33)).drew) (g:=y.heap.size+1) (base:=y.heap.size) (show ((y.alloc (.cells #[.string a.name,.slice Aa a.args.length ca] 33)).alloc (.cells #[] 33)).heap[y.heap.size+1]? = _ by have:=ω (y.alloc (.cells #[.string a.name,.slice Aa a.args.length ca] 33)) (.cells #[] 33); rw [World.size_alloc] at this; exact this) (by omega);have c0:=η aL;have cw:=η (ac.below aj aL);have cx:Hid (Lies ((y.alloc (.cells #[.string a.name,.slice Aa a.args.length ca] 33)).alloc (.cells #[] 33)).drew (some ⟨b,o,none⟩) (L.take (k * 2))):=η (bh.out _ (B1.trans (aL.mono B1.size)))
   have cy:Hid (∀ c ∈ bt,(Value.slice (some ⟨y.heap.size+1,0,none⟩) 0 0).ownBlock ≠ some c):=η fun c hc=>aO bk.own (κ (a1 c (a7 c (am c hc))) B1.size)
   have cz:=η bk;clear aL bk;have aM:Below y.heap.size y (y.alloc (.cells #[] 33)).drew:=(ζ).drew;have bl:=aW.empty (n:=2) (R:=aI) (e:=33) (w:=(y.alloc (.cells #[] 33)).drew) (g:=y.heap.size) (base:=y.heap.size) (show (y.alloc (.cells #[] 33)).heap[y.heap.size]? = _ from ω _ _) (by omega);have c3:=η aM;have cA:=η (ac.below aj aM);have cB:Hid (Lies (y.alloc (.cells #[] 33)).drew (some ⟨b,o,none⟩) (L.take (k * 2))):=η (bh.out _ (B1.trans (aM.mono B1.size)));have cD:Hid (∀ c ∈ bt,(Value.slice (some ⟨y.heap.size,0,none⟩) 0 0).ownBlock ≠ some c):=η fun c hc=>aO bl.own (κ (a1 c (a7 c (am c hc))) B1.size)
   have cE:=η bl;clear aM bl;have c4:Hid (∀ w',Below y.heap.size y w'→Below w.heap.size w w'):=η fun w' a8=>B1.trans (a8.mono B1.size)
   have aq:=η bc;have bn:=η bR;clear ac bc bR;have d2:w.heap.size < y.heap.size:=lt_of_cell x0;have cG:=η (own_ne (a:=y.heap.size+1) (b:=y.heap.size) (n:=0) (c:=0) (o:=0) (by omega));have cI:=η (own_ne (a:=y.heap.size) (b:=y.heap.size+1) (n:=0) (c:=0) (o:=0) (by omega));have cJ:Hid (y.heap.size+1 < ((y.alloc (.cells #[] 33)).alloc (.cells #[.string a.name,.slice Aa a.args.length ca] 33)).drew.heap.size):=η (by simp);have cK:Hid (y.heap.size < ((y.alloc (.cells #[.string a.name,.slice Aa a.args.length ca] 33)).alloc (.cells #[] 33)).drew.heap.size):=η (by simp <;> omega);have H2:=η h2;have bo:Hid (∀ c ∈ b2,c < y.heap.size):=η fun c hc=>κ (b8 c hc) B1.size
   clear ap b9 am bg a7 bx bz ab ag a9 h h2 b8;by_cases hce:cap=k
   case' pos=>
    have d3:(cap=k)=True:=eq_true hce;have c5:xs.length=k:=by omega
    have bf:L.drop (k * 2) = []:=List.length_eq_zero_iff.1 (by rw [bA.out.len,bO.out,c5]; simp);replace bL:Hid (∀ w',Below w.heap.size w w'→Lies w' (some ⟨b,o,none⟩) (L.drop (k * 2))):=η (fun w' _=>by rw [bf]; exact Lies.nil w' _);have d4:=η hce;clear c5 bf hce
   all_goals
    go_wp2
    go_region_held3 (fun w'=>w'.cell? ⟨w.heap.size,0,none⟩=some (.string a.name)∧w'.cell? ⟨w.heap.size,1,none⟩=some (.slice Aa a.args.length ca)) (first | go_keep | exact ⟨q0,q1⟩ | exact ⟨r0,r1⟩ | exact ⟨s0,s1⟩) ((first
     | (refine aS ?_ (.tmp 15) (.tmp 18) _ ?_ y.heap.size 33 i0 (.agg #[.string ⟨#[]⟩,.slice none 0 0]) 2 40 Tryz.underlying24 hi a4 a5 a6 rfl (Θ 1) aj (.slice (some ⟨y.heap.size,0,none⟩) 0 0) 0 [] [] [] ?_ cv.out rfl (some ⟨b,o,none⟩) k cap (L.take (k * 2)) _ _ ?_ cp.out af.out cq.out cr.out H5.out H6.out y y.heap.size bX.out ν bX.out.size ?_; rfl; rfl; rfl; rfl; intro A1 ar w2 U I a2 aa; simp only [Nat.zero_add,List.nil_append] at U ⊢; have q0:=ξ I x0; have q1:=ξ I x1; have bp:Hid (w2.heap[y.heap.size+1]? = some (.cells #[.string a.name,.slice Aa a.args.length ca] 33 (0,0))):=η ((aa.block _ cJ.out cG.out).trans cn.out); clear aa; have av:=η (aP bp.out); have aw:=η (aQ.cu (n:=2) (R:=aI) dZ (aj.below bn.out I)); have az:=η (fun c hc=>aO U.own (bo.out c hc)); have aR:=η U; have b1:=η I; have b5:=η a2; clear U I a2)
     | (refine aS ?_ (.tmp 15) (.tmp 18) _ ?_ y.heap.size 33 i0 (.agg #[.string ⟨#[]⟩,.slice none 0 0]) 2 40 Tryz.underlying24 hi a4 a5 a6 rfl (Θ 1) aj (.slice (some ⟨y.heap.size+1,0,none⟩) 0 0) 0 [] [] [] ?_ cz.out rfl (some ⟨b,o,none⟩) k cap (L.take (k * 2)) _ _ ?_ cw.out af.out cx.out cy.out H5.out H6.out y y.heap.size c0.out ν c0.out.size ?_; rfl; rfl; rfl; rfl; intro A1 ar w2 U I a2 aa; simp only [Nat.zero_add,List.nil_append] at U ⊢; have q0:=ξ I x0; have q1:=ξ I x1; have bp:Hid (w2.heap[y.heap.size]? = some (.cells #[.string a.name,.slice Aa a.args.length ca] 33 (0,0))):=η ((aa.block _ cK.out cI.out).trans co.out); clear aa; have av:=η (aP bp.out); have aw:=η (aQ.cu (n:=2) (R:=aI) dZ (aj.below bn.out I)); have az:=η (fun c hc=>aO U.own (bo.out c hc)); have aR:=η U; have b1:=η I; have b5:=η a2; clear U I a2)
     | (refine aS ?_ (.tmp 15) (.tmp 18) _ ?_ y.heap.size 33 i0 (.agg #[.string ⟨#[]⟩,.slice none 0 0]) 2 40 Tryz.underlying24 hi a4 a5 a6 rfl (Θ 1) aj (.slice (some ⟨y.heap.size,0,none⟩) 0 0) 0 [] [] [] ?_ cE.out rfl (some ⟨b,o,none⟩) k cap (L.take (k * 2)) _ _ ?_ cA.out af.out cB.out cD.out H5.out H6.out y y.heap.size c3.out ν c3.out.size ?_; rfl; rfl; rfl; rfl; intro A1 ar w2 U I a2 aa; simp only [Nat.zero_add,List.nil_append] at U ⊢; have q0:=ξ I x0; have q1:=ξ I x1; skip; clear aa; have ae:Below y.heap.size y (w2.alloc (.cells #[.string a.name,.slice Aa a.args.length ca] 33)):=I.alloc I.size _; have c6:=η ae; have c7:=η (U.below aj ((Below.refl w2.heap.size w2).alloc ν (.cells #[.string a.name,.slice Aa a.args.length ca] 33))); have c8:=η ae.size; have av:=η (aP (ω w2 (.cells #[.string a.name,.slice Aa a.args.length ca] 33))); have aw:=η (aQ.cu (n:=2) (R:=aI) dZ (aj.below bn.out ae)); have az:=η (fun c hc=>aO U.own (bo.out c hc)); clear ae; have aR:=η U; have b1:=η I; have b5:=η a2; clear U I a2)
     | (refine aS ?_ (.tmp 19) (.tmp 21) _ ?_ y.heap.size 33 i0 (.agg #[.string ⟨#[]⟩,.slice none 0 0]) 2 40 Tryz.underlying24 hi a4 a5 a6 rfl (Θ 1) aj (.slice A1 k ar) k _ _ _ ?_ aR.out af.out (some ⟨y.heap.size+1,0,none⟩) 1 1 _ [a] _ ?_ aw.out rfl av.out az.out H8.out H9.out y y.heap.size b1.out ν b5.out ?_; rfl; rfl; rfl; rfl; intro A2 bq w3 a0 J a3 aD; have r0:=ξ J x0; have r1:=ξ J x1; have br:=η (aq.out.below aj J); have bu:=η (fun c hc=>aO a0.own (bi.out c hc)); have bv:=η a0; have b6:=η J; have bw:=η a3; clear a0 J a3 aD)
     | (refine aS ?_ (.tmp 19) (.tmp 21) _ ?_ y.heap.size 33 i0 (.agg #[.string ⟨#[]⟩,.slice none 0 0]) 2 40 Tryz.underlying24 hi a4 a5 a6 rfl (Θ 1) aj (.slice A1 k ar) k _ _ _ ?_ aR.out af.out (some ⟨y.heap.size,0,none⟩) 1 1 _ [a] _ ?_ aw.out rfl av.out az.out H8.out H9.out y y.heap.size b1.out ν b5.out ?_; rfl; rfl; rfl; rfl; intro A2 bq w3 a0 J a3 aD; have r0:=ξ J x0; have r1:=ξ J x1; have br:=η (aq.out.below aj J); have bu:=η (fun c hc=>aO a0.own (bi.out c hc)); have bv:=η a0; have b6:=η J; have bw:=η a3; clear a0 J a3 aD)
     | (refine aS ?_ (.tmp 19) (.tmp 21) _ ?_ y.heap.size 33 i0 (.agg #[.string ⟨#[]⟩,.slice none 0 0]) 2 40 Tryz.underlying24 hi a4 a5 a6 rfl (Θ 1) aj (.slice A1 k ar) k _ _ _ ?_ c7.out af.out (some ⟨w2.heap.size,0,none⟩) 1 1 _ [a] _ ?_ aw.out rfl av.out az.out H8.out H9.out y y.heap.size c6.out ν c8.out ?_; rfl; rfl; rfl; rfl; intro A2 bq w3 a0 J a3 aD; have r0:=ξ J x0; have r1:=ξ J x1; have br:=η (aq.out.below aj J); have bu:=η (fun c hc=>aO a0.own (bi.out c hc)); have bv:=η a0; have b6:=η J; have bw:=η a3; clear a0 J a3 aD)
     | (refine aS ?_ (.tmp 22) (.tmp 25) _ ?_ y.heap.size 33 i0 (.agg #[.string ⟨#[]⟩,.slice none 0 0]) 2 40 Tryz.underlying24 hi a4 a5 a6 rfl (Θ 1) aj (.slice A2 (k+1) bq) (k+1) _ _ _ ?_ bv.out cm.out _ (xs.length - k) (cap - k) (L.drop (k * 2)) _ _ ?_ br.out bO.out (bL.out _ (c4.out _ b6.out)) bu.out ck.out cl.out y y.heap.size b6.out ν bw.out ?_; rfl; rfl; rfl; rfl; intro A3 d5 w4 c9 b7 cL _; have s0:=ξ b7 x0; have s1:=ξ b7 x1; have cb:=η c9; have cP:=η b7; clear c9 b7 cL)))
    all_goals
     obtain ⟨b4,cc,_⟩:=cb.out.slice;have HS:=η cc;clear cc;go_wp2;go_ret
     exact ⟨c4.out _ cP.out,_,b4,rfl,by rw [HX.out]; exact HS.out,.inr ⟨_,_,by rw [HX.out]; exact cb.out.Vh B1.size,fun c hc=>by
      rcases μ.1 hc with hc | hc
      rcases μ.1 hc with hc | hc
      ·exact μ.2 (.inl (ce.out c hc))
      ·exact μ.2 (.inr hc)
      ·exact μ.2 (.inl (cg.out c hc))⟩⟩
 ·rw [hh] at hk
  have HX:Hid (dP xs a=xs):=η (by rw [HD.out,hh]; rfl);clear hh HD
  go_enter Tryz.func49,Tryz.ntmps49
  go_wp2_with fail
  refine hk.mono ?_;rintro e y ⟨rfl,ao⟩;have B1:=hA.trans (ao.mono hA.size);have HR:=η (au.below h B1);clear hk h h2;go_wp2;go_ret;exact ⟨B1,_,bs,rfl,by rw [HX.out]; exact HR.out,.inl ⟨rfl,HX.out⟩⟩
theorem sN (xs:List A) (a:A) (v y I:Value) (bs J:List Nat) (w:World) (h:aV w [v] xs bs) (U:aI w [y,I] a J) (hs:gB xs=true) (hn:xs.length≤16777216):
 Calls Tryz.prog 49 #[v,.agg #[y,I]] w (Gv (bs ++ J) xs (dP xs a) v w.heap.size w):=x9 xs a v y I bs J w h U hs (by omega)
end Go.Proofs.YtkjinanbccloeaaGreatDoor
