/- Of the proof of FnExactProofOk: L3P, LevS. -/
import Derived.Test.YtlmngncogomgeaaGreatDoorM17
import Derived.Deep.OwnRows
import Derived.Deep.CutRange
import Derived.Test.YtlmngncogomgeaaGreatDoorM15
set_option linter.unusedVariables false
set_option maxHeartbeats 4000000
set_option maxRecDepth 100000
namespace Go.Proofs.YtlmngncogomgeaaGreatDoor
open Go.RowKit D
attribute [local go_sem ↓] Go.wp_at_zero Go.wp_at_succ
theorem EC (xs:List A) (a:A) (v d0 d1:Value) (bs b2:List Nat) (w:World) (h:aQ w [v] xs bs) (h2:aP w [d0,d1] a b2) (hs:iF xs=true) (hn:xs.length≤100000000000):
  Calls Tryz.prog 161 #[v,.agg #[d0,d1]] w (LZ (bs ++ b2) xs (fC xs a) v w.heap.size w):=by
 obtain ⟨Ad,cap,rfl,hl,hm⟩:=ai h;obtain ⟨Aa,ca,rfl,rfl⟩:=bK h2;obtain ⟨i0,hi,a4,a5,a6⟩:=info_parts yA;have cQ:=ay hm;have hA:Below w.heap.size w (w.alloc (.cells #[.string a.name,.slice Aa a.args.length ca] 40)):=ζ;have hk:=wP xs a _ _ _ bs b2 _ (au.below h hA) (ak.below h2 hA) hs;have HD:Hid (fC xs a=if hasB xs a then xs else xs.take (pl xs a) ++ a :: xs.drop (pl xs a)):=η rfl;cases hh:hasB xs a
 ·rw [hh] at hk
  have HX:Hid (fC xs a=xs.take (pl xs a) ++ [a] ++ xs.drop (pl xs a)):=η (by rw [HD.out,hh]; simp);have cT:pl xs a≤xs.length:=(oL hs a).2.2;clear hh HD;obtain ⟨L,b3,ab,a7,ag⟩:=tZ fM (by omega) h;obtain ⟨bt,bx,am⟩:=ab.take (k:=pl xs a) (by omega);obtain ⟨bd,bz,bg⟩:=ab.drop (k:=pl xs a) (by omega);have a1:=au.lt h;have b8:=ak.lt h2;generalize pl xs a=k at *;have cd:=η bx;have ce:Hid (∀ c ∈ bt,c ∈ bs):=η (fun c hc=>a7 c (am c hc));have cg:Hid (∀ c ∈ bd,c ∈ bs):=η (fun c hc=>a7 c (bg c hc));have bA:=η bz;have cU:Hid (∀ w',Below w.heap.size w w'→Lies w' Ad L):=η fun w' a8=>Hl ab (by omega) ag a1 a8
  by_cases bB:xs = []
  ·subst bB
   have hx:=η (OJ a _ _ _ bs b2 w h h2 hs);exact hx.out
  ·obtain ⟨b,o,rfl,ci,a9⟩:=ag bB
   have bE:=a1 b ci
   go_enter Tryz.func161,Tryz.ntmps161
   go_wp2_with fail
   refine hk.mono ?_;rintro e y ⟨rfl,ao⟩;have B1:=hA.trans (ao.mono hA.size);have x0:y.cell? ⟨w.heap.size,0,none⟩=some (.string a.name):=ξ ao (by go_simp);have x1:y.cell? ⟨w.heap.size,1,none⟩=some (.slice Aa a.args.length ca):=ξ ao (by go_simp);clear hk;have cV:(0:Int)≤(k:Int):=by omega
   have cW:(k:Int)≤(xs.length:Int):=by omega
   have cX:(k:Int)≤(cap:Int):=by omega
   have cY:(xs.length:Int)≤(cap:Int):=by omega
   have ap:(xs.take k).length=k:=by rw [List.length_take]; omega
   have b9:(xs.drop k).length=xs.length - k:=List.length_drop
   have bh:Hid (∀ w',Below w.heap.size w w'→Lies w' (some ⟨b,o,none⟩) (L.take (k * 2))):=η fun w' a8=>Lies.mk fun j u hj=>(a8.cell (p:=⟨b,o+j,none⟩) bE).trans (a9 j u (by
    have cj:=(List.getElem?_eq_some_iff.1 hj).1
    rw [List.getElem?_take_of_lt (by simp at cj; omega)] at hj; exact hj))
   have bL:Hid (∀ w',Below w.heap.size w w'→Lies w' (some ⟨b,o+k * 2,none⟩) (L.drop (k * 2))):=η fun w' a8=>Lies.mk fun j u hj=>(a8.cell (p:=⟨b,o+k * 2+j,none⟩) bE).trans (by rw [Nat.add_assoc]; exact a9 _ u (by rw [List.getElem?_drop] at hj; exact hj))
   have H5:Hid (0+k≤maxLen):=η (by unfold maxLen; omega);have H6:Hid ((0+k) * 40≤140737488355328):=η (by omega);have H8:Hid (k+1≤maxLen):=η (by unfold maxLen; omega);have H9:Hid ((k+1) * 40≤140737488355328):=η (by omega);have ck:Hid (k+1+(xs.length - k)≤maxLen):=η (by unfold maxLen; omega);have cl:Hid ((k+1+(xs.length - k)) * 40≤140737488355328):=η (by omega);have af:=η ap;have bO:=η b9;have cm:Hid ((xs.take k ++ [a]).length=k+1):=η (by rw [χ,ap]; rfl);have bi:Hid (∀ c ∈ bd,c < y.heap.size):=η fun c hc=>κ (a1 c (a7 c (bg c hc))) B1.size
   have cn:Hid (((y.alloc (.cells #[] 40)).alloc (.cells #[.string a.name,.slice Aa a.args.length ca] 40)).heap[y.heap.size+1]? = some (.cells #[.string a.name,.slice Aa a.args.length ca] 40 (0,0))):=η (by have:=ω (y.alloc (.cells #[] 40)) (.cells #[.string a.name,.slice Aa a.args.length ca] 40); rw [World.size_alloc] at this; exact this);have co:Hid (((y.alloc (.cells #[.string a.name,.slice Aa a.args.length ca] 40)).alloc (.cells #[] 40)).heap[y.heap.size]? = some (.cells #[.string a.name,.slice Aa a.args.length ca] 40 (0,0))):=η (by rw [Below.heap_alloc _ _ _ (by simp)]; exact ω _ _);have ac:=cd.out.below ak B1;have bc:=bA.out.below ak B1;have bR:=ak.below h2 B1;have aE:Below y.heap.size y ((y.alloc (.cells #[] 40)).alloc (.cells #[.string a.name,.slice Aa a.args.length ca] 40)).drew:=((ζ).alloc (by simp) _).drew
   have bj:=cu.empty (n:=2) (R:=aP) (e:=40) (w:=((y.alloc (.cells #[] 40)).alloc (.cells #[.string a.name,.slice Aa a.args.length ca] 40)).drew) (g:=y.heap.size) (base:=y.heap.size) (show ((y.alloc (.cells #[] 40)).alloc (.cells #[.string a.name,.slice Aa a.args.length ca] 40)).heap[y.heap.size]? = _ by rw [Below.heap_alloc _ _ _ (by simp)]; exact ω _ _) (by omega);have bX:=η aE;have cp:=η (ac.below ak aE);have cq:Hid (Lies ((y.alloc (.cells #[] 40)).alloc (.cells #[.string a.name,.slice Aa a.args.length ca] 40)).drew (some ⟨b,o,none⟩) (L.take (k * 2))):=η (bh.out _ (B1.trans (aE.mono B1.size)));have cr:Hid (∀ c ∈ bt,(Value.slice (some ⟨y.heap.size,0,none⟩) 0 0).ownBlock ≠ some c):=η fun c hc=>aO bj.own (κ (a1 c (a7 c (am c hc))) B1.size)
   have cv:=η bj;clear aE bj;have aL:Below y.heap.size y ((y.alloc (.cells #[.string a.name,.slice Aa a.args.length ca] 40)).alloc (.cells #[] 40)).drew:=((ζ).alloc (by simp) _).drew;have bk:=cu.empty (n:=2) (R:=aP) (e:=40) (w:=((y.alloc (.cells #[.string a.name,.slice Aa a.args.length ca] 40)).alloc (.cells #[] 40)).drew) (g:=y.heap.size+1) (base:=y.heap.size) (show ((y.alloc (.cells #[.string a.name,.slice Aa a.args.length ca] 40)).alloc (.cells #[] 40)).heap[y.heap.size+1]? = _ by have:=ω (y.alloc (.cells #[.string a.name,.slice Aa a.args.length ca] 40)) (.cells #[] 40); rw [World.size_alloc] at this; exact this) (by omega);have c0:=η aL;have cw:=η (ac.below ak aL);have cx:Hid (Lies ((y.alloc (.cells #[.string a.name,.slice Aa a.args.length ca] 40)).alloc (.cells #[] 40)).drew (some ⟨b,o,none⟩) (L.take (k * 2))):=η (bh.out _ (B1.trans (aL.mono B1.size)))
   have cy:Hid (∀ c ∈ bt,(Value.slice (some ⟨y.heap.size+1,0,none⟩) 0 0).ownBlock ≠ some c):=η fun c hc=>aO bk.own (κ (a1 c (a7 c (am c hc))) B1.size)
   have cz:=η bk;clear aL bk;have aM:Below y.heap.size y (y.alloc (.cells #[] 40)).drew:=(ζ).drew;have bl:=cu.empty (n:=2) (R:=aP) (e:=40) (w:=(y.alloc (.cells #[] 40)).drew) (g:=y.heap.size) (base:=y.heap.size) (show (y.alloc (.cells #[] 40)).heap[y.heap.size]? = _ from ω _ _) (by omega);have c3:=η aM;have cA:=η (ac.below ak aM);have cB:Hid (Lies (y.alloc (.cells #[] 40)).drew (some ⟨b,o,none⟩) (L.take (k * 2))):=η (bh.out _ (B1.trans (aM.mono B1.size)));have cD:Hid (∀ c ∈ bt,(Value.slice (some ⟨y.heap.size,0,none⟩) 0 0).ownBlock ≠ some c):=η fun c hc=>aO bl.own (κ (a1 c (a7 c (am c hc))) B1.size)
   have cE:=η bl;clear aM bl;have c4:Hid (∀ w',Below y.heap.size y w'→Below w.heap.size w w'):=η fun w' a8=>B1.trans (a8.mono B1.size)
   have aq:=η bc;have bn:=η bR;clear ac bc bR;have d2:w.heap.size < y.heap.size:=lt_of_cell x0;have cG:=η (own_ne (a:=y.heap.size+1) (b:=y.heap.size) (n:=0) (c:=0) (o:=0) (by omega));have cI:=η (own_ne (a:=y.heap.size) (b:=y.heap.size+1) (n:=0) (c:=0) (o:=0) (by omega));have cJ:Hid (y.heap.size+1 < ((y.alloc (.cells #[] 40)).alloc (.cells #[.string a.name,.slice Aa a.args.length ca] 40)).drew.heap.size):=η (by simp);have cK:Hid (y.heap.size < ((y.alloc (.cells #[.string a.name,.slice Aa a.args.length ca] 40)).alloc (.cells #[] 40)).drew.heap.size):=η (by simp <;> omega);have H2:=η h2;have bo:Hid (∀ c ∈ b2,c < y.heap.size):=η fun c hc=>κ (b8 c hc) B1.size
   clear ap b9 am bg a7 bx bz ab ag a9 h h2 b8;by_cases hce:cap=k
   case' pos=>
    have d3:(cap=k)=True:=eq_true hce;have c5:xs.length=k:=by omega
    have bf:L.drop (k * 2) = []:=List.length_eq_zero_iff.1 (by rw [bA.out.len,bO.out,c5]; simp);replace bL:Hid (∀ w',Below w.heap.size w w'→Lies w' (some ⟨b,o,none⟩) (L.drop (k * 2))):=η (fun w' _=>by rw [bf]; exact Lies.nil w' _);have d4:=η hce;clear c5 bf hce
   all_goals
    go_wp2
    go_region_held3 (fun w'=>w'.cell? ⟨w.heap.size,0,none⟩=some (.string a.name)∧w'.cell? ⟨w.heap.size,1,none⟩=some (.slice Aa a.args.length ca)) (first | go_keep | exact ⟨q0,q1⟩ | exact ⟨r0,r1⟩ | exact ⟨s0,s1⟩) ((first
     | (refine bG ?_ (.tmp 15) (.tmp 18) _ ?_ y.heap.size 40 i0 (.agg #[.string ⟨#[]⟩,.slice none 0 0]) 2 40 Tryz.underlying36 hi a4 a5 a6 rfl (Θ 1) ak (.slice (some ⟨y.heap.size,0,none⟩) 0 0) 0 [] [] [] ?_ cv.out rfl (some ⟨b,o,none⟩) k cap (L.take (k * 2)) _ _ ?_ cp.out af.out cq.out cr.out H5.out H6.out y y.heap.size bX.out ν bX.out.size ?_; rfl; rfl; rfl; rfl; intro A1 ar w2 U I a2 aa; simp only [Nat.zero_add,List.nil_append] at U ⊢; have q0:=ξ I x0; have q1:=ξ I x1; have bp:Hid (w2.heap[y.heap.size+1]? = some (.cells #[.string a.name,.slice Aa a.args.length ca] 40 (0,0))):=η ((aa.block _ cJ.out cG.out).trans cn.out); clear aa; have av:=η (aS bp.out); have aw:=η (aV.dY (n:=2) (R:=aP) fM (ak.below bn.out I)); have az:=η (fun c hc=>aO U.own (bo.out c hc)); have aR:=η U; have b1:=η I; have b5:=η a2; clear U I a2)
     | (refine bG ?_ (.tmp 15) (.tmp 18) _ ?_ y.heap.size 40 i0 (.agg #[.string ⟨#[]⟩,.slice none 0 0]) 2 40 Tryz.underlying36 hi a4 a5 a6 rfl (Θ 1) ak (.slice (some ⟨y.heap.size+1,0,none⟩) 0 0) 0 [] [] [] ?_ cz.out rfl (some ⟨b,o,none⟩) k cap (L.take (k * 2)) _ _ ?_ cw.out af.out cx.out cy.out H5.out H6.out y y.heap.size c0.out ν c0.out.size ?_; rfl; rfl; rfl; rfl; intro A1 ar w2 U I a2 aa; simp only [Nat.zero_add,List.nil_append] at U ⊢; have q0:=ξ I x0; have q1:=ξ I x1; have bp:Hid (w2.heap[y.heap.size]? = some (.cells #[.string a.name,.slice Aa a.args.length ca] 40 (0,0))):=η ((aa.block _ cK.out cI.out).trans co.out); clear aa; have av:=η (aS bp.out); have aw:=η (aV.dY (n:=2) (R:=aP) fM (ak.below bn.out I)); have az:=η (fun c hc=>aO U.own (bo.out c hc)); have aR:=η U; have b1:=η I; have b5:=η a2; clear U I a2)
     | (refine bG ?_ (.tmp 15) (.tmp 18) _ ?_ y.heap.size 40 i0 (.agg #[.string ⟨#[]⟩,.slice none 0 0]) 2 40 Tryz.underlying36 hi a4 a5 a6 rfl (Θ 1) ak (.slice (some ⟨y.heap.size,0,none⟩) 0 0) 0 [] [] [] ?_ cE.out rfl (some ⟨b,o,none⟩) k cap (L.take (k * 2)) _ _ ?_ cA.out af.out cB.out cD.out H5.out H6.out y y.heap.size c3.out ν c3.out.size ?_; rfl; rfl; rfl; rfl; intro A1 ar w2 U I a2 aa; simp only [Nat.zero_add,List.nil_append] at U ⊢; have q0:=ξ I x0; have q1:=ξ I x1; skip; clear aa; have ae:Below y.heap.size y (w2.alloc (.cells #[.string a.name,.slice Aa a.args.length ca] 40)):=I.alloc I.size _; have c6:=η ae; have c7:=η (U.below ak ((Below.refl w2.heap.size w2).alloc ν (.cells #[.string a.name,.slice Aa a.args.length ca] 40))); have c8:=η ae.size; have av:=η (aS (ω w2 (.cells #[.string a.name,.slice Aa a.args.length ca] 40))); have aw:=η (aV.dY (n:=2) (R:=aP) fM (ak.below bn.out ae)); have az:=η (fun c hc=>aO U.own (bo.out c hc)); clear ae; have aR:=η U; have b1:=η I; have b5:=η a2; clear U I a2)
     | (refine bG ?_ (.tmp 19) (.tmp 21) _ ?_ y.heap.size 40 i0 (.agg #[.string ⟨#[]⟩,.slice none 0 0]) 2 40 Tryz.underlying36 hi a4 a5 a6 rfl (Θ 1) ak (.slice A1 k ar) k _ _ _ ?_ aR.out af.out (some ⟨y.heap.size+1,0,none⟩) 1 1 _ [a] _ ?_ aw.out rfl av.out az.out H8.out H9.out y y.heap.size b1.out ν b5.out ?_; rfl; rfl; rfl; rfl; intro A2 bq w3 a0 J a3 aD; have r0:=ξ J x0; have r1:=ξ J x1; have br:=η (aq.out.below ak J); have bu:=η (fun c hc=>aO a0.own (bi.out c hc)); have bv:=η a0; have b6:=η J; have bw:=η a3; clear a0 J a3 aD)
     | (refine bG ?_ (.tmp 19) (.tmp 21) _ ?_ y.heap.size 40 i0 (.agg #[.string ⟨#[]⟩,.slice none 0 0]) 2 40 Tryz.underlying36 hi a4 a5 a6 rfl (Θ 1) ak (.slice A1 k ar) k _ _ _ ?_ aR.out af.out (some ⟨y.heap.size,0,none⟩) 1 1 _ [a] _ ?_ aw.out rfl av.out az.out H8.out H9.out y y.heap.size b1.out ν b5.out ?_; rfl; rfl; rfl; rfl; intro A2 bq w3 a0 J a3 aD; have r0:=ξ J x0; have r1:=ξ J x1; have br:=η (aq.out.below ak J); have bu:=η (fun c hc=>aO a0.own (bi.out c hc)); have bv:=η a0; have b6:=η J; have bw:=η a3; clear a0 J a3 aD)
     | (refine bG ?_ (.tmp 19) (.tmp 21) _ ?_ y.heap.size 40 i0 (.agg #[.string ⟨#[]⟩,.slice none 0 0]) 2 40 Tryz.underlying36 hi a4 a5 a6 rfl (Θ 1) ak (.slice A1 k ar) k _ _ _ ?_ c7.out af.out (some ⟨w2.heap.size,0,none⟩) 1 1 _ [a] _ ?_ aw.out rfl av.out az.out H8.out H9.out y y.heap.size c6.out ν c8.out ?_; rfl; rfl; rfl; rfl; intro A2 bq w3 a0 J a3 aD; have r0:=ξ J x0; have r1:=ξ J x1; have br:=η (aq.out.below ak J); have bu:=η (fun c hc=>aO a0.own (bi.out c hc)); have bv:=η a0; have b6:=η J; have bw:=η a3; clear a0 J a3 aD)
     | (refine bG ?_ (.tmp 22) (.tmp 25) _ ?_ y.heap.size 40 i0 (.agg #[.string ⟨#[]⟩,.slice none 0 0]) 2 40 Tryz.underlying36 hi a4 a5 a6 rfl (Θ 1) ak (.slice A2 (k+1) bq) (k+1) _ _ _ ?_ bv.out cm.out _ (xs.length - k) (cap - k) (L.drop (k * 2)) _ _ ?_ br.out bO.out (bL.out _ (c4.out _ b6.out)) bu.out ck.out cl.out y y.heap.size b6.out ν bw.out ?_; rfl; rfl; rfl; rfl; intro A3 d5 w4 c9 b7 cL _; have s0:=ξ b7 x0; have s1:=ξ b7 x1; have cb:=η c9; have cP:=η b7; clear c9 b7 cL)))
    all_goals
     obtain ⟨b4,cc,_⟩:=cb.out.slice;have HS:=η cc;clear cc;go_wp2;go_ret
     exact ⟨c4.out _ cP.out,_,b4,rfl,by rw [HX.out]; exact HS.out,.inr ⟨_,_,by rw [HX.out]; exact cb.out.U4 B1.size,fun c hc=>by
      rcases μ.1 hc with hc | hc
      rcases μ.1 hc with hc | hc
      ·exact μ.2 (.inl (ce.out c hc))
      ·exact μ.2 (.inr hc)
      ·exact μ.2 (.inl (cg.out c hc))⟩⟩
 ·rw [hh] at hk
  have HX:Hid (fC xs a=xs):=η (by rw [HD.out,hh]; rfl);clear hh HD
  go_enter Tryz.func161,Tryz.ntmps161
  go_wp2_with fail
  refine hk.mono ?_;rintro e y ⟨rfl,ao⟩;have B1:=hA.trans (ao.mono hA.size);have HR:=η (au.below h B1);clear hk h h2;go_wp2;go_ret;exact ⟨B1,_,bs,rfl,by rw [HX.out]; exact HR.out,.inl ⟨rfl,HX.out⟩⟩
structure D.lJ (w:World) (rs:List Ru) (out:List Nat) (wr:World):Prop where
 blk:wr.heap[w.heap.size]? = some (.cells (Dy out) 3 (0,0))
 len:out.length=rs.length
 bel:Below w.heap.size w wr
theorem D.lJ.later {w:World} {rs:List Ru} {out:List Nat} {wr w':World} (h:lJ w rs out wr) (y:Below wr.heap.size wr w'):lJ w rs out w':=
 ⟨(y.block _ (ψ h.blk)).trans h.blk,h.len,h.bel.trans (y.mono h.bel.size)⟩
theorem D.lJ.drewN {w:World} {rs:List Ru} {out:List Nat} {wr:World} (h:lJ w rs out wr) (n:Nat):lJ w rs out (wr.drewN n):=⟨h.blk,h.len,below_drewN h.bel n⟩
theorem D.lJ.set {w:World} {rs:List Ru} {out:List Nat} {wr:World} (h:lJ w rs out wr) (i v:Nat):lJ w rs (out.set i v) (wr.setCell ⟨w.heap.size,i,none⟩ (.int .i64 (v:Nat))):=
 ⟨by rw [← F7]; exact bY h.blk,by rw [List.length_set]; exact h.len,h.bel.setCell ν _⟩
theorem D.lJ.at {w:World} {rs:List Ru} {out:List Nat} {wr:World} (h:lJ w rs out wr) {i:Nat} (hi:i < rs.length):wr.cell? ⟨w.heap.size,i,none⟩=some (.int .i64 (iw out i:Nat)):=by
 rw [aj h.blk]; exact Cc (by rw [h.len]; exact hi)
theorem D.lJ.free {w:World} {rs:List Ru} {out:List Nat} {wr:World} (h:lJ w rs out wr) (o:Nat):wr.frozen? ⟨w.heap.size,o,none⟩=false:=aB h.blk
theorem D.MC {out:List Nat} {i v c d:Nat} (h:∀ x,iw out x≤c) (hv:v≤d) (hc:c≤d):∀ x,iw (out.set i v) x≤d:=fun x=>by
 by_cases hi:i < out.length
 ·rw [nN hi]
  split
  ·exact hv
  ·exact τ (h x) hc
 ·rw [List.set_eq_of_length_le (by omega)]; exact τ (h x) hc
theorem D.ED {rs:List Ru} {i:Nat} (h:i < rs.length):dI rs i=rs[i]:=by unfold dI; rw [List.getD_eq_getElem?_getD,Ψ h]; rfl
theorem D.CV {β:Type} (f:β→Nat→β) (b:β) (k:Nat):(List.range (k+1)).foldl f b=f ((List.range k).foldl f b) k:=by rw [List.range_succ,List.foldl_append]; rfl
theorem D.OQ {α β:Type} (f:β→α→β) (b:β) (xs:List α) (k:Nat) (h:k < xs.length):(xs.take (k+1)).foldl f b=f ((xs.take k).foldl f b) xs[k]:=by rw [ρ h,List.foldl_append]; rfl
theorem xE (rs:List Ru) (v:Value) (bs:List Nat) (w:World) (h:dD w [v] rs bs) (hf:rs.length≤8) (hok:rs.all dS=true):
  Calls Tryz.prog 122 #[v] w fun e w'=>Below w.heap.size w w'∧e=.returned (.slice (some ⟨w.heap.size,0,none⟩) rs.length rs.length)∧lJ w rs (aF rs) w'∧∀ i,iw (aF rs) i≤1000000:=by
 obtain ⟨Ad,cap,rfl,hl,hm⟩:=ai h;have bX:=ay (τ hl hm);have b1:=fun w'=>run_make_row' (P:=Tryz.prog) 64 3 (.int .i64 0) 8 Tryz.underlying64 AB rfl .i64 .i64 rs.length (by omega) (by omega) w'
 simp only [Ce] at b1;have b3:Hid (lJ w rs (yC rs 0) (w.alloc (.cells (Dy (List.replicate rs.length 0)) 3))):=η ⟨ω _ _,by simp [yC],ζ⟩;have b5:Hid (∀ x,iw (yC rs 0) x≤256 * 0):=η fun x=>by unfold yC; rw [Cj]; omega
 obtain ⟨N1,aq⟩:∃ N1:Nat,N1=(rs.length+1) * (rs.length+2):=⟨_,rfl⟩;have hmul:((rs.length:Int)+1) * ((rs.length:Int)+2)=(N1:Int):=by rw [aq]; simp
 have bB:N1≤90:=by rw [aq]; exact Nat.mul_le_mul (show rs.length+1≤9 by omega) (show rs.length+2≤10 by omega)
 have b6:Hid (aF rs=yC rs N1):=η (by rw [aq]; rfl);have bh:=η hok;have bE:(rs.length:Int)≤8:=by omega
 clear hl hm hok aq
 go_enter Tryz.func122,Tryz.ntmps122
 go_wp2;generalize w.alloc (.cells (Dy (List.replicate rs.length 0)) 3)=w0 at *;clear b1
 go_loopw [4] (fun i wr=>∃ (m:Nat) (out:List Nat),m≤N1∧i=.int .i64 m∧out=yC rs m∧lJ w rs out wr∧∀ x,iw out x≤256 * m) (fun i _=>N1 - (intOf i).toNat)
 case atStart=>exact ⟨0,_,ε,rfl,rfl,b3.out,b5.out⟩
 case round=>
  obtain ⟨m,out,hm,rfl,ho,y,hmx⟩:=hrel;clear b3 b5;by_cases bj:m < N1
  ·have c0:(0:Int)≤(m:Int):=by omega
   have bl:(m:Int) < (N1:Int):=by omega
   have HI:=η y;have I:=η hmx;have HO:=η ho;clear ho y hmx;go_wp2
   go_loopw [5] (fun v wr=>∃ (i:Nat) (o2:List Nat),i≤rs.length∧v=.int .i64 i∧o2=(List.range i).foldl (Oh rs) out∧lJ w rs o2 wr∧∀ x,iw o2 x≤256 * m+32 * i) (fun i _=>rs.length - (intOf i).toNat)
   case atStart=>exact ⟨0,out,ε,rfl,rfl,HI.out,I.out⟩
   case round=>
    clear HI I;obtain ⟨i,o2,hi,rfl,ho,y,hmx⟩:=hrel;by_cases a5:i < rs.length
    ·obtain ⟨b0,o0,Ai,ci,Bi,di,c3,rfl,_,i0,i1,i2,az,_⟩:=eF h a5
     have bn:=η (CV (Oh rs) out i);obtain ⟨_,c4,_,_,aD⟩:=dX az;have bo:=η aD;have bL:=(jX (ό.1 bh.out _ (δ a5))).1;have bp:=η (ED a5);have c5:(0:Int)≤(i:Int):=by omega
     have bq:(i:Int) < (rs.length:Int):=by omega
     have HI:=η y;have I:=η hmx;have br:=η ho;have a7:=η a5;clear az aD ho y hmx;generalize rs[i]=ri at *;clear a5;obtain ⟨⟨hin,c6⟩,bi⟩:=ri;dsimp only at *;go_wp2
     go_loopw [6] (fun v wr=>∃ (k:Nat) (o3:List Nat),k≤rs.length∧v=.int .i64 k∧o3=(List.range k).foldl (wL rs i) o2∧lJ w rs o3 wr∧∀ x,iw o3 x≤256 * m+32 * i+4 * k) (fun i _=>rs.length - (intOf i).toNat)
     case atStart=>exact ⟨0,o2,ε,rfl,rfl,HI.out,I.out⟩
     case round=>
      clear HI I;obtain ⟨k,o3,c7,rfl,ho,y,hmx⟩:=hrel;by_cases af:k < rs.length
      ·obtain ⟨b9,o9,Ak,ck,Bk,dk,c8,e9,_,k0,k1,k2,b7,_⟩:=eF h af
       obtain ⟨rfl,rfl⟩:b0=b9∧o0=o9:=by simpa using e9
       have a5:=a7.out;have j0:=ξ y.bel i0;have j2:=ξ y.bel i2;have I2:=η i2;have K0:=η k0;replace k0:=ξ y.bel k0;have bt:=η (CV (wL rs i) o2 k);have bu:=η (ED af);have a1:=y.at af;have a2:=y.at a5;have fz:=y.free i;have ar:=hmx k;have av:=hmx i;have c9:(0:Int)≤(k:Int):=by omega
       have bv:(k:Int) < (rs.length:Int):=by omega
       have HI:=η y;have I:=η hmx;have bw:=η ho;have ac:=η af;clear b7 ho y hmx e9 k1 k2;generalize rs[k]=rk at *;clear af a5;obtain ⟨⟨hk,ca⟩,bk⟩:=rk;dsimp only at *;obtain ⟨a,ha⟩:∃ a,a=iw o3 k:=⟨_,rfl⟩;obtain ⟨b,hb⟩:∃ b,b=iw o3 i:=⟨_,rfl⟩;rw [← ha] at a1 ar;rw [← hb] at a2 av;have HA:=η ha;have a3:=η hb;clear ha hb
       go_upto_region 11 with (fail)
       go_cut [59] from 30 to 121 (fun c wx=>c=.bool (decide (hk=hin) && decide (b < a))∧lJ w rs o3 wx)
       case first=>
        skip
        cases hs:(hk.toList == hin.toList)
        ·have HD:Hid ((decide (hk=hin) && decide (b < a))=false):=η (by rw [← nU,hs]; rfl)
         go_quiet (fail)
         go_wp2
         go_meet
         case rel=>exact ⟨by rw [HD.out],HI.out.drewN _⟩
        ·by_cases J:b < a
         ·have HD:Hid ((decide (hk=hin) && decide (b < a))=true):=η (by rw [← nU,hs]; simp [J])
          have ag:(b:Int) < (a:Int):=by omega
          clear J
          go_quiet (fail)
          go_wp2
          go_meet
          case rel=>exact ⟨by rw [HD.out],HI.out.drewN _⟩
         ·have HD:Hid ((decide (hk=hin) && decide (b < a))=false):=η (by rw [← nU,hs]; simp [J])
          have ag:¬ (b:Int) < (a:Int):=by omega
          clear J
          go_quiet (fail)
          go_wp2
          go_meet
          case rel=>exact ⟨by rw [HD.out],HI.out.drewN _⟩
       case rest=>
        obtain ⟨rfl,y⟩:=hcut;clear a1 a2 fz HI j0 j2 k0;have a1:=y.at ac.out;have a2:=y.at a7.out;have fz:=y.free i;rw [← HA.out] at a1;rw [← a3.out] at a2;have HI:=η y;have bx:w.heap.size < wc.heap.size:=ψ y.blk;clear y;obtain ⟨c,hc⟩:∃ c,c=(decide (hk=hin) && decide (b < a)):=⟨_,rfl⟩;rw [← hc];have HC:=η hc;clear hc
        go_upto_if 59 with (fail)
        go_cut [] from 30 to 121 (fun wx=>lJ w rs (lQ hin hk i k o3) wx)
        case first=>
         cases c
         ·have am:Hid (lQ hin hk i k o3=o3):=η (by
           unfold lQ; rw [if_neg]; rintro ⟨e,h⟩; have:=HC.out; rw [e,a3.out,HA.out] at this; simp at this; omega)
          go_wp2
          go_meet
          case rel=>rw [am.out]; exact HI.out
         ·have am:Hid (lQ hin hk i k o3=o3.set i a):=η (by
           have:=HC.out.symm;simp only [ο,decide_eq_true_eq] at this
           unfold lQ; rw [if_pos ⟨this.1,by rw [← HA.out,← a3.out]; exact this.2⟩,HA.out])
          have bO:=a7.out;have bR:=ac.out;go_wp2
          go_meet
          case rel=>rw [am.out]; exact HI.out.set i a
        case rest=>
         have aE:=η hcut
         have ao:Hid (∀ x,iw (lQ hin hk i k o3) x≤256 * m+32 * i+4 * k):=η (by
          unfold lQ; split
          ·exact MC I.out (I.out k) ν
          ·exact I.out)
         clear hcut a1 a2 fz HI;obtain ⟨o4,aL⟩:∃ o4,o4=lQ hin hk i k o3:=⟨_,rfl⟩;have am:=η aL.symm;rw [← aL] at aE ao;clear aL;go_wp2
         go_loopw [7] (fun v wr=>∃ (j:Nat) (out:List Nat),j≤bi.length∧v=.int .i64 j∧out=(bi.take j).foldl (jQ rs.length hk i k) o4∧lJ w rs out wr∧∀ x,iw out x≤256 * m+32 * i+4 * k+j) (fun i _=>bi.length - (intOf i).toNat)
         case atStart=>exact ⟨0,_,ε,rfl,rfl,aE.out,ao.out⟩
         case round=>
          clear aE ao I ar av HA a3;obtain ⟨j,out,hj,rfl,ho,y,hmx⟩:=hrel;have j2:=ξ y.bel I2.out;by_cases aw:j < bi.length
          ·have k0:=ξ y.bel K0.out
           have cb:b0 < wr.heap.size:=lt_of_cell k0;obtain ⟨b4,o5,Ag,cg,bg,rfl,_,f0,f1,f2,bz,_⟩:=eU bo.out aw;replace f0:=ξ y.bel f0;replace f1:=ξ y.bel f1;replace f2:=ξ y.bel f2;have cc:(0:Int)≤(j:Int):=by omega
           have bA:(j:Int) < (bi.length:Int):=by omega
           have a8:=η (OQ (jQ rs.length hk i k) o4 bi j aw);have hA:Below wr.heap.size wr (wr.alloc (.cells #[.bool bi[j].no,.string bi[j].atom.name,.slice Ag bi[j].atom.args.length cg] 209)):=ζ;have a1:=y.at ac.out;have a2:=y.at a7.out;have fz:=y.free i;have ar:=hmx k;have av:=hmx i;have b8:=ac.out;have bc:=a7.out;have a9:=η (y.later hA);have aa:=η y;have I:=η hmx;have ab:=η ho;have bx:w.heap.size < wr.heap.size:=ψ y.blk;clear bz ho y hmx hA;have a0:=η aw;generalize bi[j]=p at *;clear aw;obtain ⟨no,⟨pn,U⟩⟩:=p;dsimp only at *;obtain ⟨a,ha⟩:∃ a,a=iw out k:=⟨_,rfl⟩;obtain ⟨b,hb⟩:∃ b,b=iw out i:=⟨_,rfl⟩;rw [← ha] at a1 ar;rw [← hb] at a2 av;have HA:=η ha;have a3:=η hb;clear ha hb b8 bc;cases hq:(pn.toList == hk.toList)
           ·have a4:Hid (jQ rs.length hk i k out ⟨no,⟨pn,U⟩⟩=out):=η (by unfold jQ; rw [if_neg]; intro e; have e:pn=hk:=e; rw [e] at hq; simp at hq)
            clear aa;go_wp2
            go_quiet (fail)
            go_wp2;go_roundw
            case rel=>exact ⟨j+1,out,a0.out,by go_num,by rw [a8.out,← ab.out,a4.out],a9.out.drewN _,fun x=>τ (I.out x) (by omega)⟩
            case measure=>have:=a0.out; simp [intOf]; omega
           ·have ae:Hid (pn=hk):=η (by have:=nU pn hk; rw [hq] at this; exact of_decide_eq_true this.symm)
            cases no
            ·by_cases J:b < a
             ·have bf:(b:Int) < (a:Int):=by omega
              by_cases a6:b≤rs.length
              ·have ap:(b:Int)≤(rs.length:Int):=by omega
               have a4:Hid (jQ rs.length hk i k out ⟨false,⟨pn,U⟩⟩=out.set i (a)):=η (by
                unfold jQ; rw [if_pos ae.out,if_pos ⟨by simp only [Au]; rw [← HA.out,← a3.out]; simpa using J,by rw [← a3.out]; exact a6⟩]; simp only [Au]; rw [HA.out]; rfl)
               have aM:Hid (∀ x,iw (out.set i (a)) x≤256 * m+32 * i+4 * k+(j+1)):=η (MC I.out (by have:=I.out k; rw [← HA.out] at this; omega) (by omega));clear aa J a6;go_wp2
               go_quiet (fail)
               have aR:=η ((a9.out.drewN nq).set i (a));go_wp2;go_roundw
               case rel=>exact ⟨j+1,_,a0.out,by go_num,by rw [a8.out,← ab.out,a4.out],aR.out,aM.out⟩
               case measure=>have:=a0.out; simp [intOf]; omega
              ·have ap:¬ (b:Int)≤(rs.length:Int):=by omega
               have a4:Hid (jQ rs.length hk i k out ⟨false,⟨pn,U⟩⟩=out):=η (by
                unfold jQ; rw [if_pos ae.out,if_neg fun h=>a6 (by have:=h.2; rw [← a3.out] at this; exact this)])
               clear aa J a6;go_wp2
               go_quiet (fail)
               go_wp2;go_roundw
               case rel=>exact ⟨j+1,out,a0.out,by go_num,by rw [a8.out,← ab.out,a4.out],a9.out.drewN _,fun x=>τ (I.out x) (by omega)⟩
               case measure=>have:=a0.out; simp [intOf]; omega
             ·have ag:¬ (b:Int) < (a:Int):=by omega
              have a4:Hid (jQ rs.length hk i k out ⟨false,⟨pn,U⟩⟩=out):=η (by
                unfold jQ; rw [if_pos ae.out,if_neg fun h=>J (by have:=h.1; simp only [Au] at this; rw [← HA.out,← a3.out] at this; simpa using this)])
              clear aa J;go_wp2
              go_quiet (fail)
              go_wp2;go_roundw
              case rel=>exact ⟨j+1,out,a0.out,by go_num,by rw [a8.out,← ab.out,a4.out],a9.out.drewN _,fun x=>τ (I.out x) (by omega)⟩
              case measure=>have:=a0.out; simp [intOf]; omega
            ·by_cases J:b < a+1
             ·have bf:(b:Int) < (a:Int)+1:=by omega
              by_cases a6:b≤rs.length
              ·have ap:(b:Int)≤(rs.length:Int):=by omega
               have a4:Hid (jQ rs.length hk i k out ⟨true,⟨pn,U⟩⟩=out.set i (a+1)):=η (by
                unfold jQ; rw [if_pos ae.out,if_pos ⟨by simp only [Au]; rw [← HA.out,← a3.out]; simpa using J,by rw [← a3.out]; exact a6⟩]; simp only [Au]; rw [HA.out]; rfl)
               have aM:Hid (∀ x,iw (out.set i (a+1)) x≤256 * m+32 * i+4 * k+(j+1)):=η (MC I.out (by have:=I.out k; rw [← HA.out] at this; omega) (by omega));clear aa J a6;go_wp2
               go_quiet (fail)
               have aR:=η ((a9.out.drewN nq).set i (a+1));go_wp2;go_roundw
               case rel=>exact ⟨j+1,_,a0.out,by go_num,by rw [a8.out,← ab.out,a4.out],aR.out,aM.out⟩
               case measure=>have:=a0.out; simp [intOf]; omega
              ·have ap:¬ (b:Int)≤(rs.length:Int):=by omega
               have a4:Hid (jQ rs.length hk i k out ⟨true,⟨pn,U⟩⟩=out):=η (by
                unfold jQ; rw [if_pos ae.out,if_neg fun h=>a6 (by have:=h.2; rw [← a3.out] at this; exact this)])
               clear aa J a6;go_wp2
               go_quiet (fail)
               go_wp2;go_roundw
               case rel=>exact ⟨j+1,out,a0.out,by go_num,by rw [a8.out,← ab.out,a4.out],a9.out.drewN _,fun x=>τ (I.out x) (by omega)⟩
               case measure=>have:=a0.out; simp [intOf]; omega
             ·have ag:¬ (b:Int) < (a:Int)+1:=by omega
              have a4:Hid (jQ rs.length hk i k out ⟨true,⟨pn,U⟩⟩=out):=η (by
                unfold jQ; rw [if_pos ae.out,if_neg fun h=>J (by have:=h.1; simp only [Au] at this; rw [← HA.out,← a3.out] at this; simpa using this)])
              clear aa J;go_wp2
              go_quiet (fail)
              go_wp2;go_roundw
              case rel=>exact ⟨j+1,out,a0.out,by go_num,by rw [a8.out,← ab.out,a4.out],a9.out.drewN _,fun x=>τ (I.out x) (by omega)⟩
              case measure=>have:=a0.out; simp [intOf]; omega
          ·have he:j=bi.length:=by omega
           have bA:¬ (j:Int) < (bi.length:Int):=by omega
           have HZ:Hid (out=(List.range (k+1)).foldl (wL rs i) o2∧lJ w rs out wr∧∀ x,iw out x≤256 * m+32 * i+4 * (k+1)):=η ⟨by
            rw [bt.out,← bw.out,ho,he,ϕ ν];unfold wL;rw [bp.out,bu.out];show _=List.foldl _ (lQ hin hk i k o3) bi
            rw [am.out],y,fun x=>τ (hmx x) (by omega)⟩
           clear ho y hmx he;go_wp2;go_roundw
           case rel=>exact ⟨k+1,out,ac.out,by go_num,HZ.out.1,HZ.out.2.1,HZ.out.2.2⟩
           case measure=>have:=ac.out; simp [intOf]; omega
      ·have he:k=rs.length:=by omega
       have bv:¬ (k:Int) < (rs.length:Int):=by omega
       have HZ:Hid (o3=(List.range (i+1)).foldl (Oh rs) out∧lJ w rs o3 wr∧∀ x,iw o3 x≤256 * m+32 * (i+1)):=η ⟨by rw [bn.out,← br.out,ho,he]; rfl,y,fun x=>τ (hmx x) (by omega)⟩;have a5:=a7.out;clear ho y hmx he;go_wp2;go_roundw
       case rel=>exact ⟨i+1,o3,a7.out,by go_num,HZ.out.1,HZ.out.2.1,HZ.out.2.2⟩
       case measure=>have:=a7.out; simp [intOf]; omega
    ·have he:i=rs.length:=by omega
     have bq:¬ (i:Int) < (rs.length:Int):=by omega
     have HZ:Hid (o2=yC rs (m+1)∧lJ w rs o2 wr∧∀ x,iw o2 x≤256 * (m+1)):=η ⟨by rw [ho,he,HO.out]; rfl,y,fun x=>τ (hmx x) (by omega)⟩;clear ho y hmx he;go_wp2;go_roundw
     case rel=>exact ⟨m+1,o2,bj,by go_num,HZ.out.1,HZ.out.2.1,HZ.out.2.2⟩
     case measure=>simp [intOf]; omega
  ·have he:m=N1:=by omega
   have bl:¬ (m:Int) < (N1:Int):=by omega
   have HZ:Hid (lJ w rs (aF rs) wr∧∀ i,iw (aF rs) i≤1000000):=η (by rw [b6.out,← he,← ho]; exact ⟨y,fun x=>τ (hmx x) (by omega)⟩);clear ho y hmx he;go_wp2;go_ret;exact ⟨HZ.out.1.bel,rfl,HZ.out⟩
end Go.Proofs.YtlmngncogomgeaaGreatDoor
