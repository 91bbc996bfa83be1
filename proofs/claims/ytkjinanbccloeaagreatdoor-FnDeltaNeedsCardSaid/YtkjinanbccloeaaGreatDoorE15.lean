/- Of the proof of FnDeltaNeeds: L3P, TouI, FitS. -/
import Derived.Test.YtkjinanbccloeaaGreatDoorE12
import Derived.Test.YtkjinanbccloeaaGreatDoorE13
set_option linter.unusedVariables false
set_option maxHeartbeats 4000000
set_option maxRecDepth 100000
namespace Go.Proofs.YtkjinanbccloeaaGreatDoor
open Go.RowKit D
attribute [local go_sem ↓] Go.wp_at_zero Go.wp_at_succ
theorem Bz (xs:List A) (a:A) (v d0 d1:Value) (bs b2:List Nat) (w:World) (h:aC w [v] xs bs) (h2:aJ w [d0,d1] a b2) (hs:gm xs=true) (hn:xs.length≤100000000000):
  Calls Tryz.prog 49 #[v,.agg #[d0,d1]] w (Jy (bs ++ b2) xs (eG xs a) v w.heap.size w):=by
 obtain ⟨Ad,cap,rfl,hl,hm⟩:=aj h;obtain ⟨Aa,ca,rfl,rfl⟩:=bG h2;obtain ⟨i0,hi,a4,a5,a6⟩:=info_parts qK;have cU:=ay hm;have hA:Below w.heap.size w (w.alloc (.cells #[.string a.name,.slice Aa a.args.length ca] 33)):=ζ;have hk:=yE xs a _ _ _ bs b2 _ (au.below h hA) (ak.below h2 hA) hs;have HD:Hid (eG xs a=if hasB xs a then xs else xs.take (pl xs a) ++ a :: xs.drop (pl xs a)):=η rfl;cases hh:hasB xs a
 ·rw [hh] at hk
  have HX:Hid (eG xs a=xs.take (pl xs a) ++ [a] ++ xs.drop (pl xs a)):=η (by rw [HD.out,hh]; simp);have cV:pl xs a≤xs.length:=(qG hs a).2.2;clear hh HD;obtain ⟨L,b3,ab,a7,ag⟩:=rH eH (by omega) h;obtain ⟨bt,bz,am⟩:=ab.take (k:=pl xs a) (by omega);obtain ⟨bd,bA,bh⟩:=ab.drop (k:=pl xs a) (by omega);have a1:=au.lt h;have b9:=ak.lt h2;generalize pl xs a=k at *;have cg:=η bz;have ci:Hid (∀ c ∈ bt,c ∈ bs):=η (fun c hc=>a7 c (am c hc));have cj:Hid (∀ c ∈ bd,c ∈ bs):=η (fun c hc=>a7 c (bh c hc));have bB:=η bA;have cW:Hid (∀ w',Below w.heap.size w w'→Lies w' Ad L):=η fun w' a8=>KH ab (by omega) ag a1 a8
  by_cases bE:xs = []
  ·subst bE
   have hx:=η (RX a _ _ _ bs b2 w h h2 hs);exact hx.out
  ·obtain ⟨b,o,rfl,ck,a9⟩:=ag bE
   have bL:=a1 b ck
   go_enter Tryz.func49,Tryz.ntmps49
   go_wp2_with fail
   refine hk.mono ?_;rintro e y ⟨rfl,ao⟩;have B1:=hA.trans (ao.mono hA.size);have x0:y.cell? ⟨w.heap.size,0,none⟩=some (.string a.name):=ξ ao (by go_simp);have x1:y.cell? ⟨w.heap.size,1,none⟩=some (.slice Aa a.args.length ca):=ξ ao (by go_simp);clear hk;have cX:(0:Int)≤(k:Int):=by omega
   have cY:(k:Int)≤(xs.length:Int):=by omega
   have d2:(k:Int)≤(cap:Int):=by omega
   have d3:(xs.length:Int)≤(cap:Int):=by omega
   have aq:(xs.take k).length=k:=by rw [List.length_take]; omega
   have bc:(xs.drop k).length=xs.length - k:=List.length_drop
   have bi:Hid (∀ w',Below w.heap.size w w'→Lies w' (some ⟨b,o,none⟩) (L.take (k * 2))):=η fun w' a8=>Lies.mk fun j u hj=>(a8.cell (p:=⟨b,o+j,none⟩) bL).trans (a9 j u (by
    have cl:=(List.getElem?_eq_some_iff.1 hj).1
    rw [List.getElem?_take_of_lt (by simp at cl; omega)] at hj; exact hj))
   have bO:Hid (∀ w',Below w.heap.size w w'→Lies w' (some ⟨b,o+k * 2,none⟩) (L.drop (k * 2))):=η fun w' a8=>Lies.mk fun j u hj=>(a8.cell (p:=⟨b,o+k * 2+j,none⟩) bL).trans (by rw [Nat.add_assoc]; exact a9 _ u (by rw [List.getElem?_drop] at hj; exact hj))
   have H5:Hid (0+k≤maxLen):=η (by unfold maxLen; omega);have H6:Hid ((0+k) * 40≤140737488355328):=η (by omega);have H8:Hid (k+1≤maxLen):=η (by unfold maxLen; omega);have H9:Hid ((k+1) * 40≤140737488355328):=η (by omega);have cm:Hid (k+1+(xs.length - k)≤maxLen):=η (by unfold maxLen; omega);have cn:Hid ((k+1+(xs.length - k)) * 40≤140737488355328):=η (by omega);have af:=η aq;have bR:=η bc;have co:Hid ((xs.take k ++ [a]).length=k+1):=η (by rw [χ,aq]; rfl);have bj:Hid (∀ c ∈ bd,c < y.heap.size):=η fun c hc=>κ (a1 c (a7 c (bh c hc))) B1.size
   have cp:Hid (((y.alloc (.cells #[] 33)).alloc (.cells #[.string a.name,.slice Aa a.args.length ca] 33)).heap[y.heap.size+1]? = some (.cells #[.string a.name,.slice Aa a.args.length ca] 33 (0,0))):=η (by have:=ω (y.alloc (.cells #[] 33)) (.cells #[.string a.name,.slice Aa a.args.length ca] 33); rw [World.size_alloc] at this; exact this);have cq:Hid (((y.alloc (.cells #[.string a.name,.slice Aa a.args.length ca] 33)).alloc (.cells #[] 33)).heap[y.heap.size]? = some (.cells #[.string a.name,.slice Aa a.args.length ca] 33 (0,0))):=η (by rw [Below.heap_alloc _ _ _ (by simp)]; exact ω _ _);have ac:=cg.out.below ak B1;have bf:=bB.out.below ak B1;have bX:=ak.below h2 B1;have aL:Below y.heap.size y ((y.alloc (.cells #[] 33)).alloc (.cells #[.string a.name,.slice Aa a.args.length ca] 33)).drew:=((ζ).alloc (by simp) _).drew
   have bk:=aX.empty (n:=2) (R:=aJ) (e:=33) (w:=((y.alloc (.cells #[] 33)).alloc (.cells #[.string a.name,.slice Aa a.args.length ca] 33)).drew) (g:=y.heap.size) (base:=y.heap.size) (show ((y.alloc (.cells #[] 33)).alloc (.cells #[.string a.name,.slice Aa a.args.length ca] 33)).heap[y.heap.size]? = _ by rw [Below.heap_alloc _ _ _ (by simp)]; exact ω _ _) (by omega);have c3:=η aL;have cr:=η (ac.below ak aL);have cv:Hid (Lies ((y.alloc (.cells #[] 33)).alloc (.cells #[.string a.name,.slice Aa a.args.length ca] 33)).drew (some ⟨b,o,none⟩) (L.take (k * 2))):=η (bi.out _ (B1.trans (aL.mono B1.size)));have cw:Hid (∀ c ∈ bt,(Value.slice (some ⟨y.heap.size,0,none⟩) 0 0).ownBlock ≠ some c):=η fun c hc=>aO bk.own (κ (a1 c (a7 c (am c hc))) B1.size)
   have cx:=η bk;clear aL bk;have aM:Below y.heap.size y ((y.alloc (.cells #[.string a.name,.slice Aa a.args.length ca] 33)).alloc (.cells #[] 33)).drew:=((ζ).alloc (by simp) _).drew;have bl:=aX.empty (n:=2) (R:=aJ) (e:=33) (w:=((y.alloc (.cells #[.string a.name,.slice Aa a.args.length ca] 33)).alloc (.cells #[] 33)).drew) (g:=y.heap.size+1) (base:=y.heap.size) (show ((y.alloc (.cells #[.string a.name,.slice Aa a.args.length ca] 33)).alloc (.cells #[] 33)).heap[y.heap.size+1]? = _ by have:=ω (y.alloc (.cells #[.string a.name,.slice Aa a.args.length ca] 33)) (.cells #[] 33); rw [World.size_alloc] at this; exact this) (by omega);have c4:=η aM;have cy:=η (ac.below ak aM);have cz:Hid (Lies ((y.alloc (.cells #[.string a.name,.slice Aa a.args.length ca] 33)).alloc (.cells #[] 33)).drew (some ⟨b,o,none⟩) (L.take (k * 2))):=η (bi.out _ (B1.trans (aM.mono B1.size)))
   have cA:Hid (∀ c ∈ bt,(Value.slice (some ⟨y.heap.size+1,0,none⟩) 0 0).ownBlock ≠ some c):=η fun c hc=>aO bl.own (κ (a1 c (a7 c (am c hc))) B1.size)
   have cB:=η bl;clear aM bl;have aR:Below y.heap.size y (y.alloc (.cells #[] 33)).drew:=(ζ).drew;have bn:=aX.empty (n:=2) (R:=aJ) (e:=33) (w:=(y.alloc (.cells #[] 33)).drew) (g:=y.heap.size) (base:=y.heap.size) (show (y.alloc (.cells #[] 33)).heap[y.heap.size]? = _ from ω _ _) (by omega);have c5:=η aR;have cD:=η (ac.below ak aR);have cE:Hid (Lies (y.alloc (.cells #[] 33)).drew (some ⟨b,o,none⟩) (L.take (k * 2))):=η (bi.out _ (B1.trans (aR.mono B1.size)));have cG:Hid (∀ c ∈ bt,(Value.slice (some ⟨y.heap.size,0,none⟩) 0 0).ownBlock ≠ some c):=η fun c hc=>aO bn.own (κ (a1 c (a7 c (am c hc))) B1.size)
   have cI:=η bn;clear aR bn;have c6:Hid (∀ w',Below y.heap.size y w'→Below w.heap.size w w'):=η fun w' a8=>B1.trans (a8.mono B1.size)
   have ar:=η bf;have bo:=η bX;clear ac bf bX;have d4:w.heap.size < y.heap.size:=lt_of_cell x0;have cJ:=η (own_ne (a:=y.heap.size+1) (b:=y.heap.size) (n:=0) (c:=0) (o:=0) (by omega));have cK:=η (own_ne (a:=y.heap.size) (b:=y.heap.size+1) (n:=0) (c:=0) (o:=0) (by omega));have cL:Hid (y.heap.size+1 < ((y.alloc (.cells #[] 33)).alloc (.cells #[.string a.name,.slice Aa a.args.length ca] 33)).drew.heap.size):=η (by simp);have cP:Hid (y.heap.size < ((y.alloc (.cells #[.string a.name,.slice Aa a.args.length ca] 33)).alloc (.cells #[] 33)).drew.heap.size):=η (by simp <;> omega);have H2:=η h2;have bp:Hid (∀ c ∈ b2,c < y.heap.size):=η fun c hc=>κ (b9 c hc) B1.size
   clear aq bc am bh a7 bz bA ab ag a9 h h2 b9;by_cases hce:cap=k
   case' pos=>
    have d5:(cap=k)=True:=eq_true hce;have c7:xs.length=k:=by omega
    have bg:L.drop (k * 2) = []:=List.length_eq_zero_iff.1 (by rw [bB.out.len,bR.out,c7]; simp);replace bO:Hid (∀ w',Below w.heap.size w w'→Lies w' (some ⟨b,o,none⟩) (L.drop (k * 2))):=η (fun w' _=>by rw [bg]; exact Lies.nil w' _);have d6:=η hce;clear c7 bg hce
   all_goals
    go_wp2
    go_region_held3 (fun w'=>w'.cell? ⟨w.heap.size,0,none⟩=some (.string a.name)∧w'.cell? ⟨w.heap.size,1,none⟩=some (.slice Aa a.args.length ca)) (first | go_keep | exact ⟨q0,q1⟩ | exact ⟨r0,r1⟩ | exact ⟨s0,s1⟩) ((first
     | (refine aV ?_ (.tmp 15) (.tmp 18) _ ?_ y.heap.size 33 i0 (.agg #[.string ⟨#[]⟩,.slice none 0 0]) 2 40 Tryz.underlying24 hi a4 a5 a6 rfl (Θ 1) ak (.slice (some ⟨y.heap.size,0,none⟩) 0 0) 0 [] [] [] ?_ cx.out rfl (some ⟨b,o,none⟩) k cap (L.take (k * 2)) _ _ ?_ cr.out af.out cv.out cw.out H5.out H6.out y y.heap.size c3.out ν c3.out.size ?_; rfl; rfl; rfl; rfl; intro A1 av w2 U I a2 aa; simp only [Nat.zero_add,List.nil_append] at U ⊢; have q0:=ξ I x0; have q1:=ξ I x1; have bq:Hid (w2.heap[y.heap.size+1]? = some (.cells #[.string a.name,.slice Aa a.args.length ca] 33 (0,0))):=η ((aa.block _ cL.out cJ.out).trans cp.out); clear aa; have aw:=η (aP bq.out); have az:=η (aT.dJ (n:=2) (R:=aJ) eH (ak.below bo.out I)); have aD:=η (fun c hc=>aO U.own (bp.out c hc)); have b1:=η U; have b5:=η I; have b6:=η a2; clear U I a2)
     | (refine aV ?_ (.tmp 15) (.tmp 18) _ ?_ y.heap.size 33 i0 (.agg #[.string ⟨#[]⟩,.slice none 0 0]) 2 40 Tryz.underlying24 hi a4 a5 a6 rfl (Θ 1) ak (.slice (some ⟨y.heap.size+1,0,none⟩) 0 0) 0 [] [] [] ?_ cB.out rfl (some ⟨b,o,none⟩) k cap (L.take (k * 2)) _ _ ?_ cy.out af.out cz.out cA.out H5.out H6.out y y.heap.size c4.out ν c4.out.size ?_; rfl; rfl; rfl; rfl; intro A1 av w2 U I a2 aa; simp only [Nat.zero_add,List.nil_append] at U ⊢; have q0:=ξ I x0; have q1:=ξ I x1; have bq:Hid (w2.heap[y.heap.size]? = some (.cells #[.string a.name,.slice Aa a.args.length ca] 33 (0,0))):=η ((aa.block _ cP.out cK.out).trans cq.out); clear aa; have aw:=η (aP bq.out); have az:=η (aT.dJ (n:=2) (R:=aJ) eH (ak.below bo.out I)); have aD:=η (fun c hc=>aO U.own (bp.out c hc)); have b1:=η U; have b5:=η I; have b6:=η a2; clear U I a2)
     | (refine aV ?_ (.tmp 15) (.tmp 18) _ ?_ y.heap.size 33 i0 (.agg #[.string ⟨#[]⟩,.slice none 0 0]) 2 40 Tryz.underlying24 hi a4 a5 a6 rfl (Θ 1) ak (.slice (some ⟨y.heap.size,0,none⟩) 0 0) 0 [] [] [] ?_ cI.out rfl (some ⟨b,o,none⟩) k cap (L.take (k * 2)) _ _ ?_ cD.out af.out cE.out cG.out H5.out H6.out y y.heap.size c5.out ν c5.out.size ?_; rfl; rfl; rfl; rfl; intro A1 av w2 U I a2 aa; simp only [Nat.zero_add,List.nil_append] at U ⊢; have q0:=ξ I x0; have q1:=ξ I x1; skip; clear aa; have ae:Below y.heap.size y (w2.alloc (.cells #[.string a.name,.slice Aa a.args.length ca] 33)):=I.alloc I.size _; have c8:=η ae; have c9:=η (U.below ak ((Below.refl w2.heap.size w2).alloc ν (.cells #[.string a.name,.slice Aa a.args.length ca] 33))); have cb:=η ae.size; have aw:=η (aP (ω w2 (.cells #[.string a.name,.slice Aa a.args.length ca] 33))); have az:=η (aT.dJ (n:=2) (R:=aJ) eH (ak.below bo.out ae)); have aD:=η (fun c hc=>aO U.own (bp.out c hc)); clear ae; have b1:=η U; have b5:=η I; have b6:=η a2; clear U I a2)
     | (refine aV ?_ (.tmp 19) (.tmp 21) _ ?_ y.heap.size 33 i0 (.agg #[.string ⟨#[]⟩,.slice none 0 0]) 2 40 Tryz.underlying24 hi a4 a5 a6 rfl (Θ 1) ak (.slice A1 k av) k _ _ _ ?_ b1.out af.out (some ⟨y.heap.size+1,0,none⟩) 1 1 _ [a] _ ?_ az.out rfl aw.out aD.out H8.out H9.out y y.heap.size b5.out ν b6.out ?_; rfl; rfl; rfl; rfl; intro A2 br w3 a0 J a3 aE; have r0:=ξ J x0; have r1:=ξ J x1; have bu:=η (ar.out.below ak J); have bv:=η (fun c hc=>aO a0.own (bj.out c hc)); have bw:=η a0; have b7:=η J; have bx:=η a3; clear a0 J a3 aE)
     | (refine aV ?_ (.tmp 19) (.tmp 21) _ ?_ y.heap.size 33 i0 (.agg #[.string ⟨#[]⟩,.slice none 0 0]) 2 40 Tryz.underlying24 hi a4 a5 a6 rfl (Θ 1) ak (.slice A1 k av) k _ _ _ ?_ b1.out af.out (some ⟨y.heap.size,0,none⟩) 1 1 _ [a] _ ?_ az.out rfl aw.out aD.out H8.out H9.out y y.heap.size b5.out ν b6.out ?_; rfl; rfl; rfl; rfl; intro A2 br w3 a0 J a3 aE; have r0:=ξ J x0; have r1:=ξ J x1; have bu:=η (ar.out.below ak J); have bv:=η (fun c hc=>aO a0.own (bj.out c hc)); have bw:=η a0; have b7:=η J; have bx:=η a3; clear a0 J a3 aE)
     | (refine aV ?_ (.tmp 19) (.tmp 21) _ ?_ y.heap.size 33 i0 (.agg #[.string ⟨#[]⟩,.slice none 0 0]) 2 40 Tryz.underlying24 hi a4 a5 a6 rfl (Θ 1) ak (.slice A1 k av) k _ _ _ ?_ c9.out af.out (some ⟨w2.heap.size,0,none⟩) 1 1 _ [a] _ ?_ az.out rfl aw.out aD.out H8.out H9.out y y.heap.size c8.out ν cb.out ?_; rfl; rfl; rfl; rfl; intro A2 br w3 a0 J a3 aE; have r0:=ξ J x0; have r1:=ξ J x1; have bu:=η (ar.out.below ak J); have bv:=η (fun c hc=>aO a0.own (bj.out c hc)); have bw:=η a0; have b7:=η J; have bx:=η a3; clear a0 J a3 aE)
     | (refine aV ?_ (.tmp 22) (.tmp 25) _ ?_ y.heap.size 33 i0 (.agg #[.string ⟨#[]⟩,.slice none 0 0]) 2 40 Tryz.underlying24 hi a4 a5 a6 rfl (Θ 1) ak (.slice A2 (k+1) br) (k+1) _ _ _ ?_ bw.out co.out _ (xs.length - k) (cap - k) (L.drop (k * 2)) _ _ ?_ bu.out bR.out (bO.out _ (c6.out _ b7.out)) bv.out cm.out cn.out y y.heap.size b7.out ν bx.out ?_; rfl; rfl; rfl; rfl; intro A3 d7 w4 cc b8 cQ _; have s0:=ξ b8 x0; have s1:=ξ b8 x1; have cd:=η cc; have cT:=η b8; clear cc b8 cQ)))
    all_goals
     obtain ⟨b4,ce,_⟩:=cd.out.slice;have HS:=η ce;clear ce;go_wp2;go_ret
     exact ⟨c6.out _ cT.out,_,b4,rfl,by rw [HX.out]; exact HS.out,.inr ⟨_,_,by rw [HX.out]; exact cd.out.X6 B1.size,fun c hc=>by
      rcases μ.1 hc with hc | hc
      rcases μ.1 hc with hc | hc
      ·exact μ.2 (.inl (ci.out c hc))
      ·exact μ.2 (.inr hc)
      ·exact μ.2 (.inl (cj.out c hc))⟩⟩
 ·rw [hh] at hk
  have HX:Hid (eG xs a=xs):=η (by rw [HD.out,hh]; rfl);clear hh HD
  go_enter Tryz.func49,Tryz.ntmps49
  go_wp2_with fail
  refine hk.mono ?_;rintro e y ⟨rfl,ao⟩;have B1:=hA.trans (ao.mono hA.size);have HR:=η (au.below h B1);clear hk h h2;go_wp2;go_ret;exact ⟨B1,_,bs,rfl,by rw [HX.out]; exact HR.out,.inl ⟨rfl,HX.out⟩⟩
theorem vW (xs:List A) (a:A) (v y I:Value) (bs J:List Nat) (w:World) (h:aC w [v] xs bs) (U:aJ w [y,I] a J) (hs:gm xs=true) (hn:xs.length≤16777216):
 Calls Tryz.prog 49 #[v,.agg #[y,I]] w (Jy (bs ++ J) xs (eG xs a) v w.heap.size w):=Bz xs a v y I bs J w h U hs (by omega)
theorem SC (xs:List A) (a:A) (v y I:Value) (bs U:List Nat) (w:World) (h:aC w [v] xs bs) (J:aJ w [y,I] a U) (hs:gm xs=true) (hn:xs.length≤16777216):
  Calls Tryz.prog 49 #[v,.agg #[y,I]] w (Reads aC (eG xs a) w.heap.size w):=
 (vW xs a v y I bs U w h J hs hn).mono fun e w' ⟨h1,v',bs',J,h3,_⟩=>⟨h1,v',bs',J,h3⟩
theorem Iy:(Tryz.prog.info? 40).map (fun i=>(i.zero,i.size,i.bytes))=some (some (.agg #[.string ⟨#[]⟩,.slice none 0 0,.slice none 0 0]),3,64):=by kernel_rfl
def D.mJ (L:List ByteArray) (p:Pt):Bool:=!p.no && decide (p.atom.name ∈ L)
structure D.uS (bc mc n:Nat) (L:List ByteArray) (f:ByteArray→Int) (w:World):Prop where
 c:w.heap[bc]? = some (.cells #[.map (some mc)] 116 (0,0))
 m:gB mc n L f w
 f:∀ s ∈ L,1≤f s∧f s≤1000000
theorem D.uS.grown {y mc n:Nat} {L:List ByteArray} {f:ByteArray→Int} {w w':World} {row:Option Nat} (h:uS y mc n L f w) (I:w.grownBy w' row) (h1:row ≠ some y) (J:row ≠ some mc):uS y mc n L f w':=
 ⟨(I.block _ (ψ h.c) (fun e=>h1 e.symm)).trans h.c,h.m.same (I.block _ h.m.lt (fun e=>J e.symm)),h.f⟩
theorem D.uS.later {y mc n:Nat} {L:List ByteArray} {f:ByteArray→Int} {w w':World} (h:uS y mc n L f w) (hb:Below w.heap.size w w'):uS y mc n L f w':=
 ⟨(hb.block _ (ψ h.c)).trans h.c,h.m.same (hb.block _ h.m.lt),h.f⟩
theorem Vk (bc mc n:Nat) (L:List ByteArray) (f:ByteArray→Int) (p:Pt) (v:Value) (w:World) (U:uS bc mc n L f w) (hs:p.atom.name.size≤maxLen):
  Calls Tryz.prog 195 #[.agg #[.bool p.no,.string p.atom.name,v],.pointer (some ⟨bc,0,none⟩)] w fun e w'=>e=.returned (.bool (mJ L p))∧Below w.heap.size w w':=by
 have hA:Below w.heap.size w (w.alloc (.cells #[.bool p.no,.string p.atom.name,v] 42)):=ζ;have HB:=η hA;have y:=U.later hA;have HM:=η y.m;have y0:=ai y.c (o:=0);have HS:=η hs;have a0:bc < w.heap.size:=ψ U.c;obtain ⟨no,nm,args⟩:=p;dsimp only at *
 cases no with
 | true=>
  clear U y hs
  go_enter Tryz.func195,Tryz.ntmps195
  go_wp2;go_ret;exact ⟨rfl,HB.out⟩
 | false=>
  by_cases I:nm ∈ L
  ·obtain ⟨z,hz⟩:∃ z,f nm=z:=⟨_,rfl⟩
   have J:=U.f _ I;rw [hz] at J;have HV:=HM.out.MN HS.out (show (if nm ∈ L then f nm else 0)=z by rw [if_pos I]; exact hz);have a1:=J.1;have HE:Hid (decide (0 < z)=mJ L ⟨false,nm,args⟩):=η (by rw [decide_eq_true (by omega)]; unfold mJ; simp; exact I);clear U y hs I hz J hA
   go_enter Tryz.func195,Tryz.ntmps195
   go_wp2;go_ret;exact ⟨aH HE.out,HB.out⟩
  ·have HV:=HM.out.MN HS.out (show (if nm ∈ L then f nm else 0)=0 by rw [if_neg I])
   have HE:Hid (false=mJ L ⟨false,nm,args⟩):=η (by unfold mJ; simp; exact I);clear U y hs I hA
   go_enter Tryz.func195,Tryz.ntmps195
   go_wp2;go_ret;exact ⟨aH HE.out,HB.out⟩
def D.Yz (b:Bool) (w:World) (e:Ending) (w':World):Prop:=(∃ z:Int,e=.returned (.int .i64 z)∧decide (0≤z)=b)∧Below w.heap.size w w'
theorem D.Vl {α:Type} (q:α→Bool) (ps:List α) (k:Nat) (h:k < ps.length):(ps.take (k+1)).any q=((ps.take k).any q || q ps[k]):=by
 rw [ρ h,List.any_append]; simp
theorem D.Xw {α:Type} (q:α→Bool) (ps:List α) (k:Nat) (h:k < ps.length) (hq:q ps[k]=true):ps.any q=true:=List.any_eq_true.2 ⟨_,δ h,hq⟩
theorem JE (bc mc n:Nat) (L:List ByteArray) (f:ByteArray→Int) (ps:List Pt) (v:Value) (bs:List Nat) (w:World) (hC:uS bc mc n L f w) (h:jd w [v] ps bs):
  Calls Tryz.prog 252 #[v,.func (.func 195) #[] #[.pointer (some ⟨bc,0,none⟩)]] w (Yz (ps.any (mJ L)) w):=by
 obtain ⟨Ad,cap,rfl,hl,hm⟩:=aj h;have a7:=ay (τ hl hm);have HC:=η hC;have HH:=η h;clear hm hl hC h
 go_enter Tryz.func252,Tryz.ntmps252
 go_wp2
 go_loopw [8] (fun i wr=>∃ k:Nat,k≤ps.length∧i=.int .i64 k∧(ps.take k).any (mJ L)=false∧Below w.heap.size w wr) (fun i _=>ps.length - (intOf i).toNat)
 case atStart=>exact ⟨0,ε,rfl,rfl,ϑ⟩
 case round=>
  obtain ⟨k,hk,rfl,J,hb⟩:=hrel;have HA:=η J;clear J;by_cases y:k < ps.length
  ·obtain ⟨b,o,Ae,ce,bk,rfl,_,d0,d1,d2,U,_⟩:=iV (dN.below HH.out hb) y
   have a8:(0:Int)≤(k:Int):=by omega
   have a4:(k:Int) < (ps.length:Int):=by omega
   have a0:ps[k].atom.name.size≤maxLen:=by obtain ⟨_,_,hs,_⟩:=U; exact hs
   have I:=Vk bc mc n L f ps[k] (.slice Ae ps[k].atom.args.length ce) wr (HC.out.later hb) a0;have a5:=η (Vl (mJ L) ps k y);have a6:=η (Xw (mJ L) ps k y);have a1:=η y;have HB:=η hb;clear U a0 hb;generalize mJ L ps[k]=q at *;generalize ps[k]=p at *;obtain ⟨no,nm,args⟩:=p;dsimp only at *;clear y
   go_wp2_with fail
   refine I.mono ?_;rintro e w' ⟨rfl,a2⟩;have a3:=η (HB.out.trans (a2.mono HB.out.size));clear I a2
   cases q with
   | false=>
    go_wp2;go_roundw
    case rel=>exact ⟨k+1,a1.out,by go_num,by rw [a5.out,HA.out]; rfl,a3.out⟩
    case measure=>have:=a1.out; simp [intOf]; omega
   | true=>
    go_wp2;go_ret;exact ⟨⟨_,rfl,by rw [a6.out trivial]; simp⟩,a3.out⟩
  ·have he:=η (show k=ps.length by omega)
   have a4:¬ (k:Int) < (ps.length:Int):=by omega
   go_wp2;go_ret;exact ⟨⟨_,rfl,by have:=HA.out; rw [he.out,ϕ ν] at this; rw [this]; rfl⟩,hb⟩
theorem DU (y mc n:Nat) (L:List ByteArray) (f:ByteArray→Int) (ps:List Pt) (v:Value) (bs:List Nat) (w:World) (I:uS y mc n L f w) (h:jd w [v] ps bs):
  Calls Tryz.prog 194 #[v,.func (.func 195) #[] #[.pointer (some ⟨y,0,none⟩)]] w fun e w'=>e=.returned (.bool (ps.any (mJ L)))∧Below w.heap.size w w':=by
 have U:=JE y mc n L f ps v bs w I h;clear h I
 go_enter Tryz.func194,Tryz.ntmps194
 go_wp2_with fail
 refine U.mono ?_;rintro e w' ⟨⟨z,rfl,J⟩,hb⟩;have HZ:=η J;clear J;go_wp2;go_ret;exact ⟨aH HZ.out,hb⟩
structure D.BA (w:World) (v:Value) (L:List Value) (xs:List Ru) (wr:World):Prop where
 coll:∃ bs,aX 3 iy (w.heap.size+1) 40 wr v L xs bs
 bel:Below w.heap.size w wr
theorem D.BA.below {w wr w':World} {v:Value} {L:List Value} {xs:List Ru} (h:BA w v L xs wr) (hb:Below wr.heap.size wr w'):BA w v L xs w':=
 ⟨by obtain ⟨bs,hc⟩:=h.coll; exact ⟨bs,hc.below aY hb⟩,h.bel.trans (hb.mono h.bel.size)⟩
theorem D.Dk {α:Type} (q:α→Bool) (ps:List α) (k:Nat) (h:k < ps.length):(ps.take (k+1)).filter q=if q ps[k]=true then (ps.take k).filter q ++ [ps[k]] else (ps.take k).filter q:=by
 rw [ρ h,List.filter_append]
 cases hq:q ps[k] <;> simp [hq]
theorem MR (mc n:Nat) (L:List ByteArray) (f:ByteArray→Int) (rs:List Ru) (v:Value) (bs:List Nat) (w:World) (h:dW w [v] rs bs) (hM:gB mc n L f w) (hf:∀ s ∈ L,1≤f s∧f s≤1000000) (bn:rs.length≤1000000):
  Calls Tryz.prog 135 #[v,.map (some mc)] w fun e w'=>Below w.heap.size w w'∧∃ Av cp b2,e=.returned (.slice Av (rs.filter fun r=>r.body.any (mJ L)).length cp)∧dW w' [.slice Av (rs.filter fun r=>r.body.any (mJ L)).length cp] (rs.filter fun r=>r.body.any (mJ L)) b2:=by
 obtain ⟨Ad,cap,rfl,hl,hm⟩:=aj h;have bo:=ay (τ hl hm);obtain ⟨i0,hi,az,aD,aE⟩:=info_parts Iy;have aa:Below w.heap.size w (w.alloc (.cells #[.map (some mc)] 116)):=ζ;have ab:Hid (uS w.heap.size mc n L f (w.alloc (.cells #[.map (some mc)] 116))):=η ⟨ω _ _,hM.same (aa.block _ hM.lt),hf⟩;have ac:Hid (BA w (.slice none 0 0) [] [] (w.alloc (.cells #[.map (some mc)] 116))):=η ⟨⟨[],aX.nil _⟩,aa⟩;have aL:=η hM.lt;have HH:=η h;have ae:Hid (∀ k,((rs.take k).filter fun r=>r.body.any (mJ L)).length≤1000000):=η fun k=>τ (List.length_filter_le _ _) (by rw [List.length_take]; omega)
 clear hl hm h hM hf
 go_enter Tryz.func135,Tryz.ntmps135
 go_wp2;generalize w.alloc (.cells #[.map (some mc)] 116)=w0 at *
 go_loopw [5,10] (fun v i wr=>∃ (k:Nat) (Av:Option Addr) (cp:Nat) (M:List Value) (xs:List Ru),k≤rs.length∧i=.int .i64 k∧v=.slice Av xs.length cp∧xs=(rs.take k).filter (fun r=>r.body.any (mJ L))∧BA w (.slice Av xs.length cp) M xs wr∧uS w.heap.size mc n L f wr) (fun _ i _=>rs.length - (intOf i).toNat)
 case atStart=>exact ⟨0,none,0,[],[],ε,rfl,rfl,rfl,ac.out,ab.out⟩
 case round=>
  obtain ⟨k,Av,cp,M,xs,hk,rfl,rfl,a2,hV,hC⟩:=hrel;clear ac ab;have HX:=η a2;have a3:Hid (xs.length≤1000000):=η (by rw [a2]; exact ae.out k);clear a2;have y0:=ai hC.c (o:=0);have bp:w.heap.size < wr.heap.size:=ψ hC.c;by_cases a0:k < rs.length
  ·obtain ⟨b,o,Ae,ce,Af,cf,bk,rfl,_,d0,d1,d2,a4,_⟩:=iI HH.out a0
   replace d0:=ξ hV.bel d0;replace d1:=ξ hV.bel d1;replace d2:=ξ hV.bel d2;have bq:(0:Int)≤(k:Int):=by omega
   have aM:(k:Int) < (rs.length:Int):=by omega
   have hA:Below wr.heap.size wr (wr.alloc (.cells #[.string rs[k].head.name,.slice Ae rs[k].head.args.length ce,.slice Af rs[k].body.length cf] 40)):=ζ;have a5:=aY.below (aY.below a4 hV.bel) hA;obtain ⟨e1,e2,_,_,af⟩:=iW a5;have I:=DU w.heap.size mc n L f rs[k].body (.slice Af rs[k].body.length cf) e2 _ (hC.later hA) af;have aR:=η (hV.below hA);have b1:=η (hC.later hA);have b3:=η a5;have b4:=η (ω wr (.cells #[.string rs[k].head.name,.slice Ae rs[k].head.args.length ce,.slice Af rs[k].body.length cf] 40));have ag:=η (Dk (fun r:Ru=>r.body.any (mJ L)) rs k a0);have a1:=η a0;have b5:Hid (∀ c ∈ bk,c < w.heap.size):=η (aY.lt a4);clear a4 a5 af hV hC hA;generalize (rs[k].body.any (mJ L))=q at *;generalize rs[k]=r at *;obtain ⟨⟨nm,args⟩,body⟩:=r;dsimp only at *;clear a0
   go_wp2_with fail
   refine I.mono ?_;rintro e w2 ⟨rfl,y⟩;have a6:=η (aR.out.below y);have am:=η (b1.out.later y);have ao:=η (aY.below b3.out y);have br:wr.heap.size < w2.heap.size:=by have:=y.size; simp at this; omega
   have a7:=(y.block wr.heap.size (by simp)).trans b4.out;have c0:=ai a7 (o:=0);have c1:=ai a7 (o:=1);have c2:=ai a7 (o:=2);clear I y
   cases q with
   | false=>
    have a8:Hid (xs=(rs.take (k+1)).filter fun r=>r.body.any (mJ L)):=η (by rw [ag.out,HX.out]; rfl);go_wp2;go_roundw
    case rel=>exact ⟨k+1,_,_,_,xs,a1.out,by go_num,rfl,a8.out,a6.out,am.out⟩
    case measure=>have:=a1.out; simp [intOf]; omega
   | true=>
    have a8:Hid (xs ++ [(⟨⟨nm,args⟩,body⟩:Ru)]=(rs.take (k+1)).filter fun r=>r.body.any (mJ L)):=η (by rw [ag.out,HX.out]; rfl);have J:Below w2.heap.size w2 (w2.alloc (.cells #[.string nm,.slice Ae args.length ce,.slice Af body.length cf] 40)):=ζ;obtain ⟨b6,a9⟩:=(a6.out.below J).coll;have HC:=η a9;have HB:=η (a6.out.below J).bel;have b7:=η (am.out.later J);have HR:Hid (aT 3 iy (w2.alloc (.cells #[.string nm,.slice Ae args.length ce,.slice Af body.length cf] 40)) [.string nm,.slice Ae args.length ce,.slice Af body.length cf] [(⟨⟨nm,args⟩,body⟩:Ru)] bk):=η (aT.dJ oW (aY.below ao.out J));have HL:Hid (Lies (w2.alloc (.cells #[.string nm,.slice Ae args.length ce,.slice Af body.length cf] 40)) (some ⟨w2.heap.size,0,none⟩) [.string nm,.slice Ae args.length ce,.slice Af body.length cf]):=η (aP (ω w2 _));have HF:Hid (∀ c,c < w.heap.size+1→(Value.slice Av xs.length cp).ownBlock ≠ some c):=η fun c hc=>aO a9.own hc
    have b8:Hid (mc < w.heap.size+1):=η (by have:=aL.out; omega);have U:w.heap.size+1≤(w2.alloc (.cells #[.string nm,.slice Ae args.length ce,.slice Af body.length cf] 40)).heap.size:=by simp; omega
    have b9:=η U;clear a9 J U d0 d1 d2
    go_wp2_with (at_builtin; refine bU rfl _ _ _ rfl (w.heap.size+1) 40 i0 (.agg #[.string ⟨#[]⟩,.slice none 0 0,.slice none 0 0]) 3 64 Tryz.underlying23 hi az aD aE rfl (by omega) aY (.slice Av xs.length cp) xs.length _ _ _ rfl HC.out rfl (some ⟨w2.heap.size,0,none⟩) 1 1 _ [⟨⟨nm,args⟩,body⟩] _ rfl HR.out rfl HL.out (fun c hc=>HF.out c (by have:=b5.out c hc; omega)) (by have:=a3.out; unfold maxLen; omega) (by have:=a3.out; omega) w w.heap.size HB.out (Nat.le_succ _) b9.out ?_; intro A2 bc w3 aq ar bf av)
    have bg:Hid (BA w (.slice A2 (xs ++ [(⟨⟨nm,args⟩,body⟩:Ru)]).length bc) (M ++ [.string nm,.slice Ae args.length ce,.slice Af body.length cf]) (xs ++ [(⟨⟨nm,args⟩,body⟩:Ru)]) w3):=η ⟨⟨_,by rw [χ]; exact aq⟩,ar⟩;have bh:=η (b7.out.grown av (HF.out _ (Nat.lt_succ_self _)) (HF.out _ b8.out));have aw:xs.length+1=(xs ++ [(⟨⟨nm,args⟩,body⟩:Ru)]).length:=by simp
    rw [aw];clear aq ar bf av HC HB HR HL HF aw;go_roundw
    case rel=>exact ⟨k+1,_,_,_,_,a1.out,by go_num,rfl,a8.out,bg.out,bh.out⟩
    case measure=>have:=a1.out; simp [intOf]; omega
  ·have he:k=rs.length:=by omega
   have aM:¬ (k:Int) < (rs.length:Int):=by omega
   have bi:Hid (xs=rs.filter fun r=>r.body.any (mJ L)):=η (by rw [HX.out,ϕ (Nat.le_of_eq he.symm)]);have HV:=η hV;clear hV hC HX a3 ae;go_wp2;go_ret;rw [← bi.out];obtain ⟨b6,bj⟩:=HV.out.coll;obtain ⟨b2,bl,_⟩:=bj.slice;exact ⟨HV.out.bel,_,_,rfl,b2,bl⟩
def D.SE (y:List A) (x:A):Bool:=y.all fun a=>!clash a x
def D.sJ (y:List A) (xs:List A):Bool:=xs.all (SE y)
def D.jU (rs:List Ru) (xs:List A):Bool:=decide (eU rs=0) && aU xs && sJ (aB rs) xs
theorem D.MS (y xs:List A) (k:Nat) (h:k < xs.length) (h0:sJ y (xs.take k)=true):sJ y (xs.take (k+1))=SE y xs[k]:=by
 unfold sJ at *;rw [ρ h,List.all_append,h0]; simp
theorem D.Qy (y xs:List A) (k:Nat) (h:k < xs.length) (h0:SE y xs[k]=false):sJ y xs=false:=List.all_eq_false.2 ⟨_,δ h,by simp [h0]⟩
theorem SG (rs:List Ru) (ys:List A) (v v2:Value) (bs b9:List Nat) (w:World) (h:dW w [v] rs bs) (h2:aC w [v2] ys b9) (hn:(aB rs).length≤1000000):
  Calls Tryz.prog 107 #[v,v2] w fun e w'=>e=.returned (.bool (sJ (aB rs) ys))∧Below w.heap.size w w':=by
 obtain ⟨Ad,cap,rfl,hl,hm⟩:=aj h;obtain ⟨Ay,cy,rfl,a4,a5⟩:=aj h2;have af:=ay (τ hl hm);have ab:=ay (τ a4 a5);have c1:=CX rs _ bs w h hn;generalize aB rs=xs at *;clear hl hm h a4 a5
 go_enter Tryz.func107,Tryz.ntmps107
 go_wp2_with fail
 refine c1.mono ?_;rintro e w1 ⟨hB,v1,b2,rfl,hx⟩;obtain ⟨A1,ac,rfl,a6,a7⟩:=aj hx;have ae:=ay (τ a6 a7);have h3:=au.below h2 hB;clear c1 a6 a7 h2;go_wp2
 go_loopw [6] (fun i wr=>∃ k:Nat,k≤ys.length∧i=.int .i64 k∧sJ xs (ys.take k)=true∧Below w1.heap.size w1 wr) (fun i _=>ys.length - (intOf i).toNat)
 case atStart=>exact ⟨0,ε,rfl,rfl,ϑ⟩
 case round=>
  obtain ⟨k,hk,rfl,a3,hb⟩:=hrel;have HA:=η a3;have HB:=η hb;clear a3 hb;by_cases a0:k < ys.length
  ·have ag:(0:Int)≤(k:Int):=by omega
   have aa:(k:Int) < (ys.length:Int):=by omega
   have HS:=η (MS xs ys k a0 HA.out);have U:=η (Qy xs ys k a0);go_wp2
   go_loopw [7] (fun i wr=>∃ j:Nat,j≤xs.length∧i=.int .i64 j∧(∀ i,(hi:i < xs.length)→i < j→clash xs[i] ys[k]=false)∧Below w1.heap.size w1 wr) (fun i _=>xs.length - (intOf i).toNat)
   case atStart=>exact ⟨0,ε,rfl,fun i _ h=>by omega,HB.out⟩
   case round=>
    obtain ⟨j,hj,rfl,hin,hb⟩:=hrel;have HI:=η hin;have a1:=η hb;clear hin;by_cases a2:j < xs.length
    ·have am:(0:Int)≤(j:Int):=by omega
     have ao:(j:Int) < (xs.length:Int):=by omega
     obtain ⟨b,o,Ae,ce,_,rfl,_,d0,d1,_,_⟩:=dL (au.below h3 hb) a0;obtain ⟨b',o',Af,cf,_,rfl,_,f0,f1,_,_⟩:=dL (au.below hx hb) a2;have I:Hid (clash xs[j] ys[k]=true→sJ xs ys=false):=η fun h=>U.out (List.all_eq_false.2 ⟨_,δ a2,by simp [h]⟩)
     have J:Hid (clash xs[j] ys[k]=false→∀ i,(hi:i < xs.length)→i < j+1→clash xs[i] ys[k]=false):=η fun h i h9 hi=>by
      by_cases e:i=j
      ·subst e; exact h
      ·exact HI.out i h9 (by omega)
     have HC:Hid (clash xs[j] ys[k]=(decide (xs[j].name=ys[k].name) && decide (xs[j].args.length ≠ ys[k].args.length))):=η rfl;clear hx hb h3 U HS;generalize ys[k]=y at *;generalize xs[j]=x at *;obtain ⟨xn,xa⟩:=x;obtain ⟨yn,ya⟩:=y;dsimp only at *;cases hs:(xn.toList == yn.toList)
     ·have HZ:=η (J.out (by rw [HC.out,← lu,hs]; rfl))
      clear J I HC HI HA HB;go_wp2
      go_quiet (fail)
      go_wp2;go_roundw
      case rel=>exact ⟨j+1,a2,by go_num,HZ.out,below_drewN a1.out _⟩
      case measure=>simp [intOf]; omega
     ·by_cases a8:xa.length=ya.length
      ·have HZ:=η (J.out (by rw [HC.out,a8]; simp))
       have hd:(xa.length:Int)=(ya.length:Int):=by omega
       clear J I HC HI HA HB;go_wp2
       go_quiet (fail)
       go_wp2;go_roundw
       case rel=>exact ⟨j+1,a2,by go_num,HZ.out,below_drewN a1.out _⟩
       case measure=>simp [intOf]; omega
      ·have HZ:=η (I.out (by rw [HC.out,← lu,hs]; simpa using a8))
       have hd:¬ (xa.length:Int)=(ya.length:Int):=by omega
       have a9:=η hB;clear J I HC HI HA HB;go_wp2
       go_quiet (fail)
       go_wp2;go_ret;exact ⟨aH HZ.out.symm,a9.out.trans ((below_drewN a1.out _).mono a9.out.size)⟩
    ·have he:j=xs.length:=by omega
     have aq:¬ (j:Int) < (xs.length:Int):=by omega
     have HZ:Hid (sJ xs (ys.take (k+1))=true):=η (HS.out.trans (ό.2 fun a ha=>by
      obtain ⟨i,hi,rfl⟩:=List.mem_iff_getElem.1 ha
      rw [HI.out i hi (by omega)]; rfl))
     clear HI HA HB he HS U;go_wp2;go_roundw
     case rel=>exact ⟨k+1,a0,by go_num,HZ.out,a1.out⟩
     case measure=>simp [intOf]; omega
  ·have he:k=ys.length:=by omega
   have aa:¬ (k:Int) < (ys.length:Int):=by omega
   have HZ:Hid (sJ xs ys=true):=η (by have:=HA.out; rw [he,ϕ ν] at this; exact this);clear HA hx h3;go_wp2;go_ret;exact ⟨aH HZ.out.symm,hB.trans (HB.out.mono hB.size)⟩
end Go.Proofs.YtkjinanbccloeaaGreatDoor
