/- Of the proof of FnEvalOnly: L3P, TouI, FitS. -/
import Derived.Test.YtkjinanbccloeaaGreatDoorB14
import Derived.Test.YtkjinanbccloeaaGreatDoorB16
set_option linter.unusedVariables false
set_option maxHeartbeats 4000000
set_option maxRecDepth 100000
namespace Go.Proofs.YtkjinanbccloeaaGreatDoor
open Go.RowKit D
attribute [local go_sem ↓] Go.wp_at_zero Go.wp_at_succ
theorem yt (xs:List A) (a:A) (v d0 d1:Value) (bs b2:List Nat) (w:World) (h:aU w [v] xs bs) (h2:aG w [d0,d1] a b2) (hs:fK xs=true) (hn:xs.length≤100000000000):
  Calls Tryz.prog 49 #[v,.agg #[d0,d1]] w (Ho (bs ++ b2) xs (dP xs a) v w.heap.size w):=by
 obtain ⟨Ad,cap,rfl,hl,hm⟩:=ak h;obtain ⟨Aa,ca,rfl,rfl⟩:=aY h2;obtain ⟨i0,hi,a4,a5,a6⟩:=info_parts sF;have cQ:=aA hm;have hA:Below w.heap.size w (w.alloc (.cells #[.string a.name,.slice Aa a.args.length ca] 33)):=ζ;have hk:=vV xs a _ _ _ bs b2 _ (au.below h hA) (aj.below h2 hA) hs;have HD:Hid (dP xs a=if hasB xs a then xs else xs.take (pl xs a) ++ a :: xs.drop (pl xs a)):=η rfl;cases hh:hasB xs a
 ·rw [hh] at hk
  have HX:Hid (dP xs a=xs.take (pl xs a) ++ [a] ++ xs.drop (pl xs a)):=η (by rw [HD.out,hh]; simp);have cT:pl xs a≤xs.length:=(oN hs a).2.2;clear hh HD;obtain ⟨L,b3,ab,a7,ag⟩:=pJ eU (by omega) h;obtain ⟨bt,bx,am⟩:=ab.take (k:=pl xs a) (by omega);obtain ⟨bd,bz,bg⟩:=ab.drop (k:=pl xs a) (by omega);have a1:=au.lt h;have b8:=aj.lt h2;generalize pl xs a=k at *;have ce:=η bx;have cg:Hid (∀ c ∈ bt,c ∈ bs):=η (fun c hc=>a7 c (am c hc));have ci:Hid (∀ c ∈ bd,c ∈ bs):=η (fun c hc=>a7 c (bg c hc));have bA:=η bz;have cU:Hid (∀ w',Below w.heap.size w w'→Lies w' Ad L):=η fun w' a8=>IY ab (by omega) ag a1 a8
  by_cases bB:xs = []
  ·subst bB
   have hx:=η (PO a _ _ _ bs b2 w h h2 hs);exact hx.out
  ·obtain ⟨b,o,rfl,cj,a9⟩:=ag bB
   have bE:=a1 b cj
   go_enter Tryz.func49,Tryz.ntmps49
   go_wp2_with fail
   refine hk.mono ?_;rintro e y ⟨rfl,ao⟩;have B1:=hA.trans (ao.mono hA.size);have x0:y.cell? ⟨w.heap.size,0,none⟩=some (.string a.name):=ξ ao (by go_simp);have x1:y.cell? ⟨w.heap.size,1,none⟩=some (.slice Aa a.args.length ca):=ξ ao (by go_simp);clear hk;have cV:(0:Int)≤(k:Int):=by omega
   have cW:(k:Int)≤(xs.length:Int):=by omega
   have cX:(k:Int)≤(cap:Int):=by omega
   have cY:(xs.length:Int)≤(cap:Int):=by omega
   have ap:(xs.take k).length=k:=by rw [List.length_take]; omega
   have b9:(xs.drop k).length=xs.length - k:=List.length_drop
   have bh:Hid (∀ w',Below w.heap.size w w'→Lies w' (some ⟨b,o,none⟩) (L.take (k * 2))):=η fun w' a8=>Lies.mk fun j u hj=>(a8.cell (p:=⟨b,o+j,none⟩) bE).trans (a9 j u (by
    have ck:=(List.getElem?_eq_some_iff.1 hj).1
    rw [List.getElem?_take_of_lt (by simp at ck; omega)] at hj; exact hj))
   have bL:Hid (∀ w',Below w.heap.size w w'→Lies w' (some ⟨b,o+k * 2,none⟩) (L.drop (k * 2))):=η fun w' a8=>Lies.mk fun j u hj=>(a8.cell (p:=⟨b,o+k * 2+j,none⟩) bE).trans (by rw [Nat.add_assoc]; exact a9 _ u (by rw [List.getElem?_drop] at hj; exact hj))
   have H5:Hid (0+k≤maxLen):=η (by unfold maxLen; omega);have H6:Hid ((0+k) * 40≤140737488355328):=η (by omega);have H8:Hid (k+1≤maxLen):=η (by unfold maxLen; omega);have H9:Hid ((k+1) * 40≤140737488355328):=η (by omega);have cl:Hid (k+1+(xs.length - k)≤maxLen):=η (by unfold maxLen; omega);have cm:Hid ((k+1+(xs.length - k)) * 40≤140737488355328):=η (by omega);have af:=η ap;have bO:=η b9;have cn:Hid ((xs.take k ++ [a]).length=k+1):=η (by rw [χ,ap]; rfl);have bi:Hid (∀ c ∈ bd,c < y.heap.size):=η fun c hc=>κ (a1 c (a7 c (bg c hc))) B1.size
   have co:Hid (((y.alloc (.cells #[] 33)).alloc (.cells #[.string a.name,.slice Aa a.args.length ca] 33)).heap[y.heap.size+1]? = some (.cells #[.string a.name,.slice Aa a.args.length ca] 33 (0,0))):=η (by have:=ω (y.alloc (.cells #[] 33)) (.cells #[.string a.name,.slice Aa a.args.length ca] 33); rw [World.size_alloc] at this; exact this);have cp:Hid (((y.alloc (.cells #[.string a.name,.slice Aa a.args.length ca] 33)).alloc (.cells #[] 33)).heap[y.heap.size]? = some (.cells #[.string a.name,.slice Aa a.args.length ca] 33 (0,0))):=η (by rw [Below.heap_alloc _ _ _ (by simp)]; exact ω _ _);have ac:=ce.out.below aj B1;have bc:=bA.out.below aj B1;have bR:=aj.below h2 B1;have aE:Below y.heap.size y ((y.alloc (.cells #[] 33)).alloc (.cells #[.string a.name,.slice Aa a.args.length ca] 33)).drew:=((ζ).alloc (by simp) _).drew
   have bj:=aZ.empty (n:=2) (R:=aG) (e:=33) (w:=((y.alloc (.cells #[] 33)).alloc (.cells #[.string a.name,.slice Aa a.args.length ca] 33)).drew) (g:=y.heap.size) (base:=y.heap.size) (show ((y.alloc (.cells #[] 33)).alloc (.cells #[.string a.name,.slice Aa a.args.length ca] 33)).heap[y.heap.size]? = _ by rw [Below.heap_alloc _ _ _ (by simp)]; exact ω _ _) (by omega);have bX:=η aE;have cq:=η (ac.below aj aE);have cr:Hid (Lies ((y.alloc (.cells #[] 33)).alloc (.cells #[.string a.name,.slice Aa a.args.length ca] 33)).drew (some ⟨b,o,none⟩) (L.take (k * 2))):=η (bh.out _ (B1.trans (aE.mono B1.size)));have cu:Hid (∀ c ∈ bt,(Value.slice (some ⟨y.heap.size,0,none⟩) 0 0).ownBlock ≠ some c):=η fun c hc=>aP bj.own (κ (a1 c (a7 c (am c hc))) B1.size)
   have cv:=η bj;clear aE bj;have aL:Below y.heap.size y ((y.alloc (.cells #[.string a.name,.slice Aa a.args.length ca] 33)).alloc (.cells #[] 33)).drew:=((ζ).alloc (by simp) _).drew;have bk:=aZ.empty (n:=2) (R:=aG) (e:=33) (w:=((y.alloc (.cells #[.string a.name,.slice Aa a.args.length ca] 33)).alloc (.cells #[] 33)).drew) (g:=y.heap.size+1) (base:=y.heap.size) (show ((y.alloc (.cells #[.string a.name,.slice Aa a.args.length ca] 33)).alloc (.cells #[] 33)).heap[y.heap.size+1]? = _ by have:=ω (y.alloc (.cells #[.string a.name,.slice Aa a.args.length ca] 33)) (.cells #[] 33); rw [World.size_alloc] at this; exact this) (by omega);have c3:=η aL;have cw:=η (ac.below aj aL);have cx:Hid (Lies ((y.alloc (.cells #[.string a.name,.slice Aa a.args.length ca] 33)).alloc (.cells #[] 33)).drew (some ⟨b,o,none⟩) (L.take (k * 2))):=η (bh.out _ (B1.trans (aL.mono B1.size)))
   have cy:Hid (∀ c ∈ bt,(Value.slice (some ⟨y.heap.size+1,0,none⟩) 0 0).ownBlock ≠ some c):=η fun c hc=>aP bk.own (κ (a1 c (a7 c (am c hc))) B1.size)
   have cz:=η bk;clear aL bk;have aM:Below y.heap.size y (y.alloc (.cells #[] 33)).drew:=(ζ).drew;have bl:=aZ.empty (n:=2) (R:=aG) (e:=33) (w:=(y.alloc (.cells #[] 33)).drew) (g:=y.heap.size) (base:=y.heap.size) (show (y.alloc (.cells #[] 33)).heap[y.heap.size]? = _ from ω _ _) (by omega);have c4:=η aM;have cA:=η (ac.below aj aM);have cB:Hid (Lies (y.alloc (.cells #[] 33)).drew (some ⟨b,o,none⟩) (L.take (k * 2))):=η (bh.out _ (B1.trans (aM.mono B1.size)));have cD:Hid (∀ c ∈ bt,(Value.slice (some ⟨y.heap.size,0,none⟩) 0 0).ownBlock ≠ some c):=η fun c hc=>aP bl.own (κ (a1 c (a7 c (am c hc))) B1.size)
   have cE:=η bl;clear aM bl;have c5:Hid (∀ w',Below y.heap.size y w'→Below w.heap.size w w'):=η fun w' a8=>B1.trans (a8.mono B1.size)
   have aq:=η bc;have bn:=η bR;clear ac bc bR;have d2:w.heap.size < y.heap.size:=lt_of_cell x0;have cG:=η (own_ne (a:=y.heap.size+1) (b:=y.heap.size) (n:=0) (c:=0) (o:=0) (by omega));have cI:=η (own_ne (a:=y.heap.size) (b:=y.heap.size+1) (n:=0) (c:=0) (o:=0) (by omega));have cJ:Hid (y.heap.size+1 < ((y.alloc (.cells #[] 33)).alloc (.cells #[.string a.name,.slice Aa a.args.length ca] 33)).drew.heap.size):=η (by simp);have cK:Hid (y.heap.size < ((y.alloc (.cells #[.string a.name,.slice Aa a.args.length ca] 33)).alloc (.cells #[] 33)).drew.heap.size):=η (by simp <;> omega);have H2:=η h2;have bo:Hid (∀ c ∈ b2,c < y.heap.size):=η fun c hc=>κ (b8 c hc) B1.size
   clear ap b9 am bg a7 bx bz ab ag a9 h h2 b8;by_cases hce:cap=k
   case' pos=>
    have d3:(cap=k)=True:=eq_true hce;have c6:xs.length=k:=by omega
    have bf:L.drop (k * 2) = []:=List.length_eq_zero_iff.1 (by rw [bA.out.len,bO.out,c6]; simp);replace bL:Hid (∀ w',Below w.heap.size w w'→Lies w' (some ⟨b,o,none⟩) (L.drop (k * 2))):=η (fun w' _=>by rw [bf]; exact Lies.nil w' _);have d4:=η hce;clear c6 bf hce
   all_goals
    go_wp2
    go_region_held3 (fun w'=>w'.cell? ⟨w.heap.size,0,none⟩=some (.string a.name)∧w'.cell? ⟨w.heap.size,1,none⟩=some (.slice Aa a.args.length ca)) (first | go_keep | exact ⟨q0,q1⟩ | exact ⟨r0,r1⟩ | exact ⟨s0,s1⟩) ((first
     | (refine aT ?_ (.tmp 15) (.tmp 18) _ ?_ y.heap.size 33 i0 (.agg #[.string ⟨#[]⟩,.slice none 0 0]) 2 40 Tryz.underlying24 hi a4 a5 a6 rfl (Θ 1) aj (.slice (some ⟨y.heap.size,0,none⟩) 0 0) 0 [] [] [] ?_ cv.out rfl (some ⟨b,o,none⟩) k cap (L.take (k * 2)) _ _ ?_ cq.out af.out cr.out cu.out H5.out H6.out y y.heap.size bX.out ν bX.out.size ?_; rfl; rfl; rfl; rfl; intro A1 ar w2 U I a2 aa; simp only [Nat.zero_add,List.nil_append] at U ⊢; have q0:=ξ I x0; have q1:=ξ I x1; have bp:Hid (w2.heap[y.heap.size+1]? = some (.cells #[.string a.name,.slice Aa a.args.length ca] 33 (0,0))):=η ((aa.block _ cJ.out cG.out).trans co.out); clear aa; have av:=η (aS bp.out); have aw:=η (aQ.dh (n:=2) (R:=aG) eU (aj.below bn.out I)); have az:=η (fun c hc=>aP U.own (bo.out c hc)); have aR:=η U; have b1:=η I; have b5:=η a2; clear U I a2)
     | (refine aT ?_ (.tmp 15) (.tmp 18) _ ?_ y.heap.size 33 i0 (.agg #[.string ⟨#[]⟩,.slice none 0 0]) 2 40 Tryz.underlying24 hi a4 a5 a6 rfl (Θ 1) aj (.slice (some ⟨y.heap.size+1,0,none⟩) 0 0) 0 [] [] [] ?_ cz.out rfl (some ⟨b,o,none⟩) k cap (L.take (k * 2)) _ _ ?_ cw.out af.out cx.out cy.out H5.out H6.out y y.heap.size c3.out ν c3.out.size ?_; rfl; rfl; rfl; rfl; intro A1 ar w2 U I a2 aa; simp only [Nat.zero_add,List.nil_append] at U ⊢; have q0:=ξ I x0; have q1:=ξ I x1; have bp:Hid (w2.heap[y.heap.size]? = some (.cells #[.string a.name,.slice Aa a.args.length ca] 33 (0,0))):=η ((aa.block _ cK.out cI.out).trans cp.out); clear aa; have av:=η (aS bp.out); have aw:=η (aQ.dh (n:=2) (R:=aG) eU (aj.below bn.out I)); have az:=η (fun c hc=>aP U.own (bo.out c hc)); have aR:=η U; have b1:=η I; have b5:=η a2; clear U I a2)
     | (refine aT ?_ (.tmp 15) (.tmp 18) _ ?_ y.heap.size 33 i0 (.agg #[.string ⟨#[]⟩,.slice none 0 0]) 2 40 Tryz.underlying24 hi a4 a5 a6 rfl (Θ 1) aj (.slice (some ⟨y.heap.size,0,none⟩) 0 0) 0 [] [] [] ?_ cE.out rfl (some ⟨b,o,none⟩) k cap (L.take (k * 2)) _ _ ?_ cA.out af.out cB.out cD.out H5.out H6.out y y.heap.size c4.out ν c4.out.size ?_; rfl; rfl; rfl; rfl; intro A1 ar w2 U I a2 aa; simp only [Nat.zero_add,List.nil_append] at U ⊢; have q0:=ξ I x0; have q1:=ξ I x1; skip; clear aa; have ae:Below y.heap.size y (w2.alloc (.cells #[.string a.name,.slice Aa a.args.length ca] 33)):=I.alloc I.size _; have c7:=η ae; have c8:=η (U.below aj ((Below.refl w2.heap.size w2).alloc ν (.cells #[.string a.name,.slice Aa a.args.length ca] 33))); have c9:=η ae.size; have av:=η (aS (ω w2 (.cells #[.string a.name,.slice Aa a.args.length ca] 33))); have aw:=η (aQ.dh (n:=2) (R:=aG) eU (aj.below bn.out ae)); have az:=η (fun c hc=>aP U.own (bo.out c hc)); clear ae; have aR:=η U; have b1:=η I; have b5:=η a2; clear U I a2)
     | (refine aT ?_ (.tmp 19) (.tmp 21) _ ?_ y.heap.size 33 i0 (.agg #[.string ⟨#[]⟩,.slice none 0 0]) 2 40 Tryz.underlying24 hi a4 a5 a6 rfl (Θ 1) aj (.slice A1 k ar) k _ _ _ ?_ aR.out af.out (some ⟨y.heap.size+1,0,none⟩) 1 1 _ [a] _ ?_ aw.out rfl av.out az.out H8.out H9.out y y.heap.size b1.out ν b5.out ?_; rfl; rfl; rfl; rfl; intro A2 bq w3 a0 J a3 aD; have r0:=ξ J x0; have r1:=ξ J x1; have br:=η (aq.out.below aj J); have bu:=η (fun c hc=>aP a0.own (bi.out c hc)); have bv:=η a0; have b6:=η J; have bw:=η a3; clear a0 J a3 aD)
     | (refine aT ?_ (.tmp 19) (.tmp 21) _ ?_ y.heap.size 33 i0 (.agg #[.string ⟨#[]⟩,.slice none 0 0]) 2 40 Tryz.underlying24 hi a4 a5 a6 rfl (Θ 1) aj (.slice A1 k ar) k _ _ _ ?_ aR.out af.out (some ⟨y.heap.size,0,none⟩) 1 1 _ [a] _ ?_ aw.out rfl av.out az.out H8.out H9.out y y.heap.size b1.out ν b5.out ?_; rfl; rfl; rfl; rfl; intro A2 bq w3 a0 J a3 aD; have r0:=ξ J x0; have r1:=ξ J x1; have br:=η (aq.out.below aj J); have bu:=η (fun c hc=>aP a0.own (bi.out c hc)); have bv:=η a0; have b6:=η J; have bw:=η a3; clear a0 J a3 aD)
     | (refine aT ?_ (.tmp 19) (.tmp 21) _ ?_ y.heap.size 33 i0 (.agg #[.string ⟨#[]⟩,.slice none 0 0]) 2 40 Tryz.underlying24 hi a4 a5 a6 rfl (Θ 1) aj (.slice A1 k ar) k _ _ _ ?_ c8.out af.out (some ⟨w2.heap.size,0,none⟩) 1 1 _ [a] _ ?_ aw.out rfl av.out az.out H8.out H9.out y y.heap.size c7.out ν c9.out ?_; rfl; rfl; rfl; rfl; intro A2 bq w3 a0 J a3 aD; have r0:=ξ J x0; have r1:=ξ J x1; have br:=η (aq.out.below aj J); have bu:=η (fun c hc=>aP a0.own (bi.out c hc)); have bv:=η a0; have b6:=η J; have bw:=η a3; clear a0 J a3 aD)
     | (refine aT ?_ (.tmp 22) (.tmp 25) _ ?_ y.heap.size 33 i0 (.agg #[.string ⟨#[]⟩,.slice none 0 0]) 2 40 Tryz.underlying24 hi a4 a5 a6 rfl (Θ 1) aj (.slice A2 (k+1) bq) (k+1) _ _ _ ?_ bv.out cn.out _ (xs.length - k) (cap - k) (L.drop (k * 2)) _ _ ?_ br.out bO.out (bL.out _ (c5.out _ b6.out)) bu.out cl.out cm.out y y.heap.size b6.out ν bw.out ?_; rfl; rfl; rfl; rfl; intro A3 d5 w4 cb b7 cL _; have s0:=ξ b7 x0; have s1:=ξ b7 x1; have cc:=η cb; have cP:=η b7; clear cb b7 cL)))
    all_goals
     obtain ⟨b4,cd,_⟩:=cc.out.slice;have HS:=η cd;clear cd;go_wp2;go_ret
     exact ⟨c5.out _ cP.out,_,b4,rfl,by rw [HX.out]; exact HS.out,.inr ⟨_,_,by rw [HX.out]; exact cc.out.Wh B1.size,fun c hc=>by
      rcases μ.1 hc with hc | hc
      rcases μ.1 hc with hc | hc
      ·exact μ.2 (.inl (cg.out c hc))
      ·exact μ.2 (.inr hc)
      ·exact μ.2 (.inl (ci.out c hc))⟩⟩
 ·rw [hh] at hk
  have HX:Hid (dP xs a=xs):=η (by rw [HD.out,hh]; rfl);clear hh HD
  go_enter Tryz.func49,Tryz.ntmps49
  go_wp2_with fail
  refine hk.mono ?_;rintro e y ⟨rfl,ao⟩;have B1:=hA.trans (ao.mono hA.size);have HR:=η (au.below h B1);clear hk h h2;go_wp2;go_ret;exact ⟨B1,_,bs,rfl,by rw [HX.out]; exact HR.out,.inl ⟨rfl,HX.out⟩⟩
theorem sK (xs:List A) (a:A) (v y I:Value) (bs J:List Nat) (w:World) (h:aU w [v] xs bs) (U:aG w [y,I] a J) (hs:fK xs=true) (hn:xs.length≤16777216):
 Calls Tryz.prog 49 #[v,.agg #[y,I]] w (Ho (bs ++ J) xs (dP xs a) v w.heap.size w):=yt xs a v y I bs J w h U hs (by omega)
theorem FX:(Tryz.prog.info? 40).map (fun i=>(i.zero,i.size,i.bytes))=some (some (.agg #[.string ⟨#[]⟩,.slice none 0 0,.slice none 0 0]),3,64):=by kernel_rfl
def D.kS (L:List ByteArray) (p:Pt):Bool:=!p.no && decide (p.atom.name ∈ L)
structure D.rD (bc mc n:Nat) (L:List ByteArray) (f:ByteArray→Int) (w:World):Prop where
 c:w.heap[bc]? = some (.cells #[.map (some mc)] 116 (0,0))
 m:gI mc n L f w
 f:∀ s ∈ L,1≤f s∧f s≤1000000
theorem D.rD.grown {y mc n:Nat} {L:List ByteArray} {f:ByteArray→Int} {w w':World} {row:Option Nat} (h:rD y mc n L f w) (I:w.grownBy w' row) (h1:row ≠ some y) (J:row ≠ some mc):rD y mc n L f w':=
 ⟨(I.block _ (ψ h.c) (fun e=>h1 e.symm)).trans h.c,h.m.same (I.block _ h.m.lt (fun e=>J e.symm)),h.f⟩
theorem D.rD.later {y mc n:Nat} {L:List ByteArray} {f:ByteArray→Int} {w w':World} (h:rD y mc n L f w) (I:Below w.heap.size w w'):rD y mc n L f w':=
 ⟨(I.block _ (ψ h.c)).trans h.c,h.m.same (I.block _ h.m.lt),h.f⟩
theorem Tn (bc mc n:Nat) (L:List ByteArray) (f:ByteArray→Int) (p:Pt) (v:Value) (w:World) (U:rD bc mc n L f w) (hs:p.atom.name.size≤maxLen):
  Calls Tryz.prog 195 #[.agg #[.bool p.no,.string p.atom.name,v],.pointer (some ⟨bc,0,none⟩)] w fun e w'=>e=.returned (.bool (kS L p))∧Below w.heap.size w w':=by
 have hA:Below w.heap.size w (w.alloc (.cells #[.bool p.no,.string p.atom.name,v] 42)):=ζ;have HB:=η hA;have y:=U.later hA;have HM:=η y.m;have y0:=ai y.c (o:=0);have HS:=η hs;have a0:bc < w.heap.size:=ψ U.c;obtain ⟨no,nm,args⟩:=p;dsimp only at *
 cases no with
 | true=>
  clear U y hs
  go_enter Tryz.func195,Tryz.ntmps195
  go_wp2;go_ret;exact ⟨rfl,HB.out⟩
 | false=>
  by_cases I:nm ∈ L
  ·obtain ⟨z,hz⟩:∃ z,f nm=z:=⟨_,rfl⟩
   have J:=U.f _ I;rw [hz] at J;have HV:=HM.out.JV HS.out (show (if nm ∈ L then f nm else 0)=z by rw [if_pos I]; exact hz);have a1:=J.1;have HE:Hid (decide (0 < z)=kS L ⟨false,nm,args⟩):=η (by rw [decide_eq_true (by omega)]; unfold kS; simp; exact I);clear U y hs I hz J hA
   go_enter Tryz.func195,Tryz.ntmps195
   go_wp2;go_ret;exact ⟨aJ HE.out,HB.out⟩
  ·have HV:=HM.out.JV HS.out (show (if nm ∈ L then f nm else 0)=0 by rw [if_neg I])
   have HE:Hid (false=kS L ⟨false,nm,args⟩):=η (by unfold kS; simp; exact I);clear U y hs I hA
   go_enter Tryz.func195,Tryz.ntmps195
   go_wp2;go_ret;exact ⟨aJ HE.out,HB.out⟩
def D.WT (b:Bool) (w:World) (e:Ending) (w':World):Prop:=(∃ z:Int,e=.returned (.int .i64 z)∧decide (0≤z)=b)∧Below w.heap.size w w'
theorem D.Tq {α:Type} (q:α→Bool) (ps:List α) (k:Nat) (h:k < ps.length):(ps.take (k+1)).any q=((ps.take k).any q || q ps[k]):=by
 rw [ρ h,List.any_append]; simp
theorem D.VB {α:Type} (q:α→Bool) (ps:List α) (k:Nat) (h:k < ps.length) (hq:q ps[k]=true):ps.any q=true:=List.any_eq_true.2 ⟨_,δ h,hq⟩
theorem Ht (bc mc n:Nat) (L:List ByteArray) (f:ByteArray→Int) (ps:List Pt) (v:Value) (bs:List Nat) (w:World) (hC:rD bc mc n L f w) (h:gW w [v] ps bs):
  Calls Tryz.prog 252 #[v,.func (.func 195) #[] #[.pointer (some ⟨bc,0,none⟩)]] w (WT (ps.any (kS L)) w):=by
 obtain ⟨Ad,cap,rfl,hl,hm⟩:=ak h;have a8:=aA (τ hl hm);have HC:=η hC;have HH:=η h;clear hm hl hC h
 go_enter Tryz.func252,Tryz.ntmps252
 go_wp2
 go_loopw [8] (fun i wr=>∃ k:Nat,k≤ps.length∧i=.int .i64 k∧(ps.take k).any (kS L)=false∧Below w.heap.size w wr) (fun i _=>ps.length - (intOf i).toNat)
 case atStart=>exact ⟨0,ε,rfl,rfl,ϑ⟩
 case round=>
  obtain ⟨k,hk,rfl,J,U⟩:=hrel;have HA:=η J;clear J;by_cases y:k < ps.length
  ·obtain ⟨b,o,Ae,ce,bk,rfl,_,d0,d1,d2,a0,_⟩:=iH (dw.below HH.out U) y
   have a9:(0:Int)≤(k:Int):=by omega
   have a5:(k:Int) < (ps.length:Int):=by omega
   have a1:ps[k].atom.name.size≤maxLen:=by obtain ⟨_,_,hs,_⟩:=a0; exact hs
   have I:=Tn bc mc n L f ps[k] (.slice Ae ps[k].atom.args.length ce) wr (HC.out.later U) a1;have a6:=η (Tq (kS L) ps k y);have a7:=η (VB (kS L) ps k y);have a2:=η y;have HB:=η U;clear a0 a1 U;generalize kS L ps[k]=q at *;generalize ps[k]=p at *;obtain ⟨no,nm,args⟩:=p;dsimp only at *;clear y
   go_wp2_with fail
   refine I.mono ?_;rintro e w' ⟨rfl,a3⟩;have a4:=η (HB.out.trans (a3.mono HB.out.size));clear I a3
   cases q with
   | false=>
    go_wp2;go_roundw
    case rel=>exact ⟨k+1,a2.out,by go_num,by rw [a6.out,HA.out]; rfl,a4.out⟩
    case measure=>have:=a2.out; simp [intOf]; omega
   | true=>
    go_wp2;go_ret;exact ⟨⟨_,rfl,by rw [a7.out trivial]; simp⟩,a4.out⟩
  ·have he:=η (show k=ps.length by omega)
   have a5:¬ (k:Int) < (ps.length:Int):=by omega
   go_wp2;go_ret;exact ⟨⟨_,rfl,by have:=HA.out; rw [he.out,ϕ ν] at this; rw [this]; rfl⟩,U⟩
theorem zK (y mc n:Nat) (L:List ByteArray) (f:ByteArray→Int) (ps:List Pt) (v:Value) (bs:List Nat) (w:World) (I:rD y mc n L f w) (h:gW w [v] ps bs):
  Calls Tryz.prog 194 #[v,.func (.func 195) #[] #[.pointer (some ⟨y,0,none⟩)]] w fun e w'=>e=.returned (.bool (ps.any (kS L)))∧Below w.heap.size w w':=by
 have U:=Ht y mc n L f ps v bs w I h;clear h I
 go_enter Tryz.func194,Tryz.ntmps194
 go_wp2_with fail
 refine U.mono ?_;rintro e w' ⟨⟨z,rfl,J⟩,hb⟩;have HZ:=η J;clear J;go_wp2;go_ret;exact ⟨aJ HZ.out,hb⟩
structure D.yu (w:World) (v:Value) (L:List Value) (xs:List Ru) (wr:World):Prop where
 coll:∃ bs,aZ 3 fG (w.heap.size+1) 40 wr v L xs bs
 bel:Below w.heap.size w wr
theorem D.yu.below {w wr w':World} {v:Value} {L:List Value} {xs:List Ru} (h:yu w v L xs wr) (y:Below wr.heap.size wr w'):yu w v L xs w':=
 ⟨by obtain ⟨bs,hc⟩:=h.coll; exact ⟨bs,hc.below aV y⟩,h.bel.trans (y.mono h.bel.size)⟩
theorem D.zo {α:Type} (q:α→Bool) (ps:List α) (k:Nat) (h:k < ps.length):(ps.take (k+1)).filter q=if q ps[k]=true then (ps.take k).filter q ++ [ps[k]] else (ps.take k).filter q:=by
 rw [ρ h,List.filter_append]
 cases hq:q ps[k] <;> simp [hq]
theorem JZ (mc n:Nat) (L:List ByteArray) (f:ByteArray→Int) (rs:List Ru) (v:Value) (bs:List Nat) (w:World) (h:dS w [v] rs bs) (hM:gI mc n L f w) (hf:∀ s ∈ L,1≤f s∧f s≤1000000) (bl:rs.length≤1000000):
  Calls Tryz.prog 135 #[v,.map (some mc)] w fun e w'=>Below w.heap.size w w'∧∃ Av cp b2,e=.returned (.slice Av (rs.filter fun r=>r.body.any (kS L)).length cp)∧dS w' [.slice Av (rs.filter fun r=>r.body.any (kS L)).length cp] (rs.filter fun r=>r.body.any (kS L)) b2:=by
 obtain ⟨Ad,cap,rfl,hl,hm⟩:=ak h;have bn:=aA (τ hl hm);obtain ⟨i0,hi,aw,az,aD⟩:=info_parts FX;have aa:Below w.heap.size w (w.alloc (.cells #[.map (some mc)] 116)):=ζ;have ab:Hid (rD w.heap.size mc n L f (w.alloc (.cells #[.map (some mc)] 116))):=η ⟨ω _ _,hM.same (aa.block _ hM.lt),hf⟩;have ac:Hid (yu w (.slice none 0 0) [] [] (w.alloc (.cells #[.map (some mc)] 116))):=η ⟨⟨[],aZ.nil _⟩,aa⟩;have aE:=η hM.lt;have HH:=η h;have ae:Hid (∀ k,((rs.take k).filter fun r=>r.body.any (kS L)).length≤1000000):=η fun k=>τ (List.length_filter_le _ _) (by rw [List.length_take]; omega)
 clear hl hm h hM hf
 go_enter Tryz.func135,Tryz.ntmps135
 go_wp2;generalize w.alloc (.cells #[.map (some mc)] 116)=w0 at *
 go_loopw [5,10] (fun v i wr=>∃ (k:Nat) (Av:Option Addr) (cp:Nat) (M:List Value) (xs:List Ru),k≤rs.length∧i=.int .i64 k∧v=.slice Av xs.length cp∧xs=(rs.take k).filter (fun r=>r.body.any (kS L))∧yu w (.slice Av xs.length cp) M xs wr∧rD w.heap.size mc n L f wr) (fun _ i _=>rs.length - (intOf i).toNat)
 case atStart=>exact ⟨0,none,0,[],[],ε,rfl,rfl,rfl,ac.out,ab.out⟩
 case round=>
  obtain ⟨k,Av,cp,M,xs,hk,rfl,rfl,a2,hV,hC⟩:=hrel;clear ac ab;have HX:=η a2;have a3:Hid (xs.length≤1000000):=η (by rw [a2]; exact ae.out k);clear a2;have y0:=ai hC.c (o:=0);have bo:w.heap.size < wr.heap.size:=ψ hC.c;by_cases a0:k < rs.length
  ·obtain ⟨b,o,Ae,ce,Af,cf,bk,rfl,_,d0,d1,d2,a4,_⟩:=gy HH.out a0
   replace d0:=ξ hV.bel d0;replace d1:=ξ hV.bel d1;replace d2:=ξ hV.bel d2;have bp:(0:Int)≤(k:Int):=by omega
   have aL:(k:Int) < (rs.length:Int):=by omega
   have hA:Below wr.heap.size wr (wr.alloc (.cells #[.string rs[k].head.name,.slice Ae rs[k].head.args.length ce,.slice Af rs[k].body.length cf] 40)):=ζ;have a5:=aV.below (aV.below a4 hV.bel) hA;obtain ⟨e1,e2,_,_,af⟩:=iO a5;have I:=zK w.heap.size mc n L f rs[k].body (.slice Af rs[k].body.length cf) e2 _ (hC.later hA) af;have aM:=η (hV.below hA);have aR:=η (hC.later hA);have b1:=η a5;have b3:=η (ω wr (.cells #[.string rs[k].head.name,.slice Ae rs[k].head.args.length ce,.slice Af rs[k].body.length cf] 40));have ag:=η (zo (fun r:Ru=>r.body.any (kS L)) rs k a0);have a1:=η a0;have b4:Hid (∀ c ∈ bk,c < w.heap.size):=η (aV.lt a4);clear a4 a5 af hV hC hA;generalize (rs[k].body.any (kS L))=q at *;generalize rs[k]=r at *;obtain ⟨⟨nm,args⟩,body⟩:=r;dsimp only at *;clear a0
   go_wp2_with fail
   refine I.mono ?_;rintro e w2 ⟨rfl,y⟩;have a6:=η (aM.out.below y);have am:=η (aR.out.later y);have ao:=η (aV.below b1.out y);have bq:wr.heap.size < w2.heap.size:=by have:=y.size; simp at this; omega
   have a7:=(y.block wr.heap.size (by simp)).trans b3.out;have c0:=ai a7 (o:=0);have c1:=ai a7 (o:=1);have c2:=ai a7 (o:=2);clear I y
   cases q with
   | false=>
    have a8:Hid (xs=(rs.take (k+1)).filter fun r=>r.body.any (kS L)):=η (by rw [ag.out,HX.out]; rfl);go_wp2;go_roundw
    case rel=>exact ⟨k+1,_,_,_,xs,a1.out,by go_num,rfl,a8.out,a6.out,am.out⟩
    case measure=>have:=a1.out; simp [intOf]; omega
   | true=>
    have a8:Hid (xs ++ [(⟨⟨nm,args⟩,body⟩:Ru)]=(rs.take (k+1)).filter fun r=>r.body.any (kS L)):=η (by rw [ag.out,HX.out]; rfl);have J:Below w2.heap.size w2 (w2.alloc (.cells #[.string nm,.slice Ae args.length ce,.slice Af body.length cf] 40)):=ζ;obtain ⟨b5,a9⟩:=(a6.out.below J).coll;have HC:=η a9;have HB:=η (a6.out.below J).bel;have b6:=η (am.out.later J);have HR:Hid (aQ 3 fG (w2.alloc (.cells #[.string nm,.slice Ae args.length ce,.slice Af body.length cf] 40)) [.string nm,.slice Ae args.length ce,.slice Af body.length cf] [(⟨⟨nm,args⟩,body⟩:Ru)] bk):=η (aQ.dh kY (aV.below ao.out J));have HL:Hid (Lies (w2.alloc (.cells #[.string nm,.slice Ae args.length ce,.slice Af body.length cf] 40)) (some ⟨w2.heap.size,0,none⟩) [.string nm,.slice Ae args.length ce,.slice Af body.length cf]):=η (aS (ω w2 _));have HF:Hid (∀ c,c < w.heap.size+1→(Value.slice Av xs.length cp).ownBlock ≠ some c):=η fun c hc=>aP a9.own hc
    have b7:Hid (mc < w.heap.size+1):=η (by have:=aE.out; omega);have U:w.heap.size+1≤(w2.alloc (.cells #[.string nm,.slice Ae args.length ce,.slice Af body.length cf] 40)).heap.size:=by simp; omega
    have b8:=η U;clear a9 J U d0 d1 d2
    go_wp2_with (at_builtin; refine bW rfl _ _ _ rfl (w.heap.size+1) 40 i0 (.agg #[.string ⟨#[]⟩,.slice none 0 0,.slice none 0 0]) 3 64 Tryz.underlying23 hi aw az aD rfl (by omega) aV (.slice Av xs.length cp) xs.length _ _ _ rfl HC.out rfl (some ⟨w2.heap.size,0,none⟩) 1 1 _ [⟨⟨nm,args⟩,body⟩] _ rfl HR.out rfl HL.out (fun c hc=>HF.out c (by have:=b4.out c hc; omega)) (by have:=a3.out; unfold maxLen; omega) (by have:=a3.out; omega) w w.heap.size HB.out (Nat.le_succ _) b8.out ?_; intro A2 b9 w3 ap aq bc ar)
    have bf:Hid (yu w (.slice A2 (xs ++ [(⟨⟨nm,args⟩,body⟩:Ru)]).length b9) (M ++ [.string nm,.slice Ae args.length ce,.slice Af body.length cf]) (xs ++ [(⟨⟨nm,args⟩,body⟩:Ru)]) w3):=η ⟨⟨_,by rw [χ]; exact ap⟩,aq⟩;have bg:=η (b6.out.grown ar (HF.out _ (Nat.lt_succ_self _)) (HF.out _ b7.out));have av:xs.length+1=(xs ++ [(⟨⟨nm,args⟩,body⟩:Ru)]).length:=by simp
    rw [av];clear ap aq bc ar HC HB HR HL HF av;go_roundw
    case rel=>exact ⟨k+1,_,_,_,_,a1.out,by go_num,rfl,a8.out,bf.out,bg.out⟩
    case measure=>have:=a1.out; simp [intOf]; omega
  ·have he:k=rs.length:=by omega
   have aL:¬ (k:Int) < (rs.length:Int):=by omega
   have bh:Hid (xs=rs.filter fun r=>r.body.any (kS L)):=η (by rw [HX.out,ϕ (Nat.le_of_eq he.symm)]);have HV:=η hV;clear hV hC HX a3 ae;go_wp2;go_ret;rw [← bh.out];obtain ⟨b5,bi⟩:=HV.out.coll;obtain ⟨b2,bj,_⟩:=bi.slice;exact ⟨HV.out.bel,_,_,rfl,b2,bj⟩
def D.J3 (y:List A) (x:A):Bool:=y.all fun a=>!clash a x
def D.mP (y:List A) (xs:List A):Bool:=xs.all (J3 y)
def D.eF (rs:List Ru) (xs:List A):Bool:=decide (dV rs=0) && jy xs && mP (aF rs) xs
theorem D.J4 (y xs:List A) (k:Nat) (h:k < xs.length) (h0:mP y (xs.take k)=true):mP y (xs.take (k+1))=J3 y xs[k]:=by
 unfold mP at *;rw [ρ h,List.all_append,h0]; simp
theorem D.Oy (y xs:List A) (k:Nat) (h:k < xs.length) (h0:J3 y xs[k]=false):mP y xs=false:=List.all_eq_false.2 ⟨_,δ h,by simp [h0]⟩
theorem P7 (rs:List Ru) (ys:List A) (v v2:Value) (bs b9:List Nat) (w:World) (h:dS w [v] rs bs) (h2:aU w [v2] ys b9) (hn:(aF rs).length≤1000000):
  Calls Tryz.prog 107 #[v,v2] w fun e w'=>e=.returned (.bool (mP (aF rs) ys))∧Below w.heap.size w w':=by
 obtain ⟨Ad,cap,rfl,hl,hm⟩:=ak h;obtain ⟨Ay,cy,rfl,a4,a5⟩:=ak h2;have af:=aA (τ hl hm);have ab:=aA (τ a4 a5);have c1:=y9 rs _ bs w h hn;generalize aF rs=xs at *;clear hl hm h a4 a5
 go_enter Tryz.func107,Tryz.ntmps107
 go_wp2_with fail
 refine c1.mono ?_;rintro e w1 ⟨hB,v1,b2,rfl,hx⟩;obtain ⟨A1,ac,rfl,a6,a7⟩:=ak hx;have ae:=aA (τ a6 a7);have h3:=au.below h2 hB;clear c1 a6 a7 h2;go_wp2
 go_loopw [6] (fun i wr=>∃ k:Nat,k≤ys.length∧i=.int .i64 k∧mP xs (ys.take k)=true∧Below w1.heap.size w1 wr) (fun i _=>ys.length - (intOf i).toNat)
 case atStart=>exact ⟨0,ε,rfl,rfl,ϑ⟩
 case round=>
  obtain ⟨k,hk,rfl,a3,hb⟩:=hrel;have HA:=η a3;have HB:=η hb;clear a3 hb;by_cases a0:k < ys.length
  ·have ag:(0:Int)≤(k:Int):=by omega
   have aa:(k:Int) < (ys.length:Int):=by omega
   have HS:=η (J4 xs ys k a0 HA.out);have U:=η (Oy xs ys k a0);go_wp2
   go_loopw [7] (fun i wr=>∃ j:Nat,j≤xs.length∧i=.int .i64 j∧(∀ i,(hi:i < xs.length)→i < j→clash xs[i] ys[k]=false)∧Below w1.heap.size w1 wr) (fun i _=>xs.length - (intOf i).toNat)
   case atStart=>exact ⟨0,ε,rfl,fun i _ h=>by omega,HB.out⟩
   case round=>
    obtain ⟨j,hj,rfl,hin,hb⟩:=hrel;have HI:=η hin;have a1:=η hb;clear hin;by_cases a2:j < xs.length
    ·have am:(0:Int)≤(j:Int):=by omega
     have ao:(j:Int) < (xs.length:Int):=by omega
     obtain ⟨b,o,Ae,ce,_,rfl,_,d0,d1,_,_⟩:=dJ (au.below h3 hb) a0;obtain ⟨b',o',Af,cf,_,rfl,_,f0,f1,_,_⟩:=dJ (au.below hx hb) a2;have I:Hid (clash xs[j] ys[k]=true→mP xs ys=false):=η fun h=>U.out (List.all_eq_false.2 ⟨_,δ a2,by simp [h]⟩)
     have J:Hid (clash xs[j] ys[k]=false→∀ i,(hi:i < xs.length)→i < j+1→clash xs[i] ys[k]=false):=η fun h i h9 hi=>by
      by_cases e:i=j
      ·subst e; exact h
      ·exact HI.out i h9 (by omega)
     have HC:Hid (clash xs[j] ys[k]=(decide (xs[j].name=ys[k].name) && decide (xs[j].args.length ≠ ys[k].args.length))):=η rfl;clear hx hb h3 U HS;generalize ys[k]=y at *;generalize xs[j]=x at *;obtain ⟨xn,xa⟩:=x;obtain ⟨yn,ya⟩:=y;dsimp only at *;cases hs:(xn.toList == yn.toList)
     ·have HZ:=η (J.out (by rw [HC.out,← nZ,hs]; rfl))
      clear J I HC HI HA HB;go_wp2
      go_quiet (fail)
      go_wp2;go_roundw
      case rel=>exact ⟨j+1,a2,by go_num,HZ.out,below_drewN a1.out _⟩
      case measure=>simp [intOf]; omega
     ·by_cases a8:xa.length=ya.length
      ·have HZ:=η (J.out (by rw [HC.out,a8]; simp))
       have hd:(xa.length:Int)=(ya.length:Int):=by omega
       clear J I HC HI HA HB;go_wp2
       go_quiet (fail)
       go_wp2;go_roundw
       case rel=>exact ⟨j+1,a2,by go_num,HZ.out,below_drewN a1.out _⟩
       case measure=>simp [intOf]; omega
      ·have HZ:=η (I.out (by rw [HC.out,← nZ,hs]; simpa using a8))
       have hd:¬ (xa.length:Int)=(ya.length:Int):=by omega
       have a9:=η hB;clear J I HC HI HA HB;go_wp2
       go_quiet (fail)
       go_wp2;go_ret;exact ⟨aJ HZ.out.symm,a9.out.trans ((below_drewN a1.out _).mono a9.out.size)⟩
    ·have he:j=xs.length:=by omega
     have ap:¬ (j:Int) < (xs.length:Int):=by omega
     have HZ:Hid (mP xs (ys.take (k+1))=true):=η (HS.out.trans (List.all_eq_true.2 fun a ha=>by
      obtain ⟨i,hi,rfl⟩:=List.mem_iff_getElem.1 ha
      rw [HI.out i hi (by omega)]; rfl))
     clear HI HA HB he HS U;go_wp2;go_roundw
     case rel=>exact ⟨k+1,a0,by go_num,HZ.out,a1.out⟩
     case measure=>simp [intOf]; omega
  ·have he:k=ys.length:=by omega
   have aa:¬ (k:Int) < (ys.length:Int):=by omega
   have HZ:Hid (mP xs ys=true):=η (by have:=HA.out; rw [he,ϕ ν] at this; exact this);clear HA hx h3;go_wp2;go_ret;exact ⟨aJ HZ.out.symm,hB.trans (HB.out.mono hB.size)⟩
end Go.Proofs.YtkjinanbccloeaaGreatDoor
