/- Of the proof of FnDelta: L3N, HeadsI, ArgsS, ArgsI. -/
import Derived.Test.YtkjinanbccloeaaGreatDoorA12
import Derived.Test.YtkjinanbccloeaaGreatDoorA11
set_option linter.unusedVariables false
set_option maxHeartbeats 2000000
set_option maxRecDepth 100000
namespace Go.Proofs.YtkjinanbccloeaaGreatDoor
open Go.RowKit D
attribute [local go_sem ↓] Go.wp_at_zero Go.wp_at_succ
def D.Il (bb:List Nat) (xs xs':List A) (v:Value) (B:Nat) (w:World) (e:Ending) (w':World):Prop:=
 Below B w w'∧∃ y bs,e=.returned y∧aB w' [y] xs' bs∧((y=v∧xs'=xs)∨∃ L I,aY 2 aJ B 33 w' y L xs' I∧∀ c ∈ I,c ∈ bb)
theorem D.aY.Xh {α:Type} {n:Nat} {R:Rel α} {base y e:Nat} {w:World} {v:Value} {L:List Value} {xs:List α} {bs:List Nat} (h:aY n R base e w v L xs bs) (hb:y≤base):aY n R y e w v L xs bs:=
 ⟨⟨h.own.1,h.own.2.imp id fun ⟨g,cap,I,e,J,r⟩=>⟨g,cap,I,e,τ hb J,r⟩⟩,h.row,h.far⟩
theorem QO (a:A) (v d0 d1:Value) (bs b2:List Nat) (w:World) (h:aB w [v] [] bs) (h2:aJ w [d0,d1] a b2) (hs:fU []=true):
  Calls Tryz.prog 49 #[v,.agg #[d0,d1]] w (Il (bs ++ b2) [] (eF [] a) v w.heap.size w):=by
 obtain ⟨Ad,cap,rfl,hl,hm⟩:=aj h;obtain ⟨Aa,ca,rfl,rfl⟩:=bG h2;obtain ⟨i0,hi,a3,a4,a5⟩:=info_parts qp;have c4:=aA hm;have hA:Below w.heap.size w (w.alloc (.cells #[.string a.name,.slice Aa a.args.length ca] 33)):=ζ;have hk:=xR [] a _ _ _ bs b2 _ (ak.below h hA) (au.below h2 hA) hs;have HX:Hid (eF [] a = [] ++ [a] ++ []):=η rfl;have e1:pl [] a=0:=rfl;have e2:hasB [] a=false:=rfl;rw [e1,e2] at hk;simp only [List.length_nil] at hk hl ⊢;have av:=au.lt h2;clear e1 e2
 go_enter Tryz.func49,Tryz.ntmps49
 go_wp2_with fail
 refine hk.mono ?_;rintro e y ⟨rfl,aw⟩;have B1:=hA.trans (aw.mono hA.size);have x0:y.cell? ⟨w.heap.size,0,none⟩=some (.string a.name):=ξ aw (by go_simp);have x1:y.cell? ⟨w.heap.size,1,none⟩=some (.slice Aa a.args.length ca):=ξ aw (by go_simp);clear hk;have H5:Hid (0+0≤maxLen):=η (by unfold maxLen; omega);have H6:Hid ((0+0) * 40≤140737488355328):=η (by omega);have H8:Hid (0+1≤maxLen):=η (by unfold maxLen; omega);have H9:Hid ((0+1) * 40≤140737488355328):=η (by omega);have bp:Hid (1+0≤maxLen):=η (by unfold maxLen; omega);have bq:Hid ((1+0) * 40≤140737488355328):=η (by omega);have c5:(0:Int)≤(cap:Int):=by omega
 have ae:Hid (∀ (v:Value),∀ c ∈ ([]:List Nat),v.ownBlock ≠ some c):=η (fun v c hc=>by simp at hc);have af:Hid (∀ w',aT 2 aJ w' [] [] []):=η (fun w'=>aT.nil);have ag:Hid (∀ w' Ad,Lies w' Ad []):=η (fun w' Ad=>Lies.nil w' Ad);have br:Hid (((y.alloc (.cells #[] 33)).alloc (.cells #[.string a.name,.slice Aa a.args.length ca] 33)).heap[y.heap.size+1]? = some (.cells #[.string a.name,.slice Aa a.args.length ca] 33 (0,0))):=η (by have:=ω (y.alloc (.cells #[] 33)) (.cells #[.string a.name,.slice Aa a.args.length ca] 33); rw [World.size_alloc] at this; exact this);have bt:Hid (((y.alloc (.cells #[.string a.name,.slice Aa a.args.length ca] 33)).alloc (.cells #[] 33)).heap[y.heap.size]? = some (.cells #[.string a.name,.slice Aa a.args.length ca] 33 (0,0))):=η (by rw [Below.heap_alloc _ _ _ (by simp)]; exact ω _ _);have b3:=au.below h2 B1
 have b5:Below y.heap.size y ((y.alloc (.cells #[] 33)).alloc (.cells #[.string a.name,.slice Aa a.args.length ca] 33)).drew:=((ζ).alloc (by simp) _).drew;have b6:=aY.empty (n:=2) (R:=aJ) (e:=33) (w:=((y.alloc (.cells #[] 33)).alloc (.cells #[.string a.name,.slice Aa a.args.length ca] 33)).drew) (g:=y.heap.size) (base:=y.heap.size) (show ((y.alloc (.cells #[] 33)).alloc (.cells #[.string a.name,.slice Aa a.args.length ca] 33)).heap[y.heap.size]? = _ by rw [Below.heap_alloc _ _ _ (by simp)]; exact ω _ _) (by omega);have b7:=η b5;have bu:=η b6;clear b5 b6;have b8:Below y.heap.size y ((y.alloc (.cells #[.string a.name,.slice Aa a.args.length ca] 33)).alloc (.cells #[] 33)).drew:=((ζ).alloc (by simp) _).drew
 have b9:=aY.empty (n:=2) (R:=aJ) (e:=33) (w:=((y.alloc (.cells #[.string a.name,.slice Aa a.args.length ca] 33)).alloc (.cells #[] 33)).drew) (g:=y.heap.size+1) (base:=y.heap.size) (show ((y.alloc (.cells #[.string a.name,.slice Aa a.args.length ca] 33)).alloc (.cells #[] 33)).heap[y.heap.size+1]? = _ by have:=ω (y.alloc (.cells #[.string a.name,.slice Aa a.args.length ca] 33)) (.cells #[] 33); rw [World.size_alloc] at this; exact this) (by omega);have bc:=η b8;have bv:=η b9;clear b8 b9;have bf:Below y.heap.size y (y.alloc (.cells #[] 33)).drew:=(ζ).drew;have bg:=aY.empty (n:=2) (R:=aJ) (e:=33) (w:=(y.alloc (.cells #[] 33)).drew) (g:=y.heap.size) (base:=y.heap.size) (show (y.alloc (.cells #[] 33)).heap[y.heap.size]? = _ from ω _ _) (by omega);have bh:=η bf;have bw:=η bg;clear bf bg;have bx:Hid (∀ w',Below y.heap.size y w'→Below w.heap.size w w'):=η fun w' bz=>B1.trans (bz.mono B1.size)
 have az:=η b3;clear b3;have c6:w.heap.size < y.heap.size:=lt_of_cell x0;have bA:=η (own_ne (a:=y.heap.size+1) (b:=y.heap.size) (n:=0) (c:=0) (o:=0) (by omega));have bB:=η (own_ne (a:=y.heap.size) (b:=y.heap.size+1) (n:=0) (c:=0) (o:=0) (by omega));have bE:Hid (y.heap.size+1 < ((y.alloc (.cells #[] 33)).alloc (.cells #[.string a.name,.slice Aa a.args.length ca] 33)).drew.heap.size):=η (by simp);have bL:Hid (y.heap.size < ((y.alloc (.cells #[.string a.name,.slice Aa a.args.length ca] 33)).alloc (.cells #[] 33)).drew.heap.size):=η (by simp <;> omega);have H2:=η h2;have aD:Hid (∀ c ∈ b2,c < y.heap.size):=η fun c hc=>κ (av c hc) B1.size
 clear h h2 av;by_cases hce:cap=0
 case' pos=>
  have bO:(cap=0)=True:=eq_true hce;have bR:=η hce;clear hce
 case' neg=>
  have bO:(cap=0)=False:=eq_false hce;have bR:=η hce;clear hce
 all_goals
  go_wp2
  go_region_held3? (fun w'=>w'.cell? ⟨w.heap.size,0,none⟩=some (.string a.name)∧w'.cell? ⟨w.heap.size,1,none⟩=some (.slice Aa a.args.length ca)) (first | go_keep | exact ⟨q0,q1⟩ | exact ⟨r0,r1⟩ | exact ⟨s0,s1⟩) ((first
   | (refine aV ?_ (.tmp 15) (.tmp 18) _ ?_ y.heap.size 33 i0 (.agg #[.string ⟨#[]⟩,.slice none 0 0]) 2 40 Tryz.underlying24 hi a3 a4 a5 rfl (Θ 1) au (.slice (some ⟨y.heap.size,0,none⟩) 0 0) 0 [] [] [] ?_ bu.out rfl ?_ 0 ?_ [] [] [] ?_ (af.out _) rfl (ag.out _ _) (ae.out _) H5.out H6.out y y.heap.size b7.out ν b7.out.size ?_; rfl; rfl; rfl; rotate_left 2; rfl; rotate_left; intro A1 a8 w2 U I a0 a6; have q0:=ξ I x0; have q1:=ξ I x1; have aE:Hid (w2.heap[y.heap.size+1]? = some (.cells #[.string a.name,.slice Aa a.args.length ca] 33 (0,0))):=η ((a6.block _ bE.out bA.out).trans br.out); clear a6; have a9:=η (aS aE.out); have aa:=η (aT.dH (n:=2) (R:=aJ) eY (au.below az.out I)); have ab:=η (fun c hc=>aO U.own (aD.out c hc)); have am:=η U; have ao:=η I; have aq:=η a0; clear U I a0)
   | (refine aV ?_ (.tmp 15) (.tmp 18) _ ?_ y.heap.size 33 i0 (.agg #[.string ⟨#[]⟩,.slice none 0 0]) 2 40 Tryz.underlying24 hi a3 a4 a5 rfl (Θ 1) au (.slice (some ⟨y.heap.size+1,0,none⟩) 0 0) 0 [] [] [] ?_ bv.out rfl ?_ 0 ?_ [] [] [] ?_ (af.out _) rfl (ag.out _ _) (ae.out _) H5.out H6.out y y.heap.size bc.out ν bc.out.size ?_; rfl; rfl; rfl; rotate_left 2; rfl; rotate_left; intro A1 a8 w2 U I a0 a6; have q0:=ξ I x0; have q1:=ξ I x1; have aE:Hid (w2.heap[y.heap.size]? = some (.cells #[.string a.name,.slice Aa a.args.length ca] 33 (0,0))):=η ((a6.block _ bL.out bB.out).trans bt.out); clear a6; have a9:=η (aS aE.out); have aa:=η (aT.dH (n:=2) (R:=aJ) eY (au.below az.out I)); have ab:=η (fun c hc=>aO U.own (aD.out c hc)); have am:=η U; have ao:=η I; have aq:=η a0; clear U I a0)
   | (refine aV ?_ (.tmp 15) (.tmp 18) _ ?_ y.heap.size 33 i0 (.agg #[.string ⟨#[]⟩,.slice none 0 0]) 2 40 Tryz.underlying24 hi a3 a4 a5 rfl (Θ 1) au (.slice (some ⟨y.heap.size,0,none⟩) 0 0) 0 [] [] [] ?_ bw.out rfl ?_ 0 ?_ [] [] [] ?_ (af.out _) rfl (ag.out _ _) (ae.out _) H5.out H6.out y y.heap.size bh.out ν bh.out.size ?_; rfl; rfl; rfl; rotate_left 2; rfl; rotate_left; intro A1 a8 w2 U I a0 a6; have q0:=ξ I x0; have q1:=ξ I x1; skip; clear a6; have a7:Below y.heap.size y (w2.alloc (.cells #[.string a.name,.slice Aa a.args.length ca] 33)):=I.alloc I.size _; have bi:=η a7; have bj:=η (U.below au ((Below.refl w2.heap.size w2).alloc ν (.cells #[.string a.name,.slice Aa a.args.length ca] 33))); have bk:=η a7.size; have a9:=η (aS (ω w2 (.cells #[.string a.name,.slice Aa a.args.length ca] 33))); have aa:=η (aT.dH (n:=2) (R:=aJ) eY (au.below az.out a7)); have ab:=η (fun c hc=>aO U.own (aD.out c hc)); clear a7; have am:=η U; have ao:=η I; have aq:=η a0; clear U I a0)
   | (refine aV ?_ (.tmp 19) (.tmp 21) _ ?_ y.heap.size 33 i0 (.agg #[.string ⟨#[]⟩,.slice none 0 0]) 2 40 Tryz.underlying24 hi a3 a4 a5 rfl (Θ 1) au (.slice A1 (0+0) a8) (0+0) _ _ _ ?_ am.out rfl (some ⟨y.heap.size+1,0,none⟩) 1 1 _ [a] _ ?_ aa.out rfl a9.out ab.out H8.out H9.out y y.heap.size ao.out ν aq.out ?_; rfl; rfl; rfl; rfl; intro A2 aL w3 a1 J a2 ac; have r0:=ξ J x0; have r1:=ξ J x1; have aM:=η a1; have aR:=η J; have b1:=η a2; clear a1 J a2 ac)
   | (refine aV ?_ (.tmp 19) (.tmp 21) _ ?_ y.heap.size 33 i0 (.agg #[.string ⟨#[]⟩,.slice none 0 0]) 2 40 Tryz.underlying24 hi a3 a4 a5 rfl (Θ 1) au (.slice A1 (0+0) a8) (0+0) _ _ _ ?_ am.out rfl (some ⟨y.heap.size,0,none⟩) 1 1 _ [a] _ ?_ aa.out rfl a9.out ab.out H8.out H9.out y y.heap.size ao.out ν aq.out ?_; rfl; rfl; rfl; rfl; intro A2 aL w3 a1 J a2 ac; have r0:=ξ J x0; have r1:=ξ J x1; have aM:=η a1; have aR:=η J; have b1:=η a2; clear a1 J a2 ac)
   | (refine aV ?_ (.tmp 19) (.tmp 21) _ ?_ y.heap.size 33 i0 (.agg #[.string ⟨#[]⟩,.slice none 0 0]) 2 40 Tryz.underlying24 hi a3 a4 a5 rfl (Θ 1) au (.slice A1 (0+0) a8) (0+0) _ _ _ ?_ bj.out rfl (some ⟨w2.heap.size,0,none⟩) 1 1 _ [a] _ ?_ aa.out rfl a9.out ab.out H8.out H9.out y y.heap.size bi.out ν bk.out ?_; rfl; rfl; rfl; rfl; intro A2 aL w3 a1 J a2 ac; have r0:=ξ J x0; have r1:=ξ J x1; have aM:=η a1; have aR:=η J; have b1:=η a2; clear a1 J a2 ac)
   | (refine aV ?_ (.tmp 22) (.tmp 25) _ ?_ y.heap.size 33 i0 (.agg #[.string ⟨#[]⟩,.slice none 0 0]) 2 40 Tryz.underlying24 hi a3 a4 a5 rfl (Θ 1) au (.slice A2 (0+0+1) aL) (0+0+1) _ _ _ ?_ aM.out rfl ?_ 0 ?_ [] [] [] ?_ (af.out _) rfl (ag.out _ _) (ae.out _) bp.out bq.out y y.heap.size aR.out ν b1.out ?_; rfl; rfl; rfl; rotate_left 2; rfl; rotate_left; intro A3 c7 w4 bl ar bX _; have s0:=ξ ar x0; have s1:=ξ ar x1; have bn:=η bl; have c3:=η ar; clear bl ar bX)))
  all_goals
   obtain ⟨b4,bo,_⟩:=bn.out.slice;have HS:=η bo;clear bo;go_wp2;go_ret;exact ⟨bx.out _ c3.out,_,b4,rfl,by rw [HX.out]; exact HS.out,.inr ⟨_,_,by rw [HX.out]; exact bn.out.Xh B1.size,fun c hc=>μ.2 (.inr (by simpa using hc))⟩⟩
def D.yB (L:List ByteArray) (s:ByteArray):Int:=(L.idxOf s:Nat)
theorem D.KW (rs:List Ru) (k:Nat) (h:k < rs.length):aK (rs.take (k+1))=gU (aK (rs.take k)) rs[k].head.name:=by
 unfold aK bK;rw [ρ h,List.map_append,List.foldl_append];rfl
theorem D.Wv {L:List ByteArray} {s:ByteArray} (h:s ∉ L):∀ t ∈ gU L s,(if t=s then (L.length:Int) else yB L t)=yB (gU L s) t:=fun t y=>by
 unfold yB gU at *;rw [if_neg h] at *;by_cases e:t=s
 ·subst e
  rw [if_pos rfl,List.idxOf_append,if_neg h];simp
 ·rw [if_neg e]
  have:t ∈ L:=by simpa [e] using y
  rw [List.idxOf_append,if_pos this]
theorem DW (rs:List Ru) (v:Value) (bs:List Nat) (w:World) (h:eu w [v] rs bs) (hf:rs.length≤1000000):
  Calls Tryz.prog 191 #[v] w fun e w'=>e=.returned (.map (some w.heap.size))∧(∃ n,iI w.heap.size n (aK rs) (yB (aK rs)) w')∧Below w.heap.size w w':=by
 obtain ⟨Ad,cap,rfl,hl,hm⟩:=aj h;have af:=aA (τ hl hm);have a8:=@run_makeMap Tryz.prog;have a2:=η (iI.made w (yB []));have a3:Below w.heap.size w (w.alloc (.map #[] 0)):=ζ;have a4:=η a3;clear hl hm a3
 go_enter Tryz.func191,Tryz.ntmps191
 go_wp2;generalize w.alloc (.map #[] 0)=w0 at *
 go_loopw [11] (fun i wr=>∃ k:Nat,k≤rs.length∧i=.int .i64 k∧iI w.heap.size k (aK (rs.take k)) (yB (aK (rs.take k))) wr∧Below w.heap.size w wr) (fun i _=>rs.length - (intOf i).toNat)
 case atStart=>exact ⟨0,ε,rfl,a2.out,a4.out⟩
 case round=>
  obtain ⟨k,hk,rfl,U,hB⟩:=hrel;clear a2 a4 a8;by_cases y:k < rs.length
  ·obtain ⟨b,o,Ae,ce,Af,cf,bk,rfl,_,d0,d1,d2,a5,_⟩:=iP h y
   replace d0:=ξ hB d0;replace d1:=ξ hB d1;replace d2:=ξ hB d2;have ag:(0:Int)≤(k:Int):=by omega
   have a9:(k:Int) < (rs.length:Int):=by omega
   have hA:Below wr.heap.size wr (wr.alloc (.cells #[.string rs[k].head.name,.slice Ae rs[k].head.args.length ce,.slice Af rs[k].body.length cf] 40)):=ζ;have I:=η y;have a0:=η (KW rs k y);have a1:Hid (rs[k].head.name.size≤maxLen):=η (by obtain ⟨_,_,_,_,_,hs,_⟩:=a5; exact hs);have HM:=η (U.below hA U.lt);have HB:=η (hB.trans (hA.mono hB.size));have aa:Hid ((aK (rs.take k)).length≤1000000):=η (by have:=U.XG; omega);have ab:k < maxLen:=by unfold maxLen; omega
   clear h a5 hA U hB;generalize rs[k]=r at *;generalize aK (rs.take k)=L at *;clear y;obtain ⟨⟨nm,args⟩,body⟩:=r;dsimp only at *;by_cases J:nm ∈ L
   ·have HD:Hid (decide (nm ∈ L)=true):=η (decide_eq_true J)
    have HV:Hid ((if nm ∈ L then yB L nm else 0)=yB L nm):=η (if_pos J);have HP:Hid (aK (rs.take (k+1))=L):=η (by rw [a0.out]; unfold gU; rw [if_pos J]);clear J a0
    go_wp2_with (first | (at_lookup; refine dL _ rfl _ _ _ rfl Tryz.underlying116 _ _ L _ rfl HM.out nm rfl a1.out true HD.out _ HV.out ?_) | go_in)
    go_roundw
    case rel=>exact ⟨k+1,I.out,by go_num,by rw [HP.out]; exact HM.out.mono (Nat.le_succ k),HB.out⟩
    case measure=>have:=I.out; simp [intOf]; omega
   ·have HD:Hid (decide (nm ∈ L)=false):=η (decide_eq_false J)
    have HV:Hid ((if nm ∈ L then yB L nm else 0)=0):=η (if_neg J);have HI:=η (Wv J);have am:=aa.out;clear J
    go_wp2_with (first | (at_lookup; refine dL _ rfl _ _ _ rfl Tryz.underlying116 _ _ L _ rfl HM.out nm rfl a1.out false HD.out _ HV.out ?_) | (at_len; refine iC _ rfl _ _ rfl Tryz.underlying116 _ _ L _ rfl HM.out ?_) | (at_mapUpdate; refine kY _ rfl _ _ _ _ rfl Tryz.underlying116 _ _ L _ rfl HM.out nm rfl a1.out _ rfl ab (by omega) ?_; intro w1 a6 a7) | go_in)
    have ac:=η (a6.congr HI.out);have ae:=η (HB.out.grown a7 (by have:=HB.out.size; exact this) fun j hj=>by cases hj; exact ν);clear a6 a7;go_roundw
    case rel=>exact ⟨k+1,I.out,by go_num,by rw [a0.out]; exact ac.out,ae.out⟩
    case measure=>have:=I.out; simp [intOf]; omega
  ·have he:k=rs.length:=by omega
   have a9:¬ (k:Int) < (rs.length:Int):=by omega
   subst he;rw [ϕ ν] at U;have HM:=η U;clear U h;go_wp2;go_ret;exact ⟨rfl,⟨_,HM.out⟩,hB⟩
theorem D.below_drewN {B:Nat} {a w:World} (h:Below B a w) (n:Nat):Below B a (w.drewN n):=⟨h.os,h.tape,h.output,h.size,h.block⟩
theorem D.pK (a b:ByteArray):(a.toList == b.toList)=decide (a=b):=by
 rw [ByteArray.toList_eq,ByteArray.toList_eq,Bool.eq_iff_iff];simp only [beq_iff_eq,decide_eq_true_eq];exact ⟨bytes_inj,fun h=>by rw [h]⟩
theorem OB (rs:List Ru) (v:Value) (bs:List Nat) (w:World) (h:eu w [v] rs bs) (hn:(aI rs).length≤1000000):
  Calls Tryz.prog 167 #[v] w fun e w'=>e=.returned (.bool (kC (aI rs)))∧Below w.heap.size w w':=by
 obtain ⟨Ad,cap,rfl,hl,hm⟩:=aj h;have ac:=aA (τ hl hm);have c1:=Bf rs _ bs w h hn;generalize aI rs=xs at *;clear hl hm h
 go_enter Tryz.func167,Tryz.ntmps167
 go_wp2_with fail
 refine c1.mono ?_;rintro e w1 ⟨hB,v1,b2,rfl,hx⟩;obtain ⟨A1,aa,rfl,a2,a3⟩:=aj hx;have ab:=aA (τ a2 a3);clear c1 a2 a3;go_wp2
 go_loopw [4] (fun i wr=>∃ k:Nat,k≤xs.length∧i=.int .i64 k∧(∀ i,(hi:i < xs.length)→i < k→∀ j,(hj:j < i)→clash xs[i] (xs[j]'(by omega))=false)∧Below w1.heap.size w1 wr) (fun i _=>xs.length - (intOf i).toNat)
 case atStart=>exact ⟨0,ε,rfl,fun i _ h=>by omega,ϑ⟩
 case round=>
  obtain ⟨k,hk,rfl,a0,hb⟩:=hrel;have HA:=η a0;have HB:=η hb;clear a0 hb;by_cases a1:k < xs.length
  ·have ae:(0:Int)≤(k:Int):=by omega
   have a8:(k:Int) < (xs.length:Int):=by omega
   go_wp2
   go_loopw [5] (fun i wr=>∃ j:Nat,j≤k∧i=.int .i64 j∧(∀ i,(hi:i < xs.length)→i < j→clash xs[k] xs[i]=false)∧Below w1.heap.size w1 wr) (fun i _=>k - (intOf i).toNat)
   case atStart=>exact ⟨0,ε,rfl,fun i _ h=>by omega,HB.out⟩
   case round=>
    obtain ⟨j,hj,rfl,hin,hb⟩:=hrel;have HI:=η hin;have U:=η hb;clear hin;by_cases a4:j < k
    ·have af:(0:Int)≤(j:Int):=by omega
     have a9:(j:Int) < (k:Int):=by omega
     have ag:(j:Int) < (xs.length:Int):=by omega
     have a5:j < xs.length:=by omega
     obtain ⟨b,o,Ae,ce,_,rfl,_,d0,d1,_,_⟩:=dU (ak.below hx hb) a1;obtain ⟨b',o',Af,cf,_,e9,_,f0,f1,_,_⟩:=dU (ak.below hx hb) a5;obtain ⟨rfl,rfl⟩:b=b'∧o=o':=by simpa using e9
     have J:=η (Uh (xs:=xs) a1 a5)
     have I:Hid (clash xs[k] xs[j]=false→∀ i,(hi:i < xs.length)→i < j+1→clash xs[k] xs[i]=false):=η fun h i h9 hi=>by
      by_cases e:i=j
      ·subst e; exact h
      ·exact HI.out i h9 (by omega)
     have HC:Hid (clash xs[k] xs[j]=(decide (xs[k].name=xs[j].name) && decide (xs[k].args.length ≠ xs[j].args.length))):=η rfl;clear hx hb e9;generalize xs[k]=x at *;generalize xs[j]=y at *;obtain ⟨xn,xa⟩:=x;obtain ⟨yn,ya⟩:=y;dsimp only at *;cases hs:(xn.toList == yn.toList)
     ·have HZ:=η (I.out (by rw [HC.out,← pK,hs]; rfl))
      clear I J HC HI HA HB;go_wp2
      go_quiet (fail)
      go_wp2;go_roundw
      case rel=>exact ⟨j+1,a4,by go_num,HZ.out,below_drewN U.out _⟩
      case measure=>simp [intOf]; omega
     ·by_cases a6:xa.length=ya.length
      ·have HZ:=η (I.out (by rw [HC.out,a6]; simp))
       have hd:(xa.length:Int)=(ya.length:Int):=by omega
       clear I J HC HI HA HB;go_wp2
       go_quiet (fail)
       go_wp2;go_roundw
       case rel=>exact ⟨j+1,a4,by go_num,HZ.out,below_drewN U.out _⟩
       case measure=>simp [intOf]; omega
      ·have HZ:=η (J.out (by rw [HC.out,← pK,hs]; simpa using a6))
       have hd:¬ (xa.length:Int)=(ya.length:Int):=by omega
       have a7:=η hB;clear I J HC HI HA HB;go_wp2
       go_quiet (fail)
       go_wp2;go_ret;exact ⟨aG HZ.out.symm,a7.out.trans ((below_drewN U.out _).mono a7.out.size)⟩
    ·have he:j=k:=by omega
     have a9:¬ (j:Int) < (k:Int):=by omega
     have HZ:Hid (∀ i,(hi:i < xs.length)→i < k+1→∀ j,(hj:j < i)→clash xs[i] (xs[j]'(by omega))=false):=η fun i hi h1 j2 h2=>by
      by_cases e:i=k
      ·subst e; exact HI.out j2 (by omega) (by omega)
      ·exact HA.out i hi (by omega) j2 h2
     clear HI HA HB he;go_wp2;go_roundw
     case rel=>exact ⟨k+1,a1,by go_num,HZ.out,U.out⟩
     case measure=>simp [intOf]; omega
  ·have he:k=xs.length:=by omega
   have a8:¬ (k:Int) < (xs.length:Int):=by omega
   have HZ:Hid (kC xs=true):=η (QE fun i hi j hj=>HA.out i hi (by omega) j hj);clear HA hx;go_wp2;go_ret;exact ⟨aG HZ.out.symm,hB.trans (HB.out.mono hB.size)⟩
structure D.zD (w:World) (B n:Nat) (st:List ByteArray × (ByteArray→Int) × Bool) (wr:World):Prop where
 map:iI B n st.1 st.2.1 wr
 bm:wr.heap[B+1]? = some (.cells #[.map (some B)] 116 (0,0))
 bb:wr.heap[B+2]? = some (.cells #[.bool st.2.2] 4 (0,0))
 bel:Below B w wr
theorem D.zD.later {w wr w':World} {B n:Nat} {st:List ByteArray × (ByteArray→Int) × Bool} (h:zD w B n st wr) (hb:Below wr.heap.size wr w'):zD w B n st w':=
 ⟨h.map.below hb h.map.lt,(hb.block _ (ψ h.bm)).trans h.bm,(hb.block _ (ψ h.bb)).trans h.bb,h.bel.trans (hb.mono (Nat.le_of_lt (Nat.lt_of_le_of_lt (Nat.le_add_right _ _) (ψ h.bm))))⟩
theorem note_any (a:A) (c0 c1:Value) (bs:List Nat) (w0 w:World) (B n:Nat) (st:List ByteArray × (ByteArray→Int) × Bool) (h:aJ w [c0,c1] a bs) (hI:zD w0 B n st w) (hB:w0.heap.size≤B)
  (hn:n+1≤1000000) (ha:a.args.length≤1000000) (hr:∀ s ∈ st.1,0≤st.2.1 s∧st.2.1 s≤1000000):
  Calls Tryz.prog 131 #[.agg #[c0,c1],.pointer (some ⟨B+1,0,none⟩),.pointer (some ⟨B+2,0,none⟩)] w fun e w'=>e=.returned (.tuple #[])∧zD w0 B (n+1) (kX st a) w'∧∀ c,c < w.heap.size→c ≠ B→c ≠ B+2→w'.heap[c]? = w.heap[c]?:=by
 obtain ⟨s,a2,a3,ht⟩:=h;simp only [List.cons.injEq,and_true] at a2;obtain ⟨rfl,rfl⟩:=a2;obtain ⟨Ad,cap,rfl,hl,hm⟩:=aj ht;have a6:=aA (τ hl hm);obtain ⟨nm,args⟩:=a;obtain ⟨L,f,al⟩:=st;dsimp only at *;have a7:=ψ hI.bm;have a8:=ψ hI.bb;have cM:w.cell? ⟨B+1,0,none⟩=some (.map (some B)):=cell_of_one hI.bm;have cB:w.cell? ⟨B+2,0,none⟩=some (.bool al):=cell_of_one hI.bb;have fB:w.frozen? ⟨B+2,0,none⟩=false:=free_of_one hI.bb;have hM:=hI.map;have HI:=η hI;have y:=η a3;have hA:Below w.heap.size w (w.alloc (.cells #[.string nm,.slice Ad args.length cap] 33)):=ζ;have I:=η (hM.below hA hM.lt);have a4:=η (hI.later hA);have HR:=η hr;clear hl hm ht hI hA hM hr
 have put:∀ w1,iI B (n+1) (gU L nm) (fun t=>if t=nm then (args.length:Int) else f t) w1→(w.alloc (.cells #[.string nm,.slice Ad args.length cap] 33)).grownBy w1 (some B)→¬ (nm ∈ L∧f nm ≠ args.length)→zD w0 B (n+1) (kX (L,f,al) ⟨nm,args⟩) w1∧∀ c,c < w.heap.size→c ≠ B→c ≠ B+2→w1.heap[c]? = w.heap[c]?:=fun w1 h1 h2 h3=>by
  have e:kX (L,f,al) ⟨nm,args⟩=(gU L nm,fun t=>if t=nm then (args.length:Int) else f t,al):=by unfold kX; rw [if_neg h3]
  have J:=a4.out;rw [e];refine ⟨?_,fun c hc h4 h5=>(h2.block c (by simp; omega) (by simpa using h4)).trans (Below.heap_alloc _ _ _ hc)⟩;exact ⟨h1,(h2.block _ (ψ J.bm) (by simp)).trans J.bm,(h2.block _ (ψ J.bb) (by simp)).trans J.bb,J.bel.grown h2 (by have:=ψ J.bm; omega) fun j hj=>by cases hj; exact ν⟩
 have HP:=η put;clear put;by_cases U:nm ∈ L
 ·have hd:decide (nm ∈ L)=true:=decide_eq_true U
  have hv:(if nm ∈ L then f nm else 0)=f nm:=if_pos U;have a5:=HR.out nm U;by_cases hE:f nm=args.length
  ·have HN:Hid (¬ (nm ∈ L∧f nm ≠ args.length)):=η fun h=>h.2 hE
   have HD:=η hd;have HV:Hid ((if nm ∈ L then f nm else 0)=(args.length:Int)):=η (hv.trans hE);clear U hd hv a5 hE HR
   go_enter Tryz.func131,Tryz.ntmps131
   go_wp2_with (first | (at_lookup; refine dL _ rfl _ _ _ rfl Tryz.underlying116 B n L f rfl I.out nm rfl y.out true HD.out _ HV.out ?_) | (at_mapUpdate; refine kY _ rfl _ _ _ _ rfl Tryz.underlying116 B n L f rfl I.out nm rfl y.out _ rfl (by unfold maxLen; omega) (by omega) ?_; intro w1 a0 a1) | go_in)
   go_end0
   exact ⟨rfl,HP.out w1 a0 a1 HN.out⟩
  ·have HN:Hid (kX (L,f,al) ⟨nm,args⟩=(L,f,false)):=η (by unfold kX; rw [if_pos ⟨U,hE⟩])
   have HD:=η hd;have HV:=η hv
   have HS:Hid (zD w0 B (n+1) (L,f,false) ((w.setCell ⟨B+2,0,none⟩ (.bool false)).alloc (.cells #[.string nm,.slice Ad args.length cap] 33))):=η (by
    have J:=HI.out
    have h1:zD w0 B (n+1) (L,f,false) (w.setCell ⟨B+2,0,none⟩ (.bool false)):=
     ⟨(J.map.mono (Nat.le_succ n)).setCell (by simp) _,(π _ _ _ _ (by simp)).trans J.bm,one_setCell J.bb,J.bel.setCell (by simp) _⟩
    exact h1.later (ζ))
   clear U hd hv HR HP
   go_enter Tryz.func131,Tryz.ntmps131
   go_wp2_with (first | (at_lookup; refine dL _ rfl _ _ _ rfl Tryz.underlying116 B n L f rfl I.out nm rfl y.out true HD.out _ HV.out ?_) | go_in)
   refine bodyPost_ret (results_none rfl _ _ _) rfl ?_;exact ⟨rfl,by rw [HN.out]; exact HS.out,fun c hc h4 h5=>(Below.heap_alloc _ _ _ (by simpa using hc)).trans (π _ _ _ _ h5)⟩
 ·have HD:Hid (decide (nm ∈ L)=false):=η (decide_eq_false U)
  have HV:Hid ((if nm ∈ L then f nm else 0)=0):=η (if_neg U);have HN:Hid (¬ (nm ∈ L∧f nm ≠ args.length)):=η fun h=>U h.1
  clear U HR
  go_enter Tryz.func131,Tryz.ntmps131
  go_wp2_with (first | (at_lookup; refine dL _ rfl _ _ _ rfl Tryz.underlying116 B n L f rfl I.out nm rfl y.out false HD.out _ HV.out ?_) | (at_mapUpdate; refine kY _ rfl _ _ _ _ rfl Tryz.underlying116 B n L f rfl I.out nm rfl y.out _ rfl (by unfold maxLen; omega) (by omega) ?_; intro w1 a0 a1) | go_in)
  go_end0
  exact ⟨rfl,HP.out w1 a0 a1 HN.out⟩
theorem D.Bj {rs:List Ru} (hok:rs.all fC=true) (hf:rs.length≤8) {xs:List A} (y:∀ a ∈ xs,a ∈ aI rs):∀ s ∈ (dP xs).1,0≤(dP xs).2.1 s∧(dP xs).2.1 s≤1000000:=fun s I=>by
 have:=Ky (m:=3) (fun a ha=>(lV hok).1 a (y a ha)) I;omega
theorem D.vS {rs:List Ru} (k:Nat):∀ a ∈ aI (rs.take k),a ∈ aI rs:=fun a ha=>by
 obtain ⟨r,hr,h⟩:=xY ha;exact List.mem_flatMap.2 ⟨r,List.mem_of_mem_take hr,h⟩
theorem D.KX {rs:List Ru} {k:Nat} (h:k < rs.length):∀ a ∈ jP rs[k],a ∈ aI rs:=fun a ha=>List.mem_flatMap.2 ⟨_,δ h,ha⟩
theorem DX (rs:List Ru) (v:Value) (bs:List Nat) (w:World) (h:eu w [v] rs bs) (hok:rs.all fC=true) (hf:rs.length≤8):
  Calls Tryz.prog 69 #[v] w fun e w'=>e=.returned (.tuple #[.map (some w.heap.size),.bool (kC (aI rs))])∧
   ∃ n,iI w.heap.size n (dP (aI rs)).1 (dP (aI rs)).2.1 w'∧Below w.heap.size w w':=by
 obtain ⟨Ad,cap,rfl,hl,hm⟩:=aj h;have b8:=aA (τ hl hm);have av:=@run_makeMap Tryz.prog
 have a4:Hid (zD w w.heap.size 0 (dP []) (((w.alloc (.map #[] 0)).alloc (.cells #[.map (some w.heap.size)] 116)).alloc (.cells #[.bool true] 4))):=η (by
  refine ⟨((iI.made w _).same ?_),?_,?_,((((Below.refl _ w).alloc ν _).alloc (by simp) _).alloc (by simp; omega) _)⟩
  ·exact (Below.heap_alloc _ _ _ (by simp; omega)).trans (Below.heap_alloc _ _ _ (by simp))
  ·refine (Below.heap_alloc _ _ _ (by simp)).trans ?_
   simpa using ω (w.alloc (.map #[] 0)) (.cells #[.map (some w.heap.size)] 116)
  ·simpa [dP] using ω ((w.alloc (.map #[] 0)).alloc (.cells #[.map (some w.heap.size)] 116)) (.cells #[.bool true] 4))
 have a5:=η (fun xs hx=>Bj hok hf (xs:=xs) hx);have aw:=η hok;have b9:Hid ((aI rs).length≤40):=η (by have:=(lV hok).2; omega)
 have a6:Hid (∀ k,(aI (rs.take k)).length≤40):=η fun k=>by
  have:=(lV (rs:=rs.take k) (List.all_eq_true.2 fun r hr=>List.all_eq_true.1 hok r (List.mem_of_mem_take hr))).2;rw [List.length_take] at this; omega
 clear hl hm hok hf
 go_enter Tryz.func69,Tryz.ntmps69
 go_wp2;generalize (((w.alloc (.map #[] 0)).alloc (.cells #[.map (some w.heap.size)] 116)).alloc (.cells #[.bool true] 4))=w0 at *
 go_loopw [15] (fun i wr=>∃ k:Nat,k≤rs.length∧i=.int .i64 k∧zD w w.heap.size (aI (rs.take k)).length (dP (aI (rs.take k))) wr) (fun i _=>rs.length - (intOf i).toNat)
 case atStart=>exact ⟨0,ε,rfl,a4.out⟩
 case round=>
  obtain ⟨k,hk,rfl,I⟩:=hrel;clear a4 av;by_cases y:k < rs.length
  ·obtain ⟨b,o,Ae,ce,Af,cf,bk,rfl,_,d0,d1,d2,J,_⟩:=iP h y
   replace d0:=ξ I.bel d0;replace d1:=ξ I.bel d1;replace d2:=ξ I.bel d2;have bc:(0:Int)≤(k:Int):=by omega
   have az:(k:Int) < (rs.length:Int):=by omega
   have hA:Below wr.heap.size wr (wr.alloc (.cells #[.string rs[k].head.name,.slice Ae rs[k].head.args.length ce,.slice Af rs[k].body.length cf] 40)):=ζ;obtain ⟨b1,b2,_,a7,a8⟩:=jm J;have aD:=η a8;have a9:=η (au.below (au.below a7 I.bel) hA);have aa:=η y;have aE:=η (qc rs k y);have U:=lD (List.all_eq_true.1 aw.out _ (δ y));have bf:(rs[k].body.length:Int)≤4:=by have:=U.1; omega
   have ab:=η (KX y);have a0:rs[k].head.args.length≤1000000:=by have:=U.2.2 rs[k].head Γ; omega
   have aL:=η U.2.2;have ac:=η (I.later hA);clear h J hA a7 a8 U;generalize rs[k]=r at *;clear y;obtain ⟨⟨nm,args⟩,body⟩:=r;dsimp only at *
   go_wp2_with fail
   have q2:(wr.alloc (.cells #[.string nm,.slice Ae args.length ce,.slice Af body.length cf] 40)).cell? ⟨wr.heap.size,2,none⟩=some (.slice Af body.length cf):=by go_simp
   have q3:w.heap.size+2 < wr.heap.size:=ψ I.bb;clear I;generalize wr.alloc (.cells #[.string nm,.slice Ae args.length ce,.slice Af body.length cf] 40)=w1 at *;refine (note_any ⟨nm,args⟩ _ _ b1 w w1 w.heap.size _ _ a9.out ac.out ν (by have:=a6.out k; omega) a0 (a5.out _ (vS k))).mono ?_;rintro e w2 ⟨rfl,a1,ae⟩;rw [← wR] at a1;have hlen:(aI (rs.take k) ++ [(⟨nm,args⟩:A)]).length=(aI (rs.take k)).length+1:=by simp
   rw [← hlen] at a1
   have a2:∀ a ∈ aI (rs.take k) ++ [(⟨nm,args⟩:A)],a ∈ aI rs:=fun a ha=>by
    rcases μ.1 ha with ha | ha
    ·exact vS k a ha
    ·rw [List.mem_singleton.1 ha]; exact ab.out _ Γ
   have e2:w2.cell? ⟨wr.heap.size,2,none⟩=some (.slice Af body.length cf):=by
    rw [World.cell?_of_block (w:=w1) (ae _ (lt_of_cell q2) (by dsimp only; omega) (by dsimp only; omega))]; exact q2
   have aM:=η a2;have af:=η a1;have HX:Hid ((aI (rs.take k) ++ [(⟨nm,args⟩:A)]).length≤41):=η (by rw [hlen]; have:=a6.out k; omega);clear a2 a1 ae hlen a9 q2 q3;generalize aI (rs.take k) ++ [(⟨nm,args⟩:A)]=xs at *;go_wp2
   go_loopw [26] (fun i wr=>∃ j:Nat,j≤body.length∧i=.int .i64 j∧zD w w.heap.size (xs ++ fP (body.take j)).length (dP (xs ++ fP (body.take j))) wr) (fun i _=>body.length - (intOf i).toNat)
   case atStart=>exact ⟨0,ε,rfl,by simpa [fP] using af.out⟩
   case round=>
    obtain ⟨j,hj,rfl,I⟩:=hrel;clear af ac;by_cases y:j < body.length
    ·obtain ⟨b0,o0,Ag,cg,bg,rfl,_,f0,f1,f2,J,_⟩:=jd aD.out y
     replace f0:=ξ I.bel f0;replace f1:=ξ I.bel f1;replace f2:=ξ I.bel f2;have bh:(0:Int)≤(j:Int):=by omega
     have aR:(j:Int) < (body.length:Int):=by omega
     have b3:=η (tN body j y);have ag:=η y;have am:body[j].atom ∈ jP ⟨⟨nm,args⟩,body⟩:=Δ _ (List.mem_map.2 ⟨_,δ y,rfl⟩);have b4:body[j].atom.args.length≤1000000:=by have:=aL.out _ am; omega
     have hA:Below wr.heap.size wr (wr.alloc (.cells #[.bool body[j].no,.string body[j].atom.name,.slice Ag body[j].atom.args.length cg] 42)):=ζ;have ao:=η (au.below (au.below (jy J) I.bel) hA);have aq:=η (I.later hA);have b5:Hid ((xs ++ fP (body.take j)).length+1≤1000000):=η (by rw [χ,mW,List.length_take]; have:=HX.out; omega)
     have b6:Hid (∀ a ∈ xs ++ fP (body.take j),a ∈ aI rs):=η fun a ha=>by
      rcases μ.1 ha with ha | ha
      ·exact aM.out a ha
      ·refine ab.out _ (Δ _ ?_)
       unfold fP at ha;obtain ⟨p,hp,rfl⟩:=List.mem_map.1 ha;exact List.mem_map.2 ⟨p,List.mem_of_mem_take hp,rfl⟩
     clear J hA I am;generalize body[j]=p at *;clear y;obtain ⟨no,⟨pn,a3⟩⟩:=p;dsimp only at *
     go_wp2_with fail
     refine (note_any ⟨pn,a3⟩ _ _ bg w _ w.heap.size _ _ ao.out aq.out ν b5.out b4 (a5.out _ b6.out)).mono ?_;rintro e w3 ⟨rfl,ar,_⟩
     have b7:Hid (zD w w.heap.size (xs ++ fP (body.take (j+1))).length (dP (xs ++ fP (body.take (j+1)))) w3):=η (by
      rw [b3.out,← List.append_assoc,wR,χ]
      exact ar)
     clear ar aq ao;go_wp2;go_roundw
     case rel=>exact ⟨j+1,ag.out,by go_num,b7.out⟩
     case measure=>have:=ag.out; simp [intOf]; omega
    ·have he:j=body.length:=by omega
     have aR:¬ (j:Int) < (body.length:Int):=by omega
     have HE:Hid (zD w w.heap.size (aI (rs.take (k+1))).length (dP (aI (rs.take (k+1)))) wr):=η (by
      rw [aE.out];subst he;rw [ϕ ν] at I
      exact I)
     clear I he;go_wp2;go_roundw
     case rel=>exact ⟨k+1,aa.out,by go_num,HE.out⟩
     case measure=>have:=aa.out; simp [intOf]; omega
  ·have he:k=rs.length:=by omega
   have az:¬ (k:Int) < (rs.length:Int):=by omega
   subst he;rw [ϕ ν] at I;have cM:=cell_of_one I.bm;have cB:wr.cell? ⟨w.heap.size+1+1,0,none⟩=_:=cell_of_one I.bb;have a0:=AZ (aI rs);rw [a0] at cB;have HZ:Hid (∃ n,iI w.heap.size n (dP (aI rs)).1 (dP (aI rs)).2.1 wr∧Below w.heap.size w wr):=η ⟨_,I.map,I.bel⟩;clear I h a0;go_wp2
   go_quiet (fail)
   go_wp2;go_ret2;obtain ⟨n,h1,h2⟩:=HZ.out;exact ⟨rfl,n,h1.same rfl,⟨h2.os,h2.tape,h2.output,h2.size,h2.block⟩⟩
end Go.Proofs.YtkjinanbccloeaaGreatDoor
