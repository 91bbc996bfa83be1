/- Of the proof of FnDeltaNeeds: L3N, HeadsI, ArgsS, ArgsI, TightS, RuleS, Grnd. -/
import Derived.Test.YtkjinanbccloeaaGreatDoorE09
import Derived.Test.YtkjinanbccloeaaGreatDoorE10
set_option linter.unusedVariables false
set_option maxHeartbeats 2000000
set_option maxRecDepth 100000
namespace Go.Proofs.YtkjinanbccloeaaGreatDoor
open Go.RowKit D
attribute [local go_sem ↓] Go.wp_at_zero Go.wp_at_succ
def D.Jy (bb:List Nat) (xs xs':List A) (v:Value) (B:Nat) (w:World) (e:Ending) (w':World):Prop:=
 Below B w w'∧∃ y bs,e=.returned y∧aC w' [y] xs' bs∧((y=v∧xs'=xs)∨∃ L I,aX 2 aJ B 33 w' y L xs' I∧∀ c ∈ I,c ∈ bb)
theorem D.aX.X6 {α:Type} {n:Nat} {R:Rel α} {base y e:Nat} {w:World} {v:Value} {L:List Value} {xs:List α} {bs:List Nat} (h:aX n R base e w v L xs bs) (hb:y≤base):aX n R y e w v L xs bs:=
 ⟨⟨h.own.1,h.own.2.imp id fun ⟨g,cap,I,e,J,r⟩=>⟨g,cap,I,e,τ hb J,r⟩⟩,h.row,h.far⟩
theorem RX (a:A) (v d0 d1:Value) (bs b2:List Nat) (w:World) (h:aC w [v] [] bs) (h2:aJ w [d0,d1] a b2) (hs:gm []=true):
  Calls Tryz.prog 49 #[v,.agg #[d0,d1]] w (Jy (bs ++ b2) [] (eG [] a) v w.heap.size w):=by
 obtain ⟨Ad,cap,rfl,hl,hm⟩:=aj h;obtain ⟨Aa,ca,rfl,rfl⟩:=bG h2;obtain ⟨i0,hi,a3,a4,a5⟩:=info_parts qK;have c4:=ay hm;have hA:Below w.heap.size w (w.alloc (.cells #[.string a.name,.slice Aa a.args.length ca] 33)):=ζ;have hk:=yE [] a _ _ _ bs b2 _ (au.below h hA) (ak.below h2 hA) hs;have HX:Hid (eG [] a = [] ++ [a] ++ []):=η rfl;have e1:pl [] a=0:=rfl;have e2:hasB [] a=false:=rfl;rw [e1,e2] at hk;simp only [List.length_nil] at hk hl ⊢;have av:=ak.lt h2;clear e1 e2
 go_enter Tryz.func49,Tryz.ntmps49
 go_wp2_with fail
 refine hk.mono ?_;rintro e y ⟨rfl,aw⟩;have B1:=hA.trans (aw.mono hA.size);have x0:y.cell? ⟨w.heap.size,0,none⟩=some (.string a.name):=ξ aw (by go_simp);have x1:y.cell? ⟨w.heap.size,1,none⟩=some (.slice Aa a.args.length ca):=ξ aw (by go_simp);clear hk;have H5:Hid (0+0≤maxLen):=η (by unfold maxLen; omega);have H6:Hid ((0+0) * 40≤140737488355328):=η (by omega);have H8:Hid (0+1≤maxLen):=η (by unfold maxLen; omega);have H9:Hid ((0+1) * 40≤140737488355328):=η (by omega);have bp:Hid (1+0≤maxLen):=η (by unfold maxLen; omega);have bq:Hid ((1+0) * 40≤140737488355328):=η (by omega);have c5:(0:Int)≤(cap:Int):=by omega
 have ae:Hid (∀ (v:Value),∀ c ∈ ([]:List Nat),v.ownBlock ≠ some c):=η (fun v c hc=>by simp at hc);have af:Hid (∀ w',aT 2 aJ w' [] [] []):=η (fun w'=>aT.nil);have ag:Hid (∀ w' Ad,Lies w' Ad []):=η (fun w' Ad=>Lies.nil w' Ad);have br:Hid (((y.alloc (.cells #[] 33)).alloc (.cells #[.string a.name,.slice Aa a.args.length ca] 33)).heap[y.heap.size+1]? = some (.cells #[.string a.name,.slice Aa a.args.length ca] 33 (0,0))):=η (by have:=ω (y.alloc (.cells #[] 33)) (.cells #[.string a.name,.slice Aa a.args.length ca] 33); rw [World.size_alloc] at this; exact this);have bt:Hid (((y.alloc (.cells #[.string a.name,.slice Aa a.args.length ca] 33)).alloc (.cells #[] 33)).heap[y.heap.size]? = some (.cells #[.string a.name,.slice Aa a.args.length ca] 33 (0,0))):=η (by rw [Below.heap_alloc _ _ _ (by simp)]; exact ω _ _);have b3:=ak.below h2 B1
 have b5:Below y.heap.size y ((y.alloc (.cells #[] 33)).alloc (.cells #[.string a.name,.slice Aa a.args.length ca] 33)).drew:=((ζ).alloc (by simp) _).drew;have b6:=aX.empty (n:=2) (R:=aJ) (e:=33) (w:=((y.alloc (.cells #[] 33)).alloc (.cells #[.string a.name,.slice Aa a.args.length ca] 33)).drew) (g:=y.heap.size) (base:=y.heap.size) (show ((y.alloc (.cells #[] 33)).alloc (.cells #[.string a.name,.slice Aa a.args.length ca] 33)).heap[y.heap.size]? = _ by rw [Below.heap_alloc _ _ _ (by simp)]; exact ω _ _) (by omega);have b7:=η b5;have bu:=η b6;clear b5 b6;have b8:Below y.heap.size y ((y.alloc (.cells #[.string a.name,.slice Aa a.args.length ca] 33)).alloc (.cells #[] 33)).drew:=((ζ).alloc (by simp) _).drew
 have b9:=aX.empty (n:=2) (R:=aJ) (e:=33) (w:=((y.alloc (.cells #[.string a.name,.slice Aa a.args.length ca] 33)).alloc (.cells #[] 33)).drew) (g:=y.heap.size+1) (base:=y.heap.size) (show ((y.alloc (.cells #[.string a.name,.slice Aa a.args.length ca] 33)).alloc (.cells #[] 33)).heap[y.heap.size+1]? = _ by have:=ω (y.alloc (.cells #[.string a.name,.slice Aa a.args.length ca] 33)) (.cells #[] 33); rw [World.size_alloc] at this; exact this) (by omega);have bc:=η b8;have bv:=η b9;clear b8 b9;have bf:Below y.heap.size y (y.alloc (.cells #[] 33)).drew:=(ζ).drew;have bg:=aX.empty (n:=2) (R:=aJ) (e:=33) (w:=(y.alloc (.cells #[] 33)).drew) (g:=y.heap.size) (base:=y.heap.size) (show (y.alloc (.cells #[] 33)).heap[y.heap.size]? = _ from ω _ _) (by omega);have bh:=η bf;have bw:=η bg;clear bf bg;have bx:Hid (∀ w',Below y.heap.size y w'→Below w.heap.size w w'):=η fun w' bz=>B1.trans (bz.mono B1.size)
 have az:=η b3;clear b3;have c6:w.heap.size < y.heap.size:=lt_of_cell x0;have bA:=η (own_ne (a:=y.heap.size+1) (b:=y.heap.size) (n:=0) (c:=0) (o:=0) (by omega));have bB:=η (own_ne (a:=y.heap.size) (b:=y.heap.size+1) (n:=0) (c:=0) (o:=0) (by omega));have bE:Hid (y.heap.size+1 < ((y.alloc (.cells #[] 33)).alloc (.cells #[.string a.name,.slice Aa a.args.length ca] 33)).drew.heap.size):=η (by simp);have bL:Hid (y.heap.size < ((y.alloc (.cells #[.string a.name,.slice Aa a.args.length ca] 33)).alloc (.cells #[] 33)).drew.heap.size):=η (by simp <;> omega);have H2:=η h2;have aD:Hid (∀ c ∈ b2,c < y.heap.size):=η fun c hc=>κ (av c hc) B1.size
 clear h h2 av;by_cases hce:cap=0
 case' pos=>
  have bO:(cap=0)=True:=eq_true hce;have bR:=η hce;clear hce
 case' neg=>
  have bO:(cap=0)=False:=eq_false hce;have bR:=η hce;clear hce
 all_goals
  go_wp2
  go_region_held3? (fun w'=>w'.cell? ⟨w.heap.size,0,none⟩=some (.string a.name)∧w'.cell? ⟨w.heap.size,1,none⟩=some (.slice Aa a.args.length ca)) (first | go_keep | exact ⟨q0,q1⟩ | exact ⟨r0,r1⟩ | exact ⟨s0,s1⟩) ((first
   | (refine aV ?_ (.tmp 15) (.tmp 18) _ ?_ y.heap.size 33 i0 (.agg #[.string ⟨#[]⟩,.slice none 0 0]) 2 40 Tryz.underlying24 hi a3 a4 a5 rfl (Θ 1) ak (.slice (some ⟨y.heap.size,0,none⟩) 0 0) 0 [] [] [] ?_ bu.out rfl ?_ 0 ?_ [] [] [] ?_ (af.out _) rfl (ag.out _ _) (ae.out _) H5.out H6.out y y.heap.size b7.out ν b7.out.size ?_; rfl; rfl; rfl; rotate_left 2; rfl; rotate_left; intro A1 a8 w2 U I a0 a6; have q0:=ξ I x0; have q1:=ξ I x1; have aE:Hid (w2.heap[y.heap.size+1]? = some (.cells #[.string a.name,.slice Aa a.args.length ca] 33 (0,0))):=η ((a6.block _ bE.out bA.out).trans br.out); clear a6; have a9:=η (aP aE.out); have aa:=η (aT.dJ (n:=2) (R:=aJ) eH (ak.below az.out I)); have ab:=η (fun c hc=>aO U.own (aD.out c hc)); have am:=η U; have ao:=η I; have aq:=η a0; clear U I a0)
   | (refine aV ?_ (.tmp 15) (.tmp 18) _ ?_ y.heap.size 33 i0 (.agg #[.string ⟨#[]⟩,.slice none 0 0]) 2 40 Tryz.underlying24 hi a3 a4 a5 rfl (Θ 1) ak (.slice (some ⟨y.heap.size+1,0,none⟩) 0 0) 0 [] [] [] ?_ bv.out rfl ?_ 0 ?_ [] [] [] ?_ (af.out _) rfl (ag.out _ _) (ae.out _) H5.out H6.out y y.heap.size bc.out ν bc.out.size ?_; rfl; rfl; rfl; rotate_left 2; rfl; rotate_left; intro A1 a8 w2 U I a0 a6; have q0:=ξ I x0; have q1:=ξ I x1; have aE:Hid (w2.heap[y.heap.size]? = some (.cells #[.string a.name,.slice Aa a.args.length ca] 33 (0,0))):=η ((a6.block _ bL.out bB.out).trans bt.out); clear a6; have a9:=η (aP aE.out); have aa:=η (aT.dJ (n:=2) (R:=aJ) eH (ak.below az.out I)); have ab:=η (fun c hc=>aO U.own (aD.out c hc)); have am:=η U; have ao:=η I; have aq:=η a0; clear U I a0)
   | (refine aV ?_ (.tmp 15) (.tmp 18) _ ?_ y.heap.size 33 i0 (.agg #[.string ⟨#[]⟩,.slice none 0 0]) 2 40 Tryz.underlying24 hi a3 a4 a5 rfl (Θ 1) ak (.slice (some ⟨y.heap.size,0,none⟩) 0 0) 0 [] [] [] ?_ bw.out rfl ?_ 0 ?_ [] [] [] ?_ (af.out _) rfl (ag.out _ _) (ae.out _) H5.out H6.out y y.heap.size bh.out ν bh.out.size ?_; rfl; rfl; rfl; rotate_left 2; rfl; rotate_left; intro A1 a8 w2 U I a0 a6; have q0:=ξ I x0; have q1:=ξ I x1; skip; clear a6; have a7:Below y.heap.size y (w2.alloc (.cells #[.string a.name,.slice Aa a.args.length ca] 33)):=I.alloc I.size _; have bi:=η a7; have bj:=η (U.below ak ((Below.refl w2.heap.size w2).alloc ν (.cells #[.string a.name,.slice Aa a.args.length ca] 33))); have bk:=η a7.size; have a9:=η (aP (ω w2 (.cells #[.string a.name,.slice Aa a.args.length ca] 33))); have aa:=η (aT.dJ (n:=2) (R:=aJ) eH (ak.below az.out a7)); have ab:=η (fun c hc=>aO U.own (aD.out c hc)); clear a7; have am:=η U; have ao:=η I; have aq:=η a0; clear U I a0)
   | (refine aV ?_ (.tmp 19) (.tmp 21) _ ?_ y.heap.size 33 i0 (.agg #[.string ⟨#[]⟩,.slice none 0 0]) 2 40 Tryz.underlying24 hi a3 a4 a5 rfl (Θ 1) ak (.slice A1 (0+0) a8) (0+0) _ _ _ ?_ am.out rfl (some ⟨y.heap.size+1,0,none⟩) 1 1 _ [a] _ ?_ aa.out rfl a9.out ab.out H8.out H9.out y y.heap.size ao.out ν aq.out ?_; rfl; rfl; rfl; rfl; intro A2 aL w3 a1 J a2 ac; have r0:=ξ J x0; have r1:=ξ J x1; have aM:=η a1; have aR:=η J; have b1:=η a2; clear a1 J a2 ac)
   | (refine aV ?_ (.tmp 19) (.tmp 21) _ ?_ y.heap.size 33 i0 (.agg #[.string ⟨#[]⟩,.slice none 0 0]) 2 40 Tryz.underlying24 hi a3 a4 a5 rfl (Θ 1) ak (.slice A1 (0+0) a8) (0+0) _ _ _ ?_ am.out rfl (some ⟨y.heap.size,0,none⟩) 1 1 _ [a] _ ?_ aa.out rfl a9.out ab.out H8.out H9.out y y.heap.size ao.out ν aq.out ?_; rfl; rfl; rfl; rfl; intro A2 aL w3 a1 J a2 ac; have r0:=ξ J x0; have r1:=ξ J x1; have aM:=η a1; have aR:=η J; have b1:=η a2; clear a1 J a2 ac)
   | (refine aV ?_ (.tmp 19) (.tmp 21) _ ?_ y.heap.size 33 i0 (.agg #[.string ⟨#[]⟩,.slice none 0 0]) 2 40 Tryz.underlying24 hi a3 a4 a5 rfl (Θ 1) ak (.slice A1 (0+0) a8) (0+0) _ _ _ ?_ bj.out rfl (some ⟨w2.heap.size,0,none⟩) 1 1 _ [a] _ ?_ aa.out rfl a9.out ab.out H8.out H9.out y y.heap.size bi.out ν bk.out ?_; rfl; rfl; rfl; rfl; intro A2 aL w3 a1 J a2 ac; have r0:=ξ J x0; have r1:=ξ J x1; have aM:=η a1; have aR:=η J; have b1:=η a2; clear a1 J a2 ac)
   | (refine aV ?_ (.tmp 22) (.tmp 25) _ ?_ y.heap.size 33 i0 (.agg #[.string ⟨#[]⟩,.slice none 0 0]) 2 40 Tryz.underlying24 hi a3 a4 a5 rfl (Θ 1) ak (.slice A2 (0+0+1) aL) (0+0+1) _ _ _ ?_ aM.out rfl ?_ 0 ?_ [] [] [] ?_ (af.out _) rfl (ag.out _ _) (ae.out _) bp.out bq.out y y.heap.size aR.out ν b1.out ?_; rfl; rfl; rfl; rotate_left 2; rfl; rotate_left; intro A3 c7 w4 bl ar bX _; have s0:=ξ ar x0; have s1:=ξ ar x1; have bn:=η bl; have c3:=η ar; clear bl ar bX)))
  all_goals
   obtain ⟨b4,bo,_⟩:=bn.out.slice;have HS:=η bo;clear bo;go_wp2;go_ret;exact ⟨bx.out _ c3.out,_,b4,rfl,by rw [HX.out]; exact HS.out,.inr ⟨_,_,by rw [HX.out]; exact bn.out.X6 B1.size,fun c hc=>μ.2 (.inr (by simpa using hc))⟩⟩
def D.yV (L:List ByteArray) (s:ByteArray):Int:=(L.idxOf s:Nat)
theorem D.MH (rs:List Ru) (k:Nat) (h:k < rs.length):aN (rs.take (k+1))=dZ (aN (rs.take k)) rs[k].head.name:=by
 unfold aN bI;rw [ρ h,List.map_append,List.foldl_append];rfl
theorem D.Xu {L:List ByteArray} {s:ByteArray} (h:s ∉ L):∀ t ∈ dZ L s,(if t=s then (L.length:Int) else yV L t)=yV (dZ L s) t:=fun t y=>by
 unfold yV dZ at *;rw [if_neg h] at *;by_cases e:t=s
 ·subst e
  rw [if_pos rfl,List.idxOf_append,if_neg h];simp
 ·rw [if_neg e]
  have:t ∈ L:=by simpa [e] using y
  rw [List.idxOf_append,if_pos this]
theorem E5 (rs:List Ru) (v:Value) (bs:List Nat) (w:World) (h:dW w [v] rs bs) (hf:rs.length≤1000000):
  Calls Tryz.prog 191 #[v] w fun e w'=>e=.returned (.map (some w.heap.size))∧(∃ n,gB w.heap.size n (aN rs) (yV (aN rs)) w')∧Below w.heap.size w w':=by
 obtain ⟨Ad,cap,rfl,hl,hm⟩:=aj h;have af:=ay (τ hl hm);have a8:=@run_makeMap Tryz.prog;have a2:=η (gB.made w (yV []));have a3:Below w.heap.size w (w.alloc (.map #[] 0)):=ζ;have a4:=η a3;clear hl hm a3
 go_enter Tryz.func191,Tryz.ntmps191
 go_wp2;generalize w.alloc (.map #[] 0)=w0 at *
 go_loopw [11] (fun i wr=>∃ k:Nat,k≤rs.length∧i=.int .i64 k∧gB w.heap.size k (aN (rs.take k)) (yV (aN (rs.take k))) wr∧Below w.heap.size w wr) (fun i _=>rs.length - (intOf i).toNat)
 case atStart=>exact ⟨0,ε,rfl,a2.out,a4.out⟩
 case round=>
  obtain ⟨k,hk,rfl,U,hB⟩:=hrel;clear a2 a4 a8;by_cases y:k < rs.length
  ·obtain ⟨b,o,Ae,ce,Af,cf,bk,rfl,_,d0,d1,d2,a5,_⟩:=iI h y
   replace d0:=ξ hB d0;replace d1:=ξ hB d1;replace d2:=ξ hB d2;have ag:(0:Int)≤(k:Int):=by omega
   have a9:(k:Int) < (rs.length:Int):=by omega
   have hA:Below wr.heap.size wr (wr.alloc (.cells #[.string rs[k].head.name,.slice Ae rs[k].head.args.length ce,.slice Af rs[k].body.length cf] 40)):=ζ;have I:=η y;have a0:=η (MH rs k y);have a1:Hid (rs[k].head.name.size≤maxLen):=η (by obtain ⟨_,_,_,_,_,hs,_⟩:=a5; exact hs);have HM:=η (U.below hA U.lt);have HB:=η (hB.trans (hA.mono hB.size));have aa:Hid ((aN (rs.take k)).length≤1000000):=η (by have:=U.Yw; omega);have ab:k < maxLen:=by unfold maxLen; omega
   clear h a5 hA U hB;generalize rs[k]=r at *;generalize aN (rs.take k)=L at *;clear y;obtain ⟨⟨nm,args⟩,body⟩:=r;dsimp only at *;by_cases J:nm ∈ L
   ·have HD:Hid (decide (nm ∈ L)=true):=η (decide_eq_true J)
    have HV:Hid ((if nm ∈ L then yV L nm else 0)=yV L nm):=η (if_pos J);have HP:Hid (aN (rs.take (k+1))=L):=η (by rw [a0.out]; unfold dZ; rw [if_pos J]);clear J a0
    go_wp2_with (first | (at_lookup; refine bZ _ rfl _ _ _ rfl Tryz.underlying116 _ _ L _ rfl HM.out nm rfl a1.out true HD.out _ HV.out ?_) | go_in)
    go_roundw
    case rel=>exact ⟨k+1,I.out,by go_num,by rw [HP.out]; exact HM.out.mono (Nat.le_succ k),HB.out⟩
    case measure=>have:=I.out; simp [intOf]; omega
   ·have HD:Hid (decide (nm ∈ L)=false):=η (decide_eq_false J)
    have HV:Hid ((if nm ∈ L then yV L nm else 0)=0):=η (if_neg J);have HI:=η (Xu J);have am:=aa.out;clear J
    go_wp2_with (first | (at_lookup; refine bZ _ rfl _ _ _ rfl Tryz.underlying116 _ _ L _ rfl HM.out nm rfl a1.out false HD.out _ HV.out ?_) | (at_len; refine fA _ rfl _ _ rfl Tryz.underlying116 _ _ L _ rfl HM.out ?_) | (at_mapUpdate; refine jS _ rfl _ _ _ _ rfl Tryz.underlying116 _ _ L _ rfl HM.out nm rfl a1.out _ rfl ab (by omega) ?_; intro w1 a6 a7) | go_in)
    have ac:=η (a6.congr HI.out);have ae:=η (HB.out.grown a7 (by have:=HB.out.size; exact this) fun j hj=>by cases hj; exact ν);clear a6 a7;go_roundw
    case rel=>exact ⟨k+1,I.out,by go_num,by rw [a0.out]; exact ac.out,ae.out⟩
    case measure=>have:=I.out; simp [intOf]; omega
  ·have he:k=rs.length:=by omega
   have a9:¬ (k:Int) < (rs.length:Int):=by omega
   subst he;rw [ϕ ν] at U;have HM:=η U;clear U h;go_wp2;go_ret;exact ⟨rfl,⟨_,HM.out⟩,hB⟩
theorem D.below_drewN {B:Nat} {a w:World} (h:Below B a w) (n:Nat):Below B a (w.drewN n):=⟨h.os,h.tape,h.output,h.size,h.block⟩
theorem D.lu (a b:ByteArray):(a.toList == b.toList)=decide (a=b):=by
 rw [ByteArray.toList_eq,ByteArray.toList_eq,Bool.eq_iff_iff];simp only [beq_iff_eq,decide_eq_true_eq];exact ⟨bytes_inj,fun h=>by rw [h]⟩
theorem Po (rs:List Ru) (v:Value) (bs:List Nat) (w:World) (h:dW w [v] rs bs) (hn:(aB rs).length≤1000000):
  Calls Tryz.prog 167 #[v] w fun e w'=>e=.returned (.bool (kH (aB rs)))∧Below w.heap.size w w':=by
 obtain ⟨Ad,cap,rfl,hl,hm⟩:=aj h;have ac:=ay (τ hl hm);have c1:=CX rs _ bs w h hn;generalize aB rs=xs at *;clear hl hm h
 go_enter Tryz.func167,Tryz.ntmps167
 go_wp2_with fail
 refine c1.mono ?_;rintro e w1 ⟨hB,v1,b2,rfl,hx⟩;obtain ⟨A1,aa,rfl,a2,a3⟩:=aj hx;have ab:=ay (τ a2 a3);clear c1 a2 a3;go_wp2
 go_loopw [4] (fun i wr=>∃ k:Nat,k≤xs.length∧i=.int .i64 k∧(∀ i,(hi:i < xs.length)→i < k→∀ j,(hj:j < i)→clash xs[i] (xs[j]'(by omega))=false)∧Below w1.heap.size w1 wr) (fun i _=>xs.length - (intOf i).toNat)
 case atStart=>exact ⟨0,ε,rfl,fun i _ h=>by omega,ϑ⟩
 case round=>
  obtain ⟨k,hk,rfl,a0,hb⟩:=hrel;have HA:=η a0;have HB:=η hb;clear a0 hb;by_cases a1:k < xs.length
  ·have ae:(0:Int)≤(k:Int):=by omega
   have a8:(k:Int) < (xs.length:Int):=by omega
   go_wp2
   go_loopw [5] (fun i wr=>∃ j:Nat,j≤k∧i=.int .i64 j∧(∀ i,(hi:i < xs.length)→i < j→clash xs[k] xs[i]=false)∧Below w1.heap.size w1 wr) (fun i _=>k - (intOf i).toNat)
   case atStart=>exact ⟨0,ε,rfl,fun i _ h=>by omega,HB.out⟩
   case round=>
    obtain ⟨j,hj,rfl,hin,hb⟩:=hrel;have HI:=η hin;have U:=η hb;clear hin;by_cases a4:j < k
    ·have af:(0:Int)≤(j:Int):=by omega
     have a9:(j:Int) < (k:Int):=by omega
     have ag:(j:Int) < (xs.length:Int):=by omega
     have a5:j < xs.length:=by omega
     obtain ⟨b,o,Ae,ce,_,rfl,_,d0,d1,_,_⟩:=dL (au.below hx hb) a1;obtain ⟨b',o',Af,cf,_,e9,_,f0,f1,_,_⟩:=dL (au.below hx hb) a5;obtain ⟨rfl,rfl⟩:b=b'∧o=o':=by simpa using e9
     have J:=η (U3 (xs:=xs) a1 a5)
     have I:Hid (clash xs[k] xs[j]=false→∀ i,(hi:i < xs.length)→i < j+1→clash xs[k] xs[i]=false):=η fun h i h9 hi=>by
      by_cases e:i=j
      ·subst e; exact h
      ·exact HI.out i h9 (by omega)
     have HC:Hid (clash xs[k] xs[j]=(decide (xs[k].name=xs[j].name) && decide (xs[k].args.length ≠ xs[j].args.length))):=η rfl;clear hx hb e9;generalize xs[k]=x at *;generalize xs[j]=y at *;obtain ⟨xn,xa⟩:=x;obtain ⟨yn,ya⟩:=y;dsimp only at *;cases hs:(xn.toList == yn.toList)
     ·have HZ:=η (I.out (by rw [HC.out,← lu,hs]; rfl))
      clear I J HC HI HA HB;go_wp2
      go_quiet (fail)
      go_wp2;go_roundw
      case rel=>exact ⟨j+1,a4,by go_num,HZ.out,below_drewN U.out _⟩
      case measure=>simp [intOf]; omega
     ·by_cases a6:xa.length=ya.length
      ·have HZ:=η (I.out (by rw [HC.out,a6]; simp))
       have hd:(xa.length:Int)=(ya.length:Int):=by omega
       clear I J HC HI HA HB;go_wp2
       go_quiet (fail)
       go_wp2;go_roundw
       case rel=>exact ⟨j+1,a4,by go_num,HZ.out,below_drewN U.out _⟩
       case measure=>simp [intOf]; omega
      ·have HZ:=η (J.out (by rw [HC.out,← lu,hs]; simpa using a6))
       have hd:¬ (xa.length:Int)=(ya.length:Int):=by omega
       have a7:=η hB;clear I J HC HI HA HB;go_wp2
       go_quiet (fail)
       go_wp2;go_ret;exact ⟨aH HZ.out.symm,a7.out.trans ((below_drewN U.out _).mono a7.out.size)⟩
    ·have he:j=k:=by omega
     have a9:¬ (j:Int) < (k:Int):=by omega
     have HZ:Hid (∀ i,(hi:i < xs.length)→i < k+1→∀ j,(hj:j < i)→clash xs[i] (xs[j]'(by omega))=false):=η fun i hi h1 j2 h2=>by
      by_cases e:i=k
      ·subst e; exact HI.out j2 (by omega) (by omega)
      ·exact HA.out i hi (by omega) j2 h2
     clear HI HA HB he;go_wp2;go_roundw
     case rel=>exact ⟨k+1,a1,by go_num,HZ.out,U.out⟩
     case measure=>simp [intOf]; omega
  ·have he:k=xs.length:=by omega
   have a8:¬ (k:Int) < (xs.length:Int):=by omega
   have HZ:Hid (kH xs=true):=η (RI fun i hi j hj=>HA.out i hi (by omega) j hj);clear HA hx;go_wp2;go_ret;exact ⟨aH HZ.out.symm,hB.trans (HB.out.mono hB.size)⟩
structure D.Bh (w:World) (B n:Nat) (st:List ByteArray × (ByteArray→Int) × Bool) (wr:World):Prop where
 map:gB B n st.1 st.2.1 wr
 bm:wr.heap[B+1]? = some (.cells #[.map (some B)] 116 (0,0))
 bb:wr.heap[B+2]? = some (.cells #[.bool st.2.2] 4 (0,0))
 bel:Below B w wr
theorem D.Bh.later {w wr w':World} {B n:Nat} {st:List ByteArray × (ByteArray→Int) × Bool} (h:Bh w B n st wr) (hb:Below wr.heap.size wr w'):Bh w B n st w':=
 ⟨h.map.below hb h.map.lt,(hb.block _ (ψ h.bm)).trans h.bm,(hb.block _ (ψ h.bb)).trans h.bb,h.bel.trans (hb.mono (Nat.le_of_lt (Nat.lt_of_le_of_lt (Nat.le_add_right _ _) (ψ h.bm))))⟩
theorem note_any (a:A) (c0 c1:Value) (bs:List Nat) (w0 w:World) (B n:Nat) (st:List ByteArray × (ByteArray→Int) × Bool) (h:aJ w [c0,c1] a bs) (hI:Bh w0 B n st w) (hB:w0.heap.size≤B)
  (hn:n+1≤1000000) (ha:a.args.length≤1000000) (hr:∀ s ∈ st.1,0≤st.2.1 s∧st.2.1 s≤1000000):
  Calls Tryz.prog 131 #[.agg #[c0,c1],.pointer (some ⟨B+1,0,none⟩),.pointer (some ⟨B+2,0,none⟩)] w fun e w'=>e=.returned (.tuple #[])∧Bh w0 B (n+1) (lq st a) w'∧∀ c,c < w.heap.size→c ≠ B→c ≠ B+2→w'.heap[c]? = w.heap[c]?:=by
 obtain ⟨s,a2,a3,ht⟩:=h;simp only [List.cons.injEq,and_true] at a2;obtain ⟨rfl,rfl⟩:=a2;obtain ⟨Ad,cap,rfl,hl,hm⟩:=aj ht;have a6:=ay (τ hl hm);obtain ⟨nm,args⟩:=a;obtain ⟨L,f,al⟩:=st;dsimp only at *;have a7:=ψ hI.bm;have a8:=ψ hI.bb;have cM:w.cell? ⟨B+1,0,none⟩=some (.map (some B)):=cell_of_one hI.bm;have cB:w.cell? ⟨B+2,0,none⟩=some (.bool al):=cell_of_one hI.bb;have fB:w.frozen? ⟨B+2,0,none⟩=false:=free_of_one hI.bb;have hM:=hI.map;have HI:=η hI;have y:=η a3;have hA:Below w.heap.size w (w.alloc (.cells #[.string nm,.slice Ad args.length cap] 33)):=ζ;have I:=η (hM.below hA hM.lt);have a4:=η (hI.later hA);have HR:=η hr;clear hl hm ht hI hA hM hr
 have put:∀ w1,gB B (n+1) (dZ L nm) (fun t=>if t=nm then (args.length:Int) else f t) w1→(w.alloc (.cells #[.string nm,.slice Ad args.length cap] 33)).grownBy w1 (some B)→¬ (nm ∈ L∧f nm ≠ args.length)→Bh w0 B (n+1) (lq (L,f,al) ⟨nm,args⟩) w1∧∀ c,c < w.heap.size→c ≠ B→c ≠ B+2→w1.heap[c]? = w.heap[c]?:=fun w1 h1 h2 h3=>by
  have e:lq (L,f,al) ⟨nm,args⟩=(dZ L nm,fun t=>if t=nm then (args.length:Int) else f t,al):=by unfold lq; rw [if_neg h3]
  have J:=a4.out;rw [e];refine ⟨?_,fun c hc h4 h5=>(h2.block c (by simp; omega) (by simpa using h4)).trans (Below.heap_alloc _ _ _ hc)⟩;exact ⟨h1,(h2.block _ (ψ J.bm) (by simp)).trans J.bm,(h2.block _ (ψ J.bb) (by simp)).trans J.bb,J.bel.grown h2 (by have:=ψ J.bm; omega) fun j hj=>by cases hj; exact ν⟩
 have HP:=η put;clear put;by_cases U:nm ∈ L
 ·have hd:decide (nm ∈ L)=true:=decide_eq_true U
  have hv:(if nm ∈ L then f nm else 0)=f nm:=if_pos U;have a5:=HR.out nm U;by_cases hE:f nm=args.length
  ·have HN:Hid (¬ (nm ∈ L∧f nm ≠ args.length)):=η fun h=>h.2 hE
   have HD:=η hd;have HV:Hid ((if nm ∈ L then f nm else 0)=(args.length:Int)):=η (hv.trans hE);clear U hd hv a5 hE HR
   go_enter Tryz.func131,Tryz.ntmps131
   go_wp2_with (first | (at_lookup; refine bZ _ rfl _ _ _ rfl Tryz.underlying116 B n L f rfl I.out nm rfl y.out true HD.out _ HV.out ?_) | (at_mapUpdate; refine jS _ rfl _ _ _ _ rfl Tryz.underlying116 B n L f rfl I.out nm rfl y.out _ rfl (by unfold maxLen; omega) (by omega) ?_; intro w1 a0 a1) | go_in)
   go_end0
   exact ⟨rfl,HP.out w1 a0 a1 HN.out⟩
  ·have HN:Hid (lq (L,f,al) ⟨nm,args⟩=(L,f,false)):=η (by unfold lq; rw [if_pos ⟨U,hE⟩])
   have HD:=η hd;have HV:=η hv
   have HS:Hid (Bh w0 B (n+1) (L,f,false) ((w.setCell ⟨B+2,0,none⟩ (.bool false)).alloc (.cells #[.string nm,.slice Ad args.length cap] 33))):=η (by
    have J:=HI.out
    have h1:Bh w0 B (n+1) (L,f,false) (w.setCell ⟨B+2,0,none⟩ (.bool false)):=
     ⟨(J.map.mono (Nat.le_succ n)).setCell (by simp) _,(π _ _ _ _ (by simp)).trans J.bm,one_setCell J.bb,J.bel.setCell (by simp) _⟩
    exact h1.later (ζ))
   clear U hd hv HR HP
   go_enter Tryz.func131,Tryz.ntmps131
   go_wp2_with (first | (at_lookup; refine bZ _ rfl _ _ _ rfl Tryz.underlying116 B n L f rfl I.out nm rfl y.out true HD.out _ HV.out ?_) | go_in)
   refine bodyPost_ret (results_none rfl _ _ _) rfl ?_;exact ⟨rfl,by rw [HN.out]; exact HS.out,fun c hc h4 h5=>(Below.heap_alloc _ _ _ (by simpa using hc)).trans (π _ _ _ _ h5)⟩
 ·have HD:Hid (decide (nm ∈ L)=false):=η (decide_eq_false U)
  have HV:Hid ((if nm ∈ L then f nm else 0)=0):=η (if_neg U);have HN:Hid (¬ (nm ∈ L∧f nm ≠ args.length)):=η fun h=>U h.1
  clear U HR
  go_enter Tryz.func131,Tryz.ntmps131
  go_wp2_with (first | (at_lookup; refine bZ _ rfl _ _ _ rfl Tryz.underlying116 B n L f rfl I.out nm rfl y.out false HD.out _ HV.out ?_) | (at_mapUpdate; refine jS _ rfl _ _ _ _ rfl Tryz.underlying116 B n L f rfl I.out nm rfl y.out _ rfl (by unfold maxLen; omega) (by omega) ?_; intro w1 a0 a1) | go_in)
  go_end0
  exact ⟨rfl,HP.out w1 a0 a1 HN.out⟩
theorem D.Dc {rs:List Ru} (hok:rs.all eY=true) (hf:rs.length≤8) {xs:List A} (y:∀ a ∈ xs,a ∈ aB rs):∀ s ∈ (dG xs).1,0≤(dG xs).2.1 s∧(dG xs).2.1 s≤1000000:=fun s I=>by
 have:=LK (m:=3) (fun a ha=>(jO hok).1 a (y a ha)) I;omega
theorem D.wO {rs:List Ru} (k:Nat):∀ a ∈ aB (rs.take k),a ∈ aB rs:=fun a ha=>by
 obtain ⟨r,hr,h⟩:=yI ha;exact List.mem_flatMap.2 ⟨r,List.mem_of_mem_take hr,h⟩
theorem D.MI {rs:List Ru} {k:Nat} (h:k < rs.length):∀ a ∈ jV rs[k],a ∈ aB rs:=fun a ha=>List.mem_flatMap.2 ⟨_,δ h,ha⟩
theorem sG (rs:List Ru) (v:Value) (bs:List Nat) (w:World) (h:dW w [v] rs bs) (hok:rs.all eY=true) (hf:rs.length≤8):
  Calls Tryz.prog 69 #[v] w fun e w'=>e=.returned (.tuple #[.map (some w.heap.size),.bool (kH (aB rs))])∧
   ∃ n,gB w.heap.size n (dG (aB rs)).1 (dG (aB rs)).2.1 w'∧Below w.heap.size w w':=by
 obtain ⟨Ad,cap,rfl,hl,hm⟩:=aj h;have b8:=ay (τ hl hm);have av:=@run_makeMap Tryz.prog
 have a4:Hid (Bh w w.heap.size 0 (dG []) (((w.alloc (.map #[] 0)).alloc (.cells #[.map (some w.heap.size)] 116)).alloc (.cells #[.bool true] 4))):=η (by
  refine ⟨((gB.made w _).same ?_),?_,?_,((((Below.refl _ w).alloc ν _).alloc (by simp) _).alloc (by simp; omega) _)⟩
  ·exact (Below.heap_alloc _ _ _ (by simp; omega)).trans (Below.heap_alloc _ _ _ (by simp))
  ·refine (Below.heap_alloc _ _ _ (by simp)).trans ?_
   simpa using ω (w.alloc (.map #[] 0)) (.cells #[.map (some w.heap.size)] 116)
  ·simpa [dG] using ω ((w.alloc (.map #[] 0)).alloc (.cells #[.map (some w.heap.size)] 116)) (.cells #[.bool true] 4))
 have a5:=η (fun xs hx=>Dc hok hf (xs:=xs) hx);have aw:=η hok;have b9:Hid ((aB rs).length≤40):=η (by have:=(jO hok).2; omega)
 have a6:Hid (∀ k,(aB (rs.take k)).length≤40):=η fun k=>by
  have:=(jO (rs:=rs.take k) (ό.2 fun r hr=>ό.1 hok r (List.mem_of_mem_take hr))).2;rw [List.length_take] at this; omega
 clear hl hm hok hf
 go_enter Tryz.func69,Tryz.ntmps69
 go_wp2;generalize (((w.alloc (.map #[] 0)).alloc (.cells #[.map (some w.heap.size)] 116)).alloc (.cells #[.bool true] 4))=w0 at *
 go_loopw [15] (fun i wr=>∃ k:Nat,k≤rs.length∧i=.int .i64 k∧Bh w w.heap.size (aB (rs.take k)).length (dG (aB (rs.take k))) wr) (fun i _=>rs.length - (intOf i).toNat)
 case atStart=>exact ⟨0,ε,rfl,a4.out⟩
 case round=>
  obtain ⟨k,hk,rfl,I⟩:=hrel;clear a4 av;by_cases y:k < rs.length
  ·obtain ⟨b,o,Ae,ce,Af,cf,bk,rfl,_,d0,d1,d2,J,_⟩:=iI h y
   replace d0:=ξ I.bel d0;replace d1:=ξ I.bel d1;replace d2:=ξ I.bel d2;have bc:(0:Int)≤(k:Int):=by omega
   have az:(k:Int) < (rs.length:Int):=by omega
   have hA:Below wr.heap.size wr (wr.alloc (.cells #[.string rs[k].head.name,.slice Ae rs[k].head.args.length ce,.slice Af rs[k].body.length cf] 40)):=ζ;obtain ⟨b1,b2,_,a7,a8⟩:=iW J;have aD:=η a8;have a9:=η (ak.below (ak.below a7 I.bel) hA);have aa:=η y;have aE:=η (qw rs k y);have U:=kJ (ό.1 aw.out _ (δ y));have bf:(rs[k].body.length:Int)≤4:=by have:=U.1; omega
   have ab:=η (MI y);have a0:rs[k].head.args.length≤1000000:=by have:=U.2.2 rs[k].head Γ; omega
   have aL:=η U.2.2;have ac:=η (I.later hA);clear h J hA a7 a8 U;generalize rs[k]=r at *;clear y;obtain ⟨⟨nm,args⟩,body⟩:=r;dsimp only at *
   go_wp2_with fail
   have q2:(wr.alloc (.cells #[.string nm,.slice Ae args.length ce,.slice Af body.length cf] 40)).cell? ⟨wr.heap.size,2,none⟩=some (.slice Af body.length cf):=by go_simp
   have q3:w.heap.size+2 < wr.heap.size:=ψ I.bb;clear I;generalize wr.alloc (.cells #[.string nm,.slice Ae args.length ce,.slice Af body.length cf] 40)=w1 at *;refine (note_any ⟨nm,args⟩ _ _ b1 w w1 w.heap.size _ _ a9.out ac.out ν (by have:=a6.out k; omega) a0 (a5.out _ (wO k))).mono ?_;rintro e w2 ⟨rfl,a1,ae⟩;rw [← xC] at a1;have hlen:(aB (rs.take k) ++ [(⟨nm,args⟩:A)]).length=(aB (rs.take k)).length+1:=by simp
   rw [← hlen] at a1
   have a2:∀ a ∈ aB (rs.take k) ++ [(⟨nm,args⟩:A)],a ∈ aB rs:=fun a ha=>by
    rcases μ.1 ha with ha | ha
    ·exact wO k a ha
    ·rw [ώ.1 ha]; exact ab.out _ Γ
   have e2:w2.cell? ⟨wr.heap.size,2,none⟩=some (.slice Af body.length cf):=by
    rw [World.cell?_of_block (w:=w1) (ae _ (lt_of_cell q2) (by dsimp only; omega) (by dsimp only; omega))]; exact q2
   have aM:=η a2;have af:=η a1;have HX:Hid ((aB (rs.take k) ++ [(⟨nm,args⟩:A)]).length≤41):=η (by rw [hlen]; have:=a6.out k; omega);clear a2 a1 ae hlen a9 q2 q3;generalize aB (rs.take k) ++ [(⟨nm,args⟩:A)]=xs at *;go_wp2
   go_loopw [26] (fun i wr=>∃ j:Nat,j≤body.length∧i=.int .i64 j∧Bh w w.heap.size (xs ++ fZ (body.take j)).length (dG (xs ++ fZ (body.take j))) wr) (fun i _=>body.length - (intOf i).toNat)
   case atStart=>exact ⟨0,ε,rfl,by simpa [fZ] using af.out⟩
   case round=>
    obtain ⟨j,hj,rfl,I⟩:=hrel;clear af ac;by_cases y:j < body.length
    ·obtain ⟨b0,o0,Ag,cg,bg,rfl,_,f0,f1,f2,J,_⟩:=iV aD.out y
     replace f0:=ξ I.bel f0;replace f1:=ξ I.bel f1;replace f2:=ξ I.bel f2;have bh:(0:Int)≤(j:Int):=by omega
     have aR:(j:Int) < (body.length:Int):=by omega
     have b3:=η (uH body j y);have ag:=η y;have am:body[j].atom ∈ jV ⟨⟨nm,args⟩,body⟩:=Δ _ (List.mem_map.2 ⟨_,δ y,rfl⟩);have b4:body[j].atom.args.length≤1000000:=by have:=aL.out _ am; omega
     have hA:Below wr.heap.size wr (wr.alloc (.cells #[.bool body[j].no,.string body[j].atom.name,.slice Ag body[j].atom.args.length cg] 42)):=ζ;have ao:=η (ak.below (ak.below (jD J) I.bel) hA);have aq:=η (I.later hA);have b5:Hid ((xs ++ fZ (body.take j)).length+1≤1000000):=η (by rw [χ,nG,List.length_take]; have:=HX.out; omega)
     have b6:Hid (∀ a ∈ xs ++ fZ (body.take j),a ∈ aB rs):=η fun a ha=>by
      rcases μ.1 ha with ha | ha
      ·exact aM.out a ha
      ·refine ab.out _ (Δ _ ?_)
       unfold fZ at ha;obtain ⟨p,hp,rfl⟩:=List.mem_map.1 ha;exact List.mem_map.2 ⟨p,List.mem_of_mem_take hp,rfl⟩
     clear J hA I am;generalize body[j]=p at *;clear y;obtain ⟨no,⟨pn,a3⟩⟩:=p;dsimp only at *
     go_wp2_with fail
     refine (note_any ⟨pn,a3⟩ _ _ bg w _ w.heap.size _ _ ao.out aq.out ν b5.out b4 (a5.out _ b6.out)).mono ?_;rintro e w3 ⟨rfl,ar,_⟩
     have b7:Hid (Bh w w.heap.size (xs ++ fZ (body.take (j+1))).length (dG (xs ++ fZ (body.take (j+1)))) w3):=η (by
      rw [b3.out,← List.append_assoc,xC,χ]
      exact ar)
     clear ar aq ao;go_wp2;go_roundw
     case rel=>exact ⟨j+1,ag.out,by go_num,b7.out⟩
     case measure=>have:=ag.out; simp [intOf]; omega
    ·have he:j=body.length:=by omega
     have aR:¬ (j:Int) < (body.length:Int):=by omega
     have HE:Hid (Bh w w.heap.size (aB (rs.take (k+1))).length (dG (aB (rs.take (k+1)))) wr):=η (by
      rw [aE.out];subst he;rw [ϕ ν] at I
      exact I)
     clear I he;go_wp2;go_roundw
     case rel=>exact ⟨k+1,aa.out,by go_num,HE.out⟩
     case measure=>have:=aa.out; simp [intOf]; omega
  ·have he:k=rs.length:=by omega
   have az:¬ (k:Int) < (rs.length:Int):=by omega
   subst he;rw [ϕ ν] at I;have cM:=cell_of_one I.bm;have cB:wr.cell? ⟨w.heap.size+1+1,0,none⟩=_:=cell_of_one I.bb;have a0:=CU (aB rs);rw [a0] at cB;have HZ:Hid (∃ n,gB w.heap.size n (dG (aB rs)).1 (dG (aB rs)).2.1 wr∧Below w.heap.size w wr):=η ⟨_,I.map,I.bel⟩;clear I h a0;go_wp2
   go_quiet (fail)
   go_wp2;go_ret2;obtain ⟨n,h1,h2⟩:=HZ.out;exact ⟨rfl,n,h1.same rfl,⟨h2.os,h2.tape,h2.output,h2.size,h2.block⟩⟩
def D.mD (y:List T) (out:List ByteArray):List ByteArray:=y.foldl (fun o t=>if t.var then jX o t.name else o) out
theorem D.MJ (y:List T) (k:Nat) (h:k < y.length) (out:List ByteArray):mD (y.take (k+1)) out=if y[k].var then jX (mD (y.take k) out) y[k].name else mD (y.take k) out:=OT ⟨ByteArray.empty,y⟩ k h out
theorem D.E8 {w:World} {g:Nat}:iF w [.slice (some ⟨g,0,none⟩) 0 0] [] []:=⟨_,0,rfl,ν,ε,fun _=>rfl,fun h=>absurd rfl h⟩
theorem xI (a:A) (out:List ByteArray) (c0 c1 v:Value) (b1 b2:List Nat) (w:World) (h:aJ w [c0,c1] a b1) (h2:iF w [v] out b2) (hn:out.length+a.args.length≤16777216):
  Calls Tryz.prog 213 #[.agg #[c0,c1],v] w (U1 (lK a out) b2 w.heap.size w):=by
 have ht:=dM h;obtain ⟨Aa,ca,rfl,rfl⟩:=bG h;obtain ⟨As,cs,rfl,_,_⟩:=aj h2;obtain ⟨_,_,a8,a5,a6⟩:=aj ht;have ac:=ay (τ a5 a6);obtain ⟨an,args⟩:=a;dsimp only at *;have hA:Below w.heap.size w (w.alloc (.cells #[.string an,.slice Aa args.length ca] 33)):=ζ;have x1:(w.alloc (.cells #[.string an,.slice Aa args.length ca] 33)).cell? ⟨w.heap.size,1,none⟩=some (.slice Aa args.length ca):=by go_simp
 have I:=η (ι (bP.below h2 hA) (ι hA x1));have HE:Hid (lK ⟨an,args⟩ out=mD args out):=η rfl;have HN:=η hn;clear h h2 a5 a6 a8 hA x1 hn
 go_enter Tryz.func213,Tryz.ntmps213
 go_wp2
 go_loopw [1,5] (fun v i wr=>∃ (k m:Nat) (Av:Option Addr) (cp:Nat) (b4:List Nat),k≤args.length∧i=.int .i64 k∧v=.slice Av m cp∧m=(mD (args.take k) out).length∧iF wr [.slice Av m cp] (mD (args.take k) out) b4∧(∀ c ∈ b4,w.heap.size≤c∨c ∈ b2)∧Below w.heap.size w wr∧wr.cell? ⟨w.heap.size,1,none⟩=some (.slice Aa args.length ca)) (fun _ i _=>args.length - (intOf i).toNat)
 case atStart=>exact ⟨0,out.length,As,cs,b2,ε,rfl,rfl,rfl,I.out.1,fun c hc=>.inr hc,I.out.2.1,I.out.2.2⟩
 case round=>
  obtain ⟨k,m,Av,cp,b4,hk,rfl,rfl,a1,hR,a0,hb,x1⟩:=hrel;have a2:=η a0;clear a0;clear I;have HM:=η a1;by_cases J:k < args.length
  ·obtain ⟨b,o,rfl,_,d0,d1,a9⟩:=fJ (aQ.below ht hb) J
   have ae:(0:Int)≤(k:Int):=by omega
   have aa:(k:Int) < (args.length:Int):=by omega
   have U:=η J
   have hlen:(mD (args.take k) out).length≤16777216:=by
    have h1:=xw (args.take k) out;rw [List.length_take] at h1;have:=HN.out;have h3:(mD (args.take k) out).length≤out.length+min k args.length:=h1;omega
   have hp:=RF (mD (args.take k) out) args[k].name _ b4 wr hR a9 hlen;have HT:=η (MJ args k J out);have HR:=η (ι hR hb);generalize args[k]=t at *;obtain ⟨tv,tn⟩:=t;dsimp only at *;clear a1 hR hb ht hlen J hk;cases tv
   ·have y:Hid (mD (args.take (k+1)) out=mD (args.take k) out):=η (by rw [HT.out]; rfl)
    clear HT hp;go_wp2;go_roundw
    case rel=>exact ⟨k+1,m,Av,cp,b4,U.out,by go_num,rfl,by rw [y.out]; exact HM.out,by rw [y.out]; exact HR.out.1,a2.out,HR.out.2,x1⟩
    case measure=>have:=U.out; simp [intOf]; omega
   ·have y:Hid (mD (args.take (k+1)) out=jX (mD (args.take k) out) tn):=η (by rw [HT.out]; rfl)
    clear HT
    go_wp2_with fail
    refine hp.mono ?_;rintro e w2 ⟨a3,v2,b5,rfl,a4,a7⟩;obtain ⟨A2,p2,rfl,_,_⟩:=aj a4;have HX:=η (ι a4 (ι (HR.out.2.trans (a3.mono HR.out.2.size)) (ξ a3 x1)));have ab:Hid (∀ c ∈ b5,w.heap.size≤c∨c ∈ b2):=η (fun c hc=>(a7 c hc).elim (fun h9=>.inl (τ HR.out.2.size h9)) (a2.out c));clear hp a4 a3 x1 a7;go_wp2;go_roundw
    case rel=>exact ⟨k+1,_,A2,p2,b5,U.out,by go_num,rfl,by rw [y.out],by rw [y.out]; exact HX.out.1,ab.out,HX.out.2.1,HX.out.2.2⟩
    case measure=>have:=U.out; simp [intOf]; omega
  ·have he:=η (show k=args.length by omega)
   have aa:¬ (k:Int) < (args.length:Int):=by omega
   have HX:Hid (iF wr [.slice Av m cp] (mD args out) b4):=η (by rw [he.out,ϕ ν] at hR; exact hR);have HB:=η hb;clear hR a1 hb ht;go_wp2;go_ret;exact ⟨HB.out,_,b4,rfl,by rw [HE.out]; exact HX.out,a2.out⟩
theorem D.MK {α:Type} (f:α→Nat) (q:α→Bool) (xs:List α):je f (xs.filter q)≤je f xs:=by
 induction xs with
 | nil=>simp [je]
 | cons x xs ih=>
  rw [List.filter_cons];have e:je f (x :: xs)=f x+je f xs:=by simp [je]
  split
  ·have y:je f (x :: xs.filter q)=f x+je f (xs.filter q):=by simp [je]
   omega
  ·omega
theorem D.RY {ps:List Pt} {m:Nat} (y:je (fun p=>p.atom.args.length) ps≤m) (k:Nat) (out:List ByteArray):(fF (ps.take k) out).length≤out.length+m:=by
 have h1:=pq (ps.take k) out;have I:=vH (fun p:Pt=>p.atom.args.length) ps k;omega
theorem Df (r:Ru) (c0 c1 c2:Value) (bs:List Nat) (w:World) (h:iy w [c0,c1,c2] r bs) (hs:je (fun p=>p.atom.args.length) r.body≤1000000) (hh:r.head.args.length≤1000000):
  Calls Tryz.prog 163 #[.agg #[c0,c1,c2]] w fun e w'=>e=.returned (.bool (fO r.head r.body))∧Below w.heap.size w w':=by
 obtain ⟨p1,p2,rfl,af,a1⟩:=iW h;obtain ⟨Ad,cap,Ae,y,rfl,rfl,rfl⟩:=pY h;obtain ⟨_,_,aE,ag,am⟩:=aj a1;have b1:=ay (τ ag am);obtain ⟨I,ps⟩:=r;dsimp only at *;have hA:Below w.heap.size w (w.alloc (.cells #[.string I.name,.slice Ad I.args.length cap,.slice Ae ps.length y] 40)):=ζ;have x2:(w.alloc (.cells #[.string I.name,.slice Ad I.args.length cap,.slice Ae ps.length y] 40)).cell? ⟨w.heap.size,2,none⟩=some (.slice Ae ps.length y):=by go_simp
 have ao:Below w.heap.size w (((w.alloc (.cells #[.string I.name,.slice Ad I.args.length cap,.slice Ae ps.length y] 40)).alloc (.cells #[] 9)).alloc (.cells #[] 9)):=(hA.alloc (by simp) _).alloc (by simp <;> omega) _;have aq:=xI I [] _ _ (.slice (some ⟨w.heap.size+1+1,0,none⟩) 0 0) p1 [] _ (ak.below af ao) E8 (by simp; omega);have HE:Hid (fO I ps=decide ((fF ps (lK I [])).length=(fF (ps.filter fun p=>!p.no) []).length)):=η rfl;have HS:=η hs;have HH:=η hh;have ar:=η ao;have b2:=η x2;clear h ag am aE hA hs hh af;generalize fO I ps=G at *
 go_enter Tryz.func163,Tryz.ntmps163
 go_wp2_with fail
 refine aq.mono ?_;rintro e w1 ⟨a6,v1,b4,rfl,a7,_⟩;obtain ⟨A1,p9,rfl,_,_⟩:=aj a7;have a2:=η (ι a7 (ι (ar.out.trans (a6.mono ar.out.size)) (ξ a6 (show ((((w.alloc (.cells #[.string I.name,.slice Ad I.args.length cap,.slice Ae ps.length y] 40)).alloc (.cells #[] 9)).alloc (.cells #[] 9)).cell? ⟨w.heap.size,2,none⟩=some (.slice Ae ps.length y)) by go_simp))));clear aq a7 a6 x2;go_wp2
 go_loopw [3,4,5] (fun v3 v4 i wr=>∃ (k m q:Nat) (Av Bv:Option Addr) (cp cq:Nat) (b4 b5:List Nat),k≤ps.length∧i=.int .i64 k∧v3=.slice Bv q cq∧v4=.slice Av m cp∧m=(fF (ps.take k) (lK I [])).length∧iF wr [.slice Av m cp] (fF (ps.take k) (lK I [])) b4∧
  q=(fF ((ps.take k).filter fun p=>!p.no) []).length∧iF wr [.slice Bv q cq] (fF ((ps.take k).filter fun p=>!p.no) []) b5∧Below w.heap.size w wr∧wr.cell? ⟨w.heap.size,2,none⟩=some (.slice Ae ps.length y)) (fun _ _ i _=>ps.length - (intOf i).toNat)
 case atStart=>exact ⟨0,_,0,A1,_,p9,_,b4,[],ε,rfl,rfl,rfl,rfl,a2.out.1,rfl,E8,a2.out.2.1,a2.out.2.2⟩
 case round=>
  obtain ⟨k,m,q,Av,Bv,cp,cq,b4,b5,hk,rfl,rfl,rfl,a8,hR,a9,hQ,hb,x2⟩:=hrel;clear a2;have HM:=η (ι a8 a9);by_cases U:k < ps.length
  ·obtain ⟨b,o,Aa,ce,bk,rfl,_,d0,d1,d2,aa,_⟩:=iV (dN.below a1 hb) U
   have b3:(0:Int)≤(k:Int):=by omega
   have aL:(k:Int) < (ps.length:Int):=by omega
   have a3:=η U
   have av:(fF (ps.take k) (lK I [])).length+ps[k].atom.args.length≤16777216:=by
    have h1:=RY HS.out k (lK I []);have h2:=Ho I [];have h3:=Ql (fun p:Pt=>p.atom.args.length) ps k U;have:=HS.out;have:=HH.out;simp only [List.length_nil] at h2;omega
   have aw:(fF ((ps.take k).filter fun p=>!p.no) []).length+ps[k].atom.args.length≤16777216:=by
    have h1:=pq ((ps.take k).filter fun p=>!p.no) [];have h4:=MK (fun p:Pt=>p.atom.args.length) (fun p=>!p.no) (ps.take k);have h5:=vH (fun p:Pt=>p.atom.args.length) ps k;have h3:=Ql (fun p:Pt=>p.atom.args.length) ps k U;have:=HS.out;simp only [List.length_nil] at h1;omega
   have hp:=xI ps[k].atom _ _ _ _ bk b4 wr (jD aa) hR av;have az:=fun w' (aD:Below wr.heap.size wr w')=>xI ps[k].atom _ _ _ _ bk b5 w' (ak.below (jD aa) aD) (bP.below hQ aD) aw
   have HT:=η (KU ps k U (lK I []));have a4:=η (KW ps k U);have HB:=η hb;have HQ:=η hQ;generalize ps[k]=p at *;obtain ⟨no,pa⟩:=p;dsimp only at *;clear a8 a9 hR hQ hb a1 aa U hk av aw
   go_wp2_with fail
   refine hp.mono ?_;rintro e w2 ⟨J,v2,b6,rfl,ab,_⟩;obtain ⟨A2,p2,rfl,_,_⟩:=aj ab;have HX:=η (ι ab (HB.out.trans (J.mono HB.out.size)));replace HQ:=η (bP.below HQ.out J);have ac:=az _ J;replace x2:=ξ J x2;replace d0:=ξ J d0;replace d1:=ξ J d1;replace d2:=ξ J d2;clear hp az ab J;cases no
   ·have a0:Hid (fF ((ps.take (k+1)).filter fun p=>!p.no) []=lK pa (fF ((ps.take k).filter fun p=>!p.no) [])):=η (by rw [a4.out]; unfold fF; rw [List.foldl_append]; rfl)
    clear a4
    go_wp2_with fail
    refine ac.mono ?_;rintro e w3 ⟨a5,v3,b7,rfl,ae,_⟩;obtain ⟨A3,p3,rfl,_,_⟩:=aj ae;have HY:=η (ι ae (ι (bP.below HX.out.1 a5) (ι (HX.out.2.trans (a5.mono HX.out.2.size)) (ξ a5 x2))));clear ac ae a5 x2 d0 d1 d2;go_wp2;go_roundw
    case rel=>exact ⟨k+1,_,_,A2,A3,p2,p3,b6,b7,a3.out,by go_num,rfl,rfl,by rw [HT.out],by rw [HT.out]; exact HY.out.2.1,by rw [a0.out],by rw [a0.out]; exact HY.out.1,HY.out.2.2.1,HY.out.2.2.2⟩
    case measure=>have:=a3.out; simp [intOf]; omega
   ·have a0:Hid (fF ((ps.take (k+1)).filter fun p=>!p.no) []=fF ((ps.take k).filter fun p=>!p.no) []):=η (by rw [a4.out]; simp)
    clear a4 ac d1 d2;go_wp2;go_roundw
    case rel=>exact ⟨k+1,_,q,A2,Bv,p2,cq,b6,b5,a3.out,by go_num,rfl,rfl,by rw [HT.out],by rw [HT.out]; exact HX.out.1,by rw [a0.out]; exact HM.out.2,by rw [a0.out]; exact HQ.out,HX.out.2,x2⟩
    case measure=>have:=a3.out; simp [intOf]; omega
  ·have he:=η (show k=ps.length by omega)
   have aL:¬ (k:Int) < (ps.length:Int):=by omega
   have aM:Hid (G=decide (m=q)):=η (by
    have h1:=HM.out.1;have h2:=HM.out.2;rw [he.out,ϕ ν] at h1 h2
    rw [HE.out,← h1,← h2])
   have HB:=η hb;clear hR hQ a8 a9 hb a1 HE;go_wp2;go_ret;exact ⟨aH (by rw [aM.out]; first | (simp; omega) | (by_cases aR:m=q <;> simp [aR] <;> omega)),HB.out⟩
theorem D.Fa {α:Type} (f:α→Nat) (c:Nat) (xs:List α) (h:∀ x ∈ xs,f x≤c):je f xs≤c * xs.length:=by
 induction xs with
 | nil=>simp [je]
 | cons x xs ih=>
  have e:je f (x :: xs)=f x+je f xs:=by simp [je]
  have h1:=h x Γ;have J:=ih (fun y I=>h y (Δ _ I));rw [e,List.length_cons,Nat.mul_add];omega
theorem Pq (r:Ru) (c0 c1 c2:Value) (bs:List Nat) (w:World) (h:iy w [c0,c1,c2] r bs):
  Calls Tryz.prog 166 #[.agg #[c0,c1,c2]] w fun e w'=>e=.returned (.bool (eY r))∧Below w.heap.size w w':=by
 obtain ⟨b1,b2,rfl,hp,hq⟩:=iW h;obtain ⟨Ad,cap,Ae,I,rfl,rfl,rfl⟩:=pY h;obtain ⟨_,_,hv,hl,hm⟩:=aj hq;have a3:=ay (τ hl hm);have hok:=fun w' (hb:Below w.heap.size w w')=>uI r.head _ _ b1 w' (ak.below hp hb)
 have hr:eY r=(decide (r.body.length≤4) && r.body.all (fun p=>aZ p.atom) && aZ r.head):=rfl;rw [hr];clear h hp hv hl hm hr;generalize aZ r.head=b at *;have hA:=(Below.refl w.heap.size w).alloc ν (.cells #[.string r.head.name,.slice Ad r.head.args.length cap,.slice Ae r.body.length I] 40)
 go_enter Tryz.func166,Tryz.ntmps166
 go_wp2
 go_loopw [3] (fun i wr=>∃ k:Nat,k≤r.body.length∧i=.int .i64 k∧(r.body.take k).all (fun p=>aZ p.atom)=true∧Below w.heap.size w wr∧wr.cell? ⟨w.heap.size,0,none⟩=some (.string r.head.name)∧wr.cell? ⟨w.heap.size,1,none⟩=some (.slice Ad r.head.args.length cap)∧wr.cell? ⟨w.heap.size,2,none⟩=some (.slice Ae r.body.length I)∧w.heap.size < wr.heap.size) (fun i _=>r.body.length - (intOf i).toNat)
 case atStart=>exact ⟨0,ε,rfl,rfl,hA,by go_simp,by go_simp,by go_simp,by simp⟩
 case round=>
  obtain ⟨k,hk,rfl,J,hb,x0,x1,x2,a4⟩:=hrel;have HA:=η J;clear J hA;by_cases U:k < r.body.length
  ·obtain ⟨bb,o,Af,cf,bk,rfl,_,d0,d1,d2,a0,_⟩:=iV (dN.below hq hb) U
   have a1:=jD a0;clear hq a0
   go_wp2_with fail
   refine (uI r.body[k].atom _ _ bk _ a1).mono ?_;rintro e w' ⟨rfl,y⟩;have B':=hb.trans (y.mono hb.size);have y0:=ξ y x0;have y1:=ξ y x1;have y2:=ξ y x2;have S':w.heap.size < w'.heap.size:=by have:=y.size; omega
   clear a1 x0 x1 x2;by_cases hx:aZ r.body[k].atom=true
   ·have a2:(!aZ r.body[k].atom)=false:=by simp [hx]
    have HX:=η hx;clear hx;go_wp2;go_roundw
    case rel=>exact ⟨k+1,by omega,by go_num,by rw [jw r.body k U,HA.out]; exact HX.out,B',y0,y1,y2,S'⟩
    case measure=>simp [intOf]; omega
   ·have a2:(!aZ r.body[k].atom)=true:=by simpa using hx
    have HX:=η hx;clear hx;go_wp2;go_ret;exact ⟨aH (by rw [vI r.body k U (by simpa using HX.out)]; simp),B'⟩
  ·have he:=η (show k=r.body.length by omega)
   have ha:Hid (r.body.all (fun p=>aZ p.atom)=true):=by have:=HA.out; rw [he.out,ϕ ν] at this; exact this
   go_wp2_with fail
   refine (hok _ hb).mono ?_;rintro e w' ⟨rfl,y⟩;have B':=hb.trans (y.mono hb.size);have y2:=ξ y x2;clear x0 x1 x2 hok;cases b
   all_goals
    go_wp2;go_ret;exact ⟨aH (by rw [ha.out]; first | (simp; done) | (rw [Bool.eq_iff_iff]; simp; omega)),B'⟩
theorem sH (a:A) (c0 c1:Value) (bs:List Nat) (w:World) (h:aJ w [c0,c1] a bs):
  Calls Tryz.prog 146 #[.agg #[c0,c1]] w fun e w'=>e=.returned (.bool (dI a))∧Below w.heap.size w w':=by
 have U:=dM h;obtain ⟨Ad,cap,rfl,rfl⟩:=bG h;obtain ⟨_,_,hv,hl,hm⟩:=aj U;have a1:=ay (τ hl hm);have k1:=fun w' (hb:Below w.heap.size w w')=>uI a _ _ bs w' (ak.below h hb)
 have hf:dI a=(aZ a && !kU a.args):=rfl;have HF:=η hf;clear h hv hl hm hf;have J:=(Below.refl w.heap.size w).alloc ν (.cells #[.string a.name,.slice Ad a.args.length cap] 33)
 go_enter Tryz.func146,Tryz.ntmps146
 go_wp2
 go_loopw [3] (fun i wr=>∃ k:Nat,k≤a.args.length∧i=.int .i64 k∧kU (a.args.take k)=false∧wr=w.alloc (.cells #[.string a.name,.slice Ad a.args.length cap] 33)) (fun i _=>a.args.length - (intOf i).toNat)
 case atStart=>exact ⟨0,ε,rfl,rfl,rfl⟩
 case round=>
  obtain ⟨k,hk,rfl,y,rfl⟩:=hrel;have HA:=η y;clear y;by_cases I:k < a.args.length
  ·obtain ⟨b,o,rfl,_,d0,d1,_⟩:=fJ (aQ.below U (ϑ.alloc ν (.cells #[.string a.name,.slice Ad a.args.length cap] 33))) I
   clear U;cases hv:a.args[k].var
   ·have HV:=η hv
    rw [hv] at d0;clear hv;go_wp2;go_roundw
    case rel=>exact ⟨k+1,by omega,by go_num,by rw [BV a.args k I,HA.out,HV.out]; rfl,(by simp)⟩
    case measure=>simp [intOf]; omega
   ·have HV:=η (Ed a.args k I hv)
    rw [hv] at d0;clear hv;go_wp2;go_ret;exact ⟨aH (by rw [HF.out,HV.out]; simp),J⟩
  ·have he:=η (show k=a.args.length by omega)
   go_wp2_with fail
   refine (k1 _ J).mono ?_;rintro e w' ⟨rfl,a0⟩;go_wp2;go_ret;exact ⟨aH (by have:=HA.out; rw [he.out,ϕ ν] at this; rw [HF.out,this]; simp),J.trans (a0.mono J.size)⟩
end Go.Proofs.YtkjinanbccloeaaGreatDoor
