/- Of the proof of FnDeltaNeeds: SPut, Cmp. -/
import Derived.Test.YtkjinanbccloeaaGreatDoorE04
import Derived.Test.YtkjinanbccloeaaGreatDoorE03
set_option linter.unusedVariables false
set_option maxHeartbeats 4000000
set_option maxRecDepth 100000
namespace Go.Proofs.YtkjinanbccloeaaGreatDoor
open Go.RowKit D
attribute [local go_sem ↓] Go.wp_at_zero Go.wp_at_succ
def D.U1 (xs:List ByteArray) (bb:List Nat) (B:Nat) (w:World) (e:Ending) (w':World):Prop:=Below B w w'∧∃ v bs,e=.returned v∧iF w' [v] xs bs∧∀ b ∈ bs,w.heap.size≤b∨b ∈ bb
theorem U2:(Tryz.prog.info? 9).map (fun i=>(i.zero,i.size,i.bytes))=some (some (.string ⟨#[]⟩),1,16):=by kernel_rfl
theorem RF (xs:List ByteArray) (s:ByteArray) (v:Value) (bs:List Nat) (w:World) (h:iF w [v] xs bs) (hs:s.size≤maxLen) (hn:xs.length≤16777216):
  Calls Tryz.prog 265 #[v,.string s] w (U1 (jX xs s) bs w.heap.size w):=by
 obtain ⟨Ad,cap,rfl,hl,hm⟩:=aj h;obtain ⟨i0,hi,a5,a6,a7⟩:=info_parts U2;have d9:=ay hm;have d1:(xs.length:Int)≤9223372036854775807:=ay (τ hl hm);have d2:=UM xs s
 go_enter Tryz.func265,Tryz.ntmps265
 go_wp2
 go_loopw [5] (fun i wr=>∃ k:Nat,k≤nK xs s∧i=.int .i64 k∧Below w.heap.size w wr) (fun i _=>xs.length - (intOf i).toNat)
 case atStart=>exact ⟨0,ε,rfl,ϑ⟩
 case round=>
  obtain ⟨k,hk,rfl,B1⟩:=hrel;have da:(0:Int)≤(k:Int):=by omega
  by_cases cl:k < nK xs s
  ·have bi:k < xs.length:=by omega
   have cQ:(k:Int) < (xs.length:Int):=by omega
   have db:(k:Int)≤16777216:=by omega
   have cw:Op.bytesLess xs[k].toList s.toList=true:=by rw [vJ]; simpa using UN xs s k bi cl
   obtain ⟨b,o,rfl,_,e0,_⟩:=nD (bP.below h B1) bi;have bc:=η cl;have HB:=η B1;generalize xs[k]=t at *;clear h B1 cl bi hk;go_wp2;go_roundw
   case rel=>exact ⟨k+1,bc.out,by go_num,HB.out⟩
   case measure=>have:=bc.out; simp [intOf]; omega
  ·obtain rfl:k=nK xs s:=by omega
   clear hk cl;by_cases cT:xs = []
   ·subst cT
    have HX:Hid (jX [] s = [] ++ [s] ++ []):=η rfl;have e0:nK [] s=0:=rfl;rw [e0] at *;simp only [List.length_nil] at hl d1 ⊢;clear e0 h hn d2;have H5:Hid (0+0≤maxLen):=η (by unfold maxLen; omega);have H6:Hid ((0+0) * 16≤140737488355328):=η (by omega);have H8:Hid (0+1≤maxLen):=η (by unfold maxLen; omega);have H9:Hid ((0+1) * 16≤140737488355328):=η (by omega);have bX:Hid (1+0≤maxLen):=η (by unfold maxLen; omega);have c3:Hid ((1+0) * 16≤140737488355328):=η (by omega);have dc:(0:Int)≤(cap:Int):=by omega
    have ac:Hid (∀ (v:Value),∀ c ∈ ([]:List Nat),v.ownBlock ≠ some c):=η (fun v c hc=>by simp at hc);have cm:Hid (∀ w',aT 1 jI w' [] [] []):=η (fun w'=>aT.nil);have cn:Hid (∀ w' Ad,Lies w' Ad []):=η (fun w' Ad=>Lies.nil w' Ad);have c4:Hid (((wr.alloc (.cells #[] 9)).alloc (.cells #[.string s] 9)).heap[wr.heap.size+1]? = some (.cells #[.string s] 9 (0,0))):=η (by have:=ω (wr.alloc (.cells #[] 9)) (.cells #[.string s] 9); rw [World.size_alloc] at this; exact this);have c5:Hid (((wr.alloc (.cells #[.string s] 9)).alloc (.cells #[] 9)).heap[wr.heap.size]? = some (.cells #[.string s] 9 (0,0))):=η (by rw [Below.heap_alloc _ _ _ (by simp)]; exact ω _ _);have aD:Below wr.heap.size wr ((wr.alloc (.cells #[] 9)).alloc (.cells #[.string s] 9)).drew:=((ζ).alloc (by simp) _).drew
    have bf:=aX.empty (n:=1) (R:=jI) (e:=9) (w:=((wr.alloc (.cells #[] 9)).alloc (.cells #[.string s] 9)).drew) (g:=wr.heap.size) (base:=wr.heap.size) (show ((wr.alloc (.cells #[] 9)).alloc (.cells #[.string s] 9)).heap[wr.heap.size]? = _ by rw [Below.heap_alloc _ _ _ (by simp)]; exact ω _ _) (by omega);have bj:=η aD;have c6:=η bf;clear aD bf;have aE:Below wr.heap.size wr ((wr.alloc (.cells #[.string s] 9)).alloc (.cells #[] 9)).drew:=((ζ).alloc (by simp) _).drew;have bg:=aX.empty (n:=1) (R:=jI) (e:=9) (w:=((wr.alloc (.cells #[.string s] 9)).alloc (.cells #[] 9)).drew) (g:=wr.heap.size+1) (base:=wr.heap.size) (show ((wr.alloc (.cells #[.string s] 9)).alloc (.cells #[] 9)).heap[wr.heap.size+1]? = _ by have:=ω (wr.alloc (.cells #[.string s] 9)) (.cells #[] 9); rw [World.size_alloc] at this; exact this) (by omega);have bk:=η aE;have c7:=η bg;clear aE bg;have aL:Below wr.heap.size wr (wr.alloc (.cells #[] 9)).drew:=(ζ).drew
    have bh:=aX.empty (n:=1) (R:=jI) (e:=9) (w:=(wr.alloc (.cells #[] 9)).drew) (g:=wr.heap.size) (base:=wr.heap.size) (show (wr.alloc (.cells #[] 9)).heap[wr.heap.size]? = _ from ω _ _) (by omega);have bl:=η aL;have c8:=η bh;clear aL bh;have bz:Hid (∀ w',Below wr.heap.size wr w'→Below w.heap.size w w'):=η fun w' av=>B1.trans (av.mono B1.size)
    have aM:Hid (jI wr [.string s] s []):=η ⟨rfl,hs,rfl⟩;have c9:=η (own_ne (a:=wr.heap.size+1) (b:=wr.heap.size) (n:=0) (c:=0) (o:=0) (by omega));have ca:=η (own_ne (a:=wr.heap.size) (b:=wr.heap.size+1) (n:=0) (c:=0) (o:=0) (by omega));have cb:Hid (wr.heap.size+1 < ((wr.alloc (.cells #[] 9)).alloc (.cells #[.string s] 9)).drew.heap.size):=η (by simp);have cc:Hid (wr.heap.size < ((wr.alloc (.cells #[.string s] 9)).alloc (.cells #[] 9)).drew.heap.size):=η (by simp <;> omega);by_cases hce:cap=0
    case' pos=>
     have cU:(cap=0)=True:=eq_true hce;have cV:=η hce;clear hce
    case' neg=>
     have cU:(cap=0)=False:=eq_false hce;have cV:=η hce;clear hce
    all_goals
     go_wp2
     go_region_held3 (fun _=>True) (trivial) ((first
      | (refine aV ?_ (.tmp 33) (.tmp 36) _ ?_ wr.heap.size 9 i0 (.string ⟨#[]⟩) 1 16 Tryz.underlying44 hi a5 a6 a7 rfl (Θ 0) aK (.slice (some ⟨wr.heap.size,0,none⟩) 0 0) 0 [] [] [] ?_ c6.out rfl ?_ 0 ?_ [] [] [] ?_ (cm.out _) rfl (cn.out _ _) (ac.out _) H5.out H6.out wr wr.heap.size bj.out ν bj.out.size ?_; rfl; rfl; rfl; rotate_left 2; rfl; rotate_left; intro A1 a8 w2 I y a0 a2; have aR:Hid (w2.heap[wr.heap.size+1]? = some (.cells #[.string s] 9 (0,0))):=η ((a2.block _ cb.out c9.out).trans c4.out); clear a2; have a9:=η (aP aR.out); have aa:=η (aT.dJ (n:=1) (R:=jI) jh (aK.below aM.out y)); have af:=η I; have ag:=η y; have am:=η a0; clear I y a0)
      | (refine aV ?_ (.tmp 33) (.tmp 36) _ ?_ wr.heap.size 9 i0 (.string ⟨#[]⟩) 1 16 Tryz.underlying44 hi a5 a6 a7 rfl (Θ 0) aK (.slice (some ⟨wr.heap.size+1,0,none⟩) 0 0) 0 [] [] [] ?_ c7.out rfl ?_ 0 ?_ [] [] [] ?_ (cm.out _) rfl (cn.out _ _) (ac.out _) H5.out H6.out wr wr.heap.size bk.out ν bk.out.size ?_; rfl; rfl; rfl; rotate_left 2; rfl; rotate_left; intro A1 a8 w2 I y a0 a2; have aR:Hid (w2.heap[wr.heap.size]? = some (.cells #[.string s] 9 (0,0))):=η ((a2.block _ cc.out ca.out).trans c5.out); clear a2; have a9:=η (aP aR.out); have aa:=η (aT.dJ (n:=1) (R:=jI) jh (aK.below aM.out y)); have af:=η I; have ag:=η y; have am:=η a0; clear I y a0)
      | (refine aV ?_ (.tmp 33) (.tmp 36) _ ?_ wr.heap.size 9 i0 (.string ⟨#[]⟩) 1 16 Tryz.underlying44 hi a5 a6 a7 rfl (Θ 0) aK (.slice (some ⟨wr.heap.size,0,none⟩) 0 0) 0 [] [] [] ?_ c8.out rfl ?_ 0 ?_ [] [] [] ?_ (cm.out _) rfl (cn.out _ _) (ac.out _) H5.out H6.out wr wr.heap.size bl.out ν bl.out.size ?_; rfl; rfl; rfl; rotate_left 2; rfl; rotate_left; intro A1 a8 w2 I y a0 a2; skip; clear a2; have a4:Below wr.heap.size wr (w2.alloc (.cells #[.string s] 9)):=y.alloc y.size _; have bn:=η a4; have bo:=η (I.below aK ((Below.refl w2.heap.size w2).alloc ν (.cells #[.string s] 9))); have bp:=η a4.size; have a9:=η (aP (ω w2 (.cells #[.string s] 9))); have aa:=η (aT.dJ (n:=1) (R:=jI) jh (aK.below aM.out a4)); clear a4; have af:=η I; have ag:=η y; have am:=η a0; clear I y a0)
      | (refine aV ?_ (.tmp 37) (.tmp 39) _ ?_ wr.heap.size 9 i0 (.string ⟨#[]⟩) 1 16 Tryz.underlying44 hi a5 a6 a7 rfl (Θ 0) aK (.slice A1 (0+0) a8) (0+0) _ _ _ ?_ af.out rfl (some ⟨wr.heap.size+1,0,none⟩) 1 1 _ [s] _ ?_ aa.out rfl a9.out (ac.out _) H8.out H9.out wr wr.heap.size ag.out ν am.out ?_; rfl; rfl; rfl; rfl; intro A2 b1 w3 J U a1 ab; have b2:=η J; have aw:=η U; have b5:=η a1; clear J U a1 ab)
      | (refine aV ?_ (.tmp 37) (.tmp 39) _ ?_ wr.heap.size 9 i0 (.string ⟨#[]⟩) 1 16 Tryz.underlying44 hi a5 a6 a7 rfl (Θ 0) aK (.slice A1 (0+0) a8) (0+0) _ _ _ ?_ af.out rfl (some ⟨wr.heap.size,0,none⟩) 1 1 _ [s] _ ?_ aa.out rfl a9.out (ac.out _) H8.out H9.out wr wr.heap.size ag.out ν am.out ?_; rfl; rfl; rfl; rfl; intro A2 b1 w3 J U a1 ab; have b2:=η J; have aw:=η U; have b5:=η a1; clear J U a1 ab)
      | (refine aV ?_ (.tmp 37) (.tmp 39) _ ?_ wr.heap.size 9 i0 (.string ⟨#[]⟩) 1 16 Tryz.underlying44 hi a5 a6 a7 rfl (Θ 0) aK (.slice A1 (0+0) a8) (0+0) _ _ _ ?_ bo.out rfl (some ⟨w2.heap.size,0,none⟩) 1 1 _ [s] _ ?_ aa.out rfl a9.out (ac.out _) H8.out H9.out wr wr.heap.size bn.out ν bp.out ?_; rfl; rfl; rfl; rfl; intro A2 b1 w3 J U a1 ab; have b2:=η J; have aw:=η U; have b5:=η a1; clear J U a1 ab)
      | (refine aV ?_ (.tmp 40) (.tmp 43) _ ?_ wr.heap.size 9 i0 (.string ⟨#[]⟩) 1 16 Tryz.underlying44 hi a5 a6 a7 rfl (Θ 0) aK (.slice A2 (0+0+1) b1) (0+0+1) _ _ _ ?_ b2.out rfl ?_ 0 ?_ [] [] [] ?_ (cm.out _) rfl (cn.out _ _) (ac.out _) bX.out c3.out wr wr.heap.size aw.out ν b5.out ?_; rfl; rfl; rfl; rotate_left 2; rfl; rotate_left; intro A3 cW w4 bq br cd _; have ce:=η bq; have cg:=η br; clear bq br cd)))
     all_goals
      obtain ⟨b4,bu,bv⟩:=ce.out.slice;have HS:=η bu;have ci:=η bv;clear bu bv;go_wp2;go_ret;exact ⟨bz.out _ cg.out,_,b4,rfl,by rw [HX.out]; exact HS.out,fun c hc=>(ci.out c hc).imp (τ B1.size) (fun h9=>by simp at h9)⟩
   ·have cX:Hid (∀ hx:nK xs s < xs.length,¬ gJ xs[nK xs s] s < 0):=η (OQ xs s)
    obtain ⟨L,b3,b6,ao,bO⟩:=rH jh (by omega) h;have aq:=bP.lt h;obtain ⟨b,o,rfl,d3,ae⟩:=bO cT;have co:=aq b d3;by_cases bi:nK xs s < xs.length
    ·have cQ:((nK xs s:Nat):Int) < (xs.length:Int):=by omega
     obtain ⟨b',o',he,_,e0,_⟩:=nD (bP.below h B1) bi;obtain ⟨rfl,rfl⟩:b=b'∧o=o':=by simpa using he
     have cw:Op.bytesLess xs[nK xs s].toList s.toList=false:=by rw [vJ]; simpa using OQ xs s bi
     by_cases bR:gJ xs[nK xs s] s=0
     ·have hq:(xs[nK xs s].toList == s.toList)=true:=by rw [D6]; simpa using bR
      have HX:Hid (jX xs s=xs):=η (KT xs s bi bR);have HR:=η (bP.below h B1);have HB:=η B1;generalize xs[nK xs s]=t at *;clear h b6 ae bO bR B1;go_wp2;go_ret;exact ⟨HB.out,_,bs,rfl,by rw [HX.out]; exact HR.out,fun b hb=>.inr hb⟩
     ·have hq:(xs[nK xs s].toList == s.toList)=false:=by rw [D6]; simpa using bR
      have HX:Hid (jX xs s=xs.take (nK xs s) ++ [s] ++ xs.drop (nK xs s)):=η (En xs s (fun _=>bR));have de:Hid (nK xs s < xs.length):=η bi;clear bR cX;generalize xs[nK xs s]=t at *;generalize nK xs s=k at *;have d8:¬ (cap=k):=by omega
      have a3:Hid (k≤xs.length):=η (by omega);obtain ⟨bt,cj,b7⟩:=b6.take (k:=k) (by have:=a3.out; omega);obtain ⟨bd,ck,bA⟩:=b6.drop (k:=k) (by have:=a3.out; omega);have cx:=η cj;have cp:=η ck;have d4:(k:Int)≤(cap:Int):=by have:=a3.out; omega
      have d5:(k:Int)≤(xs.length:Int):=by have:=a3.out; omega
      have d6:(xs.length:Int)≤(cap:Int):=by omega
      have b8:(xs.take k).length=k:=by rw [List.length_take]; have:=a3.out; omega
      have bw:(xs.drop k).length=xs.length - k:=List.length_drop
      have bc:Hid (∀ w',Below w.heap.size w w'→Lies w' (some ⟨b,o,none⟩) (L.take (k * 1))):=η fun w' av=>Lies.mk fun j u hj=>(av.cell (p:=⟨b,o+j,none⟩) co).trans (ae j u (by
       have cy:=(List.getElem?_eq_some_iff.1 hj).1
       rw [List.getElem?_take_of_lt (by simp at cy; omega)] at hj; exact hj))
      have cq:Hid (∀ w',Below w.heap.size w w'→Lies w' (some ⟨b,o+k,none⟩) (L.drop (k * 1))):=η fun w' av=>Lies.mk fun j u hj=>(av.cell (p:=⟨b,o+k+j,none⟩) co).trans (by rw [Nat.add_assoc]; exact ae _ u (by rw [List.getElem?_drop,Nat.mul_one] at hj; exact hj))
      have H5:Hid (0+k≤maxLen):=η (by have:=a3.out; unfold maxLen; omega);have H6:Hid ((0+k) * 16≤140737488355328):=η (by have:=a3.out; omega);have H8:Hid (k+1≤maxLen):=η (by have:=a3.out; unfold maxLen; omega);have H9:Hid ((k+1) * 16≤140737488355328):=η (by have:=a3.out; omega);have bX:Hid (k+1+(xs.length - k)≤maxLen):=η (by have:=a3.out; unfold maxLen; omega);have c3:Hid ((k+1+(xs.length - k)) * 16≤140737488355328):=η (by have:=a3.out; omega);have az:=η b8;have cr:=η bw;have cz:Hid ((xs.take k ++ [s]).length=k+1):=η (by rw [χ,b8]; rfl)
      have cA:Hid (∀ c,c ∈ bt∨c ∈ bd→c ∈ bs):=η (fun c hc=>by
       rcases hc with hc | hc
       ·exact ao c (b7 c hc)
       ·exact ao c (bA c hc))
      have bB:Hid (∀ c ∈ bd,c < wr.heap.size):=η fun c hc=>κ (aq c (ao c (bA c hc))) B1.size
      have c4:Hid (((wr.alloc (.cells #[] 9)).alloc (.cells #[.string s] 9)).heap[wr.heap.size+1]? = some (.cells #[.string s] 9 (0,0))):=η (by have:=ω (wr.alloc (.cells #[] 9)) (.cells #[.string s] 9); rw [World.size_alloc] at this; exact this);have c5:Hid (((wr.alloc (.cells #[.string s] 9)).alloc (.cells #[] 9)).heap[wr.heap.size]? = some (.cells #[.string s] 9 (0,0))):=η (by rw [Below.heap_alloc _ _ _ (by simp)]; exact ω _ _);have ar:=cx.out.below aK B1;have bx:=cp.out.below aK B1;have aD:Below wr.heap.size wr ((wr.alloc (.cells #[] 9)).alloc (.cells #[.string s] 9)).drew:=((ζ).alloc (by simp) _).drew;have bf:=aX.empty (n:=1) (R:=jI) (e:=9) (w:=((wr.alloc (.cells #[] 9)).alloc (.cells #[.string s] 9)).drew) (g:=wr.heap.size) (base:=wr.heap.size) (show ((wr.alloc (.cells #[] 9)).alloc (.cells #[.string s] 9)).heap[wr.heap.size]? = _ by rw [Below.heap_alloc _ _ _ (by simp)]; exact ω _ _) (by omega);have bj:=η aD;have cB:=η (ar.below aK aD)
      have cD:Hid (Lies ((wr.alloc (.cells #[] 9)).alloc (.cells #[.string s] 9)).drew (some ⟨b,o,none⟩) (L.take (k * 1))):=η (bc.out _ (B1.trans (aD.mono B1.size)));have cE:Hid (∀ c ∈ bt,(Value.slice (some ⟨wr.heap.size,0,none⟩) 0 0).ownBlock ≠ some c):=η fun c hc=>aO bf.own (κ (aq c (ao c (b7 c hc))) B1.size)
      have c6:=η bf;clear aD bf;have aE:Below wr.heap.size wr ((wr.alloc (.cells #[.string s] 9)).alloc (.cells #[] 9)).drew:=((ζ).alloc (by simp) _).drew;have bg:=aX.empty (n:=1) (R:=jI) (e:=9) (w:=((wr.alloc (.cells #[.string s] 9)).alloc (.cells #[] 9)).drew) (g:=wr.heap.size+1) (base:=wr.heap.size) (show ((wr.alloc (.cells #[.string s] 9)).alloc (.cells #[] 9)).heap[wr.heap.size+1]? = _ by have:=ω (wr.alloc (.cells #[.string s] 9)) (.cells #[] 9); rw [World.size_alloc] at this; exact this) (by omega);have bk:=η aE;have cG:=η (ar.below aK aE);have cI:Hid (Lies ((wr.alloc (.cells #[.string s] 9)).alloc (.cells #[] 9)).drew (some ⟨b,o,none⟩) (L.take (k * 1))):=η (bc.out _ (B1.trans (aE.mono B1.size)));have cJ:Hid (∀ c ∈ bt,(Value.slice (some ⟨wr.heap.size+1,0,none⟩) 0 0).ownBlock ≠ some c):=η fun c hc=>aO bg.own (κ (aq c (ao c (b7 c hc))) B1.size)
      have c7:=η bg;clear aE bg;have aL:Below wr.heap.size wr (wr.alloc (.cells #[] 9)).drew:=(ζ).drew;have bh:=aX.empty (n:=1) (R:=jI) (e:=9) (w:=(wr.alloc (.cells #[] 9)).drew) (g:=wr.heap.size) (base:=wr.heap.size) (show (wr.alloc (.cells #[] 9)).heap[wr.heap.size]? = _ from ω _ _) (by omega);have bl:=η aL;have cK:=η (ar.below aK aL);have cL:Hid (Lies (wr.alloc (.cells #[] 9)).drew (some ⟨b,o,none⟩) (L.take (k * 1))):=η (bc.out _ (B1.trans (aL.mono B1.size)));have cP:Hid (∀ c ∈ bt,(Value.slice (some ⟨wr.heap.size,0,none⟩) 0 0).ownBlock ≠ some c):=η fun c hc=>aO bh.own (κ (aq c (ao c (b7 c hc))) B1.size)
      have c8:=η bh;clear aL bh;have bz:Hid (∀ w',Below wr.heap.size wr w'→Below w.heap.size w w'):=η fun w' av=>B1.trans (av.mono B1.size)
      have b9:=η bx;clear ar bx;have aM:Hid (jI wr [.string s] s []):=η ⟨rfl,hs,rfl⟩;have ac:Hid (∀ (v:Value),∀ c ∈ ([]:List Nat),v.ownBlock ≠ some c):=η (fun v c hc=>by simp at hc);have c9:=η (own_ne (a:=wr.heap.size+1) (b:=wr.heap.size) (n:=0) (c:=0) (o:=0) (by omega));have ca:=η (own_ne (a:=wr.heap.size) (b:=wr.heap.size+1) (n:=0) (c:=0) (o:=0) (by omega));have cb:Hid (wr.heap.size+1 < ((wr.alloc (.cells #[] 9)).alloc (.cells #[.string s] 9)).drew.heap.size):=η (by simp);have cc:Hid (wr.heap.size < ((wr.alloc (.cells #[.string s] 9)).alloc (.cells #[] 9)).drew.heap.size):=η (by simp <;> omega);clear b8 bw b7 bA ao cj ck b6 bO ae h;go_wp2
      go_region_held3 (fun _=>True) (trivial) ((first
       | (refine aV ?_ (.tmp 33) (.tmp 36) _ ?_ wr.heap.size 9 i0 (.string ⟨#[]⟩) 1 16 Tryz.underlying44 hi a5 a6 a7 rfl (Θ 0) aK (.slice (some ⟨wr.heap.size,0,none⟩) 0 0) 0 [] [] [] ?_ c6.out rfl (some ⟨b,o,none⟩) k cap (L.take (k * 1)) _ _ ?_ cB.out az.out cD.out cE.out H5.out H6.out wr wr.heap.size bj.out ν bj.out.size ?_; rfl; rfl; rfl; rfl; intro A1 a8 w2 I y a0 a2; simp only [Nat.zero_add,List.nil_append] at I ⊢; have aR:Hid (w2.heap[wr.heap.size+1]? = some (.cells #[.string s] 9 (0,0))):=η ((a2.block _ cb.out c9.out).trans c4.out); clear a2; have a9:=η (aP aR.out); have aa:=η (aT.dJ (n:=1) (R:=jI) jh (aK.below aM.out y)); have af:=η I; have ag:=η y; have am:=η a0; clear I y a0)
       | (refine aV ?_ (.tmp 33) (.tmp 36) _ ?_ wr.heap.size 9 i0 (.string ⟨#[]⟩) 1 16 Tryz.underlying44 hi a5 a6 a7 rfl (Θ 0) aK (.slice (some ⟨wr.heap.size+1,0,none⟩) 0 0) 0 [] [] [] ?_ c7.out rfl (some ⟨b,o,none⟩) k cap (L.take (k * 1)) _ _ ?_ cG.out az.out cI.out cJ.out H5.out H6.out wr wr.heap.size bk.out ν bk.out.size ?_; rfl; rfl; rfl; rfl; intro A1 a8 w2 I y a0 a2; simp only [Nat.zero_add,List.nil_append] at I ⊢; have aR:Hid (w2.heap[wr.heap.size]? = some (.cells #[.string s] 9 (0,0))):=η ((a2.block _ cc.out ca.out).trans c5.out); clear a2; have a9:=η (aP aR.out); have aa:=η (aT.dJ (n:=1) (R:=jI) jh (aK.below aM.out y)); have af:=η I; have ag:=η y; have am:=η a0; clear I y a0)
       | (refine aV ?_ (.tmp 33) (.tmp 36) _ ?_ wr.heap.size 9 i0 (.string ⟨#[]⟩) 1 16 Tryz.underlying44 hi a5 a6 a7 rfl (Θ 0) aK (.slice (some ⟨wr.heap.size,0,none⟩) 0 0) 0 [] [] [] ?_ c8.out rfl (some ⟨b,o,none⟩) k cap (L.take (k * 1)) _ _ ?_ cK.out az.out cL.out cP.out H5.out H6.out wr wr.heap.size bl.out ν bl.out.size ?_; rfl; rfl; rfl; rfl; intro A1 a8 w2 I y a0 a2; simp only [Nat.zero_add,List.nil_append] at I ⊢; skip; clear a2; have a4:Below wr.heap.size wr (w2.alloc (.cells #[.string s] 9)):=y.alloc y.size _; have bn:=η a4; have bo:=η (I.below aK ((Below.refl w2.heap.size w2).alloc ν (.cells #[.string s] 9))); have bp:=η a4.size; have a9:=η (aP (ω w2 (.cells #[.string s] 9))); have aa:=η (aT.dJ (n:=1) (R:=jI) jh (aK.below aM.out a4)); clear a4; have af:=η I; have ag:=η y; have am:=η a0; clear I y a0)
       | (refine aV ?_ (.tmp 37) (.tmp 39) _ ?_ wr.heap.size 9 i0 (.string ⟨#[]⟩) 1 16 Tryz.underlying44 hi a5 a6 a7 rfl (Θ 0) aK (.slice A1 k a8) k _ _ _ ?_ af.out az.out (some ⟨wr.heap.size+1,0,none⟩) 1 1 _ [s] _ ?_ aa.out rfl a9.out (ac.out _) H8.out H9.out wr wr.heap.size ag.out ν am.out ?_; rfl; rfl; rfl; rfl; intro A2 b1 w3 J U a1 ab; have bE:=η (b9.out.below aK U); have bL:=η (fun c hc=>aO J.own (bB.out c hc)); have b2:=η J; have aw:=η U; have b5:=η a1; clear J U a1 ab)
       | (refine aV ?_ (.tmp 37) (.tmp 39) _ ?_ wr.heap.size 9 i0 (.string ⟨#[]⟩) 1 16 Tryz.underlying44 hi a5 a6 a7 rfl (Θ 0) aK (.slice A1 k a8) k _ _ _ ?_ af.out az.out (some ⟨wr.heap.size,0,none⟩) 1 1 _ [s] _ ?_ aa.out rfl a9.out (ac.out _) H8.out H9.out wr wr.heap.size ag.out ν am.out ?_; rfl; rfl; rfl; rfl; intro A2 b1 w3 J U a1 ab; have bE:=η (b9.out.below aK U); have bL:=η (fun c hc=>aO J.own (bB.out c hc)); have b2:=η J; have aw:=η U; have b5:=η a1; clear J U a1 ab)
       | (refine aV ?_ (.tmp 37) (.tmp 39) _ ?_ wr.heap.size 9 i0 (.string ⟨#[]⟩) 1 16 Tryz.underlying44 hi a5 a6 a7 rfl (Θ 0) aK (.slice A1 k a8) k _ _ _ ?_ bo.out az.out (some ⟨w2.heap.size,0,none⟩) 1 1 _ [s] _ ?_ aa.out rfl a9.out (ac.out _) H8.out H9.out wr wr.heap.size bn.out ν bp.out ?_; rfl; rfl; rfl; rfl; intro A2 b1 w3 J U a1 ab; have bE:=η (b9.out.below aK U); have bL:=η (fun c hc=>aO J.own (bB.out c hc)); have b2:=η J; have aw:=η U; have b5:=η a1; clear J U a1 ab)
       | (refine aV ?_ (.tmp 40) (.tmp 43) _ ?_ wr.heap.size 9 i0 (.string ⟨#[]⟩) 1 16 Tryz.underlying44 hi a5 a6 a7 rfl (Θ 0) aK (.slice A2 (k+1) b1) (k+1) _ _ _ ?_ b2.out cz.out (some ⟨b,o+k,none⟩) (xs.length - k) (cap - k) (L.drop (k * 1)) _ _ ?_ bE.out cr.out (cq.out _ (bz.out _ aw.out)) bL.out bX.out c3.out wr wr.heap.size aw.out ν b5.out ?_; rfl; rfl; rfl; rfl; intro A3 cW w4 bq br cd _; have ce:=η bq; have cg:=η br; clear bq br cd)))
      all_goals
       obtain ⟨b4,bu,bv⟩:=ce.out.slice;have HS:=η bu;have ci:=η bv;clear bu bv;go_wp2;go_ret;exact ⟨bz.out _ cg.out,_,b4,rfl,by rw [HX.out]; exact HS.out,fun c hc=>(ci.out c hc).imp (τ B1.size) (fun h9=>cA.out c (by simpa using h9))⟩
    ·have HX:Hid (jX xs s=xs.take (nK xs s) ++ [s] ++ xs.drop (nK xs s)):=η (En xs s (fun hx=>absurd hx bi))
     clear cX;generalize nK xs s=k at *;have cY:k=xs.length:=by omega
     have cQ:¬ ((k:Nat):Int) < (xs.length:Int):=by omega
     have a3:Hid (k≤xs.length):=η (by omega);obtain ⟨bt,cj,b7⟩:=b6.take (k:=k) (by have:=a3.out; omega);obtain ⟨bd,ck,bA⟩:=b6.drop (k:=k) (by have:=a3.out; omega);have cx:=η cj;have cp:=η ck;have d4:(k:Int)≤(cap:Int):=by have:=a3.out; omega
     have d5:(k:Int)≤(xs.length:Int):=by have:=a3.out; omega
     have d6:(xs.length:Int)≤(cap:Int):=by omega
     have b8:(xs.take k).length=k:=by rw [List.length_take]; have:=a3.out; omega
     have bw:(xs.drop k).length=xs.length - k:=List.length_drop
     have bc:Hid (∀ w',Below w.heap.size w w'→Lies w' (some ⟨b,o,none⟩) (L.take (k * 1))):=η fun w' av=>Lies.mk fun j u hj=>(av.cell (p:=⟨b,o+j,none⟩) co).trans (ae j u (by
      have cy:=(List.getElem?_eq_some_iff.1 hj).1
      rw [List.getElem?_take_of_lt (by simp at cy; omega)] at hj; exact hj))
     have cq:Hid (∀ w',Below w.heap.size w w'→Lies w' (some ⟨b,o+k,none⟩) (L.drop (k * 1))):=η fun w' av=>Lies.mk fun j u hj=>(av.cell (p:=⟨b,o+k+j,none⟩) co).trans (by rw [Nat.add_assoc]; exact ae _ u (by rw [List.getElem?_drop,Nat.mul_one] at hj; exact hj))
     have H5:Hid (0+k≤maxLen):=η (by have:=a3.out; unfold maxLen; omega);have H6:Hid ((0+k) * 16≤140737488355328):=η (by have:=a3.out; omega);have H8:Hid (k+1≤maxLen):=η (by have:=a3.out; unfold maxLen; omega);have H9:Hid ((k+1) * 16≤140737488355328):=η (by have:=a3.out; omega);have bX:Hid (k+1+(xs.length - k)≤maxLen):=η (by have:=a3.out; unfold maxLen; omega);have c3:Hid ((k+1+(xs.length - k)) * 16≤140737488355328):=η (by have:=a3.out; omega);have az:=η b8;have cr:=η bw;have cz:Hid ((xs.take k ++ [s]).length=k+1):=η (by rw [χ,b8]; rfl)
     have cA:Hid (∀ c,c ∈ bt∨c ∈ bd→c ∈ bs):=η (fun c hc=>by
      rcases hc with hc | hc
      ·exact ao c (b7 c hc)
      ·exact ao c (bA c hc))
     have bB:Hid (∀ c ∈ bd,c < wr.heap.size):=η fun c hc=>κ (aq c (ao c (bA c hc))) B1.size
     have d7:=η cY;clear cY;have c4:Hid (((wr.alloc (.cells #[] 9)).alloc (.cells #[.string s] 9)).heap[wr.heap.size+1]? = some (.cells #[.string s] 9 (0,0))):=η (by have:=ω (wr.alloc (.cells #[] 9)) (.cells #[.string s] 9); rw [World.size_alloc] at this; exact this);have c5:Hid (((wr.alloc (.cells #[.string s] 9)).alloc (.cells #[] 9)).heap[wr.heap.size]? = some (.cells #[.string s] 9 (0,0))):=η (by rw [Below.heap_alloc _ _ _ (by simp)]; exact ω _ _);have ar:=cx.out.below aK B1;have bx:=cp.out.below aK B1;have aD:Below wr.heap.size wr ((wr.alloc (.cells #[] 9)).alloc (.cells #[.string s] 9)).drew:=((ζ).alloc (by simp) _).drew;have bf:=aX.empty (n:=1) (R:=jI) (e:=9) (w:=((wr.alloc (.cells #[] 9)).alloc (.cells #[.string s] 9)).drew) (g:=wr.heap.size) (base:=wr.heap.size) (show ((wr.alloc (.cells #[] 9)).alloc (.cells #[.string s] 9)).heap[wr.heap.size]? = _ by rw [Below.heap_alloc _ _ _ (by simp)]; exact ω _ _) (by omega);have bj:=η aD;have cB:=η (ar.below aK aD)
     have cD:Hid (Lies ((wr.alloc (.cells #[] 9)).alloc (.cells #[.string s] 9)).drew (some ⟨b,o,none⟩) (L.take (k * 1))):=η (bc.out _ (B1.trans (aD.mono B1.size)));have cE:Hid (∀ c ∈ bt,(Value.slice (some ⟨wr.heap.size,0,none⟩) 0 0).ownBlock ≠ some c):=η fun c hc=>aO bf.own (κ (aq c (ao c (b7 c hc))) B1.size)
     have c6:=η bf;clear aD bf;have aE:Below wr.heap.size wr ((wr.alloc (.cells #[.string s] 9)).alloc (.cells #[] 9)).drew:=((ζ).alloc (by simp) _).drew;have bg:=aX.empty (n:=1) (R:=jI) (e:=9) (w:=((wr.alloc (.cells #[.string s] 9)).alloc (.cells #[] 9)).drew) (g:=wr.heap.size+1) (base:=wr.heap.size) (show ((wr.alloc (.cells #[.string s] 9)).alloc (.cells #[] 9)).heap[wr.heap.size+1]? = _ by have:=ω (wr.alloc (.cells #[.string s] 9)) (.cells #[] 9); rw [World.size_alloc] at this; exact this) (by omega);have bk:=η aE;have cG:=η (ar.below aK aE);have cI:Hid (Lies ((wr.alloc (.cells #[.string s] 9)).alloc (.cells #[] 9)).drew (some ⟨b,o,none⟩) (L.take (k * 1))):=η (bc.out _ (B1.trans (aE.mono B1.size)));have cJ:Hid (∀ c ∈ bt,(Value.slice (some ⟨wr.heap.size+1,0,none⟩) 0 0).ownBlock ≠ some c):=η fun c hc=>aO bg.own (κ (aq c (ao c (b7 c hc))) B1.size)
     have c7:=η bg;clear aE bg;have aL:Below wr.heap.size wr (wr.alloc (.cells #[] 9)).drew:=(ζ).drew;have bh:=aX.empty (n:=1) (R:=jI) (e:=9) (w:=(wr.alloc (.cells #[] 9)).drew) (g:=wr.heap.size) (base:=wr.heap.size) (show (wr.alloc (.cells #[] 9)).heap[wr.heap.size]? = _ from ω _ _) (by omega);have bl:=η aL;have cK:=η (ar.below aK aL);have cL:Hid (Lies (wr.alloc (.cells #[] 9)).drew (some ⟨b,o,none⟩) (L.take (k * 1))):=η (bc.out _ (B1.trans (aL.mono B1.size)));have cP:Hid (∀ c ∈ bt,(Value.slice (some ⟨wr.heap.size,0,none⟩) 0 0).ownBlock ≠ some c):=η fun c hc=>aO bh.own (κ (aq c (ao c (b7 c hc))) B1.size)
     have c8:=η bh;clear aL bh;have bz:Hid (∀ w',Below wr.heap.size wr w'→Below w.heap.size w w'):=η fun w' av=>B1.trans (av.mono B1.size)
     have b9:=η bx;clear ar bx;have aM:Hid (jI wr [.string s] s []):=η ⟨rfl,hs,rfl⟩;have ac:Hid (∀ (v:Value),∀ c ∈ ([]:List Nat),v.ownBlock ≠ some c):=η (fun v c hc=>by simp at hc);have c9:=η (own_ne (a:=wr.heap.size+1) (b:=wr.heap.size) (n:=0) (c:=0) (o:=0) (by omega));have ca:=η (own_ne (a:=wr.heap.size) (b:=wr.heap.size+1) (n:=0) (c:=0) (o:=0) (by omega));have cb:Hid (wr.heap.size+1 < ((wr.alloc (.cells #[] 9)).alloc (.cells #[.string s] 9)).drew.heap.size):=η (by simp);have cc:Hid (wr.heap.size < ((wr.alloc (.cells #[.string s] 9)).alloc (.cells #[] 9)).drew.heap.size):=η (by simp <;> omega);clear b8 bw b7 bA ao cj ck b6 bO ae h;by_cases hce:cap=k
     case' pos=>
      have cU:(cap=k)=True:=eq_true hce;have d0:xs.length=k:=d7.out.symm;have cv:L.drop (k * 1) = []:=List.length_eq_zero_iff.1 (by rw [cp.out.len,cr.out,d0]; simp);replace cq:Hid (∀ w',Below w.heap.size w w'→Lies w' (some ⟨b,o,none⟩) (L.drop (k * 1))):=η (fun w' _=>by rw [cv]; exact Lies.nil w' _);have cV:=η hce;clear d0 cv hce
     all_goals
      go_wp2
      go_region_held3 (fun _=>True) (trivial) ((first
       | (refine aV ?_ (.tmp 33) (.tmp 36) _ ?_ wr.heap.size 9 i0 (.string ⟨#[]⟩) 1 16 Tryz.underlying44 hi a5 a6 a7 rfl (Θ 0) aK (.slice (some ⟨wr.heap.size,0,none⟩) 0 0) 0 [] [] [] ?_ c6.out rfl (some ⟨b,o,none⟩) k cap (L.take (k * 1)) _ _ ?_ cB.out az.out cD.out cE.out H5.out H6.out wr wr.heap.size bj.out ν bj.out.size ?_; rfl; rfl; rfl; rfl; intro A1 a8 w2 I y a0 a2; simp only [Nat.zero_add,List.nil_append] at I ⊢; have aR:Hid (w2.heap[wr.heap.size+1]? = some (.cells #[.string s] 9 (0,0))):=η ((a2.block _ cb.out c9.out).trans c4.out); clear a2; have a9:=η (aP aR.out); have aa:=η (aT.dJ (n:=1) (R:=jI) jh (aK.below aM.out y)); have af:=η I; have ag:=η y; have am:=η a0; clear I y a0)
       | (refine aV ?_ (.tmp 33) (.tmp 36) _ ?_ wr.heap.size 9 i0 (.string ⟨#[]⟩) 1 16 Tryz.underlying44 hi a5 a6 a7 rfl (Θ 0) aK (.slice (some ⟨wr.heap.size+1,0,none⟩) 0 0) 0 [] [] [] ?_ c7.out rfl (some ⟨b,o,none⟩) k cap (L.take (k * 1)) _ _ ?_ cG.out az.out cI.out cJ.out H5.out H6.out wr wr.heap.size bk.out ν bk.out.size ?_; rfl; rfl; rfl; rfl; intro A1 a8 w2 I y a0 a2; simp only [Nat.zero_add,List.nil_append] at I ⊢; have aR:Hid (w2.heap[wr.heap.size]? = some (.cells #[.string s] 9 (0,0))):=η ((a2.block _ cc.out ca.out).trans c5.out); clear a2; have a9:=η (aP aR.out); have aa:=η (aT.dJ (n:=1) (R:=jI) jh (aK.below aM.out y)); have af:=η I; have ag:=η y; have am:=η a0; clear I y a0)
       | (refine aV ?_ (.tmp 33) (.tmp 36) _ ?_ wr.heap.size 9 i0 (.string ⟨#[]⟩) 1 16 Tryz.underlying44 hi a5 a6 a7 rfl (Θ 0) aK (.slice (some ⟨wr.heap.size,0,none⟩) 0 0) 0 [] [] [] ?_ c8.out rfl (some ⟨b,o,none⟩) k cap (L.take (k * 1)) _ _ ?_ cK.out az.out cL.out cP.out H5.out H6.out wr wr.heap.size bl.out ν bl.out.size ?_; rfl; rfl; rfl; rfl; intro A1 a8 w2 I y a0 a2; simp only [Nat.zero_add,List.nil_append] at I ⊢; skip; clear a2; have a4:Below wr.heap.size wr (w2.alloc (.cells #[.string s] 9)):=y.alloc y.size _; have bn:=η a4; have bo:=η (I.below aK ((Below.refl w2.heap.size w2).alloc ν (.cells #[.string s] 9))); have bp:=η a4.size; have a9:=η (aP (ω w2 (.cells #[.string s] 9))); have aa:=η (aT.dJ (n:=1) (R:=jI) jh (aK.below aM.out a4)); clear a4; have af:=η I; have ag:=η y; have am:=η a0; clear I y a0)
       | (refine aV ?_ (.tmp 37) (.tmp 39) _ ?_ wr.heap.size 9 i0 (.string ⟨#[]⟩) 1 16 Tryz.underlying44 hi a5 a6 a7 rfl (Θ 0) aK (.slice A1 k a8) k _ _ _ ?_ af.out az.out (some ⟨wr.heap.size+1,0,none⟩) 1 1 _ [s] _ ?_ aa.out rfl a9.out (ac.out _) H8.out H9.out wr wr.heap.size ag.out ν am.out ?_; rfl; rfl; rfl; rfl; intro A2 b1 w3 J U a1 ab; have bE:=η (b9.out.below aK U); have bL:=η (fun c hc=>aO J.own (bB.out c hc)); have b2:=η J; have aw:=η U; have b5:=η a1; clear J U a1 ab)
       | (refine aV ?_ (.tmp 37) (.tmp 39) _ ?_ wr.heap.size 9 i0 (.string ⟨#[]⟩) 1 16 Tryz.underlying44 hi a5 a6 a7 rfl (Θ 0) aK (.slice A1 k a8) k _ _ _ ?_ af.out az.out (some ⟨wr.heap.size,0,none⟩) 1 1 _ [s] _ ?_ aa.out rfl a9.out (ac.out _) H8.out H9.out wr wr.heap.size ag.out ν am.out ?_; rfl; rfl; rfl; rfl; intro A2 b1 w3 J U a1 ab; have bE:=η (b9.out.below aK U); have bL:=η (fun c hc=>aO J.own (bB.out c hc)); have b2:=η J; have aw:=η U; have b5:=η a1; clear J U a1 ab)
       | (refine aV ?_ (.tmp 37) (.tmp 39) _ ?_ wr.heap.size 9 i0 (.string ⟨#[]⟩) 1 16 Tryz.underlying44 hi a5 a6 a7 rfl (Θ 0) aK (.slice A1 k a8) k _ _ _ ?_ bo.out az.out (some ⟨w2.heap.size,0,none⟩) 1 1 _ [s] _ ?_ aa.out rfl a9.out (ac.out _) H8.out H9.out wr wr.heap.size bn.out ν bp.out ?_; rfl; rfl; rfl; rfl; intro A2 b1 w3 J U a1 ab; have bE:=η (b9.out.below aK U); have bL:=η (fun c hc=>aO J.own (bB.out c hc)); have b2:=η J; have aw:=η U; have b5:=η a1; clear J U a1 ab)
       | (refine aV ?_ (.tmp 40) (.tmp 43) _ ?_ wr.heap.size 9 i0 (.string ⟨#[]⟩) 1 16 Tryz.underlying44 hi a5 a6 a7 rfl (Θ 0) aK (.slice A2 (k+1) b1) (k+1) _ _ _ ?_ b2.out cz.out _ (xs.length - k) (cap - k) (L.drop (k * 1)) _ _ ?_ bE.out cr.out (cq.out _ (bz.out _ aw.out)) bL.out bX.out c3.out wr wr.heap.size aw.out ν b5.out ?_; rfl; rfl; rfl; rfl; intro A3 cW w4 bq br cd _; have ce:=η bq; have cg:=η br; clear bq br cd)))
      all_goals
       obtain ⟨b4,bu,bv⟩:=ce.out.slice;have HS:=η bu;have ci:=η bv;clear bu bv;go_wp2;go_ret;exact ⟨bz.out _ cg.out,_,b4,rfl,by rw [HX.out]; exact HS.out,fun c hc=>(ci.out c hc).imp (τ B1.size) (fun h9=>cA.out c (by simpa using h9))⟩
theorem lN (a b:ByteArray) (w:World):
  Calls Tryz.prog 124 #[.string a,.string b] w fun e w'=>e=.returned (.int .i64 (gJ a b))∧w'=w:=by
 rw [← Jb];exact Tryz.strings_Compare a b w
theorem O4 (t u:T) (w:World):
  Calls Tryz.prog 126 #[.agg #[.bool t.var,.string t.name],.agg #[.bool u.var,.string u.name]] w fun e w'=>e=.returned (.int .i64 (gJ t.name u.name))∧Below w.heap.size w w':=by
 go_enter Tryz.func126,Tryz.ntmps126
 go_wp2_with (go_at_call 124; refine (lN _ _ _).mono ?_; rintro e w' ⟨rfl,rfl⟩)
 go_ret;exact ⟨rfl,(ζ).alloc (by simp) _⟩
theorem DN (I us:List T) (v1 v2:Value) (b1 b2:List Nat) (w:World) (h1:gG w [v1] I b1) (h2:gG w [v2] us b2):
  Calls Tryz.prog 125 #[v1,v2,.func (.func 126) #[] #[]] w
   fun e w'=>e=.returned (.int .i64 (lY I us))∧Below w.heap.size w w':=by
 obtain ⟨Ad,cap,rfl,hl,hm⟩:=aj h1;obtain ⟨a5,cap2,rfl,a1,a0⟩:=aj h2;have a6:=ay (τ hl hm);have a4:=ay (τ a1 a0);clear hm a0
 go_enter Tryz.func125,Tryz.ntmps125
 go_wp2
 go_loopw [13] (fun i wr=>∃ k:Nat,k≤I.length∧k≤us.length∧i=.int .i64 k∧lY I us=lY (I.drop k) (us.drop k)∧Below w.heap.size w wr) (fun i _=>I.length - (intOf i).toNat)
 case atStart=>exact ⟨0,ε,ε,rfl,rfl,ϑ⟩
 case round=>
  obtain ⟨k,hk,a7,rfl,hc,hb⟩:=hrel;have HC:=η hc;clear hc;by_cases U:k < I.length
  ·obtain ⟨b,o,rfl,_,c0,c1,_⟩:=fJ (aQ.below h1 hb) U
   have hA:Below wr.heap.size wr (wr.alloc (.cells #[.bool I[k].var,.string I[k].name] 91)):=ζ;by_cases y:k < us.length
   ·obtain ⟨b',o',rfl,_,d0,d1,_⟩:=fJ (aQ.below h2 (hb.trans (hA.mono hb.size))) y
    have J:=η (wY U y);clear h1 h2
    go_wp2_with fail
    refine (O4 I[k] us[k] _).mono ?_;rintro e w' ⟨rfl,a2⟩;have B':Below w.heap.size w w':=(((hb.alloc hb.size _).alloc (by have:=hb.size; simp; omega) _)).trans (a2.mono (by have:=hb.size; simp; omega));by_cases hz:gJ I[k].name us[k].name=0
    ·have a3:(gJ I[k].name us[k].name == 0)=true:=by simp [hz]
     have HZ:=η hz;clear hz hA;go_wp2;go_roundw
     case rel=>exact ⟨k+1,by omega,by omega,by go_num,by rw [HC.out,J.out,if_pos HZ.out],B'⟩
     case measure=>simp [intOf]; omega
    ·have a3:(gJ I[k].name us[k].name == 0)=false:=by simp [hz]
     have HZ:=η hz;clear hz hA;go_wp2;go_ret;exact ⟨fC (by rw [HC.out,J.out,if_neg HZ.out]),B'⟩
   ·clear h1 h2
    have J:=η (wZ U (Nat.le_of_not_lt y));go_wp2;go_ret;exact ⟨fC (by rw [HC.out,J.out]),hb.trans (hA.mono hb.size)⟩
  ·have he:I.length≤k:=by omega
   by_cases y:k < us.length
   ·have J:=η (xg he y)
    have hx:I.length < us.length:=by omega
    go_wp2;go_ret;exact ⟨fC (by rw [HC.out,J.out]),hb⟩
   ·have J:=η (xk he (Nat.le_of_not_lt y))
    have hx:¬ I.length < us.length:=by omega
    go_wp2;go_ret;exact ⟨fC (by rw [HC.out,J.out]),hb⟩
theorem wK (a b:A) (c0 c1 d0 d1:Value) (b1 b2:List Nat) (w:World) (h1:aJ w [c0,c1] a b1) (U:aJ w [d0,d1] b b2):
  Calls Tryz.prog 64 #[.agg #[c0,c1],.agg #[d0,d1]] w fun e w'=>e=.returned (.int .i64 (bV a b))∧Below w.heap.size w w':=by
 obtain ⟨Ad,cap,rfl,rfl⟩:=bG h1;obtain ⟨Ae,y,rfl,rfl⟩:=bG U;have hq:=fun w' (hb:Below w.heap.size w w')=>DN a.args b.args (.slice Ad a.args.length cap) (.slice Ae b.args.length y) b1 b2 w' (dM (ak.below h1 hb)) (dM (ak.below U hb))
 have hc:bV a b=if gJ a.name b.name=0 then lY a.args b.args else gJ a.name b.name:=rfl
 have HC:=η hc;clear h1 U hc;have J:=((Below.refl w.heap.size w).alloc ν (.cells #[.string a.name,.slice Ad a.args.length cap] 33)).alloc (by simp) (.cells #[.string b.name,.slice Ae b.args.length y] 33);by_cases I:gJ a.name b.name=0
 ·have a0:(gJ a.name b.name != 0)=false:=by simp [I]
  have HZ:=η I;clear I
  go_enter Tryz.func64,Tryz.ntmps64
  go_wp2_with (go_at_call 124; refine (lN _ _ _).mono ?_; rintro e w' ⟨rfl,rfl⟩)
  refine (hq _ J).mono ?_;rintro e w' ⟨rfl,a1⟩;go_wp2;go_ret;exact ⟨fC (by rw [HC.out,if_pos HZ.out]),J.trans (a1.mono J.size)⟩
 ·have a0:(gJ a.name b.name != 0)=true:=by simp [I]
  have HZ:=η I;clear I
  go_enter Tryz.func64,Tryz.ntmps64
  go_wp2_with (go_at_call 124; refine (lN _ _ _).mono ?_; rintro e w' ⟨rfl,rfl⟩)
  go_ret;exact ⟨fC (by rw [HC.out,if_neg HZ.out]),J⟩
end Go.Proofs.YtkjinanbccloeaaGreatDoor
