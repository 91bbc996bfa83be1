/- Of the proof of FnDeltaBoth: SPut, Cmp. -/
import Derived.Test.YtkjinanbccloeaaGreatDoorC04
import Derived.Test.YtkjinanbccloeaaGreatDoorC03
set_option linter.unusedVariables false
set_option maxHeartbeats 4000000
set_option maxRecDepth 100000
namespace Go.Proofs.YtkjinanbccloeaaGreatDoor
open Go.RowKit D
attribute [local go_sem ↓] Go.wp_at_zero Go.wp_at_succ
def D.UL (xs:List ByteArray) (bb:List Nat) (B:Nat) (w:World) (e:Ending) (w':World):Prop:=Below B w w'∧∃ v bs,e=.returned v∧jP w' [v] xs bs∧∀ b ∈ bs,w.heap.size≤b∨b ∈ bb
theorem UM:(Tryz.prog.info? 9).map (fun i=>(i.zero,i.size,i.bytes))=some (some (.string ⟨#[]⟩),1,16):=by kernel_rfl
theorem Rk (xs:List ByteArray) (s:ByteArray) (v:Value) (bs:List Nat) (w:World) (h:jP w [v] xs bs) (hs:s.size≤maxLen) (hn:xs.length≤16777216):
  Calls Tryz.prog 265 #[v,.string s] w (UL (kU xs s) bs w.heap.size w):=by
 obtain ⟨Ad,cap,rfl,hl,hm⟩:=aj h;obtain ⟨i0,hi,a5,a6,a7⟩:=info_parts UM;have d8:=aB hm;have d0:(xs.length:Int)≤9223372036854775807:=aB (τ hl hm);have d1:=UA xs s
 go_enter Tryz.func265,Tryz.ntmps265
 go_wp2
 go_loopw [5] (fun i wr=>∃ k:Nat,k≤nO xs s∧i=.int .i64 k∧Below w.heap.size w wr) (fun i _=>xs.length - (intOf i).toNat)
 case atStart=>exact ⟨0,ε,rfl,ϑ⟩
 case round=>
  obtain ⟨k,hk,rfl,B1⟩:=hrel;have d9:(0:Int)≤(k:Int):=by omega
  by_cases cl:k < nO xs s
  ·have bi:k < xs.length:=by omega
   have cP:(k:Int) < (xs.length:Int):=by omega
   have da:(k:Int)≤16777216:=by omega
   have cv:Op.bytesLess xs[k].toList s.toList=true:=by rw [vJ]; simpa using UB xs s k bi cl
   obtain ⟨b,o,rfl,_,e0,_⟩:=qh (dA.below h B1) bi;have bc:=η cl;have HB:=η B1;generalize xs[k]=t at *;clear h B1 cl bi hk;go_wp2;go_roundw
   case rel=>exact ⟨k+1,bc.out,by go_num,HB.out⟩
   case measure=>have:=bc.out; simp [intOf]; omega
  ·obtain rfl:k=nO xs s:=by omega
   clear hk cl;by_cases cQ:xs = []
   ·subst cQ
    have HX:Hid (kU [] s = [] ++ [s] ++ []):=η rfl;have e0:nO [] s=0:=rfl;rw [e0] at *;simp only [List.length_nil] at hl d0 ⊢;clear e0 h hn d1;have H5:Hid (0+0≤maxLen):=η (by unfold maxLen; omega);have H6:Hid ((0+0) * 16≤140737488355328):=η (by omega);have H8:Hid (0+1≤maxLen):=η (by unfold maxLen; omega);have H9:Hid ((0+1) * 16≤140737488355328):=η (by omega);have bX:Hid (1+0≤maxLen):=η (by unfold maxLen; omega);have c3:Hid ((1+0) * 16≤140737488355328):=η (by omega);have db:(0:Int)≤(cap:Int):=by omega
    have ac:Hid (∀ (v:Value),∀ c ∈ ([]:List Nat),v.ownBlock ≠ some c):=η (fun v c hc=>by simp at hc);have cm:Hid (∀ w',aW 1 kG w' [] [] []):=η (fun w'=>aW.nil);have cn:Hid (∀ w' Ad,Lies w' Ad []):=η (fun w' Ad=>Lies.nil w' Ad);have c4:Hid (((wr.alloc (.cells #[] 9)).alloc (.cells #[.string s] 9)).heap[wr.heap.size+1]? = some (.cells #[.string s] 9 (0,0))):=η (by have:=ω (wr.alloc (.cells #[] 9)) (.cells #[.string s] 9); rw [World.size_alloc] at this; exact this);have c5:Hid (((wr.alloc (.cells #[.string s] 9)).alloc (.cells #[] 9)).heap[wr.heap.size]? = some (.cells #[.string s] 9 (0,0))):=η (by rw [Below.heap_alloc _ _ _ (by simp)]; exact ω _ _);have aD:Below wr.heap.size wr ((wr.alloc (.cells #[] 9)).alloc (.cells #[.string s] 9)).drew:=((ζ).alloc (by simp) _).drew
    have bf:=bK.empty (n:=1) (R:=kG) (e:=9) (w:=((wr.alloc (.cells #[] 9)).alloc (.cells #[.string s] 9)).drew) (g:=wr.heap.size) (base:=wr.heap.size) (show ((wr.alloc (.cells #[] 9)).alloc (.cells #[.string s] 9)).heap[wr.heap.size]? = _ by rw [Below.heap_alloc _ _ _ (by simp)]; exact ω _ _) (by omega);have bj:=η aD;have c6:=η bf;clear aD bf;have aE:Below wr.heap.size wr ((wr.alloc (.cells #[.string s] 9)).alloc (.cells #[] 9)).drew:=((ζ).alloc (by simp) _).drew;have bg:=bK.empty (n:=1) (R:=kG) (e:=9) (w:=((wr.alloc (.cells #[.string s] 9)).alloc (.cells #[] 9)).drew) (g:=wr.heap.size+1) (base:=wr.heap.size) (show ((wr.alloc (.cells #[.string s] 9)).alloc (.cells #[] 9)).heap[wr.heap.size+1]? = _ by have:=ω (wr.alloc (.cells #[.string s] 9)) (.cells #[] 9); rw [World.size_alloc] at this; exact this) (by omega);have bk:=η aE;have c7:=η bg;clear aE bg;have aL:Below wr.heap.size wr (wr.alloc (.cells #[] 9)).drew:=(ζ).drew
    have bh:=bK.empty (n:=1) (R:=kG) (e:=9) (w:=(wr.alloc (.cells #[] 9)).drew) (g:=wr.heap.size) (base:=wr.heap.size) (show (wr.alloc (.cells #[] 9)).heap[wr.heap.size]? = _ from ω _ _) (by omega);have bl:=η aL;have c8:=η bh;clear aL bh;have bz:Hid (∀ w',Below wr.heap.size wr w'→Below w.heap.size w w'):=η fun w' av=>B1.trans (av.mono B1.size)
    have aM:Hid (kG wr [.string s] s []):=η ⟨rfl,hs,rfl⟩;have c9:=η (own_ne (a:=wr.heap.size+1) (b:=wr.heap.size) (n:=0) (c:=0) (o:=0) (by omega));have ca:=η (own_ne (a:=wr.heap.size) (b:=wr.heap.size+1) (n:=0) (c:=0) (o:=0) (by omega));have cb:Hid (wr.heap.size+1 < ((wr.alloc (.cells #[] 9)).alloc (.cells #[.string s] 9)).drew.heap.size):=η (by simp);have cc:Hid (wr.heap.size < ((wr.alloc (.cells #[.string s] 9)).alloc (.cells #[] 9)).drew.heap.size):=η (by simp <;> omega);by_cases hce:cap=0
    case' pos=>
     have cT:(cap=0)=True:=eq_true hce;have cU:=η hce;clear hce
    case' neg=>
     have cT:(cap=0)=False:=eq_false hce;have cU:=η hce;clear hce
    all_goals
     go_wp2
     go_region_held3 (fun _=>True) (trivial) ((first
      | (refine aY ?_ (.tmp 33) (.tmp 36) _ ?_ wr.heap.size 9 i0 (.string ⟨#[]⟩) 1 16 Tryz.underlying44 hi a5 a6 a7 rfl (Θ 0) aQ (.slice (some ⟨wr.heap.size,0,none⟩) 0 0) 0 [] [] [] ?_ c6.out rfl ?_ 0 ?_ [] [] [] ?_ (cm.out _) rfl (cn.out _ _) (ac.out _) H5.out H6.out wr wr.heap.size bj.out ν bj.out.size ?_; rfl; rfl; rfl; rotate_left 2; rfl; rotate_left; intro A1 a8 w2 I y a0 a2; have aR:Hid (w2.heap[wr.heap.size+1]? = some (.cells #[.string s] 9 (0,0))):=η ((a2.block _ cb.out c9.out).trans c4.out); clear a2; have a9:=η (aV aR.out); have aa:=η (aW.dP (n:=1) (R:=kG) jF (aQ.below aM.out y)); have af:=η I; have ag:=η y; have am:=η a0; clear I y a0)
      | (refine aY ?_ (.tmp 33) (.tmp 36) _ ?_ wr.heap.size 9 i0 (.string ⟨#[]⟩) 1 16 Tryz.underlying44 hi a5 a6 a7 rfl (Θ 0) aQ (.slice (some ⟨wr.heap.size+1,0,none⟩) 0 0) 0 [] [] [] ?_ c7.out rfl ?_ 0 ?_ [] [] [] ?_ (cm.out _) rfl (cn.out _ _) (ac.out _) H5.out H6.out wr wr.heap.size bk.out ν bk.out.size ?_; rfl; rfl; rfl; rotate_left 2; rfl; rotate_left; intro A1 a8 w2 I y a0 a2; have aR:Hid (w2.heap[wr.heap.size]? = some (.cells #[.string s] 9 (0,0))):=η ((a2.block _ cc.out ca.out).trans c5.out); clear a2; have a9:=η (aV aR.out); have aa:=η (aW.dP (n:=1) (R:=kG) jF (aQ.below aM.out y)); have af:=η I; have ag:=η y; have am:=η a0; clear I y a0)
      | (refine aY ?_ (.tmp 33) (.tmp 36) _ ?_ wr.heap.size 9 i0 (.string ⟨#[]⟩) 1 16 Tryz.underlying44 hi a5 a6 a7 rfl (Θ 0) aQ (.slice (some ⟨wr.heap.size,0,none⟩) 0 0) 0 [] [] [] ?_ c8.out rfl ?_ 0 ?_ [] [] [] ?_ (cm.out _) rfl (cn.out _ _) (ac.out _) H5.out H6.out wr wr.heap.size bl.out ν bl.out.size ?_; rfl; rfl; rfl; rotate_left 2; rfl; rotate_left; intro A1 a8 w2 I y a0 a2; skip; clear a2; have a4:Below wr.heap.size wr (w2.alloc (.cells #[.string s] 9)):=y.alloc y.size _; have bn:=η a4; have bo:=η (I.below aQ ((Below.refl w2.heap.size w2).alloc ν (.cells #[.string s] 9))); have bp:=η a4.size; have a9:=η (aV (ω w2 (.cells #[.string s] 9))); have aa:=η (aW.dP (n:=1) (R:=kG) jF (aQ.below aM.out a4)); clear a4; have af:=η I; have ag:=η y; have am:=η a0; clear I y a0)
      | (refine aY ?_ (.tmp 37) (.tmp 39) _ ?_ wr.heap.size 9 i0 (.string ⟨#[]⟩) 1 16 Tryz.underlying44 hi a5 a6 a7 rfl (Θ 0) aQ (.slice A1 (0+0) a8) (0+0) _ _ _ ?_ af.out rfl (some ⟨wr.heap.size+1,0,none⟩) 1 1 _ [s] _ ?_ aa.out rfl a9.out (ac.out _) H8.out H9.out wr wr.heap.size ag.out ν am.out ?_; rfl; rfl; rfl; rfl; intro A2 b1 w3 J U a1 ab; have b2:=η J; have aw:=η U; have b5:=η a1; clear J U a1 ab)
      | (refine aY ?_ (.tmp 37) (.tmp 39) _ ?_ wr.heap.size 9 i0 (.string ⟨#[]⟩) 1 16 Tryz.underlying44 hi a5 a6 a7 rfl (Θ 0) aQ (.slice A1 (0+0) a8) (0+0) _ _ _ ?_ af.out rfl (some ⟨wr.heap.size,0,none⟩) 1 1 _ [s] _ ?_ aa.out rfl a9.out (ac.out _) H8.out H9.out wr wr.heap.size ag.out ν am.out ?_; rfl; rfl; rfl; rfl; intro A2 b1 w3 J U a1 ab; have b2:=η J; have aw:=η U; have b5:=η a1; clear J U a1 ab)
      | (refine aY ?_ (.tmp 37) (.tmp 39) _ ?_ wr.heap.size 9 i0 (.string ⟨#[]⟩) 1 16 Tryz.underlying44 hi a5 a6 a7 rfl (Θ 0) aQ (.slice A1 (0+0) a8) (0+0) _ _ _ ?_ bo.out rfl (some ⟨w2.heap.size,0,none⟩) 1 1 _ [s] _ ?_ aa.out rfl a9.out (ac.out _) H8.out H9.out wr wr.heap.size bn.out ν bp.out ?_; rfl; rfl; rfl; rfl; intro A2 b1 w3 J U a1 ab; have b2:=η J; have aw:=η U; have b5:=η a1; clear J U a1 ab)
      | (refine aY ?_ (.tmp 40) (.tmp 43) _ ?_ wr.heap.size 9 i0 (.string ⟨#[]⟩) 1 16 Tryz.underlying44 hi a5 a6 a7 rfl (Θ 0) aQ (.slice A2 (0+0+1) b1) (0+0+1) _ _ _ ?_ b2.out rfl ?_ 0 ?_ [] [] [] ?_ (cm.out _) rfl (cn.out _ _) (ac.out _) bX.out c3.out wr wr.heap.size aw.out ν b5.out ?_; rfl; rfl; rfl; rotate_left 2; rfl; rotate_left; intro A3 cV w4 bq br cd _; have ce:=η bq; have cg:=η br; clear bq br cd)))
     all_goals
      obtain ⟨b4,bu,bv⟩:=ce.out.slice;have HS:=η bu;have ci:=η bv;clear bu bv;go_wp2;go_ret;exact ⟨bz.out _ cg.out,_,b4,rfl,by rw [HX.out]; exact HS.out,fun c hc=>(ci.out c hc).imp (τ B1.size) (fun h9=>by simp at h9)⟩
   ·have cW:Hid (∀ hx:nO xs s < xs.length,¬ gK xs[nO xs s] s < 0):=η (OA xs s)
    obtain ⟨L,b3,b6,ao,bO⟩:=rF jF (by omega) h;have aq:=dA.lt h;obtain ⟨b,o,rfl,d2,ae⟩:=bO cQ;have co:=aq b d2;by_cases bi:nO xs s < xs.length
    ·have cP:((nO xs s:Nat):Int) < (xs.length:Int):=by omega
     obtain ⟨b',o',he,_,e0,_⟩:=qh (dA.below h B1) bi;obtain ⟨rfl,rfl⟩:b=b'∧o=o':=by simpa using he
     have cv:Op.bytesLess xs[nO xs s].toList s.toList=false:=by rw [vJ]; simpa using OA xs s bi
     by_cases bR:gK xs[nO xs s] s=0
     ·have hq:(xs[nO xs s].toList == s.toList)=true:=by rw [D5]; simpa using bR
      have HX:Hid (kU xs s=xs):=η (KN xs s bi bR);have HR:=η (dA.below h B1);have HB:=η B1;generalize xs[nO xs s]=t at *;clear h b6 ae bO bR B1;go_wp2;go_ret;exact ⟨HB.out,_,bs,rfl,by rw [HX.out]; exact HR.out,fun b hb=>.inr hb⟩
     ·have hq:(xs[nO xs s].toList == s.toList)=false:=by rw [D5]; simpa using bR
      have HX:Hid (kU xs s=xs.take (nO xs s) ++ [s] ++ xs.drop (nO xs s)):=η (Eu xs s (fun _=>bR));have dc:Hid (nO xs s < xs.length):=η bi;clear bR cW;generalize xs[nO xs s]=t at *;generalize nO xs s=k at *;have d7:¬ (cap=k):=by omega
      have a3:Hid (k≤xs.length):=η (by omega);obtain ⟨bt,cj,b7⟩:=b6.take (k:=k) (by have:=a3.out; omega);obtain ⟨bd,ck,bA⟩:=b6.drop (k:=k) (by have:=a3.out; omega);have cw:=η cj;have cp:=η ck;have d3:(k:Int)≤(cap:Int):=by have:=a3.out; omega
      have d4:(k:Int)≤(xs.length:Int):=by have:=a3.out; omega
      have d5:(xs.length:Int)≤(cap:Int):=by omega
      have b8:(xs.take k).length=k:=by rw [List.length_take]; have:=a3.out; omega
      have bw:(xs.drop k).length=xs.length - k:=List.length_drop
      have bc:Hid (∀ w',Below w.heap.size w w'→Lies w' (some ⟨b,o,none⟩) (L.take (k * 1))):=η fun w' av=>Lies.mk fun j u hj=>(av.cell (p:=⟨b,o+j,none⟩) co).trans (ae j u (by
       have cx:=(List.getElem?_eq_some_iff.1 hj).1
       rw [List.getElem?_take_of_lt (by simp at cx; omega)] at hj; exact hj))
      have cq:Hid (∀ w',Below w.heap.size w w'→Lies w' (some ⟨b,o+k,none⟩) (L.drop (k * 1))):=η fun w' av=>Lies.mk fun j u hj=>(av.cell (p:=⟨b,o+k+j,none⟩) co).trans (by rw [Nat.add_assoc]; exact ae _ u (by rw [List.getElem?_drop,Nat.mul_one] at hj; exact hj))
      have H5:Hid (0+k≤maxLen):=η (by have:=a3.out; unfold maxLen; omega);have H6:Hid ((0+k) * 16≤140737488355328):=η (by have:=a3.out; omega);have H8:Hid (k+1≤maxLen):=η (by have:=a3.out; unfold maxLen; omega);have H9:Hid ((k+1) * 16≤140737488355328):=η (by have:=a3.out; omega);have bX:Hid (k+1+(xs.length - k)≤maxLen):=η (by have:=a3.out; unfold maxLen; omega);have c3:Hid ((k+1+(xs.length - k)) * 16≤140737488355328):=η (by have:=a3.out; omega);have az:=η b8;have cr:=η bw;have cy:Hid ((xs.take k ++ [s]).length=k+1):=η (by rw [χ,b8]; rfl)
      have cz:Hid (∀ c,c ∈ bt∨c ∈ bd→c ∈ bs):=η (fun c hc=>by
       rcases hc with hc | hc
       ·exact ao c (b7 c hc)
       ·exact ao c (bA c hc))
      have bB:Hid (∀ c ∈ bd,c < wr.heap.size):=η fun c hc=>κ (aq c (ao c (bA c hc))) B1.size
      have c4:Hid (((wr.alloc (.cells #[] 9)).alloc (.cells #[.string s] 9)).heap[wr.heap.size+1]? = some (.cells #[.string s] 9 (0,0))):=η (by have:=ω (wr.alloc (.cells #[] 9)) (.cells #[.string s] 9); rw [World.size_alloc] at this; exact this);have c5:Hid (((wr.alloc (.cells #[.string s] 9)).alloc (.cells #[] 9)).heap[wr.heap.size]? = some (.cells #[.string s] 9 (0,0))):=η (by rw [Below.heap_alloc _ _ _ (by simp)]; exact ω _ _);have ar:=cw.out.below aQ B1;have bx:=cp.out.below aQ B1;have aD:Below wr.heap.size wr ((wr.alloc (.cells #[] 9)).alloc (.cells #[.string s] 9)).drew:=((ζ).alloc (by simp) _).drew;have bf:=bK.empty (n:=1) (R:=kG) (e:=9) (w:=((wr.alloc (.cells #[] 9)).alloc (.cells #[.string s] 9)).drew) (g:=wr.heap.size) (base:=wr.heap.size) (show ((wr.alloc (.cells #[] 9)).alloc (.cells #[.string s] 9)).heap[wr.heap.size]? = _ by rw [Below.heap_alloc _ _ _ (by simp)]; exact ω _ _) (by omega);have bj:=η aD;have cA:=η (ar.below aQ aD)
      have cB:Hid (Lies ((wr.alloc (.cells #[] 9)).alloc (.cells #[.string s] 9)).drew (some ⟨b,o,none⟩) (L.take (k * 1))):=η (bc.out _ (B1.trans (aD.mono B1.size)));have cD:Hid (∀ c ∈ bt,(Value.slice (some ⟨wr.heap.size,0,none⟩) 0 0).ownBlock ≠ some c):=η fun c hc=>aS bf.own (κ (aq c (ao c (b7 c hc))) B1.size)
      have c6:=η bf;clear aD bf;have aE:Below wr.heap.size wr ((wr.alloc (.cells #[.string s] 9)).alloc (.cells #[] 9)).drew:=((ζ).alloc (by simp) _).drew;have bg:=bK.empty (n:=1) (R:=kG) (e:=9) (w:=((wr.alloc (.cells #[.string s] 9)).alloc (.cells #[] 9)).drew) (g:=wr.heap.size+1) (base:=wr.heap.size) (show ((wr.alloc (.cells #[.string s] 9)).alloc (.cells #[] 9)).heap[wr.heap.size+1]? = _ by have:=ω (wr.alloc (.cells #[.string s] 9)) (.cells #[] 9); rw [World.size_alloc] at this; exact this) (by omega);have bk:=η aE;have cE:=η (ar.below aQ aE);have cG:Hid (Lies ((wr.alloc (.cells #[.string s] 9)).alloc (.cells #[] 9)).drew (some ⟨b,o,none⟩) (L.take (k * 1))):=η (bc.out _ (B1.trans (aE.mono B1.size)));have cI:Hid (∀ c ∈ bt,(Value.slice (some ⟨wr.heap.size+1,0,none⟩) 0 0).ownBlock ≠ some c):=η fun c hc=>aS bg.own (κ (aq c (ao c (b7 c hc))) B1.size)
      have c7:=η bg;clear aE bg;have aL:Below wr.heap.size wr (wr.alloc (.cells #[] 9)).drew:=(ζ).drew;have bh:=bK.empty (n:=1) (R:=kG) (e:=9) (w:=(wr.alloc (.cells #[] 9)).drew) (g:=wr.heap.size) (base:=wr.heap.size) (show (wr.alloc (.cells #[] 9)).heap[wr.heap.size]? = _ from ω _ _) (by omega);have bl:=η aL;have cJ:=η (ar.below aQ aL);have cK:Hid (Lies (wr.alloc (.cells #[] 9)).drew (some ⟨b,o,none⟩) (L.take (k * 1))):=η (bc.out _ (B1.trans (aL.mono B1.size)));have cL:Hid (∀ c ∈ bt,(Value.slice (some ⟨wr.heap.size,0,none⟩) 0 0).ownBlock ≠ some c):=η fun c hc=>aS bh.own (κ (aq c (ao c (b7 c hc))) B1.size)
      have c8:=η bh;clear aL bh;have bz:Hid (∀ w',Below wr.heap.size wr w'→Below w.heap.size w w'):=η fun w' av=>B1.trans (av.mono B1.size)
      have b9:=η bx;clear ar bx;have aM:Hid (kG wr [.string s] s []):=η ⟨rfl,hs,rfl⟩;have ac:Hid (∀ (v:Value),∀ c ∈ ([]:List Nat),v.ownBlock ≠ some c):=η (fun v c hc=>by simp at hc);have c9:=η (own_ne (a:=wr.heap.size+1) (b:=wr.heap.size) (n:=0) (c:=0) (o:=0) (by omega));have ca:=η (own_ne (a:=wr.heap.size) (b:=wr.heap.size+1) (n:=0) (c:=0) (o:=0) (by omega));have cb:Hid (wr.heap.size+1 < ((wr.alloc (.cells #[] 9)).alloc (.cells #[.string s] 9)).drew.heap.size):=η (by simp);have cc:Hid (wr.heap.size < ((wr.alloc (.cells #[.string s] 9)).alloc (.cells #[] 9)).drew.heap.size):=η (by simp <;> omega);clear b8 bw b7 bA ao cj ck b6 bO ae h;go_wp2
      go_region_held3 (fun _=>True) (trivial) ((first
       | (refine aY ?_ (.tmp 33) (.tmp 36) _ ?_ wr.heap.size 9 i0 (.string ⟨#[]⟩) 1 16 Tryz.underlying44 hi a5 a6 a7 rfl (Θ 0) aQ (.slice (some ⟨wr.heap.size,0,none⟩) 0 0) 0 [] [] [] ?_ c6.out rfl (some ⟨b,o,none⟩) k cap (L.take (k * 1)) _ _ ?_ cA.out az.out cB.out cD.out H5.out H6.out wr wr.heap.size bj.out ν bj.out.size ?_; rfl; rfl; rfl; rfl; intro A1 a8 w2 I y a0 a2; simp only [Nat.zero_add,List.nil_append] at I ⊢; have aR:Hid (w2.heap[wr.heap.size+1]? = some (.cells #[.string s] 9 (0,0))):=η ((a2.block _ cb.out c9.out).trans c4.out); clear a2; have a9:=η (aV aR.out); have aa:=η (aW.dP (n:=1) (R:=kG) jF (aQ.below aM.out y)); have af:=η I; have ag:=η y; have am:=η a0; clear I y a0)
       | (refine aY ?_ (.tmp 33) (.tmp 36) _ ?_ wr.heap.size 9 i0 (.string ⟨#[]⟩) 1 16 Tryz.underlying44 hi a5 a6 a7 rfl (Θ 0) aQ (.slice (some ⟨wr.heap.size+1,0,none⟩) 0 0) 0 [] [] [] ?_ c7.out rfl (some ⟨b,o,none⟩) k cap (L.take (k * 1)) _ _ ?_ cE.out az.out cG.out cI.out H5.out H6.out wr wr.heap.size bk.out ν bk.out.size ?_; rfl; rfl; rfl; rfl; intro A1 a8 w2 I y a0 a2; simp only [Nat.zero_add,List.nil_append] at I ⊢; have aR:Hid (w2.heap[wr.heap.size]? = some (.cells #[.string s] 9 (0,0))):=η ((a2.block _ cc.out ca.out).trans c5.out); clear a2; have a9:=η (aV aR.out); have aa:=η (aW.dP (n:=1) (R:=kG) jF (aQ.below aM.out y)); have af:=η I; have ag:=η y; have am:=η a0; clear I y a0)
       | (refine aY ?_ (.tmp 33) (.tmp 36) _ ?_ wr.heap.size 9 i0 (.string ⟨#[]⟩) 1 16 Tryz.underlying44 hi a5 a6 a7 rfl (Θ 0) aQ (.slice (some ⟨wr.heap.size,0,none⟩) 0 0) 0 [] [] [] ?_ c8.out rfl (some ⟨b,o,none⟩) k cap (L.take (k * 1)) _ _ ?_ cJ.out az.out cK.out cL.out H5.out H6.out wr wr.heap.size bl.out ν bl.out.size ?_; rfl; rfl; rfl; rfl; intro A1 a8 w2 I y a0 a2; simp only [Nat.zero_add,List.nil_append] at I ⊢; skip; clear a2; have a4:Below wr.heap.size wr (w2.alloc (.cells #[.string s] 9)):=y.alloc y.size _; have bn:=η a4; have bo:=η (I.below aQ ((Below.refl w2.heap.size w2).alloc ν (.cells #[.string s] 9))); have bp:=η a4.size; have a9:=η (aV (ω w2 (.cells #[.string s] 9))); have aa:=η (aW.dP (n:=1) (R:=kG) jF (aQ.below aM.out a4)); clear a4; have af:=η I; have ag:=η y; have am:=η a0; clear I y a0)
       | (refine aY ?_ (.tmp 37) (.tmp 39) _ ?_ wr.heap.size 9 i0 (.string ⟨#[]⟩) 1 16 Tryz.underlying44 hi a5 a6 a7 rfl (Θ 0) aQ (.slice A1 k a8) k _ _ _ ?_ af.out az.out (some ⟨wr.heap.size+1,0,none⟩) 1 1 _ [s] _ ?_ aa.out rfl a9.out (ac.out _) H8.out H9.out wr wr.heap.size ag.out ν am.out ?_; rfl; rfl; rfl; rfl; intro A2 b1 w3 J U a1 ab; have bE:=η (b9.out.below aQ U); have bL:=η (fun c hc=>aS J.own (bB.out c hc)); have b2:=η J; have aw:=η U; have b5:=η a1; clear J U a1 ab)
       | (refine aY ?_ (.tmp 37) (.tmp 39) _ ?_ wr.heap.size 9 i0 (.string ⟨#[]⟩) 1 16 Tryz.underlying44 hi a5 a6 a7 rfl (Θ 0) aQ (.slice A1 k a8) k _ _ _ ?_ af.out az.out (some ⟨wr.heap.size,0,none⟩) 1 1 _ [s] _ ?_ aa.out rfl a9.out (ac.out _) H8.out H9.out wr wr.heap.size ag.out ν am.out ?_; rfl; rfl; rfl; rfl; intro A2 b1 w3 J U a1 ab; have bE:=η (b9.out.below aQ U); have bL:=η (fun c hc=>aS J.own (bB.out c hc)); have b2:=η J; have aw:=η U; have b5:=η a1; clear J U a1 ab)
       | (refine aY ?_ (.tmp 37) (.tmp 39) _ ?_ wr.heap.size 9 i0 (.string ⟨#[]⟩) 1 16 Tryz.underlying44 hi a5 a6 a7 rfl (Θ 0) aQ (.slice A1 k a8) k _ _ _ ?_ bo.out az.out (some ⟨w2.heap.size,0,none⟩) 1 1 _ [s] _ ?_ aa.out rfl a9.out (ac.out _) H8.out H9.out wr wr.heap.size bn.out ν bp.out ?_; rfl; rfl; rfl; rfl; intro A2 b1 w3 J U a1 ab; have bE:=η (b9.out.below aQ U); have bL:=η (fun c hc=>aS J.own (bB.out c hc)); have b2:=η J; have aw:=η U; have b5:=η a1; clear J U a1 ab)
       | (refine aY ?_ (.tmp 40) (.tmp 43) _ ?_ wr.heap.size 9 i0 (.string ⟨#[]⟩) 1 16 Tryz.underlying44 hi a5 a6 a7 rfl (Θ 0) aQ (.slice A2 (k+1) b1) (k+1) _ _ _ ?_ b2.out cy.out (some ⟨b,o+k,none⟩) (xs.length - k) (cap - k) (L.drop (k * 1)) _ _ ?_ bE.out cr.out (cq.out _ (bz.out _ aw.out)) bL.out bX.out c3.out wr wr.heap.size aw.out ν b5.out ?_; rfl; rfl; rfl; rfl; intro A3 cV w4 bq br cd _; have ce:=η bq; have cg:=η br; clear bq br cd)))
      all_goals
       obtain ⟨b4,bu,bv⟩:=ce.out.slice;have HS:=η bu;have ci:=η bv;clear bu bv;go_wp2;go_ret;exact ⟨bz.out _ cg.out,_,b4,rfl,by rw [HX.out]; exact HS.out,fun c hc=>(ci.out c hc).imp (τ B1.size) (fun h9=>cz.out c (by simpa using h9))⟩
    ·have HX:Hid (kU xs s=xs.take (nO xs s) ++ [s] ++ xs.drop (nO xs s)):=η (Eu xs s (fun hx=>absurd hx bi))
     clear cW;generalize nO xs s=k at *;have cX:k=xs.length:=by omega
     have cP:¬ ((k:Nat):Int) < (xs.length:Int):=by omega
     have a3:Hid (k≤xs.length):=η (by omega);obtain ⟨bt,cj,b7⟩:=b6.take (k:=k) (by have:=a3.out; omega);obtain ⟨bd,ck,bA⟩:=b6.drop (k:=k) (by have:=a3.out; omega);have cw:=η cj;have cp:=η ck;have d3:(k:Int)≤(cap:Int):=by have:=a3.out; omega
     have d4:(k:Int)≤(xs.length:Int):=by have:=a3.out; omega
     have d5:(xs.length:Int)≤(cap:Int):=by omega
     have b8:(xs.take k).length=k:=by rw [List.length_take]; have:=a3.out; omega
     have bw:(xs.drop k).length=xs.length - k:=List.length_drop
     have bc:Hid (∀ w',Below w.heap.size w w'→Lies w' (some ⟨b,o,none⟩) (L.take (k * 1))):=η fun w' av=>Lies.mk fun j u hj=>(av.cell (p:=⟨b,o+j,none⟩) co).trans (ae j u (by
      have cx:=(List.getElem?_eq_some_iff.1 hj).1
      rw [List.getElem?_take_of_lt (by simp at cx; omega)] at hj; exact hj))
     have cq:Hid (∀ w',Below w.heap.size w w'→Lies w' (some ⟨b,o+k,none⟩) (L.drop (k * 1))):=η fun w' av=>Lies.mk fun j u hj=>(av.cell (p:=⟨b,o+k+j,none⟩) co).trans (by rw [Nat.add_assoc]; exact ae _ u (by rw [List.getElem?_drop,Nat.mul_one] at hj; exact hj))
     have H5:Hid (0+k≤maxLen):=η (by have:=a3.out; unfold maxLen; omega);have H6:Hid ((0+k) * 16≤140737488355328):=η (by have:=a3.out; omega);have H8:Hid (k+1≤maxLen):=η (by have:=a3.out; unfold maxLen; omega);have H9:Hid ((k+1) * 16≤140737488355328):=η (by have:=a3.out; omega);have bX:Hid (k+1+(xs.length - k)≤maxLen):=η (by have:=a3.out; unfold maxLen; omega);have c3:Hid ((k+1+(xs.length - k)) * 16≤140737488355328):=η (by have:=a3.out; omega);have az:=η b8;have cr:=η bw;have cy:Hid ((xs.take k ++ [s]).length=k+1):=η (by rw [χ,b8]; rfl)
     have cz:Hid (∀ c,c ∈ bt∨c ∈ bd→c ∈ bs):=η (fun c hc=>by
      rcases hc with hc | hc
      ·exact ao c (b7 c hc)
      ·exact ao c (bA c hc))
     have bB:Hid (∀ c ∈ bd,c < wr.heap.size):=η fun c hc=>κ (aq c (ao c (bA c hc))) B1.size
     have d6:=η cX;clear cX;have c4:Hid (((wr.alloc (.cells #[] 9)).alloc (.cells #[.string s] 9)).heap[wr.heap.size+1]? = some (.cells #[.string s] 9 (0,0))):=η (by have:=ω (wr.alloc (.cells #[] 9)) (.cells #[.string s] 9); rw [World.size_alloc] at this; exact this);have c5:Hid (((wr.alloc (.cells #[.string s] 9)).alloc (.cells #[] 9)).heap[wr.heap.size]? = some (.cells #[.string s] 9 (0,0))):=η (by rw [Below.heap_alloc _ _ _ (by simp)]; exact ω _ _);have ar:=cw.out.below aQ B1;have bx:=cp.out.below aQ B1;have aD:Below wr.heap.size wr ((wr.alloc (.cells #[] 9)).alloc (.cells #[.string s] 9)).drew:=((ζ).alloc (by simp) _).drew;have bf:=bK.empty (n:=1) (R:=kG) (e:=9) (w:=((wr.alloc (.cells #[] 9)).alloc (.cells #[.string s] 9)).drew) (g:=wr.heap.size) (base:=wr.heap.size) (show ((wr.alloc (.cells #[] 9)).alloc (.cells #[.string s] 9)).heap[wr.heap.size]? = _ by rw [Below.heap_alloc _ _ _ (by simp)]; exact ω _ _) (by omega);have bj:=η aD;have cA:=η (ar.below aQ aD)
     have cB:Hid (Lies ((wr.alloc (.cells #[] 9)).alloc (.cells #[.string s] 9)).drew (some ⟨b,o,none⟩) (L.take (k * 1))):=η (bc.out _ (B1.trans (aD.mono B1.size)));have cD:Hid (∀ c ∈ bt,(Value.slice (some ⟨wr.heap.size,0,none⟩) 0 0).ownBlock ≠ some c):=η fun c hc=>aS bf.own (κ (aq c (ao c (b7 c hc))) B1.size)
     have c6:=η bf;clear aD bf;have aE:Below wr.heap.size wr ((wr.alloc (.cells #[.string s] 9)).alloc (.cells #[] 9)).drew:=((ζ).alloc (by simp) _).drew;have bg:=bK.empty (n:=1) (R:=kG) (e:=9) (w:=((wr.alloc (.cells #[.string s] 9)).alloc (.cells #[] 9)).drew) (g:=wr.heap.size+1) (base:=wr.heap.size) (show ((wr.alloc (.cells #[.string s] 9)).alloc (.cells #[] 9)).heap[wr.heap.size+1]? = _ by have:=ω (wr.alloc (.cells #[.string s] 9)) (.cells #[] 9); rw [World.size_alloc] at this; exact this) (by omega);have bk:=η aE;have cE:=η (ar.below aQ aE);have cG:Hid (Lies ((wr.alloc (.cells #[.string s] 9)).alloc (.cells #[] 9)).drew (some ⟨b,o,none⟩) (L.take (k * 1))):=η (bc.out _ (B1.trans (aE.mono B1.size)));have cI:Hid (∀ c ∈ bt,(Value.slice (some ⟨wr.heap.size+1,0,none⟩) 0 0).ownBlock ≠ some c):=η fun c hc=>aS bg.own (κ (aq c (ao c (b7 c hc))) B1.size)
     have c7:=η bg;clear aE bg;have aL:Below wr.heap.size wr (wr.alloc (.cells #[] 9)).drew:=(ζ).drew;have bh:=bK.empty (n:=1) (R:=kG) (e:=9) (w:=(wr.alloc (.cells #[] 9)).drew) (g:=wr.heap.size) (base:=wr.heap.size) (show (wr.alloc (.cells #[] 9)).heap[wr.heap.size]? = _ from ω _ _) (by omega);have bl:=η aL;have cJ:=η (ar.below aQ aL);have cK:Hid (Lies (wr.alloc (.cells #[] 9)).drew (some ⟨b,o,none⟩) (L.take (k * 1))):=η (bc.out _ (B1.trans (aL.mono B1.size)));have cL:Hid (∀ c ∈ bt,(Value.slice (some ⟨wr.heap.size,0,none⟩) 0 0).ownBlock ≠ some c):=η fun c hc=>aS bh.own (κ (aq c (ao c (b7 c hc))) B1.size)
     have c8:=η bh;clear aL bh;have bz:Hid (∀ w',Below wr.heap.size wr w'→Below w.heap.size w w'):=η fun w' av=>B1.trans (av.mono B1.size)
     have b9:=η bx;clear ar bx;have aM:Hid (kG wr [.string s] s []):=η ⟨rfl,hs,rfl⟩;have ac:Hid (∀ (v:Value),∀ c ∈ ([]:List Nat),v.ownBlock ≠ some c):=η (fun v c hc=>by simp at hc);have c9:=η (own_ne (a:=wr.heap.size+1) (b:=wr.heap.size) (n:=0) (c:=0) (o:=0) (by omega));have ca:=η (own_ne (a:=wr.heap.size) (b:=wr.heap.size+1) (n:=0) (c:=0) (o:=0) (by omega));have cb:Hid (wr.heap.size+1 < ((wr.alloc (.cells #[] 9)).alloc (.cells #[.string s] 9)).drew.heap.size):=η (by simp);have cc:Hid (wr.heap.size < ((wr.alloc (.cells #[.string s] 9)).alloc (.cells #[] 9)).drew.heap.size):=η (by simp <;> omega);clear b8 bw b7 bA ao cj ck b6 bO ae h;by_cases hce:cap=k
     case' pos=>
      have cT:(cap=k)=True:=eq_true hce;have cY:xs.length=k:=d6.out.symm;have cu:L.drop (k * 1) = []:=List.length_eq_zero_iff.1 (by rw [cp.out.len,cr.out,cY]; simp);replace cq:Hid (∀ w',Below w.heap.size w w'→Lies w' (some ⟨b,o,none⟩) (L.drop (k * 1))):=η (fun w' _=>by rw [cu]; exact Lies.nil w' _);have cU:=η hce;clear cY cu hce
     all_goals
      go_wp2
      go_region_held3 (fun _=>True) (trivial) ((first
       | (refine aY ?_ (.tmp 33) (.tmp 36) _ ?_ wr.heap.size 9 i0 (.string ⟨#[]⟩) 1 16 Tryz.underlying44 hi a5 a6 a7 rfl (Θ 0) aQ (.slice (some ⟨wr.heap.size,0,none⟩) 0 0) 0 [] [] [] ?_ c6.out rfl (some ⟨b,o,none⟩) k cap (L.take (k * 1)) _ _ ?_ cA.out az.out cB.out cD.out H5.out H6.out wr wr.heap.size bj.out ν bj.out.size ?_; rfl; rfl; rfl; rfl; intro A1 a8 w2 I y a0 a2; simp only [Nat.zero_add,List.nil_append] at I ⊢; have aR:Hid (w2.heap[wr.heap.size+1]? = some (.cells #[.string s] 9 (0,0))):=η ((a2.block _ cb.out c9.out).trans c4.out); clear a2; have a9:=η (aV aR.out); have aa:=η (aW.dP (n:=1) (R:=kG) jF (aQ.below aM.out y)); have af:=η I; have ag:=η y; have am:=η a0; clear I y a0)
       | (refine aY ?_ (.tmp 33) (.tmp 36) _ ?_ wr.heap.size 9 i0 (.string ⟨#[]⟩) 1 16 Tryz.underlying44 hi a5 a6 a7 rfl (Θ 0) aQ (.slice (some ⟨wr.heap.size+1,0,none⟩) 0 0) 0 [] [] [] ?_ c7.out rfl (some ⟨b,o,none⟩) k cap (L.take (k * 1)) _ _ ?_ cE.out az.out cG.out cI.out H5.out H6.out wr wr.heap.size bk.out ν bk.out.size ?_; rfl; rfl; rfl; rfl; intro A1 a8 w2 I y a0 a2; simp only [Nat.zero_add,List.nil_append] at I ⊢; have aR:Hid (w2.heap[wr.heap.size]? = some (.cells #[.string s] 9 (0,0))):=η ((a2.block _ cc.out ca.out).trans c5.out); clear a2; have a9:=η (aV aR.out); have aa:=η (aW.dP (n:=1) (R:=kG) jF (aQ.below aM.out y)); have af:=η I; have ag:=η y; have am:=η a0; clear I y a0)
       | (refine aY ?_ (.tmp 33) (.tmp 36) _ ?_ wr.heap.size 9 i0 (.string ⟨#[]⟩) 1 16 Tryz.underlying44 hi a5 a6 a7 rfl (Θ 0) aQ (.slice (some ⟨wr.heap.size,0,none⟩) 0 0) 0 [] [] [] ?_ c8.out rfl (some ⟨b,o,none⟩) k cap (L.take (k * 1)) _ _ ?_ cJ.out az.out cK.out cL.out H5.out H6.out wr wr.heap.size bl.out ν bl.out.size ?_; rfl; rfl; rfl; rfl; intro A1 a8 w2 I y a0 a2; simp only [Nat.zero_add,List.nil_append] at I ⊢; skip; clear a2; have a4:Below wr.heap.size wr (w2.alloc (.cells #[.string s] 9)):=y.alloc y.size _; have bn:=η a4; have bo:=η (I.below aQ ((Below.refl w2.heap.size w2).alloc ν (.cells #[.string s] 9))); have bp:=η a4.size; have a9:=η (aV (ω w2 (.cells #[.string s] 9))); have aa:=η (aW.dP (n:=1) (R:=kG) jF (aQ.below aM.out a4)); clear a4; have af:=η I; have ag:=η y; have am:=η a0; clear I y a0)
       | (refine aY ?_ (.tmp 37) (.tmp 39) _ ?_ wr.heap.size 9 i0 (.string ⟨#[]⟩) 1 16 Tryz.underlying44 hi a5 a6 a7 rfl (Θ 0) aQ (.slice A1 k a8) k _ _ _ ?_ af.out az.out (some ⟨wr.heap.size+1,0,none⟩) 1 1 _ [s] _ ?_ aa.out rfl a9.out (ac.out _) H8.out H9.out wr wr.heap.size ag.out ν am.out ?_; rfl; rfl; rfl; rfl; intro A2 b1 w3 J U a1 ab; have bE:=η (b9.out.below aQ U); have bL:=η (fun c hc=>aS J.own (bB.out c hc)); have b2:=η J; have aw:=η U; have b5:=η a1; clear J U a1 ab)
       | (refine aY ?_ (.tmp 37) (.tmp 39) _ ?_ wr.heap.size 9 i0 (.string ⟨#[]⟩) 1 16 Tryz.underlying44 hi a5 a6 a7 rfl (Θ 0) aQ (.slice A1 k a8) k _ _ _ ?_ af.out az.out (some ⟨wr.heap.size,0,none⟩) 1 1 _ [s] _ ?_ aa.out rfl a9.out (ac.out _) H8.out H9.out wr wr.heap.size ag.out ν am.out ?_; rfl; rfl; rfl; rfl; intro A2 b1 w3 J U a1 ab; have bE:=η (b9.out.below aQ U); have bL:=η (fun c hc=>aS J.own (bB.out c hc)); have b2:=η J; have aw:=η U; have b5:=η a1; clear J U a1 ab)
       | (refine aY ?_ (.tmp 37) (.tmp 39) _ ?_ wr.heap.size 9 i0 (.string ⟨#[]⟩) 1 16 Tryz.underlying44 hi a5 a6 a7 rfl (Θ 0) aQ (.slice A1 k a8) k _ _ _ ?_ bo.out az.out (some ⟨w2.heap.size,0,none⟩) 1 1 _ [s] _ ?_ aa.out rfl a9.out (ac.out _) H8.out H9.out wr wr.heap.size bn.out ν bp.out ?_; rfl; rfl; rfl; rfl; intro A2 b1 w3 J U a1 ab; have bE:=η (b9.out.below aQ U); have bL:=η (fun c hc=>aS J.own (bB.out c hc)); have b2:=η J; have aw:=η U; have b5:=η a1; clear J U a1 ab)
       | (refine aY ?_ (.tmp 40) (.tmp 43) _ ?_ wr.heap.size 9 i0 (.string ⟨#[]⟩) 1 16 Tryz.underlying44 hi a5 a6 a7 rfl (Θ 0) aQ (.slice A2 (k+1) b1) (k+1) _ _ _ ?_ b2.out cy.out _ (xs.length - k) (cap - k) (L.drop (k * 1)) _ _ ?_ bE.out cr.out (cq.out _ (bz.out _ aw.out)) bL.out bX.out c3.out wr wr.heap.size aw.out ν b5.out ?_; rfl; rfl; rfl; rfl; intro A3 cV w4 bq br cd _; have ce:=η bq; have cg:=η br; clear bq br cd)))
      all_goals
       obtain ⟨b4,bu,bv⟩:=ce.out.slice;have HS:=η bu;have ci:=η bv;clear bu bv;go_wp2;go_ret;exact ⟨bz.out _ cg.out,_,b4,rfl,by rw [HX.out]; exact HS.out,fun c hc=>(ci.out c hc).imp (τ B1.size) (fun h9=>cz.out c (by simpa using h9))⟩
theorem lK (a b:ByteArray) (w:World):
  Calls Tryz.prog 124 #[.string a,.string b] w fun e w'=>e=.returned (.int .i64 (gK a b))∧w'=w:=by
 rw [← Ja];exact Tryz.strings_Compare a b w
theorem OO (t u:T) (w:World):
  Calls Tryz.prog 126 #[.agg #[.bool t.var,.string t.name],.agg #[.bool u.var,.string u.name]] w fun e w'=>e=.returned (.int .i64 (gK t.name u.name))∧Below w.heap.size w w':=by
 go_enter Tryz.func126,Tryz.ntmps126
 go_wp2_with (go_at_call 124; refine (lK _ _ _).mono ?_; rintro e w' ⟨rfl,rfl⟩)
 go_ret;exact ⟨rfl,(ζ).alloc (by simp) _⟩
theorem DL (I us:List T) (v1 v2:Value) (b1 b2:List Nat) (w:World) (h1:gI w [v1] I b1) (h2:gI w [v2] us b2):
  Calls Tryz.prog 125 #[v1,v2,.func (.func 126) #[] #[]] w
   fun e w'=>e=.returned (.int .i64 (lV I us))∧Below w.heap.size w w':=by
 obtain ⟨Ad,cap,rfl,hl,hm⟩:=aj h1;obtain ⟨a5,cap2,rfl,a1,a0⟩:=aj h2;have a6:=aB (τ hl hm);have a4:=aB (τ a1 a0);clear hm a0
 go_enter Tryz.func125,Tryz.ntmps125
 go_wp2
 go_loopw [13] (fun i wr=>∃ k:Nat,k≤I.length∧k≤us.length∧i=.int .i64 k∧lV I us=lV (I.drop k) (us.drop k)∧Below w.heap.size w wr) (fun i _=>I.length - (intOf i).toNat)
 case atStart=>exact ⟨0,ε,ε,rfl,rfl,ϑ⟩
 case round=>
  obtain ⟨k,hk,a7,rfl,hc,hb⟩:=hrel;have HC:=η hc;clear hc;by_cases U:k < I.length
  ·obtain ⟨b,o,rfl,_,c0,c1,_⟩:=fP (aT.below h1 hb) U
   have hA:Below wr.heap.size wr (wr.alloc (.cells #[.bool I[k].var,.string I[k].name] 91)):=ζ;by_cases y:k < us.length
   ·obtain ⟨b',o',rfl,_,d0,d1,_⟩:=fP (aT.below h2 (hb.trans (hA.mono hb.size))) y
    have J:=η (xg U y);clear h1 h2
    go_wp2_with fail
    refine (OO I[k] us[k] _).mono ?_;rintro e w' ⟨rfl,a2⟩;have B':Below w.heap.size w w':=(((hb.alloc hb.size _).alloc (by have:=hb.size; simp; omega) _)).trans (a2.mono (by have:=hb.size; simp; omega));by_cases hz:gK I[k].name us[k].name=0
    ·have a3:(gK I[k].name us[k].name == 0)=true:=by simp [hz]
     have HZ:=η hz;clear hz hA;go_wp2;go_roundw
     case rel=>exact ⟨k+1,by omega,by omega,by go_num,by rw [HC.out,J.out,if_pos HZ.out],B'⟩
     case measure=>simp [intOf]; omega
    ·have a3:(gK I[k].name us[k].name == 0)=false:=by simp [hz]
     have HZ:=η hz;clear hz hA;go_wp2;go_ret;exact ⟨fG (by rw [HC.out,J.out,if_neg HZ.out]),B'⟩
   ·clear h1 h2
    have J:=η (xk U (Nat.le_of_not_lt y));go_wp2;go_ret;exact ⟨fG (by rw [HC.out,J.out]),hb.trans (hA.mono hb.size)⟩
  ·have he:I.length≤k:=by omega
   by_cases y:k < us.length
   ·have J:=η (xq he y)
    have hx:I.length < us.length:=by omega
    go_wp2;go_ret;exact ⟨fG (by rw [HC.out,J.out]),hb⟩
   ·have J:=η (xu he (Nat.le_of_not_lt y))
    have hx:¬ I.length < us.length:=by omega
    go_wp2;go_ret;exact ⟨fG (by rw [HC.out,J.out]),hb⟩
theorem wK (a b:A) (c0 c1 d0 d1:Value) (b1 b2:List Nat) (w:World) (h1:aK w [c0,c1] a b1) (U:aK w [d0,d1] b b2):
  Calls Tryz.prog 64 #[.agg #[c0,c1],.agg #[d0,d1]] w fun e w'=>e=.returned (.int .i64 (dh a b))∧Below w.heap.size w w':=by
 obtain ⟨Ad,cap,rfl,rfl⟩:=bY h1;obtain ⟨Ae,y,rfl,rfl⟩:=bY U;have hq:=fun w' (hb:Below w.heap.size w w')=>DL a.args b.args (.slice Ad a.args.length cap) (.slice Ae b.args.length y) b1 b2 w' (dQ (au.below h1 hb)) (dQ (au.below U hb))
 have hc:dh a b=if gK a.name b.name=0 then lV a.args b.args else gK a.name b.name:=rfl
 have HC:=η hc;clear h1 U hc;have J:=((Below.refl w.heap.size w).alloc ν (.cells #[.string a.name,.slice Ad a.args.length cap] 33)).alloc (by simp) (.cells #[.string b.name,.slice Ae b.args.length y] 33);by_cases I:gK a.name b.name=0
 ·have a0:(gK a.name b.name != 0)=false:=by simp [I]
  have HZ:=η I;clear I
  go_enter Tryz.func64,Tryz.ntmps64
  go_wp2_with (go_at_call 124; refine (lK _ _ _).mono ?_; rintro e w' ⟨rfl,rfl⟩)
  refine (hq _ J).mono ?_;rintro e w' ⟨rfl,a1⟩;go_wp2;go_ret;exact ⟨fG (by rw [HC.out,if_pos HZ.out]),J.trans (a1.mono J.size)⟩
 ·have a0:(gK a.name b.name != 0)=true:=by simp [I]
  have HZ:=η I;clear I
  go_enter Tryz.func64,Tryz.ntmps64
  go_wp2_with (go_at_call 124; refine (lK _ _ _).mono ?_; rintro e w' ⟨rfl,rfl⟩)
  go_ret;exact ⟨fG (by rw [HC.out,if_neg HZ.out]),J⟩
end Go.Proofs.YtkjinanbccloeaaGreatDoor
