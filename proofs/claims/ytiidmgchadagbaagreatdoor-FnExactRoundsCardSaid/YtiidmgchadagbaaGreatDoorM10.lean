/- Of the proof of FnExactRounds: SPut. -/
import Derived.Test.YtiidmgchadagbaaGreatDoorProg
import Derived.Test.YtiidmgchadagbaaGreatDoorM05
set_option linter.unusedVariables false
set_option maxHeartbeats 4000000
set_option maxRecDepth 100000
namespace Go.Proofs.YtiidmgchadagbaaGreatDoor
open Go.RowKit D
attribute [local go_sem ↓] Go.wp_at_zero Go.wp_at_succ
def D.ReadsN (xs:List ByteArray) (bb:List Nat) (B:Nat) (w:World) (e:Ending) (w':World):Prop:=Below B w w'∧∃ v bs,e=.returned v∧strsK w' [v] xs bs∧∀ b ∈ bs,w.heap.size≤b∨b ∈ bb
theorem infoStrS:(Tryz.prog.info? 9).map (fun i=>(i.zero,i.size,i.bytes))=some (some (.string ⟨#[]⟩),1,16):=by kernel_rfl
theorem l2Put_any (xs:List ByteArray) (s:ByteArray) (v:Value) (bs:List Nat) (w:World) (h:strsK w [v] xs bs) (hs:s.size≤maxLen) (hn:xs.length≤16777216):
  Calls Tryz.prog 165 #[v,.string s] w (ReadsN (putS xs s) bs w.heap.size w):=by
 obtain ⟨Ad,cap,rfl,hl,hm⟩:=sliceK_form h
 obtain ⟨i0,hi,hz0,hz1,hz2⟩:=info_parts infoStrS
 have hlm:=nat_ge_max hm
 have hlx:(xs.length:Int)≤9223372036854775807:=nat_ge_max (Nat.le_trans hl hm)
 have hpl:=plS_le xs s
 go_enter Tryz.func165,Tryz.ntmps165
 go_wp2
 go_loopw [5] (fun i wr=>∃ k:Nat,k≤plS xs s∧i=.int .i64 k∧Below w.heap.size w wr) (fun i _=>xs.length - (intOf i).toNat)
 case atStart=>exact ⟨0,Nat.zero_le _,rfl,Below.refl _ _⟩
 case round=>
  obtain ⟨k,hk,rfl,B1⟩:=hrel
  have hk0:(0:Int)≤(k:Int):=by omega
  by_cases hlt:k < plS xs s
  ·have hkx:k < xs.length:=by omega
   have hk1:(k:Int) < (xs.length:Int):=by omega
   have hk9:(k:Int)≤16777216:=by omega
   have hless:Op.bytesLess xs[k].toList s.toList=true:=by rw [less_cmpS]; simpa using plS_lt xs s k hkx hlt
   obtain ⟨b,o,rfl,_,e0,_⟩:=strs_at (strsK_good.below h B1) hkx
   have HLT:=η hlt
   have HB:=η B1
   generalize xs[k]=t at *
   clear h B1 hlt hkx hk
   go_wp2
   go_roundw
   case rel=>exact ⟨k+1,HLT.out,by go_num,HB.out⟩
   case measure=>have:=HLT.out; simp [intOf]; omega
  ·obtain rfl:k=plS xs s:=by omega
   clear hk hlt
   by_cases hne:xs = []
   ·subst hne
    have HX:Hid (putS [] s = [] ++ [s] ++ []):=η rfl
    have e0:plS [] s=0:=rfl
    rw [e0] at *
    simp only [List.length_nil] at hl hlx ⊢
    clear e0 h hn hpl
    have H5:Hid (0+0≤maxLen):=η (by unfold maxLen; omega)
    have H6:Hid ((0+0) * 16≤140737488355328):=η (by omega)
    have H8:Hid (0+1≤maxLen):=η (by unfold maxLen; omega)
    have H9:Hid ((0+1) * 16≤140737488355328):=η (by omega)
    have H10:Hid (1+0≤maxLen):=η (by unfold maxLen; omega)
    have H11:Hid ((1+0) * 16≤140737488355328):=η (by omega)
    have hcc:(0:Int)≤(cap:Int):=by omega
    have HN0:Hid (∀ (v:Value),∀ c ∈ ([]:List Nat),v.ownBlock ≠ some c):=η (fun v c hc=>by simp at hc)
    have HRN:Hid (∀ w',Rowed 1 strK w' [] [] []):=η (fun w'=>Rowed.nil)
    have HLN:Hid (∀ w' Ad,Lies w' Ad []):=η (fun w' Ad=>Lies.nil w' Ad)
    have HEa:Hid (((wr.alloc (.cells #[] 9)).alloc (.cells #[.string s] 9)).heap[wr.heap.size+1]? = some (.cells #[.string s] 9 (0,0))):=η (by have:=heap_alloc_new (wr.alloc (.cells #[] 9)) (.cells #[.string s] 9); rw [World.size_alloc] at this; exact this)
    have HEb:Hid (((wr.alloc (.cells #[.string s] 9)).alloc (.cells #[] 9)).heap[wr.heap.size]? = some (.cells #[.string s] 9 (0,0))):=η (by rw [Below.heap_alloc _ _ _ (by simp)]; exact heap_alloc_new _ _)
    have hBa:Below wr.heap.size wr ((wr.alloc (.cells #[] 9)).alloc (.cells #[.string s] 9)).drew:=(((Below.refl _ _).alloc (Nat.le_refl _) _).alloc (by simp) _).drew
    have hCa:=Coll.empty (n:=1) (R:=strK) (e:=9) (w:=((wr.alloc (.cells #[] 9)).alloc (.cells #[.string s] 9)).drew) (g:=wr.heap.size) (base:=wr.heap.size) (show ((wr.alloc (.cells #[] 9)).alloc (.cells #[.string s] 9)).heap[wr.heap.size]? = _ by rw [Below.heap_alloc _ _ _ (by simp)]; exact heap_alloc_new _ _) (by omega)
    have HBa:=η hBa
    have HCa:=η hCa
    clear hBa hCa
    have hBb:Below wr.heap.size wr ((wr.alloc (.cells #[.string s] 9)).alloc (.cells #[] 9)).drew:=(((Below.refl _ _).alloc (Nat.le_refl _) _).alloc (by simp) _).drew
    have hCb:=Coll.empty (n:=1) (R:=strK) (e:=9) (w:=((wr.alloc (.cells #[.string s] 9)).alloc (.cells #[] 9)).drew) (g:=wr.heap.size+1) (base:=wr.heap.size) (show ((wr.alloc (.cells #[.string s] 9)).alloc (.cells #[] 9)).heap[wr.heap.size+1]? = _ by have:=heap_alloc_new (wr.alloc (.cells #[.string s] 9)) (.cells #[] 9); rw [World.size_alloc] at this; exact this) (by omega)
    have HBb:=η hBb
    have HCb:=η hCb
    clear hBb hCb
    have hBc:Below wr.heap.size wr (wr.alloc (.cells #[] 9)).drew:=((Below.refl _ _).alloc (Nat.le_refl _) _).drew
    have hCc:=Coll.empty (n:=1) (R:=strK) (e:=9) (w:=(wr.alloc (.cells #[] 9)).drew) (g:=wr.heap.size) (base:=wr.heap.size) (show (wr.alloc (.cells #[] 9)).heap[wr.heap.size]? = _ from heap_alloc_new _ _) (by omega)
    have HBc:=η hBc
    have HCc:=η hCc
    clear hBc hCc
    have HBK:Hid (∀ w',Below wr.heap.size wr w'→Below w.heap.size w w'):=η fun w' hb'=>B1.trans (hb'.mono B1.size)
    have HA1:Hid (strK wr [.string s] s []):=η ⟨rfl,hs,rfl⟩
    have N1a:=η (own_ne (a:=wr.heap.size+1) (b:=wr.heap.size) (n:=0) (c:=0) (o:=0) (by omega))
    have N1b:=η (own_ne (a:=wr.heap.size) (b:=wr.heap.size+1) (n:=0) (c:=0) (o:=0) (by omega))
    have Sza:Hid (wr.heap.size+1 < ((wr.alloc (.cells #[] 9)).alloc (.cells #[.string s] 9)).drew.heap.size):=η (by simp)
    have Szb:Hid (wr.heap.size < ((wr.alloc (.cells #[.string s] 9)).alloc (.cells #[] 9)).drew.heap.size):=η (by simp <;> omega)
    by_cases hce:cap=0
    ·have hct:(cap=0)=True:=eq_true hce
     have HCP:=η hce
     clear hce
     go_wp2
     go_region_held3 (fun _=>True) (trivial) ((first
      | (refine step_coll ?_ (.tmp 33) (.tmp 36) _ ?_ wr.heap.size 9 i0 (.string ⟨#[]⟩) 1 16 Tryz.underlying139 hi hz0 hz1 hz2 rfl (Nat.zero_lt_succ 0) strK_good (.slice (some ⟨wr.heap.size,0,none⟩) 0 0) 0 [] [] [] ?_ HCa.out rfl ?_ 0 ?_ [] [] [] ?_ (HRN.out _) rfl (HLN.out _ _) (HN0.out _) H5.out H6.out wr wr.heap.size HBa.out (Nat.le_refl _) HBa.out.size ?_; rfl; rfl; rfl; rotate_left 2; rfl; rotate_left; intro A1 cp1 w2 hC2 hB2 hS2 hG2; have HE2:Hid (w2.heap[wr.heap.size+1]? = some (.cells #[.string s] 9 (0,0))):=η ((hG2.block _ Sza.out N1a.out).trans HEa.out); clear hG2; have HLE:=η (lies_block HE2.out); have HRE:=η (Rowed.one_el (n:=1) (R:=strK) strK_ones (strK_good.below HA1.out hB2)); have HC2:=η hC2; have HB2:=η hB2; have HS2:=η hS2; clear hC2 hB2 hS2)
      | (refine step_coll ?_ (.tmp 33) (.tmp 36) _ ?_ wr.heap.size 9 i0 (.string ⟨#[]⟩) 1 16 Tryz.underlying139 hi hz0 hz1 hz2 rfl (Nat.zero_lt_succ 0) strK_good (.slice (some ⟨wr.heap.size+1,0,none⟩) 0 0) 0 [] [] [] ?_ HCb.out rfl ?_ 0 ?_ [] [] [] ?_ (HRN.out _) rfl (HLN.out _ _) (HN0.out _) H5.out H6.out wr wr.heap.size HBb.out (Nat.le_refl _) HBb.out.size ?_; rfl; rfl; rfl; rotate_left 2; rfl; rotate_left; intro A1 cp1 w2 hC2 hB2 hS2 hG2; have HE2:Hid (w2.heap[wr.heap.size]? = some (.cells #[.string s] 9 (0,0))):=η ((hG2.block _ Szb.out N1b.out).trans HEb.out); clear hG2; have HLE:=η (lies_block HE2.out); have HRE:=η (Rowed.one_el (n:=1) (R:=strK) strK_ones (strK_good.below HA1.out hB2)); have HC2:=η hC2; have HB2:=η hB2; have HS2:=η hS2; clear hC2 hB2 hS2)
      | (refine step_coll ?_ (.tmp 33) (.tmp 36) _ ?_ wr.heap.size 9 i0 (.string ⟨#[]⟩) 1 16 Tryz.underlying139 hi hz0 hz1 hz2 rfl (Nat.zero_lt_succ 0) strK_good (.slice (some ⟨wr.heap.size,0,none⟩) 0 0) 0 [] [] [] ?_ HCc.out rfl ?_ 0 ?_ [] [] [] ?_ (HRN.out _) rfl (HLN.out _ _) (HN0.out _) H5.out H6.out wr wr.heap.size HBc.out (Nat.le_refl _) HBc.out.size ?_; rfl; rfl; rfl; rotate_left 2; rfl; rotate_left; intro A1 cp1 w2 hC2 hB2 hS2 hG2; skip; clear hG2; have hB2':Below wr.heap.size wr (w2.alloc (.cells #[.string s] 9)):=hB2.alloc hB2.size _; have HB2':=η hB2'; have HC2':=η (hC2.below strK_good ((Below.refl w2.heap.size w2).alloc (Nat.le_refl _) (.cells #[.string s] 9))); have HS2':=η hB2'.size; have HLE:=η (lies_block (heap_alloc_new w2 (.cells #[.string s] 9))); have HRE:=η (Rowed.one_el (n:=1) (R:=strK) strK_ones (strK_good.below HA1.out hB2')); clear hB2'; have HC2:=η hC2; have HB2:=η hB2; have HS2:=η hS2; clear hC2 hB2 hS2)
      | (refine step_coll ?_ (.tmp 37) (.tmp 39) _ ?_ wr.heap.size 9 i0 (.string ⟨#[]⟩) 1 16 Tryz.underlying139 hi hz0 hz1 hz2 rfl (Nat.zero_lt_succ 0) strK_good (.slice A1 (0+0) cp1) (0+0) _ _ _ ?_ HC2.out rfl (some ⟨wr.heap.size+1,0,none⟩) 1 1 _ [s] _ ?_ HRE.out rfl HLE.out (HN0.out _) H8.out H9.out wr wr.heap.size HB2.out (Nat.le_refl _) HS2.out ?_; rfl; rfl; rfl; rfl; intro A2 cp2 w3 hC3 hB3 hS3 hG3; have HC3:=η hC3; have HB3:=η hB3; have HS3:=η hS3; clear hC3 hB3 hS3 hG3)
      | (refine step_coll ?_ (.tmp 37) (.tmp 39) _ ?_ wr.heap.size 9 i0 (.string ⟨#[]⟩) 1 16 Tryz.underlying139 hi hz0 hz1 hz2 rfl (Nat.zero_lt_succ 0) strK_good (.slice A1 (0+0) cp1) (0+0) _ _ _ ?_ HC2.out rfl (some ⟨wr.heap.size,0,none⟩) 1 1 _ [s] _ ?_ HRE.out rfl HLE.out (HN0.out _) H8.out H9.out wr wr.heap.size HB2.out (Nat.le_refl _) HS2.out ?_; rfl; rfl; rfl; rfl; intro A2 cp2 w3 hC3 hB3 hS3 hG3; have HC3:=η hC3; have HB3:=η hB3; have HS3:=η hS3; clear hC3 hB3 hS3 hG3)
      | (refine step_coll ?_ (.tmp 37) (.tmp 39) _ ?_ wr.heap.size 9 i0 (.string ⟨#[]⟩) 1 16 Tryz.underlying139 hi hz0 hz1 hz2 rfl (Nat.zero_lt_succ 0) strK_good (.slice A1 (0+0) cp1) (0+0) _ _ _ ?_ HC2'.out rfl (some ⟨w2.heap.size,0,none⟩) 1 1 _ [s] _ ?_ HRE.out rfl HLE.out (HN0.out _) H8.out H9.out wr wr.heap.size HB2'.out (Nat.le_refl _) HS2'.out ?_; rfl; rfl; rfl; rfl; intro A2 cp2 w3 hC3 hB3 hS3 hG3; have HC3:=η hC3; have HB3:=η hB3; have HS3:=η hS3; clear hC3 hB3 hS3 hG3)
      | (refine step_coll ?_ (.tmp 40) (.tmp 43) _ ?_ wr.heap.size 9 i0 (.string ⟨#[]⟩) 1 16 Tryz.underlying139 hi hz0 hz1 hz2 rfl (Nat.zero_lt_succ 0) strK_good (.slice A2 (0+0+1) cp2) (0+0+1) _ _ _ ?_ HC3.out rfl ?_ 0 ?_ [] [] [] ?_ (HRN.out _) rfl (HLN.out _ _) (HN0.out _) H10.out H11.out wr wr.heap.size HB3.out (Nat.le_refl _) HS3.out ?_; rfl; rfl; rfl; rotate_left 2; rfl; rotate_left; intro A3 cp3 w4 hC4 hB4 hS4 _; have HC4:=η hC4; have HB4:=η hB4; clear hC4 hB4 hS4)))
     all_goals
      obtain ⟨b4,hs4,hf4⟩:=HC4.out.slice
      have HS:=η hs4
      have HF4:=η hf4
      clear hs4 hf4
      go_wp2
      go_ret
      exact ⟨HBK.out _ HB4.out,_,b4,rfl,by rw [HX.out]; exact HS.out,fun c hc=>(HF4.out c hc).imp (Nat.le_trans B1.size) (fun h9=>by simp at h9)⟩
    ·have hct:(cap=0)=False:=eq_false hce
     have HCP:=η hce
     clear hce
     go_wp2
     go_region_held3 (fun _=>True) (trivial) ((first
      | (refine step_coll ?_ (.tmp 33) (.tmp 36) _ ?_ wr.heap.size 9 i0 (.string ⟨#[]⟩) 1 16 Tryz.underlying139 hi hz0 hz1 hz2 rfl (Nat.zero_lt_succ 0) strK_good (.slice (some ⟨wr.heap.size,0,none⟩) 0 0) 0 [] [] [] ?_ HCa.out rfl ?_ 0 ?_ [] [] [] ?_ (HRN.out _) rfl (HLN.out _ _) (HN0.out _) H5.out H6.out wr wr.heap.size HBa.out (Nat.le_refl _) HBa.out.size ?_; rfl; rfl; rfl; rotate_left 2; rfl; rotate_left; intro A1 cp1 w2 hC2 hB2 hS2 hG2; have HE2:Hid (w2.heap[wr.heap.size+1]? = some (.cells #[.string s] 9 (0,0))):=η ((hG2.block _ Sza.out N1a.out).trans HEa.out); clear hG2; have HLE:=η (lies_block HE2.out); have HRE:=η (Rowed.one_el (n:=1) (R:=strK) strK_ones (strK_good.below HA1.out hB2)); have HC2:=η hC2; have HB2:=η hB2; have HS2:=η hS2; clear hC2 hB2 hS2)
      | (refine step_coll ?_ (.tmp 33) (.tmp 36) _ ?_ wr.heap.size 9 i0 (.string ⟨#[]⟩) 1 16 Tryz.underlying139 hi hz0 hz1 hz2 rfl (Nat.zero_lt_succ 0) strK_good (.slice (some ⟨wr.heap.size+1,0,none⟩) 0 0) 0 [] [] [] ?_ HCb.out rfl ?_ 0 ?_ [] [] [] ?_ (HRN.out _) rfl (HLN.out _ _) (HN0.out _) H5.out H6.out wr wr.heap.size HBb.out (Nat.le_refl _) HBb.out.size ?_; rfl; rfl; rfl; rotate_left 2; rfl; rotate_left; intro A1 cp1 w2 hC2 hB2 hS2 hG2; have HE2:Hid (w2.heap[wr.heap.size]? = some (.cells #[.string s] 9 (0,0))):=η ((hG2.block _ Szb.out N1b.out).trans HEb.out); clear hG2; have HLE:=η (lies_block HE2.out); have HRE:=η (Rowed.one_el (n:=1) (R:=strK) strK_ones (strK_good.below HA1.out hB2)); have HC2:=η hC2; have HB2:=η hB2; have HS2:=η hS2; clear hC2 hB2 hS2)
      | (refine step_coll ?_ (.tmp 33) (.tmp 36) _ ?_ wr.heap.size 9 i0 (.string ⟨#[]⟩) 1 16 Tryz.underlying139 hi hz0 hz1 hz2 rfl (Nat.zero_lt_succ 0) strK_good (.slice (some ⟨wr.heap.size,0,none⟩) 0 0) 0 [] [] [] ?_ HCc.out rfl ?_ 0 ?_ [] [] [] ?_ (HRN.out _) rfl (HLN.out _ _) (HN0.out _) H5.out H6.out wr wr.heap.size HBc.out (Nat.le_refl _) HBc.out.size ?_; rfl; rfl; rfl; rotate_left 2; rfl; rotate_left; intro A1 cp1 w2 hC2 hB2 hS2 hG2; skip; clear hG2; have hB2':Below wr.heap.size wr (w2.alloc (.cells #[.string s] 9)):=hB2.alloc hB2.size _; have HB2':=η hB2'; have HC2':=η (hC2.below strK_good ((Below.refl w2.heap.size w2).alloc (Nat.le_refl _) (.cells #[.string s] 9))); have HS2':=η hB2'.size; have HLE:=η (lies_block (heap_alloc_new w2 (.cells #[.string s] 9))); have HRE:=η (Rowed.one_el (n:=1) (R:=strK) strK_ones (strK_good.below HA1.out hB2')); clear hB2'; have HC2:=η hC2; have HB2:=η hB2; have HS2:=η hS2; clear hC2 hB2 hS2)
      | (refine step_coll ?_ (.tmp 37) (.tmp 39) _ ?_ wr.heap.size 9 i0 (.string ⟨#[]⟩) 1 16 Tryz.underlying139 hi hz0 hz1 hz2 rfl (Nat.zero_lt_succ 0) strK_good (.slice A1 (0+0) cp1) (0+0) _ _ _ ?_ HC2.out rfl (some ⟨wr.heap.size+1,0,none⟩) 1 1 _ [s] _ ?_ HRE.out rfl HLE.out (HN0.out _) H8.out H9.out wr wr.heap.size HB2.out (Nat.le_refl _) HS2.out ?_; rfl; rfl; rfl; rfl; intro A2 cp2 w3 hC3 hB3 hS3 hG3; have HC3:=η hC3; have HB3:=η hB3; have HS3:=η hS3; clear hC3 hB3 hS3 hG3)
      | (refine step_coll ?_ (.tmp 37) (.tmp 39) _ ?_ wr.heap.size 9 i0 (.string ⟨#[]⟩) 1 16 Tryz.underlying139 hi hz0 hz1 hz2 rfl (Nat.zero_lt_succ 0) strK_good (.slice A1 (0+0) cp1) (0+0) _ _ _ ?_ HC2.out rfl (some ⟨wr.heap.size,0,none⟩) 1 1 _ [s] _ ?_ HRE.out rfl HLE.out (HN0.out _) H8.out H9.out wr wr.heap.size HB2.out (Nat.le_refl _) HS2.out ?_; rfl; rfl; rfl; rfl; intro A2 cp2 w3 hC3 hB3 hS3 hG3; have HC3:=η hC3; have HB3:=η hB3; have HS3:=η hS3; clear hC3 hB3 hS3 hG3)
      | (refine step_coll ?_ (.tmp 37) (.tmp 39) _ ?_ wr.heap.size 9 i0 (.string ⟨#[]⟩) 1 16 Tryz.underlying139 hi hz0 hz1 hz2 rfl (Nat.zero_lt_succ 0) strK_good (.slice A1 (0+0) cp1) (0+0) _ _ _ ?_ HC2'.out rfl (some ⟨w2.heap.size,0,none⟩) 1 1 _ [s] _ ?_ HRE.out rfl HLE.out (HN0.out _) H8.out H9.out wr wr.heap.size HB2'.out (Nat.le_refl _) HS2'.out ?_; rfl; rfl; rfl; rfl; intro A2 cp2 w3 hC3 hB3 hS3 hG3; have HC3:=η hC3; have HB3:=η hB3; have HS3:=η hS3; clear hC3 hB3 hS3 hG3)
      | (refine step_coll ?_ (.tmp 40) (.tmp 43) _ ?_ wr.heap.size 9 i0 (.string ⟨#[]⟩) 1 16 Tryz.underlying139 hi hz0 hz1 hz2 rfl (Nat.zero_lt_succ 0) strK_good (.slice A2 (0+0+1) cp2) (0+0+1) _ _ _ ?_ HC3.out rfl ?_ 0 ?_ [] [] [] ?_ (HRN.out _) rfl (HLN.out _ _) (HN0.out _) H10.out H11.out wr wr.heap.size HB3.out (Nat.le_refl _) HS3.out ?_; rfl; rfl; rfl; rotate_left 2; rfl; rotate_left; intro A3 cp3 w4 hC4 hB4 hS4 _; have HC4:=η hC4; have HB4:=η hB4; clear hC4 hB4 hS4)))
     all_goals
      obtain ⟨b4,hs4,hf4⟩:=HC4.out.slice
      have HS:=η hs4
      have HF4:=η hf4
      clear hs4 hf4
      go_wp2
      go_ret
      exact ⟨HBK.out _ HB4.out,_,b4,rfl,by rw [HX.out]; exact HS.out,fun c hc=>(HF4.out c hc).imp (Nat.le_trans B1.size) (fun h9=>by simp at h9)⟩
   ·have hpn:Hid (∀ hx:plS xs s < xs.length,¬ cmpS xs[plS xs s] s < 0):=η (plS_at xs s)
    obtain ⟨L,b3,hrow,hb3,hsrc⟩:=sliceK_row strK_ones (by omega) h
    have hlts:=strsK_good.lt h
    obtain ⟨b,o,rfl,hbb,hcell⟩:=hsrc hne
    have hbl:=hlts b hbb
    by_cases hkx:plS xs s < xs.length
    ·have hk1:((plS xs s:Nat):Int) < (xs.length:Int):=by omega
     obtain ⟨b',o',he,_,e0,_⟩:=strs_at (strsK_good.below h B1) hkx
     obtain ⟨rfl,rfl⟩:b=b'∧o=o':=by simpa using he
     have hless:Op.bytesLess xs[plS xs s].toList s.toList=false:=by rw [less_cmpS]; simpa using plS_at xs s hkx
     by_cases heq:cmpS xs[plS xs s] s=0
     ·have hq:(xs[plS xs s].toList == s.toList)=true:=by rw [eq_cmpS]; simpa using heq
      have HX:Hid (putS xs s=xs):=η (putS_has xs s hkx heq)
      have HR:=η (strsK_good.below h B1)
      have HB:=η B1
      generalize xs[plS xs s]=t at *
      clear h hrow hcell hsrc heq B1
      go_wp2
      go_ret
      exact ⟨HB.out,_,bs,rfl,by rw [HX.out]; exact HR.out,fun b hb=>.inr hb⟩
     ·have hq:(xs[plS xs s].toList == s.toList)=false:=by rw [eq_cmpS]; simpa using heq
      have HX:Hid (putS xs s=xs.take (plS xs s) ++ [s] ++ xs.drop (plS xs s)):=η (putS_new xs s (fun _=>heq))
      have hkq:Hid (plS xs s < xs.length):=η hkx
      clear heq hpn
      generalize xs[plS xs s]=t at *
      generalize plS xs s=k at *
      have hcne:¬ (cap=k):=by omega
      have HK9:Hid (k≤xs.length):=η (by omega)
      obtain ⟨bt,hrt,hbt⟩:=hrow.take (k:=k) (by have:=HK9.out; omega)
      obtain ⟨bd,hrd,hbd⟩:=hrow.drop (k:=k) (by have:=HK9.out; omega)
      have HRT:=η hrt
      have HRD:=η hrd
      have hk2:(k:Int)≤(cap:Int):=by have:=HK9.out; omega
      have hk3:(k:Int)≤(xs.length:Int):=by have:=HK9.out; omega
      have hk4:(xs.length:Int)≤(cap:Int):=by omega
      have hlt':(xs.take k).length=k:=by rw [List.length_take]; have:=HK9.out; omega
      have hld':(xs.drop k).length=xs.length - k:=List.length_drop
      have HLT:Hid (∀ w',Below w.heap.size w w'→Lies w' (some ⟨b,o,none⟩) (L.take (k * 1))):=η fun w' hb'=>Lies.mk fun j u hj=>(hb'.cell (p:=⟨b,o+j,none⟩) hbl).trans (hcell j u (by
       have hj2:=(List.getElem?_eq_some_iff.1 hj).1
       rw [List.getElem?_take_of_lt (by simp at hj2; omega)] at hj; exact hj))
      have HL2:Hid (∀ w',Below w.heap.size w w'→Lies w' (some ⟨b,o+k,none⟩) (L.drop (k * 1))):=η fun w' hb'=>Lies.mk fun j u hj=>(hb'.cell (p:=⟨b,o+k+j,none⟩) hbl).trans (by rw [Nat.add_assoc]; exact hcell _ u (by rw [List.getElem?_drop,Nat.mul_one] at hj; exact hj))
      have H5:Hid (0+k≤maxLen):=η (by have:=HK9.out; unfold maxLen; omega)
      have H6:Hid ((0+k) * 16≤140737488355328):=η (by have:=HK9.out; omega)
      have H8:Hid (k+1≤maxLen):=η (by have:=HK9.out; unfold maxLen; omega)
      have H9:Hid ((k+1) * 16≤140737488355328):=η (by have:=HK9.out; omega)
      have H10:Hid (k+1+(xs.length - k)≤maxLen):=η (by have:=HK9.out; unfold maxLen; omega)
      have H11:Hid ((k+1+(xs.length - k)) * 16≤140737488355328):=η (by have:=HK9.out; omega)
      have HN1:=η hlt'
      have HN2:=η hld'
      have HN3:Hid ((xs.take k ++ [s]).length=k+1):=η (by rw [List.length_append,hlt']; rfl)
      have HFB:Hid (∀ c,c ∈ bt∨c ∈ bd→c ∈ bs):=η (fun c hc=>by
       rcases hc with hc | hc
       ·exact hb3 c (hbt c hc)
       ·exact hb3 c (hbd c hc))
      have HF2:Hid (∀ c ∈ bd,c < wr.heap.size):=η fun c hc=>Nat.lt_of_lt_of_le (hlts c (hb3 c (hbd c hc))) B1.size
      have HEa:Hid (((wr.alloc (.cells #[] 9)).alloc (.cells #[.string s] 9)).heap[wr.heap.size+1]? = some (.cells #[.string s] 9 (0,0))):=η (by have:=heap_alloc_new (wr.alloc (.cells #[] 9)) (.cells #[.string s] 9); rw [World.size_alloc] at this; exact this)
      have HEb:Hid (((wr.alloc (.cells #[.string s] 9)).alloc (.cells #[] 9)).heap[wr.heap.size]? = some (.cells #[.string s] 9 (0,0))):=η (by rw [Below.heap_alloc _ _ _ (by simp)]; exact heap_alloc_new _ _)
      have HRT1:=HRT.out.below strK_good B1
      have hrd1:=HRD.out.below strK_good B1
      have hBa:Below wr.heap.size wr ((wr.alloc (.cells #[] 9)).alloc (.cells #[.string s] 9)).drew:=(((Below.refl _ _).alloc (Nat.le_refl _) _).alloc (by simp) _).drew
      have hCa:=Coll.empty (n:=1) (R:=strK) (e:=9) (w:=((wr.alloc (.cells #[] 9)).alloc (.cells #[.string s] 9)).drew) (g:=wr.heap.size) (base:=wr.heap.size) (show ((wr.alloc (.cells #[] 9)).alloc (.cells #[.string s] 9)).heap[wr.heap.size]? = _ by rw [Below.heap_alloc _ _ _ (by simp)]; exact heap_alloc_new _ _) (by omega)
      have HBa:=η hBa
      have HRa:=η (HRT1.below strK_good hBa)
      have HLa:Hid (Lies ((wr.alloc (.cells #[] 9)).alloc (.cells #[.string s] 9)).drew (some ⟨b,o,none⟩) (L.take (k * 1))):=η (HLT.out _ (B1.trans (hBa.mono B1.size)))
      have HFa:Hid (∀ c ∈ bt,(Value.slice (some ⟨wr.heap.size,0,none⟩) 0 0).ownBlock ≠ some c):=η fun c hc=>own_block_ge hCa.own (Nat.lt_of_lt_of_le (hlts c (hb3 c (hbt c hc))) B1.size)
      have HCa:=η hCa
      clear hBa hCa
      have hBb:Below wr.heap.size wr ((wr.alloc (.cells #[.string s] 9)).alloc (.cells #[] 9)).drew:=(((Below.refl _ _).alloc (Nat.le_refl _) _).alloc (by simp) _).drew
      have hCb:=Coll.empty (n:=1) (R:=strK) (e:=9) (w:=((wr.alloc (.cells #[.string s] 9)).alloc (.cells #[] 9)).drew) (g:=wr.heap.size+1) (base:=wr.heap.size) (show ((wr.alloc (.cells #[.string s] 9)).alloc (.cells #[] 9)).heap[wr.heap.size+1]? = _ by have:=heap_alloc_new (wr.alloc (.cells #[.string s] 9)) (.cells #[] 9); rw [World.size_alloc] at this; exact this) (by omega)
      have HBb:=η hBb
      have HRb:=η (HRT1.below strK_good hBb)
      have HLb:Hid (Lies ((wr.alloc (.cells #[.string s] 9)).alloc (.cells #[] 9)).drew (some ⟨b,o,none⟩) (L.take (k * 1))):=η (HLT.out _ (B1.trans (hBb.mono B1.size)))
      have HFb:Hid (∀ c ∈ bt,(Value.slice (some ⟨wr.heap.size+1,0,none⟩) 0 0).ownBlock ≠ some c):=η fun c hc=>own_block_ge hCb.own (Nat.lt_of_lt_of_le (hlts c (hb3 c (hbt c hc))) B1.size)
      have HCb:=η hCb
      clear hBb hCb
      have hBc:Below wr.heap.size wr (wr.alloc (.cells #[] 9)).drew:=((Below.refl _ _).alloc (Nat.le_refl _) _).drew
      have hCc:=Coll.empty (n:=1) (R:=strK) (e:=9) (w:=(wr.alloc (.cells #[] 9)).drew) (g:=wr.heap.size) (base:=wr.heap.size) (show (wr.alloc (.cells #[] 9)).heap[wr.heap.size]? = _ from heap_alloc_new _ _) (by omega)
      have HBc:=η hBc
      have HRc:=η (HRT1.below strK_good hBc)
      have HLc:Hid (Lies (wr.alloc (.cells #[] 9)).drew (some ⟨b,o,none⟩) (L.take (k * 1))):=η (HLT.out _ (B1.trans (hBc.mono B1.size)))
      have HFc:Hid (∀ c ∈ bt,(Value.slice (some ⟨wr.heap.size,0,none⟩) 0 0).ownBlock ≠ some c):=η fun c hc=>own_block_ge hCc.own (Nat.lt_of_lt_of_le (hlts c (hb3 c (hbt c hc))) B1.size)
      have HCc:=η hCc
      clear hBc hCc
      have HBK:Hid (∀ w',Below wr.heap.size wr w'→Below w.heap.size w w'):=η fun w' hb'=>B1.trans (hb'.mono B1.size)
      have HRD1:=η hrd1
      clear HRT1 hrd1
      have HA1:Hid (strK wr [.string s] s []):=η ⟨rfl,hs,rfl⟩
      have HN0:Hid (∀ (v:Value),∀ c ∈ ([]:List Nat),v.ownBlock ≠ some c):=η (fun v c hc=>by simp at hc)
      have N1a:=η (own_ne (a:=wr.heap.size+1) (b:=wr.heap.size) (n:=0) (c:=0) (o:=0) (by omega))
      have N1b:=η (own_ne (a:=wr.heap.size) (b:=wr.heap.size+1) (n:=0) (c:=0) (o:=0) (by omega))
      have Sza:Hid (wr.heap.size+1 < ((wr.alloc (.cells #[] 9)).alloc (.cells #[.string s] 9)).drew.heap.size):=η (by simp)
      have Szb:Hid (wr.heap.size < ((wr.alloc (.cells #[.string s] 9)).alloc (.cells #[] 9)).drew.heap.size):=η (by simp <;> omega)
      clear hlt' hld' hbt hbd hb3 hrt hrd hrow hsrc hcell h
      go_wp2
      go_region_held3 (fun _=>True) (trivial) ((first
       | (refine step_coll ?_ (.tmp 33) (.tmp 36) _ ?_ wr.heap.size 9 i0 (.string ⟨#[]⟩) 1 16 Tryz.underlying139 hi hz0 hz1 hz2 rfl (Nat.zero_lt_succ 0) strK_good (.slice (some ⟨wr.heap.size,0,none⟩) 0 0) 0 [] [] [] ?_ HCa.out rfl (some ⟨b,o,none⟩) k cap (L.take (k * 1)) _ _ ?_ HRa.out HN1.out HLa.out HFa.out H5.out H6.out wr wr.heap.size HBa.out (Nat.le_refl _) HBa.out.size ?_; rfl; rfl; rfl; rfl; intro A1 cp1 w2 hC2 hB2 hS2 hG2; simp only [Nat.zero_add,List.nil_append] at hC2 ⊢; have HE2:Hid (w2.heap[wr.heap.size+1]? = some (.cells #[.string s] 9 (0,0))):=η ((hG2.block _ Sza.out N1a.out).trans HEa.out); clear hG2; have HLE:=η (lies_block HE2.out); have HRE:=η (Rowed.one_el (n:=1) (R:=strK) strK_ones (strK_good.below HA1.out hB2)); have HC2:=η hC2; have HB2:=η hB2; have HS2:=η hS2; clear hC2 hB2 hS2)
       | (refine step_coll ?_ (.tmp 33) (.tmp 36) _ ?_ wr.heap.size 9 i0 (.string ⟨#[]⟩) 1 16 Tryz.underlying139 hi hz0 hz1 hz2 rfl (Nat.zero_lt_succ 0) strK_good (.slice (some ⟨wr.heap.size+1,0,none⟩) 0 0) 0 [] [] [] ?_ HCb.out rfl (some ⟨b,o,none⟩) k cap (L.take (k * 1)) _ _ ?_ HRb.out HN1.out HLb.out HFb.out H5.out H6.out wr wr.heap.size HBb.out (Nat.le_refl _) HBb.out.size ?_; rfl; rfl; rfl; rfl; intro A1 cp1 w2 hC2 hB2 hS2 hG2; simp only [Nat.zero_add,List.nil_append] at hC2 ⊢; have HE2:Hid (w2.heap[wr.heap.size]? = some (.cells #[.string s] 9 (0,0))):=η ((hG2.block _ Szb.out N1b.out).trans HEb.out); clear hG2; have HLE:=η (lies_block HE2.out); have HRE:=η (Rowed.one_el (n:=1) (R:=strK) strK_ones (strK_good.below HA1.out hB2)); have HC2:=η hC2; have HB2:=η hB2; have HS2:=η hS2; clear hC2 hB2 hS2)
       | (refine step_coll ?_ (.tmp 33) (.tmp 36) _ ?_ wr.heap.size 9 i0 (.string ⟨#[]⟩) 1 16 Tryz.underlying139 hi hz0 hz1 hz2 rfl (Nat.zero_lt_succ 0) strK_good (.slice (some ⟨wr.heap.size,0,none⟩) 0 0) 0 [] [] [] ?_ HCc.out rfl (some ⟨b,o,none⟩) k cap (L.take (k * 1)) _ _ ?_ HRc.out HN1.out HLc.out HFc.out H5.out H6.out wr wr.heap.size HBc.out (Nat.le_refl _) HBc.out.size ?_; rfl; rfl; rfl; rfl; intro A1 cp1 w2 hC2 hB2 hS2 hG2; simp only [Nat.zero_add,List.nil_append] at hC2 ⊢; skip; clear hG2; have hB2':Below wr.heap.size wr (w2.alloc (.cells #[.string s] 9)):=hB2.alloc hB2.size _; have HB2':=η hB2'; have HC2':=η (hC2.below strK_good ((Below.refl w2.heap.size w2).alloc (Nat.le_refl _) (.cells #[.string s] 9))); have HS2':=η hB2'.size; have HLE:=η (lies_block (heap_alloc_new w2 (.cells #[.string s] 9))); have HRE:=η (Rowed.one_el (n:=1) (R:=strK) strK_ones (strK_good.below HA1.out hB2')); clear hB2'; have HC2:=η hC2; have HB2:=η hB2; have HS2:=η hS2; clear hC2 hB2 hS2)
       | (refine step_coll ?_ (.tmp 37) (.tmp 39) _ ?_ wr.heap.size 9 i0 (.string ⟨#[]⟩) 1 16 Tryz.underlying139 hi hz0 hz1 hz2 rfl (Nat.zero_lt_succ 0) strK_good (.slice A1 k cp1) k _ _ _ ?_ HC2.out HN1.out (some ⟨wr.heap.size+1,0,none⟩) 1 1 _ [s] _ ?_ HRE.out rfl HLE.out (HN0.out _) H8.out H9.out wr wr.heap.size HB2.out (Nat.le_refl _) HS2.out ?_; rfl; rfl; rfl; rfl; intro A2 cp2 w3 hC3 hB3 hS3 hG3; have HR3:=η (HRD1.out.below strK_good hB3); have HG3:=η (fun c hc=>own_block_ge hC3.own (HF2.out c hc)); have HC3:=η hC3; have HB3:=η hB3; have HS3:=η hS3; clear hC3 hB3 hS3 hG3)
       | (refine step_coll ?_ (.tmp 37) (.tmp 39) _ ?_ wr.heap.size 9 i0 (.string ⟨#[]⟩) 1 16 Tryz.underlying139 hi hz0 hz1 hz2 rfl (Nat.zero_lt_succ 0) strK_good (.slice A1 k cp1) k _ _ _ ?_ HC2.out HN1.out (some ⟨wr.heap.size,0,none⟩) 1 1 _ [s] _ ?_ HRE.out rfl HLE.out (HN0.out _) H8.out H9.out wr wr.heap.size HB2.out (Nat.le_refl _) HS2.out ?_; rfl; rfl; rfl; rfl; intro A2 cp2 w3 hC3 hB3 hS3 hG3; have HR3:=η (HRD1.out.below strK_good hB3); have HG3:=η (fun c hc=>own_block_ge hC3.own (HF2.out c hc)); have HC3:=η hC3; have HB3:=η hB3; have HS3:=η hS3; clear hC3 hB3 hS3 hG3)
       | (refine step_coll ?_ (.tmp 37) (.tmp 39) _ ?_ wr.heap.size 9 i0 (.string ⟨#[]⟩) 1 16 Tryz.underlying139 hi hz0 hz1 hz2 rfl (Nat.zero_lt_succ 0) strK_good (.slice A1 k cp1) k _ _ _ ?_ HC2'.out HN1.out (some ⟨w2.heap.size,0,none⟩) 1 1 _ [s] _ ?_ HRE.out rfl HLE.out (HN0.out _) H8.out H9.out wr wr.heap.size HB2'.out (Nat.le_refl _) HS2'.out ?_; rfl; rfl; rfl; rfl; intro A2 cp2 w3 hC3 hB3 hS3 hG3; have HR3:=η (HRD1.out.below strK_good hB3); have HG3:=η (fun c hc=>own_block_ge hC3.own (HF2.out c hc)); have HC3:=η hC3; have HB3:=η hB3; have HS3:=η hS3; clear hC3 hB3 hS3 hG3)
       | (refine step_coll ?_ (.tmp 40) (.tmp 43) _ ?_ wr.heap.size 9 i0 (.string ⟨#[]⟩) 1 16 Tryz.underlying139 hi hz0 hz1 hz2 rfl (Nat.zero_lt_succ 0) strK_good (.slice A2 (k+1) cp2) (k+1) _ _ _ ?_ HC3.out HN3.out (some ⟨b,o+k,none⟩) (xs.length - k) (cap - k) (L.drop (k * 1)) _ _ ?_ HR3.out HN2.out (HL2.out _ (HBK.out _ HB3.out)) HG3.out H10.out H11.out wr wr.heap.size HB3.out (Nat.le_refl _) HS3.out ?_; rfl; rfl; rfl; rfl; intro A3 cp3 w4 hC4 hB4 hS4 _; have HC4:=η hC4; have HB4:=η hB4; clear hC4 hB4 hS4)))
      all_goals
       obtain ⟨b4,hs4,hf4⟩:=HC4.out.slice
       have HS:=η hs4
       have HF4:=η hf4
       clear hs4 hf4
       go_wp2
       go_ret
       exact ⟨HBK.out _ HB4.out,_,b4,rfl,by rw [HX.out]; exact HS.out,fun c hc=>(HF4.out c hc).imp (Nat.le_trans B1.size) (fun h9=>HFB.out c (by simpa using h9))⟩
    ·have HX:Hid (putS xs s=xs.take (plS xs s) ++ [s] ++ xs.drop (plS xs s)):=η (putS_new xs s (fun hx=>absurd hx hkx))
     clear hpn
     generalize plS xs s=k at *
     have hkl:k=xs.length:=by omega
     have hk1:¬ ((k:Nat):Int) < (xs.length:Int):=by omega
     have HK9:Hid (k≤xs.length):=η (by omega)
     obtain ⟨bt,hrt,hbt⟩:=hrow.take (k:=k) (by have:=HK9.out; omega)
     obtain ⟨bd,hrd,hbd⟩:=hrow.drop (k:=k) (by have:=HK9.out; omega)
     have HRT:=η hrt
     have HRD:=η hrd
     have hk2:(k:Int)≤(cap:Int):=by have:=HK9.out; omega
     have hk3:(k:Int)≤(xs.length:Int):=by have:=HK9.out; omega
     have hk4:(xs.length:Int)≤(cap:Int):=by omega
     have hlt':(xs.take k).length=k:=by rw [List.length_take]; have:=HK9.out; omega
     have hld':(xs.drop k).length=xs.length - k:=List.length_drop
     have HLT:Hid (∀ w',Below w.heap.size w w'→Lies w' (some ⟨b,o,none⟩) (L.take (k * 1))):=η fun w' hb'=>Lies.mk fun j u hj=>(hb'.cell (p:=⟨b,o+j,none⟩) hbl).trans (hcell j u (by
      have hj2:=(List.getElem?_eq_some_iff.1 hj).1
      rw [List.getElem?_take_of_lt (by simp at hj2; omega)] at hj; exact hj))
     have HL2:Hid (∀ w',Below w.heap.size w w'→Lies w' (some ⟨b,o+k,none⟩) (L.drop (k * 1))):=η fun w' hb'=>Lies.mk fun j u hj=>(hb'.cell (p:=⟨b,o+k+j,none⟩) hbl).trans (by rw [Nat.add_assoc]; exact hcell _ u (by rw [List.getElem?_drop,Nat.mul_one] at hj; exact hj))
     have H5:Hid (0+k≤maxLen):=η (by have:=HK9.out; unfold maxLen; omega)
     have H6:Hid ((0+k) * 16≤140737488355328):=η (by have:=HK9.out; omega)
     have H8:Hid (k+1≤maxLen):=η (by have:=HK9.out; unfold maxLen; omega)
     have H9:Hid ((k+1) * 16≤140737488355328):=η (by have:=HK9.out; omega)
     have H10:Hid (k+1+(xs.length - k)≤maxLen):=η (by have:=HK9.out; unfold maxLen; omega)
     have H11:Hid ((k+1+(xs.length - k)) * 16≤140737488355328):=η (by have:=HK9.out; omega)
     have HN1:=η hlt'
     have HN2:=η hld'
     have HN3:Hid ((xs.take k ++ [s]).length=k+1):=η (by rw [List.length_append,hlt']; rfl)
     have HFB:Hid (∀ c,c ∈ bt∨c ∈ bd→c ∈ bs):=η (fun c hc=>by
      rcases hc with hc | hc
      ·exact hb3 c (hbt c hc)
      ·exact hb3 c (hbd c hc))
     have HF2:Hid (∀ c ∈ bd,c < wr.heap.size):=η fun c hc=>Nat.lt_of_lt_of_le (hlts c (hb3 c (hbd c hc))) B1.size
     have HKL:=η hkl
     clear hkl
     have HEa:Hid (((wr.alloc (.cells #[] 9)).alloc (.cells #[.string s] 9)).heap[wr.heap.size+1]? = some (.cells #[.string s] 9 (0,0))):=η (by have:=heap_alloc_new (wr.alloc (.cells #[] 9)) (.cells #[.string s] 9); rw [World.size_alloc] at this; exact this)
     have HEb:Hid (((wr.alloc (.cells #[.string s] 9)).alloc (.cells #[] 9)).heap[wr.heap.size]? = some (.cells #[.string s] 9 (0,0))):=η (by rw [Below.heap_alloc _ _ _ (by simp)]; exact heap_alloc_new _ _)
     have HRT1:=HRT.out.below strK_good B1
     have hrd1:=HRD.out.below strK_good B1
     have hBa:Below wr.heap.size wr ((wr.alloc (.cells #[] 9)).alloc (.cells #[.string s] 9)).drew:=(((Below.refl _ _).alloc (Nat.le_refl _) _).alloc (by simp) _).drew
     have hCa:=Coll.empty (n:=1) (R:=strK) (e:=9) (w:=((wr.alloc (.cells #[] 9)).alloc (.cells #[.string s] 9)).drew) (g:=wr.heap.size) (base:=wr.heap.size) (show ((wr.alloc (.cells #[] 9)).alloc (.cells #[.string s] 9)).heap[wr.heap.size]? = _ by rw [Below.heap_alloc _ _ _ (by simp)]; exact heap_alloc_new _ _) (by omega)
     have HBa:=η hBa
     have HRa:=η (HRT1.below strK_good hBa)
     have HLa:Hid (Lies ((wr.alloc (.cells #[] 9)).alloc (.cells #[.string s] 9)).drew (some ⟨b,o,none⟩) (L.take (k * 1))):=η (HLT.out _ (B1.trans (hBa.mono B1.size)))
     have HFa:Hid (∀ c ∈ bt,(Value.slice (some ⟨wr.heap.size,0,none⟩) 0 0).ownBlock ≠ some c):=η fun c hc=>own_block_ge hCa.own (Nat.lt_of_lt_of_le (hlts c (hb3 c (hbt c hc))) B1.size)
     have HCa:=η hCa
     clear hBa hCa
     have hBb:Below wr.heap.size wr ((wr.alloc (.cells #[.string s] 9)).alloc (.cells #[] 9)).drew:=(((Below.refl _ _).alloc (Nat.le_refl _) _).alloc (by simp) _).drew
     have hCb:=Coll.empty (n:=1) (R:=strK) (e:=9) (w:=((wr.alloc (.cells #[.string s] 9)).alloc (.cells #[] 9)).drew) (g:=wr.heap.size+1) (base:=wr.heap.size) (show ((wr.alloc (.cells #[.string s] 9)).alloc (.cells #[] 9)).heap[wr.heap.size+1]? = _ by have:=heap_alloc_new (wr.alloc (.cells #[.string s] 9)) (.cells #[] 9); rw [World.size_alloc] at this; exact this) (by omega)
     have HBb:=η hBb
     have HRb:=η (HRT1.below strK_good hBb)
     have HLb:Hid (Lies ((wr.alloc (.cells #[.string s] 9)).alloc (.cells #[] 9)).drew (some ⟨b,o,none⟩) (L.take (k * 1))):=η (HLT.out _ (B1.trans (hBb.mono B1.size)))
     have HFb:Hid (∀ c ∈ bt,(Value.slice (some ⟨wr.heap.size+1,0,none⟩) 0 0).ownBlock ≠ some c):=η fun c hc=>own_block_ge hCb.own (Nat.lt_of_lt_of_le (hlts c (hb3 c (hbt c hc))) B1.size)
     have HCb:=η hCb
     clear hBb hCb
     have hBc:Below wr.heap.size wr (wr.alloc (.cells #[] 9)).drew:=((Below.refl _ _).alloc (Nat.le_refl _) _).drew
     have hCc:=Coll.empty (n:=1) (R:=strK) (e:=9) (w:=(wr.alloc (.cells #[] 9)).drew) (g:=wr.heap.size) (base:=wr.heap.size) (show (wr.alloc (.cells #[] 9)).heap[wr.heap.size]? = _ from heap_alloc_new _ _) (by omega)
     have HBc:=η hBc
     have HRc:=η (HRT1.below strK_good hBc)
     have HLc:Hid (Lies (wr.alloc (.cells #[] 9)).drew (some ⟨b,o,none⟩) (L.take (k * 1))):=η (HLT.out _ (B1.trans (hBc.mono B1.size)))
     have HFc:Hid (∀ c ∈ bt,(Value.slice (some ⟨wr.heap.size,0,none⟩) 0 0).ownBlock ≠ some c):=η fun c hc=>own_block_ge hCc.own (Nat.lt_of_lt_of_le (hlts c (hb3 c (hbt c hc))) B1.size)
     have HCc:=η hCc
     clear hBc hCc
     have HBK:Hid (∀ w',Below wr.heap.size wr w'→Below w.heap.size w w'):=η fun w' hb'=>B1.trans (hb'.mono B1.size)
     have HRD1:=η hrd1
     clear HRT1 hrd1
     have HA1:Hid (strK wr [.string s] s []):=η ⟨rfl,hs,rfl⟩
     have HN0:Hid (∀ (v:Value),∀ c ∈ ([]:List Nat),v.ownBlock ≠ some c):=η (fun v c hc=>by simp at hc)
     have N1a:=η (own_ne (a:=wr.heap.size+1) (b:=wr.heap.size) (n:=0) (c:=0) (o:=0) (by omega))
     have N1b:=η (own_ne (a:=wr.heap.size) (b:=wr.heap.size+1) (n:=0) (c:=0) (o:=0) (by omega))
     have Sza:Hid (wr.heap.size+1 < ((wr.alloc (.cells #[] 9)).alloc (.cells #[.string s] 9)).drew.heap.size):=η (by simp)
     have Szb:Hid (wr.heap.size < ((wr.alloc (.cells #[.string s] 9)).alloc (.cells #[] 9)).drew.heap.size):=η (by simp <;> omega)
     clear hlt' hld' hbt hbd hb3 hrt hrd hrow hsrc hcell h
     by_cases hce:cap=k
     ·have hct:(cap=k)=True:=eq_true hce
      have hxl:xs.length=k:=HKL.out.symm
      have hnil:L.drop (k * 1) = []:=List.length_eq_zero_iff.1 (by rw [HRD.out.len,HN2.out,hxl]; simp)
      have HLN:Hid (∀ w' Ad,Lies w' Ad (L.drop (k * 1))):=η (by rw [hnil]; exact fun w' Ad=>Lies.nil w' Ad)
      have HCP:=η hce
      clear hxl hnil HL2 hce
      go_wp2
      go_region_held3 (fun _=>True) (trivial) ((first
       | (refine step_coll ?_ (.tmp 33) (.tmp 36) _ ?_ wr.heap.size 9 i0 (.string ⟨#[]⟩) 1 16 Tryz.underlying139 hi hz0 hz1 hz2 rfl (Nat.zero_lt_succ 0) strK_good (.slice (some ⟨wr.heap.size,0,none⟩) 0 0) 0 [] [] [] ?_ HCa.out rfl (some ⟨b,o,none⟩) k cap (L.take (k * 1)) _ _ ?_ HRa.out HN1.out HLa.out HFa.out H5.out H6.out wr wr.heap.size HBa.out (Nat.le_refl _) HBa.out.size ?_; rfl; rfl; rfl; rfl; intro A1 cp1 w2 hC2 hB2 hS2 hG2; simp only [Nat.zero_add,List.nil_append] at hC2 ⊢; have HE2:Hid (w2.heap[wr.heap.size+1]? = some (.cells #[.string s] 9 (0,0))):=η ((hG2.block _ Sza.out N1a.out).trans HEa.out); clear hG2; have HLE:=η (lies_block HE2.out); have HRE:=η (Rowed.one_el (n:=1) (R:=strK) strK_ones (strK_good.below HA1.out hB2)); have HC2:=η hC2; have HB2:=η hB2; have HS2:=η hS2; clear hC2 hB2 hS2)
       | (refine step_coll ?_ (.tmp 33) (.tmp 36) _ ?_ wr.heap.size 9 i0 (.string ⟨#[]⟩) 1 16 Tryz.underlying139 hi hz0 hz1 hz2 rfl (Nat.zero_lt_succ 0) strK_good (.slice (some ⟨wr.heap.size+1,0,none⟩) 0 0) 0 [] [] [] ?_ HCb.out rfl (some ⟨b,o,none⟩) k cap (L.take (k * 1)) _ _ ?_ HRb.out HN1.out HLb.out HFb.out H5.out H6.out wr wr.heap.size HBb.out (Nat.le_refl _) HBb.out.size ?_; rfl; rfl; rfl; rfl; intro A1 cp1 w2 hC2 hB2 hS2 hG2; simp only [Nat.zero_add,List.nil_append] at hC2 ⊢; have HE2:Hid (w2.heap[wr.heap.size]? = some (.cells #[.string s] 9 (0,0))):=η ((hG2.block _ Szb.out N1b.out).trans HEb.out); clear hG2; have HLE:=η (lies_block HE2.out); have HRE:=η (Rowed.one_el (n:=1) (R:=strK) strK_ones (strK_good.below HA1.out hB2)); have HC2:=η hC2; have HB2:=η hB2; have HS2:=η hS2; clear hC2 hB2 hS2)
       | (refine step_coll ?_ (.tmp 33) (.tmp 36) _ ?_ wr.heap.size 9 i0 (.string ⟨#[]⟩) 1 16 Tryz.underlying139 hi hz0 hz1 hz2 rfl (Nat.zero_lt_succ 0) strK_good (.slice (some ⟨wr.heap.size,0,none⟩) 0 0) 0 [] [] [] ?_ HCc.out rfl (some ⟨b,o,none⟩) k cap (L.take (k * 1)) _ _ ?_ HRc.out HN1.out HLc.out HFc.out H5.out H6.out wr wr.heap.size HBc.out (Nat.le_refl _) HBc.out.size ?_; rfl; rfl; rfl; rfl; intro A1 cp1 w2 hC2 hB2 hS2 hG2; simp only [Nat.zero_add,List.nil_append] at hC2 ⊢; skip; clear hG2; have hB2':Below wr.heap.size wr (w2.alloc (.cells #[.string s] 9)):=hB2.alloc hB2.size _; have HB2':=η hB2'; have HC2':=η (hC2.below strK_good ((Below.refl w2.heap.size w2).alloc (Nat.le_refl _) (.cells #[.string s] 9))); have HS2':=η hB2'.size; have HLE:=η (lies_block (heap_alloc_new w2 (.cells #[.string s] 9))); have HRE:=η (Rowed.one_el (n:=1) (R:=strK) strK_ones (strK_good.below HA1.out hB2')); clear hB2'; have HC2:=η hC2; have HB2:=η hB2; have HS2:=η hS2; clear hC2 hB2 hS2)
       | (refine step_coll ?_ (.tmp 37) (.tmp 39) _ ?_ wr.heap.size 9 i0 (.string ⟨#[]⟩) 1 16 Tryz.underlying139 hi hz0 hz1 hz2 rfl (Nat.zero_lt_succ 0) strK_good (.slice A1 k cp1) k _ _ _ ?_ HC2.out HN1.out (some ⟨wr.heap.size+1,0,none⟩) 1 1 _ [s] _ ?_ HRE.out rfl HLE.out (HN0.out _) H8.out H9.out wr wr.heap.size HB2.out (Nat.le_refl _) HS2.out ?_; rfl; rfl; rfl; rfl; intro A2 cp2 w3 hC3 hB3 hS3 hG3; have HR3:=η (HRD1.out.below strK_good hB3); have HG3:=η (fun c hc=>own_block_ge hC3.own (HF2.out c hc)); have HC3:=η hC3; have HB3:=η hB3; have HS3:=η hS3; clear hC3 hB3 hS3 hG3)
       | (refine step_coll ?_ (.tmp 37) (.tmp 39) _ ?_ wr.heap.size 9 i0 (.string ⟨#[]⟩) 1 16 Tryz.underlying139 hi hz0 hz1 hz2 rfl (Nat.zero_lt_succ 0) strK_good (.slice A1 k cp1) k _ _ _ ?_ HC2.out HN1.out (some ⟨wr.heap.size,0,none⟩) 1 1 _ [s] _ ?_ HRE.out rfl HLE.out (HN0.out _) H8.out H9.out wr wr.heap.size HB2.out (Nat.le_refl _) HS2.out ?_; rfl; rfl; rfl; rfl; intro A2 cp2 w3 hC3 hB3 hS3 hG3; have HR3:=η (HRD1.out.below strK_good hB3); have HG3:=η (fun c hc=>own_block_ge hC3.own (HF2.out c hc)); have HC3:=η hC3; have HB3:=η hB3; have HS3:=η hS3; clear hC3 hB3 hS3 hG3)
       | (refine step_coll ?_ (.tmp 37) (.tmp 39) _ ?_ wr.heap.size 9 i0 (.string ⟨#[]⟩) 1 16 Tryz.underlying139 hi hz0 hz1 hz2 rfl (Nat.zero_lt_succ 0) strK_good (.slice A1 k cp1) k _ _ _ ?_ HC2'.out HN1.out (some ⟨w2.heap.size,0,none⟩) 1 1 _ [s] _ ?_ HRE.out rfl HLE.out (HN0.out _) H8.out H9.out wr wr.heap.size HB2'.out (Nat.le_refl _) HS2'.out ?_; rfl; rfl; rfl; rfl; intro A2 cp2 w3 hC3 hB3 hS3 hG3; have HR3:=η (HRD1.out.below strK_good hB3); have HG3:=η (fun c hc=>own_block_ge hC3.own (HF2.out c hc)); have HC3:=η hC3; have HB3:=η hB3; have HS3:=η hS3; clear hC3 hB3 hS3 hG3)
       | (refine step_coll ?_ (.tmp 40) (.tmp 43) _ ?_ wr.heap.size 9 i0 (.string ⟨#[]⟩) 1 16 Tryz.underlying139 hi hz0 hz1 hz2 rfl (Nat.zero_lt_succ 0) strK_good (.slice A2 (k+1) cp2) (k+1) _ _ _ ?_ HC3.out HN3.out (some ⟨b,o,none⟩) (xs.length - k) (cap - k) (L.drop (k * 1)) _ _ ?_ HR3.out HN2.out (HLN.out _ _) HG3.out H10.out H11.out wr wr.heap.size HB3.out (Nat.le_refl _) HS3.out ?_; rfl; rfl; rfl; rfl; intro A3 cp3 w4 hC4 hB4 hS4 _; have HC4:=η hC4; have HB4:=η hB4; clear hC4 hB4 hS4)))
      all_goals
       obtain ⟨b4,hs4,hf4⟩:=HC4.out.slice
       have HS:=η hs4
       have HF4:=η hf4
       clear hs4 hf4
       go_wp2
       go_ret
       exact ⟨HBK.out _ HB4.out,_,b4,rfl,by rw [HX.out]; exact HS.out,fun c hc=>(HF4.out c hc).imp (Nat.le_trans B1.size) (fun h9=>HFB.out c (by simpa using h9))⟩
     ·go_wp2
      go_region_held3 (fun _=>True) (trivial) ((first
       | (refine step_coll ?_ (.tmp 33) (.tmp 36) _ ?_ wr.heap.size 9 i0 (.string ⟨#[]⟩) 1 16 Tryz.underlying139 hi hz0 hz1 hz2 rfl (Nat.zero_lt_succ 0) strK_good (.slice (some ⟨wr.heap.size,0,none⟩) 0 0) 0 [] [] [] ?_ HCa.out rfl (some ⟨b,o,none⟩) k cap (L.take (k * 1)) _ _ ?_ HRa.out HN1.out HLa.out HFa.out H5.out H6.out wr wr.heap.size HBa.out (Nat.le_refl _) HBa.out.size ?_; rfl; rfl; rfl; rfl; intro A1 cp1 w2 hC2 hB2 hS2 hG2; simp only [Nat.zero_add,List.nil_append] at hC2 ⊢; have HE2:Hid (w2.heap[wr.heap.size+1]? = some (.cells #[.string s] 9 (0,0))):=η ((hG2.block _ Sza.out N1a.out).trans HEa.out); clear hG2; have HLE:=η (lies_block HE2.out); have HRE:=η (Rowed.one_el (n:=1) (R:=strK) strK_ones (strK_good.below HA1.out hB2)); have HC2:=η hC2; have HB2:=η hB2; have HS2:=η hS2; clear hC2 hB2 hS2)
       | (refine step_coll ?_ (.tmp 33) (.tmp 36) _ ?_ wr.heap.size 9 i0 (.string ⟨#[]⟩) 1 16 Tryz.underlying139 hi hz0 hz1 hz2 rfl (Nat.zero_lt_succ 0) strK_good (.slice (some ⟨wr.heap.size+1,0,none⟩) 0 0) 0 [] [] [] ?_ HCb.out rfl (some ⟨b,o,none⟩) k cap (L.take (k * 1)) _ _ ?_ HRb.out HN1.out HLb.out HFb.out H5.out H6.out wr wr.heap.size HBb.out (Nat.le_refl _) HBb.out.size ?_; rfl; rfl; rfl; rfl; intro A1 cp1 w2 hC2 hB2 hS2 hG2; simp only [Nat.zero_add,List.nil_append] at hC2 ⊢; have HE2:Hid (w2.heap[wr.heap.size]? = some (.cells #[.string s] 9 (0,0))):=η ((hG2.block _ Szb.out N1b.out).trans HEb.out); clear hG2; have HLE:=η (lies_block HE2.out); have HRE:=η (Rowed.one_el (n:=1) (R:=strK) strK_ones (strK_good.below HA1.out hB2)); have HC2:=η hC2; have HB2:=η hB2; have HS2:=η hS2; clear hC2 hB2 hS2)
       | (refine step_coll ?_ (.tmp 33) (.tmp 36) _ ?_ wr.heap.size 9 i0 (.string ⟨#[]⟩) 1 16 Tryz.underlying139 hi hz0 hz1 hz2 rfl (Nat.zero_lt_succ 0) strK_good (.slice (some ⟨wr.heap.size,0,none⟩) 0 0) 0 [] [] [] ?_ HCc.out rfl (some ⟨b,o,none⟩) k cap (L.take (k * 1)) _ _ ?_ HRc.out HN1.out HLc.out HFc.out H5.out H6.out wr wr.heap.size HBc.out (Nat.le_refl _) HBc.out.size ?_; rfl; rfl; rfl; rfl; intro A1 cp1 w2 hC2 hB2 hS2 hG2; simp only [Nat.zero_add,List.nil_append] at hC2 ⊢; skip; clear hG2; have hB2':Below wr.heap.size wr (w2.alloc (.cells #[.string s] 9)):=hB2.alloc hB2.size _; have HB2':=η hB2'; have HC2':=η (hC2.below strK_good ((Below.refl w2.heap.size w2).alloc (Nat.le_refl _) (.cells #[.string s] 9))); have HS2':=η hB2'.size; have HLE:=η (lies_block (heap_alloc_new w2 (.cells #[.string s] 9))); have HRE:=η (Rowed.one_el (n:=1) (R:=strK) strK_ones (strK_good.below HA1.out hB2')); clear hB2'; have HC2:=η hC2; have HB2:=η hB2; have HS2:=η hS2; clear hC2 hB2 hS2)
       | (refine step_coll ?_ (.tmp 37) (.tmp 39) _ ?_ wr.heap.size 9 i0 (.string ⟨#[]⟩) 1 16 Tryz.underlying139 hi hz0 hz1 hz2 rfl (Nat.zero_lt_succ 0) strK_good (.slice A1 k cp1) k _ _ _ ?_ HC2.out HN1.out (some ⟨wr.heap.size+1,0,none⟩) 1 1 _ [s] _ ?_ HRE.out rfl HLE.out (HN0.out _) H8.out H9.out wr wr.heap.size HB2.out (Nat.le_refl _) HS2.out ?_; rfl; rfl; rfl; rfl; intro A2 cp2 w3 hC3 hB3 hS3 hG3; have HR3:=η (HRD1.out.below strK_good hB3); have HG3:=η (fun c hc=>own_block_ge hC3.own (HF2.out c hc)); have HC3:=η hC3; have HB3:=η hB3; have HS3:=η hS3; clear hC3 hB3 hS3 hG3)
       | (refine step_coll ?_ (.tmp 37) (.tmp 39) _ ?_ wr.heap.size 9 i0 (.string ⟨#[]⟩) 1 16 Tryz.underlying139 hi hz0 hz1 hz2 rfl (Nat.zero_lt_succ 0) strK_good (.slice A1 k cp1) k _ _ _ ?_ HC2.out HN1.out (some ⟨wr.heap.size,0,none⟩) 1 1 _ [s] _ ?_ HRE.out rfl HLE.out (HN0.out _) H8.out H9.out wr wr.heap.size HB2.out (Nat.le_refl _) HS2.out ?_; rfl; rfl; rfl; rfl; intro A2 cp2 w3 hC3 hB3 hS3 hG3; have HR3:=η (HRD1.out.below strK_good hB3); have HG3:=η (fun c hc=>own_block_ge hC3.own (HF2.out c hc)); have HC3:=η hC3; have HB3:=η hB3; have HS3:=η hS3; clear hC3 hB3 hS3 hG3)
       | (refine step_coll ?_ (.tmp 37) (.tmp 39) _ ?_ wr.heap.size 9 i0 (.string ⟨#[]⟩) 1 16 Tryz.underlying139 hi hz0 hz1 hz2 rfl (Nat.zero_lt_succ 0) strK_good (.slice A1 k cp1) k _ _ _ ?_ HC2'.out HN1.out (some ⟨w2.heap.size,0,none⟩) 1 1 _ [s] _ ?_ HRE.out rfl HLE.out (HN0.out _) H8.out H9.out wr wr.heap.size HB2'.out (Nat.le_refl _) HS2'.out ?_; rfl; rfl; rfl; rfl; intro A2 cp2 w3 hC3 hB3 hS3 hG3; have HR3:=η (HRD1.out.below strK_good hB3); have HG3:=η (fun c hc=>own_block_ge hC3.own (HF2.out c hc)); have HC3:=η hC3; have HB3:=η hB3; have HS3:=η hS3; clear hC3 hB3 hS3 hG3)
       | (refine step_coll ?_ (.tmp 40) (.tmp 43) _ ?_ wr.heap.size 9 i0 (.string ⟨#[]⟩) 1 16 Tryz.underlying139 hi hz0 hz1 hz2 rfl (Nat.zero_lt_succ 0) strK_good (.slice A2 (k+1) cp2) (k+1) _ _ _ ?_ HC3.out HN3.out (some ⟨b,o+k,none⟩) (xs.length - k) (cap - k) (L.drop (k * 1)) _ _ ?_ HR3.out HN2.out (HL2.out _ (HBK.out _ HB3.out)) HG3.out H10.out H11.out wr wr.heap.size HB3.out (Nat.le_refl _) HS3.out ?_; rfl; rfl; rfl; rfl; intro A3 cp3 w4 hC4 hB4 hS4 _; have HC4:=η hC4; have HB4:=η hB4; clear hC4 hB4 hS4)))
      all_goals
       obtain ⟨b4,hs4,hf4⟩:=HC4.out.slice
       have HS:=η hs4
       have HF4:=η hf4
       clear hs4 hf4
       go_wp2
       go_ret
       exact ⟨HBK.out _ HB4.out,_,b4,rfl,by rw [HX.out]; exact HS.out,fun c hc=>(HF4.out c hc).imp (Nat.le_trans B1.size) (fun h9=>HFB.out c (by simpa using h9))⟩
end Go.Proofs.YtiidmgchadagbaaGreatDoor
