/- Of the proof of FnExactRounds: L3N, HeadsI, ArgsS. -/
import Derived.Test.YtiidmgchadagbaaGreatDoorM13
import Derived.Test.YtiidmgchadagbaaGreatDoorM14
set_option linter.unusedVariables false
set_option maxHeartbeats 2000000
set_option maxRecDepth 100000
namespace Go.Proofs.YtiidmgchadagbaaGreatDoor
open Go.RowKit D
attribute [local go_sem ↓] Go.wp_at_zero Go.wp_at_succ
def D.ReadsO (bb:List Nat) (xs xs':List A) (v:Value) (B:Nat) (w:World) (e:Ending) (w':World):Prop:=
 Below B w w'∧∃ v' bs,e=.returned v'∧atomsK w' [v'] xs' bs∧((v'=v∧xs'=xs)∨∃ L b9,Coll 2 atomK B 68 w' v' L xs' b9∧∀ c ∈ b9,c ∈ bb)
theorem D.Coll.monoB {α:Type} {n:Nat} {R:Rel α} {base base' e:Nat} {w:World} {v:Value} {L:List Value} {xs:List α} {bs:List Nat} (h:Coll n R base e w v L xs bs) (hb:base'≤base):Coll n R base' e w v L xs bs:=
 ⟨⟨h.own.1,h.own.2.imp id fun ⟨g,cap,cur,e,hg,r⟩=>⟨g,cap,cur,e,Nat.le_trans hb hg,r⟩⟩,h.row,h.far⟩
theorem l3Put_nil (a:A) (v d0 d1:Value) (bs b2:List Nat) (w:World) (h:atomsK w [v] [] bs) (h2:atomK w [d0,d1] a b2) (hs:asc []=true):
  Calls Tryz.prog 79 #[v,.agg #[d0,d1]] w (ReadsO (bs ++ b2) [] (insA [] a) v w.heap.size w):=by
 obtain ⟨Ad,cap,rfl,hl,hm⟩:=sliceK_form h
 obtain ⟨Aa,ca,rfl,rfl⟩:=atom_cells2 h2
 obtain ⟨i0,hi,hz0,hz1,hz2⟩:=info_parts infoAtom3
 have hlm:=nat_ge_max hm
 have hA:Below w.heap.size w (w.alloc (.cells #[.string a.name,.slice Aa a.args.length ca] 68)):=(Below.refl _ _).alloc (Nat.le_refl _) _
 have hk:=l3At_any [] a _ _ _ bs b2 _ (atomsK_good.below h hA) (atomK_good.below h2 hA) hs
 have HX:Hid (insA [] a = [] ++ [a] ++ []):=η rfl
 have e1:pl [] a=0:=rfl
 have e2:hasB [] a=false:=rfl
 rw [e1,e2] at hk
 simp only [List.length_nil] at hk hl ⊢
 have h2lt:=atomK_good.lt h2
 clear e1 e2
 go_enter Tryz.func79,Tryz.ntmps79
 go_wp2_with fail
 refine hk.mono ?_
 rintro e w1 ⟨rfl,hb1⟩
 have B1:=hA.trans (hb1.mono hA.size)
 have x0:w1.cell? ⟨w.heap.size,0,none⟩=some (.string a.name):=cell_later hb1 (by go_simp)
 have x1:w1.cell? ⟨w.heap.size,1,none⟩=some (.slice Aa a.args.length ca):=cell_later hb1 (by go_simp)
 clear hk
 have H5:Hid (0+0≤maxLen):=η (by unfold maxLen; omega)
 have H6:Hid ((0+0) * 40≤140737488355328):=η (by omega)
 have H8:Hid (0+1≤maxLen):=η (by unfold maxLen; omega)
 have H9:Hid ((0+1) * 40≤140737488355328):=η (by omega)
 have H10:Hid (1+0≤maxLen):=η (by unfold maxLen; omega)
 have H11:Hid ((1+0) * 40≤140737488355328):=η (by omega)
 have hcc:(0:Int)≤(cap:Int):=by omega
 have HN0:Hid (∀ (v:Value),∀ c ∈ ([]:List Nat),v.ownBlock ≠ some c):=η (fun v c hc=>by simp at hc)
 have HRN:Hid (∀ w',Rowed 2 atomK w' [] [] []):=η (fun w'=>Rowed.nil)
 have HLN:Hid (∀ w' Ad,Lies w' Ad []):=η (fun w' Ad=>Lies.nil w' Ad)
 have HEa:Hid (((w1.alloc (.cells #[] 68)).alloc (.cells #[.string a.name,.slice Aa a.args.length ca] 68)).heap[w1.heap.size+1]? = some (.cells #[.string a.name,.slice Aa a.args.length ca] 68 (0,0))):=η (by have:=heap_alloc_new (w1.alloc (.cells #[] 68)) (.cells #[.string a.name,.slice Aa a.args.length ca] 68); rw [World.size_alloc] at this; exact this)
 have HEb:Hid (((w1.alloc (.cells #[.string a.name,.slice Aa a.args.length ca] 68)).alloc (.cells #[] 68)).heap[w1.heap.size]? = some (.cells #[.string a.name,.slice Aa a.args.length ca] 68 (0,0))):=η (by rw [Below.heap_alloc _ _ _ (by simp)]; exact heap_alloc_new _ _)
 have ha1:=atomK_good.below h2 B1
 have hBa:Below w1.heap.size w1 ((w1.alloc (.cells #[] 68)).alloc (.cells #[.string a.name,.slice Aa a.args.length ca] 68)).drew:=(((Below.refl _ _).alloc (Nat.le_refl _) _).alloc (by simp) _).drew
 have hCa:=Coll.empty (n:=2) (R:=atomK) (e:=68) (w:=((w1.alloc (.cells #[] 68)).alloc (.cells #[.string a.name,.slice Aa a.args.length ca] 68)).drew) (g:=w1.heap.size) (base:=w1.heap.size) (show ((w1.alloc (.cells #[] 68)).alloc (.cells #[.string a.name,.slice Aa a.args.length ca] 68)).heap[w1.heap.size]? = _ by rw [Below.heap_alloc _ _ _ (by simp)]; exact heap_alloc_new _ _) (by omega)
 have HBa:=η hBa
 have HCa:=η hCa
 clear hBa hCa
 have hBb:Below w1.heap.size w1 ((w1.alloc (.cells #[.string a.name,.slice Aa a.args.length ca] 68)).alloc (.cells #[] 68)).drew:=(((Below.refl _ _).alloc (Nat.le_refl _) _).alloc (by simp) _).drew
 have hCb:=Coll.empty (n:=2) (R:=atomK) (e:=68) (w:=((w1.alloc (.cells #[.string a.name,.slice Aa a.args.length ca] 68)).alloc (.cells #[] 68)).drew) (g:=w1.heap.size+1) (base:=w1.heap.size) (show ((w1.alloc (.cells #[.string a.name,.slice Aa a.args.length ca] 68)).alloc (.cells #[] 68)).heap[w1.heap.size+1]? = _ by have:=heap_alloc_new (w1.alloc (.cells #[.string a.name,.slice Aa a.args.length ca] 68)) (.cells #[] 68); rw [World.size_alloc] at this; exact this) (by omega)
 have HBb:=η hBb
 have HCb:=η hCb
 clear hBb hCb
 have hBc:Below w1.heap.size w1 (w1.alloc (.cells #[] 68)).drew:=((Below.refl _ _).alloc (Nat.le_refl _) _).drew
 have hCc:=Coll.empty (n:=2) (R:=atomK) (e:=68) (w:=(w1.alloc (.cells #[] 68)).drew) (g:=w1.heap.size) (base:=w1.heap.size) (show (w1.alloc (.cells #[] 68)).heap[w1.heap.size]? = _ from heap_alloc_new _ _) (by omega)
 have HBc:=η hBc
 have HCc:=η hCc
 clear hBc hCc
 have HBK:Hid (∀ w',Below w1.heap.size w1 w'→Below w.heap.size w w'):=η fun w' hb'=>B1.trans (hb'.mono B1.size)
 have HA1:=η ha1
 clear ha1
 have hxx:w.heap.size < w1.heap.size:=lt_of_cell x0
 have N1a:=η (own_ne (a:=w1.heap.size+1) (b:=w1.heap.size) (n:=0) (c:=0) (o:=0) (by omega))
 have N1b:=η (own_ne (a:=w1.heap.size) (b:=w1.heap.size+1) (n:=0) (c:=0) (o:=0) (by omega))
 have Sza:Hid (w1.heap.size+1 < ((w1.alloc (.cells #[] 68)).alloc (.cells #[.string a.name,.slice Aa a.args.length ca] 68)).drew.heap.size):=η (by simp)
 have Szb:Hid (w1.heap.size < ((w1.alloc (.cells #[.string a.name,.slice Aa a.args.length ca] 68)).alloc (.cells #[] 68)).drew.heap.size):=η (by simp <;> omega)
 have H2:=η h2
 have H2L:Hid (∀ c ∈ b2,c < w1.heap.size):=η fun c hc=>Nat.lt_of_lt_of_le (h2lt c hc) B1.size
 clear h h2 h2lt
 by_cases hce:cap=0
 ·have hct:(cap=0)=True:=eq_true hce
  have HCP:=η hce
  clear hce
  go_wp2
  go_region_held3? (fun w'=>w'.cell? ⟨w.heap.size,0,none⟩=some (.string a.name)∧w'.cell? ⟨w.heap.size,1,none⟩=some (.slice Aa a.args.length ca)) (first | go_keep | exact ⟨q0,q1⟩ | exact ⟨r0,r1⟩ | exact ⟨s0,s1⟩) ((first
   | (refine step_coll ?_ (.tmp 15) (.tmp 18) _ ?_ w1.heap.size 68 i0 (.agg #[.string ⟨#[]⟩,.slice none 0 0]) 2 40 Tryz.underlying26 hi hz0 hz1 hz2 rfl (Nat.zero_lt_succ 1) atomK_good (.slice (some ⟨w1.heap.size,0,none⟩) 0 0) 0 [] [] [] ?_ HCa.out rfl ?_ 0 ?_ [] [] [] ?_ (HRN.out _) rfl (HLN.out _ _) (HN0.out _) H5.out H6.out w1 w1.heap.size HBa.out (Nat.le_refl _) HBa.out.size ?_; rfl; rfl; rfl; rotate_left 2; rfl; rotate_left; intro A1 cp1 w2 hC2 hB2 hS2 hG2; have q0:=cell_later hB2 x0; have q1:=cell_later hB2 x1; have HE2:Hid (w2.heap[w1.heap.size+1]? = some (.cells #[.string a.name,.slice Aa a.args.length ca] 68 (0,0))):=η ((hG2.block _ Sza.out N1a.out).trans HEa.out); clear hG2; have HLE:=η (lies_block HE2.out); have HRE:=η (Rowed.one_el (n:=2) (R:=atomK) atomK_ones (atomK_good.below HA1.out hB2)); have HFE:=η (fun c hc=>own_block_ge hC2.own (H2L.out c hc)); have HC2:=η hC2; have HB2:=η hB2; have HS2:=η hS2; clear hC2 hB2 hS2)
   | (refine step_coll ?_ (.tmp 15) (.tmp 18) _ ?_ w1.heap.size 68 i0 (.agg #[.string ⟨#[]⟩,.slice none 0 0]) 2 40 Tryz.underlying26 hi hz0 hz1 hz2 rfl (Nat.zero_lt_succ 1) atomK_good (.slice (some ⟨w1.heap.size+1,0,none⟩) 0 0) 0 [] [] [] ?_ HCb.out rfl ?_ 0 ?_ [] [] [] ?_ (HRN.out _) rfl (HLN.out _ _) (HN0.out _) H5.out H6.out w1 w1.heap.size HBb.out (Nat.le_refl _) HBb.out.size ?_; rfl; rfl; rfl; rotate_left 2; rfl; rotate_left; intro A1 cp1 w2 hC2 hB2 hS2 hG2; have q0:=cell_later hB2 x0; have q1:=cell_later hB2 x1; have HE2:Hid (w2.heap[w1.heap.size]? = some (.cells #[.string a.name,.slice Aa a.args.length ca] 68 (0,0))):=η ((hG2.block _ Szb.out N1b.out).trans HEb.out); clear hG2; have HLE:=η (lies_block HE2.out); have HRE:=η (Rowed.one_el (n:=2) (R:=atomK) atomK_ones (atomK_good.below HA1.out hB2)); have HFE:=η (fun c hc=>own_block_ge hC2.own (H2L.out c hc)); have HC2:=η hC2; have HB2:=η hB2; have HS2:=η hS2; clear hC2 hB2 hS2)
   | (refine step_coll ?_ (.tmp 15) (.tmp 18) _ ?_ w1.heap.size 68 i0 (.agg #[.string ⟨#[]⟩,.slice none 0 0]) 2 40 Tryz.underlying26 hi hz0 hz1 hz2 rfl (Nat.zero_lt_succ 1) atomK_good (.slice (some ⟨w1.heap.size,0,none⟩) 0 0) 0 [] [] [] ?_ HCc.out rfl ?_ 0 ?_ [] [] [] ?_ (HRN.out _) rfl (HLN.out _ _) (HN0.out _) H5.out H6.out w1 w1.heap.size HBc.out (Nat.le_refl _) HBc.out.size ?_; rfl; rfl; rfl; rotate_left 2; rfl; rotate_left; intro A1 cp1 w2 hC2 hB2 hS2 hG2; have q0:=cell_later hB2 x0; have q1:=cell_later hB2 x1; skip; clear hG2; have hB2':Below w1.heap.size w1 (w2.alloc (.cells #[.string a.name,.slice Aa a.args.length ca] 68)):=hB2.alloc hB2.size _; have HB2':=η hB2'; have HC2':=η (hC2.below atomK_good ((Below.refl w2.heap.size w2).alloc (Nat.le_refl _) (.cells #[.string a.name,.slice Aa a.args.length ca] 68))); have HS2':=η hB2'.size; have HLE:=η (lies_block (heap_alloc_new w2 (.cells #[.string a.name,.slice Aa a.args.length ca] 68))); have HRE:=η (Rowed.one_el (n:=2) (R:=atomK) atomK_ones (atomK_good.below HA1.out hB2')); have HFE:=η (fun c hc=>own_block_ge hC2.own (H2L.out c hc)); clear hB2'; have HC2:=η hC2; have HB2:=η hB2; have HS2:=η hS2; clear hC2 hB2 hS2)
   | (refine step_coll ?_ (.tmp 19) (.tmp 21) _ ?_ w1.heap.size 68 i0 (.agg #[.string ⟨#[]⟩,.slice none 0 0]) 2 40 Tryz.underlying26 hi hz0 hz1 hz2 rfl (Nat.zero_lt_succ 1) atomK_good (.slice A1 (0+0) cp1) (0+0) _ _ _ ?_ HC2.out rfl (some ⟨w1.heap.size+1,0,none⟩) 1 1 _ [a] _ ?_ HRE.out rfl HLE.out HFE.out H8.out H9.out w1 w1.heap.size HB2.out (Nat.le_refl _) HS2.out ?_; rfl; rfl; rfl; rfl; intro A2 cp2 w3 hC3 hB3 hS3 hG3; have r0:=cell_later hB3 x0; have r1:=cell_later hB3 x1; have HC3:=η hC3; have HB3:=η hB3; have HS3:=η hS3; clear hC3 hB3 hS3 hG3)
   | (refine step_coll ?_ (.tmp 19) (.tmp 21) _ ?_ w1.heap.size 68 i0 (.agg #[.string ⟨#[]⟩,.slice none 0 0]) 2 40 Tryz.underlying26 hi hz0 hz1 hz2 rfl (Nat.zero_lt_succ 1) atomK_good (.slice A1 (0+0) cp1) (0+0) _ _ _ ?_ HC2.out rfl (some ⟨w1.heap.size,0,none⟩) 1 1 _ [a] _ ?_ HRE.out rfl HLE.out HFE.out H8.out H9.out w1 w1.heap.size HB2.out (Nat.le_refl _) HS2.out ?_; rfl; rfl; rfl; rfl; intro A2 cp2 w3 hC3 hB3 hS3 hG3; have r0:=cell_later hB3 x0; have r1:=cell_later hB3 x1; have HC3:=η hC3; have HB3:=η hB3; have HS3:=η hS3; clear hC3 hB3 hS3 hG3)
   | (refine step_coll ?_ (.tmp 19) (.tmp 21) _ ?_ w1.heap.size 68 i0 (.agg #[.string ⟨#[]⟩,.slice none 0 0]) 2 40 Tryz.underlying26 hi hz0 hz1 hz2 rfl (Nat.zero_lt_succ 1) atomK_good (.slice A1 (0+0) cp1) (0+0) _ _ _ ?_ HC2'.out rfl (some ⟨w2.heap.size,0,none⟩) 1 1 _ [a] _ ?_ HRE.out rfl HLE.out HFE.out H8.out H9.out w1 w1.heap.size HB2'.out (Nat.le_refl _) HS2'.out ?_; rfl; rfl; rfl; rfl; intro A2 cp2 w3 hC3 hB3 hS3 hG3; have r0:=cell_later hB3 x0; have r1:=cell_later hB3 x1; have HC3:=η hC3; have HB3:=η hB3; have HS3:=η hS3; clear hC3 hB3 hS3 hG3)
   | (refine step_coll ?_ (.tmp 22) (.tmp 25) _ ?_ w1.heap.size 68 i0 (.agg #[.string ⟨#[]⟩,.slice none 0 0]) 2 40 Tryz.underlying26 hi hz0 hz1 hz2 rfl (Nat.zero_lt_succ 1) atomK_good (.slice A2 (0+0+1) cp2) (0+0+1) _ _ _ ?_ HC3.out rfl ?_ 0 ?_ [] [] [] ?_ (HRN.out _) rfl (HLN.out _ _) (HN0.out _) H10.out H11.out w1 w1.heap.size HB3.out (Nat.le_refl _) HS3.out ?_; rfl; rfl; rfl; rotate_left 2; rfl; rotate_left; intro A3 cp3 w4 hC4 hB4 hS4 _; have s0:=cell_later hB4 x0; have s1:=cell_later hB4 x1; have HC4:=η hC4; have HB4:=η hB4; clear hC4 hB4 hS4)))
  all_goals
   obtain ⟨b4,hs4,_⟩:=HC4.out.slice
   have HS:=η hs4
   clear hs4
   go_wp2
   go_ret
   exact ⟨HBK.out _ HB4.out,_,b4,rfl,by rw [HX.out]; exact HS.out,.inr ⟨_,_,by rw [HX.out]; exact HC4.out.monoB B1.size,fun c hc=>List.mem_append.2 (.inr (by simpa using hc))⟩⟩
 ·have hct:(cap=0)=False:=eq_false hce
  have HCP:=η hce
  clear hce
  go_wp2
  go_region_held3? (fun w'=>w'.cell? ⟨w.heap.size,0,none⟩=some (.string a.name)∧w'.cell? ⟨w.heap.size,1,none⟩=some (.slice Aa a.args.length ca)) (first | go_keep | exact ⟨q0,q1⟩ | exact ⟨r0,r1⟩ | exact ⟨s0,s1⟩) ((first
   | (refine step_coll ?_ (.tmp 15) (.tmp 18) _ ?_ w1.heap.size 68 i0 (.agg #[.string ⟨#[]⟩,.slice none 0 0]) 2 40 Tryz.underlying26 hi hz0 hz1 hz2 rfl (Nat.zero_lt_succ 1) atomK_good (.slice (some ⟨w1.heap.size,0,none⟩) 0 0) 0 [] [] [] ?_ HCa.out rfl ?_ 0 ?_ [] [] [] ?_ (HRN.out _) rfl (HLN.out _ _) (HN0.out _) H5.out H6.out w1 w1.heap.size HBa.out (Nat.le_refl _) HBa.out.size ?_; rfl; rfl; rfl; rotate_left 2; rfl; rotate_left; intro A1 cp1 w2 hC2 hB2 hS2 hG2; have q0:=cell_later hB2 x0; have q1:=cell_later hB2 x1; have HE2:Hid (w2.heap[w1.heap.size+1]? = some (.cells #[.string a.name,.slice Aa a.args.length ca] 68 (0,0))):=η ((hG2.block _ Sza.out N1a.out).trans HEa.out); clear hG2; have HLE:=η (lies_block HE2.out); have HRE:=η (Rowed.one_el (n:=2) (R:=atomK) atomK_ones (atomK_good.below HA1.out hB2)); have HFE:=η (fun c hc=>own_block_ge hC2.own (H2L.out c hc)); have HC2:=η hC2; have HB2:=η hB2; have HS2:=η hS2; clear hC2 hB2 hS2)
   | (refine step_coll ?_ (.tmp 15) (.tmp 18) _ ?_ w1.heap.size 68 i0 (.agg #[.string ⟨#[]⟩,.slice none 0 0]) 2 40 Tryz.underlying26 hi hz0 hz1 hz2 rfl (Nat.zero_lt_succ 1) atomK_good (.slice (some ⟨w1.heap.size+1,0,none⟩) 0 0) 0 [] [] [] ?_ HCb.out rfl ?_ 0 ?_ [] [] [] ?_ (HRN.out _) rfl (HLN.out _ _) (HN0.out _) H5.out H6.out w1 w1.heap.size HBb.out (Nat.le_refl _) HBb.out.size ?_; rfl; rfl; rfl; rotate_left 2; rfl; rotate_left; intro A1 cp1 w2 hC2 hB2 hS2 hG2; have q0:=cell_later hB2 x0; have q1:=cell_later hB2 x1; have HE2:Hid (w2.heap[w1.heap.size]? = some (.cells #[.string a.name,.slice Aa a.args.length ca] 68 (0,0))):=η ((hG2.block _ Szb.out N1b.out).trans HEb.out); clear hG2; have HLE:=η (lies_block HE2.out); have HRE:=η (Rowed.one_el (n:=2) (R:=atomK) atomK_ones (atomK_good.below HA1.out hB2)); have HFE:=η (fun c hc=>own_block_ge hC2.own (H2L.out c hc)); have HC2:=η hC2; have HB2:=η hB2; have HS2:=η hS2; clear hC2 hB2 hS2)
   | (refine step_coll ?_ (.tmp 15) (.tmp 18) _ ?_ w1.heap.size 68 i0 (.agg #[.string ⟨#[]⟩,.slice none 0 0]) 2 40 Tryz.underlying26 hi hz0 hz1 hz2 rfl (Nat.zero_lt_succ 1) atomK_good (.slice (some ⟨w1.heap.size,0,none⟩) 0 0) 0 [] [] [] ?_ HCc.out rfl ?_ 0 ?_ [] [] [] ?_ (HRN.out _) rfl (HLN.out _ _) (HN0.out _) H5.out H6.out w1 w1.heap.size HBc.out (Nat.le_refl _) HBc.out.size ?_; rfl; rfl; rfl; rotate_left 2; rfl; rotate_left; intro A1 cp1 w2 hC2 hB2 hS2 hG2; have q0:=cell_later hB2 x0; have q1:=cell_later hB2 x1; skip; clear hG2; have hB2':Below w1.heap.size w1 (w2.alloc (.cells #[.string a.name,.slice Aa a.args.length ca] 68)):=hB2.alloc hB2.size _; have HB2':=η hB2'; have HC2':=η (hC2.below atomK_good ((Below.refl w2.heap.size w2).alloc (Nat.le_refl _) (.cells #[.string a.name,.slice Aa a.args.length ca] 68))); have HS2':=η hB2'.size; have HLE:=η (lies_block (heap_alloc_new w2 (.cells #[.string a.name,.slice Aa a.args.length ca] 68))); have HRE:=η (Rowed.one_el (n:=2) (R:=atomK) atomK_ones (atomK_good.below HA1.out hB2')); have HFE:=η (fun c hc=>own_block_ge hC2.own (H2L.out c hc)); clear hB2'; have HC2:=η hC2; have HB2:=η hB2; have HS2:=η hS2; clear hC2 hB2 hS2)
   | (refine step_coll ?_ (.tmp 19) (.tmp 21) _ ?_ w1.heap.size 68 i0 (.agg #[.string ⟨#[]⟩,.slice none 0 0]) 2 40 Tryz.underlying26 hi hz0 hz1 hz2 rfl (Nat.zero_lt_succ 1) atomK_good (.slice A1 (0+0) cp1) (0+0) _ _ _ ?_ HC2.out rfl (some ⟨w1.heap.size+1,0,none⟩) 1 1 _ [a] _ ?_ HRE.out rfl HLE.out HFE.out H8.out H9.out w1 w1.heap.size HB2.out (Nat.le_refl _) HS2.out ?_; rfl; rfl; rfl; rfl; intro A2 cp2 w3 hC3 hB3 hS3 hG3; have r0:=cell_later hB3 x0; have r1:=cell_later hB3 x1; have HC3:=η hC3; have HB3:=η hB3; have HS3:=η hS3; clear hC3 hB3 hS3 hG3)
   | (refine step_coll ?_ (.tmp 19) (.tmp 21) _ ?_ w1.heap.size 68 i0 (.agg #[.string ⟨#[]⟩,.slice none 0 0]) 2 40 Tryz.underlying26 hi hz0 hz1 hz2 rfl (Nat.zero_lt_succ 1) atomK_good (.slice A1 (0+0) cp1) (0+0) _ _ _ ?_ HC2.out rfl (some ⟨w1.heap.size,0,none⟩) 1 1 _ [a] _ ?_ HRE.out rfl HLE.out HFE.out H8.out H9.out w1 w1.heap.size HB2.out (Nat.le_refl _) HS2.out ?_; rfl; rfl; rfl; rfl; intro A2 cp2 w3 hC3 hB3 hS3 hG3; have r0:=cell_later hB3 x0; have r1:=cell_later hB3 x1; have HC3:=η hC3; have HB3:=η hB3; have HS3:=η hS3; clear hC3 hB3 hS3 hG3)
   | (refine step_coll ?_ (.tmp 19) (.tmp 21) _ ?_ w1.heap.size 68 i0 (.agg #[.string ⟨#[]⟩,.slice none 0 0]) 2 40 Tryz.underlying26 hi hz0 hz1 hz2 rfl (Nat.zero_lt_succ 1) atomK_good (.slice A1 (0+0) cp1) (0+0) _ _ _ ?_ HC2'.out rfl (some ⟨w2.heap.size,0,none⟩) 1 1 _ [a] _ ?_ HRE.out rfl HLE.out HFE.out H8.out H9.out w1 w1.heap.size HB2'.out (Nat.le_refl _) HS2'.out ?_; rfl; rfl; rfl; rfl; intro A2 cp2 w3 hC3 hB3 hS3 hG3; have r0:=cell_later hB3 x0; have r1:=cell_later hB3 x1; have HC3:=η hC3; have HB3:=η hB3; have HS3:=η hS3; clear hC3 hB3 hS3 hG3)
   | (refine step_coll ?_ (.tmp 22) (.tmp 25) _ ?_ w1.heap.size 68 i0 (.agg #[.string ⟨#[]⟩,.slice none 0 0]) 2 40 Tryz.underlying26 hi hz0 hz1 hz2 rfl (Nat.zero_lt_succ 1) atomK_good (.slice A2 (0+0+1) cp2) (0+0+1) _ _ _ ?_ HC3.out rfl ?_ 0 ?_ [] [] [] ?_ (HRN.out _) rfl (HLN.out _ _) (HN0.out _) H10.out H11.out w1 w1.heap.size HB3.out (Nat.le_refl _) HS3.out ?_; rfl; rfl; rfl; rotate_left 2; rfl; rotate_left; intro A3 cp3 w4 hC4 hB4 hS4 _; have s0:=cell_later hB4 x0; have s1:=cell_later hB4 x1; have HC4:=η hC4; have HB4:=η hB4; clear hC4 hB4 hS4)))
  all_goals
   obtain ⟨b4,hs4,_⟩:=HC4.out.slice
   have HS:=η hs4
   clear hs4
   go_wp2
   go_ret
   exact ⟨HBK.out _ HB4.out,_,b4,rfl,by rw [HX.out]; exact HS.out,.inr ⟨_,_,by rw [HX.out]; exact HC4.out.monoB B1.size,fun c hc=>List.mem_append.2 (.inr (by simpa using hc))⟩⟩
def D.idxI (L:List ByteArray) (s:ByteArray):Int:=(L.idxOf s:Nat)
theorem D.places_snoc (rs:List Ru) (k:Nat) (h:k < rs.length):placesL (rs.take (k+1))=putNew (placesL (rs.take k)) rs[k].head.name:=by
 unfold placesL headNames
 rw [List.take_succ_eq_append_getElem h,List.map_append,List.foldl_append]
 rfl
theorem D.idx_put {L:List ByteArray} {s:ByteArray} (h:s ∉ L):∀ t ∈ putNew L s,(if t=s then (L.length:Int) else idxI L t)=idxI (putNew L s) t:=fun t ht=>by
 unfold idxI putNew at *
 rw [if_neg h] at *
 by_cases e:t=s
 ·subst e
  rw [if_pos rfl,List.idxOf_append,if_neg h]
  simp
 ·rw [if_neg e]
  have:t ∈ L:=by simpa [e] using ht
  rw [List.idxOf_append,if_pos this]
theorem headPlaces_any (rs:List Ru) (v:Value) (bs:List Nat) (w:World) (h:rulesK w [v] rs bs) (hf:rs.length≤1000000):
  Calls Tryz.prog 107 #[v] w fun e w'=>e=.returned (.map (some w.heap.size))∧(∃ n,MapF w.heap.size n (placesL rs) (idxI (placesL rs)) w')∧Below w.heap.size w w':=by
 obtain ⟨Ad,cap,rfl,hl,hm⟩:=sliceK_form h
 have hlm:=nat_ge_max (Nat.le_trans hl hm)
 have hmm:=@run_makeMap Tryz.prog
 have HM0:=η (MapF.made w (idxI []))
 have hA0:Below w.heap.size w (w.alloc (.map #[] 0)):=(Below.refl _ _).alloc (Nat.le_refl _) _
 have HB0:=η hA0
 clear hl hm hA0
 go_enter Tryz.func107,Tryz.ntmps107
 go_wp2
 generalize w.alloc (.map #[] 0)=w0 at *
 go_loopw [11] (fun i wr=>∃ k:Nat,k≤rs.length∧i=.int .i64 k∧MapF w.heap.size k (placesL (rs.take k)) (idxI (placesL (rs.take k))) wr∧Below w.heap.size w wr) (fun i _=>rs.length - (intOf i).toNat)
 case atStart=>exact ⟨0,Nat.zero_le _,rfl,HM0.out,HB0.out⟩
 case round=>
  obtain ⟨k,hk,rfl,hM,hB⟩:=hrel
  clear HM0 HB0 hmm
  by_cases hlt:k < rs.length
  ·obtain ⟨b,o,Ae,ce,Af,cf,bk,rfl,_,d0,d1,d2,hel,_⟩:=rules_el h hlt
   replace d0:=cell_later hB d0
   replace d1:=cell_later hB d1
   replace d2:=cell_later hB d2
   have hk0:(0:Int)≤(k:Int):=by omega
   have hk1:(k:Int) < (rs.length:Int):=by omega
   have hA:Below wr.heap.size wr (wr.alloc (.cells #[.string rs[k].head.name,.slice Ae rs[k].head.args.length ce,.slice Af rs[k].body.length cf] 71)):=(Below.refl _ _).alloc (Nat.le_refl _) _
   have HLT:=η hlt
   have HSN:=η (places_snoc rs k hlt)
   have HSZ:Hid (rs[k].head.name.size≤maxLen):=η (by obtain ⟨_,_,_,_,_,hs,_⟩:=hel; exact hs)
   have HM:=η (hM.below hA hM.lt)
   have HB:=η (hB.trans (hA.mono hB.size))
   have HLE:Hid ((placesL (rs.take k)).length≤1000000):=η (by have:=hM.len_le; omega)
   have hkn:k < maxLen:=by unfold maxLen; omega
   clear h hel hA hM hB
   generalize rs[k]=r at *
   generalize placesL (rs.take k)=L at *
   clear hlt
   obtain ⟨⟨nm,args⟩,body⟩:=r
   dsimp only at *
   by_cases hL:nm ∈ L
   ·have HD:Hid (decide (nm ∈ L)=true):=η (decide_eq_true hL)
    have HV:Hid ((if nm ∈ L then idxI L nm else 0)=idxI L nm):=η (if_pos hL)
    have HP:Hid (placesL (rs.take (k+1))=L):=η (by rw [HSN.out]; unfold putNew; rw [if_pos hL])
    clear hL HSN
    go_wp2_with (first | (at_lookup; refine wpList_mapf_ok _ rfl _ _ _ rfl Tryz.underlying85 _ _ L _ rfl HM.out nm rfl HSZ.out true HD.out _ HV.out ?_) | go_in)
    go_roundw
    case rel=>exact ⟨k+1,HLT.out,by go_num,by rw [HP.out]; exact HM.out.mono (Nat.le_succ k),HB.out⟩
    case measure=>have:=HLT.out; simp [intOf]; omega
   ·have HD:Hid (decide (nm ∈ L)=false):=η (decide_eq_false hL)
    have HV:Hid ((if nm ∈ L then idxI L nm else 0)=0):=η (if_neg hL)
    have HI:=η (idx_put hL)
    have hle:=HLE.out
    clear hL
    go_wp2_with (first | (at_lookup; refine wpList_mapf_ok _ rfl _ _ _ rfl Tryz.underlying85 _ _ L _ rfl HM.out nm rfl HSZ.out false HD.out _ HV.out ?_) | (at_len; refine wpList_mapf_len _ rfl _ _ rfl Tryz.underlying85 _ _ L _ rfl HM.out ?_) | (at_mapUpdate; refine wpList_mapf_put _ rfl _ _ _ _ rfl Tryz.underlying85 _ _ L _ rfl HM.out nm rfl HSZ.out _ rfl hkn (by omega) ?_; intro w1 hM1 hg1) | go_in)
    have HM1:=η (hM1.congr HI.out)
    have HB1:=η (HB.out.grown hg1 (by have:=HB.out.size; exact this) fun j hj=>by cases hj; exact Nat.le_refl _)
    clear hM1 hg1
    go_roundw
    case rel=>exact ⟨k+1,HLT.out,by go_num,by rw [HSN.out]; exact HM1.out,HB1.out⟩
    case measure=>have:=HLT.out; simp [intOf]; omega
  ·have he:k=rs.length:=by omega
   have hk1:¬ (k:Int) < (rs.length:Int):=by omega
   subst he
   rw [List.take_of_length_le (Nat.le_refl _)] at hM
   have HM:=η hM
   clear hM h
   go_wp2
   go_ret
   exact ⟨rfl,⟨_,HM.out⟩,hB⟩
theorem D.below_drewN {B:Nat} {a w:World} (h:Below B a w) (n:Nat):Below B a (w.drewN n):=⟨h.os,h.tape,h.output,h.size,h.block⟩
theorem D.name_eq (a b:ByteArray):(a.toList == b.toList)=decide (a=b):=by
 rw [ByteArray.toList_eq,ByteArray.toList_eq,Bool.eq_iff_iff]
 simp only [beq_iff_eq,decide_eq_true_eq]
 exact ⟨bytes_inj,fun h=>by rw [h]⟩
theorem l2Args_any (rs:List Ru) (v:Value) (bs:List Nat) (w:World) (h:rulesK w [v] rs bs) (hn:(allAtoms rs).length≤1000000):
  Calls Tryz.prog 88 #[v] w fun e w'=>e=.returned (.bool (alikeB (allAtoms rs)))∧Below w.heap.size w w':=by
 obtain ⟨Ad,cap,rfl,hl,hm⟩:=sliceK_form h
 have hlm:=nat_ge_max (Nat.le_trans hl hm)
 have c1:=l2Atoms_any rs _ bs w h hn
 generalize allAtoms rs=xs at *
 clear hl hm h
 go_enter Tryz.func88,Tryz.ntmps88
 go_wp2_with fail
 refine c1.mono ?_
 rintro e w1 ⟨hB,v1,b2,rfl,hx⟩
 obtain ⟨A1,cap1,rfl,hl1,hm1⟩:=sliceK_form hx
 have hlm1:=nat_ge_max (Nat.le_trans hl1 hm1)
 clear c1 hl1 hm1
 go_wp2
 go_loopw [4] (fun i wr=>∃ k:Nat,k≤xs.length∧i=.int .i64 k∧(∀ i,(hi:i < xs.length)→i < k→∀ j,(hj:j < i)→clash xs[i] (xs[j]'(by omega))=false)∧Below w1.heap.size w1 wr) (fun i _=>xs.length - (intOf i).toNat)
 case atStart=>exact ⟨0,Nat.zero_le _,rfl,fun i _ h=>by omega,Below.refl _ _⟩
 case round=>
  obtain ⟨k,hk,rfl,hall,hb⟩:=hrel
  have HA:=η hall
  have HB:=η hb
  clear hall hb
  by_cases hlt:k < xs.length
  ·have hk0:(0:Int)≤(k:Int):=by omega
   have hk1:(k:Int) < (xs.length:Int):=by omega
   go_wp2
   go_loopw [5] (fun i wr=>∃ j:Nat,j≤k∧i=.int .i64 j∧(∀ i,(hi:i < xs.length)→i < j→clash xs[k] xs[i]=false)∧Below w1.heap.size w1 wr) (fun i _=>k - (intOf i).toNat)
   case atStart=>exact ⟨0,Nat.zero_le _,rfl,fun i _ h=>by omega,HB.out⟩
   case round=>
    obtain ⟨j,hj,rfl,hin,hb⟩:=hrel
    have HI:=η hin
    have HB2:=η hb
    clear hin
    by_cases hjk:j < k
    ·have hj0:(0:Int)≤(j:Int):=by omega
     have hj1:(j:Int) < (k:Int):=by omega
     have hj2:(j:Int) < (xs.length:Int):=by omega
     have hjl:j < xs.length:=by omega
     obtain ⟨b,o,Ae,ce,_,rfl,_,d0,d1,_,_⟩:=atoms_el (atomsK_good.below hx hb) hlt
     obtain ⟨b',o',Af,cf,_,e9,_,f0,f1,_,_⟩:=atoms_el (atomsK_good.below hx hb) hjl
     obtain ⟨rfl,rfl⟩:b=b'∧o=o':=by simpa using e9
     have HBAD:=η (alike_no (xs:=xs) hlt hjl)
     have HOKJ:Hid (clash xs[k] xs[j]=false→∀ i,(hi:i < xs.length)→i < j+1→clash xs[k] xs[i]=false):=η fun h i h9 hi=>by
      by_cases e:i=j
      ·subst e; exact h
      ·exact HI.out i h9 (by omega)
     have HC:Hid (clash xs[k] xs[j]=(decide (xs[k].name=xs[j].name) && decide (xs[k].args.length ≠ xs[j].args.length))):=η rfl
     clear hx hb e9
     generalize xs[k]=x at *
     generalize xs[j]=y at *
     obtain ⟨xn,xa⟩:=x
     obtain ⟨yn,ya⟩:=y
     dsimp only at *
     cases hs:(xn.toList == yn.toList)
     ·have HZ:=η (HOKJ.out (by rw [HC.out,← name_eq,hs]; rfl))
      clear HOKJ HBAD HC HI HA HB
      go_wp2
      go_quiet (fail)
      go_wp2
      go_roundw
      case rel=>exact ⟨j+1,hjk,by go_num,HZ.out,below_drewN HB2.out _⟩
      case measure=>simp [intOf]; omega
     ·by_cases hle:xa.length=ya.length
      ·have HZ:=η (HOKJ.out (by rw [HC.out,hle]; simp))
       have hd:(xa.length:Int)=(ya.length:Int):=by omega
       clear HOKJ HBAD HC HI HA HB
       go_wp2
       go_quiet (fail)
       go_wp2
       go_roundw
       case rel=>exact ⟨j+1,hjk,by go_num,HZ.out,below_drewN HB2.out _⟩
       case measure=>simp [intOf]; omega
      ·have HZ:=η (HBAD.out (by rw [HC.out,← name_eq,hs]; simpa using hle))
       have hd:¬ (xa.length:Int)=(ya.length:Int):=by omega
       have HBW:=η hB
       clear HOKJ HBAD HC HI HA HB
       go_wp2
       go_quiet (fail)
       go_wp2
       go_ret
       exact ⟨ret_bool HZ.out.symm,HBW.out.trans ((below_drewN HB2.out _).mono HBW.out.size)⟩
    ·have he:j=k:=by omega
     have hj1:¬ (j:Int) < (k:Int):=by omega
     have HZ:Hid (∀ i,(hi:i < xs.length)→i < k+1→∀ j,(hj:j < i)→clash xs[i] (xs[j]'(by omega))=false):=η fun i hi h1 j2 h2=>by
      by_cases e:i=k
      ·subst e; exact HI.out j2 (by omega) (by omega)
      ·exact HA.out i hi (by omega) j2 h2
     clear HI HA HB he
     go_wp2
     go_roundw
     case rel=>exact ⟨k+1,hlt,by go_num,HZ.out,HB2.out⟩
     case measure=>simp [intOf]; omega
  ·have he:k=xs.length:=by omega
   have hk1:¬ (k:Int) < (xs.length:Int):=by omega
   have HZ:Hid (alikeB xs=true):=η (alike_yes fun i hi j hj=>HA.out i hi (by omega) j hj)
   clear HA hx
   go_wp2
   go_ret
   exact ⟨ret_bool HZ.out.symm,hB.trans (HB.out.mono hB.size)⟩
end Go.Proofs.YtiidmgchadagbaaGreatDoor
