/- Of the proof of FnExactRounds: L3A. -/
import Derived.Test.YtiidmgchadagbaaGreatDoorM03
set_option linter.unusedVariables false
set_option maxHeartbeats 1000000
set_option maxRecDepth 100000
namespace Go.Proofs.YtiidmgchadagbaaGreatDoor
open Go.RowKit D
attribute [local go_sem ↓] Go.wp_at_zero Go.wp_at_succ
theorem D.own_two {a k n c o:Nat} (e:(Value.slice (some ⟨a+1+1,o,none⟩) n c).ownBlock=some k):a≤k:=by
 have:a+1+1=k:=by simpa [Value.ownBlock] using e
 omega
theorem l3Atom_any (a:A) (c0 c1:Value) (bs:List Nat) (w:World) (h:atomK w [c0,c1] a bs) (hn:a.args.length≤16777216):
  Calls Tryz.prog 94 #[.agg #[c0,c1]] w (MakesA atomK a w.heap.size w):=by
 have ht:=atom_args h
 have hnm:a.name.size≤maxLen:=by obtain ⟨_,_,hn,_⟩:=h; exact hn
 obtain ⟨Ad,cap,rfl,rfl⟩:=atom_cells2 h
 obtain ⟨i0,hi,hz0,hz1,hz2⟩:=info_parts infoTerm3
 obtain ⟨L,b2,hrow,_,hsrc⟩:=sliceK_row termK_ones (by omega) ht
 have HL:=η (fun w' (hb:Below w.heap.size w w')=>row_lies hrow (by omega) hsrc (termsK_good.lt ht) hb)
 have HR:=η hrow
 clear h ht hrow hsrc
 have hA:=((Below.refl w.heap.size w).alloc (Nat.le_refl _) (.cells #[.string a.name,.slice Ad a.args.length cap] 68)).alloc (by simp) (.cells #[.string ⟨#[]⟩,.slice none 0 0] 68)
 have HE:Hid ((((w.alloc (.cells #[.string a.name,.slice Ad a.args.length cap] 68)).alloc (.cells #[.string ⟨#[]⟩,.slice none 0 0] 68)).alloc (.cells #[] 109)).heap[w.heap.size+1+1]? = some (.cells #[] 109 (0,0))):=η (by
  have:=heap_alloc_new ((w.alloc (.cells #[.string a.name,.slice Ad a.args.length cap] 68)).alloc (.cells #[.string ⟨#[]⟩,.slice none 0 0] 68)) (.cells #[] 109)
  simpa using this)
 have HO:Hid ((((w.alloc (.cells #[.string a.name,.slice Ad a.args.length cap] 68)).alloc (.cells #[.string ⟨#[]⟩,.slice none 0 0] 68)).alloc (.cells #[] 109)).ownsRow (w.heap.size+2) 109 2 (.slice (some ⟨w.heap.size+1+1,0,none⟩) 0 0) 0 []):=η (own_empty HE.out (by omega))
 have HI:Hid (Lies (((w.alloc (.cells #[.string a.name,.slice Ad a.args.length cap] 68)).alloc (.cells #[.string ⟨#[]⟩,.slice none 0 0] 68)).alloc (.cells #[] 109)) Ad L):=η (HL.out _ (hA.alloc (by simp <;> omega) _))
 have hlen:=HR.out.len
 have hone:=HR.out.one
 have h63:0+a.args.length≤maxLen:=by unfold maxLen; omega
 have hby:(0+a.args.length) * 24≤140737488355328:=by omega
 have hbs:w.heap.size+2≤(((w.alloc (.cells #[.string a.name,.slice Ad a.args.length cap] 68)).alloc (.cells #[.string ⟨#[]⟩,.slice none 0 0] 68)).alloc (.cells #[] 109)).heap.size:=by simp
 have H1:=η hlen
 have H2:=η hone
 have H3:=η h63
 have H4:=η hby
 have H5:=η hbs
 have X0:Hid ((((w.alloc (.cells #[.string a.name,.slice Ad a.args.length cap] 68)).alloc (.cells #[.string ⟨#[]⟩,.slice none 0 0] 68)).alloc (.cells #[] 109)).cell? ⟨w.heap.size,0,none⟩=some (.string a.name)):=η (by go_simp)
 have X1:Hid ((((w.alloc (.cells #[.string a.name,.slice Ad a.args.length cap] 68)).alloc (.cells #[.string ⟨#[]⟩,.slice none 0 0] 68)).alloc (.cells #[] 109)).cell? ⟨w.heap.size,1,none⟩=some (.slice Ad a.args.length cap)):=η (by go_simp)
 have X2:Hid ((((w.alloc (.cells #[.string a.name,.slice Ad a.args.length cap] 68)).alloc (.cells #[.string ⟨#[]⟩,.slice none 0 0] 68)).alloc (.cells #[] 109)).cell? ⟨w.heap.size+1,0,none⟩=some (.string ⟨#[]⟩)):=η (by go_simp)
 have X3:Hid ((((w.alloc (.cells #[.string a.name,.slice Ad a.args.length cap] 68)).alloc (.cells #[.string ⟨#[]⟩,.slice none 0 0] 68)).alloc (.cells #[] 109)).cell? ⟨w.heap.size+1,1,none⟩=some (.slice none 0 0)):=η (by go_simp)
 have F0:Hid ((((w.alloc (.cells #[.string a.name,.slice Ad a.args.length cap] 68)).alloc (.cells #[.string ⟨#[]⟩,.slice none 0 0] 68)).alloc (.cells #[] 109)).frozen? ⟨w.heap.size+1,0,none⟩=false):=η (by go_simp)
 have F1:Hid ((((w.alloc (.cells #[.string a.name,.slice Ad a.args.length cap] 68)).alloc (.cells #[.string ⟨#[]⟩,.slice none 0 0] 68)).alloc (.cells #[] 109)).frozen? ⟨w.heap.size+1,1,none⟩=false):=η (by go_simp)
 clear hlen hone h63 hby hbs HE HL
 go_enter Tryz.func94,Tryz.ntmps94
 go_wp2
 go_region_held3 (fun w'=>w'.cell? ⟨w.heap.size,0,none⟩=some (.string a.name)∧w'.cell? ⟨w.heap.size,1,none⟩=some (.slice Ad a.args.length cap))
  (first | go_keep | exact ⟨q0,q1⟩)
  ((refine step_app (by rfl) _ _ _ (by rfl) (w.heap.size+2) 109 i0 (.agg #[.bool false,.string ⟨#[]⟩]) 2 24 Tryz.underlying66 hi hz0 hz1 hz2 rfl (by omega) (.slice (some ⟨w.heap.size+1+1,0,none⟩) 0 0) 0 [] (by rfl) HO.out Ad a.args.length cap L (by rfl) H1.out HI.out H2.out H3.out H4.out H5.out ?_; intro A1 cp w1 hown hgrow hloc; clear hloc; simp only [Nat.zero_add,List.nil_append] at hown ⊢; have q0:=hgrow.cell X0.out (own_ne (a:=w.heap.size) (b:=w.heap.size+1+1) (by omega)); have q1:=hgrow.cell X1.out (own_ne (a:=w.heap.size) (b:=w.heap.size+1+1) (by omega)); have q2:=hgrow.cell X2.out (own_ne (a:=w.heap.size+1) (b:=w.heap.size+1+1) (by omega)); have q3:=hgrow.cell X3.out (own_ne (a:=w.heap.size+1) (b:=w.heap.size+1+1) (by omega)); have g0:=(hgrow.frozen_far _ (lt_of_cell X2.out) (own_ne (a:=w.heap.size+1) (b:=w.heap.size+1+1) (by omega))).trans F0.out; have g1:=(hgrow.frozen_far _ (lt_of_cell X3.out) (own_ne (a:=w.heap.size+1) (b:=w.heap.size+1+1) (by omega))).trans F1.out))
 obtain ⟨b3,hR3,hN3⟩:=terms_own HR.out hown
 have hne:∀ c ∈ b3,c ≠ w.heap.size+1:=fun c hc e=>by have:=(hN3.own c hc).1; omega
 have B2:Below w.heap.size w w1:=(hA.alloc (by simp <;> omega) _).drew.grown hgrow (by simp <;> omega) (fun k e=>own_two e)
 go_wp2
 refine bodyPost_ret (v:=.agg #[.string a.name,.slice A1 a.args.length cp]) (by simp [results,Tryz.results94,go_sem,q2,q3]) rfl ⟨(B2.setCell (by simp) _).setCell (by simp) _,_,b3,rfl,⟨_,rfl,hnm,termsK_good.keep hR3 fun c hc=>?_⟩,(hN3.mono (by omega)).keep fun c hc=>?_⟩
 all_goals rw [Below.heap_setCell _ _ _ _ (hne c hc),Below.heap_setCell _ _ _ _ (hne c hc)]
end Go.Proofs.YtiidmgchadagbaaGreatDoor
