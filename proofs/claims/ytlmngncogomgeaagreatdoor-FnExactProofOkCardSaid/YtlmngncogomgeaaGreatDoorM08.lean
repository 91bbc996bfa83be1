/- Of the proof of FnExactProofOk: L3A. -/
import Derived.Test.YtlmngncogomgeaaGreatDoorM03
set_option linter.unusedVariables false
set_option maxHeartbeats 1000000
set_option maxRecDepth 100000
namespace Go.Proofs.YtlmngncogomgeaaGreatDoor
open Go.RowKit D
attribute [local go_sem ↓] Go.wp_at_zero Go.wp_at_succ
theorem D.Ug {a k n c o:Nat} (e:(Value.slice (some ⟨a+1+1,o,none⟩) n c).ownBlock=some k):a≤k:=by
 have:a+1+1=k:=by simpa [Value.ownBlock] using e
 omega
theorem KZ (a:A) (c0 c1:Value) (bs:List Nat) (w:World) (h:aP w [c0,c1] a bs) (hn:a.args.length≤16777216):
  Calls Tryz.prog 127 #[.agg #[c0,c1]] w (tV aP a w.heap.size w):=by
 have ht:=dK h;have a8:a.name.size≤maxLen:=by obtain ⟨_,_,hn,_⟩:=h; exact hn
 obtain ⟨I,cap,rfl,rfl⟩:=bK h;obtain ⟨i0,hi,a9,aa,ab⟩:=info_parts Ob;obtain ⟨L,b2,J,_,U⟩:=tZ tY (by omega) ht;have HL:=η (fun w' (hb:Below w.heap.size w w')=>Hl J (by omega) U (aG.lt ht) hb);have HR:=η J;clear h ht J U;have hA:=((Below.refl w.heap.size w).alloc ν (.cells #[.string a.name,.slice I a.args.length cap] 40)).alloc (by simp) (.cells #[.string ⟨#[]⟩,.slice none 0 0] 40)
 have HE:Hid ((((w.alloc (.cells #[.string a.name,.slice I a.args.length cap] 40)).alloc (.cells #[.string ⟨#[]⟩,.slice none 0 0] 40)).alloc (.cells #[] 154)).heap[w.heap.size+1+1]? = some (.cells #[] 154 (0,0))):=η (by
  have:=ω ((w.alloc (.cells #[.string a.name,.slice I a.args.length cap] 40)).alloc (.cells #[.string ⟨#[]⟩,.slice none 0 0] 40)) (.cells #[] 154)
  simpa using this)
 have HO:Hid ((((w.alloc (.cells #[.string a.name,.slice I a.args.length cap] 40)).alloc (.cells #[.string ⟨#[]⟩,.slice none 0 0] 40)).alloc (.cells #[] 154)).ownsRow (w.heap.size+2) 154 2 (.slice (some ⟨w.heap.size+1+1,0,none⟩) 0 0) 0 []):=η (yx HE.out (by omega));have HI:Hid (Lies (((w.alloc (.cells #[.string a.name,.slice I a.args.length cap] 40)).alloc (.cells #[.string ⟨#[]⟩,.slice none 0 0] 40)).alloc (.cells #[] 154)) I L):=η (HL.out _ (hA.alloc (by simp <;> omega) _));have hlen:=HR.out.len;have a0:=HR.out.one;have a2:0+a.args.length≤maxLen:=by unfold maxLen; omega
 have a3:(0+a.args.length) * 24≤140737488355328:=by omega
 have a4:w.heap.size+2≤(((w.alloc (.cells #[.string a.name,.slice I a.args.length cap] 40)).alloc (.cells #[.string ⟨#[]⟩,.slice none 0 0] 40)).alloc (.cells #[] 154)).heap.size:=by simp
 have H1:=η hlen;have H2:=η a0;have H3:=η a2;have H4:=η a3;have H5:=η a4;have X0:Hid ((((w.alloc (.cells #[.string a.name,.slice I a.args.length cap] 40)).alloc (.cells #[.string ⟨#[]⟩,.slice none 0 0] 40)).alloc (.cells #[] 154)).cell? ⟨w.heap.size,0,none⟩=some (.string a.name)):=η (by go_simp);have X1:Hid ((((w.alloc (.cells #[.string a.name,.slice I a.args.length cap] 40)).alloc (.cells #[.string ⟨#[]⟩,.slice none 0 0] 40)).alloc (.cells #[] 154)).cell? ⟨w.heap.size,1,none⟩=some (.slice I a.args.length cap)):=η (by go_simp);have X2:Hid ((((w.alloc (.cells #[.string a.name,.slice I a.args.length cap] 40)).alloc (.cells #[.string ⟨#[]⟩,.slice none 0 0] 40)).alloc (.cells #[] 154)).cell? ⟨w.heap.size+1,0,none⟩=some (.string ⟨#[]⟩)):=η (by go_simp);have X3:Hid ((((w.alloc (.cells #[.string a.name,.slice I a.args.length cap] 40)).alloc (.cells #[.string ⟨#[]⟩,.slice none 0 0] 40)).alloc (.cells #[] 154)).cell? ⟨w.heap.size+1,1,none⟩=some (.slice none 0 0)):=η (by go_simp)
 have F0:Hid ((((w.alloc (.cells #[.string a.name,.slice I a.args.length cap] 40)).alloc (.cells #[.string ⟨#[]⟩,.slice none 0 0] 40)).alloc (.cells #[] 154)).frozen? ⟨w.heap.size+1,0,none⟩=false):=η (by go_simp);have F1:Hid ((((w.alloc (.cells #[.string a.name,.slice I a.args.length cap] 40)).alloc (.cells #[.string ⟨#[]⟩,.slice none 0 0] 40)).alloc (.cells #[] 154)).frozen? ⟨w.heap.size+1,1,none⟩=false):=η (by go_simp);clear hlen a0 a2 a3 a4 HE HL
 go_enter Tryz.func127,Tryz.ntmps127
 go_wp2
 go_region_held3 (fun w'=>w'.cell? ⟨w.heap.size,0,none⟩=some (.string a.name)∧w'.cell? ⟨w.heap.size,1,none⟩=some (.slice I a.args.length cap))
  (first | go_keep | exact ⟨q0,q1⟩)
  ((refine gG (by rfl) _ _ _ (by rfl) (w.heap.size+2) 154 i0 (.agg #[.bool false,.string ⟨#[]⟩]) 2 24 Tryz.underlying38 hi a9 aa ab rfl (by omega) (.slice (some ⟨w.heap.size+1+1,0,none⟩) 0 0) 0 [] (by rfl) HO.out I a.args.length cap L (by rfl) H1.out HI.out H2.out H3.out H4.out H5.out ?_; intro A1 cp w1 a1 y a5; clear a5; simp only [Nat.zero_add,List.nil_append] at a1 ⊢; have q0:=y.cell X0.out (own_ne (a:=w.heap.size) (b:=w.heap.size+1+1) (by omega)); have q1:=y.cell X1.out (own_ne (a:=w.heap.size) (b:=w.heap.size+1+1) (by omega)); have q2:=y.cell X2.out (own_ne (a:=w.heap.size+1) (b:=w.heap.size+1+1) (by omega)); have q3:=y.cell X3.out (own_ne (a:=w.heap.size+1) (b:=w.heap.size+1+1) (by omega)); have g0:=(y.frozen_far _ (lt_of_cell X2.out) (own_ne (a:=w.heap.size+1) (b:=w.heap.size+1+1) (by omega))).trans F0.out; have g1:=(y.frozen_far _ (lt_of_cell X3.out) (own_ne (a:=w.heap.size+1) (b:=w.heap.size+1+1) (by omega))).trans F1.out))
 obtain ⟨b3,ac,a6⟩:=Oc HR.out a1;have a7:∀ c ∈ b3,c ≠ w.heap.size+1:=fun c hc e=>by have:=(a6.own c hc).1; omega
 have B2:Below w.heap.size w w1:=(hA.alloc (by simp <;> omega) _).drew.grown y (by simp <;> omega) (fun k e=>Ug e);go_wp2;refine bodyPost_ret (v:=.agg #[.string a.name,.slice A1 a.args.length cp]) (by simp [results,Tryz.results127,go_sem,q2,q3]) rfl ⟨(B2.setCell (by simp) _).setCell (by simp) _,_,b3,rfl,⟨_,rfl,a8,aG.keep ac fun c hc=>?_⟩,(a6.mono (by omega)).keep fun c hc=>?_⟩
 all_goals rw [π _ _ _ _ (a7 c hc),π _ _ _ _ (a7 c hc)]
end Go.Proofs.YtlmngncogomgeaaGreatDoor
