/- Of the proof of FnExactRounds: FctI, OnceS, ProgC. -/
import Derived.Test.YtiidmgchadagbaaGreatDoorM28
import Derived.Test.YtiidmgchadagbaaGreatDoorM29
import Derived.Test.YtiidmgchadagbaaGreatDoorM23
import Derived.Test.YtiidmgchadagbaaGreatDoorM25
set_option linter.unusedVariables false
set_option maxHeartbeats 8000000
set_option maxRecDepth 100000
namespace Go.Proofs.YtiidmgchadagbaaGreatDoor
open Go.RowKit D
attribute [local go_sem ↓] Go.wp_at_zero Go.wp_at_succ
theorem infoTrm:(Tryz.prog.info? 109).map (fun i=>(i.zero,i.size,i.bytes))=some (some (.agg #[.bool false,.string ⟨#[]⟩]),2,24):=by kernel_rfl
theorem fact_any (vars:List ByteArray) (hv:VarsOk vars) (b:Bd) (hbo:BdOk vars b) (a:A) (Ae:Option Addr) (ce:Nat) (b1:List Nat) (blk o:Nat) (w:World) (hb:BdAt vars b blk o w) (hnm:a.name.size≤maxLen) (h:slotsK vars w [.slice Ae a.args.length ce] a.args b1) (hin:∀ t ∈ a.args,t.var=true→t.name ∈ vars) (hal:a.args.length≤1000000):
  Calls Tryz.prog 143 #[.pointer (some ⟨blk,o,none⟩),.agg #[.string a.name,.slice Ae a.args.length ce]] w fun e w'=>∃ v bs,e=.returned (.agg #[.string a.name,v])∧Below w.heap.size w w'∧atomK w' [.string a.name,v] (fillB a b) bs∧New w.heap.size w' bs:=by
 obtain ⟨i0,hi,hz0,hz1,hz2⟩:=info_parts infoTrm
 obtain ⟨nm,args⟩:=a
 dsimp only at h hin hal hnm ⊢
 have HIN:=η hin
 have HNM:=η hnm
 have HT:=η h
 have HB0:=η hb
 have HBO:=η hbo
 clear h hin hnm hb hbo
 have hA:Below w.heap.size w (((w.alloc (.cells #[.string nm,.slice Ae args.length ce] 199)).alloc (.cells #[.string ⟨#[]⟩,.slice none 0 0] 68)).alloc (.cells #[.string nm,.slice none 0 0] 68)):=(((Below.refl _ _).alloc (Nat.le_refl _) _).alloc (by simp) _).alloc (by simp; omega) _
 have hr0:(((w.alloc (.cells #[.string nm,.slice Ae args.length ce] 199)).alloc (.cells #[.string ⟨#[]⟩,.slice none 0 0] 68)).alloc (.cells #[.string nm,.slice none 0 0] 68)).heap[w.heap.size+1]? = some (.cells #[.string ⟨#[]⟩,.slice none 0 0] 68 (0,0)):=by
  rw [Below.heap_alloc _ _ _ (by simp)]
  have:=heap_alloc_new (w.alloc (.cells #[.string nm,.slice Ae args.length ce] 199)) (.cells #[.string ⟨#[]⟩,.slice none 0 0] 68)
  simpa using this
 have hr1:(((w.alloc (.cells #[.string nm,.slice Ae args.length ce] 199)).alloc (.cells #[.string ⟨#[]⟩,.slice none 0 0] 68)).alloc (.cells #[.string nm,.slice none 0 0] 68)).heap[w.heap.size+2]? = some (.cells #[.string nm,.slice none 0 0] 68 (0,0)):=by
  have:=heap_alloc_new ((w.alloc (.cells #[.string nm,.slice Ae args.length ce] 199)).alloc (.cells #[.string ⟨#[]⟩,.slice none 0 0] 68)) (.cells #[.string nm,.slice none 0 0] 68)
  simpa using this
 have HI0:Hid (TwoB 2 termK 109 68 w (w.heap.size+1) (w.heap.size+2) (w.heap.size+3) nm (.slice none 0 0) [] ([]:List T) (((w.alloc (.cells #[.string nm,.slice Ae args.length ce] 199)).alloc (.cells #[.string ⟨#[]⟩,.slice none 0 0] 68)).alloc (.cells #[.string nm,.slice none 0 0] 68))):=
  η ⟨hr0,hr1,by omega,by omega,by omega,Coll.nil _,hA,by simp⟩
 clear hA hr0 hr1
 go_enter Tryz.func143,Tryz.ntmps143
 go_wp2
 generalize (((w.alloc (.cells #[.string nm,.slice Ae args.length ce] 199)).alloc (.cells #[.string ⟨#[]⟩,.slice none 0 0] 68)).alloc (.cells #[.string nm,.slice none 0 0] 68))=W at *
 go_loopw [14] (fun i wr=>∃ (k:Nat) (Av:Option Addr) (cv:Nat) (L:List Value),k≤args.length∧i=.int .i64 k∧TwoB 2 termK 109 68 w (w.heap.size+1) (w.heap.size+2) (w.heap.size+3) nm (.slice Av k cv) L ((args.take k).map (fillT b)) wr) (fun i _=>args.length - (intOf i).toNat)
 case atStart=>exact ⟨0,none,0,[],Nat.zero_le _,rfl,HI0.out⟩
 case round=>
  obtain ⟨k,Av,cv,L,hk,rfl,hI⟩:=hrel
  clear HI0
  by_cases hlt:k < args.length
  ·obtain ⟨bq,oq,rfl,_,f0,f1,hsz⟩:=slots_at ((slotsK_good vars).below HT.out hI.bel) hlt
   have hk0:(0:Int)≤(k:Int):=by omega
   have hk1:(k:Int) < (args.length:Int):=by omega
   have HLT:=η hlt
   have HTK:Hid ((args.take (k+1)).map (fillT b)=(args.take k).map (fillT b) ++ [fillT b args[k]]):=η (by rw [List.take_succ_eq_append_getElem hlt,List.map_append]; rfl)
   have hA2:Below wr.heap.size wr (wr.alloc (.cells #[.int .i64 (slotN vars args[k]),.string (slotS args[k])] 246)):=(Below.refl _ _).alloc (Nat.le_refl _) _
   have hI1:=hI.later termK_good hA2
   have HI1:=η hI1
   have hbd:BdAt vars b blk o (wr.alloc (.cells #[.int .i64 (slotN vars args[k]),.string (slotS args[k])] 246)).drew:=HB0.out.keep ((hI.bel.trans (hA2.mono hI.bel.size)).block _ HB0.out.lt)
   have HW:=η (wordOf_any vars hv b args[k] (HIN.out _ (List.getElem_mem hlt)) blk o _ hbd)
   have HSZ:Hid ((fillT b args[k]).name.size≤maxLen):=η (HBO.out.fill_size (fun hv=>(show slotS args[k]=args[k].name by unfold slotS; simp [hv]) ▸ hsz))
   have HR:Hid (∀ w,termK w [.bool false,.string (fillT b args[k]).name] (fillT b args[k]) []):=η fun w=>⟨rfl,HSZ.out,rfl⟩
   have HLK:Hid (((args.take k).map (fillT b)).length=k):=η (by simp; omega)
   have H63:Hid (k+1≤maxLen):=η (by unfold maxLen; omega)
   have HBY:Hid ((k+1) * 24≤140737488355328):=η (by omega)
   have y0:(wr.alloc (.cells #[.int .i64 (slotN vars args[k]),.string (slotS args[k])] 246)).cell? ⟨wr.heap.size,0,none⟩=some (.int .i64 (slotN vars args[k])):=by go_simp
   have y1:(wr.alloc (.cells #[.int .i64 (slotN vars args[k]),.string (slotS args[k])] 246)).cell? ⟨wr.heap.size,1,none⟩=some (.string (slotS args[k])):=by go_simp
   have q1:=cell_of_blk hI1.r1 (o:=1)
   have q2:=frozen_of_blk hI1.r1 (o:=1)
   have q3:=lt_of_block hI1.r1
   clear hI hA2 hI1 hbd hsz hk
   generalize slotN vars args[k]=sn at *
   generalize slotS args[k]=ss at *
   generalize args[k]=t at *
   clear hlt
   go_wp2
   generalize wr.alloc (.cells #[.int .i64 sn,.string ss] 246)=W1 at *
   go_region_law
    (first
     | (go_simp; go_at_call 178; refine HW.out.mono ?_; rintro e w2 ⟨rfl,hb2⟩; have HK2:=η ((Below.refl W1.heap.size W1).drew.trans hb2); have HI2:=η (HI1.out.later termK_good HK2.out); have HL:=η (HI2.out.lit termK_good termK_ones HR.out); replace q1:=cell_later HK2.out q1; replace q3:=Nat.lt_of_lt_of_le q3 HK2.out.size; clear hb2)
     | (refine step_coll (by rfl) (.tmp 19) (.tmp 24) _ (by rfl) (w.heap.size+3) 109 i0 (.agg #[.bool false,.string ⟨#[]⟩]) 2 24 Tryz.underlying66 hi hz0 hz1 hz2 rfl (Nat.zero_lt_succ 1) termK_good (.slice Av k cv) k L _ [] (by rfl) HL.out.1 HLK.out (some ⟨w2.heap.size,0,none⟩) 1 1 _ [fillT b t] _ (by rfl) HL.out.2.1 rfl HL.out.2.2.1 (fun b hb=>by simp at hb) H63.out HBY.out w2 (w.heap.size+3) HL.out.2.2.2.1 (Nat.le_refl _) HL.out.2.2.2.2 ?_; intro A5 c5 w5 hC5 hB5 hS5 hG5; have HZ:=η (HI2.out.app termK_good hC5 hB5); replace q1:=HZ.out.1; replace q2:=HZ.out.2.1; clear hC5 hB5 hS5 hG5))
   all_goals
    have HI9:=η HZ.out.2.2.1
    clear HI1 HL HZ HI2 HK2 HW q1 q2 q3 y0 y1
    go_wp2
    go_roundw
    case rel=>exact ⟨k+1,A5,c5,_,HLT.out,by go_num,by rw [HTK.out]; exact HI9.out⟩
    case measure=>have:=HLT.out; simp [intOf]; omega
  ·have he:k=args.length:=by omega
   have hk1:¬ (k:Int) < (args.length:Int):=by omega
   obtain ⟨W9,hW9,hB9,hb9,b9,hs9,hn9⟩:=hI.done termK_good
   have y0:wr.cell? ⟨w.heap.size+2,0,none⟩=some (.string nm):=cell_of_blk hI.r1
   have y1:wr.cell? ⟨w.heap.size+2,1,none⟩=some (.slice Av k cv):=cell_of_blk hI.r1
   have f0:wr.frozen? ⟨w.heap.size+1,0,none⟩=false:=frozen_of_blk hI.r0
   have f1:wr.frozen? ⟨w.heap.size+1,1,none⟩=false:=frozen_of_blk hI.r0
   have z0:wr.cell? ⟨w.heap.size+1,0,none⟩=some (.string ⟨#[]⟩):=cell_of_blk hI.r0
   have z1:wr.cell? ⟨w.heap.size+1,1,none⟩=some (.slice none 0 0):=cell_of_blk hI.r0
   have u0:W9.cell? ⟨w.heap.size+1,0,none⟩=some (.string nm):=cell_of_blk hb9
   have u1:W9.cell? ⟨w.heap.size+1,1,none⟩=some (.slice Av k cv):=cell_of_blk hb9
   have HD:Hid (Below w.heap.size w W9∧atomK W9 [.string nm,.slice Av k cv] (fillB ⟨nm,args⟩ b) b9∧New w.heap.size W9 b9):=
    η ⟨hB9,⟨_,rfl,HNM.out,by unfold fillB; dsimp only; rw [List.take_of_length_le (Nat.le_of_eq he.symm)] at hs9; exact hs9⟩,hn9.mono (by omega)⟩
   have HW9:=η hW9
   have HU:=η (And.intro u0 u1)
   clear hI hB9 hb9 hs9 hn9 hW9 he u0 u1
   go_wp2
   rw [← HW9.out]
   refine bodyPost_ret (v:=.agg #[.string nm,.slice Av k cv]) (by simp [results,Tryz.results143,go_sem,HU.out.1,HU.out.2]) rfl (by exact ⟨_,rfl,HD.out.1,_,HD.out.2⟩)
def D.putR (list:List A) (r:Ru) (out:List A):List A:=(allB list r.body).foldl (fun o b=>insA o (fillB r.head b)) out
def D.onceR (list:List A) (level:Nat) (rl:List (Ru × Nat)):List A:=rl.foldl (fun out p=>if p.2=level then putR list p.1 out else out) []
theorem D.rawB_len {list:List A} (hl:list.length≤300) (body:List Pt):(rawB list body).length≤300 ^ body.length:=by
 have h:∀ k,k≤body.length→(rawB list (body.take k)).length≤300 ^ k:=by
  intro k
  induction k with
  | zero=>intro _; simp [rawB]
  | succ k ih=>
   intro hk
   rw [rawB_snoc list body k (by omega)]
   exact stepB_len hl (ih (by omega))
 have:=h body.length (Nat.le_refl _)
 rwa [List.take_of_length_le (Nat.le_refl _)] at this
theorem D.allB_len {list:List A} (hl:list.length≤300) {body:List Pt} (hb:body.length≤4):(allB list body).length≤8100000000:=
 Nat.le_trans (List.length_filter_le _ _) (Nat.le_trans (rawB_len hl body) (Nat.le_trans (Nat.pow_le_pow_right (by omega) hb) (by decide)))
theorem D.insA_le (xs:List A) (a:A):(insA xs a).length≤xs.length+1:=by
 unfold insA
 split <;> simp <;> omega
theorem D.onceR_snoc (list:List A) (level:Nat) (rl:List (Ru × Nat)) (k:Nat) (h:k < rl.length):onceR list level (rl.take (k+1))=(if rl[k].2=level then putR list rl[k].1 (onceR list level (rl.take k)) else onceR list level (rl.take k)):=by
 unfold onceR
 rw [List.take_succ_eq_append_getElem h,List.foldl_append]
 rfl
theorem D.puts_at (list:List A) (r:Ru) (out:List A) (k:Nat) (h:k < (allB list r.body).length):((allB list r.body).take (k+1)).foldl (fun o b=>insA o (fillB r.head b)) out=insA (((allB list r.body).take k).foldl (fun o b=>insA o (fillB r.head b)) out) (fillB r.head (allB list r.body)[k]):=by
 rw [List.take_succ_eq_append_getElem h,List.foldl_append]
 rfl
theorem D.put_reads {bb bs:List Nat} {xs X:List A} {v:Value} {wi w':World} {e:Ending} (h:ReadsO bb xs X v wi.heap.size wi e w') (ha:atomsK wi [v] xs bs) (hs:∀ c ∈ bs,c ∈ bb):
  Below wi.heap.size wi w'∧∃ A cap bl,e=.returned (.slice A X.length cap)∧atomsK w' [.slice A X.length cap] X bl∧∀ c ∈ bl,c ∈ bb∨wi.heap.size≤c:=by
 obtain ⟨hb,v',bs',rfl,h3,h4⟩:=h
 refine ⟨hb,?_⟩
 rcases h4 with ⟨rfl,rfl⟩ | ⟨L,b9,hC,h9⟩
 ·obtain ⟨A,cap,rfl,_⟩:=sliceK_form ha
  exact ⟨A,cap,bs,rfl,atomsK_good.below ha hb,fun c hc=>.inl (hs c hc)⟩
 ·obtain ⟨b2,h5,h6⟩:=hC.slice
  obtain ⟨A,cap,rfl,_⟩:=sliceK_form h5
  exact ⟨A,cap,b2,rfl,h5,fun c hc=>(h6 c hc).elim .inr fun h=>.inl (h9 c h)⟩
theorem once_any (rs:List Ru) (lv:List Nat) (level:Nat) (list:List A) (v0 v1 v3:Value) (b0 b1 b3:List Nat) (w:World) (hr:rulesK w [v0] rs b0) (hv:intsK w [v1] lv b1) (hl:atomsK w [v3] list b3)
  (hlen:lv.length=rs.length) (hasc:asc list=true) (hn:list.length≤300) (hm:rs.length≤8) (hb:∀ r ∈ rs,r.body.length≤4∧r.head.args.length≤1000∧∀ p ∈ r.body,p.atom.args.length≤1000):
  Calls Tryz.prog 60 #[v0,v1,.int .i64 level,v3] w fun e w'=>Below w.heap.size w w'∧∃ v bs,e=.returned v∧atomsK w' [v] (onceR list level (rs.zip lv)) bs∧∀ c ∈ bs,w.heap.size≤c:=by
 obtain ⟨Ar,pr,rfl,hr1,hr2⟩:=sliceK_form hr
 obtain ⟨Av,pv,rfl,hv1,hv2⟩:=sliceK_form hv
 obtain ⟨Al,pl,rfl,hl1,hl2⟩:=sliceK_form hl
 have HR:=η hr
 have HV:=η hv
 have HL:=η hl
 have HB:=η hb
 have HLEN:=η hlen
 have hE:atomsK (w.alloc (.cells #[] 68)) [.slice (some ⟨w.heap.size,0,none⟩) 0 0] [] []:=atoms_empty
 have hA:Below w.heap.size w (w.alloc (.cells #[] 68)):=(Below.refl _ _).alloc (Nat.le_refl _) _
 clear hr hv hl hr1 hr2 hv1 hv2 hl1 hl2 hb hlen
 go_enter Tryz.func60,Tryz.ntmps60
 go_wp2_with fail
 generalize w.alloc (.cells #[] 68)=w0 at *
 go_loopw [9,10,11,12] (fun o i _ _ wr=>∃ (k:Nat) (out:List A) (bo:List Nat),k≤rs.length∧i=.int .i64 k∧Hid (out=onceR list level ((rs.zip lv).take k))∧out.length≤k * 8100000000∧asc out=true∧Hid (atomsK wr [o] out bo)∧Hid (∀ c ∈ bo,w.heap.size≤c)∧Hid (Below w.heap.size w wr)) (fun _ i _ _ _=>rs.length - (intOf i).toNat)
 case atStart=>exact ⟨0,[],[],Nat.zero_le _,rfl,η rfl,Nat.zero_le _,rfl,η hE,η (fun c hc=>by cases hc),η hA⟩
 case round=>
  obtain ⟨k,out,bo,hk,rfl,ho,hol,hoa,hO,hFO,hBw⟩:=hrel
  clear hE hA
  by_cases hlt:k < rs.length
  ·have hk0:(0:Int)≤(k:Int):=by omega
   have hk1:(k:Int) < (rs.length:Int):=by omega
   have hkv:k < lv.length:=by have:=HLEN.out; omega
   have hkz:k < (rs.zip lv).length:=by rw [List.length_zip]; omega
   have hk2:(k:Int) < (lv.length:Int):=by omega
   obtain ⟨vb,vo,rfl,_,ev⟩:=intsK_at (intsK_good.below HV.out hBw.out) hkv
   obtain ⟨rb,ro,Ah,ch,Ab,cb,br,rfl,_,e0,e1,e2,hel,_⟩:=rules_el (rulesK_good.below HR.out hBw.out) hlt
   have HSN:=η (onceR_snoc list level (rs.zip lv) k hkz)
   rw [List.getElem_zip] at HSN
   dsimp only at HSN
   have HRB:=η (HB.out _ (List.getElem_mem hlt))
   have HEL:=η hel
   generalize wr=wo at *
   generalize rs[k]=r at *
   generalize lv[k]=l at *
   clear hel hkz
   by_cases hll:l=level
   ·have hli:(l:Int)=(level:Int):=by omega
    have HE:Hid (putR list r out=onceR list level ((rs.zip lv).take (k+1))):=η (by rw [HSN.out,← ho.out,if_pos hll])
    obtain ⟨HAT,bq,HBD⟩:Hid (∃ b1,atomK wo [.string r.head.name,.slice Ah r.head.args.length ch] r.head b1)∧∃ bq,Hid (partsK wo [.slice Ab r.body.length cb] r.body bq):=by
     obtain ⟨s,t,b1,b2,hcs,hnm,_,ht,hp⟩:=HEL.out
     simp only [List.cons.injEq,true_and,and_true] at hcs
     obtain ⟨rfl,rfl⟩:=hcs
     exact ⟨η ⟨b1,_,rfl,hnm,ht⟩,b2,η hp⟩
    have q5:=all_any list r.body _ _ b3 bq wo (atomsK_good.below HL.out hBw.out) HBD.out hasc hn HRB.out.1 HRB.out.2.2
    have HQL:=η (allB_len hn HRB.out.1)
    clear HSN ho HEL hll
    go_wp2_with fail
    refine q5.mono ?_
    rintro e w5 ⟨hb5,v5,b5,rfl,h5⟩
    obtain ⟨A5,p5,rfl,hp5,hm5⟩:=sliceK_form h5
    have H5:=η h5
    have B5:=η (hBw.out.trans (hb5.mono hBw.out.size))
    have C5:=η hb5
    have HO5:=η (atomsK_good.below hO.out hb5)
    clear q5 h5 hb5 hp5 hm5 hO
    go_wp2_with fail
    go_loopw [9,12] (fun o i wr=>∃ (q:Nat) (ys:List A) (by_:List Nat),q≤(allB list r.body).length∧i=.int .i64 q∧Hid (ys=((allB list r.body).take q).foldl (fun o b=>insA o (fillB r.head b)) out)∧Hid (ys.length≤out.length+q)∧asc ys=true∧Hid (atomsK wr [o] ys by_)∧Hid (∀ c ∈ by_,w.heap.size≤c)∧Hid (Below w5.heap.size w5 wr)) (fun _ i _=>(allB list r.body).length - (intOf i).toNat)
    case atStart=>exact ⟨0,out,bo,Nat.zero_le _,rfl,η rfl,η (Nat.le_refl _),hoa,HO5,hFO,η (Below.refl _ _)⟩
    case round=>
     obtain ⟨q,ys,byy,hq,rfl,hys,hyl,hya,hY,hFY,hB1⟩:=hrel
     clear HO5
     by_cases hqt:q < (allB list r.body).length
     ·have hq0:(0:Int)≤(q:Int):=by omega
      have hq1:(q:Int) < ((allB list r.body).length:Int):=by omega
      have hqb:q≤8100000000:=by have:=HQL.out; omega
      obtain ⟨ab,ao,A1,p1,A2,p2,bk,rfl,_,d0,d1,hbd,_⟩:=binds_el (bindsK_good.below H5.out hB1.out) hqt
      have g0:=cell_later hB1.out (cell_later C5.out e0)
      have g1:=cell_later hB1.out (cell_later C5.out e1)
      have HPA:=η (puts_at list r out q hqt)
      have hyb:ys.length≤100000000000:=by
       have h1:=hyl.out
       have h2:=HQL.out
       have h3:k * 8100000000≤8 * 8100000000:=Nat.mul_le_mul_right _ (by omega)
       omega
      generalize (allB list r.body)[q]=b0 at *
      have hD:Below wr.heap.size wr wr.drew:=Below.drew (Below.refl _ _)
      have Q1:=η fun w' (hb:Below wr.heap.size wr w')=>HAT.out.elim fun b1 h1=>fill_any r.head b0 _ _ _ _ b1 bk w' (atomK_good.below h1 (C5.out.trans ((hB1.out.mono C5.out.size).trans (hb.mono (Nat.le_trans C5.out.size hB1.out.size))))) (bindK_good.below hbd hb) (Nat.le_trans HRB.out.2.1 (by omega))
      have Q2:=η fun w' (hb:Below wr.heap.size wr w') c0 c1 b6 (h6:atomK w' [c0,c1] (fillB r.head b0) b6)=>l3Put_big ys (fillB r.head b0) _ c0 c1 byy b6 w' (atomsK_good.below hY.out hb) h6 hya hyb
      have HD1:=η hD
      clear hbd hD
      go_wp2_with fail
      go_region_held3 (fun w'=>w'.cell? ⟨rb,ro+k * 3,none⟩=some (.string r.head.name)∧w'.cell? ⟨rb,ro+k * 3+1,none⟩=some (.slice Ah r.head.args.length ch)∧w'.cell? ⟨ab,ao+q * 2,none⟩=some (.slice A1 b0.length p1)∧w'.cell? ⟨ab,ao+q * 2+1,none⟩=some (.slice A2 b0.length p2))
       (first | go_keep | exact hq5 | exact hq6)
       (first
        | (go_at_call 96; refine (Q1.out _ HD1.out).mono ?_; rintro e w6 ⟨hb6,x0,x1,b6,rfl,h6,hf6⟩; have B6:=HD1.out.trans (hb6.mono HD1.out.size); have hq5:=And.intro (cell_later B6 g0) (And.intro (cell_later B6 g1) (And.intro (cell_later B6 d0) (cell_later B6 d1))))
        | (go_at_call 79; refine (Q2.out _ B6 _ _ _ h6).mono ?_; rintro e w7 hr7; obtain ⟨hb7,A7,p7,b7,rfl,h7,hf7⟩:=put_reads hr7 (atomsK_good.below hY.out B6) (fun c hc=>List.mem_append_left _ hc); have B7:=B6.trans (hb7.mono B6.size); have hq6:=And.intro (cell_later B7 g0) (And.intro (cell_later B7 g1) (And.intro (cell_later B7 d0) (cell_later B7 d1)))))
      have HB7:=η (hB1.out.trans (B7.mono hB1.out.size))
      have HY2:Hid (insA ys (fillB r.head b0)=((allB list r.body).take (q+1)).foldl (fun o b=>insA o (fillB r.head b)) out):=η (by rw [HPA.out,hys.out])
      have HLN:=η (Nat.le_trans (insA_le ys (fillB r.head b0)) (Nat.succ_le_succ hyl.out))
      have hya2:=asc_ins hya (fillB r.head b0)
      have H7:=η h7
      have HF7:Hid (∀ c ∈ b7,w.heap.size≤c):=η fun c hc=>by
       have s1:=hBw.out.size
       have s2:=C5.out.size
       have s3:=hB1.out.size
       have s4:=B6.size
       rcases hf7 c hc with h | h
       ·rcases List.mem_append.1 h with h | h
        ·exact hFY.out c h
        ·have:=hf6 c h
         have e9:wr.drew.heap.size=wr.heap.size:=rfl
         omega
       ·omega
      clear Q1 Q2 hq5 hq6 h6 hb6 hb7 h7 B6 B7 g0 g1 d0 d1 HPA hys hyl hyb
      go_wp2
      go_roundw
      case rel=>exact ⟨q+1,_,_,hqt,by go_num,HY2,HLN,hya2,H7,HF7,HB7⟩
      case measure=>simp [intOf]; omega
     ·have he:q=(allB list r.body).length:=by omega
      have hq1:¬ (q:Int) < ((allB list r.body).length:Int):=by omega
      have HE2:Hid (ys=onceR list level ((rs.zip lv).take (k+1))):=η (by
       rw [← HE.out,hys.out,he,List.take_of_length_le (Nat.le_refl _)]
       rfl)
      have HL2:Hid (ys.length≤(k+1) * 8100000000):=η (by
       have h1:=hyl.out
       have h2:=HQL.out
       rw [Nat.add_mul]
       omega)
      have HB8:=η (B5.out.trans (hB1.out.mono B5.out.size))
      clear he hys hyl
      go_wp2
      go_roundw
      case rel=>exact ⟨k+1,ys,byy,hlt,by go_num,HE2,HL2.out,hya,hY,hFY,HB8⟩
      case measure=>simp [intOf]; omega
   ·have hli:¬ (l:Int)=(level:Int):=by omega
    have HE:Hid (out=onceR list level ((rs.zip lv).take (k+1))):=η (by rw [HSN.out,← ho.out,if_neg hll])
    clear HSN hll
    go_wp2
    go_roundw
    case rel=>exact ⟨k+1,out,bo,hlt,by go_num,HE,Nat.le_trans hol (Nat.mul_le_mul_right _ (Nat.le_succ k)),hoa,hO,hFO,hBw⟩
    case measure=>simp [intOf]; omega
  ·have he:k=rs.length:=by omega
   have hk1:¬ (k:Int) < (rs.length:Int):=by omega
   have HE:Hid (out=onceR list level (rs.zip lv)):=η (by rw [ho.out,he,List.take_of_length_le (by rw [List.length_zip]; omega)])
   clear he ho
   go_wp2
   go_ret
   exact ⟨hBw.out,_,rfl,bo,by rw [← HE.out]; exact hO.out,hFO.out⟩
def D.LaidE (w:World):Prop:=w.cell? ⟨1,0,none⟩=some (.iface 291 (.agg #[.pointer (some ⟨2,114,none⟩)]))
theorem D.LaidE.below {w w':World} (h:LaidE w) (hb:Below w.heap.size w w'):LaidE w':=cell_later hb h
theorem D.ok_snoc (rs:List Ru) (k:Nat) (h:k < rs.length) (h0:(rs.take k).all ruleOk=true):(rs.take (k+1)).all ruleOk=ruleOk rs[k]:=by
 rw [List.take_succ_eq_append_getElem h,List.all_append,h0]; simp
theorem D.ok_bad (rs:List Ru) (k:Nat) (h:k < rs.length) (h0:ruleOk rs[k]=false):progC rs=1:=by
 unfold progC
 rw [if_pos (List.all_eq_false.2 ⟨_,List.getElem_mem h,by simp [h0]⟩)]
theorem progCheck_impl (rs:List Ru) (v:Value) (bs:List Nat) (w:World) (h:rulesK w [v] rs bs) (hg:LaidE w):
  Calls Tryz.prog 157 #[v] w fun e w'=>e=.returned (.int .i64 (progC rs))∧Below w.heap.size w w':=by
 obtain ⟨Ad,cap,rfl,hl,hm⟩:=sliceK_form h
 have hlm:=nat_ge_max (Nat.le_trans hl hm)
 have c1:=fun w' (hb:Below w.heap.size w w') (hok:rs.all ruleOk=true) (hf:rs.length≤8)=>argsOf_any rs _ bs w' (rulesK_good.below h hb) hok hf
 have c2:=fun w' (hb:Below w.heap.size w w')=>containsLoose_any rs _ bs w' (rulesK_good.below h hb)
 have c3:=fun w' (hb:Below w.heap.size w w') (hok:rs.all ruleOk=true) (hf:rs.length≤8)=>strataOf_any rs _ bs w' (rulesK_good.below h hb) hf hok
 have C1:=η c1
 have C2:=η c2
 have C3:=η c3
 have HG:=η hg
 clear hl hm c1 c2 c3 hg
 go_enter Tryz.func157,Tryz.ntmps157
 go_wp2
 go_loopw [12] (fun i wr=>∃ k:Nat,k≤rs.length∧i=.int .i64 k∧(rs.take k).all ruleOk=true∧Below w.heap.size w wr) (fun i _=>rs.length - (intOf i).toNat)
 case atStart=>exact ⟨0,Nat.zero_le _,rfl,rfl,Below.refl _ _⟩
 case round=>
  obtain ⟨k,hk,rfl,hall,hb⟩:=hrel
  have HA:=η hall
  clear hall
  by_cases hlt:k < rs.length
  ·clear C1 C2 C3 HG
   obtain ⟨b,o,Ae,ce,Af,cf,bk,rfl,_,d0,d1,d2,hel,_⟩:=rules_el (rulesK_good.below h hb) hlt
   have HS:=η (ok_snoc rs k hlt HA.out)
   have HBAD:=η (ok_bad rs k hlt)
   have hk0:(0:Int)≤(k:Int):=by omega
   have hk1:(k:Int) < (rs.length:Int):=by omega
   have HLT:=η hlt
   obtain ⟨b1,b2,_,hhd,hbd⟩:=rule_parts hel
   have hA:Below wr.heap.size wr (wr.alloc (.cells #[.string rs[k].head.name,.slice Ae rs[k].head.args.length ce,.slice Af rs[k].body.length cf] 71)):=(Below.refl _ _).alloc (Nat.le_refl _) _
   have c1:=fun w' (hw:Below wr.heap.size wr w')=>bodyOk_any rs[k].body _ b2 w' (partsK_good.below hbd hw)
   have c2:=fun w' (hw:Below wr.heap.size wr w')=>atomOk_impl rs[k].head _ _ b1 w' (atomK_good.below hhd hw)
   have x0:(wr.alloc (.cells #[.string rs[k].head.name,.slice Ae rs[k].head.args.length ce,.slice Af rs[k].body.length cf] 71)).cell? ⟨wr.heap.size,0,none⟩=some (.string rs[k].head.name):=by go_simp
   have x1:(wr.alloc (.cells #[.string rs[k].head.name,.slice Ae rs[k].head.args.length ce,.slice Af rs[k].body.length cf] 71)).cell? ⟨wr.heap.size,1,none⟩=some (.slice Ae rs[k].head.args.length ce):=by go_simp
   have X0:=η x0
   have X1:=η x1
   have C1:=η c1
   have C2:=η c2
   have HH:=η hA
   have HRO:Hid (ruleOk rs[k]=(bodyOkB rs[k].body && atomOk rs[k].head)):=η rfl
   clear h hel hhd hbd c1 c2 hA x0 x1
   generalize rs[k]=r at *
   clear hlt
   obtain ⟨⟨nm,args⟩,body⟩:=r
   dsimp only at *
   cases h1:bodyOkB body
   ·rw [h1] at C1
    have HZ:=η (HBAD.out (by rw [HRO.out,h1]; rfl))
    clear h1 HRO HBAD HS
    go_wp2_with fail
    refine (C1.out _ HH.out).mono ?_
    rintro e w2 ⟨rfl,hb2⟩
    have B2:=hb.trans ((HH.out.trans (hb2.mono HH.out.size)).mono hb.size)
    go_wp2
    go_ret
    exact ⟨ret_int (by simp [HZ.out]),B2⟩
   ·rw [h1] at C1
    go_wp2_with fail
    refine (C1.out _ HH.out).mono ?_
    rintro e w2 ⟨rfl,hb2⟩
    have B1:=HH.out.trans (hb2.mono HH.out.size)
    have x0:=cell_later hb2 X0.out
    have x1:=cell_later hb2 X1.out
    clear X0 X1 C1
    go_wp2_with fail
    refine (C2.out _ B1).mono ?_
    rintro e w3 ⟨rfl,hb3⟩
    have B3:=hb.trans ((B1.trans (hb3.mono B1.size)).mono hb.size)
    cases h2:atomOk ⟨nm,args⟩
    ·have HZ:=η (HBAD.out (by rw [HRO.out,h1,h2]; rfl))
     clear h1 HRO HBAD HS
     go_wp2
     go_ret
     exact ⟨ret_int (by simp [HZ.out]),B3⟩
    ·have HZ:=η (HS.out.trans (by rw [HRO.out,h1,h2,Bool.and_true]))
     clear h1 HRO HBAD HS
     go_wp2
     go_roundw
     case rel=>exact ⟨k+1,HLT.out,by go_num,HZ.out,B3⟩
     case measure=>have:=HLT.out; simp [intOf]; omega
  ·have he:k=rs.length:=by omega
   have hk1:¬ (k:Int) < (rs.length:Int):=by omega
   have hok:rs.all ruleOk=true:=by have:=HA.out; rw [he,List.take_of_length_le (Nat.le_refl _)] at this; exact this
   clear HA he h
   by_cases hf:rs.length≤8
   ·have hf1:¬ (8:Int) < (rs.length:Int):=by omega
    have hP:progC rs=if alikeB (allAtoms rs)=false then 3 else if (rs.all fun r=>tightB r.head r.body)=false then 4 else if cycB rs=true then 5 else 0:=by
     unfold progC; rw [if_neg (by simp [hok]),if_neg (by omega)]
    have C4:=η fun w' hb=>C1.out w' hb hok hf
    have C5:=η fun w' hb=>C3.out w' hb hok hf
    have HP:=η hP
    clear hok hf hP C1 C3
    go_wp2_with fail
    refine (C4.out _ hb).mono ?_
    rintro e w2 ⟨rfl,n,hM,hb2⟩
    have B2:=hb.trans (hb2.mono hb.size)
    clear C4 hM
    cases ha:alikeB (allAtoms rs)
    ·have HZ:Hid (progC rs=3):=η (by rw [HP.out,if_pos ha])
     clear HP ha
     go_wp2
     go_ret
     exact ⟨ret_int (by simp [HZ.out]),B2⟩
    ·replace HP:Hid (progC rs=if (rs.all fun r=>tightB r.head r.body)=false then 4 else if cycB rs=true then 5 else 0):=η (by rw [HP.out,if_neg (by simp [ha])])
     clear ha
     go_wp2_with fail
     refine (C2.out _ B2).mono ?_
     rintro e w3 ⟨rfl,hb3⟩
     have B3:=B2.trans (hb3.mono B2.size)
     clear C2
     cases ht:(rs.all fun r=>tightB r.head r.body)
     ·have HZ:Hid (progC rs=4):=η (by rw [HP.out,if_pos ht])
      clear HP ht
      go_wp2
      go_ret
      exact ⟨ret_int (by simp [HZ.out]),B3⟩
     ·replace HP:Hid (progC rs=if cycB rs=true then 5 else 0):=η (by rw [HP.out,if_neg (by simp [ht])])
      clear ht
      go_wp2_with fail
      refine (C5.out _ B3).mono ?_
      rintro e w4 ⟨hb4,hr⟩
      have B4:=B3.trans (hb4.mono B3.size)
      clear C5
      rcases hr with ⟨hc,a,rfl⟩ | ⟨hc,v',bs',rfl,_,_⟩
      ·have HZ:Hid (progC rs=5):=η (by rw [HP.out,if_pos hc])
       clear HP hc
       have hA:Below w4.heap.size w4 (w4.alloc (.cells #[.pointer none] 155)):=(Below.refl _ _).alloc (Nat.le_refl _) _
       have HGW:=η ((HG.out.below (B4)).below hA)
       have HTW:Hid ((w4.alloc (.cells #[.pointer none] 155)).cell? ⟨w4.heap.size,0,none⟩=some (.pointer none)):=η (by go_simp)
       have HFW:Hid ((w4.alloc (.cells #[.pointer none] 155)).frozen? ⟨w4.heap.size,0,none⟩=false):=η (by go_simp)
       have B5:=B4.trans (hA.mono B4.size)
       have HSW:Hid (w.heap.size≤w4.heap.size):=η B4.size
       clear hA
       go_wp2_with fail
       refine (errorsAs_hit _ _ _ _ HGW.out HTW.out HFW.out).mono ?_
       rintro e w5 ⟨rfl,hw5⟩
       have S0:=HSW.out
       have B6:=((((B5.alloc (by simp; omega) (.cells #[.pointer (some ⟨w4.heap.size,0,none⟩)] 257)).alloc (by simp; omega) (.cells #[.pointer (some ⟨2,257,none⟩),.pointer (some ⟨w4.heap.size+1,0,none⟩),.int .u64 150] 276)).alloc (by simp; omega) (.cells #[.pointer (some ⟨2,257,none⟩),.pointer (some ⟨w4.heap.size+1,0,none⟩),.int .u64 150] 276)).alloc (by simp; omega) (.cells #[.pointer (some a)] 155)).setCell (p:=⟨w4.heap.size,0,none⟩) S0 (.pointer (some a))
       have HB6:Hid (Below w.heap.size w w5):=η (by rw [hw5]; simpa using B6)
       clear B6 B5 B4 S0 hw5
       go_wp2
       go_ret
       exact ⟨ret_int (by simp [HZ.out]),HB6.out⟩
      ·have HZ:Hid (progC rs=0):=η (by rw [HP.out,if_neg (by simp [hc])])
       clear HP hc
       go_wp2_with fail
       refine (errorsAs_nil _ _).mono ?_
       rintro e w5 ⟨rfl,rfl⟩
       go_wp2
       go_ret
       exact ⟨ret_int (by simp [HZ.out]),B4.alloc B4.size _⟩
   ·have hf1:(8:Int) < (rs.length:Int):=by omega
    have HZ:Hid (progC rs=2):=η (by unfold progC; rw [if_neg (by simp [hok]),if_pos (by omega)])
    clear hok hf C1 C2 C3
    go_wp2
    go_ret
    exact ⟨ret_int (by simp [HZ.out]),hb⟩
end Go.Proofs.YtiidmgchadagbaaGreatDoor
