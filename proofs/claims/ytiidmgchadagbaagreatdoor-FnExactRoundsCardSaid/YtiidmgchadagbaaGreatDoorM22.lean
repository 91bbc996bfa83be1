/- Of the proof of FnExactRounds: PatI, WoS. -/
import Derived.Deep.RegionHeldLaw
import Derived.Test.YtiidmgchadagbaaGreatDoorM16
import Derived.Test.YtiidmgchadagbaaGreatDoorM17
set_option linter.unusedVariables false
set_option maxHeartbeats 4000000
set_option maxRecDepth 100000
namespace Go.Proofs.YtiidmgchadagbaaGreatDoor
open Go.RowKit D
attribute [local go_sem ↓] Go.wp_at_zero Go.wp_at_succ
theorem infoSlot:(Tryz.prog.info? 246).map (fun i=>(i.zero,i.size,i.bytes))=some (some (.agg #[.int .i64 0,.string ⟨#[]⟩]),2,24):=by kernel_rfl
theorem assertWVp (s:ByteArray) (w:World):(Instr.typeAssert (.iface 247 (.string s)) 241 243 true).run Tryz.prog w=.ok (.tuple #[.string ⟨#[]⟩,.bool false]) w:=by kernel_rfl
theorem D.size_none:(⟨#[]⟩:ByteArray).size≤maxLen:=by decide
theorem pattern_any (vars:List ByteArray) (a:A) (A1 A2:Option Addr) (n1 q1 n2 q2:Nat) (v3 c0 c1:Value) (b3 b1:List Nat) (w:World) (hv:strsK w [v3] vars b3) (hs:ascS vars) (hvl:vars.length≤1000000) (h:atomK w [c0,c1] a b1) (hin:∀ t ∈ a.args,t.var=true→t.name ∈ vars) (hal:a.args.length≤1000000):
  Calls Tryz.prog 140 #[.agg #[.slice A1 n1 q1,.slice A2 n2 q2,v3],.agg #[c0,c1]] w fun e w'=>∃ v bs,e=.returned (.agg #[.string a.name,v])∧Below w.heap.size w w'∧a.name.size≤maxLen∧slotsK vars w' [v] a.args bs∧New w.heap.size w' bs:=by
 obtain ⟨i0,hi,hz0,hz1,hz2⟩:=info_parts infoSlot
 obtain ⟨nm,args⟩:=a
 obtain ⟨Ae,ce,rfl,rfl⟩:=atom_cells2 h
 obtain ⟨A3,cp3,rfl,_⟩:=sliceK_form hv
 have hnm:nm.size≤maxLen:=by obtain ⟨_,_,h1,_⟩:=h; exact h1
 have ht:=atom_args h
 dsimp only at ht hin hal hnm ⊢
 have HIN:=η hin
 have HNM:=η hnm
 have HS:=η (And.intro hs hvl)
 have HT:=η ht
 have HV:=η hv
 clear h hs hvl hin hnm ht hv
 go_enter Tryz.func140,Tryz.ntmps140
 have hA:Below w.heap.size w ((((w.alloc (.cells #[.slice A1 n1 q1,.slice A2 n2 q2,.slice A3 vars.length cp3] 195)).alloc (.cells #[.string nm,.slice Ae args.length ce] 68)).alloc (.cells #[.string ⟨#[]⟩,.slice none 0 0] 199)).alloc (.cells #[.string nm,.slice none 0 0] 199)):=((((Below.refl _ _).alloc (Nat.le_refl _) _).alloc (by simp) _).alloc (by simp; omega) _).alloc (by simp; omega) _
 have hq:((((w.alloc (.cells #[.slice A1 n1 q1,.slice A2 n2 q2,.slice A3 vars.length cp3] 195)).alloc (.cells #[.string nm,.slice Ae args.length ce] 68)).alloc (.cells #[.string ⟨#[]⟩,.slice none 0 0] 199)).alloc (.cells #[.string nm,.slice none 0 0] 199)).heap[w.heap.size]? = some (.cells #[.slice A1 n1 q1,.slice A2 n2 q2,.slice A3 vars.length cp3] 195 (0,0)):=by
  rw [Below.heap_alloc _ _ _ (by simp; omega),Below.heap_alloc _ _ _ (by simp; omega),Below.heap_alloc _ _ _ (by simp)]; exact heap_alloc_new _ _
 have hr0:((((w.alloc (.cells #[.slice A1 n1 q1,.slice A2 n2 q2,.slice A3 vars.length cp3] 195)).alloc (.cells #[.string nm,.slice Ae args.length ce] 68)).alloc (.cells #[.string ⟨#[]⟩,.slice none 0 0] 199)).alloc (.cells #[.string nm,.slice none 0 0] 199)).heap[w.heap.size+2]? = some (.cells #[.string ⟨#[]⟩,.slice none 0 0] 199 (0,0)):=by
  rw [Below.heap_alloc _ _ _ (by simp)]
  have:=heap_alloc_new ((w.alloc (.cells #[.slice A1 n1 q1,.slice A2 n2 q2,.slice A3 vars.length cp3] 195)).alloc (.cells #[.string nm,.slice Ae args.length ce] 68)) (.cells #[.string ⟨#[]⟩,.slice none 0 0] 199)
  simpa using this
 have hr1:((((w.alloc (.cells #[.slice A1 n1 q1,.slice A2 n2 q2,.slice A3 vars.length cp3] 195)).alloc (.cells #[.string nm,.slice Ae args.length ce] 68)).alloc (.cells #[.string ⟨#[]⟩,.slice none 0 0] 199)).alloc (.cells #[.string nm,.slice none 0 0] 199)).heap[w.heap.size+3]? = some (.cells #[.string nm,.slice none 0 0] 199 (0,0)):=by
  have:=heap_alloc_new (((w.alloc (.cells #[.slice A1 n1 q1,.slice A2 n2 q2,.slice A3 vars.length cp3] 195)).alloc (.cells #[.string nm,.slice Ae args.length ce] 68)).alloc (.cells #[.string ⟨#[]⟩,.slice none 0 0] 199)) (.cells #[.string nm,.slice none 0 0] 199)
  simpa using this
 have HI0:Hid (TwoB 2 (slotK vars) 246 199 w (w.heap.size+2) (w.heap.size+3) (w.heap.size+4) nm (.slice none 0 0) [] [] ((((w.alloc (.cells #[.slice A1 n1 q1,.slice A2 n2 q2,.slice A3 vars.length cp3] 195)).alloc (.cells #[.string nm,.slice Ae args.length ce] 68)).alloc (.cells #[.string ⟨#[]⟩,.slice none 0 0] 199)).alloc (.cells #[.string nm,.slice none 0 0] 199))):=
  η ⟨hr0,hr1,by omega,by omega,by omega,Coll.nil _,hA,by simp⟩
 have HQ:=η hq
 clear hA hq hr0 hr1
 go_wp2
 generalize ((((w.alloc (.cells #[.slice A1 n1 q1,.slice A2 n2 q2,.slice A3 vars.length cp3] 195)).alloc (.cells #[.string nm,.slice Ae args.length ce] 68)).alloc (.cells #[.string ⟨#[]⟩,.slice none 0 0] 199)).alloc (.cells #[.string nm,.slice none 0 0] 199))=W at *
 go_loopw [18] (fun i wr=>∃ (k:Nat) (Av:Option Addr) (cv:Nat) (L:List Value),k≤args.length∧i=.int .i64 k∧TwoB 2 (slotK vars) 246 199 w (w.heap.size+2) (w.heap.size+3) (w.heap.size+4) nm (.slice Av k cv) L (args.take k) wr∧wr.heap[w.heap.size]? = some (.cells #[.slice A1 n1 q1,.slice A2 n2 q2,.slice A3 vars.length cp3] 195 (0,0))) (fun i _=>args.length - (intOf i).toNat)
 case atStart=>exact ⟨0,none,0,[],Nat.zero_le _,rfl,HI0.out,HQ.out⟩
 case round=>
  obtain ⟨k,Av,cv,L,hk,rfl,hI,hq⟩:=hrel
  clear HI0 HQ
  by_cases hlt:k < args.length
  ·obtain ⟨b,o,rfl,_,f0,f1,hsz⟩:=terms_at (termsK_good.below HT.out (hI.bel.mono (Nat.le_refl _))) hlt
   have hk0:(0:Int)≤(k:Int):=by omega
   have hk1:(k:Int) < (args.length:Int):=by omega
   have HLT:=η hlt
   have HTK:=η (List.take_succ_eq_append_getElem hlt)
   have hA2:Below wr.heap.size wr (wr.alloc (.cells #[.bool args[k].var,.string args[k].name] 109)):=(Below.refl _ _).alloc (Nat.le_refl _) _
   have HI1:=η (hI.later (slotK_good vars) hA2)
   have HQ1:=η ((hA2.block _ (lt_of_block hq)).trans hq)
   have HMEM:=η (HIN.out args[k] (List.getElem_mem hlt))
   have HKD:=fun w=>kindOf_any args[k] w
   have HSZ:=η hsz
   have HLK:Hid (((args.take k).length)=k):=η (by simp; omega)
   have H63:Hid (k+1≤maxLen):=η (by unfold maxLen; omega)
   have HBY:Hid ((k+1) * 24≤140737488355328):=η (by omega)
   have a1:=assertVV
   have a2:=assertWVp
   have a3:=assertWW
   clear hI hq hA2 hsz hk
   generalize args[k]=t at *
   clear hlt
   obtain ⟨tv,tn⟩:=t
   dsimp only at *
   cases tv
   ·have HVT:=fun w=>wordText_any tn w
    have HR:Hid (∀ w,slotK vars w [.int .i64 (-1),.string tn] ⟨false,tn⟩ []):=η fun w=>⟨rfl,HSZ.out,rfl⟩
    simp only [Bool.false_eq_true,if_false] at HKD
    go_wp2_with fail
    refine (HKD _).mono ?_
    rintro e w2 ⟨rfl,hb2⟩
    have HI2:=η (HI1.out.later (slotK_good vars) (hb2.trans (Below.refl _ _).drew))
    have hI2:=HI1.out.later (slotK_good vars) hb2
    have hq2:=(hb2.block _ (lt_of_block HQ1.out)).trans HQ1.out
    have HQ2:=η hq2
    have q1:w2.cell? ⟨w.heap.size+3,1,none⟩=some (.slice Av k cv):=cell_of_blk hI2.r1
    have q2:w2.frozen? ⟨w.heap.size+3,1,none⟩=false:=frozen_of_blk hI2.r1
    have q3:w.heap.size+3 < w2.heap.size:=lt_of_block hI2.r1
    have HL:=η (HI2.out.lit (slotK_good vars) (slotK_ones vars) HR.out)
    have ET:(vars.idxOf tn:Nat)=(vars.idxOf tn:Nat):=rfl
    clear HKD HI1 HQ1 hI2 hq2 HR ET
    go_wp2
    go_region_law
     (first
      | (go_simp; go_at_call 177; refine (HVT _).mono ?_; rintro e w5 ⟨rfl,rfl⟩)
      | (refine step_coll (by rfl) (.tmp 46) (.tmp 50) _ (by rfl) (w.heap.size+4) 246 i0 (.agg #[.int .i64 0,.string ⟨#[]⟩]) 2 24 Tryz.underlying197 hi hz0 hz1 hz2 rfl (Nat.zero_lt_succ 1) (slotK_good vars) (.slice Av k cv) k L _ [] (by rfl) HL.out.1 HLK.out (some ⟨w2.heap.size,0,none⟩) 1 1 _ [⟨false,tn⟩] _ (by rfl) HL.out.2.1 rfl HL.out.2.2.1 (fun b hb=>by simp at hb) H63.out HBY.out w2.drew (w.heap.size+4) HL.out.2.2.2.1 (Nat.le_refl _) HL.out.2.2.2.2 ?_; intro A5 c5 w5 hC5 hB5 hS5 hG5; have HZ:=η (HI2.out.app (slotK_good vars) hC5 hB5); replace q1:=HZ.out.1; replace q2:=HZ.out.2.1; clear hC5 hB5 hS5 hG5))
    all_goals
     have HI9:=η HZ.out.2.2.1
     have HQ9:=η ((HZ.out.2.2.2 w.heap.size (by omega) (by omega)).trans HQ2.out)
     clear HI2 HL HZ HQ2 q1 q2 q3
     go_wp2
     go_roundw
     case rel=>exact ⟨k+1,A5,c5,_,HLT.out,by go_num,by rw [HTK.out]; exact HI9.out,HQ9.out⟩
     case measure=>have:=HLT.out; simp [intOf]; omega
   ·simp only [if_true] at HKD
    have HVT:=fun w=>varText_any tn w
    have HSR:Hid (∀ w',Below w.heap.size w w'→Calls Tryz.prog 175 #[.slice A3 vars.length cp3,.string tn] w' fun e w''=>e=.returned (.tuple #[.int .i64 (vars.idxOf tn:Nat),.bool true])∧Below w'.heap.size w' w''):=
     η fun w' hb=>searchS_any vars tn _ b3 w' (strsK_good.below HV.out hb) HS.out.1 (HMEM.out rfl) HS.out.2
    have HR:Hid (∀ w,slotK vars w [.int .i64 (vars.idxOf tn:Nat),.string ⟨#[]⟩] ⟨true,tn⟩ []):=η fun w=>⟨rfl,size_none,rfl⟩
    obtain ⟨x,hx⟩:∃ x,x=vars.idxOf tn:=⟨_,rfl⟩
    rw [← hx] at HR HSR
    clear hx
    go_wp2_with fail
    refine (HKD _).mono ?_
    rintro e w2 ⟨rfl,hb2⟩
    have hI2:=HI1.out.later (slotK_good vars) hb2
    have hq2:=(hb2.block _ (lt_of_block HQ1.out)).trans HQ1.out
    have HB2:=η hI2.bel
    have HI2:=η hI2
    have HQ2:=η hq2
    have q1:w2.cell? ⟨w.heap.size,2,none⟩=some (.slice A3 vars.length cp3):=cell_of_blk hq2
    have hSR:=HSR.out w2.drew HB2.out.drew
    clear HKD HI1 HQ1 hI2 hq2 HSR hb2
    go_wp2
    go_region_held3 (fun w'=>w'.cell? ⟨w.heap.size,2,none⟩=some (.slice A3 vars.length cp3))
     (first | go_keep | exact y0)
     (first
      | (go_at_call 176; refine (HVT _).mono ?_; rintro e w5 ⟨rfl,rfl⟩; have y0:=q1)
      | (go_at_call 175; refine hSR.mono ?_; rintro e w3 ⟨rfl,hb3⟩; have y0:=cell_later hb3 q1))
    have hB23:Below w2.heap.size w2 w3:=(Below.refl _ _).drew.trans hb3
    have hI3:=HI2.out.later (slotK_good vars) hB23
    have HI3:=η hI3
    have HQ3:=η ((hB23.block _ (lt_of_block HQ2.out)).trans HQ2.out)
    have HL:=η (hI3.lit (slotK_good vars) (slotK_ones vars) HR.out)
    have q1:w3.cell? ⟨w.heap.size+3,1,none⟩=some (.slice Av k cv):=cell_of_blk hI3.r1
    have q2:w3.frozen? ⟨w.heap.size+3,1,none⟩=false:=frozen_of_blk hI3.r1
    have q3:w.heap.size+3 < w3.heap.size:=lt_of_block hI3.r1
    clear hB23 hI3 HI2 HQ2 hSR HB2 HVT HR hb3
    go_wp2_with (first | (at_builtin; refine wpList_coll (by rfl) (.tmp 36) (.tmp 39) _ (by rfl) (w.heap.size+4) 246 i0 (.agg #[.int .i64 0,.string ⟨#[]⟩]) 2 24 Tryz.underlying197 hi hz0 hz1 hz2 rfl (Nat.zero_lt_succ 1) (slotK_good vars) (.slice Av k cv) k L _ [] (by rfl) HL.out.1 HLK.out (some ⟨w3.heap.size,0,none⟩) 1 1 _ [⟨true,tn⟩] _ (by rfl) HL.out.2.1 rfl HL.out.2.2.1 (fun b hb=>by simp at hb) H63.out HBY.out w3 (w.heap.size+4) HL.out.2.2.2.1 (Nat.le_refl _) HL.out.2.2.2.2 ?_; intro A5 c5 w5 hC5 hB5 hS5 hG5; have HZ:=η (HI3.out.app (slotK_good vars) hC5 hB5); replace q1:=HZ.out.1; replace q2:=HZ.out.2.1; clear hC5 hB5 hS5 hG5) | go_in)
    have HI9:=η HZ.out.2.2.1
    have HQ9:=η ((HZ.out.2.2.2 w.heap.size (by omega) (by omega)).trans HQ3.out)
    clear HI3 HL HZ HQ3 q1 q2 q3
    go_wp2
    go_roundw
    case rel=>exact ⟨k+1,A5,c5,_,HLT.out,by go_num,by rw [HTK.out]; exact HI9.out,HQ9.out⟩
    case measure=>have:=HLT.out; simp [intOf]; omega
  ·have he:k=args.length:=by omega
   have hk1:¬ (k:Int) < (args.length:Int):=by omega
   obtain ⟨W9,hW9,hB9,hb9,b9,hs9,hn9⟩:=hI.done (slotK_good vars)
   have y0:wr.cell? ⟨w.heap.size+3,0,none⟩=some (.string nm):=cell_of_blk hI.r1
   have y1:wr.cell? ⟨w.heap.size+3,1,none⟩=some (.slice Av k cv):=cell_of_blk hI.r1
   have f0:wr.frozen? ⟨w.heap.size+2,0,none⟩=false:=frozen_of_blk hI.r0
   have f1:wr.frozen? ⟨w.heap.size+2,1,none⟩=false:=frozen_of_blk hI.r0
   have z0:wr.cell? ⟨w.heap.size+2,0,none⟩=some (.string ⟨#[]⟩):=cell_of_blk hI.r0
   have z1:wr.cell? ⟨w.heap.size+2,1,none⟩=some (.slice none 0 0):=cell_of_blk hI.r0
   have u0:W9.cell? ⟨w.heap.size+2,0,none⟩=some (.string nm):=cell_of_blk hb9
   have u1:W9.cell? ⟨w.heap.size+2,1,none⟩=some (.slice Av k cv):=cell_of_blk hb9
   have HD:Hid (∃ v bs,Ending.returned (.agg #[.string nm,.slice Av k cv])=.returned (.agg #[.string nm,v])∧Below w.heap.size w W9∧nm.size≤maxLen∧slotsK vars W9 [v] args bs∧New w.heap.size W9 bs):=
    η ⟨_,b9,rfl,hB9,HNM.out,by rw [← List.take_of_length_le (Nat.le_of_eq he.symm) (l:=args)]; exact hs9,hn9.mono (by omega)⟩
   have HW9:=η hW9
   have HU:=η (And.intro u0 u1)
   clear hI hq hB9 hb9 hs9 hn9 hW9 he u0 u1
   go_wp2
   rw [← HW9.out]
   refine bodyPost_ret (v:=.agg #[.string nm,.slice Av k cv]) (by simp [results,Tryz.results140,go_sem,HU.out.1,HU.out.2]) rfl (by obtain ⟨v,bs,q1,q2,q3,q4,q5⟩:=HD.out; exact ⟨v,q1,q2,q3,bs,q4,q5⟩)
theorem infoBindW:(Tryz.prog.info? 141).map (fun i=>(i.zero,i.size,i.bytes))=some (some (.agg #[.slice none 0 0,.slice none 0 0]),2,48):=by kernel_rfl
theorem D.bindK_ones:Ones 2 bindK:=fun h=>by
 obtain ⟨s,v,b1,b2,rfl,_,h1,h2⟩:=h
 obtain ⟨A1,p1,rfl,_⟩:=sliceK_form h1
 obtain ⟨A2,p2,rfl,_⟩:=sliceK_form h2
 simp [Value.oneCell']
theorem D.binds_el {w:World} {Ad:Option Addr} {len cap k:Nat} {xs:List Bd} {bs:List Nat} (h:bindsK w [.slice Ad len cap] xs bs) (hk:k < xs.length):
  ∃ b o A1 p1 A2 p2 bk,Ad=some ⟨b,o,none⟩∧b ∈ bs∧w.cell? ⟨b,o+k * 2,none⟩=some (.slice A1 xs[k].length p1)∧w.cell? ⟨b,o+k * 2+1,none⟩=some (.slice A2 xs[k].length p2)∧bindK w [.slice A1 xs[k].length p1,.slice A2 xs[k].length p2] xs[k] bk∧∀ c ∈ bk,c ∈ bs:=by
 obtain ⟨b,o,cs,bk,rfl,hb,hcs,hcell,hR,hsub⟩:=sliceK_at h hk
 obtain ⟨A1,p1,A2,p2,rfl⟩:=bind_cells hR
 exact ⟨b,o,A1,p1,A2,p2,bk,rfl,hb,by simpa using hcell 0 _ rfl,by simpa [Nat.add_assoc] using hcell 1 _ rfl,hR,hsub⟩
theorem D.freeB_snoc (list:List A) (body:List Pt) (b:Bd) (k:Nat) (h:k < body.length):freeB list (body.take (k+1)) b=(freeB list (body.take k) b && (!body[k].no || !hasB list (fillB body[k].atom b))):=by
 unfold freeB
 rw [List.take_succ_eq_append_getElem h,List.all_append]
 simp
theorem l4Without_any (list:List A) (body:List Pt) (all:List Bd) (v0 v1 v2:Value) (bl bb ba:List Nat) (w:World) (hl:atomsK w [v0] list bl) (hb:partsK w [v1] body bb) (h:bindsK w [v2] all ba)
  (hasc:asc list=true) (hn:all.length≤10000000000) (hbl:∀ p ∈ body,p.atom.args.length≤1000000):
  Calls Tryz.prog 126 #[v0,v1,v2] w fun e w'=>Below w.heap.size w w'∧∃ v bs,e=.returned v∧bindsK w' [v] (all.filter (freeB list body)) bs:=by
 obtain ⟨Al,pl,rfl,hl1,hl2⟩:=sliceK_form hl
 obtain ⟨Ab,pb,rfl,hb1,hb2⟩:=sliceK_form hb
 obtain ⟨Aa,pa,rfl,ha1,ha2⟩:=sliceK_form h
 obtain ⟨i0,hi,hz0,hz1,hz2⟩:=info_parts infoBindW
 have hlm:=nat_ge_max (Nat.le_trans hb1 hb2)
 have hlm2:=nat_ge_max (Nat.le_trans ha1 ha2)
 have HL:=η hl
 have HB:=η hb
 have HA:=η h
 have HBL:=η hbl
 clear hl hb h hl1 hl2 hb2 ha2 hbl
 have hA0:Below w.heap.size w (w.alloc (.cells #[] 141)):=(Below.refl _ _).alloc (Nat.le_refl _) _
 have hE:Coll 2 bindK w.heap.size 141 (w.alloc (.cells #[] 141)) (.slice (some ⟨w.heap.size,0,none⟩) 0 0) [] [] []:=Coll.empty (heap_alloc_new w _) (Nat.le_refl _)
 go_enter Tryz.func126,Tryz.ntmps126
 go_wp2_with fail
 generalize w.alloc (.cells #[] 141)=w0 at *
 go_loopw [7,8,9,10] (fun o i _ _ wr=>∃ (k:Nat) (Am:Option Addr) (cm:Nat) (L:List Value) (bs:List Nat),k≤all.length∧i=.int .i64 k∧o=.slice Am ((all.take k).filter (freeB list body)).length cm∧Hid (Coll 2 bindK w.heap.size 141 wr (.slice Am ((all.take k).filter (freeB list body)).length cm) L ((all.take k).filter (freeB list body)) bs)∧Hid (Below w.heap.size w wr)) (fun _ i _ _ _=>all.length - (intOf i).toNat)
 case atStart=>exact ⟨0,_,_,_,_,Nat.zero_le _,rfl,rfl,η hE,η hA0⟩
 case round=>
  obtain ⟨k,Am,cm,L,bs,hk,rfl,rfl,hC,hBw⟩:=hrel
  clear hE hA0
  by_cases hlt:k < all.length
  ·have hk0:(0:Int)≤(k:Int):=by omega
   have hk1:(k:Int) < (all.length:Int):=by omega
   have HSN:Hid ((all.take (k+1)).filter (freeB list body)=(all.take k).filter (freeB list body) ++ (if freeB list body all[k] then [all[k]] else [])):=η (by
    rw [List.take_succ_eq_append_getElem hlt,List.filter_append]
    congr 1
    by_cases hf:freeB list body all[k]=true
    ·simp [List.filter,hf]
    ·simp [List.filter,hf])
   have HLEN:Hid (((all.take k).filter (freeB list body)).length≤k):=η (Nat.le_trans (List.length_filter_le _ _) (by simp; omega))
   generalize hys:(all.take k).filter (freeB list body)=ys at *
   generalize hb0:all[k]=b0 at *
   clear hys
   generalize wr=wo at *
   go_wp2_with fail
   go_loopw [9,10] (fun ok i wr=>∃ (j:Nat),j≤body.length∧i=.int .i64 j∧ok=.bool (freeB list (body.take j) b0)∧Hid (Below wo.heap.size wo wr)) (fun _ i _=>body.length - (intOf i).toNat)
   case atStart=>exact ⟨0,Nat.zero_le _,rfl,rfl,η (Below.refl _ _)⟩
   case round=>
    obtain ⟨j,hj,rfl,rfl,hB2⟩:=hrel
    have hBW2:=hBw.out.trans (hB2.out.mono hBw.out.size)
    by_cases hjt:j < body.length
    ·obtain ⟨pb1,po,Ae,ce,bk,rfl,_,e0,e1,e2,hel,_⟩:=parts_el (partsK_good.below HB.out hBW2) hjt
     obtain ⟨ab1,ao,A1,p1,A2,p2,bq,rfl,_,d0,d1,hbd,_⟩:=binds_el (bindsK_good.below HA.out hBW2) hlt
     rw [hb0] at d0 d1 hbd
     have hj0:(0:Int)≤(j:Int):=by omega
     have hj1:(j:Int) < (body.length:Int):=by omega
     have HFS:=η (freeB_snoc list body b0 j hjt)
     have HJT:=η hjt
     have HAL:=η (HBL.out _ (List.getElem_mem hjt))
     generalize body[j]=p at *
     obtain ⟨pno,px⟩:=p
     dsimp only at *
     cases hfb:freeB list (body.take j) b0 with
     | false=>
      have HZ:Hid (freeB list (body.take (j+1)) b0=false):=η (by rw [HFS.out,hfb]; rfl)
      clear HFS hfb e0 e1 e2 hel d0 d1 hbd
      go_wp2_with fail
      go_quiet (fail)
      go_wp2
      go_roundw
      case rel=>exact ⟨j+1,hjt,by go_num,by rw [HZ.out],η (below_drewN hB2.out _)⟩
      case measure=>simp [intOf]; omega
     | true=>
      cases pno with
      | false=>
       have HZ:Hid (freeB list (body.take (j+1)) b0=true):=η (by rw [HFS.out,hfb]; rfl)
       clear HFS hfb e1 e2 hel d0 d1 hbd
       go_wp2_with fail
       go_quiet (fail)
       go_wp2
       go_roundw
       case rel=>exact ⟨j+1,hjt,by go_num,by rw [HZ.out],η (below_drewN hB2.out _)⟩
       case measure=>simp [intOf]; omega
      | true=>
       have HZ:Hid (freeB list (body.take (j+1)) b0 = !hasB list (fillB px b0)):=η (by rw [HFS.out,hfb]; simp)
       have hat:atomK wr [.string px.name,.slice Ae px.args.length ce] px bk:=by
        obtain ⟨t,hcs,h1,h2⟩:=hel
        simp only [List.cons.injEq,true_and,and_true] at hcs
        subst hcs
        exact ⟨_,rfl,h1,h2⟩
       have hD:Below wr.heap.size wr wr.drew:=Below.drew (Below.refl _ _)
       have q1:=fun w' (hb:Below wr.heap.size wr w')=>fill_any px b0 _ _ _ _ bk bq w' (atomK_good.below hat hb) (bindK_good.below hbd hb) HAL.out
       have q2:=fun w' (hb:Below wr.heap.size wr w') d0 d1 b5 (h5:atomK w' [d0,d1] (fillB px b0) b5)=>l3Has_any list (fillB px b0) _ d0 d1 bl b5 w' (atomsK_good.below HL.out (hBW2.trans (hb.mono hBW2.size))) h5 hasc
       have Q1:=η q1
       have Q2:=η q2
       clear HFS hfb hel hbd q1 q2 hat
       go_wp2_with fail
       go_region_held3 (fun w'=>w'.cell? ⟨pb1,po+j * 3,none⟩=some (.bool true)∧w'.cell? ⟨pb1,po+j * 3+1,none⟩=some (.string px.name)∧w'.cell? ⟨pb1,po+j * 3+2,none⟩=some (.slice Ae px.args.length ce)∧w'.cell? ⟨ab1,ao+k * 2,none⟩=some (.slice A1 b0.length p1)∧w'.cell? ⟨ab1,ao+k * 2+1,none⟩=some (.slice A2 b0.length p2))
        (first | go_keep | exact hq | exact hq2)
        (first
         | (go_at_call 96; refine (Q1.out _ hD).mono ?_; rintro e w5 ⟨hb5,g0,g1,b5,rfl,h5,_⟩; have B5:=hD.trans (hb5.mono hD.size); have hq:=And.intro (cell_later B5 e0) (And.intro (cell_later B5 e1) (And.intro (cell_later B5 e2) (And.intro (cell_later B5 d0) (cell_later B5 d1)))))
         | (go_at_call 77; refine (Q2.out _ B5 _ _ _ h5).mono ?_; rintro e w6 ⟨rfl,hb6⟩; have B6:=B5.trans (hb6.mono B5.size); have hq2:=And.intro (cell_later B6 e0) (And.intro (cell_later B6 e1) (And.intro (cell_later B6 e2) (And.intro (cell_later B6 d0) (cell_later B6 d1))))))
       have HB6:=η (hB2.out.trans (B6.mono hB2.out.size))
       clear Q1 Q2 hq hq2 h5 hb5 hb6 B5 B6 e0 e1 e2 d0 d1
       go_wp2
       go_roundw
       case rel=>exact ⟨j+1,hjt,by go_num,by rw [HZ.out],HB6⟩
       case measure=>simp [intOf]; omega
    ·have he:j=body.length:=by omega
     have hj1:¬ (j:Int) < (body.length:Int):=by omega
     have HFR:Hid (freeB list (body.take j) b0=freeB list body b0):=η (by rw [he,List.take_of_length_le (Nat.le_refl _)])
     have HC2:=η (hC.out.below bindK_good hB2.out)
     have HBW2:=η hBW2
     clear he hj
     cases hfb:freeB list (body.take j) b0 with
     | false=>
      have HE:Hid ((all.take (k+1)).filter (freeB list body)=ys):=η (by rw [HSN.out,← HFR.out,hfb]; simp)
      clear hfb HSN HFR
      go_wp2
      go_roundw
      case rel=>exact ⟨k+1,Am,cm,L,bs,hlt,by go_num,by rw [HE.out],by rw [HE.out]; exact HC2,HBW2⟩
      case measure=>simp [intOf]; omega
     | true=>
      have HE:Hid ((all.take (k+1)).filter (freeB list body)=ys ++ [b0]):=η (by rw [HSN.out,← HFR.out,hfb]; simp)
      obtain ⟨ab1,ao,A1,p1,A2,p2,bq,rfl,_,d0,d1,hbd,hsub⟩:=binds_el (bindsK_good.below HA.out hBW2) hlt
      rw [hb0] at d0 d1 hbd
      clear hfb HSN HFR
      have hAt:Below wr.heap.size wr (wr.alloc (.cells #[.slice A1 b0.length p1,.slice A2 b0.length p2] 141)):=(Below.refl _ _).alloc (Nat.le_refl _) _
      have hfar:∀ c ∈ bq,(Value.slice Am ys.length cm).ownBlock ≠ some c:=fun c hc e=>by
       have h1:=(own_inn HC2.out.own c e).1
       have h2:=bindsK_good.lt HA.out c (hsub c hc)
       omega
      have HLL:Hid (Coll 2 bindK w.heap.size 141 (wr.alloc (.cells #[.slice A1 b0.length p1,.slice A2 b0.length p2] 141)) (.slice Am ys.length cm) L ys bs∧Rowed 2 bindK (wr.alloc (.cells #[.slice A1 b0.length p1,.slice A2 b0.length p2] 141)) [.slice A1 b0.length p1,.slice A2 b0.length p2] [b0] bq∧Lies (wr.alloc (.cells #[.slice A1 b0.length p1,.slice A2 b0.length p2] 141)) (some ⟨wr.heap.size,0,none⟩) [.slice A1 b0.length p1,.slice A2 b0.length p2]∧Below w.heap.size w (wr.alloc (.cells #[.slice A1 b0.length p1,.slice A2 b0.length p2] 141))∧w.heap.size≤(wr.alloc (.cells #[.slice A1 b0.length p1,.slice A2 b0.length p2] 141)).heap.size∧∀ c ∈ bq,(Value.slice Am ys.length cm).ownBlock ≠ some c):=
       η ⟨HC2.out.below bindK_good hAt,Rowed.one_el bindK_ones (bindK_good.below hbd hAt),lies_block (heap_alloc_new wr _),HBW2.out.trans (hAt.mono HBW2.out.size),Nat.le_trans HBW2.out.size hAt.size,hfar⟩
      have H63:Hid (ys.length+1≤maxLen):=η (by have:=HLEN.out; unfold maxLen; omega)
      have HBY:Hid ((ys.length+1) * 48≤140737488355328):=η (by have:=HLEN.out; omega)
      clear hAt hfar hbd hC hBw hBW2 hB2 HC2
      go_wp2_with (at_builtin; refine wpList_coll rfl _ _ _ rfl w.heap.size 141 i0 (.agg #[.slice none 0 0,.slice none 0 0]) 2 48 Tryz.underlying136 hi hz0 hz1 hz2 rfl (Nat.zero_lt_succ 1) bindK_good (.slice Am ys.length cm) ys.length L _ bs rfl HLL.out.1 rfl (some ⟨wr.heap.size,0,none⟩) 1 1 _ [b0] bq rfl HLL.out.2.1 rfl HLL.out.2.2.1 HLL.out.2.2.2.2.2 H63.out HBY.out w w.heap.size HLL.out.2.2.2.1 (Nat.le_refl _) HLL.out.2.2.2.2.1 ?_; intro A4 c4 w4 hC4 hB4 hS4 hG4; have HZ:=η (And.intro hC4 hB4); clear hC4 hB4 hS4 hG4)
      go_roundw
      case rel=>exact ⟨k+1,A4,c4,_,_,hlt,by go_num,by rw [HE.out,List.length_append]; rfl,by rw [HE.out,List.length_append]; exact η HZ.out.1,η HZ.out.2⟩
      case measure=>simp [intOf]; omega
  ·have he:k=all.length:=by omega
   have hk1:¬ (k:Int) < (all.length:Int):=by omega
   have HR:Hid (∃ b2,bindsK wr [.slice Am ((all.take k).filter (freeB list body)).length cm] (all.filter (freeB list body)) b2):=η (by
    obtain ⟨b2,h2,_⟩:=hC.out.slice
    rw [he,List.take_of_length_le (Nat.le_refl _)] at h2
    rw [he,List.take_of_length_le (Nat.le_refl _)]
    exact ⟨b2,h2⟩)
   clear hC he hk
   go_wp2
   go_ret
   exact ⟨hBw.out,_,rfl,HR.out⟩
end Go.Proofs.YtiidmgchadagbaaGreatDoor
