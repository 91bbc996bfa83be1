/- Of the proof of FnExactRounds: ArgsI, TightS, RuleS, Grnd. -/
import Derived.Test.YtiidmgchadagbaaGreatDoorM14
import Derived.Test.YtiidmgchadagbaaGreatDoorM10
set_option linter.unusedVariables false
set_option maxHeartbeats 2000000
set_option maxRecDepth 100000
namespace Go.Proofs.YtiidmgchadagbaaGreatDoor
open Go.RowKit D
attribute [local go_sem ↓] Go.wp_at_zero Go.wp_at_succ
structure D.NInv (w:World) (B n:Nat) (st:List ByteArray × (ByteArray→Int) × Bool) (wr:World):Prop where
 map:MapF B n st.1 st.2.1 wr
 bm:wr.heap[B+1]? = some (.cells #[.map (some B)] 85 (0,0))
 bb:wr.heap[B+2]? = some (.cells #[.bool st.2.2] 4 (0,0))
 bel:Below B w wr
theorem D.NInv.later {w wr w':World} {B n:Nat} {st:List ByteArray × (ByteArray→Int) × Bool} (h:NInv w B n st wr) (hb:Below wr.heap.size wr w'):NInv w B n st w':=
 ⟨h.map.below hb h.map.lt,(hb.block _ (lt_of_block h.bm)).trans h.bm,(hb.block _ (lt_of_block h.bb)).trans h.bb,h.bel.trans (hb.mono (Nat.le_of_lt (Nat.lt_of_le_of_lt (Nat.le_add_right _ _) (lt_of_block h.bm))))⟩
theorem note_any (a:A) (c0 c1:Value) (bs:List Nat) (w0 w:World) (B n:Nat) (st:List ByteArray × (ByteArray→Int) × Bool) (h:atomK w [c0,c1] a bs) (hI:NInv w0 B n st w) (hB:w0.heap.size≤B)
  (hn:n+1≤1000000) (ha:a.args.length≤1000000) (hr:∀ s ∈ st.1,0≤st.2.1 s∧st.2.1 s≤1000000):
  Calls Tryz.prog 158 #[.agg #[c0,c1],.pointer (some ⟨B+1,0,none⟩),.pointer (some ⟨B+2,0,none⟩)] w fun e w'=>e=.returned (.tuple #[])∧NInv w0 B (n+1) (argStep st a) w'∧∀ c,c < w.heap.size→c ≠ B→c ≠ B+2→w'.heap[c]? = w.heap[c]?:=by
 obtain ⟨s,hcs,hsz,ht⟩:=h
 simp only [List.cons.injEq,and_true] at hcs
 obtain ⟨rfl,rfl⟩:=hcs
 obtain ⟨Ad,cap,rfl,hl,hm⟩:=sliceK_form ht
 have hlm:=nat_ge_max (Nat.le_trans hl hm)
 obtain ⟨nm,args⟩:=a
 obtain ⟨L,f,al⟩:=st
 dsimp only at *
 have hb1:=lt_of_block hI.bm
 have hb2:=lt_of_block hI.bb
 have cM:w.cell? ⟨B+1,0,none⟩=some (.map (some B)):=cell_of_one hI.bm
 have cB:w.cell? ⟨B+2,0,none⟩=some (.bool al):=cell_of_one hI.bb
 have fB:w.frozen? ⟨B+2,0,none⟩=false:=free_of_one hI.bb
 have hM:=hI.map
 have HI:=η hI
 have HSZ:=η hsz
 have hA:Below w.heap.size w (w.alloc (.cells #[.string nm,.slice Ad args.length cap] 68)):=(Below.refl _ _).alloc (Nat.le_refl _) _
 have HM1:=η (hM.below hA hM.lt)
 have HI1:=η (hI.later hA)
 have HR:=η hr
 clear hl hm ht hI hA hM hr
 have put:∀ w1,MapF B (n+1) (putNew L nm) (fun t=>if t=nm then (args.length:Int) else f t) w1→(w.alloc (.cells #[.string nm,.slice Ad args.length cap] 68)).grownBy w1 (some B)→¬ (nm ∈ L∧f nm ≠ args.length)→NInv w0 B (n+1) (argStep (L,f,al) ⟨nm,args⟩) w1∧∀ c,c < w.heap.size→c ≠ B→c ≠ B+2→w1.heap[c]? = w.heap[c]?:=fun w1 h1 h2 h3=>by
  have e:argStep (L,f,al) ⟨nm,args⟩=(putNew L nm,fun t=>if t=nm then (args.length:Int) else f t,al):=by unfold argStep; rw [if_neg h3]
  have hi:=HI1.out
  rw [e]
  refine ⟨?_,fun c hc h4 h5=>(h2.block c (by simp; omega) (by simpa using h4)).trans (Below.heap_alloc _ _ _ hc)⟩
  exact ⟨h1,(h2.block _ (lt_of_block hi.bm) (by simp)).trans hi.bm,(h2.block _ (lt_of_block hi.bb) (by simp)).trans hi.bb,hi.bel.grown h2 (by have:=lt_of_block hi.bm; omega) fun j hj=>by cases hj; exact Nat.le_refl _⟩
 have HP:=η put
 clear put
 by_cases hL:nm ∈ L
 ·have hd:decide (nm ∈ L)=true:=decide_eq_true hL
  have hv:(if nm ∈ L then f nm else 0)=f nm:=if_pos hL
  have hrg:=HR.out nm hL
  by_cases hE:f nm=args.length
  ·have HN:Hid (¬ (nm ∈ L∧f nm ≠ args.length)):=η fun h=>h.2 hE
   have HD:=η hd
   have HV:Hid ((if nm ∈ L then f nm else 0)=(args.length:Int)):=η (hv.trans hE)
   clear hL hd hv hrg hE HR
   go_enter Tryz.func158,Tryz.ntmps158
   go_wp2_with (first | (at_lookup; refine wpList_mapf_ok _ rfl _ _ _ rfl Tryz.underlying85 B n L f rfl HM1.out nm rfl HSZ.out true HD.out _ HV.out ?_) | (at_mapUpdate; refine wpList_mapf_put _ rfl _ _ _ _ rfl Tryz.underlying85 B n L f rfl HM1.out nm rfl HSZ.out _ rfl (by unfold maxLen; omega) (by omega) ?_; intro w1 hM1 hg1) | go_in)
   go_end0
   exact ⟨rfl,HP.out w1 hM1 hg1 HN.out⟩
  ·have HN:Hid (argStep (L,f,al) ⟨nm,args⟩=(L,f,false)):=η (by unfold argStep; rw [if_pos ⟨hL,hE⟩])
   have HD:=η hd
   have HV:=η hv
   have HS:Hid (NInv w0 B (n+1) (L,f,false) ((w.setCell ⟨B+2,0,none⟩ (.bool false)).alloc (.cells #[.string nm,.slice Ad args.length cap] 68))):=η (by
    have hi:=HI.out
    have h1:NInv w0 B (n+1) (L,f,false) (w.setCell ⟨B+2,0,none⟩ (.bool false)):=
     ⟨(hi.map.mono (Nat.le_succ n)).setCell (by simp) _,(Below.heap_setCell _ _ _ _ (by simp)).trans hi.bm,one_setCell hi.bb,hi.bel.setCell (by simp) _⟩
    exact h1.later ((Below.refl _ _).alloc (Nat.le_refl _) _))
   clear hL hd hv HR HP
   go_enter Tryz.func158,Tryz.ntmps158
   go_wp2_with (first | (at_lookup; refine wpList_mapf_ok _ rfl _ _ _ rfl Tryz.underlying85 B n L f rfl HM1.out nm rfl HSZ.out true HD.out _ HV.out ?_) | go_in)
   refine bodyPost_ret (results_none rfl _ _ _) rfl ?_
   exact ⟨rfl,by rw [HN.out]; exact HS.out,fun c hc h4 h5=>(Below.heap_alloc _ _ _ (by simpa using hc)).trans (Below.heap_setCell _ _ _ _ h5)⟩
 ·have HD:Hid (decide (nm ∈ L)=false):=η (decide_eq_false hL)
  have HV:Hid ((if nm ∈ L then f nm else 0)=0):=η (if_neg hL)
  have HN:Hid (¬ (nm ∈ L∧f nm ≠ args.length)):=η fun h=>hL h.1
  clear hL HR
  go_enter Tryz.func158,Tryz.ntmps158
  go_wp2_with (first | (at_lookup; refine wpList_mapf_ok _ rfl _ _ _ rfl Tryz.underlying85 B n L f rfl HM1.out nm rfl HSZ.out false HD.out _ HV.out ?_) | (at_mapUpdate; refine wpList_mapf_put _ rfl _ _ _ _ rfl Tryz.underlying85 B n L f rfl HM1.out nm rfl HSZ.out _ rfl (by unfold maxLen; omega) (by omega) ?_; intro w1 hM1 hg1) | go_in)
  go_end0
  exact ⟨rfl,HP.out w1 hM1 hg1 HN.out⟩
theorem D.argSt_bound {rs:List Ru} (hok:rs.all ruleOk=true) (hf:rs.length≤8) {xs:List A} (hx:∀ a ∈ xs,a ∈ allAtoms rs):∀ s ∈ (argSt xs).1,0≤(argSt xs).2.1 s∧(argSt xs).2.1 s≤1000000:=fun s hs=>by
 have:=argSt_range (m:=3) (fun a ha=>(allAtoms_few hok).1 a (hx a ha)) hs
 omega
theorem D.allAtoms_take {rs:List Ru} (k:Nat):∀ a ∈ allAtoms (rs.take k),a ∈ allAtoms rs:=fun a ha=>by
 obtain ⟨r,hr,h⟩:=allAtoms_mem ha
 exact List.mem_flatMap.2 ⟨r,List.mem_of_mem_take hr,h⟩
theorem D.allAtoms_at {rs:List Ru} {k:Nat} (h:k < rs.length):∀ a ∈ ruleAtoms rs[k],a ∈ allAtoms rs:=fun a ha=>List.mem_flatMap.2 ⟨_,List.getElem_mem h,ha⟩
theorem argsOf_any (rs:List Ru) (v:Value) (bs:List Nat) (w:World) (h:rulesK w [v] rs bs) (hok:rs.all ruleOk=true) (hf:rs.length≤8):
  Calls Tryz.prog 116 #[v] w fun e w'=>e=.returned (.tuple #[.map (some w.heap.size),.bool (alikeB (allAtoms rs))])∧
   ∃ n,MapF w.heap.size n (argSt (allAtoms rs)).1 (argSt (allAtoms rs)).2.1 w'∧Below w.heap.size w w':=by
 obtain ⟨Ad,cap,rfl,hl,hm⟩:=sliceK_form h
 have hlm:=nat_ge_max (Nat.le_trans hl hm)
 have hmm:=@run_makeMap Tryz.prog
 have HI0:Hid (NInv w w.heap.size 0 (argSt []) (((w.alloc (.map #[] 0)).alloc (.cells #[.map (some w.heap.size)] 85)).alloc (.cells #[.bool true] 4))):=η (by
  refine ⟨((MapF.made w _).same ?_),?_,?_,((((Below.refl _ w).alloc (Nat.le_refl _) _).alloc (by simp) _).alloc (by simp; omega) _)⟩
  ·exact (Below.heap_alloc _ _ _ (by simp; omega)).trans (Below.heap_alloc _ _ _ (by simp))
  ·refine (Below.heap_alloc _ _ _ (by simp)).trans ?_
   simpa using heap_alloc_new (w.alloc (.map #[] 0)) (.cells #[.map (some w.heap.size)] 85)
  ·simpa [argSt] using heap_alloc_new ((w.alloc (.map #[] 0)).alloc (.cells #[.map (some w.heap.size)] 85)) (.cells #[.bool true] 4))
 have HBD:=η (fun xs hx=>argSt_bound hok hf (xs:=xs) hx)
 have HOK:=η hok
 have HFE:Hid ((allAtoms rs).length≤40):=η (by have:=(allAtoms_few hok).2; omega)
 have HFW:Hid (∀ k,(allAtoms (rs.take k)).length≤40):=η fun k=>by
  have:=(allAtoms_few (rs:=rs.take k) (List.all_eq_true.2 fun r hr=>List.all_eq_true.1 hok r (List.mem_of_mem_take hr))).2
  rw [List.length_take] at this; omega
 clear hl hm hok hf
 go_enter Tryz.func116,Tryz.ntmps116
 go_wp2
 generalize (((w.alloc (.map #[] 0)).alloc (.cells #[.map (some w.heap.size)] 85)).alloc (.cells #[.bool true] 4))=w0 at *
 go_loopw [15] (fun i wr=>∃ k:Nat,k≤rs.length∧i=.int .i64 k∧NInv w w.heap.size (allAtoms (rs.take k)).length (argSt (allAtoms (rs.take k))) wr) (fun i _=>rs.length - (intOf i).toNat)
 case atStart=>exact ⟨0,Nat.zero_le _,rfl,HI0.out⟩
 case round=>
  obtain ⟨k,hk,rfl,hI⟩:=hrel
  clear HI0 hmm
  by_cases hlt:k < rs.length
  ·obtain ⟨b,o,Ae,ce,Af,cf,bk,rfl,_,d0,d1,d2,hel,_⟩:=rules_el h hlt
   replace d0:=cell_later hI.bel d0
   replace d1:=cell_later hI.bel d1
   replace d2:=cell_later hI.bel d2
   have hk0:(0:Int)≤(k:Int):=by omega
   have hk1:(k:Int) < (rs.length:Int):=by omega
   have hA:Below wr.heap.size wr (wr.alloc (.cells #[.string rs[k].head.name,.slice Ae rs[k].head.args.length ce,.slice Af rs[k].body.length cf] 71)):=(Below.refl _ _).alloc (Nat.le_refl _) _
   obtain ⟨b1,b2,_,hhd,hbd⟩:=rule_parts hel
   have HBO:=η hbd
   have HHD:=η (atomK_good.below (atomK_good.below hhd hI.bel) hA)
   have HLT:=η hlt
   have HSN:=η (allAtoms_snoc rs k hlt)
   have hrl:=ruleOk_args (List.all_eq_true.1 HOK.out _ (List.getElem_mem hlt))
   have hbl:(rs[k].body.length:Int)≤4:=by have:=hrl.1; omega
   have HAT:=η (allAtoms_at hlt)
   have hal:rs[k].head.args.length≤1000000:=by have:=hrl.2.2 rs[k].head (List.mem_cons_self ..); omega
   have HAL:=η hrl.2.2
   have HI1:=η (hI.later hA)
   clear h hel hA hhd hbd hrl
   generalize rs[k]=r at *
   clear hlt
   obtain ⟨⟨nm,args⟩,body⟩:=r
   dsimp only at *
   go_wp2_with fail
   have q2:(wr.alloc (.cells #[.string nm,.slice Ae args.length ce,.slice Af body.length cf] 71)).cell? ⟨wr.heap.size,2,none⟩=some (.slice Af body.length cf):=by go_simp
   have q3:w.heap.size+2 < wr.heap.size:=lt_of_block hI.bb
   clear hI
   generalize wr.alloc (.cells #[.string nm,.slice Ae args.length ce,.slice Af body.length cf] 71)=w1 at *
   refine (note_any ⟨nm,args⟩ _ _ b1 w w1 w.heap.size _ _ HHD.out HI1.out (Nat.le_refl _) (by have:=HFW.out k; omega) hal (HBD.out _ (allAtoms_take k))).mono ?_
   rintro e w2 ⟨rfl,hI2,hK2⟩
   rw [← argSt_snoc] at hI2
   have hlen:(allAtoms (rs.take k) ++ [(⟨nm,args⟩:A)]).length=(allAtoms (rs.take k)).length+1:=by simp
   rw [← hlen] at hI2
   have hsub:∀ a ∈ allAtoms (rs.take k) ++ [(⟨nm,args⟩:A)],a ∈ allAtoms rs:=fun a ha=>by
    rcases List.mem_append.1 ha with ha | ha
    ·exact allAtoms_take k a ha
    ·rw [List.mem_singleton.1 ha]; exact HAT.out _ (List.mem_cons_self ..)
   have e2:w2.cell? ⟨wr.heap.size,2,none⟩=some (.slice Af body.length cf):=by
    rw [World.cell?_of_block (w:=w1) (hK2 _ (lt_of_cell q2) (by dsimp only; omega) (by dsimp only; omega))]; exact q2
   have HSB:=η hsub
   have HI2:=η hI2
   have HX:Hid ((allAtoms (rs.take k) ++ [(⟨nm,args⟩:A)]).length≤41):=η (by rw [hlen]; have:=HFW.out k; omega)
   clear hsub hI2 hK2 hlen HHD q2 q3
   generalize allAtoms (rs.take k) ++ [(⟨nm,args⟩:A)]=xs at *
   go_wp2
   go_loopw [26] (fun i wr=>∃ j:Nat,j≤body.length∧i=.int .i64 j∧NInv w w.heap.size (xs ++ partAtoms (body.take j)).length (argSt (xs ++ partAtoms (body.take j))) wr) (fun i _=>body.length - (intOf i).toNat)
   case atStart=>exact ⟨0,Nat.zero_le _,rfl,by simpa [partAtoms] using HI2.out⟩
   case round=>
    obtain ⟨j,hj,rfl,hI⟩:=hrel
    clear HI2 HI1
    by_cases hlt:j < body.length
    ·obtain ⟨b0,o0,Ag,cg,bg,rfl,_,f0,f1,f2,hel,_⟩:=parts_el HBO.out hlt
     replace f0:=cell_later hI.bel f0
     replace f1:=cell_later hI.bel f1
     replace f2:=cell_later hI.bel f2
     have hj0:(0:Int)≤(j:Int):=by omega
     have hj1:(j:Int) < (body.length:Int):=by omega
     have HSP:=η (partAtoms_snoc body j hlt)
     have HLJ:=η hlt
     have hpm:body[j].atom ∈ ruleAtoms ⟨⟨nm,args⟩,body⟩:=List.mem_cons_of_mem _ (List.mem_map.2 ⟨_,List.getElem_mem hlt,rfl⟩)
     have hpa:body[j].atom.args.length≤1000000:=by have:=HAL.out _ hpm; omega
     have hA:Below wr.heap.size wr (wr.alloc (.cells #[.bool body[j].no,.string body[j].atom.name,.slice Ag body[j].atom.args.length cg] 111)):=(Below.refl _ _).alloc (Nat.le_refl _) _
     have HPA:=η (atomK_good.below (atomK_good.below (part_atom hel) hI.bel) hA)
     have HI3:=η (hI.later hA)
     have HX3:Hid ((xs ++ partAtoms (body.take j)).length+1≤1000000):=η (by rw [List.length_append,partAtoms_len,List.length_take]; have:=HX.out; omega)
     have HS3:Hid (∀ a ∈ xs ++ partAtoms (body.take j),a ∈ allAtoms rs):=η fun a ha=>by
      rcases List.mem_append.1 ha with ha | ha
      ·exact HSB.out a ha
      ·refine HAT.out _ (List.mem_cons_of_mem _ ?_)
       unfold partAtoms at ha
       obtain ⟨p,hp,rfl⟩:=List.mem_map.1 ha
       exact List.mem_map.2 ⟨p,List.mem_of_mem_take hp,rfl⟩
     clear hel hA hI hpm
     generalize body[j]=p at *
     clear hlt
     obtain ⟨no,⟨pn,pargs⟩⟩:=p
     dsimp only at *
     go_wp2_with fail
     refine (note_any ⟨pn,pargs⟩ _ _ bg w _ w.heap.size _ _ HPA.out HI3.out (Nat.le_refl _) HX3.out hpa (HBD.out _ HS3.out)).mono ?_
     rintro e w3 ⟨rfl,hI4,_⟩
     have HI4:Hid (NInv w w.heap.size (xs ++ partAtoms (body.take (j+1))).length (argSt (xs ++ partAtoms (body.take (j+1)))) w3):=η (by
      rw [HSP.out,← List.append_assoc,argSt_snoc,List.length_append]
      exact hI4)
     clear hI4 HI3 HPA
     go_wp2
     go_roundw
     case rel=>exact ⟨j+1,HLJ.out,by go_num,HI4.out⟩
     case measure=>have:=HLJ.out; simp [intOf]; omega
    ·have he:j=body.length:=by omega
     have hj1:¬ (j:Int) < (body.length:Int):=by omega
     have HE:Hid (NInv w w.heap.size (allAtoms (rs.take (k+1))).length (argSt (allAtoms (rs.take (k+1)))) wr):=η (by
      rw [HSN.out]
      subst he
      rw [List.take_of_length_le (Nat.le_refl _)] at hI
      exact hI)
     clear hI he
     go_wp2
     go_roundw
     case rel=>exact ⟨k+1,HLT.out,by go_num,HE.out⟩
     case measure=>have:=HLT.out; simp [intOf]; omega
  ·have he:k=rs.length:=by omega
   have hk1:¬ (k:Int) < (rs.length:Int):=by omega
   subst he
   rw [List.take_of_length_le (Nat.le_refl _)] at hI
   have cM:=cell_of_one hI.bm
   have cB:wr.cell? ⟨w.heap.size+1+1,0,none⟩=_:=cell_of_one hI.bb
   have hal:=argSt_alike (allAtoms rs)
   rw [hal] at cB
   have HZ:Hid (∃ n,MapF w.heap.size n (argSt (allAtoms rs)).1 (argSt (allAtoms rs)).2.1 wr∧Below w.heap.size w wr):=η ⟨_,hI.map,hI.bel⟩
   clear hI h hal
   go_wp2
   go_quiet (fail)
   go_wp2
   go_ret2
   obtain ⟨n,h1,h2⟩:=HZ.out
   exact ⟨rfl,n,h1.same rfl,⟨h2.os,h2.tape,h2.output,h2.size,h2.block⟩⟩
def D.varsTs (ts:List T) (out:List ByteArray):List ByteArray:=ts.foldl (fun o t=>if t.var then putS o t.name else o) out
theorem D.varsTs_snoc (ts:List T) (k:Nat) (h:k < ts.length) (out:List ByteArray):varsTs (ts.take (k+1)) out=if ts[k].var then putS (varsTs (ts.take k) out) ts[k].name else varsTs (ts.take k) out:=varsA_snoc ⟨ByteArray.empty,ts⟩ k h out
theorem D.strs_empty {w:World} {g:Nat}:strsK w [.slice (some ⟨g,0,none⟩) 0 0] [] []:=⟨_,0,rfl,Nat.le_refl _,Nat.zero_le _,fun _=>rfl,fun h=>absurd rfl h⟩
theorem l2Vars_any (a:A) (out:List ByteArray) (c0 c1 v:Value) (b1 b2:List Nat) (w:World) (h:atomK w [c0,c1] a b1) (h2:strsK w [v] out b2) (hn:out.length+a.args.length≤16777216):
  Calls Tryz.prog 123 #[.agg #[c0,c1],v] w (ReadsN (varsA a out) b2 w.heap.size w):=by
 have ht:=atom_args h
 obtain ⟨Aa,ca,rfl,rfl⟩:=atom_cells2 h
 obtain ⟨As,cs,rfl,_,_⟩:=sliceK_form h2
 obtain ⟨_,_,e0',hl2,hm2⟩:=sliceK_form ht
 have hla:=nat_ge_max (Nat.le_trans hl2 hm2)
 obtain ⟨an,args⟩:=a
 dsimp only at *
 have hA:Below w.heap.size w (w.alloc (.cells #[.string an,.slice Aa args.length ca] 68)):=(Below.refl _ _).alloc (Nat.le_refl _) _
 have x1:(w.alloc (.cells #[.string an,.slice Aa args.length ca] 68)).cell? ⟨w.heap.size,1,none⟩=some (.slice Aa args.length ca):=by go_simp
 have HST:=η (And.intro (strsK_good.below h2 hA) (And.intro hA x1))
 have HE:Hid (varsA ⟨an,args⟩ out=varsTs args out):=η rfl
 have HN:=η hn
 clear h h2 hl2 hm2 e0' hA x1 hn
 go_enter Tryz.func123,Tryz.ntmps123
 go_wp2
 go_loopw [1,5] (fun v i wr=>∃ (k m:Nat) (Av:Option Addr) (cp:Nat) (b4:List Nat),k≤args.length∧i=.int .i64 k∧v=.slice Av m cp∧m=(varsTs (args.take k) out).length∧strsK wr [.slice Av m cp] (varsTs (args.take k) out) b4∧(∀ c ∈ b4,w.heap.size≤c∨c ∈ b2)∧Below w.heap.size w wr∧wr.cell? ⟨w.heap.size,1,none⟩=some (.slice Aa args.length ca)) (fun _ i _=>args.length - (intOf i).toNat)
 case atStart=>exact ⟨0,out.length,As,cs,b2,Nat.zero_le _,rfl,rfl,rfl,HST.out.1,fun c hc=>.inr hc,HST.out.2.1,HST.out.2.2⟩
 case round=>
  obtain ⟨k,m,Av,cp,b4,hk,rfl,rfl,hme,hR,hfar,hb,x1⟩:=hrel
  have HFR:=η hfar
  clear hfar
  clear HST
  have HM:=η hme
  by_cases hlt:k < args.length
  ·obtain ⟨b,o,rfl,_,d0,d1,hsz⟩:=terms_at (termsK_good.below ht hb) hlt
   have hk0:(0:Int)≤(k:Int):=by omega
   have hk1:(k:Int) < (args.length:Int):=by omega
   have HLT:=η hlt
   have hlen:(varsTs (args.take k) out).length≤16777216:=by
    have h1:=varsTs_len (args.take k) out
    rw [List.length_take] at h1
    have:=HN.out
    have h3:(varsTs (args.take k) out).length≤out.length+min k args.length:=h1
    omega
   have hp:=l2Put_any (varsTs (args.take k) out) args[k].name _ b4 wr hR hsz hlen
   have HT:=η (varsTs_snoc args k hlt out)
   have HR:=η (And.intro hR hb)
   generalize args[k]=t at *
   obtain ⟨tv,tn⟩:=t
   dsimp only at *
   clear hme hR hb ht hlen hlt hk
   cases tv
   ·have HT2:Hid (varsTs (args.take (k+1)) out=varsTs (args.take k) out):=η (by rw [HT.out]; rfl)
    clear HT hp
    go_wp2
    go_roundw
    case rel=>exact ⟨k+1,m,Av,cp,b4,HLT.out,by go_num,rfl,by rw [HT2.out]; exact HM.out,by rw [HT2.out]; exact HR.out.1,HFR.out,HR.out.2,x1⟩
    case measure=>have:=HLT.out; simp [intOf]; omega
   ·have HT2:Hid (varsTs (args.take (k+1)) out=putS (varsTs (args.take k) out) tn):=η (by rw [HT.out]; rfl)
    clear HT
    go_wp2_with fail
    refine hp.mono ?_
    rintro e w2 ⟨hb2,v2,b5,rfl,hR2,hf2⟩
    obtain ⟨A2,p2,rfl,_,_⟩:=sliceK_form hR2
    have HX:=η (And.intro hR2 (And.intro (HR.out.2.trans (hb2.mono HR.out.2.size)) (cell_later hb2 x1)))
    have HF2:Hid (∀ c ∈ b5,w.heap.size≤c∨c ∈ b2):=η (fun c hc=>(hf2 c hc).elim (fun h9=>.inl (Nat.le_trans HR.out.2.size h9)) (HFR.out c))
    clear hp hR2 hb2 x1 hf2
    go_wp2
    go_roundw
    case rel=>exact ⟨k+1,_,A2,p2,b5,HLT.out,by go_num,rfl,by rw [HT2.out],by rw [HT2.out]; exact HX.out.1,HF2.out,HX.out.2.1,HX.out.2.2⟩
    case measure=>have:=HLT.out; simp [intOf]; omega
  ·have he:=η (show k=args.length by omega)
   have hk1:¬ (k:Int) < (args.length:Int):=by omega
   have HX:Hid (strsK wr [.slice Av m cp] (varsTs args out) b4):=η (by rw [he.out,List.take_of_length_le (Nat.le_refl _)] at hR; exact hR)
   have HB:=η hb
   clear hR hme hb ht
   go_wp2
   go_ret
   exact ⟨HB.out,_,b4,rfl,by rw [HE.out]; exact HX.out,HFR.out⟩
theorem D.sumL_filter {α:Type} (f:α→Nat) (q:α→Bool) (xs:List α):sumL f (xs.filter q)≤sumL f xs:=by
 induction xs with
 | nil=>simp [sumL]
 | cons x xs ih=>
  rw [List.filter_cons]
  have e:sumL f (x :: xs)=f x+sumL f xs:=by simp [sumL]
  split
  ·have e2:sumL f (x :: xs.filter q)=f x+sumL f (xs.filter q):=by simp [sumL]
   omega
  ·omega
theorem D.vars_take {ps:List Pt} {m:Nat} (hs:sumL (fun p=>p.atom.args.length) ps≤m) (k:Nat) (out:List ByteArray):(varsPs (ps.take k) out).length≤out.length+m:=by
 have h1:=varsPs_len (ps.take k) out
 have h2:=sumL_take (fun p:Pt=>p.atom.args.length) ps k
 omega
theorem l2Tight_any (r:Ru) (c0 c1 c2:Value) (bs:List Nat) (w:World) (h:ruleK w [c0,c1,c2] r bs) (hs:sumL (fun p=>p.atom.args.length) r.body≤1000000) (hh:r.head.args.length≤1000000):
  Calls Tryz.prog 89 #[.agg #[c0,c1,c2]] w fun e w'=>e=.returned (.bool (tightB r.head r.body))∧Below w.heap.size w w':=by
 obtain ⟨p1,p2,rfl,hat,hps⟩:=rule_parts h
 obtain ⟨Ad,cap,Ae,cape,rfl,rfl,rfl⟩:=rule_cells2 h
 obtain ⟨_,_,e0',hl2,hm2⟩:=sliceK_form hps
 have hlp:=nat_ge_max (Nat.le_trans hl2 hm2)
 obtain ⟨hd,ps⟩:=r
 dsimp only at *
 have hA:Below w.heap.size w (w.alloc (.cells #[.string hd.name,.slice Ad hd.args.length cap,.slice Ae ps.length cape] 71)):=(Below.refl _ _).alloc (Nat.le_refl _) _
 have x2:(w.alloc (.cells #[.string hd.name,.slice Ad hd.args.length cap,.slice Ae ps.length cape] 71)).cell? ⟨w.heap.size,2,none⟩=some (.slice Ae ps.length cape):=by go_simp
 have hA2:Below w.heap.size w (((w.alloc (.cells #[.string hd.name,.slice Ad hd.args.length cap,.slice Ae ps.length cape] 71)).alloc (.cells #[] 9)).alloc (.cells #[] 9)):=(hA.alloc (by simp) _).alloc (by simp <;> omega) _
 have hv0:=l2Vars_any hd [] _ _ (.slice (some ⟨w.heap.size+1+1,0,none⟩) 0 0) p1 [] _ (atomK_good.below hat hA2) strs_empty (by simp; omega)
 have HE:Hid (tightB hd ps=decide ((varsPs ps (varsA hd [])).length=(varsPs (ps.filter fun p=>!p.no) []).length)):=η rfl
 have HS:=η hs
 have HH:=η hh
 have HA2:=η hA2
 have HX2:=η x2
 clear h hl2 hm2 e0' hA hs hh hat
 generalize tightB hd ps=G at *
 go_enter Tryz.func89,Tryz.ntmps89
 go_wp2_with fail
 refine hv0.mono ?_
 rintro e w1 ⟨hb1,v1,b4,rfl,hR1,_⟩
 obtain ⟨A1,p9,rfl,_,_⟩:=sliceK_form hR1
 have HR1:=η (And.intro hR1 (And.intro (HA2.out.trans (hb1.mono HA2.out.size)) (cell_later hb1 (show ((((w.alloc (.cells #[.string hd.name,.slice Ad hd.args.length cap,.slice Ae ps.length cape] 71)).alloc (.cells #[] 9)).alloc (.cells #[] 9)).cell? ⟨w.heap.size,2,none⟩=some (.slice Ae ps.length cape)) by go_simp))))
 clear hv0 hR1 hb1 x2
 go_wp2
 go_loopw [3,4,5] (fun v3 v4 i wr=>∃ (k m q:Nat) (Av Bv:Option Addr) (cp cq:Nat) (b4 b5:List Nat),k≤ps.length∧i=.int .i64 k∧v3=.slice Bv q cq∧v4=.slice Av m cp∧m=(varsPs (ps.take k) (varsA hd [])).length∧strsK wr [.slice Av m cp] (varsPs (ps.take k) (varsA hd [])) b4∧
  q=(varsPs ((ps.take k).filter fun p=>!p.no) []).length∧strsK wr [.slice Bv q cq] (varsPs ((ps.take k).filter fun p=>!p.no) []) b5∧Below w.heap.size w wr∧wr.cell? ⟨w.heap.size,2,none⟩=some (.slice Ae ps.length cape)) (fun _ _ i _=>ps.length - (intOf i).toNat)
 case atStart=>exact ⟨0,_,0,A1,_,p9,_,b4,[],Nat.zero_le _,rfl,rfl,rfl,rfl,HR1.out.1,rfl,strs_empty,HR1.out.2.1,HR1.out.2.2⟩
 case round=>
  obtain ⟨k,m,q,Av,Bv,cp,cq,b4,b5,hk,rfl,rfl,rfl,hme,hR,hqe,hQ,hb,x2⟩:=hrel
  clear HR1
  have HM:=η (And.intro hme hqe)
  by_cases hlt:k < ps.length
  ·obtain ⟨b,o,Aa,ce,bk,rfl,_,d0,d1,d2,hel,_⟩:=parts_el (partsK_good.below hps hb) hlt
   have hk0:(0:Int)≤(k:Int):=by omega
   have hk1:(k:Int) < (ps.length:Int):=by omega
   have HLT:=η hlt
   have hal:(varsPs (ps.take k) (varsA hd [])).length+ps[k].atom.args.length≤16777216:=by
    have h1:=vars_take HS.out k (varsA hd [])
    have h2:=varsA_len hd []
    have h3:=sumL_at (fun p:Pt=>p.atom.args.length) ps k hlt
    have:=HS.out
    have:=HH.out
    simp only [List.length_nil] at h2
    omega
   have hbl:(varsPs ((ps.take k).filter fun p=>!p.no) []).length+ps[k].atom.args.length≤16777216:=by
    have h1:=varsPs_len ((ps.take k).filter fun p=>!p.no) []
    have h4:=sumL_filter (fun p:Pt=>p.atom.args.length) (fun p=>!p.no) (ps.take k)
    have h5:=sumL_take (fun p:Pt=>p.atom.args.length) ps k
    have h3:=sumL_at (fun p:Pt=>p.atom.args.length) ps k hlt
    have:=HS.out
    simp only [List.length_nil] at h1
    omega
   have hp:=l2Vars_any ps[k].atom _ _ _ _ bk b4 wr (part_atom hel) hR hal
   have hp2:=fun w' (hb':Below wr.heap.size wr w')=>l2Vars_any ps[k].atom _ _ _ _ bk b5 w' (atomK_good.below (part_atom hel) hb') (strsK_good.below hQ hb') hbl
   have HT:=η (varsPs_snoc ps k hlt (varsA hd []))
   have HT2:=η (filter_snoc ps k hlt)
   have HB:=η hb
   have HQ:=η hQ
   generalize ps[k]=p at *
   obtain ⟨no,pa⟩:=p
   dsimp only at *
   clear hme hqe hR hQ hb hps hel hlt hk hal hbl
   go_wp2_with fail
   refine hp.mono ?_
   rintro e w2 ⟨hb2,v2,b6,rfl,hR2,_⟩
   obtain ⟨A2,p2,rfl,_,_⟩:=sliceK_form hR2
   have HX:=η (And.intro hR2 (HB.out.trans (hb2.mono HB.out.size)))
   replace HQ:=η (strsK_good.below HQ.out hb2)
   have hp3:=hp2 _ hb2
   replace x2:=cell_later hb2 x2
   replace d0:=cell_later hb2 d0
   replace d1:=cell_later hb2 d1
   replace d2:=cell_later hb2 d2
   clear hp hp2 hR2 hb2
   cases no
   ·have HT3:Hid (varsPs ((ps.take (k+1)).filter fun p=>!p.no) []=varsA pa (varsPs ((ps.take k).filter fun p=>!p.no) [])):=η (by rw [HT2.out]; unfold varsPs; rw [List.foldl_append]; rfl)
    clear HT2
    go_wp2_with fail
    refine hp3.mono ?_
    rintro e w3 ⟨hb3,v3,b7,rfl,hR3,_⟩
    obtain ⟨A3,p3,rfl,_,_⟩:=sliceK_form hR3
    have HY:=η (And.intro hR3 (And.intro (strsK_good.below HX.out.1 hb3) (And.intro (HX.out.2.trans (hb3.mono HX.out.2.size)) (cell_later hb3 x2))))
    clear hp3 hR3 hb3 x2 d0 d1 d2
    go_wp2
    go_roundw
    case rel=>exact ⟨k+1,_,_,A2,A3,p2,p3,b6,b7,HLT.out,by go_num,rfl,rfl,by rw [HT.out],by rw [HT.out]; exact HY.out.2.1,by rw [HT3.out],by rw [HT3.out]; exact HY.out.1,HY.out.2.2.1,HY.out.2.2.2⟩
    case measure=>have:=HLT.out; simp [intOf]; omega
   ·have HT3:Hid (varsPs ((ps.take (k+1)).filter fun p=>!p.no) []=varsPs ((ps.take k).filter fun p=>!p.no) []):=η (by rw [HT2.out]; simp)
    clear HT2 hp3 d1 d2
    go_wp2
    go_roundw
    case rel=>exact ⟨k+1,_,q,A2,Bv,p2,cq,b6,b5,HLT.out,by go_num,rfl,rfl,by rw [HT.out],by rw [HT.out]; exact HX.out.1,by rw [HT3.out]; exact HM.out.2,by rw [HT3.out]; exact HQ.out,HX.out.2,x2⟩
    case measure=>have:=HLT.out; simp [intOf]; omega
  ·have he:=η (show k=ps.length by omega)
   have hk1:¬ (k:Int) < (ps.length:Int):=by omega
   have HG2:Hid (G=decide (m=q)):=η (by
    have h1:=HM.out.1
    have h2:=HM.out.2
    rw [he.out,List.take_of_length_le (Nat.le_refl _)] at h1 h2
    rw [HE.out,← h1,← h2])
   have HB:=η hb
   clear hR hQ hme hqe hb hps HE
   go_wp2
   go_ret
   exact ⟨ret_bool (by rw [HG2.out]; first | (simp; omega) | (by_cases hmq:m=q <;> simp [hmq] <;> omega)),HB.out⟩
theorem D.sumL_const {α:Type} (f:α→Nat) (c:Nat) (xs:List α) (h:∀ x ∈ xs,f x≤c):sumL f xs≤c * xs.length:=by
 induction xs with
 | nil=>simp [sumL]
 | cons x xs ih=>
  have e:sumL f (x :: xs)=f x+sumL f xs:=by simp [sumL]
  have h1:=h x (List.mem_cons_self ..)
  have h2:=ih (fun y hy=>h y (List.mem_cons_of_mem _ hy))
  rw [e,List.length_cons,Nat.mul_add]
  omega
theorem l1Rule_any (r:Ru) (c0 c1 c2:Value) (bs:List Nat) (w:World) (h:ruleK w [c0,c1,c2] r bs):
  Calls Tryz.prog 87 #[.agg #[c0,c1,c2]] w fun e w'=>e=.returned (.bool (ruleOk r))∧Below w.heap.size w w':=by
 obtain ⟨b1,b2,rfl,hp,hq⟩:=rule_parts h
 obtain ⟨Ad,cap,Ae,cape,rfl,rfl,rfl⟩:=rule_cells2 h
 obtain ⟨_,_,hv,hl,hm⟩:=sliceK_form hq
 have hlm:=nat_ge_max (Nat.le_trans hl hm)
 have hok:=fun w' (hb:Below w.heap.size w w')=>atomOk_spec r.head _ _ b1 w' (atomK_good.below hp hb)
 have hr:ruleOk r=(decide (r.body.length≤4) && r.body.all (fun p=>atomOk p.atom) && atomOk r.head):=rfl
 rw [hr]
 clear h hp hv hl hm hr
 generalize atomOk r.head=b at *
 have hA:=(Below.refl w.heap.size w).alloc (Nat.le_refl _) (.cells #[.string r.head.name,.slice Ad r.head.args.length cap,.slice Ae r.body.length cape] 71)
 go_enter Tryz.func87,Tryz.ntmps87
 go_wp2
 go_loopw [3] (fun i wr=>∃ k:Nat,k≤r.body.length∧i=.int .i64 k∧(r.body.take k).all (fun p=>atomOk p.atom)=true∧Below w.heap.size w wr∧wr.cell? ⟨w.heap.size,0,none⟩=some (.string r.head.name)∧wr.cell? ⟨w.heap.size,1,none⟩=some (.slice Ad r.head.args.length cap)∧wr.cell? ⟨w.heap.size,2,none⟩=some (.slice Ae r.body.length cape)∧w.heap.size < wr.heap.size) (fun i _=>r.body.length - (intOf i).toNat)
 case atStart=>exact ⟨0,Nat.zero_le _,rfl,rfl,hA,by go_simp,by go_simp,by go_simp,by simp⟩
 case round=>
  obtain ⟨k,hk,rfl,hall,hb,x0,x1,x2,hsz⟩:=hrel
  have HA:=η hall
  clear hall hA
  by_cases hlt:k < r.body.length
  ·obtain ⟨bb,o,Af,cf,bk,rfl,_,d0,d1,d2,hel,_⟩:=parts_el (partsK_good.below hq hb) hlt
   have hat:=part_atom hel
   clear hq hel
   go_wp2_with fail
   refine (atomOk_spec r.body[k].atom _ _ bk _ hat).mono ?_
   rintro e w' ⟨rfl,hb'⟩
   have B':=hb.trans (hb'.mono hb.size)
   have y0:=cell_later hb' x0
   have y1:=cell_later hb' x1
   have y2:=cell_later hb' x2
   have S':w.heap.size < w'.heap.size:=by have:=hb'.size; omega
   clear hat x0 x1 x2
   by_cases hx:atomOk r.body[k].atom=true
   ·have hx1:(!atomOk r.body[k].atom)=false:=by simp [hx]
    have HX:=η hx
    clear hx
    go_wp2
    go_roundw
    case rel=>exact ⟨k+1,by omega,by go_num,by rw [all_take_snoc r.body k hlt,HA.out]; exact HX.out,B',y0,y1,y2,S'⟩
    case measure=>simp [intOf]; omega
   ·have hx1:(!atomOk r.body[k].atom)=true:=by simpa using hx
    have HX:=η hx
    clear hx
    go_wp2
    go_ret
    exact ⟨ret_bool (by rw [all_bad r.body k hlt (by simpa using HX.out)]; simp),B'⟩
  ·have he:=η (show k=r.body.length by omega)
   have ha:Hid (r.body.all (fun p=>atomOk p.atom)=true):=by have:=HA.out; rw [he.out,List.take_of_length_le (Nat.le_refl _)] at this; exact this
   go_wp2_with fail
   refine (hok _ hb).mono ?_
   rintro e w' ⟨rfl,hb'⟩
   have B':=hb.trans (hb'.mono hb.size)
   have y2:=cell_later hb' x2
   clear x0 x1 x2 hok
   cases b
   all_goals
    go_wp2
    go_ret
    exact ⟨ret_bool (by rw [ha.out]; first | (simp; done) | (rw [Bool.eq_iff_iff]; simp; omega)),B'⟩
theorem l3Ground_any (a:A) (c0 c1:Value) (bs:List Nat) (w:World) (h:atomK w [c0,c1] a bs):
  Calls Tryz.prog 91 #[.agg #[c0,c1]] w fun e w'=>e=.returned (.bool (isFactB a))∧Below w.heap.size w w':=by
 have ht:=atom_args h
 obtain ⟨Ad,cap,rfl,rfl⟩:=atom_cells2 h
 obtain ⟨_,_,hv,hl,hm⟩:=sliceK_form ht
 have hlm:=nat_ge_max (Nat.le_trans hl hm)
 have k1:=fun w' (hb:Below w.heap.size w w')=>atomOk_spec a _ _ bs w' (atomK_good.below h hb)
 have hf:isFactB a=(atomOk a && !anyVar a.args):=rfl
 have HF:=η hf
 clear h hv hl hm hf
 have hA:=(Below.refl w.heap.size w).alloc (Nat.le_refl _) (.cells #[.string a.name,.slice Ad a.args.length cap] 68)
 go_enter Tryz.func91,Tryz.ntmps91
 go_wp2
 go_loopw [3] (fun i wr=>∃ k:Nat,k≤a.args.length∧i=.int .i64 k∧anyVar (a.args.take k)=false∧wr=w.alloc (.cells #[.string a.name,.slice Ad a.args.length cap] 68)) (fun i _=>a.args.length - (intOf i).toNat)
 case atStart=>exact ⟨0,Nat.zero_le _,rfl,rfl,rfl⟩
 case round=>
  obtain ⟨k,hk,rfl,hall,rfl⟩:=hrel
  have HA:=η hall
  clear hall
  by_cases hlt:k < a.args.length
  ·obtain ⟨b,o,rfl,_,d0,d1,_⟩:=terms_at (termsK_good.below ht ((Below.refl _ _).alloc (Nat.le_refl _) (.cells #[.string a.name,.slice Ad a.args.length cap] 68))) hlt
   clear ht
   cases hv:a.args[k].var
   ·have HV:=η hv
    rw [hv] at d0
    clear hv
    go_wp2
    go_roundw
    case rel=>exact ⟨k+1,by omega,by go_num,by rw [anyVar_snoc a.args k hlt,HA.out,HV.out]; rfl,(by simp)⟩
    case measure=>simp [intOf]; omega
   ·have HV:=η (anyVar_bad a.args k hlt hv)
    rw [hv] at d0
    clear hv
    go_wp2
    go_ret
    exact ⟨ret_bool (by rw [HF.out,HV.out]; simp),hA⟩
  ·have he:=η (show k=a.args.length by omega)
   go_wp2_with fail
   refine (k1 _ hA).mono ?_
   rintro e w' ⟨rfl,hb'⟩
   go_wp2
   go_ret
   exact ⟨ret_bool (by have:=HA.out; rw [he.out,List.take_of_length_le (Nat.le_refl _)] at this; rw [HF.out,this]; simp),hA.trans (hb'.mono hA.size)⟩
end Go.Proofs.YtiidmgchadagbaaGreatDoor
