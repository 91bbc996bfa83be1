/- Of the proof of FnExactRounds: L3, AtomsS, Facts2, CmpD, MarkA. -/
import Derived.Test.YtiidmgchadagbaaGreatDoorM09
import Derived.Test.YtiidmgchadagbaaGreatDoorM12
set_option linter.unusedVariables false
set_option maxHeartbeats 2000000
set_option maxRecDepth 100000
namespace Go.Proofs.YtiidmgchadagbaaGreatDoor
open Go.RowKit D
attribute [local go_sem ↓] Go.wp_at_zero Go.wp_at_succ
theorem l3Copy_big (ts:List A) (v:Value) (bs:List Nat) (w:World) (h:atomsK w [v] ts bs) (hn:ts.length≤100000000000) (ha:∀ a ∈ ts,a.args.length≤16777216):
  Calls Tryz.prog 58 #[v] w fun e w'=>Below w.heap.size w w'∧∃ v bs,e=.returned v∧atomsK w' [v] ts bs∧∀ c ∈ bs,w.heap.size≤c:=by
 obtain ⟨Ad,cap,rfl,hl,hm⟩:=sliceK_form h
 obtain ⟨i0,hi,hz0,hz1,hz2⟩:=info_parts infoAtom3
 clear hm
 have hA:Below w.heap.size w (w.alloc (.cells #[] 68)):=(Below.refl _ _).alloc (Nat.le_refl _) _
 have hst:=Coll.empty (n:=2) (R:=atomK) (e:=68) (heap_alloc_new w (.cells #[] 68)) (Nat.le_refl w.heap.size)
 go_enter Tryz.func58,Tryz.ntmps58
 go_wp2
 go_loopw [3,4] (fun v i wr=>∃ (k:Nat) (A:Option Addr) (cp:Nat) (L:List Value) (b2:List Nat),k≤ts.length∧i=.int .i64 k∧v=.slice A k cp∧Coll 2 atomK w.heap.size 68 wr (.slice A k cp) L (ts.take k) b2∧Hid (∀ c ∈ b2,w.heap.size≤c)∧Below w.heap.size w wr) (fun _ i _=>ts.length - (intOf i).toNat)
 case atStart=>exact ⟨0,_,_,_,_,Nat.zero_le _,rfl,rfl,hst,η (fun c hc=>by cases hc),hA⟩
 case round=>
  obtain ⟨k,A,cp,L,b2,hk,rfl,rfl,hC,hF2,hb⟩:=hrel
  clear hst hA
  by_cases hlt:k < ts.length
  ·have HLT:=η hlt
   obtain ⟨b,o,Ae,ce,bk,rfl,_,c0,c1,hel,_⟩:=atoms_el (atomsK_good.below h hb) hlt
   have hle:ts[k].args.length≤16777216:=ha _ (List.getElem_mem _)
   have hk0:(0:Int)≤(k:Int):=by omega
   have hk1:(k:Int) < (ts.length:Int):=by omega
   have HT:Hid (ts.take (k+1)=ts.take k ++ [ts[k]]):=η (List.take_succ_eq_append_getElem hlt)
   have hc:=l3Atom_any ts[k] _ _ bk _ hel hle
   have HC:=η hC
   clear h ha hC
   go_wp2_with fail
   refine hc.mono ?_
   rintro e w1 ⟨hb1,cs',b3,rfl,hR,hN⟩
   obtain ⟨Ae',ce',rfl⟩:=atom_cells hR
   clear hel hc
   have hlen:(ts.take k).length=k:=by rw [List.length_take]; omega
   have hb2:Below wr.heap.size wr (w1.alloc (.cells #[.string ts[k].name,.slice Ae' ts[k].args.length ce'] 68)):=hb1.alloc hb1.size _
   have hA2:Below w1.heap.size w1 (w1.alloc (.cells #[.string ts[k].name,.slice Ae' ts[k].args.length ce'] 68)):=(Below.refl _ _).alloc (Nat.le_refl _) _
   have hC2:=HC.out.below atomK_good hb2
   have hR2:=atomK_good.below hR hA2
   have hL:Lies (w1.alloc (.cells #[.string ts[k].name,.slice Ae' ts[k].args.length ce'] 68)) (some ⟨w1.heap.size,0,none⟩) [.string ts[k].name,.slice Ae' ts[k].args.length ce']:=lies_block (heap_alloc_new w1 _)
   have HC2:=η hC2
   have HO2:Hid ((w1.alloc (.cells #[.string ts[k].name,.slice Ae' ts[k].args.length ce'] 68)).ownsRow w.heap.size 68 2 (.slice A k cp) k L):=η (by have:=hC2.own; rw [hlen] at this; exact this)
   have HL:=η hL
   have HR2:=η hR2
   have hsz:=hb2.size
   clear hC2 hL hR2 hlen
   go_wp2_with (at_builtin; refine wpList_app rfl _ _ _ rfl w.heap.size 68 i0 (.agg #[.string ⟨#[]⟩,.slice none 0 0]) 2 40 Tryz.underlying26 hi hz0 hz1 hz2 rfl (by omega) (.slice A k cp) k L rfl HO2.out (some ⟨w1.heap.size,0,none⟩) 1 1 [.string ts[k].name,.slice Ae' ts[k].args.length ce'] rfl rfl HL.out (by simp [Value.oneCell']) (by unfold maxLen; omega) (by omega) (Nat.le_trans hb.size hsz) ?_; intro A2 cp2 w2 hown2 hgrow2 hloc2)
   have hlen:(ts.take k).length=k:=by rw [List.length_take]; omega
   have hfar:∀ b ∈ b3,(Value.slice A k cp).ownBlock ≠ some b:=fun b hb'=>own_block_lt HC.out.own (hN.own b hb').1
   have C3:=HC2.out.app atomK_good (Rowed.one_el atomK_ones HR2.out) hfar (by rw [hlen]; exact hown2) hgrow2 hloc2
   have B3:=own_grown (hb.trans (hb2.mono hb.size)) HO2.out (Nat.le_refl _) (Nat.le_trans hb.size hsz) hgrow2
   have HF3:Hid (∀ c ∈ b2 ++ b3,w.heap.size≤c):=η fun c hc=>(List.mem_append.1 hc).elim (hF2.out c) fun h=>Nat.le_trans hb.size (hN.own c h).1
   clear hown2 hgrow2 hloc2 hfar hlen hR hN
   have H3:=η C3
   clear C3
   go_wp2
   go_roundw
   case rel=>exact ⟨k+1,A2,cp2,_,_,HLT.out,by go_num,rfl,by rw [HT.out]; exact H3.out,HF3,B3⟩
   case measure=>have:=HLT.out; simp [intOf]; omega
  ·have he:k=ts.length:=by omega
   subst he
   rw [List.take_of_length_le (Nat.le_refl _)] at hC
   obtain ⟨b3,hs,hf3⟩:=hC.slice
   have HS:=η (And.intro hs fun c hc=>(hf3 c hc).elim id (hF2.out c))
   clear hC hs hf3
   go_wp2
   go_ret
   exact ⟨hb,_,b3,rfl,HS.out⟩
theorem infoAtomG:(Tryz.prog.info? 68).map (fun i=>(i.zero,i.size,i.bytes))=some (some (.agg #[.string ⟨#[]⟩,.slice none 0 0]),2,40):=by kernel_rfl
structure D.AsInv (w:World) (v:Value) (L:List Value) (xs:List A) (wr:World):Prop where
 coll:∃ bs,Coll 2 atomK w.heap.size 68 wr v L xs bs
 bel:Below w.heap.size w wr
theorem D.AsInv.below {w wr w':World} {v:Value} {L:List Value} {xs:List A} (h:AsInv w v L xs wr) (hb:Below wr.heap.size wr w'):AsInv w v L xs w':=
 ⟨by obtain ⟨bs,hc⟩:=h.coll; exact ⟨bs,hc.below atomK_good hb⟩,h.bel.trans (hb.mono h.bel.size)⟩
theorem l2Atoms_any (rs:List Ru) (v:Value) (bs:List Nat) (w:World) (h:rulesK w [v] rs bs) (hn:(allAtoms rs).length≤1000000):
  Calls Tryz.prog 93 #[v] w fun e w'=>Below w.heap.size w w'∧∃ v' b2,e=.returned v'∧atomsK w' [v'] (allAtoms rs) b2:=by
 obtain ⟨Ad,cap,rfl,hl,hm⟩:=sliceK_form h
 have hlm:=nat_ge_max (Nat.le_trans hl hm)
 obtain ⟨i0,hi,hz0,hz1,hz2⟩:=info_parts infoAtomG
 have HN:Hid (∀ k,(allAtoms (rs.take k)).length≤1000000):=η fun k=>by
  have h1:allAtoms rs=allAtoms (rs.take k) ++ allAtoms (rs.drop k):=by unfold allAtoms; rw [← List.flatMap_append,List.take_append_drop]
  rw [h1,List.length_append] at hn; omega
 have HV0:Hid (AsInv w (.slice (some ⟨w.heap.size,0,none⟩) 0 0) [] [] (w.alloc (.cells #[] 68))):=η ⟨⟨[],Coll.empty (heap_alloc_new _ _) (Nat.le_refl _)⟩,(Below.refl _ _).alloc (Nat.le_refl _) _⟩
 clear hl hm hn
 go_enter Tryz.func93,Tryz.ntmps93
 go_wp2
 generalize w.alloc (.cells #[] 68)=w0 at *
 go_loopw [3,4] (fun v i wr=>∃ (k:Nat) (Av:Option Addr) (cp:Nat) (L:List Value) (xs:List A),k≤rs.length∧i=.int .i64 k∧v=.slice Av xs.length cp∧xs=allAtoms (rs.take k)∧AsInv w (.slice Av xs.length cp) L xs wr) (fun _ i _=>rs.length - (intOf i).toNat)
 case atStart=>exact ⟨0,_,0,[],[],Nat.zero_le _,rfl,rfl,rfl,HV0.out⟩
 case round=>
  obtain ⟨k,Av,cp,L,xs,hk,rfl,rfl,hxs,hV⟩:=hrel
  clear HV0
  have HX:=η hxs
  have HLX:Hid (xs.length≤1000000):=η (by rw [hxs]; exact HN.out k)
  clear hxs
  by_cases hlt:k < rs.length
  ·obtain ⟨b,o,Ae,ce,Af,cf,bk,rfl,_,d0,d1,d2,hel,_⟩:=rules_el h hlt
   have e2:=cell_later hV.bel d2
   replace d0:=cell_later hV.bel d0
   replace d1:=cell_later hV.bel d1
   have D2:=η d2
   have hk0:(0:Int)≤(k:Int):=by omega
   have hk1:(k:Int) < (rs.length:Int):=by omega
   have HLN:Hid ((allAtoms (rs.take k) ++ [rs[k].head] ++ partAtoms rs[k].body).length≤1000000):=η (by rw [← allAtoms_snoc rs k hlt]; exact HN.out (k+1))
   obtain ⟨b1,b2,_,hhd,hbd⟩:=rule_parts hel
   have HBO:=η hbd
   have hbl:(rs[k].body.length:Int)≤1000000:=by have:=HLN.out; rw [List.length_append,partAtoms_len] at this; omega
   have hA:Below wr.heap.size wr (wr.alloc (.cells #[.string rs[k].head.name,.slice Ae rs[k].head.args.length ce] 68)):=(Below.refl _ _).alloc (Nat.le_refl _) _
   obtain ⟨bs0,hC0⟩:=(hV.below hA).coll
   have HC:=η hC0
   have HB:=η (hV.below hA).bel
   have HR:Hid (Rowed 2 atomK (wr.alloc (.cells #[.string rs[k].head.name,.slice Ae rs[k].head.args.length ce] 68)) [.string rs[k].head.name,.slice Ae rs[k].head.args.length ce] [rs[k].head] b1):=η (Rowed.one_el atomK_ones (atomK_good.below (atomK_good.below hhd hV.bel) hA))
   have HL:Hid (Lies (wr.alloc (.cells #[.string rs[k].head.name,.slice Ae rs[k].head.args.length ce] 68)) (some ⟨wr.heap.size,0,none⟩) [.string rs[k].head.name,.slice Ae rs[k].head.args.length ce]):=η (lies_block (heap_alloc_new wr (.cells #[.string rs[k].head.name,.slice Ae rs[k].head.args.length ce] 68)))
   have HF:Hid (∀ c ∈ b1,(Value.slice Av xs.length cp).ownBlock ≠ some c):=η fun c hc=>own_block_ge hC0.own (atomK_good.lt hhd c hc)
   have HLT:=η hlt
   have HSN:=η (allAtoms_snoc rs k hlt)
   clear h hel hhd hbd hV hA hC0 d2
   generalize rs[k]=r at *
   clear hlt
   obtain ⟨⟨nm,args⟩,body⟩:=r
   dsimp only at *
   go_wp2_with (at_builtin; refine wpList_coll rfl _ _ _ rfl w.heap.size 68 i0 (.agg #[.string ⟨#[]⟩,.slice none 0 0]) 2 40 Tryz.underlying26 hi hz0 hz1 hz2 rfl (by omega) atomK_good (.slice Av xs.length cp) xs.length _ _ _ rfl HC.out rfl (some ⟨wr.heap.size,0,none⟩) 1 1 _ [⟨nm,args⟩] _ rfl HR.out rfl HL.out HF.out (by have:=HLX.out; unfold maxLen; omega) (by have:=HLX.out; omega) w w.heap.size HB.out (Nat.le_refl _) HB.out.size ?_; intro A2 cp2 w2 hC3 hB3 hS3 _)
   have HV1:Hid (AsInv w (.slice A2 (xs ++ [(⟨nm,args⟩:A)]).length cp2) (L ++ [.string nm,.slice Ae args.length ce]) (xs ++ [(⟨nm,args⟩:A)]) w2):=η ⟨⟨_,by rw [List.length_append]; exact hC3⟩,hB3⟩
   have HX1:Hid (xs ++ [(⟨nm,args⟩:A)]=allAtoms (rs.take k) ++ [(⟨nm,args⟩:A)]):=η (by rw [HX.out])
   have hlx:xs.length+1=(xs ++ [(⟨nm,args⟩:A)]).length:=by simp
   rw [hlx]
   clear hC3 hB3 hS3 HC HB HR HL HF d0 d1 HX hlx e2
   generalize xs ++ [(⟨nm,args⟩:A)]=ys at *
   generalize L ++ [.string nm,.slice Ae args.length ce]=M at *
   clear HLX
   go_wp2
   go_loopw [3,5] (fun v i wr=>∃ (j:Nat) (Av:Option Addr) (cp:Nat) (M:List Value) (zs:List A),j≤body.length∧i=.int .i64 j∧v=.slice Av zs.length cp∧zs=ys ++ partAtoms (body.take j)∧AsInv w (.slice Av zs.length cp) M zs wr) (fun _ i _=>body.length - (intOf i).toNat)
   case atStart=>exact ⟨0,_,_,_,ys,Nat.zero_le _,rfl,rfl,by simp [partAtoms],HV1.out⟩
   case round=>
    obtain ⟨j,Aw,cq,M2,zs,hj,rfl,rfl,hzs,hV⟩:=hrel
    clear HV1
    have HZ:=η hzs
    have HLZ:Hid (zs.length+1≤1000001):=η (by
     have h1:=HLN.out
     rw [← HX1.out,List.length_append,partAtoms_len] at h1
     rw [hzs,List.length_append,partAtoms_len,List.length_take]; omega)
    clear hzs
    have e2:=cell_later hV.bel D2.out
    by_cases hlt:j < body.length
    ·obtain ⟨b4,o4,Ag,cg,bg,rfl,_,f0,f1,f2,hel,_⟩:=parts_el HBO.out hlt
     replace f0:=cell_later hV.bel f0
     replace f1:=cell_later hV.bel f1
     replace f2:=cell_later hV.bel f2
     have hj0:(0:Int)≤(j:Int):=by omega
     have hj1:(j:Int) < (body.length:Int):=by omega
     have hhd:=part_atom hel
     have hA:Below wr.heap.size wr (wr.alloc (.cells #[.string body[j].atom.name,.slice Ag body[j].atom.args.length cg] 68)):=(Below.refl _ _).alloc (Nat.le_refl _) _
     obtain ⟨bs0,hC0⟩:=(hV.below hA).coll
     have HC:=η hC0
     have HB:=η (hV.below hA).bel
     have HR:Hid (Rowed 2 atomK (wr.alloc (.cells #[.string body[j].atom.name,.slice Ag body[j].atom.args.length cg] 68)) [.string body[j].atom.name,.slice Ag body[j].atom.args.length cg] [body[j].atom] bg):=η (Rowed.one_el atomK_ones (atomK_good.below (atomK_good.below hhd hV.bel) hA))
     have HL:Hid (Lies (wr.alloc (.cells #[.string body[j].atom.name,.slice Ag body[j].atom.args.length cg] 68)) (some ⟨wr.heap.size,0,none⟩) [.string body[j].atom.name,.slice Ag body[j].atom.args.length cg]):=η (lies_block (heap_alloc_new wr (.cells #[.string body[j].atom.name,.slice Ag body[j].atom.args.length cg] 68)))
     have HF:Hid (∀ c ∈ bg,(Value.slice Aw zs.length cq).ownBlock ≠ some c):=η fun c hc=>own_block_ge hC0.own (atomK_good.lt hhd c hc)
     have HLJ:=η hlt
     have HSP:=η (partAtoms_snoc body j hlt)
     clear hel hhd hV hA hC0
     generalize body[j]=p at *
     clear hlt
     obtain ⟨no,⟨pn,pargs⟩⟩:=p
     dsimp only at *
     go_wp2_with (at_builtin; refine wpList_coll rfl _ _ _ rfl w.heap.size 68 i0 (.agg #[.string ⟨#[]⟩,.slice none 0 0]) 2 40 Tryz.underlying26 hi hz0 hz1 hz2 rfl (by omega) atomK_good (.slice Aw zs.length cq) zs.length _ _ _ rfl HC.out rfl (some ⟨wr.heap.size,0,none⟩) 1 1 _ [⟨pn,pargs⟩] _ rfl HR.out rfl HL.out HF.out (by have:=HLZ.out; unfold maxLen; omega) (by have:=HLZ.out; omega) w w.heap.size HB.out (Nat.le_refl _) HB.out.size ?_; intro A2 cp2 w2 hC3 hB3 hS3 _)
     have HV2:Hid (AsInv w (.slice A2 (zs ++ [(⟨pn,pargs⟩:A)]).length cp2) (M2 ++ [.string pn,.slice Ag pargs.length cg]) (zs ++ [(⟨pn,pargs⟩:A)]) w2):=η ⟨⟨_,by rw [List.length_append]; exact hC3⟩,hB3⟩
     clear hC3 hB3 hS3 HC HB HR HL HF f0 f1 f2 e2
     go_wp2
     go_roundw
     case rel=>exact ⟨j+1,A2,cp2,_,zs ++ [(⟨pn,pargs⟩:A)],HLJ.out,by go_num,by simp,by rw [HSP.out,HZ.out,List.append_assoc],HV2.out⟩
     case measure=>have:=HLJ.out; simp [intOf]; omega
    ·have he:j=body.length:=by omega
     have hj1:¬ (j:Int) < (body.length:Int):=by omega
     have HE:Hid (zs=allAtoms (rs.take (k+1))):=η (by rw [HSN.out,HZ.out,HX1.out,he,List.take_of_length_le (Nat.le_refl _)])
     have HV:=η hV
     clear hV he
     go_wp2
     go_roundw
     case rel=>exact ⟨k+1,Aw,cq,M2,zs,HLT.out,by go_num,rfl,HE.out,HV.out⟩
     case measure=>have:=HLT.out; simp [intOf]; omega
  ·have he:k=rs.length:=by omega
   have hk1:¬ (k:Int) < (rs.length:Int):=by omega
   obtain ⟨bs0,hC0⟩:=hV.coll
   obtain ⟨b2,hs2,_⟩:=hC0.slice
   have hx:xs=allAtoms rs:=by rw [HX.out,he,List.take_of_length_le (Nat.le_refl _)]
   have HZ:Hid (Below w.heap.size w wr∧∃ b2,atomsK wr [.slice Av xs.length cp] (allAtoms rs) b2):=η ⟨hV.bel,b2,by rw [← hx]; exact hs2⟩
   clear h hV he hx hs2 hC0 HX
   go_wp2
   go_ret
   obtain ⟨q1,q2,q3⟩:=HZ.out
   exact ⟨q1,_,rfl,q2,q3⟩
theorem sortedFacts_any (Ad:Option Addr) (n cap:Nat) (w:World):
  Calls Tryz.prog 119 #[.slice Ad n cap] w fun e w'=>e=.returned (.agg #[.slice Ad n cap,.func (.func 65) #[] #[]])∧Below w.heap.size w w':=by
 go_enter Tryz.func119,Tryz.ntmps119
 go_wp2
 exact bodyPost_ret (v:=.agg #[.slice Ad n cap,.func (.func 65) #[] #[]]) (by simp [results,Tryz.results119,go_sem]) rfl ⟨rfl,by repeat (first | exact Below.refl _ _ | (refine Below.setCell ?_ (by first | (simp; done) | (simp; omega)) _) | (refine Below.alloc ?_ (by first | (simp; done) | (simp; omega)) _))⟩
theorem ascends_any (xs:List A) (v:Value) (bs:List Nat) (w:World) (h:atomsK w [v] xs bs):
  Calls Tryz.prog 120 #[.agg #[v,.func (.func 65) #[] #[]]] w fun e w'=>e=.returned (.bool (asc xs))∧Below w.heap.size w w':=by
 obtain ⟨Ad,cap,rfl,hl,hm⟩:=sliceK_form h
 have hlm:=nat_ge_max (Nat.le_trans hl hm)
 clear hm
 have hA0:Below w.heap.size w (w.alloc (.cells #[.slice Ad xs.length cap,.func (.func 65) #[] #[]] 169)):=(Below.refl _ _).alloc (Nat.le_refl _) _
 go_enter Tryz.func120,Tryz.ntmps120
 go_wp2
 go_loopw [3] (fun i wr=>∃ k:Nat,0 < k∧(k≤xs.length∨k=1)∧i=.int .i64 k∧ascTo xs k∧Below w.heap.size w wr∧wr.cell? ⟨w.heap.size,0,none⟩=some (.slice Ad xs.length cap)∧wr.cell? ⟨w.heap.size,1,none⟩=some (.func (.func 65) #[] #[])∧w.heap.size < wr.heap.size) (fun i _=>xs.length+1 - (intOf i).toNat)
 case atStart=>exact ⟨1,Nat.one_pos,.inr rfl,rfl,ascTo_one _,hA0,by go_simp,by go_simp,by simp⟩
 case round=>
  obtain ⟨k,hp0,hk,rfl,hall,hb,s0,s1,hgt⟩:=hrel
  have HA:=η hall
  have HK:=η hk
  clear hall hA0 hk
  by_cases hlt:k < xs.length
  ·have hk0:(0:Int)≤(k:Int):=by omega
   have hk1:(k:Int) < (xs.length:Int):=by omega
   obtain ⟨j,hkj⟩:∃ j,k=j+1:=⟨k - 1,by omega⟩
   have hlj:j < xs.length:=by omega
   have HS:Hid (cmpA xs[j] xs[k] < 0→ascTo xs (k+1)):=by subst hkj; exact η (fun hc=>ascTo_step (xs:=xs) (k:=j) HA.out hlt hc)
   have HB:Hid (¬ cmpA xs[j] xs[k] < 0→asc xs=false):=by subst hkj; exact η (fun hc=>asc_bad xs j hlt hc)
   have hw1:IntKind.i64.wrap ((k:Int) - 1)=(j:Int):=(IntWalk.i64_in _ ⟨by omega,by omega⟩).trans (by omega)
   have hK:=η hkj
   have hx1:(0:Int)≤(j:Int):=by omega
   have hx2:(j:Int) < (xs.length:Int):=by omega
   clear HA hkj
   obtain ⟨b,o,Ae,ce,bk,Af,cf,bm,rfl,c0,c1,hel,d0,d1,hem⟩:=atoms_two (atomsK_good.below h hb) hlj hlt
   have hD:Below wr.heap.size wr wr.drew:=Below.drew (Below.refl _ _)
   have hcm:=atomOrder_any xs[j] xs[k] _ _ _ _ bk bm wr.drew (atomK_good.below hel hD) (atomK_good.below hem hD)
   clear h hel hem
   by_cases hc:cmpA xs[j] xs[k] < 0
   ·have hc':¬ 0≤cmpA xs[j] xs[k]:=by omega
    have HC:=η (HS.out hc)
    clear hc
    go_wp2
    go_region_held3 (fun w'=>w'.cell? ⟨b,o+j * 2,none⟩=some (.string xs[j].name)∧w'.cell? ⟨b,o+j * 2+1,none⟩=some (.slice Ae xs[j].args.length ce)∧w'.cell? ⟨b,o+k * 2,none⟩=some (.string xs[k].name)∧w'.cell? ⟨b,o+k * 2+1,none⟩=some (.slice Af xs[k].args.length cf)∧w'.cell? ⟨w.heap.size,0,none⟩=some (.slice (some ⟨b,o,none⟩) xs.length cap)∧w'.cell? ⟨w.heap.size,1,none⟩=some (.func (.func 65) #[] #[]))
     (first | go_keep | exact ⟨y0,y1,y2,y3,y4,y5⟩)
     (first
      | (go_at_call 65; refine hcm.mono ?_; rintro e w2 ⟨rfl,hb2⟩; have y0:=cell_later hb2 c0; have y1:=cell_later hb2 c1; have y2:=cell_later hb2 d0; have y3:=cell_later hb2 d1; have y4:=cell_later hb2 s0; have y5:=cell_later hb2 s1; have B2:=hD.trans hb2))
    go_wp2
    go_roundw
    case rel=>exact ⟨k+1,Nat.succ_pos _,.inl (by omega),by go_num,HC.out,hb.trans (B2.mono hb.size),y4,y5,Nat.lt_of_lt_of_le hgt B2.size⟩
    case measure=>simp [intOf]; omega
   ·have hc':0≤cmpA xs[j] xs[k]:=by omega
    have HC:=η (HB.out hc)
    clear hc
    go_wp2
    go_region_held3 (fun w'=>w'.cell? ⟨b,o+j * 2,none⟩=some (.string xs[j].name)∧w'.cell? ⟨b,o+j * 2+1,none⟩=some (.slice Ae xs[j].args.length ce)∧w'.cell? ⟨b,o+k * 2,none⟩=some (.string xs[k].name)∧w'.cell? ⟨b,o+k * 2+1,none⟩=some (.slice Af xs[k].args.length cf)∧w'.cell? ⟨w.heap.size,0,none⟩=some (.slice (some ⟨b,o,none⟩) xs.length cap)∧w'.cell? ⟨w.heap.size,1,none⟩=some (.func (.func 65) #[] #[]))
     (first | go_keep | exact ⟨y0,y1,y2,y3,y4,y5⟩)
     (first
      | (go_at_call 65; refine hcm.mono ?_; rintro e w2 ⟨rfl,hb2⟩; have y0:=cell_later hb2 c0; have y1:=cell_later hb2 c1; have y2:=cell_later hb2 d0; have y3:=cell_later hb2 d1; have y4:=cell_later hb2 s0; have y5:=cell_later hb2 s1; have B2:=hD.trans hb2))
    go_wp2
    go_ret
    exact ⟨ret_bool HC.out.symm,hb.trans (B2.mono hb.size)⟩
  ·have HE:Hid (asc xs=true):=η (asc_end fun j hj hjk=>HA.out j hj (by have:=HK.out; omega))
   go_wp2
   go_ret
   exact ⟨ret_bool HE.out.symm,hb⟩
structure D.Grew (w w':World):Prop where
 bel:Below w.heap.size w w'
 dr:w.drawn≤w'.drawn
theorem D.Grew.refl (w:World):Grew w w:=⟨Below.refl _ _,Nat.le_refl _⟩
theorem D.Grew.trans {a b c:World} (h:Grew a b) (k:Grew b c):Grew a c:=⟨h.bel.trans (k.bel.mono h.bel.size),Nat.le_trans h.dr k.dr⟩
theorem D.Grew.alloc {w w':World} (h:Grew w w') (o:Obj):Grew w (w'.alloc o):=⟨h.bel.alloc h.bel.size _,h.dr⟩
theorem D.Grew.is {w w':World} (h:Grew w w'):∃ q os',w'=Go.Sort.grow (w.drewN q) os':=by
 refine ⟨w'.drawn - w.drawn,w'.heap.extract w.heap.size w'.heap.size,?_⟩
 have e1:=h.bel.os
 have e2:=h.bel.tape
 have e3:=h.bel.output
 have e4:w'.drawn=w.drawn+(w'.drawn - w.drawn):=by have:=h.dr; omega
 have e5:w'.heap=w.heap ++ w'.heap.extract w.heap.size w'.heap.size:=by
  have hs:=h.bel.size
  apply Array.ext
  ·simp; omega
  ·intro i h1 h2
   by_cases hi:i < w.heap.size
   ·rw [Array.getElem_append_left hi]
    have:=h.bel.block i hi
    rw [Array.getElem?_eq_getElem h1,Array.getElem?_eq_getElem hi] at this
    exact Option.some.inj this
   ·rw [Array.getElem_append_right (by omega)]
    simp
    congr 1
    omega
 obtain ⟨hp,tp,dn,os,out⟩:=w
 obtain ⟨hp',tp',dn',os',out'⟩:=w'
 simp only [Go.Sort.grow,World.drewN] at *
 subst e1 e2 e3
 rw [← e4,← e5]
theorem order1_grew (t u:T) (w:World):
  Calls Tryz.prog 104 #[.agg #[.bool t.var,.string t.name],.agg #[.bool u.var,.string u.name]] w fun e w'=>e=.returned (.int .i64 (cmpS t.name u.name))∧Grew w w':=by
 go_enter Tryz.func104,Tryz.ntmps104
 go_wp2_with (go_at_call 102; refine (compare_any _ _ _).mono ?_; rintro e w' ⟨rfl,rfl⟩)
 go_ret
 exact ⟨rfl,((Grew.refl _).alloc _).alloc _⟩
theorem compareFunc_grew (ts us:List T) (v1 v2:Value) (b1 b2:List Nat) (w:World) (h1:termsK w [v1] ts b1) (h2:termsK w [v2] us b2):
  Calls Tryz.prog 103 #[v1,v2,.func (.func 104) #[] #[]] w
   fun e w'=>e=.returned (.int .i64 (cmpTs ts us))∧Grew w w':=by
 obtain ⟨Ad,cap,rfl,hl,hm⟩:=sliceK_form h1
 obtain ⟨Ad2,cap2,rfl,hl2,hm2⟩:=sliceK_form h2
 have hlm:=nat_ge_max (Nat.le_trans hl hm)
 have hlm2:=nat_ge_max (Nat.le_trans hl2 hm2)
 clear hm hm2
 go_enter Tryz.func103,Tryz.ntmps103
 go_wp2
 go_loopw [13] (fun i wr=>∃ k:Nat,k≤ts.length∧k≤us.length∧i=.int .i64 k∧cmpTs ts us=cmpTs (ts.drop k) (us.drop k)∧Grew w wr) (fun i _=>ts.length - (intOf i).toNat)
 case atStart=>exact ⟨0,Nat.zero_le _,Nat.zero_le _,rfl,rfl,Grew.refl _⟩
 case round=>
  obtain ⟨k,hk,hk2,rfl,hc,hb⟩:=hrel
  have HC:=η hc
  clear hc
  by_cases hlt:k < ts.length
  ·obtain ⟨b,o,rfl,_,c0,c1,_⟩:=terms_at (termsK_good.below h1 hb.bel) hlt
   have hA:Grew wr (wr.alloc (.cells #[.bool ts[k].var,.string ts[k].name] 109)):=(Grew.refl _).alloc _
   by_cases hlt2:k < us.length
   ·obtain ⟨b',o',rfl,_,d0,d1,_⟩:=terms_at (termsK_good.below h2 (hb.trans hA).bel) hlt2
    have HS:=η (cmpTs_step hlt hlt2)
    clear h1 h2
    go_wp2_with fail
    refine (order1_grew ts[k] us[k] _).mono ?_
    rintro e w' ⟨rfl,hb'⟩
    have B':Grew w w':=((hb.alloc _).alloc _).trans hb'
    by_cases hz:cmpS ts[k].name us[k].name=0
    ·have hz':(cmpS ts[k].name us[k].name == 0)=true:=by simp [hz]
     have HZ:=η hz
     clear hz hA
     go_wp2
     go_roundw
     case rel=>exact ⟨k+1,by omega,by omega,by go_num,by rw [HC.out,HS.out,if_pos HZ.out],B'⟩
     case measure=>simp [intOf]; omega
    ·have hz':(cmpS ts[k].name us[k].name == 0)=false:=by simp [hz]
     have HZ:=η hz
     clear hz hA
     go_wp2
     go_ret
     exact ⟨ret_int (by rw [HC.out,HS.out,if_neg HZ.out]),B'⟩
   ·clear h1 h2
    have HS:=η (cmpTs_end1 hlt (Nat.le_of_not_lt hlt2))
    go_wp2
    go_ret
    exact ⟨ret_int (by rw [HC.out,HS.out]),hb.trans hA⟩
  ·have he:ts.length≤k:=by omega
   by_cases hlt2:k < us.length
   ·have HS:=η (cmpTs_end2 he hlt2)
    have hx:ts.length < us.length:=by omega
    go_wp2
    go_ret
    exact ⟨ret_int (by rw [HC.out,HS.out]),hb⟩
   ·have HS:=η (cmpTs_end3 he (Nat.le_of_not_lt hlt2))
    have hx:¬ ts.length < us.length:=by omega
    go_wp2
    go_ret
    exact ⟨ret_int (by rw [HC.out,HS.out]),hb⟩
theorem atomOrder_grew (a b:A) (c0 c1 d0 d1:Value) (b1 b2:List Nat) (w:World) (h1:atomK w [c0,c1] a b1) (h2:atomK w [d0,d1] b b2):
  Calls Tryz.prog 65 #[.agg #[c0,c1],.agg #[d0,d1]] w fun e w'=>e=.returned (.int .i64 (cmpA a b))∧Grew w w':=by
 obtain ⟨Ad,cap,rfl,rfl⟩:=atom_cells2 h1
 obtain ⟨Ae,cape,rfl,rfl⟩:=atom_cells2 h2
 have hq:=fun w' (hb:Grew w w')=>compareFunc_grew a.args b.args (.slice Ad a.args.length cap) (.slice Ae b.args.length cape) b1 b2 w' (atom_args (atomK_good.below h1 hb.bel)) (atom_args (atomK_good.below h2 hb.bel))
 have hc:cmpA a b=if cmpS a.name b.name=0 then cmpTs a.args b.args else cmpS a.name b.name:=rfl
 have HC:=η hc
 clear h1 h2 hc
 have hA:=((Grew.refl w).alloc (.cells #[.string a.name,.slice Ad a.args.length cap] 68)).alloc (.cells #[.string b.name,.slice Ae b.args.length cape] 68)
 by_cases hz:cmpS a.name b.name=0
 ·have hz':(cmpS a.name b.name != 0)=false:=by simp [hz]
  have HZ:=η hz
  clear hz
  go_enter Tryz.func65,Tryz.ntmps65
  go_wp2_with (go_at_call 102; refine (compare_any _ _ _).mono ?_; rintro e w' ⟨rfl,rfl⟩)
  refine (hq _ hA).mono ?_
  rintro e w' ⟨rfl,hb'⟩
  go_wp2
  go_ret
  exact ⟨ret_int (by rw [HC.out,if_pos HZ.out]),hA.trans hb'⟩
 ·have hz':(cmpS a.name b.name != 0)=true:=by simp [hz]
  have HZ:=η hz
  clear hz
  go_enter Tryz.func65,Tryz.ntmps65
  go_wp2_with (go_at_call 102; refine (compare_any _ _ _).mono ?_; rintro e w' ⟨rfl,rfl⟩)
  go_ret
  exact ⟨ret_int (by rw [HC.out,if_neg HZ.out]),hA⟩
theorem markAtomS_any (ts:List A) (v:Value) (bs:List Nat) (k B:Nat) (w:World) (h:atomsK w [v] ts bs) (hN:New B w bs) (hk:k+sumL cntA ts≤1000000000000):
  Calls Tryz.prog 15 #[v,.int .i64 k] w (Marked atomsK [v] (markAs ts k) bs (k+sumL cntA ts) B w):=by
 obtain ⟨Ad,cap,rfl,hl,hm⟩:=sliceK_form h
 have hlen:ts.length≤1000000000000:=Nat.le_trans (len_cnt cntA cntA_pos ts) (by omega)
 clear hm
 go_enter Tryz.func15,Tryz.ntmps15
 go_wp2
 go_loopw [1,5] (fun q j wr=>∃ (i:Nat) (ys:List A),i≤ts.length∧j=.int .i64 i∧q=.int .i64 (k+sumL cntA (ts.take i):Nat)∧ys=markTo mkA cntA ts k i∧atomsK wr [.slice Ad ts.length cap] ys bs∧New B wr bs∧KeptBut bs w wr) (fun _ j _=>ts.length - (intOf j).toNat)
 case atStart=>exact ⟨0,ts,Nat.zero_le _,rfl,rfl,rfl,h,hN,KeptBut.refl _ _⟩
 case round=>
  obtain ⟨i,ys,hi,rfl,rfl,hy,hT,hNr,hK⟩:=hrel
  clear h hN
  by_cases hlt:i < ts.length
  ·have HLT:=η hlt
   have hle:ys.length=ts.length:=by rw [hy,markTo_length]
   have hey:ys[i]'(by omega)=ts[i]:=by subst hy; exact markTo_at hlt
   have HS:=η (markTo_step (mk:=mkA) (cnt:=cntA) (k:=k) hlt)
   have hsn:=sumL_snoc cntA ts i hlt
   have hle2:=sumL_le_of_lt cntA ts i hlt
   have HY:=η hy
   clear hy
   obtain ⟨b,o,cs,bk,rfl,hb,hbk,hnd,hsub,hcs,hcell,hat,hput⟩:=sliceK_open atomK_good hT hNr.nodup (k:=i) (by omega)
   rw [hey] at hat
   obtain ⟨s,rfl,_,ht⟩:=hat
   obtain ⟨u0,c0⟩:∃ u,wr.cell? ⟨b,o+i * 2,none⟩=some u:=⟨_,hcell 0 _ rfl⟩
   have c1:wr.cell? ⟨b,o+i * 2+1,none⟩=some s:=by have:=hcell 1 _ rfl; rwa [← Nat.add_assoc] at this
   have f0:=(hNr.wri b hb).frozen (o+i * 2)
   have hbl:=hNr.lt hb
   generalize ts[i]=a at *
   have hca:cntA a=1+2 * a.args.length:=rfl
   have HP:=η hput
   have HL:=η hle
   have HN:=η hNr
   have HSN:=η hsn
   clear hcell hput hT hcs hle hNr hey hsn
   obtain ⟨q,hq⟩:∃ q,q=k+sumL cntA (ts.take i):=⟨_,rfl⟩
   rw [← hq] at HS ⊢
   have hq9:q+1+2 * a.args.length≤1000000000000:=by omega
   have hq1:(q:Int)+1≤1000000000000:=by omega
   have HQ:=η hq
   have HC:=η hca
   clear hq hle2 hca
   go_wp2_with fail
   refine (markText_any q _ (by omega)).mono ?_
   rintro e w2 ⟨rfl,hb2⟩
   have g0:w2.cell? ⟨b,o+i * 2,none⟩=some u0:=cell_later hb2 c0
   have g1:w2.cell? ⟨b,o+i * 2+1,none⟩=some s:=cell_later hb2 c1
   have f2:w2.frozen? ⟨b,o+i * 2,none⟩=false:=(hb2.frozen (p:=⟨b,o+i * 2,none⟩) hbl).trans f0
   have g3:(w2.setCell ⟨b,o+i * 2,none⟩ (.string (markText q))).cell? ⟨b,o+i * 2+1,none⟩=some s:=setCell_other g1 (by omega)
   have g4:(w2.setCell ⟨b,o+i * 2,none⟩ (.string (markText q))).cell? ⟨b,o+i * 2,none⟩=some (.string (markText q)):=World.cell?_setCell_same' _ _ _ (by rw [g0]; rfl)
   have hk2:KeptBut bs wr (w2.setCell ⟨b,o+i * 2,none⟩ (.string (markText q))):=(KeptBut.of_below hb2).setCell hb _
   have hN2:=(HN.out.below hb2).set ⟨b,o+i * 2,none⟩ (.string (markText q))
   have ht2:termsK (w2.setCell ⟨b,o+i * 2,none⟩ (.string (markText q))) [s] a.args bk:=termsK_good.keep (termsK_good.below ht hb2) fun c hc=>Below.heap_setCell _ _ _ _ fun e=>hbk (by rw [← (show c=b from e)]; exact hc)
   have hmt:=markTermS_any a.args s bk (q+1) B _ ht2 (hN2.sub hnd hsub) hq9
   have hrest:∀ p v,wr.cell? ⟨b,o+p,none⟩=some v→(p < i * 2∨i * 2+2≤p)→(w2.setCell ⟨b,o+i * 2,none⟩ (.string (markText q))).cell? ⟨b,o+p,none⟩=some v:=fun p v hv hp=>setCell_other (cell_later hb2 hv) (by omega)
   have hblk:∀ c ∈ bs,c ≠ b→(w2.setCell ⟨b,o+i * 2,none⟩ (.string (markText q))).heap[c]? = wr.heap[c]?:=fun c hc hne=>by rw [Below.heap_setCell _ _ _ _ hne,hb2.block c (HN.out.lt hc)]
   have HR:=η hrest
   have HB:=η hblk
   obtain ⟨Ae,ce,rfl,_⟩:=sliceK_form ht
   clear hrest hblk ht ht2 c0 c1 f0
   go_wp2_with fail
   generalize hw3:w2.setCell ⟨b,o+i * 2,none⟩ (.string (markText q))=w3 at *
   clear hw3
   refine hmt.mono ?_
   rintro e w4 ⟨rfl,hR4,hN4,hK4⟩
   have R:=HP.out w4 [.string (markText q),.slice Ae a.args.length ce] (mkA a q) rfl
    (fun j v hv=>by
     match j,hv with
     | 0,hv=>
      simp only [List.getElem?_cons_zero,Option.some.injEq] at hv
      subst hv
      rw [Nat.add_zero]
      exact hK4.cell hbk g4
     | 1,hv=>
      simp only [List.getElem?_cons_succ,List.getElem?_cons_zero,Option.some.injEq] at hv
      subst hv
      rw [← Nat.add_assoc]
      exact hK4.cell hbk g3
     | j+2,hv=>simp at hv)
    (fun p v hv hp=>hK4.cell hbk (HR.out p v hv hp))
    (fun c hc hne hnb=>by rw [hK4.block c (hN2.lt hc) hnb,HB.out c hc hne])
    ⟨_,rfl,markText_size (k:=q) (by omega),hR4⟩
   rw [HY.out,HS.out] at R
   have hN5:New B w4 bs:=hN2.mix hN4 hK4
   have hK5:KeptBut bs w w4:=hK.trans (hk2.trans (hK4.mono hsub))
   clear HP HN HR HB hmt g0 g1 f2 g3 g4 hK4 hN4 hN2 hk2 hR4 HY HS
   go_wp2_with fail
   go_roundw
   case rel=>exact ⟨i+1,_,HLT.out,by go_num,by have:=HQ.out; have:=HSN.out; have:=HC.out; go_num,rfl,R,hN5,hK5⟩
   case measure=>have:=HLT.out; simp [intOf]; omega
  ·have he:i=ts.length:=by omega
   subst he
   have HY:Hid (ys=markAs ts k):=η (by rw [hy,markTo_all]; rfl)
   have HT:Hid (ts.take ts.length=ts):=η (List.take_of_length_le (Nat.le_refl _))
   clear hy
   go_wp2
   go_ret
   exact ⟨by rw [HT.out]; rfl,by rw [← HY.out]; exact hT,hNr,hK⟩
theorem heldAtomS_any (ts:List A) (v:Value) (bs:List Nat) (k:Nat) (w:World) (h:atomsK w [v] (markAs ts k) bs) (hk:k+sumL cntA ts≤1000000000000):
  Calls Tryz.prog 16 #[v,.int .i64 k] w (Held (k+sumL cntA ts) w):=by
 obtain ⟨Ad,cap,rfl,hl,hm⟩:=sliceK_form h
 have hzl:=markAs_length ts k
 rw [hzl] at h hl ⊢
 have hlen:ts.length≤1000000000000:=Nat.le_trans (len_cnt cntA cntA_pos ts) (by omega)
 clear hm hl
 go_enter Tryz.func16,Tryz.ntmps16
 go_wp2
 go_loopw [1,5] (fun q j wr=>∃ i:Nat,i≤ts.length∧j=.int .i64 i∧q=.int .i64 (k+sumL cntA (ts.take i):Nat)∧Below w.heap.size w wr) (fun _ j _=>ts.length - (intOf j).toNat)
 case atStart=>exact ⟨0,Nat.zero_le _,rfl,rfl,Below.refl _ _⟩
 case round=>
  obtain ⟨i,hi,rfl,rfl,hb⟩:=hrel
  by_cases hlt:i < ts.length
  ·have HLT:=η hlt
   obtain ⟨b,o,Ae,ce,bk,rfl,_,c0,c1,hel,_⟩:=atoms_el (atomsK_good.below h hb) (k:=i) (by rw [hzl]; exact hlt)
   rw [markAs_at hlt] at c0 c1 hel
   have hsn:=sumL_snoc cntA ts i hlt
   have hle2:=sumL_le_of_lt cntA ts i hlt
   clear h hzl
   have hlt':(i:Int) < (ts.length:Int):=by omega
   have hk0:(0:Int)≤(i:Int):=by omega
   generalize ts[i]=a at *
   obtain ⟨q,hq⟩:∃ q,q=k+sumL cntA (ts.take i):=⟨_,rfl⟩
   rw [← hq] at c0 c1 hel ⊢
   have hca:cntA a=1+2 * a.args.length:=rfl
   have hq1:q+1+2 * a.args.length≤1000000000000:=by omega
   have d0:(0:Int)≤(q:Int)+1:=by omega
   have d1:(0:Int)≤(q:Int)+1+2 * (a.args.length:Int):=by omega
   have HQ:=η hq
   have HSN:=η hsn
   have HC:=η hca
   have ht:=atom_args hel
   dsimp only [mkA] at c0 c1 ht
   rw [markTs_length] at c1 ht
   clear hq hsn hle2 hca hel
   have hD:Below wr.heap.size wr wr.drew:=Below.drew (Below.refl _ _)
   go_wp2
   go_region_held3 (fun w'=>w'.cell? ⟨b,o+i * 2,none⟩=some (.string (markText q))) (first | go_keep | exact cell_later hw2 c0)
    (first | (go_at_call 39; refine (markText_any q _ (by omega)).mono ?_; rintro e w2 ⟨rfl,hw2⟩))
   have hB2:=hD.trans hw2
   have B2:=hb.trans (hB2.mono hb.size)
   have e1:=cell_later hB2 c1
   have hh:=heldTermS_any a.args _ bk (q+1) w2 (termsK_good.below ht hB2) hq1
   clear ht c0 c1
   go_wp2_with fail
   refine hh.mono ?_
   rintro e w4 ⟨rfl,hb4⟩
   clear hh
   have B4:=B2.trans (hb4.mono B2.size)
   go_wp2_with fail
   go_roundw
   case rel=>exact ⟨i+1,HLT.out,by go_num,by have:=HQ.out; have:=HSN.out; have:=HC.out; go_num,B4⟩
   case measure=>have:=HLT.out; simp [intOf]; omega
  ·have he:i=ts.length:=by omega
   subst he
   have HT:Hid (ts.take ts.length=ts):=η (List.take_of_length_le (Nat.le_refl _))
   go_wp2
   go_ret
   exact ⟨by rw [HT.out]; rfl,hb⟩
end Go.Proofs.YtiidmgchadagbaaGreatDoor
