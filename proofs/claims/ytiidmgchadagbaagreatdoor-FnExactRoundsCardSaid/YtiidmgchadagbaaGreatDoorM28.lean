/- Of the proof of FnExactRounds: HRule, VarsI, WdI. -/
import Derived.Test.YtiidmgchadagbaaGreatDoorM26
import Derived.Test.YtiidmgchadagbaaGreatDoorM20
import Derived.Test.YtiidmgchadagbaaGreatDoorM21
set_option linter.unusedVariables false
set_option maxHeartbeats 4000000
set_option maxRecDepth 100000
namespace Go.Proofs.YtiidmgchadagbaaGreatDoor
open Go.RowKit D
theorem szRule_any (r:Ru) (c0 c1 c2:Value) (bs:List Nat) (left:Int) (w:World) (h:ruleK w [c0,c1,c2] r bs) (h0:0≤left) (h1:left≤1048576):
  Calls Tryz.prog 29 #[.agg #[c0,c1,c2],.int .i64 left] w (Left left (bulkR r) w.heap.size w):=by
 obtain ⟨b1,b2,rfl,hp,hq⟩:=rule_parts h
 obtain ⟨Ad,cap,Ae,cape,rfl,rfl,rfl⟩:=rule_cells2 h
 have q1:=fun w' (hb:Below w.heap.size w w')=>szAtom_any r.head _ _ b1 left w' (atomK_good.below hp hb) h0 h1
 have q2:=fun l (g0:0≤l) (g1:l≤1048576) w' (hb:Below w.heap.size w w')=>szPartS_any r.body _ b2 l w' (partsK_good.below hq hb) g0 g1
 have hbk:bulkR r=bulkA r.head+bulkPts r.body:=rfl
 have HB:=η hbk
 clear h hp hq hbk
 have hA:=(Below.refl w.heap.size w).alloc (Nat.le_refl _) (.cells #[.string r.head.name,.slice Ad r.head.args.length cap,.slice Ae r.body.length cape] 59)
 go_enter Tryz.func29,Tryz.ntmps29
 go_wp2_with fail
 refine (q1 _ hA).mono ?_
 rintro e w1 ⟨hb1,z,rfl,hr⟩
 have B1:=hA.trans (hb1.mono hA.size)
 have x0:w1.cell? ⟨w.heap.size,0,none⟩=some (.string r.head.name):=cell_later hb1 (by go_simp)
 have x1:w1.cell? ⟨w.heap.size,1,none⟩=some (.slice Ad r.head.args.length cap):=cell_later hb1 (by go_simp)
 have x2:w1.cell? ⟨w.heap.size,2,none⟩=some (.slice Ae r.body.length cape):=cell_later hb1 (by go_simp)
 clear q1 hA
 rcases hr with rfl | ⟨hr0,hr1⟩
 ·go_wp2
  go_ret
  exact ⟨B1,_,rfl,.inl rfl⟩
 ·go_wp2_with fail
  refine (q2 z hr0 (by omega) _ B1).mono ?_
  rintro e w2 ⟨hb2,z2,rfl,hr2⟩
  have B2:=B1.trans (hb2.mono B1.size)
  rcases hr2 with rfl | ⟨hr3,hr4⟩
  ·go_wp2
   go_ret
   exact ⟨B2,_,rfl,.inl rfl⟩
  ·go_wp2
   go_ret
   exact ⟨B2,_,rfl,.inr ⟨hr3,by rw [HB.out]; omega⟩⟩
theorem toRule_b (r : Ru) (c0 c1 c2 : Value) (bs : List Nat) (w : World) (h : ruleK w [c0, c1, c2] r bs) (hn : bulkR r ≤ 1048576) :
    Calls Tryz.prog 33 #[.agg #[c0, c1, c2]] w (MakesA ruleK r w.heap.size w) := by
  obtain ⟨b1, b2, rfl, hp, hq⟩ := rule_parts h
  obtain ⟨Ad, cap, Ae, cape, rfl, rfl, rfl⟩ := rule_cells2 h
  have hbk : bulkA r.head + bulkPts r.body ≤ 1048576 := hn
  have q1 := fun w' (hb : Below w.heap.size w w') => toAtom_b r.head _ _ b1 w' (atomK_good.below hp hb) (by omega)
  have q2 := fun w' (hb : Below w.heap.size w w') => toPartS_any r.body _ b2 w' (partsK_good.below hq hb) (by omega)
  clear h hp hq
  have hA := (((Below.refl w.heap.size w).alloc (Nat.le_refl _) (.cells #[.string r.head.name, .slice Ad r.head.args.length cap, .slice Ae r.body.length cape] 59)).alloc (by simp) (.cells #[.string ⟨#[]⟩, .slice none 0 0, .slice none 0 0] 71)).alloc (by simp; omega) (.cells #[.string ⟨#[]⟩, .slice none 0 0, .slice none 0 0] 71)
  go_enter Tryz.func33, Tryz.ntmps33
  go_wp2_with fail
  refine (q1 _ hA).mono ?_
  rintro e w1 ⟨hb1, cs1, bs1, rfl, hR1, hN1⟩
  obtain ⟨Ad3, cap3, rfl⟩ := atom_cells hR1
  have hnm : r.head.name.size ≤ maxLen := by obtain ⟨_, _, hn, _⟩ := hR1; exact hn
  have B1 := hA.trans (hb1.mono hA.size)
  have x0 : w1.cell? ⟨w.heap.size, 0, none⟩ = some (.string r.head.name) := cell_later hb1 (by go_simp)
  have x1 : w1.cell? ⟨w.heap.size, 1, none⟩ = some (.slice Ad r.head.args.length cap) := cell_later hb1 (by go_simp)
  have x2 : w1.cell? ⟨w.heap.size, 2, none⟩ = some (.slice Ae r.body.length cape) := cell_later hb1 (by go_simp)
  have k0 : w1.cell? ⟨w.heap.size + 1 + 1, 0, none⟩ = some (.string ⟨#[]⟩) := cell_later hb1 (by go_simp)
  have k1 : w1.cell? ⟨w.heap.size + 1 + 1, 1, none⟩ = some (.slice none 0 0) := cell_later hb1 (by go_simp)
  have k2 : w1.cell? ⟨w.heap.size + 1 + 1, 2, none⟩ = some (.slice none 0 0) := cell_later hb1 (by go_simp)
  have l0 : w1.cell? ⟨w.heap.size + 1, 0, none⟩ = some (.string ⟨#[]⟩) := cell_later hb1 (by go_simp)
  have l1 : w1.cell? ⟨w.heap.size + 1, 1, none⟩ = some (.slice none 0 0) := cell_later hb1 (by go_simp)
  have l2 : w1.cell? ⟨w.heap.size + 1, 2, none⟩ = some (.slice none 0 0) := cell_later hb1 (by go_simp)
  have f0 : w1.frozen? ⟨w.heap.size + 1 + 1, 0, none⟩ = false := (hb1.frozen (p := ⟨w.heap.size + 1 + 1, 0, none⟩) (by simp)).trans (by go_simp)
  have f1 : w1.frozen? ⟨w.heap.size + 1 + 1, 1, none⟩ = false := (hb1.frozen (p := ⟨w.heap.size + 1 + 1, 1, none⟩) (by simp)).trans (by go_simp)
  have f2 : w1.frozen? ⟨w.heap.size + 1 + 1, 2, none⟩ = false := (hb1.frozen (p := ⟨w.heap.size + 1 + 1, 2, none⟩) (by simp)).trans (by go_simp)
  have g0 : w1.frozen? ⟨w.heap.size + 1, 0, none⟩ = false := (hb1.frozen (p := ⟨w.heap.size + 1, 0, none⟩) (by simp)).trans (by go_simp)
  have g1 : w1.frozen? ⟨w.heap.size + 1, 1, none⟩ = false := (hb1.frozen (p := ⟨w.heap.size + 1, 1, none⟩) (by simp)).trans (by go_simp)
  have g2 : w1.frozen? ⟨w.heap.size + 1, 2, none⟩ = false := (hb1.frozen (p := ⟨w.heap.size + 1, 2, none⟩) (by simp)).trans (by go_simp)
  have hge1 : ∀ b ∈ bs1, w.heap.size + 1 + 1 < b := fun b hb => by have := (hN1.own b hb).1; simp at this; omega
  have hS1 : w.heap.size + 1 + 1 < w1.heap.size := lt_of_cell k0
  have hB1 : Below w.heap.size w ((w1.setCell ⟨w.heap.size + 1 + 1, 0, none⟩ (.string r.head.name)).setCell ⟨w.heap.size + 1 + 1, 1, none⟩ (.slice Ad3 r.head.args.length cap3)) := (Below.setCell (Below.setCell B1 (by simp; omega) (.string r.head.name) (p := ⟨w.heap.size + 1 + 1, 0, none⟩)) (by simp; omega) (.slice Ad3 r.head.args.length cap3) (p := ⟨w.heap.size + 1 + 1, 1, none⟩))
  clear hA q1
  go_wp2_with fail
  refine (q2 _ hB1).mono ?_
  rintro e w2 ⟨hb2, v2, bs2, rfl, hR2, hN2⟩
  obtain ⟨Ae3, cape3, rfl, _, _⟩ := sliceK_form hR2
  have B2 := hB1.trans (hb2.mono hB1.size)
  have k0' : w2.cell? ⟨w.heap.size + 1 + 1, 0, none⟩ = some (.string r.head.name) := cell_later hb2 (by go_simp)
  have k1' : w2.cell? ⟨w.heap.size + 1 + 1, 1, none⟩ = some (.slice Ad3 r.head.args.length cap3) := cell_later hb2 (by go_simp)
  have k2' : w2.cell? ⟨w.heap.size + 1 + 1, 2, none⟩ = some (.slice none 0 0) := cell_later hb2 (by go_simp)
  have l0' : w2.cell? ⟨w.heap.size + 1, 0, none⟩ = some (.string ⟨#[]⟩) := cell_later hb2 (by go_simp)
  have l1' : w2.cell? ⟨w.heap.size + 1, 1, none⟩ = some (.slice none 0 0) := cell_later hb2 (by go_simp)
  have l2' : w2.cell? ⟨w.heap.size + 1, 2, none⟩ = some (.slice none 0 0) := cell_later hb2 (by go_simp)
  have f2' : w2.frozen? ⟨w.heap.size + 1 + 1, 2, none⟩ = false := (hb2.frozen (p := ⟨w.heap.size + 1 + 1, 2, none⟩) (by simp; omega)).trans (by go_simp)
  have g0' : w2.frozen? ⟨w.heap.size + 1, 0, none⟩ = false := (hb2.frozen (p := ⟨w.heap.size + 1, 0, none⟩) (by simp; omega)).trans (by go_simp)
  have g1' : w2.frozen? ⟨w.heap.size + 1, 1, none⟩ = false := (hb2.frozen (p := ⟨w.heap.size + 1, 1, none⟩) (by simp; omega)).trans (by go_simp)
  have g2' : w2.frozen? ⟨w.heap.size + 1, 2, none⟩ = false := (hb2.frozen (p := ⟨w.heap.size + 1, 2, none⟩) (by simp; omega)).trans (by go_simp)
  have hge2 : ∀ b ∈ bs2, w.heap.size + 1 + 1 < b := fun b hb => by have := (hN2.own b hb).1; simp at this; omega
  have hk1 : ∀ b ∈ bs1, ((w1.setCell ⟨w.heap.size + 1 + 1, 0, none⟩ (.string r.head.name)).setCell ⟨w.heap.size + 1 + 1, 1, none⟩ (.slice Ad3 r.head.args.length cap3)).heap[b]? = w1.heap[b]? := fun b hb => by
    have := hge1 b hb
    rw [Below.heap_setCell _ _ _ _ (by simp; omega), Below.heap_setCell _ _ _ _ (by simp; omega)]
  have hR1' := atomK_good.below (atomK_good.keep hR1 hk1) hb2
  have hN1' := (hN1.keep hk1).below hb2
  have hlt1 : ∀ b ∈ bs1, b < w1.heap.size := fun b hb => hN1.lt hb
  clear x0 k0 l0 f0 g0 x1 k1 l1 f1 g1 x2 k2 l2 f2 g2 q2 hk1 hR1
  go_wp2
  have hk : ∀ b, w.heap.size + 1 + 1 < b → ((((w2.setCell ⟨w.heap.size + 1 + 1, 2, none⟩ (.slice Ae3 r.body.length cape3)).setCell ⟨w.heap.size + 1, 0, none⟩ (.string r.head.name)).setCell ⟨w.heap.size + 1, 1, none⟩ (.slice Ad3 r.head.args.length cap3)).setCell ⟨w.heap.size + 1, 2, none⟩ (.slice Ae3 r.body.length cape3)).heap[b]? = w2.heap[b]? := fun b hb => by
    rw [Below.heap_setCell _ _ _ _ (by simp; omega), Below.heap_setCell _ _ _ _ (by simp; omega), Below.heap_setCell _ _ _ _ (by simp; omega), Below.heap_setCell _ _ _ _ (by simp; omega)]
  exact bodyPost_ret (v := .agg #[.string r.head.name, .slice Ad3 r.head.args.length cap3, .slice Ae3 r.body.length cape3]) (by simp [results, Tryz.results33, go_sem, l0', l1', l2']) rfl
    ⟨((((B2.setCell (by first | (simp; done) | (simp; omega)) _).setCell (by first | (simp; done) | (simp; omega)) _).setCell (by first | (simp; done) | (simp; omega)) _).setCell (by first | (simp; done) | (simp; omega)) _), _, bs1 ++ bs2, rfl, ⟨_, _, bs1, bs2, rfl, hnm, rfl, termsK_good.keep (atom_args hR1') (fun b hb => hk b (hge1 b hb)), partsK_good.keep hR2 (fun b hb => hk b (hge2 b hb))⟩,
      (New.append ((hN1'.keep (fun b hb => hk b (hge1 b hb))).mono (B' := w.heap.size) (by simp; omega)) ((hN2.keep (fun b hb => hk b (hge2 b hb))).mono (B' := w1.heap.size) (by simp)) (by have := B1.size; omega) hlt1)⟩
end Go.Proofs.YtiidmgchadagbaaGreatDoor
namespace Go.Proofs.YtiidmgchadagbaaGreatDoor
open Go.RowKit D
attribute [local go_sem ↓] Go.wp_at_zero Go.wp_at_succ
theorem infoStrV:(Tryz.prog.info? 9).map (fun i=>(i.zero,i.size,i.bytes))=some (some (.string ⟨#[]⟩),1,16):=by kernel_rfl
structure D.VInv (w:World) (v:Value) (L:List Value) (xs:List ByteArray) (wr:World):Prop where
 coll:Coll 1 strK w.heap.size 9 wr v L xs []
 bel:Below w.heap.size w wr
theorem D.VInv.below {w wr w':World} {v:Value} {L:List Value} {xs:List ByteArray} (h:VInv w v L xs wr) (hb:Below wr.heap.size wr w'):VInv w v L xs w':=⟨h.coll.below strK_good hb,h.bel.trans (hb.mono h.bel.size)⟩
theorem bodyVars_any (ps:List Pt) (v:Value) (bs:List Nat) (w:World) (h:partsK w [v] ps bs) (hs:sumL (fun p=>p.atom.args.length) ps≤1000000):
  Calls Tryz.prog 173 #[v] w (Makes strsK (bodyVars ps) w.heap.size w):=by
 obtain ⟨Ad,cap,rfl,hl,hm⟩:=sliceK_form h
 have hlm:=nat_ge_max (Nat.le_trans hl hm)
 obtain ⟨i0,hi,hz0,hz1,hz2⟩:=info_parts infoStrV
 have HNL:Hid (∀ k,(namesPs (ps.take k)).length≤sumL (fun p=>p.atom.args.length) (ps.take k)):=η fun k=>namesPs_len _
 have HS:=η hs
 have HV:=η (Coll.nil (n:=1) (R:=strK) (base:=w.heap.size) (e:=9) w)
 clear hl hm hs
 go_enter Tryz.func173,Tryz.ntmps173
 go_wp2
 go_loopw [3,10] (fun v i wr=>∃ (k:Nat) (Av:Option Addr) (cp:Nat) (L:List Value) (xs:List ByteArray),k≤ps.length∧i=.int .i64 k∧v=.slice Av xs.length cp∧xs=namesPs (ps.take k)∧VInv w (.slice Av xs.length cp) L xs wr) (fun _ i _=>ps.length - (intOf i).toNat)
 case atStart=>exact ⟨0,none,0,[],[],Nat.zero_le _,rfl,rfl,rfl,HV.out,Below.refl _ _⟩
 case round=>
  obtain ⟨k,Av,cp,L,xs,hk,rfl,rfl,hxs,hV⟩:=hrel
  clear HV
  have HV:=η hV
  have HX:=η hxs
  clear hxs
  obtain ⟨wo,rfl⟩:∃ wo:World,wo=wr:=⟨_,rfl⟩
  by_cases hlt:k < ps.length
  ·obtain ⟨b,o,Ae,ce,bk,rfl,_,d0,d1,d2,hel,_⟩:=parts_el h hlt
   replace d0:=cell_later hV.bel d0
   replace d1:=cell_later hV.bel d1
   replace d2:=cell_later hV.bel d2
   have hk0:(0:Int)≤(k:Int):=by omega
   have hk1:(k:Int) < (ps.length:Int):=by omega
   have HLT:=η hlt
   have HN:=η (namesPs_snoc ps k hlt)
   have HB1:Hid ((namesPs (ps.take k)).length+ps[k].atom.args.length≤1000000):=η (by
    have h1:=HNL.out k
    have h2:=sumL_snoc (fun p:Pt=>p.atom.args.length) ps k hlt
    have h3:=sumL_take (fun p:Pt=>p.atom.args.length) ps (k+1)
    have:=HS.out
    omega)
   have hA:Below wo.heap.size wo (wo.alloc (.cells #[.bool ps[k].no,.string ps[k].atom.name,.slice Ae ps[k].atom.args.length ce] 111)):=(Below.refl _ _).alloc (Nat.le_refl _) _
   have ht:=atom_args (part_atom hel)
   obtain ⟨_,_,e0',hl2,hm2⟩:=sliceK_form ht
   have hla:=nat_ge_max (Nat.le_trans hl2 hm2)
   have HV1:=η (hV.below hA)
   have HT:=η ht
   clear h hV hel hA ht hl2 hm2 e0' HV
   generalize ps[k]=p at *
   clear hlt
   obtain ⟨no,nm,args⟩:=p
   dsimp only at *
   go_wp2
   generalize wo.alloc (.cells #[.bool no,.string nm,.slice Ae args.length ce] 111)=w1 at *
   go_loopw [3,18] (fun v i wr=>∃ (j:Nat) (Av:Option Addr) (cp:Nat) (L:List Value) (ys:List ByteArray),j≤args.length∧i=.int .i64 j∧v=.slice Av ys.length cp∧ys=namesPs (ps.take k) ++ namesTs (args.take j)∧VInv w (.slice Av ys.length cp) L ys wr) (fun _ i _=>args.length - (intOf i).toNat)
   case atStart=>exact ⟨0,Av,cp,L,xs,Nat.zero_le _,rfl,rfl,by rw [← HX.out]; simp [namesTs],HV1.out⟩
   case round=>
    clear HV1 HX
    obtain ⟨j,Aw,cq,M,ys,hj,rfl,rfl,hys,hV⟩:=hrel
    have HV:=η hV
    have HY:=η hys
    clear hys
    by_cases hlt:j < args.length
    ·obtain ⟨b2,o2,rfl,_,f0,f1,hsz⟩:=terms_at (termsK_good.below HT.out hV.bel) hlt
     have hj0:(0:Int)≤(j:Int):=by omega
     have hj1:(j:Int) < (args.length:Int):=by omega
     have HLJ:=η hlt
     have HNJ:=η (namesTs_snoc args j hlt)
     have hA2:Below wr.heap.size wr (wr.alloc (.cells #[.bool args[j].var,.string args[j].name] 109)):=(Below.refl _ _).alloc (Nat.le_refl _) _
     have hA3:Below wr.heap.size wr ((wr.alloc (.cells #[.bool args[j].var,.string args[j].name] 109)).alloc (.cells #[.string args[j].name] 9)):=hA2.alloc (by simp) _
     have HV2:=η (hV.below hA2)
     have HV3:=η (hV.below hA3)
     have HK:Hid (ys.length+1≤maxLen∧(ys.length+1) * 16≤140737488355328):=η (by
      have h1:=namesTs_len (args.take j)
      rw [List.length_take] at h1
      have h2:=HB1.out
      rw [HY.out,List.length_append]
      unfold maxLen; omega)
     have HSZ:=η hsz
     clear hV hA2 hA3 hsz HV
     generalize args[j]=t at *
     clear hlt
     obtain ⟨tv,tn⟩:=t
     dsimp only at *
     cases tv
     ·have HNJ2:Hid (namesTs (args.take (j+1))=namesTs (args.take j)):=η (by rw [HNJ.out]; simp)
      clear HNJ HV3
      go_wp2
      go_roundw
      case rel=>exact ⟨j+1,Aw,cq,M,ys,HLJ.out,by go_num,rfl,by rw [HNJ2.out]; exact HY.out,HV2.out⟩
      case measure=>have:=HLJ.out; simp [intOf]; omega
     ·have HNJ2:Hid (namesTs (args.take (j+1))=namesTs (args.take j) ++ [tn]):=η (by rw [HNJ.out]; simp)
      have HR2:Hid (Rowed 1 strK ((wr.alloc (.cells #[.bool true,.string tn] 109)).alloc (.cells #[.string tn] 9)) [.string tn] [tn] []):=η (Rowed.one_el strK_ones ⟨rfl,HSZ.out,rfl⟩)
      have HL2:Hid (Lies ((wr.alloc (.cells #[.bool true,.string tn] 109)).alloc (.cells #[.string tn] 9)) (some ⟨wr.heap.size+1,0,none⟩) [.string tn]):=η (by have:=lies_block (heap_alloc_new (wr.alloc (.cells #[.bool true,.string tn] 109)) (.cells #[.string tn] 9)); simpa using this)
      clear HNJ HV2
      go_wp2_with (at_builtin; refine wpList_coll rfl _ _ _ rfl w.heap.size 9 i0 (.string ⟨#[]⟩) 1 16 Tryz.underlying139 hi hz0 hz1 hz2 rfl (by omega) strK_good (.slice Aw ys.length cq) ys.length _ _ _ rfl HV3.out.coll rfl (some ⟨wr.heap.size+1,0,none⟩) 1 1 _ [tn] _ rfl HR2.out rfl HL2.out (fun b hb=>by simp at hb) HK.out.1 HK.out.2 w w.heap.size HV3.out.bel (Nat.le_refl _) HV3.out.bel.size ?_; intro A2 cp2 w2 hC3 hB3 hS3 _)
      have HC3:=η hC3
      have HB3:=η hB3
      clear hC3 hB3 hS3
      go_wp2
      go_roundw
      case rel=>exact ⟨j+1,A2,cp2,_,ys ++ [tn],HLJ.out,by go_num,by simp,by rw [HNJ2.out,HY.out,List.append_assoc],by rw [List.length_append]; exact HC3.out,HB3.out⟩
      case measure=>have:=HLJ.out; simp [intOf]; omega
    ·have he:j=args.length:=by omega
     have hj1:¬ (j:Int) < (args.length:Int):=by omega
     have HE:Hid (ys=namesPs (ps.take (k+1))):=η (by rw [HN.out,HY.out,he,List.take_of_length_le (Nat.le_refl _)])
     clear hV he
     go_wp2
     go_roundw
     case rel=>exact ⟨k+1,Aw,cq,M,ys,HLT.out,by go_num,rfl,HE.out,HV.out⟩
     case measure=>have:=HLT.out; simp [intOf]; omega
  ·have he:k=ps.length:=by omega
   have hk1:¬ (k:Int) < (ps.length:Int):=by omega
   have hxe:xs=namesPs ps:=by rw [HX.out,he,List.take_of_length_le (Nat.le_refl _)]
   have hxl:xs.length≤16777216:=by rw [hxe]; have:=namesPs_len ps; have:=HS.out; omega
   have HXE:=η hxe
   have HXL:=η hxl
   have c1:=sortS_any xs _ L w.heap.size wo hV.coll hxl
   have HSH:=η (own_shape hV.coll.own)
   clear h hV he hxe hxl HX hk
   go_wp2_with fail
   refine c1.mono ?_
   rintro e w2 ⟨rfl,ys,hys,hyl,hC2,hg2⟩
   have B2:Below w.heap.size w w2:=own_grown HV.out.bel HV.out.coll.own (Nat.le_refl _) HV.out.bel.size hg2
   have c2:=compactS_any ys _ _ w.heap.size w2 hC2 (by rw [hyl]; exact HXL.out)
   have HY:=η (And.intro hys (And.intro hC2 B2))
   clear c1 hys hyl hC2 hg2 B2
   go_wp2_with fail
   refine c2.mono ?_
   rintro e w3 ⟨v3,zs,rfl,hzs,hC3,hg3⟩
   have hz:zs=bodyVars ps:=by
    have h1:=sorted_names ps
    rw [HY.out.1,HXE.out] at hzs
    rw [h1] at hzs
    have inj:∀ (a b:List ByteArray),a.map (·.data.toList)=b.map (·.data.toList)→a=b:=by
     intro a
     induction a with
     | nil=>intro b h; cases b; rfl; simp at h
     | cons x a ih=>intro b h; cases b with
      | nil=>simp at h
      | cons y b=>simp only [List.map_cons,List.cons.injEq] at h; rw [bytes_inj h.1,ih b h.2]
    exact inj _ _ hzs
   subst hz
   obtain ⟨b9,hs9,hn9⟩:=hC3.new (New.nil _ _)
   have B3:=own_grown HY.out.2.2 HY.out.2.1.own (Nat.le_refl _) HY.out.2.2.size hg3
   have HZ:Hid (Makes strsK (bodyVars ps) w.heap.size w (.returned v3) w3):=η ⟨B3,_,_,rfl,hs9,hn9⟩
   clear c2 hzs hC3 hg3 hs9 hn9 B3
   go_wp2
   go_ret
   exact HZ.out
theorem D.bel_drewN {B:Nat} {a w:World} (h:Below B a w) (n:Nat):Below B a (w.drewN n):=⟨h.os,h.tape,h.output,h.size,h.block⟩
theorem wordOf_any (vars:List ByteArray) (hv:VarsOk vars) (b:Bd) (t:T) (ht:t.var=true→t.name ∈ vars) (blk o:Nat) (w:World) (h:BdAt vars b blk o w):
  Calls Tryz.prog 178 #[.pointer (some ⟨blk,o,none⟩),.agg #[.int .i64 (slotN vars t),.string (slotS t)]] w fun e w'=>e=.returned (.string (fillT b t).name)∧Below w.heap.size w w':=by
 obtain ⟨tv,tn⟩:=t
 have hA:Below w.heap.size w (w.alloc (.cells #[.int .i64 (slotN vars ⟨tv,tn⟩),.string (slotS ⟨tv,tn⟩)] 246)):=(Below.refl _ _).alloc (Nat.le_refl _) _
 have HB:=η hA
 cases tv
 ·have e1:slotN vars ⟨false,tn⟩ = -1:=rfl
  have e2:slotS ⟨false,tn⟩=tn:=rfl
  have e3:(fillT b ⟨false,tn⟩).name=tn:=rfl
  rw [e1,e2] at HB ⊢
  rw [e3]
  clear h hA ht e1 e2 e3
  go_enter Tryz.func178,Tryz.ntmps178
  go_wp2
  go_ret
  exact ⟨rfl,HB.out⟩
 ·have hn:=ht rfl
  have hi:vars.idxOf tn < vars.length:=List.idxOf_lt_length_of_mem hn
  have hf:=hv.few
  have e1:slotN vars ⟨true,tn⟩=((vars.idxOf tn:Nat):Int):=rfl
  have e3:(fillT b ⟨true,tn⟩).name=wrd vars b (vars.idxOf tn):=by
   unfold wrd
   rw [dif_pos hi]
   have:vars[vars.idxOf tn]=tn:=List.getElem_idxOf hi
   rw [this]; rfl
  have e2:slotS ⟨true,tn⟩=⟨#[]⟩:=rfl
  rw [e1,e2] at HB hA ⊢
  rw [e3]
  have hB:=(h.keep (hA.block _ h.lt))
  have y0:=hB.wd (vars.idxOf tn) (by omega)
  have k0:¬ ((vars.idxOf tn:Nat):Int) < 0:=by omega
  have k1:((vars.idxOf tn:Nat):Int) < 12:=by omega
  have k2:(0:Int)≤((vars.idxOf tn:Nat):Int):=by omega
  generalize vars.idxOf tn=j at *
  clear h hA ht hB e1 e3 e2 hi hn
  go_enter Tryz.func178,Tryz.ntmps178
  go_wp2
  go_quiet (fail)
  go_wp2
  go_ret
  exact ⟨rfl,bel_drewN HB.out _⟩
end Go.Proofs.YtiidmgchadagbaaGreatDoor
