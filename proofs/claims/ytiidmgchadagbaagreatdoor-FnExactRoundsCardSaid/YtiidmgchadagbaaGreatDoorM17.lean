/- Of the proof of FnExactRounds: FillS. -/
import Derived.Test.YtiidmgchadagbaaGreatDoorM15
set_option linter.unusedVariables false
set_option maxHeartbeats 4000000
set_option maxRecDepth 100000
namespace Go.Proofs.YtiidmgchadagbaaGreatDoor
open Go.RowKit D
attribute [local go_sem ↓] Go.wp_at_zero Go.wp_at_succ
theorem infoTermF:(Tryz.prog.info? 109).map (fun i=>(i.zero,i.size,i.bytes))=some (some (.agg #[.bool false,.string ⟨#[]⟩]),2,24):=by kernel_rfl
theorem D.valB_le {b:Bd} {n:ByteArray} {w:World} {cs:List Value} {bs:List Nat} (h:bindK w cs b bs):(valB b n).size≤maxLen:=by
 obtain ⟨x0,x1,b1,b2,rfl,rfl,h1,h2⟩:=h
 have hz:=strs_sizes h2
 unfold valB
 have:∀ (b:Bd) (v:ByteArray),getB b n=some v→v ∈ b.map (·.2):=by
  intro b
  induction b with
  | nil=>intro v h; cases h
  | cons p b ih=>
   intro v h
   rw [getB] at h
   by_cases hp:p.1=n
   ·rw [if_pos hp] at h
    cases h
    exact List.mem_cons_self ..
   ·rw [if_neg hp] at h
    exact List.mem_cons_of_mem _ (ih v h)
 cases hg:getB b n with
 | none=>exact Nat.zero_le _
 | some v=>exact hz v (this b v hg)
structure D.FInv (w:World) (x:A) (Ad:Option Addr) (cap:Nat) (c0 c1 v:Value) (L:List Value) (ts:List T) (wr:World):Prop where
 a_:wr.heap[w.heap.size]? = some (.cells #[.string x.name,.slice Ad x.args.length cap] 68 (0,0))
 b_:wr.heap[w.heap.size+1]? = some (.cells #[c0,c1] 141 (0,0))
 r_:wr.heap[w.heap.size+2]? = some (.cells #[.string ⟨#[]⟩,.slice none 0 0] 68 (0,0))
 o_:wr.heap[w.heap.size+3]? = some (.cells #[.string x.name,v] 68 (0,0))
 c_:Coll 2 termK (w.heap.size+4) 109 wr v L ts []
 bel:Below w.heap.size w wr
theorem D.FInv.below {w:World} {x:A} {Ad:Option Addr} {cap:Nat} {c0 c1 v:Value} {L:List Value} {ts:List T} {wr w':World} (h:FInv w x Ad cap c0 c1 v L ts wr) (hb:Below wr.heap.size wr w'):FInv w x Ad cap c0 c1 v L ts w':=
 ⟨by rw [hb.block _ (lt_of_block h.a_)]; exact h.a_,by rw [hb.block _ (lt_of_block h.b_)]; exact h.b_,by rw [hb.block _ (lt_of_block h.r_)]; exact h.r_,by rw [hb.block _ (lt_of_block h.o_)]; exact h.o_,h.c_.below termK_good hb,h.bel.trans (hb.mono h.bel.size)⟩
theorem D.FInv.set {w:World} {x:A} {Ad:Option Addr} {cap:Nat} {c0 c1 v:Value} {L:List Value} {ts:List T} {wr:World} (h:FInv w x Ad cap c0 c1 v L ts wr) (M o:Nat) (u:Value) (hM:w.heap.size+4≤M) (hne:v.ownBlock ≠ some M):FInv w x Ad cap c0 c1 v L ts (wr.setCell ⟨M,o,none⟩ u):=by
 have hk:∀ k,k ≠ M→(wr.setCell ⟨M,o,none⟩ u).heap[k]? = wr.heap[k]?:=fun k hk=>Below.heap_setCell _ _ _ _ hk
 refine ⟨by rw [hk _ (by omega)]; exact h.a_,by rw [hk _ (by omega)]; exact h.b_,by rw [hk _ (by omega)]; exact h.r_,by rw [hk _ (by omega)]; exact h.o_,?_,h.bel.setCell (by show w.heap.size≤M; omega) u⟩
 exact ⟨own_same h.c_.own fun b hb=>hk b fun e=>hne (e ▸ hb),h.c_.row.keep termK_good fun b hb=>(by cases hb),h.c_.far⟩
theorem D.FInv.app {w:World} {x:A} {Ad:Option Addr} {cap:Nat} {c0 c1 v v4:Value} {L L4:List Value} {ts ts4:List T} {wr w4:World} (h:FInv w x Ad cap c0 c1 v L ts wr) (hC:Coll 2 termK (w.heap.size+4) 109 w4 v4 L4 ts4 []) (hk:Below (w.heap.size+4) wr w4):
  w4.cell? ⟨w.heap.size+3,1,none⟩=some v∧w4.frozen? ⟨w.heap.size+3,1,none⟩=false∧FInv w x Ad cap c0 c1 v4 L4 ts4 (w4.setCell ⟨w.heap.size+3,1,none⟩ v4):=by
 have b0:=(hk.block w.heap.size (by omega)).trans h.a_
 have b1:=(hk.block (w.heap.size+1) (by omega)).trans h.b_
 have b2:=(hk.block (w.heap.size+2) (by omega)).trans h.r_
 have b3:=(hk.block (w.heap.size+3) (by omega)).trans h.o_
 have hs:∀ k,k ≠ w.heap.size+3→(w4.setCell ⟨w.heap.size+3,1,none⟩ v4).heap[k]? = w4.heap[k]?:=fun k hk=>Below.heap_setCell _ _ _ _ hk
 refine ⟨cell_of_blk b3,frozen_of_blk b3,⟨(hs _ (by omega)).trans b0,(hs _ (by omega)).trans b1,(hs _ (by omega)).trans b2,blk_set b3,hC.setBox termK_good (own_block_ge hC.own (by omega)) (by simp),?_⟩⟩
 exact (h.bel.trans (hk.mono (by omega))).setCell (by show w.heap.size≤w.heap.size+3; omega) v4
theorem fill_any (x:A) (b:Bd) (a0 a1 c0 c1:Value) (ba bs:List Nat) (w:World) (ha:atomK w [a0,a1] x ba) (h:bindK w [c0,c1] b bs) (hx:x.args.length≤1000000):
  Calls Tryz.prog 96 #[.agg #[a0,a1],.agg #[c0,c1]] w fun e w'=>Below w.heap.size w w'∧∃ d0 d1 bs',e=.returned (.agg #[d0,d1])∧atomK w' [d0,d1] (fillB x b) bs'∧∀ c ∈ bs',w.heap.size≤c:=by
 obtain ⟨s,hcs,hnm,ht⟩:=ha
 simp only [List.cons.injEq,and_true] at hcs
 obtain ⟨rfl,rfl⟩:=hcs
 obtain ⟨Ad,cap,rfl,hl,hm⟩:=sliceK_form ht
 obtain ⟨A1,p1,A2,p2,hcs⟩:=bind_cells h
 simp only [List.cons.injEq,and_true] at hcs
 obtain ⟨rfl,rfl⟩:=hcs
 obtain ⟨i0,hi,hz0,hz1,hz2⟩:=info_parts infoTermF
 clear hm
 have H:=η h
 have HT:=η ht
 have HVL:=η fun n=>valB_le (n:=n) h
 have hI0:FInv w x Ad cap (.slice A1 b.length p1) (.slice A2 b.length p2) (.slice none 0 0) [] [] ((((w.alloc (.cells #[.string x.name,.slice Ad x.args.length cap] 68)).alloc (.cells #[.slice A1 b.length p1,.slice A2 b.length p2] 141)).alloc (.cells #[.string ⟨#[]⟩,.slice none 0 0] 68)).alloc (.cells #[.string x.name,.slice none 0 0] 68)):=by
  refine ⟨?_,?_,?_,?_,Coll.nil _,((((Below.refl _ _).alloc (Nat.le_refl _) _).alloc (by simp) _).alloc (by simp; omega) _).alloc (by simp; omega) _⟩
  ·rw [Below.heap_alloc _ _ _ (by simp; omega),Below.heap_alloc _ _ _ (by simp; omega),Below.heap_alloc _ _ _ (by simp)]
   exact heap_alloc_new w _
  ·rw [Below.heap_alloc _ _ _ (by first | (simp; done) | (simp; omega)),Below.heap_alloc _ _ _ (by first | (simp; done) | (simp; omega))]
   simpa using heap_alloc_new (w.alloc (.cells #[.string x.name,.slice Ad x.args.length cap] 68)) (.cells #[.slice A1 b.length p1,.slice A2 b.length p2] 141)
  ·rw [Below.heap_alloc _ _ _ (by simp)]
   simpa using heap_alloc_new ((w.alloc (.cells #[.string x.name,.slice Ad x.args.length cap] 68)).alloc (.cells #[.slice A1 b.length p1,.slice A2 b.length p2] 141)) (.cells #[.string ⟨#[]⟩,.slice none 0 0] 68)
  ·simpa using heap_alloc_new (((w.alloc (.cells #[.string x.name,.slice Ad x.args.length cap] 68)).alloc (.cells #[.slice A1 b.length p1,.slice A2 b.length p2] 141)).alloc (.cells #[.string ⟨#[]⟩,.slice none 0 0] 68)) (.cells #[.string x.name,.slice none 0 0] 68)
 have HI0:=η hI0
 clear h ht hI0
 go_enter Tryz.func96,Tryz.ntmps96
 go_wp2_with fail
 generalize (((w.alloc (.cells #[.string x.name,.slice Ad x.args.length cap] 68)).alloc (.cells #[.slice A1 b.length p1,.slice A2 b.length p2] 141)).alloc (.cells #[.string ⟨#[]⟩,.slice none 0 0] 68)).alloc (.cells #[.string x.name,.slice none 0 0] 68)=w0 at *
 go_loopw [6,7] (fun i _ wr=>∃ (k:Nat) (Av:Option Addr) (cv:Nat) (L:List Value),k≤x.args.length∧i=.int .i64 k∧Hid (FInv w x Ad cap (.slice A1 b.length p1) (.slice A2 b.length p2) (.slice Av k cv) L ((x.args.take k).map (fillT b)) wr)) (fun i _ _=>x.args.length - (intOf i).toNat)
 case atStart=>exact ⟨0,none,0,[],Nat.zero_le _,rfl,HI0⟩
 case round=>
  obtain ⟨k,Av,cv,L,hk,rfl,hI⟩:=hrel
  clear HI0
  by_cases hlt:k < x.args.length
  ·obtain ⟨d,o,rfl,_,e0,e1,hnm1⟩:=terms_at (termsK_good.below HT.out hI.out.bel) hlt
   have hk0:(0:Int)≤(k:Int):=by omega
   have hk1:(k:Int) < (x.args.length:Int):=by omega
   have HTK:Hid ((x.args.take (k+1)).map (fillT b)=(x.args.take k).map (fillT b) ++ [fillT b x.args[k]]):=η (by rw [List.take_succ_eq_append_getElem hlt,List.map_append]; rfl)
   have HLM:Hid (((x.args.take k).map (fillT b)).length=k):=η (by simp; omega)
   have HLT:=η hlt
   have y1:wr.cell? ⟨w.heap.size,1,none⟩=some (.slice (some ⟨d,o,none⟩) x.args.length cap):=cell_of_blk hI.out.a_
   have z0:wr.cell? ⟨w.heap.size+1,0,none⟩=some (.slice A1 b.length p1):=cell_of_blk hI.out.b_
   have z1:wr.cell? ⟨w.heap.size+1,1,none⟩=some (.slice A2 b.length p2):=cell_of_blk hI.out.b_
   have hN4:w.heap.size+4≤wr.heap.size:=by have:=lt_of_block hI.out.o_; omega
   have n0:w.heap.size < wr.heap.size:=by omega
   have n1:w.heap.size+1 < wr.heap.size:=by omega
   have n3:w.heap.size+1+1+1 < wr.heap.size:=by omega
   have nd:d < wr.heap.size:=lt_of_cell e0
   generalize x.args[k]=t at *
   clear hlt hk
   obtain ⟨tv,tn⟩:=t
   dsimp only at *
   have hA:Below wr.heap.size wr (wr.alloc (.cells #[.bool false,.string tn] 109)):=(Below.refl _ _).alloc (Nat.le_refl _) _
   have hX:=heap_alloc_new wr (.cells #[.bool false,.string tn] 109)
   have hIA:=hI.out.below hA
   have hno:∀ M,wr.heap.size≤M→(Value.slice Av k cv).ownBlock ≠ some M:=fun M hM e=>by have:=(own_inn hI.out.c_.own M e).2; omega
   cases tv
   case' true=>
    have q:=fun w' (hb:Below wr.heap.size wr w')=>get_any b tn _ _ bs w' (bindK_good.below H.out (hI.out.bel.trans (hb.mono hI.out.bel.size)))
    go_wp2_with fail
    have hB6:∀ w6,Below (World.drew (wr.alloc (.cells #[.bool false,.string tn] 109))).heap.size (World.drew (wr.alloc (.cells #[.bool false,.string tn] 109))) w6→Below wr.heap.size wr w6:=fun w6 hb6=>hA.drew.trans (hb6.mono hA.size)
    have hX6:∀ w6,Below (World.drew (wr.alloc (.cells #[.bool false,.string tn] 109))).heap.size (World.drew (wr.alloc (.cells #[.bool false,.string tn] 109))) w6→w6.heap[wr.heap.size]? = some (.cells #[.bool false,.string tn] 109 (0,0)):=fun w6 hb6=>(hb6.block _ (by show wr.heap.size < (World.alloc wr _).heap.size; simp)).trans hX
    have hK:∀ w6,Below (World.drew (wr.alloc (.cells #[.bool false,.string tn] 109))).heap.size (World.drew (wr.alloc (.cells #[.bool false,.string tn] 109))) w6→w6.cell? ⟨w.heap.size,1,none⟩=some (.slice (some ⟨d,o,none⟩) x.args.length cap)∧w6.cell? ⟨w.heap.size+1,0,none⟩=some (.slice A1 b.length p1)∧w6.cell? ⟨w.heap.size+1,1,none⟩=some (.slice A2 b.length p2)∧w6.cell? ⟨d,o+k * 2+1,none⟩=some (.string tn)∧w6.cell? ⟨wr.heap.size,1,none⟩=some (.string tn)∧w6.frozen? ⟨wr.heap.size,1,none⟩=false:=fun w6 hb6=>
     ⟨cell_later (hB6 w6 hb6) y1,cell_later (hB6 w6 hb6) z0,cell_later (hB6 w6 hb6) z1,cell_later (hB6 w6 hb6) e1,cell_of_blk (hX6 w6 hb6),frozen_of_blk (hX6 w6 hb6)⟩
    have hK2:∀ w6:World,(w6.cell? ⟨w.heap.size,1,none⟩=some (.slice (some ⟨d,o,none⟩) x.args.length cap)∧w6.cell? ⟨w.heap.size+1,0,none⟩=some (.slice A1 b.length p1)∧w6.cell? ⟨w.heap.size+1,1,none⟩=some (.slice A2 b.length p2)∧w6.cell? ⟨d,o+k * 2+1,none⟩=some (.string tn))→((w6.setCell ⟨wr.heap.size,1,none⟩ (.string (valB b tn))).cell? ⟨w.heap.size,1,none⟩=some (.slice (some ⟨d,o,none⟩) x.args.length cap)∧(w6.setCell ⟨wr.heap.size,1,none⟩ (.string (valB b tn))).cell? ⟨w.heap.size+1,0,none⟩=some (.slice A1 b.length p1)∧(w6.setCell ⟨wr.heap.size,1,none⟩ (.string (valB b tn))).cell? ⟨w.heap.size+1,1,none⟩=some (.slice A2 b.length p2)∧(w6.setCell ⟨wr.heap.size,1,none⟩ (.string (valB b tn))).cell? ⟨d,o+k * 2+1,none⟩=some (.string tn)):=fun w6 ⟨h1,h2,h3,h4⟩=>
     ⟨(World.cell?_of_block (w:=w6) (Below.heap_setCell w6 ⟨wr.heap.size,1,none⟩ _ _ (by show w.heap.size ≠ wr.heap.size; omega))).trans h1,(World.cell?_of_block (w:=w6) (Below.heap_setCell w6 ⟨wr.heap.size,1,none⟩ _ _ (by show w.heap.size+1 ≠ wr.heap.size; omega))).trans h2,(World.cell?_of_block (w:=w6) (Below.heap_setCell w6 ⟨wr.heap.size,1,none⟩ _ _ (by show w.heap.size+1 ≠ wr.heap.size; omega))).trans h3,(World.cell?_of_block (w:=w6) (Below.heap_setCell w6 ⟨wr.heap.size,1,none⟩ _ _ (by show d ≠ wr.heap.size; omega))).trans h4⟩
    go_region_held3 (fun w'=>w'.cell? ⟨w.heap.size,1,none⟩=some (.slice (some ⟨d,o,none⟩) x.args.length cap)∧w'.cell? ⟨w.heap.size+1,0,none⟩=some (.slice A1 b.length p1)∧w'.cell? ⟨w.heap.size+1,1,none⟩=some (.slice A2 b.length p2)∧w'.cell? ⟨d,o+k * 2+1,none⟩=some (.string tn))
     (first | go_keep | exact hq | exact hK2 _ hq)
     (first | (go_at_call 127; refine (q _ hA.drew).mono ?_; rintro e w6 ⟨rfl,hb6⟩; have ⟨j0,j1,j2,j3,j4,j5⟩:=hK w6 hb6; have hq:=And.intro j0 (And.intro j1 (And.intro j2 j3)); clear j0 j1 j2 j3))
    have HS:Hid (fillT b ⟨true,tn⟩=⟨false,valB b tn⟩):=η rfl
    have HVS:Hid ((valB b tn).size≤maxLen):=η (HVL.out tn)
    have hXt:(w6.setCell ⟨wr.heap.size,1,none⟩ (.string (valB b tn))).heap[wr.heap.size]? = some (.cells #[.bool false,.string (valB b tn)] 109 (0,0)):=blk_set (hX6 w6 hb6)
    have hIt:=(hI.out.below (hB6 w6 hb6)).set wr.heap.size 1 (.string (valB b tn)) hN4 (hno _ (Nat.le_refl _))
    clear hK hK2 hX6 hB6 hq q hIA j4 j5
    generalize hvn:valB b tn=nm' at *
    generalize hwt:w6.setCell ⟨wr.heap.size,1,none⟩ (.string nm')=wt at *
    clear hb6 hwt
   case' false=>
    have HS:Hid (fillT b ⟨false,tn⟩=⟨false,tn⟩):=η rfl
    have HVS:=η hnm1
    go_upto_region 8 with fail
    have hXt:=hX
    have hIt:=hIA
    generalize hwt:wr.alloc (.cells #[.bool false,.string tn] 109)=wt at *
    generalize hvn:tn=nm' at *
    clear hIA hwt
   all_goals
    have y3:wt.cell? ⟨w.heap.size+1+1+1,1,none⟩=some (.slice Av k cv):=cell_of_blk hIt.o_
    have y4:wt.cell? ⟨wr.heap.size,0,none⟩=some (.bool false):=cell_of_blk hXt
    have y5:wt.cell? ⟨wr.heap.size,1,none⟩=some (.string nm'):=cell_of_blk hXt
    have hAt:Below wt.heap.size wt (wt.alloc (.cells #[.bool false,.string nm'] 109)):=(Below.refl _ _).alloc (Nat.le_refl _) _
    have hNt:w.heap.size+4≤wt.heap.size:=by have:=lt_of_block hIt.o_; omega
    have HL:Hid (Coll 2 termK (w.heap.size+4) 109 (wt.alloc (.cells #[.bool false,.string nm'] 109)) (.slice Av k cv) L ((x.args.take k).map (fillT b)) []∧Rowed 2 termK (wt.alloc (.cells #[.bool false,.string nm'] 109)) [.bool false,.string nm'] [⟨false,nm'⟩] []∧Lies (wt.alloc (.cells #[.bool false,.string nm'] 109)) (some ⟨wt.heap.size,0,none⟩) [.bool false,.string nm']∧Below (w.heap.size+4) wt (wt.alloc (.cells #[.bool false,.string nm'] 109))∧w.heap.size+4≤(wt.alloc (.cells #[.bool false,.string nm'] 109)).heap.size):=
     η ⟨hIt.c_.below termK_good hAt,Rowed.one_el termK_ones ⟨rfl,HVS.out,rfl⟩,lies_block (heap_alloc_new wt _),hAt.mono hNt,Nat.le_trans hNt hAt.size⟩
    have H63:Hid (k+1≤maxLen):=η (by unfold maxLen; omega)
    have HBY:Hid ((k+1) * 24≤140737488355328):=η (by omega)
    have HIt:=η hIt
    clear hIt hXt hI y1 z0 z1 e0 e1 hA hX hno hAt
    go_wp2_with (at_builtin; refine wpList_coll rfl _ _ _ rfl (w.heap.size+4) 109 i0 (.agg #[.bool false,.string ⟨#[]⟩]) 2 24 Tryz.underlying66 hi hz0 hz1 hz2 rfl (Nat.zero_lt_succ 1) termK_good (.slice Av k cv) k L _ [] rfl HL.out.1 HLM.out (some ⟨wt.heap.size,0,none⟩) 1 1 _ [⟨false,nm'⟩] _ rfl HL.out.2.1 rfl HL.out.2.2.1 (fun b hb=>by simp at hb) H63.out HBY.out wt (w.heap.size+4) HL.out.2.2.2.1 (Nat.le_refl _) HL.out.2.2.2.2 ?_; intro A4 c4 w4 hC4 hB4 hS4 hG4; have HZ:=η (HIt.out.app hC4 hB4); have p1:=HZ.out.1; have p2:=HZ.out.2.1; clear hC4 hB4 hS4 hG4 y3 y4 y5)
    go_wp2
    go_roundw
    case rel=>exact ⟨k+1,A4,c4,_,HLT.out,by go_num,by rw [HTK.out,HS.out]; exact η HZ.out.2.2⟩
    case measure=>have:=HLT.out; simp [intOf]; omega
  ·have he:k=x.args.length:=by omega
   have hk1:¬ (k:Int) < (x.args.length:Int):=by omega
   have y1:wr.cell? ⟨w.heap.size,1,none⟩=some (.slice Ad x.args.length cap):=cell_of_blk hI.out.a_
   have y2:wr.cell? ⟨w.heap.size+1+1+1,0,none⟩=some (.string x.name):=cell_of_blk hI.out.o_
   have y3:wr.cell? ⟨w.heap.size+1+1+1,1,none⟩=some (.slice Av k cv):=cell_of_blk hI.out.o_
   have y4:wr.cell? ⟨w.heap.size+1+1,0,none⟩=some (.string ⟨#[]⟩):=cell_of_blk hI.out.r_
   have y5:wr.cell? ⟨w.heap.size+1+1,1,none⟩=some (.slice none 0 0):=cell_of_blk hI.out.r_
   have f4:wr.frozen? ⟨w.heap.size+1+1,0,none⟩=false:=frozen_of_blk hI.out.r_
   have f5:wr.frozen? ⟨w.heap.size+1+1,1,none⟩=false:=frozen_of_blk hI.out.r_
   have hfl:=blk_setG (o:=1) (u:=.slice Av k cv) (blk_setG (o:=0) (u:=.string x.name) hI.out.r_)
   have c0':((wr.setCell ⟨w.heap.size+1+1,0,none⟩ (.string x.name)).setCell ⟨w.heap.size+1+1,1,none⟩ (.slice Av k cv)).cell? ⟨w.heap.size+1+1,0,none⟩=some (.string x.name):=by simp [World.cell?,hfl]
   have c1':((wr.setCell ⟨w.heap.size+1+1,0,none⟩ (.string x.name)).setCell ⟨w.heap.size+1+1,1,none⟩ (.slice Av k cv)).cell? ⟨w.heap.size+1+1,1,none⟩=some (.slice Av k cv):=by simp [World.cell?,hfl]
   have HF:Hid (∃ bs',atomK ((wr.setCell ⟨w.heap.size+1+1,0,none⟩ (.string x.name)).setCell ⟨w.heap.size+1+1,1,none⟩ (.slice Av k cv)) [.string x.name,.slice Av k cv] (fillB x b) bs'∧∀ c ∈ bs',w.heap.size≤c):=η (by
    have hC:=(hI.out.c_.setBox (b:=w.heap.size+2) (o:=0) (u:=.string x.name) termK_good (own_block_ge hI.out.c_.own (by omega)) (by simp)).setBox (b:=w.heap.size+2) (o:=1) (u:=.slice Av k cv) termK_good (own_block_ge (hI.out.c_.setBox (b:=w.heap.size+2) (o:=0) (u:=.string x.name) termK_good (own_block_ge hI.out.c_.own (by omega)) (by simp)).own (by omega)) (by simp)
    obtain ⟨b2,h2,h3⟩:=hC.slice
    refine ⟨b2,⟨.slice Av k cv,rfl,hnm,?_⟩,fun c hc=>(h3 c hc).elim (fun h=>by omega) fun h=>by cases h⟩
    unfold fillB
    rw [he,List.take_of_length_le (Nat.le_refl _)] at h2
    rw [he]
    exact h2)
   have HB:=η ((hI.out.bel.setCell (p:=⟨w.heap.size+1+1,0,none⟩) (by show w.heap.size≤w.heap.size+1+1; omega) (.string x.name)).setCell (p:=⟨w.heap.size+1+1,1,none⟩) (by show w.heap.size≤w.heap.size+1+1; omega) (.slice Av k cv))
   clear hI he hk hfl
   go_wp2
   obtain ⟨bs',hF1,hF2⟩:=HF.out
   exact bodyPost_ret (v:=.agg #[.string x.name,.slice Av k cv]) (by simp [results,Tryz.results96,go_sem,c0',c1']) rfl ⟨HB.out,_,_,rfl,bs',hF1,hF2⟩
end Go.Proofs.YtiidmgchadagbaaGreatDoor
