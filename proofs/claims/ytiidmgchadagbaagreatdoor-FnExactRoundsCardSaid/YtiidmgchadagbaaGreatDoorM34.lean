/- Of the proof of FnExactRounds: HolI, SetI, WanI, UndI. -/
import Derived.Test.YtiidmgchadagbaaGreatDoorM31
import Derived.Test.YtiidmgchadagbaaGreatDoorM30
set_option linter.unusedVariables false
set_option maxHeartbeats 4000000
set_option maxRecDepth 100000
namespace Go.Proofs.YtiidmgchadagbaaGreatDoor
open Go.RowKit D
attribute [local go_sem ↓] Go.wp_at_zero Go.wp_at_succ
theorem holds_any (sb:Nat) (fs:List A) (rn:List Nat) (bs:List Nat) (a:A) (c0 c1:Value) (ba:List Nat) (w:World) (h:StoreV sb fs rn bs w) (ha:atomK w [c0,c1] a ba) (hok:atomOk a=true):
  Calls Tryz.prog 111 #[.pointer (some ⟨sb,0,none⟩),.agg #[c0,c1]] w fun e w'=>e=.returned (.bool (decide (aText a ∈ fs.map aText)))∧Below w.heap.size w w':=by
 obtain ⟨Ae,ce,rfl,rfl⟩:=atom_cells2 ha
 have hA:Below w.heap.size w (w.alloc (.cells #[.string a.name,.slice Ae a.args.length ce] 68)).drew:=((Below.refl _ _).alloc (Nat.le_refl _) _).drew
 have hbulk:bulkA a≤16777216:=by have:=bulk_ok hok; omega
 have hT:=η (atomText_any a (.string a.name) (.slice Ae a.args.length ce) ba _ (atomK_good.below ha hA) hbulk)
 obtain ⟨⟨Af,cf,Ar,cr,mu,mp,bf,br,Lu,Lp,h1,h2,h3,h4,h5,h6,h7,h8,h9,h10,h11,h12⟩,ho,hl⟩:=h
 have hsb:=hl _ ho
 have H5:=η h5
 have H7:=η (And.intro h7 h8)
 have HA:=η hA
 have HM:=η (hl _ h10)
 have HS:=η (aText_size hok)
 have y0:(w.alloc (.cells #[.string a.name,.slice Ae a.args.length ce] 68)).cell? ⟨sb,3,none⟩=some (.map (some mp)):=(World.cell?_alloc_lt _ _ _ hsb).trans (cell_of_blk h1)
 have y1:(w.alloc (.cells #[.string a.name,.slice Ae a.args.length ce] 68)).cell? ⟨w.heap.size,0,none⟩=some (.string a.name):=by go_simp
 have y2:(w.alloc (.cells #[.string a.name,.slice Ae a.args.length ce] 68)).cell? ⟨w.heap.size,1,none⟩=some (.slice Ae a.args.length ce):=by go_simp
 have hsb':sb < (w.alloc (.cells #[.string a.name,.slice Ae a.args.length ce] 68)).heap.size:=by simp; omega
 clear h1 h2 h3 h4 h5 h6 h7 h8 h9 h10 h11 h12 ho hl hA ha hok hbulk
 generalize hr:decide (aText a ∈ fs.map aText)=r at *
 have HR:=η hr
 clear hr
 go_enter Tryz.func111,Tryz.ntmps111
 go_wp2
 generalize w.alloc (.cells #[.string a.name,.slice Ae a.args.length ce] 68)=W at *
 go_region_law
  (first
   | (go_simp; go_at_call 110; refine hT.out.mono ?_; rintro e w2 ⟨rfl,hb2⟩; have HB2:=η hb2; replace y0:=cell_later ((Below.refl W.heap.size W).drew.trans hb2) y0; obtain ⟨vi,hlk⟩:=look_places (H5.out.below (HA.out.trans (hb2.mono HA.out.size)) HM.out) H7.out.1 H7.out.2 (aText a) HS.out; rw [HR.out] at hlk; unfold aText at hlk; clear hb2))
 all_goals
  have HB9:=η (HA.out.trans (HB2.out.mono HA.out.size))
  clear y0 y1 y2 hlk
  go_wp2
  go_ret
  exact ⟨rfl,HB9.out⟩
theorem D.key_whole {p f:A} {b:Bd} (h:(matchB p f b).2=true):(⟨p.name,p.args.length,-1,⟨#[]⟩⟩:WK) ∈ keysOf f:=by
 unfold matchB at h
 split at h
 ·rename_i e
  rw [e.1,e.2]
  exact List.mem_cons_self ..
 ·cases h
theorem D.key_at {p f:A} {b:Bd} (hf:Gr f) (h:(matchB p f b).2=true) {i:Nat} (hi:i < p.args.length) (hw:(fillT b p.args[i]).name ≠ ⟨#[]⟩):(⟨p.name,p.args.length,i,(fillT b p.args[i]).name⟩:WK) ∈ keysOf f:=by
 obtain ⟨h1,h2⟩:=matchB_fill hf h
 have hle:=matchB_le p f b
 generalize (matchB p f b).1=b' at *
 subst h2
 have e:(fillT b p.args[i]).name=((fillB p b').args[i]'(by simp [fillB]; exact hi)).name:=by
  simp only [fillB,List.getElem_map]
  unfold fillT at *
  cases hv:p.args[i].var
  ·rfl
  ·simp only [hv,if_true] at hw ⊢
   cases hg:getB b p.args[i].name with
   | none=>unfold valB at hw; rw [hg] at hw; exact absurd rfl hw
   | some v=>unfold valB; rw [hg,hle _ _ hg]
 rw [e]
 have:=keysOf_at (a:=fillB p b') (i:=i) (by simp [fillB]; exact hi)
 simpa [fillB] using this
theorem candidates_any (vars:List ByteArray) (hv:VarsOk vars) (b:Bd) (sb:Nat) (fs:List A) (rn:List Nat) (bs:List Nat) (a:A) (Ae:Option Addr) (ce:Nat) (b1:List Nat) (blk o:Nat) (w:World) (h:StoreV sb fs rn bs w) (hb:BdAt vars b blk o w)
  (ha:slotsK vars w [.slice Ae a.args.length ce] a.args b1) (hin:∀ t ∈ a.args,t.var=true→t.name ∈ vars) (hal:a.args.length≤1000000) (hfl:fs.length≤1000000):
  Calls Tryz.prog 216 #[.pointer (some ⟨sb,0,none⟩),.agg #[.string a.name,.slice Ae a.args.length ce],.pointer (some ⟨blk,o,none⟩)] w fun e w'=>
   ∃ A9 c9 k bx,e=.returned (.slice A9 (idxs fs k).length c9)∧intsK w' [.slice A9 (idxs fs k).length c9] (idxs fs k) bx∧(∀ x ∈ bx,x ∈ bs)∧(∀ f,Gr f→(matchB a f b).2=true→k ∈ keysOf f)∧Below w.heap.size w w':=by
 obtain ⟨an,args⟩:=a
 dsimp only at *
 obtain ⟨⟨Af,cf,Ar,cr,mu,mp,bf,br,Lu,Lp,h1,h2,h3,h4,h5,h6,h7,h8,h9,h10,h11,h12⟩,ho,hl⟩:=h
 have hA:Below w.heap.size w ((w.alloc (.cells #[.string an,.slice Ae args.length ce] 199)).alloc (.cells #[.string an,.int .i64 args.length,.int .i64 (-1),.string ⟨#[]⟩] 165)):=((Below.refl _ _).alloc (Nat.le_refl _) _).alloc (by simp) _
 have hblk:=hb.lt
 have hsb:=hl _ ho
 have hq0:((w.alloc (.cells #[.string an,.slice Ae args.length ce] 199)).alloc (.cells #[.string an,.int .i64 args.length,.int .i64 (-1),.string ⟨#[]⟩] 165)).heap[w.heap.size+1]? = some (.cells #[.string an,.int .i64 args.length,.int .i64 (-1),.string ⟨#[]⟩] 165 (0,0)):=by
  have:=heap_alloc_new (w.alloc (.cells #[.string an,.slice Ae args.length ce] 199)) (.cells #[.string an,.int .i64 args.length,.int .i64 (-1),.string ⟨#[]⟩] 165)
  simpa using this
 have hp0:((w.alloc (.cells #[.string an,.slice Ae args.length ce] 199)).alloc (.cells #[.string an,.int .i64 args.length,.int .i64 (-1),.string ⟨#[]⟩] 165)).drew.cell? ⟨w.heap.size,1,none⟩=some (.slice Ae args.length ce):=by go_simp
 have HX:=η (And.intro ha hin)
 have HB:=η hb
 have HA:=η hA
 have HQ:=η hq0
 have HS:=η (And.intro h1 hsb)
 have y0:=cell_later hA (show w.cell? ⟨sb,2,none⟩=some (.map (some mu)) from cell_of_blk h1)
 have hund:UndV mu fs bs w:=⟨⟨Lu,h4,h6⟩,h9,hl⟩
 have HU:=η hund
 have HLB:=η hl
 obtain ⟨A0,c0,bx0,hl0,hi0,hin0⟩:=(hund.below (hA.trans (Below.refl _ _).drew) hl).look ⟨an,args.length,-1,⟨#[]⟩⟩
 dsimp only at hl0
 clear hund
 have HI0:=η (And.intro hi0 (And.intro hin0 (fun f (_:Gr f) hm=>key_whole (p:=⟨an,args⟩) (f:=f) (b:=b) hm)))
 clear hA hb ha hin h1 h2 h3 h4 h5 h6 h7 h8 h9 h10 h11 h12 ho hl hq0 hi0 hin0
 go_enter Tryz.func216,Tryz.ntmps216
 go_wp2
 generalize ((w.alloc (.cells #[.string an,.slice Ae args.length ce] 199)).alloc (.cells #[.string an,.int .i64 args.length,.int .i64 (-1),.string ⟨#[]⟩] 165))=W at *
 have x0:W.cell? ⟨w.heap.size+1,0,none⟩=some (.string an):=cell_of_blk HQ.out
 have x1:W.cell? ⟨w.heap.size+1,1,none⟩=some (.int .i64 args.length):=cell_of_blk HQ.out
 have x2:W.cell? ⟨w.heap.size+1,2,none⟩=some (.int .i64 (-1)):=cell_of_blk HQ.out
 have x3:W.cell? ⟨w.heap.size+1,3,none⟩=some (.string ⟨#[]⟩):=cell_of_blk HQ.out
 go_region
 have HI1:Hid (∃ (key:WK) (bx:List Nat) (z:Int) (s:ByteArray),key=⟨an,args.length,-1,⟨#[]⟩⟩∧intsK W.drew [.slice A0 (idxs fs ⟨an,args.length,-1,⟨#[]⟩⟩).length c0] (idxs fs ⟨an,args.length,-1,⟨#[]⟩⟩) bx∧(∀ x ∈ bx,x ∈ bs)∧(∀ f,Gr f→(matchB ⟨an,args⟩ f b).2=true→(⟨an,args.length,-1,⟨#[]⟩⟩:WK) ∈ keysOf f)∧Below w.heap.size w W.drew∧W.drew.heap[w.heap.size+1]? = some (.cells #[.string an,.int .i64 args.length,.int .i64 z,.string s] 165 (0,0))):=
  η ⟨_,bx0,-1,⟨#[]⟩,rfl,HI0.out.1,HI0.out.2.1,HI0.out.2.2,HA.out.drew,HQ.out⟩
 clear HI0 HA HQ hl0 x0 x1 x2 x3 y0
 generalize W.drew=W1 at *
 go_wp2
 go_loopw [8,28] (fun best i wr=>∃ (k:Nat) (A9:Option Addr) (c9:Nat) (key:WK) (bx:List Nat) (z:Int) (s:ByteArray),k≤args.length∧i=.int .i64 k∧best=.slice A9 (idxs fs key).length c9∧intsK wr [.slice A9 (idxs fs key).length c9] (idxs fs key) bx∧(∀ x ∈ bx,x ∈ bs)∧(∀ f,Gr f→(matchB ⟨an,args⟩ f b).2=true→key ∈ keysOf f)∧Below w.heap.size w wr∧wr.heap[w.heap.size+1]? = some (.cells #[.string an,.int .i64 args.length,.int .i64 z,.string s] 165 (0,0))) (fun _ i _=>args.length - (intOf i).toNat)
 case atStart=>
  obtain ⟨key,bx,z,s,rfl,h⟩:=HI1.out
  exact ⟨0,A0,c0,_,bx,z,s,Nat.zero_le _,rfl,rfl,h⟩
 case round=>
  obtain ⟨k,A9,c9,key,bx,z,s,hk,rfl,rfl,hi,hin,hkey,hbel,hq⟩:=hrel
  clear HI1
  by_cases hlt:k < args.length
  ·obtain ⟨bq,oq,rfl,_,f0,f1,hsz⟩:=slots_at ((slotsK_good vars).below HX.out.1 hbel) hlt
   have hk0:(0:Int)≤(k:Int):=by omega
   have hk1:(k:Int) < (args.length:Int):=by omega
   have hA2:Below wr.heap.size wr (wr.alloc (.cells #[.int .i64 (slotN vars args[k]),.string (slotS args[k])] 246)):=(Below.refl _ _).alloc (Nat.le_refl _) _
   have hcall:=wordOf_any vars hv b args[k] (HX.out.2 _ (List.getElem_mem hlt)) blk o _ (HB.out.keep ((hbel.trans (hA2.mono hbel.size)).block _ hblk))
   have HLT:=η hlt
   have HKA:Hid (∀ f,Gr f→(matchB ⟨an,args⟩ f b).2=true→(fillT b args[k]).name ≠ ⟨#[]⟩→(⟨an,args.length,k,(fillT b args[k]).name⟩:WK) ∈ keysOf f):=η fun f hf hm hw=>key_at (p:=⟨an,args⟩) hf hm hlt hw
   have HI:=η (And.intro hi (And.intro hin (And.intro hkey (And.intro hbel hq))))
   have HA2:=η hA2
   have hil:(idxs fs key).length≤1000000:=Nat.le_trans (idxs_len _ _) hfl
   clear hi hkey hin hbel hq hA2 hsz hk
   generalize slotN vars args[k]=sn at *
   generalize slotS args[k]=ss at *
   generalize args[k]=t at *
   clear hlt
   go_wp2_with fail
   refine hcall.mono ?_
   rintro e w2 ⟨rfl,hb2⟩
   have hb2':=HA2.out.trans (hb2.mono HA2.out.size)
   have hq2:w2.heap[w.heap.size+1]? = some (.cells #[.string an,.int .i64 args.length,.int .i64 z,.string s] 165 (0,0)):=(hb2'.block _ (lt_of_block HI.out.2.2.2.2)).trans HI.out.2.2.2.2
   have hbel2:=HI.out.2.2.2.1.trans (hb2'.mono HI.out.2.2.2.1.size)
   have hi2:=intsK_good.below HI.out.1 hb2'
   have HI2:=η (And.intro hi2 (And.intro HI.out.2.1 (And.intro HI.out.2.2.1 (And.intro hbel2 hq2))))
   clear HI hcall hb2 hb2' HA2
   by_cases hw:(fillT b t).name=⟨#[]⟩
   ·have hw':=toL_none
    rw [hw]
    clear hq2 hbel2 hi2
    go_wp2
    go_roundw
    case rel=>exact ⟨k+1,A9,c9,key,bx,z,s,HLT.out,by go_num,rfl,HI2.out⟩
    case measure=>have:=HLT.out; simp [intOf]; omega
   ·have hw':=toL_full hw
    have x2:w2.cell? ⟨w.heap.size+1,2,none⟩=some (.int .i64 z):=cell_of_blk hq2
    have x3:w2.cell? ⟨w.heap.size+1,3,none⟩=some (.string s):=cell_of_blk hq2
    have x4:=fun q=>frozen_of_blk hq2 (o:=q)
    have HW:=η hw
    have hq3:=blk_setG (o:=3) (u:=.string (fillT b t).name) (blk_setG (o:=2) (u:=.int .i64 k) hq2)
    have hbel3:Below w.heap.size w ((w2.setCell ⟨w.heap.size+1,2,none⟩ (.int .i64 k)).setCell ⟨w.heap.size+1,3,none⟩ (.string (fillT b t).name)).drew:=((hbel2.setCell (p:=⟨w.heap.size+1,2,none⟩) (Nat.le_succ _) _).setCell (p:=⟨w.heap.size+1,3,none⟩) (Nat.le_succ _) _).drew
    obtain ⟨A8,c8,bx8,hl8,hi8,hin8⟩:=(HU.out.below hbel3 HLB.out).look ⟨an,args.length,k,(fillT b t).name⟩
    have hil8:(idxs fs ⟨an,args.length,k,(fillT b t).name⟩).length≤1000000:=Nat.le_trans (idxs_len _ _) hfl
    dsimp only at hl8
    simp at hq3
    have hi3:intsK ((w2.setCell ⟨w.heap.size+1,2,none⟩ (.int .i64 k)).setCell ⟨w.heap.size+1,3,none⟩ (.string (fillT b t).name)).drew [.slice A9 (idxs fs key).length c9] (idxs fs key) bx:=intsK_good.keep hi2 fun x hx=>by
     have:=HLB.out _ (HI2.out.2.1 x hx)
     show (World.setCell _ _ _).heap[_]? = _
     rw [Below.heap_setCell _ _ _ _ (by show x ≠ w.heap.size+1; omega),Below.heap_setCell _ _ _ _ (by show x ≠ w.heap.size+1; omega)]
    have HI3:=η (And.intro hi3 (And.intro HI2.out.2.1 (And.intro HI2.out.2.2.1 (And.intro hbel3 hq3))))
    have HI8:=η (And.intro hi8 (And.intro hin8 (And.intro (fun f hf hm=>HKA.out f hf hm HW.out) (And.intro hbel3 hq3))))
    have y2:((w2.setCell ⟨w.heap.size+1,2,none⟩ (.int .i64 k)).setCell ⟨w.heap.size+1,3,none⟩ (.string (fillT b t).name)).cell? ⟨sb,2,none⟩=some (.map (some mu)):=by
     rw [World.cell?_setCell_far _ _ _ _ (by show w.heap.size+1 ≠ sb; omega),World.cell?_setCell_far _ _ _ _ (by show w.heap.size+1 ≠ sb; omega)]
     exact cell_later hbel2 (cell_of_blk HS.out.1)
    have z0:((w2.setCell ⟨w.heap.size+1,2,none⟩ (.int .i64 k)).setCell ⟨w.heap.size+1,3,none⟩ (.string (fillT b t).name)).cell? ⟨w.heap.size+1,0,none⟩=some (.string an):=cell_of_blk hq3
    have z1:((w2.setCell ⟨w.heap.size+1,2,none⟩ (.int .i64 k)).setCell ⟨w.heap.size+1,3,none⟩ (.string (fillT b t).name)).cell? ⟨w.heap.size+1,1,none⟩=some (.int .i64 args.length):=cell_of_blk hq3
    have z2:((w2.setCell ⟨w.heap.size+1,2,none⟩ (.int .i64 k)).setCell ⟨w.heap.size+1,3,none⟩ (.string (fillT b t).name)).cell? ⟨w.heap.size+1,2,none⟩=some (.int .i64 k):=cell_of_blk hq3
    have z3:((w2.setCell ⟨w.heap.size+1,2,none⟩ (.int .i64 k)).setCell ⟨w.heap.size+1,3,none⟩ (.string (fillT b t).name)).cell? ⟨w.heap.size+1,3,none⟩=some (.string (fillT b t).name):=cell_of_blk hq3
    clear hq2 hbel2 hi2 hq3 hbel3 hi3 hi8 hin8
    go_wp2
    generalize ((w2.setCell ⟨w.heap.size+1,2,none⟩ (.int .i64 k)).setCell ⟨w.heap.size+1,3,none⟩ (.string (fillT b t).name))=W3 at *
    go_region
    by_cases hc:(idxs fs ⟨an,args.length,k,(fillT b t).name⟩).length < (idxs fs key).length
    ·have hc':((idxs fs ⟨an,args.length,k,(fillT b t).name⟩).length:Int) < ((idxs fs key).length:Int):=by omega
     go_wp2
     go_roundw
     case rel=>exact ⟨k+1,A8,c8,_,bx8,_,_,HLT.out,by go_num,rfl,HI8.out⟩
     case measure=>have:=HLT.out; simp [intOf]; omega
    ·have hc':¬ ((idxs fs ⟨an,args.length,k,(fillT b t).name⟩).length:Int) < ((idxs fs key).length:Int):=by omega
     go_wp2
     go_roundw
     case rel=>exact ⟨k+1,A9,c9,key,bx,_,_,HLT.out,by go_num,rfl,HI3.out⟩
     case measure=>have:=HLT.out; simp [intOf]; omega
  ·have he:k=args.length:=by omega
   have hk1:¬ (k:Int) < (args.length:Int):=by omega
   have HP:=η (And.intro hi (And.intro hin (And.intro hkey hbel)))
   clear hi hin hkey hbel hq
   go_wp2
   go_ret
   exact ⟨A9,c9,key,rfl,bx,HP.out⟩
theorem D.run_idx12 (cs:Array Value) (k:Nat) (v:Bool) (hk:k < 12) (h:cs[k]? = some (.bool v)) (w:World):(Instr.index 202 (.agg cs) (.int .i64 k)).run Tryz.prog w=.ok (.bool v) w:=by
 have h1:(Tryz.prog.info? 4).map (fun i=>i.size)=some 1:=by kernel_rfl
 obtain ⟨i0,hi0,hi1⟩:=Option.map_eq_some_iff.1 h1
 simp [Instr.index,asIntOf,run_underlying Tryz.underlying202,run_underlying Tryz.underlying4,sizeOf,typeInfo,hi0,hi1,part,isAgg,h,hk,Result.andThen]
theorem settled_any (vars:List ByteArray) (b:Bd) (sk sb:Nat) (v1 v2:Value) (wt:Nat→Bool) (io:Bool) (ah:Int) (tell:Value) (w:World) (h:SeaV sk sb v1 v2 wt io ah tell w) (hb:BdAt vars b sk 18 w):
  Calls Tryz.prog 197 #[.pointer (some ⟨sk,0,none⟩)] w fun e w'=>e=.returned (.bool (setB vars b wt))∧Below w.heap.size w w':=by
 have w0:=h.wd 0 (by omega)
 have w1:=h.wd 1 (by omega)
 have w2:=h.wd 2 (by omega)
 have w3:=h.wd 3 (by omega)
 have w4:=h.wd 4 (by omega)
 have w5:=h.wd 5 (by omega)
 have w6:=h.wd 6 (by omega)
 have w7:=h.wd 7 (by omega)
 have w8:=h.wd 8 (by omega)
 have w9:=h.wd 9 (by omega)
 have w10:=h.wd 10 (by omega)
 have w11:=h.wd 11 (by omega)
 simp only [Nat.add_zero,Nat.reduceAdd] at w0 w1 w2 w3 w4 w5 w6 w7 w8 w9 w10 w11
 have HB:=η hb
 clear h hb
 go_enter Tryz.func197,Tryz.ntmps197
 go_wp2
 have hcs0:∀ i,i < 12→(#[.bool (wt 0),.bool (wt 1),.bool (wt 2),.bool (wt 3),.bool (wt 4),.bool (wt 5),.bool (wt 6),.bool (wt 7),.bool (wt 8),.bool (wt 9),.bool (wt 10),.bool (wt 11)]:Array Value)[i]? = some (.bool (wt i)):=by
  intro i hi
  have:i=0∨i=1∨i=2∨i=3∨i=4∨i=5∨i=6∨i=7∨i=8∨i=9∨i=10∨i=11:=by omega
  rcases this with rfl | rfl | rfl | rfl | rfl | rfl | rfl | rfl | rfl | rfl | rfl | rfl <;> rfl
 have HCS:=η hcs0
 clear hcs0 w0 w1 w2 w3 w4 w5 w6 w7 w8 w9 w10 w11
 generalize (#[.bool (wt 0),.bool (wt 1),.bool (wt 2),.bool (wt 3),.bool (wt 4),.bool (wt 5),.bool (wt 6),.bool (wt 7),.bool (wt 8),.bool (wt 9),.bool (wt 10),.bool (wt 11)]:Array Value)=cs at *
 go_loopw [9] (fun i wr=>∃ (k:Nat),k≤12∧i=.int .i64 k∧(∀ j,j < k→wt j=true→wrd vars b j ≠ ⟨#[]⟩)∧wr=w) (fun i _=>12 - (intOf i).toNat)
 case atStart=>exact ⟨0,Nat.zero_le _,rfl,fun j hj=>by omega,rfl⟩
 case round=>
  obtain ⟨k,hk,rfl,hall,rfl⟩:=hrel
  by_cases hlt:k < 12
  ·have hk0:(0:Int)≤(k:Int):=by omega
   have hk1:(k:Int) < 12:=by omega
   have hc:=run_idx12 cs k (wt k) hlt (HCS.out k hlt) wr
   have y0:=HB.out.wd k hlt
   have HLT:=η hlt
   have HALL:=η hall
   clear hall hk hlt
   cases hwk:wt k
   ·rw [hwk] at hc
    have HK:Hid (∀ j,j < k+1→wt j=true→wrd vars b j ≠ ⟨#[]⟩):=η fun j hj hw=>by
     rcases Nat.lt_succ_iff_lt_or_eq.1 hj with h | rfl
     ·exact HALL.out j h hw
     ·rw [hwk] at hw; cases hw
    go_wp2
    go_roundw
    case rel=>exact ⟨k+1,HLT.out,by go_num,HK.out,by trivial⟩
    case measure=>have:=HLT.out; simp [intOf]; omega
   ·rw [hwk] at hc
    by_cases hw:wrd vars b k=⟨#[]⟩
    ·have hw':=toL_none
     rw [hw] at y0
     have HF:Hid (setB vars b wt=false):=η (by
      cases h:setB vars b wt
      ·rfl
      ·exact absurd hw (setB_iff.1 h k HLT.out hwk))
     go_wp2
     go_ret
     rw [HF.out]
     exact ⟨rfl,Below.refl _ _⟩
    ·have hw':=toL_full hw
     have HK:Hid (∀ j,j < k+1→wt j=true→wrd vars b j ≠ ⟨#[]⟩):=η fun j hj hw2=>by
      rcases Nat.lt_succ_iff_lt_or_eq.1 hj with h | rfl
      ·exact HALL.out j h hw2
      ·exact hw
     go_wp2
     go_roundw
     case rel=>exact ⟨k+1,HLT.out,by go_num,HK.out,by trivial⟩
     case measure=>have:=HLT.out; simp [intOf]; omega
  ·have he:k=12:=by omega
   subst he
   have HF:Hid (setB vars b wt=true):=η (setB_iff.2 hall)
   go_wp2
   go_ret
   rw [HF.out]
   exact ⟨rfl,Below.refl _ _⟩
def D.wantB (vars:List ByteArray) (ts:List T) (i:Nat):Bool:=ts.any fun t=>t.var && vars.idxOf t.name == i
theorem D.wantB_snoc (vars:List ByteArray) (ts:List T) (k i:Nat) (h:k < ts.length):wantB vars (ts.take (k+1)) i=(wantB vars (ts.take k) i || (ts[k].var && vars.idxOf ts[k].name == i)):=by
 unfold wantB
 rw [List.take_succ_eq_append_getElem h,List.any_append]
 simp
structure D.WtKept (sk:Nat) (w w':World):Prop where
 grow:w.grownBy w' (some sk)
 rest:∀ q,(q < 4∨16≤q)→w'.cell? ⟨sk,q,none⟩=w.cell? ⟨sk,q,none⟩
 frz:∀ q,w'.frozen? ⟨sk,q,none⟩=w.frozen? ⟨sk,q,none⟩
theorem D.WtKept.trans {sk:Nat} {w w' w2:World} (h:WtKept sk w w') (k:WtKept sk w' w2):WtKept sk w w2:=
 ⟨⟨k.grow.os.trans h.grow.os,k.grow.tape.trans h.grow.tape,k.grow.output.trans h.grow.output,Nat.le_trans h.grow.size k.grow.size,fun i hi hne=>(k.grow.block i (Nat.lt_of_lt_of_le hi h.grow.size) hne).trans (h.grow.block i hi hne)⟩,
  fun q hq=>(k.rest q hq).trans (h.rest q hq),fun q=>(k.frz q).trans (h.frz q)⟩
theorem D.WtKept.of_below {sk:Nat} {w w':World} (h:Below w.heap.size w w') (hb:sk < w.heap.size):WtKept sk w w':=
 ⟨⟨h.os,h.tape,h.output,h.size,fun i hi _=>h.block i hi⟩,fun q _=>World.cell?_of_block (h.block _ hb),fun q=>World.frozen?_of_block (h.block _ hb)⟩
theorem D.WtKept.put {sk:Nat} (w:World) (i:Nat) (hi:i < 12) (v:Value):WtKept sk w (w.setCell ⟨sk,4+i,none⟩ v):=
 ⟨⟨rfl,rfl,rfl,by simp [World.setCell],fun k _ hne=>Below.heap_setCell _ _ _ _ (fun e=>hne (by rw [e]))⟩,
  fun q hq=>World.cell?_setCell_other _ _ _ _ (fun e=>by injection e with _ e2 _; omega),fun q=>World.frozen?_setCell _ _ _ _⟩
theorem D.BdAt.wt {vars:List ByteArray} {b:Bd} {sk:Nat} {w w':World} (h:BdAt vars b sk 18 w) (k:WtKept sk w w'):BdAt vars b sk 18 w':=
 ⟨fun i hi=>(k.rest _ (by omega)).trans (h.wd i hi),fun i hi=>by obtain ⟨z,h1,h2⟩:=h.bd i hi; exact ⟨z,(k.rest _ (by omega)).trans h1,h2⟩,(k.rest _ (by omega)).trans h.ct,fun i hi=>(k.frz _).trans (h.fz i hi)⟩
theorem D.SeaV.put {sk sb:Nat} {v1 v2:Value} {wt:Nat→Bool} {io:Bool} {ah:Int} {tell:Value} {w:World} (h:SeaV sk sb v1 v2 wt io ah tell w) (j:Nat) (hj:j < 12) (wt':Nat→Bool) (hw:∀ i,i < 12→wt' i=(wt i || j == i)):
  SeaV sk sb v1 v2 wt' io ah tell (w.setCell ⟨sk,4+j,none⟩ (.bool true)):=by
 have k:=WtKept.put (sk:=sk) w j hj (.bool true)
 have c:=D.cell_put w sk (4+j) (.bool true) (h.wd j hj)
 refine ⟨(k.rest _ (by omega)).trans h.st,(k.rest _ (by omega)).trans h.p1,(k.rest _ (by omega)).trans h.p2,fun i hi=>?_,(k.rest _ (by omega)).trans h.io,(k.rest _ (by omega)).trans h.ah,(k.rest _ (by omega)).trans h.tl⟩
 rw [c,hw i hi]
 by_cases e:i=j
 ·subst e; simp
 ·rw [if_neg (by omega),h.wd i hi]
  have:(j == i)=false:=beq_eq_false_iff_ne.2 (fun e2=>e e2.symm)
  rw [this,Bool.or_false]
theorem want_any (vars : List ByteArray) (hv : VarsOk vars) (a : A) (Ae : Option Addr) (ce : Nat) (b1 : List Nat) (sk sb : Nat) (v1 v2 : Value) (wt : Nat → Bool) (io : Bool) (ah : Int) (tell : Value) (w : World) (h : SeaV sk sb v1 v2 wt io ah tell w)
    (hf : ∀ q, w.frozen? ⟨sk, q, none⟩ = false) (ha : slotsK vars w [.slice Ae a.args.length ce] a.args b1) (hin : ∀ t ∈ a.args, t.var = true → t.name ∈ vars) (h1 : sk ∉ b1) (hal : a.args.length ≤ 1000000) :
    Calls Tryz.prog 141 #[.pointer (some ⟨sk, 0, none⟩), .agg #[.string a.name, .slice Ae a.args.length ce]] w fun e w' => e = .returned (.tuple #[]) ∧ SeaV sk sb v1 v2 (fun i => wt i || wantB vars a.args i) io ah tell w' ∧ WtKept sk w w' := by
  obtain ⟨an, args⟩ := a
  dsimp only at *
  have hsk := h.lt
  have hA : Below w.heap.size w (w.alloc (.cells #[.string an, .slice Ae args.length ce] 199)) := (Below.refl _ _).alloc (Nat.le_refl _) _
  have HI0 : Hid (SeaV sk sb v1 v2 (fun i => wt i || wantB vars (args.take 0) i) io ah tell (w.alloc (.cells #[.string an, .slice Ae args.length ce] 199)) ∧ WtKept sk w (w.alloc (.cells #[.string an, .slice Ae args.length ce] 199))) :=
    Lib.hid ⟨by have e : (fun i => wt i || wantB vars (args.take 0) i) = wt := funext fun i => by simp [wantB]
                rw [e]; exact h.keep (hA.block _ hsk), WtKept.of_below hA hsk⟩
  have HX := Lib.hid (And.intro ha (And.intro hin hf))
  clear h ha hin hf hA
  go_enter Tryz.func141, Tryz.ntmps141
  go_wp2
  generalize w.alloc (.cells #[.string an, .slice Ae args.length ce] 199) = W at *
  go_loopw [9] (fun i wr => ∃ (k : Nat), k ≤ args.length ∧ i = .int .i64 k ∧ SeaV sk sb v1 v2 (fun i => wt i || wantB vars (args.take k) i) io ah tell wr ∧ WtKept sk w wr) (fun i _ => args.length - (intOf i).toNat)
  case atStart => exact ⟨0, Nat.zero_le _, rfl, HI0.out⟩
  case round =>
    obtain ⟨k, hk, rfl, hI, hK⟩ := hrel
    clear HI0
    by_cases hlt : k < args.length
    · have hws := hK.grow.size
      have hsl : slotsK vars wr [.slice Ae args.length ce] args b1 := (slotsK_good vars).keep HX.out.1 fun b hb => hK.grow.block b ((slotsK_good vars).lt HX.out.1 b hb) (fun e => h1 (by injection e with e; rw [← e]; exact hb))
      obtain ⟨bq, oq, rfl, _, f0, f1, hsz⟩ := slots_at hsl hlt
      have hk0 : (0 : Int) ≤ (k : Int) := by omega
      have hk1 : (k : Int) < (args.length : Int) := by omega
      have HIN := Lib.hid (HX.out.2.1 _ (List.getElem_mem hlt))
      have HWN : Hid (∀ i, wantB vars (args.take (k + 1)) i = (wantB vars (args.take k) i || (args[k].var && vars.idxOf args[k].name == i))) := Lib.hid fun i => wantB_snoc vars args k i hlt
      have hA2 : Below wr.heap.size wr (wr.alloc (.cells #[.int .i64 (slotN vars args[k]), .string (slotS args[k])] 246)) := (Below.refl _ _).alloc (Nat.le_refl _) _
      have hskr : sk < wr.heap.size := by omega
      have hI2 := hI.keep (hA2.block _ hskr)
      have HK2 := Lib.hid (hK.trans (WtKept.of_below hA2 hskr))
      have HLT := Lib.hid hlt
      have hz0 : (wr.alloc (.cells #[.int .i64 (slotN vars args[k]), .string (slotS args[k])] 246)).cell? ⟨wr.heap.size, 0, none⟩ = some (.int .i64 (slotN vars args[k])) := by go_simp
      clear hI hK hA2 hsz hk hsl
      generalize hsn : slotN vars args[k] = sn at *
      generalize slotS args[k] = ss at *
      generalize args[k] = t at *
      clear hlt
      have HSN := Lib.hid hsn
      have HNE : Hid (sk ≠ wr.heap.size) := Lib.hid (by omega)
      clear hsn
      cases htv : t.var
      · have hs : sn = -1 := by rw [← HSN.out]; unfold slotN; simp [htv]
        subst hs
        have HI3 : Hid (SeaV sk sb v1 v2 (fun i => wt i || wantB vars (args.take (k + 1)) i) io ah tell (wr.alloc (.cells #[.int .i64 (-1), .string ss] 246))) := Lib.hid (by
          have e : (fun i => wt i || wantB vars (args.take (k + 1)) i) = fun i => wt i || wantB vars (args.take k) i := funext fun i => by rw [HWN.out]; simp [htv]
          rw [e]; exact hI2)
        clear hI2
        go_wp2
        go_roundw
        case rel => exact ⟨k + 1, HLT.out, by go_num, HI3.out, HK2.out⟩
        case measure => have := HLT.out; simp [intOf]; omega
      · have hn := HIN.out htv
        have hi := List.idxOf_lt_length_of_mem hn
        have hfew := hv.few
        have hs : sn = ((vars.idxOf t.name : Nat) : Int) := by rw [← HSN.out]; unfold slotN; simp [htv]
        subst hs
        have hj : vars.idxOf t.name < 12 := by omega
        have hwn : ∀ i, i < 12 → (wt i || wantB vars (args.take (k + 1)) i) = ((wt i || wantB vars (args.take k) i) || vars.idxOf t.name == i) := fun i _ => by rw [HWN.out]; simp [htv, Bool.or_assoc]
        clear htv HSN hn hi HIN HWN
        generalize vars.idxOf t.name = j at *
        have y0 := hI2.wd j hj
        have y1 : (wr.alloc (.cells #[.int .i64 (j : Nat), .string ss] 246)).frozen? ⟨sk, 4 + j, none⟩ = false := (HK2.out.frz _).trans (HX.out.2.2 _)
        have hj0 : (0 : Int) ≤ (j : Int) := by omega
        have hj1 : (j : Int) < 12 := by omega
        have HI3 := Lib.hid (hI2.put j hj (fun i => wt i || wantB vars (args.take (k + 1)) i) hwn)
        have HK3 := Lib.hid (HK2.out.trans (WtKept.put _ j hj (.bool true)))
        clear hI2 HK2 hwn
        go_wp2
        generalize wr.alloc (.cells #[.int .i64 (j : Nat), .string ss] 246) = W1 at *
        go_region
        have HI4 : Hid (SeaV sk sb v1 v2 (fun i => wt i || wantB vars (args.take (k + 1)) i) io ah tell (W1.setCell ⟨sk, 4 + j, none⟩ (.bool true)).drew) := Lib.hid (HI3.out.keep rfl)
        have HK4 : Hid (WtKept sk w (W1.setCell ⟨sk, 4 + j, none⟩ (.bool true)).drew) := Lib.hid (HK3.out.trans (WtKept.of_below ((Below.refl _ _).drew) HI3.out.lt))
        go_wp2
        go_roundw
        case rel => exact ⟨k + 1, HLT.out, by go_num, HI4.out, HK4.out⟩
        case measure => have := HLT.out; simp [intOf]; omega
    · have he : k = args.length := by omega
      have hk1 : ¬ (k : Int) < (args.length : Int) := by omega
      rw [List.take_of_length_le (Nat.le_of_eq he.symm)] at hI
      have HP := Lib.hid (And.intro hI hK)
      clear hI hK
      go_wp2
      go_end0
      exact ⟨rfl, HP.out⟩
def D.cntAt (w:World) (blk o:Nat):Nat:=match w.cell? ⟨blk,o+24,none⟩ with | some (.int _ n)=>n.toNat | _=>0
theorem D.BdAt.cnt {vars:List ByteArray} {b:Bd} {blk o:Nat} {w:World} (h:BdAt vars b blk o w):cntAt w blk o=b.length:=by unfold cntAt; rw [h.ct]; simp
theorem undo_any (vars:List ByteArray) (hv:VarsOk vars) (b:Bd) (hbo:BdOk vars b) (m:Nat) (hm:m≤b.length) (blk o:Nat) (w:World) (hb:BdAt vars b blk o w):
  Calls Tryz.prog 201 #[.pointer (some ⟨blk,o,none⟩),.int .i64 m] w fun e w'=>e=.returned (.tuple #[])∧MatPost vars blk o w (b.take m) w':=by
 have hblk:=hb.lt
 have HI0:Hid (MatPost vars blk o w b w):=η ⟨hb,hbo,BdKept.refl _ _ _⟩
 clear hb
 go_enter Tryz.func201,Tryz.ntmps201
 go_wp2
 go_loopw [] (fun wr=>∃ (k:Nat),m≤k∧k≤b.length∧MatPost vars blk o w (b.take k) wr) (fun wr=>cntAt wr blk o)
 case atStart=>exact ⟨b.length,hm,Nat.le_refl _,by rw [List.take_of_length_le (Nat.le_refl _)]; exact HI0.out⟩
 case round=>
  obtain ⟨k,hmk,hkb,hI⟩:=hrel
  clear HI0
  have hct:=hI.at_.ct
  have hlk:(b.take k).length=k:=by simp; omega
  rw [hlk] at hct
  by_cases hlt:m < k
  ·obtain ⟨k,rfl⟩:∃ k',k=k'+1:=⟨k - 1,by omega⟩
   have hkb':k < b.length:=by omega
   have hsn:b.take (k+1)=b.take k ++ [(b[k].1,b[k].2)]:=List.take_succ_eq_append_getElem hkb'
   have hok:=hI.ok
   rw [hsn] at hok
   have hlk0:(b.take k).length=k:=by simp; omega
   obtain ⟨hok0,hn,hun⟩:=hok.init
   dsimp only at hn hun
   have hat:=hI.at_
   rw [hsn] at hat
   have hub:=hat.unbind hv hok
   rw [hlk0] at hub
   have hi:=List.idxOf_lt_length_of_mem hn
   have hfew:=hv.few
   have hlen:=hok0.len
   rw [hlk0] at hlen
   obtain ⟨z,hz1,hz2⟩:=hI.at_.bd k (by have:=hok.len; simp at this; omega)
   have hz3:z=(vars.idxOf b[k].1:Nat):=by
    rw [hz2 (by omega)]
    simp
   subst hz3
   have x0:=hI.at_.wd (vars.idxOf b[k].1) (by omega)
   have x1:=hI.at_.fz (vars.idxOf b[k].1) (by omega)
   have x3:=hI.at_.fz 24 (by omega)
   have hcm:=hI.at_.cnt
   rw [hlk] at hcm
   have HK:=η hI.kept
   have k12:k < 12:=by have:=hok.len; simp at this; omega
   clear hI hat hz2 hok hsn hn hun
   generalize vars.idxOf b[k].1=j at *
   have hm1:(m:Int) < ((k+1:Nat):Int):=by omega
   have hk0:(0:Int)≤(k:Int):=by omega
   have hk1:(k:Int) < 12:=by omega
   have hj0:(0:Int)≤(j:Int):=by omega
   have hj1:(j:Int) < 12:=by omega
   have e1:((k+1:Nat):Int) - 1=(k:Int):=by omega
   have p1:=D.cell_put wr blk (o+24) (.int .i64 (k:Nat)) hct
   have c1:(wr.setCell ⟨blk,o+24,none⟩ (.int .i64 (k:Nat))).cell? ⟨blk,o+24,none⟩=some (.int .i64 (k:Nat)):=(p1 _).trans (if_pos rfl)
   have c2:(wr.setCell ⟨blk,o+24,none⟩ (.int .i64 (k:Nat))).cell? ⟨blk,o+12+k,none⟩=some (.int .i64 (j:Nat)):=((p1 _).trans (if_neg (by omega))).trans hz1
   have c3:(wr.setCell ⟨blk,o+24,none⟩ (.int .i64 (k:Nat))).cell? ⟨blk,o+j,none⟩=_:=((p1 _).trans (if_neg (by omega))).trans x0
   have c4:(wr.setCell ⟨blk,o+24,none⟩ (.int .i64 (k:Nat))).frozen? ⟨blk,o+j,none⟩=false:=(World.frozen?_setCell _ _ _ _).trans x1
   have hkp:BdKept blk o w (((wr.setCell ⟨blk,o+24,none⟩ (.int .i64 (k:Nat))).setCell ⟨blk,o+j,none⟩ (.string ⟨#[]⟩)).drew):=by
    have k1:=HK.out.trans (BdKept.put wr 24 (by omega) (.int .i64 (k:Nat)))
    have k2:=k1.trans (BdKept.put _ j (by omega) (.string ⟨#[]⟩))
    exact k2.trans (BdKept.of_below ((Below.refl _ _).drew) (Nat.lt_of_lt_of_le hblk k2.grow.size))
   have HP:Hid (MatPost vars blk o w (b.take k) (((wr.setCell ⟨blk,o+24,none⟩ (.int .i64 (k:Nat))).setCell ⟨blk,o+j,none⟩ (.string ⟨#[]⟩)).drew)):=η ⟨hub.keep rfl,hok0,hkp⟩
   have HN:=η (And.intro hmk (And.intro hlt hkb))
   have HCM:=η hcm
   have HL:=η hlk0
   clear hub hok0 hkp p1 hlk hlk0 hcm
   go_wp2
   go_region
   have HM:Hid (cntAt (((wr.setCell ⟨blk,o+24,none⟩ (.int .i64 (k:Nat))).setCell ⟨blk,o+j,none⟩ (.string ⟨#[]⟩)).drew) blk o < cntAt wr blk o):=η (by rw [HP.out.at_.cnt,HL.out,HCM.out]; omega)
   clear c1 c2 c3 c4 x0 x1 x3 hct hz1
   generalize (((wr.setCell ⟨blk,o+24,none⟩ (.int .i64 (k:Nat))).setCell ⟨blk,o+j,none⟩ (.string ⟨#[]⟩)).drew)=S1 at *
   go_wp2
   go_roundw
   case rel=>exact ⟨k,by have:=HN.out; omega,by have:=HN.out; omega,HP.out⟩
   case measure=>exact HM.out
  ·have he:k=m:=by omega
   subst he
   have hk1:¬ (k:Int) < (k:Int):=by omega
   have HP:=η hI
   clear hI
   go_wp2
   go_end0
   exact ⟨rfl,HP.out⟩
end Go.Proofs.YtiidmgchadagbaaGreatDoor
