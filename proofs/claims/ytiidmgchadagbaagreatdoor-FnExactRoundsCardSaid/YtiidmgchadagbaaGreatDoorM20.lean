/- Of the proof of FnExactRounds: HAtomS, MapT, MapR, SortI, QryQ. -/
import Derived.Test.YtiidmgchadagbaaGreatDoorM14
import Derived.Test.YtiidmgchadagbaaGreatDoorM16
set_option linter.unusedVariables false
set_option maxHeartbeats 400000
namespace Go.Proofs.YtiidmgchadagbaaGreatDoor
open Go.RowKit D
attribute [local go_sem ↓] Go.wp_at_zero Go.wp_at_succ
theorem infoAtom:(Tryz.prog.info? 68).map (fun i=>(i.zero,i.size,i.bytes))=some (some (.agg #[.string ⟨#[]⟩,.slice none 0 0]),2,40):=by kernel_rfl
theorem szAtomS_any (ts:List A) (v:Value) (bs:List Nat) (left:Int) (w:World) (h:atomsK w [v] ts bs) (h0:0≤left) (h1:left≤1048576):
  Calls Tryz.prog 7 #[v,.int .i64 left] w (Left left (bulkAs ts) w.heap.size w):=by
 obtain ⟨Ad,cap,rfl,hl,hm⟩:=sliceK_form h
 have hlm:=nat_ge_max (Nat.le_trans hl hm)
 have hbk:bulkAs ts=ts.length+sumL bulkA ts:=rfl
 have HB:=η hbk
 clear hm hbk
 go_enter Tryz.func7,Tryz.ntmps7
 go_wp2
 ·go_ret
  exact ⟨Below.refl _ _,_,rfl,.inl rfl⟩
 ·go_loopw [1,5] (fun l i wr=>∃ (k:Nat) (m:Int),k≤ts.length∧i=.int .i64 k∧l=.int .i64 m∧0≤m∧m≤1048576∧m+ts.length+sumL bulkA (ts.take k)=left∧Below w.heap.size w wr) (fun _ i _=>ts.length - (intOf i).toNat)
  case atStart=>exact ⟨0,_,Nat.zero_le _,rfl,rfl,by assumption,by omega,by simp [sumL],Below.refl _ _⟩
  case round=>
   obtain ⟨k,m,hk,rfl,rfl,hm0,hm1,hsum,hb⟩:=hrel
   have HS:=η hsum
   clear hsum
   by_cases hlt:k < ts.length
   ·have hw:=atomsK_good.below h hb
    obtain ⟨b,o,Ae,ce,bk,rfl,_,c0,c1,hel,_⟩:=atoms_el hw hlt
    have HT:=η (sumL_snoc bulkA ts k hlt)
    clear h hw
    generalize ts[k]=t at *
    go_wp2_with fail
    refine (szAtom_any t _ _ bk m _ hel hm0 hm1).mono ?_
    rintro e w' ⟨hb',r,rfl,hr⟩
    clear hel
    go_wp2
    ·rcases hr with rfl | ⟨_,_⟩
     ·go_ret
      exact ⟨hb.trans (hb'.mono hb.size),_,rfl,.inl rfl⟩
     ·exfalso; omega
    ·rcases hr with rfl | ⟨hr0,hr1⟩
     ·exfalso; omega
     ·have:=HS.out
      have:=HT.out
      go_roundw
      case rel=>exact ⟨k+1,r,by omega,by go_num,rfl,hr0,by omega,by omega,hb.trans (hb'.mono hb.size)⟩
      case measure=>simp [intOf]; omega
   ·have he:k=ts.length:=by omega
    go_wp2
    go_ret
    refine ⟨hb,_,rfl,.inr ⟨hm0,?_⟩⟩
    have:=HS.out
    rw [he,List.take_of_length_le (Nat.le_refl _)] at this
    rw [HB.out]
    omega
theorem toAtomS_any (ts:List A) (v:Value) (bs:List Nat) (w:World) (h:atomsK w [v] ts bs) (hn:bulkAs ts≤1048576):
  Calls Tryz.prog 10 #[v] w (Makes atomsK ts w.heap.size w):=by
 obtain ⟨Ad,cap,rfl,hl,hm⟩:=sliceK_form h
 obtain ⟨i0,hi,hz0,hz1,hz2⟩:=info_parts infoAtom
 have hn2:ts.length+sumL bulkA ts≤1048576:=hn
 clear hm
 go_enter Tryz.func10,Tryz.ntmps10
 go_wp2_with (refine wpList_make_full _ rfl _ _ _ rfl w.heap.size 68 i0 _ 2 Tryz.underlying26 hi hz0 hz1 _ _ _ _ ts.length rfl rfl rfl rfl (by rw [hz2]; omega) (by unfold maxLen; omega) (Nat.le_refl _) ?_; intro w1 hown hgrow)
 have hb1:Below w.heap.size w w1:=(Below.refl _ _).grown hgrow (Nat.le_refl _) (fun _ e=>by cases e)
 have hg1:w.heap.size < w1.heap.size:=(hown.lt _ rfl).2
 clear hgrow
 go_loopw [4] (fun i wr=>∃ (k:Nat) (L:List Value) (bs':List Nat),k≤ts.length∧i=.int .i64 k∧wr.ownsRow w.heap.size 68 2 (.slice (some ⟨w.heap.size,0,none⟩) ts.length ts.length) ts.length L∧
   Filled 2 atomK w1.heap.size wr L ts k bs'∧Below w.heap.size w wr∧w1.heap.size≤wr.heap.size) (fun i _=>ts.length - (intOf i).toNat)
 case atStart=>exact ⟨0,_,_,Nat.zero_le _,rfl,hown,Filled.start,hb1,Nat.le_refl _⟩
 case round=>
  obtain ⟨k,L,bs',hk,rfl,how,hF,hb,hsz⟩:=hrel
  clear hown hb1
  by_cases hlt:k < ts.length
  ·have hw:=atomsK_good.below h hb
   obtain ⟨b,o,Ae,ce,bk,rfl,_,c0,c1,hel,_⟩:=atoms_el hw hlt
   have hle:bulkA ts[k]≤1048576:=by have:=sumL_at bulkA ts k hlt; omega
   have HK:=η hF
   clear h hw hF
   have hL:=η how.1
   go_wp2_with fail
   refine (toAtom_b ts[k] _ _ bk _ hel hle).mono ?_
   rintro e w' ⟨hb',cs',b2,rfl,hR,hN⟩
   obtain ⟨Ae',ce',rfl⟩:=atom_cells hR
   have how':=own_below how hb'
   obtain ⟨⟨u0,hu0⟩,hf0⟩:=own_slot how' (j:=k * 2) (by omega)
   obtain ⟨⟨u1,hu1⟩,hf1⟩:=own_slot how' (j:=k * 2+1) (by omega)
   obtain ⟨R1,R2,R3,R4⟩:=fill2 atomK_good how HK.out hlt hb hb' hg1 (Nat.le_refl _) hsz hR hN
   clear how' hel hR hN
   go_wp2
   go_roundw
   case rel=>exact ⟨k+1,_,_,by omega,by go_num,R1,R2,R3,R4⟩
   case measure=>simp [intOf]; omega
  ·have he:k=ts.length:=by omega
   subst he
   have HF:=η hF
   clear hF
   go_wp2
   go_ret
   obtain ⟨b2,r1,r2,r3,r4⟩:=HF.out.slice how (fun hm=>by have:=(HF.out.new.own _ hm).1; omega)
   refine ⟨hb,_,b2,rfl,r1,r2,fun b hb'=>⟨?_,r4 b hb'⟩⟩
   rcases r3 b hb' with ⟨rfl,h⟩ | h
   ·exact h
   ·have:=(HF.out.new.own b h).1; omega
theorem eqAtomS_same (ts:List A) (v1 v2:Value) (b1 b2:List Nat) (w:World) (h1:atomsK w [v1] ts b1) (h2:atomsK w [v2] ts b2):
  Calls Tryz.prog 12 #[v1,v2] w (Yes w.heap.size w):=by
 obtain ⟨Ad,cap,rfl,hl,hm⟩:=sliceK_form h1
 obtain ⟨Ad2,cap2,rfl,hl2,hm2⟩:=sliceK_form h2
 have hlm:=nat_ge_max (Nat.le_trans hl hm)
 clear hm hm2
 go_enter Tryz.func12,Tryz.ntmps12
 go_wp2
 go_loopw [5] (fun i wr=>∃ k:Nat,k≤ts.length∧i=.int .i64 k∧Below w.heap.size w wr) (fun i _=>ts.length - (intOf i).toNat)
 case atStart=>exact ⟨0,Nat.zero_le _,rfl,Below.refl _ _⟩
 case round=>
  obtain ⟨k,hk,rfl,hb⟩:=hrel
  by_cases hlt:k < ts.length
  ·obtain ⟨b,o,Ae,ce,bk,rfl,_,c0,c1,hel,_⟩:=atoms_el (atomsK_good.below h1 hb) hlt
   obtain ⟨b',o',Ae',ce',bk',rfl,_,d0,d1,hel',_⟩:=atoms_el (atomsK_good.below h2 hb) hlt
   clear h1 h2
   have H1:=η (atomK_good.below hel (Below.drew (Below.refl _ _)))
   have H2:=η (atomK_good.below hel' (Below.drew (Below.refl _ _)))
   have hlt':(k:Int) < (ts.length:Int):=by omega
   have hk0:(0:Int)≤(k:Int):=by omega
   clear hel hel'
   go_wp2
   go_region_held3 (fun w'=>w'.cell? ⟨b,o+k * 2,none⟩=some (.string ts[k].name)∧w'.cell? ⟨b,o+k * 2+1,none⟩=some (.slice Ae ts[k].args.length ce)∧w'.cell? ⟨b',o'+k * 2,none⟩=some (.string ts[k].name)∧w'.cell? ⟨b',o'+k * 2+1,none⟩=some (.slice Ae' ts[k].args.length ce')) (first | go_keep | exact ⟨cell_later hb' c0,cell_later hb' c1,cell_later hb' d0,cell_later hb' d1⟩)
    (first | (go_at_call 37; refine (eqAtom_same ts[k] _ _ _ _ bk bk' _ H1.out H2.out).mono ?_; rintro e w' ⟨rfl,hb'⟩))
   go_wp2
   go_roundw
   case rel=>exact ⟨k+1,by omega,by go_num,hb.trans ((Below.drew (Below.refl _ _)).trans (hb'.mono hb.size))⟩
   case measure=>simp [intOf]; omega
  ·have he:k=ts.length:=by omega
   subst he
   go_wp2
   go_ret
   exact ⟨rfl,hb⟩
end Go.Proofs.YtiidmgchadagbaaGreatDoor
namespace Go.Proofs.YtiidmgchadagbaaGreatDoor
open Go.RowKit Go.ChangeMaps Go.MapKept D
def D.Timed (b:Nat) (w:World):Prop:=∃ es ck,w.heap[b]? = some (.map es ck)∧(∀ x ∈ es.toList,x.born < ck)∧(es.toList.map (·.born)).Nodup
theorem D.Timed.push {b ck:Nat} {es:Array MapEntry} {w:World} (hb:w.heap[b]? = some (.map es ck)) (k v:Value) (h:Timed b w):Timed b (setBlock w b (.map (es.push ⟨k,v,ck⟩) (ck+1))):=by
 obtain ⟨es',ck',h1,h2,h3⟩:=h
 rw [hb] at h1
 cases h1
 refine ⟨_,_,heap_setBlock_same hb _,fun x hx=>?_,?_⟩
 ·rw [Array.toList_push] at hx
  rcases List.mem_append.1 hx with hx | hx
  ·exact Nat.lt_succ_of_lt (h2 x hx)
  ·rw [List.mem_singleton.1 hx]; exact Nat.lt_succ_self _
 ·rw [Array.toList_push,List.map_append]
  refine List.nodup_append.2 ⟨h3,by simp,fun x hx y hy e=>?_⟩
  obtain ⟨z,hz,rfl⟩:=List.mem_map.1 hx
  simp at hy
  have:=h2 z hz
  omega
theorem run_mapv_new {P:Program} {kt:TypeId} {W:World→Prop} {S:Value→Prop} (hK:KeyV P kt W S) {w:World} (hW:W w) {t e:TypeId} (ht:P.underlying t=some (.map kt e)) {b:Nat} {L:List (Value × Value)} {k:Value} (v:Value) (h:MapV S b L w) (hS:S k) (hk:∀ p ∈ L,p.1 ≠ k):
  ∃ w',(Instr.mapUpdate t (.map (some b)) k v).run P w=.ok () w'∧MapV S b (L ++ [(k,v)]) w'∧w.grownBy w' (some b)∧(Timed b w→Timed b w'):=by
 obtain ⟨⟨es,ck,hb,rfl⟩,h2,h3⟩:=h
 have hSs:∀ e ∈ es.toList,S e.key:=fun e he=>h2 (e.key,e.val) (List.mem_map.2 ⟨e,he,rfl⟩)
 rcases findKey_v hK hW hS es.toList hSs with ⟨h5,h6⟩ | ⟨i,e1,h5,h6,h7⟩
 ·refine ⟨setBlock w b (.map (es.push ⟨k,v,ck⟩) (ck+1)),?_,⟨⟨_,_,heap_setBlock_same hb _,by simp⟩,?_,?_⟩,grown_setBlock hb _,Timed.push hb k v⟩
  ·simp [Instr.mapUpdate,run_underlying ht,MapKept.run_getObj_map hb,hK.check w false hS,h5,MapKept.run_setObj_map _ hb,Result.andThen,setBlock]
  ·intro p hp
   rcases List.mem_append.1 hp with hp | hp
   ·exact h2 p hp
   ·rw [List.mem_singleton.1 hp]
    exact hS
  ·refine List.pairwise_append.2 ⟨h3,List.pairwise_singleton _ _,fun p hp q hq=>?_⟩
   rw [List.mem_singleton.1 hq]
   exact hk p hp
 ·exact absurd h7 (hk (e1.key,e1.val) (List.mem_map.2 ⟨e1,List.mem_of_getElem? h6,rfl⟩))
end Go.Proofs.YtiidmgchadagbaaGreatDoor
namespace Go.Proofs.YtiidmgchadagbaaGreatDoor
open Go.RowKit Go.Maps D
theorem D.MapF.look_run {b n:Nat} {L:List ByteArray} {f:ByteArray→Int} {w:World} (h:MapF b n L f w) {s:ByteArray} (hs:s.size≤maxLen) {v:Int} (hv:(if s ∈ L then f s else 0)=v):
  (Instr.lookup 85 (.map (some b)) (.string s) false).run Tryz.prog w=.ok (.int .i64 v) w:=by
 obtain ⟨⟨M,h1,h2,h3,h4⟩,h5,h6⟩:=h
 obtain ⟨d,hrun,hd,hw⟩:=h1.lookup_int lawS Tryz.underlying85 Tryz.underlying3 (zeroI w) (keyOf_s hs)
 rw [hrun]
 have:d=v:=by
  rw [← hv]
  split
  ·rename_i hmem
   have:=h4 s hmem
   rw [this] at hd
   exact lit_eq hd.symm
  ·rename_i hmem
   have h7:has M (keyL s)=false:=by rw [h3 s]; simpa using hmem
   rw [atKey_of_not_has h7] at hd
   exact lit_eq hd.symm
 rw [this]
end Go.Proofs.YtiidmgchadagbaaGreatDoor
namespace Go.Proofs.YtiidmgchadagbaaGreatDoor
open Go.RowKit Go.Sort D
theorem compactS_any (xs:List ByteArray) (v:Value) (L:List Value) (base:Nat) (w:World) (hC:Coll 1 strK base 9 w v L xs []) (hl:xs.length≤16777216):
  Calls Tryz.prog 194 #[v] w fun e w'=>∃ (v2:Value) (ys:List ByteArray),e=.returned v2∧ys.map (·.data.toList)=Lib.compact (xs.map (·.data.toList))∧Coll 1 strK base 9 w' v2 (ys.map Value.string) ys []∧w.grownBy w' v.ownBlock:=by
 obtain ⟨rfl,hs,_⟩:=coll_strs hC
 have hrow:=hC.own
 rcases hrow.2 with ⟨rfl,hx⟩ | ⟨g,cap,cur,rfl,hbase,hb,h1,h2,h3,h4⟩
 ·have hx0:xs = []:=by simpa using hx
  subst hx0
  refine (Tryz.slices_Compact_string_empty none 0 w).mono ?_
  rintro e w' ⟨rfl,rfl⟩
  exact ⟨_,[],rfl,by simp [Lib.compact,Lib.compactUpTo],Coll.nil _,World.grownBy.refl _ _⟩
 ·have hcl:(xs.map (·.data.toList)).length=xs.length:=by simp
  have hH:Holds encStr w g 0 (xs.map (·.data.toList)).toArray:=holds_of_block hb (by rw [hcl,Lib.map_encStr]; simpa using h4)
  have c:=Tryz.slices_Compact_string g 0 cap (xs.map (·.data.toList)) w hH (by omega) (by omega)
  rw [hcl] at c
  refine c.mono ?_
  rintro e w' ⟨rfl,q,rfl⟩
  obtain ⟨zs,hzs⟩:∃ zs,Lib.compact (xs.map (·.data.toList))=zs:=⟨_,rfl⟩
  have hzl:zs.length≤xs.length:=by rw [← hzs,← hcl]; exact compact_le _
  rw [hzs]
  have hown:=Lib.ownsRow_putRow (enc:=encStr) (zs:=xs.map (·.data.toList)) (ys:=zs ++ List.replicate (xs.length - zs.length) []) (q:=q) (k:=zs.length) (by rw [Lib.map_encStr]; exact hrow) (by simp; omega) hzl
  rw [List.take_append_of_le_length (Nat.le_refl _),List.take_of_length_le (Nat.le_refl _)] at hown
  have hlt:(toBs zs).length=zs.length:=by unfold toBs; rw [List.length_map]
  rw [← toBs_enc,← hlt] at hown
  refine ⟨_,toBs zs,rfl,toBs_bytes _,?_,?_⟩
  ·rw [← hlt]
   exact coll_of_strs hown (toBs_size fun b hb=>bytes_size hs b ((compact_mem _ _).1 (by rw [hzs]; exact hb)))
  ·have:=grownBy_sorted (w:=w) (g:=g) (n:=q) (os:=#[]) (zs ++ List.replicate (xs.length - zs.length) []).toArray
   rw [grow_empty] at this
   exact this
end Go.Proofs.YtiidmgchadagbaaGreatDoor
namespace Go.Proofs.YtiidmgchadagbaaGreatDoor
open Go.RowKit D
theorem D.own_keep {w w':World} {base e size n:Nat} {v:Value} {L:List Value} (h:w.ownsRow base e size v n L) (hk:∀ b,v.ownBlock=some b→w'.heap[b]? = w.heap[b]?):w'.ownsRow base e size v n L:=by
 refine ⟨h.1,?_⟩
 rcases h.2 with h2 | ⟨g,cap,cur,rfl,h3,h4,h5⟩
 ·exact .inl h2
 ·exact .inr ⟨g,cap,cur,rfl,h3,(hk g (by simp [Value.ownBlock])).trans h4,h5⟩
theorem D.own_block_in {w:World} {base e size n b:Nat} {v:Value} {L:List Value} (h:w.ownsRow base e size v n L) (hb:v.ownBlock=some b):base≤b∧b < w.heap.size:=by
 rcases h.2 with ⟨rfl,_⟩ | ⟨g,cap,cur,rfl,h3,h4,_⟩
 ·simp [Value.ownBlock] at hb
 ·simp [Value.ownBlock] at hb
  subst hb
  exact ⟨h3,lt_of_block h4⟩
theorem D.Coll.keepB {α:Type} {n:Nat} {R:Rel α} {base e:Nat} {w w':World} {v:Value} {L:List Value} {xs:List α} {bs:List Nat} (g:Good R) (h:Coll n R base e w v L xs bs)
  (h1:∀ b,v.ownBlock=some b→w'.heap[b]? = w.heap[b]?) (h2:∀ b ∈ bs,w'.heap[b]? = w.heap[b]?):Coll n R base e w' v L xs bs:=
 ⟨own_keep h.own h1,h.row.keep g h2,h.far⟩
theorem D.posA_snoc (ps:List Pt) (k:Nat) (h:k < ps.length):posA (ps.take (k+1))=posA (ps.take k) ++ (if ps[k].no then [] else [ps[k].atom]):=by
 unfold posA
 rw [List.take_succ_eq_append_getElem h,List.filter_append,List.map_append]
 cases hn:ps[k].no <;> simp [hn]
theorem D.negA_snoc (ps:List Pt) (k:Nat) (h:k < ps.length):negA (ps.take (k+1))=negA (ps.take k) ++ (if ps[k].no then [ps[k].atom] else []):=by
 unfold negA
 rw [List.take_succ_eq_append_getElem h,List.filter_append,List.map_append]
 cases hn:ps[k].no <;> simp [hn]
structure D.QInv (vars:List ByteArray) (w:World) (hz hb B:Nat) (vv:Value) (b3:List Nat) (v1:Value) (L1:List Value) (xs1:List A) (bs1:List Nat) (v2:Value) (L2:List Value) (xs2:List A) (bs2:List Nat) (wr:World):Prop where
 r0:wr.heap[hz]? = some (.cells #[.slice none 0 0,.slice none 0 0,.slice none 0 0] 195 (0,0))
 r1:wr.heap[hb]? = some (.cells #[v1,v2,vv] 195 (0,0))
 h0:w.heap.size≤hz
 h1:hz < hb
 hB:hb < B
 c1:Coll 2 (patK vars) B 199 wr v1 L1 xs1 bs1
 c2:Coll 2 (patK vars) B 199 wr v2 L2 xs2 bs2
 k1:∀ b ∈ bs1,B≤b
 k2:∀ b ∈ bs2,B≤b
 f12:∀ b,v1.ownBlock=some b→v2.ownBlock ≠ some b∧b ∉ bs2
 f21:∀ b,v2.ownBlock=some b→b ∉ bs1
 vs:strsK wr [vv] vars b3
 kv:∀ b ∈ b3,w.heap.size≤b∧b < hb∧b ≠ hz
 bel:Below w.heap.size w wr
 siz:B≤wr.heap.size
section
variable {vars:List ByteArray} {w:World} {hz hb B:Nat} {vv:Value} {b3:List Nat} {v1:Value} {L1:List Value} {xs1:List A} {bs1:List Nat} {v2:Value} {L2:List Value} {xs2:List A} {bs2:List Nat} {wr:World}
theorem D.QInv.later {w' : World} (h : QInv vars w hz hb B vv b3 v1 L1 xs1 bs1 v2 L2 xs2 bs2 wr) (hk : Below wr.heap.size wr w') : QInv vars w hz hb B vv b3 v1 L1 xs1 bs1 v2 L2 xs2 bs2 w' :=
  ⟨(hk.block _ (lt_of_block h.r0)).trans h.r0, (hk.block _ (lt_of_block h.r1)).trans h.r1, h.h0, h.h1, h.hB, h.c1.below (patK_good _) hk, h.c2.below (patK_good _) hk, h.k1, h.k2, h.f12, h.f21, strsK_good.below h.vs hk, h.kv,
    h.bel.trans (hk.mono h.bel.size), Nat.le_trans h.siz hk.size⟩
theorem D.QInv.lit {a:A} {v9:Value} {b9:List Nat} {w2:World} {v:Value} {L:List Value} {n:Nat} (hk:Below wr.heap.size wr w2) (hB:B≤wr.heap.size) (hown:wr.ownsRow B 199 2 v n L) (hnm:a.name.size≤maxLen) (hp:slotsK vars w2 [v9] a.args b9) (h9:Value.oneCell' v9=true):
  (w2.alloc (.cells #[.string a.name,v9] 199)).ownsRow B 199 2 v n L∧
   Lies (w2.alloc (.cells #[.string a.name,v9] 199)) (some ⟨w2.heap.size,0,none⟩) [.string a.name,v9]∧(∀ u ∈ [.string a.name,v9],Value.oneCell' u=true)∧B≤(w2.alloc (.cells #[.string a.name,v9] 199)).heap.size:=by
 have hA:Below w2.heap.size w2 (w2.alloc (.cells #[.string a.name,v9] 199)):=(Below.refl _ _).alloc (Nat.le_refl _) _
 have hb:=hk.trans (hA.mono hk.size)
 refine ⟨own_below hown hb,by have:=lies_block (heap_alloc_new w2 (.cells #[.string a.name,v9] 199)); simpa using this,fun u hu=>?_,Nat.le_trans hB hb.size⟩
 rcases List.mem_cons.1 hu with rfl | hu
 ·rfl
 ·rw [List.mem_singleton.1 hu]; exact h9
theorem D.QInv.app1 {a:A} {v9:Value} {b9:List Nat} {w2 w5:World} {A5:Option Addr} {c5:Nat} (h:QInv vars w hz hb B vv b3 v1 L1 xs1 bs1 v2 L2 xs2 bs2 wr) (hk:Below wr.heap.size wr w2) (hnm:a.name.size≤maxLen) (hp:slotsK vars w2 [v9] a.args b9) (hn:New wr.heap.size w2 b9) (h9:Value.oneCell' v9=true)
  (hown:w5.ownsRow B 199 2 (.slice A5 (xs1.length+1) c5) (xs1.length+1) (L1 ++ [.string a.name,v9])) (hg:(w2.alloc (.cells #[.string a.name,v9] 199)).grownBy w5 v1.ownBlock)
  (hloc:(Value.slice A5 (xs1.length+1) c5).ownBlock=v1.ownBlock∨(Value.slice A5 (xs1.length+1) c5).ownBlock=some (w2.alloc (.cells #[.string a.name,v9] 199)).heap.size):
  w5.cell? ⟨hb,0,none⟩=some v1∧w5.cell? ⟨hb,1,none⟩=some v2∧w5.cell? ⟨hb,2,none⟩=some vv∧w5.frozen? ⟨hb,0,none⟩=false∧
   QInv vars w hz hb B vv b3 (.slice A5 (xs1.length+1) c5) (L1 ++ [.string a.name,v9]) (xs1 ++ [a]) (bs1 ++ b9) v2 L2 xs2 bs2 (w5.setCell ⟨hb,0,none⟩ (.slice A5 (xs1.length+1) c5)):=by
 have hA:Below w2.heap.size w2 (w2.alloc (.cells #[.string a.name,v9] 199)):=(Below.refl _ _).alloc (Nat.le_refl _) _
 have hbw:=hk.trans (hA.mono hk.size)
 have h2:=h.later hbw
 have hlt:=h2.siz
 have hs2:=hk.size
 have hB9:=h.hB
 have h19:=h.h1
 have h09:=h.h0
 have hs9:=h.siz
 have g9:∀ b ∈ b9,wr.heap.size≤b∧b < w2.heap.size:=fun b hb=>⟨(hn.own b hb).1,hn.lt hb⟩
 have hgb:∀ b,b < w2.heap.size+1→v1.ownBlock ≠ some b→w5.heap[b]? = (w2.alloc (.cells #[.string a.name,v9] 199)).heap[b]?:=fun b hb hne=>hg.block b (by simpa using hb) (fun e=>hne e.symm)
 have o1:∀ b,v1.ownBlock=some b→B≤b∧b < wr.heap.size:=fun b hb=>own_block_in h.c1.own hb
 have o2:∀ b,v2.ownBlock=some b→B≤b∧b < wr.heap.size:=fun b hb=>own_block_in h.c2.own hb
 have l1:∀ b ∈ bs1,b < wr.heap.size:=fun b hb=>h.c1.row.lt (patK_good _) b hb
 have l2:∀ b ∈ bs2,b < wr.heap.size:=fun b hb=>h.c2.row.lt (patK_good _) b hb
 have n1:v1.ownBlock ≠ some hb:=fun e=>by have:=(o1 _ e).1; omega
 have n0:v1.ownBlock ≠ some hz:=fun e=>by have:=(o1 _ e).1; omega
 have hr1:=(hgb hb (by omega) n1).trans h2.r1
 have hr0:=(hgb hz (by omega) n0).trans h2.r0
 have hp2:patK vars (w2.alloc (.cells #[.string a.name,v9] 199)) [.string a.name,v9] a b9:=⟨v9,rfl,hnm,(slotsK_good _).below hp hA⟩
 have hc1:Coll 2 (patK vars) B 199 w5 (.slice A5 (xs1.length+1) c5) (L1 ++ [.string a.name,v9]) (xs1 ++ [a]) (bs1 ++ b9):=
  h2.c1.app (patK_good _) (Rowed.one_el (patK_ones _) hp2) (fun b hb e=>by have:=(o1 _ e).2; have:=(g9 b hb).1; omega) hown hg hloc
 have hkc:∀ b,b ≠ hb→(w5.setCell ⟨hb,0,none⟩ (.slice A5 (xs1.length+1) c5)).heap[b]? = w5.heap[b]?:=fun b hne=>Below.heap_setCell _ _ _ _ hne
 have onew:∀ b,(Value.slice A5 (xs1.length+1) c5).ownBlock=some b→v1.ownBlock=some b∨b=w2.heap.size+1:=fun b e=>by
  rcases hloc with h' | h'
  ·left; rw [← h']; exact e
  ·right; rw [h'] at e; simp at e; omega
 refine ⟨cell_of_blk hr1,cell_of_blk hr1,cell_of_blk hr1,frozen_of_blk hr1,⟨(hkc _ (by omega)).trans hr0,?_,h09,h19,hB9,?_,?_,?_,h.k2,?_,?_,?_,h.kv,?_,?_⟩⟩
 ·have:=blk_setG (o:=0) (u:=.slice A5 (xs1.length+1) c5) hr1
  simpa using this
 ·exact hc1.keepB (patK_good _) (fun b e=>hkc b (fun e2=>by
   subst e2
   rcases onew _ e with h' | h'
   ·exact n1 h'
   ·omega)) (fun b hb'=>hkc b (fun e2=>by
   subst e2
   rcases List.mem_append.1 hb' with h' | h'
   ·have:=h.k1 _ h'; omega
   ·have:=(g9 _ h').1; omega))
 ·refine (h2.c2.keepB (patK_good _) (fun b e=>?_) (fun b hb'=>?_))
  ·have:=o2 _ e
   rw [hkc b (by omega)]
   exact hgb b (by omega) (fun e2=>(h.f12 b e2).1 e)
  ·have:=l2 _ hb'
   have:=h.k2 _ hb'
   rw [hkc b (by omega)]
   exact hgb b (by omega) (fun e2=>(h.f12 b e2).2 hb')
 ·intro b hb'
  rcases List.mem_append.1 hb' with h' | h'
  ·exact h.k1 _ h'
  ·have:=(g9 _ h').1; omega
 ·intro b e
  rcases onew _ e with h' | h'
  ·exact h.f12 b h'
  ·exact ⟨fun e2=>by have:=(o2 _ e2).2; omega,fun e2=>by have:=l2 _ e2; omega⟩
 ·intro b e hb'
  rcases List.mem_append.1 hb' with h' | h'
  ·exact h.f21 b e h'
  ·have:=(o2 _ e).2; have:=(g9 _ h').1; omega
 ·refine strsK_good.keep h2.vs fun b hb'=>?_
  have:=h.kv b hb'
  rw [hkc b (by omega)]
  exact hgb b (by omega) (fun e=>by have:=(o1 _ e).1; omega)
 ·have hbel:Below w.heap.size w w5:=h2.bel.grown hg h2.bel.size fun k e=>by have:=(o1 _ e).1; omega
  exact hbel.setCell (by show w.heap.size≤hb; omega) _
 ·have:=hg.size; simp [World.setCell]; simp at this; omega
theorem D.QInv.app2 {a:A} {v9:Value} {b9:List Nat} {w2 w5:World} {A5:Option Addr} {c5:Nat} (h:QInv vars w hz hb B vv b3 v1 L1 xs1 bs1 v2 L2 xs2 bs2 wr) (hk:Below wr.heap.size wr w2) (hnm:a.name.size≤maxLen) (hp:slotsK vars w2 [v9] a.args b9) (hn:New wr.heap.size w2 b9) (h9:Value.oneCell' v9=true)
  (hown:w5.ownsRow B 199 2 (.slice A5 (xs2.length+1) c5) (xs2.length+1) (L2 ++ [.string a.name,v9])) (hg:(w2.alloc (.cells #[.string a.name,v9] 199)).grownBy w5 v2.ownBlock)
  (hloc:(Value.slice A5 (xs2.length+1) c5).ownBlock=v2.ownBlock∨(Value.slice A5 (xs2.length+1) c5).ownBlock=some (w2.alloc (.cells #[.string a.name,v9] 199)).heap.size):
  w5.cell? ⟨hb,0,none⟩=some v1∧w5.cell? ⟨hb,1,none⟩=some v2∧w5.cell? ⟨hb,2,none⟩=some vv∧w5.frozen? ⟨hb,1,none⟩=false∧
   QInv vars w hz hb B vv b3 v1 L1 xs1 bs1 (.slice A5 (xs2.length+1) c5) (L2 ++ [.string a.name,v9]) (xs2 ++ [a]) (bs2 ++ b9) (w5.setCell ⟨hb,1,none⟩ (.slice A5 (xs2.length+1) c5)):=by
 have hA:Below w2.heap.size w2 (w2.alloc (.cells #[.string a.name,v9] 199)):=(Below.refl _ _).alloc (Nat.le_refl _) _
 have hbw:=hk.trans (hA.mono hk.size)
 have h2:=h.later hbw
 have hlt:=h2.siz
 have hs2:=hk.size
 have hB9:=h.hB
 have h19:=h.h1
 have h09:=h.h0
 have hs9:=h.siz
 have g9:∀ b ∈ b9,wr.heap.size≤b∧b < w2.heap.size:=fun b hb=>⟨(hn.own b hb).1,hn.lt hb⟩
 have hgb:∀ b,b < w2.heap.size+1→v2.ownBlock ≠ some b→w5.heap[b]? = (w2.alloc (.cells #[.string a.name,v9] 199)).heap[b]?:=fun b hb hne=>hg.block b (by simpa using hb) (fun e=>hne e.symm)
 have o1:∀ b,v1.ownBlock=some b→B≤b∧b < wr.heap.size:=fun b hb=>own_block_in h.c1.own hb
 have o2:∀ b,v2.ownBlock=some b→B≤b∧b < wr.heap.size:=fun b hb=>own_block_in h.c2.own hb
 have l1:∀ b ∈ bs1,b < wr.heap.size:=fun b hb=>h.c1.row.lt (patK_good _) b hb
 have l2:∀ b ∈ bs2,b < wr.heap.size:=fun b hb=>h.c2.row.lt (patK_good _) b hb
 have n1:v2.ownBlock ≠ some hb:=fun e=>by have:=(o2 _ e).1; omega
 have n0:v2.ownBlock ≠ some hz:=fun e=>by have:=(o2 _ e).1; omega
 have hr1:=(hgb hb (by omega) n1).trans h2.r1
 have hr0:=(hgb hz (by omega) n0).trans h2.r0
 have hp2:patK vars (w2.alloc (.cells #[.string a.name,v9] 199)) [.string a.name,v9] a b9:=⟨v9,rfl,hnm,(slotsK_good _).below hp hA⟩
 have hc1:Coll 2 (patK vars) B 199 w5 (.slice A5 (xs2.length+1) c5) (L2 ++ [.string a.name,v9]) (xs2 ++ [a]) (bs2 ++ b9):=
  h2.c2.app (patK_good _) (Rowed.one_el (patK_ones _) hp2) (fun b hb e=>by have:=(o2 _ e).2; have:=(g9 b hb).1; omega) hown hg hloc
 have hkc:∀ b,b ≠ hb→(w5.setCell ⟨hb,1,none⟩ (.slice A5 (xs2.length+1) c5)).heap[b]? = w5.heap[b]?:=fun b hne=>Below.heap_setCell _ _ _ _ hne
 have onew:∀ b,(Value.slice A5 (xs2.length+1) c5).ownBlock=some b→v2.ownBlock=some b∨b=w2.heap.size+1:=fun b e=>by
  rcases hloc with h' | h'
  ·left; rw [← h']; exact e
  ·right; rw [h'] at e; simp at e; omega
 refine ⟨cell_of_blk hr1,cell_of_blk hr1,cell_of_blk hr1,frozen_of_blk hr1,⟨(hkc _ (by omega)).trans hr0,?_,h09,h19,hB9,?_,?_,h.k1,?_,?_,?_,?_,h.kv,?_,?_⟩⟩
 ·have:=blk_setG (o:=1) (u:=.slice A5 (xs2.length+1) c5) hr1
  simpa using this
 ·refine (h2.c1.keepB (patK_good _) (fun b e=>?_) (fun b hb'=>?_))
  ·have:=o1 _ e
   rw [hkc b (by omega)]
   exact hgb b (by omega) (fun e2=>(h.f12 b e).1 e2)
  ·have:=l1 _ hb'
   have:=h.k1 _ hb'
   rw [hkc b (by omega)]
   exact hgb b (by omega) (fun e2=>h.f21 b e2 hb')
 ·exact hc1.keepB (patK_good _) (fun b e=>hkc b (fun e2=>by
   subst e2
   rcases onew _ e with h' | h'
   ·exact n1 h'
   ·omega)) (fun b hb'=>hkc b (fun e2=>by
   subst e2
   rcases List.mem_append.1 hb' with h' | h'
   ·have:=h.k2 _ h'; omega
   ·have:=(g9 _ h').1; omega))
 ·intro b hb'
  rcases List.mem_append.1 hb' with h' | h'
  ·exact h.k2 _ h'
  ·have:=(g9 _ h').1; omega
 ·intro b e
  refine ⟨fun e2=>?_,fun hb'=>?_⟩
  ·rcases onew _ e2 with h' | h'
   ·exact (h.f12 b e).1 h'
   ·have:=(o1 _ e).2; omega
  ·rcases List.mem_append.1 hb' with h' | h'
   ·exact (h.f12 b e).2 h'
   ·have:=(o1 _ e).2; have:=(g9 _ h').1; omega
 ·intro b e hb'
  rcases onew _ e with h' | h'
  ·exact h.f21 b h' hb'
  ·have:=l1 _ hb'; omega
 ·refine strsK_good.keep h2.vs fun b hb'=>?_
  have:=h.kv b hb'
  rw [hkc b (by omega)]
  exact hgb b (by omega) (fun e=>by have:=(o2 _ e).1; omega)
 ·have hbel:Below w.heap.size w w5:=h2.bel.grown hg h2.bel.size fun k e=>by have:=(o2 _ e).1; omega
  exact hbel.setCell (by show w.heap.size≤hb; omega) _
 ·have:=hg.size; simp [World.setCell]; simp at this; omega
end
end Go.Proofs.YtiidmgchadagbaaGreatDoor
