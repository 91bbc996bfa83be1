/- Of the proof of FnExactRounds: LevI, AtTxP, QryP, IntK, HPart, Body. -/
import Derived.Test.YtiidmgchadagbaaGreatDoorM15
set_option linter.unusedVariables false
set_option maxHeartbeats 400000
namespace Go.Proofs.YtiidmgchadagbaaGreatDoor.D
open Go.RowKit
def ofL (out:List Nat):Array Value:=(out.map fun n:Nat=>Value.int .i64 (n:Int)).toArray
theorem ofL_at {out:List Nat} {i:Nat} (h:i < out.length):(ofL out)[i]? = some (.int .i64 (atL out i:Nat)):=by
 unfold ofL atL
 simp [List.getElem?_eq_getElem h]
theorem ofL_set (out:List Nat) (i v:Nat):(ofL out).setIfInBounds i (.int .i64 (v:Nat))=ofL (out.set i v):=by
 unfold ofL
 simp [List.map_set]
theorem ofL_zero (n:Nat):madeCells #[Value.int .i64 0] n=ofL (List.replicate n 0):=by
 unfold madeCells ofL
 refine Array.ext (by simp) fun i h1 h2=>?_
 simp [Nat.mod_one]
def numOf:Option Value→Nat
 | some (.int _ z)=>z.toNat
 | _=>0
def levSum (w:World) (g n:Nat):Nat:=((List.range n).map fun i=>numOf (w.cell? ⟨g,i,none⟩)).sum
theorem levSum_is {w:World} {g:Nat} {out:List Nat} {t:TypeId} (h:w.heap[g]? = some (.cells (ofL out) t (0,0))):levSum w g out.length=out.sum:=by
 unfold levSum
 have:((List.range out.length).map fun i=>numOf (w.cell? ⟨g,i,none⟩))=out:=by
  refine List.ext_getElem (by simp) fun i h1 h2=>?_
  simp only [List.getElem_map,List.getElem_range]
  rw [cell_of_blk h,ofL_at h2]
  unfold numOf atL
  simp [List.getElem?_eq_getElem h2]
 rw [this]
def nlev (rs:List Ru) (out:List Nat) (s:ByteArray):Nat:=atL out ((placesL rs).idxOf s)
structure LvB (rs:List Ru) (out:List Nat):Prop where
 len:out.length=(placesL rs).length
 bel:∀ T,Sol rs T→∀ n ∈ headNames rs,nlev rs out n≤T n
 lo:∀ i,i < out.length→atL out i < out.length
theorem atL_zero (n i:Nat):atL (List.replicate n 0) i=0:=by
 unfold atL; rw [List.getD_eq_getElem?_getD,List.getElem?_replicate]; split <;> rfl
theorem LvB.zero (rs:List Ru):LvB rs (List.replicate (placesL rs).length 0):=
 ⟨by simp,fun T _ n _=>by unfold nlev; rw [atL_zero]; exact Nat.zero_le _,fun i h=>by rw [atL_zero]; omega⟩
theorem LvB.sum_le {rs:List Ru} {out:List Nat} (h:LvB rs out):out.sum≤(placesL rs).length * (placesL rs).length:=by
 have:=sum_bound (out:=out) (n:=out.length) fun i hi=>Nat.le_of_lt (h.lo i hi)
 rw [h.len] at this
 exact this
theorem idx_lt {rs:List Ru} {n:ByteArray} (h:n ∈ headNames rs):(placesL rs).idxOf n < (placesL rs).length:=List.idxOf_lt_length_of_mem (places_mem.2 h)
theorem LvB.step {rs:List Ru} {out:List Nat} (h:LvB rs out) {r:Ru} (hr:r ∈ rs) {p:Pt} (hp:p ∈ r.body) (hh:p.atom.name ∈ headNames rs) {l:Nat} (hl:l=nlev rs out p.atom.name+noN p)
  (hlt:nlev rs out r.head.name < l) (hN:l < (placesL rs).length):LvB rs (out.set ((placesL rs).idxOf r.head.name) l)∧out.sum < (out.set ((placesL rs).idxOf r.head.name) l).sum:=by
 have hi:=idx_lt (head_mem hr)
 have hi':(placesL rs).idxOf r.head.name < out.length:=by rw [h.len]; exact hi
 refine ⟨⟨by simp [h.len],fun T hT n hn=>?_,fun i hi2=>?_⟩,?_⟩
 ·unfold nlev
  rw [atL_set hi']
  split
  ·rename_i e
   have e2:n=r.head.name:=by
    have h1:=List.getElem_idxOf hi
    have h2:=List.getElem_idxOf (idx_lt hn)
    rw [← h2,← h1]
    congr 1
    exact e.symm
   have h3:=hT r hr p hp hh
   have h4:=h.bel T hT _ hh
   rw [e2,hl]; omega
  ·exact h.bel T hT n hn
 ·rw [List.length_set] at hi2 ⊢
  rw [atL_set hi']
  split
  ·rw [h.len]; exact hN
  ·exact h.lo i hi2
 ·refine sum_up (up_set (Nat.le_of_lt hlt)) fun e=>?_
  have h5:=set_still hi' e
  unfold nlev at hlt
  omega
theorem LvB.err {rs:List Ru} {out:List Nat} (h:LvB rs out) {r:Ru} (hr:r ∈ rs) {p:Pt} (hp:p ∈ r.body) (hh:p.atom.name ∈ headNames rs) {l:Nat} (hl:l=nlev rs out p.atom.name+noN p)
  (hN:(placesL rs).length≤l):cycB rs=true:=by
 refine cyc_of_no fun S hS=>?_
 obtain ⟨T,hT,hs⟩:=sol_small hS
 have h1:=hT r hr p hp hh
 have h2:=hs _ (head_mem hr)
 have h3:=h.bel T hT _ hh
 omega
def SatP (rs:List Ru) (out:List Nat) (r:Ru) (p:Pt):Prop:=p.atom.name ∈ headNames rs→nlev rs out p.atom.name+noN p≤nlev rs out r.head.name
def SatK (rs:List Ru) (out:List Nat) (k:Nat):Prop:=∀ r ∈ rs.take k,∀ p ∈ r.body,SatP rs out r p
theorem LvB.done {rs:List Ru} {out:List Nat} (h:LvB rs out) (hs:SatK rs out rs.length):cycB rs=false∧∀ i,i < rs.length→nlev rs out (ruleAt rs i).head.name=atL (levelsL rs) i:=by
 have h1:Sol rs (nlev rs out):=fun r hr p hp hh=>hs r (by rw [List.take_of_length_le (Nat.le_refl _)]; exact hr) p hp hh
 exact ⟨no_cyc_of h1,least_eq h1 h.bel⟩
theorem SatK.zero (rs:List Ru) (out:List Nat):SatK rs out 0:=fun r hr=>by simp at hr
theorem SatK.snoc {rs:List Ru} {out:List Nat} {k:Nat} (h:k < rs.length) (h1:SatK rs out k) (h2:∀ p ∈ rs[k].body,SatP rs out rs[k] p):SatK rs out (k+1):=fun r hr=>by
 rw [List.take_succ_eq_append_getElem h] at hr
 rcases List.mem_append.1 hr with hr | hr
 ·exact h1 r hr
 ·rw [List.mem_singleton.1 hr]; exact h2
def SatJ (rs:List Ru) (out:List Nat) (r:Ru) (j:Nat):Prop:=∀ p ∈ r.body.take j,SatP rs out r p
theorem SatJ.zero (rs:List Ru) (out:List Nat) (r:Ru):SatJ rs out r 0:=fun p hp=>by simp at hp
theorem SatJ.snoc {rs:List Ru} {out:List Nat} {r:Ru} {j:Nat} (h:j < r.body.length) (h1:SatJ rs out r j) (h2:SatP rs out r r.body[j]):SatJ rs out r (j+1):=fun p hp=>by
 rw [List.take_succ_eq_append_getElem h] at hp
 rcases List.mem_append.1 hp with hp | hp
 ·exact h1 p hp
 ·rw [List.mem_singleton.1 hp]; exact h2
end Go.Proofs.YtiidmgchadagbaaGreatDoor.D
namespace Go.Proofs.YtiidmgchadagbaaGreatDoor.D
open Go.RowKit Go.Lib
theorem low_big {c:UInt8} (h:low c=true):big c=false:=by
 cases hb:big c
 ·rfl
 ·exfalso
  have h1:=(big_int c).1 hb
  have:low c=false:=(low_int c).2 (by omega)
  rw [this] at h; cases h
theorem name_cap {s:ByteArray} (h:nameOk s=true):capB s=false:=by
 unfold nameOk lows at h
 simp only [Bool.and_eq_true] at h
 unfold capB
 cases hs:s.data.toList with
 | nil=>simp [big]
 | cons x xs=>
  have:=List.all_eq_true.1 h.1.2 x (by rw [hs]; exact List.mem_cons_self ..)
  simp [low_big this]
theorem term_arg {t:T} (h:termOk t=true):argT t.name=t:=by
 unfold argT
 unfold termOk at h
 obtain ⟨v,s⟩:=t
 cases v
 ·have:=name_cap (s:=s) (by simpa using h)
  show (⟨capB s,s⟩:T)=⟨false,s⟩
  rw [this]
 ·have h1:varOk s=true:=by simpa using h
  unfold varOk at h1
  simp only [Bool.and_eq_true] at h1
  show (⟨capB s,s⟩:T)=⟨true,s⟩
  rw [h1.1.2]
theorem term_no44 {t:T} (h:termOk t=true):(44:UInt8) ∉ t.name.data.toList∧t.name.data.toList ≠ []∧t.name.data.toList.length≤8:=by
 have hz:t.name.data.toList.length=t.name.size:=Array.length_toList
 unfold termOk at h
 split at h
 ·unfold varOk at h
  simp only [Bool.and_eq_true,decide_eq_true_eq] at h
  have h1:=h.1.2
  unfold capB at h1
  simp only [Bool.and_eq_true,decide_eq_true_eq] at h1
  refine ⟨?_,by intro e; rw [e] at hz; simp at hz; omega,by omega⟩
  intro hm
  cases hs:t.name.data.toList with
  | nil=>rw [hs] at hm; simp at hm
  | cons x xs=>
   rw [hs] at hm h1 h
   rcases List.mem_cons.1 hm with e | hm
   ·have h2:=h1.2
    rw [← e] at h2
    exact absurd (show big 44=true from h2) (by decide)
   ·exact (low_not _ (List.all_eq_true.1 h.2 _ hm)).2.2.1 rfl
 ·unfold nameOk at h
  simp only [Bool.and_eq_true,decide_eq_true_eq] at h
  refine ⟨?_,by intro e; rw [e] at hz; simp at hz; omega,by omega⟩
  intro hm
  exact (low_not _ (List.all_eq_true.1 h.1.2 _ hm)).2.2.1 rfl
theorem atom_of {a:A} (h:atomOk a=true):atomOf a.name.data.toList (argsL a.args)=a:=by
 unfold atomOk at h
 simp only [Bool.and_eq_true] at h
 have hall:=List.all_eq_true.1 h.2
 have e:a.args=(a.args.map fun t=>t.name.data.toList).map fun w=>argT (toB w):=by
  rw [List.map_map]
  conv=>lhs; rw [← List.map_id a.args]
  refine List.map_congr_left fun t ht=>?_
  show t=argT (toB t.name.data.toList)
  rw [toB_of,term_arg (hall t ht)]
 have ej:argsL a.args=joinL 44 (a.args.map fun t=>t.name.data.toList):=by
  conv=>lhs; rw [e]
  rw [argsL_join]
 unfold atomOf
 obtain ⟨nm,args⟩:=a
 dsimp only at *
 rw [toB_of]
 cases args with
 | nil=>rw [ej]; rfl
 | cons t r=>
  have hne:joinL 44 ((t :: r).map fun t=>t.name.data.toList) ≠ []:=by
   have ht:=(term_no44 (hall t (List.mem_cons_self ..))).2.1
   cases r with
   | nil=>exact ht
   | cons u r=>exact List.append_ne_nil_of_left_ne_nil ht _
  rw [if_neg (by rw [ej]; exact hne),ej,splitL_join]
  ·rw [← e]
  ·simp
  ·intro p hp
   obtain ⟨u,hu,rfl⟩:=List.mem_map.1 hp
   exact (term_no44 (hall u hu)).1
theorem join_le:∀ (ps:List (List UInt8)),(∀ p ∈ ps,p.length≤8)→(joinL 44 ps).length≤9 * ps.length
 | [],_=>by simp [joinL]
 | [p],h=>by have:=h p (List.mem_cons_self ..); simp [joinL]; omega
 | p :: q :: r,h=>by
  have h1:=h p (List.mem_cons_self ..)
  have h2:=join_le (q :: r) fun x hx=>h x (List.mem_cons_of_mem _ hx)
  show (p ++ 44 :: joinL 44 (q :: r)).length≤_
  rw [List.length_append,List.length_cons]
  simp only [List.length_cons] at *
  omega
theorem args_le {a:A} (h:atomOk a=true):(argsL a.args).length≤27:=by
 have h0:=h
 unfold atomOk at h
 simp only [Bool.and_eq_true,decide_eq_true_eq] at h
 have hall:=List.all_eq_true.1 h.2
 have:=atom_of h0
 have e:a.args=(a.args.map fun t=>t.name.data.toList).map fun w=>argT (toB w):=by
  rw [List.map_map]
  conv=>lhs; rw [← List.map_id a.args]
  refine List.map_congr_left fun t ht=>?_
  show t=argT (toB t.name.data.toList)
  rw [toB_of,term_arg (hall t ht)]
 rw [e,argsL_join]
 have:=join_le (a.args.map fun t=>t.name.data.toList) fun p hp=>by
  obtain ⟨u,hu,rfl⟩:=List.mem_map.1 hp
  exact (term_no44 (hall u hu)).2.2
 rw [List.length_map] at this
 omega
theorem name_len {s:ByteArray} (h:nameOk s=true):s.data.toList.length≤8∧1≤s.data.toList.length:=by
 have hz:s.data.toList.length=s.size:=Array.length_toList
 unfold nameOk at h
 simp only [Bool.and_eq_true,decide_eq_true_eq] at h
 omega
theorem putL_le37 {a:A} (h:atomOk a=true):(putL a).length≤37:=by
 have h1:=args_le h
 unfold atomOk at h
 simp only [Bool.and_eq_true] at h
 have h2:=name_len h.1.1
 unfold putL
 simp only [List.length_append,List.length_singleton]
 omega
theorem getI_putL {a:A} (h:atomOk a=true):getI (putL a)=(a,true):=by
 have hl:=putL_le37 h
 have hc:cut (putL a) [40]=(a.name.data.toList,argsL a.args ++ [41],true):=by
  have hn:(40:UInt8) ∉ a.name.data.toList:=by
   unfold atomOk at h
   simp only [Bool.and_eq_true] at h
   exact name_not h.1.1
  rcases cut_is (putL a) 40 with ⟨h1,_⟩ | ⟨x,y,h1,h2,h3⟩
  ·exact absurd (by unfold putL; simp) h1
  ·have e:a.name.data.toList ++ 40 :: (argsL a.args ++ [41])=x ++ 40 :: y:=by rw [← h1]; unfold putL; simp
   have hs1:=splitL_hit (argsL a.args ++ [41]) hn
   rw [e,splitL_hit y h2] at hs1
   injection hs1 with e1 _
   rw [h3]
   subst e1
   rw [List.append_cancel_left_eq] at e
   injection e with _ e
   rw [e]
 unfold getI
 rw [if_neg (by omega),hc]
 show (if true=true∧(argsL a.args ++ [41]).getLast? = some 41 then _ else _)=_
 rw [if_pos ⟨rfl,by simp⟩]
 show (if atomOk (atomOf a.name.data.toList (argsL a.args ++ [41]).dropLast)=true then _ else _)=_
 rw [List.dropLast_concat,atom_of h,if_pos h]
end Go.Proofs.YtiidmgchadagbaaGreatDoor.D
namespace Go.Proofs.YtiidmgchadagbaaGreatDoor
open Go.RowKit D
def D.slotN (vars:List ByteArray) (t:T):Int:=if t.var then ((vars.idxOf t.name:Nat):Int) else -1
def D.slotS (t:T):ByteArray:=if t.var then ⟨#[]⟩ else t.name
def D.slotK (vars:List ByteArray):Rel T:=fun _ cs t bs=>cs = [.int .i64 (slotN vars t),.string (slotS t)]∧(slotS t).size≤maxLen∧bs = []
theorem D.slotK_good (vars:List ByteArray):Good (slotK vars):=⟨fun h _=>h,fun h b hb=>by rw [h.2.2] at hb; simp at hb⟩
theorem D.slotK_ones (vars:List ByteArray):Ones 2 (slotK vars):=fun h=>by obtain ⟨rfl,_⟩:=h; simp [Value.oneCell']
def D.slotsK (vars:List ByteArray):Rel (List T):=sliceK 2 (slotK vars)
theorem D.slotsK_good (vars:List ByteArray):Good (slotsK vars):=sliceK_good (slotK_good vars) (by omega)
def D.patK (vars:List ByteArray):Rel A:=fun w cs a bs=>∃ v,cs = [.string a.name,v]∧a.name.size≤maxLen∧slotsK vars w [v] a.args bs
theorem D.patK_good (vars:List ByteArray):Good (patK vars):=
 ⟨fun h hk=>by obtain ⟨v,h1,h2,h3⟩:=h; exact ⟨v,h1,h2,(slotsK_good vars).keep h3 hk⟩,fun h=>by obtain ⟨v,h1,h2,h3⟩:=h; exact (slotsK_good vars).lt h3⟩
theorem D.patK_ones (vars:List ByteArray):Ones 2 (patK vars):=fun h=>by
 obtain ⟨v,rfl,_,h3⟩:=h
 obtain ⟨Ad,cap,rfl,_⟩:=sliceK_form h3
 simp [Value.oneCell']
def D.patsK (vars:List ByteArray):Rel (List A):=sliceK 2 (patK vars)
theorem D.patsK_good (vars:List ByteArray):Good (patsK vars):=sliceK_good (patK_good vars) (by omega)
def D.posA (body:List Pt):List A:=(body.filter fun p=>!p.no).map (·.atom)
def D.negA (body:List Pt):List A:=(body.filter fun p=>p.no).map (·.atom)
def D.qryK:Rel (List Pt):=fun w cs body bs=>∃ v1 v2 v3 b1 b2 b3,cs = [v1,v2,v3]∧bs=b1 ++ b2 ++ b3∧patsK (bodyVars body) w [v1] (posA body) b1∧patsK (bodyVars body) w [v2] (negA body) b2∧strsK w [v3] (bodyVars body) b3
theorem D.slots_at {vars:List ByteArray} {w:World} {Ad:Option Addr} {len cap:Nat} {ts:List T} {bs:List Nat} {k:Nat} (h:slotsK vars w [.slice Ad len cap] ts bs) (hk:k < ts.length):
  ∃ b o,Ad=some ⟨b,o,none⟩∧b ∈ bs∧w.cell? ⟨b,o+k * 2,none⟩=some (.int .i64 (slotN vars ts[k]))∧w.cell? ⟨b,o+k * 2+1,none⟩=some (.string (slotS ts[k]))∧(slotS ts[k]).size≤maxLen:=by
 obtain ⟨b,o,cs,bk,rfl,hb,hcs,hcell,⟨rfl,hs,_⟩,_⟩:=sliceK_at h hk
 exact ⟨b,o,rfl,hb,by simpa using hcell 0 _ rfl,by have:=hcell 1 _ rfl; simpa [Nat.add_assoc] using this,hs⟩
theorem D.pats_at {vars:List ByteArray} {w:World} {Ad:Option Addr} {len cap:Nat} {xs:List A} {bs:List Nat} {k:Nat} (h:patsK vars w [.slice Ad len cap] xs bs) (hk:k < xs.length):
  ∃ b o Ae ce bk,Ad=some ⟨b,o,none⟩∧b ∈ bs∧w.cell? ⟨b,o+k * 2,none⟩=some (.string xs[k].name)∧w.cell? ⟨b,o+k * 2+1,none⟩=some (.slice Ae xs[k].args.length ce)∧
   patK vars w [.string xs[k].name,.slice Ae xs[k].args.length ce] xs[k] bk∧∀ c ∈ bk,c ∈ bs:=by
 obtain ⟨b,o,cs,bk,rfl,hb,hcs,hcell,⟨v,rfl,hs,h3⟩,hin⟩:=sliceK_at h hk
 obtain ⟨Ae,ce,rfl,_⟩:=sliceK_form h3
 exact ⟨b,o,Ae,ce,bk,rfl,hb,by simpa using hcell 0 _ rfl,by have:=hcell 1 _ rfl; simpa [Nat.add_assoc] using this,⟨_,rfl,hs,h3⟩,hin⟩
structure D.TwoB {α:Type} (n:Nat) (R:Rel α) (e tb:TypeId) (w:World) (hz hb B:Nat) (nm:ByteArray) (v:Value) (L:List Value) (xs:List α) (wr:World):Prop where
 r0:wr.heap[hz]? = some (.cells #[.string ⟨#[]⟩,.slice none 0 0] tb (0,0))
 r1:wr.heap[hb]? = some (.cells #[.string nm,v] tb (0,0))
 h0:w.heap.size≤hz
 h1:hz < hb
 hB:hb < B
 coll:Coll n R B e wr v L xs []
 bel:Below w.heap.size w wr
 siz:B≤wr.heap.size
section
variable {α:Type} {n:Nat} {R:Rel α} {e tb:TypeId} {w:World} {hz hb B:Nat} {nm:ByteArray} {v:Value} {L:List Value} {xs:List α} {wr:World}
theorem D.TwoB.later {w':World} (g:Good R) (h:TwoB n R e tb w hz hb B nm v L xs wr) (hk:Below wr.heap.size wr w'):TwoB n R e tb w hz hb B nm v L xs w':=
 ⟨(hk.block _ (lt_of_block h.r0)).trans h.r0,(hk.block _ (lt_of_block h.r1)).trans h.r1,h.h0,h.h1,h.hB,h.coll.below g hk,h.bel.trans (hk.mono h.bel.size),Nat.le_trans h.siz hk.size⟩
theorem D.TwoB.lit {cs:List Value} {x:α} (g:Good R) (o:Ones n R) (h:TwoB n R e tb w hz hb B nm v L xs wr) (hR:∀ w,R w cs x []):
  Coll n R B e (wr.alloc (.cells cs.toArray e)) v L xs []∧Rowed n R (wr.alloc (.cells cs.toArray e)) cs [x] []∧Lies (wr.alloc (.cells cs.toArray e)) (some ⟨wr.heap.size,0,none⟩) cs∧
   Below B wr (wr.alloc (.cells cs.toArray e))∧B≤(wr.alloc (.cells cs.toArray e)).heap.size:=by
 have hA:Below wr.heap.size wr (wr.alloc (.cells cs.toArray e)):=(Below.refl _ _).alloc (Nat.le_refl _) _
 exact ⟨(h.later g hA).coll,Rowed.one_el o (hR _),by have:=lies_block (heap_alloc_new wr (.cells cs.toArray e)); simpa using this,(Below.refl _ _).alloc h.siz _,Nat.le_trans h.siz hA.size⟩
theorem D.TwoB.app {w3:World} {v3:Value} {L3:List Value} {xs3:List α} (g:Good R) (h:TwoB n R e tb w hz hb B nm v L xs wr) (hC:Coll n R B e w3 v3 L3 xs3 []) (hk:Below B wr w3):
  w3.cell? ⟨hb,1,none⟩=some v∧w3.frozen? ⟨hb,1,none⟩=false∧TwoB n R e tb w hz hb B nm v3 L3 xs3 (w3.setCell ⟨hb,1,none⟩ v3)∧∀ c,c < B→c ≠ hb→(w3.setCell ⟨hb,1,none⟩ v3).heap[c]? = wr.heap[c]?:=by
 have b0:=(hk.block hz (Nat.lt_trans h.h1 h.hB)).trans h.r0
 have b1:=(hk.block hb h.hB).trans h.r1
 refine ⟨cell_of_blk b1,frozen_of_blk b1,⟨(Below.heap_setCell _ _ _ _ (by have:=h.h1; show hz ≠ hb; omega)).trans b0,blk_set b1,h.h0,h.h1,h.hB,hC.setBox g (own_block_ge hC.own h.hB) (by simp),(h.bel.trans (hk.mono (by have:=h.h0; have:=h.h1; have:=h.hB; omega))).setCell (by have:=h.h0; have:=h.h1; show w.heap.size≤hb; omega) _,?_⟩,fun c hc hne=>by rw [Below.heap_setCell _ _ _ _ hne]; exact hk.block c hc⟩
 have:=hk.size; have:=h.siz; simp [World.setCell]; omega
theorem D.TwoB.done (g:Good R) (h:TwoB n R e tb w hz hb B nm v L xs wr):
  ∃ W,W=(wr.setCell ⟨hz,0,none⟩ (.string nm)).setCell ⟨hz,1,none⟩ v∧Below w.heap.size w W∧W.heap[hz]? = some (.cells #[.string nm,v] tb (0,0))∧∃ b9,sliceK n R W [v] xs b9∧New B W b9:=by
 obtain ⟨b9,hs,hn9⟩:=h.coll.new (New.nil _ _)
 have hlt:=h.h1
 have hltB:=h.hB
 have h00:=h.h0
 have keep:∀ b,b ≠ hz→((wr.setCell ⟨hz,0,none⟩ (.string nm)).setCell ⟨hz,1,none⟩ v).heap[b]? = wr.heap[b]?:=fun b hb'=>by
  rw [Below.heap_setCell _ _ _ _ hb',Below.heap_setCell _ _ _ _ hb']
 have k9:∀ b ∈ b9,b ≠ hz:=fun b hb' e=>by have:=(hn9.own b hb').1; omega
 refine ⟨_,rfl,(h.bel.setCell (p:=⟨hz,0,none⟩) h00 _).setCell (p:=⟨hz,1,none⟩) h00 _,?_,b9,?_,?_⟩
 ·have:=blk_setG (o:=1) (u:=v) (blk_setG (o:=0) (u:=.string nm) h.r0)
  simpa using this
 ·obtain ⟨Ad,cap,h1,h2,h3,h4,h5⟩:=hs
  refine ⟨Ad,cap,h1,h2,h3,h4,fun hne=>?_⟩
  obtain ⟨b,o,q1,F,G,q2,q3⟩:=h5 hne
  refine ⟨b,o,q1,F,G,q2,fun k x hx=>?_⟩
  obtain ⟨p1,p2,p3⟩:=q3 k x hx
  have hbm:b ∈ b9:=by rw [q2]; exact List.mem_cons_self ..
  refine ⟨p1,fun j u hj=>by rw [World.cell?_of_block (w:=wr) (keep b (k9 b hbm))]; exact p2 j u hj,g.keep p3 fun c hc=>keep c (k9 c ?_)⟩
  rw [q2]
  exact List.mem_cons_of_mem _ (List.mem_flatMap.2 ⟨k,List.mem_range.2 (List.getElem?_eq_some_iff.1 hx).1,hc⟩)
 ·exact hn9.keep fun b hb'=>keep b (k9 b hb')
end
theorem infoInt:(Tryz.prog.info? 3).map (fun i=>(i.zero,i.size,i.bytes))=some (some (.int .i64 0),1,8):=by kernel_rfl
def D.intK:Rel Nat:=fun _ cs x bs=>cs = [.int .i64 x]∧bs = []
def D.intsK:Rel (List Nat):=sliceK 1 intK
theorem D.intK_good:Good intK:=⟨fun h _=>h,fun h b hb=>by rw [h.2] at hb; simp at hb⟩
theorem D.intsK_good:Good intsK:=sliceK_good intK_good (by omega)
theorem D.ints_of_blk {w:World} {g:Nat} {out:List Nat} (h:w.heap[g]? = some (.cells (ofL out) 3 (0,0))) (hl:out.length≤maxLen):∃ bs,intsK w [.slice (some ⟨g,0,none⟩) out.length out.length] out bs∧bs.Nodup∧∀ b ∈ bs,b=g:=by
 by_cases hx:out = []
 ·subst hx
  exact ⟨[],⟨_,_,rfl,Nat.le_refl _,Nat.zero_le _,fun _=>rfl,fun h=>absurd rfl h⟩,List.nodup_nil,fun b hb=>by simp at hb⟩
 ·refine ⟨g :: (List.range out.length).flatMap fun _=>[],⟨_,_,rfl,Nat.le_refl _,hl,fun h=>absurd h hx,fun _=>⟨g,0,rfl,fun k=>[.int .i64 (atL out k:Nat)],fun _=>[],rfl,fun k x hk=>⟨rfl,fun j v hj=>?_,?_,rfl⟩⟩⟩,by rw [show (List.range out.length).flatMap (fun _=>([]:List Nat)) = [] from List.flatMap_eq_nil_iff.2 fun _ _=>rfl]; simp,fun b hb=>by simpa using hb⟩
  ·have hkl:k < out.length:=(List.getElem?_eq_some_iff.1 hk).1
   match j,hj with
   | 0,hj=>
    simp only [List.getElem?_cons_zero,Option.some.injEq] at hj
    rw [cell_of_blk h,← hj]
    have:=ofL_at hkl
    simpa using this
   | j+1,hj=>simp at hj
  ·have:atL out k=x:=by unfold atL; rw [List.getD_eq_getElem?_getD,hk]; rfl
   simp only [this]
theorem D.intsK_at {w:World} {Ad:Option Addr} {len cap:Nat} {xs:List Nat} {bs:List Nat} {k:Nat} (h:intsK w [.slice Ad len cap] xs bs) (hk:k < xs.length):
  ∃ b o,Ad=some ⟨b,o,none⟩∧b ∈ bs∧w.cell? ⟨b,o+k,none⟩=some (.int .i64 (xs[k]:Nat)):=by
 obtain ⟨b,o,cs,bk,rfl,hb,hcs,hcell,⟨rfl,_⟩,_⟩:=sliceK_at h hk
 exact ⟨b,o,rfl,hb,by simpa using hcell 0 _ rfl⟩
theorem szPart_any (p:Pt) (c0 c1 c2:Value) (bs:List Nat) (left:Int) (w:World) (h:partK w [c0,c1,c2] p bs) (h0:0≤left) (h1:left≤1048576):
  Calls Tryz.prog 85 #[.agg #[c0,c1,c2],.int .i64 left] w (Left left (bulkPt p) w.heap.size w):=by
 have ha:=part_atom h
 obtain ⟨Ad,cap,rfl,rfl,rfl⟩:=part_cells2 h
 have hq:=fun w' (hb:Below w.heap.size w w')=>szAtom_any p.atom _ _ bs left w' (atomK_good.below ha hb) h0 h1
 have hbk:bulkPt p=bulkA p.atom:=rfl
 rw [hbk]
 clear h ha hbk
 have hA:=(Below.refl w.heap.size w).alloc (Nat.le_refl _) (.cells #[.bool p.no,.string p.atom.name,.slice Ad p.atom.args.length cap] 129)
 go_enter Tryz.func85,Tryz.ntmps85
 go_wp2_with fail
 refine (hq _ hA).mono ?_
 rintro e w' ⟨hb',r,rfl,hr⟩
 have hB:=hA.trans (hb'.mono hA.size)
 go_wp2
 ·rcases hr with rfl | ⟨_,_⟩
  ·go_ret
   exact ⟨hB,_,rfl,.inl rfl⟩
  ·exfalso; omega
 ·rcases hr with rfl | ⟨hr0,hr1⟩
  ·exfalso; omega
  ·go_ret
   exact ⟨hB,_,rfl,.inr ⟨hr0,hr1⟩⟩
theorem toPart_b (p : Pt) (c0 c1 c2 : Value) (bs : List Nat) (w : World) (h : partK w [c0, c1, c2] p bs) (hn : bulkPt p ≤ 1048576) :
    Calls Tryz.prog 98 #[.agg #[c0, c1, c2]] w (MakesA partK p w.heap.size w) := by
  have ha := part_atom h
  have hnm : p.atom.name.size ≤ maxLen := by obtain ⟨_, _, hn, _⟩ := h; exact hn
  obtain ⟨Ad, cap, rfl, rfl, rfl⟩ := part_cells2 h
  have hq := fun w' (hb : Below w.heap.size w w') => toAtom_b p.atom _ _ bs w' (atomK_good.below ha hb) hn
  clear h ha
  have hA := (((Below.refl w.heap.size w).alloc (Nat.le_refl _) (.cells #[.bool p.no, .string p.atom.name, .slice Ad p.atom.args.length cap] 129)).alloc (by simp) (.cells #[.bool false, .string ⟨#[]⟩, .slice none 0 0] 111)).alloc (by simp; omega) (.cells #[.bool p.no, .string ⟨#[]⟩, .slice none 0 0] 111)
  go_enter Tryz.func98, Tryz.ntmps98
  go_wp2_with fail
  refine (hq _ hA).mono ?_
  rintro e w' ⟨hb', cs', bs', rfl, hR, hN⟩
  obtain ⟨Ae, ce, rfl⟩ := atom_cells hR
  have hB : Below w.heap.size w w' := hA.trans (hb'.mono hA.size)
  have k0 : w'.cell? ⟨w.heap.size + 1 + 1, 0, none⟩ = some (.bool p.no) := cell_later hb' (by go_simp)
  have k1 : w'.cell? ⟨w.heap.size + 1 + 1, 1, none⟩ = some (.string ⟨#[]⟩) := cell_later hb' (by go_simp)
  have k2 : w'.cell? ⟨w.heap.size + 1 + 1, 2, none⟩ = some (.slice none 0 0) := cell_later hb' (by go_simp)
  have l0 : w'.cell? ⟨w.heap.size + 1, 0, none⟩ = some (.bool false) := cell_later hb' (by go_simp)
  have l1 : w'.cell? ⟨w.heap.size + 1, 1, none⟩ = some (.string ⟨#[]⟩) := cell_later hb' (by go_simp)
  have l2 : w'.cell? ⟨w.heap.size + 1, 2, none⟩ = some (.slice none 0 0) := cell_later hb' (by go_simp)
  have f1 : w'.frozen? ⟨w.heap.size + 1 + 1, 1, none⟩ = false := (hb'.frozen (p := ⟨w.heap.size + 1 + 1, 1, none⟩) (by simp)).trans (by go_simp)
  have f2 : w'.frozen? ⟨w.heap.size + 1 + 1, 2, none⟩ = false := (hb'.frozen (p := ⟨w.heap.size + 1 + 1, 2, none⟩) (by simp)).trans (by go_simp)
  have g0 : w'.frozen? ⟨w.heap.size + 1, 0, none⟩ = false := (hb'.frozen (p := ⟨w.heap.size + 1, 0, none⟩) (by simp)).trans (by go_simp)
  have g1 : w'.frozen? ⟨w.heap.size + 1, 1, none⟩ = false := (hb'.frozen (p := ⟨w.heap.size + 1, 1, none⟩) (by simp)).trans (by go_simp)
  have g2 : w'.frozen? ⟨w.heap.size + 1, 2, none⟩ = false := (hb'.frozen (p := ⟨w.heap.size + 1, 2, none⟩) (by simp)).trans (by go_simp)
  have hge : ∀ b ∈ bs', w.heap.size + 1 + 1 < b := fun b hb => by have := (hN.own b hb).1; simp at this; omega
  have ht := atom_args hR
  go_wp2
  have hk : ∀ b ∈ bs', (((((w'.setCell ⟨w.heap.size + 1 + 1, 1, none⟩ (.string p.atom.name)).setCell ⟨w.heap.size + 1 + 1, 2, none⟩ (.slice Ae p.atom.args.length ce)).setCell ⟨w.heap.size + 1, 0, none⟩ (.bool p.no)).setCell ⟨w.heap.size + 1, 1, none⟩ (.string p.atom.name)).setCell ⟨w.heap.size + 1, 2, none⟩ (.slice Ae p.atom.args.length ce)).heap[b]? = w'.heap[b]? := fun b hb => by
    have := hge b hb
    rw [Below.heap_setCell _ _ _ _ (by simp; omega), Below.heap_setCell _ _ _ _ (by simp; omega), Below.heap_setCell _ _ _ _ (by simp; omega), Below.heap_setCell _ _ _ _ (by simp; omega), Below.heap_setCell _ _ _ _ (by simp; omega)]
  exact bodyPost_ret (v := .agg #[.bool p.no, .string p.atom.name, .slice Ae p.atom.args.length ce]) (by simp [results, Tryz.results98, go_sem, l0, l1, l2]) rfl
    ⟨((((hB.setCell (by simp; omega) _).setCell (by simp; omega) _).setCell (by simp) _).setCell (by simp) _).setCell (by simp) _, _, bs', rfl,
      ⟨_, rfl, hnm, termsK_good.keep ht hk⟩, (hN.keep hk).mono (by simp; omega)⟩
end Go.Proofs.YtiidmgchadagbaaGreatDoor
namespace Go.Proofs.YtiidmgchadagbaaGreatDoor
open Go.RowKit D
attribute [local go_sem ↓] Go.wp_at_zero Go.wp_at_succ
theorem bodyOk_any (ps:List Pt) (v:Value) (bs:List Nat) (w:World) (h:partsK w [v] ps bs):
  Calls Tryz.prog 184 #[v] w fun e w'=>e=.returned (.bool (bodyOkB ps))∧Below w.heap.size w w':=by
 obtain ⟨Ad,cap,rfl,hl,hm⟩:=sliceK_form h
 have hlm:=nat_ge_max (Nat.le_trans hl hm)
 clear hm
 unfold bodyOkB
 by_cases h4:ps.length≤4
 ·go_enter Tryz.func184,Tryz.ntmps184
  go_wp2
  go_loopw [10] (fun i wr=>∃ k:Nat,k≤ps.length∧i=.int .i64 k∧(ps.take k).all (fun p=>atomOk p.atom)=true∧Below w.heap.size w wr) (fun i _=>ps.length - (intOf i).toNat)
  case atStart=>exact ⟨0,Nat.zero_le _,rfl,rfl,Below.refl _ _⟩
  case round=>
   obtain ⟨k,hk,rfl,hall,hb⟩:=hrel
   have HA:=η hall
   clear hall
   by_cases hlt:k < ps.length
   ·obtain ⟨b0,o,Ae,ce,bk,rfl,_,d0,d1,d2,hel,_⟩:=parts_el (partsK_good.below h hb) hlt
    have hA:=(Below.refl wr.heap.size wr).alloc (Nat.le_refl _) (.cells #[.bool ps[k].no,.string ps[k].atom.name,.slice Ae ps[k].atom.args.length ce] 111)
    have hat:=atomK_good.below (part_atom hel) hA
    clear h hel
    go_wp2_with fail
    refine (atomOk_impl ps[k].atom _ _ bk _ hat).mono ?_
    rintro e w' ⟨rfl,hb'⟩
    have B':=(hb.trans (hA.mono hb.size)).trans (hb'.mono (by have:=hA.size; have:=hb.size; omega))
    clear hat hA
    by_cases hx:atomOk ps[k].atom=true
    ·have hx1:(!atomOk ps[k].atom)=false:=by simp [hx]
     have HX:=η hx
     clear hx
     go_wp2
     go_roundw
     case rel=>exact ⟨k+1,by omega,by go_num,by rw [all_take_snoc ps k hlt,HA.out]; exact HX.out,B'⟩
     case measure=>simp [intOf]; omega
    ·have hx1:(!atomOk ps[k].atom)=true:=by simpa using hx
     have HX:=η hx
     clear hx
     go_wp2
     go_ret
     exact ⟨ret_bool (by rw [all_bad ps k hlt (by simpa using HX.out)]; simp),B'⟩
   ·have he:=η (show k=ps.length by omega)
    go_wp2
    go_ret
    exact ⟨ret_bool (by have:=HA.out; rw [he.out,List.take_of_length_le (Nat.le_refl _)] at this; rw [this]; simp; omega),hb⟩
 ·go_enter Tryz.func184,Tryz.ntmps184
  go_wp2
  go_ret
  exact ⟨ret_bool (by simp; omega),Below.refl _ _⟩
end Go.Proofs.YtiidmgchadagbaaGreatDoor
