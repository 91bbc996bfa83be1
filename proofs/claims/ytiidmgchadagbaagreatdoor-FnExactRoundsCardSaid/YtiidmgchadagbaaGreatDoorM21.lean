/- Of the proof of FnExactRounds: BdP, Bound. -/
import Derived.Test.YtiidmgchadagbaaGreatDoorM16
set_option linter.unusedVariables false
set_option maxHeartbeats 1000000
namespace Go.Proofs.YtiidmgchadagbaaGreatDoor
open Go.RowKit D
def D.wrd (vars:List ByteArray) (b:Bd) (i:Nat):ByteArray:=if h:i < vars.length then valB b vars[i] else ⟨#[]⟩
structure D.BdAt (vars:List ByteArray) (b:Bd) (blk o:Nat) (w:World):Prop where
 wd:∀ i,i < 12→w.cell? ⟨blk,o+i,none⟩=some (.string (wrd vars b i))
 bd:∀ i,i < 12→∃ z:Int,w.cell? ⟨blk,o+12+i,none⟩=some (.int .i64 z)∧∀ h:i < b.length,z=(vars.idxOf b[i].1:Nat)
 ct:w.cell? ⟨blk,o+24,none⟩=some (.int .i64 b.length)
 fz:∀ i,i < 25→w.frozen? ⟨blk,o+i,none⟩=false
structure D.BdOk (vars:List ByteArray) (b:Bd):Prop where
 inn:∀ p ∈ b,p.1 ∈ vars
 once:(b.map (·.1)).Nodup
 full:∀ p ∈ b,p.2 ≠ ⟨#[]⟩
 size:∀ p ∈ b,p.2.size≤maxLen
structure D.VarsOk (vars:List ByteArray):Prop where
 few:vars.length≤12
 once:vars.Nodup
theorem D.getB_none {b:Bd} {n:ByteArray}:getB b n=none ↔ ∀ p ∈ b,p.1 ≠ n:=by
 induction b with
 | nil=>simp [getB]
 | cons p b ih=>
  rw [getB]
  split
  ·rename_i h; simp [h]
  ·rename_i h; simp [h,ih]
theorem D.getB_mem {b:Bd} {n v:ByteArray} (h:getB b n=some v):(n,v) ∈ b:=by
 induction b with
 | nil=>simp [getB] at h
 | cons p b ih=>
  rw [getB] at h
  split at h
  ·rename_i e
   cases h
   subst e
   exact List.mem_cons_self ..
  ·exact List.mem_cons_of_mem _ (ih h)
theorem D.getB_snoc_same {b:Bd} {n v:ByteArray} (h:getB b n=none):getB (b ++ [(n,v)]) n=some v:=by rw [getB_append,h]; simp [getB]
theorem D.getB_snoc_other {b:Bd} {n m v:ByteArray} (h:n ≠ m):getB (b ++ [(n,v)]) m=getB b m:=by
 rw [getB_append]
 simp [getB,h]
theorem D.BdOk.val_empty {vars:List ByteArray} {b:Bd} (h:BdOk vars b) (n:ByteArray):valB b n=⟨#[]⟩ ↔ getB b n=none:=by
 unfold valB
 cases hg:getB b n with
 | none=>simp
 | some v=>simp [h.full _ (getB_mem hg)]
theorem D.BdOk.len {vars:List ByteArray} {b:Bd} (h:BdOk vars b):b.length≤vars.length:=by
 have:(b.map (·.1)).length≤vars.length:=nodup_len h.once fun x hx=>by
  obtain ⟨p,hp,rfl⟩:=List.mem_map.1 hx
  exact h.inn p hp
 simpa using this
theorem D.BdOk.lt {vars:List ByteArray} {b:Bd} (h:BdOk vars b) {n:ByteArray} (hn:n ∈ vars) (hg:getB b n=none):b.length < vars.length:=by
 have hnd:(n :: b.map (·.1)).Nodup:=List.nodup_cons.2 ⟨fun hm=>by
  obtain ⟨p,hp,e⟩:=List.mem_map.1 hm
  exact getB_none.1 hg p hp e,h.once⟩
 have:(n :: b.map (·.1)).length≤vars.length:=nodup_len hnd fun x hx=>by
  rcases List.mem_cons.1 hx with rfl | hx
  ·exact hn
  ·obtain ⟨p,hp,rfl⟩:=List.mem_map.1 hx
   exact h.inn p hp
 simp at this
 omega
theorem D.BdOk.snoc {vars:List ByteArray} {b:Bd} (h:BdOk vars b) {n v:ByteArray} (hn:n ∈ vars) (hg:getB b n=none) (hv:v ≠ ⟨#[]⟩) (hs:v.size≤maxLen):BdOk vars (b ++ [(n,v)]):=by
 refine ⟨fun p hp=>?_,?_,fun p hp=>?_,fun p hp=>?_⟩
 ·rcases List.mem_append.1 hp with hp | hp
  ·exact h.inn p hp
  ·rw [List.mem_singleton.1 hp]; exact hn
 ·rw [List.map_append]
  refine List.nodup_append.2 ⟨h.once,by simp,fun x hx y hy e=>?_⟩
  simp at hy
  obtain ⟨p,hp,rfl⟩:=List.mem_map.1 hx
  exact getB_none.1 hg p hp (e.trans hy)
 ·rcases List.mem_append.1 hp with hp | hp
  ·exact h.full p hp
  ·rw [List.mem_singleton.1 hp]; exact hv
 ·rcases List.mem_append.1 hp with hp | hp
  ·exact h.size p hp
  ·rw [List.mem_singleton.1 hp]; exact hs
theorem D.BdOk.init {vars:List ByteArray} {b:Bd} {p:ByteArray × ByteArray} (h:BdOk vars (b ++ [p])):BdOk vars b∧p.1 ∈ vars∧getB b p.1=none:=by
 have h2:=h.once
 rw [List.map_append] at h2
 obtain ⟨h3,_,h4⟩:=List.nodup_append.1 h2
 exact ⟨⟨fun q hq=>h.inn q (List.mem_append_left _ hq),h3,fun q hq=>h.full q (List.mem_append_left _ hq),fun q hq=>h.size q (List.mem_append_left _ hq)⟩,h.inn p (by simp),getB_none.2 fun q hq e=>h4 q.1 (List.mem_map.2 ⟨q,hq,rfl⟩) p.1 (by simp) e⟩
theorem D.BdOk.nil (vars:List ByteArray):BdOk vars []:=⟨fun p h=>by simp at h,by simp,fun p h=>by simp at h,fun p h=>by simp at h⟩
theorem D.BdOk.fill_size {vars:List ByteArray} {b:Bd} (h:BdOk vars b) {t:T} (ht:t.var=false→t.name.size≤maxLen):(fillT b t).name.size≤maxLen:=by
 unfold fillT
 cases hv:t.var
 ·simpa using ht hv
 ·simp only [if_true,valB]
  cases hg:getB b t.name with
  | none=>decide
  | some v=>exact h.size _ (getB_mem hg)
theorem D.wrd_snoc {vars:List ByteArray} (hv:VarsOk vars) {b:Bd} {n v:ByteArray} (hn:n ∈ vars) (hg:getB b n=none) (i:Nat):
  wrd vars (b ++ [(n,v)]) i=if i=vars.idxOf n then v else wrd vars b i:=by
 have hl:=List.idxOf_lt_length_of_mem hn
 unfold wrd
 by_cases hi:i < vars.length
 ·rw [dif_pos hi,dif_pos hi]
  split
  ·rename_i e
   subst e
   have:vars[vars.idxOf n]=n:=List.getElem_idxOf hi
   unfold valB
   rw [this,getB_snoc_same hg]; rfl
  ·rename_i e
   have hne:n ≠ vars[i]:=fun e2=>e (by rw [e2]; exact (List.Nodup.idxOf_getElem hv.once i hi).symm)
   unfold valB
   rw [getB_snoc_other hne]
 ·rw [dif_neg hi,dif_neg hi]
  split
  ·omega
  ·rfl
section
variable {vars:List ByteArray} {b:Bd} {blk o:Nat} {w:World}
theorem D.BdAt.keep {w':World} (h:BdAt vars b blk o w) (e:w'.heap[blk]? = w.heap[blk]?):BdAt vars b blk o w':=
 ⟨fun i hi=>(World.cell?_of_block e).trans (h.wd i hi),fun i hi=>by obtain ⟨z,h1,h2⟩:=h.bd i hi; exact ⟨z,(World.cell?_of_block e).trans h1,h2⟩,(World.cell?_of_block e).trans h.ct,fun i hi=>(World.frozen?_of_block e).trans (h.fz i hi)⟩
theorem D.BdAt.lt (h:BdAt vars b blk o w):blk < w.heap.size:=lt_of_cell h.ct
theorem D.cell_put (w:World) (b o:Nat) (v:Value) {u:Value} (h:w.cell? ⟨b,o,none⟩=some u) (q:Nat):(w.setCell ⟨b,o,none⟩ v).cell? ⟨b,q,none⟩=if q=o then some v else w.cell? ⟨b,q,none⟩:=by
 split
 ·rename_i e; subst e; exact World.cell?_setCell_same _ _ _ h
 ·rename_i e; exact World.cell?_setCell_other _ _ _ _ (fun e2=>e (by injection e2 with _ e3 _; exact e3.symm))
theorem D.BdAt.bind (hv:VarsOk vars) (h:BdAt vars b blk o w) (hb:BdOk vars b) {n v:ByteArray} (hn:n ∈ vars) (hg:getB b n=none):
  BdAt vars (b ++ [(n,v)]) blk o (((w.setCell ⟨blk,o+vars.idxOf n,none⟩ (.string v)).setCell ⟨blk,o+12+b.length,none⟩ (.int .i64 (vars.idxOf n:Nat))).setCell ⟨blk,o+24,none⟩ (.int .i64 ((b ++ [(n,v)]).length:Nat))):=by
 have hl:=hb.lt hn hg
 have hf:=hv.few
 have hi:=List.idxOf_lt_length_of_mem hn
 obtain ⟨z0,hz0,_⟩:=h.bd b.length (by omega)
 have c1:=D.cell_put w blk (o+vars.idxOf n) (.string v) (h.wd _ (by omega))
 have c2:=D.cell_put (w.setCell ⟨blk,o+vars.idxOf n,none⟩ (.string v)) blk (o+12+b.length) (.int .i64 (vars.idxOf n:Nat)) (u:=.int .i64 z0) (by rw [c1,if_neg (by omega)]; exact hz0)
 have c3:=D.cell_put ((w.setCell ⟨blk,o+vars.idxOf n,none⟩ (.string v)).setCell ⟨blk,o+12+b.length,none⟩ (.int .i64 (vars.idxOf n:Nat))) blk (o+24) (.int .i64 ((b ++ [(n,v)]).length:Nat)) (u:=.int .i64 b.length)
  (by rw [c2,if_neg (by omega),c1,if_neg (by omega)]; exact h.ct)
 refine ⟨fun i hi'=>?_,fun i hi'=>?_,?_,fun i hi'=>?_⟩
 ·rw [c3,if_neg (by omega),c2,if_neg (by omega),c1,wrd_snoc hv hn hg]
  by_cases e:i=vars.idxOf n
  ·rw [if_pos (by omega),if_pos e]
  ·rw [if_neg (by omega),if_neg e]; exact h.wd i hi'
 ·rw [c3,if_neg (by omega),c2]
  by_cases e:i=b.length
  ·subst e
   rw [if_pos rfl]
   exact ⟨_,rfl,fun hlt=>by simp⟩
  ·rw [if_neg (by omega),c1,if_neg (by omega)]
   obtain ⟨z,h1,h2⟩:=h.bd i hi'
   refine ⟨z,h1,fun hlt=>?_⟩
   have hlt':i < b.length:=by simp at hlt; omega
   rw [h2 hlt',List.getElem_append_left hlt']
 ·rw [c3,if_pos rfl]
 ·simp only [World.frozen?_setCell]
  exact h.fz i hi'
theorem D.BdAt.unbind (hv:VarsOk vars) {n v:ByteArray} (h:BdAt vars (b ++ [(n,v)]) blk o w) (hb:BdOk vars (b ++ [(n,v)])):
  BdAt vars b blk o ((w.setCell ⟨blk,o+24,none⟩ (.int .i64 (b.length:Nat))).setCell ⟨blk,o+vars.idxOf n,none⟩ (.string ⟨#[]⟩)):=by
 obtain ⟨hb0,hn,hg⟩:=hb.init
 have hf:=hv.few
 have hi:=List.idxOf_lt_length_of_mem hn
 dsimp only at hn hg hi
 have c1:=D.cell_put w blk (o+24) (.int .i64 (b.length:Nat)) h.ct
 have c2:=D.cell_put (w.setCell ⟨blk,o+24,none⟩ (.int .i64 (b.length:Nat))) blk (o+vars.idxOf n) (.string ⟨#[]⟩) (by rw [c1,if_neg (by omega)]; exact h.wd _ (by omega))
 refine ⟨fun i hi'=>?_,fun i hi'=>?_,?_,fun i hi'=>?_⟩
 ·rw [c2]
  by_cases e:i=vars.idxOf n
  ·rw [if_pos (by omega)]
   subst e
   unfold wrd
   rw [dif_pos hi]
   have:vars[vars.idxOf n]=n:=List.getElem_idxOf hi
   rw [this,(hb0.val_empty n).2 hg]
  ·rw [if_neg (by omega),c1,if_neg (by omega),h.wd i hi',wrd_snoc hv hn hg,if_neg e]
 ·rw [c2,if_neg (by omega),c1,if_neg (by omega)]
  obtain ⟨z,h1,h2⟩:=h.bd i hi'
  refine ⟨z,h1,fun hlt=>?_⟩
  rw [h2 (by simp; omega),List.getElem_append_left hlt]
 ·rw [c2,if_neg (by omega),c1,if_pos rfl]
 ·simp only [World.frozen?_setCell]
  exact h.fz i hi'
end
structure D.BdKept (blk o:Nat) (w w':World):Prop where
 grow:w.grownBy w' (some blk)
 rest:∀ q,(q < o∨o+25≤q)→w'.cell? ⟨blk,q,none⟩=w.cell? ⟨blk,q,none⟩
section
variable {blk o:Nat} {w w' w2:World}
theorem D.BdKept.refl (blk o:Nat) (w:World):BdKept blk o w w:=⟨⟨rfl,rfl,rfl,Nat.le_refl _,fun _ _ _=>rfl⟩,fun _ _=>rfl⟩
theorem D.BdKept.trans (h:BdKept blk o w w') (k:BdKept blk o w' w2):BdKept blk o w w2:=
 ⟨⟨k.grow.os.trans h.grow.os,k.grow.tape.trans h.grow.tape,k.grow.output.trans h.grow.output,Nat.le_trans h.grow.size k.grow.size,fun i hi hne=>(k.grow.block i (Nat.lt_of_lt_of_le hi h.grow.size) hne).trans (h.grow.block i hi hne)⟩,
  fun q hq=>(k.rest q hq).trans (h.rest q hq)⟩
theorem D.BdKept.of_below (h:Below w.heap.size w w') (hb:blk < w.heap.size):BdKept blk o w w':=
 ⟨⟨h.os,h.tape,h.output,h.size,fun i hi _=>h.block i hi⟩,fun q _=>World.cell?_of_block (h.block _ hb)⟩
theorem D.BdKept.put (w:World) (i:Nat) (hi:i < 25) (v:Value):BdKept blk o w (w.setCell ⟨blk,o+i,none⟩ v):=
 ⟨⟨rfl,rfl,rfl,by simp [World.setCell],fun k _ hne=>Below.heap_setCell _ _ _ _ (fun e=>hne (by rw [e]))⟩,
  fun q hq=>World.cell?_setCell_other _ _ _ _ (fun e=>by injection e with _ e2 _; omega)⟩
theorem D.BdKept.keep {α:Type} {R:Rel α} (g:Good R) {cs:List Value} {x:α} {bs:List Nat} (h:BdKept blk o w w') (hr:R w cs x bs) (hb:blk ∉ bs):R w' cs x bs:=
 g.keep hr fun b hb'=>h.grow.block b (g.lt hr b hb') (fun e=>hb (by injection e with e; rw [← e]; exact hb'))
theorem D.BdKept.block (h:BdKept blk o w w') {b:Nat} (hb:b < w.heap.size) (hne:b ≠ blk):w'.heap[b]? = w.heap[b]?:=h.grow.block b hb (fun e=>hne (by injection e))
end
theorem D.matchT_prog {vars:List ByteArray} {b:Bd} (hb:BdOk vars b) (t f:T) (ts fs:List T) (hc:t.var=false→t.name ≠ ⟨#[]⟩):
  matchT (t :: ts) (f :: fs) b=if (fillT b t).name=⟨#[]⟩ then matchT ts fs (b ++ [(t.name,f.name)]) else if (fillT b t).name=f.name then matchT ts fs b else (b,false):=by
 obtain ⟨tv,tn⟩:=t
 rw [matchT]
 unfold fillT
 cases tv
 ·simp only [Bool.false_eq_true,if_false]
  rw [if_neg (hc rfl)]
 ·simp only [if_true]
  cases hg:getB b tn with
  | none=>
   have:valB b tn=⟨#[]⟩:=(hb.val_empty tn).2 hg
   rw [if_pos this]
  | some v=>
   have e:valB b tn=v:=by unfold valB; rw [hg]; rfl
   have hne:v ≠ ⟨#[]⟩:=hb.full _ (getB_mem hg)
   simp only [e]
   rw [if_neg hne]
theorem D.fill_empty {vars:List ByteArray} {b:Bd} (hb:BdOk vars b) {t:T} (hc:t.var=false→t.name ≠ ⟨#[]⟩) (h:(fillT b t).name=⟨#[]⟩):t.var=true∧getB b t.name=none:=by
 unfold fillT at h
 cases hv:t.var
 ·simp [hv] at h; exact absurd h (hc hv)
 ·simp [hv] at h; exact ⟨rfl,(hb.val_empty _).1 h⟩
end Go.Proofs.YtiidmgchadagbaaGreatDoor
namespace Go.Proofs.YtiidmgchadagbaaGreatDoor
open Go.RowKit D
attribute [local go_sem ↓] Go.wp_at_zero Go.wp_at_succ
theorem below_drewQ {B:Nat} {a w:World} (h:Below B a w) (n:Nat):Below B a (w.drewN n):=⟨h.os,h.tape,h.output,h.size,h.block⟩
theorem indexTerm_any (ts:List T) (s:ByteArray) (v:Value) (bs:List Nat) (w:World) (h:termsK w [v] ts bs):
  Calls Tryz.prog 234 #[v,.agg #[.bool true,.string s]] w fun e w'=>∃ r:Int,e=.returned (.int .i64 r)∧(0≤r ↔ varIn s ts)∧Below w.heap.size w w':=by
 obtain ⟨Ad,cap,rfl,hl,hm⟩:=sliceK_form h
 have hlm:=nat_ge_max (Nat.le_trans hl hm)
 have hA:Below w.heap.size w (w.alloc (.cells #[.bool true,.string s] 109)):=(Below.refl _ _).alloc (Nat.le_refl _) _
 have x0:(w.alloc (.cells #[.bool true,.string s] 109)).cell? ⟨w.heap.size,0,none⟩=some (.bool true):=by go_simp
 have x1:(w.alloc (.cells #[.bool true,.string s] 109)).cell? ⟨w.heap.size,1,none⟩=some (.string s):=by go_simp
 have hst:=η (And.intro hA (And.intro x0 x1))
 clear hl hm hA x0 x1
 go_enter Tryz.func234,Tryz.ntmps234
 go_wp2
 go_loopw [5,8] (fun a i wr=>∃ k:Nat,k≤ts.length∧i=.int .i64 k∧(∀ j (h1:j < ts.length),j < k→¬ (ts[j].var=true∧ts[j].name=s))∧Below w.heap.size w wr∧wr.cell? ⟨w.heap.size,0,none⟩=some (.bool true)∧wr.cell? ⟨w.heap.size,1,none⟩=some (.string s)) (fun _ i _=>ts.length - (intOf i).toNat)
 case atStart=>exact ⟨0,Nat.zero_le _,rfl,fun j _ h=>by omega,hst.out.1,hst.out.2.1,hst.out.2.2⟩
 case round=>
  obtain ⟨k,hk,rfl,hall,hb,x0,x1⟩:=hrel
  have HA:=η hall
  have HB:=η hb
  clear hall hst
  by_cases hlt:k < ts.length
  ·obtain ⟨b,o,rfl,_,e0,e1,_⟩:=terms_at (termsK_good.below h hb) hlt
   have hk0:(0:Int)≤(k:Int):=by omega
   have hk1:(k:Int) < (ts.length:Int):=by omega
   have HLT:=η hlt
   have HI:Hid (∀ (_:ts[k].var=true∧ts[k].name=s),varIn s ts):=η (fun e=>⟨_,List.getElem_mem hlt,e⟩)
   have HN:Hid (¬ (ts[k].var=true∧ts[k].name=s)→∀ j (h1:j < ts.length),j < k+1→¬ (ts[j].var=true∧ts[j].name=s)):=η (fun e j h1 hj=>by
    by_cases hjk:j=k
    ·subst hjk; exact e
    ·exact HA.out j h1 (by omega))
   generalize ts[k]=t at *
   obtain ⟨tv,tn⟩:=t
   dsimp only at *
   clear hb hlt h
   cases tv
   ·have HN2:=η (HN.out (by simp))
    clear HI HN
    go_wp2
    go_quiet (fail)
    go_wp2
    go_roundw
    case rel=>exact ⟨k+1,HLT.out,by go_num,HN2.out,below_drewQ HB.out _,x0,x1⟩
    case measure=>have:=HLT.out; simp [intOf]; omega
   ·cases hs:(s.toList == tn.toList)
    ·have HN2:=η (HN.out (fun e=>by rw [e.2] at hs; simp at hs))
     clear HI HN
     go_wp2
     go_quiet (fail)
     go_wp2
     go_roundw
     case rel=>exact ⟨k+1,HLT.out,by go_num,HN2.out,below_drewQ HB.out _,x0,x1⟩
     case measure=>have:=HLT.out; simp [intOf]; omega
    ·have HI2:=η (HI.out ⟨rfl,by have:=(cmpS_is.eq s tn).1 (by have h9:=eq_cmpS s tn; rw [hs] at h9; simpa using h9.symm); exact this.symm⟩)
     clear HI HN
     go_wp2
     go_quiet (fail)
     go_wp2
     go_ret
     exact ⟨k,rfl,⟨fun _=>HI2.out,fun _=>hk0⟩,below_drewQ HB.out _⟩
  ·have he:=η (show k=ts.length by omega)
   have hk1:¬ (k:Int) < (ts.length:Int):=by omega
   clear h hb
   go_wp2
   go_ret
   exact ⟨-1,rfl,⟨fun h0=>absurd h0 (by decide),fun ⟨t,ht,h1⟩=>by
    obtain ⟨j,hj,rfl⟩:=List.mem_iff_getElem.1 ht
    exact absurd h1 (HA.out j hj (by rw [he.out]; exact hj))⟩,HB.out⟩
theorem containsTerm_any (ts:List T) (s:ByteArray) (v:Value) (bs:List Nat) (w:World) (h:termsK w [v] ts bs):
  Calls Tryz.prog 230 #[v,.agg #[.bool true,.string s]] w fun e w'=>∃ r:Bool,e=.returned (.bool r)∧(r=true ↔ varIn s ts)∧Below w.heap.size w w':=by
 obtain ⟨Ad,cap,rfl,hl,hm⟩:=sliceK_form h
 have hA:Below w.heap.size w (w.alloc (.cells #[.bool true,.string s] 109)):=(Below.refl _ _).alloc (Nat.le_refl _) _
 have hk:=indexTerm_any ts s _ bs _ (termsK_good.below h hA)
 clear h hl hm
 go_enter Tryz.func230,Tryz.ntmps230
 go_wp2_with fail
 refine hk.mono ?_
 rintro e w1 ⟨r,rfl,hr,hb1⟩
 have HR:=η hr
 have B1:=η (hA.trans (hb1.mono hA.size))
 clear hk hr hA
 go_wp2
 go_ret
 exact ⟨decide (0≤r),rfl,by rw [decide_eq_true_iff]; exact HR.out,B1.out⟩
namespace D
def partB (x:ByteArray) (p:Pt):Bool:=!p.no && p.atom.args.any fun t=>t.var && decide (cmpS t.name x=0)
theorem partB_iff (p:Pt) (x:ByteArray):partB x p=true ↔ p.no=false∧varIn x p.atom.args:=by
 unfold partB varIn
 simp only [Bool.and_eq_true,Bool.not_eq_true',List.any_eq_true,decide_eq_true_eq,cmpS_is.eq]
theorem boundB_yes {ps:List Pt} {x:ByteArray} {k:Nat} (hk:k < ps.length) (h:partB x ps[k]=true):boundB ps x=true:=by
 unfold boundB; rw [List.any_eq_true]; exact ⟨_,List.getElem_mem hk,h⟩
theorem boundB_no {ps:List Pt} {x:ByteArray} (h:ps.all (fun p=>!partB x p)=true):boundB ps x=false:=by
 unfold boundB
 rw [List.any_eq_false]
 intro p hp hb
 have:=List.all_eq_true.1 h p hp
 rw [show partB x p=true from hb] at this; cases this
end D
theorem isBound_any (ps:List Pt) (x:ByteArray) (v:Value) (bs:List Nat) (w:World) (h:partsK w [v] ps bs):
  Calls Tryz.prog 217 #[v,.string x] w fun e w'=>e=.returned (.bool (boundB ps x))∧Below w.heap.size w w':=by
 obtain ⟨Ad,cap,rfl,hl,hm⟩:=sliceK_form h
 have hlm:=nat_ge_max (Nat.le_trans hl hm)
 clear hl hm
 go_enter Tryz.func217,Tryz.ntmps217
 go_wp2
 go_loopw [9] (fun i wr=>∃ k:Nat,k≤ps.length∧i=.int .i64 k∧(ps.take k).all (fun p=>!partB x p)=true∧Below w.heap.size w wr) (fun i _=>ps.length - (intOf i).toNat)
 case atStart=>exact ⟨0,Nat.zero_le _,rfl,rfl,Below.refl _ _⟩
 case round=>
  obtain ⟨k,hk,rfl,hall,hb⟩:=hrel
  have HA:=η hall
  clear hall
  by_cases hlt:k < ps.length
  ·obtain ⟨b,o,Ae,ce,bk,rfl,_,d0,d1,d2,hel,_⟩:=parts_el (partsK_good.below h hb) hlt
   have hk0:(0:Int)≤(k:Int):=by omega
   have hk1:(k:Int) < (ps.length:Int):=by omega
   have HLT:=η hlt
   have hA:Below wr.heap.size wr (wr.alloc (.cells #[.bool ps[k].no,.string ps[k].atom.name,.slice Ae ps[k].atom.args.length ce] 111)):=(Below.refl _ _).alloc (Nat.le_refl _) _
   have hc:=containsTerm_any ps[k].atom.args x _ bk _ (termsK_good.below (atom_args (part_atom hel)) hA)
   have HY:Hid (partB x ps[k]=true→boundB ps x=true):=η (boundB_yes hlt)
   have HN:Hid (partB x ps[k]=false→(ps.take (k+1)).all (fun p=>!partB x p)=true):=η (fun e=>by rw [all_take_snoc ps k hlt,HA.out]; show (true && !partB x ps[k])=true; rw [e]; rfl)
   have HB:=η (hb.trans (hA.mono hb.size))
   have HI:=η (partB_iff ps[k] x)
   generalize ps[k]=p at *
   obtain ⟨no,nm,args⟩:=p
   dsimp only at *
   clear h hel hA hb hlt
   cases no
   ·go_wp2_with fail
    refine hc.mono ?_
    rintro e w1 ⟨r,rfl,hr,hb1⟩
    have HR:=η hr
    have HB1:=η (HB.out.trans (hb1.mono HB.out.size))
    clear hc hr hb1
    cases r
    ·have HN2:=η (HN.out (by cases hx:partB x ⟨false,nm,args⟩; rfl; exact absurd (HR.out.2 (HI.out.1 hx).2) (by simp)))
     clear HN HY HR
     go_wp2
     go_roundw
     case rel=>exact ⟨k+1,HLT.out,by go_num,HN2.out,HB1.out⟩
     case measure=>have:=HLT.out; simp [intOf]; omega
    ·have HY2:=η (HY.out (HI.out.2 ⟨by simp,HR.out.1 rfl⟩))
     clear HN HY HR
     go_wp2
     go_ret
     exact ⟨ret_bool HY2.out.symm,HB1.out⟩
   ·have HN2:=η (HN.out (by cases hx:partB x ⟨true,nm,args⟩; rfl; exact absurd (HI.out.1 hx).1 (by simp)))
    clear HN HY hc
    go_wp2
    go_roundw
    case rel=>exact ⟨k+1,HLT.out,by go_num,HN2.out,HB.out⟩
    case measure=>have:=HLT.out; simp [intOf]; omega
  ·have he:=η (show k=ps.length by omega)
   have hk1:¬ (k:Int) < (ps.length:Int):=by omega
   have HE:=η (boundB_no (ps:=ps) (x:=x) (by have:=HA.out; rw [he.out,List.take_of_length_le (Nat.le_refl _)] at this; exact this))
   have HB:=η hb
   clear h hb
   go_wp2
   go_ret
   exact ⟨ret_bool HE.out.symm,HB.out⟩
theorem assertWV (s:ByteArray) (w:World):(Instr.typeAssert (.iface 247 (.string s)) 241 243 true).run Tryz.prog w=.ok (.tuple #[.string ⟨#[]⟩,.bool false]) w:=by kernel_rfl
theorem allBound_any (ps:List Pt) (a:A) (v c0 c1:Value) (bs b2:List Nat) (w:World) (h:partsK w [v] ps bs) (h2:atomK w [c0,c1] a b2):
  Calls Tryz.prog 205 #[v,.agg #[c0,c1]] w fun e w'=>e=.returned (.bool (allBoundB ps a))∧Below w.heap.size w w':=by
 obtain ⟨Ad,cap,rfl,hl,hm⟩:=sliceK_form h
 have ht:=atom_args h2
 obtain ⟨Aa,ca,rfl,rfl⟩:=atom_cells2 h2
 have hlm:=nat_ge_max (Nat.le_trans hl hm)
 obtain ⟨_,_,e0',hl2,hm2⟩:=sliceK_form ht
 have hla:=nat_ge_max (Nat.le_trans hl2 hm2)
 have hA:Below w.heap.size w (w.alloc (.cells #[.string a.name,.slice Aa a.args.length ca] 68)):=(Below.refl _ _).alloc (Nat.le_refl _) _
 clear hl hm hl2 hm2 e0' h2
 unfold allBoundB
 obtain ⟨an,args⟩:=a
 dsimp only at *
 go_enter Tryz.func205,Tryz.ntmps205
 have a1:=assertVV
 have a2:=assertWV
 go_wp2
 go_loopw [12] (fun i wr=>∃ k:Nat,k≤args.length∧i=.int .i64 k∧(args.take k).all (fun t=>!t.var || boundB ps t.name)=true∧Below w.heap.size w wr) (fun i _=>args.length - (intOf i).toNat)
 case atStart=>exact ⟨0,Nat.zero_le _,rfl,rfl,hA⟩
 case round=>
  obtain ⟨k,hk,rfl,hall,hb⟩:=hrel
  have HA:=η hall
  clear hall hA
  by_cases hlt:k < args.length
  ·obtain ⟨b,o,rfl,_,d0,d1,_⟩:=terms_at (termsK_good.below ht hb) hlt
   have hk0:(0:Int)≤(k:Int):=by omega
   have hk1:(k:Int) < (args.length:Int):=by omega
   have HLT:=η hlt
   have hA:Below wr.heap.size wr (wr.alloc (.cells #[.bool args[k].var,.string args[k].name] 109)):=(Below.refl _ _).alloc (Nat.le_refl _) _
   have hb':=hb.trans (hA.mono hb.size)
   have hkd:=kindOf_any args[k] (wr.alloc (.cells #[.bool args[k].var,.string args[k].name] 109))
   have hbd:=fun w' (hb2:Below w.heap.size w w')=>isBound_any ps args[k].name _ bs w' (partsK_good.below h hb2)
   have HY:Hid ((!args[k].var || boundB ps args[k].name)=true→(args.take (k+1)).all (fun t=>!t.var || boundB ps t.name)=true):=η (fun e=>by rw [all_take_snoc args k hlt,HA.out]; show (true && (!args[k].var || boundB ps args[k].name))=true; rw [e]; rfl)
   have HN:Hid ((!args[k].var || boundB ps args[k].name)=false→args.all (fun t=>!t.var || boundB ps t.name)=false):=η (fun e=>all_bad args k hlt e)
   have HB:=η hb'
   generalize args[k]=t at *
   obtain ⟨tv,tn⟩:=t
   dsimp only at *
   clear h ht hA hb hb' hlt
   cases tv
   ·simp only [Bool.false_eq_true,if_false] at hkd
    have HY2:=η (HY.out rfl)
    clear HY HN hbd
    go_wp2_with fail
    refine hkd.mono ?_
    rintro e w1 ⟨rfl,hb1⟩
    have HB1:=η (HB.out.trans (hb1.mono HB.out.size))
    clear hkd hb1
    go_wp2
    go_roundw
    case rel=>exact ⟨k+1,HLT.out,by go_num,HY2.out,HB1.out⟩
    case measure=>have:=HLT.out; simp [intOf]; omega
   ·simp only [if_true] at hkd
    go_wp2_with fail
    refine hkd.mono ?_
    rintro e w1 ⟨rfl,hb1⟩
    have HB1:=η (HB.out.trans (hb1.mono HB.out.size))
    have hv:=varText_any tn w1
    have hbd1:=hbd w1 HB1.out
    have HG:Hid ((!true || boundB ps tn)=boundB ps tn):=η rfl
    rw [HG.out] at HY HN
    generalize boundB ps tn=r at *
    clear hkd hbd hb1
    go_wp2_with fail
    refine hv.mono ?_
    rintro e w2 ⟨rfl,rfl⟩
    go_wp2_with fail
    refine hbd1.mono ?_
    rintro e w3 ⟨rfl,hb3⟩
    have HB3:=η (HB1.out.trans (hb3.mono HB1.out.size))
    clear hv hbd1 hb3
    cases r
    ·have HN2:=η (HN.out rfl)
     clear HN HY
     go_wp2
     go_ret
     exact ⟨ret_bool HN2.out.symm,HB3.out⟩
    ·have HY2:=η (HY.out rfl)
     clear HN HY
     go_wp2
     go_roundw
     case rel=>exact ⟨k+1,HLT.out,by go_num,HY2.out,HB3.out⟩
     case measure=>have:=HLT.out; simp [intOf]; omega
  ·have he:=η (show k=args.length by omega)
   have hk1:¬ (k:Int) < (args.length:Int):=by omega
   have HE:Hid (args.all (fun t=>!t.var || boundB ps t.name)=true):=η (by have:=HA.out; rw [he.out,List.take_of_length_le (Nat.le_refl _)] at this; exact this)
   have HB:=η hb
   clear h ht hb
   go_wp2
   go_ret
   exact ⟨ret_bool HE.out.symm,HB.out⟩
theorem bodyLoose_any (ps:List Pt) (v:Value) (bs:List Nat) (w:World) (h:partsK w [v] ps bs):
  Calls Tryz.prog 206 #[v] w fun e w'=>e=.returned (.bool (looseB ps))∧Below w.heap.size w w':=by
 obtain ⟨Ad,cap,rfl,hl,hm⟩:=sliceK_form h
 have hlm:=nat_ge_max (Nat.le_trans hl hm)
 clear hl hm
 unfold looseB
 go_enter Tryz.func206,Tryz.ntmps206
 go_wp2
 go_loopw [7] (fun i wr=>∃ k:Nat,k≤ps.length∧i=.int .i64 k∧(ps.take k).all (fun p=>allBoundB ps p.atom)=true∧Below w.heap.size w wr) (fun i _=>ps.length - (intOf i).toNat)
 case atStart=>exact ⟨0,Nat.zero_le _,rfl,rfl,Below.refl _ _⟩
 case round=>
  obtain ⟨k,hk,rfl,hall,hb⟩:=hrel
  have HA:=η hall
  clear hall
  by_cases hlt:k < ps.length
  ·obtain ⟨b,o,Ae,ce,bk,rfl,_,d0,d1,d2,hel,_⟩:=parts_el (partsK_good.below h hb) hlt
   have hk0:(0:Int)≤(k:Int):=by omega
   have hk1:(k:Int) < (ps.length:Int):=by omega
   have HLT:=η hlt
   have hA:Below wr.heap.size wr (wr.alloc (.cells #[.bool ps[k].no,.string ps[k].atom.name,.slice Ae ps[k].atom.args.length ce] 111)):=(Below.refl _ _).alloc (Nat.le_refl _) _
   have hb':=hb.trans (hA.mono hb.size)
   have hc:=allBound_any ps ps[k].atom _ _ _ bs bk _ (partsK_good.below h hb') (atomK_good.below (part_atom hel) hA)
   have HY:Hid (allBoundB ps ps[k].atom=true→(ps.take (k+1)).all (fun p=>allBoundB ps p.atom)=true):=η (fun e=>by rw [all_take_snoc ps k hlt,HA.out]; show (true && allBoundB ps ps[k].atom)=true; rw [e]; rfl)
   have HN:Hid (allBoundB ps ps[k].atom=false→ps.all (fun p=>allBoundB ps p.atom)=false):=η (fun e=>all_bad ps k hlt e)
   have HB:=η hb'
   generalize allBoundB ps ps[k].atom=r at *
   generalize ps[k]=p at *
   clear h hel hA hb hb' hlt
   go_wp2_with fail
   refine hc.mono ?_
   rintro e w1 ⟨rfl,hb1⟩
   have HB1:=η (HB.out.trans (hb1.mono HB.out.size))
   clear hc hb1
   cases r
   ·have HN2:=η (HN.out rfl)
    clear HN HY
    go_wp2
    go_ret
    exact ⟨ret_bool (by rw [HN2.out]; rfl),HB1.out⟩
   ·have HY2:=η (HY.out rfl)
    clear HN HY
    go_wp2
    go_roundw
    case rel=>exact ⟨k+1,HLT.out,by go_num,HY2.out,HB1.out⟩
    case measure=>have:=HLT.out; simp [intOf]; omega
  ·have he:=η (show k=ps.length by omega)
   have hk1:¬ (k:Int) < (ps.length:Int):=by omega
   have HE:Hid (ps.all (fun p=>allBoundB ps p.atom)=true):=η (by have:=HA.out; rw [he.out,List.take_of_length_le (Nat.le_refl _)] at this; exact this)
   have HB:=η hb
   clear h hb
   go_wp2
   go_ret
   exact ⟨ret_bool (by rw [HE.out]; rfl),HB.out⟩
end Go.Proofs.YtiidmgchadagbaaGreatDoor
