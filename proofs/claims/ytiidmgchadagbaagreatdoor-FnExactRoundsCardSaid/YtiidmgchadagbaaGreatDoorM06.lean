/- Of the proof of FnExactRounds: LevP, BindP, Open, SplP. -/
import Derived.Test.YtiidmgchadagbaaGreatDoorM02
import Derived.Lib.SplitLaws
set_option linter.unusedVariables false
namespace Go.Proofs.YtiidmgchadagbaaGreatDoor.D
open Go.RowKit
theorem nodup_len {α:Type} [DecidableEq α]:∀ {l1 l2:List α},l1.Nodup→(∀ x ∈ l1,x ∈ l2)→l1.length≤l2.length
 | [],_,_,_=>Nat.zero_le _
 | x :: r,l2,h,hs=>by
  obtain ⟨h1,h2⟩:=List.nodup_cons.1 h
  have hx:=hs x (List.mem_cons_self ..)
  have:=nodup_len (l2:=l2.erase x) h2 fun y hy=>by
   have hne:y ≠ x:=by rintro rfl; exact h1 hy
   exact (List.mem_erase_of_ne hne).2 (hs y (List.mem_cons_of_mem _ hy))
  have hl:=List.length_erase_of_mem hx
  have hp:=List.length_pos_of_mem hx
  simp only [List.length_cons]
  omega
theorem gap_of {l:List Nat} {N x:Nat} (hl:l.length≤N) (hx:x ∈ l) (hN:N≤x):∃ g,g < N∧g ∉ l:=by
 refine Classical.byContradiction fun h=>?_
 have hall:∀ g,g < N→g ∈ l:=fun g hg=>Classical.byContradiction fun hn=>h ⟨g,hg,hn⟩
 have hnd:(x :: List.range N).Nodup:=List.nodup_cons.2 ⟨fun hm=>by have:=List.mem_range.1 hm; omega,List.nodup_range⟩
 have:=nodup_len hnd (l2:=l) fun y hy=>by
  rcases List.mem_cons.1 hy with rfl | hy
  ·exact hx
  ·exact hall y (List.mem_range.1 hy)
 simp at this
 omega
theorem sum_le {α:Type} {f g:α→Nat}:∀ {l:List α},(∀ x ∈ l,f x≤g x)→(l.map f).sum≤(l.map g).sum
 | [],_=>Nat.le_refl _
 | x :: r,h=>by
  have h1:=h x (List.mem_cons_self ..)
  have h2:=sum_le (l:=r) fun y hy=>h y (List.mem_cons_of_mem _ hy)
  simp only [List.map_cons,List.sum_cons]
  omega
theorem sum_lt {α:Type} {f g:α→Nat}:∀ {l:List α},(∀ x ∈ l,f x≤g x)→(∃ x ∈ l,f x < g x)→(l.map f).sum < (l.map g).sum
 | [],_,⟨x,hx,_⟩=>by simp at hx
 | y :: r,h,⟨x,hx,hlt⟩=>by
  have h1:=h y (List.mem_cons_self ..)
  simp only [List.map_cons,List.sum_cons]
  rcases List.mem_cons.1 hx with rfl | hx
  ·have h2:=sum_le (l:=r) fun z hz=>h z (List.mem_cons_of_mem _ hz)
   omega
  ·have h2:=sum_lt (l:=r) (fun z hz=>h z (List.mem_cons_of_mem _ hz)) ⟨x,hx,hlt⟩
   omega
theorem bytes_beq (a b:ByteArray):(a == b)=(a.data == b.data):=rfl
instance lawBytes:LawfulBEq ByteArray where
 eq_of_beq {a b} h:=by rw [bytes_beq] at h; cases a; cases b; exact congrArg _ (eq_of_beq h)
 rfl {a}:=by rw [bytes_beq]; exact beq_self_eq_true _
def headNames (rs:List Ru):List ByteArray:=rs.map fun r=>r.head.name
def putNew (acc:List ByteArray) (n:ByteArray):List ByteArray:=if n ∈ acc then acc else acc ++ [n]
def placesL (rs:List Ru):List ByteArray:=(headNames rs).foldl putNew []
theorem putNew_mem {acc:List ByteArray} {n x:ByteArray}:x ∈ putNew acc n ↔ x ∈ acc∨x=n:=by
 unfold putNew
 split
 ·rename_i h
  exact ⟨.inl,fun h'=>h'.elim id (fun e=>e ▸ h)⟩
 ·simp
theorem places_fold:∀ (ns acc:List ByteArray),acc.Nodup→(ns.foldl putNew acc).Nodup∧(∀ x,x ∈ ns.foldl putNew acc ↔ x ∈ acc∨x ∈ ns)∧(ns.foldl putNew acc).length≤acc.length+ns.length
 | [],acc,h=>⟨h,fun x=>by simp,by simp⟩
 | n :: ns,acc,h=>by
  have hn:(putNew acc n).Nodup:=by
   unfold putNew
   split
   ·exact h
   ·rename_i hm
    exact List.nodup_append.2 ⟨h,by simp,fun a ha b hb e=>by rw [List.mem_singleton.1 hb] at e; exact hm (e ▸ ha)⟩
  obtain ⟨i1,i2,i3⟩:=places_fold ns (putNew acc n) hn
  refine ⟨i1,fun x=>?_,?_⟩
  ·rw [List.foldl_cons,i2,putNew_mem,List.mem_cons,or_assoc]
  ·rw [List.foldl_cons,List.length_cons]
   have:(putNew acc n).length≤acc.length+1:=by unfold putNew; split <;> simp
   omega
theorem places_mem {rs:List Ru} {x:ByteArray}:x ∈ placesL rs ↔ x ∈ headNames rs:=by
 have h:=(places_fold (headNames rs) [] List.nodup_nil).2.1 x
 unfold placesL
 rw [h]; simp
theorem places_len (rs:List Ru):(placesL rs).length≤rs.length:=by
 have:=(places_fold (headNames rs) [] List.nodup_nil).2.2
 simpa [headNames,placesL] using this
def noN (p:Pt):Nat:=if p.no then 1 else 0
def Sol (rs:List Ru) (S:ByteArray→Nat):Prop:=∀ r ∈ rs,∀ p ∈ r.body,p.atom.name ∈ headNames rs→S p.atom.name+noN p≤S r.head.name
theorem head_mem {rs:List Ru} {r:Ru} (h:r ∈ rs):r.head.name ∈ headNames rs:=List.mem_map.2 ⟨r,h,rfl⟩
theorem small_sol {rs:List Ru}:∀ (m:Nat) (S:ByteArray→Nat),Sol rs S→((placesL rs).map S).sum≤m→∃ T,Sol rs T∧∀ n ∈ headNames rs,T n < (placesL rs).length:=by
 intro m
 induction m with
 | zero=>
  intro S hS hm
  refine ⟨S,hS,fun n hn=>?_⟩
  have hp:=List.length_pos_of_mem (places_mem.2 hn)
  have hle:∀ (l:List Nat) (x:Nat),x ∈ l→x≤l.sum:=by
   intro l
   induction l with
   | nil=>intro x hx; simp at hx
   | cons y l ih=>intro x hx; rw [List.sum_cons]; rcases List.mem_cons.1 hx with rfl | hx; omega; have:=ih x hx; omega
  have:S n≤((placesL rs).map S).sum:=hle _ _ (List.mem_map.2 ⟨n,places_mem.2 hn,rfl⟩)
  omega
 | succ m ih=>
  intro S hS hm
  by_cases hx:∃ x ∈ (placesL rs).map S,(placesL rs).length≤x
  ·obtain ⟨x,hx,hN⟩:=hx
   obtain ⟨g,hg,hgn⟩:=gap_of (l:=(placesL rs).map S) (by simp) hx hN
   obtain ⟨nx,hnx,rfl⟩:=List.mem_map.1 hx
   refine ih (fun n=>if g < S n then S n - 1 else S n) (fun r hr p hp hh=>?_) ?_
   ·have h0:=hS r hr p hp hh
    have hne:S p.atom.name ≠ g:=fun e=>hgn (List.mem_map.2 ⟨_,places_mem.2 hh,e⟩)
    have hno:noN p≤1:=by unfold noN; split <;> omega
    dsimp only
    split <;> split <;> omega
   ·have:=sum_lt (l:=placesL rs) (f:=fun n=>if g < S n then S n - 1 else S n) (g:=S) (fun y _=>by split <;> omega) ⟨nx,hnx,by rw [if_pos (by omega)]; omega⟩
    omega
  ·refine ⟨S,hS,fun n hn=>?_⟩
   refine Nat.lt_of_not_le fun h=>hx ⟨S n,List.mem_map.2 ⟨n,places_mem.2 hn,rfl⟩,h⟩
theorem sol_small {rs:List Ru} {S:ByteArray→Nat} (h:Sol rs S):∃ T,Sol rs T∧∀ n ∈ headNames rs,T n < (placesL rs).length:=small_sol _ S h (Nat.le_refl _)
def atL (out:List Nat) (i:Nat):Nat:=out.getD i 0
theorem atL_set {out:List Nat} {i j v:Nat} (h:i < out.length):atL (out.set i v) j=if i=j then v else atL out j:=by
 unfold atL
 rw [List.getD_eq_getElem?_getD,List.getD_eq_getElem?_getD,List.getElem?_set]
 by_cases e:i=j
 ·subst e; rw [if_pos rfl,if_pos rfl,if_pos h]; rfl
 ·rw [if_neg e,if_neg e]
def stepP (n:Nat) (hk:ByteArray) (i k:Nat) (out:List Nat) (p:Pt):List Nat:=
 if p.atom.name=hk then (if atL out i < atL out k+noN p∧atL out i≤n then out.set i (atL out k+noN p) else out) else out
def stepH (hi hk:ByteArray) (i k:Nat) (out:List Nat):List Nat:=if hk=hi∧atL out i < atL out k then out.set i (atL out k) else out
def ruleAt (rs:List Ru) (i:Nat):Ru:=rs.getD i ⟨⟨⟨#[]⟩,[]⟩,[]⟩
def stepK (rs:List Ru) (i:Nat) (out:List Nat) (k:Nat):List Nat:=
 (ruleAt rs i).body.foldl (stepP rs.length (ruleAt rs k).head.name i k) (stepH (ruleAt rs i).head.name (ruleAt rs k).head.name i k out)
def rowI (rs:List Ru) (out:List Nat) (i:Nat):List Nat:=(List.range rs.length).foldl (stepK rs i) out
def roundR (rs:List Ru) (out:List Nat):List Nat:=(List.range rs.length).foldl (rowI rs) out
def itR (rs:List Ru):Nat→List Nat
 | 0=>List.replicate rs.length 0
 | m+1=>roundR rs (itR rs m)
def levelsL (rs:List Ru):List Nat:=itR rs ((rs.length+1) * (rs.length+2))
def cycB (rs:List Ru):Bool:=(levelsL rs).any fun x=>decide (rs.length≤x)
def Up (a b:List Nat):Prop:=b.length=a.length∧∀ i,atL a i≤atL b i
theorem Up.refl (a:List Nat):Up a a:=⟨rfl,fun _=>Nat.le_refl _⟩
theorem Up.trans {a b c:List Nat} (h:Up a b) (k:Up b c):Up a c:=⟨k.1.trans h.1,fun i=>Nat.le_trans (h.2 i) (k.2 i)⟩
theorem Up.eq {a b:List Nat} (h:Up a b) (k:Up b a):a=b:=by
 refine List.ext_getElem h.1.symm fun i h1 h2=>?_
 have e1:atL a i=a[i]:=by unfold atL; rw [List.getD_eq_getElem?_getD,List.getElem?_eq_getElem h1]; rfl
 have e2:atL b i=b[i]:=by unfold atL; rw [List.getD_eq_getElem?_getD,List.getElem?_eq_getElem h2]; rfl
 have h3:=h.2 i
 have h4:=k.2 i
 omega
theorem up_set {out:List Nat} {i v:Nat} (h:atL out i≤v):Up out (out.set i v):=by
 refine ⟨by simp,fun j=>?_⟩
 by_cases hi:i < out.length
 ·rw [atL_set hi]
  split
  ·rename_i e; subst e; exact h
  ·exact Nat.le_refl _
 ·rw [List.set_eq_of_length_le (by omega)]; exact Nat.le_refl _
theorem up_stepP (n:Nat) (hk:ByteArray) (i k:Nat) (out:List Nat) (p:Pt):Up out (stepP n hk i k out p):=by
 unfold stepP
 split
 ·split
  ·rename_i h; exact up_set (by omega)
  ·exact Up.refl _
 ·exact Up.refl _
theorem up_stepH (hi hk:ByteArray) (i k:Nat) (out:List Nat):Up out (stepH hi hk i k out):=by
 unfold stepH
 split
 ·rename_i h; exact up_set (by omega)
 ·exact Up.refl _
theorem up_foldl {β:Type} {f:List Nat→β→List Nat} (hf:∀ o x,Up o (f o x)):∀ (l:List β) (out:List Nat),Up out (l.foldl f out)
 | [],out=>Up.refl _
 | x :: r,out=>(hf out x).trans (up_foldl hf r _)
theorem fold_still {β:Type} {f:List Nat→β→List Nat} (hf:∀ o x,Up o (f o x)):∀ (l:List β) (out:List Nat),l.foldl f out=out→∀ x ∈ l,f out x=out
 | [],_,_,x,hx=>by simp at hx
 | y :: r,out,h,x,hx=>by
  have h1:=hf out y
  have h2:=up_foldl hf r (f out y)
  rw [List.foldl_cons] at h
  rw [h] at h2
  have e:=h1.eq h2
  rw [← e] at h
  rcases List.mem_cons.1 hx with rfl | hx
  ·exact e.symm
  ·exact fold_still hf r out h x hx
theorem up_stepK (rs:List Ru) (i:Nat) (out:List Nat) (k:Nat):Up out (stepK rs i out k):=(up_stepH _ _ _ _ _).trans (up_foldl (fun o x=>up_stepP _ _ _ _ o x) _ _)
theorem up_rowI (rs:List Ru) (out:List Nat) (i:Nat):Up out (rowI rs out i):=up_foldl (fun o x=>up_stepK rs i o x) _ _
theorem up_roundR (rs:List Ru) (out:List Nat):Up out (roundR rs out):=up_foldl (fun o x=>up_rowI rs o x) _ _
theorem itR_len (rs:List Ru):∀ m,(itR rs m).length=rs.length
 | 0=>by simp [itR]
 | m+1=>by rw [itR,(up_roundR rs _).1,itR_len rs m]
theorem levels_len (rs:List Ru):(levelsL rs).length=rs.length:=itR_len rs _
def Bel (rs:List Ru) (T:ByteArray→Nat) (out:List Nat):Prop:=∀ i,i < rs.length→atL out i≤T (ruleAt rs i).head.name
theorem ruleAt_mem {rs:List Ru} {i:Nat} (h:i < rs.length):ruleAt rs i ∈ rs:=by
 unfold ruleAt
 rw [List.getD_eq_getElem?_getD,List.getElem?_eq_getElem h]
 exact List.getElem_mem h
theorem foldl_keep {α β:Type} {P:α→Prop} {f:α→β→α}:∀ {l:List β} {a:α},(∀ a x,x ∈ l→P a→P (f a x))→P a→P (l.foldl f a)
 | [],_,_,h=>h
 | x :: r,a,hf,h=>foldl_keep (l:=r) (fun a y hy=>hf a y (List.mem_cons_of_mem _ hy)) (hf a x (List.mem_cons_self ..) h)
theorem bel_round {rs:List Ru} {T:ByteArray→Nat} (hT:Sol rs T) {out:List Nat} (hl:out.length=rs.length) (h:Bel rs T out):(roundR rs out).length=rs.length∧Bel rs T (roundR rs out):=by
 unfold roundR
 refine foldl_keep (P:=fun o=>o.length=rs.length∧Bel rs T o) (fun o i hi ho=>?_) ⟨hl,h⟩
 have hi:=List.mem_range.1 hi
 unfold rowI
 refine foldl_keep (P:=fun o=>o.length=rs.length∧Bel rs T o) (fun o k hk ho=>?_) ho
 have hk:=List.mem_range.1 hk
 unfold stepK
 refine foldl_keep (P:=fun o=>o.length=rs.length∧Bel rs T o) (fun o p hp ho=>?_) ?_
 ·obtain ⟨h1,h2⟩:=ho
  refine ⟨by rw [(up_stepP _ _ _ _ o p).1,h1],fun j hj=>?_⟩
  unfold stepP
  split
  ·rename_i hn
   split
   ·rw [atL_set (by omega)]
    split
    ·rename_i e
     subst e
     have h3:=hT _ (ruleAt_mem hi) p hp (by rw [hn]; exact head_mem (ruleAt_mem hk))
     have h4:=h2 k hk
     rw [hn] at h3
     omega
    ·exact h2 j hj
   ·exact h2 j hj
  ·exact h2 j hj
 ·obtain ⟨h1,h2⟩:=ho
  refine ⟨by rw [(up_stepH _ _ _ _ o).1,h1],fun j hj=>?_⟩
  unfold stepH
  split
  ·rename_i hc
   rw [atL_set (by omega)]
   split
   ·rename_i e
    subst e
    rw [← hc.1]
    exact h2 k hk
   ·exact h2 j hj
  ·exact h2 j hj
theorem bel_it {rs:List Ru} {T:ByteArray→Nat} (hT:Sol rs T):∀ m,Bel rs T (itR rs m)
 | 0=>fun i hi=>by
  have:atL (itR rs 0) i=0:=by unfold itR atL; rw [List.getD_eq_getElem?_getD,List.getElem?_replicate]; split <;> rfl
  omega
 | m+1=>(bel_round hT (itR_len rs m) (bel_it hT m)).2
theorem bel_levels {rs:List Ru} {T:ByteArray→Nat} (hT:Sol rs T):Bel rs T (levelsL rs):=bel_it hT _
def Closed (rs:List Ru) (out:List Nat):Prop:=∀ i,i < rs.length→∀ k,k < rs.length→
 ((ruleAt rs k).head.name=(ruleAt rs i).head.name→atL out k≤atL out i)∧∀ p ∈ (ruleAt rs i).body,p.atom.name=(ruleAt rs k).head.name→atL out k+noN p≤atL out i
theorem set_still {out:List Nat} {i v:Nat} (h:i < out.length) (e:out.set i v=out):atL out i=v:=by
 have:=atL_set (j:=i) (v:=v) h
 rw [e,if_pos rfl] at this
 exact this
theorem closed_of {rs:List Ru} {out:List Nat} (hl:out.length=rs.length) (hs:roundR rs out=out) (hn:∀ i,i < rs.length→atL out i≤rs.length):Closed rs out:=by
 intro i hi k hk
 have h1:=fold_still (fun o x=>up_rowI rs o x) _ _ hs i (List.mem_range.2 hi)
 have h2:=fold_still (fun o x=>up_stepK rs i o x) _ _ h1 k (List.mem_range.2 hk)
 have h3:stepH (ruleAt rs i).head.name (ruleAt rs k).head.name i k out=out:=by
  have a1:=up_stepH (ruleAt rs i).head.name (ruleAt rs k).head.name i k out
  have a2:=up_foldl (fun o x=>up_stepP rs.length (ruleAt rs k).head.name i k o x) (ruleAt rs i).body (stepH (ruleAt rs i).head.name (ruleAt rs k).head.name i k out)
  unfold stepK at h2
  rw [h2] at a2
  exact (a1.eq a2).symm
 unfold stepK at h2
 rw [h3] at h2
 have h4:=fold_still (fun o x=>up_stepP rs.length (ruleAt rs k).head.name i k o x) _ _ h2
 refine ⟨fun e=>?_,fun p hp e=>?_⟩
 ·refine Nat.le_of_not_lt fun hlt=>?_
  unfold stepH at h3
  rw [if_pos ⟨e,hlt⟩] at h3
  have:=set_still (by omega) h3
  omega
 ·refine Nat.le_of_not_lt fun hlt=>?_
  have h5:=h4 p hp
  unfold stepP at h5
  rw [if_pos e,if_pos ⟨hlt,hn i hi⟩] at h5
  have:=set_still (by omega) h5
  omega
theorem sum_up {a b:List Nat} (h:Up a b) (hne:b ≠ a):a.sum < b.sum:=by
 have key:∀ (a b:List Nat),b.length=a.length→(∀ i,atL a i≤atL b i)→a.sum≤b.sum∧(b ≠ a→a.sum < b.sum):=by
  intro a
  induction a with
  | nil=>intro b hl _; have:b = []:=List.length_eq_zero_iff.1 hl; subst this; exact ⟨Nat.le_refl _,fun h=>absurd rfl h⟩
  | cons x xs ih=>
   intro b hl hle
   cases b with
   | nil=>simp at hl
   | cons y ys=>
    have h0:x≤y:=hle 0
    have h1:∀ i,atL xs i≤atL ys i:=fun i=>hle (i+1)
    obtain ⟨i1,i2⟩:=ih ys (by simpa using hl) h1
    simp only [List.sum_cons]
    refine ⟨by omega,fun hne=>?_⟩
    by_cases e:ys=xs
    ·have:y ≠ x:=fun e2=>hne (by rw [e,e2])
     omega
    ·have:=i2 e; omega
 exact (key a b h.1 h.2).2 hne
theorem sum_bound {out:List Nat} {n:Nat} (h:∀ i,i < out.length→atL out i≤n):out.sum≤out.length * n:=by
 induction out with
 | nil=>simp
 | cons x xs ih=>
  have h0:x≤n:=h 0 (by simp)
  have h1:=ih fun i hi=>h (i+1) (by simp; omega)
  simp only [List.sum_cons,List.length_cons,Nat.add_mul]
  omega
theorem it_up (rs : List Ru) : ∀ {m k : Nat}, m ≤ k → Up (itR rs m) (itR rs k) := by
  intro m k h
  induction k with
  | zero => obtain rfl : m = 0 := by omega
            exact Up.refl _
  | succ k ih =>
    by_cases e : m = k + 1
    · subst e; exact Up.refl _
    · exact (ih (by omega)).trans (up_roundR rs _)
theorem it_still (rs : List Ru) {m : Nat} (h : roundR rs (itR rs m) = itR rs m) : ∀ k, m ≤ k → itR rs k = itR rs m := by
  intro k hk
  induction k with
  | zero => obtain rfl : m = 0 := by omega
            rfl
  | succ k ih =>
    by_cases e : m = k + 1
    · rw [e]
    · rw [itR, ih (by omega), h]
theorem levels_dich (rs:List Ru):(∃ i,i < rs.length∧rs.length < atL (levelsL rs) i)∨Closed rs (levelsL rs):=by
 by_cases hx:∃ i,i < rs.length∧rs.length < atL (levelsL rs) i
 ·exact .inl hx
 ·have hall:∀ i,i < rs.length→atL (levelsL rs) i≤rs.length:=fun i hi=>Nat.le_of_not_lt fun h=>hx ⟨i,hi,h⟩
  by_cases hs:roundR rs (levelsL rs)=levelsL rs
  ·exact .inr (closed_of (levels_len rs) hs hall)
  ·exfalso
   have hgo:∀ m,m≤(rs.length+1) * (rs.length+2)→m≤(itR rs m).sum:=by
    intro m
    induction m with
    | zero=>intro _; exact Nat.zero_le _
    | succ m ih=>
     intro hm
     have h1:=ih (by omega)
     have h2:roundR rs (itR rs m) ≠ itR rs m:=fun e=>by
      have:=it_still rs e _ (show m≤(rs.length+1) * (rs.length+2) by omega)
      refine hs ?_
      unfold levelsL
      rw [this]
      exact e
     have h3:=sum_up (up_roundR rs (itR rs m)) h2
     show m+1≤(roundR rs (itR rs m)).sum
     omega
   have h1:=hgo _ (Nat.le_refl _)
   have h2:=sum_bound (out:=levelsL rs) (n:=rs.length) (by rw [levels_len]; exact hall)
   rw [levels_len] at h2
   have h3:rs.length * rs.length < (rs.length+1) * (rs.length+2):=by
    have:(rs.length+1) * (rs.length+2)=rs.length * rs.length+3 * rs.length+2:=by
     rw [Nat.add_mul,Nat.mul_add]; omega
    omega
   unfold levelsL at h2
   omega
def nameLev (rs:List Ru) (n:ByteArray):Nat:=atL (levelsL rs) ((headNames rs).idxOf n)
theorem closed_eq {rs:List Ru} {out:List Nat} (h:Closed rs out) {i k:Nat} (hi:i < rs.length) (hk:k < rs.length) (e:(ruleAt rs k).head.name=(ruleAt rs i).head.name):atL out k=atL out i:=
 Nat.le_antisymm ((h i hi k hk).1 e) ((h k hk i hi).1 e.symm)
theorem idx_rule {rs:List Ru} {n:ByteArray} (h:n ∈ headNames rs):(headNames rs).idxOf n < rs.length∧(ruleAt rs ((headNames rs).idxOf n)).head.name=n:=by
 have h1:=List.idxOf_lt_length_of_mem h
 have h2:=List.getElem_idxOf h1
 have h3:(headNames rs).length=rs.length:=by simp [headNames]
 refine ⟨by omega,?_⟩
 have h4:(headNames rs).idxOf n < rs.length:=by omega
 have h5:ruleAt rs ((headNames rs).idxOf n)=rs[(headNames rs).idxOf n]:=by
  unfold ruleAt
  rw [List.getD_eq_getElem?_getD,List.getElem?_eq_getElem h4]; rfl
 have h6:∀ i (h:i < rs.length) (h':i < (headNames rs).length),(headNames rs)[i]=rs[i].head.name:=fun i h h'=>by simp [headNames]
 rw [h5,← h6 _ h4 h1,h2]
theorem closed_sol {rs:List Ru} (h:Closed rs (levelsL rs)):Sol rs (nameLev rs)∧∀ i,i < rs.length→atL (levelsL rs) i=nameLev rs (ruleAt rs i).head.name:=by
 have he:∀ i,i < rs.length→atL (levelsL rs) i=nameLev rs (ruleAt rs i).head.name:=fun i hi=>by
  obtain ⟨h1,h2⟩:=idx_rule (head_mem (ruleAt_mem hi))
  unfold nameLev
  exact closed_eq h h1 hi h2.symm
 refine ⟨fun r hr p hp hh=>?_,he⟩
 obtain ⟨i,hi,rfl⟩:=List.mem_iff_getElem.1 hr
 have er:ruleAt rs i=rs[i]:=by unfold ruleAt; rw [List.getD_eq_getElem?_getD,List.getElem?_eq_getElem hi]; rfl
 obtain ⟨h1,h2⟩:=idx_rule hh
 have h3:=(h i hi _ h1).2 p (by rw [er]; exact hp) h2.symm
 have h4:=he i hi
 rw [er] at h4
 rw [← h4]
 exact h3
theorem cyc_no {rs:List Ru} (h:cycB rs=true) (S:ByteArray→Nat):¬ Sol rs S:=by
 intro hS
 obtain ⟨T,hT,hs⟩:=sol_small hS
 unfold cycB at h
 obtain ⟨x,hx,hxn⟩:=List.any_eq_true.1 h
 have hxn:=of_decide_eq_true hxn
 obtain ⟨i,hi,rfl⟩:=List.mem_iff_getElem.1 hx
 have hi':i < rs.length:=by rw [levels_len] at hi; exact hi
 have h1:=bel_levels hT i hi'
 have h2:=hs _ (head_mem (ruleAt_mem hi'))
 have h3:=places_len rs
 have e:atL (levelsL rs) i=(levelsL rs)[i]:=by unfold atL; rw [List.getD_eq_getElem?_getD,List.getElem?_eq_getElem hi]; rfl
 omega
theorem no_cyc {rs:List Ru} (h:cycB rs=false):Closed rs (levelsL rs):=by
 refine (levels_dich rs).resolve_left fun ⟨i,hi,hn⟩=>?_
 unfold cycB at h
 have hi':i < (levelsL rs).length:=by rw [levels_len]; exact hi
 have e:atL (levelsL rs) i=(levelsL rs)[i]:=by unfold atL; rw [List.getD_eq_getElem?_getD,List.getElem?_eq_getElem hi']; rfl
 have:=List.any_eq_false.1 h (levelsL rs)[i] (List.getElem_mem hi')
 simp at this
 omega
theorem cyc_of_no {rs:List Ru} (h:∀ S,¬ Sol rs S):cycB rs=true:=by
 cases hc:cycB rs
 ·exact absurd (closed_sol (no_cyc hc)).1 (h _)
 ·rfl
theorem no_cyc_of {rs:List Ru} {S:ByteArray→Nat} (h:Sol rs S):cycB rs=false:=by
 cases hc:cycB rs
 ·rfl
 ·exact absurd h (cyc_no hc S)
theorem least_eq {rs:List Ru} {S:ByteArray→Nat} (h:Sol rs S) (hl:∀ T,Sol rs T→∀ n ∈ headNames rs,S n≤T n):∀ i,i < rs.length→S (ruleAt rs i).head.name=atL (levelsL rs) i:=fun i hi=>by
 have hc:=closed_sol (no_cyc (no_cyc_of h))
 have h1:=hl _ hc.1 _ (head_mem (ruleAt_mem hi))
 have h2:=bel_levels h i hi
 have h3:=hc.2 i hi
 omega
abbrev Bd:=List (ByteArray × ByteArray)
def getB:Bd→ByteArray→Option ByteArray
 | [],_=>none
 | p :: b,n=>if p.1=n then some p.2 else getB b n
def valB (b:Bd) (n:ByteArray):ByteArray:=(getB b n).getD ⟨#[]⟩
def matchT:List T→List T→Bd→Bd × Bool
 | t :: ts,f :: fs,b=>
  if t.var then
   match getB b t.name with
   | some v=>if v=f.name then matchT ts fs b else (b,false)
   | none=>matchT ts fs (b ++ [(t.name,f.name)])
  else if t.name=f.name then matchT ts fs b else (b,false)
 | _,_,b=>(b,true)
def matchB (a f:A) (b:Bd):Bd × Bool:=if a.name=f.name∧a.args.length=f.args.length then matchT a.args f.args b else (b,false)
def fillT (b:Bd) (t:T):T:=⟨false,if t.var then valB b t.name else t.name⟩
def fillB (a:A) (b:Bd):A:=⟨a.name,a.args.map (fillT b)⟩
def bindK:Rel Bd:=fun w cs b bs=>∃ s v b1 b2,cs = [s,v]∧bs=b1 ++ b2∧strsK w [s] (b.map (·.1)) b1∧strsK w [v] (b.map (·.2)) b2
theorem bindK_good:Good bindK:=
 ⟨fun h hk=>by
   obtain ⟨s,v,b1,b2,h1,rfl,h3,h4⟩:=h
   exact ⟨s,v,b1,b2,h1,rfl,strsK_good.keep h3 fun b hb=>hk b (List.mem_append_left _ hb),strsK_good.keep h4 fun b hb=>hk b (List.mem_append_right _ hb)⟩,
  fun h b hb=>by
   obtain ⟨s,v,b1,b2,h1,rfl,h3,h4⟩:=h
   rcases List.mem_append.1 hb with hb | hb
   ·exact strsK_good.lt h3 b hb
   ·exact strsK_good.lt h4 b hb⟩
def bindsK:Rel (List Bd):=sliceK 2 bindK
theorem bindsK_good:Good bindsK:=sliceK_good bindK_good (by omega)
end Go.Proofs.YtiidmgchadagbaaGreatDoor.D
namespace Go.Proofs.YtiidmgchadagbaaGreatDoor.D
open Go.RowKit Go.Deep Go.ChangeShapes Go.WideShapes
def Opens {α:Type} (P:Program) (e:TypeId) (R:Rel α):Prop:=
 ∀ (H:Type) (enc:TypeId × Value→H) (w:World) (spare:Nat→Bool) (held:Bool) (fuel:Nat) (cs:List Value) (y:DataW H × List MemPlace),
  DataW.trod enc P w 0 spare held fuel e cs=some y→∃ x bs,R w cs x bs
theorem opens_slice {α:Type} {P:Program} {t e:TypeId} {n:Nat} {R:Rel α} (ht:P.underlying t=some (.slice e)) (hC:P.cellsOf e=n) (hn:0 < n) (hR:Opens P e R):Opens P t (sliceK n R):=by
 intro H enc w spare held fuel cs y h
 rcases open_slice ht h with ⟨rfl,_⟩ | ⟨a,len,cap,m,n',Dd,Pl,rfl,_,hl,hm,hmm,_,hi⟩
 ·exact ⟨[],[],none,0,rfl,Nat.le_refl _,by unfold maxLen; omega,fun _=>rfl,fun h=>absurd rfl h⟩
 ·have hlm:len≤m:=by rw [hmm]; split <;> omega
  by_cases h0:len=0
  ·subst h0
   exact ⟨[],[],some a,cap,rfl,hl,hm,fun _=>rfl,fun h=>absurd rfl h⟩
  ·have hex:∀ k,k < len→∃ p:List Value × α × List Nat,p.1.length=n∧(∀ j v,p.1[j]? = some v→w.cell? (a.add (k * n+j))=some v)∧R w p.1 p.2.1 p.2.2:=by
    intro k hk
    obtain ⟨cs',hc,htr⟩:=hi k (by omega)
    rw [hC] at hc
    obtain ⟨_,hlen,hcell⟩:=World.cells?_some hc
    obtain ⟨x,bs,hx⟩:=hR H enc w spare held n' cs' _ htr
    refine ⟨(cs',x,bs),hlen,fun j v hv=>?_,hx⟩
    have hjn:j < n:=by
     have:=(List.getElem?_eq_some_iff.1 hv).1
     dsimp only at this
     omega
    have:=hcell j hjn
    rw [add_add] at this
    rw [this]; exact hv
   obtain ⟨p0,_⟩:=hex 0 (by omega)
   haveI:Inhabited (List Value × α × List Nat):=⟨p0⟩
   obtain ⟨f,hf⟩:=choose_lt hex
   have hsp:a.spot=none:=by
    obtain ⟨q1,q2,_⟩:=hf 0 (by omega)
    obtain ⟨v,hv⟩:∃ v,(f 0).1[0]? = some v:=⟨_,List.getElem?_eq_getElem (by omega)⟩
    have h1:=q2 0 v hv
    have h2:a.add (0 * n+0)=a:=by simp [Addr.add]
    rw [h2] at h1
    exact World.cell?_spot h1
   obtain ⟨b,o,sp⟩:=a
   dsimp only at hsp
   subst hsp
   have hadd:∀ i,(⟨b,o,none⟩:Addr).add i=⟨b,o+i,none⟩:=by
    intro i; unfold Addr.add; split <;> simp_all
   have hlx:((List.range len).map fun k=>(f k).2.1).length=len:=by simp
   refine ⟨(List.range len).map fun k=>(f k).2.1,b :: (List.range len).flatMap fun k=>(f k).2.2,some ⟨b,o,none⟩,cap,by rw [hlx],by rw [hlx]; exact hl,hm,fun h=>?_,fun _=>⟨b,o,rfl,fun k=>(f k).1,fun k=>(f k).2.2,by rw [hlx],fun k x hx=>?_⟩⟩
   ·have:=congrArg List.length h; rw [hlx] at this; exact absurd this h0
   ·obtain ⟨hk,rfl⟩:=List.getElem?_eq_some_iff.1 hx
    rw [hlx] at hk
    obtain ⟨q1,q2,q3⟩:=hf k hk
    refine ⟨q1,fun j v hv=>?_,?_⟩
    ·rw [← hadd]; exact q2 j v hv
    ·simp only [List.getElem_map,List.getElem_range]; exact q3
theorem opens_byte {P:Program} {t:TypeId} (ht:P.underlying t=some (.int .u8)):Opens P t byteK:=by
 intro H enc w spare held fuel cs y h
 obtain ⟨n,rfl,_,hw⟩:=DataW.trod_int ht h
 simp only [Lit.wf,IntKind.min,IntKind.max,IntKind.signed,IntKind.bits] at hw
 simp at hw
 exact ⟨UInt8.ofNat n.toNat,[],by simp; omega,rfl⟩
section
variable {P:Program}
theorem opens_term {t:TypeId} {f0 f1:Field} (ht:P.underlying t=some (.struct #[f0,f1])) (hC:P.cellsOf t=2) (h0:P.underlying f0.type=some .bool) (h1:P.underlying f1.type=some .string)
  (c0:P.cellsOf f0.type=1) (c1:P.cellsOf f1.type=1) (o0:f0.offset=0) (o1:f1.offset=1):Opens P t termK:=by
 intro H enc w spare held fuel cs y h
 obtain ⟨y0,y1,n,rfl,hl,t0,t1⟩:=trod_struct2 ht h
 rw [hC] at hl
 match cs,hl with
 | [a,b],_=>
  rw [c0,o0] at t0
  rw [c1,o1] at t1
  obtain ⟨x0,e0,_⟩:=DataW.trod_bool h0 t0
  obtain ⟨x1,e1,_,hs⟩:=DataW.trod_string h1 t1
  simp at e0 e1
  subst e0 e1
  exact ⟨⟨x0,x1⟩,[],rfl,hs,rfl⟩
theorem opens_atom {t:TypeId} {f0 f1:Field} (ht:P.underlying t=some (.struct #[f0,f1])) (hC:P.cellsOf t=2) (h0:P.underlying f0.type=some .string) (h1:Opens P f1.type termsK)
  (c0:P.cellsOf f0.type=1) (c1:P.cellsOf f1.type=1) (o0:f0.offset=0) (o1:f1.offset=1):Opens P t atomK:=by
 intro H enc w spare held fuel cs y h
 obtain ⟨y0,y1,n,rfl,hl,t0,t1⟩:=trod_struct2 ht h
 rw [hC] at hl
 match cs,hl with
 | [a,b],_=>
  rw [c0,o0] at t0
  rw [c1,o1] at t1
  obtain ⟨x0,e0,_,hs⟩:=DataW.trod_string h0 t0
  obtain ⟨x1,bs,hx⟩:=h1 H enc w spare held n _ _ t1
  simp at e0
  subst e0
  exact ⟨⟨x0,x1⟩,bs,b,rfl,hs,by simpa using hx⟩
theorem opens_part {t:TypeId} {f0 f1:Field} (ht:P.underlying t=some (.struct #[f0,f1])) (hC:P.cellsOf t=3) (h0:P.underlying f0.type=some .bool) (h1:Opens P f1.type atomK)
  (c0:P.cellsOf f0.type=1) (c1:P.cellsOf f1.type=2) (o0:f0.offset=0) (o1:f1.offset=1):Opens P t partK:=by
 intro H enc w spare held fuel cs y h
 obtain ⟨y0,y1,n,rfl,hl,t0,t1⟩:=trod_struct2 ht h
 rw [hC] at hl
 match cs,hl with
 | [a,b,c],_=>
  rw [c0,o0] at t0
  rw [c1,o1] at t1
  obtain ⟨x0,e0,_⟩:=DataW.trod_bool h0 t0
  obtain ⟨x1,bs,s,hcs,hs,hx⟩:=h1 H enc w spare held n _ _ t1
  simp at e0 hcs
  obtain ⟨rfl,rfl⟩:=hcs
  subst e0
  exact ⟨⟨x0,x1⟩,bs,c,rfl,hs,hx⟩
theorem opens_rule {t:TypeId} {f0 f1:Field} (ht:P.underlying t=some (.struct #[f0,f1])) (hC:P.cellsOf t=3) (h0:Opens P f0.type atomK) (h1:Opens P f1.type partsK)
  (c0:P.cellsOf f0.type=2) (c1:P.cellsOf f1.type=1) (o0:f0.offset=0) (o1:f1.offset=2):Opens P t ruleK:=by
 intro H enc w spare held fuel cs y h
 obtain ⟨y0,y1,n,rfl,hl,t0,t1⟩:=trod_struct2 ht h
 rw [hC] at hl
 match cs,hl with
 | [a,b,c],_=>
  rw [c0,o0] at t0
  rw [c1,o1] at t1
  obtain ⟨x0,bs1,s,hcs,hs,hx0⟩:=h0 H enc w spare held n _ _ t0
  obtain ⟨x1,bs2,hx1⟩:=h1 H enc w spare held n _ _ t1
  simp at hcs
  obtain ⟨rfl,rfl⟩:=hcs
  exact ⟨⟨x0,x1⟩,bs1 ++ bs2,b,c,bs1,bs2,rfl,hs,rfl,hx0,by simpa using hx1⟩
theorem opens_change {t:TypeId} {f0 f1:Field} (ht:P.underlying t=some (.struct #[f0,f1])) (hC:P.cellsOf t=2) (h0:Opens P f0.type atomsK) (h1:Opens P f1.type atomsK)
  (c0:P.cellsOf f0.type=1) (c1:P.cellsOf f1.type=1) (o0:f0.offset=0) (o1:f1.offset=1):Opens P t changeK:=by
 intro H enc w spare held fuel cs y h
 obtain ⟨y0,y1,n,rfl,hl,t0,t1⟩:=trod_struct2 ht h
 rw [hC] at hl
 match cs,hl with
 | [a,b],_=>
  rw [c0,o0] at t0
  rw [c1,o1] at t1
  obtain ⟨x0,bs1,hx0⟩:=h0 H enc w spare held n _ _ t0
  obtain ⟨x1,bs2,hx1⟩:=h1 H enc w spare held n _ _ t1
  exact ⟨⟨x0,x1⟩,bs1 ++ bs2,a,b,bs1,bs2,rfl,rfl,by simpa using hx0,by simpa using hx1⟩
end
end Go.Proofs.YtiidmgchadagbaaGreatDoor.D
namespace Go.Proofs.YtiidmgchadagbaaGreatDoor.D
open Go.RowKit Go.Lib
def splitL (c:UInt8):List UInt8→List (List UInt8)
 | []=>[[]]
 | x :: xs=>if x=c then [] :: splitL c xs else match splitL c xs with
  | []=>[[x]]
  | p :: ps=>(x :: p) :: ps
def toB (l:List UInt8):ByteArray:=⟨l.toArray⟩
theorem toB_of (s:ByteArray):toB s.data.toList=s:=by obtain ⟨⟨l⟩⟩:=s; rfl
theorem splitL_miss {c:UInt8}:∀ {l:List UInt8},c ∉ l→splitL c l = [l]
 | [],_=>rfl
 | x :: xs,h=>by
  have hx:x ≠ c:=fun e=>h (e ▸ List.mem_cons_self ..)
  have ih:=splitL_miss (l:=xs) (fun hm=>h (List.mem_cons_of_mem _ hm))
  unfold splitL
  rw [if_neg hx,ih]
theorem splitL_hit {c:UInt8}:∀ {a:List UInt8} (b:List UInt8),c ∉ a→splitL c (a ++ c :: b)=a :: splitL c b
 | [],b,_=>by rw [List.nil_append]; conv=>lhs; unfold splitL; rw [if_pos rfl]
 | x :: xs,b,h=>by
  have hx:x ≠ c:=fun e=>h (e ▸ List.mem_cons_self ..)
  have ih:=splitL_hit (a:=xs) b (fun hm=>h (List.mem_cons_of_mem _ hm))
  rw [List.cons_append]
  conv=>lhs; unfold splitL
  rw [if_neg hx,ih]
def joinL (c:UInt8):List (List UInt8)→List UInt8
 | []=>[]
 | [p]=>p
 | p :: q :: r=>p ++ c :: joinL c (q :: r)
theorem splitL_join (c:UInt8):∀ (ps:List (List UInt8)),ps ≠ []→(∀ p ∈ ps,c ∉ p)→splitL c (joinL c ps)=ps
 | [],h,_=>absurd rfl h
 | [p],_,hn=>splitL_miss (hn p (List.mem_cons_self ..))
 | p :: q :: r,_,hn=>by
  show splitL c (p ++ c :: joinL c (q :: r))=_
  rw [splitL_hit _ (hn p (List.mem_cons_self ..)),splitL_join c (q :: r) (by simp) (fun x hx=>hn x (List.mem_cons_of_mem _ hx))]
theorem index_one:∀ (l:List UInt8) (c:UInt8),(index l [c] = -1∧c ∉ l)∨∃ a b,l=a ++ c :: b∧c ∉ a∧index l [c]=(a.length:Int)
 | [],c=>by left; simp [index]
 | x :: xs,c=>by
  by_cases hx:x=c
  ·right
   subst hx
   exact ⟨[],xs,rfl,by simp,by simp [index,List.isPrefixOf]⟩
  ·have hp:List.isPrefixOf [c] (x :: xs)=false:=by simp [List.isPrefixOf]; exact fun e=>hx e.symm
   rcases index_one xs c with ⟨h1,h2⟩ | ⟨a,b,h1,h2,h3⟩
   ·left
    refine ⟨?_,fun hm=>?_⟩
    ·unfold index; rw [hp,h1]; rfl
    ·rcases List.mem_cons.1 hm with e | hm
     ·exact hx e.symm
     ·exact h2 hm
   ·right
    refine ⟨x :: a,b,by rw [h1]; rfl,fun hm=>?_,?_⟩
    ·rcases List.mem_cons.1 hm with e | hm
     ·exact hx e.symm
     ·exact h2 hm
    ·unfold index
     rw [hp,h3]
     have:((a.length:Int) == -1)=false:=by
      rw [beq_eq_false_iff_ne]; omega
     rw [this]
     simp
theorem cut_is (l:List UInt8) (c:UInt8):(c ∉ l∧cut l [c]=(l,[],false))∨∃ a b,l=a ++ c :: b∧c ∉ a∧cut l [c]=(a,b,true):=by
 rcases index_one l c with ⟨h1,h2⟩ | ⟨a,b,h1,h2,h3⟩
 ·left
  exact ⟨h2,by unfold cut; rw [h1]; rfl⟩
 ·right
  refine ⟨a,b,h1,h2,?_⟩
  unfold cut
  rw [h3,if_pos (by omega)]
  have e:((a.length:Int)).toNat=a.length:=by omega
  rw [e,h1]
  simp
end Go.Proofs.YtiidmgchadagbaaGreatDoor.D
