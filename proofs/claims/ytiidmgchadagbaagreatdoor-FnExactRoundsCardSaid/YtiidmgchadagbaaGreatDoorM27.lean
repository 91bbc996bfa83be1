/- Of the proof of FnExactRounds: Facts, StoP. -/
import Derived.Test.YtiidmgchadagbaaGreatDoorM19
import Derived.Test.YtiidmgchadagbaaGreatDoorM21
set_option linter.unusedVariables false
set_option maxHeartbeats 2000000
namespace Go.Proofs.YtiidmgchadagbaaGreatDoor
open Go.RowKit D
set_option linter.unusedSimpArgs false
attribute [local go_sem ↓] Go.wp_at_zero Go.wp_at_succ
theorem l3Ok_any (xs:List A) (v:Value) (bs:List Nat) (m:Nat) (w:World) (h:atomsK w [v] xs bs) (hmost:m≤1000):
  Calls Tryz.prog 56 #[v,.int .i64 m] w fun e w'=>e=.returned (.bool (okB xs && decide (xs.length≤m)))∧Below w.heap.size w w':=by
 obtain ⟨Ad,cap,rfl,hl,hm⟩:=sliceK_form h
 have hlm:=nat_ge_max (Nat.le_trans hl hm)
 clear hm
 go_enter Tryz.func56,Tryz.ntmps56
 go_wp2
 go_loopw [5] (fun i wr=>∃ k:Nat,k≤xs.length∧i=.int .i64 k∧okTo xs k∧Below w.heap.size w wr) (fun i _=>xs.length - (intOf i).toNat)
 case atStart=>exact ⟨0,Nat.zero_le _,rfl,okTo_zero _,Below.refl _ _⟩
 case round=>
  obtain ⟨k,hk,rfl,hall,hb⟩:=hrel
  have HA:=η hall
  clear hall
  by_cases hlt:k < xs.length
  ·have hk0:(0:Int)≤(k:Int):=by omega
   have hk1:(k:Int) < (xs.length:Int):=by omega
   cases hf:isFactB xs[k]
   ·have HF:=η (okB_bad hlt hf)
    obtain ⟨b,o,Ae,ce,bk,rfl,_,c0,c1,hel,_⟩:=atoms_el (atomsK_good.below h hb) hlt
    have hg:=l3Ground_any xs[k] _ _ bk _ (atomK_good.below hel (Below.drew (Below.refl _ _)))
    rw [hf] at hg
    clear h hf hel
    go_wp2
    refine wp_region_held_drew (S:=(fun w'=>w'.cell? ⟨b,o+k * 2,none⟩=some (.string xs[k].name)∧w'.cell? ⟨b,o+k * 2+1,none⟩=some (.slice Ae xs[k].args.length ce))) (by kernel_rfl) ?_ (fun hHeld=>?_)
    ·go_keep
    refine wpAnyH_take (i:=0) (oi:=⟨_,_,_,_,_,_⟩) (v:=?_) rfl (by kernel_rfl) (by kernel_rfl) (by kernel_rfl) (fun _ _ _ h=>h) (Or.inl ⟨by rfl,?_⟩) (by assumption) ?_
    rotate_left
    ·(intro w hSw; (try dsimp only at hSw); go_simp); (first | done | with_reducible rfl)
    try simp only [Act.put,List.setIfInBounds_toArray,List.set_cons_zero,List.set_cons_succ]
    refine wpAnyH_take (i:=1) (oi:=⟨_,_,_,_,_,_⟩) (v:=?_) rfl (by kernel_rfl) (by kernel_rfl) (by kernel_rfl) (fun _ _ _ h=>h) (Or.inl ⟨by rfl,?_⟩) (by assumption) ?_
    rotate_left
    ·(intro w hSw; (try dsimp only at hSw); go_simp); (first | done | with_reducible rfl)
    try simp only [Act.put,List.setIfInBounds_toArray,List.set_cons_zero,List.set_cons_succ]
    refine wpAnyH_take (i:=2) (oi:=⟨_,_,_,_,_,_⟩) (v:=?_) rfl (by kernel_rfl) (by kernel_rfl) (by kernel_rfl) (fun _ _ _ h=>h) (Or.inl ⟨by rfl,?_⟩) (by assumption) ?_
    rotate_left
    ·(intro w hSw; (try dsimp only at hSw); go_simp); (first | done | with_reducible rfl)
    try simp only [Act.put,List.setIfInBounds_toArray,List.set_cons_zero,List.set_cons_succ]
    refine wpAnyH_take (i:=3) (oi:=⟨_,_,_,_,_,_⟩) (v:=?_) rfl (by kernel_rfl) (by kernel_rfl) (by kernel_rfl) (fun _ _ _ h=>h) (Or.inl ⟨by rfl,?_⟩) (by assumption) ?_
    rotate_left
    ·(intro w hSw; (try dsimp only at hSw); go_simp); (first | done | with_reducible rfl)
    try simp only [Act.put,List.setIfInBounds_toArray,List.set_cons_zero,List.set_cons_succ]
    refine wpAnyH_ready (rs:=[4]) (by kernel_rfl) (by simp) ?_
    refine AllReadyH.cons (o:=⟨_,_,_,_,_,_⟩) rfl (fun K hK=>?_) AllReadyH.nil
    rw [if_pos (by rfl)]
    go_simp
    go_at_call 91
    refine hg.mono ?_
    rintro e w' ⟨rfl,hb'⟩
    clear hHeld
    refine hK.out _ _ ?_ (fun hHeld=>?_)
    ·exact ⟨cell_later hb' c0,cell_later hb' c1⟩
    clear hK
    clear K
    try simp only [Act.put,List.setIfInBounds_toArray,List.set_cons_zero,List.set_cons_succ]
    refine wpAnyH_take (i:=5) (oi:=⟨_,_,_,_,_,_⟩) (v:=?_) rfl (by kernel_rfl) (by kernel_rfl) (by kernel_rfl) (fun _ _ _ h=>h) (Or.inl ⟨by rfl,?_⟩) (by assumption) ?_
    rotate_left
    ·(intro w hSw; (try dsimp only at hSw); go_simp); (first | done | with_reducible rfl)
    try simp only [Act.put,List.setIfInBounds_toArray,List.set_cons_zero,List.set_cons_succ]
    refine wpAnyH_take (i:=6) (oi:=⟨_,_,_,_,_,_⟩) (v:=?_) rfl (by kernel_rfl) (by kernel_rfl) (by kernel_rfl) (fun _ _ _ h=>h) (Or.inl ⟨by rfl,?_⟩) (by assumption) ?_
    rotate_left
    ·(intro w hSw; (try dsimp only at hSw); go_simp); (first | done | with_reducible rfl)
    try simp only [Act.put,List.setIfInBounds_toArray,List.set_cons_zero,List.set_cons_succ]
    refine wpAnyH_take (i:=7) (oi:=⟨_,_,_,_,_,_⟩) (v:=undef) rfl (by kernel_rfl) (by kernel_rfl) (by kernel_rfl) (fun _ _ _ h=>h) (Or.inr ⟨by kernel_rfl,rfl⟩) (by assumption) ?_
    try simp only [Act.put,List.setIfInBounds_toArray,List.set_cons_zero,List.set_cons_succ]
    refine wpAnyH_take (i:=8) (oi:=⟨_,_,_,_,_,_⟩) (v:=undef) rfl (by kernel_rfl) (by kernel_rfl) (by kernel_rfl) (fun _ _ _ h=>h) (Or.inr ⟨by kernel_rfl,rfl⟩) (by assumption) ?_
    try simp only [Act.put,List.setIfInBounds_toArray,List.set_cons_zero,List.set_cons_succ]
    refine wpAnyH_take (i:=9) (oi:=⟨_,_,_,_,_,_⟩) (v:=undef) rfl (by kernel_rfl) (by kernel_rfl) (by kernel_rfl) (fun _ _ _ h=>h) (Or.inr ⟨by kernel_rfl,rfl⟩) (by assumption) ?_
    try simp only [Act.put,List.setIfInBounds_toArray,List.set_cons_zero,List.set_cons_succ]
    refine wpAnyH_take (i:=10) (oi:=⟨_,_,_,_,_,_⟩) (v:=undef) rfl (by kernel_rfl) (by kernel_rfl) (by kernel_rfl) (fun _ _ _ h=>h) (Or.inr ⟨by kernel_rfl,rfl⟩) (by assumption) ?_
    try simp only [Act.put,List.setIfInBounds_toArray,List.set_cons_zero,List.set_cons_succ]
    refine wpAnyH_take (i:=11) (oi:=⟨_,_,_,_,_,_⟩) (v:=undef) rfl (by kernel_rfl) (by kernel_rfl) (by kernel_rfl) (fun _ _ _ h=>h) (Or.inr ⟨by kernel_rfl,rfl⟩) (by assumption) ?_
    try simp only [Act.put,List.setIfInBounds_toArray,List.set_cons_zero,List.set_cons_succ]
    refine wpAnyH_take (i:=12) (oi:=⟨_,_,_,_,_,_⟩) (v:=undef) rfl (by kernel_rfl) (by kernel_rfl) (by kernel_rfl) (fun _ _ _ h=>h) (Or.inr ⟨by kernel_rfl,rfl⟩) (by assumption) ?_
    try simp only [Act.put,List.setIfInBounds_toArray,List.set_cons_zero,List.set_cons_succ]
    refine wpAnyH_take (i:=13) (oi:=⟨_,_,_,_,_,_⟩) (v:=undef) rfl (by kernel_rfl) (by kernel_rfl) (by kernel_rfl) (fun _ _ _ h=>h) (Or.inr ⟨by kernel_rfl,rfl⟩) (by assumption) ?_
    try simp only [Act.put,List.setIfInBounds_toArray,List.set_cons_zero,List.set_cons_succ]
    refine wpAnyH_take (i:=14) (oi:=⟨_,_,_,_,_,_⟩) (v:=undef) rfl (by kernel_rfl) (by kernel_rfl) (by kernel_rfl) (fun _ _ _ h=>h) (Or.inr ⟨by kernel_rfl,rfl⟩) (by assumption) ?_
    try simp only [Act.put,List.setIfInBounds_toArray,List.set_cons_zero,List.set_cons_succ]
    refine wpAnyH_take (i:=15) (oi:=⟨_,_,_,_,_,_⟩) (v:=undef) rfl (by kernel_rfl) (by kernel_rfl) (by kernel_rfl) (fun _ _ _ h=>h) (Or.inr ⟨by kernel_rfl,rfl⟩) (by assumption) ?_
    try simp only [Act.put,List.setIfInBounds_toArray,List.set_cons_zero,List.set_cons_succ]
    refine wpAnyH_take (i:=16) (oi:=⟨_,_,_,_,_,_⟩) (v:=undef) rfl (by kernel_rfl) (by kernel_rfl) (by kernel_rfl) (fun _ _ _ h=>h) (Or.inr ⟨by kernel_rfl,rfl⟩) (by assumption) ?_
    try simp only [Act.put,List.setIfInBounds_toArray,List.set_cons_zero,List.set_cons_succ]
    refine wpAnyH_take (i:=17) (oi:=⟨_,_,_,_,_,_⟩) (v:=undef) rfl (by kernel_rfl) (by kernel_rfl) (by kernel_rfl) (fun _ _ _ h=>h) (Or.inr ⟨by kernel_rfl,rfl⟩) (by assumption) ?_
    try simp only [Act.put,List.setIfInBounds_toArray,List.set_cons_zero,List.set_cons_succ]
    refine wpAnyH_take (i:=18) (oi:=⟨_,_,_,_,_,_⟩) (v:=undef) rfl (by kernel_rfl) (by kernel_rfl) (by kernel_rfl) (fun _ _ _ h=>h) (Or.inr ⟨by kernel_rfl,rfl⟩) (by assumption) ?_
    try simp only [Act.put,List.setIfInBounds_toArray,List.set_cons_zero,List.set_cons_succ]
    refine wpAnyH_take (i:=19) (oi:=⟨_,_,_,_,_,_⟩) (v:=undef) rfl (by kernel_rfl) (by kernel_rfl) (by kernel_rfl) (fun _ _ _ h=>h) (Or.inr ⟨by kernel_rfl,rfl⟩) (by assumption) ?_
    try simp only [Act.put,List.setIfInBounds_toArray,List.set_cons_zero,List.set_cons_succ]
    refine wpAnyH_take (i:=20) (oi:=⟨_,_,_,_,_,_⟩) (v:=undef) rfl (by kernel_rfl) (by kernel_rfl) (by kernel_rfl) (fun _ _ _ h=>h) (Or.inr ⟨by kernel_rfl,rfl⟩) (by assumption) ?_
    try simp only [Act.put,List.setIfInBounds_toArray,List.set_cons_zero,List.set_cons_succ]
    refine wpAnyH_take (i:=21) (oi:=⟨_,_,_,_,_,_⟩) (v:=undef) rfl (by kernel_rfl) (by kernel_rfl) (by kernel_rfl) (fun _ _ _ h=>h) (Or.inr ⟨by kernel_rfl,rfl⟩) (by assumption) ?_
    try simp only [Act.put,List.setIfInBounds_toArray,List.set_cons_zero,List.set_cons_succ]
    refine wpAnyH_take (i:=22) (oi:=⟨_,_,_,_,_,_⟩) (v:=?_) rfl (by kernel_rfl) (by kernel_rfl) (by kernel_rfl) (fun _ _ _ h=>h) (Or.inl ⟨by rfl,?_⟩) (by assumption) ?_
    rotate_left
    ·(intro w hSw; (try dsimp only at hSw); go_simp); (first | done | with_reducible rfl)
    try simp only [Act.put,List.setIfInBounds_toArray,List.set_cons_zero,List.set_cons_succ]
    clear hHeld
    refine wpAnyH_done (by kernel_rfl) ?_ _
    go_wp2
    go_ret
    exact ⟨ret_bool (by rw [HF.out]; rfl),hb.trans ((Below.drew (Below.refl _ _)).trans (hb'.mono hb.size))⟩
   ·cases k with
    | zero=>
     obtain ⟨b,o,Ae,ce,bk,rfl,_,c0,c1,hel,_⟩:=atoms_el (atomsK_good.below h hb) hlt
     have hg:=l3Ground_any xs[0] _ _ bk _ (atomK_good.below hel (Below.drew (Below.refl _ _)))
     rw [hf] at hg
     have HN:=η (okTo_one hlt hf)
     simp only [Nat.zero_mul,Nat.add_zero] at c0 c1
     clear h hf hel
     go_wp2
     refine wp_region_held_drew (S:=(fun w'=>w'.cell? ⟨b,o,none⟩=some (.string xs[0].name)∧w'.cell? ⟨b,o+1,none⟩=some (.slice Ae xs[0].args.length ce))) (by kernel_rfl) ?_ (fun hHeld=>?_)
     ·go_keep
     refine wpAnyH_take (i:=0) (oi:=⟨_,_,_,_,_,_⟩) (v:=?_) rfl (by kernel_rfl) (by kernel_rfl) (by kernel_rfl) (fun _ _ _ h=>h) (Or.inl ⟨by rfl,?_⟩) (by assumption) ?_
     rotate_left
     ·(intro w hSw; (try dsimp only at hSw); go_simp); (first | done | with_reducible rfl)
     try simp only [Act.put,List.setIfInBounds_toArray,List.set_cons_zero,List.set_cons_succ]
     refine wpAnyH_take (i:=1) (oi:=⟨_,_,_,_,_,_⟩) (v:=?_) rfl (by kernel_rfl) (by kernel_rfl) (by kernel_rfl) (fun _ _ _ h=>h) (Or.inl ⟨by rfl,?_⟩) (by assumption) ?_
     rotate_left
     ·(intro w hSw; (try dsimp only at hSw); go_simp); (first | done | with_reducible rfl)
     try simp only [Act.put,List.setIfInBounds_toArray,List.set_cons_zero,List.set_cons_succ]
     refine wpAnyH_take (i:=2) (oi:=⟨_,_,_,_,_,_⟩) (v:=?_) rfl (by kernel_rfl) (by kernel_rfl) (by kernel_rfl) (fun _ _ _ h=>h) (Or.inl ⟨by rfl,?_⟩) (by assumption) ?_
     rotate_left
     ·(intro w hSw; (try dsimp only at hSw); go_simp); (first | done | with_reducible rfl)
     try simp only [Act.put,List.setIfInBounds_toArray,List.set_cons_zero,List.set_cons_succ]
     refine wpAnyH_take (i:=3) (oi:=⟨_,_,_,_,_,_⟩) (v:=?_) rfl (by kernel_rfl) (by kernel_rfl) (by kernel_rfl) (fun _ _ _ h=>h) (Or.inl ⟨by rfl,?_⟩) (by assumption) ?_
     rotate_left
     ·(intro w hSw; (try dsimp only at hSw); go_simp); (first | done | with_reducible rfl)
     try simp only [Act.put,List.setIfInBounds_toArray,List.set_cons_zero,List.set_cons_succ]
     refine wpAnyH_ready (rs:=[4]) (by kernel_rfl) (by simp) ?_
     refine AllReadyH.cons (o:=⟨_,_,_,_,_,_⟩) rfl (fun K hK=>?_) AllReadyH.nil
     rw [if_pos (by rfl)]
     go_simp
     go_at_call 91
     refine hg.mono ?_
     rintro e w' ⟨rfl,hb'⟩
     clear hHeld
     refine hK.out _ _ ?_ (fun hHeld=>?_)
     ·exact ⟨cell_later hb' c0,cell_later hb' c1⟩
     clear hK
     clear K
     try simp only [Act.put,List.setIfInBounds_toArray,List.set_cons_zero,List.set_cons_succ]
     refine wpAnyH_take (i:=5) (oi:=⟨_,_,_,_,_,_⟩) (v:=?_) rfl (by kernel_rfl) (by kernel_rfl) (by kernel_rfl) (fun _ _ _ h=>h) (Or.inl ⟨by rfl,?_⟩) (by assumption) ?_
     rotate_left
     ·(intro w hSw; (try dsimp only at hSw); go_simp); (first | done | with_reducible rfl)
     try simp only [Act.put,List.setIfInBounds_toArray,List.set_cons_zero,List.set_cons_succ]
     refine wpAnyH_take (i:=6) (oi:=⟨_,_,_,_,_,_⟩) (v:=?_) rfl (by kernel_rfl) (by kernel_rfl) (by kernel_rfl) (fun _ _ _ h=>h) (Or.inl ⟨by rfl,?_⟩) (by assumption) ?_
     rotate_left
     ·(intro w hSw; (try dsimp only at hSw); go_simp); (first | done | with_reducible rfl)
     try simp only [Act.put,List.setIfInBounds_toArray,List.set_cons_zero,List.set_cons_succ]
     refine wpAnyH_take (i:=7) (oi:=⟨_,_,_,_,_,_⟩) (v:=?_) rfl (by kernel_rfl) (by kernel_rfl) (by kernel_rfl) (fun _ _ _ h=>h) (Or.inl ⟨by rfl,?_⟩) (by assumption) ?_
     rotate_left
     ·(intro w hSw; (try dsimp only at hSw); go_simp); (first | done | with_reducible rfl)
     try simp only [Act.put,List.setIfInBounds_toArray,List.set_cons_zero,List.set_cons_succ]
     refine wpAnyH_take (i:=8) (oi:=⟨_,_,_,_,_,_⟩) (v:=?_) rfl (by kernel_rfl) (by kernel_rfl) (by kernel_rfl) (fun _ _ _ h=>h) (Or.inl ⟨by rfl,?_⟩) (by assumption) ?_
     rotate_left
     ·(intro w hSw; (try dsimp only at hSw); go_simp); (first | done | with_reducible rfl)
     try simp only [Act.put,List.setIfInBounds_toArray,List.set_cons_zero,List.set_cons_succ]
     refine wpAnyH_take (i:=9) (oi:=⟨_,_,_,_,_,_⟩) (v:=?_) rfl (by kernel_rfl) (by kernel_rfl) (by kernel_rfl) (fun _ _ _ h=>h) (Or.inl ⟨by rfl,?_⟩) (by assumption) ?_
     rotate_left
     ·(intro w hSw; (try dsimp only at hSw); go_simp); (first | done | with_reducible rfl)
     try simp only [Act.put,List.setIfInBounds_toArray,List.set_cons_zero,List.set_cons_succ]
     refine wpAnyH_take (i:=10) (oi:=⟨_,_,_,_,_,_⟩) (v:=undef) rfl (by kernel_rfl) (by kernel_rfl) (by kernel_rfl) (fun _ _ _ h=>h) (Or.inr ⟨by kernel_rfl,rfl⟩) (by assumption) ?_
     try simp only [Act.put,List.setIfInBounds_toArray,List.set_cons_zero,List.set_cons_succ]
     refine wpAnyH_take (i:=11) (oi:=⟨_,_,_,_,_,_⟩) (v:=undef) rfl (by kernel_rfl) (by kernel_rfl) (by kernel_rfl) (fun _ _ _ h=>h) (Or.inr ⟨by kernel_rfl,rfl⟩) (by assumption) ?_
     try simp only [Act.put,List.setIfInBounds_toArray,List.set_cons_zero,List.set_cons_succ]
     refine wpAnyH_take (i:=12) (oi:=⟨_,_,_,_,_,_⟩) (v:=undef) rfl (by kernel_rfl) (by kernel_rfl) (by kernel_rfl) (fun _ _ _ h=>h) (Or.inr ⟨by kernel_rfl,rfl⟩) (by assumption) ?_
     try simp only [Act.put,List.setIfInBounds_toArray,List.set_cons_zero,List.set_cons_succ]
     refine wpAnyH_take (i:=13) (oi:=⟨_,_,_,_,_,_⟩) (v:=undef) rfl (by kernel_rfl) (by kernel_rfl) (by kernel_rfl) (fun _ _ _ h=>h) (Or.inr ⟨by kernel_rfl,rfl⟩) (by assumption) ?_
     try simp only [Act.put,List.setIfInBounds_toArray,List.set_cons_zero,List.set_cons_succ]
     refine wpAnyH_take (i:=14) (oi:=⟨_,_,_,_,_,_⟩) (v:=undef) rfl (by kernel_rfl) (by kernel_rfl) (by kernel_rfl) (fun _ _ _ h=>h) (Or.inr ⟨by kernel_rfl,rfl⟩) (by assumption) ?_
     try simp only [Act.put,List.setIfInBounds_toArray,List.set_cons_zero,List.set_cons_succ]
     refine wpAnyH_take (i:=15) (oi:=⟨_,_,_,_,_,_⟩) (v:=undef) rfl (by kernel_rfl) (by kernel_rfl) (by kernel_rfl) (fun _ _ _ h=>h) (Or.inr ⟨by kernel_rfl,rfl⟩) (by assumption) ?_
     try simp only [Act.put,List.setIfInBounds_toArray,List.set_cons_zero,List.set_cons_succ]
     refine wpAnyH_take (i:=16) (oi:=⟨_,_,_,_,_,_⟩) (v:=undef) rfl (by kernel_rfl) (by kernel_rfl) (by kernel_rfl) (fun _ _ _ h=>h) (Or.inr ⟨by kernel_rfl,rfl⟩) (by assumption) ?_
     try simp only [Act.put,List.setIfInBounds_toArray,List.set_cons_zero,List.set_cons_succ]
     refine wpAnyH_take (i:=17) (oi:=⟨_,_,_,_,_,_⟩) (v:=undef) rfl (by kernel_rfl) (by kernel_rfl) (by kernel_rfl) (fun _ _ _ h=>h) (Or.inr ⟨by kernel_rfl,rfl⟩) (by assumption) ?_
     try simp only [Act.put,List.setIfInBounds_toArray,List.set_cons_zero,List.set_cons_succ]
     refine wpAnyH_take (i:=18) (oi:=⟨_,_,_,_,_,_⟩) (v:=undef) rfl (by kernel_rfl) (by kernel_rfl) (by kernel_rfl) (fun _ _ _ h=>h) (Or.inr ⟨by kernel_rfl,rfl⟩) (by assumption) ?_
     try simp only [Act.put,List.setIfInBounds_toArray,List.set_cons_zero,List.set_cons_succ]
     refine wpAnyH_take (i:=19) (oi:=⟨_,_,_,_,_,_⟩) (v:=undef) rfl (by kernel_rfl) (by kernel_rfl) (by kernel_rfl) (fun _ _ _ h=>h) (Or.inr ⟨by kernel_rfl,rfl⟩) (by assumption) ?_
     try simp only [Act.put,List.setIfInBounds_toArray,List.set_cons_zero,List.set_cons_succ]
     refine wpAnyH_take (i:=20) (oi:=⟨_,_,_,_,_,_⟩) (v:=undef) rfl (by kernel_rfl) (by kernel_rfl) (by kernel_rfl) (fun _ _ _ h=>h) (Or.inr ⟨by kernel_rfl,rfl⟩) (by assumption) ?_
     try simp only [Act.put,List.setIfInBounds_toArray,List.set_cons_zero,List.set_cons_succ]
     refine wpAnyH_take (i:=21) (oi:=⟨_,_,_,_,_,_⟩) (v:=?_) rfl (by kernel_rfl) (by kernel_rfl) (by kernel_rfl) (fun _ _ _ h=>h) (Or.inl ⟨by rfl,?_⟩) (by assumption) ?_
     rotate_left
     ·(intro w hSw; (try dsimp only at hSw); go_simp); (first | done | with_reducible rfl)
     try simp only [Act.put,List.setIfInBounds_toArray,List.set_cons_zero,List.set_cons_succ]
     refine wpAnyH_take (i:=22) (oi:=⟨_,_,_,_,_,_⟩) (v:=?_) rfl (by kernel_rfl) (by kernel_rfl) (by kernel_rfl) (fun _ _ _ h=>h) (Or.inl ⟨by rfl,?_⟩) (by assumption) ?_
     rotate_left
     ·(intro w hSw; (try dsimp only at hSw); go_simp); (first | done | with_reducible rfl)
     try simp only [Act.put,List.setIfInBounds_toArray,List.set_cons_zero,List.set_cons_succ]
     clear hHeld
     refine wpAnyH_done (by kernel_rfl) ?_ _
     go_wp2
     go_roundw
     case rel=>exact ⟨1,by omega,by go_num,HN.out,hb.trans ((Below.drew (Below.refl _ _)).trans (hb'.mono hb.size))⟩
     case measure=>simp [intOf]; omega
    | succ j=>
     have hlj:j < xs.length:=by omega
     have HS:=η (fun hc=>okTo_step (xs:=xs) (k:=j) HA.out hlt hf hc)
     have HB:=η (fun hc=>okB_bad2 (xs:=xs) (k:=j) hlt hc)
     obtain ⟨k,hkj⟩:∃ k,k=j+1:=⟨_,rfl⟩
     have hw1:IntKind.i64.wrap ((k:Int) - 1)=(j:Int):=(IntWalk.i64_in _ ⟨by omega,by omega⟩).trans (by omega)
     have hK:=η hkj
     rw [show ((j+1:Nat):Int)=(k:Int) by rw [hkj]] at hk0 hk1 ⊢
     have hlt':k < xs.length:=by omega
     have hxk:xs[j+1]=xs[k]'hlt':=by simp only [hkj]
     rw [hxk] at hf HS HB
     clear HA hxk
     have hx1:(0:Int)≤(j:Int):=by omega
     have hx2:(j:Int) < (xs.length:Int):=by omega
     have hp0:0 < k:=by omega
     have hp1:(0:Int) < (k:Int):=by omega
     clear hkj
     obtain ⟨b,o,Ae,ce,bk,Af,cf,bm,rfl,c0,c1,hel,d0,d1,hem⟩:=atoms_two (atomsK_good.below h hb) hlj hlt'
     have hD:Below wr.heap.size wr wr.drew:=Below.drew (Below.refl _ _)
     have hg:=l3Ground_any xs[k] _ _ bm _ (atomK_good.below hem hD)
     have hcm:=fun w' (hb':Below wr.heap.size wr w')=>l1Cmp_any xs[j] xs[k] _ _ _ _ bk bm w' (atomK_good.below hel hb') (atomK_good.below hem hb')
     rw [hf] at hg
     clear h hf hel hem
     by_cases hc:cmpA xs[j] xs[k] < 0
     ·have hc':¬ 0≤cmpA xs[j] xs[k]:=by omega
      have HC:=η (HS.out hc)
      clear hc
      go_wp2
      go_region_held3 (fun w'=>w'.cell? ⟨b,o+j * 2,none⟩=some (.string xs[j].name)∧w'.cell? ⟨b,o+j * 2+1,none⟩=some (.slice Ae xs[j].args.length ce)∧w'.cell? ⟨b,o+k * 2,none⟩=some (.string xs[k].name)∧w'.cell? ⟨b,o+k * 2+1,none⟩=some (.slice Af xs[k].args.length cf))
       (first | go_keep | exact ⟨x0,x1,x2,x3⟩ | exact ⟨y0,y1,y2,y3⟩)
       (first
        | (go_at_call 91; refine hg.mono ?_; rintro e w1 ⟨rfl,hb1⟩; have x0:=cell_later hb1 c0; have x1:=cell_later hb1 c1; have x2:=cell_later hb1 d0; have x3:=cell_later hb1 d1; have B1:=hD.trans hb1)
        | (go_at_call 92; refine (hcm _ B1).mono ?_; rintro e w2 ⟨rfl,hb2⟩; have y0:=cell_later hb2 x0; have y1:=cell_later hb2 x1; have y2:=cell_later hb2 x2; have y3:=cell_later hb2 x3; have B2:=B1.trans (hb2.mono B1.size)))
      go_wp2
      go_roundw
      case rel=>exact ⟨k+1,by omega,by go_num,by rw [hK.out]; exact HC.out,hb.trans (B2.mono hb.size)⟩
      case measure=>have:=hK.out; simp [intOf]; omega
     ·have hc':0≤cmpA xs[j] xs[k]:=by omega
      have HC:=η (HB.out hc)
      clear hc
      go_wp2
      go_region_held3 (fun w'=>w'.cell? ⟨b,o+j * 2,none⟩=some (.string xs[j].name)∧w'.cell? ⟨b,o+j * 2+1,none⟩=some (.slice Ae xs[j].args.length ce)∧w'.cell? ⟨b,o+k * 2,none⟩=some (.string xs[k].name)∧w'.cell? ⟨b,o+k * 2+1,none⟩=some (.slice Af xs[k].args.length cf))
       (first | go_keep | exact ⟨x0,x1,x2,x3⟩ | exact ⟨y0,y1,y2,y3⟩)
       (first
        | (go_at_call 91; refine hg.mono ?_; rintro e w1 ⟨rfl,hb1⟩; have x0:=cell_later hb1 c0; have x1:=cell_later hb1 c1; have x2:=cell_later hb1 d0; have x3:=cell_later hb1 d1; have B1:=hD.trans hb1)
        | (go_at_call 92; refine (hcm _ B1).mono ?_; rintro e w2 ⟨rfl,hb2⟩; have y0:=cell_later hb2 x0; have y1:=cell_later hb2 x1; have y2:=cell_later hb2 x2; have y3:=cell_later hb2 x3; have B2:=B1.trans (hb2.mono B1.size)))
      go_wp2
      go_ret
      exact ⟨ret_bool (by rw [HC.out]; rfl),hb.trans (B2.mono hb.size)⟩
  ·have he:=η (show k=xs.length by omega)
   by_cases hle:xs.length≤m
   ·have hle':(xs.length:Int)≤(m:Int):=by omega
    go_wp2
    go_ret
    exact ⟨ret_bool (by have:=HA.out; rw [he.out] at this; rw [okB_end this,decide_eq_true hle]; rfl),hb⟩
   ·have hle':¬ (xs.length:Int)≤(m:Int):=by omega
    go_wp2
    go_ret
    exact ⟨ret_bool (by simp),hb⟩
end Go.Proofs.YtiidmgchadagbaaGreatDoor
namespace Go.Proofs.YtiidmgchadagbaaGreatDoor
open Go.RowKit D
def D.aText (a:A):ByteArray:=⟨(putL a).toArray⟩
theorem D.aText_inj {a b:A} (ha:atomOk a=true) (hb:atomOk b=true) (h:aText a=aText b):a=b:=by
 have e:putL a=putL b:=by have:=congrArg (fun x=>x.data.toList) h; simpa [aText] using this
 have h1:=getI_putL ha
 rw [e,getI_putL hb] at h1
 exact (Prod.mk.inj h1).1.symm
theorem D.aText_size {a:A} (ha:atomOk a=true):(aText a).size≤maxLen:=by
 have:=putL_le37 ha
 have e:(aText a).size=(putL a).length:=List.size_toArray
 unfold maxLen; omega
theorem D.bulk_terms:∀ (ts:List T),(∀ t ∈ ts,t.name.size≤8)→bulkTs ts≤8 * ts.length
 | [],_=>by simp [bulkTs]
 | t :: ts,h=>by
  have h1:=h t (List.mem_cons_self ..)
  have h2:=bulk_terms ts fun u hu=>h u (List.mem_cons_of_mem _ hu)
  unfold bulkTs at *
  simp only [List.map_cons,List.sum_cons,List.length_cons]
  omega
theorem D.bulk_ok {a:A} (h:atomOk a=true):bulkA a≤100:=by
 unfold atomOk at h
 simp only [Bool.and_eq_true,decide_eq_true_eq,List.all_eq_true] at h
 have h1:=name_len h.1.1
 have hz:a.name.data.toList.length=a.name.size:=Array.length_toList
 have h2:=bulk_terms a.args fun t ht=>by
  have:=(term_no44 (h.2 t ht)).2.2
  have hz:t.name.data.toList.length=t.name.size:=Array.length_toList
  omega
 unfold bulkA
 omega
def D.keysOf (a:A):List WK:=⟨a.name,a.args.length,-1,⟨#[]⟩⟩ :: a.args.mapIdx fun i t=>⟨a.name,a.args.length,i,t.name⟩
theorem D.keysOf_at {a:A} {i:Nat} (h:i < a.args.length):(⟨a.name,a.args.length,i,a.args[i].name⟩:WK) ∈ keysOf a:=by
 refine List.mem_cons_of_mem _ (List.mem_mapIdx.2 ⟨i,h,rfl⟩)
def D.idxs (fs:List A) (k:WK):List Nat:=(List.range fs.length).filter fun i=>match fs[i]? with | some a=>decide (k ∈ keysOf a) | none=>false
theorem D.idxs_mem {fs:List A} {k:WK} {i:Nat}:i ∈ idxs fs k ↔ ∃ h:i < fs.length,k ∈ keysOf fs[i]:=by
 unfold idxs
 rw [List.mem_filter,List.mem_range]
 constructor
 ·rintro ⟨h,h2⟩
  rw [List.getElem?_eq_getElem h] at h2
  exact ⟨h,by simpa using h2⟩
 ·rintro ⟨h,h2⟩
  exact ⟨h,by rw [List.getElem?_eq_getElem h]; simpa using h2⟩
theorem D.idxs_snoc (fs:List A) (a:A) (k:WK):idxs (fs ++ [a]) k=idxs fs k ++ (if k ∈ keysOf a then [fs.length] else []):=by
 unfold idxs
 rw [List.length_append,List.length_singleton,List.range_succ,List.filter_append]
 congr 1
 ·refine List.filter_congr fun i hi=>?_
  rw [List.getElem?_append_left (List.mem_range.1 hi)]
 ·by_cases h:k ∈ keysOf a <;> simp [h]
theorem D.idxs_len (fs:List A) (k:WK):(idxs fs k).length≤fs.length:=by
 unfold idxs
 refine Nat.le_trans (List.length_filter_le _ _) ?_
 simp
structure D.StoreV (sb:Nat) (fs:List A) (rn:List Nat) (bs:List Nat) (w:World):Prop where
 ex:∃ Af cf Ar cr mu mp bf br Lu Lp,w.heap[sb]? = some (.cells #[.slice Af fs.length cf,.slice Ar rn.length cr,.map (some mu),.map (some mp)] 87 (0,0))∧
  atomsK w [.slice Af fs.length cf] fs bf∧intsK w [.slice Ar rn.length cr] rn br∧MapV isWK mu Lu w∧MapV isStr mp Lp w∧
  (∀ k,(∃ v b,(wkV k,v) ∈ Lu∧intsK w [v] (idxs fs k) b∧∀ x ∈ b,x ∈ bs)∨((∀ p ∈ Lu,p.1 ≠ wkV k)∧idxs fs k = []))∧
  (∀ s:ByteArray,(∃ i:Nat,((.string s:Value),(.int .i64 i:Value)) ∈ Lp) ↔ s ∈ fs.map aText)∧(∀ p ∈ Lp,∃ i:Nat,p.2=.int .i64 i)∧
  mu ∈ bs∧mp ∈ bs∧(∀ b ∈ bf,b ∈ bs)∧∀ b ∈ br,b ∈ bs
 own:sb ∈ bs
 lt:∀ b ∈ bs,b < w.heap.size
theorem D.StoreV.keep {sb:Nat} {fs:List A} {rn:List Nat} {bs:List Nat} {w w':World} (h:StoreV sb fs rn bs w) (hk:∀ b ∈ bs,w'.heap[b]? = w.heap[b]?) (hs:w.heap.size≤w'.heap.size):StoreV sb fs rn bs w':=by
 obtain ⟨⟨Af,cf,Ar,cr,mu,mp,bf,br,Lu,Lp,h1,h2,h3,h4,h5,h6,h7,h8,h9,h10,h11,h12⟩,ho,hl⟩:=h
 refine ⟨⟨Af,cf,Ar,cr,mu,mp,bf,br,Lu,Lp,(hk _ ho).trans h1,atomsK_good.keep h2 fun b hb=>hk b (h11 b hb),intsK_good.keep h3 fun b hb=>hk b (h12 b hb),h4.same (hk _ h9),h5.same (hk _ h10),fun k=>?_,h7,h8,h9,h10,h11,h12⟩,ho,fun b hb=>Nat.lt_of_lt_of_le (hl b hb) hs⟩
 rcases h6 k with ⟨v,b,g1,g2,g3⟩ | g
 ·exact .inl ⟨v,b,g1,intsK_good.keep g2 fun x hx=>hk x (g3 x hx),g3⟩
 ·exact .inr g
theorem D.StoreV.below {sb:Nat} {fs:List A} {rn:List Nat} {bs:List Nat} {w w':World} (h:StoreV sb fs rn bs w) (hb:Below w.heap.size w w'):StoreV sb fs rn bs w':=h.keep (fun b hb'=>hb.block b (h.lt b hb')) hb.size
section
variable {P:Program} {ops:Array Oper} {rest:List Oper} {o:Oper} {a:Act} {Q:Exit→Act→World→Prop}
end
structure D.UndV (mu:Nat) (fs:List A) (bs:List Nat) (w:World):Prop where
 ex:∃ Lu,MapV isWK mu Lu w∧∀ k,(∃ v b,(wkV k,v) ∈ Lu∧intsK w [v] (idxs fs k) b∧∀ x ∈ b,x ∈ bs)∨((∀ p ∈ Lu,p.1 ≠ wkV k)∧idxs fs k = [])
 own:mu ∈ bs
 lt:∀ b ∈ bs,b < w.heap.size
theorem D.UndV.below {mu:Nat} {fs:List A} {bs:List Nat} {w w':World} (h:UndV mu fs bs w) {B:Nat} (hb:Below B w w') (hB:∀ b ∈ bs,b < B):UndV mu fs bs w':=by
 obtain ⟨⟨Lu,h1,h2⟩,h3,h4⟩:=h
 refine ⟨⟨Lu,h1.below hb (hB _ h3),fun k=>?_⟩,h3,fun b hb'=>Nat.lt_of_lt_of_le (h4 b hb') hb.size⟩
 rcases h2 k with ⟨v,b',g1,g2,g3⟩ | g
 ·exact .inl ⟨v,b',g1,intsK_good.belowB g2 hb fun x hx=>hB x (g3 x hx),g3⟩
 ·exact .inr g
theorem D.UndV.look {mu:Nat} {fs:List A} {bs:List Nat} {w:World} (h:UndV mu fs bs w) (k:WK):
  ∃ A9 c9 b,(Instr.lookup 84 (.map (some mu)) (.agg #[.string k.name,.int .i64 k.size,.int .i64 k.place,.string k.word]) false).run Tryz.prog w=.ok (.slice A9 (idxs fs k).length c9) w∧intsK w [.slice A9 (idxs fs k).length c9] (idxs fs k) b∧∀ x ∈ b,x ∈ bs:=by
 obtain ⟨⟨Lu,h4,h6⟩,_,_⟩:=h
 show ∃ A9 c9 b,(Instr.lookup 84 (.map (some mu)) (wkV k) false).run Tryz.prog w=.ok (.slice A9 (idxs fs k).length c9) w∧_
 rcases h6 k with ⟨v,b,g1,g2,g3⟩ | ⟨g1,g2⟩
 ·obtain ⟨A9,c9,rfl,_⟩:=sliceK_form g2
  exact ⟨A9,c9,b,run_mapv_hit keyV_wk trivial false Tryz.underlying84 h4 g1,g2,g3⟩
 ·refine ⟨none,0,[],?_,by rw [g2]; exact ⟨none,0,rfl,Nat.le_refl _,Nat.zero_le _,fun _=>rfl,fun h=>absurd rfl h⟩,fun x hx=>by simp at hx⟩
  obtain ⟨⟨es,ck,hb,rfl⟩,h2,h3⟩:=h4
  have hSs:∀ e ∈ es.toList,isWK e.key:=fun e he=>h2 (e.key,e.val) (List.mem_map.2 ⟨e,he,rfl⟩)
  rcases findKey_v keyV_wk (w:=w) trivial (k:=wkV k) ⟨k,rfl⟩ es.toList hSs with ⟨h5,h6⟩ | ⟨i,e1,h5,h6,h7⟩
  ·simp [g2,Instr.lookup,run_underlying Tryz.underlying84,MapKept.run_getObj_map hb,keyV_wk.check w _ ⟨k,rfl⟩,h5,Result.andThen]
  ·exact absurd h7 (g1 (e1.key,e1.val) (List.mem_map.2 ⟨e1,List.mem_of_getElem? h6,rfl⟩))
theorem D.look_places {fs:List A} {mp:Nat} {Lp:List (Value × Value)} {w:World} (h5:MapV isStr mp Lp w) (h7:∀ s:ByteArray,(∃ i:Nat,((.string s:Value),(.int .i64 i:Value)) ∈ Lp) ↔ s ∈ fs.map aText) (h8:∀ p ∈ Lp,∃ i:Nat,p.2=.int .i64 i)
  (s:ByteArray) (hs:s.size≤maxLen):∃ v,(Instr.lookup 85 (.map (some mp)) (.string s) true).run Tryz.prog w=.ok (.tuple #[v,.bool (decide (s ∈ fs.map aText))]) w:=by
 by_cases hm:s ∈ fs.map aText
 ·obtain ⟨i,hi⟩:=(h7 s).2 hm
  refine ⟨.int .i64 i,?_⟩
  rw [decide_eq_true hm]
  exact run_mapv_hit keyV_str trivial true Tryz.underlying85 h5 hi
 ·refine ⟨.int .i64 0,?_⟩
  rw [decide_eq_false hm]
  have hno:∀ p ∈ Lp,p.1 ≠ .string s:=fun p hp e=>by
   obtain ⟨i,hi⟩:=h8 p hp
   exact hm ((h7 s).1 ⟨i,by rw [← e,← hi]; exact hp⟩)
  obtain ⟨⟨es,ck,hb,rfl⟩,h2,h3⟩:=h5
  have hSs:∀ e ∈ es.toList,isStr e.key:=fun e he=>h2 (e.key,e.val) (List.mem_map.2 ⟨e,he,rfl⟩)
  rcases findKey_v keyV_str (w:=w) trivial (k:=.string s) ⟨s,rfl,hs⟩ es.toList hSs with ⟨h5,h6⟩ | ⟨i,e1,h5,h6,h7⟩
  ·simp [Instr.lookup,run_underlying Tryz.underlying85,MapKept.run_getObj_map hb,keyV_str.check w _ ⟨s,rfl,hs⟩,h5,Result.andThen]
  ·exact absurd h7 (hno (e1.key,e1.val) (List.mem_map.2 ⟨e1,List.mem_of_getElem? h6,rfl⟩))
end Go.Proofs.YtiidmgchadagbaaGreatDoor
