/- Of the proof of FnExactDelta: Facts, Common, UnionP. -/
import Derived.Test.YtiidmgchadagbaaGreatDoorM17
set_option linter.unusedVariables false
set_option maxHeartbeats 4000000
set_option maxRecDepth 100000
namespace Go.Proofs.YtiidmgchadagbaaGreatDoor
open Go.RowKit D
set_option linter.unusedSimpArgs false
attribute [local go_sem ↓] Go.wp_at_zero Go.wp_at_succ
theorem JS (xs:List A) (v:Value) (bs:List Nat) (m:Nat) (w:World) (h:aI w [v] xs bs) (hmost:m≤1000):
  Calls Tryz.prog 56 #[v,.int .i64 m] w fun e w'=>e=.returned (.bool (okB xs && decide (xs.length≤m)))∧Below w.heap.size w w':=by
 obtain ⟨Ad,cap,rfl,hl,hm⟩:=af h;have hlm:=au (Nat.le_trans hl hm);clear hm
 go_enter Tryz.func56,Tryz.ntmps56
 go_wp2
 go_loopw [5] (fun i wr=>∃ k:Nat,k≤xs.length∧i=.int .i64 k∧OM xs k∧Below w.heap.size w wr) (fun i _=>xs.length - (intOf i).toNat)
 case atStart=>exact ⟨0,Nat.zero_le _,rfl,OO _,Below.refl _ _⟩
 case round=>
  obtain ⟨k,hk,rfl,hall,hb⟩:=hrel;have HA:=η hall;clear hall;by_cases hlt:k < xs.length
  ·have hk0:(0:Int)≤(k:Int):=by omega
   have hk1:(k:Int) < (xs.length:Int):=by omega
   cases hf:dM xs[k]
   ·have HF:=η (Oe hlt hf)
    obtain ⟨b,o,Ae,ce,bk,rfl,_,c0,c1,hel,_⟩:=dG (ai.below h hb) hlt;have hg:=qY xs[k] _ _ bk _ (aj.below hel (Below.drew (Below.refl _ _)));rw [hf] at hg;clear h hf hel;go_wp2;refine wp_region_held_drew (S:=(fun w'=>w'.cell? ⟨b,o+k * 2,none⟩=some (.string xs[k].name)∧w'.cell? ⟨b,o+k * 2+1,none⟩=some (.slice Ae xs[k].args.length ce))) (by kernel_rfl) ?_ (fun hHeld=>?_)
    ·go_keep
    refine wpAnyH_take (i:=0) (oi:=⟨_,_,_,_,_,_⟩) (v:=?_) rfl (by kernel_rfl) (by kernel_rfl) (by kernel_rfl) (fun _ _ _ h=>h) (Or.inl ⟨by rfl,?_⟩) (by assumption) ?_
    rotate_left
    ·(intro w hSw; (try dsimp only at hSw); go_simp); (first | done | with_reducible rfl)
    try simp only [Act.put,List.setIfInBounds_toArray,List.set_cons_zero,List.set_cons_succ]
    refine wpAnyH_take (i:=1) (oi:=⟨_,_,_,_,_,_⟩) (v:=?_) rfl (by kernel_rfl) (by kernel_rfl) (by kernel_rfl) (fun _ _ _ h=>h) (Or.inl ⟨by rfl,?_⟩) (by assumption) ?_
    rotate_left
    ·(intro w hSw; (try dsimp only at hSw); go_simp); (first | done | with_reducible rfl)
    try simp only [Act.put,List.setIfInBounds_toArray,List.set_cons_zero,List.set_cons_succ]
    refine wpAnyH_take (i:=2) (oi:=⟨_,_,_,_,_,_⟩) (v:=?_) rfl (by kernel_rfl) (by kernel_rfl) (by kernel_rfl) (fun _ _ _ h=>h) (Or.inl ⟨by rfl,?_⟩) (by assumption) ?_
    rotate_left
    ·(intro w hSw; (try dsimp only at hSw); go_simp); (first | done | with_reducible rfl)
    try simp only [Act.put,List.setIfInBounds_toArray,List.set_cons_zero,List.set_cons_succ]
    refine wpAnyH_take (i:=3) (oi:=⟨_,_,_,_,_,_⟩) (v:=?_) rfl (by kernel_rfl) (by kernel_rfl) (by kernel_rfl) (fun _ _ _ h=>h) (Or.inl ⟨by rfl,?_⟩) (by assumption) ?_
    rotate_left
    ·(intro w hSw; (try dsimp only at hSw); go_simp); (first | done | with_reducible rfl)
    try simp only [Act.put,List.setIfInBounds_toArray,List.set_cons_zero,List.set_cons_succ]
    refine wpAnyH_ready (rs:=[4]) (by kernel_rfl) (by simp) ?_;refine AllReadyH.cons (o:=⟨_,_,_,_,_,_⟩) rfl (fun K hK=>?_) AllReadyH.nil;rw [if_pos (by rfl)];go_simp
    go_at_call 91
    refine hg.mono ?_;rintro e w' ⟨rfl,hb'⟩;clear hHeld;refine hK.out _ _ ?_ (fun hHeld=>?_)
    ·exact ⟨cell_later hb' c0,cell_later hb' c1⟩
    clear hK;clear K
    try simp only [Act.put,List.setIfInBounds_toArray,List.set_cons_zero,List.set_cons_succ]
    refine wpAnyH_take (i:=5) (oi:=⟨_,_,_,_,_,_⟩) (v:=?_) rfl (by kernel_rfl) (by kernel_rfl) (by kernel_rfl) (fun _ _ _ h=>h) (Or.inl ⟨by rfl,?_⟩) (by assumption) ?_
    rotate_left
    ·(intro w hSw; (try dsimp only at hSw); go_simp); (first | done | with_reducible rfl)
    try simp only [Act.put,List.setIfInBounds_toArray,List.set_cons_zero,List.set_cons_succ]
    refine wpAnyH_take (i:=6) (oi:=⟨_,_,_,_,_,_⟩) (v:=?_) rfl (by kernel_rfl) (by kernel_rfl) (by kernel_rfl) (fun _ _ _ h=>h) (Or.inl ⟨by rfl,?_⟩) (by assumption) ?_
    rotate_left
    ·(intro w hSw; (try dsimp only at hSw); go_simp); (first | done | with_reducible rfl)
    try simp only [Act.put,List.setIfInBounds_toArray,List.set_cons_zero,List.set_cons_succ]
    refine wpAnyH_take (i:=7) (oi:=⟨_,_,_,_,_,_⟩) (v:=undef) rfl (by kernel_rfl) (by kernel_rfl) (by kernel_rfl) (fun _ _ _ h=>h) (Or.inr ⟨by kernel_rfl,rfl⟩) (by assumption) ?_
    try simp only [Act.put,List.setIfInBounds_toArray,List.set_cons_zero,List.set_cons_succ]
    refine wpAnyH_take (i:=8) (oi:=⟨_,_,_,_,_,_⟩) (v:=undef) rfl (by kernel_rfl) (by kernel_rfl) (by kernel_rfl) (fun _ _ _ h=>h) (Or.inr ⟨by kernel_rfl,rfl⟩) (by assumption) ?_
    try simp only [Act.put,List.setIfInBounds_toArray,List.set_cons_zero,List.set_cons_succ]
    refine wpAnyH_take (i:=9) (oi:=⟨_,_,_,_,_,_⟩) (v:=undef) rfl (by kernel_rfl) (by kernel_rfl) (by kernel_rfl) (fun _ _ _ h=>h) (Or.inr ⟨by kernel_rfl,rfl⟩) (by assumption) ?_
    try simp only [Act.put,List.setIfInBounds_toArray,List.set_cons_zero,List.set_cons_succ]
    refine wpAnyH_take (i:=10) (oi:=⟨_,_,_,_,_,_⟩) (v:=undef) rfl (by kernel_rfl) (by kernel_rfl) (by kernel_rfl) (fun _ _ _ h=>h) (Or.inr ⟨by kernel_rfl,rfl⟩) (by assumption) ?_
    try simp only [Act.put,List.setIfInBounds_toArray,List.set_cons_zero,List.set_cons_succ]
    refine wpAnyH_take (i:=11) (oi:=⟨_,_,_,_,_,_⟩) (v:=undef) rfl (by kernel_rfl) (by kernel_rfl) (by kernel_rfl) (fun _ _ _ h=>h) (Or.inr ⟨by kernel_rfl,rfl⟩) (by assumption) ?_
    try simp only [Act.put,List.setIfInBounds_toArray,List.set_cons_zero,List.set_cons_succ]
    refine wpAnyH_take (i:=12) (oi:=⟨_,_,_,_,_,_⟩) (v:=undef) rfl (by kernel_rfl) (by kernel_rfl) (by kernel_rfl) (fun _ _ _ h=>h) (Or.inr ⟨by kernel_rfl,rfl⟩) (by assumption) ?_
    try simp only [Act.put,List.setIfInBounds_toArray,List.set_cons_zero,List.set_cons_succ]
    refine wpAnyH_take (i:=13) (oi:=⟨_,_,_,_,_,_⟩) (v:=undef) rfl (by kernel_rfl) (by kernel_rfl) (by kernel_rfl) (fun _ _ _ h=>h) (Or.inr ⟨by kernel_rfl,rfl⟩) (by assumption) ?_
    try simp only [Act.put,List.setIfInBounds_toArray,List.set_cons_zero,List.set_cons_succ]
    refine wpAnyH_take (i:=14) (oi:=⟨_,_,_,_,_,_⟩) (v:=undef) rfl (by kernel_rfl) (by kernel_rfl) (by kernel_rfl) (fun _ _ _ h=>h) (Or.inr ⟨by kernel_rfl,rfl⟩) (by assumption) ?_
    try simp only [Act.put,List.setIfInBounds_toArray,List.set_cons_zero,List.set_cons_succ]
    refine wpAnyH_take (i:=15) (oi:=⟨_,_,_,_,_,_⟩) (v:=undef) rfl (by kernel_rfl) (by kernel_rfl) (by kernel_rfl) (fun _ _ _ h=>h) (Or.inr ⟨by kernel_rfl,rfl⟩) (by assumption) ?_
    try simp only [Act.put,List.setIfInBounds_toArray,List.set_cons_zero,List.set_cons_succ]
    refine wpAnyH_take (i:=16) (oi:=⟨_,_,_,_,_,_⟩) (v:=undef) rfl (by kernel_rfl) (by kernel_rfl) (by kernel_rfl) (fun _ _ _ h=>h) (Or.inr ⟨by kernel_rfl,rfl⟩) (by assumption) ?_
    try simp only [Act.put,List.setIfInBounds_toArray,List.set_cons_zero,List.set_cons_succ]
    refine wpAnyH_take (i:=17) (oi:=⟨_,_,_,_,_,_⟩) (v:=undef) rfl (by kernel_rfl) (by kernel_rfl) (by kernel_rfl) (fun _ _ _ h=>h) (Or.inr ⟨by kernel_rfl,rfl⟩) (by assumption) ?_
    try simp only [Act.put,List.setIfInBounds_toArray,List.set_cons_zero,List.set_cons_succ]
    refine wpAnyH_take (i:=18) (oi:=⟨_,_,_,_,_,_⟩) (v:=undef) rfl (by kernel_rfl) (by kernel_rfl) (by kernel_rfl) (fun _ _ _ h=>h) (Or.inr ⟨by kernel_rfl,rfl⟩) (by assumption) ?_
    try simp only [Act.put,List.setIfInBounds_toArray,List.set_cons_zero,List.set_cons_succ]
    refine wpAnyH_take (i:=19) (oi:=⟨_,_,_,_,_,_⟩) (v:=undef) rfl (by kernel_rfl) (by kernel_rfl) (by kernel_rfl) (fun _ _ _ h=>h) (Or.inr ⟨by kernel_rfl,rfl⟩) (by assumption) ?_
    try simp only [Act.put,List.setIfInBounds_toArray,List.set_cons_zero,List.set_cons_succ]
    refine wpAnyH_take (i:=20) (oi:=⟨_,_,_,_,_,_⟩) (v:=undef) rfl (by kernel_rfl) (by kernel_rfl) (by kernel_rfl) (fun _ _ _ h=>h) (Or.inr ⟨by kernel_rfl,rfl⟩) (by assumption) ?_
    try simp only [Act.put,List.setIfInBounds_toArray,List.set_cons_zero,List.set_cons_succ]
    refine wpAnyH_take (i:=21) (oi:=⟨_,_,_,_,_,_⟩) (v:=undef) rfl (by kernel_rfl) (by kernel_rfl) (by kernel_rfl) (fun _ _ _ h=>h) (Or.inr ⟨by kernel_rfl,rfl⟩) (by assumption) ?_
    try simp only [Act.put,List.setIfInBounds_toArray,List.set_cons_zero,List.set_cons_succ]
    refine wpAnyH_take (i:=22) (oi:=⟨_,_,_,_,_,_⟩) (v:=?_) rfl (by kernel_rfl) (by kernel_rfl) (by kernel_rfl) (fun _ _ _ h=>h) (Or.inl ⟨by rfl,?_⟩) (by assumption) ?_
    rotate_left
    ·(intro w hSw; (try dsimp only at hSw); go_simp); (first | done | with_reducible rfl)
    try simp only [Act.put,List.setIfInBounds_toArray,List.set_cons_zero,List.set_cons_succ]
    clear hHeld;refine wpAnyH_done (by kernel_rfl) ?_ _;go_wp2;go_ret;exact ⟨aO (by rw [HF.out]; rfl),hb.trans ((Below.drew (Below.refl _ _)).trans (hb'.mono hb.size))⟩
   ·cases k with
    | zero=>
     obtain ⟨b,o,Ae,ce,bk,rfl,_,c0,c1,hel,_⟩:=dG (ai.below h hb) hlt;have hg:=qY xs[0] _ _ bk _ (aj.below hel (Below.drew (Below.refl _ _)));rw [hf] at hg;have HN:=η (Rh hlt hf);simp only [Nat.zero_mul,Nat.add_zero] at c0 c1;clear h hf hel;go_wp2;refine wp_region_held_drew (S:=(fun w'=>w'.cell? ⟨b,o,none⟩=some (.string xs[0].name)∧w'.cell? ⟨b,o+1,none⟩=some (.slice Ae xs[0].args.length ce))) (by kernel_rfl) ?_ (fun hHeld=>?_)
     ·go_keep
     refine wpAnyH_take (i:=0) (oi:=⟨_,_,_,_,_,_⟩) (v:=?_) rfl (by kernel_rfl) (by kernel_rfl) (by kernel_rfl) (fun _ _ _ h=>h) (Or.inl ⟨by rfl,?_⟩) (by assumption) ?_
     rotate_left
     ·(intro w hSw; (try dsimp only at hSw); go_simp); (first | done | with_reducible rfl)
     try simp only [Act.put,List.setIfInBounds_toArray,List.set_cons_zero,List.set_cons_succ]
     refine wpAnyH_take (i:=1) (oi:=⟨_,_,_,_,_,_⟩) (v:=?_) rfl (by kernel_rfl) (by kernel_rfl) (by kernel_rfl) (fun _ _ _ h=>h) (Or.inl ⟨by rfl,?_⟩) (by assumption) ?_
     rotate_left
     ·(intro w hSw; (try dsimp only at hSw); go_simp); (first | done | with_reducible rfl)
     try simp only [Act.put,List.setIfInBounds_toArray,List.set_cons_zero,List.set_cons_succ]
     refine wpAnyH_take (i:=2) (oi:=⟨_,_,_,_,_,_⟩) (v:=?_) rfl (by kernel_rfl) (by kernel_rfl) (by kernel_rfl) (fun _ _ _ h=>h) (Or.inl ⟨by rfl,?_⟩) (by assumption) ?_
     rotate_left
     ·(intro w hSw; (try dsimp only at hSw); go_simp); (first | done | with_reducible rfl)
     try simp only [Act.put,List.setIfInBounds_toArray,List.set_cons_zero,List.set_cons_succ]
     refine wpAnyH_take (i:=3) (oi:=⟨_,_,_,_,_,_⟩) (v:=?_) rfl (by kernel_rfl) (by kernel_rfl) (by kernel_rfl) (fun _ _ _ h=>h) (Or.inl ⟨by rfl,?_⟩) (by assumption) ?_
     rotate_left
     ·(intro w hSw; (try dsimp only at hSw); go_simp); (first | done | with_reducible rfl)
     try simp only [Act.put,List.setIfInBounds_toArray,List.set_cons_zero,List.set_cons_succ]
     refine wpAnyH_ready (rs:=[4]) (by kernel_rfl) (by simp) ?_;refine AllReadyH.cons (o:=⟨_,_,_,_,_,_⟩) rfl (fun K hK=>?_) AllReadyH.nil;rw [if_pos (by rfl)];go_simp
     go_at_call 91
     refine hg.mono ?_;rintro e w' ⟨rfl,hb'⟩;clear hHeld;refine hK.out _ _ ?_ (fun hHeld=>?_)
     ·exact ⟨cell_later hb' c0,cell_later hb' c1⟩
     clear hK;clear K
     try simp only [Act.put,List.setIfInBounds_toArray,List.set_cons_zero,List.set_cons_succ]
     refine wpAnyH_take (i:=5) (oi:=⟨_,_,_,_,_,_⟩) (v:=?_) rfl (by kernel_rfl) (by kernel_rfl) (by kernel_rfl) (fun _ _ _ h=>h) (Or.inl ⟨by rfl,?_⟩) (by assumption) ?_
     rotate_left
     ·(intro w hSw; (try dsimp only at hSw); go_simp); (first | done | with_reducible rfl)
     try simp only [Act.put,List.setIfInBounds_toArray,List.set_cons_zero,List.set_cons_succ]
     refine wpAnyH_take (i:=6) (oi:=⟨_,_,_,_,_,_⟩) (v:=?_) rfl (by kernel_rfl) (by kernel_rfl) (by kernel_rfl) (fun _ _ _ h=>h) (Or.inl ⟨by rfl,?_⟩) (by assumption) ?_
     rotate_left
     ·(intro w hSw; (try dsimp only at hSw); go_simp); (first | done | with_reducible rfl)
     try simp only [Act.put,List.setIfInBounds_toArray,List.set_cons_zero,List.set_cons_succ]
     refine wpAnyH_take (i:=7) (oi:=⟨_,_,_,_,_,_⟩) (v:=?_) rfl (by kernel_rfl) (by kernel_rfl) (by kernel_rfl) (fun _ _ _ h=>h) (Or.inl ⟨by rfl,?_⟩) (by assumption) ?_
     rotate_left
     ·(intro w hSw; (try dsimp only at hSw); go_simp); (first | done | with_reducible rfl)
     try simp only [Act.put,List.setIfInBounds_toArray,List.set_cons_zero,List.set_cons_succ]
     refine wpAnyH_take (i:=8) (oi:=⟨_,_,_,_,_,_⟩) (v:=?_) rfl (by kernel_rfl) (by kernel_rfl) (by kernel_rfl) (fun _ _ _ h=>h) (Or.inl ⟨by rfl,?_⟩) (by assumption) ?_
     rotate_left
     ·(intro w hSw; (try dsimp only at hSw); go_simp); (first | done | with_reducible rfl)
     try simp only [Act.put,List.setIfInBounds_toArray,List.set_cons_zero,List.set_cons_succ]
     refine wpAnyH_take (i:=9) (oi:=⟨_,_,_,_,_,_⟩) (v:=?_) rfl (by kernel_rfl) (by kernel_rfl) (by kernel_rfl) (fun _ _ _ h=>h) (Or.inl ⟨by rfl,?_⟩) (by assumption) ?_
     rotate_left
     ·(intro w hSw; (try dsimp only at hSw); go_simp); (first | done | with_reducible rfl)
     try simp only [Act.put,List.setIfInBounds_toArray,List.set_cons_zero,List.set_cons_succ]
     refine wpAnyH_take (i:=10) (oi:=⟨_,_,_,_,_,_⟩) (v:=undef) rfl (by kernel_rfl) (by kernel_rfl) (by kernel_rfl) (fun _ _ _ h=>h) (Or.inr ⟨by kernel_rfl,rfl⟩) (by assumption) ?_
     try simp only [Act.put,List.setIfInBounds_toArray,List.set_cons_zero,List.set_cons_succ]
     refine wpAnyH_take (i:=11) (oi:=⟨_,_,_,_,_,_⟩) (v:=undef) rfl (by kernel_rfl) (by kernel_rfl) (by kernel_rfl) (fun _ _ _ h=>h) (Or.inr ⟨by kernel_rfl,rfl⟩) (by assumption) ?_
     try simp only [Act.put,List.setIfInBounds_toArray,List.set_cons_zero,List.set_cons_succ]
     refine wpAnyH_take (i:=12) (oi:=⟨_,_,_,_,_,_⟩) (v:=undef) rfl (by kernel_rfl) (by kernel_rfl) (by kernel_rfl) (fun _ _ _ h=>h) (Or.inr ⟨by kernel_rfl,rfl⟩) (by assumption) ?_
     try simp only [Act.put,List.setIfInBounds_toArray,List.set_cons_zero,List.set_cons_succ]
     refine wpAnyH_take (i:=13) (oi:=⟨_,_,_,_,_,_⟩) (v:=undef) rfl (by kernel_rfl) (by kernel_rfl) (by kernel_rfl) (fun _ _ _ h=>h) (Or.inr ⟨by kernel_rfl,rfl⟩) (by assumption) ?_
     try simp only [Act.put,List.setIfInBounds_toArray,List.set_cons_zero,List.set_cons_succ]
     refine wpAnyH_take (i:=14) (oi:=⟨_,_,_,_,_,_⟩) (v:=undef) rfl (by kernel_rfl) (by kernel_rfl) (by kernel_rfl) (fun _ _ _ h=>h) (Or.inr ⟨by kernel_rfl,rfl⟩) (by assumption) ?_
     try simp only [Act.put,List.setIfInBounds_toArray,List.set_cons_zero,List.set_cons_succ]
     refine wpAnyH_take (i:=15) (oi:=⟨_,_,_,_,_,_⟩) (v:=undef) rfl (by kernel_rfl) (by kernel_rfl) (by kernel_rfl) (fun _ _ _ h=>h) (Or.inr ⟨by kernel_rfl,rfl⟩) (by assumption) ?_
     try simp only [Act.put,List.setIfInBounds_toArray,List.set_cons_zero,List.set_cons_succ]
     refine wpAnyH_take (i:=16) (oi:=⟨_,_,_,_,_,_⟩) (v:=undef) rfl (by kernel_rfl) (by kernel_rfl) (by kernel_rfl) (fun _ _ _ h=>h) (Or.inr ⟨by kernel_rfl,rfl⟩) (by assumption) ?_
     try simp only [Act.put,List.setIfInBounds_toArray,List.set_cons_zero,List.set_cons_succ]
     refine wpAnyH_take (i:=17) (oi:=⟨_,_,_,_,_,_⟩) (v:=undef) rfl (by kernel_rfl) (by kernel_rfl) (by kernel_rfl) (fun _ _ _ h=>h) (Or.inr ⟨by kernel_rfl,rfl⟩) (by assumption) ?_
     try simp only [Act.put,List.setIfInBounds_toArray,List.set_cons_zero,List.set_cons_succ]
     refine wpAnyH_take (i:=18) (oi:=⟨_,_,_,_,_,_⟩) (v:=undef) rfl (by kernel_rfl) (by kernel_rfl) (by kernel_rfl) (fun _ _ _ h=>h) (Or.inr ⟨by kernel_rfl,rfl⟩) (by assumption) ?_
     try simp only [Act.put,List.setIfInBounds_toArray,List.set_cons_zero,List.set_cons_succ]
     refine wpAnyH_take (i:=19) (oi:=⟨_,_,_,_,_,_⟩) (v:=undef) rfl (by kernel_rfl) (by kernel_rfl) (by kernel_rfl) (fun _ _ _ h=>h) (Or.inr ⟨by kernel_rfl,rfl⟩) (by assumption) ?_
     try simp only [Act.put,List.setIfInBounds_toArray,List.set_cons_zero,List.set_cons_succ]
     refine wpAnyH_take (i:=20) (oi:=⟨_,_,_,_,_,_⟩) (v:=undef) rfl (by kernel_rfl) (by kernel_rfl) (by kernel_rfl) (fun _ _ _ h=>h) (Or.inr ⟨by kernel_rfl,rfl⟩) (by assumption) ?_
     try simp only [Act.put,List.setIfInBounds_toArray,List.set_cons_zero,List.set_cons_succ]
     refine wpAnyH_take (i:=21) (oi:=⟨_,_,_,_,_,_⟩) (v:=?_) rfl (by kernel_rfl) (by kernel_rfl) (by kernel_rfl) (fun _ _ _ h=>h) (Or.inl ⟨by rfl,?_⟩) (by assumption) ?_
     rotate_left
     ·(intro w hSw; (try dsimp only at hSw); go_simp); (first | done | with_reducible rfl)
     try simp only [Act.put,List.setIfInBounds_toArray,List.set_cons_zero,List.set_cons_succ]
     refine wpAnyH_take (i:=22) (oi:=⟨_,_,_,_,_,_⟩) (v:=?_) rfl (by kernel_rfl) (by kernel_rfl) (by kernel_rfl) (fun _ _ _ h=>h) (Or.inl ⟨by rfl,?_⟩) (by assumption) ?_
     rotate_left
     ·(intro w hSw; (try dsimp only at hSw); go_simp); (first | done | with_reducible rfl)
     try simp only [Act.put,List.setIfInBounds_toArray,List.set_cons_zero,List.set_cons_succ]
     clear hHeld;refine wpAnyH_done (by kernel_rfl) ?_ _;go_wp2;go_roundw
     case rel=>exact ⟨1,by omega,by go_num,HN.out,hb.trans ((Below.drew (Below.refl _ _)).trans (hb'.mono hb.size))⟩
     case measure=>simp [intOf]; omega
    | succ j=>
     have hlj:j < xs.length:=by omega
     have HS:=η (fun hc=>OT (xs:=xs) (k:=j) HA.out hlt hf hc);have HB:=η (fun hc=>Ri (xs:=xs) (k:=j) hlt hc);obtain ⟨k,hkj⟩:∃ k,k=j+1:=⟨_,rfl⟩;have hw1:IntKind.i64.wrap ((k:Int) - 1)=(j:Int):=(IntWalk.i64_in _ ⟨by omega,by omega⟩).trans (by omega);have hK:=η hkj;rw [show ((j+1:Nat):Int)=(k:Int) by rw [hkj]] at hk0 hk1 ⊢;have hlt':k < xs.length:=by omega
     have hxk:xs[j+1]=xs[k]'hlt':=by simp only [hkj]
     rw [hxk] at hf HS HB;clear HA hxk;have hx1:(0:Int)≤(j:Int):=by omega
     have hx2:(j:Int) < (xs.length:Int):=by omega
     have hp0:0 < k:=by omega
     have hp1:(0:Int) < (k:Int):=by omega
     clear hkj;obtain ⟨b,o,Ae,ce,bk,Af,cf,bm,rfl,c0,c1,hel,d0,d1,hem⟩:=Eo (ai.below h hb) hlj hlt';have hD:Below wr.heap.size wr wr.drew:=Below.drew (Below.refl _ _);have hg:=qY xs[k] _ _ bm _ (aj.below hem hD);have hcm:=fun w' (hb':Below wr.heap.size wr w')=>ED xs[j] xs[k] _ _ _ _ bk bm w' (aj.below hel hb') (aj.below hem hb')
     rw [hf] at hg;clear h hf hel hem;by_cases hc:bQ xs[j] xs[k] < 0
     ·have hc':¬ 0≤bQ xs[j] xs[k]:=by omega
      have HC:=η (HS.out hc);clear hc;go_wp2
      go_region_held3 (fun w'=>w'.cell? ⟨b,o+j * 2,none⟩=some (.string xs[j].name)∧w'.cell? ⟨b,o+j * 2+1,none⟩=some (.slice Ae xs[j].args.length ce)∧w'.cell? ⟨b,o+k * 2,none⟩=some (.string xs[k].name)∧w'.cell? ⟨b,o+k * 2+1,none⟩=some (.slice Af xs[k].args.length cf))
       (first | go_keep | exact ⟨x0,x1,x2,x3⟩ | exact ⟨y0,y1,y2,y3⟩)
       (first
        | (go_at_call 91; refine hg.mono ?_; rintro e w1 ⟨rfl,hb1⟩; have x0:=cell_later hb1 c0; have x1:=cell_later hb1 c1; have x2:=cell_later hb1 d0; have x3:=cell_later hb1 d1; have B1:=hD.trans hb1)
        | (go_at_call 92; refine (hcm _ B1).mono ?_; rintro e w2 ⟨rfl,hb2⟩; have y0:=cell_later hb2 x0; have y1:=cell_later hb2 x1; have y2:=cell_later hb2 x2; have y3:=cell_later hb2 x3; have B2:=B1.trans (hb2.mono B1.size)))
      go_wp2;go_roundw
      case rel=>exact ⟨k+1,by omega,by go_num,by rw [hK.out]; exact HC.out,hb.trans (B2.mono hb.size)⟩
      case measure=>have:=hK.out; simp [intOf]; omega
     ·have hc':0≤bQ xs[j] xs[k]:=by omega
      have HC:=η (HB.out hc);clear hc;go_wp2
      go_region_held3 (fun w'=>w'.cell? ⟨b,o+j * 2,none⟩=some (.string xs[j].name)∧w'.cell? ⟨b,o+j * 2+1,none⟩=some (.slice Ae xs[j].args.length ce)∧w'.cell? ⟨b,o+k * 2,none⟩=some (.string xs[k].name)∧w'.cell? ⟨b,o+k * 2+1,none⟩=some (.slice Af xs[k].args.length cf))
       (first | go_keep | exact ⟨x0,x1,x2,x3⟩ | exact ⟨y0,y1,y2,y3⟩)
       (first
        | (go_at_call 91; refine hg.mono ?_; rintro e w1 ⟨rfl,hb1⟩; have x0:=cell_later hb1 c0; have x1:=cell_later hb1 c1; have x2:=cell_later hb1 d0; have x3:=cell_later hb1 d1; have B1:=hD.trans hb1)
        | (go_at_call 92; refine (hcm _ B1).mono ?_; rintro e w2 ⟨rfl,hb2⟩; have y0:=cell_later hb2 x0; have y1:=cell_later hb2 x1; have y2:=cell_later hb2 x2; have y3:=cell_later hb2 x3; have B2:=B1.trans (hb2.mono B1.size)))
      go_wp2;go_ret;exact ⟨aO (by rw [HC.out]; rfl),hb.trans (B2.mono hb.size)⟩
  ·have he:=η (show k=xs.length by omega)
   by_cases hle:xs.length≤m
   ·have hle':(xs.length:Int)≤(m:Int):=by omega
    go_wp2;go_ret;exact ⟨aO (by have:=HA.out; rw [he.out] at this; rw [UH this,decide_eq_true hle]; rfl),hb⟩
   ·have hle':¬ (xs.length:Int)≤(m:Int):=by omega
    go_wp2;go_ret;exact ⟨aO (by simp),hb⟩
end Go.Proofs.YtiidmgchadagbaaGreatDoor
namespace Go.Proofs.YtiidmgchadagbaaGreatDoor
open Go.RowKit D Go.Shelf
attribute [local go_sem ↓] Go.wp_at_zero Go.wp_at_succ
attribute [local go_sem] Oper.semAt_some
theorem NE (xs ys:List A) (v1 v2:Value) (bs1 bs2:List Nat) (w:World) (h1:aI w [v1] xs bs1) (h2:aI w [v2] ys bs2):
  Calls Tryz.prog 82 #[v1,v2] w fun e w'=>e=.returned (.bool ((bP xs ys).any (fun p=>p.2 == 2)))∧Below w.heap.size w w':=by
 obtain ⟨Ad,cap,rfl,hl,hm⟩:=af h1;obtain ⟨Ad2,cap2,rfl,hl2,hm2⟩:=af h2;clear hm hm2;refine (callsIn_wide (n:=4)).1 ?_;refine callsIn_of_wp_marks Tryz.func82 rfl trivial ?_ rfl;simp only [Tryz.ntmps82,List.size_toArray,List.length_cons,List.length_nil,Nat.reduceAdd,Nat.reduceSub,Array.replicate_succ,Array.replicate_zero,List.push_toArray,List.append_toArray,List.nil_append,List.cons_append];have hA0:Below w.heap.size w (w.alloc (.cells #[.bool false] 4)):=(Below.refl _ _).alloc (Nat.le_refl _) _
 gi_wp2
 refine ⟨trivial,?_⟩;refine (callsIn_wide.2 (iw Ad xs.length cap _)).mono ?_;rintro e w2 ⟨rfl,hb2⟩;have B2:=hA0.trans (hb2.mono hA0.size);have x2:w2.cell? ⟨w.heap.size,0,none⟩=some (.bool false):=cell_later hb2 (by go_simp);have f2:w2.frozen? ⟨w.heap.size,0,none⟩=false:=(hb2.frozen (p:=⟨w.heap.size,0,none⟩) (by simp)).trans (by go_simp)
 gi_wp2
 refine ⟨trivial,?_⟩;refine (callsIn_wide.2 (iw Ad2 ys.length cap2 _)).mono ?_;rintro e w3 ⟨rfl,hb3⟩;have B3:=B2.trans (hb3.mono B2.size);have x3:w3.cell? ⟨w.heap.size,0,none⟩=some (.bool false):=cell_later hb3 x2;have f3:w3.frozen? ⟨w.heap.size,0,none⟩=false:=(hb3.frozen (p:=⟨w.heap.size,0,none⟩) (lt_of_cell x2)).trans f2;clear x2 f2
 gi_wp2
 refine ⟨trivial,?_⟩;refine (callsIn_wide.2 (merge_any _ _ _ _ _ _ _)).mono ?_;rintro e w4 ⟨rfl,rfl⟩
 gi_wp2
 have hM:Below w3.heap.size w3 ((w3.alloc (.cells #[.slice Ad xs.length cap,.func (.func 65) #[] #[]] 169)).alloc (.cells #[.slice Ad2 ys.length cap2,.func (.func 65) #[] #[]] 169)):=((Below.refl _ _).alloc (Nat.le_refl _) _).alloc (by simp) _;have s1:((w3.alloc (.cells #[.slice Ad xs.length cap,.func (.func 65) #[] #[]] 169)).alloc (.cells #[.slice Ad2 ys.length cap2,.func (.func 65) #[] #[]] 169)).cell? ⟨w3.heap.size,0,none⟩=some (.slice Ad xs.length cap):=by go_simp
 have s2:((w3.alloc (.cells #[.slice Ad xs.length cap,.func (.func 65) #[] #[]] 169)).alloc (.cells #[.slice Ad2 ys.length cap2,.func (.func 65) #[] #[]] 169)).cell? ⟨w3.heap.size,1,none⟩=some (.func (.func 65) #[] #[]):=by go_simp
 have s3:((w3.alloc (.cells #[.slice Ad xs.length cap,.func (.func 65) #[] #[]] 169)).alloc (.cells #[.slice Ad2 ys.length cap2,.func (.func 65) #[] #[]] 169)).cell? ⟨w3.heap.size+1,0,none⟩=some (.slice Ad2 ys.length cap2):=by go_simp
 generalize ((w3.alloc (.cells #[.slice Ad xs.length cap,.func (.func 65) #[] #[]] 169)).alloc (.cells #[.slice Ad2 ys.length cap2,.func (.func 65) #[] #[]] 169))=wm at *;have B4:=B3.trans (hM.mono B3.size);have x4:=cell_later hM x3;have f4:wm.frozen? ⟨w.heap.size,0,none⟩=false:=(hM.frozen (p:=⟨w.heap.size,0,none⟩) (lt_of_cell x3)).trans f3;clear x3 f3;have hwm:w.heap.size≤wm.heap.size:=B4.size
 refine wpIn_rangeFunc_ownG rfl (by omega) (gf:=162) (lb:=#[.pointer (some ⟨w3.heap.size,0,none⟩),.pointer (some ⟨w3.heap.size+1,0,none⟩)]) rfl trivial (enters_of Tryz.func162 (by kernel_rfl) rfl)
  (tX 3 (by omega) w3.heap.size (w3.heap.size+1) xs ys _ _ bs1 bs2 w wm h1 h2 (Below wm.heap.size) (fun W W' hk hI=>⟨(hk.cell (p:=⟨w3.heap.size,0,none⟩) (lt_of_cell s1)).trans hI.s1,(hk.cell (p:=⟨w3.heap.size,1,none⟩) (lt_of_cell s2)).trans hI.s2,(hk.cell (p:=⟨w3.heap.size+1,0,none⟩) (lt_of_cell s3)).trans hI.s3,hI.hb.trans (hk.mono hwm)⟩) ⟨s1,s2,s3,B4⟩) belowK_t (belowK_b (Nat.le_refl _)) (Below.refl _ _) (fun _=>rfl)
  (fun pre W=>(pre.all (fun x=>x.s != 2)=true∧W.cell? ⟨w.heap.size,0,none⟩=some (.bool false)∧W.frozen? ⟨w.heap.size,0,none⟩=false)∧Below w.heap.size w W)
  (fun c pre W=>(c=.ret∧pre.any (fun x=>x.s == 2)=true∧W.cell? ⟨w.heap.size,0,none⟩=some (.bool true))∧Below w.heap.size w W)
  (OwnFrom.and (Own.from (fun s A B row hs hg hr=>⟨hs.1,cell_kept hs.2.1 hg hr,(frozen_kept hs.2.1 hg hr).trans hs.2.2⟩) _) (ownFrom_below (Nat.le_refl _) hwm))
  (fun c=>OwnFrom.and (Own.from (fun s A B row hs hg hr=>⟨hs.1,hs.2.1,cell_kept hs.2.2 hg hr⟩) _) (ownFrom_below (Nat.le_refl _) hwm))
  ⟨⟨rfl,x4,f4⟩,B4⟩
  (fun x=>{ tmps:=#[.slice Ad xs.length cap,.slice Ad2 ys.length cap2,undef,undef,.pointer (some ⟨w.heap.size,0,none⟩),undef,.int .i64 x.s,.slice Ad xs.length cap,.agg #[.slice Ad xs.length cap,.func (.func 65) #[] #[]],.slice Ad2 ys.length cap2,.agg #[.slice Ad2 ys.length cap2,.func (.func 65) #[] #[]],.func (.func 162) #[] #[.pointer (some ⟨w3.heap.size,0,none⟩),.pointer (some ⟨w3.heap.size+1,0,none⟩)],.agg #[x.c0,x.c1],.int .i64 x.s,undef,undef],defers:=[] }) ?assign ?body ?done ?stop
 case assign=>
  intro l x W K hK;dsimp only [oG.enc]
  gi_wp2
  exact hK
 case body=>
  rintro l pre x W ⟨⟨hp,hc,hf⟩,hB⟩ _;by_cases hs:x.s=2
  ·have h2:((x.s:Int) == 2)=true:=beq_iff_eq.2 (by omega)
   have HS:=η hs;clear hs
   gi_wp2
   exact ⟨(KeepsOthers.setCell _ _ _).from _,⟨rfl,by simp [HS.out],World.cell?_setCell_same' _ _ _ (by rw [hc]; rfl)⟩,hB.setCell (p:=⟨w.heap.size,0,none⟩) (Nat.le_refl _) _⟩
  ·have h2:((x.s:Int) == 2)=false:=beq_eq_false_iff_ne.2 (by omega)
   have HS:=η hs;have HP:=η hp;clear hs hp
   gi_wp2
   exact ⟨KeepsFrom.refl _ _,Below.refl _ _,⟨by rw [List.all_append,HP.out]; have:=HS.out; simp [this],hc,hf⟩,hB⟩
 case done=>
  rintro D pr W hD hS ⟨⟨hp,hc,hf⟩,hB⟩ hK
  have HR:Hid ((bP xs ys).any (fun p=>p.2 == 2)=false):=η (by
   rw [← hS,List.any_map,List.any_eq_false];intro x hx;have:=List.all_eq_true.1 hp x hx
   simpa [oG.key] using this)
  clear hp hS
  gi_wp2
  have hK':=(KeepsOthers.setCell W ⟨w.heap.size,0,none⟩ (.bool false)).same D _ hK rfl;refine ⟨by simp,.inl ⟨_,_,rfl,run_takeDeferred hK',?_⟩⟩;have hc5:=cell_kept (World.cell?_setCell_same' W ⟨w.heap.size,0,none⟩ (.bool false) (by rw [hc]; rfl)) (grownBy_putObj' _ D (.deferred none)) (fun r e=>by cases e; exact ⟨_,hK',rfl⟩);refine ⟨.bool false,?_,by rw [HR.out],(hB.setCell (p:=⟨w.heap.size,0,none⟩) (Nat.le_refl _) _).trans (belowK_b (w:=w) (Nat.le_refl _) _ D _ _ (by omega) hK' rfl rfl)⟩;simp [results,Tryz.f82,go_sem,hc5]
 case stop=>
  rintro D c pre W hD ⟨rest,hr⟩ ⟨⟨rfl,ha,hc⟩,hB⟩ hK
  have HR:Hid ((bP xs ys).any (fun p=>p.2 == 2)=true):=η (by
   rw [← hr,List.any_append,List.any_map]
   rw [show pre.any ((fun p=>p.2 == 2) ∘ oG.key)=true from ha]; rfl)
  clear ha hr
  gi_wp2
  refine ⟨by simp,.inl ⟨_,_,rfl,run_takeDeferred hK,?_⟩⟩;have hc5:=cell_kept hc (grownBy_putObj' _ D (.deferred none)) (fun r e=>by cases e; exact ⟨_,hK,rfl⟩);refine ⟨.bool true,?_,by rw [HR.out],hB.trans (belowK_b (w:=w) (Nat.le_refl _) W D _ _ (by omega) hK rfl rfl)⟩;simp [results,Tryz.f82,go_sem,hc5]
theorem Fh:(Tryz.prog.info? 68).map (fun i=>(i.zero,i.size,i.bytes))=some (some (.agg #[.string ⟨#[]⟩,.slice none 0 0]),2,40):=by kernel_rfl
structure D.lK (Bo n0:Nat) (W W':World):Prop where
 os:W'.os=W.os
 tape:W'.tape=W.tape
 output:W'.output=W.output
 size:W.heap.size≤W'.heap.size
 block:∀ k,k < n0→k ≠ Bo→W'.heap[k]? = W.heap[k]?
theorem D.lK.trans {Bo n0:Nat} {A B C:World} (h:lK Bo n0 A B) (k:lK Bo n0 B C):lK Bo n0 A C:=
 ⟨k.os.trans h.os,k.tape.trans h.tape,k.output.trans h.output,Nat.le_trans h.size k.size,fun n hn hb=>(k.block n hn hb).trans (h.block n hn hb)⟩
theorem D.lK.mZ {Bo n0:Nat} {W W':World} {row:Option Nat} (h:W.grownBy W' row) (hn:n0≤W.heap.size) (hr:∀ r,row=some r→n0≤r∨r=Bo):lK Bo n0 W W':=
 ⟨h.os,h.tape,h.output,h.size,fun k hk hb=>h.block k (by omega) fun e=>by rcases hr k e.symm with g | g <;> omega⟩
theorem D.lK.putObj {Bo:Nat} {w:World} (W:World) (l:Nat) (o o':Obj) (hl:w.heap.size≤l) (h:W.heap[l]? = some o) (_:o.isCells=false) (_:o.isWalk=false):lK Bo w.heap.size W (W.putObj l o'):=
 lK.mZ (grownBy_putObj' W l o') (by have:=(Array.getElem?_eq_some_iff.1 h).1; omega) fun r e=>by cases e; exact .inl hl
theorem D.lK.inv {B1 B2 Bo n0 : Nat} {v1 v2 : Value} {wd W W' : World} (hk : lK Bo n0 W W') (h : MInv B1 B2 v1 v2 wd W) (g1 : B1 < n0) (g2 : B2 < n0) (e1 : B1 ≠ Bo) (e2 : B2 ≠ Bo) (hd : wd.heap.size ≤ Bo) (hn : Bo < n0) : MInv B1 B2 v1 v2 wd W' :=
  ⟨(World.cell?_of_block (w := W) (hk.block B1 g1 e1)).trans h.s1, (World.cell?_of_block (w := W) (hk.block B1 g1 e1)).trans h.s2, (World.cell?_of_block (w := W) (hk.block B2 g2 e2)).trans h.s3,
    ⟨hk.os.trans h.hb.os, hk.tape.trans h.hb.tape, hk.output.trans h.hb.output, Nat.le_trans h.hb.size hk.size, fun k hk' => (hk.block k (by omega) (by omega)).trans (h.hb.block k hk')⟩⟩
def D.oI {wd:World} (pre:List (oG wd)):List Value:=pre.flatMap fun x=>[x.c0,x.c1]
theorem D.zS {wd:World} (pre:List (oG wd)) (x:oG wd):oI (pre ++ [x])=oI pre ++ [x.c0,x.c1]:=by simp [oI]
theorem D.Wj {wd:World}:∀ pre:List (oG wd),∃ bs,aV 2 aU wd (oI pre) (pre.map (·.a)) bs
 | []=>⟨[],aV.nil⟩
 | x :: pre=>by
  obtain ⟨bs,h⟩:=Wj pre;have:=(aV.dB (n:=2) (R:=aU) dP x.h).append h;exact ⟨_,this⟩
theorem D.Qg {wd:World} {xs ys:List A} {pre:List (oG wd)} (h:pre.map oG.key=bP xs ys):pre.map (·.a)=dw xs ys:=by
 unfold dw; rw [← h,List.map_map]; rfl
theorem D.Fj {W w1:World} {n0 B:Nat} {t e:TypeId} {size:Nat} {v v':Value} {k m:Nat} {xs ys:List Value} {tmp:Obj}
  (hv:Boxed W B t v) (hte:t ≠ e) (hrow:W.ownsRow n0 e size v k xs) (hown':w1.ownsRow n0 e size v' m ys) (hgrow:(W.alloc tmp).grownBy w1 v.ownBlock):
  Boxed w1 B t v∧Boxed (w1.setCell ⟨B,0,none⟩ v') B t v'∧(w1.setCell ⟨B,0,none⟩ v').ownsRow n0 e size v' m ys∧KeepsOthers W (w1.setCell ⟨B,0,none⟩ v'):=by
 have hv1:Boxed w1 B t v:=(hv.alloc tmp).kept hgrow (hv.not_row hte hrow);refine ⟨hv1,hv1.set v',hown'.kept (grownBy_setCell' w1 B v') (.inr (hv1.not_row hte hown').symm),?_⟩;refine ((KeepsOthers.alloc W tmp).trans (KeepsOthers.of_grownBy hgrow fun j o ej hj=>?_)).trans (KeepsOthers.setCell _ _ _)
 rcases (hrow.alloc tmp).2 with ⟨rfl,_⟩ | ⟨g,cap,cur,rfl,_,hgb,_⟩
 ·simp [Value.ownBlock] at ej
 ·obtain rfl:g=j:=by simpa [Value.ownBlock] using ej
  rw [hgb] at hj; cases hj; rfl
theorem D.Dj {w:World} {base e size k:Nat} {v:Value} {L:List Value} (h:w.ownsRow base e size v k L):∀ r,v.ownBlock=some r→base≤r:=by
 intro r hr
 rcases h.2 with ⟨rfl,_⟩ | ⟨g,cap,cur,rfl,hg,_⟩
 ·simp [Value.ownBlock] at hr
 ·have:g=r:=by simpa [Value.ownBlock] using hr
  omega
def D.gB {wd:World} (pre:List (oG wd)):List (oG wd):=pre.filter fun x=>x.s == 0
theorem D.NG {wd:World} (pre:List (oG wd)) (x:oG wd) (h:x.s=0):gB (pre ++ [x])=gB pre ++ [x]:=by simp [gB,h]
theorem D.Qh {wd:World} (pre:List (oG wd)) (x:oG wd) (h:x.s ≠ 0):gB (pre ++ [x])=gB pre:=by simp [gB,h]
theorem D.Qi {wd:World} (pre:List (oG wd)):(gB pre).length≤pre.length:=List.length_filter_le _ _
theorem D.Tc {wd:World} {xs ys:List A} {pre:List (oG wd)} (h:pre.map oG.key=bP xs ys):(gB pre).map (·.a)=fQ xs ys:=by
 unfold fQ gB;rw [← h,List.filter_map,List.map_map];rfl
end Go.Proofs.YtiidmgchadagbaaGreatDoor
