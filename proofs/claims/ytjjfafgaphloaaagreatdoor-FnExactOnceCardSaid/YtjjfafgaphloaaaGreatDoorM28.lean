/- Of the proof of FnExactOnce: Facts, HPartS. -/
import Derived.Deep.RegionHeld3
import Derived.Deep.RegionWith
import Derived.BigQuiet
import Derived.Deep.DrawnRows
import Derived.WalkKit
import Derived.WalkSpells
import Derived.WalkLawsBesides
import Derived.Lib.Hide
import Derived.Lib.IndexBytes
import Derived.Deep.Slices
import Derived.Deep.Fields
import Derived.ChangeSame
import Derived.Deep.Draws
import Derived.Lib.Bytealg
import Derived.Test.YtjjfafgaphloaaaGreatDoorM01
import Derived.Test.YtjjfafgaphloaaaGreatDoorM21
import Derived.Test.YtjjfafgaphloaaaGreatDoorM05
namespace Go.Proofs.YtjjfafgaphloaaaGreatDoor
open Go.RowKit D
set_option linter.unusedVariables false
set_option linter.unusedSimpArgs false
attribute [local go_sem ↓] Go.wp_at_zero Go.wp_at_succ
set_option maxHeartbeats 2000000 in
theorem l3Ok_any (xs : List A) (v : Value) (bs : List Nat) (m : Nat) (w : World) (h : atomsK w [v] xs bs) (hmost : m ≤ 1000) :
    Calls Tryz.prog 84 #[v, .int .i64 m] w fun e w' => e = .returned (.bool (okB xs && decide (xs.length ≤ m))) ∧ Below w.heap.size w w' := by
  obtain ⟨Ad, cap, rfl, hl, hm⟩ := sliceK_form h
  have hlm := nat_ge_max (Nat.le_trans hl hm)
  clear hm
  go_enter Tryz.func84, Tryz.ntmps84
  go_wp2
  go_loopw [5] (fun i wr => ∃ k : Nat, k ≤ xs.length ∧ i = .int .i64 k ∧ okTo xs k ∧ Below w.heap.size w wr) (fun i _ => xs.length - (intOf i).toNat)
  case atStart => exact ⟨0, Nat.zero_le _, rfl, okTo_zero _, Below.refl _ _⟩
  case round =>
    obtain ⟨k, hk, rfl, hall, hb⟩ := hrel
    have HA := Lib.hid hall
    clear hall
    by_cases hlt : k < xs.length
    · have hk0 : (0 : Int) ≤ (k : Int) := by omega
      have hk1 : (k : Int) < (xs.length : Int) := by omega
      cases hf : isFactB xs[k]
      · have HF := Lib.hid (okB_bad hlt hf)
        obtain ⟨b, o, Ae, ce, bk, rfl, _, c0, c1, hel, _⟩ := atoms_el (atomsK_good.below h hb) hlt
        have hg := l3Ground_any xs[k] _ _ bk _ (atomK_good.below hel (Below.drew (Below.refl _ _)))
        rw [hf] at hg
        clear h hf hel
        go_wp2
        refine wp_region_held_drew (S := (fun w' => w'.cell? ⟨b, o + k * 2, none⟩ = some (.string xs[k].name) ∧ w'.cell? ⟨b, o + k * 2 + 1, none⟩ = some (.slice Ae xs[k].args.length ce))) (by kernel_rfl) ?_ (fun hHeld => ?_)
        · go_keep
        refine wpAnyH_take (i := 0) (oi := ⟨_, _, _, _, _, _⟩) (v := ?_) rfl (by kernel_rfl) (by kernel_rfl) (by kernel_rfl) (fun _ _ _ h => h) (Or.inl ⟨by rfl, ?_⟩) (by assumption) ?_
        rotate_left
        · (intro w hSw; (try dsimp only at hSw); go_simp); (first | done | with_reducible rfl)
        try simp only [Act.put, List.setIfInBounds_toArray, List.set_cons_zero, List.set_cons_succ]
        refine wpAnyH_take (i := 1) (oi := ⟨_, _, _, _, _, _⟩) (v := ?_) rfl (by kernel_rfl) (by kernel_rfl) (by kernel_rfl) (fun _ _ _ h => h) (Or.inl ⟨by rfl, ?_⟩) (by assumption) ?_
        rotate_left
        · (intro w hSw; (try dsimp only at hSw); go_simp); (first | done | with_reducible rfl)
        try simp only [Act.put, List.setIfInBounds_toArray, List.set_cons_zero, List.set_cons_succ]
        refine wpAnyH_take (i := 2) (oi := ⟨_, _, _, _, _, _⟩) (v := ?_) rfl (by kernel_rfl) (by kernel_rfl) (by kernel_rfl) (fun _ _ _ h => h) (Or.inl ⟨by rfl, ?_⟩) (by assumption) ?_
        rotate_left
        · (intro w hSw; (try dsimp only at hSw); go_simp); (first | done | with_reducible rfl)
        try simp only [Act.put, List.setIfInBounds_toArray, List.set_cons_zero, List.set_cons_succ]
        refine wpAnyH_take (i := 3) (oi := ⟨_, _, _, _, _, _⟩) (v := ?_) rfl (by kernel_rfl) (by kernel_rfl) (by kernel_rfl) (fun _ _ _ h => h) (Or.inl ⟨by rfl, ?_⟩) (by assumption) ?_
        rotate_left
        · (intro w hSw; (try dsimp only at hSw); go_simp); (first | done | with_reducible rfl)
        try simp only [Act.put, List.setIfInBounds_toArray, List.set_cons_zero, List.set_cons_succ]
        refine wpAnyH_ready (rs := [4]) (by kernel_rfl) (by simp) ?_
        refine AllReadyH.cons (o := ⟨_, _, _, _, _, _⟩) rfl (fun K hK => ?_) AllReadyH.nil
        rw [if_pos (by rfl)]
        go_simp
        go_at_call 126
        refine hg.mono ?_
        rintro e w' ⟨rfl, hb'⟩
        clear hHeld
        refine hK.out _ _ ?_ (fun hHeld => ?_)
        · exact ⟨cell_later hb' c0, cell_later hb' c1⟩
        clear hK
        clear K
        try simp only [Act.put, List.setIfInBounds_toArray, List.set_cons_zero, List.set_cons_succ]
        refine wpAnyH_take (i := 5) (oi := ⟨_, _, _, _, _, _⟩) (v := ?_) rfl (by kernel_rfl) (by kernel_rfl) (by kernel_rfl) (fun _ _ _ h => h) (Or.inl ⟨by rfl, ?_⟩) (by assumption) ?_
        rotate_left
        · (intro w hSw; (try dsimp only at hSw); go_simp); (first | done | with_reducible rfl)
        try simp only [Act.put, List.setIfInBounds_toArray, List.set_cons_zero, List.set_cons_succ]
        refine wpAnyH_take (i := 6) (oi := ⟨_, _, _, _, _, _⟩) (v := ?_) rfl (by kernel_rfl) (by kernel_rfl) (by kernel_rfl) (fun _ _ _ h => h) (Or.inl ⟨by rfl, ?_⟩) (by assumption) ?_
        rotate_left
        · (intro w hSw; (try dsimp only at hSw); go_simp); (first | done | with_reducible rfl)
        try simp only [Act.put, List.setIfInBounds_toArray, List.set_cons_zero, List.set_cons_succ]
        refine wpAnyH_take (i := 7) (oi := ⟨_, _, _, _, _, _⟩) (v := undef) rfl (by kernel_rfl) (by kernel_rfl) (by kernel_rfl) (fun _ _ _ h => h) (Or.inr ⟨by kernel_rfl, rfl⟩) (by assumption) ?_
        try simp only [Act.put, List.setIfInBounds_toArray, List.set_cons_zero, List.set_cons_succ]
        refine wpAnyH_take (i := 8) (oi := ⟨_, _, _, _, _, _⟩) (v := undef) rfl (by kernel_rfl) (by kernel_rfl) (by kernel_rfl) (fun _ _ _ h => h) (Or.inr ⟨by kernel_rfl, rfl⟩) (by assumption) ?_
        try simp only [Act.put, List.setIfInBounds_toArray, List.set_cons_zero, List.set_cons_succ]
        refine wpAnyH_take (i := 9) (oi := ⟨_, _, _, _, _, _⟩) (v := undef) rfl (by kernel_rfl) (by kernel_rfl) (by kernel_rfl) (fun _ _ _ h => h) (Or.inr ⟨by kernel_rfl, rfl⟩) (by assumption) ?_
        try simp only [Act.put, List.setIfInBounds_toArray, List.set_cons_zero, List.set_cons_succ]
        refine wpAnyH_take (i := 10) (oi := ⟨_, _, _, _, _, _⟩) (v := undef) rfl (by kernel_rfl) (by kernel_rfl) (by kernel_rfl) (fun _ _ _ h => h) (Or.inr ⟨by kernel_rfl, rfl⟩) (by assumption) ?_
        try simp only [Act.put, List.setIfInBounds_toArray, List.set_cons_zero, List.set_cons_succ]
        refine wpAnyH_take (i := 11) (oi := ⟨_, _, _, _, _, _⟩) (v := undef) rfl (by kernel_rfl) (by kernel_rfl) (by kernel_rfl) (fun _ _ _ h => h) (Or.inr ⟨by kernel_rfl, rfl⟩) (by assumption) ?_
        try simp only [Act.put, List.setIfInBounds_toArray, List.set_cons_zero, List.set_cons_succ]
        refine wpAnyH_take (i := 12) (oi := ⟨_, _, _, _, _, _⟩) (v := undef) rfl (by kernel_rfl) (by kernel_rfl) (by kernel_rfl) (fun _ _ _ h => h) (Or.inr ⟨by kernel_rfl, rfl⟩) (by assumption) ?_
        try simp only [Act.put, List.setIfInBounds_toArray, List.set_cons_zero, List.set_cons_succ]
        refine wpAnyH_take (i := 13) (oi := ⟨_, _, _, _, _, _⟩) (v := undef) rfl (by kernel_rfl) (by kernel_rfl) (by kernel_rfl) (fun _ _ _ h => h) (Or.inr ⟨by kernel_rfl, rfl⟩) (by assumption) ?_
        try simp only [Act.put, List.setIfInBounds_toArray, List.set_cons_zero, List.set_cons_succ]
        refine wpAnyH_take (i := 14) (oi := ⟨_, _, _, _, _, _⟩) (v := undef) rfl (by kernel_rfl) (by kernel_rfl) (by kernel_rfl) (fun _ _ _ h => h) (Or.inr ⟨by kernel_rfl, rfl⟩) (by assumption) ?_
        try simp only [Act.put, List.setIfInBounds_toArray, List.set_cons_zero, List.set_cons_succ]
        refine wpAnyH_take (i := 15) (oi := ⟨_, _, _, _, _, _⟩) (v := undef) rfl (by kernel_rfl) (by kernel_rfl) (by kernel_rfl) (fun _ _ _ h => h) (Or.inr ⟨by kernel_rfl, rfl⟩) (by assumption) ?_
        try simp only [Act.put, List.setIfInBounds_toArray, List.set_cons_zero, List.set_cons_succ]
        refine wpAnyH_take (i := 16) (oi := ⟨_, _, _, _, _, _⟩) (v := undef) rfl (by kernel_rfl) (by kernel_rfl) (by kernel_rfl) (fun _ _ _ h => h) (Or.inr ⟨by kernel_rfl, rfl⟩) (by assumption) ?_
        try simp only [Act.put, List.setIfInBounds_toArray, List.set_cons_zero, List.set_cons_succ]
        refine wpAnyH_take (i := 17) (oi := ⟨_, _, _, _, _, _⟩) (v := undef) rfl (by kernel_rfl) (by kernel_rfl) (by kernel_rfl) (fun _ _ _ h => h) (Or.inr ⟨by kernel_rfl, rfl⟩) (by assumption) ?_
        try simp only [Act.put, List.setIfInBounds_toArray, List.set_cons_zero, List.set_cons_succ]
        refine wpAnyH_take (i := 18) (oi := ⟨_, _, _, _, _, _⟩) (v := undef) rfl (by kernel_rfl) (by kernel_rfl) (by kernel_rfl) (fun _ _ _ h => h) (Or.inr ⟨by kernel_rfl, rfl⟩) (by assumption) ?_
        try simp only [Act.put, List.setIfInBounds_toArray, List.set_cons_zero, List.set_cons_succ]
        refine wpAnyH_take (i := 19) (oi := ⟨_, _, _, _, _, _⟩) (v := undef) rfl (by kernel_rfl) (by kernel_rfl) (by kernel_rfl) (fun _ _ _ h => h) (Or.inr ⟨by kernel_rfl, rfl⟩) (by assumption) ?_
        try simp only [Act.put, List.setIfInBounds_toArray, List.set_cons_zero, List.set_cons_succ]
        refine wpAnyH_take (i := 20) (oi := ⟨_, _, _, _, _, _⟩) (v := undef) rfl (by kernel_rfl) (by kernel_rfl) (by kernel_rfl) (fun _ _ _ h => h) (Or.inr ⟨by kernel_rfl, rfl⟩) (by assumption) ?_
        try simp only [Act.put, List.setIfInBounds_toArray, List.set_cons_zero, List.set_cons_succ]
        refine wpAnyH_take (i := 21) (oi := ⟨_, _, _, _, _, _⟩) (v := undef) rfl (by kernel_rfl) (by kernel_rfl) (by kernel_rfl) (fun _ _ _ h => h) (Or.inr ⟨by kernel_rfl, rfl⟩) (by assumption) ?_
        try simp only [Act.put, List.setIfInBounds_toArray, List.set_cons_zero, List.set_cons_succ]
        refine wpAnyH_take (i := 22) (oi := ⟨_, _, _, _, _, _⟩) (v := ?_) rfl (by kernel_rfl) (by kernel_rfl) (by kernel_rfl) (fun _ _ _ h => h) (Or.inl ⟨by rfl, ?_⟩) (by assumption) ?_
        rotate_left
        · (intro w hSw; (try dsimp only at hSw); go_simp); (first | done | with_reducible rfl)
        try simp only [Act.put, List.setIfInBounds_toArray, List.set_cons_zero, List.set_cons_succ]
        clear hHeld
        refine wpAnyH_done (by kernel_rfl) ?_ _
        go_wp2
        go_ret
        exact ⟨ret_bool (by rw [HF.out]; rfl), hb.trans ((Below.drew (Below.refl _ _)).trans (hb'.mono hb.size))⟩
      · cases k with
        | zero =>
          obtain ⟨b, o, Ae, ce, bk, rfl, _, c0, c1, hel, _⟩ := atoms_el (atomsK_good.below h hb) hlt
          have hg := l3Ground_any xs[0] _ _ bk _ (atomK_good.below hel (Below.drew (Below.refl _ _)))
          rw [hf] at hg
          have HN := Lib.hid (okTo_one hlt hf)
          simp only [Nat.zero_mul, Nat.add_zero] at c0 c1
          clear h hf hel
          go_wp2
          refine wp_region_held_drew (S := (fun w' => w'.cell? ⟨b, o, none⟩ = some (.string xs[0].name) ∧ w'.cell? ⟨b, o + 1, none⟩ = some (.slice Ae xs[0].args.length ce))) (by kernel_rfl) ?_ (fun hHeld => ?_)
          · go_keep
          refine wpAnyH_take (i := 0) (oi := ⟨_, _, _, _, _, _⟩) (v := ?_) rfl (by kernel_rfl) (by kernel_rfl) (by kernel_rfl) (fun _ _ _ h => h) (Or.inl ⟨by rfl, ?_⟩) (by assumption) ?_
          rotate_left
          · (intro w hSw; (try dsimp only at hSw); go_simp); (first | done | with_reducible rfl)
          try simp only [Act.put, List.setIfInBounds_toArray, List.set_cons_zero, List.set_cons_succ]
          refine wpAnyH_take (i := 1) (oi := ⟨_, _, _, _, _, _⟩) (v := ?_) rfl (by kernel_rfl) (by kernel_rfl) (by kernel_rfl) (fun _ _ _ h => h) (Or.inl ⟨by rfl, ?_⟩) (by assumption) ?_
          rotate_left
          · (intro w hSw; (try dsimp only at hSw); go_simp); (first | done | with_reducible rfl)
          try simp only [Act.put, List.setIfInBounds_toArray, List.set_cons_zero, List.set_cons_succ]
          refine wpAnyH_take (i := 2) (oi := ⟨_, _, _, _, _, _⟩) (v := ?_) rfl (by kernel_rfl) (by kernel_rfl) (by kernel_rfl) (fun _ _ _ h => h) (Or.inl ⟨by rfl, ?_⟩) (by assumption) ?_
          rotate_left
          · (intro w hSw; (try dsimp only at hSw); go_simp); (first | done | with_reducible rfl)
          try simp only [Act.put, List.setIfInBounds_toArray, List.set_cons_zero, List.set_cons_succ]
          refine wpAnyH_take (i := 3) (oi := ⟨_, _, _, _, _, _⟩) (v := ?_) rfl (by kernel_rfl) (by kernel_rfl) (by kernel_rfl) (fun _ _ _ h => h) (Or.inl ⟨by rfl, ?_⟩) (by assumption) ?_
          rotate_left
          · (intro w hSw; (try dsimp only at hSw); go_simp); (first | done | with_reducible rfl)
          try simp only [Act.put, List.setIfInBounds_toArray, List.set_cons_zero, List.set_cons_succ]
          refine wpAnyH_ready (rs := [4]) (by kernel_rfl) (by simp) ?_
          refine AllReadyH.cons (o := ⟨_, _, _, _, _, _⟩) rfl (fun K hK => ?_) AllReadyH.nil
          rw [if_pos (by rfl)]
          go_simp
          go_at_call 126
          refine hg.mono ?_
          rintro e w' ⟨rfl, hb'⟩
          clear hHeld
          refine hK.out _ _ ?_ (fun hHeld => ?_)
          · exact ⟨cell_later hb' c0, cell_later hb' c1⟩
          clear hK
          clear K
          try simp only [Act.put, List.setIfInBounds_toArray, List.set_cons_zero, List.set_cons_succ]
          refine wpAnyH_take (i := 5) (oi := ⟨_, _, _, _, _, _⟩) (v := ?_) rfl (by kernel_rfl) (by kernel_rfl) (by kernel_rfl) (fun _ _ _ h => h) (Or.inl ⟨by rfl, ?_⟩) (by assumption) ?_
          rotate_left
          · (intro w hSw; (try dsimp only at hSw); go_simp); (first | done | with_reducible rfl)
          try simp only [Act.put, List.setIfInBounds_toArray, List.set_cons_zero, List.set_cons_succ]
          refine wpAnyH_take (i := 6) (oi := ⟨_, _, _, _, _, _⟩) (v := ?_) rfl (by kernel_rfl) (by kernel_rfl) (by kernel_rfl) (fun _ _ _ h => h) (Or.inl ⟨by rfl, ?_⟩) (by assumption) ?_
          rotate_left
          · (intro w hSw; (try dsimp only at hSw); go_simp); (first | done | with_reducible rfl)
          try simp only [Act.put, List.setIfInBounds_toArray, List.set_cons_zero, List.set_cons_succ]
          refine wpAnyH_take (i := 7) (oi := ⟨_, _, _, _, _, _⟩) (v := ?_) rfl (by kernel_rfl) (by kernel_rfl) (by kernel_rfl) (fun _ _ _ h => h) (Or.inl ⟨by rfl, ?_⟩) (by assumption) ?_
          rotate_left
          · (intro w hSw; (try dsimp only at hSw); go_simp); (first | done | with_reducible rfl)
          try simp only [Act.put, List.setIfInBounds_toArray, List.set_cons_zero, List.set_cons_succ]
          refine wpAnyH_take (i := 8) (oi := ⟨_, _, _, _, _, _⟩) (v := ?_) rfl (by kernel_rfl) (by kernel_rfl) (by kernel_rfl) (fun _ _ _ h => h) (Or.inl ⟨by rfl, ?_⟩) (by assumption) ?_
          rotate_left
          · (intro w hSw; (try dsimp only at hSw); go_simp); (first | done | with_reducible rfl)
          try simp only [Act.put, List.setIfInBounds_toArray, List.set_cons_zero, List.set_cons_succ]
          refine wpAnyH_take (i := 9) (oi := ⟨_, _, _, _, _, _⟩) (v := ?_) rfl (by kernel_rfl) (by kernel_rfl) (by kernel_rfl) (fun _ _ _ h => h) (Or.inl ⟨by rfl, ?_⟩) (by assumption) ?_
          rotate_left
          · (intro w hSw; (try dsimp only at hSw); go_simp); (first | done | with_reducible rfl)
          try simp only [Act.put, List.setIfInBounds_toArray, List.set_cons_zero, List.set_cons_succ]
          refine wpAnyH_take (i := 10) (oi := ⟨_, _, _, _, _, _⟩) (v := undef) rfl (by kernel_rfl) (by kernel_rfl) (by kernel_rfl) (fun _ _ _ h => h) (Or.inr ⟨by kernel_rfl, rfl⟩) (by assumption) ?_
          try simp only [Act.put, List.setIfInBounds_toArray, List.set_cons_zero, List.set_cons_succ]
          refine wpAnyH_take (i := 11) (oi := ⟨_, _, _, _, _, _⟩) (v := undef) rfl (by kernel_rfl) (by kernel_rfl) (by kernel_rfl) (fun _ _ _ h => h) (Or.inr ⟨by kernel_rfl, rfl⟩) (by assumption) ?_
          try simp only [Act.put, List.setIfInBounds_toArray, List.set_cons_zero, List.set_cons_succ]
          refine wpAnyH_take (i := 12) (oi := ⟨_, _, _, _, _, _⟩) (v := undef) rfl (by kernel_rfl) (by kernel_rfl) (by kernel_rfl) (fun _ _ _ h => h) (Or.inr ⟨by kernel_rfl, rfl⟩) (by assumption) ?_
          try simp only [Act.put, List.setIfInBounds_toArray, List.set_cons_zero, List.set_cons_succ]
          refine wpAnyH_take (i := 13) (oi := ⟨_, _, _, _, _, _⟩) (v := undef) rfl (by kernel_rfl) (by kernel_rfl) (by kernel_rfl) (fun _ _ _ h => h) (Or.inr ⟨by kernel_rfl, rfl⟩) (by assumption) ?_
          try simp only [Act.put, List.setIfInBounds_toArray, List.set_cons_zero, List.set_cons_succ]
          refine wpAnyH_take (i := 14) (oi := ⟨_, _, _, _, _, _⟩) (v := undef) rfl (by kernel_rfl) (by kernel_rfl) (by kernel_rfl) (fun _ _ _ h => h) (Or.inr ⟨by kernel_rfl, rfl⟩) (by assumption) ?_
          try simp only [Act.put, List.setIfInBounds_toArray, List.set_cons_zero, List.set_cons_succ]
          refine wpAnyH_take (i := 15) (oi := ⟨_, _, _, _, _, _⟩) (v := undef) rfl (by kernel_rfl) (by kernel_rfl) (by kernel_rfl) (fun _ _ _ h => h) (Or.inr ⟨by kernel_rfl, rfl⟩) (by assumption) ?_
          try simp only [Act.put, List.setIfInBounds_toArray, List.set_cons_zero, List.set_cons_succ]
          refine wpAnyH_take (i := 16) (oi := ⟨_, _, _, _, _, _⟩) (v := undef) rfl (by kernel_rfl) (by kernel_rfl) (by kernel_rfl) (fun _ _ _ h => h) (Or.inr ⟨by kernel_rfl, rfl⟩) (by assumption) ?_
          try simp only [Act.put, List.setIfInBounds_toArray, List.set_cons_zero, List.set_cons_succ]
          refine wpAnyH_take (i := 17) (oi := ⟨_, _, _, _, _, _⟩) (v := undef) rfl (by kernel_rfl) (by kernel_rfl) (by kernel_rfl) (fun _ _ _ h => h) (Or.inr ⟨by kernel_rfl, rfl⟩) (by assumption) ?_
          try simp only [Act.put, List.setIfInBounds_toArray, List.set_cons_zero, List.set_cons_succ]
          refine wpAnyH_take (i := 18) (oi := ⟨_, _, _, _, _, _⟩) (v := undef) rfl (by kernel_rfl) (by kernel_rfl) (by kernel_rfl) (fun _ _ _ h => h) (Or.inr ⟨by kernel_rfl, rfl⟩) (by assumption) ?_
          try simp only [Act.put, List.setIfInBounds_toArray, List.set_cons_zero, List.set_cons_succ]
          refine wpAnyH_take (i := 19) (oi := ⟨_, _, _, _, _, _⟩) (v := undef) rfl (by kernel_rfl) (by kernel_rfl) (by kernel_rfl) (fun _ _ _ h => h) (Or.inr ⟨by kernel_rfl, rfl⟩) (by assumption) ?_
          try simp only [Act.put, List.setIfInBounds_toArray, List.set_cons_zero, List.set_cons_succ]
          refine wpAnyH_take (i := 20) (oi := ⟨_, _, _, _, _, _⟩) (v := undef) rfl (by kernel_rfl) (by kernel_rfl) (by kernel_rfl) (fun _ _ _ h => h) (Or.inr ⟨by kernel_rfl, rfl⟩) (by assumption) ?_
          try simp only [Act.put, List.setIfInBounds_toArray, List.set_cons_zero, List.set_cons_succ]
          refine wpAnyH_take (i := 21) (oi := ⟨_, _, _, _, _, _⟩) (v := ?_) rfl (by kernel_rfl) (by kernel_rfl) (by kernel_rfl) (fun _ _ _ h => h) (Or.inl ⟨by rfl, ?_⟩) (by assumption) ?_
          rotate_left
          · (intro w hSw; (try dsimp only at hSw); go_simp); (first | done | with_reducible rfl)
          try simp only [Act.put, List.setIfInBounds_toArray, List.set_cons_zero, List.set_cons_succ]
          refine wpAnyH_take (i := 22) (oi := ⟨_, _, _, _, _, _⟩) (v := ?_) rfl (by kernel_rfl) (by kernel_rfl) (by kernel_rfl) (fun _ _ _ h => h) (Or.inl ⟨by rfl, ?_⟩) (by assumption) ?_
          rotate_left
          · (intro w hSw; (try dsimp only at hSw); go_simp); (first | done | with_reducible rfl)
          try simp only [Act.put, List.setIfInBounds_toArray, List.set_cons_zero, List.set_cons_succ]
          clear hHeld
          refine wpAnyH_done (by kernel_rfl) ?_ _
          go_wp2
          go_roundw
          case rel => exact ⟨1, by omega, by go_num, HN.out, hb.trans ((Below.drew (Below.refl _ _)).trans (hb'.mono hb.size))⟩
          case measure => simp [intOf]; omega
        | succ j =>
          have hlj : j < xs.length := by omega
          have HS := Lib.hid (fun hc => okTo_step (xs := xs) (k := j) HA.out hlt hf hc)
          have HB := Lib.hid (fun hc => okB_bad2 (xs := xs) (k := j) hlt hc)
          obtain ⟨k, hkj⟩ : ∃ k, k = j + 1 := ⟨_, rfl⟩
          have hw1 : IntKind.i64.wrap ((k : Int) - 1) = (j : Int) := (IntWalk.i64_in _ ⟨by omega, by omega⟩).trans (by omega)
          have hK := Lib.hid hkj
          rw [show ((j + 1 : Nat) : Int) = (k : Int) by rw [hkj]] at hk0 hk1 ⊢
          have hlt' : k < xs.length := by omega
          have hxk : xs[j + 1] = xs[k]'hlt' := by simp only [hkj]
          rw [hxk] at hf HS HB
          clear HA hxk
          have hx1 : (0 : Int) ≤ (j : Int) := by omega
          have hx2 : (j : Int) < (xs.length : Int) := by omega
          have hp0 : 0 < k := by omega
          have hp1 : (0 : Int) < (k : Int) := by omega
          clear hkj
          obtain ⟨b, o, Ae, ce, bk, Af, cf, bm, rfl, c0, c1, hel, d0, d1, hem⟩ := atoms_two (atomsK_good.below h hb) hlj hlt'
          have hD : Below wr.heap.size wr wr.drew := Below.drew (Below.refl _ _)
          have hg := l3Ground_any xs[k] _ _ bm _ (atomK_good.below hem hD)
          have hcm := fun w' (hb' : Below wr.heap.size wr w') => l1Cmp_any xs[j] xs[k] _ _ _ _ bk bm w' (atomK_good.below hel hb') (atomK_good.below hem hb')
          rw [hf] at hg
          clear h hf hel hem
          by_cases hc : cmpA xs[j] xs[k] < 0
          · have hc' : ¬ 0 ≤ cmpA xs[j] xs[k] := by omega
            have HC := Lib.hid (HS.out hc)
            clear hc
            go_wp2
            go_region_held3 (fun w' => w'.cell? ⟨b, o + j * 2, none⟩ = some (.string xs[j].name) ∧ w'.cell? ⟨b, o + j * 2 + 1, none⟩ = some (.slice Ae xs[j].args.length ce) ∧ w'.cell? ⟨b, o + k * 2, none⟩ = some (.string xs[k].name) ∧ w'.cell? ⟨b, o + k * 2 + 1, none⟩ = some (.slice Af xs[k].args.length cf))
              (first | go_keep | exact ⟨x0, x1, x2, x3⟩ | exact ⟨y0, y1, y2, y3⟩)
              (first
                | (go_at_call 126; refine hg.mono ?_; rintro e w1 ⟨rfl, hb1⟩; have x0 := cell_later hb1 c0; have x1 := cell_later hb1 c1; have x2 := cell_later hb1 d0; have x3 := cell_later hb1 d1; have B1 := hD.trans hb1)
                | (go_at_call 127; refine (hcm _ B1).mono ?_; rintro e w2 ⟨rfl, hb2⟩; have y0 := cell_later hb2 x0; have y1 := cell_later hb2 x1; have y2 := cell_later hb2 x2; have y3 := cell_later hb2 x3; have B2 := B1.trans (hb2.mono B1.size)))
            go_wp2
            go_roundw
            case rel => exact ⟨k + 1, by omega, by go_num, by rw [hK.out]; exact HC.out, hb.trans (B2.mono hb.size)⟩
            case measure => have := hK.out; simp [intOf]; omega
          · have hc' : 0 ≤ cmpA xs[j] xs[k] := by omega
            have HC := Lib.hid (HB.out hc)
            clear hc
            go_wp2
            go_region_held3 (fun w' => w'.cell? ⟨b, o + j * 2, none⟩ = some (.string xs[j].name) ∧ w'.cell? ⟨b, o + j * 2 + 1, none⟩ = some (.slice Ae xs[j].args.length ce) ∧ w'.cell? ⟨b, o + k * 2, none⟩ = some (.string xs[k].name) ∧ w'.cell? ⟨b, o + k * 2 + 1, none⟩ = some (.slice Af xs[k].args.length cf))
              (first | go_keep | exact ⟨x0, x1, x2, x3⟩ | exact ⟨y0, y1, y2, y3⟩)
              (first
                | (go_at_call 126; refine hg.mono ?_; rintro e w1 ⟨rfl, hb1⟩; have x0 := cell_later hb1 c0; have x1 := cell_later hb1 c1; have x2 := cell_later hb1 d0; have x3 := cell_later hb1 d1; have B1 := hD.trans hb1)
                | (go_at_call 127; refine (hcm _ B1).mono ?_; rintro e w2 ⟨rfl, hb2⟩; have y0 := cell_later hb2 x0; have y1 := cell_later hb2 x1; have y2 := cell_later hb2 x2; have y3 := cell_later hb2 x3; have B2 := B1.trans (hb2.mono B1.size)))
            go_wp2
            go_ret
            exact ⟨ret_bool (by rw [HC.out]; rfl), hb.trans (B2.mono hb.size)⟩
    · have he := Lib.hid (show k = xs.length by omega)
      by_cases hle : xs.length ≤ m
      · have hle' : (xs.length : Int) ≤ (m : Int) := by omega
        go_wp2
        go_ret
        exact ⟨ret_bool (by have := HA.out; rw [he.out] at this; rw [okB_end this, decide_eq_true hle]; rfl), hb⟩
      · have hle' : ¬ (xs.length : Int) ≤ (m : Int) := by omega
        go_wp2
        go_ret
        exact ⟨ret_bool (by simp), hb⟩

end Go.Proofs.YtjjfafgaphloaaaGreatDoor

namespace Go.Proofs.YtjjfafgaphloaaaGreatDoor
open Go.RowKit D
set_option linter.unusedVariables false
attribute [local go_sem ↓] Go.wp_at_zero Go.wp_at_succ
theorem infoPart : (Tryz.prog.info? 148).map (fun i => (i.zero, i.size, i.bytes)) = some (some (.agg #[.bool false, .string ⟨#[]⟩, .slice none 0 0]), 3, 48) := by kernel_rfl

set_option maxHeartbeats 400000 in
theorem szPartS_any (ts : List Pt) (v : Value) (bs : List Nat) (left : Int) (w : World) (h : partsK w [v] ts bs) (h0 : 0 ≤ left) (h1 : left ≤ 1048576) :
    Calls Tryz.prog 86 #[v, .int .i64 left] w (Left left (bulkPts ts) w.heap.size w) := by
  obtain ⟨Ad, cap, rfl, hl, hm⟩ := sliceK_form h
  have hlm := nat_ge_max (Nat.le_trans hl hm)
  have hbk : bulkPts ts = ts.length + sumL bulkPt ts := rfl
  have HB := Lib.hid hbk
  clear hm hbk
  go_enter Tryz.func86, Tryz.ntmps86
  go_wp2
  · go_ret
    exact ⟨Below.refl _ _, _, rfl, .inl rfl⟩
  · go_loopw [1, 5] (fun l i wr => ∃ (k : Nat) (m : Int), k ≤ ts.length ∧ i = .int .i64 k ∧ l = .int .i64 m ∧ 0 ≤ m ∧ m ≤ 1048576 ∧ m + ts.length + sumL bulkPt (ts.take k) = left ∧ Below w.heap.size w wr) (fun _ i _ => ts.length - (intOf i).toNat)
    case atStart => exact ⟨0, _, Nat.zero_le _, rfl, rfl, by assumption, by omega, by simp [sumL], Below.refl _ _⟩
    case round =>
      obtain ⟨k, m, hk, rfl, rfl, hm0, hm1, hsum, hb⟩ := hrel
      have HS := Lib.hid hsum
      clear hsum
      by_cases hlt : k < ts.length
      · have hw := partsK_good.below h hb
        obtain ⟨b, o, Ae, ce, bk, rfl, _, c0, c1, c2, hel, _⟩ := parts_el hw hlt
        have HT := Lib.hid (sumL_snoc bulkPt ts k hlt)
        clear h hw
        generalize ts[k] = t at *
        go_wp2_with fail
        refine (szPart_any t _ _ _ bk m _ hel hm0 hm1).mono ?_
        rintro e w' ⟨hb', r, rfl, hr⟩
        clear hel
        go_wp2
        · rcases hr with rfl | ⟨_, _⟩
          · go_ret
            exact ⟨hb.trans (hb'.mono hb.size), _, rfl, .inl rfl⟩
          · exfalso; omega
        · rcases hr with rfl | ⟨hr0, hr1⟩
          · exfalso; omega
          · have := HS.out
            have := HT.out
            go_roundw
            case rel => exact ⟨k + 1, r, by omega, by go_num, rfl, hr0, by omega, by omega, hb.trans (hb'.mono hb.size)⟩
            case measure => simp [intOf]; omega
      · have he : k = ts.length := by omega
        go_wp2
        go_ret
        refine ⟨hb, _, rfl, .inr ⟨hm0, ?_⟩⟩
        have := HS.out
        rw [he, List.take_of_length_le (Nat.le_refl _)] at this
        rw [HB.out]
        omega

set_option maxHeartbeats 400000 in
theorem toPartS_any (ts : List Pt) (v : Value) (bs : List Nat) (w : World) (h : partsK w [v] ts bs) (hn : bulkPts ts ≤ 1048576) :
    Calls Tryz.prog 88 #[v] w (Makes partsK ts w.heap.size w) := by
  obtain ⟨Ad, cap, rfl, hl, hm⟩ := sliceK_form h
  obtain ⟨i0, hi, hz0, hz1, hz2⟩ := info_parts infoPart
  have hn2 : ts.length + sumL bulkPt ts ≤ 1048576 := hn
  clear hm
  go_enter Tryz.func88, Tryz.ntmps88
  go_wp2_with (refine wpList_make_full _ rfl _ _ _ rfl w.heap.size 148 i0 _ 3 Tryz.underlying51 hi hz0 hz1 _ _ _ _ ts.length rfl rfl rfl rfl (by rw [hz2]; omega) (by unfold maxLen; omega) (Nat.le_refl _) ?_; intro w1 hown hgrow)
  have hb1 : Below w.heap.size w w1 := (Below.refl _ _).grown hgrow (Nat.le_refl _) (fun _ e => by cases e)
  have hg1 : w.heap.size < w1.heap.size := (hown.lt _ rfl).2
  clear hgrow
  go_loopw [4] (fun i wr => ∃ (k : Nat) (L : List Value) (bs' : List Nat), k ≤ ts.length ∧ i = .int .i64 k ∧ wr.ownsRow w.heap.size 148 3 (.slice (some ⟨w.heap.size, 0, none⟩) ts.length ts.length) ts.length L ∧
      Filled 3 partK w1.heap.size wr L ts k bs' ∧ Below w.heap.size w wr ∧ w1.heap.size ≤ wr.heap.size) (fun i _ => ts.length - (intOf i).toNat)
  case atStart => exact ⟨0, _, _, Nat.zero_le _, rfl, hown, Filled.start, hb1, Nat.le_refl _⟩
  case round =>
    obtain ⟨k, L, bs', hk, rfl, how, hF, hb, hsz⟩ := hrel
    clear hown hb1
    by_cases hlt : k < ts.length
    · have hw := partsK_good.below h hb
      obtain ⟨b, o, Ae, ce, bk, rfl, _, c0, c1, c2, hel, _⟩ := parts_el hw hlt
      have hle : bulkPt ts[k] ≤ 1048576 := by have := sumL_at bulkPt ts k hlt; omega
      have HK := Lib.hid hF
      clear h hw hF
      have hL := Lib.hid how.1
      go_wp2_with fail
      refine (toPart_b ts[k] _ _ _ bk _ hel hle).mono ?_
      rintro e w' ⟨hb', cs', b2, rfl, hR, hN⟩
      obtain ⟨Ae', ce', rfl⟩ := part_cells hR
      have how' := own_below how hb'
      obtain ⟨⟨u0, hu0⟩, hf0⟩ := own_slot how' (j := k * 3) (by omega)
      obtain ⟨⟨u1, hu1⟩, hf1⟩ := own_slot how' (j := k * 3 + 1) (by omega)
      obtain ⟨⟨u2, hu2⟩, hf2⟩ := own_slot how' (j := k * 3 + 2) (by omega)
      obtain ⟨R1, R2, R3, R4⟩ := fill3 partK_good how HK.out hlt hb hb' hg1 (Nat.le_refl _) hsz hR hN
      clear how' hel hR hN
      go_wp2
      go_roundw
      case rel => exact ⟨k + 1, _, _, by omega, by go_num, R1, R2, R3, R4⟩
      case measure => simp [intOf]; omega
    · have he : k = ts.length := by omega
      subst he
      have HF := Lib.hid hF
      clear hF
      go_wp2
      go_ret
      obtain ⟨b2, r1, r2, r3, r4⟩ := HF.out.slice how (fun hm => by have := (HF.out.new.own _ hm).1; omega)
      refine ⟨hb, _, b2, rfl, r1, r2, fun b hb' => ⟨?_, r4 b hb'⟩⟩
      rcases r3 b hb' with ⟨rfl, h⟩ | h
      · exact h
      · have := (HF.out.new.own b h).1; omega

end Go.Proofs.YtjjfafgaphloaaaGreatDoor
