/- Of the proof of FnOnce: Facts, RsInv. -/
import Derived.Test.YtjjfafgaphloaaaGreatDoorM21
import Derived.Test.YtjjfafgaphloaaaGreatDoorM22
namespace Go.Proofs.YtjjfafgaphloaaaGreatDoor
open Go.RowKit D
set_option linter.unusedVariables false
set_option linter.unusedSimpArgs false
attribute [local go_sem ↓] Go.wp_at_zero Go.wp_at_succ
set_option maxHeartbeats 2000000 in
theorem l3Ok_any (xs : List A) (v : Value) (bs : List Nat) (m : Nat) (w : World) (h : atomsK w [v] xs bs) (hmost : m ≤ 1000) :
    Calls Tryz.prog 84 #[v, .int .i64 m] w fun e w' => e = .returned (.bool (okB xs && decide (xs.length ≤ m))) ∧ Below w.heap.size w w' := by
  obtain ⟨Ad, cap, rfl, hl, hm⟩ := sliceK_form h
  have hlm := nat_ge_max (Nat.le_trans hl hm)
  clear hm
  go_enter Tryz.func84, Tryz.ntmps84
  go_wp2
  go_loopw [5] (fun i wr => ∃ k : Nat, k ≤ xs.length ∧ i = .int .i64 k ∧ okTo xs k ∧ Below w.heap.size w wr) (fun i _ => xs.length - (intOf i).toNat)
  case atStart => exact ⟨0, Nat.zero_le _, rfl, okTo_zero _, Below.refl _ _⟩
  case round =>
    obtain ⟨k, hk, rfl, hall, hb⟩ := hrel
    have HA := Lib.hid hall
    clear hall
    by_cases hlt : k < xs.length
    · have hk0 : (0 : Int) ≤ (k : Int) := by omega
      have hk1 : (k : Int) < (xs.length : Int) := by omega
      cases hf : isFactB xs[k]
      · have HF := Lib.hid (okB_bad hlt hf)
        obtain ⟨b, o, Ae, ce, bk, rfl, _, c0, c1, hel, _⟩ := atoms_el (atomsK_good.below h hb) hlt
        have hg := l3Ground_any xs[k] _ _ bk _ (atomK_good.below hel (Below.drew (Below.refl _ _)))
        rw [hf] at hg
        clear h hf hel
        go_wp2
        refine wp_region_held_drew (S := (fun w' => w'.cell? ⟨b, o + k * 2, none⟩ = some (.string xs[k].name) ∧ w'.cell? ⟨b, o + k * 2 + 1, none⟩ = some (.slice Ae xs[k].args.length ce))) (by kernel_rfl) ?_ (fun hHeld => ?_)
        · go_keep
        refine wpAnyH_take (i := 0) (oi := ⟨_, _, _, _, _, _⟩) (v := ?_) rfl (by kernel_rfl) (by kernel_rfl) (by kernel_rfl) (fun _ _ _ h => h) (Or.inl ⟨by rfl, ?_⟩) (by assumption) ?_
        rotate_left
        · (intro w hSw; (try dsimp only at hSw); go_simp); (first | done | with_reducible rfl)
        try simp only [Act.put, List.setIfInBounds_toArray, List.set_cons_zero, List.set_cons_succ]
        refine wpAnyH_take (i := 1) (oi := ⟨_, _, _, _, _, _⟩) (v := ?_) rfl (by kernel_rfl) (by kernel_rfl) (by kernel_rfl) (fun _ _ _ h => h) (Or.inl ⟨by rfl, ?_⟩) (by assumption) ?_
        rotate_left
        · (intro w hSw; (try dsimp only at hSw); go_simp); (first | done | with_reducible rfl)
        try simp only [Act.put, List.setIfInBounds_toArray, List.set_cons_zero, List.set_cons_succ]
        refine wpAnyH_take (i := 2) (oi := ⟨_, _, _, _, _, _⟩) (v := ?_) rfl (by kernel_rfl) (by kernel_rfl) (by kernel_rfl) (fun _ _ _ h => h) (Or.inl ⟨by rfl, ?_⟩) (by assumption) ?_
        rotate_left
        · (intro w hSw; (try dsimp only at hSw); go_simp); (first | done | with_reducible rfl)
        try simp only [Act.put, List.setIfInBounds_toArray, List.set_cons_zero, List.set_cons_succ]
        refine wpAnyH_take (i := 3) (oi := ⟨_, _, _, _, _, _⟩) (v := ?_) rfl (by kernel_rfl) (by kernel_rfl) (by kernel_rfl) (fun _ _ _ h => h) (Or.inl ⟨by rfl, ?_⟩) (by assumption) ?_
        rotate_left
        · (intro w hSw; (try dsimp only at hSw); go_simp); (first | done | with_reducible rfl)
        try simp only [Act.put, List.setIfInBounds_toArray, List.set_cons_zero, List.set_cons_succ]
        refine wpAnyH_ready (rs := [4]) (by kernel_rfl) (by simp) ?_
        refine AllReadyH.cons (o := ⟨_, _, _, _, _, _⟩) rfl (fun K hK => ?_) AllReadyH.nil
        rw [if_pos (by rfl)]
        go_simp
        go_at_call 126
        refine hg.mono ?_
        rintro e w' ⟨rfl, hb'⟩
        clear hHeld
        refine hK.out _ _ ?_ (fun hHeld => ?_)
        · exact ⟨cell_later hb' c0, cell_later hb' c1⟩
        clear hK
        clear K
        try simp only [Act.put, List.setIfInBounds_toArray, List.set_cons_zero, List.set_cons_succ]
        refine wpAnyH_take (i := 5) (oi := ⟨_, _, _, _, _, _⟩) (v := ?_) rfl (by kernel_rfl) (by kernel_rfl) (by kernel_rfl) (fun _ _ _ h => h) (Or.inl ⟨by rfl, ?_⟩) (by assumption) ?_
        rotate_left
        · (intro w hSw; (try dsimp only at hSw); go_simp); (first | done | with_reducible rfl)
        try simp only [Act.put, List.setIfInBounds_toArray, List.set_cons_zero, List.set_cons_succ]
        refine wpAnyH_take (i := 6) (oi := ⟨_, _, _, _, _, _⟩) (v := ?_) rfl (by kernel_rfl) (by kernel_rfl) (by kernel_rfl) (fun _ _ _ h => h) (Or.inl ⟨by rfl, ?_⟩) (by assumption) ?_
        rotate_left
        · (intro w hSw; (try dsimp only at hSw); go_simp); (first | done | with_reducible rfl)
        try simp only [Act.put, List.setIfInBounds_toArray, List.set_cons_zero, List.set_cons_succ]
        refine wpAnyH_take (i := 7) (oi := ⟨_, _, _, _, _, _⟩) (v := undef) rfl (by kernel_rfl) (by kernel_rfl) (by kernel_rfl) (fun _ _ _ h => h) (Or.inr ⟨by kernel_rfl, rfl⟩) (by assumption) ?_
        try simp only [Act.put, List.setIfInBounds_toArray, List.set_cons_zero, List.set_cons_succ]
        refine wpAnyH_take (i := 8) (oi := ⟨_, _, _, _, _, _⟩) (v := undef) rfl (by kernel_rfl) (by kernel_rfl) (by kernel_rfl) (fun _ _ _ h => h) (Or.inr ⟨by kernel_rfl, rfl⟩) (by assumption) ?_
        try simp only [Act.put, List.setIfInBounds_toArray, List.set_cons_zero, List.set_cons_succ]
        refine wpAnyH_take (i := 9) (oi := ⟨_, _, _, _, _, _⟩) (v := undef) rfl (by kernel_rfl) (by kernel_rfl) (by kernel_rfl) (fun _ _ _ h => h) (Or.inr ⟨by kernel_rfl, rfl⟩) (by assumption) ?_
        try simp only [Act.put, List.setIfInBounds_toArray, List.set_cons_zero, List.set_cons_succ]
        refine wpAnyH_take (i := 10) (oi := ⟨_, _, _, _, _, _⟩) (v := undef) rfl (by kernel_rfl) (by kernel_rfl) (by kernel_rfl) (fun _ _ _ h => h) (Or.inr ⟨by kernel_rfl, rfl⟩) (by assumption) ?_
        try simp only [Act.put, List.setIfInBounds_toArray, List.set_cons_zero, List.set_cons_succ]
        refine wpAnyH_take (i := 11) (oi := ⟨_, _, _, _, _, _⟩) (v := undef) rfl (by kernel_rfl) (by kernel_rfl) (by kernel_rfl) (fun _ _ _ h => h) (Or.inr ⟨by kernel_rfl, rfl⟩) (by assumption) ?_
        try simp only [Act.put, List.setIfInBounds_toArray, List.set_cons_zero, List.set_cons_succ]
        refine wpAnyH_take (i := 12) (oi := ⟨_, _, _, _, _, _⟩) (v := undef) rfl (by kernel_rfl) (by kernel_rfl) (by kernel_rfl) (fun _ _ _ h => h) (Or.inr ⟨by kernel_rfl, rfl⟩) (by assumption) ?_
        try simp only [Act.put, List.setIfInBounds_toArray, List.set_cons_zero, List.set_cons_succ]
        refine wpAnyH_take (i := 13) (oi := ⟨_, _, _, _, _, _⟩) (v := undef) rfl (by kernel_rfl) (by kernel_rfl) (by kernel_rfl) (fun _ _ _ h => h) (Or.inr ⟨by kernel_rfl, rfl⟩) (by assumption) ?_
        try simp only [Act.put, List.setIfInBounds_toArray, List.set_cons_zero, List.set_cons_succ]
        refine wpAnyH_take (i := 14) (oi := ⟨_, _, _, _, _, _⟩) (v := undef) rfl (by kernel_rfl) (by kernel_rfl) (by kernel_rfl) (fun _ _ _ h => h) (Or.inr ⟨by kernel_rfl, rfl⟩) (by assumption) ?_
        try simp only [Act.put, List.setIfInBounds_toArray, List.set_cons_zero, List.set_cons_succ]
        refine wpAnyH_take (i := 15) (oi := ⟨_, _, _, _, _, _⟩) (v := undef) rfl (by kernel_rfl) (by kernel_rfl) (by kernel_rfl) (fun _ _ _ h => h) (Or.inr ⟨by kernel_rfl, rfl⟩) (by assumption) ?_
        try simp only [Act.put, List.setIfInBounds_toArray, List.set_cons_zero, List.set_cons_succ]
        refine wpAnyH_take (i := 16) (oi := ⟨_, _, _, _, _, _⟩) (v := undef) rfl (by kernel_rfl) (by kernel_rfl) (by kernel_rfl) (fun _ _ _ h => h) (Or.inr ⟨by kernel_rfl, rfl⟩) (by assumption) ?_
        try simp only [Act.put, List.setIfInBounds_toArray, List.set_cons_zero, List.set_cons_succ]
        refine wpAnyH_take (i := 17) (oi := ⟨_, _, _, _, _, _⟩) (v := undef) rfl (by kernel_rfl) (by kernel_rfl) (by kernel_rfl) (fun _ _ _ h => h) (Or.inr ⟨by kernel_rfl, rfl⟩) (by assumption) ?_
        try simp only [Act.put, List.setIfInBounds_toArray, List.set_cons_zero, List.set_cons_succ]
        refine wpAnyH_take (i := 18) (oi := ⟨_, _, _, _, _, _⟩) (v := undef) rfl (by kernel_rfl) (by kernel_rfl) (by kernel_rfl) (fun _ _ _ h => h) (Or.inr ⟨by kernel_rfl, rfl⟩) (by assumption) ?_
        try simp only [Act.put, List.setIfInBounds_toArray, List.set_cons_zero, List.set_cons_succ]
        refine wpAnyH_take (i := 19) (oi := ⟨_, _, _, _, _, _⟩) (v := undef) rfl (by kernel_rfl) (by kernel_rfl) (by kernel_rfl) (fun _ _ _ h => h) (Or.inr ⟨by kernel_rfl, rfl⟩) (by assumption) ?_
        try simp only [Act.put, List.setIfInBounds_toArray, List.set_cons_zero, List.set_cons_succ]
        refine wpAnyH_take (i := 20) (oi := ⟨_, _, _, _, _, _⟩) (v := undef) rfl (by kernel_rfl) (by kernel_rfl) (by kernel_rfl) (fun _ _ _ h => h) (Or.inr ⟨by kernel_rfl, rfl⟩) (by assumption) ?_
        try simp only [Act.put, List.setIfInBounds_toArray, List.set_cons_zero, List.set_cons_succ]
        refine wpAnyH_take (i := 21) (oi := ⟨_, _, _, _, _, _⟩) (v := undef) rfl (by kernel_rfl) (by kernel_rfl) (by kernel_rfl) (fun _ _ _ h => h) (Or.inr ⟨by kernel_rfl, rfl⟩) (by assumption) ?_
        try simp only [Act.put, List.setIfInBounds_toArray, List.set_cons_zero, List.set_cons_succ]
        refine wpAnyH_take (i := 22) (oi := ⟨_, _, _, _, _, _⟩) (v := ?_) rfl (by kernel_rfl) (by kernel_rfl) (by kernel_rfl) (fun _ _ _ h => h) (Or.inl ⟨by rfl, ?_⟩) (by assumption) ?_
        rotate_left
        · (intro w hSw; (try dsimp only at hSw); go_simp); (first | done | with_reducible rfl)
        try simp only [Act.put, List.setIfInBounds_toArray, List.set_cons_zero, List.set_cons_succ]
        clear hHeld
        refine wpAnyH_done (by kernel_rfl) ?_ _
        go_wp2
        go_ret
        exact ⟨ret_bool (by rw [HF.out]; rfl), hb.trans ((Below.drew (Below.refl _ _)).trans (hb'.mono hb.size))⟩
      · cases k with
        | zero =>
          obtain ⟨b, o, Ae, ce, bk, rfl, _, c0, c1, hel, _⟩ := atoms_el (atomsK_good.below h hb) hlt
          have hg := l3Ground_any xs[0] _ _ bk _ (atomK_good.below hel (Below.drew (Below.refl _ _)))
          rw [hf] at hg
          have HN := Lib.hid (okTo_one hlt hf)
          simp only [Nat.zero_mul, Nat.add_zero] at c0 c1
          clear h hf hel
          go_wp2
          refine wp_region_held_drew (S := (fun w' => w'.cell? ⟨b, o, none⟩ = some (.string xs[0].name) ∧ w'.cell? ⟨b, o + 1, none⟩ = some (.slice Ae xs[0].args.length ce))) (by kernel_rfl) ?_ (fun hHeld => ?_)
          · go_keep
          refine wpAnyH_take (i := 0) (oi := ⟨_, _, _, _, _, _⟩) (v := ?_) rfl (by kernel_rfl) (by kernel_rfl) (by kernel_rfl) (fun _ _ _ h => h) (Or.inl ⟨by rfl, ?_⟩) (by assumption) ?_
          rotate_left
          · (intro w hSw; (try dsimp only at hSw); go_simp); (first | done | with_reducible rfl)
          try simp only [Act.put, List.setIfInBounds_toArray, List.set_cons_zero, List.set_cons_succ]
          refine wpAnyH_take (i := 1) (oi := ⟨_, _, _, _, _, _⟩) (v := ?_) rfl (by kernel_rfl) (by kernel_rfl) (by kernel_rfl) (fun _ _ _ h => h) (Or.inl ⟨by rfl, ?_⟩) (by assumption) ?_
          rotate_left
          · (intro w hSw; (try dsimp only at hSw); go_simp); (first | done | with_reducible rfl)
          try simp only [Act.put, List.setIfInBounds_toArray, List.set_cons_zero, List.set_cons_succ]
          refine wpAnyH_take (i := 2) (oi := ⟨_, _, _, _, _, _⟩) (v := ?_) rfl (by kernel_rfl) (by kernel_rfl) (by kernel_rfl) (fun _ _ _ h => h) (Or.inl ⟨by rfl, ?_⟩) (by assumption) ?_
          rotate_left
          · (intro w hSw; (try dsimp only at hSw); go_simp); (first | done | with_reducible rfl)
          try simp only [Act.put, List.setIfInBounds_toArray, List.set_cons_zero, List.set_cons_succ]
          refine wpAnyH_take (i := 3) (oi := ⟨_, _, _, _, _, _⟩) (v := ?_) rfl (by kernel_rfl) (by kernel_rfl) (by kernel_rfl) (fun _ _ _ h => h) (Or.inl ⟨by rfl, ?_⟩) (by assumption) ?_
          rotate_left
          · (intro w hSw; (try dsimp only at hSw); go_simp); (first | done | with_reducible rfl)
          try simp only [Act.put, List.setIfInBounds_toArray, List.set_cons_zero, List.set_cons_succ]
          refine wpAnyH_ready (rs := [4]) (by kernel_rfl) (by simp) ?_
          refine AllReadyH.cons (o := ⟨_, _, _, _, _, _⟩) rfl (fun K hK => ?_) AllReadyH.nil
          rw [if_pos (by rfl)]
          go_simp
          go_at_call 126
          refine hg.mono ?_
          rintro e w' ⟨rfl, hb'⟩
          clear hHeld
          refine hK.out _ _ ?_ (fun hHeld => ?_)
          · exact ⟨cell_later hb' c0, cell_later hb' c1⟩
          clear hK
          clear K
          try simp only [Act.put, List.setIfInBounds_toArray, List.set_cons_zero, List.set_cons_succ]
          refine wpAnyH_take (i := 5) (oi := ⟨_, _, _, _, _, _⟩) (v := ?_) rfl (by kernel_rfl) (by kernel_rfl) (by kernel_rfl) (fun _ _ _ h => h) (Or.inl ⟨by rfl, ?_⟩) (by assumption) ?_
          rotate_left
          · (intro w hSw; (try dsimp only at hSw); go_simp); (first | done | with_reducible rfl)
          try simp only [Act.put, List.setIfInBounds_toArray, List.set_cons_zero, List.set_cons_succ]
          refine wpAnyH_take (i := 6) (oi := ⟨_, _, _, _, _, _⟩) (v := ?_) rfl (by kernel_rfl) (by kernel_rfl) (by kernel_rfl) (fun _ _ _ h => h) (Or.inl ⟨by rfl, ?_⟩) (by assumption) ?_
          rotate_left
          · (intro w hSw; (try dsimp only at hSw); go_simp); (first | done | with_reducible rfl)
          try simp only [Act.put, List.setIfInBounds_toArray, List.set_cons_zero, List.set_cons_succ]
          refine wpAnyH_take (i := 7) (oi := ⟨_, _, _, _, _, _⟩) (v := ?_) rfl (by kernel_rfl) (by kernel_rfl) (by kernel_rfl) (fun _ _ _ h => h) (Or.inl ⟨by rfl, ?_⟩) (by assumption) ?_
          rotate_left
          · (intro w hSw; (try dsimp only at hSw); go_simp); (first | done | with_reducible rfl)
          try simp only [Act.put, List.setIfInBounds_toArray, List.set_cons_zero, List.set_cons_succ]
          refine wpAnyH_take (i := 8) (oi := ⟨_, _, _, _, _, _⟩) (v := ?_) rfl (by kernel_rfl) (by kernel_rfl) (by kernel_rfl) (fun _ _ _ h => h) (Or.inl ⟨by rfl, ?_⟩) (by assumption) ?_
          rotate_left
          · (intro w hSw; (try dsimp only at hSw); go_simp); (first | done | with_reducible rfl)
          try simp only [Act.put, List.setIfInBounds_toArray, List.set_cons_zero, List.set_cons_succ]
          refine wpAnyH_take (i := 9) (oi := ⟨_, _, _, _, _, _⟩) (v := ?_) rfl (by kernel_rfl) (by kernel_rfl) (by kernel_rfl) (fun _ _ _ h => h) (Or.inl ⟨by rfl, ?_⟩) (by assumption) ?_
          rotate_left
          · (intro w hSw; (try dsimp only at hSw); go_simp); (first | done | with_reducible rfl)
          try simp only [Act.put, List.setIfInBounds_toArray, List.set_cons_zero, List.set_cons_succ]
          refine wpAnyH_take (i := 10) (oi := ⟨_, _, _, _, _, _⟩) (v := undef) rfl (by kernel_rfl) (by kernel_rfl) (by kernel_rfl) (fun _ _ _ h => h) (Or.inr ⟨by kernel_rfl, rfl⟩) (by assumption) ?_
          try simp only [Act.put, List.setIfInBounds_toArray, List.set_cons_zero, List.set_cons_succ]
          refine wpAnyH_take (i := 11) (oi := ⟨_, _, _, _, _, _⟩) (v := undef) rfl (by kernel_rfl) (by kernel_rfl) (by kernel_rfl) (fun _ _ _ h => h) (Or.inr ⟨by kernel_rfl, rfl⟩) (by assumption) ?_
          try simp only [Act.put, List.setIfInBounds_toArray, List.set_cons_zero, List.set_cons_succ]
          refine wpAnyH_take (i := 12) (oi := ⟨_, _, _, _, _, _⟩) (v := undef) rfl (by kernel_rfl) (by kernel_rfl) (by kernel_rfl) (fun _ _ _ h => h) (Or.inr ⟨by kernel_rfl, rfl⟩) (by assumption) ?_
          try simp only [Act.put, List.setIfInBounds_toArray, List.set_cons_zero, List.set_cons_succ]
          refine wpAnyH_take (i := 13) (oi := ⟨_, _, _, _, _, _⟩) (v := undef) rfl (by kernel_rfl) (by kernel_rfl) (by kernel_rfl) (fun _ _ _ h => h) (Or.inr ⟨by kernel_rfl, rfl⟩) (by assumption) ?_
          try simp only [Act.put, List.setIfInBounds_toArray, List.set_cons_zero, List.set_cons_succ]
          refine wpAnyH_take (i := 14) (oi := ⟨_, _, _, _, _, _⟩) (v := undef) rfl (by kernel_rfl) (by kernel_rfl) (by kernel_rfl) (fun _ _ _ h => h) (Or.inr ⟨by kernel_rfl, rfl⟩) (by assumption) ?_
          try simp only [Act.put, List.setIfInBounds_toArray, List.set_cons_zero, List.set_cons_succ]
          refine wpAnyH_take (i := 15) (oi := ⟨_, _, _, _, _, _⟩) (v := undef) rfl (by kernel_rfl) (by kernel_rfl) (by kernel_rfl) (fun _ _ _ h => h) (Or.inr ⟨by kernel_rfl, rfl⟩) (by assumption) ?_
          try simp only [Act.put, List.setIfInBounds_toArray, List.set_cons_zero, List.set_cons_succ]
          refine wpAnyH_take (i := 16) (oi := ⟨_, _, _, _, _, _⟩) (v := undef) rfl (by kernel_rfl) (by kernel_rfl) (by kernel_rfl) (fun _ _ _ h => h) (Or.inr ⟨by kernel_rfl, rfl⟩) (by assumption) ?_
          try simp only [Act.put, List.setIfInBounds_toArray, List.set_cons_zero, List.set_cons_succ]
          refine wpAnyH_take (i := 17) (oi := ⟨_, _, _, _, _, _⟩) (v := undef) rfl (by kernel_rfl) (by kernel_rfl) (by kernel_rfl) (fun _ _ _ h => h) (Or.inr ⟨by kernel_rfl, rfl⟩) (by assumption) ?_
          try simp only [Act.put, List.setIfInBounds_toArray, List.set_cons_zero, List.set_cons_succ]
          refine wpAnyH_take (i := 18) (oi := ⟨_, _, _, _, _, _⟩) (v := undef) rfl (by kernel_rfl) (by kernel_rfl) (by kernel_rfl) (fun _ _ _ h => h) (Or.inr ⟨by kernel_rfl, rfl⟩) (by assumption) ?_
          try simp only [Act.put, List.setIfInBounds_toArray, List.set_cons_zero, List.set_cons_succ]
          refine wpAnyH_take (i := 19) (oi := ⟨_, _, _, _, _, _⟩) (v := undef) rfl (by kernel_rfl) (by kernel_rfl) (by kernel_rfl) (fun _ _ _ h => h) (Or.inr ⟨by kernel_rfl, rfl⟩) (by assumption) ?_
          try simp only [Act.put, List.setIfInBounds_toArray, List.set_cons_zero, List.set_cons_succ]
          refine wpAnyH_take (i := 20) (oi := ⟨_, _, _, _, _, _⟩) (v := undef) rfl (by kernel_rfl) (by kernel_rfl) (by kernel_rfl) (fun _ _ _ h => h) (Or.inr ⟨by kernel_rfl, rfl⟩) (by assumption) ?_
          try simp only [Act.put, List.setIfInBounds_toArray, List.set_cons_zero, List.set_cons_succ]
          refine wpAnyH_take (i := 21) (oi := ⟨_, _, _, _, _, _⟩) (v := ?_) rfl (by kernel_rfl) (by kernel_rfl) (by kernel_rfl) (fun _ _ _ h => h) (Or.inl ⟨by rfl, ?_⟩) (by assumption) ?_
          rotate_left
          · (intro w hSw; (try dsimp only at hSw); go_simp); (first | done | with_reducible rfl)
          try simp only [Act.put, List.setIfInBounds_toArray, List.set_cons_zero, List.set_cons_succ]
          refine wpAnyH_take (i := 22) (oi := ⟨_, _, _, _, _, _⟩) (v := ?_) rfl (by kernel_rfl) (by kernel_rfl) (by kernel_rfl) (fun _ _ _ h => h) (Or.inl ⟨by rfl, ?_⟩) (by assumption) ?_
          rotate_left
          · (intro w hSw; (try dsimp only at hSw); go_simp); (first | done | with_reducible rfl)
          try simp only [Act.put, List.setIfInBounds_toArray, List.set_cons_zero, List.set_cons_succ]
          clear hHeld
          refine wpAnyH_done (by kernel_rfl) ?_ _
          go_wp2
          go_roundw
          case rel => exact ⟨1, by omega, by go_num, HN.out, hb.trans ((Below.drew (Below.refl _ _)).trans (hb'.mono hb.size))⟩
          case measure => simp [intOf]; omega
        | succ j =>
          have hlj : j < xs.length := by omega
          have HS := Lib.hid (fun hc => okTo_step (xs := xs) (k := j) HA.out hlt hf hc)
          have HB := Lib.hid (fun hc => okB_bad2 (xs := xs) (k := j) hlt hc)
          obtain ⟨k, hkj⟩ : ∃ k, k = j + 1 := ⟨_, rfl⟩
          have hw1 : IntKind.i64.wrap ((k : Int) - 1) = (j : Int) := (IntWalk.i64_in _ ⟨by omega, by omega⟩).trans (by omega)
          have hK := Lib.hid hkj
          rw [show ((j + 1 : Nat) : Int) = (k : Int) by rw [hkj]] at hk0 hk1 ⊢
          have hlt' : k < xs.length := by omega
          have hxk : xs[j + 1] = xs[k]'hlt' := by simp only [hkj]
          rw [hxk] at hf HS HB
          clear HA hxk
          have hx1 : (0 : Int) ≤ (j : Int) := by omega
          have hx2 : (j : Int) < (xs.length : Int) := by omega
          have hp0 : 0 < k := by omega
          have hp1 : (0 : Int) < (k : Int) := by omega
          clear hkj
          obtain ⟨b, o, Ae, ce, bk, Af, cf, bm, rfl, c0, c1, hel, d0, d1, hem⟩ := atoms_two (atomsK_good.below h hb) hlj hlt'
          have hD : Below wr.heap.size wr wr.drew := Below.drew (Below.refl _ _)
          have hg := l3Ground_any xs[k] _ _ bm _ (atomK_good.below hem hD)
          have hcm := fun w' (hb' : Below wr.heap.size wr w') => l1Cmp_any xs[j] xs[k] _ _ _ _ bk bm w' (atomK_good.below hel hb') (atomK_good.below hem hb')
          rw [hf] at hg
          clear h hf hel hem
          by_cases hc : cmpA xs[j] xs[k] < 0
          · have hc' : ¬ 0 ≤ cmpA xs[j] xs[k] := by omega
            have HC := Lib.hid (HS.out hc)
            clear hc
            go_wp2
            go_region_held3 (fun w' => w'.cell? ⟨b, o + j * 2, none⟩ = some (.string xs[j].name) ∧ w'.cell? ⟨b, o + j * 2 + 1, none⟩ = some (.slice Ae xs[j].args.length ce) ∧ w'.cell? ⟨b, o + k * 2, none⟩ = some (.string xs[k].name) ∧ w'.cell? ⟨b, o + k * 2 + 1, none⟩ = some (.slice Af xs[k].args.length cf))
              (first | go_keep | exact ⟨x0, x1, x2, x3⟩ | exact ⟨y0, y1, y2, y3⟩)
              (first
                | (go_at_call 126; refine hg.mono ?_; rintro e w1 ⟨rfl, hb1⟩; have x0 := cell_later hb1 c0; have x1 := cell_later hb1 c1; have x2 := cell_later hb1 d0; have x3 := cell_later hb1 d1; have B1 := hD.trans hb1)
                | (go_at_call 127; refine (hcm _ B1).mono ?_; rintro e w2 ⟨rfl, hb2⟩; have y0 := cell_later hb2 x0; have y1 := cell_later hb2 x1; have y2 := cell_later hb2 x2; have y3 := cell_later hb2 x3; have B2 := B1.trans (hb2.mono B1.size)))
            go_wp2
            go_roundw
            case rel => exact ⟨k + 1, by omega, by go_num, by rw [hK.out]; exact HC.out, hb.trans (B2.mono hb.size)⟩
            case measure => have := hK.out; simp [intOf]; omega
          · have hc' : 0 ≤ cmpA xs[j] xs[k] := by omega
            have HC := Lib.hid (HB.out hc)
            clear hc
            go_wp2
            go_region_held3 (fun w' => w'.cell? ⟨b, o + j * 2, none⟩ = some (.string xs[j].name) ∧ w'.cell? ⟨b, o + j * 2 + 1, none⟩ = some (.slice Ae xs[j].args.length ce) ∧ w'.cell? ⟨b, o + k * 2, none⟩ = some (.string xs[k].name) ∧ w'.cell? ⟨b, o + k * 2 + 1, none⟩ = some (.slice Af xs[k].args.length cf))
              (first | go_keep | exact ⟨x0, x1, x2, x3⟩ | exact ⟨y0, y1, y2, y3⟩)
              (first
                | (go_at_call 126; refine hg.mono ?_; rintro e w1 ⟨rfl, hb1⟩; have x0 := cell_later hb1 c0; have x1 := cell_later hb1 c1; have x2 := cell_later hb1 d0; have x3 := cell_later hb1 d1; have B1 := hD.trans hb1)
                | (go_at_call 127; refine (hcm _ B1).mono ?_; rintro e w2 ⟨rfl, hb2⟩; have y0 := cell_later hb2 x0; have y1 := cell_later hb2 x1; have y2 := cell_later hb2 x2; have y3 := cell_later hb2 x3; have B2 := B1.trans (hb2.mono B1.size)))
            go_wp2
            go_ret
            exact ⟨ret_bool (by rw [HC.out]; rfl), hb.trans (B2.mono hb.size)⟩
    · have he := Lib.hid (show k = xs.length by omega)
      by_cases hle : xs.length ≤ m
      · have hle' : (xs.length : Int) ≤ (m : Int) := by omega
        go_wp2
        go_ret
        exact ⟨ret_bool (by have := HA.out; rw [he.out] at this; rw [okB_end this, decide_eq_true hle]; rfl), hb⟩
      · have hle' : ¬ (xs.length : Int) ≤ (m : Int) := by omega
        go_wp2
        go_ret
        exact ⟨ret_bool (by simp), hb⟩

end Go.Proofs.YtjjfafgaphloaaaGreatDoor
namespace Go.Proofs.YtjjfafgaphloaaaGreatDoor
open Go.RowKit D
set_option linter.unusedVariables false
theorem infoRuleD : (Tryz.prog.info? 53).map (fun i => (i.zero, i.size, i.bytes)) = some (some (.agg #[.string ⟨#[]⟩, .slice none 0 0, .slice none 0 0]), 3, 64) := by kernel_rfl

/-- A small atom, a small rule. -/
def D.AtS (a : A) : Prop := Sm a.name ∧ a.args.length ≤ 4 ∧ ∀ t ∈ a.args, Sm t.name

def D.RuS (r : Ru) : Prop := AtS r.head ∧ r.body.length ≤ 8 ∧ ∀ x ∈ r.body, PtS x

/-- Drawn rules under way: a list in memory of the draw's own. -/
structure RsInv (g p : Nat) (w : World) (xs : List Ru) (v : Value) (wr : World) : Prop where
  coll : ∃ L bs, Coll 3 ruleK w.heap.size 53 wr v L xs bs ∧ ∀ b ∈ bs, w.heap.size ≤ b
  small : ∀ x ∈ xs, RuS x
  rdr : Rdr g p wr
  kept : KeptBut [g] w wr
  glt : g < w.heap.size

section
variable {g p : Nat} {w : World} {xs : List Ru} {v : Value} {wr : World}
theorem RsInv.call {p2 : Nat} {w2 : World} (h : RsInv g p w xs v wr) (hR : Rdr g p2 w2) (hK : KeptBut [g] wr w2) : RsInv g p2 w xs v w2 := by
  obtain ⟨L, bs, hC, hbb⟩ := h.coll
  exact ⟨⟨L, bs, hC.keptG ruleK_good hK h.glt (fun hg => by have := hbb g hg; have := h.glt; omega), hbb⟩, h.small, hR, h.kept.trans hK, h.glt⟩

theorem RsInv.below {w2 : World} (h : RsInv g p w xs v wr) (hB : Below wr.heap.size wr w2) : RsInv g p w xs v w2 := by
  obtain ⟨L, bs, hC, hbb⟩ := h.coll
  exact ⟨⟨L, bs, hC.below ruleK_good hB, hbb⟩, h.small, h.rdr.below hB, h.kept.belowN hB h.kept.size, h.glt⟩

theorem RsInv.rules (h : RsInv g p w xs v wr) : ∃ bs, rulesK wr [v] xs bs ∧ ∀ b ∈ bs, w.heap.size ≤ b := by
  obtain ⟨L, bs, hC, hbb⟩ := h.coll
  obtain ⟨b2, hs, h2⟩ := hC.slice
  exact ⟨b2, hs, fun b hb => (h2 b hb).elim id (hbb b)⟩

theorem RsInv.shape (h : RsInv g p w xs v wr) : ∃ A c, v = .slice A xs.length c := by
  obtain ⟨L, bs, hC, _⟩ := h.coll
  exact own_shape hC.own

theorem RsInv.start (hg : g < w.heap.size) (hR : Rdr g p w) : RsInv g p w [] (.slice (some ⟨w.heap.size, 0, none⟩) 0 0) (w.alloc (.cells #[] 53)) := by
  have hA : Below w.heap.size w (w.alloc (.cells #[] 53)) := (Below.refl _ _).alloc (Nat.le_refl _) _
  exact ⟨⟨[], [], Coll.empty (heap_alloc_new _ _) (Nat.le_refl _), fun b hb => by simp at hb⟩, fun x hx => by simp at hx, hR.below hA, KeptBut.of_below hA, hg⟩

/-- A rule stands in memory from the list's world on: what the append of it wants. -/
theorem RsInv.arm {r : Ru} {c0 c1 c2 : Value} {br : List Nat} {W : World} (h : RsInv g p w xs v wr) (hB : Below wr.heap.size wr W) (hr : ruleK W [c0, c1, c2] r br) (hbr : ∀ b ∈ br, wr.heap.size ≤ b) :
    ∃ L bs, Coll 3 ruleK w.heap.size 53 (W.alloc (.cells #[c0, c1, c2] 53)) v L xs bs ∧ (∀ b ∈ bs ++ br, w.heap.size ≤ b) ∧ Rowed 3 ruleK (W.alloc (.cells #[c0, c1, c2] 53)) [c0, c1, c2] [r] br ∧
      Lies (W.alloc (.cells #[c0, c1, c2] 53)) (some ⟨W.heap.size, 0, none⟩) [c0, c1, c2] ∧ (∀ b ∈ br, v.ownBlock ≠ some b) ∧ Below w.heap.size wr (W.alloc (.cells #[c0, c1, c2] 53)) ∧ w.heap.size ≤ (W.alloc (.cells #[c0, c1, c2] 53)).heap.size := by
  obtain ⟨L, bs, hC, hbb⟩ := h.coll
  have hA : Below W.heap.size W (W.alloc (.cells #[c0, c1, c2] 53)) := (Below.refl _ _).alloc (Nat.le_refl _) _
  have hs := h.kept.size
  have hs2 := hB.size
  have hT : Below wr.heap.size wr (W.alloc (.cells #[c0, c1, c2] 53)) := hB.trans (hA.mono hs2)
  exact ⟨L, bs, hC.below ruleK_good hT, fun b hb => (List.mem_append.1 hb).elim (hbb b) (fun hb => by have := hbr b hb; omega), Rowed.one_el ruleK_ones (ruleK_good.below hr hA), lies_block (heap_alloc_new _ _), fun b hb => own_block_lt hC.own (hbr b hb), hT.mono hs, by simp; omega⟩

theorem RsInv.far (h : RsInv g p w xs v wr) {b : Nat} (hb : wr.heap.size ≤ b) : v.ownBlock ≠ some b := by
  obtain ⟨L, bs, hC, hbb⟩ := h.coll
  exact own_block_lt hC.own hb

/-- The same, the rule's blocks told apart from the list's. -/
theorem RsInv.arm2 {r : Ru} {c0 c1 c2 : Value} {br : List Nat} {W : World} (h : RsInv g p w xs v wr) (hB : Below wr.heap.size wr W) (hr : ruleK W [c0, c1, c2] r br) (hbr : ∀ b ∈ br, w.heap.size ≤ b ∧ v.ownBlock ≠ some b) :
    ∃ L bs, Coll 3 ruleK w.heap.size 53 (W.alloc (.cells #[c0, c1, c2] 53)) v L xs bs ∧ (∀ b ∈ bs ++ br, w.heap.size ≤ b) ∧ Rowed 3 ruleK (W.alloc (.cells #[c0, c1, c2] 53)) [c0, c1, c2] [r] br ∧
      Lies (W.alloc (.cells #[c0, c1, c2] 53)) (some ⟨W.heap.size, 0, none⟩) [c0, c1, c2] ∧ (∀ b ∈ br, v.ownBlock ≠ some b) ∧ Below w.heap.size wr (W.alloc (.cells #[c0, c1, c2] 53)) ∧ w.heap.size ≤ (W.alloc (.cells #[c0, c1, c2] 53)).heap.size := by
  obtain ⟨L, bs, hC, hbb⟩ := h.coll
  have hA : Below W.heap.size W (W.alloc (.cells #[c0, c1, c2] 53)) := (Below.refl _ _).alloc (Nat.le_refl _) _
  have hs := h.kept.size
  have hs2 := hB.size
  have hT : Below wr.heap.size wr (W.alloc (.cells #[c0, c1, c2] 53)) := hB.trans (hA.mono hs2)
  exact ⟨L, bs, hC.below ruleK_good hT, fun b hb => (List.mem_append.1 hb).elim (hbb b) (fun hb => (hbr b hb).1), Rowed.one_el ruleK_ones (ruleK_good.below hr hA), lies_block (heap_alloc_new _ _), fun b hb => (hbr b hb).2, hT.mono hs, by simp; omega⟩

theorem RsInv.app {w4 : World} {v4 : Value} {L4 : List Value} {bs4 : List Nat} {y : Ru} (h : RsInv g p w xs v wr) (hC : Coll 3 ruleK w.heap.size 53 w4 v4 L4 (xs ++ [y]) bs4) (hbb : ∀ b ∈ bs4, w.heap.size ≤ b) (hB : Below w.heap.size wr w4) (hy : RuS y) : RsInv g p w (xs ++ [y]) v4 w4 :=
  ⟨⟨L4, bs4, hC, hbb⟩, fun x hx => (List.mem_append.1 hx).elim (h.small x) (fun hx => by rw [List.mem_singleton.1 hx]; exact hy), h.rdr.belowN hB h.glt, h.kept.belowN hB (Nat.le_refl _), h.glt⟩

end
/-- What a draw of rules leaves. -/
def RulesD (m g p q : Nat) (w : World) (e : Ending) (w' : World) : Prop :=
  ∃ (xs : List Ru) (v : Value) (p' : Nat), e = .returned v ∧ xs.length ≤ m ∧ p' ≤ p + q ∧ RsInv g p' w xs v w'

/-- A literal's row of parts. -/
theorem D.parts_one {w : World} {b : Nat} {no : Bool} {nm : ByteArray} {s : Value} {a : A} {b1 : List Nat} (h : w.heap[b]? = some (.cells #[.bool no, .string nm, s] 148 (0, 0))) (ha : atomK w [.string nm, s] a b1) : partsK w [.slice (some ⟨b, 0, none⟩) 1 1] [⟨no, a⟩] (b :: b1) := by
  obtain ⟨s', hcs, hn, ht⟩ := ha
  simp only [List.cons.injEq, and_true, Value.string.injEq] at hcs
  obtain ⟨rfl, rfl⟩ := hcs
  refine ⟨_, 1, rfl, Nat.le_refl _, by unfold maxLen; omega, fun h => by simp at h, fun _ => ⟨b, 0, rfl, fun _ => [.bool no, .string a.name, s], fun _ => b1, by simp, fun k t hk => ?_⟩⟩
  match k, hk with
  | 0, hk =>
    simp only [List.getElem?_cons_zero, Option.some.injEq] at hk
    subst hk
    refine ⟨rfl, fun j v hj => ?_, s, rfl, hn, ht⟩
    match j, hj with
    | 0, hj => rw [cell_of_blk h]; simpa using hj
    | 1, hj => rw [cell_of_blk h]; simpa using hj
    | 2, hj => rw [cell_of_blk h]; simpa using hj
    | j + 3, hj => simp at hj
  | k + 1, hk => simp at hk

theorem D.parts_two {w : World} {b : Nat} {no no2 : Bool} {nm nm2 : ByteArray} {s s2 : Value} {a a2 : A} {b1 b2 : List Nat} (h : w.heap[b]? = some (.cells #[.bool no, .string nm, s, .bool no2, .string nm2, s2] 148 (0, 0)))
    (ha : atomK w [.string nm, s] a b1) (ha2 : atomK w [.string nm2, s2] a2 b2) : partsK w [.slice (some ⟨b, 0, none⟩) 2 2] [⟨no, a⟩, ⟨no2, a2⟩] (b :: (b1 ++ b2)) := by
  obtain ⟨s', hcs, hn, ht⟩ := ha
  simp only [List.cons.injEq, and_true, Value.string.injEq] at hcs
  obtain ⟨rfl, rfl⟩ := hcs
  obtain ⟨s'', hcs, hn2, ht2⟩ := ha2
  simp only [List.cons.injEq, and_true, Value.string.injEq] at hcs
  obtain ⟨rfl, rfl⟩ := hcs
  refine ⟨_, 2, rfl, Nat.le_refl _, by unfold maxLen; omega, fun h => by simp at h, fun _ => ⟨b, 0, rfl, fun k => if k = 0 then [.bool no, .string a.name, s] else [.bool no2, .string a2.name, s2], fun k => if k = 0 then b1 else b2, by simp [List.range_succ], fun k t hk => ?_⟩⟩
  match k, hk with
  | 0, hk =>
    simp only [List.getElem?_cons_zero, Option.some.injEq] at hk
    subst hk
    refine ⟨rfl, fun j v hj => ?_, s, rfl, hn, ht⟩
    match j, hj with
    | 0, hj => rw [cell_of_blk h]; simpa using hj
    | 1, hj => rw [cell_of_blk h]; simpa using hj
    | 2, hj => rw [cell_of_blk h]; simpa using hj
    | j + 3, hj => simp at hj
  | 1, hk =>
    simp only [List.getElem?_cons_succ, List.getElem?_cons_zero, Option.some.injEq] at hk
    subst hk
    refine ⟨rfl, fun j v hj => ?_, s2, rfl, hn2, ht2⟩
    match j, hj with
    | 0, hj => rw [cell_of_blk h]; simpa using hj
    | 1, hj => rw [cell_of_blk h]; simpa using hj
    | 2, hj => rw [cell_of_blk h]; simpa using hj
    | j + 3, hj => simp at hj
  | k + 2, hk => simp at hk

theorem D.terms_one {w : World} {b : Nat} {x : ByteArray} {c : Bool} (h : w.heap[b]? = some (.cells #[.bool c, .string x] 127 (0, 0))) (hx : x.size ≤ maxLen) :
    termsK w [.slice (some ⟨b, 0, none⟩) 1 1] [⟨c, x⟩] [b] := by
  refine ⟨_, 1, rfl, Nat.le_refl _, by unfold maxLen; omega, fun h => by simp at h, fun _ => ⟨b, 0, rfl, fun k => [.bool c, .string x], fun _ => [], by simp, fun k t hk => ?_⟩⟩
  match k, hk with
  | 0, hk =>
    simp only [List.getElem?_cons_zero, Option.some.injEq] at hk
    subst hk
    refine ⟨rfl, fun j v hj => ?_, rfl, hx, rfl⟩
    match j, hj with
    | 0, hj => rw [cell_of_blk h]; simpa using hj
    | 1, hj => rw [cell_of_blk h]; simpa using hj
    | j + 2, hj => simp at hj
  | k + 1, hk => simp at hk

end Go.Proofs.YtjjfafgaphloaaaGreatDoor
