/- The walk of the law FnChangeOf (under way). -/
import Derived.Laws.EntriesVeiled
import Derived.Deep.RegionHeld3
import Derived.Deep.RegionWith
import Derived.Deep.RegionLaw
import Derived.BigQuiet
import Derived.Deep.QuietTactic
import Derived.Deep.DrawnRows
import Derived.WalkKit
import Derived.WalkSpells
import Derived.WalkLawsBesides
import Derived.Lib.Hide
import Derived.Test.YtbppnelbjklpeaaDraw8
import Derived.Test.YtbppnelbjklpeaaOfP
import Derived.Test.YtbppnelbjklpeaaOfS
import Derived.Test.YtbppnelbjklpeaaOfI
import Derived.Test.YtbppnelbjklpeaaChI
import Derived.Test.YtbppnelbjklpeaaDoI
import Derived.Test.YtbppnelbjklpeaaFs2
namespace Go.Proofs.Ytbppnelbjklpeaa
open Go.RowKit D
set_option linter.unusedVariables false
attribute [local go_sem ↓] Go.wp_at_zero Go.wp_at_succ

theorem fsChange_same (c : Ch) (c0 c1 d0 d1 : Value) (b1 b2 : List Nat) (w : World) (h : changeK w [c0, c1] c b1) (h2 : changeK w [d0, d1] c b2) :
    Calls Try.prog 24 #[.agg #[c0, c1], .agg #[d0, d1]] w fun e w' => e = .returned (.bool true) ∧ Below w.heap.size w w' :=
  (fsChange_any c c c0 c1 d0 d1 b1 b2 w h h2).mono fun e w' ⟨r, he, hr, hb⟩ => ⟨by rw [he, hr.2 ⟨rfl, rfl⟩], hb⟩

set_option maxRecDepth 100000 in
set_option maxHeartbeats 8000000 in
theorem changeOfLaw_walk (cs : List UInt8) (v1 : Value) (bs1 : List Nat) (w : World) (h1 : bytesK w [v1] cs bs1) :
    Calls Try.prog 5 #[v1] w fun e w' => e = .returned (.bool true) ∧ Below w.heap.size w w' := by
  obtain ⟨Ad, cap, rfl, hl, hm⟩ := sliceK_form h1
  have hlm := nat_ge_max (Nat.le_trans hl hm)
  clear hl hm
  by_cases hn : cs.length ≤ 1048576
  · have hd := drawChangeOf_any _ cs bs1 w h1 hn
    have hn' : ¬ (1048576 : Int) < (cs.length : Int) := by omega
    clear h1 hn
    go_enter Try.func5, Try.ntmps5
    go_wp2_with fail
    refine hd.mono ?_
    rintro e w1 ⟨xs, ys, v2, v3, b1, b2, rfl, hX, hY, hx, hy, hsx, hsy, hb1⟩
    have HX := Lib.hid hX
    have HY := Lib.hid hY
    have HB1 := Lib.hid hb1
    have q1 := changeOf_impl xs ys _ _ b1 b2 w1 hX hY
    have q2 := fun w' (hb : Below w1.heap.size w1 w') => changeOf_spec xs ys _ _ b1 b2 w' (atomsK_good.below hX hb) (atomsK_good.below hY hb)
    have q3 := fun w' (hb : Below w1.heap.size w1 w') => factsOk_spec xs _ b1 w' (atomsK_good.below hX hb)
    have q4 := fun w' (hb : Below w1.heap.size w1 w') => factsOk_spec ys _ b2 w' (atomsK_good.below hY hb)
    obtain ⟨A1, c1, rfl, hl1, hm1⟩ := sliceK_form hX
    obtain ⟨A2, c2, rfl, hl2, hm2⟩ := sliceK_form hY
    have hlx := nat_ge_max (Nat.le_trans hl1 hm1)
    have hly := nat_ge_max (Nat.le_trans hl2 hm2)
    clear hd hX hY hb1 hl1 hm1 hl2 hm2 hx hy hsx hsy
    go_wp2_with fail
    refine q1.mono ?_
    rintro e w2 ⟨hb2, cs2, d2, rfl, hR2, hN2⟩
    obtain ⟨A3, c3, A4, c4, rfl⟩ := change_cells hR2
    have hA2 : Below w2.heap.size w2 (w2.alloc (.cells #[.slice A3 (ofL xs ys).comes.length c3, .slice A4 (ofL xs ys).goes.length c4] 44)) := (Below.refl _ _).alloc (Nat.le_refl _) _
    have B2 := hb2.trans (hA2.mono hb2.size)
    have x0 : (w2.alloc (.cells #[.slice A3 (ofL xs ys).comes.length c3, .slice A4 (ofL xs ys).goes.length c4] 44)).cell? ⟨w2.heap.size, 0, none⟩ = some (.slice A3 (ofL xs ys).comes.length c3) := by go_simp
    have x1 : (w2.alloc (.cells #[.slice A3 (ofL xs ys).comes.length c3, .slice A4 (ofL xs ys).goes.length c4] 44)).cell? ⟨w2.heap.size, 1, none⟩ = some (.slice A4 (ofL xs ys).goes.length c4) := by go_simp
    have HR2 := Lib.hid (changeK_good.below hR2 hA2)
    clear q1 hR2 hN2 hA2
    generalize hof : factsOk xs = ox at *
    generalize hog : factsOk ys = oy at *
    have HO := Lib.hid (And.intro hof hog)
    clear hof hog
    cases ox
    · go_wp2
      refine wp_region_held_drew (S := (fun w' => w'.cell? ⟨w2.heap.size, 0, none⟩ = some (.slice A3 (ofL xs ys).comes.length c3) ∧ w'.cell? ⟨w2.heap.size, 1, none⟩ = some (.slice A4 (ofL xs ys).goes.length c4))) (by kernel_rfl) ?_ (fun hHeld => ?_)
      · exact ⟨x0, x1⟩
      refine wpAnyH_take (i := 0) (oi := ⟨_, _, _, _, _, _⟩) (v := ?_) rfl (by kernel_rfl) (by kernel_rfl) (by kernel_rfl) (fun _ _ _ h => h) (Or.inl ⟨by rfl, ?_⟩) (by assumption) ?_
      rotate_left
      · (intro w hSw; (try dsimp only at hSw); go_simp); (first | done | with_reducible rfl)
      try simp only [Act.put, List.setIfInBounds_toArray, List.set_cons_zero, List.set_cons_succ]
      refine wpAnyH_take (i := 1) (oi := ⟨_, _, _, _, _, _⟩) (v := ?_) rfl (by kernel_rfl) (by kernel_rfl) (by kernel_rfl) (fun _ _ _ h => h) (Or.inl ⟨by rfl, ?_⟩) (by assumption) ?_
      rotate_left
      · (intro w hSw; (try dsimp only at hSw); go_simp); (first | done | with_reducible rfl)
      try simp only [Act.put, List.setIfInBounds_toArray, List.set_cons_zero, List.set_cons_succ]
      refine wpAnyH_take (i := 2) (oi := ⟨_, _, _, _, _, _⟩) (v := ?_) rfl (by kernel_rfl) (by kernel_rfl) (by kernel_rfl) (fun _ _ _ h => h) (Or.inl ⟨by rfl, ?_⟩) (by assumption) ?_
      rotate_left
      · (intro w hSw; (try dsimp only at hSw); go_simp); (first | done | with_reducible rfl)
      try simp only [Act.put, List.setIfInBounds_toArray, List.set_cons_zero, List.set_cons_succ]
      refine wpAnyH_ready (rs := [3]) (by kernel_rfl) (by simp) ?_
      refine AllReadyH.cons (o := ⟨_, _, _, _, _, _⟩) rfl (fun K hK => ?_) AllReadyH.nil
      rw [if_pos (by rfl)]
      go_simp
      go_at_call 25
      refine (q2 _ B2.drew).mono ?_
      rintro e w3 ⟨hb3, cs3, d3, rfl, hR3⟩
      obtain ⟨A5, c5, A6, c6, rfl⟩ := change_cells hR3
      have B3 := B2.drew.trans (hb3.mono B2.drew.size)
      have HR3 := Lib.hid hR3
      have HR4 := Lib.hid (changeK_good.below HR2.out ((Below.refl _ _).drew.trans hb3))
      replace x0 := cell_later hb3 x0
      replace x1 := cell_later hb3 x1
      clear hR3
      clear hHeld
      refine hK.out _ _ ?_ (fun hHeld => ?_)
      · exact ⟨x0, x1⟩
      clear hK
      clear K
      try simp only [Act.put, List.setIfInBounds_toArray, List.set_cons_zero, List.set_cons_succ]
      refine wpAnyH_ready (rs := [4]) (by kernel_rfl) (by simp) ?_
      refine AllReadyH.cons (o := ⟨_, _, _, _, _, _⟩) rfl (fun K hK => ?_) AllReadyH.nil
      rw [if_pos (by rfl)]
      go_simp
      go_at_call 24
      refine (fsChange_same (ofL xs ys) _ _ _ _ d2 d3 _ HR4.out HR3.out).mono ?_
      rintro e w4 ⟨rfl, hb4⟩
      have B4 := B3.trans (hb4.mono B3.size)
      replace x0 := cell_later hb4 x0
      replace x1 := cell_later hb4 x1
      clear hHeld
      refine hK.out _ _ ?_ (fun hHeld => ?_)
      · exact ⟨x0, x1⟩
      clear hK
      clear K
      try simp only [Act.put, List.setIfInBounds_toArray, List.set_cons_zero, List.set_cons_succ]
      refine wpAnyH_take (i := 5) (oi := ⟨_, _, _, _, _, _⟩) (v := ?_) rfl (by kernel_rfl) (by kernel_rfl) (by kernel_rfl) (fun _ _ _ h => h) (Or.inl ⟨by rfl, ?_⟩) (by assumption) ?_
      rotate_left
      · (intro w hSw; (try dsimp only at hSw); go_simp); (first | done | with_reducible rfl)
      try simp only [Act.put, List.setIfInBounds_toArray, List.set_cons_zero, List.set_cons_succ]
      refine wpAnyH_take (i := 6) (oi := ⟨_, _, _, _, _, _⟩) (v := ?_) rfl (by kernel_rfl) (by kernel_rfl) (by kernel_rfl) (fun _ _ _ h => h) (Or.inl ⟨by rfl, ?_⟩) (by assumption) ?_
      rotate_left
      · (intro w hSw; (try dsimp only at hSw); go_simp); (first | done | with_reducible rfl)
      try simp only [Act.put, List.setIfInBounds_toArray, List.set_cons_zero, List.set_cons_succ]
      refine wpAnyH_take (i := 7) (oi := ⟨_, _, _, _, _, _⟩) (v := ?_) rfl (by kernel_rfl) (by kernel_rfl) (by kernel_rfl) (fun _ _ _ h => h) (Or.inl ⟨by rfl, ?_⟩) (by assumption) ?_
      rotate_left
      · (intro w hSw; (try dsimp only at hSw); go_simp); (first | done | with_reducible rfl)
      try simp only [Act.put, List.setIfInBounds_toArray, List.set_cons_zero, List.set_cons_succ]
      refine wpAnyH_ready (rs := [8]) (by kernel_rfl) (by simp) ?_
      refine AllReadyH.cons (o := ⟨_, _, _, _, _, _⟩) rfl (fun K hK => ?_) AllReadyH.nil
      rw [if_pos (by rfl)]
      go_simp
      go_at_call 18
      refine (q3 _ B4).mono ?_
      rintro e w5 ⟨rfl, hb5⟩
      have B5 := B4.trans (hb5.mono B4.size)
      replace x0 := cell_later hb5 x0
      replace x1 := cell_later hb5 x1
      clear hHeld
      refine hK.out _ _ ?_ (fun hHeld => ?_)
      · exact ⟨x0, x1⟩
      clear hK
      clear K
      try simp only [Act.put, List.setIfInBounds_toArray, List.set_cons_zero, List.set_cons_succ]
      refine wpAnyH_take (i := 9) (oi := ⟨_, _, _, _, _, _⟩) (v := ?_) rfl (by kernel_rfl) (by kernel_rfl) (by kernel_rfl) (fun _ _ _ h => h) (Or.inl ⟨by rfl, ?_⟩) (by assumption) ?_
      rotate_left
      · (intro w hSw; (try dsimp only at hSw); go_simp); (first | done | with_reducible rfl)
      try simp only [Act.put, List.setIfInBounds_toArray, List.set_cons_zero, List.set_cons_succ]
      refine wpAnyH_take (i := 10) (oi := ⟨_, _, _, _, _, _⟩) (v := ?_) rfl (by kernel_rfl) (by kernel_rfl) (by kernel_rfl) (fun _ _ _ h => h) (Or.inl ⟨by rfl, ?_⟩) (by assumption) ?_
      rotate_left
      · (intro w hSw; (try dsimp only at hSw); go_simp); (first | done | with_reducible rfl)
      try simp only [Act.put, List.setIfInBounds_toArray, List.set_cons_zero, List.set_cons_succ]
      refine wpAnyH_take (i := 11) (oi := ⟨_, _, _, _, _, _⟩) (v := ?_) rfl (by kernel_rfl) (by kernel_rfl) (by kernel_rfl) (fun _ _ _ h => h) (Or.inl ⟨by rfl, ?_⟩) (by assumption) ?_
      rotate_left
      · (intro w hSw; (try dsimp only at hSw); go_simp); (first | done | with_reducible rfl)
      try simp only [Act.put, List.setIfInBounds_toArray, List.set_cons_zero, List.set_cons_succ]
      refine wpAnyH_take (i := 12) (oi := ⟨_, _, _, _, _, _⟩) (v := undef) rfl (by kernel_rfl) (by kernel_rfl) (by kernel_rfl) (fun _ _ _ h => h) (Or.inr ⟨by kernel_rfl, rfl⟩) (by assumption) ?_
      try simp only [Act.put, List.setIfInBounds_toArray, List.set_cons_zero, List.set_cons_succ]
      refine wpAnyH_take (i := 13) (oi := ⟨_, _, _, _, _, _⟩) (v := undef) rfl (by kernel_rfl) (by kernel_rfl) (by kernel_rfl) (fun _ _ _ h => h) (Or.inr ⟨by kernel_rfl, rfl⟩) (by assumption) ?_
      try simp only [Act.put, List.setIfInBounds_toArray, List.set_cons_zero, List.set_cons_succ]
      refine wpAnyH_take (i := 14) (oi := ⟨_, _, _, _, _, _⟩) (v := undef) rfl (by kernel_rfl) (by kernel_rfl) (by kernel_rfl) (fun _ _ _ h => h) (Or.inr ⟨by kernel_rfl, rfl⟩) (by assumption) ?_
      try simp only [Act.put, List.setIfInBounds_toArray, List.set_cons_zero, List.set_cons_succ]
      refine wpAnyH_take (i := 15) (oi := ⟨_, _, _, _, _, _⟩) (v := ?_) rfl (by kernel_rfl) (by kernel_rfl) (by kernel_rfl) (fun _ _ _ h => h) (Or.inl ⟨by rfl, ?_⟩) (by assumption) ?_
      rotate_left
      · (intro w hSw; (try dsimp only at hSw); go_simp); (first | done | with_reducible rfl)
      try simp only [Act.put, List.setIfInBounds_toArray, List.set_cons_zero, List.set_cons_succ]
      clear hHeld
      refine wpAnyH_done (by kernel_rfl) ?_ _
      go_wp2
      have HR5 := Lib.hid (changeK_good.below HR4.out (hb4.trans (hb5.mono hb4.size)))
      go_region_held3 (fun w' => w'.cell? ⟨w2.heap.size, 0, none⟩ = some (.slice A3 (ofL xs ys).comes.length c3) ∧ w'.cell? ⟨w2.heap.size, 1, none⟩ = some (.slice A4 (ofL xs ys).goes.length c4))
        (first | with_reducible exact ⟨x0, x1⟩ | go_keep)
        (first
          | (have _g := B6; go_at_call 24; refine (fsChange_same (ofL xs ys) _ _ _ _ d2 d6 _ HR7.out HR6.out).mono ?_; rintro e w7 ⟨rfl, hb7⟩; have B7 := B6.trans (hb7.mono B6.size); replace x0 := cell_later hb7 x0; replace x1 := cell_later hb7 x1)
          | (go_at_call 25; refine (q2 _ B5.drew).mono ?_; rintro e w6 ⟨hb6, cs6, d6, rfl, hR6⟩; obtain ⟨A7, c7, A8, c8, rfl⟩ := change_cells hR6; have B6 := B5.drew.trans (hb6.mono B5.drew.size); have HR6 := Lib.hid hR6; have HR7 := Lib.hid (changeK_good.below HR5.out ((Below.refl _ _).drew.trans hb6)); replace x0 := cell_later hb6 x0; replace x1 := cell_later hb6 x1; clear hR6))
      go_wp2
      go_ret
      exact ⟨rfl, HB1.out.trans (B7.mono HB1.out.size)⟩
    · cases oy
      · go_wp2
        refine wp_region_held_drew (S := (fun w' => w'.cell? ⟨w2.heap.size, 0, none⟩ = some (.slice A3 (ofL xs ys).comes.length c3) ∧ w'.cell? ⟨w2.heap.size, 1, none⟩ = some (.slice A4 (ofL xs ys).goes.length c4))) (by kernel_rfl) ?_ (fun hHeld => ?_)
        · exact ⟨x0, x1⟩
        refine wpAnyH_take (i := 0) (oi := ⟨_, _, _, _, _, _⟩) (v := ?_) rfl (by kernel_rfl) (by kernel_rfl) (by kernel_rfl) (fun _ _ _ h => h) (Or.inl ⟨by rfl, ?_⟩) (by assumption) ?_
        rotate_left
        · (intro w hSw; (try dsimp only at hSw); go_simp); (first | done | with_reducible rfl)
        try simp only [Act.put, List.setIfInBounds_toArray, List.set_cons_zero, List.set_cons_succ]
        refine wpAnyH_take (i := 1) (oi := ⟨_, _, _, _, _, _⟩) (v := ?_) rfl (by kernel_rfl) (by kernel_rfl) (by kernel_rfl) (fun _ _ _ h => h) (Or.inl ⟨by rfl, ?_⟩) (by assumption) ?_
        rotate_left
        · (intro w hSw; (try dsimp only at hSw); go_simp); (first | done | with_reducible rfl)
        try simp only [Act.put, List.setIfInBounds_toArray, List.set_cons_zero, List.set_cons_succ]
        refine wpAnyH_take (i := 2) (oi := ⟨_, _, _, _, _, _⟩) (v := ?_) rfl (by kernel_rfl) (by kernel_rfl) (by kernel_rfl) (fun _ _ _ h => h) (Or.inl ⟨by rfl, ?_⟩) (by assumption) ?_
        rotate_left
        · (intro w hSw; (try dsimp only at hSw); go_simp); (first | done | with_reducible rfl)
        try simp only [Act.put, List.setIfInBounds_toArray, List.set_cons_zero, List.set_cons_succ]
        refine wpAnyH_ready (rs := [3]) (by kernel_rfl) (by simp) ?_
        refine AllReadyH.cons (o := ⟨_, _, _, _, _, _⟩) rfl (fun K hK => ?_) AllReadyH.nil
        rw [if_pos (by rfl)]
        go_simp
        go_at_call 25
        refine (q2 _ B2.drew).mono ?_
        rintro e w3 ⟨hb3, cs3, d3, rfl, hR3⟩
        obtain ⟨A5, c5, A6, c6, rfl⟩ := change_cells hR3
        have B3 := B2.drew.trans (hb3.mono B2.drew.size)
        have HR3 := Lib.hid hR3
        have HR4 := Lib.hid (changeK_good.below HR2.out ((Below.refl _ _).drew.trans hb3))
        replace x0 := cell_later hb3 x0
        replace x1 := cell_later hb3 x1
        clear hR3
        clear hHeld
        refine hK.out _ _ ?_ (fun hHeld => ?_)
        · exact ⟨x0, x1⟩
        clear hK
        clear K
        try simp only [Act.put, List.setIfInBounds_toArray, List.set_cons_zero, List.set_cons_succ]
        refine wpAnyH_ready (rs := [4]) (by kernel_rfl) (by simp) ?_
        refine AllReadyH.cons (o := ⟨_, _, _, _, _, _⟩) rfl (fun K hK => ?_) AllReadyH.nil
        rw [if_pos (by rfl)]
        go_simp
        go_at_call 24
        refine (fsChange_same (ofL xs ys) _ _ _ _ d2 d3 _ HR4.out HR3.out).mono ?_
        rintro e w4 ⟨rfl, hb4⟩
        have B4 := B3.trans (hb4.mono B3.size)
        replace x0 := cell_later hb4 x0
        replace x1 := cell_later hb4 x1
        clear hHeld
        refine hK.out _ _ ?_ (fun hHeld => ?_)
        · exact ⟨x0, x1⟩
        clear hK
        clear K
        try simp only [Act.put, List.setIfInBounds_toArray, List.set_cons_zero, List.set_cons_succ]
        refine wpAnyH_take (i := 5) (oi := ⟨_, _, _, _, _, _⟩) (v := ?_) rfl (by kernel_rfl) (by kernel_rfl) (by kernel_rfl) (fun _ _ _ h => h) (Or.inl ⟨by rfl, ?_⟩) (by assumption) ?_
        rotate_left
        · (intro w hSw; (try dsimp only at hSw); go_simp); (first | done | with_reducible rfl)
        try simp only [Act.put, List.setIfInBounds_toArray, List.set_cons_zero, List.set_cons_succ]
        refine wpAnyH_take (i := 6) (oi := ⟨_, _, _, _, _, _⟩) (v := ?_) rfl (by kernel_rfl) (by kernel_rfl) (by kernel_rfl) (fun _ _ _ h => h) (Or.inl ⟨by rfl, ?_⟩) (by assumption) ?_
        rotate_left
        · (intro w hSw; (try dsimp only at hSw); go_simp); (first | done | with_reducible rfl)
        try simp only [Act.put, List.setIfInBounds_toArray, List.set_cons_zero, List.set_cons_succ]
        refine wpAnyH_take (i := 7) (oi := ⟨_, _, _, _, _, _⟩) (v := ?_) rfl (by kernel_rfl) (by kernel_rfl) (by kernel_rfl) (fun _ _ _ h => h) (Or.inl ⟨by rfl, ?_⟩) (by assumption) ?_
        rotate_left
        · (intro w hSw; (try dsimp only at hSw); go_simp); (first | done | with_reducible rfl)
        try simp only [Act.put, List.setIfInBounds_toArray, List.set_cons_zero, List.set_cons_succ]
        refine wpAnyH_ready (rs := [8]) (by kernel_rfl) (by simp) ?_
        refine AllReadyH.cons (o := ⟨_, _, _, _, _, _⟩) rfl (fun K hK => ?_) AllReadyH.nil
        rw [if_pos (by rfl)]
        go_simp
        go_at_call 18
        refine (q3 _ B4).mono ?_
        rintro e w5 ⟨rfl, hb5⟩
        have B5 := B4.trans (hb5.mono B4.size)
        replace x0 := cell_later hb5 x0
        replace x1 := cell_later hb5 x1
        clear hHeld
        refine hK.out _ _ ?_ (fun hHeld => ?_)
        · exact ⟨x0, x1⟩
        clear hK
        clear K
        try simp only [Act.put, List.setIfInBounds_toArray, List.set_cons_zero, List.set_cons_succ]
        refine wpAnyH_take (i := 9) (oi := ⟨_, _, _, _, _, _⟩) (v := ?_) rfl (by kernel_rfl) (by kernel_rfl) (by kernel_rfl) (fun _ _ _ h => h) (Or.inl ⟨by rfl, ?_⟩) (by assumption) ?_
        rotate_left
        · (intro w hSw; (try dsimp only at hSw); go_simp); (first | done | with_reducible rfl)
        try simp only [Act.put, List.setIfInBounds_toArray, List.set_cons_zero, List.set_cons_succ]
        refine wpAnyH_take (i := 10) (oi := ⟨_, _, _, _, _, _⟩) (v := ?_) rfl (by kernel_rfl) (by kernel_rfl) (by kernel_rfl) (fun _ _ _ h => h) (Or.inl ⟨by rfl, ?_⟩) (by assumption) ?_
        rotate_left
        · (intro w hSw; (try dsimp only at hSw); go_simp); (first | done | with_reducible rfl)
        try simp only [Act.put, List.setIfInBounds_toArray, List.set_cons_zero, List.set_cons_succ]
        refine wpAnyH_take (i := 11) (oi := ⟨_, _, _, _, _, _⟩) (v := ?_) rfl (by kernel_rfl) (by kernel_rfl) (by kernel_rfl) (fun _ _ _ h => h) (Or.inl ⟨by rfl, ?_⟩) (by assumption) ?_
        rotate_left
        · (intro w hSw; (try dsimp only at hSw); go_simp); (first | done | with_reducible rfl)
        try simp only [Act.put, List.setIfInBounds_toArray, List.set_cons_zero, List.set_cons_succ]
        refine wpAnyH_take (i := 12) (oi := ⟨_, _, _, _, _, _⟩) (v := ?_) rfl (by kernel_rfl) (by kernel_rfl) (by kernel_rfl) (fun _ _ _ h => h) (Or.inl ⟨by rfl, ?_⟩) (by assumption) ?_
        rotate_left
        · (intro w hSw; (try dsimp only at hSw); go_simp); (first | done | with_reducible rfl)
        try simp only [Act.put, List.setIfInBounds_toArray, List.set_cons_zero, List.set_cons_succ]
        refine wpAnyH_ready (rs := [13]) (by kernel_rfl) (by simp) ?_
        refine AllReadyH.cons (o := ⟨_, _, _, _, _, _⟩) rfl (fun K hK => ?_) AllReadyH.nil
        rw [if_pos (by rfl)]
        go_simp
        go_at_call 18
        refine (q4 _ B5).mono ?_
        rintro e w5b ⟨rfl, hb5b⟩
        have B5b := B5.trans (hb5b.mono B5.size)
        replace x0 := cell_later hb5b x0
        replace x1 := cell_later hb5b x1
        clear hHeld
        refine hK.out _ _ ?_ (fun hHeld => ?_)
        · exact ⟨x0, x1⟩
        clear hK
        clear K
        try simp only [Act.put, List.setIfInBounds_toArray, List.set_cons_zero, List.set_cons_succ]
        refine wpAnyH_take (i := 14) (oi := ⟨_, _, _, _, _, _⟩) (v := ?_) rfl (by kernel_rfl) (by kernel_rfl) (by kernel_rfl) (fun _ _ _ h => h) (Or.inl ⟨by rfl, ?_⟩) (by assumption) ?_
        rotate_left
        · (intro w hSw; (try dsimp only at hSw); go_simp); (first | done | with_reducible rfl)
        try simp only [Act.put, List.setIfInBounds_toArray, List.set_cons_zero, List.set_cons_succ]
        refine wpAnyH_take (i := 15) (oi := ⟨_, _, _, _, _, _⟩) (v := ?_) rfl (by kernel_rfl) (by kernel_rfl) (by kernel_rfl) (fun _ _ _ h => h) (Or.inl ⟨by rfl, ?_⟩) (by assumption) ?_
        rotate_left
        · (intro w hSw; (try dsimp only at hSw); go_simp); (first | done | with_reducible rfl)
        try simp only [Act.put, List.setIfInBounds_toArray, List.set_cons_zero, List.set_cons_succ]
        clear hHeld
        refine wpAnyH_done (by kernel_rfl) ?_ _
        go_wp2
        have HR5 := Lib.hid (changeK_good.below HR4.out ((hb4.trans (hb5.mono hb4.size)).trans (hb5b.mono (hb4.trans (hb5.mono hb4.size)).size)))
        go_region_held3 (fun w' => w'.cell? ⟨w2.heap.size, 0, none⟩ = some (.slice A3 (ofL xs ys).comes.length c3) ∧ w'.cell? ⟨w2.heap.size, 1, none⟩ = some (.slice A4 (ofL xs ys).goes.length c4))
          (first | with_reducible exact ⟨x0, x1⟩ | go_keep)
          (first
            | (have _g := B6; go_at_call 24; refine (fsChange_same (ofL xs ys) _ _ _ _ d2 d6 _ HR7.out HR6.out).mono ?_; rintro e w7 ⟨rfl, hb7⟩; have B7 := B6.trans (hb7.mono B6.size); replace x0 := cell_later hb7 x0; replace x1 := cell_later hb7 x1)
            | (go_at_call 25; refine (q2 _ B5b.drew).mono ?_; rintro e w6 ⟨hb6, cs6, d6, rfl, hR6⟩; obtain ⟨A7, c7, A8, c8, rfl⟩ := change_cells hR6; have B6 := B5b.drew.trans (hb6.mono B5b.drew.size); have HR6 := Lib.hid hR6; have HR7 := Lib.hid (changeK_good.below HR5.out ((Below.refl _ _).drew.trans hb6)); replace x0 := cell_later hb6 x0; replace x1 := cell_later hb6 x1; clear hR6))
        go_wp2
        go_ret
        exact ⟨rfl, HB1.out.trans (B7.mono HB1.out.size)⟩
      · have HOX : Hid (ofL xs ys = ⟨lessL ys xs, lessL xs ys⟩) := Lib.hid (by unfold ofL; rw [HO.out.1, HO.out.2]; rfl)
        go_wp2
        refine wp_region_held_drew (S := (fun w' => w'.cell? ⟨w2.heap.size, 0, none⟩ = some (.slice A3 (ofL xs ys).comes.length c3) ∧ w'.cell? ⟨w2.heap.size, 1, none⟩ = some (.slice A4 (ofL xs ys).goes.length c4))) (by kernel_rfl) ?_ (fun hHeld => ?_)
        · exact ⟨x0, x1⟩
        refine wpAnyH_take (i := 0) (oi := ⟨_, _, _, _, _, _⟩) (v := ?_) rfl (by kernel_rfl) (by kernel_rfl) (by kernel_rfl) (fun _ _ _ h => h) (Or.inl ⟨by rfl, ?_⟩) (by assumption) ?_
        rotate_left
        · (intro w hSw; (try dsimp only at hSw); go_simp); (first | done | with_reducible rfl)
        try simp only [Act.put, List.setIfInBounds_toArray, List.set_cons_zero, List.set_cons_succ]
        refine wpAnyH_take (i := 1) (oi := ⟨_, _, _, _, _, _⟩) (v := ?_) rfl (by kernel_rfl) (by kernel_rfl) (by kernel_rfl) (fun _ _ _ h => h) (Or.inl ⟨by rfl, ?_⟩) (by assumption) ?_
        rotate_left
        · (intro w hSw; (try dsimp only at hSw); go_simp); (first | done | with_reducible rfl)
        try simp only [Act.put, List.setIfInBounds_toArray, List.set_cons_zero, List.set_cons_succ]
        refine wpAnyH_take (i := 2) (oi := ⟨_, _, _, _, _, _⟩) (v := ?_) rfl (by kernel_rfl) (by kernel_rfl) (by kernel_rfl) (fun _ _ _ h => h) (Or.inl ⟨by rfl, ?_⟩) (by assumption) ?_
        rotate_left
        · (intro w hSw; (try dsimp only at hSw); go_simp); (first | done | with_reducible rfl)
        try simp only [Act.put, List.setIfInBounds_toArray, List.set_cons_zero, List.set_cons_succ]
        refine wpAnyH_ready (rs := [3]) (by kernel_rfl) (by simp) ?_
        refine AllReadyH.cons (o := ⟨_, _, _, _, _, _⟩) rfl (fun K hK => ?_) AllReadyH.nil
        rw [if_pos (by rfl)]
        go_simp
        go_at_call 25
        refine (q2 _ B2.drew).mono ?_
        rintro e w3 ⟨hb3, cs3, d3, rfl, hR3⟩
        obtain ⟨A5, c5, A6, c6, rfl⟩ := change_cells hR3
        have B3 := B2.drew.trans (hb3.mono B2.drew.size)
        have HR3 := Lib.hid hR3
        have HR4 := Lib.hid (changeK_good.below HR2.out ((Below.refl _ _).drew.trans hb3))
        replace x0 := cell_later hb3 x0
        replace x1 := cell_later hb3 x1
        clear hR3
        clear hHeld
        refine hK.out _ _ ?_ (fun hHeld => ?_)
        · exact ⟨x0, x1⟩
        clear hK
        clear K
        try simp only [Act.put, List.setIfInBounds_toArray, List.set_cons_zero, List.set_cons_succ]
        refine wpAnyH_ready (rs := [4]) (by kernel_rfl) (by simp) ?_
        refine AllReadyH.cons (o := ⟨_, _, _, _, _, _⟩) rfl (fun K hK => ?_) AllReadyH.nil
        rw [if_pos (by rfl)]
        go_simp
        go_at_call 24
        refine (fsChange_same (ofL xs ys) _ _ _ _ d2 d3 _ HR4.out HR3.out).mono ?_
        rintro e w4 ⟨rfl, hb4⟩
        have B4 := B3.trans (hb4.mono B3.size)
        replace x0 := cell_later hb4 x0
        replace x1 := cell_later hb4 x1
        clear hHeld
        refine hK.out _ _ ?_ (fun hHeld => ?_)
        · exact ⟨x0, x1⟩
        clear hK
        clear K
        try simp only [Act.put, List.setIfInBounds_toArray, List.set_cons_zero, List.set_cons_succ]
        refine wpAnyH_take (i := 5) (oi := ⟨_, _, _, _, _, _⟩) (v := ?_) rfl (by kernel_rfl) (by kernel_rfl) (by kernel_rfl) (fun _ _ _ h => h) (Or.inl ⟨by rfl, ?_⟩) (by assumption) ?_
        rotate_left
        · (intro w hSw; (try dsimp only at hSw); go_simp); (first | done | with_reducible rfl)
        try simp only [Act.put, List.setIfInBounds_toArray, List.set_cons_zero, List.set_cons_succ]
        refine wpAnyH_take (i := 6) (oi := ⟨_, _, _, _, _, _⟩) (v := ?_) rfl (by kernel_rfl) (by kernel_rfl) (by kernel_rfl) (fun _ _ _ h => h) (Or.inl ⟨by rfl, ?_⟩) (by assumption) ?_
        rotate_left
        · (intro w hSw; (try dsimp only at hSw); go_simp); (first | done | with_reducible rfl)
        try simp only [Act.put, List.setIfInBounds_toArray, List.set_cons_zero, List.set_cons_succ]
        refine wpAnyH_take (i := 7) (oi := ⟨_, _, _, _, _, _⟩) (v := ?_) rfl (by kernel_rfl) (by kernel_rfl) (by kernel_rfl) (fun _ _ _ h => h) (Or.inl ⟨by rfl, ?_⟩) (by assumption) ?_
        rotate_left
        · (intro w hSw; (try dsimp only at hSw); go_simp); (first | done | with_reducible rfl)
        try simp only [Act.put, List.setIfInBounds_toArray, List.set_cons_zero, List.set_cons_succ]
        refine wpAnyH_ready (rs := [8]) (by kernel_rfl) (by simp) ?_
        refine AllReadyH.cons (o := ⟨_, _, _, _, _, _⟩) rfl (fun K hK => ?_) AllReadyH.nil
        rw [if_pos (by rfl)]
        go_simp
        go_at_call 18
        refine (q3 _ B4).mono ?_
        rintro e w5 ⟨rfl, hb5⟩
        have B5 := B4.trans (hb5.mono B4.size)
        replace x0 := cell_later hb5 x0
        replace x1 := cell_later hb5 x1
        clear hHeld
        refine hK.out _ _ ?_ (fun hHeld => ?_)
        · exact ⟨x0, x1⟩
        clear hK
        clear K
        try simp only [Act.put, List.setIfInBounds_toArray, List.set_cons_zero, List.set_cons_succ]
        refine wpAnyH_take (i := 9) (oi := ⟨_, _, _, _, _, _⟩) (v := ?_) rfl (by kernel_rfl) (by kernel_rfl) (by kernel_rfl) (fun _ _ _ h => h) (Or.inl ⟨by rfl, ?_⟩) (by assumption) ?_
        rotate_left
        · (intro w hSw; (try dsimp only at hSw); go_simp); (first | done | with_reducible rfl)
        try simp only [Act.put, List.setIfInBounds_toArray, List.set_cons_zero, List.set_cons_succ]
        refine wpAnyH_take (i := 10) (oi := ⟨_, _, _, _, _, _⟩) (v := ?_) rfl (by kernel_rfl) (by kernel_rfl) (by kernel_rfl) (fun _ _ _ h => h) (Or.inl ⟨by rfl, ?_⟩) (by assumption) ?_
        rotate_left
        · (intro w hSw; (try dsimp only at hSw); go_simp); (first | done | with_reducible rfl)
        try simp only [Act.put, List.setIfInBounds_toArray, List.set_cons_zero, List.set_cons_succ]
        refine wpAnyH_take (i := 11) (oi := ⟨_, _, _, _, _, _⟩) (v := ?_) rfl (by kernel_rfl) (by kernel_rfl) (by kernel_rfl) (fun _ _ _ h => h) (Or.inl ⟨by rfl, ?_⟩) (by assumption) ?_
        rotate_left
        · (intro w hSw; (try dsimp only at hSw); go_simp); (first | done | with_reducible rfl)
        try simp only [Act.put, List.setIfInBounds_toArray, List.set_cons_zero, List.set_cons_succ]
        refine wpAnyH_take (i := 12) (oi := ⟨_, _, _, _, _, _⟩) (v := ?_) rfl (by kernel_rfl) (by kernel_rfl) (by kernel_rfl) (fun _ _ _ h => h) (Or.inl ⟨by rfl, ?_⟩) (by assumption) ?_
        rotate_left
        · (intro w hSw; (try dsimp only at hSw); go_simp); (first | done | with_reducible rfl)
        try simp only [Act.put, List.setIfInBounds_toArray, List.set_cons_zero, List.set_cons_succ]
        refine wpAnyH_ready (rs := [13]) (by kernel_rfl) (by simp) ?_
        refine AllReadyH.cons (o := ⟨_, _, _, _, _, _⟩) rfl (fun K hK => ?_) AllReadyH.nil
        rw [if_pos (by rfl)]
        go_simp
        go_at_call 18
        refine (q4 _ B5).mono ?_
        rintro e w5b ⟨rfl, hb5b⟩
        have B5b := B5.trans (hb5b.mono B5.size)
        replace x0 := cell_later hb5b x0
        replace x1 := cell_later hb5b x1
        clear hHeld
        refine hK.out _ _ ?_ (fun hHeld => ?_)
        · exact ⟨x0, x1⟩
        clear hK
        clear K
        try simp only [Act.put, List.setIfInBounds_toArray, List.set_cons_zero, List.set_cons_succ]
        refine wpAnyH_take (i := 14) (oi := ⟨_, _, _, _, _, _⟩) (v := ?_) rfl (by kernel_rfl) (by kernel_rfl) (by kernel_rfl) (fun _ _ _ h => h) (Or.inl ⟨by rfl, ?_⟩) (by assumption) ?_
        rotate_left
        · (intro w hSw; (try dsimp only at hSw); go_simp); (first | done | with_reducible rfl)
        try simp only [Act.put, List.setIfInBounds_toArray, List.set_cons_zero, List.set_cons_succ]
        refine wpAnyH_take (i := 15) (oi := ⟨_, _, _, _, _, _⟩) (v := ?_) rfl (by kernel_rfl) (by kernel_rfl) (by kernel_rfl) (fun _ _ _ h => h) (Or.inl ⟨by rfl, ?_⟩) (by assumption) ?_
        rotate_left
        · (intro w hSw; (try dsimp only at hSw); go_simp); (first | done | with_reducible rfl)
        try simp only [Act.put, List.setIfInBounds_toArray, List.set_cons_zero, List.set_cons_succ]
        clear hHeld
        refine wpAnyH_done (by kernel_rfl) ?_ _
        have HRc := Lib.hid (changeK_good.below HR4.out ((hb4.trans (hb5.mono hb4.size)).trans (hb5b.mono (hb4.trans (hb5.mono hb4.size)).size)))
        have HBB := Lib.hid B5b
        clear HR2 HR3 HR4 q2 q3 q4
        have HST := Lib.hid (And.intro x0 x1)
        clear x0 x1
        go_wp2
        go_loopw [6] (fun i wr => ∃ k : Nat, k ≤ xs.length ∧ i = .int .i64 k ∧ Below w5b.heap.size w5b wr ∧ wr.cell? ⟨w2.heap.size, 0, none⟩ = some (.slice A3 (ofL xs ys).comes.length c3) ∧ wr.cell? ⟨w2.heap.size, 1, none⟩ = some (.slice A4 (ofL xs ys).goes.length c4)) (fun i _ => xs.length - (intOf i).toNat)
        case atStart => exact ⟨0, Nat.zero_le _, rfl, Below.refl _ _, HST.out.1, HST.out.2⟩
        case round =>
          obtain ⟨k, hk, rfl, hbr, x0, x1⟩ := hrel
          have HBR := Lib.hid hbr
          have HBW := Lib.hid (HBB.out.trans (hbr.mono HBB.out.size))
          have HRw := Lib.hid (changeK_good.below HRc.out hbr)
          clear HST hbr
          by_cases hlt : k < xs.length
          · have hk0 : (0 : Int) ≤ (k : Int) := by omega
            have hk1 : (k : Int) < (xs.length : Int) := by omega
            have HLT := Lib.hid hlt
            obtain ⟨m1, m2, hm, hC, hG⟩ := change_parts HRw.out
            obtain ⟨b, o, Ae, ce, bk, rfl, _, e0, e1, hel, _⟩ := atoms_el (atomsK_good.below HX.out HBW.out) hlt
            have f1 := fun w' (hb : Below wr.heap.size wr w') => fsHas_any (ofL xs ys).comes xs[k] _ _ _ m1 bk w' (atomsK_good.below hC hb) (atomK_good.below hel hb)
            have f2 := fun w' (hb : Below wr.heap.size wr w') => fsHas_any (ofL xs ys).goes xs[k] _ _ _ m2 bk w' (atomsK_good.below hG hb) (atomK_good.below hel hb)
            have f3 := fun w' (hb : Below wr.heap.size wr w') => fsHas_any ys xs[k] _ _ _ b2 bk w' (atomsK_good.below HY.out (HBW.out.trans (hb.mono HBW.out.size))) (atomK_good.below hel hb)
            have HN1 : Hid (xs[k] ∉ (ofL xs ys).comes) := Lib.hid (by rw [HOX.out]; exact of_not (List.getElem_mem _))
            have HN2 : Hid (xs[k] ∈ (ofL xs ys).goes ↔ xs[k] ∉ ys) := Lib.hid (by rw [HOX.out]; exact of_iff (factsOk_fact HO.out.2) (List.getElem_mem _) (factsOk_fact HO.out.1 _ (List.getElem_mem _)))
            generalize xs[k] = t at *
            clear hlt hC hG hel hm
            by_cases hin : t ∈ ys
            · have HIN := Lib.hid hin
              clear hin
              go_wp2
              refine wp_region_held_drew (S := (fun w' => w'.cell? ⟨w2.heap.size, 0, none⟩ = some (.slice A3 (ofL xs ys).comes.length c3) ∧ w'.cell? ⟨w2.heap.size, 1, none⟩ = some (.slice A4 (ofL xs ys).goes.length c4) ∧ w'.cell? ⟨b, o + k * 2, none⟩ = some (.string t.name) ∧ w'.cell? ⟨b, o + k * 2 + 1, none⟩ = some (.slice Ae t.args.length ce))) (by kernel_rfl) ?_ (fun hHeld => ?_)
              · exact ⟨x0, x1, e0, e1⟩
              refine wpAnyH_take (i := 0) (oi := ⟨_, _, _, _, _, _⟩) (v := ?_) rfl (by kernel_rfl) (by kernel_rfl) (by kernel_rfl) (fun _ _ _ h => h) (Or.inl ⟨by rfl, ?_⟩) (by assumption) ?_
              rotate_left
              · (intro w hSw; (try dsimp only at hSw); go_simp); (first | done | with_reducible rfl)
              try simp only [Act.put, List.setIfInBounds_toArray, List.set_cons_zero, List.set_cons_succ]
              refine wpAnyH_take (i := 1) (oi := ⟨_, _, _, _, _, _⟩) (v := ?_) rfl (by kernel_rfl) (by kernel_rfl) (by kernel_rfl) (fun _ _ _ h => h) (Or.inl ⟨by rfl, ?_⟩) (by assumption) ?_
              rotate_left
              · (intro w hSw; (try dsimp only at hSw); go_simp); (first | done | with_reducible rfl)
              try simp only [Act.put, List.setIfInBounds_toArray, List.set_cons_zero, List.set_cons_succ]
              refine wpAnyH_take (i := 2) (oi := ⟨_, _, _, _, _, _⟩) (v := ?_) rfl (by kernel_rfl) (by kernel_rfl) (by kernel_rfl) (fun _ _ _ h => h) (Or.inl ⟨by rfl, ?_⟩) (by assumption) ?_
              rotate_left
              · (intro w hSw; (try dsimp only at hSw); go_simp); (first | done | with_reducible rfl)
              try simp only [Act.put, List.setIfInBounds_toArray, List.set_cons_zero, List.set_cons_succ]
              refine wpAnyH_take (i := 3) (oi := ⟨_, _, _, _, _, _⟩) (v := ?_) rfl (by kernel_rfl) (by kernel_rfl) (by kernel_rfl) (fun _ _ _ h => h) (Or.inl ⟨by rfl, ?_⟩) (by assumption) ?_
              rotate_left
              · (intro w hSw; (try dsimp only at hSw); go_simp); (first | done | with_reducible rfl)
              try simp only [Act.put, List.setIfInBounds_toArray, List.set_cons_zero, List.set_cons_succ]
              refine wpAnyH_take (i := 4) (oi := ⟨_, _, _, _, _, _⟩) (v := ?_) rfl (by kernel_rfl) (by kernel_rfl) (by kernel_rfl) (fun _ _ _ h => h) (Or.inl ⟨by rfl, ?_⟩) (by assumption) ?_
              rotate_left
              · (intro w hSw; (try dsimp only at hSw); go_simp); (first | done | with_reducible rfl)
              try simp only [Act.put, List.setIfInBounds_toArray, List.set_cons_zero, List.set_cons_succ]
              refine wpAnyH_take (i := 5) (oi := ⟨_, _, _, _, _, _⟩) (v := ?_) rfl (by kernel_rfl) (by kernel_rfl) (by kernel_rfl) (fun _ _ _ h => h) (Or.inl ⟨by rfl, ?_⟩) (by assumption) ?_
              rotate_left
              · (intro w hSw; (try dsimp only at hSw); go_simp); (first | done | with_reducible rfl)
              try simp only [Act.put, List.setIfInBounds_toArray, List.set_cons_zero, List.set_cons_succ]
              refine wpAnyH_ready (rs := [6]) (by kernel_rfl) (by simp) ?_
              refine AllReadyH.cons (o := ⟨_, _, _, _, _, _⟩) rfl (fun K hK => ?_) AllReadyH.nil
              rw [if_pos (by rfl)]
              go_simp
              go_at_call 26
              refine (f1 _ (Below.refl wr.heap.size wr).drew).mono ?_
              rintro e u1 ⟨r1, rfl, hr1, hu1⟩
              obtain rfl : r1 = false := (by cases r1; rfl; exact (HN1.out (hr1.1 rfl)).elim)
              clear hr1
              have BU1 := (Below.refl wr.heap.size wr).drew.trans (hu1.mono (Below.refl wr.heap.size wr).drew.size)
              replace x0 := cell_later hu1 x0
              replace x1 := cell_later hu1 x1
              replace e0 := cell_later hu1 e0
              replace e1 := cell_later hu1 e1
              clear hHeld
              refine hK.out _ _ ?_ (fun hHeld => ?_)
              · exact ⟨x0, x1, e0, e1⟩
              clear hK
              clear K
              try simp only [Act.put, List.setIfInBounds_toArray, List.set_cons_zero, List.set_cons_succ]
              refine wpAnyH_take (i := 7) (oi := ⟨_, _, _, _, _, _⟩) (v := ?_) rfl (by kernel_rfl) (by kernel_rfl) (by kernel_rfl) (fun _ _ _ h => h) (Or.inl ⟨by rfl, ?_⟩) (by assumption) ?_
              rotate_left
              · (intro w hSw; (try dsimp only at hSw); go_simp); (first | done | with_reducible rfl)
              try simp only [Act.put, List.setIfInBounds_toArray, List.set_cons_zero, List.set_cons_succ]
              refine wpAnyH_take (i := 8) (oi := ⟨_, _, _, _, _, _⟩) (v := ?_) rfl (by kernel_rfl) (by kernel_rfl) (by kernel_rfl) (fun _ _ _ h => h) (Or.inl ⟨by rfl, ?_⟩) (by assumption) ?_
              rotate_left
              · (intro w hSw; (try dsimp only at hSw); go_simp); (first | done | with_reducible rfl)
              try simp only [Act.put, List.setIfInBounds_toArray, List.set_cons_zero, List.set_cons_succ]
              refine wpAnyH_take (i := 9) (oi := ⟨_, _, _, _, _, _⟩) (v := ?_) rfl (by kernel_rfl) (by kernel_rfl) (by kernel_rfl) (fun _ _ _ h => h) (Or.inl ⟨by rfl, ?_⟩) (by assumption) ?_
              rotate_left
              · (intro w hSw; (try dsimp only at hSw); go_simp); (first | done | with_reducible rfl)
              try simp only [Act.put, List.setIfInBounds_toArray, List.set_cons_zero, List.set_cons_succ]
              refine wpAnyH_take (i := 10) (oi := ⟨_, _, _, _, _, _⟩) (v := ?_) rfl (by kernel_rfl) (by kernel_rfl) (by kernel_rfl) (fun _ _ _ h => h) (Or.inl ⟨by rfl, ?_⟩) (by assumption) ?_
              rotate_left
              · (intro w hSw; (try dsimp only at hSw); go_simp); (first | done | with_reducible rfl)
              try simp only [Act.put, List.setIfInBounds_toArray, List.set_cons_zero, List.set_cons_succ]
              refine wpAnyH_take (i := 11) (oi := ⟨_, _, _, _, _, _⟩) (v := ?_) rfl (by kernel_rfl) (by kernel_rfl) (by kernel_rfl) (fun _ _ _ h => h) (Or.inl ⟨by rfl, ?_⟩) (by assumption) ?_
              rotate_left
              · (intro w hSw; (try dsimp only at hSw); go_simp); (first | done | with_reducible rfl)
              try simp only [Act.put, List.setIfInBounds_toArray, List.set_cons_zero, List.set_cons_succ]
              refine wpAnyH_take (i := 12) (oi := ⟨_, _, _, _, _, _⟩) (v := ?_) rfl (by kernel_rfl) (by kernel_rfl) (by kernel_rfl) (fun _ _ _ h => h) (Or.inl ⟨by rfl, ?_⟩) (by assumption) ?_
              rotate_left
              · (intro w hSw; (try dsimp only at hSw); go_simp); (first | done | with_reducible rfl)
              try simp only [Act.put, List.setIfInBounds_toArray, List.set_cons_zero, List.set_cons_succ]
              refine wpAnyH_take (i := 13) (oi := ⟨_, _, _, _, _, _⟩) (v := ?_) rfl (by kernel_rfl) (by kernel_rfl) (by kernel_rfl) (fun _ _ _ h => h) (Or.inl ⟨by rfl, ?_⟩) (by assumption) ?_
              rotate_left
              · (intro w hSw; (try dsimp only at hSw); go_simp); (first | done | with_reducible rfl)
              try simp only [Act.put, List.setIfInBounds_toArray, List.set_cons_zero, List.set_cons_succ]
              refine wpAnyH_take (i := 15) (oi := ⟨_, _, _, _, _, _⟩) (v := ?_) rfl (by kernel_rfl) (by kernel_rfl) (by kernel_rfl) (fun _ _ _ h => h) (Or.inl ⟨by rfl, ?_⟩) (by assumption) ?_
              rotate_left
              · (intro w hSw; (try dsimp only at hSw); go_simp); (first | done | with_reducible rfl)
              try simp only [Act.put, List.setIfInBounds_toArray, List.set_cons_zero, List.set_cons_succ]
              refine wpAnyH_take (i := 16) (oi := ⟨_, _, _, _, _, _⟩) (v := ?_) rfl (by kernel_rfl) (by kernel_rfl) (by kernel_rfl) (fun _ _ _ h => h) (Or.inl ⟨by rfl, ?_⟩) (by assumption) ?_
              rotate_left
              · (intro w hSw; (try dsimp only at hSw); go_simp); (first | done | with_reducible rfl)
              try simp only [Act.put, List.setIfInBounds_toArray, List.set_cons_zero, List.set_cons_succ]
              refine wpAnyH_take (i := 17) (oi := ⟨_, _, _, _, _, _⟩) (v := ?_) rfl (by kernel_rfl) (by kernel_rfl) (by kernel_rfl) (fun _ _ _ h => h) (Or.inl ⟨by rfl, ?_⟩) (by assumption) ?_
              rotate_left
              · (intro w hSw; (try dsimp only at hSw); go_simp); (first | done | with_reducible rfl)
              try simp only [Act.put, List.setIfInBounds_toArray, List.set_cons_zero, List.set_cons_succ]
              refine wpAnyH_take (i := 18) (oi := ⟨_, _, _, _, _, _⟩) (v := ?_) rfl (by kernel_rfl) (by kernel_rfl) (by kernel_rfl) (fun _ _ _ h => h) (Or.inl ⟨by rfl, ?_⟩) (by assumption) ?_
              rotate_left
              · (intro w hSw; (try dsimp only at hSw); go_simp); (first | done | with_reducible rfl)
              try simp only [Act.put, List.setIfInBounds_toArray, List.set_cons_zero, List.set_cons_succ]
              refine wpAnyH_take (i := 19) (oi := ⟨_, _, _, _, _, _⟩) (v := ?_) rfl (by kernel_rfl) (by kernel_rfl) (by kernel_rfl) (fun _ _ _ h => h) (Or.inl ⟨by rfl, ?_⟩) (by assumption) ?_
              rotate_left
              · (intro w hSw; (try dsimp only at hSw); go_simp); (first | done | with_reducible rfl)
              try simp only [Act.put, List.setIfInBounds_toArray, List.set_cons_zero, List.set_cons_succ]
              refine wpAnyH_ready (rs := [14]) (by kernel_rfl) (by simp) ?_
              refine AllReadyH.cons (o := ⟨_, _, _, _, _, _⟩) rfl (fun K hK => ?_) AllReadyH.nil
              rw [if_pos (by rfl)]
              go_simp
              go_at_call 26
              refine (f2 _ BU1).mono ?_
              rintro e u2 ⟨r2, rfl, hr2, hu2⟩
              obtain rfl : r2 = false := (by cases r2; rfl; exact ((fun hx => HN2.out.1 hx HIN.out) (hr2.1 rfl)).elim)
              clear hr2
              have BU2 := BU1.trans (hu2.mono BU1.size)
              replace x0 := cell_later hu2 x0
              replace x1 := cell_later hu2 x1
              replace e0 := cell_later hu2 e0
              replace e1 := cell_later hu2 e1
              clear hHeld
              refine hK.out _ _ ?_ (fun hHeld => ?_)
              · exact ⟨x0, x1, e0, e1⟩
              clear hK
              clear K
              try simp only [Act.put, List.setIfInBounds_toArray, List.set_cons_zero, List.set_cons_succ]
              refine wpAnyH_ready (rs := [20]) (by kernel_rfl) (by simp) ?_
              refine AllReadyH.cons (o := ⟨_, _, _, _, _, _⟩) rfl (fun K hK => ?_) AllReadyH.nil
              rw [if_pos (by rfl)]
              go_simp
              go_at_call 26
              refine (f3 _ BU2).mono ?_
              rintro e u3 ⟨r3, rfl, hr3, hu3⟩
              obtain rfl : r3 = true := hr3.2 HIN.out
              clear hr3
              have BU3 := BU2.trans (hu3.mono BU2.size)
              replace x0 := cell_later hu3 x0
              replace x1 := cell_later hu3 x1
              replace e0 := cell_later hu3 e0
              replace e1 := cell_later hu3 e1
              clear hHeld
              refine hK.out _ _ ?_ (fun hHeld => ?_)
              · exact ⟨x0, x1, e0, e1⟩
              clear hK
              clear K
              try simp only [Act.put, List.setIfInBounds_toArray, List.set_cons_zero, List.set_cons_succ]
              refine wpAnyH_take (i := 21) (oi := ⟨_, _, _, _, _, _⟩) (v := ?_) rfl (by kernel_rfl) (by kernel_rfl) (by kernel_rfl) (fun _ _ _ h => h) (Or.inl ⟨by rfl, ?_⟩) (by assumption) ?_
              rotate_left
              · (intro w hSw; (try dsimp only at hSw); go_simp); (first | done | with_reducible rfl)
              try simp only [Act.put, List.setIfInBounds_toArray, List.set_cons_zero, List.set_cons_succ]
              refine wpAnyH_take (i := 22) (oi := ⟨_, _, _, _, _, _⟩) (v := ?_) rfl (by kernel_rfl) (by kernel_rfl) (by kernel_rfl) (fun _ _ _ h => h) (Or.inl ⟨by rfl, ?_⟩) (by assumption) ?_
              rotate_left
              · (intro w hSw; (try dsimp only at hSw); go_simp); (first | done | with_reducible rfl)
              try simp only [Act.put, List.setIfInBounds_toArray, List.set_cons_zero, List.set_cons_succ]
              clear hHeld
              refine wpAnyH_done (by kernel_rfl) ?_ _
              have HU := Lib.hid (And.intro BU3 (And.intro x0 x1))
              clear f1 f2 f3 x0 x1 e0 e1
              go_wp2
              go_roundw
              case rel => exact ⟨k + 1, HLT.out, by go_num, HBR.out.trans (HU.out.1.mono HBR.out.size), HU.out.2.1, HU.out.2.2⟩
              case measure => have := HLT.out; simp [intOf]; omega
            · have HIN := Lib.hid hin
              clear hin
              go_wp2
              refine wp_region_held_drew (S := (fun w' => w'.cell? ⟨w2.heap.size, 0, none⟩ = some (.slice A3 (ofL xs ys).comes.length c3) ∧ w'.cell? ⟨w2.heap.size, 1, none⟩ = some (.slice A4 (ofL xs ys).goes.length c4) ∧ w'.cell? ⟨b, o + k * 2, none⟩ = some (.string t.name) ∧ w'.cell? ⟨b, o + k * 2 + 1, none⟩ = some (.slice Ae t.args.length ce))) (by kernel_rfl) ?_ (fun hHeld => ?_)
              · exact ⟨x0, x1, e0, e1⟩
              refine wpAnyH_take (i := 0) (oi := ⟨_, _, _, _, _, _⟩) (v := ?_) rfl (by kernel_rfl) (by kernel_rfl) (by kernel_rfl) (fun _ _ _ h => h) (Or.inl ⟨by rfl, ?_⟩) (by assumption) ?_
              rotate_left
              · (intro w hSw; (try dsimp only at hSw); go_simp); (first | done | with_reducible rfl)
              try simp only [Act.put, List.setIfInBounds_toArray, List.set_cons_zero, List.set_cons_succ]
              refine wpAnyH_take (i := 1) (oi := ⟨_, _, _, _, _, _⟩) (v := ?_) rfl (by kernel_rfl) (by kernel_rfl) (by kernel_rfl) (fun _ _ _ h => h) (Or.inl ⟨by rfl, ?_⟩) (by assumption) ?_
              rotate_left
              · (intro w hSw; (try dsimp only at hSw); go_simp); (first | done | with_reducible rfl)
              try simp only [Act.put, List.setIfInBounds_toArray, List.set_cons_zero, List.set_cons_succ]
              refine wpAnyH_take (i := 2) (oi := ⟨_, _, _, _, _, _⟩) (v := ?_) rfl (by kernel_rfl) (by kernel_rfl) (by kernel_rfl) (fun _ _ _ h => h) (Or.inl ⟨by rfl, ?_⟩) (by assumption) ?_
              rotate_left
              · (intro w hSw; (try dsimp only at hSw); go_simp); (first | done | with_reducible rfl)
              try simp only [Act.put, List.setIfInBounds_toArray, List.set_cons_zero, List.set_cons_succ]
              refine wpAnyH_take (i := 3) (oi := ⟨_, _, _, _, _, _⟩) (v := ?_) rfl (by kernel_rfl) (by kernel_rfl) (by kernel_rfl) (fun _ _ _ h => h) (Or.inl ⟨by rfl, ?_⟩) (by assumption) ?_
              rotate_left
              · (intro w hSw; (try dsimp only at hSw); go_simp); (first | done | with_reducible rfl)
              try simp only [Act.put, List.setIfInBounds_toArray, List.set_cons_zero, List.set_cons_succ]
              refine wpAnyH_take (i := 4) (oi := ⟨_, _, _, _, _, _⟩) (v := ?_) rfl (by kernel_rfl) (by kernel_rfl) (by kernel_rfl) (fun _ _ _ h => h) (Or.inl ⟨by rfl, ?_⟩) (by assumption) ?_
              rotate_left
              · (intro w hSw; (try dsimp only at hSw); go_simp); (first | done | with_reducible rfl)
              try simp only [Act.put, List.setIfInBounds_toArray, List.set_cons_zero, List.set_cons_succ]
              refine wpAnyH_take (i := 5) (oi := ⟨_, _, _, _, _, _⟩) (v := ?_) rfl (by kernel_rfl) (by kernel_rfl) (by kernel_rfl) (fun _ _ _ h => h) (Or.inl ⟨by rfl, ?_⟩) (by assumption) ?_
              rotate_left
              · (intro w hSw; (try dsimp only at hSw); go_simp); (first | done | with_reducible rfl)
              try simp only [Act.put, List.setIfInBounds_toArray, List.set_cons_zero, List.set_cons_succ]
              refine wpAnyH_ready (rs := [6]) (by kernel_rfl) (by simp) ?_
              refine AllReadyH.cons (o := ⟨_, _, _, _, _, _⟩) rfl (fun K hK => ?_) AllReadyH.nil
              rw [if_pos (by rfl)]
              go_simp
              go_at_call 26
              refine (f1 _ (Below.refl wr.heap.size wr).drew).mono ?_
              rintro e u1 ⟨r1, rfl, hr1, hu1⟩
              obtain rfl : r1 = false := (by cases r1; rfl; exact (HN1.out (hr1.1 rfl)).elim)
              clear hr1
              have BU1 := (Below.refl wr.heap.size wr).drew.trans (hu1.mono (Below.refl wr.heap.size wr).drew.size)
              replace x0 := cell_later hu1 x0
              replace x1 := cell_later hu1 x1
              replace e0 := cell_later hu1 e0
              replace e1 := cell_later hu1 e1
              clear hHeld
              refine hK.out _ _ ?_ (fun hHeld => ?_)
              · exact ⟨x0, x1, e0, e1⟩
              clear hK
              clear K
              try simp only [Act.put, List.setIfInBounds_toArray, List.set_cons_zero, List.set_cons_succ]
              refine wpAnyH_take (i := 7) (oi := ⟨_, _, _, _, _, _⟩) (v := ?_) rfl (by kernel_rfl) (by kernel_rfl) (by kernel_rfl) (fun _ _ _ h => h) (Or.inl ⟨by rfl, ?_⟩) (by assumption) ?_
              rotate_left
              · (intro w hSw; (try dsimp only at hSw); go_simp); (first | done | with_reducible rfl)
              try simp only [Act.put, List.setIfInBounds_toArray, List.set_cons_zero, List.set_cons_succ]
              refine wpAnyH_take (i := 8) (oi := ⟨_, _, _, _, _, _⟩) (v := ?_) rfl (by kernel_rfl) (by kernel_rfl) (by kernel_rfl) (fun _ _ _ h => h) (Or.inl ⟨by rfl, ?_⟩) (by assumption) ?_
              rotate_left
              · (intro w hSw; (try dsimp only at hSw); go_simp); (first | done | with_reducible rfl)
              try simp only [Act.put, List.setIfInBounds_toArray, List.set_cons_zero, List.set_cons_succ]
              refine wpAnyH_take (i := 9) (oi := ⟨_, _, _, _, _, _⟩) (v := ?_) rfl (by kernel_rfl) (by kernel_rfl) (by kernel_rfl) (fun _ _ _ h => h) (Or.inl ⟨by rfl, ?_⟩) (by assumption) ?_
              rotate_left
              · (intro w hSw; (try dsimp only at hSw); go_simp); (first | done | with_reducible rfl)
              try simp only [Act.put, List.setIfInBounds_toArray, List.set_cons_zero, List.set_cons_succ]
              refine wpAnyH_take (i := 10) (oi := ⟨_, _, _, _, _, _⟩) (v := ?_) rfl (by kernel_rfl) (by kernel_rfl) (by kernel_rfl) (fun _ _ _ h => h) (Or.inl ⟨by rfl, ?_⟩) (by assumption) ?_
              rotate_left
              · (intro w hSw; (try dsimp only at hSw); go_simp); (first | done | with_reducible rfl)
              try simp only [Act.put, List.setIfInBounds_toArray, List.set_cons_zero, List.set_cons_succ]
              refine wpAnyH_take (i := 11) (oi := ⟨_, _, _, _, _, _⟩) (v := ?_) rfl (by kernel_rfl) (by kernel_rfl) (by kernel_rfl) (fun _ _ _ h => h) (Or.inl ⟨by rfl, ?_⟩) (by assumption) ?_
              rotate_left
              · (intro w hSw; (try dsimp only at hSw); go_simp); (first | done | with_reducible rfl)
              try simp only [Act.put, List.setIfInBounds_toArray, List.set_cons_zero, List.set_cons_succ]
              refine wpAnyH_take (i := 12) (oi := ⟨_, _, _, _, _, _⟩) (v := ?_) rfl (by kernel_rfl) (by kernel_rfl) (by kernel_rfl) (fun _ _ _ h => h) (Or.inl ⟨by rfl, ?_⟩) (by assumption) ?_
              rotate_left
              · (intro w hSw; (try dsimp only at hSw); go_simp); (first | done | with_reducible rfl)
              try simp only [Act.put, List.setIfInBounds_toArray, List.set_cons_zero, List.set_cons_succ]
              refine wpAnyH_take (i := 13) (oi := ⟨_, _, _, _, _, _⟩) (v := ?_) rfl (by kernel_rfl) (by kernel_rfl) (by kernel_rfl) (fun _ _ _ h => h) (Or.inl ⟨by rfl, ?_⟩) (by assumption) ?_
              rotate_left
              · (intro w hSw; (try dsimp only at hSw); go_simp); (first | done | with_reducible rfl)
              try simp only [Act.put, List.setIfInBounds_toArray, List.set_cons_zero, List.set_cons_succ]
              refine wpAnyH_take (i := 15) (oi := ⟨_, _, _, _, _, _⟩) (v := ?_) rfl (by kernel_rfl) (by kernel_rfl) (by kernel_rfl) (fun _ _ _ h => h) (Or.inl ⟨by rfl, ?_⟩) (by assumption) ?_
              rotate_left
              · (intro w hSw; (try dsimp only at hSw); go_simp); (first | done | with_reducible rfl)
              try simp only [Act.put, List.setIfInBounds_toArray, List.set_cons_zero, List.set_cons_succ]
              refine wpAnyH_take (i := 16) (oi := ⟨_, _, _, _, _, _⟩) (v := ?_) rfl (by kernel_rfl) (by kernel_rfl) (by kernel_rfl) (fun _ _ _ h => h) (Or.inl ⟨by rfl, ?_⟩) (by assumption) ?_
              rotate_left
              · (intro w hSw; (try dsimp only at hSw); go_simp); (first | done | with_reducible rfl)
              try simp only [Act.put, List.setIfInBounds_toArray, List.set_cons_zero, List.set_cons_succ]
              refine wpAnyH_take (i := 17) (oi := ⟨_, _, _, _, _, _⟩) (v := ?_) rfl (by kernel_rfl) (by kernel_rfl) (by kernel_rfl) (fun _ _ _ h => h) (Or.inl ⟨by rfl, ?_⟩) (by assumption) ?_
              rotate_left
              · (intro w hSw; (try dsimp only at hSw); go_simp); (first | done | with_reducible rfl)
              try simp only [Act.put, List.setIfInBounds_toArray, List.set_cons_zero, List.set_cons_succ]
              refine wpAnyH_take (i := 18) (oi := ⟨_, _, _, _, _, _⟩) (v := ?_) rfl (by kernel_rfl) (by kernel_rfl) (by kernel_rfl) (fun _ _ _ h => h) (Or.inl ⟨by rfl, ?_⟩) (by assumption) ?_
              rotate_left
              · (intro w hSw; (try dsimp only at hSw); go_simp); (first | done | with_reducible rfl)
              try simp only [Act.put, List.setIfInBounds_toArray, List.set_cons_zero, List.set_cons_succ]
              refine wpAnyH_take (i := 19) (oi := ⟨_, _, _, _, _, _⟩) (v := ?_) rfl (by kernel_rfl) (by kernel_rfl) (by kernel_rfl) (fun _ _ _ h => h) (Or.inl ⟨by rfl, ?_⟩) (by assumption) ?_
              rotate_left
              · (intro w hSw; (try dsimp only at hSw); go_simp); (first | done | with_reducible rfl)
              try simp only [Act.put, List.setIfInBounds_toArray, List.set_cons_zero, List.set_cons_succ]
              refine wpAnyH_ready (rs := [14]) (by kernel_rfl) (by simp) ?_
              refine AllReadyH.cons (o := ⟨_, _, _, _, _, _⟩) rfl (fun K hK => ?_) AllReadyH.nil
              rw [if_pos (by rfl)]
              go_simp
              go_at_call 26
              refine (f2 _ BU1).mono ?_
              rintro e u2 ⟨r2, rfl, hr2, hu2⟩
              obtain rfl : r2 = true := hr2.2 (HN2.out.2 HIN.out)
              clear hr2
              have BU2 := BU1.trans (hu2.mono BU1.size)
              replace x0 := cell_later hu2 x0
              replace x1 := cell_later hu2 x1
              replace e0 := cell_later hu2 e0
              replace e1 := cell_later hu2 e1
              clear hHeld
              refine hK.out _ _ ?_ (fun hHeld => ?_)
              · exact ⟨x0, x1, e0, e1⟩
              clear hK
              clear K
              try simp only [Act.put, List.setIfInBounds_toArray, List.set_cons_zero, List.set_cons_succ]
              refine wpAnyH_ready (rs := [20]) (by kernel_rfl) (by simp) ?_
              refine AllReadyH.cons (o := ⟨_, _, _, _, _, _⟩) rfl (fun K hK => ?_) AllReadyH.nil
              rw [if_pos (by rfl)]
              go_simp
              go_at_call 26
              refine (f3 _ BU2).mono ?_
              rintro e u3 ⟨r3, rfl, hr3, hu3⟩
              obtain rfl : r3 = false := (by cases r3; rfl; exact (HIN.out (hr3.1 rfl)).elim)
              clear hr3
              have BU3 := BU2.trans (hu3.mono BU2.size)
              replace x0 := cell_later hu3 x0
              replace x1 := cell_later hu3 x1
              replace e0 := cell_later hu3 e0
              replace e1 := cell_later hu3 e1
              clear hHeld
              refine hK.out _ _ ?_ (fun hHeld => ?_)
              · exact ⟨x0, x1, e0, e1⟩
              clear hK
              clear K
              try simp only [Act.put, List.setIfInBounds_toArray, List.set_cons_zero, List.set_cons_succ]
              refine wpAnyH_take (i := 21) (oi := ⟨_, _, _, _, _, _⟩) (v := ?_) rfl (by kernel_rfl) (by kernel_rfl) (by kernel_rfl) (fun _ _ _ h => h) (Or.inl ⟨by rfl, ?_⟩) (by assumption) ?_
              rotate_left
              · (intro w hSw; (try dsimp only at hSw); go_simp); (first | done | with_reducible rfl)
              try simp only [Act.put, List.setIfInBounds_toArray, List.set_cons_zero, List.set_cons_succ]
              refine wpAnyH_take (i := 22) (oi := ⟨_, _, _, _, _, _⟩) (v := ?_) rfl (by kernel_rfl) (by kernel_rfl) (by kernel_rfl) (fun _ _ _ h => h) (Or.inl ⟨by rfl, ?_⟩) (by assumption) ?_
              rotate_left
              · (intro w hSw; (try dsimp only at hSw); go_simp); (first | done | with_reducible rfl)
              try simp only [Act.put, List.setIfInBounds_toArray, List.set_cons_zero, List.set_cons_succ]
              clear hHeld
              refine wpAnyH_done (by kernel_rfl) ?_ _
              have HU := Lib.hid (And.intro BU3 (And.intro x0 x1))
              clear f1 f2 f3 x0 x1 e0 e1
              go_wp2
              go_roundw
              case rel => exact ⟨k + 1, HLT.out, by go_num, HBR.out.trans (HU.out.1.mono HBR.out.size), HU.out.2.1, HU.out.2.2⟩
              case measure => have := HLT.out; simp [intOf]; omega
          · have hk' : ¬ (k : Int) < (xs.length : Int) := by omega
            obtain rfl : k = xs.length := by omega
            have HXr := Lib.hid (atomsK_good.below HX.out HBW.out)
            have g1 := changeOf_impl xs xs _ _ b1 b1 wr HXr.out HXr.out
            rw [show ofL xs xs = ⟨[], []⟩ from by unfold ofL; rw [HO.out.1, less_self]; rfl] at g1
            have hok : changeOk (ofL xs ys) = true := by rw [HOX.out]; exact of_ok HO.out.1 HO.out.2
            have hdo : doL xs (ofL xs ys) = ys := by rw [HOX.out]; exact doL_of HO.out.1 HO.out.2
            have hdo2 : doL ys ⟨(ofL xs ys).goes, (ofL xs ys).comes⟩ = xs := by rw [HOX.out]; exact doL_of HO.out.2 HO.out.1
            have h1 := fun w' (hb : Below wr.heap.size wr w') => hok ▸ changeOk_impl (ofL xs ys) _ _ d2 w' (changeK_good.below HRw.out hb)
            have h2 := fun w' (hb : Below wr.heap.size wr w') => hdo ▸ changeDo_impl xs (ofL xs ys) _ _ _ b1 d2 w' (atomsK_good.below HXr.out hb) (changeK_good.below HRw.out hb)
            obtain ⟨m1, m2, hm, hC, hG⟩ := change_parts HRw.out
            have h4 := fun w' (hb : Below wr.heap.size wr w') => hdo2 ▸ changeDo_impl ys ⟨(ofL xs ys).goes, (ofL xs ys).comes⟩ _ _ _ b2 (m2 ++ m1) w' (atomsK_good.below HY.out (HBW.out.trans (hb.mono HBW.out.size))) ⟨_, _, m2, m1, rfl, rfl, atomsK_good.below hG hb, atomsK_good.below hC hb⟩
            clear hk hok hdo hdo2 hC hG hm
            go_wp2_with fail
            refine g1.mono ?_
            rintro e w7 ⟨hb7, cs7, d7, rfl, hR7, hN7⟩
            obtain ⟨A9, c9, A10, c10, rfl⟩ := change_cells hR7
            have hA7 : Below w7.heap.size w7 (w7.alloc (.cells #[.slice A9 0 c9, .slice A10 0 c10] 44)) := (Below.refl _ _).alloc (Nat.le_refl _) _
            have B7 := hb7.trans (hA7.mono hb7.size)
            replace x0 := cell_later B7 x0
            replace x1 := cell_later B7 x1
            have n0 : (w7.alloc (.cells #[.slice A9 0 c9, .slice A10 0 c10] 44)).cell? ⟨w7.heap.size, 0, none⟩ = some (.slice A9 0 c9) := by go_simp
            have n1 : (w7.alloc (.cells #[.slice A9 0 c9, .slice A10 0 c10] 44)).cell? ⟨w7.heap.size, 1, none⟩ = some (.slice A10 0 c10) := by go_simp
            clear g1 hR7 hN7
            go_wp2_with fail
            refine (h1 _ B7).mono ?_
            rintro e w8 ⟨rfl, hb8⟩
            have B8 := B7.trans (hb8.mono B7.size)
            replace x0 := cell_later hb8 x0
            replace x1 := cell_later hb8 x1
            replace n0 := cell_later hb8 n0
            replace n1 := cell_later hb8 n1
            clear h1
            go_wp2_with fail
            refine (h2 _ B8).mono ?_
            rintro e w9 ⟨hb9, v9, d9, rfl, hR9, hN9⟩
            have B9 := B8.trans (hb9.mono B8.size)
            replace x0 := cell_later hb9 x0
            replace x1 := cell_later hb9 x1
            replace n0 := cell_later hb9 n0
            replace n1 := cell_later hb9 n1
            have h3 := fsSame_any ys ys _ _ d9 b2 _ hR9 (atomsK_good.below HY.out (HBW.out.trans (B9.mono HBW.out.size)))
            obtain ⟨A11, c11, rfl, _, _⟩ := sliceK_form hR9
            clear h2 hR9 hN9
            go_wp2_with fail
            refine h3.mono ?_
            rintro e w10 ⟨r, rfl, hr, hb10⟩
            obtain rfl : r = true := (by first | exact hr.2 rfl | simpa using hr)
            have B10 := B9.trans (hb10.mono B9.size)
            replace x0 := cell_later hb10 x0
            replace x1 := cell_later hb10 x1
            replace n0 := cell_later hb10 n0
            replace n1 := cell_later hb10 n1
            clear h3 hr
            go_wp2_with fail
            refine (h4 _ B10).mono ?_
            rintro e w11 ⟨hb11, v11, d11, rfl, hR11, hN11⟩
            have B11 := B10.trans (hb11.mono B10.size)
            replace n0 := cell_later hb11 n0
            replace n1 := cell_later hb11 n1
            have h5 := fsSame_any xs xs _ _ d11 b1 _ hR11 (atomsK_good.below HXr.out B11)
            obtain ⟨A12, c12, rfl, _, _⟩ := sliceK_form hR11
            clear h4 hR11 hN11 x0 x1
            go_wp2_with fail
            refine h5.mono ?_
            rintro e w12 ⟨r, rfl, hr, hb12⟩
            obtain rfl : r = true := (by first | exact hr.2 rfl | simpa using hr)
            have B12 := B11.trans (hb12.mono B11.size)
            replace n0 := cell_later hb12 n0
            replace n1 := cell_later hb12 n1
            clear h5 hr
            go_wp2
            go_ret
            exact ⟨rfl, HB1.out.trans ((HBW.out.trans (B12.mono HBW.out.size)).mono HB1.out.size)⟩
  · have hn' : (1048576 : Int) < (cs.length : Int) := by omega
    clear h1
    go_enter Try.func5, Try.ntmps5
    go_wp2
    go_ret
    exact ⟨rfl, Below.refl _ _⟩

end Go.Proofs.Ytbppnelbjklpeaa
