/- The walk of the law FnFactsGone. -/
import Derived.Laws.EntriesVeiled
import Derived.Deep.RegionHeld3
import Derived.Deep.RegionWith
import Derived.BigQuiet
import Derived.Deep.QuietTactic
import Derived.Deep.DrawnRows
import Derived.WalkKit
import Derived.WalkSpells
import Derived.WalkLawsBesides
import Derived.Lib.Hide
import Derived.Test.YtadnimchnmkajaaDraw7
import Derived.Test.YtadnimchnmkajaaGoneP
import Derived.Test.YtadnimchnmkajaaGone
import Derived.Test.YtadnimchnmkajaaAddI
import Derived.Test.YtadnimchnmkajaaHasI
import Derived.Test.YtadnimchnmkajaaFs
namespace Go.Proofs.Ytadnimchnmkajaa
open Go.RowKit D
set_option linter.unusedVariables false
attribute [local go_sem ↓] Go.wp_at_zero Go.wp_at_succ

theorem fsSame_same (xs : List A) (v1 v2 : Value) (b1 b2 : List Nat) (w : World) (h : atomsK w [v1] xs b1) (h2 : atomsK w [v2] xs b2) :
    Calls Try.prog 17 #[v1, v2] w fun e w' => e = .returned (.bool true) ∧ Below w.heap.size w w' :=
  (fsSame_any xs xs v1 v2 b1 b2 w h h2).mono fun e w' ⟨r, he, hr, hb⟩ => ⟨by rw [he, hr.2 rfl], hb⟩

set_option maxRecDepth 100000 in
set_option maxHeartbeats 8000000 in
theorem factsGoneLaw_walk (cs : List UInt8) (v1 : Value) (bs1 : List Nat) (w : World) (h1 : bytesK w [v1] cs bs1) :
    Calls Try.prog 4 #[v1] w fun e w' => e = .returned (.bool true) ∧ Below w.heap.size w w' := by
  obtain ⟨Ad, cap, rfl, hl, hm⟩ := sliceK_form h1
  have hlm := nat_ge_max (Nat.le_trans hl hm)
  clear hl hm
  by_cases hn : cs.length ≤ 1048576
  · have hd := drawFactsGone_any _ cs bs1 w h1 hn
    have hn' : ¬ (1048576 : Int) < (cs.length : Int) := by omega
    clear h1 hn
    go_enter Try.func4, Try.ntmps4
    go_wp2_with fail
    refine hd.mono ?_
    rintro e w1 ⟨xs, a, A1, A2, c1, c2, b1, b2, rfl, hX, hAt, hx, hsm, hal, hb1, hf1, hf2⟩
    have HX := Lib.hid hX
    have HAt := Lib.hid hAt
    have hA0 : Below w1.heap.size w1 (w1.alloc (.cells #[.string a.name, .slice A2 a.args.length c2] 34)) := (Below.refl _ _).alloc (Nat.le_refl _) _
    have q1 := factsGone_impl xs a _ _ _ b1 b2 _ (atomsK_good.below hX hA0) (atomK_good.below hAt hA0)
    have q2 := fun w' (hb : Below w1.heap.size w1 w') => factsGone_spec xs a _ _ _ b1 b2 w' (atomsK_good.below hX hb) (atomK_good.below hAt hb)
    have q4 := fun w' (hb : Below w1.heap.size w1 w') => factsOk_spec xs _ b1 w' (atomsK_good.below hX hb)
    have q5 := fun w' (hb : Below w1.heap.size w1 w') => factsHas_impl xs a _ _ _ b1 b2 w' (atomsK_good.below hX hb) (atomK_good.below hAt hb)
    have x0 : (w1.alloc (.cells #[.string a.name, .slice A2 a.args.length c2] 34)).cell? ⟨w1.heap.size, 0, none⟩ = some (.string a.name) := by go_simp
    have x1 : (w1.alloc (.cells #[.string a.name, .slice A2 a.args.length c2] 34)).cell? ⟨w1.heap.size, 1, none⟩ = some (.slice A2 a.args.length c2) := by go_simp
    have HC := Lib.hid (gone_cases xs a)
    have HB1 := Lib.hid hb1
    clear hd hX hAt hx hsm hal hb1 hf1 hf2
    rcases HC.out with ⟨ho, hG⟩ | ⟨ho, hh, hG⟩ | ⟨ho, hfa, hha, hG⟩
    · rw [hG] at q1 q2
      rw [ho] at q4
      clear q5 HC hG ho
      go_wp2_with fail
      refine q1.mono ?_
      rintro e w2 ⟨hb2, v2, d2, rfl, hR2, hN2⟩
      have B2 := hA0.trans (hb2.mono hA0.size)
      replace x0 := cell_later hb2 x0
      replace x1 := cell_later hb2 x1
      have HR2 := Lib.hid hR2
      obtain ⟨A3, c3, rfl, _, _⟩ := sliceK_form hR2
      clear q1 hR2 hN2
      go_wp2_with fail
      refine (q2 _ B2).mono ?_
      rintro e w3 ⟨hb3, v3, d3, rfl, hR3⟩
      have B3 := B2.trans (hb3.mono B2.size)
      replace x0 := cell_later hb3 x0
      replace x1 := cell_later hb3 x1
      have HR3 := Lib.hid hR3
      replace HR2 := Lib.hid (atomsK_good.below HR2.out hb3)
      obtain ⟨A4, c4, rfl, _, _⟩ := sliceK_form hR3
      clear q2 hR3
      go_wp2_with fail
      refine (fsSame_same [] _ _ d2 d3 _ HR2.out HR3.out).mono ?_
      rintro e w4 ⟨rfl, hb4⟩
      have B4 := B3.trans (hb4.mono B3.size)
      replace x0 := cell_later hb4 x0
      replace x1 := cell_later hb4 x1
      replace HR2 := Lib.hid (atomsK_good.below HR2.out hb4)
      replace HR3 := Lib.hid (atomsK_good.below HR3.out hb4)
      go_wp2_with fail
      refine (q4 _ B4).mono ?_
      rintro e w5 ⟨rfl, hb5⟩
      have B5 := B4.trans (hb5.mono B4.size)
      replace x0 := cell_later hb5 x0
      replace x1 := cell_later hb5 x1
      replace HR2 := Lib.hid (atomsK_good.below HR2.out hb5)
      replace HR3 := Lib.hid (atomsK_good.below HR3.out hb5)
      clear q4
      go_wp2_with fail
      refine (fsSame_same [] _ _ d2 d3 _ HR2.out HR3.out).mono ?_
      rintro e w6 ⟨rfl, hb6⟩
      have B6 := B5.trans (hb6.mono B5.size)
      go_wp2
      go_ret
      exact ⟨rfl, HB1.out.trans (B6.mono HB1.out.size)⟩
    · have hz : factsHas xs a = false := by unfold factsHas; rw [ho, Bool.true_and]; exact hh
      rw [hG] at q1 q2
      rw [ho] at q4
      rw [hz] at q5
      clear HC hG ho hh hz
      go_wp2_with fail
      refine q1.mono ?_
      rintro e w2 ⟨hb2, v2, d2, rfl, hR2, hN2⟩
      have B2 := hA0.trans (hb2.mono hA0.size)
      replace x0 := cell_later hb2 x0
      replace x1 := cell_later hb2 x1
      have HR2 := Lib.hid hR2
      obtain ⟨A3, c3, rfl, _, _⟩ := sliceK_form hR2
      clear q1 hR2 hN2
      go_wp2_with fail
      refine (q2 _ B2).mono ?_
      rintro e w3 ⟨hb3, v3, d3, rfl, hR3⟩
      have B3 := B2.trans (hb3.mono B2.size)
      replace x0 := cell_later hb3 x0
      replace x1 := cell_later hb3 x1
      have HR3 := Lib.hid hR3
      replace HR2 := Lib.hid (atomsK_good.below HR2.out hb3)
      obtain ⟨A4, c4, rfl, _, _⟩ := sliceK_form hR3
      clear q2 hR3
      go_wp2_with fail
      refine (fsSame_same xs _ _ d2 d3 _ HR2.out HR3.out).mono ?_
      rintro e w4 ⟨rfl, hb4⟩
      have B4 := B3.trans (hb4.mono B3.size)
      replace x0 := cell_later hb4 x0
      replace x1 := cell_later hb4 x1
      replace HR2 := Lib.hid (atomsK_good.below HR2.out hb4)
      replace HR3 := Lib.hid (atomsK_good.below HR3.out hb4)
      go_wp2_with fail
      refine (q4 _ B4).mono ?_
      rintro e w5 ⟨rfl, hb5⟩
      have B5 := B4.trans (hb5.mono B4.size)
      replace x0 := cell_later hb5 x0
      replace x1 := cell_later hb5 x1
      replace HR2 := Lib.hid (atomsK_good.below HR2.out hb5)
      replace HR3 := Lib.hid (atomsK_good.below HR3.out hb5)
      clear q4
      go_wp2_with fail
      refine (fsSame_same xs _ _ d2 b1 _ HR2.out (atomsK_good.below HX.out B5)).mono ?_
      rintro e w6 ⟨rfl, hb6⟩
      have B6 := B5.trans (hb6.mono B5.size)
      replace x0 := cell_later hb6 x0
      replace x1 := cell_later hb6 x1
      go_wp2_with fail
      refine (q5 _ B6).mono ?_
      rintro e w7 ⟨rfl, hb7⟩
      have B7 := B6.trans (hb7.mono B6.size)
      go_wp2
      go_ret
      exact ⟨rfl, HB1.out.trans (B7.mono HB1.out.size)⟩
    · have hz : factsHas (delA xs a) a = false := by unfold factsHas; rw [del_has ho a]; simp
      have hy := del_ok ho a
      have hw := add_del ho hfa hha
      rw [hG] at q1 q2
      rw [ho] at q4
      have q6 := fun v d w' (hb : Below w1.heap.size w1 w') (h : atomsK w' [v] (delA xs a) d) => hw ▸ factsAdd_impl (delA xs a) a v _ _ d b2 w' h (atomK_good.below HAt.out hb)
      have q7 := fun v d w' (h : atomsK w' [v] (delA xs a) d) => hy ▸ factsOk_impl (delA xs a) v d w' h
      have q8 := fun v d w' (hb : Below w1.heap.size w1 w') (h : atomsK w' [v] (delA xs a) d) => hz ▸ factsHas_impl (delA xs a) a v _ _ d b2 w' h (atomK_good.below HAt.out hb)
      clear q5 HC hG ho hfa hha hz hy hw
      go_wp2_with fail
      refine q1.mono ?_
      rintro e w2 ⟨hb2, v2, d2, rfl, hR2, hN2⟩
      have B2 := hA0.trans (hb2.mono hA0.size)
      replace x0 := cell_later hb2 x0
      replace x1 := cell_later hb2 x1
      have HR2 := Lib.hid hR2
      obtain ⟨A3, c3, rfl, _, _⟩ := sliceK_form hR2
      clear q1 hR2 hN2
      go_wp2_with fail
      refine (q2 _ B2).mono ?_
      rintro e w3 ⟨hb3, v3, d3, rfl, hR3⟩
      have B3 := B2.trans (hb3.mono B2.size)
      replace x0 := cell_later hb3 x0
      replace x1 := cell_later hb3 x1
      have HR3 := Lib.hid hR3
      replace HR2 := Lib.hid (atomsK_good.below HR2.out hb3)
      obtain ⟨A4, c4, rfl, _, _⟩ := sliceK_form hR3
      clear q2 hR3
      go_wp2_with fail
      refine (fsSame_same (delA xs a) _ _ d2 d3 _ HR2.out HR3.out).mono ?_
      rintro e w4 ⟨rfl, hb4⟩
      have B4 := B3.trans (hb4.mono B3.size)
      replace x0 := cell_later hb4 x0
      replace x1 := cell_later hb4 x1
      replace HR2 := Lib.hid (atomsK_good.below HR2.out hb4)
      replace HR3 := Lib.hid (atomsK_good.below HR3.out hb4)
      go_wp2_with fail
      refine (q4 _ B4).mono ?_
      rintro e w5 ⟨rfl, hb5⟩
      have B5 := B4.trans (hb5.mono B4.size)
      replace x0 := cell_later hb5 x0
      replace x1 := cell_later hb5 x1
      replace HR2 := Lib.hid (atomsK_good.below HR2.out hb5)
      replace HR3 := Lib.hid (atomsK_good.below HR3.out hb5)
      clear q4
      go_wp2_with fail
      refine (q6 _ d2 _ B5 HR2.out).mono ?_
      rintro e w6 ⟨hb6, v6, d6, rfl, hR6, hN6⟩
      have B6 := B5.trans (hb6.mono B5.size)
      replace x0 := cell_later hb6 x0
      replace x1 := cell_later hb6 x1
      replace HR2 := Lib.hid (atomsK_good.below HR2.out hb6)
      have HR6 := Lib.hid hR6
      obtain ⟨A6, c6, rfl, _, _⟩ := sliceK_form hR6
      clear q6 hR6 hN6
      go_wp2_with fail
      refine (q7 _ d2 _ HR2.out).mono ?_
      rintro e w7 ⟨rfl, hb7⟩
      have B7 := B6.trans (hb7.mono B6.size)
      replace x0 := cell_later hb7 x0
      replace x1 := cell_later hb7 x1
      replace HR2 := Lib.hid (atomsK_good.below HR2.out hb7)
      replace HR6 := Lib.hid (atomsK_good.below HR6.out hb7)
      clear q7
      go_wp2_with fail
      refine (q8 _ d2 _ B7 HR2.out).mono ?_
      rintro e w8 ⟨rfl, hb8⟩
      have B8 := B7.trans (hb8.mono B7.size)
      replace HR6 := Lib.hid (atomsK_good.below HR6.out hb8)
      clear q8
      go_wp2_with fail
      refine (fsSame_same xs _ _ d6 b1 _ HR6.out (atomsK_good.below HX.out B8)).mono ?_
      rintro e w9 ⟨rfl, hb9⟩
      have B9 := B8.trans (hb9.mono B8.size)
      go_wp2
      go_ret
      exact ⟨rfl, HB1.out.trans (B9.mono HB1.out.size)⟩
  · have hn' : (1048576 : Int) < (cs.length : Int) := by omega
    clear h1
    go_enter Try.func4, Try.ntmps4
    go_wp2
    go_ret
    exact ⟨rfl, Below.refl _ _⟩

end Go.Proofs.Ytadnimchnmkajaa
