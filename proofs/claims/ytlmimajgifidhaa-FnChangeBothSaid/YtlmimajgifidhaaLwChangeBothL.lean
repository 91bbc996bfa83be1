/- The walk of the law FnChangeBoth (by gen/mkchbl.py). -/
import Derived.Laws.EntriesVeiled
import Derived.Deep.RegionHeld3
import Derived.Deep.RegionWith
import Derived.Deep.RegionLaw
import Derived.BigQuiet
import Derived.Deep.QuietTactic
import Derived.Deep.DrawnRows
import Derived.WalkKit
import Derived.WalkSpells
import Derived.WalkLawsBesides
import Derived.Lib.Hide
import Derived.Test.YtlmimajgifidhaaDraw11
import Derived.Test.YtlmimajgifidhaaDraw12
import Derived.Test.YtlmimajgifidhaaDoLP
import Derived.Test.YtlmimajgifidhaaBothS
import Derived.Test.YtlmimajgifidhaaDoI
import Derived.Test.YtlmimajgifidhaaFs2
namespace Go.Proofs.Ytlmimajgifidhaa
open Go.RowKit D
set_option linter.unusedVariables false
attribute [local go_sem ↓] Go.wp_at_zero Go.wp_at_succ


theorem D.bothL_true {a b : Ch} {G : Ch} (h : bothL a b = (G, true)) : changeOk a = true ∧ changeOk b = true ∧ changeOk (bothC a b) = true ∧ G = bothC a b := by
  unfold bothL at h
  split at h
  · rename_i h1
    rw [Bool.and_eq_true] at h1
    split at h
    · rename_i h2
      simp only [Prod.mk.injEq, and_true] at h
      exact ⟨h1.1, h1.2, h2, h.symm⟩
    · simp at h
  · simp at h
theorem fsChange_same (c : Ch) (c0 c1 d0 d1 : Value) (b1 b2 : List Nat) (w : World) (h : changeK w [c0, c1] c b1) (h2 : changeK w [d0, d1] c b2) :
    Calls Try.prog 23 #[.agg #[c0, c1], .agg #[d0, d1]] w fun e w' => e = .returned (.bool true) ∧ Below w.heap.size w w' :=
  (fsChange_any c c c0 c1 d0 d1 b1 b2 w h h2).mono fun e w' ⟨r, he, hr, hb⟩ => ⟨by rw [he, hr.2 ⟨rfl, rfl⟩], hb⟩
theorem fsSame_same (xs : List A) (v1 v2 : Value) (b1 b2 : List Nat) (w : World) (h : atomsK w [v1] xs b1) (h2 : atomsK w [v2] xs b2) :
    Calls Try.prog 15 #[v1, v2] w fun e w' => e = .returned (.bool true) ∧ Below w.heap.size w w' :=
  (fsSame_any xs xs v1 v2 b1 b2 w h h2).mono fun e w' ⟨r, he, hr, hb⟩ => ⟨by rw [he, (by first | exact hr.2 rfl | simpa using hr : r = true)], hb⟩

set_option maxRecDepth 100000 in
set_option maxHeartbeats 8000000 in
theorem changeBothLaw_walk (ks : List UInt8) (v1 : Value) (p1 : List Nat) (ms : List UInt8) (v2 : Value) (p2 : List Nat) (w : World) (h1 : bytesK w [v1] ks p1) (h2 : bytesK w [v2] ms p2) :
    Calls Try.prog 5 #[v1, v2] w fun e w' => e = .returned (.bool true) ∧ Below w.heap.size w w' := by
  obtain ⟨Ad, cap, rfl, hl, hm⟩ := sliceK_form h1
  obtain ⟨Am, capm, rfl, hlm2, hmm⟩ := sliceK_form h2
  have hlm := nat_ge_max (Nat.le_trans hl hm)
  have hlm' := nat_ge_max (Nat.le_trans hlm2 hmm)
  clear hl hm hlm2 hmm
  by_cases hn : ks.length ≤ 1048576
  · by_cases hn2 : ms.length ≤ 1048576
    · have hd := drawChangeBoth_any _ ks p1 w h1 hn
      have hd2 := fun w' (hb : Below w.heap.size w w') => drawFactsOk_any _ ms p2 w' (bytesK_good.below h2 hb) hn2
      have hn' : ¬ (1048576 : Int) < (ks.length : Int) := by omega
      have hn2' : ¬ (1048576 : Int) < (ms.length : Int) := by omega
      clear h1 h2 hn hn2
      go_enter Try.func5, Try.ntmps5
      go_wp2_with fail
      refine hd.mono ?_
      rintro e w1 ⟨c, d, A1, A2, A3, A4, c1, c2, c3, c4, b1, b2, b3, b4, rfl, hC, hG, hC2, hG2, hsc, hsd, hb1⟩
      have HB1 := Lib.hid hb1
      have hc : changeK w1 [.slice A1 c.comes.length c1, .slice A2 c.goes.length c2] c (b1 ++ b2) := ⟨_, _, b1, b2, rfl, rfl, hC, hG⟩
      have hdd : changeK w1 [.slice A3 d.comes.length c3, .slice A4 d.goes.length c4] d (b3 ++ b4) := ⟨_, _, b3, b4, rfl, rfl, hC2, hG2⟩
      have HC := Lib.hid hc
      have HD := Lib.hid hdd
      have HLN : Hid (c.comes.length ≤ 50 ∧ d.comes.length ≤ 50) := Lib.hid ⟨hsc.1, hsd.1⟩
      have hA1 : Below w1.heap.size w1 ((w1.alloc (.cells #[.slice A1 c.comes.length c1, .slice A2 c.goes.length c2] 28)).alloc (.cells #[.slice A3 d.comes.length c3, .slice A4 d.goes.length c4] 28)) := ((Below.refl _ _).alloc (Nat.le_refl _) _).alloc (by simp) _
      have x0 : ((w1.alloc (.cells #[.slice A1 c.comes.length c1, .slice A2 c.goes.length c2] 28)).alloc (.cells #[.slice A3 d.comes.length c3, .slice A4 d.goes.length c4] 28)).cell? ⟨w1.heap.size, 0, none⟩ = some (.slice A1 c.comes.length c1) := by go_simp
      have x1 : ((w1.alloc (.cells #[.slice A1 c.comes.length c1, .slice A2 c.goes.length c2] 28)).alloc (.cells #[.slice A3 d.comes.length c3, .slice A4 d.goes.length c4] 28)).cell? ⟨w1.heap.size, 1, none⟩ = some (.slice A2 c.goes.length c2) := by go_simp
      have y0 : ((w1.alloc (.cells #[.slice A1 c.comes.length c1, .slice A2 c.goes.length c2] 28)).alloc (.cells #[.slice A3 d.comes.length c3, .slice A4 d.goes.length c4] 28)).cell? ⟨w1.heap.size + 1, 0, none⟩ = some (.slice A3 d.comes.length c3) := by go_simp
      have y1 : ((w1.alloc (.cells #[.slice A1 c.comes.length c1, .slice A2 c.goes.length c2] 28)).alloc (.cells #[.slice A3 d.comes.length c3, .slice A4 d.goes.length c4] 28)).cell? ⟨w1.heap.size + 1, 1, none⟩ = some (.slice A4 d.goes.length c4) := by go_simp
      have q1 := changeBoth_impl c d _ _ _ _ _ _ _ (changeK_good.below hc hA1) (changeK_good.below hdd hA1)
      have q2 := fun w' (hb : Below w1.heap.size w1 w') => changeBoth_spec c d _ _ _ _ _ _ w' (changeK_good.below hc hb) (changeK_good.below hdd hb)
      have HA1 := Lib.hid hA1
      generalize hV : bothL c d = V at *
      obtain ⟨G, ok⟩ := V
      have HV := Lib.hid hV
      clear hd hC hG hC2 hG2 hsc hsd hb1 hc hdd hA1 hV
      go_wp2_with fail
      refine q1.mono ?_
      rintro e w2 ⟨hb2, cs2, g2, rfl, hR2, hN2⟩
      obtain ⟨A5, c5, A6, c6, rfl⟩ := change_cells hR2
      dsimp only at hR2
      have B2 := HA1.out.trans (hb2.mono HA1.out.size)
      replace x0 := cell_later hb2 x0
      replace x1 := cell_later hb2 x1
      replace y0 := cell_later hb2 y0
      replace y1 := cell_later hb2 y1
      have hA2 : Below w2.heap.size w2 (w2.alloc (.cells #[.slice A5 G.comes.length c5, .slice A6 G.goes.length c6] 28)) := (Below.refl _ _).alloc (Nat.le_refl _) _
      have B2a := B2.trans (hA2.mono B2.size)
      have z0 : (w2.alloc (.cells #[.slice A5 G.comes.length c5, .slice A6 G.goes.length c6] 28)).cell? ⟨w2.heap.size, 0, none⟩ = some (.slice A5 G.comes.length c5) := by go_simp
      have z1 : (w2.alloc (.cells #[.slice A5 G.comes.length c5, .slice A6 G.goes.length c6] 28)).cell? ⟨w2.heap.size, 1, none⟩ = some (.slice A6 G.goes.length c6) := by go_simp
      have HR2 := Lib.hid (changeK_good.below hR2 hA2)
      clear q1 hR2 hN2
      replace x0 := cell_later hA2 x0
      replace x1 := cell_later hA2 x1
      replace y0 := cell_later hA2 y0
      replace y1 := cell_later hA2 y1
      go_wp2_with fail
      refine (q2 _ B2a).mono ?_
      rintro e w3 ⟨hb3, cs3, g3, rfl, hR3⟩
      obtain ⟨A7, c7, A8, c8, rfl⟩ := change_cells hR3
      dsimp only at hR3
      have B3 := B2a.trans (hb3.mono B2a.size)
      replace x0 := cell_later hb3 x0
      replace x1 := cell_later hb3 x1
      replace y0 := cell_later hb3 y0
      replace y1 := cell_later hb3 y1
      replace z0 := cell_later hb3 z0
      replace z1 := cell_later hb3 z1
      have hA3 : Below w3.heap.size w3 (w3.alloc (.cells #[.slice A7 G.comes.length c7, .slice A8 G.goes.length c8] 28)) := (Below.refl _ _).alloc (Nat.le_refl _) _
      have B3a := B3.trans (hA3.mono B3.size)
      have u0 : (w3.alloc (.cells #[.slice A7 G.comes.length c7, .slice A8 G.goes.length c8] 28)).cell? ⟨w3.heap.size, 0, none⟩ = some (.slice A7 G.comes.length c7) := by go_simp
      have u1 : (w3.alloc (.cells #[.slice A7 G.comes.length c7, .slice A8 G.goes.length c8] 28)).cell? ⟨w3.heap.size, 1, none⟩ = some (.slice A8 G.goes.length c8) := by go_simp
      have HR3 := Lib.hid (changeK_good.below hR3 hA3)
      replace HR2 := Lib.hid (changeK_good.below HR2.out (hb3.trans (hA3.mono hb3.size)))
      have hs := fsChange_same G _ _ _ _ g2 g3 _ HR2.out HR3.out
      clear q2 hR3
      replace x0 := cell_later hA3 x0
      replace x1 := cell_later hA3 x1
      replace y0 := cell_later hA3 y0
      replace y1 := cell_later hA3 y1
      replace z0 := cell_later hA3 z0
      replace z1 := cell_later hA3 z1
      go_wp2_with fail
      refine hs.mono ?_
      rintro e w4 ⟨rfl, hb4⟩
      have B4 := B3a.trans (hb4.mono B3a.size)
      replace x0 := cell_later hb4 x0
      replace x1 := cell_later hb4 x1
      replace y0 := cell_later hb4 y0
      replace y1 := cell_later hb4 y1
      replace z0 := cell_later hb4 z0
      replace z1 := cell_later hb4 z1
      replace u0 := cell_later hb4 u0
      replace u1 := cell_later hb4 u1
      replace HR2 := Lib.hid (changeK_good.below HR2.out hb4)
      replace HR3 := Lib.hid (changeK_good.below HR3.out hb4)
      have HB4 := Lib.hid (HB1.out.trans (B4.mono HB1.out.size))
      clear hs
      cases ok
      · have hs := fsChange_same G _ _ _ _ g2 g3 _ HR2.out HR3.out
        go_wp2_with fail
        refine hs.mono ?_
        rintro e w5 ⟨rfl, hb5⟩
        clear hs
        go_wp2
        go_ret
        exact ⟨rfl, HB4.out.trans (hb5.mono HB4.out.size)⟩
      · obtain ⟨o1, o2, o3, rfl⟩ := bothL_true HV.out
        have HO := Lib.hid (And.intro o1 (And.intro o2 o3))
        clear o1 o2 o3 HV
        have hx := hd2 _ HB4.out
        clear hd2
        go_wp2_with fail
        refine hx.mono ?_
        rintro e w5 ⟨xs, v5, b5, rfl, hX, hx5, hsm, hb5⟩
        obtain ⟨A9, c9, rfl, _, _⟩ := sliceK_form hX
        have HX5 := Lib.hid hx5
        have B5 := B4.trans (hb5.mono B4.size)
        replace x0 := cell_later hb5 x0
        replace x1 := cell_later hb5 x1
        replace y0 := cell_later hb5 y0
        replace y1 := cell_later hb5 y1
        replace z0 := cell_later hb5 z0
        replace z1 := cell_later hb5 z1
        replace HR2 := Lib.hid (changeK_good.below HR2.out hb5)
        have HX := Lib.hid hX
        have HB5 := Lib.hid (HB1.out.trans (B5.mono HB1.out.size))
        have hf := factsOk_spec xs _ b5 w5 hX
        clear hx hX hsm HR3 HB4 u0 u1
        generalize hof : factsOk xs = ox at *
        have HOF := Lib.hid hof
        clear hof
        go_wp2_with fail
        refine hf.mono ?_
        rintro e w6 ⟨rfl, hb6⟩
        have B6 := B5.trans (hb6.mono B5.size)
        replace x0 := cell_later hb6 x0
        replace x1 := cell_later hb6 x1
        replace y0 := cell_later hb6 y0
        replace y1 := cell_later hb6 y1
        replace z0 := cell_later hb6 z0
        replace z1 := cell_later hb6 z1
        clear hf
        cases ox
        · go_wp2
          go_ret
          exact ⟨rfl, HB5.out.trans (hb6.mono HB5.out.size)⟩
        · have hle : ¬ (100 : Int) < (xs.length : Int) := by omega
          have HE := both_facts HOF.out HO.out.1 HO.out.2.1 HO.out.2.2 HX5.out HLN.out.1 HLN.out.2
          have p1 := fun w' (hb : Below w6.heap.size w6 w') => changeDo_impl xs (bothC c d) _ _ _ b5 g2 w' (atomsK_good.below HX.out (hb6.trans (hb.mono hb6.size))) (changeK_good.below HR2.out (hb6.trans (hb.mono hb6.size)))
          have p2 := fun w' (hb : Below w6.heap.size w6 w') => changeDo_impl xs c _ _ _ b5 (b1 ++ b2) w' (atomsK_good.below HX.out (hb6.trans (hb.mono hb6.size))) (changeK_good.below HC.out (B6.trans (hb.mono B6.size)))
          have p3 : ∀ v' bs' w', Below w6.heap.size w6 w' → atomsK w' [v'] (doL xs c) bs' → Calls Try.prog 14 #[v', .agg #[.slice A3 d.comes.length c3, .slice A4 d.goes.length c4]] w' (Makes atomsK (doL xs (bothC c d)) w'.heap.size w') := fun v' bs' w' hb h' => by
            rw [HE]
            exact changeDo_impl (doL xs c) d _ _ _ bs' (b3 ++ b4) w' h' (changeK_good.below HD.out (B6.trans (hb.mono B6.size)))
          have HP1 := Lib.hid p1
          have HP2 := Lib.hid p2
          have HP3 := Lib.hid p3
          have B0 := Below.refl w6.heap.size w6
          clear p1 p2 p3 HE hx5 HC HD HR2
          generalize doL xs (bothC c d) = D1 at *
          generalize doL xs c = D2 at *
          generalize bothC c d = G at *
          go_wp2
          go_region_held3 (fun w' => w'.cell? ⟨w1.heap.size, 0, none⟩ = some (.slice A1 c.comes.length c1) ∧ w'.cell? ⟨w1.heap.size, 1, none⟩ = some (.slice A2 c.goes.length c2) ∧ w'.cell? ⟨w1.heap.size + 1, 0, none⟩ = some (.slice A3 d.comes.length c3) ∧ w'.cell? ⟨w1.heap.size + 1, 1, none⟩ = some (.slice A4 d.goes.length c4) ∧ w'.cell? ⟨w2.heap.size, 0, none⟩ = some (.slice A5 G.comes.length c5) ∧ w'.cell? ⟨w2.heap.size, 1, none⟩ = some (.slice A6 G.goes.length c6)) (first | go_keep | exact ⟨x0, x1, y0, y1, z0, z1⟩)
            (first
              | (go_at_call 14; have hz := HP1.out _ B0.drew; (with_reducible refine Calls.mono hz ?_); clear hz; rintro e w7 ⟨hb7, v7, g7, rfl, hR7, hN7⟩; obtain ⟨A17, c17, rfl, _, _⟩ := sliceK_form hR7; have B7 := B0.drew.trans (hb7.mono (Below.size (B0.drew))); replace x0 := cell_later hb7 x0; replace x1 := cell_later hb7 x1; replace y0 := cell_later hb7 y0; replace y1 := cell_later hb7 y1; replace z0 := cell_later hb7 z0; replace z1 := cell_later hb7 z1; have HR7 := Lib.hid hR7; clear hR7 hN7; clear HP1)
              | (go_at_call 14; have hz := HP2.out _ B7; (with_reducible refine Calls.mono hz ?_); clear hz; rintro e w8 ⟨hb8, v8, g8, rfl, hR8, hN8⟩; obtain ⟨A18, c18, rfl, _, _⟩ := sliceK_form hR8; have B8 := B7.trans (hb8.mono (Below.size (B7))); replace x0 := cell_later hb8 x0; replace x1 := cell_later hb8 x1; replace y0 := cell_later hb8 y0; replace y1 := cell_later hb8 y1; replace z0 := cell_later hb8 z0; replace z1 := cell_later hb8 z1; have HR8 := Lib.hid hR8; clear hR8 hN8; replace HR7 := Lib.hid (atomsK_good.below HR7.out hb8); clear HP2)
              | (go_at_call 14; have hz := HP3.out _ _ _ B8 HR8.out; (with_reducible refine Calls.mono hz ?_); clear hz; rintro e w9 ⟨hb9, v9, g9, rfl, hR9, hN9⟩; obtain ⟨A19, c19, rfl, _, _⟩ := sliceK_form hR9; have B9 := B8.trans (hb9.mono (Below.size (B8))); replace x0 := cell_later hb9 x0; replace x1 := cell_later hb9 x1; replace y0 := cell_later hb9 y0; replace y1 := cell_later hb9 y1; replace z0 := cell_later hb9 z0; replace z1 := cell_later hb9 z1; have HR9 := Lib.hid hR9; clear hR9 hN9; replace HR7 := Lib.hid (atomsK_good.below HR7.out hb9); clear HP3)
              | (go_at_call 15; have hz := fsSame_same D1 _ _ g7 g9 _ HR7.out HR9.out; (with_reducible refine Calls.mono hz ?_); clear hz; rintro e w10 ⟨rfl, hb10⟩; have B10 := B9.trans (hb10.mono B9.size); replace x0 := cell_later hb10 x0; replace x1 := cell_later hb10 x1; replace y0 := cell_later hb10 y0; replace y1 := cell_later hb10 y1; replace z0 := cell_later hb10 z0; replace z1 := cell_later hb10 z1))
          have HZ := Lib.hid (HB5.out.trans ((hb6.trans (B10.mono hb6.size)).mono HB5.out.size))
          go_wp2
          go_ret
          exact ⟨rfl, HZ.out⟩
    · have hn' : ¬ (1048576 : Int) < (ks.length : Int) := by omega
      have hn2' : (1048576 : Int) < (ms.length : Int) := by omega
      clear h1 h2
      go_enter Try.func5, Try.ntmps5
      go_wp2
      go_ret
      exact ⟨rfl, Below.refl _ _⟩
  · have hn' : (1048576 : Int) < (ks.length : Int) := by omega
    clear h1 h2
    go_enter Try.func5, Try.ntmps5
    go_wp2
    go_ret
    exact ⟨rfl, Below.refl _ _⟩
end Go.Proofs.Ytlmimajgifidhaa
