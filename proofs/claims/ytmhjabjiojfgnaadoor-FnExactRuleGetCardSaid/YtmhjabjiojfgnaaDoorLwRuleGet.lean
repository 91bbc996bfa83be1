/- The walk of the law FnExactRuleGet. -/
import Derived.Laws.EntriesVeiled
import Derived.Deep.RegionHeld3
import Derived.Deep.RegionWith
import Derived.BigQuiet
import Derived.Deep.DrawnRows
import Derived.WalkKit
import Derived.WalkSpells
import Derived.WalkLawsBesides
import Derived.Lib.Hide
import Derived.Test.YtmhjabjiojfgnaaDoorRGetS
import Derived.Test.YtmhjabjiojfgnaaDoorRGetI
import Derived.Test.YtmhjabjiojfgnaaDoorEqR
import Derived.Test.YtmhjabjiojfgnaaDoorMarkR
namespace Go.Proofs.YtmhjabjiojfgnaaDoor
open Go.RowKit D
set_option linter.unusedVariables false
attribute [local go_sem ↓] Go.wp_at_zero Go.wp_at_succ

theorem D.ruleI_small (t : List UInt8) : cntR ((ruleI t).getD zeroR) ≤ 1000 := by
  cases h : ruleI t with
  | none => simp [cntR, zeroR, zeroA, sumL]
  | some r =>
    obtain ⟨⟨h1, h2⟩, h3⟩ := (ok_iff r).1 (ruleI_sound h).1
    have harg : ∀ a : A, atomOk a = true → a.args.length ≤ 3 := fun a h => by unfold atomOk at h; simp only [Bool.and_eq_true, decide_eq_true_eq] at h; exact h.1.2
    have hs : ∀ xs : List Pt, (∀ p ∈ xs, atomOk p.atom = true) → sumL cntP xs ≤ 8 * xs.length := by
      intro xs
      induction xs with
      | nil => intro _; simp [sumL]
      | cons x xs ih =>
        intro hx
        have h4 := ih (fun p hp => hx p (List.mem_cons_of_mem _ hp))
        have h5 := harg _ (hx x (List.mem_cons_self ..))
        simp only [sumL, List.map_cons, List.sum_cons, List.length_cons] at *
        unfold cntP at *
        omega
    have := hs _ h2
    have := harg _ h3
    show cntR r ≤ _
    unfold cntR
    omega

set_option maxRecDepth 100000 in
set_option maxHeartbeats 4000000 in
theorem exactRuleGet_walk (s : ByteArray) (m : Int) (w : World) (hm : w.cell? ⟨0, 0, none⟩ = some (.int .i64 m)) :
    Calls Tryd.prog 4 #[.string s] w fun e w' => e = .returned (.bool true) ∧ Below w.heap.size w w' := by
  by_cases hn : s.size ≤ 1048576
  · have hn' : ¬ (1048576 : Int) < (s.size : Int) := by omega
    have q1 := ruleGet_spec s w hn
    rw [ruleS_ruleI] at q1
    have q2 := fun w' (hb : Below w.heap.size w w') => ruleGet_impl s m w' hn (cell_later hb hm)
    have HV := Lib.hid (ruleI_small s.data.toList)
    have HM := Lib.hid hm
    clear hm hn
    unfold ReadsRu at q1
    unfold MakesRu at q2
    generalize (ruleI s.data.toList).isSome = ok at *
    generalize (ruleI s.data.toList).getD zeroR = r at *
    go_enter Tryd.func4, Tryd.ntmps4
    go_wp2_with fail
    refine q1.mono ?_
    rintro e w1 ⟨B1, cs1, b1, rfl, hR1⟩
    obtain ⟨A1, c1, E1, g1, rfl⟩ := rule_cells hR1
    dsimp only at hR1
    have hA1 : Below w1.heap.size w1 (w1.alloc (.cells #[.string r.head.name, .slice A1 r.head.args.length c1, .slice E1 r.body.length g1] 36)) := (Below.refl _ _).alloc (Nat.le_refl _) _
    have B1a := B1.trans (hA1.mono B1.size)
    have x0 : (w1.alloc (.cells #[.string r.head.name, .slice A1 r.head.args.length c1, .slice E1 r.body.length g1] 36)).cell? ⟨w1.heap.size, 0, none⟩ = some (.string r.head.name) := by go_simp
    have x1 : (w1.alloc (.cells #[.string r.head.name, .slice A1 r.head.args.length c1, .slice E1 r.body.length g1] 36)).cell? ⟨w1.heap.size, 1, none⟩ = some (.slice A1 r.head.args.length c1) := by go_simp
    have x2 : (w1.alloc (.cells #[.string r.head.name, .slice A1 r.head.args.length c1, .slice E1 r.body.length g1] 36)).cell? ⟨w1.heap.size, 2, none⟩ = some (.slice E1 r.body.length g1) := by go_simp
    have HR1 := Lib.hid (ruleK_good.below hR1 hA1)
    have U1 := Lib.hid (ruleK_good.lt hR1)
    have HQ2 := Lib.hid q2
    have q2a := q2 _ B1a
    have S1 : Hid (w.heap.size ≤ w1.heap.size) := Lib.hid B1.size
    have S1a : Hid ((w1.alloc (.cells #[.string r.head.name, .slice A1 r.head.args.length c1, .slice E1 r.body.length g1] 36)).heap.size = w1.heap.size + 1) := Lib.hid (by simp)
    clear q1 q2 hR1
    go_wp2_with fail
    refine q2a.mono ?_
    rintro e w2 ⟨hb2, cs2, b2, rfl, hR2, hN2⟩
    obtain ⟨A2, c2, E2, g2, rfl⟩ := rule_cells hR2
    dsimp only at hR2
    have B2 := B1a.trans (hb2.mono B1a.size)
    have hA2 : Below w2.heap.size w2 (w2.alloc (.cells #[.string r.head.name, .slice A2 r.head.args.length c2, .slice E2 r.body.length g2] 36)) := (Below.refl _ _).alloc (Nat.le_refl _) _
    have B2a := B2.trans (hA2.mono B2.size)
    replace x0 := cell_later hA2 (cell_later hb2 x0)
    replace x1 := cell_later hA2 (cell_later hb2 x1)
    replace x2 := cell_later hA2 (cell_later hb2 x2)
    have y0 : (w2.alloc (.cells #[.string r.head.name, .slice A2 r.head.args.length c2, .slice E2 r.body.length g2] 36)).cell? ⟨w2.heap.size, 0, none⟩ = some (.string r.head.name) := by go_simp
    have y1 : (w2.alloc (.cells #[.string r.head.name, .slice A2 r.head.args.length c2, .slice E2 r.body.length g2] 36)).cell? ⟨w2.heap.size, 1, none⟩ = some (.slice A2 r.head.args.length c2) := by go_simp
    have y2 : (w2.alloc (.cells #[.string r.head.name, .slice A2 r.head.args.length c2, .slice E2 r.body.length g2] 36)).cell? ⟨w2.heap.size, 2, none⟩ = some (.slice E2 r.body.length g2) := by go_simp
    replace HR1 := Lib.hid (ruleK_good.below (ruleK_good.below HR1.out hb2) hA2)
    have HR2 := Lib.hid (ruleK_good.below hR2 hA2)
    have U2 := Lib.hid (ruleK_good.lt hR2)
    have L2 : Hid (∀ b ∈ b2, w1.heap.size + 1 ≤ b) := Lib.hid fun b hb => by have := (hN2.own b hb).1; rw [S1a.out] at this; exact this
    have HN2 := Lib.hid (hN2.below hA2)
    have S2 : Hid (w1.heap.size + 1 ≤ w2.heap.size) := Lib.hid (by have := hb2.size; rw [S1a.out] at this; exact this)
    have he := eqRule_same r _ _ _ _ _ _ b2 b1 _ HR2.out HR1.out
    clear q2a hR2 hN2 hb2 hA1 B1 B1a B2
    go_wp2_with fail
    refine he.mono ?_
    rintro e w3 ⟨rfl, hb3⟩
    have B3 := B2a.trans (hb3.mono B2a.size)
    replace x0 := cell_later hb3 x0
    replace x1 := cell_later hb3 x1
    replace x2 := cell_later hb3 x2
    replace y0 := cell_later hb3 y0
    replace y1 := cell_later hb3 y1
    replace y2 := cell_later hb3 y2
    replace HR1 := Lib.hid (ruleK_good.below HR1.out hb3)
    replace HR2 := Lib.hid (ruleK_good.below HR2.out hb3)
    replace HN2 := Lib.hid (HN2.out.below hb3)
    have S3 : Hid (w1.heap.size + 1 ≤ w3.heap.size) := Lib.hid (by have h1 := hb3.size; have h2 := hA2.size; have h3 := S2.out; omega)
    have hmk := markRule_any r _ _ _ b2 1 (w1.heap.size + 1) _ HR2.out (HN2.out.mono (Nat.le_of_eq S1a.out.symm)) S3.out (by have := HV.out; omega)
    clear he hb3 hA2 B2a HR2 HN2
    go_wp2_with fail
    refine hmk.mono ?_
    rintro e w4 ⟨hk4, hR4, hN4, hK4⟩
    obtain ⟨k, hkn⟩ : ∃ n : Nat, n = 1 + cntR r := ⟨_, rfl⟩
    have hheld := fun w' (hb : Below w4.heap.size w4 w') => heldRule_any r _ _ _ b2 1 w' (ruleK_good.below hR4 hb) (by have := HV.out; omega)
    rw [← hkn] at hk4 hheld
    have hk0 : ¬ ((k : Int) < 0) := by omega
    subst hk4
    have HHD := Lib.hid hheld
    have kx : ∀ b, b ∈ b2 → b ≠ w1.heap.size ∧ b ≠ w2.heap.size := fun b hb => by have h1 := L2.out _ hb; have h2 := U2.out _ hb; omega
    replace x0 := hK4.cell (fun hb => (kx _ hb).1 rfl) x0
    replace x1 := hK4.cell (fun hb => (kx _ hb).1 rfl) x1
    replace x2 := hK4.cell (fun hb => (kx _ hb).1 rfl) x2
    replace y0 := hK4.cell (fun hb => (kx _ hb).2 rfl) y0
    replace y1 := hK4.cell (fun hb => (kx _ hb).2 rfl) y1
    replace y2 := hK4.cell (fun hb => (kx _ hb).2 rfl) y2
    replace HR1 := Lib.hid (Good.kept ruleK_good HR1.out hK4 (fun b hb hc => by have h1 := U1.out _ hb; have h2 := L2.out _ hc; omega))
    have B4 := B3.trans (hK4.below (fun b hb => by have h1 := L2.out _ hb; have h2 := S1.out; omega) B3.size)
    clear hmk hR4 hN4 hK4 hheld kx hkn B3
    go_wp2_with fail
    refine (HHD.out _ (Below.refl _ _)).mono ?_
    rintro e w5 ⟨rfl, hb5⟩
    have B5 := B4.trans (hb5.mono B4.size)
    replace x0 := cell_later hb5 x0
    replace x1 := cell_later hb5 x1
    replace x2 := cell_later hb5 x2
    replace y0 := cell_later hb5 y0
    replace y1 := cell_later hb5 y1
    replace y2 := cell_later hb5 y2
    replace HR1 := Lib.hid (ruleK_good.below HR1.out hb5)
    have HC := Lib.hid hb5
    have q3 := HQ2.out _ B5
    clear hb5 B4
    go_wp2_with fail
    refine q3.mono ?_
    rintro e w6 ⟨hb6, cs6, b6, rfl, hR6, hN6⟩
    obtain ⟨A6, c6, E6, g6, rfl⟩ := rule_cells hR6
    dsimp only at hR6
    have B6 := B5.trans (hb6.mono B5.size)
    have hA6 : Below w6.heap.size w6 (w6.alloc (.cells #[.string r.head.name, .slice A6 r.head.args.length c6, .slice E6 r.body.length g6] 36)) := (Below.refl _ _).alloc (Nat.le_refl _) _
    have B6a := B6.trans (hA6.mono B6.size)
    have z0 : (w6.alloc (.cells #[.string r.head.name, .slice A6 r.head.args.length c6, .slice E6 r.body.length g6] 36)).cell? ⟨w6.heap.size, 0, none⟩ = some (.string r.head.name) := by go_simp
    have z1 : (w6.alloc (.cells #[.string r.head.name, .slice A6 r.head.args.length c6, .slice E6 r.body.length g6] 36)).cell? ⟨w6.heap.size, 1, none⟩ = some (.slice A6 r.head.args.length c6) := by go_simp
    have z2 : (w6.alloc (.cells #[.string r.head.name, .slice A6 r.head.args.length c6, .slice E6 r.body.length g6] 36)).cell? ⟨w6.heap.size, 2, none⟩ = some (.slice E6 r.body.length g6) := by go_simp
    replace x0 := cell_later hA6 (cell_later hb6 x0)
    replace x1 := cell_later hA6 (cell_later hb6 x1)
    replace x2 := cell_later hA6 (cell_later hb6 x2)
    replace y0 := cell_later hA6 (cell_later hb6 y0)
    replace y1 := cell_later hA6 (cell_later hb6 y1)
    replace y2 := cell_later hA6 (cell_later hb6 y2)
    have he6 := eqRule_same r _ _ _ _ _ _ b6 b1 _ (ruleK_good.below hR6 hA6) (ruleK_good.below (ruleK_good.below HR1.out hb6) hA6)
    have HC6 := Lib.hid ((HC.out.trans (hb6.mono HC.out.size)).trans (hA6.mono (HC.out.trans (hb6.mono HC.out.size)).size))
    clear q3 hR6 hN6 hb6 HC HR1 B5 B6
    go_wp2_with fail
    refine he6.mono ?_
    rintro e w7 ⟨rfl, hb7⟩
    have B7 := B6a.trans (hb7.mono B6a.size)
    replace y0 := cell_later hb7 y0
    replace y1 := cell_later hb7 y1
    replace y2 := cell_later hb7 y2
    have hh := HHD.out _ (HC6.out.trans (hb7.mono HC6.out.size))
    clear he6 hb7 hA6 B6a x0 x1 x2 z0 z1 z2
    go_wp2_with fail
    refine hh.mono ?_
    rintro e w8 ⟨rfl, hb8⟩
    have HZ := Lib.hid (B7.trans (hb8.mono B7.size))
    clear hh hb8
    go_wp2
    go_ret
    exact ⟨rfl, HZ.out⟩
  · have hn' : (1048576 : Int) < (s.size : Int) := by omega
    go_enter Tryd.func4, Tryd.ntmps4
    go_wp2
    go_ret
    exact ⟨rfl, Below.refl _ _⟩

end Go.Proofs.YtmhjabjiojfgnaaDoor
