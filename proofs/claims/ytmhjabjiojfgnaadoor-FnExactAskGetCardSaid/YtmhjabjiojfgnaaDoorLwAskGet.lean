/- The walk of the law FnExactAskGet. -/
import Derived.Laws.EntriesVeiled
import Derived.Deep.RegionHeld3
import Derived.Deep.RegionWith
import Derived.BigQuiet
import Derived.Deep.DrawnRows
import Derived.WalkKit
import Derived.WalkSpells
import Derived.WalkLawsBesides
import Derived.Lib.Hide
import Derived.Test.YtmhjabjiojfgnaaDoorAskGS
import Derived.Test.YtmhjabjiojfgnaaDoorAskGI
import Derived.Test.YtmhjabjiojfgnaaDoorEqP
import Derived.Test.YtmhjabjiojfgnaaDoorMarkP
namespace Go.Proofs.YtmhjabjiojfgnaaDoor
open Go.RowKit D
set_option linter.unusedVariables false
attribute [local go_sem ↓] Go.wp_at_zero Go.wp_at_succ

theorem D.askI_small (t : List UInt8) : sumL cntP ((askI t).getD []) ≤ 1000 := by
  cases h : askI t with
  | none => simp [sumL]
  | some r =>
    obtain ⟨h0, h1, h2⟩ := askOk_body (askI_sound h).1
    have harg : ∀ a : A, atomOk a = true → a.args.length ≤ 3 := fun a h => by unfold atomOk at h; simp only [Bool.and_eq_true, decide_eq_true_eq] at h; exact h.1.2
    have hs : ∀ xs : List Pt, (∀ p ∈ xs, atomOk p.atom = true) → sumL cntP xs ≤ 8 * xs.length := by
      intro xs
      induction xs with
      | nil => intro _; simp [sumL]
      | cons x xs ih =>
        intro hx
        have h4 := ih (fun p hp => hx p (List.mem_cons_of_mem _ hp))
        have h5 := harg _ (hx x (List.mem_cons_self ..))
        simp only [sumL, List.map_cons, List.sum_cons, List.length_cons] at *
        unfold cntP at *
        omega
    have := hs _ h2
    show sumL cntP r ≤ _
    omega

set_option maxRecDepth 100000 in
set_option maxHeartbeats 4000000 in
theorem exactAskGet_walk (s : ByteArray) (m : Int) (w : World) (hm : w.cell? ⟨0, 0, none⟩ = some (.int .i64 m)) :
    Calls Tryd.prog 5 #[.string s] w fun e w' => e = .returned (.bool true) ∧ Below w.heap.size w w' := by
  by_cases hn : s.size ≤ 1048576
  · have hn' : ¬ (1048576 : Int) < (s.size : Int) := by omega
    have q1 := askGet_spec s w hn
    rw [askS_askI] at q1
    have q2 := fun w' (hb : Below w.heap.size w w') => askGet_impl s m w' hn (cell_later hb hm)
    have HV := Lib.hid (askI_small s.data.toList)
    have HM := Lib.hid hm
    clear hm hn
    unfold ReadsPs at q1
    unfold MakesPs at q2
    generalize (askI s.data.toList).isSome = ok at *
    generalize (askI s.data.toList).getD [] = ps at *
    go_enter Tryd.func5, Tryd.ntmps5
    go_wp2_with fail
    refine q1.mono ?_
    rintro e w1 ⟨B1, v1, b1, rfl, hR1⟩
    obtain ⟨A1, c1, rfl, _, _⟩ := sliceK_form hR1
    have HR1 := Lib.hid hR1
    have U1 := Lib.hid (partsK_good.lt hR1)
    have HQ2 := Lib.hid q2
    have q2a := q2 _ B1
    have S1 : Hid (w.heap.size ≤ w1.heap.size) := Lib.hid B1.size
    clear q1 q2 hR1
    go_wp2_with fail
    refine q2a.mono ?_
    rintro e w2 ⟨hb2, v2, b2, rfl, hR2, hN2⟩
    obtain ⟨A2, c2, rfl, _, _⟩ := sliceK_form hR2
    have B2 := B1.trans (hb2.mono B1.size)
    replace HR1 := Lib.hid (partsK_good.below HR1.out hb2)
    have HR2 := Lib.hid hR2
    have L2 : Hid (∀ b ∈ b2, w1.heap.size ≤ b) := Lib.hid fun b hb => (hN2.own b hb).1
    have HN2 := Lib.hid hN2
    have S2 : Hid (w1.heap.size ≤ w2.heap.size) := Lib.hid hb2.size
    have he := eqPartS_same ps _ _ b2 b1 _ HR2.out HR1.out
    clear q2a hR2 hN2 hb2 B1
    go_wp2_with fail
    refine he.mono ?_
    rintro e w3 ⟨rfl, hb3⟩
    have B3 := B2.trans (hb3.mono B2.size)
    replace HR1 := Lib.hid (partsK_good.below HR1.out hb3)
    replace HR2 := Lib.hid (partsK_good.below HR2.out hb3)
    replace HN2 := Lib.hid (HN2.out.below hb3)
    have hmk := markPartS_any ps _ b2 1 w1.heap.size _ HR2.out HN2.out (by have := HV.out; omega)
    clear he hb3 B2 HR2 HN2
    go_wp2_with fail
    refine hmk.mono ?_
    rintro e w4 ⟨hk4, hR4, hN4, hK4⟩
    obtain ⟨k, hkn⟩ : ∃ n : Nat, n = 1 + sumL cntP ps := ⟨_, rfl⟩
    have hheld := fun w' (hb : Below w4.heap.size w4 w') => heldPartS_any ps _ b2 1 w' (partsK_good.below hR4 hb) (by have := HV.out; omega)
    rw [← hkn] at hk4 hheld
    have hk0 : ¬ ((k : Int) < 0) := by omega
    subst hk4
    have HHD := Lib.hid hheld
    replace HR1 := Lib.hid (Good.kept partsK_good HR1.out hK4 (fun b hb hc => by have h1 := U1.out _ hb; have h2 := L2.out _ hc; omega))
    have B4 := B3.trans (hK4.below (fun b hb => by have h1 := L2.out _ hb; have h2 := S1.out; omega) B3.size)
    clear hmk hR4 hN4 hK4 hheld hkn B3
    go_wp2_with fail
    refine (HHD.out _ (Below.refl _ _)).mono ?_
    rintro e w5 ⟨rfl, hb5⟩
    have B5 := B4.trans (hb5.mono B4.size)
    replace HR1 := Lib.hid (partsK_good.below HR1.out hb5)
    have HC := Lib.hid hb5
    have q3 := HQ2.out _ B5
    clear hb5 B4
    go_wp2_with fail
    refine q3.mono ?_
    rintro e w6 ⟨hb6, v6, b6, rfl, hR6, hN6⟩
    obtain ⟨A6, c6, rfl, _, _⟩ := sliceK_form hR6
    have B6 := B5.trans (hb6.mono B5.size)
    have he6 := eqPartS_same ps _ _ b6 b1 _ hR6 (partsK_good.below HR1.out hb6)
    have HC6 := Lib.hid (HC.out.trans (hb6.mono HC.out.size))
    clear q3 hR6 hN6 hb6 HC HR1 B5
    go_wp2_with fail
    refine he6.mono ?_
    rintro e w7 ⟨rfl, hb7⟩
    have B7 := B6.trans (hb7.mono B6.size)
    have hh := HHD.out _ (HC6.out.trans (hb7.mono HC6.out.size))
    clear he6 hb7 B6
    go_wp2_with fail
    refine hh.mono ?_
    rintro e w8 ⟨rfl, hb8⟩
    have HZ := Lib.hid (B7.trans (hb8.mono B7.size))
    clear hh hb8
    go_wp2
    go_ret
    exact ⟨rfl, HZ.out⟩
  · have hn' : (1048576 : Int) < (s.size : Int) := by omega
    go_enter Tryd.func5, Tryd.ntmps5
    go_wp2
    go_ret
    exact ⟨rfl, Below.refl _ _⟩

end Go.Proofs.YtmhjabjiojfgnaaDoor
