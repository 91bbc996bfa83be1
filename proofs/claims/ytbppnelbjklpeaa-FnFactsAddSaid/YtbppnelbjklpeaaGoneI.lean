/- The walk of impl.FactsGone. -/
import Derived.WalkKit
import Derived.Lib.Hide
import Derived.WalkSpells
import Derived.WalkLawsBesides
import Derived.BigQuiet
import Derived.Deep.RegionHeld3
import Derived.Deep.RegionWith
import Derived.Deep.DrawnRows
import Derived.Test.YtbppnelbjklpeaaProg
import Derived.Test.YtbppnelbjklpeaaSet
import Derived.Test.YtbppnelbjklpeaaFacts3
import Derived.Test.YtbppnelbjklpeaaBin
import Derived.Test.YtbppnelbjklpeaaWithout
import Derived.Test.YtbppnelbjklpeaaCopy
import Derived.Test.YtbppnelbjklpeaaRes
namespace Go.Proofs.Ytbppnelbjklpeaa
open Go.RowKit D
set_option linter.unusedVariables false
attribute [local go_sem ↓] Go.wp_at_zero Go.wp_at_succ

set_option maxHeartbeats 1000000 in
theorem factsGone_impl (xs : List A) (a : A) (v d0 d1 : Value) (bs b2 : List Nat) (w : World) (h : atomsK w [v] xs bs) (h2 : atomK w [d0, d1] a b2) :
    Calls Try.prog 21 #[v, .agg #[d0, d1]] w (MakesB atomsK (goneL xs a) w.heap.size w) := by
  obtain ⟨Ad, cap, rfl, hl, hm⟩ := sliceK_form h
  obtain ⟨Aa, ca, rfl, rfl⟩ := atom_cells2 h2
  have hA0 : Below w.heap.size w (w.alloc (.cells #[.string a.name, .slice Aa a.args.length ca] 25)) := (Below.refl _ _).alloc (Nat.le_refl _) _
  have k1 := factsOk_impl xs _ bs _ (atomsK_good.below h hA0)
  have k3 := fun (hf : factsOk xs = true) w' (hb : Below w.heap.size w w') => has_any xs a _ _ _ bs b2 w' (atomsK_good.below h hb) (atomK_good.below h2 hb) (factsOk_asc hf) (Nat.le_trans (factsOk_len hf) (by omega))
  have k4 := fun (hf : factsOk xs = true) w' (hb : Below w.heap.size w w') => copyAtoms_any xs _ bs w' (atomsK_good.below h hb) (Nat.le_trans (factsOk_len hf) (by omega)) (fun x hx => Nat.le_trans (fact_args (factsOk_fact hf x hx)) (by omega))
  have k5 := fun (hf : factsOk xs = true) (v' : Value) bs' w' (hb : Below w.heap.size w w') (h' : atomsK w' [v'] [a] bs') => without_any xs [a] _ v' bs bs' w' (atomsK_good.below h hb) h' (Nat.le_trans (factsOk_len hf) (by omega)) (by simp)
  have k6 := fun (hf : factsOk xs = true) v' bs' w' (h' : atomsK w' [v'] (onlyL xs [a]) bs') => copyAtoms_any (onlyL xs [a]) v' bs' w' h' (by
    have := factsOk_len hf
    rw [onlyL_less (factsOk_asc hf) rfl]
    have h3 : (lessL xs [a]).length ≤ xs.length := List.length_filter_le _ _
    omega) (fun x hx => Nat.le_trans (fact_args (factsOk_fact hf x (mem_less (by rw [onlyL_less (factsOk_asc hf) rfl] at hx; exact hx)))) (by omega))
  have k7 := fun (hf : factsOk xs = true) => (onlyL_less (xs := xs) (ys := [a]) (factsOk_asc hf) rfl).trans (less_one (factsOk_asc hf) (factsOk_fact hf) a)
  have h2b := fun w' (hb : Below w.heap.size w w') => atomK_good.below h2 hb
  have HG : Hid (goneL xs a = if factsOk xs = true then (if (hasB xs a && isFactB a) = true then (delA xs a, true) else (xs, false)) else ([], false)) := Lib.hid rfl
  generalize goneL xs a = G at *
  generalize factsOk xs = x at *
  generalize hu : (hasB xs a && isFactB a) = u at *
  clear h h2 hm hl
  go_enter Try.func21, Try.ntmps21
  go_wp2_with fail
  refine k1.mono ?_
  rintro e w1 ⟨rfl, hb1⟩
  have B1 := hA0.trans (hb1.mono hA0.size)
  have x0 : w1.cell? ⟨w.heap.size, 0, none⟩ = some (.string a.name) := cell_later hb1 (by go_simp)
  have x1 : w1.cell? ⟨w.heap.size, 1, none⟩ = some (.slice Aa a.args.length ca) := cell_later hb1 (by go_simp)
  clear k1 hA0
  cases x
  · have HG2 : Hid (G = ([], false)) := Lib.hid (by rw [HG.out]; rfl)
    clear k3 k4 k5 k6 k7 HG hu
    go_wp2
    go_ret2
    exact ⟨B1, _, [], by rw [HG2.out]; rfl, by rw [HG2.out]; exact atoms_none _, New.nil _ _⟩
  · have k3' := k3 rfl
    have k4' := k4 rfl
    have k5' := k5 rfl
    have k6' := k6 rfl
    have K7 := Lib.hid (k7 rfl)
    clear k3 k4 k5 k6 k7
    have HU := Lib.hid hu
    clear hu
    go_wp2_with fail
    refine (k3' _ B1).mono ?_
    rintro e w2 ⟨rfl, hb2⟩
    have B2 := B1.trans (hb2.mono B1.size)
    have y0 := cell_later hb2 x0
    have y1 := cell_later hb2 x1
    clear k3' x0 x1
    cases u
    · have HG2 : Hid (G = (xs, false)) := Lib.hid (by rw [HG.out]; rfl)
      clear HG k5' k6'
      go_wp2_with fail
      refine (k4' _ B2).mono ?_
      rintro e w3 ⟨hb3, v3, b3, rfl, hR3, hN3⟩
      have HR := Lib.hid hR3
      obtain ⟨A3, c3, rfl, _⟩ := sliceK_form hR3
      clear k4' hR3
      go_wp2
      go_ret2
      exact ⟨B2.trans (hb3.mono B2.size), _, b3, by rw [HG2.out]; rfl, by rw [HG2.out]; exact HR.out, hN3.mono B2.size⟩
    · have HG2 : Hid (G = (delA xs a, true)) := Lib.hid (by rw [HG.out]; rfl)
      clear HG k4'
      have hA2 : Below w2.heap.size w2 (w2.alloc (.cells #[.string a.name, .slice Aa a.args.length ca] 25)) := (Below.refl _ _).alloc (Nat.le_refl _) _
      have B3 := B2.trans (hA2.mono B2.size)
      have hone := (Rowed.one_el (n := 2) (R := atomK) atomK_ones (h2b _ B3)).slice (World.ownsRow_lit (base := 0) (e := 25) w2 #[.string a.name, .slice Aa a.args.length ca] 1 (Nat.zero_le _) (by unfold maxLen; omega) rfl)
      obtain ⟨b1, ho, _⟩ := hone
      have k8 := k5' _ b1 _ B3 ho
      have HO := Lib.hid ho
      clear k5' ho
      go_wp2_with fail
      refine k8.mono ?_
      rintro e w4 ⟨hb4, v4, b4, rfl, hR4⟩
      have B4 := B3.trans (hb4.mono B3.size)
      have k9 := k6' _ _ _ hR4
      obtain ⟨A4, c4, rfl, _⟩ := sliceK_form hR4
      clear k8 k6' hR4
      go_wp2_with fail
      refine k9.mono ?_
      rintro e w5 ⟨hb5, v5, b5, rfl, hR5, hN5⟩
      rw [K7.out] at hR5
      have HR := Lib.hid hR5
      obtain ⟨A5, c5, rfl, _⟩ := sliceK_form hR5
      clear k9 hR5
      go_wp2
      go_ret2
      exact ⟨B4.trans (hb5.mono B4.size), _, b5, by rw [HG2.out]; rfl, by rw [HG2.out]; exact HR.out, hN5.mono B4.size⟩

end Go.Proofs.Ytbppnelbjklpeaa
