/- The walk of impl.FactsAdd. -/
import Derived.WalkKit
import Derived.Lib.Hide
import Derived.WalkSpells
import Derived.WalkLawsBesides
import Derived.BigQuiet
import Derived.Deep.RegionHeld3
import Derived.Deep.RegionWith
import Derived.Deep.DrawnRows
import Derived.Test.YtbppnelbjklpeaaProg
import Derived.Test.YtbppnelbjklpeaaSet
import Derived.Test.YtbppnelbjklpeaaFacts3
import Derived.Test.YtbppnelbjklpeaaBin
import Derived.Test.YtbppnelbjklpeaaUnion
import Derived.Test.YtbppnelbjklpeaaFact
import Derived.Test.YtbppnelbjklpeaaFacts2
import Derived.Test.YtbppnelbjklpeaaCopy
import Derived.Test.YtbppnelbjklpeaaRes
namespace Go.Proofs.Ytbppnelbjklpeaa
open Go.RowKit D
set_option linter.unusedVariables false
attribute [local go_sem ↓] Go.wp_at_zero Go.wp_at_succ

set_option maxRecDepth 100000 in
set_option maxHeartbeats 1000000 in
theorem factsAdd_impl (xs : List A) (a : A) (v d0 d1 : Value) (bs b2 : List Nat) (w : World) (h : atomsK w [v] xs bs) (h2 : atomK w [d0, d1] a b2) :
    Calls Try.prog 14 #[v, .agg #[d0, d1]] w (MakesB atomsK (addL xs a) w.heap.size w) := by
  obtain ⟨Ad, cap, rfl, hl, hm⟩ := sliceK_form h
  obtain ⟨Aa, ca, rfl, rfl⟩ := atom_cells2 h2
  have hlm := nat_ge_max (Nat.le_trans hl hm)
  have hA0 : Below w.heap.size w (w.alloc (.cells #[.string a.name, .slice Aa a.args.length ca] 25)) := (Below.refl _ _).alloc (Nat.le_refl _) _
  have k1 := factsOk_impl xs _ bs _ (atomsK_good.below h hA0)
  have k2 := fun w' (hb : Below w.heap.size w w') => isFact_any a _ _ b2 w' (atomK_good.below h2 hb)
  have k3 := fun (hf : factsOk xs = true) w' (hb : Below w.heap.size w w') => has_any xs a _ _ _ bs b2 w' (atomsK_good.below h hb) (atomK_good.below h2 hb) (factsOk_asc hf) (Nat.le_trans (factsOk_len hf) (by omega))
  have k4 := fun (hf : factsOk xs = true) w' (hb : Below w.heap.size w w') => copyAtoms_any xs _ bs w' (atomsK_good.below h hb) (Nat.le_trans (factsOk_len hf) (by omega)) (fun x hx => Nat.le_trans (fact_args (factsOk_fact hf x hx)) (by omega))
  have k5 := fun (hf : factsOk xs = true) (v' : Value) bs' w' (hb : Below w.heap.size w w') (h' : atomsK w' [v'] [a] bs') => union_any xs [a] _ v' bs bs' w' (atomsK_good.below h hb) h' (Nat.le_trans (factsOk_len hf) (by omega)) (by simp)
  have k7 := fun (hf : factsOk xs = true) (hg : isFactB a = true) => (union_puts (xs := xs) (ys := [a]) (factsOk_asc hf) rfl (factsOk_fact hf) (fun x hx => by rw [List.mem_singleton.1 hx]; exact hg)).trans (show putsA xs [a] = insA xs a from rfl)
  have k6 := fun (hf : factsOk xs = true) (hg : isFactB a = true) v' bs' w' (h' : atomsK w' [v'] (unionL xs [a]) bs') => copyAtoms_any (unionL xs [a]) v' bs' w' h' (by
    have := factsOk_len hf
    have := union_length xs [a]
    simp only [List.length_singleton] at this
    omega) (fun x hx => Nat.le_trans (fact_args (by rcases union_mem hx with hx | hx; exact factsOk_fact hf x hx; rw [List.mem_singleton.1 hx]; exact hg)) (by omega))
  have h2b := fun w' (hb : Below w.heap.size w w') => atomK_good.below h2 hb
  have HG : Hid (addL xs a = if factsOk xs = true then (if (isFactB a && !hasB xs a && decide (xs.length < 300)) = true then (insA xs a, true) else (xs, false)) else ([], false)) := Lib.hid rfl
  have hb3 : ∀ r : Bool, (factsOk xs = r) → r = true → xs.length ≤ 300 := fun r e e' => factsOk_len (e.trans e')
  generalize addL xs a = G at *
  generalize factsOk xs = x at *
  generalize isFactB a = y at *
  generalize hasB xs a = z at *
  clear h h2 hm hl
  go_enter Try.func14, Try.ntmps14
  go_wp2_with fail
  refine k1.mono ?_
  rintro e w1 ⟨rfl, hb1⟩
  have B1 := hA0.trans (hb1.mono hA0.size)
  have x0 : w1.cell? ⟨w.heap.size, 0, none⟩ = some (.string a.name) := cell_later hb1 (by go_simp)
  have x1 : w1.cell? ⟨w.heap.size, 1, none⟩ = some (.slice Aa a.args.length ca) := cell_later hb1 (by go_simp)
  clear k1 hA0
  cases x
  · have HG2 : Hid (G = ([], false)) := Lib.hid (by rw [HG.out]; rfl)
    clear k2 k3 k4 k5 k6 k7 HG hb3
    go_wp2
    go_ret2
    exact ⟨B1, _, [], by rw [HG2.out]; rfl, by rw [HG2.out]; exact atoms_none _, New.nil _ _⟩
  · have k3' := k3 rfl
    have k4' := k4 rfl
    have k5' := k5 rfl
    have k6q := k6 rfl
    have k7q := k7 rfl
    have hle := hb3 _ rfl rfl
    clear k3 k4 k5 k6 k7 hb3
    go_wp2_with fail
    refine (k2 _ B1).mono ?_
    rintro e w2 ⟨rfl, hb2⟩
    have B2 := B1.trans (hb2.mono B1.size)
    have y0 := cell_later hb2 x0
    have y1 := cell_later hb2 x1
    clear k2 x0 x1
    cases y
    · have HG2 : Hid (G = (xs, false)) := Lib.hid (by rw [HG.out]; rfl)
      clear HG k3' k7q
      clear k5' k6q
      go_wp2_with fail
      refine (k4' _ B2).mono ?_
      rintro e w9 ⟨hb9, v9, b9, rfl, hR9, hN9⟩
      have HR := Lib.hid hR9
      obtain ⟨A9, c9, rfl, _⟩ := sliceK_form hR9
      clear k4' hR9
      go_wp2
      go_ret2
      exact ⟨B2.trans (hb9.mono B2.size), _, b9, by rw [HG2.out]; rfl, by rw [HG2.out]; exact HR.out, hN9.mono B2.size⟩
    · have k6' := k6q rfl
      have K7 := Lib.hid (k7q rfl)
      clear k6q k7q
      simp only [Bool.and_true] at k3'
      go_wp2_with fail
      refine (k3' _ B2).mono ?_
      rintro e w3 ⟨rfl, hb3⟩
      have B3 := B2.trans (hb3.mono B2.size)
      have z0 := cell_later hb3 y0
      have z1 := cell_later hb3 y1
      clear k3' y0 y1
      cases z
      · by_cases hlt : xs.length < 300
        · have HG2 : Hid (G = (insA xs a, true)) := Lib.hid (by rw [HG.out, decide_eq_true hlt]; rfl)
          have hlt3 : (xs.length : Int) < 300 := by omega
          have hlt4 : ((xs.length : Int) == 300) = false := beq_eq_false_iff_ne.2 (by omega)
          clear HG k4'
          have hA3 : Below w3.heap.size w3 (w3.alloc (.cells #[.string a.name, .slice Aa a.args.length ca] 25)) := (Below.refl _ _).alloc (Nat.le_refl _) _
          have B4 := B3.trans (hA3.mono B3.size)
          have hone := (Rowed.one_el (n := 2) (R := atomK) atomK_ones (h2b _ B4)).slice (World.ownsRow_lit (base := 0) (e := 25) w3 #[.string a.name, .slice Aa a.args.length ca] 1 (Nat.zero_le _) (by unfold maxLen; omega) rfl)
          obtain ⟨b1, ho, _⟩ := hone
          have k8 := k5' _ b1 _ B4 ho
          have HO := Lib.hid ho
          clear k5' ho
          go_wp2_with fail
          refine k8.mono ?_
          rintro e w7 ⟨hb7, v7, b7, rfl, hR7⟩
          have B7 := B4.trans (hb7.mono B4.size)
          have k9 := k6' _ _ _ hR7
          obtain ⟨A7, c7, rfl, _⟩ := sliceK_form hR7
          clear k8 k6' hR7
          go_wp2_with fail
          refine k9.mono ?_
          rintro e w8 ⟨hb8, v8, b8, rfl, hR8, hN8⟩
          rw [K7.out] at hR8
          have HR := Lib.hid hR8
          obtain ⟨A8, c8, rfl, _⟩ := sliceK_form hR8
          clear k9 hR8
          go_wp2
          go_ret2
          exact ⟨B7.trans (hb8.mono B7.size), _, b8, by rw [HG2.out]; rfl, by rw [HG2.out]; exact HR.out, hN8.mono B7.size⟩
        · have HG2 : Hid (G = (xs, false)) := Lib.hid (by rw [HG.out, decide_eq_false hlt]; rfl)
          have hlt4 : ((xs.length : Int) == 300) = true := beq_iff_eq.2 (by omega)
          clear HG
          clear k5' k6'
          go_wp2_with fail
          refine (k4' _ B3).mono ?_
          rintro e w9 ⟨hb9, v9, b9, rfl, hR9, hN9⟩
          have HR := Lib.hid hR9
          obtain ⟨A9, c9, rfl, _⟩ := sliceK_form hR9
          clear k4' hR9
          go_wp2
          go_ret2
          exact ⟨B3.trans (hb9.mono B3.size), _, b9, by rw [HG2.out]; rfl, by rw [HG2.out]; exact HR.out, hN9.mono B3.size⟩
      · have HG2 : Hid (G = (xs, false)) := Lib.hid (by rw [HG.out]; rfl)
        clear HG
        clear k5' k6'
        go_wp2_with fail
        refine (k4' _ B3).mono ?_
        rintro e w9 ⟨hb9, v9, b9, rfl, hR9, hN9⟩
        have HR := Lib.hid hR9
        obtain ⟨A9, c9, rfl, _⟩ := sliceK_form hR9
        clear k4' hR9
        go_wp2
        go_ret2
        exact ⟨B3.trans (hb9.mono B3.size), _, b9, by rw [HG2.out]; rfl, by rw [HG2.out]; exact HR.out, hN9.mono B3.size⟩

end Go.Proofs.Ytbppnelbjklpeaa
