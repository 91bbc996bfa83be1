/- The walks of changed and impl.ChangeDo. -/
import Derived.WalkKit
import Derived.Lib.Hide
import Derived.WalkSpells
import Derived.WalkLawsBesides
import Derived.BigQuiet
import Derived.Deep.RegionHeld3
import Derived.Deep.RegionWith
import Derived.Deep.RegionLaw
import Derived.Deep.DrawnRows
import Derived.Test.YtlmimajgifidhaaProg
import Derived.Test.YtlmimajgifidhaaWithout
import Derived.Test.YtlmimajgifidhaaUnion
import Derived.Test.YtlmimajgifidhaaChI
import Derived.Test.YtlmimajgifidhaaFacts3
import Derived.Test.YtlmimajgifidhaaCopy
import Derived.Test.YtlmimajgifidhaaDoP
namespace Go.Proofs.Ytlmimajgifidhaa
open Go.RowKit D
set_option linter.unusedVariables false
attribute [local go_sem ↓] Go.wp_at_zero Go.wp_at_succ

def D.ChangedL (U : List A) (B : Nat) (w : World) (e : Ending) (w' : World) : Prop := Below B w w' ∧ ∃ v bs U', U' = (if U.length ≤ 300 then U else []) ∧ e = .returned (.tuple #[v, .bool (decide (U.length ≤ 300))]) ∧ atomsK w' [v] U' bs

set_option maxRecDepth 100000 in
set_option maxHeartbeats 1000000 in
theorem changed_any (xs : List A) (c : Ch) (v c0 c1 : Value) (bs b2 : List Nat) (w : World) (h : atomsK w [v] xs bs) (h2 : changeK w [c0, c1] c b2) (n1 : xs.length ≤ 500000) (n2 : c.comes.length ≤ 500000) (n3 : c.goes.length ≤ 500000) :
    Calls Try.prog 37 #[v, .agg #[c0, c1]] w (ChangedL (unionL (onlyL xs c.goes) c.comes) w.heap.size w) := by
  obtain ⟨Ad, cap, rfl, hl, hm⟩ := sliceK_form h
  obtain ⟨Ac, capc, Ag, capg, rfl, rfl⟩ := change_cells2 h2
  obtain ⟨d1, d2, rfl, ht, hp⟩ := change_parts h2
  have hA : Below w.heap.size w (w.alloc (.cells #[.slice Ac c.comes.length capc, .slice Ag c.goes.length capg] 28)) := (Below.refl _ _).alloc (Nat.le_refl _) _
  have k1 := without_any xs c.goes _ _ bs d2 _ (atomsK_good.below h hA.drew) (atomsK_good.below hp hA.drew) (by omega) (by omega)
  have hlo : (onlyL xs c.goes).length ≤ 1000000 := by
    unfold onlyL
    rw [List.length_map]
    exact Nat.le_trans (List.length_filter_le _ _) (Nat.le_trans (merge_length _ xs c.goes (Nat.le_refl _)) (by omega))
  have k2 := fun v' bs' w' (hb : Below w.heap.size w w') (h' : atomsK w' [v'] (onlyL xs c.goes) bs') => union_any (onlyL xs c.goes) c.comes v' _ bs' d1 w' h' (atomsK_good.below ht hb) hlo (by omega)
  have x0 : (w.alloc (.cells #[.slice Ac c.comes.length capc, .slice Ag c.goes.length capg] 28)).cell? ⟨w.heap.size, 0, none⟩ = some (.slice Ac c.comes.length capc) := by go_simp
  have x1 : (w.alloc (.cells #[.slice Ac c.comes.length capc, .slice Ag c.goes.length capg] 28)).cell? ⟨w.heap.size, 1, none⟩ = some (.slice Ag c.goes.length capg) := by go_simp
  clear h hp h2 ht hl hm n1 n2 n3 hlo
  generalize unionL (onlyL xs c.goes) c.comes = U at *
  go_enter Try.func37, Try.ntmps37
  go_wp2
  go_region_held3 (fun w' => w'.cell? ⟨w.heap.size, 0, none⟩ = some (.slice Ac c.comes.length capc) ∧ w'.cell? ⟨w.heap.size, 1, none⟩ = some (.slice Ag c.goes.length capg))
    (first | go_keep | exact ⟨x0, x1⟩)
    (first
      | (go_at_call 29; refine k1.mono ?_; rintro e w1 ⟨hb1, v1, b3, rfl, hR1⟩; have k3 := k2 _ _ _ (hA.drew.trans (hb1.mono hA.drew.size)) hR1; obtain ⟨A1, p1, rfl, _, _⟩ := sliceK_form hR1; have B1 := hA.drew.trans (hb1.mono hA.drew.size); replace x0 := cell_later hb1 x0; replace x1 := cell_later hb1 x1; clear hR1)
      | (go_at_call 28; refine k3.mono ?_; rintro e w2 ⟨hb2, v2, b4, rfl, hR2⟩; have HR := Lib.hid hR2; obtain ⟨A2, p2, rfl, hl2, hm2⟩ := sliceK_form hR2; have hlm := nat_ge_max (Nat.le_trans hl2 hm2); have B2 := B1.trans (hb2.mono B1.size); replace x0 := cell_later hb2 x0; replace x1 := cell_later hb2 x1; clear hR2 hl2 hm2))
  by_cases hle : U.length ≤ 300
  · have hle' : ¬ (300 : Int) < (U.length : Int) := by omega
    have HL := Lib.hid hle
    clear hle
    go_wp2
    go_ret2
    exact ⟨B2, _, b4, U, by rw [if_pos HL.out], by rw [decide_eq_true HL.out]; rfl, HR.out⟩
  · have hle' : (300 : Int) < (U.length : Int) := by omega
    have HL := Lib.hid hle
    clear hle
    go_wp2
    go_ret2
    exact ⟨B2, _, [], [], by rw [if_neg HL.out], by rw [decide_eq_false HL.out]; rfl, atoms_none _⟩

set_option maxRecDepth 100000 in
set_option maxHeartbeats 1000000 in
theorem changeDo_impl (xs : List A) (c : Ch) (v c0 c1 : Value) (bs b2 : List Nat) (w : World) (h : atomsK w [v] xs bs) (h2 : changeK w [c0, c1] c b2) :
    Calls Try.prog 14 #[v, .agg #[c0, c1]] w (Makes atomsK (doL xs c) w.heap.size w) := by
  obtain ⟨Ad, cap, rfl, hl, hm⟩ := sliceK_form h
  obtain ⟨Ac, capc, Ag, capg, rfl, rfl⟩ := change_cells2 h2
  have hA : Below w.heap.size w (w.alloc (.cells #[.slice Ac c.comes.length capc, .slice Ag c.goes.length capg] 28)) := (Below.refl _ _).alloc (Nat.le_refl _) _
  have k1 := factsOk_impl xs _ bs _ (atomsK_good.below h hA)
  have k2 := fun w' (hb : Below w.heap.size w w') => changeOk_impl c _ _ b2 w' (changeK_good.below h2 hb)
  have k3 := fun (hf : factsOk xs = true) (hg : changeOk c = true) w' (hb : Below w.heap.size w w') => (behind_union hf hg) ▸ changed_any xs c _ _ _ bs b2 w' (atomsK_good.below h hb) (changeK_good.below h2 hb) (Nat.le_trans (factsOk_len hf) (by omega)) (Nat.le_trans (factsOk_len (change_oks hg).1) (by omega)) (Nat.le_trans (factsOk_len (change_oks hg).2) (by omega))
  have k4 := fun (hf : factsOk xs = true) (hg : changeOk c = true) v' bs' w' (U' : List A) (hU : U' = if (behind xs c).length ≤ 300 then behind xs c else []) (h' : atomsK w' [v'] U' bs') => copyAtoms_any U' v' bs' w' h' (by rw [hU]; split; omega; simp) (by
    intro x hx
    rw [hU] at hx
    split at hx
    · exact (behind_few (few_facts hf) (few_facts (change_oks hg).1)).2 x hx
    · simp at hx)
  have HG : Hid (doL xs c = if (factsOk xs && changeOk c) = true then (if (behind xs c).length ≤ 300 then behind xs c else []) else []) := Lib.hid rfl
  generalize doL xs c = G at *
  generalize factsOk xs = x at *
  generalize changeOk c = y at *
  clear h h2 hl hm
  go_enter Try.func14, Try.ntmps14
  go_wp2_with fail
  refine k1.mono ?_
  rintro e w1 ⟨rfl, hb1⟩
  have B1 := hA.trans (hb1.mono hA.size)
  have x0 : w1.cell? ⟨w.heap.size, 0, none⟩ = some (.slice Ac c.comes.length capc) := cell_later hb1 (by go_simp)
  have x1 : w1.cell? ⟨w.heap.size, 1, none⟩ = some (.slice Ag c.goes.length capg) := cell_later hb1 (by go_simp)
  clear k1 hA
  cases x
  · have HG2 : Hid (G = []) := Lib.hid (by rw [HG.out]; rfl)
    clear k2 k3 k4 HG
    go_wp2
    go_ret
    exact ⟨B1, _, [], rfl, by rw [HG2.out]; exact atoms_none _, New.nil _ _⟩
  · have k3a := k3 rfl
    have k4a := k4 rfl
    clear k3 k4
    go_wp2_with fail
    refine (k2 _ B1).mono ?_
    rintro e w2 ⟨rfl, hb2⟩
    have B2 := B1.trans (hb2.mono B1.size)
    replace x0 := cell_later hb2 x0
    replace x1 := cell_later hb2 x1
    clear k2
    cases y
    · have HG2 : Hid (G = []) := Lib.hid (by rw [HG.out]; rfl)
      clear k3a k4a HG
      go_wp2
      go_ret
      exact ⟨B2, _, [], rfl, by rw [HG2.out]; exact atoms_none _, New.nil _ _⟩
    · have k3' := k3a rfl
      have k4' := k4a rfl
      have HG2 : Hid (G = if (behind xs c).length ≤ 300 then behind xs c else []) := Lib.hid (by rw [HG.out]; rfl)
      clear k3a k4a HG
      go_wp2_with fail
      refine (k3' _ B2).mono ?_
      rintro e w3 ⟨hb3, v3, b3, U', hU, rfl, hR3⟩
      have B3 := B2.trans (hb3.mono B2.size)
      have k5 := k4' _ _ _ _ hU hR3
      have HU := Lib.hid hU
      clear hU
      obtain ⟨A3, p3, rfl, _, _⟩ := sliceK_form hR3
      generalize decide ((behind xs c).length ≤ 300) = z at *
      clear k3' k4' hR3
      go_wp2_with fail
      refine k5.mono ?_
      rintro e w4 ⟨hb4, v4, b4, rfl, hR4, hN4⟩
      have HR4 := Lib.hid (And.intro hR4 hN4)
      obtain ⟨A4, p4, rfl, _, _⟩ := sliceK_form hR4
      clear k5 hR4 hN4
      go_wp2
      go_ret
      exact ⟨B3.trans (hb4.mono B3.size), _, b4, rfl, by rw [HG2.out, ← HU.out]; exact HR4.out.1, HR4.out.2.mono B3.size⟩

end Go.Proofs.Ytlmimajgifidhaa
