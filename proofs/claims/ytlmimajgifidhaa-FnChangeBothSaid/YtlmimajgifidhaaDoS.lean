/- The walks of l3Do and spec.ChangeDo. -/
import Derived.WalkKit
import Derived.Lib.Hide
import Derived.WalkSpells
import Derived.WalkLawsBesides
import Derived.BigQuiet
import Derived.Deep.RegionHeld3
import Derived.Deep.RegionWith
import Derived.Deep.RegionLaw
import Derived.Deep.DrawnRows
import Derived.Test.YtlmimajgifidhaaProg
import Derived.Test.YtlmimajgifidhaaL3P
import Derived.Test.YtlmimajgifidhaaL3L
import Derived.Test.YtlmimajgifidhaaChS
import Derived.Test.YtlmimajgifidhaaFacts3
import Derived.Test.YtlmimajgifidhaaDoP
namespace Go.Proofs.Ytlmimajgifidhaa
open Go.RowKit D
set_option linter.unusedVariables false
attribute [local go_sem ↓] Go.wp_at_zero Go.wp_at_succ

set_option maxRecDepth 100000 in
set_option maxHeartbeats 1000000 in
theorem l3Do_any (xs : List A) (c : Ch) (v c0 c1 : Value) (bs b2 : List Nat) (w : World) (h : atomsK w [v] xs bs) (h2 : changeK w [c0, c1] c b2) (hs : asc xs = true) (hg : asc c.goes = true) (f1 : fewA xs) (f2 : fewA c.comes) :
    Calls Try.prog 40 #[v, .agg #[c0, c1]] w (Reads atomsK (behind xs c) w.heap.size w) := by
  obtain ⟨Ad, cap, rfl, hl, hm⟩ := sliceK_form h
  obtain ⟨Ac, capc, Ag, capg, rfl, rfl⟩ := change_cells2 h2
  obtain ⟨d1, d2, rfl, ht, hp⟩ := change_parts h2
  have hA : Below w.heap.size w (w.alloc (.cells #[.slice Ac c.comes.length capc, .slice Ag c.goes.length capg] 28)) := (Below.refl _ _).alloc (Nat.le_refl _) _
  have k1 := l3Less_any xs c.goes _ _ bs d2 _ (atomsK_good.below h hA) (atomsK_good.below hp hA) hg (Nat.le_trans f1.1 (by omega)) f1.2
  have HB := Lib.hid (behind_few (c := c) f1 f2)
  have HLL : Hid ((lessL xs c.goes).length + c.comes.length ≤ 2000000) := Lib.hid (by have h1 : (lessL xs c.goes).length ≤ xs.length := List.length_filter_le _ _; have := f1.1; have := f2.1; omega)
  have HLA := Lib.hid (asc_less (ys := c.goes) hs)
  have HE : Hid (behind xs c = putsA (lessL xs c.goes) c.comes) := Lib.hid rfl
  obtain ⟨_, _, _, hlc, hmc⟩ := sliceK_form ht
  have hlm := nat_ge_max (Nat.le_trans hlc hmc)
  clear h hp h2 hs hg f1 f2 hl hm hlc hmc
  generalize lessL xs c.goes = M at *
  go_enter Try.func40, Try.ntmps40
  go_wp2_with fail
  refine k1.mono ?_
  rintro e w1 ⟨hb1, v1, b3, rfl, hR1⟩
  obtain ⟨A1, p1, rfl, _, _⟩ := sliceK_form hR1
  have B1 := hA.trans (hb1.mono hA.size)
  have x0 : w1.cell? ⟨w.heap.size, 0, none⟩ = some (.slice Ac c.comes.length capc) := cell_later hb1 (by go_simp)
  have HS := Lib.hid (And.intro hR1 (And.intro B1 x0))
  clear k1 hR1 B1 x0 hA
  go_wp2
  go_loopw [5, 6] (fun v i wr => ∃ (k m : Nat) (Av : Option Addr) (cp : Nat) (b4 : List Nat), k ≤ c.comes.length ∧ i = .int .i64 k ∧ v = .slice Av m cp ∧ m = (putsA M (c.comes.take k)).length ∧ atomsK wr [.slice Av m cp] (putsA M (c.comes.take k)) b4 ∧ Below w.heap.size w wr ∧ wr.cell? ⟨w.heap.size, 0, none⟩ = some (.slice Ac c.comes.length capc)) (fun _ i _ => c.comes.length - (intOf i).toNat)
  case atStart => exact ⟨0, M.length, A1, p1, b3, Nat.zero_le _, rfl, rfl, rfl, HS.out.1, HS.out.2.1, HS.out.2.2⟩
  case round =>
    obtain ⟨k, m, Av, cp, b4, hk, rfl, rfl, hme, hR, hb, x0⟩ := hrel
    clear HS
    have HM := Lib.hid hme
    by_cases hlt : k < c.comes.length
    · have hk0 : (0 : Int) ≤ (k : Int) := by omega
      have hk1 : (k : Int) < (c.comes.length : Int) := by omega
      obtain ⟨b, o, Ae, ce, bk, rfl, _, e0, e1, hel, _⟩ := atoms_el (atomsK_good.below ht hb) hlt
      have hlen : (putsA M (c.comes.take k)).length ≤ 2000000 := by
        have h1 := puts_length (c.comes.take k) M
        rw [List.length_take] at h1
        have := HLL.out
        omega
      have HT : Hid (putsA M (c.comes.take (k + 1)) = insA (putsA M (c.comes.take k)) c.comes[k]) := Lib.hid (puts_snoc M c.comes k hlt)
      have HLT := Lib.hid hlt
      have hk2 := l3Put_any (putsA M (c.comes.take k)) c.comes[k] _ _ _ b4 bk wr hR hel (asc_puts HLA.out) (by omega)
      clear hme hR hel hlen ht
      go_wp2_with fail
      refine hk2.mono ?_
      rintro e w2 ⟨hb2, v2, b5, rfl, hR2⟩
      obtain ⟨A2, p2, rfl, _, _⟩ := sliceK_form hR2
      have HX := Lib.hid (And.intro hR2 (And.intro (hb.trans (hb2.mono hb.size)) (cell_later hb2 x0)))
      clear hk2 hR2
      go_wp2
      go_roundw
      case rel => exact ⟨k + 1, _, A2, p2, b5, HLT.out, by go_num, rfl, by rw [HT.out]; rfl, by rw [HT.out]; exact HX.out.1, HX.out.2.1, HX.out.2.2⟩
      case measure => have := HLT.out; simp [intOf]; omega
    · have he : k = c.comes.length := by omega
      subst he
      rw [List.take_of_length_le (Nat.le_refl _)] at hR
      rw [← HE.out] at hR
      have hk3 := l3Copy_any (behind xs c) _ b4 wr (by rw [hme, List.take_of_length_le (Nat.le_refl _), ← HE.out] at hR; exact hR) (Nat.le_trans HB.out.1 (by omega)) HB.out.2
      rw [List.take_of_length_le (Nat.le_refl _), ← HE.out] at hme
      rw [← hme] at hk3
      clear hR ht
      have hme' := Lib.hid hme
      clear hme HM
      go_wp2_with fail
      refine hk3.mono ?_
      rintro e w2 ⟨hb2, v2, b5, rfl, hR2⟩
      have HX := Lib.hid (And.intro hR2 (hb.trans (hb2.mono hb.size)))
      obtain ⟨A2, p2, rfl, _, _⟩ := sliceK_form hR2
      clear hk3 hR2
      go_wp2
      go_ret
      exact ⟨HX.out.2, _, b5, rfl, HX.out.1⟩

set_option maxRecDepth 100000 in
set_option maxHeartbeats 1000000 in
theorem changeDo_spec (xs : List A) (c : Ch) (v c0 c1 : Value) (bs b2 : List Nat) (w : World) (h : atomsK w [v] xs bs) (h2 : changeK w [c0, c1] c b2) :
    Calls Try.prog 16 #[v, .agg #[c0, c1]] w (Reads atomsK (doL xs c) w.heap.size w) := by
  obtain ⟨Ad, cap, rfl, hl, hm⟩ := sliceK_form h
  obtain ⟨Ac, capc, Ag, capg, rfl, rfl⟩ := change_cells2 h2
  have hA : Below w.heap.size w (w.alloc (.cells #[.slice Ac c.comes.length capc, .slice Ag c.goes.length capg] 28)) := (Below.refl _ _).alloc (Nat.le_refl _) _
  have k1 := factsOk_spec xs _ bs _ (atomsK_good.below h hA)
  have k2 := fun w' (hb : Below w.heap.size w w') => changeOk_spec c _ _ b2 w' (changeK_good.below h2 hb)
  have k3 := fun (hf : factsOk xs = true) (hg : changeOk c = true) w' (hb : Below w.heap.size w w') => l3Do_any xs c _ _ _ bs b2 w' (atomsK_good.below h hb) (changeK_good.below h2 hb) (factsOk_asc hf) (factsOk_asc (change_oks hg).2) (few_facts hf) (few_facts (change_oks hg).1)
  have k4 := fun (hf : factsOk xs = true) (hg : changeOk c = true) v' bs' w' (h' : atomsK w' [v'] (behind xs c) bs') => (behind_ok hf hg) ▸ factsOk_spec (behind xs c) v' bs' w' h'
  have HG : Hid (doL xs c = if (factsOk xs && changeOk c) = true then (if (behind xs c).length ≤ 300 then behind xs c else []) else []) := Lib.hid rfl
  generalize doL xs c = G at *
  generalize factsOk xs = x at *
  generalize changeOk c = y at *
  clear h h2 hl hm
  go_enter Try.func16, Try.ntmps16
  go_wp2_with fail
  refine k1.mono ?_
  rintro e w1 ⟨rfl, hb1⟩
  have B1 := hA.trans (hb1.mono hA.size)
  have x0 : w1.cell? ⟨w.heap.size, 0, none⟩ = some (.slice Ac c.comes.length capc) := cell_later hb1 (by go_simp)
  have x1 : w1.cell? ⟨w.heap.size, 1, none⟩ = some (.slice Ag c.goes.length capg) := cell_later hb1 (by go_simp)
  clear k1 hA
  cases x
  · have HG2 : Hid (G = []) := Lib.hid (by rw [HG.out]; rfl)
    clear k2 k3 k4 HG
    go_wp2
    go_ret
    exact ⟨B1.alloc B1.size _, _, [], rfl, by rw [HG2.out]; exact atoms_empty (g := w1.heap.size)⟩
  · have k3a := k3 rfl
    have k4a := k4 rfl
    clear k3 k4
    go_wp2_with fail
    refine (k2 _ B1).mono ?_
    rintro e w2 ⟨rfl, hb2⟩
    have B2 := B1.trans (hb2.mono B1.size)
    replace x0 := cell_later hb2 x0
    replace x1 := cell_later hb2 x1
    clear k2
    cases y
    · have HG2 : Hid (G = []) := Lib.hid (by rw [HG.out]; rfl)
      clear k3a k4a HG
      go_wp2
      go_ret
      exact ⟨B2.alloc B2.size _, _, [], rfl, by rw [HG2.out]; exact atoms_empty (g := w2.heap.size)⟩
    · have k3' := k3a rfl
      have k4' := k4a rfl
      clear k3a k4a
      go_wp2_with fail
      refine (k3' _ B2).mono ?_
      rintro e w3 ⟨hb3, v3, b3, rfl, hR3⟩
      have B3 := B2.trans (hb3.mono B2.size)
      have k5 := k4' _ _ _ hR3
      have HR := Lib.hid hR3
      obtain ⟨A3, p3, rfl, _, _⟩ := sliceK_form hR3
      clear k3' k4' hR3
      by_cases hle : (behind xs c).length ≤ 300
      · have HG2 : Hid (G = behind xs c) := Lib.hid (by rw [HG.out]; simp [hle])
        rw [decide_eq_true hle] at k5
        clear HG hle
        go_wp2_with fail
        refine k5.mono ?_
        rintro e w4 ⟨rfl, hb4⟩
        have HR4 := Lib.hid (atomsK_good.below HR.out hb4)
        clear k5
        go_wp2
        go_ret
        exact ⟨B3.trans (hb4.mono B3.size), _, b3, rfl, by rw [HG2.out]; exact HR4.out⟩
      · have HG2 : Hid (G = []) := Lib.hid (by rw [HG.out]; simp [hle])
        rw [decide_eq_false hle] at k5
        clear HG hle
        go_wp2_with fail
        refine k5.mono ?_
        rintro e w4 ⟨rfl, hb4⟩
        have B4 := B3.trans (hb4.mono B3.size)
        clear k5
        go_wp2
        go_ret
        exact ⟨B4.alloc B4.size _, _, [], rfl, by rw [HG2.out]; exact atoms_empty (g := w4.heap.size)⟩

end Go.Proofs.Ytlmimajgifidhaa
