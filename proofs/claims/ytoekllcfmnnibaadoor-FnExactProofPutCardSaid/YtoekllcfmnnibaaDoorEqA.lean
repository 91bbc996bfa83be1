/- The walks of the functions that compare two data (eq..): of two that read alike they say yes. -/
import Derived.Deep.RegionHeld3
import Derived.Deep.RegionWith
import Derived.BigQuiet
import Derived.Deep.DrawnRows
import Derived.WalkKit
import Derived.WalkSpells
import Derived.WalkLawsBesides
import Derived.Lib.Hide
import Derived.Lib.IndexBytes
import Derived.Deep.Slices
import Derived.Deep.Fields
import Derived.ChangeSame
import Derived.Deep.Draws
import Derived.Test.YtoekllcfmnnibaaDoorProg
import Derived.Test.YtoekllcfmnnibaaDoorKind
namespace Go.Proofs.YtoekllcfmnnibaaDoor
open Go.RowKit D
set_option linter.unusedVariables false
attribute [local go_sem ↓] Go.wp_at_zero Go.wp_at_succ

set_option maxHeartbeats 400000 in
theorem eqTerm_same (t : T) (w : World) :
    Calls Tryd.prog 36 #[.agg #[.bool t.var, .string t.name], .agg #[.bool t.var, .string t.name]] w (Yes w.heap.size w) := by
  obtain ⟨b, nm⟩ := t
  cases b
  all_goals
    go_enter Tryd.func36, Tryd.ntmps36
    go_wp2
    go_ret
    exact ⟨rfl, ((Below.refl _ _).alloc (Nat.le_refl _) _).alloc (by simp) _⟩

set_option maxHeartbeats 400000 in
theorem eqTermS_same (ts : List T) (v1 v2 : Value) (b1 b2 : List Nat) (w : World) (h1 : termsK w [v1] ts b1) (h2 : termsK w [v2] ts b2) :
    Calls Tryd.prog 28 #[v1, v2] w (Yes w.heap.size w) := by
  obtain ⟨Ad, cap, rfl, hl, hm⟩ := sliceK_form h1
  obtain ⟨Ad2, cap2, rfl, hl2, hm2⟩ := sliceK_form h2
  have hlm := nat_ge_max (Nat.le_trans hl hm)
  clear hm hm2
  go_enter Tryd.func28, Tryd.ntmps28
  go_wp2
  go_loopw [5] (fun i wr => ∃ k : Nat, k ≤ ts.length ∧ i = .int .i64 k ∧ Below w.heap.size w wr) (fun i _ => ts.length - (intOf i).toNat)
  case atStart => exact ⟨0, Nat.zero_le _, rfl, Below.refl _ _⟩
  case round =>
    obtain ⟨k, hk, rfl, hb⟩ := hrel
    by_cases hlt : k < ts.length
    · obtain ⟨b, o, rfl, _, c0, c1, hnm⟩ := terms_at (termsK_good.below h1 hb) hlt
      obtain ⟨b', o', rfl, _, d0, d1, _⟩ := terms_at (termsK_good.below h2 hb) hlt
      clear h1 h2
      have hlt' : (k : Int) < (ts.length : Int) := by omega
      have hk0 : (0 : Int) ≤ (k : Int) := by omega
      go_wp2
      go_region_held3 (fun w' => w'.cell? ⟨b, o + k * 2, none⟩ = some (.bool ts[k].var) ∧ w'.cell? ⟨b, o + k * 2 + 1, none⟩ = some (.string ts[k].name) ∧ w'.cell? ⟨b', o' + k * 2, none⟩ = some (.bool ts[k].var) ∧ w'.cell? ⟨b', o' + k * 2 + 1, none⟩ = some (.string ts[k].name)) (first | go_keep | exact ⟨cell_later hb' c0, cell_later hb' c1, cell_later hb' d0, cell_later hb' d1⟩)
        (first | (go_at_call 36; refine (eqTerm_same _ _).mono ?_; rintro e w' ⟨rfl, hb'⟩))
      go_wp2
      go_roundw
      case rel => exact ⟨k + 1, by omega, by go_num, hb.trans ((Below.drew (Below.refl _ _)).trans (hb'.mono hb.size))⟩
      case measure => simp [intOf]; omega
    · have he : k = ts.length := by omega
      subst he
      go_wp2
      go_ret
      exact ⟨rfl, hb⟩

set_option maxHeartbeats 400000 in
theorem eqAtom_same (a : A) (c0 c1 d0 d1 : Value) (b1 b2 : List Nat) (w : World) (h1 : atomK w [c0, c1] a b1) (h2 : atomK w [d0, d1] a b2) :
    Calls Tryd.prog 18 #[.agg #[c0, c1], .agg #[d0, d1]] w (Yes w.heap.size w) := by
  obtain ⟨s1, hcs, hnm, ht1⟩ := h1
  obtain ⟨s2, hcs2, _, ht2⟩ := h2
  simp only [List.cons.injEq, and_true] at hcs hcs2
  obtain ⟨rfl, rfl⟩ := hcs
  obtain ⟨rfl, rfl⟩ := hcs2
  have hq := fun w' (hb : Below w.heap.size w w') => eqTermS_same a.args c1 d1 b1 b2 w' (termsK_good.below ht1 hb) (termsK_good.below ht2 hb)
  clear ht1 ht2
  go_enter Tryd.func18, Tryd.ntmps18
  go_wp2_with (go_at_call 28; refine (hq _ (((Below.refl _ _).alloc (Nat.le_refl _) _).alloc (by simp) _)).mono ?_; rintro e w' ⟨rfl, hb'⟩)
  go_ret
  exact ⟨rfl, (((Below.refl _ _).alloc (Nat.le_refl _) _).alloc (by simp) _).trans (hb'.mono (by simp; omega))⟩

end Go.Proofs.YtoekllcfmnnibaaDoor
