/- The walks of the functions that compare two data (eq..): of two that read alike they say yes. -/
import Derived.Deep.RegionHeld3
import Derived.Deep.RegionWith
import Derived.BigQuiet
import Derived.Deep.DrawnRows
import Derived.WalkKit
import Derived.WalkSpells
import Derived.WalkLawsBesides
import Derived.Lib.Hide
import Derived.Lib.IndexBytes
import Derived.Deep.Slices
import Derived.Deep.Fields
import Derived.ChangeSame
import Derived.Deep.Draws
import Derived.Test.YtlmimajgifidhabProg
import Derived.Test.YtlmimajgifidhabKind
import Derived.Test.YtlmimajgifidhabSz
import Derived.Test.YtlmimajgifidhabTo
namespace Go.Proofs.Ytlmimajgifidhab
open Go.RowKit D
set_option linter.unusedVariables false
attribute [local go_sem ↓] Go.wp_at_zero Go.wp_at_succ

set_option maxHeartbeats 400000 in
theorem eqTerm_same (t : T) (w : World) :
    Calls Try.prog 55 #[.agg #[.bool t.var, .string t.name], .agg #[.bool t.var, .string t.name]] w (Yes w.heap.size w) := by
  obtain ⟨b, nm⟩ := t
  cases b
  all_goals
    go_enter Try.func55, Try.ntmps55
    go_wp2
    go_ret
    exact ⟨rfl, ((Below.refl _ _).alloc (Nat.le_refl _) _).alloc (by simp) _⟩

set_option maxHeartbeats 400000 in
theorem eqTermS_same (ts : List T) (v1 v2 : Value) (b1 b2 : List Nat) (w : World) (h1 : termsK w [v1] ts b1) (h2 : termsK w [v2] ts b2) :
    Calls Try.prog 45 #[v1, v2] w (Yes w.heap.size w) := by
  obtain ⟨Ad, cap, rfl, hl, hm⟩ := sliceK_form h1
  obtain ⟨Ad2, cap2, rfl, hl2, hm2⟩ := sliceK_form h2
  have hlm := nat_ge_max (Nat.le_trans hl hm)
  clear hm hm2
  go_enter Try.func45, Try.ntmps45
  go_wp2
  go_loopw [5] (fun i wr => ∃ k : Nat, k ≤ ts.length ∧ i = .int .i64 k ∧ Below w.heap.size w wr) (fun i _ => ts.length - (intOf i).toNat)
  case atStart => exact ⟨0, Nat.zero_le _, rfl, Below.refl _ _⟩
  case round =>
    obtain ⟨k, hk, rfl, hb⟩ := hrel
    by_cases hlt : k < ts.length
    · obtain ⟨b, o, rfl, _, c0, c1, hnm⟩ := terms_at (termsK_good.below h1 hb) hlt
      obtain ⟨b', o', rfl, _, d0, d1, _⟩ := terms_at (termsK_good.below h2 hb) hlt
      clear h1 h2
      have hlt' : (k : Int) < (ts.length : Int) := by omega
      have hk0 : (0 : Int) ≤ (k : Int) := by omega
      go_wp2
      go_region_held3 (fun w' => w'.cell? ⟨b, o + k * 2, none⟩ = some (.bool ts[k].var) ∧ w'.cell? ⟨b, o + k * 2 + 1, none⟩ = some (.string ts[k].name) ∧ w'.cell? ⟨b', o' + k * 2, none⟩ = some (.bool ts[k].var) ∧ w'.cell? ⟨b', o' + k * 2 + 1, none⟩ = some (.string ts[k].name)) (first | go_keep | exact ⟨cell_later hb' c0, cell_later hb' c1, cell_later hb' d0, cell_later hb' d1⟩)
        (first | (go_at_call 55; refine (eqTerm_same _ _).mono ?_; rintro e w' ⟨rfl, hb'⟩))
      go_wp2
      go_roundw
      case rel => exact ⟨k + 1, by omega, by go_num, hb.trans ((Below.drew (Below.refl _ _)).trans (hb'.mono hb.size))⟩
      case measure => simp [intOf]; omega
    · have he : k = ts.length := by omega
      subst he
      go_wp2
      go_ret
      exact ⟨rfl, hb⟩

set_option maxHeartbeats 400000 in
theorem eqAtom_same (a : A) (c0 c1 d0 d1 : Value) (b1 b2 : List Nat) (w : World) (h1 : atomK w [c0, c1] a b1) (h2 : atomK w [d0, d1] a b2) :
    Calls Try.prog 31 #[.agg #[c0, c1], .agg #[d0, d1]] w (Yes w.heap.size w) := by
  obtain ⟨s1, hcs, hnm, ht1⟩ := h1
  obtain ⟨s2, hcs2, _, ht2⟩ := h2
  simp only [List.cons.injEq, and_true] at hcs hcs2
  obtain ⟨rfl, rfl⟩ := hcs
  obtain ⟨rfl, rfl⟩ := hcs2
  have hq := fun w' (hb : Below w.heap.size w w') => eqTermS_same a.args c1 d1 b1 b2 w' (termsK_good.below ht1 hb) (termsK_good.below ht2 hb)
  clear ht1 ht2
  go_enter Try.func31, Try.ntmps31
  go_wp2_with (go_at_call 45; refine (hq _ (((Below.refl _ _).alloc (Nat.le_refl _) _).alloc (by simp) _)).mono ?_; rintro e w' ⟨rfl, hb'⟩)
  go_ret
  exact ⟨rfl, (((Below.refl _ _).alloc (Nat.le_refl _) _).alloc (by simp) _).trans (hb'.mono (by simp; omega))⟩

set_option maxHeartbeats 400000 in
theorem szAtom_any (a : A) (c0 c1 : Value) (bs : List Nat) (left : Int) (w : World) (h : atomK w [c0, c1] a bs) (h0 : 0 ≤ left) (h1 : left ≤ 1048576) :
    Calls Try.prog 23 #[.agg #[c0, c1], .int .i64 left] w (Left left (bulkA a) w.heap.size w) := by
  obtain ⟨s1, hcs, hnm, ht⟩ := h
  simp only [List.cons.injEq, and_true] at hcs
  obtain ⟨rfl, rfl⟩ := hcs
  have hq := fun w' (hb : Below w.heap.size w w') (h0 : 0 ≤ left - (a.name.size : Int)) => szTermS_any a.args c1 bs (left - (a.name.size : Int)) w' (termsK_good.below ht hb) h0 (by omega)
  have hbk : bulkA a = a.name.size + a.args.length + bulkTs a.args := rfl
  have HB := Lib.hid hbk
  have hnm' := nat_ge_max hnm
  clear ht hbk hnm
  go_enter Try.func23, Try.ntmps23
  go_wp2_with fail
  · go_ret
    exact ⟨(Below.refl _ _).alloc (Nat.le_refl _) _, _, rfl, .inl rfl⟩
  · refine (hq _ ((Below.refl _ _).alloc (Nat.le_refl _) _) (by assumption)).mono ?_
    rintro e w' ⟨hb', r, rfl, hr⟩
    have hB : Below w.heap.size w w' := ((Below.refl _ _).alloc (Nat.le_refl _) _).trans (hb'.mono (by simp))
    go_wp2
    · rcases hr with rfl | ⟨_, _⟩
      · go_ret
        exact ⟨hB, _, rfl, .inl rfl⟩
      · exfalso; omega
    · rcases hr with rfl | ⟨hr0, hr1⟩
      · exfalso; omega
      · go_ret
        have := HB.out
        exact ⟨hB, _, rfl, .inr ⟨hr0, by omega⟩⟩

set_option maxHeartbeats 400000 in
theorem toAtom_any (a : A) (c0 c1 : Value) (bs : List Nat) (w : World) (h : atomK w [c0, c1] a bs) (hn : a.args.length ≤ 1048576) :
    Calls Try.prog 28 #[.agg #[c0, c1]] w (MakesA atomK a w.heap.size w) := by
  obtain ⟨s1, hcs, hnm, ht⟩ := h
  simp only [List.cons.injEq, and_true] at hcs
  obtain ⟨rfl, rfl⟩ := hcs
  have hq := fun w' (hb : Below w.heap.size w w') => toTermS_any a.args c1 bs w' (termsK_good.below ht hb) hn
  clear ht
  go_enter Try.func28, Try.ntmps28
  go_wp2_with fail
  refine (hq _ (by repeat (first | exact Below.refl _ _ | (refine Below.setCell ?_ (by first | (simp; done) | (simp; omega)) _) | (refine Below.alloc ?_ (by first | (simp; done) | (simp; omega)) _)))).mono ?_
  rintro e w' ⟨hb', v, bs', rfl, hR, hN⟩
  obtain ⟨Ad, cap, rfl, _, _⟩ := sliceK_form hR
  have hB : Below w.heap.size w w' := Below.trans (by repeat (first | exact Below.refl _ _ | (refine Below.setCell ?_ (by first | (simp; done) | (simp; omega)) _) | (refine Below.alloc ?_ (by first | (simp; done) | (simp; omega)) _))) (hb'.mono (by first | (simp; done) | (simp; omega)))
  have k0 : w'.cell? ⟨w.heap.size + 1 + 1, 0, none⟩ = some (.string a.name) := cell_later hb' (by go_simp)
  have k1 : w'.cell? ⟨w.heap.size + 1 + 1, 1, none⟩ = some (.slice none 0 0) := cell_later hb' (by go_simp)
  have k2 : w'.cell? ⟨w.heap.size + 1, 0, none⟩ = some (.string ⟨#[]⟩) := cell_later hb' (by go_simp)
  have k3 : w'.cell? ⟨w.heap.size + 1, 1, none⟩ = some (.slice none 0 0) := cell_later hb' (by go_simp)
  have f0 : w'.frozen? ⟨w.heap.size + 1 + 1, 1, none⟩ = false := (hb'.frozen (p := ⟨w.heap.size + 1 + 1, 1, none⟩) (by simp)).trans (by go_simp)
  have f1 : w'.frozen? ⟨w.heap.size + 1, 0, none⟩ = false := (hb'.frozen (p := ⟨w.heap.size + 1, 0, none⟩) (by simp)).trans (by go_simp)
  have f2 : w'.frozen? ⟨w.heap.size + 1, 1, none⟩ = false := (hb'.frozen (p := ⟨w.heap.size + 1, 1, none⟩) (by simp)).trans (by go_simp)
  have hge : ∀ b ∈ bs', w.heap.size + 1 + 1 < b := fun b hb => by have := (hN.own b hb).1; simp at this; omega
  go_wp2
  exact bodyPost_ret (v := .agg #[.string a.name, .slice Ad a.args.length cap]) (by simp [results, Try.results28, go_sem, k2, k3]) rfl
    ⟨((hB.setCell (by simp; omega) _).setCell (by simp) _).setCell (by simp) _, _, bs', rfl,
      ⟨_, rfl, hnm, termsK_good.keep hR fun b hb => by have := hge b hb; rw [Below.heap_setCell _ _ _ _ (by simp; omega), Below.heap_setCell _ _ _ _ (by simp; omega), Below.heap_setCell _ _ _ _ (by simp; omega)]⟩,
      (hN.keep fun b hb => by have := hge b hb; rw [Below.heap_setCell _ _ _ _ (by simp; omega), Below.heap_setCell _ _ _ _ (by simp; omega), Below.heap_setCell _ _ _ _ (by simp; omega)]).mono (by simp; omega)⟩

end Go.Proofs.Ytlmimajgifidhab
