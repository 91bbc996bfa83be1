/- The walks of the functions that compare two data (eq..): of two that read alike they say yes. -/
import Derived.Deep.RegionHeld3
import Derived.Deep.RegionWith
import Derived.BigQuiet
import Derived.Deep.DrawnRows
import Derived.WalkKit
import Derived.WalkSpells
import Derived.WalkLawsBesides
import Derived.Lib.Hide
import Derived.Lib.IndexBytes
import Derived.Deep.Slices
import Derived.Deep.Fields
import Derived.ChangeSame
import Derived.Deep.Draws
import Derived.Test.YtoekllcfmnnibaaDoorProg
import Derived.Test.YtoekllcfmnnibaaDoorEqA
import Derived.Test.YtoekllcfmnnibaaDoorSz
import Derived.Test.YtoekllcfmnnibaaDoorTo
namespace Go.Proofs.YtoekllcfmnnibaaDoor
open Go.RowKit D
set_option linter.unusedVariables false
attribute [local go_sem ↓] Go.wp_at_zero Go.wp_at_succ

set_option maxHeartbeats 400000 in
theorem szAtom_any (a : A) (c0 c1 : Value) (bs : List Nat) (left : Int) (w : World) (h : atomK w [c0, c1] a bs) (h0 : 0 ≤ left) (h1 : left ≤ 1048576) :
    Calls Tryd.prog 9 #[.agg #[c0, c1], .int .i64 left] w (Left left (bulkA a) w.heap.size w) := by
  obtain ⟨s1, hcs, hnm, ht⟩ := h
  simp only [List.cons.injEq, and_true] at hcs
  obtain ⟨rfl, rfl⟩ := hcs
  have hq := fun w' (hb : Below w.heap.size w w') (h0 : 0 ≤ left - (a.name.size : Int)) => szTermS_any a.args c1 bs (left - (a.name.size : Int)) w' (termsK_good.below ht hb) h0 (by omega)
  have hbk : bulkA a = a.name.size + a.args.length + bulkTs a.args := rfl
  have HB := Lib.hid hbk
  have hnm' := nat_ge_max hnm
  clear ht hbk hnm
  go_enter Tryd.func9, Tryd.ntmps9
  go_wp2_with fail
  · go_ret
    exact ⟨(Below.refl _ _).alloc (Nat.le_refl _) _, _, rfl, .inl rfl⟩
  · refine (hq _ ((Below.refl _ _).alloc (Nat.le_refl _) _) (by assumption)).mono ?_
    rintro e w' ⟨hb', r, rfl, hr⟩
    have hB : Below w.heap.size w w' := ((Below.refl _ _).alloc (Nat.le_refl _) _).trans (hb'.mono (by simp))
    go_wp2
    · rcases hr with rfl | ⟨_, _⟩
      · go_ret
        exact ⟨hB, _, rfl, .inl rfl⟩
      · exfalso; omega
    · rcases hr with rfl | ⟨hr0, hr1⟩
      · exfalso; omega
      · go_ret
        have := HB.out
        exact ⟨hB, _, rfl, .inr ⟨hr0, by omega⟩⟩

set_option maxHeartbeats 400000 in
theorem toAtom_any (a : A) (c0 c1 : Value) (bs : List Nat) (w : World) (h : atomK w [c0, c1] a bs) (hn : a.args.length ≤ 1048576) :
    Calls Tryd.prog 13 #[.agg #[c0, c1]] w (MakesA atomK a w.heap.size w) := by
  obtain ⟨s1, hcs, hnm, ht⟩ := h
  simp only [List.cons.injEq, and_true] at hcs
  obtain ⟨rfl, rfl⟩ := hcs
  have hq := fun w' (hb : Below w.heap.size w w') => toTermS_any a.args c1 bs w' (termsK_good.below ht hb) hn
  clear ht
  go_enter Tryd.func13, Tryd.ntmps13
  go_wp2_with fail
  refine (hq _ (by repeat (first | exact Below.refl _ _ | (refine Below.setCell ?_ (by first | (simp; done) | (simp; omega)) _) | (refine Below.alloc ?_ (by first | (simp; done) | (simp; omega)) _)))).mono ?_
  rintro e w' ⟨hb', v, bs', rfl, hR, hN⟩
  obtain ⟨Ad, cap, rfl, _, _⟩ := sliceK_form hR
  have hB : Below w.heap.size w w' := Below.trans (by repeat (first | exact Below.refl _ _ | (refine Below.setCell ?_ (by first | (simp; done) | (simp; omega)) _) | (refine Below.alloc ?_ (by first | (simp; done) | (simp; omega)) _))) (hb'.mono (by first | (simp; done) | (simp; omega)))
  have k0 : w'.cell? ⟨w.heap.size + 1 + 1, 0, none⟩ = some (.string a.name) := cell_later hb' (by go_simp)
  have k1 : w'.cell? ⟨w.heap.size + 1 + 1, 1, none⟩ = some (.slice none 0 0) := cell_later hb' (by go_simp)
  have k2 : w'.cell? ⟨w.heap.size + 1, 0, none⟩ = some (.string ⟨#[]⟩) := cell_later hb' (by go_simp)
  have k3 : w'.cell? ⟨w.heap.size + 1, 1, none⟩ = some (.slice none 0 0) := cell_later hb' (by go_simp)
  have f0 : w'.frozen? ⟨w.heap.size + 1 + 1, 1, none⟩ = false := (hb'.frozen (p := ⟨w.heap.size + 1 + 1, 1, none⟩) (by simp)).trans (by go_simp)
  have f1 : w'.frozen? ⟨w.heap.size + 1, 0, none⟩ = false := (hb'.frozen (p := ⟨w.heap.size + 1, 0, none⟩) (by simp)).trans (by go_simp)
  have f2 : w'.frozen? ⟨w.heap.size + 1, 1, none⟩ = false := (hb'.frozen (p := ⟨w.heap.size + 1, 1, none⟩) (by simp)).trans (by go_simp)
  have hge : ∀ b ∈ bs', w.heap.size + 1 + 1 < b := fun b hb => by have := (hN.own b hb).1; simp at this; omega
  go_wp2
  exact bodyPost_ret (v := .agg #[.string a.name, .slice Ad a.args.length cap]) (by simp [results, Tryd.results13, go_sem, k2, k3]) rfl
    ⟨((hB.setCell (by simp; omega) _).setCell (by simp) _).setCell (by simp) _, _, bs', rfl,
      ⟨_, rfl, hnm, termsK_good.keep hR fun b hb => by have := hge b hb; rw [Below.heap_setCell _ _ _ _ (by simp; omega), Below.heap_setCell _ _ _ _ (by simp; omega), Below.heap_setCell _ _ _ _ (by simp; omega)]⟩,
      (hN.keep fun b hb => by have := hge b hb; rw [Below.heap_setCell _ _ _ _ (by simp; omega), Below.heap_setCell _ _ _ _ (by simp; omega), Below.heap_setCell _ _ _ _ (by simp; omega)]).mono (by simp; omega)⟩

end Go.Proofs.YtoekllcfmnnibaaDoor
