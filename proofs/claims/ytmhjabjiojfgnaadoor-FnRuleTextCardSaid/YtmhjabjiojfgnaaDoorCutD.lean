/- The walk of l10Cut. -/
import Derived.Laws.EntriesVeiled
import Derived.Deep.RegionHeld3
import Derived.Deep.RegionWith
import Derived.Deep.RegionLaw
import Derived.BigQuiet
import Derived.Deep.QuietTactic
import Derived.Deep.DrawnRows
import Derived.Deep.DeepFit
import Derived.WalkKit
import Derived.WalkSpells
import Derived.WalkLawsBesides
import Derived.Lib.Hide
import Derived.Test.YtmhjabjiojfgnaaDoorDraw2
namespace Go.Proofs.YtmhjabjiojfgnaaDoor
open Go.RowKit D
set_option linter.unusedVariables false
attribute [local go_sem ↓] Go.wp_at_zero Go.wp_at_succ

/-- What a drawn text leaves. -/
def TextD (m g p q : Nat) (w : World) (e : Ending) (w' : World) : Prop := ∃ (t : ByteArray) (p' : Nat), e = .returned (.string t) ∧ t.size ≤ m ∧ Rdr g p' w' ∧ p' ≤ p + q ∧ KeptBut [g] w w'
def D.spoils : List ByteArray := [⟨#[40]⟩, ⟨#[41]⟩, ⟨#[44]⟩, ⟨#[32]⟩, ⟨#[120]⟩, ⟨#[88]⟩, ⟨#[110, 111, 116, 32]⟩, ⟨#[32, 97, 110, 100, 32]⟩, ⟨#[10]⟩, ⟨#[49]⟩, ⟨#[43]⟩, ⟨#[45]⟩]
set_option maxRecDepth 100000 in
set_option maxHeartbeats 1000000 in
theorem l10Cut_any (g p : Nat) (s : ByteArray) (w : World) (h : Rdr g p w) (hp : p ≤ 900000) (hs : s.size ≤ 1000) :
    Calls Tryd.prog 51 #[.pointer (some ⟨g, 0, none⟩), .string s] w (TextD (s.size + 16) g p 3 w) := by
  have hp1 := pick_any g p ((s.size : Int) + 1) w h (by omega) (by omega) (by omega)
  have hs9 : (s.size : Int) ≤ 1000 := by omega
  go_enter Tryd.func51, Tryd.ntmps51
  go_wp2_with fail
  refine hp1.mono ?_
  rintro e w1 ⟨k, rfl, hk, hR1, hG1⟩
  have hp2 := pick_any g (p + 1) 5 w1 hR1 (by omega) (by omega) (by omega)
  clear hp1
  go_wp2_with fail
  refine hp2.mono ?_
  rintro e w2 ⟨j, rfl, hj, hR2, hG2⟩
  have HK := Lib.hid ((KeptBut.of_grown hG1).trans (KeptBut.of_grown hG2))
  have hk0 : (0 : Int) ≤ (k : Int) := by omega
  have hk1 : (k : Int) ≤ (s.size : Int) := by omega
  have hz1 : (s.extract 0 k).size ≤ s.size := by rw [ByteArray.size_extract]; omega
  have hz2 : (s.extract k s.size).size ≤ s.size := by rw [ByteArray.size_extract]; omega
  have hz3 : (s.extract 0 k).size + (s.extract k s.size).size ≤ s.size := by rw [ByteArray.size_extract, ByteArray.size_extract]; omega
  clear hp2 hG1 hG2 hR1 hk h
  by_cases hj0 : j = 0
  · subst hj0
    have ho : Calls Tryd.prog 53 #[.pointer (some ⟨g, 0, none⟩), .slice (some ⟨w2.heap.size, 0, none⟩) 12 12] (w2.alloc (.cells #[.string ⟨#[40]⟩, .string ⟨#[41]⟩, .string ⟨#[44]⟩, .string ⟨#[32]⟩, .string ⟨#[120]⟩, .string ⟨#[88]⟩, .string ⟨#[110, 111, 116, 32]⟩, .string ⟨#[32, 97, 110, 100, 32]⟩, .string ⟨#[10]⟩, .string ⟨#[49]⟩, .string ⟨#[43]⟩, .string ⟨#[45]⟩] 9)).drew (Word g (p + 2) w2) := by
      have h1 := of_lit g (p + 2) spoils 12 w2.drew hR2.drew (by omega) rfl (by decide) (by decide) (by decide)
      refine h1.mono ?_
      rintro e w' ⟨s1, e1, e2, e3, e4⟩
      exact ⟨s1, e1, e2, e3, (KeptBut.of_below (Below.drew (Below.refl _ _))).trans e4⟩
    have HO := Lib.hid ho
    clear ho
    go_wp2
    go_region_law
      (first | (go_simp; go_at_call 53; refine HO.out.mono ?_; rintro e w3 ⟨s1, rfl, hs1, hR3, hK3⟩; have t1 : ¬ 9223372036854775807 < min k s.size + s1.size := (by omega); have t2 : ¬ 9223372036854775807 < min k s.size + s1.size + (s.size - k) := (by omega)))
    have hs1' : s1.size ≤ 16 := hs1
    go_wp2
    go_ret
    exact ⟨_, p + 3, rfl, by simp [ByteArray.size_append]; omega, hR3, by omega, HK.out.trans hK3⟩
  · have hji0 : ((j : Int) == 0) = false := beq_eq_false_iff_ne.2 (by omega)
    by_cases hj1 : j = 1
    · subst hj1
      go_wp2
      go_ret
      exact ⟨_, p + 2, rfl, by omega, hR2, by omega, HK.out⟩
    · have hji1 : ((j : Int) == 1) = false := beq_eq_false_iff_ne.2 (by omega)
      go_wp2
      go_ret
      exact ⟨_, p + 2, rfl, by omega, hR2, by omega, HK.out⟩

end Go.Proofs.YtmhjabjiojfgnaaDoor
