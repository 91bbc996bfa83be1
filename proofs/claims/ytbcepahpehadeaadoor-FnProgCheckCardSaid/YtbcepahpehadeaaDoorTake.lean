/- The first elements of a slice. -/
import Derived.WalkKit
import Derived.Test.YtbcepahpehadeaaDoorKind
namespace Go.Proofs.YtbcepahpehadeaaDoor
open Go.RowKit D
set_option linter.unusedVariables false

theorem D.sliceK_take {α : Type} {n : Nat} {R : Rel α} {w : World} {A : Option Addr} {l cap k : Nat} {xs : List α} {bs : List Nat} (h : sliceK n R w [.slice A l cap] xs bs) (hk : k ≤ xs.length) : ∃ b2, sliceK n R w [.slice A k cap] (xs.take k) b2 ∧ ∀ c ∈ b2, c ∈ bs := by
  obtain ⟨Ad', cap', hcs, hl, hm, h0, h1⟩ := h
  simp only [List.cons.injEq, Value.slice.injEq, and_true] at hcs
  obtain ⟨rfl, rfl, rfl⟩ := hcs
  have hlen : (xs.take k).length = k := by rw [List.length_take]; omega
  by_cases hx : xs.take k = []
  · have : k = 0 := by rw [hx] at hlen; simpa using hlen.symm
    subst this
    exact ⟨[], ⟨A, cap, by simp, by simp, hm, fun _ => rfl, fun hne => absurd (by simp) hne⟩, fun c hc => by simp at hc⟩
  · have hne : xs ≠ [] := fun e => hx (by rw [e]; simp)
    obtain ⟨b, o, rfl, F, G, rfl, hF⟩ := h1 hne
    refine ⟨b :: (List.range (xs.take k).length).flatMap G, ⟨_, cap, by rw [hlen], by omega, hm, fun e => absurd e hx, fun _ => ⟨b, o, rfl, F, G, rfl, fun j x hj => hF j x ?_⟩⟩, fun c hc => ?_⟩
    rotate_left
    · rcases List.mem_cons.1 hc with rfl | hc
      · exact List.mem_cons_self ..
      · obtain ⟨j, hj, hc⟩ := List.mem_flatMap.1 hc
        exact List.mem_cons_of_mem _ (List.mem_flatMap.2 ⟨j, List.mem_range.2 (by have := List.mem_range.1 hj; omega), hc⟩)
    have hjk : j < (xs.take k).length := (List.getElem?_eq_some_iff.1 hj).1
    rw [List.getElem?_take_of_lt (by omega)] at hj
    exact hj

end Go.Proofs.YtbcepahpehadeaaDoor
