/- A collection of one's own, all of whose blocks are new, as a slice: plain. -/
import Derived.Test.YtbcepahpehadeaaGreatDoorKind
namespace Go.Proofs.YtbcepahpehadeaaGreatDoor
open Go.RowKit D
set_option linter.unusedVariables false

theorem D.Coll.new {α : Type} {n : Nat} {R : Rel α} {base e : Nat} {w : World} {v : Value} {L : List Value} {xs : List α} {bs : List Nat} (h : Coll n R base e w v L xs bs) (hN : New base w bs) : ∃ b2, sliceK n R w [v] xs b2 ∧ New base w b2 := by
  obtain ⟨hown, ⟨h1, _, G, rfl, h3⟩, hfar⟩ := h
  have hown' := hown
  rcases hown.2 with ⟨rfl, hL⟩ | ⟨g, cap, cur, rfl, hg, hh, hc1, hc2, hc3⟩
  · have hx : xs = [] := by
      by_cases hne : xs = []
      · exact hne
      · exfalso
        have hpos : 0 < xs.length := List.length_pos_iff.2 hne
        first
          | (rw [hL] at hpos; omega)
          | omega
    subst hx
    exact ⟨[], ⟨none, 0, rfl, Nat.zero_le _, Nat.zero_le _, fun _ => rfl, fun h => absurd rfl h⟩, New.nil _ _⟩
  · by_cases hne : xs = []
    · subst hne
      exact ⟨[], ⟨_, cap, rfl, hc1, hc2, fun _ => rfl, fun h => absurd rfl h⟩, New.nil _ _⟩
    · refine ⟨g :: (List.range xs.length).flatMap G, ⟨_, cap, rfl, hc1, hc2, fun h => absurd h hne, fun _ => ⟨g, 0, rfl, fun k => (L.drop (k * n)).take n, G, rfl, fun k x hx => ?_⟩⟩, ?_⟩
      · obtain ⟨hkl, rfl⟩ := List.getElem?_eq_some_iff.1 hx
        have hmul : k * n + n ≤ xs.length * n := by
          have := Nat.mul_le_mul_right n (show k + 1 ≤ xs.length by omega)
          rw [Nat.add_mul, Nat.one_mul] at this; exact this
        refine ⟨by simp; omega, fun j v hv => ?_, h3 k hkl⟩
        have hjn : j < n := by
          have := (List.getElem?_eq_some_iff.1 hv).1
          simp at this; omega
        rw [List.getElem?_take_of_lt hjn, List.getElem?_drop] at hv
        rw [Nat.zero_add, hown'.cellAt (k * n + j) (by omega)]
        exact hv
      · refine ⟨List.nodup_cons.2 ⟨fun hm => hfar g hm rfl, hN.nodup⟩, fun b hb => ?_⟩
        rcases List.mem_cons.1 hb with rfl | hb
        · exact ⟨hg, cur, _, hh⟩
        · exact hN.own b hb

end Go.Proofs.YtbcepahpehadeaaGreatDoor
