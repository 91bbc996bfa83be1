/- The reader's block is no block of terms: plain. -/
import Derived.Test.YtbcepahpehadeaaGreatDoorPick
namespace Go.Proofs.YtbcepahpehadeaaGreatDoor
open Go.RowKit D
set_option linter.unusedVariables false

/-- A block whose cells are neither texts nor yes or no. -/
def D.NoSB (w : World) (n0 : Nat) : Prop := ∀ o u, w.cell? ⟨n0, o, none⟩ = some u → (∀ s, u ≠ .string s) ∧ ∀ b, u ≠ .bool b
theorem Rdr.noSB {g p : Nat} {w : World} (h : Rdr g p w) : NoSB w g := by
  obtain ⟨Ad, n, cap, hg, _, _⟩ := h
  intro o u hu
  rw [cell_of_blk hg] at hu
  match o with
  | 0 => simp at hu; subst hu; exact ⟨fun s => by simp, fun b => by simp⟩
  | 1 => simp at hu; subst hu; exact ⟨fun s => by simp, fun b => by simp⟩
  | o + 2 => simp at hu
theorem D.terms_apartN {w : World} {n0 : Nat} (ha : NoSB w n0) {v : Value} {ts : List T} {bs : List Nat} (h : termsK w [v] ts bs) : n0 ∉ bs := by
  intro hb
  obtain ⟨Ad, cap, hcs, hl, hm, g0, g1⟩ := h
  by_cases hne : ts = []
  · rw [g0 hne] at hb; simp at hb
  · obtain ⟨b, o, rfl, F, G, rfl, hF⟩ := g1 hne
    rcases List.mem_cons.1 hb with rfl | hb
    · match ts, hne with
      | y :: r, _ =>
        obtain ⟨a1, a2, a3⟩ := hF 0 y rfl
        obtain ⟨e, _, _⟩ := a3
        have := a2 0 (.bool y.var) (by rw [e]; rfl)
        exact (ha _ _ this).2 _ rfl
    · obtain ⟨k, hk, hck⟩ := List.mem_flatMap.1 hb
      have hkl := List.mem_range.1 hk
      obtain ⟨a1, a2, a3⟩ := hF k ts[k] (List.getElem?_eq_getElem hkl)
      obtain ⟨_, _, e⟩ := a3
      rw [e] at hck; simp at hck
theorem D.rowedP_apart {w : World} {n0 : Nat} (ha : NoSB w n0) {L : List Value} {xs : List Pt} {bs : List Nat} (h : Rowed 3 partK w L xs bs) : n0 ∉ bs := by
  obtain ⟨h1, h2, G, rfl, h3⟩ := h
  intro hb
  obtain ⟨j, hj, hc⟩ := List.mem_flatMap.1 hb
  obtain ⟨s, _, _, ht⟩ := h3 j (List.mem_range.1 hj)
  exact terms_apartN ha ht hc

end Go.Proofs.YtbcepahpehadeaaGreatDoor
