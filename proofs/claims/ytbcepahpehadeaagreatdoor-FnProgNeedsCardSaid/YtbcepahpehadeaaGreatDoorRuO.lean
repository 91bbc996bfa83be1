/- Drawn rules that lie in memory. -/
import Derived.WalkKit
import Derived.Lib.Hide
import Derived.Test.YtbcepahpehadeaaGreatDoorRsInv
namespace Go.Proofs.YtbcepahpehadeaaGreatDoor
open Go.RowKit D
set_option linter.unusedVariables false

/-- Drawn rules that lie in memory. -/
def RulesO (m : Nat) (w : World) (e : Ending) (w' : World) : Prop := ∃ (xs : List Ru) (A : Option Addr) (c : Nat) (bs : List Nat), e = .returned (.slice A xs.length c) ∧ rulesK w' [.slice A xs.length c] xs bs ∧ xs.length ≤ m ∧ (∀ x ∈ xs, RuS x) ∧ Below w.heap.size w w'
theorem rulesO_of {m g q : Nat} {w w1 w2 : World} {xs : List Ru} {v : Value} (hb : Below w.heap.size w w1) (hg : g = w.heap.size) (hx : xs.length ≤ m) (hI : RsInv g q w1 xs v w2) : RulesO m w (.returned v) w2 := by
  obtain ⟨A, c, rfl⟩ := hI.shape
  obtain ⟨bs, hr, _⟩ := hI.rules
  exact ⟨xs, A, c, bs, rfl, hr, hx, hI.small, hb.trans (hI.kept.below (B := w.heap.size) (fun b hb => by simp at hb; omega) hb.size)⟩
theorem D.small_zz {xs : List Ru} (h : ∀ x ∈ xs, RuS x) {r : Ru} (hr : r ∈ xs) {a : A} (ha : a = r.head ∨ ∃ p ∈ r.body, a = p.atom) : a.name.data.toList ≠ [122, 122, 122] := by
  obtain ⟨h1, h2, h3⟩ := h r hr
  rcases ha with rfl | ⟨p, hp, rfl⟩
  · exact h1.1.2.1
  · exact (h3 p hp).1.2.1

end Go.Proofs.YtbcepahpehadeaaGreatDoor
