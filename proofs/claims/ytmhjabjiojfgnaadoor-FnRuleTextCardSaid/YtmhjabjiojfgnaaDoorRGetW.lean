/- What is read from a text of a rule: words of results; a row from a place on: plain. -/
import Derived.Test.YtmhjabjiojfgnaaDoorAGetW
import Derived.Test.YtmhjabjiojfgnaaDoorWordP
import Derived.Test.YtmhjabjiojfgnaaDoorCollN
namespace Go.Proofs.YtmhjabjiojfgnaaDoor
open Go.RowKit D
set_option linter.unusedVariables false

def D.zeroR : Ru := ⟨zeroA, []⟩
/-- A rule and a yes or no: read; in new memory. -/
def D.ReadsRu (o : Option Ru) (B : Nat) (w : World) (e : Ending) (w' : World) : Prop := Below B w w' ∧ ∃ cs bs, e = .returned (.tuple #[.agg cs, .bool o.isSome]) ∧ ruleK w' cs.toList (o.getD zeroR) bs
def D.MakesRu (o : Option Ru) (B : Nat) (w : World) (e : Ending) (w' : World) : Prop := Below B w w' ∧ ∃ cs bs, e = .returned (.tuple #[.agg cs, .bool o.isSome]) ∧ ruleK w' cs.toList (o.getD zeroR) bs ∧ New B w' bs
/-- Parts and a yes or no. -/
def D.ReadsPs (o : Option (List Pt)) (B : Nat) (w : World) (e : Ending) (w' : World) : Prop := Below B w w' ∧ ∃ v bs, e = .returned (.tuple #[v, .bool o.isSome]) ∧ partsK w' [v] (o.getD []) bs
def D.MakesPs (o : Option (List Pt)) (B : Nat) (w : World) (e : Ending) (w' : World) : Prop := Below B w w' ∧ ∃ v bs, e = .returned (.tuple #[v, .bool o.isSome]) ∧ partsK w' [v] (o.getD []) bs ∧ New B w' bs
/-- Parts, where there are some. -/
def D.WordsPs (o : Option (List Pt)) (B : Nat) (w : World) (e : Ending) (w' : World) : Prop := Below B w w' ∧ ∃ A n c, e = .returned (.tuple #[.slice A n c, .bool o.isSome]) ∧ ∀ ps, o = some ps → ∃ bs, partsK w' [.slice A n c] ps bs ∧ ∀ b ∈ bs, B ≤ b

theorem D.sliceK_drop {α : Type} {n : Nat} {R : Rel α} {w : World} {b o len cap : Nat} {xs : List α} {bs : List Nat} (h : sliceK n R w [.slice (some ⟨b, o, none⟩) len cap] xs bs) {j : Nat} (hj : j ≤ xs.length) :
    ∃ b2, sliceK n R w [.slice (some ⟨b, o + j * n, none⟩) (len - j) (cap - j)] (xs.drop j) b2 ∧ ∀ x ∈ b2, x ∈ bs := by
  obtain ⟨Ad, cap', hcs, hl, hm, h0, h1⟩ := h
  simp only [List.cons.injEq, Value.slice.injEq, and_true] at hcs
  obtain ⟨rfl, rfl, rfl⟩ := hcs
  by_cases hne : xs.drop j = []
  · refine ⟨[], ⟨_, _, by rw [hne, show xs.length - j = 0 by have := congrArg List.length hne; simp at this; omega]; rfl, by rw [hne]; exact Nat.zero_le _, by omega, fun _ => rfl, fun h => absurd hne h⟩, fun x hx => by simp at hx⟩
  · have hlt : j < xs.length := by
      refine Nat.lt_of_not_le fun h => hne (List.drop_of_length_le h)
    obtain ⟨b', o', he, F, G, rfl, hF⟩ := h1 (by intro e; subst e; simp at hlt)
    simp only [Option.some.injEq, Addr.mk.injEq, and_true] at he
    obtain ⟨rfl, rfl⟩ := he
    have hlen : (xs.drop j).length = xs.length - j := List.length_drop
    refine ⟨b :: (List.range (xs.drop j).length).flatMap (fun k => G (j + k)), ⟨_, _, by rw [hlen], by rw [hlen]; omega, by omega, fun h => absurd h hne, fun _ => ⟨b, o + j * n, rfl, fun k => F (j + k), fun k => G (j + k), rfl, fun k x hx => ?_⟩⟩, ?_⟩
    · rw [List.getElem?_drop] at hx
      obtain ⟨a1, a2, a3⟩ := hF (j + k) x hx
      refine ⟨a1, fun i v hv => ?_, a3⟩
      have := a2 i v hv
      rw [Nat.add_mul] at this
      rw [show o + j * n + (k * n + i) = o + (j * n + k * n + i) by omega]
      exact this
    · intro x hx
      rcases List.mem_cons.1 hx with rfl | hx
      · exact List.mem_cons_self ..
      · obtain ⟨k, hk, hxk⟩ := List.mem_flatMap.1 hx
        have hk' := List.mem_range.1 hk
        exact List.mem_cons_of_mem _ (List.mem_flatMap.2 ⟨j + k, List.mem_range.2 (by omega), hxk⟩)

end Go.Proofs.YtmhjabjiojfgnaaDoor
