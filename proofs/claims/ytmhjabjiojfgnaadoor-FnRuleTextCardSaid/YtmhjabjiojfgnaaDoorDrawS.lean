/- Sizes of drawn parts and rules: plain. -/
import Derived.Test.YtmhjabjiojfgnaaDoorDrawB
import Derived.Test.YtmhjabjiojfgnaaDoorRTxtP
namespace Go.Proofs.YtmhjabjiojfgnaaDoor
open Go.RowKit D
set_option linter.unusedVariables false

/-- A drawn text. -/
def TextR (m : Nat) (w : World) (e : Ending) (w' : World) : Prop := ∃ t : ByteArray, e = .returned (.string t) ∧ t.size ≤ m ∧ Below w.heap.size w w'
theorem D.small_bulk2 : ∀ (ts : List T), (∀ t ∈ ts, t.name.size ≤ 16) → bulkTs ts ≤ 16 * ts.length
  | [], _ => by simp [bulkTs]
  | t :: ts, h => by
    have h1 := h t (List.mem_cons_self ..)
    have h2 := small_bulk2 ts fun x hx => h x (List.mem_cons_of_mem _ hx)
    unfold bulkTs at *
    simp only [List.map_cons, List.sum_cons, List.length_cons] at *
    omega
theorem D.small_atom2 {a : A} {k : Nat} (h1 : a.name.size ≤ 16) (h2 : a.args.length ≤ k) (h3 : ∀ t ∈ a.args, t.name.size ≤ 16) : bulkA a ≤ 16 + 17 * k := by
  have := small_bulk2 a.args h3
  unfold bulkA
  omega
theorem D.body_sum : ∀ {xs : List Pt}, (∀ x ∈ xs, PtS x) → sumL bulkPt xs ≤ 84 * xs.length
  | [], _ => by simp [sumL]
  | x :: xs, h => by
    have h1 := h x (List.mem_cons_self ..)
    have h2 := body_sum (xs := xs) fun y hy => h y (List.mem_cons_of_mem _ hy)
    have h3 := small_atom2 h1.1 h1.2.1 h1.2.2
    have h4 : bulkPt x = bulkA x.atom := rfl
    simp only [sumL, List.map_cons, List.sum_cons, List.length_cons] at *
    omega
theorem D.body_bulk {xs : List Pt} (h : ∀ x ∈ xs, PtS x) : bulkPts xs ≤ 85 * xs.length := by
  have := body_sum h
  unfold bulkPts
  omega
theorem D.bodyL_small (xs : List Pt) (h : ∀ x ∈ xs, PtS x) : (bodyL xs).length ≤ 95 * xs.length := by
  have h1 := sepL_le andL partL bulkPt 6 partL_le xs
  have h2 := body_sum h
  have e : andL.length = 5 := rfl
  rw [e] at h1
  unfold bodyL
  omega
theorem D.ruleL_small (a : A) (xs : List Pt) (h1 : a.name.size ≤ 16) (h2 : a.args.length ≤ 3) (h3 : ∀ t ∈ a.args, t.name.size ≤ 16) (h : ∀ x ∈ xs, PtS x) : (ruleL ⟨a, xs⟩).length ≤ 75 + 95 * xs.length := by
  have h4 := bodyL_small xs h
  have h5 := small_atom2 h1 h2 h3
  have h6 := putL_le a
  unfold ruleL
  have e : ifL.length = 4 := rfl
  split <;> simp only [List.length_append, List.length_nil, e] <;> omega

end Go.Proofs.YtmhjabjiojfgnaaDoor
