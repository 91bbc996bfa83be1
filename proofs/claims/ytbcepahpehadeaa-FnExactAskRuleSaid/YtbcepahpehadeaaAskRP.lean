/- A rule that asks a body: plain. -/
import Derived.Test.YtbcepahpehadeaaVarP
import Derived.Test.YtbcepahpehadeaaVarsL
namespace Go.Proofs.Ytbcepahpehadeaa
open Go.RowKit D
set_option linter.unusedVariables false

def D.ruleZ : Ru := ⟨⟨⟨#[]⟩, []⟩, []⟩
def D.askRuleB (nm : ByteArray) (ps : List Pt) : Bool := nameOk nm && askOk ps && decide ((bodyVars ps).length ≤ 3)
/-- A body as a rule under a name, if that may be. -/
def D.askRuleV (nm : ByteArray) (ps : List Pt) : Ru × Bool := if askRuleB nm ps = true then (⟨headOf nm ps, ps⟩, true) else (ruleZ, false)
def D.ReadsRB (p : Ru × Bool) (B : Nat) (w : World) (e : Ending) (w' : World) : Prop := Below B w w' ∧ ∃ cs bs, e = .returned (.tuple #[.agg cs, .bool p.2]) ∧ ruleK w' cs.toList p.1 bs
def D.MakesRB (p : Ru × Bool) (B : Nat) (w : World) (e : Ending) (w' : World) : Prop := Below B w w' ∧ ∃ cs bs, e = .returned (.tuple #[.agg cs, .bool p.2]) ∧ ruleK w' cs.toList p.1 bs ∧ New B w' bs
theorem D.askV_no {nm : ByteArray} {ps : List Pt} (h : askRuleB nm ps = false) : askRuleV nm ps = (ruleZ, false) := by unfold askRuleV; rw [if_neg (by simp [h])]
theorem D.askV_yes {nm : ByteArray} {ps : List Pt} (h : askRuleB nm ps = true) : askRuleV nm ps = (⟨headOf nm ps, ps⟩, true) := by unfold askRuleV; rw [if_pos h]
theorem D.ruleZ_at (w : World) : ruleK w [.string ⟨#[]⟩, .slice none 0 0, .slice none 0 0] ruleZ [] :=
  ⟨_, _, [], [], rfl, Nat.zero_le _, rfl, ⟨none, 0, rfl, Nat.zero_le _, Nat.zero_le _, fun _ => rfl, fun h => absurd rfl h⟩, ⟨none, 0, rfl, Nat.zero_le _, Nat.zero_le _, fun _ => rfl, fun h => absurd rfl h⟩⟩
theorem D.makesRB_no {w W : World} (h : Below w.heap.size w W) : MakesRB (ruleZ, false) w.heap.size w (.returned (.tuple #[.agg #[.string ⟨#[]⟩, .slice none 0 0, .slice none 0 0], .bool false])) W := ⟨h, _, [], rfl, ruleZ_at W, New.nil _ _⟩
theorem D.readsRB_no {w W : World} (h : Below w.heap.size w W) : ReadsRB (ruleZ, false) w.heap.size w (.returned (.tuple #[.agg #[.string ⟨#[]⟩, .slice none 0 0, .slice none 0 0], .bool false])) W := ⟨h, _, [], rfl, ruleZ_at W⟩
theorem D.askV_cnt (nm : ByteArray) (ps : List Pt) : (askRuleV nm ps).1.head.args.length ≤ 3 ∧ (askRuleV nm ps).1.body.length ≤ 4 ∧ sumL (fun p => p.atom.args.length) (askRuleV nm ps).1.body ≤ 12 := by
  cases h : askRuleB nm ps
  · rw [askV_no h]; simp [ruleZ, sumL]
  · rw [askV_yes h]
    unfold askRuleB at h
    simp only [Bool.and_eq_true, decide_eq_true_eq] at h
    refine ⟨by simpa [headOf] using h.2, ?_, ask_sum h.1.2⟩
    have := h.1.2
    unfold askOk at this
    simp only [Bool.and_eq_true, decide_eq_true_eq] at this
    exact this.1.1.2

end Go.Proofs.Ytbcepahpehadeaa
