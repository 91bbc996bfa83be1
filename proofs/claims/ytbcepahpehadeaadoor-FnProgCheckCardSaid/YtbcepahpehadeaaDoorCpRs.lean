/- A copy of rules and one behind: append(append([]Rule{}, list...), r) in whatever order. -/
import Derived.Laws.EntriesVeiled
import Derived.WalkKit
import Derived.WalkSpells
import Derived.WalkLawsBesides
import Derived.Lib.Hide
import Derived.Deep.AppendLies
import Derived.Test.YtbcepahpehadeaaDoorProg
import Derived.Test.YtbcepahpehadeaaDoorKind
namespace Go.Proofs.YtbcepahpehadeaaDoor
open Go.RowKit D
set_option linter.unusedVariables false

theorem infoRuleC : (Tryd.prog.info? 40).map (fun i => (i.zero, i.size, i.bytes)) = some (some (.agg #[.string ⟨#[]⟩, .slice none 0 0, .slice none 0 0]), 3, 64) := by kernel_rfl
theorem step_cp1 {n cp : Nat} {w8 W1 : World} {xs : List Ru} {Av : Option Addr} {b0 : List Nat} {i0 : TypeInfo} (hi : Tryd.prog.info? 40 = some i0) (hz0 : i0.zero = some (.agg #[.string ⟨#[]⟩, .slice none 0 0, .slice none 0 0])) (hz1 : i0.size = 3) (hz2 : i0.bytes = 64)
    {ops : Array Oper} {o : Oper} {a : Act} {K : Act → World → Prop} {Q : Exit → Act → World → Prop} {E : Prop} (hgd : o.guard = none) (s x : Operand)
    (ho : o.op = .call { callee := .builtin .append, args := #[s, x], argTypes := #[25, 25] }) (b : Nat) (hs : a.eval s = .slice (some ⟨b, 0, none⟩) 0 0) (hE : W1.heap[b]? = some (.cells #[] 40 (0, 0))) (hb : w8.heap.size ≤ b)
    (H : rulesK w8 [.slice Av n cp] xs b0) (hx : a.eval x = .slice Av n cp) (hn : xs.length = n) (hB : Below w8.heap.size w8 W1) (hlen : n ≤ 100)
    (h : ∀ A cap w', (∃ L bs, Coll 3 ruleK w8.heap.size 40 w' (.slice A n cap) L xs bs ∧ (∀ b ∈ bs, b ∈ b0)) → Below w8.heap.size w8 w' → W1.grownBy w' (some b) → K (a.put o.dst (.slice A n cap)) w') : if Region.wanted o (yielded ops a.tmps) = true then Oper.wp Tryd.prog o a W1 K Q else E := by
  subst hn
  obtain ⟨L, bs, hrow, hsub, hlies⟩ := sliceK_row ruleK_ones (by omega) H
  refine step_coll hgd s x _ ho w8.heap.size 40 i0 _ 3 64 Tryd.underlying25 hi hz0 hz1 hz2 rfl (by omega) ruleK_good (.slice (some ⟨b, 0, none⟩) 0 0) 0 [] [] [] hs (Coll.empty hE hb) rfl Av xs.length cp L xs bs hx (hrow.below ruleK_good hB) rfl (row_lies hrow (by omega) hlies (rulesK_good.lt H) hB) (fun c hc => by
    have := hrow.lt ruleK_good c hc
    simp [Value.ownBlock]; omega) (by unfold maxLen; omega) (by omega) w8 w8.heap.size hB (Nat.le_refl _) hB.size fun A cap w' hCo hBe _ hG => ?_
  rw [Nat.zero_add] at *
  exact h A cap w' ⟨L, bs, by simpa using hCo, hsub⟩ hBe hG
theorem step_cp2 {n cp : Nat} {w8 W2 : World} {xs : List Ru} {Av : Option Addr} {i0 : TypeInfo} (hi : Tryd.prog.info? 40 = some i0) (hz0 : i0.zero = some (.agg #[.string ⟨#[]⟩, .slice none 0 0, .slice none 0 0])) (hz1 : i0.size = 3) (hz2 : i0.bytes = 64)
    {ops : Array Oper} {o : Oper} {a : Act} {K : Act → World → Prop} {Q : Exit → Act → World → Prop} {E : Prop} (hgd : o.guard = none) (s x : Operand)
    (ho : o.op = .call { callee := .builtin .append, args := #[s, x], argTypes := #[25, 25] }) {L : List Value} {bs : List Nat} (hs : a.eval s = .slice Av n cp) (hC : Coll 3 ruleK w8.heap.size 40 W2 (.slice Av n cp) L xs bs)
    (lb : Nat) (hx : a.eval x = .slice (some ⟨lb, 0, none⟩) 1 1) {c0 c1 c2 : Value} (hl : W2.heap[lb]? = some (.cells #[c0, c1, c2] 40 (0, 0))) {r : Ru} {br : List Nat} (hr : ruleK W2 [c0, c1, c2] r br) (hf : ∀ c ∈ br, (Value.slice Av n cp).ownBlock ≠ some c) (hn : xs.length = n) (hB : Below w8.heap.size w8 W2) (hlen : n ≤ 100)
    (h : ∀ A cap w', (∃ bq, rulesK w' [.slice A (n + 1) cap] (xs ++ [r]) bq) → Below w8.heap.size w8 w' → K (a.put o.dst (.slice A (n + 1) cap)) w') : if Region.wanted o (yielded ops a.tmps) = true then Oper.wp Tryd.prog o a W2 K Q else E := by
  subst hn
  refine step_coll hgd s x _ ho w8.heap.size 40 i0 _ 3 64 Tryd.underlying25 hi hz0 hz1 hz2 rfl (by omega) ruleK_good (.slice Av xs.length cp) xs.length L xs bs hs hC rfl (some ⟨lb, 0, none⟩) 1 1 _ [r] br hx (Rowed.one_el ruleK_ones hr) rfl (lies_block hl) hf (by unfold maxLen; omega) (by omega) w8 w8.heap.size hB (Nat.le_refl _) hB.size fun A cap w' hCo hBe _ hG => ?_
  obtain ⟨b2, hs2, _⟩ := hCo.slice
  exact h A cap w' ⟨b2, hs2⟩ hBe

end Go.Proofs.YtbcepahpehadeaaDoor
