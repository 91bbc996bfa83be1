/- Drawn rules under way. -/
import Derived.Laws.EntriesVeiled
import Derived.WalkKit
import Derived.WalkSpells
import Derived.WalkLawsBesides
import Derived.Lib.Hide
import Derived.Deep.AppendLies
import Derived.Test.YtbcepahpehadeaaGreatDoorDrawB
import Derived.Test.YtbcepahpehadeaaGreatDoorEdge
namespace Go.Proofs.YtbcepahpehadeaaGreatDoor
open Go.RowKit D
set_option linter.unusedVariables false

theorem infoRuleD : (Tryz.prog.info? 51).map (fun i => (i.zero, i.size, i.bytes)) = some (some (.agg #[.string ⟨#[]⟩, .slice none 0 0, .slice none 0 0]), 3, 64) := by kernel_rfl
/-- A small atom, a small rule. -/
def D.AtS (a : A) : Prop := Sm a.name ∧ a.args.length ≤ 4 ∧ ∀ t ∈ a.args, Sm t.name
def D.RuS (r : Ru) : Prop := AtS r.head ∧ r.body.length ≤ 8 ∧ ∀ x ∈ r.body, PtS x
/-- Drawn rules under way: a list in memory of the draw's own. -/
structure RsInv (g p : Nat) (w : World) (xs : List Ru) (v : Value) (wr : World) : Prop where
  coll : ∃ L bs, Coll 3 ruleK w.heap.size 51 wr v L xs bs ∧ ∀ b ∈ bs, w.heap.size ≤ b
  small : ∀ x ∈ xs, RuS x
  rdr : Rdr g p wr
  kept : KeptBut [g] w wr
  glt : g < w.heap.size
section
variable {g p : Nat} {w : World} {xs : List Ru} {v : Value} {wr : World}
theorem RsInv.call {p2 : Nat} {w2 : World} (h : RsInv g p w xs v wr) (hR : Rdr g p2 w2) (hK : KeptBut [g] wr w2) : RsInv g p2 w xs v w2 := by
  obtain ⟨L, bs, hC, hbb⟩ := h.coll
  exact ⟨⟨L, bs, hC.keptG ruleK_good hK h.glt (fun hg => by have := hbb g hg; have := h.glt; omega), hbb⟩, h.small, hR, h.kept.trans hK, h.glt⟩
theorem RsInv.below {w2 : World} (h : RsInv g p w xs v wr) (hB : Below wr.heap.size wr w2) : RsInv g p w xs v w2 := by
  obtain ⟨L, bs, hC, hbb⟩ := h.coll
  exact ⟨⟨L, bs, hC.below ruleK_good hB, hbb⟩, h.small, h.rdr.below hB, h.kept.belowN hB h.kept.size, h.glt⟩
theorem RsInv.rules (h : RsInv g p w xs v wr) : ∃ bs, rulesK wr [v] xs bs ∧ ∀ b ∈ bs, w.heap.size ≤ b := by
  obtain ⟨L, bs, hC, hbb⟩ := h.coll
  obtain ⟨b2, hs, h2⟩ := hC.slice
  exact ⟨b2, hs, fun b hb => (h2 b hb).elim id (hbb b)⟩
theorem RsInv.shape (h : RsInv g p w xs v wr) : ∃ A c, v = .slice A xs.length c := by
  obtain ⟨L, bs, hC, _⟩ := h.coll
  exact own_shape hC.own
theorem RsInv.start (hg : g < w.heap.size) (hR : Rdr g p w) : RsInv g p w [] (.slice (some ⟨w.heap.size, 0, none⟩) 0 0) (w.alloc (.cells #[] 51)) := by
  have hA : Below w.heap.size w (w.alloc (.cells #[] 51)) := (Below.refl _ _).alloc (Nat.le_refl _) _
  exact ⟨⟨[], [], Coll.empty (heap_alloc_new _ _) (Nat.le_refl _), fun b hb => by simp at hb⟩, fun x hx => by simp at hx, hR.below hA, KeptBut.of_below hA, hg⟩
/-- A rule stands in memory from the list's world on: what the append of it wants. -/
theorem RsInv.arm {r : Ru} {c0 c1 c2 : Value} {br : List Nat} {W : World} (h : RsInv g p w xs v wr) (hB : Below wr.heap.size wr W) (hr : ruleK W [c0, c1, c2] r br) (hbr : ∀ b ∈ br, wr.heap.size ≤ b) :
    ∃ L bs, Coll 3 ruleK w.heap.size 51 (W.alloc (.cells #[c0, c1, c2] 51)) v L xs bs ∧ (∀ b ∈ bs ++ br, w.heap.size ≤ b) ∧ Rowed 3 ruleK (W.alloc (.cells #[c0, c1, c2] 51)) [c0, c1, c2] [r] br ∧
      Lies (W.alloc (.cells #[c0, c1, c2] 51)) (some ⟨W.heap.size, 0, none⟩) [c0, c1, c2] ∧ (∀ b ∈ br, v.ownBlock ≠ some b) ∧ Below w.heap.size wr (W.alloc (.cells #[c0, c1, c2] 51)) ∧ w.heap.size ≤ (W.alloc (.cells #[c0, c1, c2] 51)).heap.size := by
  obtain ⟨L, bs, hC, hbb⟩ := h.coll
  have hA : Below W.heap.size W (W.alloc (.cells #[c0, c1, c2] 51)) := (Below.refl _ _).alloc (Nat.le_refl _) _
  have hs := h.kept.size
  have hs2 := hB.size
  have hT : Below wr.heap.size wr (W.alloc (.cells #[c0, c1, c2] 51)) := hB.trans (hA.mono hs2)
  exact ⟨L, bs, hC.below ruleK_good hT, fun b hb => (List.mem_append.1 hb).elim (hbb b) (fun hb => by have := hbr b hb; omega), Rowed.one_el ruleK_ones (ruleK_good.below hr hA), lies_block (heap_alloc_new _ _), fun b hb => own_block_lt hC.own (hbr b hb), hT.mono hs, by simp; omega⟩
theorem RsInv.far (h : RsInv g p w xs v wr) {b : Nat} (hb : wr.heap.size ≤ b) : v.ownBlock ≠ some b := by
  obtain ⟨L, bs, hC, hbb⟩ := h.coll
  exact own_block_lt hC.own hb
/-- The same, the rule's blocks told apart from the list's. -/
theorem RsInv.arm2 {r : Ru} {c0 c1 c2 : Value} {br : List Nat} {W : World} (h : RsInv g p w xs v wr) (hB : Below wr.heap.size wr W) (hr : ruleK W [c0, c1, c2] r br) (hbr : ∀ b ∈ br, w.heap.size ≤ b ∧ v.ownBlock ≠ some b) :
    ∃ L bs, Coll 3 ruleK w.heap.size 51 (W.alloc (.cells #[c0, c1, c2] 51)) v L xs bs ∧ (∀ b ∈ bs ++ br, w.heap.size ≤ b) ∧ Rowed 3 ruleK (W.alloc (.cells #[c0, c1, c2] 51)) [c0, c1, c2] [r] br ∧
      Lies (W.alloc (.cells #[c0, c1, c2] 51)) (some ⟨W.heap.size, 0, none⟩) [c0, c1, c2] ∧ (∀ b ∈ br, v.ownBlock ≠ some b) ∧ Below w.heap.size wr (W.alloc (.cells #[c0, c1, c2] 51)) ∧ w.heap.size ≤ (W.alloc (.cells #[c0, c1, c2] 51)).heap.size := by
  obtain ⟨L, bs, hC, hbb⟩ := h.coll
  have hA : Below W.heap.size W (W.alloc (.cells #[c0, c1, c2] 51)) := (Below.refl _ _).alloc (Nat.le_refl _) _
  have hs := h.kept.size
  have hs2 := hB.size
  have hT : Below wr.heap.size wr (W.alloc (.cells #[c0, c1, c2] 51)) := hB.trans (hA.mono hs2)
  exact ⟨L, bs, hC.below ruleK_good hT, fun b hb => (List.mem_append.1 hb).elim (hbb b) (fun hb => (hbr b hb).1), Rowed.one_el ruleK_ones (ruleK_good.below hr hA), lies_block (heap_alloc_new _ _), fun b hb => (hbr b hb).2, hT.mono hs, by simp; omega⟩
theorem RsInv.app {w4 : World} {v4 : Value} {L4 : List Value} {bs4 : List Nat} {y : Ru} (h : RsInv g p w xs v wr) (hC : Coll 3 ruleK w.heap.size 51 w4 v4 L4 (xs ++ [y]) bs4) (hbb : ∀ b ∈ bs4, w.heap.size ≤ b) (hB : Below w.heap.size wr w4) (hy : RuS y) : RsInv g p w (xs ++ [y]) v4 w4 :=
  ⟨⟨L4, bs4, hC, hbb⟩, fun x hx => (List.mem_append.1 hx).elim (h.small x) (fun hx => by rw [List.mem_singleton.1 hx]; exact hy), h.rdr.belowN hB h.glt, h.kept.belowN hB (Nat.le_refl _), h.glt⟩
end
/-- What a draw of rules leaves. -/
def RulesD (m g p q : Nat) (w : World) (e : Ending) (w' : World) : Prop :=
  ∃ (xs : List Ru) (v : Value) (p' : Nat), e = .returned v ∧ xs.length ≤ m ∧ p' ≤ p + q ∧ RsInv g p' w xs v w'

/-- A literal's row of parts. -/
theorem D.parts_one {w : World} {b : Nat} {no : Bool} {nm : ByteArray} {s : Value} {a : A} {b1 : List Nat} (h : w.heap[b]? = some (.cells #[.bool no, .string nm, s] 54 (0, 0))) (ha : atomK w [.string nm, s] a b1) : partsK w [.slice (some ⟨b, 0, none⟩) 1 1] [⟨no, a⟩] (b :: b1) := by
  obtain ⟨s', hcs, hn, ht⟩ := ha
  simp only [List.cons.injEq, and_true, Value.string.injEq] at hcs
  obtain ⟨rfl, rfl⟩ := hcs
  refine ⟨_, 1, rfl, Nat.le_refl _, by unfold maxLen; omega, fun h => by simp at h, fun _ => ⟨b, 0, rfl, fun _ => [.bool no, .string a.name, s], fun _ => b1, by simp, fun k t hk => ?_⟩⟩
  match k, hk with
  | 0, hk =>
    simp only [List.getElem?_cons_zero, Option.some.injEq] at hk
    subst hk
    refine ⟨rfl, fun j v hj => ?_, s, rfl, hn, ht⟩
    match j, hj with
    | 0, hj => rw [cell_of_blk h]; simpa using hj
    | 1, hj => rw [cell_of_blk h]; simpa using hj
    | 2, hj => rw [cell_of_blk h]; simpa using hj
    | j + 3, hj => simp at hj
  | k + 1, hk => simp at hk
theorem D.parts_two {w : World} {b : Nat} {no no2 : Bool} {nm nm2 : ByteArray} {s s2 : Value} {a a2 : A} {b1 b2 : List Nat} (h : w.heap[b]? = some (.cells #[.bool no, .string nm, s, .bool no2, .string nm2, s2] 54 (0, 0)))
    (ha : atomK w [.string nm, s] a b1) (ha2 : atomK w [.string nm2, s2] a2 b2) : partsK w [.slice (some ⟨b, 0, none⟩) 2 2] [⟨no, a⟩, ⟨no2, a2⟩] (b :: (b1 ++ b2)) := by
  obtain ⟨s', hcs, hn, ht⟩ := ha
  simp only [List.cons.injEq, and_true, Value.string.injEq] at hcs
  obtain ⟨rfl, rfl⟩ := hcs
  obtain ⟨s'', hcs, hn2, ht2⟩ := ha2
  simp only [List.cons.injEq, and_true, Value.string.injEq] at hcs
  obtain ⟨rfl, rfl⟩ := hcs
  refine ⟨_, 2, rfl, Nat.le_refl _, by unfold maxLen; omega, fun h => by simp at h, fun _ => ⟨b, 0, rfl, fun k => if k = 0 then [.bool no, .string a.name, s] else [.bool no2, .string a2.name, s2], fun k => if k = 0 then b1 else b2, by simp [List.range_succ], fun k t hk => ?_⟩⟩
  match k, hk with
  | 0, hk =>
    simp only [List.getElem?_cons_zero, Option.some.injEq] at hk
    subst hk
    refine ⟨rfl, fun j v hj => ?_, s, rfl, hn, ht⟩
    match j, hj with
    | 0, hj => rw [cell_of_blk h]; simpa using hj
    | 1, hj => rw [cell_of_blk h]; simpa using hj
    | 2, hj => rw [cell_of_blk h]; simpa using hj
    | j + 3, hj => simp at hj
  | 1, hk =>
    simp only [List.getElem?_cons_succ, List.getElem?_cons_zero, Option.some.injEq] at hk
    subst hk
    refine ⟨rfl, fun j v hj => ?_, s2, rfl, hn2, ht2⟩
    match j, hj with
    | 0, hj => rw [cell_of_blk h]; simpa using hj
    | 1, hj => rw [cell_of_blk h]; simpa using hj
    | 2, hj => rw [cell_of_blk h]; simpa using hj
    | j + 3, hj => simp at hj
  | k + 2, hk => simp at hk
theorem D.terms_one {w : World} {b : Nat} {x : ByteArray} {c : Bool} (h : w.heap[b]? = some (.cells #[.bool c, .string x] 101 (0, 0))) (hx : x.size ≤ maxLen) :
    termsK w [.slice (some ⟨b, 0, none⟩) 1 1] [⟨c, x⟩] [b] := by
  refine ⟨_, 1, rfl, Nat.le_refl _, by unfold maxLen; omega, fun h => by simp at h, fun _ => ⟨b, 0, rfl, fun k => [.bool c, .string x], fun _ => [], by simp, fun k t hk => ?_⟩⟩
  match k, hk with
  | 0, hk =>
    simp only [List.getElem?_cons_zero, Option.some.injEq] at hk
    subst hk
    refine ⟨rfl, fun j v hj => ?_, rfl, hx, rfl⟩
    match j, hj with
    | 0, hj => rw [cell_of_blk h]; simpa using hj
    | 1, hj => rw [cell_of_blk h]; simpa using hj
    | j + 2, hj => simp at hj
  | k + 1, hk => simp at hk

end Go.Proofs.YtbcepahpehadeaaGreatDoor
