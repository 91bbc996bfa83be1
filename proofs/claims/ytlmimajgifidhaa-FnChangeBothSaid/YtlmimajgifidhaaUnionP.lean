/- What union and without have in common. -/
import Derived.WalkKit
import Derived.Lib.Hide
import Derived.WalkSpells
import Derived.WalkLawsBesides
import Derived.RangeFuncNested
import Derived.RangeFuncBound
import Derived.RangeFuncCalls
import Derived.RangeFuncLeaves
import Derived.RangeFuncBox
import Derived.Shelf.Abstract
import Derived.Shelf.RegionOpen
import Derived.OwnWalkIn
import Derived.TacticsInMore
import Derived.LoopNIn
import Derived.LoopIn
import Derived.Maps.AppendAt
import Derived.Deep.AppendLies
import Derived.Laws.EntriesVeiled
import Derived.Test.YtlmimajgifidhaaProg
import Derived.Test.YtlmimajgifidhaaKind
import Derived.Test.YtlmimajgifidhaaMergeS
import Derived.Test.YtlmimajgifidhaaFacts2
namespace Go.Proofs.Ytlmimajgifidhaa
open Go.RowKit D Go.Shelf
set_option linter.unusedVariables false
attribute [local go_sem ↓] Go.wp_at_zero Go.wp_at_succ
attribute [local go_sem] Oper.semAt_some

theorem infoAtomU : (Try.prog.info? 45).map (fun i => (i.zero, i.size, i.bytes)) = some (some (.agg #[.string ⟨#[]⟩, .slice none 0 0]), 2, 40) := by kernel_rfl
/-- All below n0 but the block Bo lies as it lay. -/
structure D.KExc (Bo n0 : Nat) (W W' : World) : Prop where
  os : W'.os = W.os
  tape : W'.tape = W.tape
  output : W'.output = W.output
  size : W.heap.size ≤ W'.heap.size
  block : ∀ k, k < n0 → k ≠ Bo → W'.heap[k]? = W.heap[k]?
theorem D.KExc.trans {Bo n0 : Nat} {A B C : World} (h : KExc Bo n0 A B) (k : KExc Bo n0 B C) : KExc Bo n0 A C :=
  ⟨k.os.trans h.os, k.tape.trans h.tape, k.output.trans h.output, Nat.le_trans h.size k.size, fun n hn hb => (k.block n hn hb).trans (h.block n hn hb)⟩
theorem D.KExc.of_grown {Bo n0 : Nat} {W W' : World} {row : Option Nat} (h : W.grownBy W' row) (hn : n0 ≤ W.heap.size) (hr : ∀ r, row = some r → n0 ≤ r ∨ r = Bo) : KExc Bo n0 W W' :=
  ⟨h.os, h.tape, h.output, h.size, fun k hk hb => h.block k (by omega) fun e => by rcases hr k e.symm with g | g <;> omega⟩
theorem D.KExc.putObj {Bo : Nat} {w : World} (W : World) (l : Nat) (o o' : Obj) (hl : w.heap.size ≤ l) (h : W.heap[l]? = some o) (_ : o.isCells = false) (_ : o.isWalk = false) : KExc Bo w.heap.size W (W.putObj l o') :=
  KExc.of_grown (grownBy_putObj' W l o') (by have := (Array.getElem?_eq_some_iff.1 h).1; omega) fun r e => by cases e; exact .inl hl
theorem D.KExc.inv {B1 B2 Bo n0 : Nat} {v1 v2 : Value} {wd W W' : World} (hk : KExc Bo n0 W W') (h : MInv B1 B2 v1 v2 wd W) (g1 : B1 < n0) (g2 : B2 < n0) (e1 : B1 ≠ Bo) (e2 : B2 ≠ Bo) (hd : wd.heap.size ≤ Bo) (hn : Bo < n0) : MInv B1 B2 v1 v2 wd W' :=
  ⟨(World.cell?_of_block (w := W) (hk.block B1 g1 e1)).trans h.s1, (World.cell?_of_block (w := W) (hk.block B1 g1 e1)).trans h.s2, (World.cell?_of_block (w := W) (hk.block B2 g2 e2)).trans h.s3,
    ⟨hk.os.trans h.hb.os, hk.tape.trans h.hb.tape, hk.output.trans h.hb.output, Nat.le_trans h.hb.size hk.size, fun k hk' => (hk.block k (by omega) (by omega)).trans (h.hb.block k hk')⟩⟩
/-- The cells of what has come. -/
def D.cellsI {wd : World} (pre : List (Itm wd)) : List Value := pre.flatMap fun x => [x.c0, x.c1]
theorem D.cellsI_snoc {wd : World} (pre : List (Itm wd)) (x : Itm wd) : cellsI (pre ++ [x]) = cellsI pre ++ [x.c0, x.c1] := by simp [cellsI]
theorem D.rowI {wd : World} : ∀ pre : List (Itm wd), ∃ bs, Rowed 2 atomK wd (cellsI pre) (pre.map (·.a)) bs
  | [] => ⟨[], Rowed.nil⟩
  | x :: pre => by
    obtain ⟨bs, h⟩ := rowI pre
    have := (Rowed.one_el (n := 2) (R := atomK) atomK_ones x.h).append h
    exact ⟨_, this⟩
theorem D.key_union {wd : World} {xs ys : List A} {pre : List (Itm wd)} (h : pre.map Itm.key = mergeL xs ys) : pre.map (·.a) = unionL xs ys := by
  unfold unionL; rw [← h, List.map_map]; rfl
/-- Behind an append to a boxed slice of the call's own, and the store back. -/
theorem D.boxed_app {W w1 : World} {n0 B : Nat} {t e : TypeId} {size : Nat} {v v' : Value} {k m : Nat} {xs ys : List Value} {tmp : Obj}
    (hv : Boxed W B t v) (hte : t ≠ e) (hrow : W.ownsRow n0 e size v k xs) (hown' : w1.ownsRow n0 e size v' m ys) (hgrow : (W.alloc tmp).grownBy w1 v.ownBlock) :
    Boxed w1 B t v ∧ Boxed (w1.setCell ⟨B, 0, none⟩ v') B t v' ∧ (w1.setCell ⟨B, 0, none⟩ v').ownsRow n0 e size v' m ys ∧ KeepsOthers W (w1.setCell ⟨B, 0, none⟩ v') := by
  have hv1 : Boxed w1 B t v := (hv.alloc tmp).kept hgrow (hv.not_row hte hrow)
  refine ⟨hv1, hv1.set v', hown'.kept (grownBy_setCell' w1 B v') (.inr (hv1.not_row hte hown').symm), ?_⟩
  refine ((KeepsOthers.alloc W tmp).trans (KeepsOthers.of_grownBy hgrow fun j o ej hj => ?_)).trans (KeepsOthers.setCell _ _ _)
  rcases (hrow.alloc tmp).2 with ⟨rfl, _⟩ | ⟨g, cap, cur, rfl, _, hgb, _⟩
  · simp [Value.ownBlock] at ej
  · obtain rfl : g = j := by simpa [Value.ownBlock] using ej
    rw [hgb] at hj; cases hj; rfl
theorem D.own_row_ge {w : World} {base e size k : Nat} {v : Value} {L : List Value} (h : w.ownsRow base e size v k L) : ∀ r, v.ownBlock = some r → base ≤ r := by
  intro r hr
  rcases h.2 with ⟨rfl, _⟩ | ⟨g, cap, cur, rfl, hg, _⟩
  · simp [Value.ownBlock] at hr
  · have : g = r := by simpa [Value.ownBlock] using hr
    omega

def D.firstI {wd : World} (pre : List (Itm wd)) : List (Itm wd) := pre.filter fun x => x.s == 0
theorem D.firstI_yes {wd : World} (pre : List (Itm wd)) (x : Itm wd) (h : x.s = 0) : firstI (pre ++ [x]) = firstI pre ++ [x] := by simp [firstI, h]
theorem D.firstI_no {wd : World} (pre : List (Itm wd)) (x : Itm wd) (h : x.s ≠ 0) : firstI (pre ++ [x]) = firstI pre := by simp [firstI, h]
theorem D.firstI_le {wd : World} (pre : List (Itm wd)) : (firstI pre).length ≤ pre.length := List.length_filter_le _ _
theorem D.key_only {wd : World} {xs ys : List A} {pre : List (Itm wd)} (h : pre.map Itm.key = mergeL xs ys) : (firstI pre).map (·.a) = onlyL xs ys := by
  unfold onlyL firstI
  rw [← h, List.filter_map, List.map_map]
  rfl

end Go.Proofs.Ytlmimajgifidhaa
