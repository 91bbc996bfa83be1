/- The walk of spec.l10Edge. -/
import Derived.WalkKit
import Derived.WalkSpells
import Derived.WalkLawsBesides
import Derived.Lib.Hide
import Derived.Test.YtbcepahpehadeaaGreatDoorProg
import Derived.Test.YtbcepahpehadeaaGreatDoorKind
namespace Go.Proofs.YtbcepahpehadeaaGreatDoor
open Go.RowKit D
set_option linter.unusedVariables false
attribute [local go_sem ↓] Go.wp_at_zero Go.wp_at_succ

def D.edge (n x y : ByteArray) : A := ⟨n, [⟨true, x⟩, ⟨true, y⟩]⟩
theorem D.terms_two {w : World} {b : Nat} {x y : ByteArray} {cx cy : Bool} (h : w.heap[b]? = some (.cells #[.bool cx, .string x, .bool cy, .string y] 101 (0, 0))) (hx : x.size ≤ maxLen) (hy : y.size ≤ maxLen) :
    termsK w [.slice (some ⟨b, 0, none⟩) 2 2] [⟨cx, x⟩, ⟨cy, y⟩] [b] := by
  refine ⟨_, 2, rfl, Nat.le_refl _, by unfold maxLen; omega, fun h => by simp at h, fun _ => ⟨b, 0, rfl, fun k => if k = 0 then [.bool cx, .string x] else [.bool cy, .string y], fun _ => [], by simp, fun k t hk => ?_⟩⟩
  match k, hk with
  | 0, hk =>
    simp only [List.getElem?_cons_zero, Option.some.injEq] at hk
    subst hk
    refine ⟨rfl, fun j v hj => ?_, rfl, hx, rfl⟩
    match j, hj with
    | 0, hj => rw [cell_of_blk h]; simpa using hj
    | 1, hj => rw [cell_of_blk h]; simpa using hj
    | j + 2, hj => simp at hj
  | 1, hk =>
    simp only [List.getElem?_cons_succ, List.getElem?_cons_zero, Option.some.injEq] at hk
    subst hk
    refine ⟨rfl, fun j v hj => ?_, rfl, hy, rfl⟩
    match j, hj with
    | 0, hj => rw [cell_of_blk h]; simpa using hj
    | 1, hj => rw [cell_of_blk h]; simpa using hj
    | j + 2, hj => simp at hj
  | k + 2, hk => simp at hk

set_option maxHeartbeats 1000000 in
theorem l10Edge_any (n x y : ByteArray) (w : World) (hn : n.size ≤ maxLen) (hx : x.size ≤ maxLen) (hy : y.size ≤ maxLen) :
    Calls Tryz.prog 126 #[.string n, .string x, .string y] w fun e w' => Below w.heap.size w w' ∧ w'.heap.size = w.heap.size + 2 ∧ ∃ b, e = .returned (.agg #[.string n, .slice (some ⟨b, 0, none⟩) 2 2]) ∧ atomK w' [.string n, .slice (some ⟨b, 0, none⟩) 2 2] (edge n x y) [b] ∧ b = w.heap.size + 1 := by
  go_enter Tryz.func126, Tryz.ntmps126
  go_wp2
  have hblk : ((w.alloc (.cells #[.string n, .slice (some ⟨w.heap.size + 1, 0, none⟩) 2 2] 48)).alloc (.cells #[.bool true, .string x, .bool true, .string y] 101)).heap[w.heap.size + 1]? = some (.cells #[.bool true, .string x, .bool true, .string y] 101 (0, 0)) := by
    simpa using heap_alloc_new (w.alloc (.cells #[.string n, .slice (some ⟨w.heap.size + 1, 0, none⟩) 2 2] 48)) (.cells #[.bool true, .string x, .bool true, .string y] 101)
  have z0 : ((w.alloc (.cells #[.string n, .slice (some ⟨w.heap.size + 1, 0, none⟩) 2 2] 48)).alloc (.cells #[.bool true, .string x, .bool true, .string y] 101)).cell? ⟨w.heap.size, 0, none⟩ = some (.string n) := by go_simp
  have z1 : ((w.alloc (.cells #[.string n, .slice (some ⟨w.heap.size + 1, 0, none⟩) 2 2] 48)).alloc (.cells #[.bool true, .string x, .bool true, .string y] 101)).cell? ⟨w.heap.size, 1, none⟩ = some (.slice (some ⟨w.heap.size + 1, 0, none⟩) 2 2) := by go_simp
  refine bodyPost_ret (v := .agg #[.string n, .slice (some ⟨w.heap.size + 1, 0, none⟩) 2 2]) (by simp [results, Tryz.results126, go_sem, z0, z1]) rfl ?_
  exact ⟨((Below.refl _ _).alloc (Nat.le_refl _) _).alloc (by simp) _, by simp, _, rfl, ⟨_, rfl, hn, terms_two hblk hx hy⟩, rfl⟩

end Go.Proofs.YtbcepahpehadeaaGreatDoor
