/- Plain: Two changes made one: plain. A change put into a variable that a drawn region makes: plain. -/
import Derived.Test.YtlmimajgifidhaaDoP
import Derived.Test.YtlmimajgifidhaaChB
import Derived.Test.YtlmimajgifidhaaChP
namespace Go.Proofs.Ytlmimajgifidhaa
open Go.RowKit D
set_option linter.unusedVariables false

def D.bothC (a b : Ch) : Ch := ⟨putsA (lessL a.comes b.goes) b.comes, putsA (lessL a.goes b.comes) b.goes⟩
def D.bothL (a b : Ch) : Ch × Bool := if (changeOk a && changeOk b) = true then (if changeOk (bothC a b) = true then (bothC a b, true) else (⟨[], []⟩, false)) else (⟨[], []⟩, false)
/-- A change and a yes or no: read; in new memory. -/
def D.ReadsCB (p : Ch × Bool) (B : Nat) (w : World) (e : Ending) (w' : World) : Prop := Below B w w' ∧ ∃ cs bs, e = .returned (.tuple #[.agg cs, .bool p.2]) ∧ changeK w' cs.toList p.1 bs
def D.MakesCB (p : Ch × Bool) (B : Nat) (w : World) (e : Ending) (w' : World) : Prop := Below B w w' ∧ ∃ cs bs, e = .returned (.tuple #[.agg cs, .bool p.2]) ∧ changeK w' cs.toList p.1 bs ∧ New B w' bs

theorem D.less_nil (xs : List A) : lessL xs [] = xs := by unfold lessL hasB; simp
theorem D.behind_less (xs ys zs : List A) : behind (lessL xs ys) ⟨zs, []⟩ = putsA (lessL xs ys) zs := by unfold behind; rw [less_nil]
theorem D.union_both {xs ys zs : List A} (hx : factsOk xs = true) (hy : factsOk ys = true) (hz : factsOk zs = true) : unionL zs (onlyL xs ys) = putsA (lessL xs ys) zs := by
  rw [onlyL_less (factsOk_asc hx) (factsOk_asc hy)]
  exact union_comm (factsOk_asc hz) (asc_less (factsOk_asc hx)) (factsOk_fact hz) (fun x hm => factsOk_fact hx x (mem_less hm))
theorem D.puts_facts {xs ys zs : List A} (hx : factsOk xs = true) (hz : factsOk zs = true) : ∀ x ∈ putsA (lessL xs ys) zs, isFactB x = true := fun x hm =>
  (mem_puts hm).elim (fun h => factsOk_fact hx x (mem_less h)) (factsOk_fact hz x)
theorem D.puts_few {xs ys zs : List A} (hx : factsOk xs = true) (hz : factsOk zs = true) : (putsA (lessL xs ys) zs).length ≤ 600 ∧ ∀ x ∈ putsA (lessL xs ys) zs, x.args.length ≤ 16777216 := by
  have h1 := puts_length zs (lessL xs ys)
  have h2 : (lessL xs ys).length ≤ xs.length := List.length_filter_le _ _
  have h3 := factsOk_len hx
  have h4 := factsOk_len hz
  exact ⟨by omega, fun x hm => Nat.le_trans (fact_args (puts_facts hx hz x hm)) (by omega)⟩
theorem D.bothL_bound (a b : Ch) : cntC (bothL a b).1 ≤ 900000000 := by
  unfold bothL
  split
  · rename_i h
    rw [Bool.and_eq_true] at h
    split
    · have ha := change_oks h.1
      have hb := change_oks h.2
      have h1 := cnt_facts (putsA (lessL a.comes b.goes) b.comes) (puts_facts ha.1 hb.1)
      have h2 := cnt_facts (putsA (lessL a.goes b.comes) b.goes) (puts_facts ha.2 hb.2)
      have h3 := (puts_few (ys := b.goes) ha.1 hb.1).1
      have h4 := (puts_few (ys := b.comes) ha.2 hb.2).1
      show sumL cntA (putsA (lessL a.comes b.goes) b.comes) + sumL cntA (putsA (lessL a.goes b.comes) b.goes) ≤ _
      omega
    · simp [cntC, sumL]
  · simp [cntC, sumL]

end Go.Proofs.Ytlmimajgifidhaa

namespace Go.Proofs.Ytlmimajgifidhaa
open Go.RowKit D
set_option linter.unusedVariables false

theorem D.pair_blk {w : World} {t : Nat} {ty : TypeId} {u1 u2 : Value} (v1 v2 : Value) (hT : w.heap[t]? = some (.cells #[u1, u2] ty (0, 0))) :
    ((w.setCell ⟨t, 0, none⟩ v1).setCell ⟨t, 1, none⟩ v2).heap[t]? = some (.cells #[v1, v2] ty (0, 0)) := by
  have hl : t < w.heap.size := lt_of_block hT
  have hT' : w.heap[t] = .cells #[u1, u2] ty (0, 0) := by rw [Array.getElem?_eq_getElem hl] at hT; exact Option.some.inj hT
  simp [World.setCell, hl, Array.getElem_modify, hT']
theorem D.cut_early {w w0 : World} {B t : Nat} {ty : TypeId} {v1 v2 : Value} {c : Ch} {b1 b2 : List Nat} (hT : w.heap[t]? = some (.cells #[.slice none 0 0, .slice none 0 0] ty (0, 0))) (hB : Below B w0 w) (ht : B ≤ t) (h1 : atomsK w [v1] c.comes b1) (h2 : atomsK w [v2] c.goes b2) :
    ((w.setCell ⟨t, 0, none⟩ v1).setCell ⟨t, 1, none⟩ v2).cell? ⟨t, 0, none⟩ = some v1 ∧ ((w.setCell ⟨t, 0, none⟩ v1).setCell ⟨t, 1, none⟩ v2).cell? ⟨t, 1, none⟩ = some v2 ∧ changeK ((w.setCell ⟨t, 0, none⟩ v1).setCell ⟨t, 1, none⟩ v2) [v1, v2] c (b1 ++ b2) ∧
      Below B w0 ((w.setCell ⟨t, 0, none⟩ v1).setCell ⟨t, 1, none⟩ v2) ∧ t < ((w.setCell ⟨t, 0, none⟩ v1).setCell ⟨t, 1, none⟩ v2).heap.size ∧ ∀ B', New B' w (b1 ++ b2) → New B' ((w.setCell ⟨t, 0, none⟩ v1).setCell ⟨t, 1, none⟩ v2) (b1 ++ b2) := by
  have hP := pair_blk v1 v2 hT
  exact ⟨blk_cell hP, blk_cell hP, change_put hT h1 h2, (hB.setCell (p := ⟨t, 0, none⟩) ht _).setCell (p := ⟨t, 1, none⟩) ht _, lt_of_block hP, fun B' h => (h.setc _ _).setc _ _⟩
theorem D.cut_late {w w0 : World} {B : Nat} {ty : TypeId} {v1 v2 : Value} {c : Ch} {b1 b2 : List Nat} (hB : Below B w0 w) (hs : B ≤ w.heap.size) (h1 : atomsK w [v1] c.comes b1) (h2 : atomsK w [v2] c.goes b2) :
    (w.alloc (.cells #[v1, v2] ty)).cell? ⟨w.heap.size, 0, none⟩ = some v1 ∧ (w.alloc (.cells #[v1, v2] ty)).cell? ⟨w.heap.size, 1, none⟩ = some v2 ∧ changeK (w.alloc (.cells #[v1, v2] ty)) [v1, v2] c (b1 ++ b2) ∧
      Below B w0 (w.alloc (.cells #[v1, v2] ty)) ∧ w.heap.size < (w.alloc (.cells #[v1, v2] ty)).heap.size ∧ ∀ B', New B' w (b1 ++ b2) → New B' (w.alloc (.cells #[v1, v2] ty)) (b1 ++ b2) := by
  have hA : Below w.heap.size w (w.alloc (.cells #[v1, v2] ty)) := (Below.refl _ _).alloc (Nat.le_refl _) _
  have hP := heap_alloc_new w (.cells #[v1, v2] ty)
  exact ⟨blk_cell hP, blk_cell hP, ⟨v1, v2, b1, b2, rfl, rfl, atomsK_good.below h1 hA, atomsK_good.below h2 hA⟩, hB.alloc hs _, by simp, fun B' h => h.below hA⟩

end Go.Proofs.Ytlmimajgifidhaa
