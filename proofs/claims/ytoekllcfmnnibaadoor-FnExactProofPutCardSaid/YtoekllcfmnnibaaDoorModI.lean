/- The walk of impl.moderate. -/
import Derived.Test.YtoekllcfmnnibaaDoorSizI
namespace Go.Proofs.YtoekllcfmnnibaaDoor
open Go.RowKit D
set_option linter.unusedVariables false
attribute [local go_sem ↓] Go.wp_at_zero Go.wp_at_succ

set_option maxHeartbeats 1000000 in
theorem moderate_any (BS : List Nat) (a : Addr) (p : Pf) (w : World) (ha : AtP BS w a p) (hlow : ∀ b ∈ BS, b < w.heap.size) (hwri : WP BS w) (hs : sizePf p ≤ 16777216) :
    Calls Tryd.prog 15 #[.pointer (some a)] w fun e w' => e = .returned (.bool (decide (sizePf p ≤ 60))) ∧ Below w.heap.size w w' := by
  have q := size_any BS a p 60 w ha hlow hwri (by omega) (by omega) hs
  have hp := sizePf_pos p
  clear ha hlow hwri
  by_cases h60 : sizePf p ≤ 60
  · have hu : upTo 60 (sizePf p) = (sizePf p : Int) := by unfold upTo; rw [if_pos (by omega)]
    rw [hu] at q
    have h1 : (0 : Int) < (sizePf p : Int) := by omega
    have h2 : (sizePf p : Int) ≤ 60 := by omega
    rw [decide_eq_true h60]
    clear hu
    go_enter Tryd.func15, Tryd.ntmps15
    go_wp2_with fail
    refine q.mono ?_
    rintro e w1 ⟨rfl, hb1⟩
    clear q
    go_wp2
    go_ret
    exact ⟨rfl, hb1⟩
  · have hu : upTo 60 (sizePf p) = 61 := by unfold upTo; rw [if_neg (by omega)]; rfl
    rw [hu] at q
    rw [decide_eq_false h60]
    clear hu
    go_enter Tryd.func15, Tryd.ntmps15
    go_wp2_with fail
    refine q.mono ?_
    rintro e w1 ⟨rfl, hb1⟩
    clear q
    go_wp2
    go_ret
    exact ⟨rfl, hb1⟩

end Go.Proofs.YtoekllcfmnnibaaDoor
