/- The walk of spec.ProofPut. -/
import Derived.Test.YtoekllcfmnnibaaDoorPPutS
namespace Go.Proofs.YtoekllcfmnnibaaDoor
open Go.RowKit D
set_option linter.unusedVariables false
attribute [local go_sem ↓] Go.wp_at_zero Go.wp_at_succ

/-- A proof in lines, where it is not too great. -/
def D.putP (p : Pf) : ByteArray := if sizePf p ≤ 60 then ⟨(putPf p 0).toArray⟩ else ⟨#[]⟩

set_option maxHeartbeats 1000000 in
theorem proofPut_spec (n : Nat) (p : Pf) (c0 c1 c2 c3 : Value) (bs : List Nat) (w : World) (h : proofK n w [c0, c1, c2, c3] p bs) (hs : sizePf p ≤ 16777216) (hb : bulkPf p ≤ 1048576) :
    Calls Tryd.prog 5 #[.agg #[c0, c1, c2, c3]] w fun e w' => e = .returned (.string (putP p)) ∧ Below w.heap.size w w' := by
  have hA := (Below.refl w.heap.size w).alloc (Nat.le_refl _) (.cells #[c0, c1, c2, c3] 35)
  have q1 := proofSize_spec n p c0 c1 c2 c3 bs _ ((proofK_good n).below h hA) hs
  have q2 := fun w' (hb' : Below w.heap.size w w') (h60 : sizePf p ≤ 60) => l6Put_any n p c0 c1 c2 c3 bs 0 ⟨#[]⟩ w' ((proofK_good n).below h hb') h60 hb rfl
  have HA := Lib.hid hA
  clear h hb hA
  by_cases h60 : sizePf p ≤ 60
  · have hi : ¬ (60 : Int) < (sizePf p : Int) := by omega
    have HU : Hid (putP p = ⟨(putPf p 0).toArray⟩) := Lib.hid (by unfold putP; rw [if_pos h60])
    go_enter Tryd.func5, Tryd.ntmps5
    go_wp2_with fail
    refine q1.mono ?_
    rintro e w1 ⟨rfl, hb1⟩
    have B1 := Lib.hid (HA.out.trans (hb1.mono HA.out.size))
    have x0 : w1.cell? ⟨w.heap.size, 0, none⟩ = some c0 := cell_later hb1 (by go_simp)
    have x1 : w1.cell? ⟨w.heap.size, 1, none⟩ = some c1 := cell_later hb1 (by go_simp)
    have x2 : w1.cell? ⟨w.heap.size, 2, none⟩ = some c2 := cell_later hb1 (by go_simp)
    have x3 : w1.cell? ⟨w.heap.size, 3, none⟩ = some c3 := cell_later hb1 (by go_simp)
    clear q1 hb1
    go_wp2_with fail
    refine (q2 _ B1.out h60).mono ?_
    rintro e w2 ⟨t, rfl, ht, _, hb2⟩
    have B2 := Lib.hid (B1.out.trans (hb2.mono B1.out.size))
    have HT : Hid (t = putP p) := Lib.hid (by rw [HU.out]; exact ByteArray.ext (Array.toList_inj.1 ht.out))
    clear q2 hb2 ht
    go_wp2
    go_ret
    exact ⟨by rw [← HT.out]; rfl, B2.out⟩
  · have hi : (60 : Int) < (sizePf p : Int) := by omega
    have HU : Hid (putP p = ⟨#[]⟩) := Lib.hid (by unfold putP; rw [if_neg h60])
    clear q2
    go_enter Tryd.func5, Tryd.ntmps5
    go_wp2_with fail
    refine q1.mono ?_
    rintro e w1 ⟨rfl, hb1⟩
    have B1 := Lib.hid (HA.out.trans (hb1.mono HA.out.size))
    clear q1 hb1
    go_wp2
    go_ret
    exact ⟨by rw [HU.out]; rfl, B1.out⟩

end Go.Proofs.YtoekllcfmnnibaaDoor
