/- How many marks parts take: plain. -/
import Derived.Test.YtbcepahpehadeaaGreatDoorKind
namespace Go.Proofs.YtbcepahpehadeaaGreatDoor.D
open Go.RowKit
theorem cntPs_le (xs : List Pt) : sumL cntP xs ≤ 3 * bulkPts xs := by
  unfold bulkPts
  induction xs with
  | nil => simp [sumL]
  | cons x xs ih =>
    have h1 : cntP x ≤ 3 + 3 * bulkPt x := by unfold cntP bulkPt bulkA; omega
    simp only [sumL, List.map_cons, List.sum_cons, List.length_cons] at *
    omega
end Go.Proofs.YtbcepahpehadeaaGreatDoor.D
