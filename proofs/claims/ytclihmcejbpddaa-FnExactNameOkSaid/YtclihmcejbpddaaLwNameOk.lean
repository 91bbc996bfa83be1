/- The walk of the law FnExactNameOk. -/
import Derived.Test.YtclihmcejbpddaaStr
namespace Go.Proofs.Ytclihmcejbpddaa
open Go.RowKit D
set_option linter.unusedVariables false

set_option maxHeartbeats 400000 in
theorem exactNameOk_walk (s : ByteArray) (hs : s.size ≤ maxLen) (w : World) :
    Calls Try.prog 4 #[.string s] w fun e w' => e = .returned (.bool true) ∧ Below w.heap.size w w' := by
  have h1 := fun w => nameOk_impl s w hs
  have h2 := fun w => nameOk_spec s w hs
  cases nameOk s
  all_goals
    go_enter Try.func4, Try.ntmps4
    go_wp2_with (first
      | (go_at_call 8; refine (h1 _).mono ?_; rintro e w3 ⟨rfl, rfl⟩)
      | (go_at_call 7; refine (h2 _).mono ?_; rintro e w3 ⟨rfl, rfl⟩))
    all_goals (go_ret; exact ⟨rfl, Below.refl _ _⟩)

end Go.Proofs.Ytclihmcejbpddaa
