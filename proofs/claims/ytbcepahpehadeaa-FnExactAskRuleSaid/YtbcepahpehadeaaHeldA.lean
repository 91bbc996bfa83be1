/- The walk of heldAtom. -/
import Derived.WalkKit
import Derived.Lib.Hide
import Derived.WalkSpells
import Derived.WalkLawsBesides
import Derived.BigQuiet
import Derived.Deep.RegionHeld3
import Derived.Deep.RegionWith
import Derived.Deep.DrawnRows
import Derived.Test.YtbcepahpehadeaaProg
import Derived.Test.YtbcepahpehadeaaMarkAo
namespace Go.Proofs.Ytbcepahpehadeaa
open Go.RowKit D
set_option linter.unusedVariables false
attribute [local go_sem ↓] Go.wp_at_zero Go.wp_at_succ

set_option maxHeartbeats 400000 in
theorem heldAtom_any (a : A) (c0 c1 : Value) (bs : List Nat) (k : Nat) (w : World) (h : atomK w [c0, c1] ⟨a.name, markTs a.args k⟩ bs) (hk : k + 2 * a.args.length ≤ 1000000000) :
    Calls Try.prog 35 #[.agg #[c0, c1], .int .i64 k] w (Held (k + 2 * a.args.length) w) := by
  have ht := atom_args h
  obtain ⟨Ad, cap, rfl, rfl⟩ := atom_cells2 h
  dsimp only at *
  rw [markTs_length] at ht ⊢
  have hA0 : Below w.heap.size w (w.alloc (.cells #[.string a.name, .slice Ad a.args.length cap] 35)) := (Below.refl _ _).alloc (Nat.le_refl _) _
  have hm := heldTermS_any a.args _ bs k _ (termsK_good.below ht hA0) hk
  clear h ht
  go_enter Try.func35, Try.ntmps35
  go_wp2_with fail
  refine hm.mono ?_
  rintro e w1 ⟨rfl, hb⟩
  clear hm
  go_wp2
  go_ret
  exact ⟨rfl, hA0.trans (hb.mono hA0.size)⟩

end Go.Proofs.Ytbcepahpehadeaa
