/- The walk of markAtom. -/
import Derived.WalkKit
import Derived.Lib.Hide
import Derived.WalkSpells
import Derived.WalkLawsBesides
import Derived.BigQuiet
import Derived.Deep.RegionHeld3
import Derived.Deep.RegionWith
import Derived.Deep.DrawnRows
import Derived.Test.YtbcepahpehadeaaProg
import Derived.Test.YtbcepahpehadeaaMark
namespace Go.Proofs.Ytbcepahpehadeaa
open Go.RowKit D
set_option linter.unusedVariables false
attribute [local go_sem ↓] Go.wp_at_zero Go.wp_at_succ

set_option maxHeartbeats 400000 in
theorem markAtom_any (a : A) (c0 c1 : Value) (bs : List Nat) (k B : Nat) (w : World) (h : atomK w [c0, c1] a bs) (hN : New B w bs) (hB : B ≤ w.heap.size) (hk : k + 2 * a.args.length ≤ 1000000000) :
    Calls Try.prog 34 #[.agg #[c0, c1], .int .i64 k] w (Marked atomK [c0, c1] ⟨a.name, markTs a.args k⟩ bs (k + 2 * a.args.length) B w) := by
  have ht := atom_args h
  have hnm := (show a.name.size ≤ maxLen by obtain ⟨_, _, hn, _⟩ := h; exact hn)
  obtain ⟨Ad, cap, rfl, rfl⟩ := atom_cells2 h
  have hA0 : Below w.heap.size w (w.alloc (.cells #[.string a.name, .slice Ad a.args.length cap] 35)) := (Below.refl _ _).alloc (Nat.le_refl _) _
  have hm := markTermS_any a.args _ bs k B _ (termsK_good.below ht hA0) (hN.below hA0) hk
  clear h ht
  go_enter Try.func34, Try.ntmps34
  go_wp2_with fail
  refine hm.mono ?_
  rintro e w1 ⟨rfl, hR, hN1, hK⟩
  clear hm
  go_wp2
  go_ret
  exact ⟨rfl, ⟨_, rfl, hnm, hR⟩, hN1, (KeptBut.of_below hA0).trans hK⟩

end Go.Proofs.Ytbcepahpehadeaa
