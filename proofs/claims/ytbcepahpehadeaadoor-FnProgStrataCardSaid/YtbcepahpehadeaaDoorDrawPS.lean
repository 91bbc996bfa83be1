/- The walk of spec.DrawProgStrata. -/
import Derived.Laws.EntriesVeiled
import Derived.WalkKit
import Derived.WalkSpells
import Derived.WalkLawsBesides
import Derived.Lib.Hide
import Derived.Test.YtbcepahpehadeaaDoorDrawAR
import Derived.Test.YtbcepahpehadeaaDoorRuO
namespace Go.Proofs.YtbcepahpehadeaaDoor
open Go.RowKit D
set_option linter.unusedVariables false
attribute [local go_sem ↓] Go.wp_at_zero Go.wp_at_succ

set_option maxHeartbeats 1000000 in
theorem drawProgStrata_any (v : Value) (cs : List UInt8) (bs : List Nat) (w : World) (h : bytesK w [v] cs bs) (hn : cs.length ≤ 1048576) :
    Calls Tryd.prog 22 #[v] w (RulesO 9 w) := by
  have ho := open_any v cs bs w h hn
  clear h
  go_enter Tryd.func22, Tryd.ntmps22
  go_wp2_with fail
  refine ho.mono ?_
  rintro e w1 ⟨rfl, hR, hb⟩
  have HB := Lib.hid hb
  have hd := l10AnyRules_any _ 0 w1 hR (by omega)
  clear ho hb
  go_wp2_with fail
  refine hd.mono ?_
  rintro e w2 ⟨xs, v2, q, rfl, hx, hq, hI⟩
  have HI := Lib.hid hI
  have HX := Lib.hid hx
  clear hd hq hx hI
  go_wp2
  go_ret
  exact rulesO_of HB.out rfl HX.out HI.out

end Go.Proofs.YtbcepahpehadeaaDoor
