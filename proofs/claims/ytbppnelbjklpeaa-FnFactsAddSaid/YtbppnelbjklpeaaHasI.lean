/- The walk of impl.FactsHas. -/
import Derived.Laws.EntriesVeiled
import Derived.Deep.RegionHeld3
import Derived.Deep.RegionWith
import Derived.BigQuiet
import Derived.Deep.DrawnRows
import Derived.WalkKit
import Derived.WalkSpells
import Derived.WalkLawsBesides
import Derived.Lib.Hide
import Derived.Lib.IndexBytes
import Derived.Deep.Slices
import Derived.Deep.Fields
import Derived.ChangeSame
import Derived.Deep.Draws
import Derived.Lib.Bytealg
import Derived.Test.YtbppnelbjklpeaaFp
import Derived.Test.YtbppnelbjklpeaaAt
import Derived.Test.YtbppnelbjklpeaaBin
import Derived.Test.YtbppnelbjklpeaaFacts3
namespace Go.Proofs.Ytbppnelbjklpeaa
open Go.RowKit D
set_option linter.unusedVariables false
attribute [local go_sem ↓] Go.wp_at_zero Go.wp_at_succ


set_option maxHeartbeats 1000000 in
theorem factsHas_impl (xs : List A) (a : A) (v d0 d1 : Value) (bs b2 : List Nat) (w : World) (h : atomsK w [v] xs bs) (h2 : atomK w [d0, d1] a b2) :
    Calls Try.prog 19 #[v, .agg #[d0, d1]] w fun e w' => e = .returned (.bool (factsHas xs a)) ∧ Below w.heap.size w w' := by
  obtain ⟨Ad, cap, rfl, hl, hm⟩ := sliceK_form h
  obtain ⟨Aa, ca, rfl, rfl⟩ := atom_cells2 h2
  have hA0 : Below w.heap.size w (w.alloc (.cells #[.string a.name, .slice Aa a.args.length ca] 25)) := (Below.refl _ _).alloc (Nat.le_refl _) _
  have k1 := factsOk_impl xs _ bs _ (atomsK_good.below h hA0)
  have k3 := fun (hf : factsOk xs = true) w' (hb : Below w.heap.size w w') => has_any xs a _ _ _ bs b2 w' (atomsK_good.below h hb) (atomK_good.below h2 hb) (factsOk_asc hf) (Nat.le_trans (factsOk_len hf) (by omega))
  unfold factsHas
  generalize factsOk xs = x at *
  generalize isFactB a = y at *
  generalize hasB xs a = z at *
  clear h h2 hm
  go_enter Try.func19, Try.ntmps19
  go_wp2_with fail
  refine k1.mono ?_
  rintro e w1 ⟨rfl, hb1⟩
  have B1 := hA0.trans (hb1.mono hA0.size)
  have x0 : w1.cell? ⟨w.heap.size, 0, none⟩ = some (.string a.name) := cell_later hb1 (by go_simp)
  have x1 : w1.cell? ⟨w.heap.size, 1, none⟩ = some (.slice Aa a.args.length ca) := cell_later hb1 (by go_simp)
  clear k1 hA0
  cases x
  · clear k3
    go_wp2
    go_ret
    exact ⟨rfl, B1⟩
  · have k4 := k3 rfl
    clear k3
    go_wp2_with fail
    refine (k4 _ B1).mono ?_
    rintro e w3 ⟨rfl, hb3⟩
    go_wp2
    go_ret
    exact ⟨ret_bool (by simp [Bool.and_comm]), B1.trans (hb3.mono B1.size)⟩

end Go.Proofs.Ytbppnelbjklpeaa
