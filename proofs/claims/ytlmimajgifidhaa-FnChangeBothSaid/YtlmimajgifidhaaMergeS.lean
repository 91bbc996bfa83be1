/- merge: what it hands back; its contract in the law's words. -/
import Derived.RangeFuncNested
import Derived.RangeFuncBound
import Derived.RangeFuncCalls
import Derived.RangeFuncLeaves
import Derived.Shelf.Abstract
import Derived.Shelf.RegionOpen
import Derived.OwnWalkIn
import Derived.TacticsInMore
import Derived.LoopNIn
import Derived.LoopIn
import Derived.Laws.EntriesVeiled
import Derived.Deep.RegionHeld3
import Derived.Deep.RegionWith
import Derived.BigQuiet
import Derived.Deep.DrawnRows
import Derived.WalkKit
import Derived.WalkSpells
import Derived.WalkLawsBesides
import Derived.Lib.Hide
import Derived.Lib.IndexBytes
import Derived.Deep.Slices
import Derived.Deep.Fields
import Derived.ChangeSame
import Derived.Deep.Draws
import Derived.Lib.Bytealg
import Derived.Test.YtlmimajgifidhaaMerge
namespace Go.Proofs.Ytlmimajgifidhaa
open Go.RowKit D Go.Shelf
set_option linter.unusedVariables false
attribute [local go_sem ↓] Go.wp_at_zero Go.wp_at_succ

theorem merge_stops (n : Nat) (hn : 1 ≤ n) (B1 B2 : Nat) (xs ys : List A) (v1 v2 : Value) (bs1 bs2 : List Nat) (wd w0 : World) (h1 : atomsK wd [v1] xs bs1) (h2 : atomsK wd [v2] ys bs2)
    (Kp : World → World → Prop) (hKp : ∀ W W', Kp W W' → MInv B1 B2 v1 v2 wd W → MInv B1 B2 v1 v2 wd W') (h0 : MInv B1 B2 v1 v2 wd w0) :
    SeqStopsK Fence.wide n Try.prog 74 #[.pointer (some ⟨B1, 0, none⟩), .pointer (some ⟨B2, 0, none⟩)] (fun x : Itm wd => x.enc) Kp
      (fun pre => pre.map Itm.key = mergeL xs ys) (fun pre => ∃ rest, pre.map Itm.key ++ rest = mergeL xs ys) (mergeL xs ys).length w0 := fun l J Jx W hW hJ _ hY hj0 => by
  refine (merge1_in n hn l B1 B2 xs ys v1 v2 bs1 bs2 wd h1 h2 Kp hKp J Jx W (h0.below hW) hJ hY hj0).mono ?_
  rintro e W' ⟨he, ⟨pre, h, hj⟩ | ⟨pre, rest, h, hj⟩⟩
  · exact ⟨he, .inl ⟨pre, h, hj⟩⟩
  · exact ⟨he, .inr ⟨pre, ⟨rest, h⟩, hj⟩⟩

set_option maxHeartbeats 1000000 in
theorem merge_any (Ad Ae : Option Addr) (n1 c1 n2 c2 : Nat) (w : World) :
    Calls Try.prog 50 #[.agg #[.slice Ad n1 c1, .func (.func 70) #[] #[]], .agg #[.slice Ae n2 c2, .func (.func 70) #[] #[]]] w fun e w' =>
      e = .returned (.func (.func 74) #[] #[.pointer (some ⟨w.heap.size, 0, none⟩), .pointer (some ⟨w.heap.size + 1, 0, none⟩)]) ∧
      w' = (w.alloc (.cells #[.slice Ad n1 c1, .func (.func 70) #[] #[]] 69)).alloc (.cells #[.slice Ae n2 c2, .func (.func 70) #[] #[]] 69) := by
  go_enter Try.func50, Try.ntmps50
  go_wp2
  go_ret
  exact ⟨rfl, rfl⟩

end Go.Proofs.Ytlmimajgifidhaa
