/- merge: what it hands back; its contract in the law's words. -/
import Derived.Test.YtlmfckhanpifbaaMerge
namespace Go.Proofs.Ytlmfckhanpifbaa
open Go.RowKit D Go.Shelf
set_option linter.unusedVariables false
attribute [local go_sem ↓] Go.wp_at_zero Go.wp_at_succ

theorem merge_stops (n : Nat) (hn : 1 ≤ n) (B1 B2 : Nat) (xs ys : List A) (v1 v2 : Value) (bs1 bs2 : List Nat) (w0 : World) (h1 : atomsK w0 [v1] xs bs1) (h2 : atomsK w0 [v2] ys bs2)
    (s1 : w0.cell? ⟨B1, 0, none⟩ = some v1) (s2 : w0.cell? ⟨B1, 1, none⟩ = some (.func (.func 32) #[] #[])) (s3 : w0.cell? ⟨B2, 0, none⟩ = some v2) :
    SeqStopsK Fence.wide n Try.prog 33 #[.pointer (some ⟨B1, 0, none⟩), .pointer (some ⟨B2, 0, none⟩)] (fun x : Itm w0 => x.enc) (Below w0.heap.size)
      (fun pre => pre.map Itm.key = mergeL xs ys) (fun pre => ∃ rest, pre.map Itm.key ++ rest = mergeL xs ys) (mergeL xs ys).length w0 := fun l J Jx W hW hJ _ hY h0 => by
  refine (merge1_in n hn l B1 B2 xs ys v1 v2 bs1 bs2 w0 h1 h2 s1 s2 s3 J Jx W hW hJ hY h0).mono ?_
  rintro e W' ⟨he, ⟨pre, h, hj⟩ | ⟨pre, rest, h, hj⟩⟩
  · exact ⟨he, .inl ⟨pre, h, hj⟩⟩
  · exact ⟨he, .inr ⟨pre, ⟨rest, h⟩, hj⟩⟩

set_option maxHeartbeats 1000000 in
theorem merge_any (Ad Ae : Option Addr) (n1 c1 n2 c2 : Nat) (w : World) :
    Calls Try.prog 23 #[.agg #[.slice Ad n1 c1, .func (.func 32) #[] #[]], .agg #[.slice Ae n2 c2, .func (.func 32) #[] #[]]] w fun e w' =>
      e = .returned (.func (.func 33) #[] #[.pointer (some ⟨w.heap.size, 0, none⟩), .pointer (some ⟨w.heap.size + 1, 0, none⟩)]) ∧
      w' = (w.alloc (.cells #[.slice Ad n1 c1, .func (.func 32) #[] #[]] 52)).alloc (.cells #[.slice Ae n2 c2, .func (.func 32) #[] #[]] 52) := by
  go_enter Try.func23, Try.ntmps23
  go_wp2
  go_ret
  exact ⟨rfl, rfl⟩

end Go.Proofs.Ytlmfckhanpifbaa
