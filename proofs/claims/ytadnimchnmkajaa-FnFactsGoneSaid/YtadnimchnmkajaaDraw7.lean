/- The draw for FactsGone. -/
import Derived.Laws.EntriesVeiled
import Derived.Deep.RegionHeld3
import Derived.Deep.RegionWith
import Derived.BigQuiet
import Derived.Deep.QuietTactic
import Derived.Deep.DrawnRows
import Derived.WalkKit
import Derived.WalkSpells
import Derived.WalkLawsBesides
import Derived.Lib.Hide
import Derived.Test.YtadnimchnmkajaaDraw6
namespace Go.Proofs.Ytadnimchnmkajaa
open Go.RowKit D
set_option linter.unusedVariables false
attribute [local go_sem ↓] Go.wp_at_zero Go.wp_at_succ

set_option maxRecDepth 100000 in
set_option maxHeartbeats 1000000 in
theorem drawFactsGone_any (v : Value) (cs : List UInt8) (bs : List Nat) (w : World) (h : bytesK w [v] cs bs) (hn : cs.length ≤ 1048576) :
    Calls Try.prog 16 #[v] w (ListD w) := by
  have hA : Below w.heap.size w (w.alloc (.cells #[.string ⟨#[]⟩, .slice none 0 0] 34)) := (Below.refl _ _).alloc (Nat.le_refl _) _
  have hd := drawFactsAdd_any v cs bs _ (bytesK_good.below h hA) hn
  have HT := Lib.hid (heap_alloc_new w (.cells #[.string ⟨#[]⟩, .slice none 0 0] 34))
  have HSZ : Hid ((w.alloc (.cells #[.string ⟨#[]⟩, .slice none 0 0] 34)).heap.size = w.heap.size + 1) := Lib.hid (by simp)
  clear h
  go_enter Try.func16, Try.ntmps16
  go_wp2_with fail
  refine hd.mono ?_
  rintro e w1 ⟨xs, a, A1, A2, c1, c2, b1, b2, rfl, hX, hAt, hx, hsm, hal, hb, hf1, hf2⟩
  have hr := (hb.block w.heap.size (by simp)).trans HT.out
  have z0 : w1.cell? ⟨w.heap.size, 0, none⟩ = some (.string ⟨#[]⟩) := cell_of_blk hr
  have z1 : w1.cell? ⟨w.heap.size, 1, none⟩ = some (.slice none 0 0) := cell_of_blk hr
  have f0 : w1.frozen? ⟨w.heap.size, 0, none⟩ = false := frozen_of_blk hr
  have f1 : w1.frozen? ⟨w.heap.size, 1, none⟩ = false := frozen_of_blk hr
  have HD : Hid (ListD w (.returned (.tuple #[.slice A1 xs.length c1, .agg #[.string a.name, .slice A2 a.args.length c2]])) ((w1.setCell ⟨w.heap.size, 0, none⟩ (.string a.name)).setCell ⟨w.heap.size, 1, none⟩ (.slice A2 a.args.length c2))) := Lib.hid (by
    have hz := HSZ.out
    refine ⟨xs, a, A1, A2, c1, c2, b1, b2, rfl, atomsK_good.keep hX fun b hb => ?_, atomK_good.keep hAt fun b hb => ?_, hx, hsm, hal, ((hA.trans (hb.mono hA.size)).setCell (p := ⟨w.heap.size, 0, none⟩) (Nat.le_refl _) _).setCell (p := ⟨w.heap.size, 1, none⟩) (Nat.le_refl _) _, fun b hb => by have := hf1 b hb; omega, fun b hb => by have := hf2 b hb; omega⟩
    · have := hf1 b hb
      rw [Below.heap_setCell _ _ _ _ (by simp; omega), Below.heap_setCell _ _ _ _ (by simp; omega)]
    · have := hf2 b hb
      rw [Below.heap_setCell _ _ _ _ (by simp; omega), Below.heap_setCell _ _ _ _ (by simp; omega)])
  clear hd hX hAt hx hsm hal hb hf1 hf2 hr hA
  go_wp2
  refine bodyPost_ret (v := .tuple #[.slice A1 xs.length c1, .agg #[.string a.name, .slice A2 a.args.length c2]]) (by simp [results, Try.results16, go_sem, z0, z1]) rfl HD.out

end Go.Proofs.Ytadnimchnmkajaa
