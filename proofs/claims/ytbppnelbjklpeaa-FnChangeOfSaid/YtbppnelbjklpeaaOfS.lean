/- The walk of spec.ChangeOf. -/
import Derived.WalkKit
import Derived.Lib.Hide
import Derived.WalkSpells
import Derived.WalkLawsBesides
import Derived.BigQuiet
import Derived.Deep.RegionHeld3
import Derived.Deep.RegionWith
import Derived.Deep.RegionLaw
import Derived.Deep.DrawnRows
import Derived.Test.YtbppnelbjklpeaaProg
import Derived.Test.YtbppnelbjklpeaaL3L
import Derived.Test.YtbppnelbjklpeaaFacts3
import Derived.Test.YtbppnelbjklpeaaChP
namespace Go.Proofs.Ytbppnelbjklpeaa
open Go.RowKit D
set_option linter.unusedVariables false
attribute [local go_sem ↓] Go.wp_at_zero Go.wp_at_succ

set_option maxRecDepth 100000 in
set_option maxHeartbeats 1000000 in
theorem changeOf_spec (xs ys : List A) (v1 v2 : Value) (bs1 bs2 : List Nat) (w : World) (h : atomsK w [v1] xs bs1) (h2 : atomsK w [v2] ys bs2) :
    Calls Try.prog 25 #[v1, v2] w (ReadsA changeK (ofL xs ys) w.heap.size w) := by
  obtain ⟨Ad, cap, rfl, hl, hm⟩ := sliceK_form h
  obtain ⟨Ae, cape, rfl, hl2, hm2⟩ := sliceK_form h2
  have hA0 : Below w.heap.size w (w.alloc (.cells #[.slice none 0 0, .slice none 0 0] 44)) := (Below.refl _ _).alloc (Nat.le_refl _) _
  have HZ := Lib.hid (new_blk w (.cells #[.slice none 0 0, .slice none 0 0] 44))
  have k1 := factsOk_spec xs _ bs1 _ (atomsK_good.below h hA0)
  have k2 := fun w' (hb : Below w.heap.size w w') => factsOk_spec ys _ bs2 w' (atomsK_good.below h2 hb)
  have k3 := fun (hf : factsOk xs = true) (hg : factsOk ys = true) w' (hb : Below w.heap.size w w') => l3Less_any ys xs _ _ bs2 bs1 w' (atomsK_good.below h2 hb) (atomsK_good.below h hb) (factsOk_asc hf) (Nat.le_trans (few_facts hg).1 (by omega)) (few_facts hg).2
  have k4 := fun (hf : factsOk xs = true) (hg : factsOk ys = true) w' (hb : Below w.heap.size w w') => l3Less_any xs ys _ _ bs1 bs2 w' (atomsK_good.below h hb) (atomsK_good.below h2 hb) (factsOk_asc hg) (Nat.le_trans (few_facts hf).1 (by omega)) (few_facts hf).2
  have HG : Hid (ofL xs ys = if (factsOk xs && factsOk ys) = true then ⟨lessL ys xs, lessL xs ys⟩ else ⟨[], []⟩) := Lib.hid rfl
  generalize ofL xs ys = G at *
  generalize factsOk xs = x at *
  generalize factsOk ys = y at *
  clear h h2 hl hm hl2 hm2
  go_enter Try.func25, Try.ntmps25
  go_wp2_with fail
  refine k1.mono ?_
  rintro e w1 ⟨rfl, hb1⟩
  have B1 := hA0.trans (hb1.mono hA0.size)
  replace HZ := Lib.hid (blk_later hb1 HZ.out)
  clear k1 hA0
  cases x
  · clear k2 k3 k4
    have HG2 : Hid (G = ⟨[], []⟩) := Lib.hid (by rw [HG.out]; rfl)
    have z0 : w1.cell? ⟨w.heap.size, 0, none⟩ = some (.slice none 0 0) := blk_cell HZ.out
    have z1 : w1.cell? ⟨w.heap.size, 1, none⟩ = some (.slice none 0 0) := blk_cell HZ.out
    have f0 : w1.frozen? ⟨w.heap.size, 0, none⟩ = false := blk_frozen HZ.out
    have f1 : w1.frozen? ⟨w.heap.size, 1, none⟩ = false := blk_frozen HZ.out
    have HF := Lib.hid (change_put (c := ⟨[], []⟩) HZ.out (atoms_none _) (atoms_none _))
    go_wp2
    refine bodyPost_ret (v := .agg #[.slice none 0 0, .slice none 0 0]) (by simp [results, Try.results25, go_sem, z0, z1]) rfl ⟨(B1.setCell (Nat.le_refl _) _).setCell (Nat.le_refl _) _, _, _, rfl, by rw [HG2.out]; exact HF.out⟩
  · have k3a := k3 rfl
    have k4a := k4 rfl
    clear k3 k4
    go_wp2_with fail
    refine (k2 _ B1).mono ?_
    rintro e w2 ⟨rfl, hb2⟩
    have B2 := B1.trans (hb2.mono B1.size)
    replace HZ := Lib.hid (blk_later hb2 HZ.out)
    clear k2
    cases y
    · clear k3a k4a
      have HG2 : Hid (G = ⟨[], []⟩) := Lib.hid (by rw [HG.out]; rfl)
      have z0 : w2.cell? ⟨w.heap.size, 0, none⟩ = some (.slice none 0 0) := blk_cell HZ.out
      have z1 : w2.cell? ⟨w.heap.size, 1, none⟩ = some (.slice none 0 0) := blk_cell HZ.out
      have f0 : w2.frozen? ⟨w.heap.size, 0, none⟩ = false := blk_frozen HZ.out
      have f1 : w2.frozen? ⟨w.heap.size, 1, none⟩ = false := blk_frozen HZ.out
      have HF := Lib.hid (change_put (c := ⟨[], []⟩) HZ.out (atoms_none _) (atoms_none _))
      go_wp2
      refine bodyPost_ret (v := .agg #[.slice none 0 0, .slice none 0 0]) (by simp [results, Try.results25, go_sem, z0, z1]) rfl ⟨(B2.setCell (Nat.le_refl _) _).setCell (Nat.le_refl _) _, _, _, rfl, by rw [HG2.out]; exact HF.out⟩
    · have k3' := k3a rfl
      have k4' := k4a rfl
      have HG2 : Hid (G = ⟨lessL ys xs, lessL xs ys⟩) := Lib.hid (by rw [HG.out]; rfl)
      clear k3a k4a HG
      go_wp2_with fail
      refine (k3' _ B2).mono ?_
      rintro e w3 ⟨hb3, v3, b3, rfl, hR3⟩
      obtain ⟨A3, p3, rfl, _, _⟩ := sliceK_form hR3
      have B3 := B2.trans (hb3.mono B2.size)
      replace HZ := Lib.hid (blk_later hb3 HZ.out)
      go_wp2_with fail
      refine (k4' _ B3).mono ?_
      rintro e w4 ⟨hb4, v4, b4, rfl, hR4⟩
      obtain ⟨A4, p4, rfl, _, _⟩ := sliceK_form hR4
      have B4 := B3.trans (hb4.mono B3.size)
      replace HZ := Lib.hid (blk_later hb4 HZ.out)
      have z0 : w4.cell? ⟨w.heap.size, 0, none⟩ = some (.slice none 0 0) := blk_cell HZ.out
      have z1 : w4.cell? ⟨w.heap.size, 1, none⟩ = some (.slice none 0 0) := blk_cell HZ.out
      have f0 : w4.frozen? ⟨w.heap.size, 0, none⟩ = false := blk_frozen HZ.out
      have f1 : w4.frozen? ⟨w.heap.size, 1, none⟩ = false := blk_frozen HZ.out
      have HF := Lib.hid (change_put (c := ⟨lessL ys xs, lessL xs ys⟩) HZ.out (atomsK_good.below hR3 hb4) hR4)
      clear hR3 hR4 k3' k4'
      go_wp2
      refine bodyPost_ret (v := .agg #[.slice A3 (lessL ys xs).length p3, .slice A4 (lessL xs ys).length p4]) (by simp [results, Try.results25, go_sem, z0, z1]) rfl ⟨(B4.setCell (Nat.le_refl _) _).setCell (Nat.le_refl _) _, _, _, rfl, by rw [HG2.out]; exact HF.out⟩

end Go.Proofs.Ytbppnelbjklpeaa
