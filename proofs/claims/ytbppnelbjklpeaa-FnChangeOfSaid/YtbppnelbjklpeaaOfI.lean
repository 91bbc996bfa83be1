/- The walks of changeFrom and impl.ChangeOf. -/
import Derived.WalkKit
import Derived.Lib.Hide
import Derived.WalkSpells
import Derived.WalkLawsBesides
import Derived.BigQuiet
import Derived.Deep.RegionHeld3
import Derived.Deep.RegionWith
import Derived.Deep.RegionLaw
import Derived.Deep.DrawnRows
import Derived.Test.YtbppnelbjklpeaaProg
import Derived.Test.YtbppnelbjklpeaaWithout
import Derived.Test.YtbppnelbjklpeaaFacts3
import Derived.Test.YtbppnelbjklpeaaChC
namespace Go.Proofs.Ytbppnelbjklpeaa
open Go.RowKit D
set_option linter.unusedVariables false
attribute [local go_sem ↓] Go.wp_at_zero Go.wp_at_succ

set_option maxRecDepth 100000 in
set_option maxHeartbeats 1000000 in
theorem changeFrom_any (xs ys : List A) (v1 v2 : Value) (bs1 bs2 : List Nat) (w : World) (h : atomsK w [v1] xs bs1) (h2 : atomsK w [v2] ys bs2) (hn1 : xs.length ≤ 1000000) (hn2 : ys.length ≤ 1000000) :
    Calls Try.prog 61 #[v1, v2] w (ReadsA changeK ⟨onlyL ys xs, onlyL xs ys⟩ w.heap.size w) := by
  obtain ⟨Ad, cap, rfl, hl, hm⟩ := sliceK_form h
  obtain ⟨Ae, cape, rfl, hl2, hm2⟩ := sliceK_form h2
  have hA0 : Below w.heap.size w (w.alloc (.cells #[.slice none 0 0, .slice none 0 0] 44)) := (Below.refl _ _).alloc (Nat.le_refl _) _
  have HZ := Lib.hid (new_blk w (.cells #[.slice none 0 0, .slice none 0 0] 44))
  have k3 := without_any ys xs _ _ bs2 bs1 _ (atomsK_good.below h2 hA0) (atomsK_good.below h hA0) hn2 hn1
  have k4 := fun w' (hb : Below w.heap.size w w') => without_any xs ys _ _ bs1 bs2 w' (atomsK_good.below h hb) (atomsK_good.below h2 hb) hn1 hn2
  clear h h2 hl hm hl2 hm2
  go_enter Try.func61, Try.ntmps61
  go_wp2_with fail
  refine k3.mono ?_
  rintro e w3 ⟨hb3, v3, b3, rfl, hR3⟩
  obtain ⟨A3, p3, rfl, _, _⟩ := sliceK_form hR3
  have B3 := hA0.trans (hb3.mono hA0.size)
  replace HZ := Lib.hid (blk_later hb3 HZ.out)
  go_wp2_with fail
  refine (k4 _ B3).mono ?_
  rintro e w4 ⟨hb4, v4, b4, rfl, hR4⟩
  obtain ⟨A4, p4, rfl, _, _⟩ := sliceK_form hR4
  have B4 := B3.trans (hb4.mono B3.size)
  replace HZ := Lib.hid (blk_later hb4 HZ.out)
  have z0 : w4.cell? ⟨w.heap.size, 0, none⟩ = some (.slice none 0 0) := blk_cell HZ.out
  have z1 : w4.cell? ⟨w.heap.size, 1, none⟩ = some (.slice none 0 0) := blk_cell HZ.out
  have f0 : w4.frozen? ⟨w.heap.size, 0, none⟩ = false := blk_frozen HZ.out
  have f1 : w4.frozen? ⟨w.heap.size, 1, none⟩ = false := blk_frozen HZ.out
  have HF := Lib.hid (change_put (c := ⟨onlyL ys xs, onlyL xs ys⟩) HZ.out (atomsK_good.below hR3 hb4) hR4)
  clear hR3 hR4 k3 k4
  go_wp2
  refine bodyPost_ret (v := .agg #[.slice A3 (onlyL ys xs).length p3, .slice A4 (onlyL xs ys).length p4]) (by simp [results, Try.results61, go_sem, z0, z1]) rfl ⟨(B4.setCell (Nat.le_refl _) _).setCell (Nat.le_refl _) _, _, _, rfl, HF.out⟩

set_option maxRecDepth 100000 in
set_option maxHeartbeats 1000000 in
theorem changeOf_impl (xs ys : List A) (v1 v2 : Value) (bs1 bs2 : List Nat) (w : World) (h : atomsK w [v1] xs bs1) (h2 : atomsK w [v2] ys bs2) :
    Calls Try.prog 23 #[v1, v2] w (MakesC (ofL xs ys) w.heap.size w) := by
  obtain ⟨Ad, cap, rfl, hl, hm⟩ := sliceK_form h
  obtain ⟨Ae, cape, rfl, hl2, hm2⟩ := sliceK_form h2
  have hA0 : Below w.heap.size w (w.alloc (.cells #[.slice none 0 0, .slice none 0 0] 44)) := (Below.refl _ _).alloc (Nat.le_refl _) _
  have HZ := Lib.hid (new_blk w (.cells #[.slice none 0 0, .slice none 0 0] 44))
  have k1 := factsOk_impl xs _ bs1 _ (atomsK_good.below h hA0)
  have k2 := fun w' (hb : Below w.heap.size w w') => factsOk_impl ys _ bs2 w' (atomsK_good.below h2 hb)
  have k3 := fun (hf : factsOk xs = true) (hg : factsOk ys = true) w' (hb : Below w.heap.size w w') => changeFrom_any xs ys _ _ bs1 bs2 w' (atomsK_good.below h hb) (atomsK_good.below h2 hb) (few_facts hf).1 (few_facts hg).1
  have k5 := fun (hf : factsOk xs = true) (hg : factsOk ys = true) => onlyL_less (xs := ys) (ys := xs) (factsOk_asc hg) (factsOk_asc hf)
  have k6 := fun (hf : factsOk xs = true) (hg : factsOk ys = true) => onlyL_less (xs := xs) (ys := ys) (factsOk_asc hf) (factsOk_asc hg)
  have k4 := fun (hf : factsOk xs = true) (hg : factsOk ys = true) c0 c1 bs w' (h' : changeK w' [c0, c1] ⟨onlyL ys xs, onlyL xs ys⟩ bs) => copyChange_any ⟨onlyL ys xs, onlyL xs ys⟩ c0 c1 bs w' h' (by rw [k5 hf hg]; exact few_less (few_facts hg) _) (by rw [k6 hf hg]; exact few_less (few_facts hf) _)
  have HG : Hid (ofL xs ys = if (factsOk xs && factsOk ys) = true then ⟨lessL ys xs, lessL xs ys⟩ else ⟨[], []⟩) := Lib.hid rfl
  generalize ofL xs ys = G at *
  generalize factsOk xs = x at *
  generalize factsOk ys = y at *
  clear h h2 hl hm hl2 hm2
  go_enter Try.func23, Try.ntmps23
  go_wp2_with fail
  refine k1.mono ?_
  rintro e w1 ⟨rfl, hb1⟩
  have B1 := hA0.trans (hb1.mono hA0.size)
  replace HZ := Lib.hid (blk_later hb1 HZ.out)
  clear k1 hA0
  cases x
  · clear k2 k3 k4 k5 k6
    have HG2 : Hid (G = ⟨[], []⟩) := Lib.hid (by rw [HG.out]; rfl)
    have z0 : w1.cell? ⟨w.heap.size, 0, none⟩ = some (.slice none 0 0) := blk_cell HZ.out
    have z1 : w1.cell? ⟨w.heap.size, 1, none⟩ = some (.slice none 0 0) := blk_cell HZ.out
    have f0 : w1.frozen? ⟨w.heap.size, 0, none⟩ = false := blk_frozen HZ.out
    have f1 : w1.frozen? ⟨w.heap.size, 1, none⟩ = false := blk_frozen HZ.out
    have HF := Lib.hid (change_put (c := ⟨[], []⟩) HZ.out (atoms_none _) (atoms_none _))
    go_wp2
    refine bodyPost_ret (v := .agg #[.slice none 0 0, .slice none 0 0]) (by simp [results, Try.results23, go_sem, z0, z1]) rfl ⟨(B1.setCell (Nat.le_refl _) _).setCell (Nat.le_refl _) _, _, _, rfl, by rw [HG2.out]; exact HF.out, by exact (New.nil _ _)⟩
  · have k3a := k3 rfl
    have k4a := k4 rfl
    have k5a := k5 rfl
    have k6a := k6 rfl
    clear k3 k4 k5 k6
    go_wp2_with fail
    refine (k2 _ B1).mono ?_
    rintro e w2 ⟨rfl, hb2⟩
    have B2 := B1.trans (hb2.mono B1.size)
    replace HZ := Lib.hid (blk_later hb2 HZ.out)
    clear k2
    cases y
    · clear k3a k4a k5a k6a
      have HG2 : Hid (G = ⟨[], []⟩) := Lib.hid (by rw [HG.out]; rfl)
      have z0 : w2.cell? ⟨w.heap.size, 0, none⟩ = some (.slice none 0 0) := blk_cell HZ.out
      have z1 : w2.cell? ⟨w.heap.size, 1, none⟩ = some (.slice none 0 0) := blk_cell HZ.out
      have f0 : w2.frozen? ⟨w.heap.size, 0, none⟩ = false := blk_frozen HZ.out
      have f1 : w2.frozen? ⟨w.heap.size, 1, none⟩ = false := blk_frozen HZ.out
      have HF := Lib.hid (change_put (c := ⟨[], []⟩) HZ.out (atoms_none _) (atoms_none _))
      go_wp2
      refine bodyPost_ret (v := .agg #[.slice none 0 0, .slice none 0 0]) (by simp [results, Try.results23, go_sem, z0, z1]) rfl ⟨(B2.setCell (Nat.le_refl _) _).setCell (Nat.le_refl _) _, _, _, rfl, by rw [HG2.out]; exact HF.out, by exact (New.nil _ _)⟩
    · have k3' := k3a rfl
      have k4' := k4a rfl
      have HG2 : Hid (G = ⟨onlyL ys xs, onlyL xs ys⟩) := Lib.hid (by rw [HG.out, k5a rfl, k6a rfl]; rfl)
      clear k3a k4a k5a k6a HG
      go_wp2_with fail
      refine (k3' _ B2).mono ?_
      rintro e w3 ⟨hb3, cs3, b3, rfl, hR3⟩
      obtain ⟨A3, p3, E3, q3, rfl⟩ := change_cells hR3
      have B3 := B2.trans (hb3.mono B2.size)
      replace HZ := Lib.hid (blk_later hb3 HZ.out)
      have k7 := k4' _ _ _ _ hR3
      clear k3' k4' hR3
      go_wp2_with fail
      refine k7.mono ?_
      rintro e w4 ⟨hb4, cs4, b4, rfl, hR4, hN4⟩
      obtain ⟨A4, p4, E4, q4, rfl⟩ := change_cells hR4
      obtain ⟨d1, d2, rfl, hC4, hD4⟩ := change_parts hR4
      have B4 := B3.trans (hb4.mono B3.size)
      replace HZ := Lib.hid (blk_later hb4 HZ.out)
      have z0 : w4.cell? ⟨w.heap.size, 0, none⟩ = some (.slice none 0 0) := blk_cell HZ.out
      have z1 : w4.cell? ⟨w.heap.size, 1, none⟩ = some (.slice none 0 0) := blk_cell HZ.out
      have f0 : w4.frozen? ⟨w.heap.size, 0, none⟩ = false := blk_frozen HZ.out
      have f1 : w4.frozen? ⟨w.heap.size, 1, none⟩ = false := blk_frozen HZ.out
      have HF := Lib.hid (change_put (c := ⟨onlyL ys xs, onlyL xs ys⟩) HZ.out hC4 hD4)
      have HN := Lib.hid (hN4.mono B3.size)
      clear hR4 hC4 hD4 hN4 k7
      go_wp2
      refine bodyPost_ret (v := .agg #[.slice A4 (onlyL ys xs).length p4, .slice E4 (onlyL xs ys).length q4]) (by simp [results, Try.results23, go_sem, z0, z1]) rfl ⟨(B4.setCell (Nat.le_refl _) _).setCell (Nat.le_refl _) _, _, _, rfl, by rw [HG2.out]; exact HF.out, (HN.out.setc _ _).setc _ _⟩

end Go.Proofs.Ytbppnelbjklpeaa
