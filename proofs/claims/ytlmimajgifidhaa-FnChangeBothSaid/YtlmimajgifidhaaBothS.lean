/- Plain: The walks of l3Both and spec.ChangeBoth (by gen/mkboth.py). The walk of impl.ChangeBoth (by gen/mkboth.py). -/
import Derived.WalkKit
import Derived.Lib.Hide
import Derived.WalkSpells
import Derived.WalkLawsBesides
import Derived.BigQuiet
import Derived.Deep.RegionHeld3
import Derived.Deep.RegionWith
import Derived.Deep.RegionLaw
import Derived.Deep.DrawnRows
import Derived.Test.YtlmimajgifidhaaProg
import Derived.Test.YtlmimajgifidhaaDoS
import Derived.Test.YtlmimajgifidhaaChS
import Derived.Test.YtlmimajgifidhaaChP
import Derived.Test.YtlmimajgifidhaaBothP
import Derived.Test.YtlmimajgifidhaaWithout
import Derived.Test.YtlmimajgifidhaaUnion
import Derived.Test.YtlmimajgifidhaaChI
import Derived.Test.YtlmimajgifidhaaChC
namespace Go.Proofs.Ytlmimajgifidhaa
open Go.RowKit D
set_option linter.unusedVariables false
attribute [local go_sem ↓] Go.wp_at_zero Go.wp_at_succ

theorem D.heap_three (w : World) (o1 o2 o3 : Obj) : (((w.alloc o1).alloc o2).alloc o3).heap[w.heap.size + 2]? = some o3 := by
  have := heap_alloc_new ((w.alloc o1).alloc o2) o3
  simpa using this

set_option maxRecDepth 100000 in
set_option maxHeartbeats 1000000 in
theorem l3Both_any (a b : Ch) (a0 a1 b0 b1 : Value) (bs b2 : List Nat) (w : World) (h : changeK w [a0, a1] a bs) (h2 : changeK w [b0, b1] b b2) (ha : changeOk a = true) (hb : changeOk b = true) :
    Calls Try.prog 26 #[.agg #[a0, a1], .agg #[b0, b1]] w (ReadsA changeK (bothC a b) w.heap.size w) := by
  obtain ⟨Aa, ca, Ag, cg, rfl, rfl⟩ := change_cells2 h
  obtain ⟨Ba, da, Bg, dg, rfl, rfl⟩ := change_cells2 h2
  obtain ⟨p1, p2, rfl, ht, hp⟩ := change_parts h
  obtain ⟨q1, q2, rfl, ht2, hp2⟩ := change_parts h2
  have hA : Below w.heap.size w (((w.alloc (.cells #[.slice Aa a.comes.length ca, .slice Ag a.goes.length cg] 28)).alloc (.cells #[.slice Ba b.comes.length da, .slice Bg b.goes.length dg] 28)).alloc (.cells #[.slice none 0 0, .slice none 0 0] 28)) := (((Below.refl _ _).alloc (Nat.le_refl _) _).alloc (by simp) _).alloc (by simp <;> omega) _
  have ga := change_oks ha
  have gb := change_oks hb
  have k1 := fun w' (hb' : Below w.heap.size w w') => l3Less_any a.comes b.goes _ _ p1 q2 w' (atomsK_good.below ht hb') (atomsK_good.below hp2 hb') (factsOk_asc gb.2) (Nat.le_trans (few_facts ga.1).1 (by omega)) (few_facts ga.1).2
  have d1 : ∀ v' bs' w', Below w.heap.size w w' → atomsK w' [v'] (lessL a.comes b.goes) bs' → Calls Try.prog 40 #[v', .agg #[.slice Ba b.comes.length da, .slice none 0 0]] w' (Reads atomsK (putsA (lessL a.comes b.goes) b.comes) w'.heap.size w') := fun v' bs' w' hb' h' => by
    rw [← behind_less]
    exact l3Do_any (lessL a.comes b.goes) ⟨b.comes, []⟩ v' _ _ bs' (q1 ++ []) w' h' ⟨_, _, q1, [], rfl, rfl, atomsK_good.below ht2 hb', atoms_none _⟩ (asc_less (factsOk_asc ga.1)) rfl (few_less (few_facts ga.1) _) (few_facts gb.1)
  have k2 := fun w' (hb' : Below w.heap.size w w') => l3Less_any a.goes b.comes _ _ p2 q1 w' (atomsK_good.below hp hb') (atomsK_good.below ht2 hb') (factsOk_asc gb.1) (Nat.le_trans (few_facts ga.2).1 (by omega)) (few_facts ga.2).2
  have d2 : ∀ v' bs' w', Below w.heap.size w w' → atomsK w' [v'] (lessL a.goes b.comes) bs' → Calls Try.prog 40 #[v', .agg #[.slice Bg b.goes.length dg, .slice none 0 0]] w' (Reads atomsK (putsA (lessL a.goes b.comes) b.goes) w'.heap.size w') := fun v' bs' w' hb' h' => by
    rw [← behind_less]
    exact l3Do_any (lessL a.goes b.comes) ⟨b.goes, []⟩ v' _ _ bs' (q2 ++ []) w' h' ⟨_, _, q2, [], rfl, rfl, atomsK_good.below hp2 hb', atoms_none _⟩ (asc_less (factsOk_asc ga.2)) rfl (few_less (few_facts ga.2) _) (few_facts gb.2)
  have HG : Hid (bothC a b = ⟨putsA (lessL a.comes b.goes) b.comes, putsA (lessL a.goes b.comes) b.goes⟩) := Lib.hid rfl
  have HZ := Lib.hid (heap_three w (.cells #[.slice Aa a.comes.length ca, .slice Ag a.goes.length cg] 28) (.cells #[.slice Ba b.comes.length da, .slice Bg b.goes.length dg] 28) (.cells #[.slice none 0 0, .slice none 0 0] 28))
  generalize putsA (lessL a.comes b.goes) b.comes = P1 at *
  generalize putsA (lessL a.goes b.comes) b.goes = P2 at *
  generalize lessL a.comes b.goes = M1 at *
  generalize lessL a.goes b.comes = M2 at *
  generalize bothC a b = G at *
  have x0 : (((w.alloc (.cells #[.slice Aa a.comes.length ca, .slice Ag a.goes.length cg] 28)).alloc (.cells #[.slice Ba b.comes.length da, .slice Bg b.goes.length dg] 28)).alloc (.cells #[.slice none 0 0, .slice none 0 0] 28)).cell? ⟨w.heap.size, 0, none⟩ = some (.slice Aa a.comes.length ca) := by go_simp
  have x1 : (((w.alloc (.cells #[.slice Aa a.comes.length ca, .slice Ag a.goes.length cg] 28)).alloc (.cells #[.slice Ba b.comes.length da, .slice Bg b.goes.length dg] 28)).alloc (.cells #[.slice none 0 0, .slice none 0 0] 28)).cell? ⟨w.heap.size, 1, none⟩ = some (.slice Ag a.goes.length cg) := by go_simp
  have y0 : (((w.alloc (.cells #[.slice Aa a.comes.length ca, .slice Ag a.goes.length cg] 28)).alloc (.cells #[.slice Ba b.comes.length da, .slice Bg b.goes.length dg] 28)).alloc (.cells #[.slice none 0 0, .slice none 0 0] 28)).cell? ⟨w.heap.size + 1, 0, none⟩ = some (.slice Ba b.comes.length da) := by go_simp
  have y1 : (((w.alloc (.cells #[.slice Aa a.comes.length ca, .slice Ag a.goes.length cg] 28)).alloc (.cells #[.slice Ba b.comes.length da, .slice Bg b.goes.length dg] 28)).alloc (.cells #[.slice none 0 0, .slice none 0 0] 28)).cell? ⟨w.heap.size + 1, 1, none⟩ = some (.slice Bg b.goes.length dg) := by go_simp
  have z0 : (((w.alloc (.cells #[.slice Aa a.comes.length ca, .slice Ag a.goes.length cg] 28)).alloc (.cells #[.slice Ba b.comes.length da, .slice Bg b.goes.length dg] 28)).alloc (.cells #[.slice none 0 0, .slice none 0 0] 28)).cell? ⟨w.heap.size + 2, 0, none⟩ = some (.slice none 0 0) := blk_cell HZ.out
  have z1 : (((w.alloc (.cells #[.slice Aa a.comes.length ca, .slice Ag a.goes.length cg] 28)).alloc (.cells #[.slice Ba b.comes.length da, .slice Bg b.goes.length dg] 28)).alloc (.cells #[.slice none 0 0, .slice none 0 0] 28)).cell? ⟨w.heap.size + 2, 1, none⟩ = some (.slice none 0 0) := blk_cell HZ.out
  have f0 : (((w.alloc (.cells #[.slice Aa a.comes.length ca, .slice Ag a.goes.length cg] 28)).alloc (.cells #[.slice Ba b.comes.length da, .slice Bg b.goes.length dg] 28)).alloc (.cells #[.slice none 0 0, .slice none 0 0] 28)).frozen? ⟨w.heap.size + 2, 0, none⟩ = false := blk_frozen HZ.out
  have f1 : (((w.alloc (.cells #[.slice Aa a.comes.length ca, .slice Ag a.goes.length cg] 28)).alloc (.cells #[.slice Ba b.comes.length da, .slice Bg b.goes.length dg] 28)).alloc (.cells #[.slice none 0 0, .slice none 0 0] 28)).frozen? ⟨w.heap.size + 2, 1, none⟩ = false := blk_frozen HZ.out
  have hn1 : ¬ (w.heap.size = w.heap.size + 1 + 1) := by omega
  have hn2 : ¬ (w.heap.size + 1 + 1 = w.heap.size) := by omega
  have HK1 := Lib.hid k1
  have HK2 := Lib.hid k2
  have HD1 := Lib.hid d1
  have HD2 := Lib.hid d2
  clear h h2 ht hp ht2 hp2 ha hb ga gb k1 k2 d1 d2
  go_enter Try.func26, Try.ntmps26
  go_wp2
  go_region_held3 (fun w' => w'.cell? ⟨w.heap.size, 0, none⟩ = some (.slice Aa a.comes.length ca) ∧ w'.cell? ⟨w.heap.size, 1, none⟩ = some (.slice Ag a.goes.length cg) ∧ w'.cell? ⟨w.heap.size + 1, 0, none⟩ = some (.slice Ba b.comes.length da) ∧ w'.cell? ⟨w.heap.size + 1, 1, none⟩ = some (.slice Bg b.goes.length dg)) (first | go_keep | exact ⟨x0, x1, y0, y1⟩ | (refine ⟨?_, ?_, ?_, ?_⟩ <;> go_simp)) (first
    | (go_at_call 48; refine Calls.mono (HK1.out _ hA.drew) ?_; rintro e w1 ⟨hb1, v1, c1, rfl, hR1⟩; obtain ⟨A1, n1, rfl, _, _⟩ := sliceK_form hR1; have B1 := hA.drew.trans (hb1.mono hA.drew.size); replace HZ := Lib.hid (blk_later hb1 HZ.out); replace x0 := cell_later hb1 x0; replace x1 := cell_later hb1 x1; replace y0 := cell_later hb1 y0; replace y1 := cell_later hb1 y1; replace z0 : w1.cell? ⟨w.heap.size + 2, 0, none⟩ = some (.slice none 0 0) := blk_cell HZ.out; replace z1 : w1.cell? ⟨w.heap.size + 2, 1, none⟩ = some (.slice none 0 0) := blk_cell HZ.out; replace f0 : w1.frozen? ⟨w.heap.size + 2, 0, none⟩ = false := blk_frozen HZ.out; replace f1 : w1.frozen? ⟨w.heap.size + 2, 1, none⟩ = false := blk_frozen HZ.out; have HR1 := Lib.hid hR1; clear hR1; clear HK1)
    | (go_at_call 40; refine Calls.mono (HD1.out _ _ _ B1 HR1.out) ?_; rintro e w2 ⟨hb2, v2, c2, rfl, hR2⟩; obtain ⟨A2, n2, rfl, _, _⟩ := sliceK_form hR2; have B2 := B1.trans (hb2.mono B1.size); replace HZ := Lib.hid (blk_later hb2 HZ.out); replace x0 := cell_later hb2 x0; replace x1 := cell_later hb2 x1; replace y0 := cell_later hb2 y0; replace y1 := cell_later hb2 y1; replace z0 : w2.cell? ⟨w.heap.size + 2, 0, none⟩ = some (.slice none 0 0) := blk_cell HZ.out; replace z1 : w2.cell? ⟨w.heap.size + 2, 1, none⟩ = some (.slice none 0 0) := blk_cell HZ.out; replace f0 : w2.frozen? ⟨w.heap.size + 2, 0, none⟩ = false := blk_frozen HZ.out; replace f1 : w2.frozen? ⟨w.heap.size + 2, 1, none⟩ = false := blk_frozen HZ.out; have HR2 := Lib.hid hR2; clear hR2; clear HD1)
    | (go_at_call 48; refine Calls.mono (HK2.out _ B2) ?_; rintro e w3 ⟨hb3, v3, c3, rfl, hR3⟩; obtain ⟨A3, n3, rfl, _, _⟩ := sliceK_form hR3; have B3 := B2.trans (hb3.mono B2.size); replace HZ := Lib.hid (blk_later hb3 HZ.out); replace x0 := cell_later hb3 x0; replace x1 := cell_later hb3 x1; replace y0 := cell_later hb3 y0; replace y1 := cell_later hb3 y1; replace z0 : w3.cell? ⟨w.heap.size + 2, 0, none⟩ = some (.slice none 0 0) := blk_cell HZ.out; replace z1 : w3.cell? ⟨w.heap.size + 2, 1, none⟩ = some (.slice none 0 0) := blk_cell HZ.out; replace f0 : w3.frozen? ⟨w.heap.size + 2, 0, none⟩ = false := blk_frozen HZ.out; replace f1 : w3.frozen? ⟨w.heap.size + 2, 1, none⟩ = false := blk_frozen HZ.out; have HR3 := Lib.hid hR3; clear hR3; replace HR2 := Lib.hid (atomsK_good.below HR2.out hb3); clear HK2)
    | (go_at_call 40; refine Calls.mono (HD2.out _ _ _ B3 HR3.out) ?_; rintro e w4 ⟨hb4, v4, c4, rfl, hR4⟩; obtain ⟨A4, n4, rfl, _, _⟩ := sliceK_form hR4; have B4 := B3.trans (hb4.mono B3.size); replace HZ := Lib.hid (blk_later hb4 HZ.out); replace x0 := cell_later hb4 x0; replace x1 := cell_later hb4 x1; replace y0 := cell_later hb4 y0; replace y1 := cell_later hb4 y1; replace z0 : w4.cell? ⟨w.heap.size + 2, 0, none⟩ = some (.slice none 0 0) := blk_cell HZ.out; replace z1 : w4.cell? ⟨w.heap.size + 2, 1, none⟩ = some (.slice none 0 0) := blk_cell HZ.out; replace f0 : w4.frozen? ⟨w.heap.size + 2, 0, none⟩ = false := blk_frozen HZ.out; replace f1 : w4.frozen? ⟨w.heap.size + 2, 1, none⟩ = false := blk_frozen HZ.out; have HR4 := Lib.hid hR4; clear hR4; replace HR2 := Lib.hid (atomsK_good.below HR2.out hb4); clear HD2; have HF := Lib.hid (change_put (c := ⟨P1, P2⟩) HZ.out HR2.out HR4.out)))
  go_wp2
  refine bodyPost_ret (v := .agg #[.slice A2 P1.length n2, .slice A4 P2.length n4]) (by simp [results, Try.results26, go_sem, z0, z1]) rfl ⟨(B4.setCell (by dsimp only; omega) _).setCell (by dsimp only; omega) _, _, _, rfl, by rw [HG.out]; exact HF.out⟩

set_option maxRecDepth 100000 in
set_option maxHeartbeats 2000000 in
theorem changeBoth_spec (a b : Ch) (a0 a1 b0 b1 : Value) (bs b2 : List Nat) (w : World) (h : changeK w [a0, a1] a bs) (h2 : changeK w [b0, b1] b b2) :
    Calls Try.prog 7 #[.agg #[a0, a1], .agg #[b0, b1]] w (ReadsCB (bothL a b) w.heap.size w) := by
  obtain ⟨Aa, ca, Ag, cg, rfl, rfl⟩ := change_cells2 h
  obtain ⟨Ba, da, Bg, dg, rfl, rfl⟩ := change_cells2 h2
  have hA : Below w.heap.size w (((w.alloc (.cells #[.slice Aa a.comes.length ca, .slice Ag a.goes.length cg] 28)).alloc (.cells #[.slice Ba b.comes.length da, .slice Bg b.goes.length dg] 28)).alloc (.cells #[.slice none 0 0, .slice none 0 0] 28)) := (((Below.refl _ _).alloc (Nat.le_refl _) _).alloc (by simp) _).alloc (by simp <;> omega) _
  have k1 := fun w' (hb' : Below w.heap.size w w') => changeOk_spec a _ _ _ w' (changeK_good.below h hb')
  have k2 := fun w' (hb' : Below w.heap.size w w') => changeOk_spec b _ _ _ w' (changeK_good.below h2 hb')
  have k4 := fun c0 c1 bs' w' (h' : changeK w' [c0, c1] (bothC a b) bs') => changeOk_spec (bothC a b) c0 c1 bs' w' h'
  have k3 := fun (ha : changeOk a = true) (hb : changeOk b = true) w' (hb' : Below w.heap.size w w') => l3Both_any a b _ _ _ _ _ _ w' (changeK_good.below h hb') (changeK_good.below h2 hb') ha hb
  have HG : Hid (bothL a b = if (changeOk a && changeOk b) = true then (if changeOk (bothC a b) = true then (bothC a b, true) else (⟨[], []⟩, false)) else (⟨[], []⟩, false)) := Lib.hid rfl
  have HZ := Lib.hid (heap_three w (.cells #[.slice Aa a.comes.length ca, .slice Ag a.goes.length cg] 28) (.cells #[.slice Ba b.comes.length da, .slice Bg b.goes.length dg] 28) (.cells #[.slice none 0 0, .slice none 0 0] 28))
  generalize bothL a b = G at *
  generalize changeOk (bothC a b) = z at *
  generalize changeOk a = x at *
  generalize changeOk b = y at *
  generalize bothC a b = C at *
  clear h h2
  have x0 : (((w.alloc (.cells #[.slice Aa a.comes.length ca, .slice Ag a.goes.length cg] 28)).alloc (.cells #[.slice Ba b.comes.length da, .slice Bg b.goes.length dg] 28)).alloc (.cells #[.slice none 0 0, .slice none 0 0] 28)).cell? ⟨w.heap.size, 0, none⟩ = some (.slice Aa a.comes.length ca) := by go_simp
  have x1 : (((w.alloc (.cells #[.slice Aa a.comes.length ca, .slice Ag a.goes.length cg] 28)).alloc (.cells #[.slice Ba b.comes.length da, .slice Bg b.goes.length dg] 28)).alloc (.cells #[.slice none 0 0, .slice none 0 0] 28)).cell? ⟨w.heap.size, 1, none⟩ = some (.slice Ag a.goes.length cg) := by go_simp
  have y0 : (((w.alloc (.cells #[.slice Aa a.comes.length ca, .slice Ag a.goes.length cg] 28)).alloc (.cells #[.slice Ba b.comes.length da, .slice Bg b.goes.length dg] 28)).alloc (.cells #[.slice none 0 0, .slice none 0 0] 28)).cell? ⟨w.heap.size + 1, 0, none⟩ = some (.slice Ba b.comes.length da) := by go_simp
  have y1 : (((w.alloc (.cells #[.slice Aa a.comes.length ca, .slice Ag a.goes.length cg] 28)).alloc (.cells #[.slice Ba b.comes.length da, .slice Bg b.goes.length dg] 28)).alloc (.cells #[.slice none 0 0, .slice none 0 0] 28)).cell? ⟨w.heap.size + 1, 1, none⟩ = some (.slice Bg b.goes.length dg) := by go_simp
  go_enter Try.func7, Try.ntmps7
  go_wp2_with fail
  refine (k1 _ hA).mono ?_
  rintro e w1 ⟨rfl, hb1⟩
  have B1 := hA.trans (hb1.mono hA.size)
  replace HZ := Lib.hid (blk_later hb1 HZ.out)
  replace x0 := cell_later hb1 x0
  replace x1 := cell_later hb1 x1
  replace y0 := cell_later hb1 y0
  replace y1 := cell_later hb1 y1
  clear k1 hA
  cases x
  · have HG2 : Hid (G = (⟨[], []⟩, false)) := Lib.hid (by rw [HG.out]; rfl)
    clear k2 k4 k3
    have z0 : w1.cell? ⟨w.heap.size + 2, 0, none⟩ = some (.slice none 0 0) := blk_cell HZ.out
    have z1 : w1.cell? ⟨w.heap.size + 2, 1, none⟩ = some (.slice none 0 0) := blk_cell HZ.out
    have f0 : w1.frozen? ⟨w.heap.size + 2, 0, none⟩ = false := blk_frozen HZ.out
    have f1 : w1.frozen? ⟨w.heap.size + 2, 1, none⟩ = false := blk_frozen HZ.out
    have HF := Lib.hid (change_put (c := ⟨[], []⟩) HZ.out (atoms_none _) (atoms_none _))
    go_wp2
    refine bodyPost_ret (v := .tuple #[.agg #[.slice none 0 0, .slice none 0 0], .bool false]) (by simp [results, Try.results7, go_sem, z0, z1]) rfl ⟨(B1.setCell (by dsimp only; omega) _).setCell (by dsimp only; omega) _, _, _, by rw [HG2.out], by rw [HG2.out]; exact HF.out⟩
  · have k3a := k3 rfl
    clear k3
    go_wp2_with fail
    refine (k2 _ B1).mono ?_
    rintro e w2 ⟨rfl, hb2⟩
    have B2 := B1.trans (hb2.mono B1.size)
    replace HZ := Lib.hid (blk_later hb2 HZ.out)
    replace x0 := cell_later hb2 x0
    replace x1 := cell_later hb2 x1
    replace y0 := cell_later hb2 y0
    replace y1 := cell_later hb2 y1
    clear k2
    cases y
    · have HG2 : Hid (G = (⟨[], []⟩, false)) := Lib.hid (by rw [HG.out]; rfl)
      clear k4 k3a
      have z0 : w2.cell? ⟨w.heap.size + 2, 0, none⟩ = some (.slice none 0 0) := blk_cell HZ.out
      have z1 : w2.cell? ⟨w.heap.size + 2, 1, none⟩ = some (.slice none 0 0) := blk_cell HZ.out
      have f0 : w2.frozen? ⟨w.heap.size + 2, 0, none⟩ = false := blk_frozen HZ.out
      have f1 : w2.frozen? ⟨w.heap.size + 2, 1, none⟩ = false := blk_frozen HZ.out
      have HF := Lib.hid (change_put (c := ⟨[], []⟩) HZ.out (atoms_none _) (atoms_none _))
      go_wp2
      refine bodyPost_ret (v := .tuple #[.agg #[.slice none 0 0, .slice none 0 0], .bool false]) (by simp [results, Try.results7, go_sem, z0, z1]) rfl ⟨(B2.setCell (by dsimp only; omega) _).setCell (by dsimp only; omega) _, _, _, by rw [HG2.out], by rw [HG2.out]; exact HF.out⟩
    · have Hk3 := Lib.hid (k3a rfl)
      clear k3a
      have HK4 := Lib.hid k4
      clear k4
      go_wp2_with fail
      refine (Hk3.out _ B2).mono ?_
      rintro e w3 ⟨hb3, cs3, b3, rfl, hR3⟩
      obtain ⟨A3, p3, E3, q3, rfl⟩ := change_cells hR3
      have HR3 := Lib.hid hR3
      have B3 := B2.trans (hb3.mono B2.size)
      replace HZ := Lib.hid (blk_later hb3 HZ.out)
      clear hR3
      have hA3 : Below w3.heap.size w3 (w3.alloc (.cells #[.slice A3 C.comes.length p3, .slice E3 C.goes.length q3] 28)) := (Below.refl _ _).alloc (Nat.le_refl _) _
      have k5 := HK4.out _ _ _ _ (changeK_good.below HR3.out hA3)
      go_wp2_with fail
      refine k5.mono ?_
      rintro e w4 ⟨rfl, hc4⟩
      have hb4 : Below w3.heap.size w3 w4 := hA3.trans (hc4.mono hA3.size)
      have B4 := B3.trans (hb4.mono B3.size)
      replace HZ := Lib.hid (blk_later hb4 HZ.out)
      have HR4 := Lib.hid (changeK_good.below HR3.out hb4)
      have g0 : w4.cell? ⟨w3.heap.size, 0, none⟩ = some (.slice A3 C.comes.length p3) := cell_later hc4 (by go_simp)
      have g1 : w4.cell? ⟨w3.heap.size, 1, none⟩ = some (.slice E3 C.goes.length q3) := cell_later hc4 (by go_simp)
      clear k5 hA3
      cases z
      · have HG2 : Hid (G = (⟨[], []⟩, false)) := Lib.hid (by rw [HG.out]; rfl)
        clear g0 g1
        have z0 : w4.cell? ⟨w.heap.size + 2, 0, none⟩ = some (.slice none 0 0) := blk_cell HZ.out
        have z1 : w4.cell? ⟨w.heap.size + 2, 1, none⟩ = some (.slice none 0 0) := blk_cell HZ.out
        have f0 : w4.frozen? ⟨w.heap.size + 2, 0, none⟩ = false := blk_frozen HZ.out
        have f1 : w4.frozen? ⟨w.heap.size + 2, 1, none⟩ = false := blk_frozen HZ.out
        have HF := Lib.hid (change_put (c := ⟨[], []⟩) HZ.out (atoms_none _) (atoms_none _))
        go_wp2
        refine bodyPost_ret (v := .tuple #[.agg #[.slice none 0 0, .slice none 0 0], .bool false]) (by simp [results, Try.results7, go_sem, z0, z1]) rfl ⟨(B4.setCell (by dsimp only; omega) _).setCell (by dsimp only; omega) _, _, _, by rw [HG2.out], by rw [HG2.out]; exact HF.out⟩
      · have HG2 : Hid (G = (C, true)) := Lib.hid (by rw [HG.out]; rfl)
        have z0 : w4.cell? ⟨w.heap.size + 2, 0, none⟩ = some (.slice none 0 0) := blk_cell HZ.out
        have z1 : w4.cell? ⟨w.heap.size + 2, 1, none⟩ = some (.slice none 0 0) := blk_cell HZ.out
        have f0 : w4.frozen? ⟨w.heap.size + 2, 0, none⟩ = false := blk_frozen HZ.out
        have f1 : w4.frozen? ⟨w.heap.size + 2, 1, none⟩ = false := blk_frozen HZ.out
        obtain ⟨e1, e2, rfl, hC4, hD4⟩ := change_parts HR4.out
        have HF := Lib.hid (change_put (c := C) HZ.out hC4 hD4)
        clear hC4 hD4
        go_wp2
        refine bodyPost_ret (v := .tuple #[.agg #[.slice A3 C.comes.length p3, .slice E3 C.goes.length q3], .bool true]) (by simp [results, Try.results7, go_sem, z0, z1]) rfl ⟨(B4.setCell (by dsimp only; omega) _).setCell (by dsimp only; omega) _, _, _, by rw [HG2.out], by rw [HG2.out]; exact HF.out⟩

end Go.Proofs.Ytlmimajgifidhaa

namespace Go.Proofs.Ytlmimajgifidhaa
open Go.RowKit D
set_option linter.unusedVariables false
attribute [local go_sem ↓] Go.wp_at_zero Go.wp_at_succ

theorem D.pair_block {w : World} {t : Nat} {ty : TypeId} {u1 u2 : Value} (v1 v2 : Value) (hT : w.heap[t]? = some (.cells #[u1, u2] ty (0, 0))) :
    ((w.setCell ⟨t, 0, none⟩ v1).setCell ⟨t, 1, none⟩ v2).heap[t]? = some (.cells #[v1, v2] ty (0, 0)) := by
  have hl : t < w.heap.size := lt_of_block hT
  have hT' : w.heap[t] = .cells #[u1, u2] ty (0, 0) := by rw [Array.getElem?_eq_getElem hl] at hT; exact Option.some.inj hT
  simp [World.setCell, hl, Array.getElem_modify, hT']
theorem D.both_early {w w0 : World} {B n t : Nat} {ty : TypeId} {o : Obj} {v1 v2 : Value} {c : Ch} {b1 b2 : List Nat} (hT : w.heap[t]? = some (.cells #[.slice none 0 0, .slice none 0 0] ty (0, 0))) (hB : Below B w0 w) (hZ : w.heap[n]? = some o) (hq : B ≤ n) (hnt : n < t) (h1 : atomsK w [v1] c.comes b1) (h2 : atomsK w [v2] c.goes b2) :
    Below B w0 ((w.setCell ⟨t, 0, none⟩ v1).setCell ⟨t, 1, none⟩ v2) ∧ ((w.setCell ⟨t, 0, none⟩ v1).setCell ⟨t, 1, none⟩ v2).heap[n]? = some o ∧ changeK ((w.setCell ⟨t, 0, none⟩ v1).setCell ⟨t, 1, none⟩ v2) [v1, v2] c (b1 ++ b2) ∧
      ((w.setCell ⟨t, 0, none⟩ v1).setCell ⟨t, 1, none⟩ v2).cell? ⟨t, 0, none⟩ = some v1 ∧ ((w.setCell ⟨t, 0, none⟩ v1).setCell ⟨t, 1, none⟩ v2).cell? ⟨t, 1, none⟩ = some v2 := by
  have hP := pair_block v1 v2 hT
  exact ⟨(hB.setCell (p := ⟨t, 0, none⟩) (by dsimp only; omega) _).setCell (p := ⟨t, 1, none⟩) (by dsimp only; omega) _, by rw [Below.heap_setCell _ _ _ _ (by dsimp only; omega), Below.heap_setCell _ _ _ _ (by dsimp only; omega)]; exact hZ, change_put hT h1 h2, blk_cell hP, blk_cell hP⟩
theorem D.both_late {w w0 : World} {B n : Nat} {ty : TypeId} {o : Obj} {v1 v2 : Value} {c : Ch} {b1 b2 : List Nat} (hB : Below B w0 w) (hZ : w.heap[n]? = some o) (hq : B ≤ n) (h1 : atomsK w [v1] c.comes b1) (h2 : atomsK w [v2] c.goes b2) :
    Below B w0 (w.alloc (.cells #[v1, v2] ty)) ∧ (w.alloc (.cells #[v1, v2] ty)).heap[n]? = some o ∧ changeK (w.alloc (.cells #[v1, v2] ty)) [v1, v2] c (b1 ++ b2) ∧
      (w.alloc (.cells #[v1, v2] ty)).cell? ⟨w.heap.size, 0, none⟩ = some v1 ∧ (w.alloc (.cells #[v1, v2] ty)).cell? ⟨w.heap.size, 1, none⟩ = some v2 := by
  have hA : Below w.heap.size w (w.alloc (.cells #[v1, v2] ty)) := (Below.refl _ _).alloc (Nat.le_refl _) _
  have hP := heap_alloc_new w (.cells #[v1, v2] ty)
  exact ⟨hB.alloc (by have := lt_of_block hZ; omega) _, (hA.block n (lt_of_block hZ)).trans hZ, ⟨v1, v2, b1, b2, rfl, rfl, atomsK_good.below h1 hA, atomsK_good.below h2 hA⟩, blk_cell hP, blk_cell hP⟩

set_option maxRecDepth 100000 in
set_option maxHeartbeats 2000000 in
theorem changeBoth_impl (a b : Ch) (a0 a1 b0 b1 : Value) (bs b2 : List Nat) (w : World) (h : changeK w [a0, a1] a bs) (h2 : changeK w [b0, b1] b b2) :
    Calls Try.prog 9 #[.agg #[a0, a1], .agg #[b0, b1]] w (MakesCB (bothL a b) w.heap.size w) := by
  obtain ⟨Aa, ca, Ag, cg, rfl, rfl⟩ := change_cells2 h
  obtain ⟨Ba, da, Bg, dg, rfl, rfl⟩ := change_cells2 h2
  obtain ⟨p1, p2, rfl, ht, hp⟩ := change_parts h
  obtain ⟨q1, q2, rfl, ht2, hp2⟩ := change_parts h2
  have hA : Below w.heap.size w (((w.alloc (.cells #[.slice Aa a.comes.length ca, .slice Ag a.goes.length cg] 28)).alloc (.cells #[.slice Ba b.comes.length da, .slice Bg b.goes.length dg] 28)).alloc (.cells #[.slice none 0 0, .slice none 0 0] 28)) := (((Below.refl _ _).alloc (Nat.le_refl _) _).alloc (by simp) _).alloc (by simp <;> omega) _
  have k1 := fun w' (hb' : Below w.heap.size w w') => changeOk_impl a _ _ _ w' (changeK_good.below h hb')
  have k2 := fun w' (hb' : Below w.heap.size w w') => changeOk_impl b _ _ _ w' (changeK_good.below h2 hb')
  have k4 := fun c0 c1 bs' w' (h' : changeK w' [c0, c1] (bothC a b) bs') => changeOk_impl (bothC a b) c0 c1 bs' w' h'
  have e1 := fun (ha : changeOk a = true) (hb : changeOk b = true) w' (hb' : Below w.heap.size w w') => without_any a.comes b.goes _ _ p1 q2 w' (atomsK_good.below ht hb') (atomsK_good.below hp2 hb') (by have := factsOk_len (change_oks ha).1; omega) (by have := factsOk_len (change_oks hb).2; omega)
  have d1 : ∀ (ha : changeOk a = true) (hb : changeOk b = true), ∀ v' bs' w', Below w.heap.size w w' → atomsK w' [v'] (onlyL a.comes b.goes) bs' → Calls Try.prog 28 #[.slice Ba b.comes.length da, v'] w' (Reads atomsK (putsA (lessL a.comes b.goes) b.comes) w'.heap.size w') := fun ha hb v' bs' w' hb' h' => by
    have hlo : (onlyL a.comes b.goes).length ≤ 1000000 := by
      rw [onlyL_less (factsOk_asc (change_oks ha).1) (factsOk_asc (change_oks hb).2)]
      exact (few_less (few_facts (change_oks ha).1) _).1
    rw [← union_both (change_oks ha).1 (change_oks hb).2 (change_oks hb).1]
    exact union_any b.comes (onlyL a.comes b.goes) _ v' q1 bs' w' (atomsK_good.below ht2 hb') h' (few_facts (change_oks hb).1).1 hlo
  have e2 := fun (ha : changeOk a = true) (hb : changeOk b = true) w' (hb' : Below w.heap.size w w') => without_any a.goes b.comes _ _ p2 q1 w' (atomsK_good.below hp hb') (atomsK_good.below ht2 hb') (by have := factsOk_len (change_oks ha).2; omega) (by have := factsOk_len (change_oks hb).1; omega)
  have d2 : ∀ (ha : changeOk a = true) (hb : changeOk b = true), ∀ v' bs' w', Below w.heap.size w w' → atomsK w' [v'] (onlyL a.goes b.comes) bs' → Calls Try.prog 28 #[.slice Bg b.goes.length dg, v'] w' (Reads atomsK (putsA (lessL a.goes b.comes) b.goes) w'.heap.size w') := fun ha hb v' bs' w' hb' h' => by
    have hlo : (onlyL a.goes b.comes).length ≤ 1000000 := by
      rw [onlyL_less (factsOk_asc (change_oks ha).2) (factsOk_asc (change_oks hb).1)]
      exact (few_less (few_facts (change_oks ha).2) _).1
    rw [← union_both (change_oks ha).2 (change_oks hb).1 (change_oks hb).2]
    exact union_any b.goes (onlyL a.goes b.comes) _ v' q2 bs' w' (atomsK_good.below hp2 hb') h' (few_facts (change_oks hb).2).1 hlo
  have k5 := fun (ha : changeOk a = true) (hb : changeOk b = true) c0 c1 bs' w' (h' : changeK w' [c0, c1] (bothC a b) bs') => copyChange_any (bothC a b) c0 c1 bs' w' h' ⟨Nat.le_trans (puts_few (change_oks ha).1 (change_oks hb).1).1 (by omega), (puts_few (change_oks ha).1 (change_oks hb).1).2⟩ ⟨Nat.le_trans (puts_few (change_oks ha).2 (change_oks hb).2).1 (by omega), (puts_few (change_oks ha).2 (change_oks hb).2).2⟩
  have HC : Hid (bothC a b = ⟨putsA (lessL a.comes b.goes) b.comes, putsA (lessL a.goes b.comes) b.goes⟩) := Lib.hid rfl
  have HG : Hid (bothL a b = if (changeOk a && changeOk b) = true then (if changeOk (bothC a b) = true then (bothC a b, true) else (⟨[], []⟩, false)) else (⟨[], []⟩, false)) := Lib.hid rfl
  have HZ := Lib.hid (heap_three w (.cells #[.slice Aa a.comes.length ca, .slice Ag a.goes.length cg] 28) (.cells #[.slice Ba b.comes.length da, .slice Bg b.goes.length dg] 28) (.cells #[.slice none 0 0, .slice none 0 0] 28))
  generalize bothL a b = G at *
  generalize changeOk (bothC a b) = z at *
  generalize changeOk a = x at *
  generalize changeOk b = y at *
  generalize putsA (lessL a.comes b.goes) b.comes = P1 at *
  generalize putsA (lessL a.goes b.comes) b.goes = P2 at *
  generalize onlyL a.comes b.goes = M1 at *
  generalize onlyL a.goes b.comes = M2 at *
  generalize bothC a b = C at *
  obtain rfl : C = ⟨P1, P2⟩ := HC.out
  clear HC ht hp ht2 hp2
  clear h h2
  have x0 : (((w.alloc (.cells #[.slice Aa a.comes.length ca, .slice Ag a.goes.length cg] 28)).alloc (.cells #[.slice Ba b.comes.length da, .slice Bg b.goes.length dg] 28)).alloc (.cells #[.slice none 0 0, .slice none 0 0] 28)).cell? ⟨w.heap.size, 0, none⟩ = some (.slice Aa a.comes.length ca) := by go_simp
  have x1 : (((w.alloc (.cells #[.slice Aa a.comes.length ca, .slice Ag a.goes.length cg] 28)).alloc (.cells #[.slice Ba b.comes.length da, .slice Bg b.goes.length dg] 28)).alloc (.cells #[.slice none 0 0, .slice none 0 0] 28)).cell? ⟨w.heap.size, 1, none⟩ = some (.slice Ag a.goes.length cg) := by go_simp
  have y0 : (((w.alloc (.cells #[.slice Aa a.comes.length ca, .slice Ag a.goes.length cg] 28)).alloc (.cells #[.slice Ba b.comes.length da, .slice Bg b.goes.length dg] 28)).alloc (.cells #[.slice none 0 0, .slice none 0 0] 28)).cell? ⟨w.heap.size + 1, 0, none⟩ = some (.slice Ba b.comes.length da) := by go_simp
  have y1 : (((w.alloc (.cells #[.slice Aa a.comes.length ca, .slice Ag a.goes.length cg] 28)).alloc (.cells #[.slice Ba b.comes.length da, .slice Bg b.goes.length dg] 28)).alloc (.cells #[.slice none 0 0, .slice none 0 0] 28)).cell? ⟨w.heap.size + 1, 1, none⟩ = some (.slice Bg b.goes.length dg) := by go_simp
  go_enter Try.func9, Try.ntmps9
  go_wp2_with fail
  refine (k1 _ hA).mono ?_
  rintro e w1 ⟨rfl, hb1⟩
  have B1 := hA.trans (hb1.mono hA.size)
  replace HZ := Lib.hid (blk_later hb1 HZ.out)
  replace x0 := cell_later hb1 x0
  replace x1 := cell_later hb1 x1
  replace y0 := cell_later hb1 y0
  replace y1 := cell_later hb1 y1
  clear k1 hA
  cases x
  · have HG2 : Hid (G = (⟨[], []⟩, false)) := Lib.hid (by rw [HG.out]; rfl)
    clear k2 k4 e1 e2 d1 d2 k5
    have z0 : w1.cell? ⟨w.heap.size + 2, 0, none⟩ = some (.slice none 0 0) := blk_cell HZ.out
    have z1 : w1.cell? ⟨w.heap.size + 2, 1, none⟩ = some (.slice none 0 0) := blk_cell HZ.out
    have f0 : w1.frozen? ⟨w.heap.size + 2, 0, none⟩ = false := blk_frozen HZ.out
    have f1 : w1.frozen? ⟨w.heap.size + 2, 1, none⟩ = false := blk_frozen HZ.out
    have HF := Lib.hid (change_put (c := ⟨[], []⟩) HZ.out (atoms_none _) (atoms_none _))
    go_wp2
    refine bodyPost_ret (v := .tuple #[.agg #[.slice none 0 0, .slice none 0 0], .bool false]) (by simp [results, Try.results9, go_sem, z0, z1]) rfl ⟨(B1.setCell (by dsimp only; omega) _).setCell (by dsimp only; omega) _, _, _, by rw [HG2.out], by rw [HG2.out]; exact HF.out, (by exact New.nil _ _)⟩
  · have e1a := e1 rfl
    have e2a := e2 rfl
    have d1a := d1 rfl
    have d2a := d2 rfl
    have k5a := k5 rfl
    clear e1 e2 d1 d2 k5
    go_wp2_with fail
    refine (k2 _ B1).mono ?_
    rintro e w2 ⟨rfl, hb2⟩
    have B2 := B1.trans (hb2.mono B1.size)
    replace HZ := Lib.hid (blk_later hb2 HZ.out)
    replace x0 := cell_later hb2 x0
    replace x1 := cell_later hb2 x1
    replace y0 := cell_later hb2 y0
    replace y1 := cell_later hb2 y1
    clear k2
    cases y
    · have HG2 : Hid (G = (⟨[], []⟩, false)) := Lib.hid (by rw [HG.out]; rfl)
      clear k4 e1a e2a d1a d2a k5a
      have z0 : w2.cell? ⟨w.heap.size + 2, 0, none⟩ = some (.slice none 0 0) := blk_cell HZ.out
      have z1 : w2.cell? ⟨w.heap.size + 2, 1, none⟩ = some (.slice none 0 0) := blk_cell HZ.out
      have f0 : w2.frozen? ⟨w.heap.size + 2, 0, none⟩ = false := blk_frozen HZ.out
      have f1 : w2.frozen? ⟨w.heap.size + 2, 1, none⟩ = false := blk_frozen HZ.out
      have HF := Lib.hid (change_put (c := ⟨[], []⟩) HZ.out (atoms_none _) (atoms_none _))
      go_wp2
      refine bodyPost_ret (v := .tuple #[.agg #[.slice none 0 0, .slice none 0 0], .bool false]) (by simp [results, Try.results9, go_sem, z0, z1]) rfl ⟨(B2.setCell (by dsimp only; omega) _).setCell (by dsimp only; omega) _, _, _, by rw [HG2.out], by rw [HG2.out]; exact HF.out, (by exact New.nil _ _)⟩
    · have He1 := Lib.hid (e1a rfl)
      have He2 := Lib.hid (e2a rfl)
      have Hd1 := Lib.hid (d1a rfl)
      have Hd2 := Lib.hid (d2a rfl)
      have Hk5 := Lib.hid (k5a rfl)
      clear e1a e2a d1a d2a k5a
      have HK4 := Lib.hid k4
      clear k4
      go_wp2
      go_region_held3 (fun w' => w'.cell? ⟨w.heap.size, 0, none⟩ = some (.slice Aa a.comes.length ca) ∧ w'.cell? ⟨w.heap.size, 1, none⟩ = some (.slice Ag a.goes.length cg) ∧ w'.cell? ⟨w.heap.size + 1, 0, none⟩ = some (.slice Ba b.comes.length da) ∧ w'.cell? ⟨w.heap.size + 1, 1, none⟩ = some (.slice Bg b.goes.length dg)) (first | go_keep | exact ⟨x0, x1, y0, y1⟩ | (refine ⟨?_, ?_, ?_, ?_⟩ <;> go_simp)) (first
        | (go_at_call 29; have hz := He1.out _ (B2.drew); (with_reducible refine Calls.mono hz ?_); clear hz; rintro e w5 ⟨hb5, v5, c5, rfl, hR5⟩; obtain ⟨A5, n5, rfl, _, _⟩ := sliceK_form hR5; have B5 := Below.trans (B2.drew) (hb5.mono (Below.size (B2.drew))); replace HZ := Lib.hid (blk_later hb5 HZ.out); replace x0 := cell_later hb5 x0; replace x1 := cell_later hb5 x1; replace y0 := cell_later hb5 y0; replace y1 := cell_later hb5 y1; (try (replace HT := Lib.hid (blk_later hb5 HT.out); replace u0 : _ = some (Value.slice none 0 0) := blk_cell (o := 0) HT.out; replace u1 : _ = some (Value.slice none 0 0) := blk_cell (o := 1) HT.out; replace uf0 := blk_frozen (o := 0) HT.out; replace uf1 := blk_frozen (o := 1) HT.out)); have HR5 := Lib.hid hR5; clear hR5)
        | (go_at_call 29; have hAp : Below w2.heap.size w2 (w2.alloc (.cells #[.slice none 0 0, .slice none 0 0] 28)).drew := ((Below.refl _ _).alloc (Nat.le_refl _) _).drew; have hAt : Below w.heap.size w (w2.alloc (.cells #[.slice none 0 0, .slice none 0 0] 28)).drew := (B2.alloc B2.size _).drew; have hz := He1.out _ hAt; (with_reducible refine Calls.mono hz ?_); clear hz; rintro e w5 ⟨hb5, v5, c5, rfl, hR5⟩; obtain ⟨A5, n5, rfl, _, _⟩ := sliceK_form hR5; have B5 := Below.trans hAt (hb5.mono (Below.size hAt)); have HQ : Hid (w.heap.size + 2 < w2.heap.size) := Lib.hid (lt_of_block HZ.out); have hq0 : ¬ (w.heap.size = w2.heap.size) := (by have := HQ.out; omega); have hq1 : ¬ (w.heap.size + 1 = w2.heap.size) := (by have := HQ.out; omega); have hq2 : ¬ (w2.heap.size = w.heap.size) := (by have := HQ.out; omega); have hq3 : ¬ (w2.heap.size = w.heap.size + 1) := (by have := HQ.out; omega); replace HZ := Lib.hid (blk_later hb5 (blk_later hAp HZ.out)); replace x0 := cell_later hb5 (cell_later hAp x0); replace x1 := cell_later hb5 (cell_later hAp x1); replace y0 := cell_later hb5 (cell_later hAp y0); replace y1 := cell_later hb5 (cell_later hAp y1); have HT := Lib.hid (blk_later hb5 (heap_alloc_new w2 (.cells #[.slice none 0 0, .slice none 0 0] 28))); have u0 : _ = some (Value.slice none 0 0) := blk_cell (o := 0) HT.out; have u1 : _ = some (Value.slice none 0 0) := blk_cell (o := 1) HT.out; have uf0 := blk_frozen (o := 0) HT.out; have uf1 := blk_frozen (o := 1) HT.out; have HR5 := Lib.hid hR5; clear hR5 hAp hAt)
        | (go_at_call 28; have hz := Hd1.out _ _ _ (B5) HR5.out; (with_reducible refine Calls.mono hz ?_); clear hz; rintro e w6 ⟨hb6, v6, c6, rfl, hR6⟩; obtain ⟨A6, n6, rfl, _, _⟩ := sliceK_form hR6; have B6 := Below.trans (B5) (hb6.mono (Below.size (B5))); replace HZ := Lib.hid (blk_later hb6 HZ.out); replace x0 := cell_later hb6 x0; replace x1 := cell_later hb6 x1; replace y0 := cell_later hb6 y0; replace y1 := cell_later hb6 y1; (try (replace HT := Lib.hid (blk_later hb6 HT.out); replace u0 : _ = some (Value.slice none 0 0) := blk_cell (o := 0) HT.out; replace u1 : _ = some (Value.slice none 0 0) := blk_cell (o := 1) HT.out; replace uf0 := blk_frozen (o := 0) HT.out; replace uf1 := blk_frozen (o := 1) HT.out)); have HR6 := Lib.hid hR6; clear hR6)
        | (go_at_call 28; have hAp : Below w5.heap.size w5 (w5.alloc (.cells #[.slice none 0 0, .slice none 0 0] 28)) := ((Below.refl _ _).alloc (Nat.le_refl _) _); have hAt : Below w.heap.size w (w5.alloc (.cells #[.slice none 0 0, .slice none 0 0] 28)) := (B5.alloc B5.size _); have hz := Hd1.out _ _ _ hAt (atomsK_good.below HR5.out hAp); (with_reducible refine Calls.mono hz ?_); clear hz; rintro e w6 ⟨hb6, v6, c6, rfl, hR6⟩; obtain ⟨A6, n6, rfl, _, _⟩ := sliceK_form hR6; have B6 := Below.trans hAt (hb6.mono (Below.size hAt)); have HQ : Hid (w.heap.size + 2 < w5.heap.size) := Lib.hid (lt_of_block HZ.out); have hq0 : ¬ (w.heap.size = w5.heap.size) := (by have := HQ.out; omega); have hq1 : ¬ (w.heap.size + 1 = w5.heap.size) := (by have := HQ.out; omega); have hq2 : ¬ (w5.heap.size = w.heap.size) := (by have := HQ.out; omega); have hq3 : ¬ (w5.heap.size = w.heap.size + 1) := (by have := HQ.out; omega); replace HZ := Lib.hid (blk_later hb6 (blk_later hAp HZ.out)); replace x0 := cell_later hb6 (cell_later hAp x0); replace x1 := cell_later hb6 (cell_later hAp x1); replace y0 := cell_later hb6 (cell_later hAp y0); replace y1 := cell_later hb6 (cell_later hAp y1); have HT := Lib.hid (blk_later hb6 (heap_alloc_new w5 (.cells #[.slice none 0 0, .slice none 0 0] 28))); have u0 : _ = some (Value.slice none 0 0) := blk_cell (o := 0) HT.out; have u1 : _ = some (Value.slice none 0 0) := blk_cell (o := 1) HT.out; have uf0 := blk_frozen (o := 0) HT.out; have uf1 := blk_frozen (o := 1) HT.out; have HR6 := Lib.hid hR6; clear hR6 hAp hAt)
        | (go_at_call 29; have hz := He2.out _ (B6); (with_reducible refine Calls.mono hz ?_); clear hz; rintro e w7 ⟨hb7, v7, c7, rfl, hR7⟩; obtain ⟨A7, n7, rfl, _, _⟩ := sliceK_form hR7; have B7 := Below.trans (B6) (hb7.mono (Below.size (B6))); replace HZ := Lib.hid (blk_later hb7 HZ.out); replace x0 := cell_later hb7 x0; replace x1 := cell_later hb7 x1; replace y0 := cell_later hb7 y0; replace y1 := cell_later hb7 y1; (try (replace HT := Lib.hid (blk_later hb7 HT.out); replace u0 : _ = some (Value.slice none 0 0) := blk_cell (o := 0) HT.out; replace u1 : _ = some (Value.slice none 0 0) := blk_cell (o := 1) HT.out; replace uf0 := blk_frozen (o := 0) HT.out; replace uf1 := blk_frozen (o := 1) HT.out)); replace HR6 := Lib.hid (atomsK_good.below HR6.out hb7); have HR7 := Lib.hid hR7; clear hR7)
        | (go_at_call 29; have hAp : Below w6.heap.size w6 (w6.alloc (.cells #[.slice none 0 0, .slice none 0 0] 28)) := ((Below.refl _ _).alloc (Nat.le_refl _) _); have hAt : Below w.heap.size w (w6.alloc (.cells #[.slice none 0 0, .slice none 0 0] 28)) := (B6.alloc B6.size _); have hz := He2.out _ hAt; (with_reducible refine Calls.mono hz ?_); clear hz; rintro e w7 ⟨hb7, v7, c7, rfl, hR7⟩; obtain ⟨A7, n7, rfl, _, _⟩ := sliceK_form hR7; have B7 := Below.trans hAt (hb7.mono (Below.size hAt)); have HQ : Hid (w.heap.size + 2 < w6.heap.size) := Lib.hid (lt_of_block HZ.out); have hq0 : ¬ (w.heap.size = w6.heap.size) := (by have := HQ.out; omega); have hq1 : ¬ (w.heap.size + 1 = w6.heap.size) := (by have := HQ.out; omega); have hq2 : ¬ (w6.heap.size = w.heap.size) := (by have := HQ.out; omega); have hq3 : ¬ (w6.heap.size = w.heap.size + 1) := (by have := HQ.out; omega); replace HZ := Lib.hid (blk_later hb7 (blk_later hAp HZ.out)); replace x0 := cell_later hb7 (cell_later hAp x0); replace x1 := cell_later hb7 (cell_later hAp x1); replace y0 := cell_later hb7 (cell_later hAp y0); replace y1 := cell_later hb7 (cell_later hAp y1); have HT := Lib.hid (blk_later hb7 (heap_alloc_new w6 (.cells #[.slice none 0 0, .slice none 0 0] 28))); have u0 : _ = some (Value.slice none 0 0) := blk_cell (o := 0) HT.out; have u1 : _ = some (Value.slice none 0 0) := blk_cell (o := 1) HT.out; have uf0 := blk_frozen (o := 0) HT.out; have uf1 := blk_frozen (o := 1) HT.out; replace HR6 := Lib.hid (atomsK_good.below (atomsK_good.below HR6.out hAp) hb7); have HR7 := Lib.hid hR7; clear hR7 hAp hAt)
        | (go_at_call 28; have hz := Hd2.out _ _ _ (B7) HR7.out; (with_reducible refine Calls.mono hz ?_); clear hz; rintro e w8 ⟨hb8, v8, c8, rfl, hR8⟩; obtain ⟨A8, n8, rfl, _, _⟩ := sliceK_form hR8; have B8 := Below.trans (B7) (hb8.mono (Below.size (B7))); replace HZ := Lib.hid (blk_later hb8 HZ.out); replace x0 := cell_later hb8 x0; replace x1 := cell_later hb8 x1; replace y0 := cell_later hb8 y0; replace y1 := cell_later hb8 y1; (try (replace HT := Lib.hid (blk_later hb8 HT.out); replace u0 : _ = some (Value.slice none 0 0) := blk_cell (o := 0) HT.out; replace u1 : _ = some (Value.slice none 0 0) := blk_cell (o := 1) HT.out; replace uf0 := blk_frozen (o := 0) HT.out; replace uf1 := blk_frozen (o := 1) HT.out)); replace HR6 := Lib.hid (atomsK_good.below HR6.out hb8); have HR8 := Lib.hid hR8; clear hR8)
        | (go_at_call 28; have hAp : Below w7.heap.size w7 (w7.alloc (.cells #[.slice none 0 0, .slice none 0 0] 28)) := ((Below.refl _ _).alloc (Nat.le_refl _) _); have hAt : Below w.heap.size w (w7.alloc (.cells #[.slice none 0 0, .slice none 0 0] 28)) := (B7.alloc B7.size _); have hz := Hd2.out _ _ _ hAt (atomsK_good.below HR7.out hAp); (with_reducible refine Calls.mono hz ?_); clear hz; rintro e w8 ⟨hb8, v8, c8, rfl, hR8⟩; obtain ⟨A8, n8, rfl, _, _⟩ := sliceK_form hR8; have B8 := Below.trans hAt (hb8.mono (Below.size hAt)); have HQ : Hid (w.heap.size + 2 < w7.heap.size) := Lib.hid (lt_of_block HZ.out); have hq0 : ¬ (w.heap.size = w7.heap.size) := (by have := HQ.out; omega); have hq1 : ¬ (w.heap.size + 1 = w7.heap.size) := (by have := HQ.out; omega); have hq2 : ¬ (w7.heap.size = w.heap.size) := (by have := HQ.out; omega); have hq3 : ¬ (w7.heap.size = w.heap.size + 1) := (by have := HQ.out; omega); replace HZ := Lib.hid (blk_later hb8 (blk_later hAp HZ.out)); replace x0 := cell_later hb8 (cell_later hAp x0); replace x1 := cell_later hb8 (cell_later hAp x1); replace y0 := cell_later hb8 (cell_later hAp y0); replace y1 := cell_later hb8 (cell_later hAp y1); have HT := Lib.hid (blk_later hb8 (heap_alloc_new w7 (.cells #[.slice none 0 0, .slice none 0 0] 28))); have u0 : _ = some (Value.slice none 0 0) := blk_cell (o := 0) HT.out; have u1 : _ = some (Value.slice none 0 0) := blk_cell (o := 1) HT.out; have uf0 := blk_frozen (o := 0) HT.out; have uf1 := blk_frozen (o := 1) HT.out; replace HR6 := Lib.hid (atomsK_good.below (atomsK_good.below HR6.out hAp) hb8); have HR8 := Lib.hid hR8; clear hR8 hAp hAt))
      all_goals
        first
          | (have hE := both_early (c := ⟨P1, P2⟩) HT.out B8 HZ.out (Nat.le_add_right _ 2) (by have := HQ.out; omega) HR6.out HR8.out)
          | (have hE := both_late (ty := 28) (c := ⟨P1, P2⟩) B8 HZ.out (Nat.le_add_right _ 2) HR6.out HR8.out)
        obtain ⟨B9, hZ9, hR9, g0, g1⟩ := hE
        replace HZ := Lib.hid hZ9
        have HR9 := Lib.hid hR9
        have k6 := HK4.out _ _ _ _ hR9
        clear hZ9 hR9
        clear x0 x1 y0 y1
        (try clear u0 u1 uf0 uf1 HT)
        (try clear hq0 hq1 hq2 hq3)
        go_wp2_with fail
        refine k6.mono ?_
        rintro e w10 ⟨rfl, hb10⟩
        have B10 := B9.trans (hb10.mono B9.size)
        replace HZ := Lib.hid (blk_later hb10 HZ.out)
        replace HR9 := Lib.hid (changeK_good.below HR9.out hb10)
        replace g0 := cell_later hb10 g0
        replace g1 := cell_later hb10 g1
        clear k6
        cases z
        · have HG2 : Hid (G = (⟨[], []⟩, false)) := Lib.hid (by rw [HG.out]; rfl)
          clear g0 g1
          have z0 : w10.cell? ⟨w.heap.size + 2, 0, none⟩ = some (.slice none 0 0) := blk_cell HZ.out
          have z1 : w10.cell? ⟨w.heap.size + 2, 1, none⟩ = some (.slice none 0 0) := blk_cell HZ.out
          have f0 : w10.frozen? ⟨w.heap.size + 2, 0, none⟩ = false := blk_frozen HZ.out
          have f1 : w10.frozen? ⟨w.heap.size + 2, 1, none⟩ = false := blk_frozen HZ.out
          have HF := Lib.hid (change_put (c := ⟨[], []⟩) HZ.out (atoms_none _) (atoms_none _))
          go_wp2
          refine bodyPost_ret (v := .tuple #[.agg #[.slice none 0 0, .slice none 0 0], .bool false]) (by simp [results, Try.results9, go_sem, z0, z1]) rfl ⟨(B10.setCell (by dsimp only; omega) _).setCell (by dsimp only; omega) _, _, _, by rw [HG2.out], by rw [HG2.out]; exact HF.out, (by exact New.nil _ _)⟩
        · have HG2 : Hid (G = (⟨P1, P2⟩, true)) := Lib.hid (by rw [HG.out]; rfl)
          have k7 := Hk5.out _ _ _ _ HR9.out
          go_wp2_with fail
          refine k7.mono ?_
          rintro e w11 ⟨hb11, cs11, b11, rfl, hR11, hN11⟩
          obtain ⟨A11, c11, E11, e11, rfl⟩ := change_cells hR11
          obtain ⟨d1, d2, rfl, hC11, hD11⟩ := change_parts hR11
          have B11 := B10.trans (hb11.mono B10.size)
          replace HZ := Lib.hid (blk_later hb11 HZ.out)
          have z0 : w11.cell? ⟨w.heap.size + 2, 0, none⟩ = some (.slice none 0 0) := blk_cell HZ.out
          have z1 : w11.cell? ⟨w.heap.size + 2, 1, none⟩ = some (.slice none 0 0) := blk_cell HZ.out
          have f0 : w11.frozen? ⟨w.heap.size + 2, 0, none⟩ = false := blk_frozen HZ.out
          have f1 : w11.frozen? ⟨w.heap.size + 2, 1, none⟩ = false := blk_frozen HZ.out
          have HF := Lib.hid (change_put (c := ⟨P1, P2⟩) HZ.out hC11 hD11)
          have HN := Lib.hid (hN11.mono B10.size)
          clear hR11 hC11 hD11 hN11 k7
          go_wp2
          refine bodyPost_ret (v := .tuple #[.agg #[.slice A11 P1.length c11, .slice E11 P2.length e11], .bool true]) (by simp [results, Try.results9, go_sem, z0, z1]) rfl ⟨(B11.setCell (by dsimp only; omega) _).setCell (by dsimp only; omega) _, _, _, by rw [HG2.out], by rw [HG2.out]; exact HF.out, (HN.out.setc _ _).setc _ _⟩

end Go.Proofs.Ytlmimajgifidhaa
