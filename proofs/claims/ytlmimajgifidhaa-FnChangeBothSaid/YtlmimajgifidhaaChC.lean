/- The walk of copyChange. -/
import Derived.WalkKit
import Derived.Lib.Hide
import Derived.WalkSpells
import Derived.WalkLawsBesides
import Derived.BigQuiet
import Derived.Deep.RegionHeld3
import Derived.Deep.RegionWith
import Derived.Deep.RegionLaw
import Derived.Deep.DrawnRows
import Derived.Test.YtlmimajgifidhaaProg
import Derived.Test.YtlmimajgifidhaaCopy
import Derived.Test.YtlmimajgifidhaaChP
namespace Go.Proofs.Ytlmimajgifidhaa
open Go.RowKit D
set_option linter.unusedVariables false
attribute [local go_sem ↓] Go.wp_at_zero Go.wp_at_succ

set_option maxRecDepth 100000 in
set_option maxHeartbeats 1000000 in
theorem copyChange_any (c : Ch) (c0 c1 : Value) (bs : List Nat) (w : World) (h : changeK w [c0, c1] c bs) (h1 : fewA c.comes) (h2 : fewA c.goes) :
    Calls Try.prog 30 #[.agg #[c0, c1]] w (MakesC c w.heap.size w) := by
  obtain ⟨Ad, cap, Ae, cape, rfl, rfl⟩ := change_cells2 h
  obtain ⟨b1, b2, rfl, ht, hp⟩ := change_parts h
  have k1 := fun w' (hb : Below w.heap.size w w') => copyAtoms_any c.comes _ b1 w' (atomsK_good.below ht hb) (Nat.le_trans h1.1 (by omega)) h1.2
  have k2 := fun w' (hb : Below w.heap.size w w') => copyAtoms_any c.goes _ b2 w' (atomsK_good.below hp hb) (Nat.le_trans h2.1 (by omega)) h2.2
  clear h ht hp h1 h2
  have hA0 : Below w.heap.size w ((w.alloc (.cells #[.slice Ad c.comes.length cap, .slice Ae c.goes.length cape] 28)).alloc (.cells #[.slice none 0 0, .slice none 0 0] 28)) := ((Below.refl _ _).alloc (Nat.le_refl _) _).alloc (by simp) _
  have HZ0 := Lib.hid (blk_drew (new_two w (.cells #[.slice Ad c.comes.length cap, .slice Ae c.goes.length cape] 28) (.cells #[.slice none 0 0, .slice none 0 0] 28)))
  have x0 : ((w.alloc (.cells #[.slice Ad c.comes.length cap, .slice Ae c.goes.length cape] 28)).alloc (.cells #[.slice none 0 0, .slice none 0 0] 28)).cell? ⟨w.heap.size, 0, none⟩ = some (.slice Ad c.comes.length cap) := by go_simp
  have x1 : ((w.alloc (.cells #[.slice Ad c.comes.length cap, .slice Ae c.goes.length cape] 28)).alloc (.cells #[.slice none 0 0, .slice none 0 0] 28)).cell? ⟨w.heap.size, 1, none⟩ = some (.slice Ae c.goes.length cape) := by go_simp
  go_enter Try.func30, Try.ntmps30
  go_wp2
  go_region_held3 (fun w' => w'.cell? ⟨w.heap.size, 0, none⟩ = some (.slice Ad c.comes.length cap) ∧ w'.cell? ⟨w.heap.size, 1, none⟩ = some (.slice Ae c.goes.length cape))
    (first | go_keep | exact ⟨x0, x1⟩)
    (first
      | (have _hh := B1; go_at_call 38; refine (k2 _ B1).mono ?_; rintro e w2 ⟨hb2, v2, b4, rfl, hR2, hN2⟩; obtain ⟨A2, p2, rfl, _, _⟩ := sliceK_form hR2; have B2 := B1.trans (hb2.mono B1.size); replace x0 := cell_later hb2 x0; replace x1 := cell_later hb2 x1; have HZ := Lib.hid (blk_later hb2 HZ1.out); have z0 : w2.cell? ⟨w.heap.size + 1, 0, none⟩ = some (.slice none 0 0) := blk_cell HZ.out; have z1 : w2.cell? ⟨w.heap.size + 1, 1, none⟩ = some (.slice none 0 0) := blk_cell HZ.out; have f0 : w2.frozen? ⟨w.heap.size + 1, 0, none⟩ = false := blk_frozen HZ.out; have f1 : w2.frozen? ⟨w.heap.size + 1, 1, none⟩ = false := blk_frozen HZ.out; have HF := Lib.hid (And.intro (change_put (c := c) HZ.out (atomsK_good.below hR1 hb2) hR2) (New.append ((hN1.below hb2).mono hA0.drew.size) hN2 B1.size (atomsK_good.lt hR1))); clear hR1 hN1 hR2 hN2)
      | (go_at_call 38; refine (k1 _ hA0.drew).mono ?_; rintro e w1 ⟨hb1, v1, b3, rfl, hR1, hN1⟩; obtain ⟨A1, p1, rfl, _, _⟩ := sliceK_form hR1; have B1 := hA0.drew.trans (hb1.mono hA0.drew.size); replace x0 := cell_later hb1 x0; replace x1 := cell_later hb1 x1; have HZ1 := Lib.hid (blk_later hb1 HZ0.out)))
  go_wp2
  refine bodyPost_ret (v := .agg #[.slice A1 c.comes.length p1, .slice A2 c.goes.length p2]) (by simp [results, Try.results30, go_sem, z0, z1]) rfl ⟨(B2.setCell (by simp) _).setCell (by simp) _, _, _, rfl, HF.out.1, (HF.out.2.setc _ _).setc _ _⟩

end Go.Proofs.Ytlmimajgifidhaa
