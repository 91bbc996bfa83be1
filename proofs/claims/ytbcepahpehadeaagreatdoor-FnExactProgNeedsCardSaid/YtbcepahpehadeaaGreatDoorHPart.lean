/- The walks of szPart, toPart, eqPart. -/
import Derived.Deep.RegionHeld3
import Derived.Deep.RegionWith
import Derived.BigQuiet
import Derived.Deep.DrawnRows
import Derived.WalkKit
import Derived.WalkSpells
import Derived.WalkLawsBesides
import Derived.Lib.Hide
import Derived.Lib.IndexBytes
import Derived.Deep.Slices
import Derived.Deep.Fields
import Derived.ChangeSame
import Derived.Deep.Draws
import Derived.Test.YtbcepahpehadeaaGreatDoorBulk
import Derived.Test.YtbcepahpehadeaaGreatDoorEqP
namespace Go.Proofs.YtbcepahpehadeaaGreatDoor
open Go.RowKit D
set_option linter.unusedVariables false

set_option maxHeartbeats 400000 in
theorem szPart_any (p : Pt) (c0 c1 c2 : Value) (bs : List Nat) (left : Int) (w : World) (h : partK w [c0, c1, c2] p bs) (h0 : 0 ≤ left) (h1 : left ≤ 1048576) :
    Calls Tryz.prog 73 #[.agg #[c0, c1, c2], .int .i64 left] w (Left left (bulkPt p) w.heap.size w) := by
  have ha := part_atom h
  obtain ⟨Ad, cap, rfl, rfl, rfl⟩ := part_cells2 h
  have hq := fun w' (hb : Below w.heap.size w w') => szAtom_any p.atom _ _ bs left w' (atomK_good.below ha hb) h0 h1
  have hbk : bulkPt p = bulkA p.atom := rfl
  rw [hbk]
  clear h ha hbk
  have hA := (Below.refl w.heap.size w).alloc (Nat.le_refl _) (.cells #[.bool p.no, .string p.atom.name, .slice Ad p.atom.args.length cap] 108)
  go_enter Tryz.func73, Tryz.ntmps73
  go_wp2_with fail
  refine (hq _ hA).mono ?_
  rintro e w' ⟨hb', r, rfl, hr⟩
  have hB := hA.trans (hb'.mono hA.size)
  go_wp2
  · rcases hr with rfl | ⟨_, _⟩
    · go_ret
      exact ⟨hB, _, rfl, .inl rfl⟩
    · exfalso; omega
  · rcases hr with rfl | ⟨hr0, hr1⟩
    · exfalso; omega
    · go_ret
      exact ⟨hB, _, rfl, .inr ⟨hr0, hr1⟩⟩

set_option maxHeartbeats 400000 in
theorem toPart_b (p : Pt) (c0 c1 c2 : Value) (bs : List Nat) (w : World) (h : partK w [c0, c1, c2] p bs) (hn : bulkPt p ≤ 1048576) :
    Calls Tryz.prog 80 #[.agg #[c0, c1, c2]] w (MakesA partK p w.heap.size w) := by
  have ha := part_atom h
  have hnm : p.atom.name.size ≤ maxLen := by obtain ⟨_, _, hn, _⟩ := h; exact hn
  obtain ⟨Ad, cap, rfl, rfl, rfl⟩ := part_cells2 h
  have hq := fun w' (hb : Below w.heap.size w w') => toAtom_b p.atom _ _ bs w' (atomK_good.below ha hb) hn
  clear h ha
  have hA := (((Below.refl w.heap.size w).alloc (Nat.le_refl _) (.cells #[.bool p.no, .string p.atom.name, .slice Ad p.atom.args.length cap] 108)).alloc (by simp) (.cells #[.bool false, .string ⟨#[]⟩, .slice none 0 0] 54)).alloc (by simp; omega) (.cells #[.bool p.no, .string ⟨#[]⟩, .slice none 0 0] 54)
  go_enter Tryz.func80, Tryz.ntmps80
  go_wp2_with fail
  refine (hq _ hA).mono ?_
  rintro e w' ⟨hb', cs', bs', rfl, hR, hN⟩
  obtain ⟨Ae, ce, rfl⟩ := atom_cells hR
  have hB : Below w.heap.size w w' := hA.trans (hb'.mono hA.size)
  have k0 : w'.cell? ⟨w.heap.size + 1 + 1, 0, none⟩ = some (.bool p.no) := cell_later hb' (by go_simp)
  have k1 : w'.cell? ⟨w.heap.size + 1 + 1, 1, none⟩ = some (.string ⟨#[]⟩) := cell_later hb' (by go_simp)
  have k2 : w'.cell? ⟨w.heap.size + 1 + 1, 2, none⟩ = some (.slice none 0 0) := cell_later hb' (by go_simp)
  have l0 : w'.cell? ⟨w.heap.size + 1, 0, none⟩ = some (.bool false) := cell_later hb' (by go_simp)
  have l1 : w'.cell? ⟨w.heap.size + 1, 1, none⟩ = some (.string ⟨#[]⟩) := cell_later hb' (by go_simp)
  have l2 : w'.cell? ⟨w.heap.size + 1, 2, none⟩ = some (.slice none 0 0) := cell_later hb' (by go_simp)
  have f1 : w'.frozen? ⟨w.heap.size + 1 + 1, 1, none⟩ = false := (hb'.frozen (p := ⟨w.heap.size + 1 + 1, 1, none⟩) (by simp)).trans (by go_simp)
  have f2 : w'.frozen? ⟨w.heap.size + 1 + 1, 2, none⟩ = false := (hb'.frozen (p := ⟨w.heap.size + 1 + 1, 2, none⟩) (by simp)).trans (by go_simp)
  have g0 : w'.frozen? ⟨w.heap.size + 1, 0, none⟩ = false := (hb'.frozen (p := ⟨w.heap.size + 1, 0, none⟩) (by simp)).trans (by go_simp)
  have g1 : w'.frozen? ⟨w.heap.size + 1, 1, none⟩ = false := (hb'.frozen (p := ⟨w.heap.size + 1, 1, none⟩) (by simp)).trans (by go_simp)
  have g2 : w'.frozen? ⟨w.heap.size + 1, 2, none⟩ = false := (hb'.frozen (p := ⟨w.heap.size + 1, 2, none⟩) (by simp)).trans (by go_simp)
  have hge : ∀ b ∈ bs', w.heap.size + 1 + 1 < b := fun b hb => by have := (hN.own b hb).1; simp at this; omega
  have ht := atom_args hR
  go_wp2
  have hk : ∀ b ∈ bs', (((((w'.setCell ⟨w.heap.size + 1 + 1, 1, none⟩ (.string p.atom.name)).setCell ⟨w.heap.size + 1 + 1, 2, none⟩ (.slice Ae p.atom.args.length ce)).setCell ⟨w.heap.size + 1, 0, none⟩ (.bool p.no)).setCell ⟨w.heap.size + 1, 1, none⟩ (.string p.atom.name)).setCell ⟨w.heap.size + 1, 2, none⟩ (.slice Ae p.atom.args.length ce)).heap[b]? = w'.heap[b]? := fun b hb => by
    have := hge b hb
    rw [Below.heap_setCell _ _ _ _ (by simp; omega), Below.heap_setCell _ _ _ _ (by simp; omega), Below.heap_setCell _ _ _ _ (by simp; omega), Below.heap_setCell _ _ _ _ (by simp; omega), Below.heap_setCell _ _ _ _ (by simp; omega)]
  exact bodyPost_ret (v := .agg #[.bool p.no, .string p.atom.name, .slice Ae p.atom.args.length ce]) (by simp [results, Tryz.results80, go_sem, l0, l1, l2]) rfl
    ⟨((((hB.setCell (by simp; omega) _).setCell (by simp; omega) _).setCell (by simp) _).setCell (by simp) _).setCell (by simp) _, _, bs', rfl,
      ⟨_, rfl, hnm, termsK_good.keep ht hk⟩, (hN.keep hk).mono (by simp; omega)⟩

end Go.Proofs.YtbcepahpehadeaaGreatDoor
