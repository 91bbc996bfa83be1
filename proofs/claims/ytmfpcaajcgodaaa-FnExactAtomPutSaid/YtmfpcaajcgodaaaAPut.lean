/- The walks of AtomPut, the program's and the reference's. -/
import Derived.Test.YtmfpcaajcgodaaaTxt
import Derived.Test.YtmfpcaajcgodaaaEq
namespace Go.Proofs.Ytmfpcaajcgodaaa
open Go.RowKit D
set_option linter.unusedVariables false

def D.putA (a : A) : ByteArray := if atomOk a then ⟨(putL a).toArray⟩ else ⟨#[]⟩

set_option maxHeartbeats 400000 in
theorem atomPut_spec (a : A) (c0 c1 : Value) (bs : List Nat) (w : World) (h : atomK w [c0, c1] a bs) (hn : bulkA a ≤ 16777216) :
    Calls Try.prog 6 #[.agg #[c0, c1]] w fun e w' => e = .returned (.string (putA a)) ∧ Below w.heap.size w w' := by
  obtain ⟨Ad, cap, rfl, rfl⟩ := atom_cells2 h
  have hok := fun w' (hb : Below w.heap.size w w') => atomOk_spec a _ _ bs w' (atomK_good.below h hb)
  have hpt := fun w' (hb : Below w.heap.size w w') => l1Put_any a _ _ bs w' (atomK_good.below h hb) hn
  unfold putA
  generalize atomOk a = b at *
  clear h
  have hA := (Below.refl w.heap.size w).alloc (Nat.le_refl _) (.cells #[.string a.name, .slice Ad a.args.length cap] 29)
  go_enter Try.func6, Try.ntmps6
  go_wp2_with fail
  refine (hok _ hA).mono ?_
  rintro e w1 ⟨rfl, hb1⟩
  have B1 := hA.trans (hb1.mono hA.size)
  have x0 : w1.cell? ⟨w.heap.size, 0, none⟩ = some (.string a.name) := cell_later hb1 (by go_simp)
  have x1 : w1.cell? ⟨w.heap.size, 1, none⟩ = some (.slice Ad a.args.length cap) := cell_later hb1 (by go_simp)
  cases b
  · go_wp2
    go_ret
    exact ⟨rfl, B1⟩
  · go_wp2_with fail
    refine (hpt _ B1).mono ?_
    rintro e w2 ⟨rfl, hb2⟩
    go_wp2
    go_ret
    exact ⟨rfl, B1.trans (hb2.mono B1.size)⟩

set_option maxHeartbeats 400000 in
theorem atomPut_impl (a : A) (c0 c1 : Value) (bs : List Nat) (w : World) (h : atomK w [c0, c1] a bs) (hn : bulkA a ≤ 16777216) :
    Calls Try.prog 8 #[.agg #[c0, c1]] w fun e w' => e = .returned (.string (putA a)) ∧ Below w.heap.size w w' := by
  obtain ⟨Ad, cap, rfl, rfl⟩ := atom_cells2 h
  have hok := fun w' (hb : Below w.heap.size w w') => atomOk_impl a _ _ bs w' (atomK_good.below h hb)
  have hpt := fun w' (hb : Below w.heap.size w w') => atomText_any a _ _ bs w' (atomK_good.below h hb) hn
  unfold putA
  generalize atomOk a = b at *
  clear h
  have hA := (Below.refl w.heap.size w).alloc (Nat.le_refl _) (.cells #[.string a.name, .slice Ad a.args.length cap] 29)
  go_enter Try.func8, Try.ntmps8
  go_wp2_with fail
  refine (hok _ hA).mono ?_
  rintro e w1 ⟨rfl, hb1⟩
  have B1 := hA.trans (hb1.mono hA.size)
  have x0 : w1.cell? ⟨w.heap.size, 0, none⟩ = some (.string a.name) := cell_later hb1 (by go_simp)
  have x1 : w1.cell? ⟨w.heap.size, 1, none⟩ = some (.slice Ad a.args.length cap) := cell_later hb1 (by go_simp)
  cases b
  · go_wp2
    go_ret
    exact ⟨rfl, B1⟩
  · go_wp2_with fail
    refine (hpt _ B1).mono ?_
    rintro e w2 ⟨rfl, hb2⟩
    go_wp2
    go_ret
    exact ⟨rfl, B1.trans (hb2.mono B1.size)⟩

end Go.Proofs.Ytmfpcaajcgodaaa
