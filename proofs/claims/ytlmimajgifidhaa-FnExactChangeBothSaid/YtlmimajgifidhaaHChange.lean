/- The walks of szChange, toChange, eqChange. -/
import Derived.Test.YtlmimajgifidhaaHAtomS
namespace Go.Proofs.Ytlmimajgifidhaa
open Go.RowKit D
set_option linter.unusedVariables false

set_option maxHeartbeats 400000 in
theorem szChange_any (r : Ch) (c0 c1 : Value) (bs : List Nat) (left : Int) (w : World) (h : changeK w [c0, c1] r bs) (h0 : 0 ≤ left) (h1 : left ≤ 1048576) :
    Calls Try.prog 6 #[.agg #[c0, c1], .int .i64 left] w (Left left (bulkC r) w.heap.size w) := by
  obtain ⟨b1, b2, rfl, hp, hq⟩ := change_parts h
  obtain ⟨Ad, cap, Ae, cape, rfl, rfl⟩ := change_cells2 h
  have q1 := fun w' (hb : Below w.heap.size w w') => szAtomS_any r.comes _ b1 left w' (atomsK_good.below hp hb) h0 h1
  have q2 := fun l (g0 : 0 ≤ l) (g1 : l ≤ 1048576) w' (hb : Below w.heap.size w w') => szAtomS_any r.goes _ b2 l w' (atomsK_good.below hq hb) g0 g1
  have hbk : bulkC r = bulkAs r.comes + bulkAs r.goes := rfl
  have HB := Lib.hid hbk
  clear h hp hq hbk
  have hA := (Below.refl w.heap.size w).alloc (Nat.le_refl _) (.cells #[.slice Ad r.comes.length cap, .slice Ae r.goes.length cape] 24)
  go_enter Try.func6, Try.ntmps6
  go_wp2_with fail
  refine (q1 _ hA).mono ?_
  rintro e w1 ⟨hb1, z, rfl, hr⟩
  have B1 := hA.trans (hb1.mono hA.size)
  have x0 : w1.cell? ⟨w.heap.size, 0, none⟩ = some (.slice Ad r.comes.length cap) := cell_later hb1 (by go_simp)
  have x1 : w1.cell? ⟨w.heap.size, 1, none⟩ = some (.slice Ae r.goes.length cape) := cell_later hb1 (by go_simp)
  clear q1 hA
  rcases hr with rfl | ⟨hr0, hr1⟩
  · go_wp2
    go_ret
    exact ⟨B1, _, rfl, .inl rfl⟩
  · go_wp2_with fail
    refine (q2 z hr0 (by omega) _ B1).mono ?_
    rintro e w2 ⟨hb2, z2, rfl, hr2⟩
    have B2 := B1.trans (hb2.mono B1.size)
    rcases hr2 with rfl | ⟨hr3, hr4⟩
    · go_wp2
      go_ret
      exact ⟨B2, _, rfl, .inl rfl⟩
    · go_wp2
      go_ret
      exact ⟨B2, _, rfl, .inr ⟨hr3, by rw [HB.out]; omega⟩⟩

set_option maxHeartbeats 400000 in
theorem eqChange_same (r : Ch) (c0 c1 d0 d1 : Value) (b1 b2 : List Nat) (w : World) (h1 : changeK w [c0, c1] r b1) (h2 : changeK w [d0, d1] r b2) :
    Calls Try.prog 10 #[.agg #[c0, c1], .agg #[d0, d1]] w (Yes w.heap.size w) := by
  obtain ⟨b11, b12, rfl, p1, q1⟩ := change_parts h1
  obtain ⟨b21, b22, rfl, p2, q2⟩ := change_parts h2
  obtain ⟨Ad, cap, Ae, cape, rfl, rfl⟩ := change_cells2 h1
  obtain ⟨Ad2, cap2, Ae2, cape2, rfl, rfl⟩ := change_cells2 h2
  have e1 := fun w' (hb : Below w.heap.size w w') => eqAtomS_same r.comes _ _ b11 b21 w' (atomsK_good.below p1 hb) (atomsK_good.below p2 hb)
  have e2 := fun w' (hb : Below w.heap.size w w') => eqAtomS_same r.goes _ _ b12 b22 w' (atomsK_good.below q1 hb) (atomsK_good.below q2 hb)
  clear h1 h2 p1 p2 q1 q2
  have hA := ((Below.refl w.heap.size w).alloc (Nat.le_refl _) (.cells #[.slice Ad r.comes.length cap, .slice Ae r.goes.length cape] 28)).alloc (by simp) (.cells #[.slice Ad2 r.comes.length cap2, .slice Ae2 r.goes.length cape2] 28)
  go_enter Try.func10, Try.ntmps10
  go_wp2_with fail
  refine (e1 _ hA).mono ?_
  rintro e w1 ⟨rfl, hb1⟩
  have B1 := hA.trans (hb1.mono hA.size)
  have x0 : w1.cell? ⟨w.heap.size, 0, none⟩ = some (.slice Ad r.comes.length cap) := cell_later hb1 (by go_simp)
  have y0 : w1.cell? ⟨w.heap.size + 1, 0, none⟩ = some (.slice Ad2 r.comes.length cap2) := cell_later hb1 (by go_simp)
  have x1 : w1.cell? ⟨w.heap.size, 1, none⟩ = some (.slice Ae r.goes.length cape) := cell_later hb1 (by go_simp)
  have y1 : w1.cell? ⟨w.heap.size + 1, 1, none⟩ = some (.slice Ae2 r.goes.length cape2) := cell_later hb1 (by go_simp)
  clear e1 hA
  go_wp2_with fail
  refine (e2 _ B1).mono ?_
  rintro e w2 ⟨rfl, hb2⟩
  go_wp2
  go_ret
  exact ⟨rfl, B1.trans (hb2.mono B1.size)⟩

set_option maxHeartbeats 1000000 in
theorem toChange_b (r : Ch) (c0 c1 : Value) (bs : List Nat) (w : World) (h : changeK w [c0, c1] r bs) (hn : bulkC r ≤ 1048576) :
    Calls Try.prog 8 #[.agg #[c0, c1]] w (MakesA changeK r w.heap.size w) := by
  obtain ⟨b1, b2, rfl, hp, hq⟩ := change_parts h
  obtain ⟨Ad, cap, Ae, cape, rfl, rfl⟩ := change_cells2 h
  have hbk : bulkAs r.comes + bulkAs r.goes ≤ 1048576 := hn
  have q1 := fun w' (hb : Below w.heap.size w w') => toAtomS_any r.comes _ b1 w' (atomsK_good.below hp hb) (by omega)
  have q2 := fun w' (hb : Below w.heap.size w w') => toAtomS_any r.goes _ b2 w' (atomsK_good.below hq hb) (by omega)
  clear h hp hq
  have hA := (((Below.refl w.heap.size w).alloc (Nat.le_refl _) (.cells #[.slice Ad r.comes.length cap, .slice Ae r.goes.length cape] 24)).alloc (by simp) (.cells #[.slice none 0 0, .slice none 0 0] 28)).alloc (by simp; omega) (.cells #[.slice none 0 0, .slice none 0 0] 28)
  go_enter Try.func8, Try.ntmps8
  go_wp2_with fail
  refine (q1 _ hA).mono ?_
  rintro e w1 ⟨hb1, v1, bs1, rfl, hR1, hN1⟩
  obtain ⟨Ad3, cap3, rfl, _, _⟩ := sliceK_form hR1
  have B1 := hA.trans (hb1.mono hA.size)
  have x0 : w1.cell? ⟨w.heap.size, 0, none⟩ = some (.slice Ad r.comes.length cap) := cell_later hb1 (by go_simp)
  have x1 : w1.cell? ⟨w.heap.size, 1, none⟩ = some (.slice Ae r.goes.length cape) := cell_later hb1 (by go_simp)
  have k0 : w1.cell? ⟨w.heap.size + 1 + 1, 0, none⟩ = some (.slice none 0 0) := cell_later hb1 (by go_simp)
  have k1 : w1.cell? ⟨w.heap.size + 1 + 1, 1, none⟩ = some (.slice none 0 0) := cell_later hb1 (by go_simp)
  have l0 : w1.cell? ⟨w.heap.size + 1, 0, none⟩ = some (.slice none 0 0) := cell_later hb1 (by go_simp)
  have l1 : w1.cell? ⟨w.heap.size + 1, 1, none⟩ = some (.slice none 0 0) := cell_later hb1 (by go_simp)
  have f0 : w1.frozen? ⟨w.heap.size + 1 + 1, 0, none⟩ = false := (hb1.frozen (p := ⟨w.heap.size + 1 + 1, 0, none⟩) (by simp)).trans (by go_simp)
  have f1 : w1.frozen? ⟨w.heap.size + 1 + 1, 1, none⟩ = false := (hb1.frozen (p := ⟨w.heap.size + 1 + 1, 1, none⟩) (by simp)).trans (by go_simp)
  have g0 : w1.frozen? ⟨w.heap.size + 1, 0, none⟩ = false := (hb1.frozen (p := ⟨w.heap.size + 1, 0, none⟩) (by simp)).trans (by go_simp)
  have g1 : w1.frozen? ⟨w.heap.size + 1, 1, none⟩ = false := (hb1.frozen (p := ⟨w.heap.size + 1, 1, none⟩) (by simp)).trans (by go_simp)
  have hge1 : ∀ b ∈ bs1, w.heap.size + 1 + 1 < b := fun b hb => by have := (hN1.own b hb).1; simp at this; omega
  have hS1 : w.heap.size + 1 + 1 < w1.heap.size := lt_of_cell k0
  have hB1 : Below w.heap.size w (w1.setCell ⟨w.heap.size + 1 + 1, 0, none⟩ (.slice Ad3 r.comes.length cap3)) := (Below.setCell B1 (by simp; omega) (.slice Ad3 r.comes.length cap3) (p := ⟨w.heap.size + 1 + 1, 0, none⟩))
  clear hA q1
  go_wp2_with fail
  refine (q2 _ hB1).mono ?_
  rintro e w2 ⟨hb2, v2, bs2, rfl, hR2, hN2⟩
  obtain ⟨Ae3, cape3, rfl, _, _⟩ := sliceK_form hR2
  have B2 := hB1.trans (hb2.mono hB1.size)
  have k0' : w2.cell? ⟨w.heap.size + 1 + 1, 0, none⟩ = some (.slice Ad3 r.comes.length cap3) := cell_later hb2 (by go_simp)
  have k1' : w2.cell? ⟨w.heap.size + 1 + 1, 1, none⟩ = some (.slice none 0 0) := cell_later hb2 (by go_simp)
  have l0' : w2.cell? ⟨w.heap.size + 1, 0, none⟩ = some (.slice none 0 0) := cell_later hb2 (by go_simp)
  have l1' : w2.cell? ⟨w.heap.size + 1, 1, none⟩ = some (.slice none 0 0) := cell_later hb2 (by go_simp)
  have f1' : w2.frozen? ⟨w.heap.size + 1 + 1, 1, none⟩ = false := (hb2.frozen (p := ⟨w.heap.size + 1 + 1, 1, none⟩) (by simp; omega)).trans (by go_simp)
  have g0' : w2.frozen? ⟨w.heap.size + 1, 0, none⟩ = false := (hb2.frozen (p := ⟨w.heap.size + 1, 0, none⟩) (by simp; omega)).trans (by go_simp)
  have g1' : w2.frozen? ⟨w.heap.size + 1, 1, none⟩ = false := (hb2.frozen (p := ⟨w.heap.size + 1, 1, none⟩) (by simp; omega)).trans (by go_simp)
  have hge2 : ∀ b ∈ bs2, w.heap.size + 1 + 1 < b := fun b hb => by have := (hN2.own b hb).1; simp at this; omega
  have hk1 : ∀ b ∈ bs1, (w1.setCell ⟨w.heap.size + 1 + 1, 0, none⟩ (.slice Ad3 r.comes.length cap3)).heap[b]? = w1.heap[b]? := fun b hb => by
    have := hge1 b hb
    rw [Below.heap_setCell _ _ _ _ (by simp; omega)]
  have hR1' := atomsK_good.below (atomsK_good.keep hR1 hk1) hb2
  have hN1' := (hN1.keep hk1).below hb2
  have hlt1 : ∀ b ∈ bs1, b < w1.heap.size := fun b hb => hN1.lt hb
  clear x0 k0 l0 f0 g0 x1 k1 l1 f1 g1 q2 hk1 hR1
  go_wp2
  have hk : ∀ b, w.heap.size + 1 + 1 < b → (((w2.setCell ⟨w.heap.size + 1 + 1, 1, none⟩ (.slice Ae3 r.goes.length cape3)).setCell ⟨w.heap.size + 1, 0, none⟩ (.slice Ad3 r.comes.length cap3)).setCell ⟨w.heap.size + 1, 1, none⟩ (.slice Ae3 r.goes.length cape3)).heap[b]? = w2.heap[b]? := fun b hb => by
    rw [Below.heap_setCell _ _ _ _ (by simp; omega), Below.heap_setCell _ _ _ _ (by simp; omega), Below.heap_setCell _ _ _ _ (by simp; omega)]
  exact bodyPost_ret (v := .agg #[.slice Ad3 r.comes.length cap3, .slice Ae3 r.goes.length cape3]) (by simp [results, Try.results8, go_sem, l0', l1']) rfl
    ⟨(((B2.setCell (by first | (simp; done) | (simp; omega)) _).setCell (by first | (simp; done) | (simp; omega)) _).setCell (by first | (simp; done) | (simp; omega)) _), _, bs1 ++ bs2, rfl, ⟨_, _, bs1, bs2, rfl, rfl, atomsK_good.keep hR1' (fun b hb => hk b (hge1 b hb)), atomsK_good.keep hR2 (fun b hb => hk b (hge2 b hb))⟩,
      (New.append ((hN1'.keep (fun b hb => hk b (hge1 b hb))).mono (B' := w.heap.size) (by simp; omega)) ((hN2.keep (fun b hb => hk b (hge2 b hb))).mono (B' := w1.heap.size) (by simp)) (by have := B1.size; omega) hlt1)⟩

end Go.Proofs.Ytlmimajgifidhaa
