/- The walks of szRule, toRule, eqRule. -/
import Derived.Test.YtbcepahpehadeaaGreatDoorHPartS
import Derived.Test.YtbcepahpehadeaaGreatDoorEqR
namespace Go.Proofs.YtbcepahpehadeaaGreatDoor
open Go.RowKit D
set_option linter.unusedVariables false

set_option maxHeartbeats 400000 in
theorem szRule_any (r : Ru) (c0 c1 c2 : Value) (bs : List Nat) (left : Int) (w : World) (h : ruleK w [c0, c1, c2] r bs) (h0 : 0 ≤ left) (h1 : left ≤ 1048576) :
    Calls Tryz.prog 28 #[.agg #[c0, c1, c2], .int .i64 left] w (Left left (bulkR r) w.heap.size w) := by
  obtain ⟨b1, b2, rfl, hp, hq⟩ := rule_parts h
  obtain ⟨Ad, cap, Ae, cape, rfl, rfl, rfl⟩ := rule_cells2 h
  have q1 := fun w' (hb : Below w.heap.size w w') => szAtom_any r.head _ _ b1 left w' (atomK_good.below hp hb) h0 h1
  have q2 := fun l (g0 : 0 ≤ l) (g1 : l ≤ 1048576) w' (hb : Below w.heap.size w w') => szPartS_any r.body _ b2 l w' (partsK_good.below hq hb) g0 g1
  have hbk : bulkR r = bulkA r.head + bulkPts r.body := rfl
  have HB := Lib.hid hbk
  clear h hp hq hbk
  have hA := (Below.refl w.heap.size w).alloc (Nat.le_refl _) (.cells #[.string r.head.name, .slice Ad r.head.args.length cap, .slice Ae r.body.length cape] 62)
  go_enter Tryz.func28, Tryz.ntmps28
  go_wp2_with fail
  refine (q1 _ hA).mono ?_
  rintro e w1 ⟨hb1, z, rfl, hr⟩
  have B1 := hA.trans (hb1.mono hA.size)
  have x0 : w1.cell? ⟨w.heap.size, 0, none⟩ = some (.string r.head.name) := cell_later hb1 (by go_simp)
  have x1 : w1.cell? ⟨w.heap.size, 1, none⟩ = some (.slice Ad r.head.args.length cap) := cell_later hb1 (by go_simp)
  have x2 : w1.cell? ⟨w.heap.size, 2, none⟩ = some (.slice Ae r.body.length cape) := cell_later hb1 (by go_simp)
  clear q1 hA
  rcases hr with rfl | ⟨hr0, hr1⟩
  · go_wp2
    go_ret
    exact ⟨B1, _, rfl, .inl rfl⟩
  · go_wp2_with fail
    refine (q2 z hr0 (by omega) _ B1).mono ?_
    rintro e w2 ⟨hb2, z2, rfl, hr2⟩
    have B2 := B1.trans (hb2.mono B1.size)
    rcases hr2 with rfl | ⟨hr3, hr4⟩
    · go_wp2
      go_ret
      exact ⟨B2, _, rfl, .inl rfl⟩
    · go_wp2
      go_ret
      exact ⟨B2, _, rfl, .inr ⟨hr3, by rw [HB.out]; omega⟩⟩

set_option maxHeartbeats 1000000 in
theorem toRule_b (r : Ru) (c0 c1 c2 : Value) (bs : List Nat) (w : World) (h : ruleK w [c0, c1, c2] r bs) (hn : bulkR r ≤ 1048576) :
    Calls Tryz.prog 33 #[.agg #[c0, c1, c2]] w (MakesA ruleK r w.heap.size w) := by
  obtain ⟨b1, b2, rfl, hp, hq⟩ := rule_parts h
  obtain ⟨Ad, cap, Ae, cape, rfl, rfl, rfl⟩ := rule_cells2 h
  have hbk : bulkA r.head + bulkPts r.body ≤ 1048576 := hn
  have q1 := fun w' (hb : Below w.heap.size w w') => toAtom_b r.head _ _ b1 w' (atomK_good.below hp hb) (by omega)
  have q2 := fun w' (hb : Below w.heap.size w w') => toPartS_any r.body _ b2 w' (partsK_good.below hq hb) (by omega)
  clear h hp hq
  have hA := (((Below.refl w.heap.size w).alloc (Nat.le_refl _) (.cells #[.string r.head.name, .slice Ad r.head.args.length cap, .slice Ae r.body.length cape] 62)).alloc (by simp) (.cells #[.string ⟨#[]⟩, .slice none 0 0, .slice none 0 0] 51)).alloc (by simp; omega) (.cells #[.string ⟨#[]⟩, .slice none 0 0, .slice none 0 0] 51)
  go_enter Tryz.func33, Tryz.ntmps33
  go_wp2_with fail
  refine (q1 _ hA).mono ?_
  rintro e w1 ⟨hb1, cs1, bs1, rfl, hR1, hN1⟩
  obtain ⟨Ad3, cap3, rfl⟩ := atom_cells hR1
  have hnm : r.head.name.size ≤ maxLen := by obtain ⟨_, _, hn, _⟩ := hR1; exact hn
  have B1 := hA.trans (hb1.mono hA.size)
  have x0 : w1.cell? ⟨w.heap.size, 0, none⟩ = some (.string r.head.name) := cell_later hb1 (by go_simp)
  have x1 : w1.cell? ⟨w.heap.size, 1, none⟩ = some (.slice Ad r.head.args.length cap) := cell_later hb1 (by go_simp)
  have x2 : w1.cell? ⟨w.heap.size, 2, none⟩ = some (.slice Ae r.body.length cape) := cell_later hb1 (by go_simp)
  have k0 : w1.cell? ⟨w.heap.size + 1 + 1, 0, none⟩ = some (.string ⟨#[]⟩) := cell_later hb1 (by go_simp)
  have k1 : w1.cell? ⟨w.heap.size + 1 + 1, 1, none⟩ = some (.slice none 0 0) := cell_later hb1 (by go_simp)
  have k2 : w1.cell? ⟨w.heap.size + 1 + 1, 2, none⟩ = some (.slice none 0 0) := cell_later hb1 (by go_simp)
  have l0 : w1.cell? ⟨w.heap.size + 1, 0, none⟩ = some (.string ⟨#[]⟩) := cell_later hb1 (by go_simp)
  have l1 : w1.cell? ⟨w.heap.size + 1, 1, none⟩ = some (.slice none 0 0) := cell_later hb1 (by go_simp)
  have l2 : w1.cell? ⟨w.heap.size + 1, 2, none⟩ = some (.slice none 0 0) := cell_later hb1 (by go_simp)
  have f0 : w1.frozen? ⟨w.heap.size + 1 + 1, 0, none⟩ = false := (hb1.frozen (p := ⟨w.heap.size + 1 + 1, 0, none⟩) (by simp)).trans (by go_simp)
  have f1 : w1.frozen? ⟨w.heap.size + 1 + 1, 1, none⟩ = false := (hb1.frozen (p := ⟨w.heap.size + 1 + 1, 1, none⟩) (by simp)).trans (by go_simp)
  have f2 : w1.frozen? ⟨w.heap.size + 1 + 1, 2, none⟩ = false := (hb1.frozen (p := ⟨w.heap.size + 1 + 1, 2, none⟩) (by simp)).trans (by go_simp)
  have g0 : w1.frozen? ⟨w.heap.size + 1, 0, none⟩ = false := (hb1.frozen (p := ⟨w.heap.size + 1, 0, none⟩) (by simp)).trans (by go_simp)
  have g1 : w1.frozen? ⟨w.heap.size + 1, 1, none⟩ = false := (hb1.frozen (p := ⟨w.heap.size + 1, 1, none⟩) (by simp)).trans (by go_simp)
  have g2 : w1.frozen? ⟨w.heap.size + 1, 2, none⟩ = false := (hb1.frozen (p := ⟨w.heap.size + 1, 2, none⟩) (by simp)).trans (by go_simp)
  have hge1 : ∀ b ∈ bs1, w.heap.size + 1 + 1 < b := fun b hb => by have := (hN1.own b hb).1; simp at this; omega
  have hS1 : w.heap.size + 1 + 1 < w1.heap.size := lt_of_cell k0
  have hB1 : Below w.heap.size w ((w1.setCell ⟨w.heap.size + 1 + 1, 0, none⟩ (.string r.head.name)).setCell ⟨w.heap.size + 1 + 1, 1, none⟩ (.slice Ad3 r.head.args.length cap3)) := (Below.setCell (Below.setCell B1 (by simp; omega) (.string r.head.name) (p := ⟨w.heap.size + 1 + 1, 0, none⟩)) (by simp; omega) (.slice Ad3 r.head.args.length cap3) (p := ⟨w.heap.size + 1 + 1, 1, none⟩))
  clear hA q1
  go_wp2_with fail
  refine (q2 _ hB1).mono ?_
  rintro e w2 ⟨hb2, v2, bs2, rfl, hR2, hN2⟩
  obtain ⟨Ae3, cape3, rfl, _, _⟩ := sliceK_form hR2
  have B2 := hB1.trans (hb2.mono hB1.size)
  have k0' : w2.cell? ⟨w.heap.size + 1 + 1, 0, none⟩ = some (.string r.head.name) := cell_later hb2 (by go_simp)
  have k1' : w2.cell? ⟨w.heap.size + 1 + 1, 1, none⟩ = some (.slice Ad3 r.head.args.length cap3) := cell_later hb2 (by go_simp)
  have k2' : w2.cell? ⟨w.heap.size + 1 + 1, 2, none⟩ = some (.slice none 0 0) := cell_later hb2 (by go_simp)
  have l0' : w2.cell? ⟨w.heap.size + 1, 0, none⟩ = some (.string ⟨#[]⟩) := cell_later hb2 (by go_simp)
  have l1' : w2.cell? ⟨w.heap.size + 1, 1, none⟩ = some (.slice none 0 0) := cell_later hb2 (by go_simp)
  have l2' : w2.cell? ⟨w.heap.size + 1, 2, none⟩ = some (.slice none 0 0) := cell_later hb2 (by go_simp)
  have f2' : w2.frozen? ⟨w.heap.size + 1 + 1, 2, none⟩ = false := (hb2.frozen (p := ⟨w.heap.size + 1 + 1, 2, none⟩) (by simp; omega)).trans (by go_simp)
  have g0' : w2.frozen? ⟨w.heap.size + 1, 0, none⟩ = false := (hb2.frozen (p := ⟨w.heap.size + 1, 0, none⟩) (by simp; omega)).trans (by go_simp)
  have g1' : w2.frozen? ⟨w.heap.size + 1, 1, none⟩ = false := (hb2.frozen (p := ⟨w.heap.size + 1, 1, none⟩) (by simp; omega)).trans (by go_simp)
  have g2' : w2.frozen? ⟨w.heap.size + 1, 2, none⟩ = false := (hb2.frozen (p := ⟨w.heap.size + 1, 2, none⟩) (by simp; omega)).trans (by go_simp)
  have hge2 : ∀ b ∈ bs2, w.heap.size + 1 + 1 < b := fun b hb => by have := (hN2.own b hb).1; simp at this; omega
  have hk1 : ∀ b ∈ bs1, ((w1.setCell ⟨w.heap.size + 1 + 1, 0, none⟩ (.string r.head.name)).setCell ⟨w.heap.size + 1 + 1, 1, none⟩ (.slice Ad3 r.head.args.length cap3)).heap[b]? = w1.heap[b]? := fun b hb => by
    have := hge1 b hb
    rw [Below.heap_setCell _ _ _ _ (by simp; omega), Below.heap_setCell _ _ _ _ (by simp; omega)]
  have hR1' := atomK_good.below (atomK_good.keep hR1 hk1) hb2
  have hN1' := (hN1.keep hk1).below hb2
  have hlt1 : ∀ b ∈ bs1, b < w1.heap.size := fun b hb => hN1.lt hb
  clear x0 k0 l0 f0 g0 x1 k1 l1 f1 g1 x2 k2 l2 f2 g2 q2 hk1 hR1
  go_wp2
  have hk : ∀ b, w.heap.size + 1 + 1 < b → ((((w2.setCell ⟨w.heap.size + 1 + 1, 2, none⟩ (.slice Ae3 r.body.length cape3)).setCell ⟨w.heap.size + 1, 0, none⟩ (.string r.head.name)).setCell ⟨w.heap.size + 1, 1, none⟩ (.slice Ad3 r.head.args.length cap3)).setCell ⟨w.heap.size + 1, 2, none⟩ (.slice Ae3 r.body.length cape3)).heap[b]? = w2.heap[b]? := fun b hb => by
    rw [Below.heap_setCell _ _ _ _ (by simp; omega), Below.heap_setCell _ _ _ _ (by simp; omega), Below.heap_setCell _ _ _ _ (by simp; omega), Below.heap_setCell _ _ _ _ (by simp; omega)]
  exact bodyPost_ret (v := .agg #[.string r.head.name, .slice Ad3 r.head.args.length cap3, .slice Ae3 r.body.length cape3]) (by simp [results, Tryz.results33, go_sem, l0', l1', l2']) rfl
    ⟨((((B2.setCell (by first | (simp; done) | (simp; omega)) _).setCell (by first | (simp; done) | (simp; omega)) _).setCell (by first | (simp; done) | (simp; omega)) _).setCell (by first | (simp; done) | (simp; omega)) _), _, bs1 ++ bs2, rfl, ⟨_, _, bs1, bs2, rfl, hnm, rfl, termsK_good.keep (atom_args hR1') (fun b hb => hk b (hge1 b hb)), partsK_good.keep hR2 (fun b hb => hk b (hge2 b hb))⟩,
      (New.append ((hN1'.keep (fun b hb => hk b (hge1 b hb))).mono (B' := w.heap.size) (by simp; omega)) ((hN2.keep (fun b hb => hk b (hge2 b hb))).mono (B' := w1.heap.size) (by simp)) (by have := B1.size; omega) hlt1)⟩

end Go.Proofs.YtbcepahpehadeaaGreatDoor
