/- The walk of impl.ProofPut. -/
import Derived.Test.YtoekllcfmnnibaaDoorModI
import Derived.Test.YtoekllcfmnnibaaDoorPPutI
import Derived.Test.YtoekllcfmnnibaaDoorPPutT
namespace Go.Proofs.YtoekllcfmnnibaaDoor
open Go.RowKit Go.Shelf D
set_option linter.unusedVariables false
attribute [local go_sem ↓] Go.wp_at_zero Go.wp_at_succ

set_option maxRecDepth 100000 in
set_option maxHeartbeats 1000000 in
theorem proofPut_impl (n : Nat) (p : Pf) (c0 c1 c2 c3 : Value) (bs : List Nat) (w : World) (h : proofK n w [c0, c1, c2, c3] p bs) (hw : ∀ b ∈ bs, Wri w b) (hs : sizePf p ≤ 16777216) (hb : bulkPf p ≤ 1048576)
    (ht : P10 w.heap.size w) :
    Calls Tryd.prog 7 #[.agg #[c0, c1, c2, c3]] w fun e w' => e = .returned (.string (putP p)) ∧ Below w.heap.size w w' := by
  have hB : Below w.heap.size w (w.alloc (.cells #[c0, c1, c2, c3] 35)) := (Below.refl _ w).alloc (Nat.le_refl _) _
  have hlt := (proofK_good n).lt h
  have hat : AtP (w.heap.size :: bs) (w.alloc (.cells #[c0, c1, c2, c3] 35)) ⟨w.heap.size, 0, none⟩ p := by
    refine ⟨n, w.heap.size, 0, [c0, c1, c2, c3], bs, rfl, List.mem_cons_self .., rfl, fun j v hv => ?_, (proofK_good n).below h hB, fun c hc => List.mem_cons_of_mem _ hc⟩
    have := heap_alloc_new w (.cells #[c0, c1, c2, c3] 35)
    simp only [World.cell?, this]
    simpa using hv
  have q := moderate_any (w.heap.size :: bs) ⟨w.heap.size, 0, none⟩ p _ hat (fun b hb => by
    rcases List.mem_cons.1 hb with rfl | hb
    · simp
    · have := hlt b hb; simp; omega) (fun b hb => by
    rcases List.mem_cons.1 hb with rfl | hb
    · exact ⟨_, _, heap_alloc_new w (.cells #[c0, c1, c2, c3] 35)⟩
    · obtain ⟨cs, t, hc⟩ := hw b hb
      exact ⟨cs, t, (hB.block b (hlt b hb)).trans hc⟩) hs
  have hcell : ∀ w1, Below (w.alloc (.cells #[c0, c1, c2, c3] 35)).heap.size (w.alloc (.cells #[c0, c1, c2, c3] 35)) w1 → w1.heap[w.heap.size]? = some (.cells #[c0, c1, c2, c3] 35 (0, 0)) := fun w1 hb1 => by
    rw [hb1.block _ (by simp)]
    exact heap_alloc_new w (.cells #[c0, c1, c2, c3] 35)
  have hfit := proofK_fits _ h
  by_cases h60 : sizePf p ≤ 60
  · rw [decide_eq_true h60] at q
    have hcap := putPf_cap hfit h60 hb (Nat.zero_le 60)
    have q2 : ∀ w1, Below w.heap.size w w1 → Calls Tryd.prog 16 #[.pointer (some ⟨w1.heap.size, 0, none⟩), .agg #[c0, c1, c2, c3], .int .i64 0] (w1.alloc (.cells #[.pointer none, .slice none 0 0] bT)) fun e w' => e = .returned (.tuple #[]) ∧ Wrote w1.heap.size w1.heap.size (putPf p 0) (w1.alloc (.cells #[.pointer none, .slice none 0 0] bT)) w' := fun w1 hb1 => by
      have hA : Below w1.heap.size w1 (w1.alloc (.cells #[.pointer none, .slice none 0 0] bT)) := (Below.refl _ _).alloc (Nat.le_refl _) _
      have hlt1 : ∀ c ∈ bs, c < w1.heap.size := fun c hc => Nat.lt_of_lt_of_le (hlt c hc) hb1.size
      have := putProof_any n p c0 c1 c2 c3 bs 0 w1.heap.size [] (w1.alloc (.cells #[.pointer none, .slice none 0 0] bT)) ((proofK_good n).below h (hb1.trans (hA.mono hb1.size))) hlt1 (bld_new w1) (fun w' hb' => ht w' ((hb1.trans (hA.mono hb1.size)).trans (hb'.mono hb1.size))) (by omega) hb (by simp; omega)
      simpa using this
    have HU : Hid (putP p = ⟨(putPf p 0).toArray⟩) := Lib.hid (by unfold putP; rw [if_pos h60])
    have HB := Lib.hid hB
    have HC := Lib.hid hcell
    have Q2 := Lib.hid q2
    clear hB hlt hat h hw hcell q2 ht hfit hcap
    go_enter Tryd.func7, Tryd.ntmps7
    go_wp2_with fail
    refine q.mono ?_
    rintro e w1 ⟨rfl, hb1⟩
    have B1 := Lib.hid (HB.out.trans (hb1.mono HB.out.size))
    have X1 := Lib.hid (HC.out w1 hb1)
    have x0 : w1.cell? ⟨w.heap.size, 0, none⟩ = some c0 := by simp [World.cell?, X1.out]
    have x1 : w1.cell? ⟨w.heap.size, 1, none⟩ = some c1 := by simp [World.cell?, X1.out]
    have x2 : w1.cell? ⟨w.heap.size, 2, none⟩ = some c2 := by simp [World.cell?, X1.out]
    have x3 : w1.cell? ⟨w.heap.size, 3, none⟩ = some c3 := by simp [World.cell?, X1.out]
    have hwl := lt_of_block X1.out
    have q3 := Q2.out w1 B1.out
    clear q hb1 Q2 HC
    go_wp2_with fail
    refine q3.mono ?_
    rintro e w2 ⟨rfl, h2⟩
    have q4 := wEnd w1.heap.size w1.heap.size _ w2 h2.bld (Nat.le_of_lt h2.bld.lt)
    have B2 : Hid (Below w.heap.size w w2) := Lib.hid ((B1.out.alloc B1.out.size _).trans (h2.below.mono B1.out.size))
    clear q3 h2 x0 x1 x2 x3
    go_wp2_with fail
    refine q4.mono ?_
    rintro e w3 ⟨rfl, h3⟩
    have B3 : Hid (Below w.heap.size w w3) := Lib.hid (B2.out.trans (h3.below.mono B1.out.size))
    clear q4 h3
    go_wp2
    go_ret
    exact ⟨by rw [HU.out]; rfl, B3.out⟩
  · rw [decide_eq_false h60] at q
    have HU : Hid (putP p = ⟨#[]⟩) := Lib.hid (by unfold putP; rw [if_neg h60])
    have HB := Lib.hid hB
    clear hB hlt hat h hw hcell ht hfit
    go_enter Tryd.func7, Tryd.ntmps7
    go_wp2_with fail
    refine q.mono ?_
    rintro e w1 ⟨rfl, hb1⟩
    have B1 := Lib.hid (HB.out.trans (hb1.mono HB.out.size))
    clear q hb1
    go_wp2
    go_ret
    exact ⟨by rw [HU.out]; rfl, B1.out⟩

end Go.Proofs.YtoekllcfmnnibaaDoor
