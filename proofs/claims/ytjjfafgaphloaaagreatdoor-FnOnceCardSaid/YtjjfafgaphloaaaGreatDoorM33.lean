/- Of the proof of FnOnce: QryI, StoW. -/
import Derived.Test.YtjjfafgaphloaaaGreatDoorM29
import Derived.Test.YtjjfafgaphloaaaGreatDoorM24
namespace Go.Proofs.YtjjfafgaphloaaaGreatDoor
open Go.RowKit D
set_option linter.unusedVariables false
attribute [local go_sem ↓] Go.wp_at_zero Go.wp_at_succ
theorem infoPat : (Tryz.prog.info? 104).map (fun i => (i.zero, i.size, i.bytes)) = some (some (.agg #[.string ⟨#[]⟩, .slice none 0 0]), 2, 40) := by kernel_rfl

theorem D.bodyVars_asc (ps : List Pt) : ascS (bodyVars ps) := varsPs_asc ps ascS_nil

theorem D.bodyVars_in {ps : List Pt} : ∀ p ∈ ps, ∀ t ∈ p.atom.args, t.var = true → t.name ∈ bodyVars ps := fun p hp t ht htv => (varsPs_mem ps [] _).2 (.inr ⟨p, hp, t, ht, htv, rfl⟩)

theorem D.sum_few {ps : List Pt} (h : ps.length ≤ 1000) (hs : ∀ p ∈ ps, p.atom.args.length ≤ 1000) : sumL (fun p : Pt => p.atom.args.length) ps ≤ 1000000 := by
  have : ∀ (l : List Pt), (∀ p ∈ l, p.atom.args.length ≤ 1000) → sumL (fun p : Pt => p.atom.args.length) l ≤ l.length * 1000 := by
    intro l
    induction l with
    | nil => intro _; exact Nat.zero_le _
    | cons p l ih =>
      intro hl
      have h1 := ih fun q hq => hl q (List.mem_cons_of_mem _ hq)
      have h2 := hl p (List.mem_cons_self ..)
      have h3 : sumL (fun p : Pt => p.atom.args.length) (p :: l) = p.atom.args.length + sumL (fun p : Pt => p.atom.args.length) l := by simp [sumL]
      rw [h3, List.length_cons, Nat.add_mul]
      omega
  have := this ps hs
  omega

/-- The end: the box is put into the result. -/
theorem D.QInv.done {vars : List ByteArray} {w : World} {hz hb B : Nat} {vv : Value} {b3 : List Nat} {v1 : Value} {L1 : List Value} {xs1 : List A} {bs1 : List Nat} {v2 : Value} {L2 : List Value} {xs2 : List A} {bs2 : List Nat} {wr : World}
    (h : QInv vars w hz hb B vv b3 v1 L1 xs1 bs1 v2 L2 xs2 bs2 wr) :
    ∃ W9, W9 = ((wr.setCell ⟨hz, 0, none⟩ v1).setCell ⟨hz, 1, none⟩ v2).setCell ⟨hz, 2, none⟩ vv ∧ Below w.heap.size w W9 ∧ W9.heap[hz]? = some (.cells #[v1, v2, vv] 100 (0, 0)) ∧
      ∃ b1 b2, patsK vars W9 [v1] xs1 b1 ∧ patsK vars W9 [v2] xs2 b2 ∧ strsK W9 [vv] vars b3 ∧ ∀ b ∈ b1 ++ b2 ++ b3, w.heap.size ≤ b := by
  obtain ⟨b1, hs1, hb1⟩ := h.c1.slice
  obtain ⟨b2, hs2, hb2⟩ := h.c2.slice
  have h0 := h.h0
  have h1 := h.h1
  have hB := h.hB
  have g1 : ∀ b ∈ b1, B ≤ b := fun b hb => (hb1 b hb).elim id (h.k1 b)
  have g2 : ∀ b ∈ b2, B ≤ b := fun b hb => (hb2 b hb).elim id (h.k2 b)
  have keep : ∀ b, b ≠ hz → (((wr.setCell ⟨hz, 0, none⟩ v1).setCell ⟨hz, 1, none⟩ v2).setCell ⟨hz, 2, none⟩ vv).heap[b]? = wr.heap[b]? := fun b hb' => by
    rw [Below.heap_setCell _ _ _ _ hb', Below.heap_setCell _ _ _ _ hb', Below.heap_setCell _ _ _ _ hb']
  refine ⟨_, rfl, ((h.bel.setCell (p := ⟨hz, 0, none⟩) h0 _).setCell (p := ⟨hz, 1, none⟩) h0 _).setCell (p := ⟨hz, 2, none⟩) h0 _, ?_, b1, b2, ?_, ?_, ?_, ?_⟩
  · have := blk_setG (o := 2) (u := vv) (blk_setG (o := 1) (u := v2) (blk_setG (o := 0) (u := v1) h.r0))
    simpa using this
  · exact (patsK_good _).keep hs1 fun b hb' => keep b (fun e => by have := g1 b hb'; omega)
  · exact (patsK_good _).keep hs2 fun b hb' => keep b (fun e => by have := g2 b hb'; omega)
  · exact strsK_good.keep h.vs fun b hb' => keep b (h.kv b hb').2.2
  · intro b hb'
    rcases List.mem_append.1 hb' with hb' | hb'
    · rcases List.mem_append.1 hb' with hb' | hb'
      · have := g1 b hb'; omega
      · have := g2 b hb'; omega
    · exact (h.kv b hb').1

set_option maxRecDepth 100000 in
set_option maxHeartbeats 4000000 in
theorem queryOf_any (ps : List Pt) (v : Value) (bs : List Nat) (w : World) (h : partsK w [v] ps bs) (hl4 : ps.length ≤ 1000) (hs : ∀ p ∈ ps, p.atom.args.length ≤ 1000) :
    Calls Tryz.prog 56 #[v] w fun e w' => ∃ A1 n1 q1 A2 n2 q2 A3 q3 bs', e = .returned (.agg #[.slice A1 n1 q1, .slice A2 n2 q2, .slice A3 (bodyVars ps).length q3]) ∧ Below w.heap.size w w' ∧
      qryK w' [.slice A1 n1 q1, .slice A2 n2 q2, .slice A3 (bodyVars ps).length q3] ps bs' ∧ ∀ b ∈ bs', w.heap.size ≤ b := by
  obtain ⟨Ad, cap, rfl, hl, hm⟩ := sliceK_form h
  obtain ⟨i0, hi, hz0, hz1, hz2⟩ := info_parts infoPat
  have hlm := nat_ge_max (Nat.le_trans hl hm)
  have hsum : sumL (fun p : Pt => p.atom.args.length) ps ≤ 1000000 := sum_few hl4 hs
  have HBV := Lib.hid (fun w' hb => bodyVars_any ps _ bs w' (partsK_good.below h hb) hsum)
  have HVL : Hid (ascS (bodyVars ps) ∧ (bodyVars ps).length ≤ 1000000) := Lib.hid ⟨bodyVars_asc ps, Nat.le_trans (by have := varsPs_len ps []; simp only [List.length_nil] at this; show (varsPs ps []).length ≤ _; omega) hsum⟩
  have HVI := Lib.hid (fun p hp t ht htv => bodyVars_in (ps := ps) p hp t ht htv)
  have HH := Lib.hid h
  have HS := Lib.hid hs
  clear hl hm hs hsum h
  generalize hvars : bodyVars ps = vars at *
  have HBE := Lib.hid hvars.symm
  clear hvars
  have hA0 : Below w.heap.size w (w.alloc (.cells #[.slice none 0 0, .slice none 0 0, .slice none 0 0] 100)) := (Below.refl _ _).alloc (Nat.le_refl _) _
  have HA0 := Lib.hid hA0
  have HZ0 := Lib.hid (heap_alloc_new w (.cells #[.slice none 0 0, .slice none 0 0, .slice none 0 0] 100))
  have hbv := HBV.out _ hA0
  clear hA0 HBV
  go_enter Tryz.func56, Tryz.ntmps56
  go_wp2_with fail
  refine hbv.mono ?_
  rintro e w1 ⟨hb1, v3, b3, rfl, hk3, hn3⟩
  obtain ⟨A3, q3, rfl, _⟩ := sliceK_form hk3
  have hs1 := hb1.size
  have e1 : (w.alloc (.cells #[.slice none 0 0, .slice none 0 0, .slice none 0 0] 100)).heap.size = w.heap.size + 1 := by simp
  have hA1 : Below w1.heap.size w1 (w1.alloc (.cells #[.slice none 0 0, .slice none 0 0, .slice A3 vars.length q3] 100)) := (Below.refl _ _).alloc (Nat.le_refl _) _
  have HI0 : Hid (QInv vars w w.heap.size w1.heap.size (w1.heap.size + 1) (.slice A3 vars.length q3) b3 (.slice none 0 0) [] [] [] (.slice none 0 0) [] [] [] (w1.alloc (.cells #[.slice none 0 0, .slice none 0 0, .slice A3 vars.length q3] 100))) := Lib.hid
    ⟨(hA1.block _ (by omega)).trans ((hb1.block _ (by omega)).trans HZ0.out), heap_alloc_new _ _, Nat.le_refl _, by omega, by omega, Coll.nil _, Coll.nil _, fun b hb => by simp at hb, fun b hb => by simp at hb, fun b hb => by simp [Value.ownBlock] at hb, fun b hb => by simp [Value.ownBlock] at hb,
      strsK_good.below hk3 hA1, fun b hb => ⟨by have := (hn3.own b hb).1; omega, hn3.lt hb, by have := (hn3.own b hb).1; omega⟩, (HA0.out.trans (hb1.mono (by omega))).trans (hA1.mono (by omega)), by simp⟩
  clear hbv hb1 hk3 hn3 hs1 e1 hA1 HZ0 HA0
  go_wp2
  generalize w1.alloc (.cells #[.slice none 0 0, .slice none 0 0, .slice A3 vars.length q3] 100) = W at *
  go_loopw [11] (fun i wr => ∃ (k : Nat) (A1 : Option Addr) (q1 : Nat) (L1 : List Value) (bs1 : List Nat) (A2 : Option Addr) (q2 : Nat) (L2 : List Value) (bs2 : List Nat), k ≤ ps.length ∧ i = .int .i64 k ∧ (posA (ps.take k)).length ≤ k ∧ (negA (ps.take k)).length ≤ k ∧
    QInv vars w w.heap.size w1.heap.size (w1.heap.size + 1) (.slice A3 vars.length q3) b3 (.slice A1 (posA (ps.take k)).length q1) L1 (posA (ps.take k)) bs1 (.slice A2 (negA (ps.take k)).length q2) L2 (negA (ps.take k)) bs2 wr) (fun i _ => ps.length - (intOf i).toNat)
  case atStart => exact ⟨0, none, 0, [], [], none, 0, [], [], Nat.zero_le _, rfl, Nat.le_refl _, Nat.le_refl _, HI0.out⟩
  case round =>
    obtain ⟨k, A1, q1, L1, bs1, A2, q2, L2, bs2, hk, rfl, hkp, hkn, hI⟩ := hrel
    clear HI0
    by_cases hlt : k < ps.length
    · obtain ⟨b, o, Ae, ce, bk, rfl, _, d0, d1, d2, hel, _⟩ := parts_el (partsK_good.below HH.out hI.bel) hlt
      have hk0 : (0 : Int) ≤ (k : Int) := by omega
      have hk1 : (k : Int) < (ps.length : Int) := by omega
      have HLT := Lib.hid hlt
      have HPS := Lib.hid (posA_snoc ps k hlt)
      have HNS := Lib.hid (negA_snoc ps k hlt)
      have H63p : Hid ((posA (ps.take k)).length + 1 ≤ maxLen ∧ ((posA (ps.take k)).length + 1) * 40 ≤ 140737488355328) := Lib.hid (by unfold maxLen; omega)
      have H63n : Hid ((negA (ps.take k)).length + 1 ≤ maxLen ∧ ((negA (ps.take k)).length + 1) * 40 ≤ 140737488355328) := Lib.hid (by unfold maxLen; omega)
      have hA2 : Below wr.heap.size wr (wr.alloc (.cells #[.bool ps[k].no, .string ps[k].atom.name, .slice Ae ps[k].atom.args.length ce] 148)) := (Below.refl _ _).alloc (Nat.le_refl _) _
      have hI1 := hI.later hA2
      have HI1 := Lib.hid hI1
      have q0 := cell_of_blk hI1.r1 (o := 0)
      have q1x := cell_of_blk hI1.r1 (o := 1)
      have q2x := cell_of_blk hI1.r1 (o := 2)
      have hq4 := fun o => frozen_of_blk hI1.r1 (o := o)
      have q3x : w1.heap.size < (wr.alloc (.cells #[.bool ps[k].no, .string ps[k].atom.name, .slice Ae ps[k].atom.args.length ce] 148)).heap.size := lt_of_block hI1.r1
      have hcall := pattern_any vars ps[k].atom A1 A2 (posA (ps.take k)).length q1 (negA (ps.take k)).length q2 (.slice A3 vars.length q3) _ _ b3 bk (wr.alloc (.cells #[.bool ps[k].no, .string ps[k].atom.name, .slice Ae ps[k].atom.args.length ce] 148)).drew (strsK_good.below hI1.vs ((Below.refl _ _).drew)) HVL.out.1 HVL.out.2 (atomK_good.below (part_atom hel) (hA2.trans ((Below.refl _ _).drew.mono hA2.size))) (HVI.out _ (List.getElem_mem hlt)) (Nat.le_trans (HS.out _ (List.getElem_mem hlt)) (by omega))
      have HPC := Lib.hid hcall
      have y0 : (wr.alloc (.cells #[.bool ps[k].no, .string ps[k].atom.name, .slice Ae ps[k].atom.args.length ce] 148)).cell? ⟨wr.heap.size, 0, none⟩ = some (.bool ps[k].no) := by go_simp
      have y1 : (wr.alloc (.cells #[.bool ps[k].no, .string ps[k].atom.name, .slice Ae ps[k].atom.args.length ce] 148)).cell? ⟨wr.heap.size, 1, none⟩ = some (.string ps[k].atom.name) := by go_simp
      have y2 : (wr.alloc (.cells #[.bool ps[k].no, .string ps[k].atom.name, .slice Ae ps[k].atom.args.length ce] 148)).cell? ⟨wr.heap.size, 2, none⟩ = some (.slice Ae ps[k].atom.args.length ce) := by go_simp
      clear hI hI1 hel hA2 hcall hk
      generalize ps[k] = p at *
      clear hlt
      obtain ⟨no, nm, args⟩ := p
      dsimp only at *
      cases no
      · have q4x := hq4 0
        have ENp : Hid (posA (ps.take (k + 1)) = posA (ps.take k) ++ [⟨nm, args⟩]) := Lib.hid (by rw [HPS.out]; rfl)
        have ENn : Hid (negA (ps.take (k + 1)) = negA (ps.take k)) := Lib.hid (by rw [HNS.out]; simp)
        clear hq4 HPS HNS
        go_wp2
        generalize wr.alloc (.cells #[.bool false, .string nm, .slice Ae args.length ce] 148) = W1 at *
        go_region_law
          (first
            | (go_simp; go_at_call 57; refine HPC.out.mono ?_; rintro e w2 ⟨v9, b9, rfl, hb9, hnm9, hs9, hn9⟩; obtain ⟨A9, c9, rfl, _⟩ := sliceK_form hs9; have HK2 := Lib.hid ((Below.refl W1.heap.size W1).drew.trans hb9); have HP9 := Lib.hid (And.intro hnm9 (And.intro hs9 hn9)); have HL := Lib.hid (QInv.lit (a := ⟨nm, args⟩) HK2.out HI1.out.siz HI1.out.c1.own HP9.out.1 HP9.out.2.1 rfl); replace q0 := cell_later HK2.out q0; replace q1x := cell_later HK2.out q1x; replace q2x := cell_later HK2.out q2x; replace q3x := Nat.lt_of_lt_of_le q3x HK2.out.size; clear hb9 hnm9 hs9 hn9)
            | (refine step_app (by rfl) (.tmp 27) (.tmp 32) _ (by rfl) (w1.heap.size + 1) 104 i0 (.agg #[.string ⟨#[]⟩, .slice none 0 0]) 2 40 Tryz.underlying97 hi hz0 hz1 hz2 rfl (Nat.zero_lt_succ 1) (.slice A1 (posA (ps.take k)).length q1) (posA (ps.take k)).length L1 (by rfl) HL.out.1 (some ⟨w2.heap.size, 0, none⟩) 1 1 _ (by rfl) rfl HL.out.2.1 HL.out.2.2.1 H63p.out.1 H63p.out.2 HL.out.2.2.2 ?_; intro A5 c5 w5 h5 g5 l5; have HZ := Lib.hid (HI1.out.app1 HK2.out HP9.out.1 HP9.out.2.1 HP9.out.2.2 rfl h5 g5 l5); replace q0 := HZ.out.1; replace q1x := HZ.out.2.1; replace q2x := HZ.out.2.2.1; replace q4x := HZ.out.2.2.2.1; clear h5 g5 l5))
        all_goals
          have HI9 := Lib.hid HZ.out.2.2.2.2
          clear HI1 HL HZ HK2 HP9 HPC q0 q1x q2x q3x q4x
          go_wp2
          go_roundw
          case rel => exact ⟨k + 1, A5, c5, _, _, A2, q2, L2, bs2, HLT.out, by go_num, by rw [ENp.out]; simpa using hkp, by rw [ENn.out]; omega, by rw [ENp.out, ENn.out, List.length_append]; exact HI9.out⟩
          case measure => have := HLT.out; simp [intOf]; omega

      · have q4x := hq4 1
        have ENp : Hid (posA (ps.take (k + 1)) = posA (ps.take k)) := Lib.hid (by rw [HPS.out]; simp)
        have ENn : Hid (negA (ps.take (k + 1)) = negA (ps.take k) ++ [⟨nm, args⟩]) := Lib.hid (by rw [HNS.out]; rfl)
        clear hq4 HPS HNS
        go_wp2
        generalize wr.alloc (.cells #[.bool true, .string nm, .slice Ae args.length ce] 148) = W1 at *
        go_region_law
          (first
            | (go_simp; go_at_call 57; refine HPC.out.mono ?_; rintro e w2 ⟨v9, b9, rfl, hb9, hnm9, hs9, hn9⟩; obtain ⟨A9, c9, rfl, _⟩ := sliceK_form hs9; have HK2 := Lib.hid ((Below.refl W1.heap.size W1).drew.trans hb9); have HP9 := Lib.hid (And.intro hnm9 (And.intro hs9 hn9)); have HL := Lib.hid (QInv.lit (a := ⟨nm, args⟩) HK2.out HI1.out.siz HI1.out.c2.own HP9.out.1 HP9.out.2.1 rfl); replace q0 := cell_later HK2.out q0; replace q1x := cell_later HK2.out q1x; replace q2x := cell_later HK2.out q2x; replace q3x := Nat.lt_of_lt_of_le q3x HK2.out.size; clear hb9 hnm9 hs9 hn9)
            | (refine step_app (by rfl) (.tmp 18) (.tmp 23) _ (by rfl) (w1.heap.size + 1) 104 i0 (.agg #[.string ⟨#[]⟩, .slice none 0 0]) 2 40 Tryz.underlying97 hi hz0 hz1 hz2 rfl (Nat.zero_lt_succ 1) (.slice A2 (negA (ps.take k)).length q2) (negA (ps.take k)).length L2 (by rfl) HL.out.1 (some ⟨w2.heap.size, 0, none⟩) 1 1 _ (by rfl) rfl HL.out.2.1 HL.out.2.2.1 H63n.out.1 H63n.out.2 HL.out.2.2.2 ?_; intro A5 c5 w5 h5 g5 l5; have HZ := Lib.hid (HI1.out.app2 HK2.out HP9.out.1 HP9.out.2.1 HP9.out.2.2 rfl h5 g5 l5); replace q0 := HZ.out.1; replace q1x := HZ.out.2.1; replace q2x := HZ.out.2.2.1; replace q4x := HZ.out.2.2.2.1; clear h5 g5 l5))
        all_goals
          have HI9 := Lib.hid HZ.out.2.2.2.2
          clear HI1 HL HZ HK2 HP9 HPC q0 q1x q2x q3x q4x
          go_wp2
          go_roundw
          case rel => exact ⟨k + 1, A1, q1, L1, bs1, A5, c5, _, _, HLT.out, by go_num, by rw [ENp.out]; omega, by rw [ENn.out]; simpa using hkn, by rw [ENp.out, ENn.out, List.length_append]; exact HI9.out⟩
          case measure => have := HLT.out; simp [intOf]; omega

    · have he : k = ps.length := by omega
      subst he
      have hk1 : ¬ (ps.length : Int) < (ps.length : Int) := by omega
      rw [List.take_of_length_le (Nat.le_refl _)] at hI
      obtain ⟨W9, hW9, hB9, hb9, b1, b2, hs1, hs2, hs3, hn9⟩ := hI.done
      have y0 := cell_of_blk hI.r1 (o := 0)
      have y1 := cell_of_blk hI.r1 (o := 1)
      have y2 := cell_of_blk hI.r1 (o := 2)
      have f0 := frozen_of_blk hI.r0 (o := 0)
      have f1 := frozen_of_blk hI.r0 (o := 1)
      have f2 := frozen_of_blk hI.r0 (o := 2)
      have z0 := cell_of_blk hI.r0 (o := 0)
      have z1 := cell_of_blk hI.r0 (o := 1)
      have z2 := cell_of_blk hI.r0 (o := 2)
      have u0 := cell_of_blk hb9 (o := 0)
      have u1 := cell_of_blk hb9 (o := 1)
      have u2 := cell_of_blk hb9 (o := 2)
      simp at y0 y1 y2 z0 z1 z2 u0 u1 u2
      have HVE := Lib.hid (rfl : vars = vars)
      have HD := Lib.hid (And.intro hB9 (And.intro hs1 (And.intro hs2 (And.intro hs3 hn9))))
      have HW9 := Lib.hid hW9
      have HU := Lib.hid (And.intro u0 (And.intro u1 u2))
      clear hI hB9 hb9 hs1 hs2 hs3 hn9 hW9 u0 u1 u2
      go_wp2
      rw [← HW9.out]
      refine bodyPost_ret (v := .agg #[.slice A1 (posA ps).length q1, .slice A2 (negA ps).length q2, .slice A3 vars.length q3]) (by simp [results, Tryz.results56, go_sem, HU.out.1, HU.out.2.1, HU.out.2.2]) rfl ?_
      exact ⟨A1, _, q1, A2, _, q2, A3, q3, rfl, HD.out.1, _, ⟨_, _, _, b1, b2, b3, rfl, rfl, HBE.out ▸ HD.out.2.1, HBE.out ▸ HD.out.2.2.1, HBE.out ▸ HD.out.2.2.2.1⟩, HD.out.2.2.2.2⟩

end Go.Proofs.YtjjfafgaphloaaaGreatDoor
namespace Go.Proofs.YtjjfafgaphloaaaGreatDoor
open Go.RowKit D
set_option linter.unusedVariables false
structure D.URow where
  k : WK
  v : Value
  L : List Value
  n : Nat

def D.Dis (u v : Value) : Prop := ∀ x, u.ownBlock = some x → v.ownBlock ≠ some x

theorem D.Dis.symm {u v : Value} (h : Dis u v) : Dis v u := fun x e e2 => h x e2 e

abbrev D.entE (r : URow) : Value × Value × Nat := (wkV r.k, r.v, r.n)

/-- Rows of numbers under keys: each a row of its own. -/
structure D.RowsOk (B : Nat) (G : WK → List Nat) (ou : List Nat) (rows : List URow) (w : World) : Prop where
  coll : ∀ r ∈ rows, Coll 1 intK B 3 w r.v r.L (G r.k) []
  dis : ∀ r ∈ rows, ∀ s ∈ rows, r.k ≠ s.k → Dis r.v s.v
  own : ∀ r ∈ rows, ∀ x, r.v.ownBlock = some x → x ∈ ou

structure D.UnderS (B mu : Nat) (G : WK → List Nat) (ou : List Nat) (w : World) : Prop where
  ex : ∃ rows c, MapE isWK mu (rows.map entE) c w ∧ RowsOk B G ou rows w ∧ ∀ k, (∀ r ∈ rows, r.k ≠ k) → G k = []

/-- One entry is taken: its row stands apart. -/
structure D.UPend (B mu : Nat) (G : WK → List Nat) (ou : List Nat) (k : WK) (u : Value) (L : List Value) (n : Nat) (w : World) : Prop where
  ex : ∃ A1 B1 c, MapE isWK mu (A1.map entE ++ (wkV k, u, n) :: B1.map entE) c w ∧ RowsOk B G ou (A1 ++ B1) w ∧ (∀ r ∈ A1 ++ B1, r.k ≠ k ∧ Dis u r.v) ∧ ∀ k', k' ≠ k → (∀ r ∈ A1 ++ B1, r.k ≠ k') → G k' = []
  coll : Coll 1 intK B 3 w u L (G k) []
  own : ∀ x, u.ownBlock = some x → x ∈ ou

def D.updG (G : WK → List Nat) (k : WK) (i : Nat) : WK → List Nat := fun k' => if k' = k then G k ++ [i] else G k'

section
variable {B mu : Nat} {G : WK → List Nat} {ou : List Nat} {w w' : World}
theorem D.RowsOk.keep {rows : List URow} (h : RowsOk B G ou rows w) (hk : ∀ r ∈ rows, ∀ x, r.v.ownBlock = some x → w'.heap[x]? = w.heap[x]?) : RowsOk B G ou rows w' :=
  ⟨fun r hr => (h.coll r hr).keepB intK_good (hk r hr) (fun b hb => by simp at hb), h.dis, h.own⟩

theorem D.RowsOk.lt {rows : List URow} (h : RowsOk B G ou rows w) {r : URow} (hr : r ∈ rows) {x : Nat} (hx : r.v.ownBlock = some x) : B ≤ x ∧ x < w.heap.size := own_block_in (h.coll r hr).own hx

theorem D.UnderS.keep (h : UnderS B mu G ou w) (h1 : w'.heap[mu]? = w.heap[mu]?) (h2 : ∀ x ∈ ou, w'.heap[x]? = w.heap[x]?) : UnderS B mu G ou w' := by
  obtain ⟨rows, c, g1, g2, g3⟩ := h.ex
  exact ⟨rows, c, g1.same h1, g2.keep fun r hr x hx => h2 x (g2.own r hr x hx), g3⟩

theorem D.UPend.keep {k : WK} {u : Value} {L : List Value} {n : Nat} (h : UPend B mu G ou k u L n w) (h1 : w'.heap[mu]? = w.heap[mu]?) (h2 : ∀ x ∈ ou, w'.heap[x]? = w.heap[x]?) : UPend B mu G ou k u L n w' := by
  obtain ⟨A1, B1, c, g1, g2, g3, g4⟩ := h.ex
  exact ⟨⟨A1, B1, c, g1.same h1, g2.keep fun r hr x hx => h2 x (g2.own r hr x hx), g3, g4⟩, h.coll.keepB intK_good (fun x hx => h2 x (h.own x hx)) (fun b hb => by simp at hb), h.own⟩

/-- The entry at a key. -/
theorem D.UnderS.entry (h : UnderS B mu G ou w) (hm : mu < B) (k : WK) :
    ∃ w' u n L, (Instr.mapEntry 93 (.map (some mu)) (.agg #[.string k.name, .int .i64 k.size, .int .i64 k.place, .string k.word])).run Tryz.prog w = .ok (.tuple #[u, .int .i64 (n : Nat)]) w' ∧ UPend B mu G ou k u L n w' ∧ w.grownBy w' (some mu) := by
  obtain ⟨rows, c, g1, g2, g3⟩ := h.ex
  have kp : ∀ {w' : World}, w.grownBy w' (some mu) → ∀ r ∈ rows, ∀ x, r.v.ownBlock = some x → w'.heap[x]? = w.heap[x]? := fun hg r hr x hx => by
    obtain ⟨h1, h2⟩ := g2.lt hr hx
    exact hg.block x h2 (fun e => by injection e with e; omega)
  by_cases hex : ∃ r ∈ rows, r.k = k
  · obtain ⟨r, hr, rfl⟩ := hex
    obtain ⟨A1, B1, rfl⟩ := List.append_of_mem hr
    rw [List.map_append, List.map_cons] at g1
    obtain ⟨w', r1, r2, r3⟩ := run_mape_old keyV_wk (w := w) trivial Tryz.underlying93 g1
    have hsub : ∀ s ∈ A1 ++ B1, s ∈ A1 ++ r :: B1 := fun s hs => (List.mem_append.1 hs).elim (fun h => List.mem_append_left _ h) fun h => List.mem_append_right _ (List.mem_cons_of_mem _ h)
    have hne : ∀ s ∈ A1 ++ B1, s.k ≠ r.k := fun s hs e => by
      have ho := r2.once
      obtain ⟨p1, p2, p3⟩ := List.pairwise_append.1 ho
      rcases List.mem_append.1 hs with hs | hs
      · exact p3 (entE s) (List.mem_map.2 ⟨s, hs, rfl⟩) (entE r) (List.mem_cons_self ..) (by show wkV s.k = wkV r.k; rw [e])
      · exact (List.pairwise_cons.1 p2).1 (entE s) (List.mem_map.2 ⟨s, hs, rfl⟩) (by show wkV r.k = wkV s.k; rw [e])
    have g2' := g2.keep (kp r3)
    refine ⟨w', r.v, r.n, r.L, r1, ⟨⟨A1, B1, c, r2, ⟨fun s hs => g2'.coll s (hsub s hs), fun s hs t ht => g2'.dis s (hsub s hs) t (hsub t ht), fun s hs => g2'.own s (hsub s hs)⟩, fun s hs => ⟨hne s hs, g2.dis r hr s (hsub s hs) (fun e => hne s hs e.symm)⟩, fun k' hk' hno => g3 k' fun s hs => ?_⟩, g2'.coll r hr, g2.own r hr⟩, r3⟩
    rcases List.mem_append.1 hs with hs | hs
    · exact hno s (List.mem_append_left _ hs)
    · rcases List.mem_cons.1 hs with rfl | hs
      · exact fun e => hk' e.symm
      · exact hno s (List.mem_append_right _ hs)
  · have hno : ∀ r ∈ rows, r.k ≠ k := fun r hr e => hex ⟨r, hr, e⟩
    obtain ⟨w', r1, r2, r3⟩ := run_mape_new keyV_wk (w := w) trivial Tryz.underlying93 (k := wkV k) (z := .slice none 0 0) g1 (by kernel_rfl) ⟨k, rfl⟩ (fun p hp e => by
      obtain ⟨r, hr, rfl⟩ := List.mem_map.1 hp
      exact hno r hr (wkV_inj e))
    refine ⟨w', .slice none 0 0, c, [], r1, ⟨⟨rows, [], c + 1, by simpa using r2, by simpa using g2.keep (kp r3), fun r hr => ?_, fun k' hk' hn => g3 k' fun r hr => hn r (by simpa using hr)⟩, by rw [g3 k hno]; exact Coll.nil _, fun x hx => by simp [Value.ownBlock] at hx⟩, r3⟩
    simp at hr
    exact ⟨hno r hr, fun x hx => by simp [Value.ownBlock] at hx⟩

/-- The entry is stored. -/
theorem D.UPend.store {k : WK} {u v' : Value} {L L' : List Value} {n i : Nat} (h : UPend B mu G ou k u L n w) (hm : mu < B) (hg : w.grownBy w' u.ownBlock) (hc : Coll 1 intK B 3 w' v' L' (G k ++ [i]) []) (hloc : v'.ownBlock = u.ownBlock ∨ v'.ownBlock = some w.heap.size) :
    ∃ w2 ou', (Instr.entryStore 93 (.map (some mu)) (.int .i64 (n : Nat)) v').run Tryz.prog w' = .ok () w2 ∧ UnderS B mu (updG G k i) ou' w2 ∧ w'.grownBy w2 (some mu) ∧ ∀ x ∈ ou', x ∈ ou ∨ (v'.ownBlock = some x ∧ x = w.heap.size) := by
  obtain ⟨A1, B1, c, g1, g2, g3, g4⟩ := h.ex
  have hmu : w'.heap[mu]? = w.heap[mu]? := hg.block mu g1.lt (fun e => by
    have := (own_block_in h.coll.own e.symm).1; omega)
  obtain ⟨w2, r1, r2, r3⟩ := run_mape_store (P := Tryz.prog) (t := 93) v' (g1.same hmu)
  have kp2 : ∀ x, B ≤ x → x < w'.heap.size → w2.heap[x]? = w'.heap[x]? := fun x h1 h2 => r3.block x h2 (fun e => by injection e with e; omega)
  have g2' : RowsOk B G ou (A1 ++ B1) w2 := g2.keep fun r hr x hx => by
    obtain ⟨h1, h2⟩ := g2.lt hr hx
    exact (kp2 x h1 (Nat.lt_of_lt_of_le h2 hg.size)).trans (hg.block x h2 (fun e => (g3 r hr).2 x e.symm hx))
  have hc2 : Coll 1 intK B 3 w2 v' L' (G k ++ [i]) [] := hc.keepB intK_good (fun x hx => by
    obtain ⟨h1, h2⟩ := own_block_in hc.own hx
    exact kp2 x h1 h2) (fun b hb => by simp at hb)
  have hdis : ∀ r ∈ A1 ++ B1, Dis v' r.v := fun r hr x hx hx2 => by
    rcases hloc with e | e
    · exact (g3 r hr).2 x (e ▸ hx) hx2
    · rw [e] at hx
      have := (g2.lt hr hx2).2
      injection hx with hx
      omega
  refine ⟨w2, ou ++ v'.ownBlock.toList, r1, ⟨A1 ++ ⟨k, v', L', n⟩ :: B1, c, by rw [List.map_append, List.map_cons]; exact r2, ⟨fun r hr => ?_, fun r hr s hs hne => ?_, fun r hr x hx => ?_⟩, fun k' hno => ?_⟩, r3, fun x hx => ?_⟩
  · rcases List.mem_append.1 hr with hr | hr
    · have := g2'.coll r (List.mem_append_left _ hr)
      unfold updG; rw [if_neg (g3 r (List.mem_append_left _ hr)).1]; exact this
    · rcases List.mem_cons.1 hr with rfl | hr
      · unfold updG; rw [if_pos rfl]; exact hc2
      · have := g2'.coll r (List.mem_append_right _ hr)
        unfold updG; rw [if_neg (g3 r (List.mem_append_right _ hr)).1]; exact this
  · have cs : ∀ t ∈ A1 ++ ⟨k, v', L', n⟩ :: B1, t = ⟨k, v', L', n⟩ ∨ t ∈ A1 ++ B1 := fun t ht => by
      rcases List.mem_append.1 ht with ht | ht
      · exact .inr (List.mem_append_left _ ht)
      · rcases List.mem_cons.1 ht with rfl | ht
        · exact .inl rfl
        · exact .inr (List.mem_append_right _ ht)
    rcases cs r hr with rfl | hr <;> rcases cs s hs with rfl | hs
    · exact absurd rfl hne
    · exact hdis s hs
    · exact (hdis r hr).symm
    · exact g2.dis r hr s hs hne
  · rcases List.mem_append.1 hr with hr | hr
    · exact List.mem_append_left _ (g2.own r (List.mem_append_left _ hr) x hx)
    · rcases List.mem_cons.1 hr with rfl | hr
      · have hx' : v'.ownBlock = some x := hx
        exact List.mem_append_right _ (by rw [hx']; simp)
      · exact List.mem_append_left _ (g2.own r (List.mem_append_right _ hr) x hx)
  · have hkk : k' ≠ k := fun e => hno ⟨k, v', L', n⟩ (by simp) e.symm
    unfold updG
    rw [if_neg hkk]
    exact g4 k' hkk fun r hr => (List.mem_append.1 hr).elim (fun h => hno r (List.mem_append_left _ h)) fun h => hno r (List.mem_append_right _ (List.mem_cons_of_mem _ h))
  · rcases List.mem_append.1 hx with h' | h'
    · exact .inl h'
    · have hx' : v'.ownBlock = some x := by simpa using h'
      rcases hloc with e | e
      · exact .inl (h.own x (e ▸ hx'))
      · refine .inr ⟨hx', ?_⟩
        rw [e] at hx'
        injection hx' with hx'
        exact hx'.symm

end
end Go.Proofs.YtjjfafgaphloaaaGreatDoor
