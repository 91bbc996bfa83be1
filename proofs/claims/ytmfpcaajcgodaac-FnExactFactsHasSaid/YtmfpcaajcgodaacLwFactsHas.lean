/- The walk of the law FnExactFactsHas. -/
import Derived.Test.YtmfpcaajcgodaacHas
import Derived.Test.YtmfpcaajcgodaacHAtomS
namespace Go.Proofs.Ytmfpcaajcgodaac
open Go.RowKit D
set_option linter.unusedVariables false
attribute [local go_sem ↓] Go.wp_at_zero Go.wp_at_succ

set_option maxHeartbeats 2000000 in
theorem exactFactsHas_walk (xs : List A) (v : Value) (bs : List Nat) (b : A) (e0 e1 : Value) (bs' : List Nat) (w : World) (h1 : atomsK w [v] xs bs) (h2 : atomK w [e0, e1] b bs') :
    Calls Try.prog 4 #[v, .agg #[e0, e1]] w fun e w' => e = .returned (.bool true) ∧ Below w.heap.size w w' := by
  obtain ⟨Ad, cap, rfl, hl, hm⟩ := sliceK_form h1
  obtain ⟨Ae, cape, rfl, rfl⟩ := atom_cells2 h2
  have sz1 := fun w' (hb : Below w.heap.size w w') => szAtomS_any xs _ bs 1048576 w' (atomsK_good.below h1 hb) (by omega) (by omega)
  have sz2 := fun l (h0 : 0 ≤ l) (hl : l ≤ 1048576) w' (hb : Below w.heap.size w w') => szAtom_any b _ _ bs' l w' (atomK_good.below h2 hb) h0 hl
  have hto1 := fun (hl : bulkAs xs ≤ 1048576) w' (hb : Below w.heap.size w w') => toAtomS_any xs _ bs w' (atomsK_good.below h1 hb) hl
  have hto2 := fun (hl : b.args.length ≤ 1048576) w' (hb : Below w.heap.size w w') => toAtom_any b _ _ bs' w' (atomK_good.below h2 hb) hl
  clear h1 h2 hm
  have hA := (Below.refl w.heap.size w).alloc (Nat.le_refl _) (.cells #[.string b.name, .slice Ae b.args.length cape] 31)
  go_enter Try.func4, Try.ntmps4
  go_wp2_with fail
  refine (sz1 _ hA).mono ?_
  rintro e w1 ⟨hb1, r, rfl, hr⟩
  have B1 := hA.trans (hb1.mono hA.size)
  have y0 : w1.cell? ⟨w.heap.size, 0, none⟩ = some (.string b.name) := cell_later hb1 (by go_simp)
  have y1 : w1.cell? ⟨w.heap.size, 1, none⟩ = some (.slice Ae b.args.length cape) := cell_later hb1 (by go_simp)
  clear sz1 hA
  rcases hr with rfl | ⟨hr0, hr1⟩
  · go_wp2
    go_ret
    exact ⟨rfl, B1⟩
  · go_wp2_with fail
    refine (sz2 r hr0 (by omega) _ B1).mono ?_
    rintro e w2 ⟨hb2, r2, rfl, hr2⟩
    have B2 := B1.trans (hb2.mono B1.size)
    have y0' := cell_later hb2 y0
    have y1' := cell_later hb2 y1
    clear sz2 y0 y1
    rcases hr2 with rfl | ⟨hr3, hr4⟩
    · go_wp2
      go_ret
      exact ⟨rfl, B2⟩
    · have T1 := hto1 (by omega)
      have T2 := hto2 (by unfold bulkA at hr4; omega)
      have HT1 := Lib.hid T1
      have HT2 := Lib.hid T2
      clear hto1 hto2 hr1 hr4
      go_wp2_with fail
      go_region_held3 (fun w' => w'.cell? ⟨w.heap.size, 0, none⟩ = some (.string b.name) ∧ w'.cell? ⟨w.heap.size, 1, none⟩ = some (.slice Ae b.args.length cape))
        (first | go_keep | exact ⟨p2, p3⟩)
        (first
          | (go_at_call 7; refine (T1 _ B2.drew).mono ?_; rintro e w3 ⟨hb3, v3, bs3, rfl, hR3, hN3⟩; obtain ⟨Ad3, cap3, rfl, _, _⟩ := sliceK_form hR3; have B3 : Below w.heap.size w w3 := B2.drew.trans (hb3.mono B2.size); have p2 := cell_later hb3 y0'; have p3 := cell_later hb3 y1')
          | (go_at_call 12; refine (T2 _ B3).mono ?_; rintro e w4 ⟨hb4, cs4, bs4, rfl, hR4, hN4⟩; obtain ⟨Ad4, cap4, rfl⟩ := atom_cells hR4; have B4 := B3.trans (hb4.mono B3.size); have q2 := cell_later hb4 p2; have q3 := cell_later hb4 p3; clear p2 p3; have p2 := q2; have p3 := q3; clear q2 q3)
          | (go_at_call 11; refine (factsHas_spec xs b _ _ _ bs3 bs4 _ (atomsK_good.below hR3 hb4) hR4).mono ?_; rintro e w5 ⟨rfl, hb5⟩; have B5 := B4.trans (hb5.mono B4.size); have q2 := cell_later hb5 p2; have q3 := cell_later hb5 p3; clear p2 p3; have p2 := q2; have p3 := q3; clear q2 q3))
      clear hR3 hN3 hR4 hN4
      go_wp2_with fail
      refine (HT1.out _ B5).mono ?_
      rintro e w6 ⟨hb6, v6, bs6, rfl, hR6, hN6⟩
      obtain ⟨Ad6, cap6, rfl, _, _⟩ := sliceK_form hR6
      have B6 := B5.trans (hb6.mono B5.size)
      have p2' := cell_later hb6 p2
      have p3' := cell_later hb6 p3
      clear p2 p3
      have z6 : w.heap.size < w6.heap.size := lt_of_cell p2'
      go_wp2_with fail
      refine (HT2.out _ B6).mono ?_
      rintro e w7 ⟨hb7, cs7, bs7, rfl, hR7, hN7⟩
      obtain ⟨Ad7, cap7, rfl⟩ := atom_cells hR7
      have B7 := B6.trans (hb7.mono B6.size)
      have p2 := cell_later hb7 p2'
      have p3 := cell_later hb7 p3'
      have hR6' := atomsK_good.below hR6 hb7
      clear p2' p3' hR6 hN6 hN7
      have z7 : w.heap.size < w7.heap.size := lt_of_cell p2
      go_wp2_with fail
      have hA7 : Below w7.heap.size w7 (w7.alloc (.cells #[.string b.name, .slice Ad7 b.args.length cap7] 36)) := (Below.refl _ _).alloc (Nat.le_refl _) _
      refine (factsHas_impl xs b _ _ _ bs6 bs7 _ (atomsK_good.below hR6' hA7) (atomK_good.below hR7 hA7)).mono ?_
      rintro e w8 ⟨rfl, hb8⟩
      have hB8 := hA7.trans (hb8.mono hA7.size)
      have B8 := B7.trans (hB8.mono B7.size)
      have p2' := cell_later hB8 p2
      have p3' := cell_later hB8 p3
      have k0' : w8.cell? ⟨w7.heap.size, 0, none⟩ = some (.string b.name) := cell_later hb8 (by go_simp)
      have k1' : w8.cell? ⟨w7.heap.size, 1, none⟩ = some (.slice Ad7 b.args.length cap7) := cell_later hb8 (by go_simp)
      have hR6 := Lib.hid (atomsK_good.below hR6' hB8)
      have hR7' := Lib.hid (atomK_good.below hR7 hB8)
      clear p2 p3 hR6' hR7 hA7
      go_wp2_with fail
      refine (HT1.out _ B8).mono ?_
      rintro e w9 ⟨hb9, v9, bs9, rfl, hR9, hN9⟩
      obtain ⟨Ad9, cap9, rfl, _, _⟩ := sliceK_form hR9
      have hq := eqAtomS_same xs _ _ bs6 bs9 w9 (atomsK_good.below hR6.out hb9) hR9
      clear hR9 hN9
      go_wp2_with fail
      refine hq.mono ?_
      rintro e w10 ⟨rfl, hb10⟩
      have hB10 : Below w8.heap.size w8 w10 := hb9.trans (hb10.mono hb9.size)
      have B10 := B8.trans (hB10.mono B8.size)
      have r0 := cell_later hB10 p2'
      have r1 := cell_later hB10 p3'
      have s0 := cell_later hB10 k0'
      have s1 := cell_later hB10 k1'
      have hR7 := Lib.hid (atomK_good.below hR7'.out hB10)
      clear p2' p3' k0' k1' hR6 hR7'
      go_wp2_with fail
      go_region_held3 (fun w' => w'.cell? ⟨w.heap.size, 0, none⟩ = some (.string b.name) ∧ w'.cell? ⟨w.heap.size, 1, none⟩ = some (.slice Ae b.args.length cape) ∧ w'.cell? ⟨w7.heap.size, 0, none⟩ = some (.string b.name) ∧ w'.cell? ⟨w7.heap.size, 1, none⟩ = some (.slice Ad7 b.args.length cap7))
        (first | go_keep | exact ⟨q0, q1, q2, q3⟩)
        (first
          | (go_at_call 12; refine (HT2.out _ B10.drew).mono ?_; rintro e w11 ⟨hb11, cs11, bs11, rfl, hR11, hN11⟩; obtain ⟨Ad11, cap11, rfl⟩ := atom_cells hR11; have hc11 : Below w10.heap.size w10 w11 := Below.trans (Below.drew (Below.refl _ _)) hb11; have q0 := cell_later hb11 r0; have q1 := cell_later hb11 r1; have q2 := cell_later hb11 s0; have q3 := cell_later hb11 s1)
          | (go_at_call 14; refine (eqAtom_same b _ _ _ _ bs7 _ _ (atomK_good.below hR7.out hc11) hR11).mono ?_; rintro e w12 ⟨rfl, hb12⟩; have q0' := cell_later hb12 q0; have q1' := cell_later hb12 q1; have q2' := cell_later hb12 q2; have q3' := cell_later hb12 q3; clear q0 q1 q2 q3; have q0 := q0'; have q1 := q1'; have q2 := q2'; have q3 := q3'; clear q0' q1' q2' q3'))
      have B12 := (B10.trans (hc11.mono B10.size)).trans (hb12.mono (Nat.le_trans B10.size hc11.size))
      go_wp2
      go_ret
      exact ⟨rfl, B12⟩

end Go.Proofs.Ytmfpcaajcgodaac
