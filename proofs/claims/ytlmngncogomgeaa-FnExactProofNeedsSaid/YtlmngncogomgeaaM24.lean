/- Of the proof of FnExactProofNeeds: LwProofNeeds. -/
import Derived.Test.YtlmngncogomgeaaM15
import Derived.Test.YtlmngncogomgeaaM23
import Derived.Test.YtlmngncogomgeaaM21
import Derived.Test.YtlmngncogomgeaaM17
namespace Go.Proofs.Ytlmngncogomgeaa
open Go.RowKit D
set_option linter.unusedVariables false
attribute [local go_sem ↓] Go.wp_at_zero Go.wp_at_succ
theorem D.giv_bulk : ∀ p : Pf, ∀ x ∈ givL p, x.args.length ≤ bulkPf p := Pf.ind fun p ih x hx => by
  rw [givL_eq] at hx
  have hb := bulkPf_eq p
  rcases List.mem_append.1 hx with h | h
  · split at h
    · rw [List.mem_singleton.1 h]; unfold bulkA at hb; omega
    · simp at h
  · obtain ⟨k, hk, hxk⟩ := List.mem_flatMap.1 h
    have h1 := ih k hk x hxk
    have h2 : bulkPf k ≤ sumL bulkPf p.kids := by
      obtain ⟨i, hi, rfl⟩ := List.getElem_of_mem hk
      have := sumL_le_of_lt bulkPf p.kids i hi
      omega
    omega

theorem D.giv_cnt : ∀ p : Pf, sumL cntA (givL p) ≤ 1 + 2 * bulkPf p := Pf.ind fun p ih => by
  rw [givL_eq]
  have hb := bulkPf_eq p
  have h : ∀ ks : List Pf, (∀ k ∈ ks, sumL cntA (givL k) ≤ 1 + 2 * bulkPf k) → sumL cntA (ks.flatMap givL) ≤ ks.length + 2 * sumL bulkPf ks := by
    intro ks
    induction ks with
    | nil => intro _; simp [sumL]
    | cons k ks ihk =>
      intro h
      have h1 := h k (List.mem_cons_self ..)
      have h2 := ihk fun q hq => h q (List.mem_cons_of_mem _ hq)
      simp only [sumL, List.flatMap_cons, List.map_append, List.sum_append, List.map_cons, List.sum_cons, List.length_cons] at *
      omega
  have h1 := h p.kids ih
  have h2 : sumL cntA (if p.rule = -1 then [p.fact] else []) ≤ 1 + 2 * p.fact.args.length := by
    split
    · simp [sumL, cntA]
    · simp [sumL]
  unfold bulkA at hb
  simp only [sumL, List.map_append, List.sum_append] at *
  omega

theorem D.ins_cnt (out : List A) (x : A) : sumL cntA (insA out x) ≤ sumL cntA out + cntA x := by
  unfold insA
  split
  · omega
  · have h := congrArg (sumL cntA) (List.take_append_drop (pl out x) out)
    simp only [sumL, List.map_append, List.sum_append, List.map_cons, List.sum_cons] at *
    omega

theorem D.puts_cnt (xs out : List A) : sumL cntA (putsI out xs) ≤ sumL cntA out + sumL cntA xs := by
  induction xs generalizing out with
  | nil => simp [putsI, sumL]
  | cons x xs ih =>
    have h1 := ih (insA out x)
    have h2 := ins_cnt out x
    have e : putsI out (x :: xs) = putsI (insA out x) xs := rfl
    rw [e]
    have e2 : sumL cntA (x :: xs) = cntA x + sumL cntA xs := by simp [sumL]
    omega

set_option maxRecDepth 100000 in
set_option maxHeartbeats 4000000 in
theorem exactProofNeeds_walk (a : Pf) (c0 c1 c2 c3 : Value) (bs : List Nat) (w : World) (h0 : ∃ n, proofK n w [c0, c1, c2, c3] a bs) :
    Calls Try.prog 3 #[.agg #[c0, c1, c2, c3]] w fun e w' => e = .returned (.bool true) ∧ Below w.heap.size w w' := by
  obtain ⟨n, h⟩ := h0
  obtain ⟨Ad, cap, Ae, cape, rfl, rfl, rfl, rfl⟩ : ∃ Ad cap Ae cape, c0 = .string a.fact.name ∧ c1 = .slice Ad a.fact.args.length cap ∧ c2 = .int .i64 a.rule ∧ c3 = .slice Ae a.kids.length cape := by
    obtain ⟨Ad, cap, Ae, cape, e⟩ := proof_cells (cs := #[c0, c1, c2, c3]) h
    simp only [Array.mk.injEq, List.cons.injEq, and_true] at e
    exact ⟨Ad, cap, Ae, cape, e⟩
  have hsz := fun w' (hb : Below w.heap.size w w') => szProof_any n a _ _ _ _ bs 1048576 w' ((proofK_good n).below h hb) (by omega) (by omega)
  have hto := fun (hl : bulkPf a ≤ 1048576) w' (hb : Below w.heap.size w w') => toProof_b n a _ _ _ _ bs w' ((proofK_good n).below h hb) (by exact hl)
  have HSB := Lib.hid (sizePf_le a)
  have HCN := Lib.hid (Nat.le_trans (puts_cnt (givL a) []) (by have := giv_cnt a; show sumL cntA [] + sumL cntA (givL a) ≤ 1 + 2 * bulkPf a; simp [sumL] at *; omega))
  have HGB := Lib.hid (giv_bulk a)
  have HSP := Lib.hid (fun (c0 c1 c2 c3 : Value) (bs : List Nat) (w : World) (h : proofK n w [c0, c1, c2, c3] a bs) => needs_spec n a c0 c1 c2 c3 bs w h)
  have HIM := Lib.hid (fun (c0 c1 c2 c3 : Value) (bs : List Nat) (w : World) (h : proofK n w [c0, c1, c2, c3] a bs) (hw : ∀ b ∈ bs, Wri w b) => needs_impl n a c0 c1 c2 c3 bs w h hw)
  generalize putsI [] (givL a) = X at *
  clear h
  go_enter Try.func3, Try.ntmps3
  go_wp2_with fail
  refine (hsz _ ((Below.refl _ _).alloc (Nat.le_refl _) _)).mono ?_
  rintro e w1 ⟨hb1, r, rfl, hr⟩
  have B1 : Below w.heap.size w w1 := ((Below.refl _ _).alloc (Nat.le_refl _) _).trans (hb1.mono (by simp))
  have x0 : w1.cell? ⟨w.heap.size, 0, none⟩ = some (.string a.fact.name) := cell_later hb1 (by go_simp)
  have x1 : w1.cell? ⟨w.heap.size, 1, none⟩ = some (.slice Ad a.fact.args.length cap) := cell_later hb1 (by go_simp)
  have x2 : w1.cell? ⟨w.heap.size, 2, none⟩ = some (.int .i64 a.rule) := cell_later hb1 (by go_simp)
  have x3 : w1.cell? ⟨w.heap.size, 3, none⟩ = some (.slice Ae a.kids.length cape) := cell_later hb1 (by go_simp)
  have HSL : Hid (w.heap.size < w1.heap.size) := Lib.hid (by have := hb1.size; simp at this; omega)
  clear hsz
  rcases hr with rfl | ⟨hr0, hr1⟩
  · go_wp2
    go_ret
    exact ⟨rfl, B1⟩
  · have hbk : sizePf a ≤ 16777216 := by have := HSB.out; omega
    have HBK := Lib.hid (And.intro hbk (show ∀ x ∈ givL a, x.args.length ≤ 16777216 from fun x hx => by have := HGB.out x hx; omega))
    have HT := Lib.hid (hto (by omega))
    have HVB : Hid (sumL cntA X ≤ 900000000) := Lib.hid (by have := HCN.out; omega)
    have HMB : Hid (cnM a ≤ 900000000) := Lib.hid (by unfold cnM; omega)
    clear hto hr1 hbk HCN HGB HSB
    go_wp2_with fail
    refine (HT.out _ B1).mono ?_
    rintro e w2 ⟨hb2, cs2, bs2, rfl, hR2, hN2⟩
    obtain ⟨Ad2, cap2, Ae2, cape2, rfl⟩ := proof_cells hR2
    have B2 := B1.trans (hb2.mono B1.size)
    replace x0 := cell_later hb2 x0
    replace x1 := cell_later hb2 x1
    replace x2 := cell_later hb2 x2
    replace x3 := cell_later hb2 x3
    go_wp2_with fail
    refine (HSP.out _ _ _ _ bs2 _ hR2 HBK.out.1 HBK.out.2).mono ?_
    rintro e w3 ⟨hb3, v3, bs3, rfl, hR3⟩
    obtain ⟨Ad3, cap3, rfl, _, _⟩ := sliceK_form hR3
    have B3 := B2.trans (hb3.mono B2.size)
    replace x0 := cell_later hb3 x0
    replace x1 := cell_later hb3 x1
    replace x2 := cell_later hb3 x2
    replace x3 := cell_later hb3 x3
    have US := Lib.hid (atomsK_good.lt hR3)
    have RS := Lib.hid hR3
    have Q3 : Hid (w.heap.size < w3.heap.size) := Lib.hid (by have := HSL.out; have := hb2.size; have := hb3.size; omega)
    clear hR2 hN2 hR3 HSP
    go_wp2_with fail
    refine (HT.out _ B3).mono ?_
    rintro e w4 ⟨hb4, cs4, bs4, rfl, hR4, hN4⟩
    obtain ⟨Ad4, cap4, Ae4, cape4, rfl⟩ := proof_cells hR4
    have B4 := B3.trans (hb4.mono B3.size)
    replace x0 := cell_later hb4 x0
    replace x1 := cell_later hb4 x1
    replace x2 := cell_later hb4 x2
    replace x3 := cell_later hb4 x3
    replace RS := Lib.hid (atomsK_good.below RS.out hb4)
    have L4 : Hid (∀ b ∈ bs4, w3.heap.size ≤ b) := Lib.hid fun b hb => (hN4.own b hb).1
    have U4 := Lib.hid ((proofK_good n).lt hR4)
    have Q4 : Hid (w3.heap.size ≤ w4.heap.size) := Lib.hid hb4.size
    go_wp2_with fail
    have hA4 : Below w4.heap.size w4 (w4.alloc (.cells #[.string a.fact.name, .slice Ad4 a.fact.args.length cap4, .int .i64 a.rule, .slice Ae4 a.kids.length cape4] 36)) := (Below.refl _ _).alloc (Nat.le_refl _) _
    refine (HIM.out _ _ _ _ bs4 _ ((proofK_good n).below hR4 hA4) (hN4.below hA4).wri HBK.out.1 HBK.out.2).mono ?_
    rintro e w5 ⟨hb5, v5, bs5, rfl, hR5, hN5⟩
    obtain ⟨Ad5, cap5, rfl, _, _⟩ := sliceK_form hR5
    have hB5 := hA4.trans (hb5.mono hA4.size)
    have B5 := B4.trans (hB5.mono B4.size)
    have R4 := Lib.hid ((proofK_good n).below hR4 hB5)
    have N4 := Lib.hid (hN4.below hB5)
    replace RS := Lib.hid (atomsK_good.below RS.out hB5)
    replace x0 := cell_later hB5 x0
    replace x1 := cell_later hB5 x1
    replace x2 := cell_later hB5 x2
    replace x3 := cell_later hB5 x3
    have L5 : Hid (∀ b ∈ bs5, w4.heap.size < b) := Lib.hid fun b hb => by have h1 := (hN5.own b hb).1; simp at h1; omega
    have U5 := Lib.hid (atomsK_good.lt hR5)
    have R5 := Lib.hid hR5
    have N5 := Lib.hid hN5
    have g0 : w5.cell? ⟨w4.heap.size, 0, none⟩ = some (.string a.fact.name) := cell_later hb5 (by go_simp)
    have g1 : w5.cell? ⟨w4.heap.size, 1, none⟩ = some (.slice Ad4 a.fact.args.length cap4) := cell_later hb5 (by go_simp)
    have g2 : w5.cell? ⟨w4.heap.size, 2, none⟩ = some (.int .i64 a.rule) := cell_later hb5 (by go_simp)
    have g3 : w5.cell? ⟨w4.heap.size, 3, none⟩ = some (.slice Ae4 a.kids.length cape4) := cell_later hb5 (by go_simp)
    clear hR4 hN4 hA4 hR5 hN5
    go_wp2_with fail
    refine (eqAtomS_same X _ _ bs5 bs3 _ R5.out RS.out).mono ?_
    rintro e w6 ⟨rfl, hb6⟩
    have B6 := B5.trans (hb6.mono B5.size)
    replace RS := Lib.hid (atomsK_good.below RS.out hb6)
    replace R4 := Lib.hid ((proofK_good n).below R4.out hb6)
    replace N4 := Lib.hid (N4.out.below hb6)
    replace R5 := Lib.hid (atomsK_good.below R5.out hb6)
    replace N5 := Lib.hid (N5.out.below hb6)
    have u0 := cell_later hb6 x0
    have u1 := cell_later hb6 x1
    have u2 := cell_later hb6 x2
    have u3 := cell_later hb6 x3
    replace g0 := cell_later hb6 g0
    replace g1 := cell_later hb6 g1
    replace g2 := cell_later hb6 g2
    replace g3 := cell_later hb6 g3
    clear x0 x1 x2 x3
    go_wp2_with fail
    go_region_held3 (fun w' => w'.cell? ⟨w.heap.size, 0, none⟩ = some (.string a.fact.name) ∧ w'.cell? ⟨w.heap.size, 1, none⟩ = some (.slice Ad a.fact.args.length cap) ∧ w'.cell? ⟨w.heap.size, 2, none⟩ = some (.int .i64 a.rule) ∧ w'.cell? ⟨w.heap.size, 3, none⟩ = some (.slice Ae a.kids.length cape) ∧ w'.cell? ⟨w4.heap.size, 0, none⟩ = some (.string a.fact.name) ∧ w'.cell? ⟨w4.heap.size, 1, none⟩ = some (.slice Ad4 a.fact.args.length cap4) ∧ w'.cell? ⟨w4.heap.size, 2, none⟩ = some (.int .i64 a.rule) ∧ w'.cell? ⟨w4.heap.size, 3, none⟩ = some (.slice Ae4 a.kids.length cape4))
      (first | go_keep | exact ⟨cell_later hb7 u0, cell_later hb7 u1, cell_later hb7 u2, cell_later hb7 u3, cell_later hb7 g0, cell_later hb7 g1, cell_later hb7 g2, cell_later hb7 g3⟩ | exact ⟨cell_later hb8 q0, cell_later hb8 q1, cell_later hb8 q2, cell_later hb8 q3, cell_later hb8 q4, cell_later hb8 q5, cell_later hb8 q6, cell_later hb8 q7⟩)
      (first
        | (go_at_call 6; refine (HT.out _ B6.drew).mono ?_; rintro e w7 ⟨hb7, cs7, bs7, rfl, hR7, hN7⟩; obtain ⟨Ad7, cap7, Ae7, cape7, rfl⟩ := proof_cells hR7; have hc7 : Below w6.heap.size w6 w7 := Below.trans (Below.drew (Below.refl _ _)) hb7)
        | (go_at_call 9; refine (eqProof_same n a _ _ _ _ _ _ _ _ bs4 _ _ ((proofK_good n).below R4.out hc7) hR7).mono ?_; rintro e w8 ⟨rfl, hb8⟩; have q0 := cell_later hb7 u0; have q1 := cell_later hb7 u1; have q2 := cell_later hb7 u2; have q3 := cell_later hb7 u3; have q4 := cell_later hb7 g0; have q5 := cell_later hb7 g1; have q6 := cell_later hb7 g2; have q7 := cell_later hb7 g3))
    have hb68 : Below w6.heap.size w6 w8 := hc7.trans (hb8.mono hc7.size)
    have B8 := B6.trans (hb68.mono B6.size)
    replace RS := Lib.hid (atomsK_good.below RS.out hb68)
    replace R4 := Lib.hid ((proofK_good n).below R4.out hb68)
    replace N4 := Lib.hid (N4.out.below hb68)
    replace R5 := Lib.hid (atomsK_good.below R5.out hb68)
    replace N5 := Lib.hid (N5.out.below hb68)
    replace u0 := cell_later hb68 u0
    replace u1 := cell_later hb68 u1
    replace u2 := cell_later hb68 u2
    replace u3 := cell_later hb68 u3
    replace g0 := cell_later hb68 g0
    replace g1 := cell_later hb68 g1
    replace g2 := cell_later hb68 g2
    replace g3 := cell_later hb68 g3
    have Q8 : Hid (w4.heap.size ≤ w8.heap.size) := Lib.hid (Nat.le_trans hB5.size (Nat.le_trans hb6.size hb68.size))
    clear hR7 hN7 q0 q1 q2 q3 q4 q5 q6 q7
    go_wp2_with fail
    refine (markProof_any n a _ _ _ _ bs4 1 w3.heap.size w8 R4.out N4.out (by have := Q4.out; have := Q8.out; omega) (by have := HMB.out; omega)).mono ?_
    rintro e w9 ⟨q9, rfl, hq9, hK9⟩
    have hq9n : ¬ ((q9 : Int) < 0) := by omega
    replace RS := Lib.hid (Good.kept atomsK_good RS.out hK9 (fun b hb hc => by have := US.out _ hb; have := L4.out _ hc; omega))
    replace R5 := Lib.hid (Good.kept atomsK_good R5.out hK9 (fun b hb hc => by have := L5.out _ hb; have := U4.out _ hc; omega))
    replace N5 := Lib.hid (New.kept N5.out hK9 (fun b hb hc => by have := L5.out _ hb; have := U4.out _ hc; omega))
    have hn9 : w.heap.size ∉ bs4 := fun hc => by have := L4.out _ hc; have := Q3.out; omega
    replace u0 := hK9.cell (p := ⟨w.heap.size, 0, none⟩) hn9 u0
    replace u1 := hK9.cell (p := ⟨w.heap.size, 1, none⟩) hn9 u1
    replace u2 := hK9.cell (p := ⟨w.heap.size, 2, none⟩) hn9 u2
    replace u3 := hK9.cell (p := ⟨w.heap.size, 3, none⟩) hn9 u3
    have B9 := B8.trans (hK9.below (fun b hb => by have := L4.out _ hb; have := Q3.out; omega) B8.size)
    clear R4 N4 g0 g1 g2 g3 hq9 hn9 hK9
    go_wp2_with fail
    refine (eqAtomS_same X _ _ bs5 bs3 _ R5.out RS.out).mono ?_
    rintro e w10 ⟨rfl, hb10⟩
    have B10 := B9.trans (hb10.mono B9.size)
    replace RS := Lib.hid (atomsK_good.below RS.out hb10)
    replace R5 := Lib.hid (atomsK_good.below R5.out hb10)
    replace N5 := Lib.hid (N5.out.below hb10)
    replace u0 := cell_later hb10 u0
    replace u1 := cell_later hb10 u1
    replace u2 := cell_later hb10 u2
    replace u3 := cell_later hb10 u3
    go_wp2_with fail
    refine (markAtomS_any X _ bs5 1 _ _ R5.out N5.out (by have := HVB.out; omega)).mono ?_
    rintro e w11 ⟨hk11, hR11, _, hK11⟩
    have MH : ∀ w', Below w11.heap.size w11 w' → Calls Try.prog 12 #[.slice Ad5 X.length cap5, .int .i64 1] w' (Held (1 + sumL cntA X) w') := fun w' hb => heldAtomS_any X _ bs5 1 w' (atomsK_good.below hR11 hb) (by have := HVB.out; omega)
    obtain ⟨m, hm⟩ : ∃ m : Nat, m = 1 + sumL cntA X := ⟨_, rfl⟩
    rw [← hm] at hk11
    rw [← hm] at MH
    subst hk11
    have hm0 : ¬ ((m : Int) < 0) := by omega
    clear hm
    have HMH := Lib.hid MH
    clear MH hR11
    replace RS := Lib.hid (Good.kept atomsK_good RS.out hK11 (fun b hb hc => by have := US.out _ hb; have := L5.out _ hc; have := Q4.out; omega))
    have hn11 : w.heap.size ∉ bs5 := fun hc => by have := L5.out _ hc; have := Q3.out; have := Q4.out; omega
    replace u0 := hK11.cell (p := ⟨w.heap.size, 0, none⟩) hn11 u0
    replace u1 := hK11.cell (p := ⟨w.heap.size, 1, none⟩) hn11 u1
    replace u2 := hK11.cell (p := ⟨w.heap.size, 2, none⟩) hn11 u2
    replace u3 := hK11.cell (p := ⟨w.heap.size, 3, none⟩) hn11 u3
    have B11 := B10.trans (hK11.below (fun b hb => by have := L5.out _ hb; have := Q3.out; have := Q4.out; omega) B10.size)
    clear R5 N5 hn11 hK11
    go_wp2_with fail
    refine (HMH.out _ (Below.refl _ _)).mono ?_
    rintro e w12 ⟨rfl, hb12⟩
    have B12 := B11.trans (hb12.mono B11.size)
    replace RS := Lib.hid (atomsK_good.below RS.out hb12)
    replace u0 := cell_later hb12 u0
    replace u1 := cell_later hb12 u1
    replace u2 := cell_later hb12 u2
    replace u3 := cell_later hb12 u3
    have HM : Hid (Below w11.heap.size w11 w12) := Lib.hid hb12
    go_wp2_with fail
    refine (HT.out _ B12).mono ?_
    rintro e w13 ⟨hb13, cs13, bs13, rfl, hR13, hN13⟩
    obtain ⟨Ad13, cap13, Ae13, cape13, rfl⟩ := proof_cells hR13
    have B13 := B12.trans (hb13.mono B12.size)
    replace RS := Lib.hid (atomsK_good.below RS.out hb13)
    replace HM := Lib.hid (HM.out.trans (hb13.mono HM.out.size))
    clear u0 u1 u2 u3
    go_wp2_with fail
    refine (HIM.out _ _ _ _ bs13 _ hR13 hN13.wri HBK.out.1 HBK.out.2).mono ?_
    rintro e w14 ⟨hb14, v14, bs14, rfl, hR14, hN14⟩
    obtain ⟨Ad14, cap14, rfl, _, _⟩ := sliceK_form hR14
    have B14 := B13.trans (hb14.mono B13.size)
    replace RS := Lib.hid (atomsK_good.below RS.out hb14)
    replace HM := Lib.hid (HM.out.trans (hb14.mono HM.out.size))
    have R14 := Lib.hid hR14
    clear hR13 hN13 hR14 hN14
    go_wp2_with fail
    refine (eqAtomS_same X _ _ bs14 bs3 _ R14.out RS.out).mono ?_
    rintro e w15 ⟨rfl, hb15⟩
    have B15 := B14.trans (hb15.mono B14.size)
    replace HM := Lib.hid (HM.out.trans (hb15.mono HM.out.size))
    clear RS R14
    go_wp2_with fail
    refine (HMH.out _ HM.out).mono ?_
    rintro e w16 ⟨rfl, hb16⟩
    have B16 := B15.trans (hb16.mono B15.size)
    go_wp2
    go_ret
    exact ⟨rfl, B16⟩

end Go.Proofs.Ytlmngncogomgeaa
