/- Of the proof of FnExactProofNeeds: NdsS. -/
import Derived.Test.YtlmngncogomgeaaM20
import Derived.Test.YtlmngncogomgeaaM14
namespace Go.Proofs.Ytlmngncogomgeaa
open Go.RowKit D
set_option linter.unusedVariables false
attribute [local go_sem ↓] Go.wp_at_zero Go.wp_at_succ
theorem D.giv_take (ks : List Pf) (k : Nat) (h : k < ks.length) : (ks.take (k + 1)).flatMap givL = (ks.take k).flatMap givL ++ givL ks[k] := by
  rw [List.take_succ_eq_append_getElem h, List.flatMap_append]; simp

theorem D.giv_take_le (ks : List Pf) (k : Nat) : ((ks.take k).flatMap givL).length ≤ sumL sizePf ks := by
  induction ks generalizing k with
  | nil => simp [sumL]
  | cons a ks ih =>
    have e : sumL sizePf (a :: ks) = sizePf a + sumL sizePf ks := by simp [sumL]
    cases k with
    | zero => simp
    | succ k =>
      have h1 := ih k
      have h2 := givL_len a
      rw [List.take_succ_cons, List.flatMap_cons, List.length_append]
      omega

set_option maxRecDepth 100000 in
set_option maxHeartbeats 4000000 in
theorem needs6_any : ∀ (n : Nat) (p : Pf) (c0 c1 c2 c3 v : Value) (out : List A) (bs b2 : List Nat) (w : World) (h : proofK n w [c0, c1, c2, c3] p bs) (ho : atomsK w [v] out b2) (hs : asc out = true) (hl : out.length + sizePf p ≤ 16777216),
    Calls Try.prog 16 #[.agg #[c0, c1, c2, c3], v] w (Reads atomsK (putsI out (givL p)) w.heap.size w) := by
  intro n
  induction n with
  | zero => exact fun p c0 c1 c2 c3 v out bs b2 w h => h.elim
  | succ n ih =>
    intro p c0 c1 c2 c3 v out bs b2 w h ho hs hl
    obtain ⟨Ad, cap, Ae, cape, b1, b3, rfl, rfl, rfl, rfl, rfl, hri, hfa, hq⟩ := proof_parts h
    obtain ⟨Ao, co, rfl, _, _⟩ := sliceK_form ho
    have hA : Below w.heap.size w (w.alloc (.cells #[.string p.fact.name, .slice Ad p.fact.args.length cap, .int .i64 p.rule, .slice Ae p.kids.length cape] 36)) := (Below.refl w.heap.size w).alloc (Nat.le_refl _) _
    have HPUT := Lib.hid (l3Put_any out p.fact _ _ _ b2 b1 _ (atomsK_good.below ho hA) (atomK_good.below hfa hA) hs (by omega))
    have HO := Lib.hid ho
    have HQ := Lib.hid hq
    have IH := Lib.hid ih
    have HA := Lib.hid hA
    have HL := Lib.hid hl
    have HAS := Lib.hid hs
    have HSZ := Lib.hid (sizePf_eq p)
    have HGV := Lib.hid (givL_eq p)
    have hkl : p.kids.length ≤ 16777216 := by have := kids_le p; omega
    clear ho hq ih hA hl hs hfa h hri
    obtain ⟨W, hW⟩ : ∃ W, W = w.alloc (.cells #[.string p.fact.name, .slice Ad p.fact.args.length cap, .int .i64 p.rule, .slice Ae p.kids.length cape] 36) := ⟨_, rfl⟩
    have y0 : W.cell? ⟨w.heap.size, 0, none⟩ = some (.string p.fact.name) := by rw [hW]; go_simp
    have y1 : W.cell? ⟨w.heap.size, 1, none⟩ = some (.slice Ad p.fact.args.length cap) := by rw [hW]; go_simp
    have y2 : W.cell? ⟨w.heap.size, 2, none⟩ = some (.int .i64 p.rule) := by rw [hW]; go_simp
    have y3 : W.cell? ⟨w.heap.size, 3, none⟩ = some (.slice Ae p.kids.length cape) := by rw [hW]; go_simp
    rw [← hW] at HPUT HA
    have HLOOP : Hid (∀ (o1 : List A) (v1 : Value) (bo : List Nat) (w1 : World), Below w.heap.size w w1 → atomsK w1 [v1] o1 bo → True) := Lib.hid fun _ _ _ _ _ _ => trivial
    by_cases hr : p.rule = -1
    · have HG : Hid (putsI out (givL p) = putsI (insA out p.fact) (p.kids.flatMap givL)) := Lib.hid (by rw [HGV.out, if_pos hr, putsI_append]; rfl)
      have HIL : Hid ((insA out p.fact).length ≤ out.length + 1) := Lib.hid (ins_length_le _ _)
      have HIA : Hid (asc (insA out p.fact) = true) := Lib.hid (asc_ins HAS.out _)
      generalize putsI out (givL p) = OUT at *
      generalize p.rule = ru at *
      subst hr
      go_enter Try.func16, Try.ntmps16
      go_wp2_with (rw [← hW]; go_at_call 35; refine HPUT.out.mono ?_; rintro e w1 ⟨hb1, v1, b9, rfl, hv1⟩; have HB1 := Lib.hid (HA.out.trans (hb1.mono HA.out.size)); have HV1 := Lib.hid hv1; replace y0 := cell_later hb1 y0; replace y1 := cell_later hb1 y1; replace y2 := cell_later hb1 y2; replace y3 := cell_later hb1 y3; clear hb1 hv1)
      generalize insA out p.fact = o1 at *
      go_loopw [1, 5] (fun vv iv wr => ∃ (k : Nat) (b4 : List Nat), k ≤ p.kids.length ∧ iv = .int .i64 k ∧ atomsK wr [vv] (putsI o1 ((p.kids.take k).flatMap givL)) b4 ∧ Hid (Below w.heap.size w wr) ∧ wr.cell? ⟨w.heap.size, 3, none⟩ = some (.slice Ae p.kids.length cape)) (fun _ i _ => p.kids.length - (intOf i).toNat)
      case atStart => exact ⟨0, _, Nat.zero_le _, rfl, HV1.out, HB1, y3⟩
      case round =>
        clear y0 y1 y2 y3 HPUT HV1 HB1 HLOOP
        obtain ⟨k, b4, hk, rfl, hv, HB, z3⟩ := hrel
        obtain ⟨Av, cv, rfl, _, _⟩ := sliceK_form hv
        have HV := Lib.hid hv
        clear hv
        by_cases hlt : k < p.kids.length
        · obtain ⟨kb, ko, Af, cf, Ag, cg, bq, rfl, -, d0, d1, d2, d3, hel, -⟩ := proofs_el ((proofsK_good n).below HQ.out HB.out) hlt
          have hki : (k : Int) < (p.kids.length : Int) := by omega
          have hk0 : (0 : Int) ≤ (k : Int) := by omega
          have HC := Lib.hid (IH.out p.kids[k] _ _ _ _ _ (putsI o1 ((p.kids.take k).flatMap givL)) bq b4 wr hel HV.out (putsI_asc HIA.out _) (by
            have h1 := putsI_len o1 ((p.kids.take k).flatMap givL)
            have h2 : ((p.kids.take k).flatMap givL).length + sizePf p.kids[k] ≤ sumL sizePf p.kids := by
              have h3 := List.take_append_drop k p.kids
              have h4 : sumL sizePf p.kids = sumL sizePf (p.kids.take k) + sumL sizePf (p.kids.drop k) := by
                unfold sumL
                rw [← List.sum_append, ← List.map_append, h3]
              have h5 : sumL sizePf (p.kids.drop k) = sizePf p.kids[k] + sumL sizePf (p.kids.drop (k + 1)) := by unfold sumL; rw [List.drop_eq_getElem_cons hlt, List.map_cons, List.sum_cons]
              have h6 := giv_take_le (p.kids.take k) k
              rw [List.take_take, Nat.min_self] at h6
              omega
            have h7 := HIL.out
            have h8 := HL.out
            have h9 := HSZ.out
            omega))
          have HSN : Hid (putsI o1 ((p.kids.take (k + 1)).flatMap givL) = putsI (putsI o1 ((p.kids.take k).flatMap givL)) (givL p.kids[k])) := Lib.hid (by rw [giv_take _ _ hlt, putsI_append])
          have HLT := Lib.hid hlt
          clear hel hk
          generalize p.kids[k] = kid at *
          clear hlt
          go_wp2_with (go_at_call 16; refine HC.out.mono ?_; rintro e w2 ⟨hb2, v2, b5, rfl, hv2⟩; have HB2 := Lib.hid (HB.out.trans (hb2.mono HB.out.size)); have HV2 := Lib.hid hv2; replace z3 := cell_later hb2 z3; clear hb2 hv2)
          go_roundw
          case rel => exact ⟨k + 1, b5, HLT.out, by go_num, by rw [HSN.out]; exact HV2.out, HB2, z3⟩
          case measure => have := HLT.out; simp [intOf]; omega
        · have hki : ¬ (k : Int) < (p.kids.length : Int) := by omega
          have HE : Hid (putsI o1 ((p.kids.take k).flatMap givL) = OUT) := Lib.hid (by rw [List.take_of_length_le (by omega), HG.out])
          clear hk hlt
          go_wp2
          go_ret
          exact ⟨HB.out, _, b4, rfl, by rw [← HE.out]; exact HV.out⟩
    · have HG : Hid (putsI out (givL p) = putsI out (p.kids.flatMap givL)) := Lib.hid (by rw [HGV.out, if_neg hr, putsI_append]; rfl)
      have HIL : Hid (out.length ≤ out.length + 1) := Lib.hid (by omega)
      have HIA : Hid (asc out = true) := HAS
      have HB1 : Hid (Below w.heap.size w W) := HA
      have HV1 : Hid (atomsK W [.slice Ao out.length co] out b2) := Lib.hid (atomsK_good.below HO.out HA.out)
      generalize putsI out (givL p) = OUT at *
      generalize p.rule = ru at *
      have hrb : (ru == (-1 : Int)) = false := by rw [beq_eq_false_iff_ne]; exact hr
      go_enter Try.func16, Try.ntmps16
      go_wp2_with (rw [← hW])
      try rw [← hW]
      go_loopw [1, 5] (fun vv iv wr => ∃ (k : Nat) (b4 : List Nat), k ≤ p.kids.length ∧ iv = .int .i64 k ∧ atomsK wr [vv] (putsI out ((p.kids.take k).flatMap givL)) b4 ∧ Hid (Below w.heap.size w wr) ∧ wr.cell? ⟨w.heap.size, 3, none⟩ = some (.slice Ae p.kids.length cape)) (fun _ i _ => p.kids.length - (intOf i).toNat)
      case atStart => exact ⟨0, _, Nat.zero_le _, rfl, HV1.out, HB1, y3⟩
      case round =>
        clear y0 y1 y2 y3 HPUT HV1 HB1 HLOOP
        obtain ⟨k, b4, hk, rfl, hv, HB, z3⟩ := hrel
        obtain ⟨Av, cv, rfl, _, _⟩ := sliceK_form hv
        have HV := Lib.hid hv
        clear hv
        by_cases hlt : k < p.kids.length
        · obtain ⟨kb, ko, Af, cf, Ag, cg, bq, rfl, -, d0, d1, d2, d3, hel, -⟩ := proofs_el ((proofsK_good n).below HQ.out HB.out) hlt
          have hki : (k : Int) < (p.kids.length : Int) := by omega
          have hk0 : (0 : Int) ≤ (k : Int) := by omega
          have HC := Lib.hid (IH.out p.kids[k] _ _ _ _ _ (putsI out ((p.kids.take k).flatMap givL)) bq b4 wr hel HV.out (putsI_asc HIA.out _) (by
            have h1 := putsI_len out ((p.kids.take k).flatMap givL)
            have h2 : ((p.kids.take k).flatMap givL).length + sizePf p.kids[k] ≤ sumL sizePf p.kids := by
              have h3 := List.take_append_drop k p.kids
              have h4 : sumL sizePf p.kids = sumL sizePf (p.kids.take k) + sumL sizePf (p.kids.drop k) := by
                unfold sumL
                rw [← List.sum_append, ← List.map_append, h3]
              have h5 : sumL sizePf (p.kids.drop k) = sizePf p.kids[k] + sumL sizePf (p.kids.drop (k + 1)) := by unfold sumL; rw [List.drop_eq_getElem_cons hlt, List.map_cons, List.sum_cons]
              have h6 := giv_take_le (p.kids.take k) k
              rw [List.take_take, Nat.min_self] at h6
              omega
            have h7 := HIL.out
            have h8 := HL.out
            have h9 := HSZ.out
            omega))
          have HSN : Hid (putsI out ((p.kids.take (k + 1)).flatMap givL) = putsI (putsI out ((p.kids.take k).flatMap givL)) (givL p.kids[k])) := Lib.hid (by rw [giv_take _ _ hlt, putsI_append])
          have HLT := Lib.hid hlt
          clear hel hk
          generalize p.kids[k] = kid at *
          clear hlt
          go_wp2_with (go_at_call 16; refine HC.out.mono ?_; rintro e w2 ⟨hb2, v2, b5, rfl, hv2⟩; have HB2 := Lib.hid (HB.out.trans (hb2.mono HB.out.size)); have HV2 := Lib.hid hv2; replace z3 := cell_later hb2 z3; clear hb2 hv2)
          go_roundw
          case rel => exact ⟨k + 1, b5, HLT.out, by go_num, by rw [HSN.out]; exact HV2.out, HB2, z3⟩
          case measure => have := HLT.out; simp [intOf]; omega
        · have hki : ¬ (k : Int) < (p.kids.length : Int) := by omega
          have HE : Hid (putsI out ((p.kids.take k).flatMap givL) = OUT) := Lib.hid (by rw [List.take_of_length_le (by omega), HG.out])
          clear hk hlt
          go_wp2
          go_ret
          exact ⟨HB.out, _, b4, rfl, by rw [← HE.out]; exact HV.out⟩

set_option maxRecDepth 100000 in
set_option maxHeartbeats 1000000 in
theorem needs_spec (n : Nat) (p : Pf) (c0 c1 c2 c3 : Value) (bs : List Nat) (w : World) (h : proofK n w [c0, c1, c2, c3] p bs) (hs : sizePf p ≤ 16777216) (ha : ∀ a ∈ givL p, a.args.length ≤ 16777216) :
    Calls Try.prog 5 #[.agg #[c0, c1, c2, c3]] w (Reads atomsK (putsI [] (givL p)) w.heap.size w) := by
  obtain ⟨Ad, cap, Ae, cape, rfl, rfl, rfl, rfl⟩ : ∃ Ad cap Ae cape, c0 = .string p.fact.name ∧ c1 = .slice Ad p.fact.args.length cap ∧ c2 = .int .i64 p.rule ∧ c3 = .slice Ae p.kids.length cape := by
    cases n with
    | zero => exact h.elim
    | succ n =>
      obtain ⟨Ad, cap, Ae, cape, _, _, e0, e1, e2, e3, _⟩ := proof_parts h
      exact ⟨Ad, cap, Ae, cape, e0, e1, e2, e3⟩
  obtain ⟨W, hW⟩ : ∃ W, W = (w.alloc (.cells #[.string p.fact.name, .slice Ad p.fact.args.length cap, .int .i64 p.rule, .slice Ae p.kids.length cape] 36)).alloc (.cells #[] 33) := ⟨_, rfl⟩
  have hA : Below w.heap.size w W := by rw [hW]; exact ((Below.refl w.heap.size w).alloc (Nat.le_refl _) _).alloc (by simp) _
  have HN : Hid (∀ (c : Nat), c ≤ maxLen → ∀ w', Below W.heap.size W w' → Calls Try.prog 16 #[.agg #[.string p.fact.name, .slice Ad p.fact.args.length cap, .int .i64 p.rule, .slice Ae p.kids.length cape], .slice (some ⟨w.heap.size + 1, 0, none⟩) 0 c] w' (Reads atomsK (putsI [] (givL p)) w'.heap.size w')) := Lib.hid fun c hc w' hb =>
    needs6_any n p _ _ _ _ _ [] bs [] w' ((proofK_good n).below h (hA.trans (hb.mono hA.size))) ⟨_, c, rfl, Nat.zero_le _, hc, fun _ => rfl, fun hne => absurd rfl hne⟩ rfl (by simpa using hs)
  have HC := Lib.hid (fun (v : Value) (b : List Nat) (w' : World) (hv : atomsK w' [v] (putsI [] (givL p)) b) => l3Copy_any (putsI [] (givL p)) v b w' hv (by have := putsI_len [] (givL p); have := givL_len p; simp at *; omega) (fun a hm => by
    have : ∀ (xs out : List A), (∀ a ∈ out, a.args.length ≤ 16777216) → (∀ a ∈ xs, a.args.length ≤ 16777216) → ∀ a ∈ putsI out xs, a.args.length ≤ 16777216 := by
      intro xs
      induction xs with
      | nil => exact fun out h1 _ => h1
      | cons x xs ih =>
        intro out h1 h2
        exact ih (insA out x) (fun a ha => (mem_ins ha).elim (h1 a) (fun e => by rw [e]; exact h2 x (List.mem_cons_self ..))) (fun a ha => h2 a (List.mem_cons_of_mem _ ha))
    exact this (givL p) [] (fun a ha => by simp at ha) ha a hm))
  have HA := Lib.hid hA
  clear hA h hs ha
  generalize putsI [] (givL p) = OUT at *
  go_enter Try.func5, Try.ntmps5
  go_wp2_with (first
    | (rw [← hW]; go_at_call 16; refine (HN.out 0 (by unfold maxLen; omega) _ (Below.refl _ _)).mono ?_; rintro e w1 ⟨hb1, v1, b1, rfl, hv1⟩; have hB1 := HA.out.trans (hb1.mono HA.out.size))
    | (go_at_call 15; refine (HC.out _ _ _ hv1).mono ?_; rintro e w2 ⟨hb2, v2, b2, rfl, hv2⟩; have hB2 := hB1.trans (hb2.mono hB1.size)))
  go_wp2
  go_ret
  exact ⟨hB2, v2, b2, rfl, hv2⟩

end Go.Proofs.Ytlmngncogomgeaa
