/- Of the proof of FnExactProofNeeds: NdsE, L3N. -/
import Derived.Test.YtlmngncogomgeaaM12
namespace Go.Proofs.Ytlmngncogomgeaa
open Go.RowKit D
set_option linter.unusedVariables false
attribute [local go_sem ↓] Go.wp_at_zero Go.wp_at_succ
set_option maxHeartbeats 400000 in
theorem alike_grew (a b : A) (c0 c1 d0 d1 : Value) (b1 b2 : List Nat) (w : World) (h1 : atomK w [c0, c1] a b1) (h2 : atomK w [d0, d1] b b2) :
    Calls Try.prog 24 #[.agg #[c0, c1], .agg #[d0, d1]] w fun e w' => e = .returned (.bool (decide (cmpA a b = 0))) ∧ Grew w w' := by
  obtain ⟨Ad, cap, rfl, rfl⟩ := atom_cells2 h1
  obtain ⟨Ae, cape, rfl, rfl⟩ := atom_cells2 h2
  have hA := ((Grew.refl w).alloc (.cells #[.string a.name, .slice Ad a.args.length cap] 33)).alloc (.cells #[.string b.name, .slice Ae b.args.length cape] 33)
  have hc := atomOrder_grew a b _ _ _ _ b1 b2 _ (atomK_good.below h1 hA.bel) (atomK_good.below h2 hA.bel)
  have HA := Lib.hid hA
  have hz : (cmpA a b == 0) = decide (cmpA a b = 0) := by rw [Bool.eq_iff_iff, beq_iff_eq, decide_eq_true_eq]
  have HZ := Lib.hid hz
  clear h1 h2 hA hz
  generalize cmpA a b = c at *
  go_enter Try.func24, Try.ntmps24
  go_wp2_with (go_at_call 22; refine hc.mono ?_; rintro e w1 ⟨rfl, hg⟩)
  go_wp2
  go_ret
  exact ⟨rfl, HA.out.trans hg⟩

/-- What l3Put leaves: the list it had, or one of its own. -/
def D.ReadsO (bb : List Nat) (xs xs' : List A) (v : Value) (B : Nat) (w : World) (e : Ending) (w' : World) : Prop :=
  Below B w w' ∧ ∃ v' bs, e = .returned v' ∧ atomsK w' [v'] xs' bs ∧ ((v' = v ∧ xs' = xs) ∨ ∃ L b9, Coll 2 atomK B 33 w' v' L xs' b9 ∧ ∀ c ∈ b9, c ∈ bb)

theorem D.Coll.monoB {α : Type} {n : Nat} {R : Rel α} {base base' e : Nat} {w : World} {v : Value} {L : List Value} {xs : List α} {bs : List Nat} (h : Coll n R base e w v L xs bs) (hb : base' ≤ base) : Coll n R base' e w v L xs bs :=
  ⟨⟨h.own.1, h.own.2.imp id fun ⟨g, cap, cur, e, hg, r⟩ => ⟨g, cap, cur, e, Nat.le_trans hb hg, r⟩⟩, h.row, h.far⟩

set_option maxRecDepth 100000 in
set_option maxHeartbeats 1000000 in
theorem l3Put_nil (a : A) (v d0 d1 : Value) (bs b2 : List Nat) (w : World) (h : atomsK w [v] [] bs) (h2 : atomK w [d0, d1] a b2) (hs : asc [] = true) :
    Calls Try.prog 35 #[v, .agg #[d0, d1]] w (ReadsO (bs ++ b2) [] (insA [] a) v w.heap.size w) := by
  obtain ⟨Ad, cap, rfl, hl, hm⟩ := sliceK_form h
  obtain ⟨Aa, ca, rfl, rfl⟩ := atom_cells2 h2
  obtain ⟨i0, hi, hz0, hz1, hz2⟩ := info_parts infoAtom3
  have hlm := nat_ge_max hm
  have hA : Below w.heap.size w (w.alloc (.cells #[.string a.name, .slice Aa a.args.length ca] 33)) := (Below.refl _ _).alloc (Nat.le_refl _) _
  have hk := l3At_any [] a _ _ _ bs b2 _ (atomsK_good.below h hA) (atomK_good.below h2 hA) hs
  have HX : Hid (insA [] a = [] ++ [a] ++ []) := Lib.hid rfl
  have e1 : pl [] a = 0 := rfl
  have e2 : hasB [] a = false := rfl
  rw [e1, e2] at hk
  simp only [List.length_nil] at hk hl ⊢
  have h2lt := atomK_good.lt h2
  clear e1 e2
  go_enter Try.func35, Try.ntmps35
  go_wp2_with fail
  refine hk.mono ?_
  rintro e w1 ⟨rfl, hb1⟩
  have B1 := hA.trans (hb1.mono hA.size)
  have x0 : w1.cell? ⟨w.heap.size, 0, none⟩ = some (.string a.name) := cell_later hb1 (by go_simp)
  have x1 : w1.cell? ⟨w.heap.size, 1, none⟩ = some (.slice Aa a.args.length ca) := cell_later hb1 (by go_simp)
  clear hk
  have H5 : Hid (0 + 0 ≤ maxLen) := Lib.hid (by unfold maxLen; omega)
  have H6 : Hid ((0 + 0) * 40 ≤ 140737488355328) := Lib.hid (by omega)
  have H8 : Hid (0 + 1 ≤ maxLen) := Lib.hid (by unfold maxLen; omega)
  have H9 : Hid ((0 + 1) * 40 ≤ 140737488355328) := Lib.hid (by omega)
  have H10 : Hid (1 + 0 ≤ maxLen) := Lib.hid (by unfold maxLen; omega)
  have H11 : Hid ((1 + 0) * 40 ≤ 140737488355328) := Lib.hid (by omega)
  have hcc : (0 : Int) ≤ (cap : Int) := by omega
  have HN0 : Hid (∀ (v : Value), ∀ c ∈ ([] : List Nat), v.ownBlock ≠ some c) := Lib.hid (fun v c hc => by simp at hc)
  have HRN : Hid (∀ w', Rowed 2 atomK w' [] [] []) := Lib.hid (fun w' => Rowed.nil)
  have HLN : Hid (∀ w' Ad, Lies w' Ad []) := Lib.hid (fun w' Ad => Lies.nil w' Ad)
  have HEa : Hid (((w1.alloc (.cells #[] 33)).alloc (.cells #[.string a.name, .slice Aa a.args.length ca] 33)).heap[w1.heap.size + 1]? = some (.cells #[.string a.name, .slice Aa a.args.length ca] 33 (0, 0))) := Lib.hid (by have := heap_alloc_new (w1.alloc (.cells #[] 33)) (.cells #[.string a.name, .slice Aa a.args.length ca] 33); rw [World.size_alloc] at this; exact this)
  have HEb : Hid (((w1.alloc (.cells #[.string a.name, .slice Aa a.args.length ca] 33)).alloc (.cells #[] 33)).heap[w1.heap.size]? = some (.cells #[.string a.name, .slice Aa a.args.length ca] 33 (0, 0))) := Lib.hid (by rw [Below.heap_alloc _ _ _ (by simp)]; exact heap_alloc_new _ _)
  have ha1 := atomK_good.below h2 B1
  have hBa : Below w1.heap.size w1 ((w1.alloc (.cells #[] 33)).alloc (.cells #[.string a.name, .slice Aa a.args.length ca] 33)).drew := (((Below.refl _ _).alloc (Nat.le_refl _) _).alloc (by simp) _).drew
  have hCa := Coll.empty (n := 2) (R := atomK) (e := 33) (w := ((w1.alloc (.cells #[] 33)).alloc (.cells #[.string a.name, .slice Aa a.args.length ca] 33)).drew) (g := w1.heap.size) (base := w1.heap.size) (show ((w1.alloc (.cells #[] 33)).alloc (.cells #[.string a.name, .slice Aa a.args.length ca] 33)).heap[w1.heap.size]? = _ by rw [Below.heap_alloc _ _ _ (by simp)]; exact heap_alloc_new _ _) (by omega)
  have HBa := Lib.hid hBa
  have HCa := Lib.hid hCa
  clear hBa hCa
  have hBb : Below w1.heap.size w1 ((w1.alloc (.cells #[.string a.name, .slice Aa a.args.length ca] 33)).alloc (.cells #[] 33)).drew := (((Below.refl _ _).alloc (Nat.le_refl _) _).alloc (by simp) _).drew
  have hCb := Coll.empty (n := 2) (R := atomK) (e := 33) (w := ((w1.alloc (.cells #[.string a.name, .slice Aa a.args.length ca] 33)).alloc (.cells #[] 33)).drew) (g := w1.heap.size + 1) (base := w1.heap.size) (show ((w1.alloc (.cells #[.string a.name, .slice Aa a.args.length ca] 33)).alloc (.cells #[] 33)).heap[w1.heap.size + 1]? = _ by have := heap_alloc_new (w1.alloc (.cells #[.string a.name, .slice Aa a.args.length ca] 33)) (.cells #[] 33); rw [World.size_alloc] at this; exact this) (by omega)
  have HBb := Lib.hid hBb
  have HCb := Lib.hid hCb
  clear hBb hCb
  have hBc : Below w1.heap.size w1 (w1.alloc (.cells #[] 33)).drew := ((Below.refl _ _).alloc (Nat.le_refl _) _).drew
  have hCc := Coll.empty (n := 2) (R := atomK) (e := 33) (w := (w1.alloc (.cells #[] 33)).drew) (g := w1.heap.size) (base := w1.heap.size) (show (w1.alloc (.cells #[] 33)).heap[w1.heap.size]? = _ from heap_alloc_new _ _) (by omega)
  have HBc := Lib.hid hBc
  have HCc := Lib.hid hCc
  clear hBc hCc
  have HBK : Hid (∀ w', Below w1.heap.size w1 w' → Below w.heap.size w w') := Lib.hid fun w' hb' => B1.trans (hb'.mono B1.size)
  have HA1 := Lib.hid ha1
  clear ha1
  have hxx : w.heap.size < w1.heap.size := lt_of_cell x0
  have N1a := Lib.hid (own_ne (a := w1.heap.size + 1) (b := w1.heap.size) (n := 0) (c := 0) (o := 0) (by omega))
  have N1b := Lib.hid (own_ne (a := w1.heap.size) (b := w1.heap.size + 1) (n := 0) (c := 0) (o := 0) (by omega))
  have Sza : Hid (w1.heap.size + 1 < ((w1.alloc (.cells #[] 33)).alloc (.cells #[.string a.name, .slice Aa a.args.length ca] 33)).drew.heap.size) := Lib.hid (by simp)
  have Szb : Hid (w1.heap.size < ((w1.alloc (.cells #[.string a.name, .slice Aa a.args.length ca] 33)).alloc (.cells #[] 33)).drew.heap.size) := Lib.hid (by simp <;> omega)
  have H2 := Lib.hid h2
  have H2L : Hid (∀ c ∈ b2, c < w1.heap.size) := Lib.hid fun c hc => Nat.lt_of_lt_of_le (h2lt c hc) B1.size
  clear h h2 h2lt
  by_cases hce : cap = 0
  case' pos =>
    have hct : (cap = 0) = True := eq_true hce
    have HCP := Lib.hid hce
    clear hce
  case' neg =>
    have hct : (cap = 0) = False := eq_false hce
    have HCP := Lib.hid hce
    clear hce
  all_goals
    go_wp2
    go_region_held3? (fun w' => w'.cell? ⟨w.heap.size, 0, none⟩ = some (.string a.name) ∧ w'.cell? ⟨w.heap.size, 1, none⟩ = some (.slice Aa a.args.length ca)) (first | go_keep | exact ⟨q0, q1⟩ | exact ⟨r0, r1⟩ | exact ⟨s0, s1⟩) ((first
      | (refine step_coll ?_ (.tmp 15) (.tmp 18) _ ?_ w1.heap.size 33 i0 (.agg #[.string ⟨#[]⟩, .slice none 0 0]) 2 40 Try.underlying29 hi hz0 hz1 hz2 rfl (Nat.zero_lt_succ 1) atomK_good (.slice (some ⟨w1.heap.size, 0, none⟩) 0 0) 0 [] [] [] ?_ HCa.out rfl ?_ 0 ?_ [] [] [] ?_ (HRN.out _) rfl (HLN.out _ _) (HN0.out _) H5.out H6.out w1 w1.heap.size HBa.out (Nat.le_refl _) HBa.out.size ?_; rfl; rfl; rfl; rotate_left 2; rfl; rotate_left; intro A1 cp1 w2 hC2 hB2 hS2 hG2; have q0 := cell_later hB2 x0; have q1 := cell_later hB2 x1; have HE2 : Hid (w2.heap[w1.heap.size + 1]? = some (.cells #[.string a.name, .slice Aa a.args.length ca] 33 (0, 0))) := Lib.hid ((hG2.block _ Sza.out N1a.out).trans HEa.out); clear hG2; have HLE := Lib.hid (lies_block HE2.out); have HRE := Lib.hid (Rowed.one_el (n := 2) (R := atomK) atomK_ones (atomK_good.below HA1.out hB2)); have HFE := Lib.hid (fun c hc => own_block_ge hC2.own (H2L.out c hc)); have HC2 := Lib.hid hC2; have HB2 := Lib.hid hB2; have HS2 := Lib.hid hS2; clear hC2 hB2 hS2)
      | (refine step_coll ?_ (.tmp 15) (.tmp 18) _ ?_ w1.heap.size 33 i0 (.agg #[.string ⟨#[]⟩, .slice none 0 0]) 2 40 Try.underlying29 hi hz0 hz1 hz2 rfl (Nat.zero_lt_succ 1) atomK_good (.slice (some ⟨w1.heap.size + 1, 0, none⟩) 0 0) 0 [] [] [] ?_ HCb.out rfl ?_ 0 ?_ [] [] [] ?_ (HRN.out _) rfl (HLN.out _ _) (HN0.out _) H5.out H6.out w1 w1.heap.size HBb.out (Nat.le_refl _) HBb.out.size ?_; rfl; rfl; rfl; rotate_left 2; rfl; rotate_left; intro A1 cp1 w2 hC2 hB2 hS2 hG2; have q0 := cell_later hB2 x0; have q1 := cell_later hB2 x1; have HE2 : Hid (w2.heap[w1.heap.size]? = some (.cells #[.string a.name, .slice Aa a.args.length ca] 33 (0, 0))) := Lib.hid ((hG2.block _ Szb.out N1b.out).trans HEb.out); clear hG2; have HLE := Lib.hid (lies_block HE2.out); have HRE := Lib.hid (Rowed.one_el (n := 2) (R := atomK) atomK_ones (atomK_good.below HA1.out hB2)); have HFE := Lib.hid (fun c hc => own_block_ge hC2.own (H2L.out c hc)); have HC2 := Lib.hid hC2; have HB2 := Lib.hid hB2; have HS2 := Lib.hid hS2; clear hC2 hB2 hS2)
      | (refine step_coll ?_ (.tmp 15) (.tmp 18) _ ?_ w1.heap.size 33 i0 (.agg #[.string ⟨#[]⟩, .slice none 0 0]) 2 40 Try.underlying29 hi hz0 hz1 hz2 rfl (Nat.zero_lt_succ 1) atomK_good (.slice (some ⟨w1.heap.size, 0, none⟩) 0 0) 0 [] [] [] ?_ HCc.out rfl ?_ 0 ?_ [] [] [] ?_ (HRN.out _) rfl (HLN.out _ _) (HN0.out _) H5.out H6.out w1 w1.heap.size HBc.out (Nat.le_refl _) HBc.out.size ?_; rfl; rfl; rfl; rotate_left 2; rfl; rotate_left; intro A1 cp1 w2 hC2 hB2 hS2 hG2; have q0 := cell_later hB2 x0; have q1 := cell_later hB2 x1; skip; clear hG2; have hB2' : Below w1.heap.size w1 (w2.alloc (.cells #[.string a.name, .slice Aa a.args.length ca] 33)) := hB2.alloc hB2.size _; have HB2' := Lib.hid hB2'; have HC2' := Lib.hid (hC2.below atomK_good ((Below.refl w2.heap.size w2).alloc (Nat.le_refl _) (.cells #[.string a.name, .slice Aa a.args.length ca] 33))); have HS2' := Lib.hid hB2'.size; have HLE := Lib.hid (lies_block (heap_alloc_new w2 (.cells #[.string a.name, .slice Aa a.args.length ca] 33))); have HRE := Lib.hid (Rowed.one_el (n := 2) (R := atomK) atomK_ones (atomK_good.below HA1.out hB2')); have HFE := Lib.hid (fun c hc => own_block_ge hC2.own (H2L.out c hc)); clear hB2'; have HC2 := Lib.hid hC2; have HB2 := Lib.hid hB2; have HS2 := Lib.hid hS2; clear hC2 hB2 hS2)
      | (refine step_coll ?_ (.tmp 19) (.tmp 21) _ ?_ w1.heap.size 33 i0 (.agg #[.string ⟨#[]⟩, .slice none 0 0]) 2 40 Try.underlying29 hi hz0 hz1 hz2 rfl (Nat.zero_lt_succ 1) atomK_good (.slice A1 (0 + 0) cp1) (0 + 0) _ _ _ ?_ HC2.out rfl (some ⟨w1.heap.size + 1, 0, none⟩) 1 1 _ [a] _ ?_ HRE.out rfl HLE.out HFE.out H8.out H9.out w1 w1.heap.size HB2.out (Nat.le_refl _) HS2.out ?_; rfl; rfl; rfl; rfl; intro A2 cp2 w3 hC3 hB3 hS3 hG3; have r0 := cell_later hB3 x0; have r1 := cell_later hB3 x1; have HC3 := Lib.hid hC3; have HB3 := Lib.hid hB3; have HS3 := Lib.hid hS3; clear hC3 hB3 hS3 hG3)
      | (refine step_coll ?_ (.tmp 19) (.tmp 21) _ ?_ w1.heap.size 33 i0 (.agg #[.string ⟨#[]⟩, .slice none 0 0]) 2 40 Try.underlying29 hi hz0 hz1 hz2 rfl (Nat.zero_lt_succ 1) atomK_good (.slice A1 (0 + 0) cp1) (0 + 0) _ _ _ ?_ HC2.out rfl (some ⟨w1.heap.size, 0, none⟩) 1 1 _ [a] _ ?_ HRE.out rfl HLE.out HFE.out H8.out H9.out w1 w1.heap.size HB2.out (Nat.le_refl _) HS2.out ?_; rfl; rfl; rfl; rfl; intro A2 cp2 w3 hC3 hB3 hS3 hG3; have r0 := cell_later hB3 x0; have r1 := cell_later hB3 x1; have HC3 := Lib.hid hC3; have HB3 := Lib.hid hB3; have HS3 := Lib.hid hS3; clear hC3 hB3 hS3 hG3)
      | (refine step_coll ?_ (.tmp 19) (.tmp 21) _ ?_ w1.heap.size 33 i0 (.agg #[.string ⟨#[]⟩, .slice none 0 0]) 2 40 Try.underlying29 hi hz0 hz1 hz2 rfl (Nat.zero_lt_succ 1) atomK_good (.slice A1 (0 + 0) cp1) (0 + 0) _ _ _ ?_ HC2'.out rfl (some ⟨w2.heap.size, 0, none⟩) 1 1 _ [a] _ ?_ HRE.out rfl HLE.out HFE.out H8.out H9.out w1 w1.heap.size HB2'.out (Nat.le_refl _) HS2'.out ?_; rfl; rfl; rfl; rfl; intro A2 cp2 w3 hC3 hB3 hS3 hG3; have r0 := cell_later hB3 x0; have r1 := cell_later hB3 x1; have HC3 := Lib.hid hC3; have HB3 := Lib.hid hB3; have HS3 := Lib.hid hS3; clear hC3 hB3 hS3 hG3)
      | (refine step_coll ?_ (.tmp 22) (.tmp 25) _ ?_ w1.heap.size 33 i0 (.agg #[.string ⟨#[]⟩, .slice none 0 0]) 2 40 Try.underlying29 hi hz0 hz1 hz2 rfl (Nat.zero_lt_succ 1) atomK_good (.slice A2 (0 + 0 + 1) cp2) (0 + 0 + 1) _ _ _ ?_ HC3.out rfl ?_ 0 ?_ [] [] [] ?_ (HRN.out _) rfl (HLN.out _ _) (HN0.out _) H10.out H11.out w1 w1.heap.size HB3.out (Nat.le_refl _) HS3.out ?_; rfl; rfl; rfl; rotate_left 2; rfl; rotate_left; intro A3 cp3 w4 hC4 hB4 hS4 _; have s0 := cell_later hB4 x0; have s1 := cell_later hB4 x1; have HC4 := Lib.hid hC4; have HB4 := Lib.hid hB4; clear hC4 hB4 hS4)))
    all_goals
      obtain ⟨b4, hs4, _⟩ := HC4.out.slice
      have HS := Lib.hid hs4
      clear hs4
      go_wp2
      go_ret
      exact ⟨HBK.out _ HB4.out, _, b4, rfl, by rw [HX.out]; exact HS.out, .inr ⟨_, _, by rw [HX.out]; exact HC4.out.monoB B1.size, fun c hc => List.mem_append.2 (.inr (by simpa using hc))⟩⟩

end Go.Proofs.Ytlmngncogomgeaa
