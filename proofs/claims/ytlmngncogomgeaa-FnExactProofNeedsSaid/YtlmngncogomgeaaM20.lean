/- Of the proof of FnExactProofNeeds: L3P. -/
import Derived.Test.YtlmngncogomgeaaM16
namespace Go.Proofs.Ytlmngncogomgeaa
open Go.RowKit D
set_option linter.unusedVariables false
attribute [local go_sem ↓] Go.wp_at_zero Go.wp_at_succ
set_option maxRecDepth 100000 in
set_option maxHeartbeats 4000000 in
theorem l3Put_big (xs : List A) (a : A) (v d0 d1 : Value) (bs b2 : List Nat) (w : World) (h : atomsK w [v] xs bs) (h2 : atomK w [d0, d1] a b2) (hs : asc xs = true) (hn : xs.length ≤ 100000000000) :
    Calls Try.prog 35 #[v, .agg #[d0, d1]] w (ReadsO (bs ++ b2) xs (insA xs a) v w.heap.size w) := by
  obtain ⟨Ad, cap, rfl, hl, hm⟩ := sliceK_form h
  obtain ⟨Aa, ca, rfl, rfl⟩ := atom_cells2 h2
  obtain ⟨i0, hi, hz0, hz1, hz2⟩ := info_parts infoAtom3
  have hlm := nat_ge_max hm
  have hA : Below w.heap.size w (w.alloc (.cells #[.string a.name, .slice Aa a.args.length ca] 33)) := (Below.refl _ _).alloc (Nat.le_refl _) _
  have hk := l3At_any xs a _ _ _ bs b2 _ (atomsK_good.below h hA) (atomK_good.below h2 hA) hs
  have HD : Hid (insA xs a = if hasB xs a then xs else xs.take (pl xs a) ++ a :: xs.drop (pl xs a)) := Lib.hid rfl
  cases hh : hasB xs a
  · rw [hh] at hk
    have HX : Hid (insA xs a = xs.take (pl xs a) ++ [a] ++ xs.drop (pl xs a)) := Lib.hid (by rw [HD.out, hh]; simp)
    have hlt : pl xs a ≤ xs.length := (pl_split hs a).2.2
    clear hh HD
    obtain ⟨L, b3, hrow, hb3, hsrc⟩ := sliceK_row atomK_ones (by omega) h
    obtain ⟨bt, hrt, hbt⟩ := hrow.take (k := pl xs a) (by omega)
    obtain ⟨bd, hrd, hbd⟩ := hrow.drop (k := pl xs a) (by omega)
    have hlts := atomsK_good.lt h
    have h2lt := atomK_good.lt h2
    generalize pl xs a = k at *
    have HRT := Lib.hid hrt
    have HBT : Hid (∀ c ∈ bt, c ∈ bs) := Lib.hid (fun c hc => hb3 c (hbt c hc))
    have HBD : Hid (∀ c ∈ bd, c ∈ bs) := Lib.hid (fun c hc => hb3 c (hbd c hc))
    have HRD := Lib.hid hrd
    have HLW : Hid (∀ w', Below w.heap.size w w' → Lies w' Ad L) := Lib.hid fun w' hb' => row_lies hrow (by omega) hsrc hlts hb'
    by_cases hne : xs = []
    · subst hne
      have hx := Lib.hid (l3Put_nil a _ _ _ bs b2 w h h2 hs)
      exact hx.out
    · obtain ⟨b, o, rfl, hbb, hcell⟩ := hsrc hne
      have hbl := hlts b hbb
      go_enter Try.func35, Try.ntmps35
      go_wp2_with fail
      refine hk.mono ?_
      rintro e w1 ⟨rfl, hb1⟩
      have B1 := hA.trans (hb1.mono hA.size)
      have x0 : w1.cell? ⟨w.heap.size, 0, none⟩ = some (.string a.name) := cell_later hb1 (by go_simp)
      have x1 : w1.cell? ⟨w.heap.size, 1, none⟩ = some (.slice Aa a.args.length ca) := cell_later hb1 (by go_simp)
      clear hk
      have hk0 : (0 : Int) ≤ (k : Int) := by omega
      have hk1 : (k : Int) ≤ (xs.length : Int) := by omega
      have hk2 : (k : Int) ≤ (cap : Int) := by omega
      have hk4 : (xs.length : Int) ≤ (cap : Int) := by omega
      have hlt' : (xs.take k).length = k := by rw [List.length_take]; omega
      have hld' : (xs.drop k).length = xs.length - k := List.length_drop
      have HLT : Hid (∀ w', Below w.heap.size w w' → Lies w' (some ⟨b, o, none⟩) (L.take (k * 2))) := Lib.hid fun w' hb' => Lies.mk fun j u hj => (hb'.cell (p := ⟨b, o + j, none⟩) hbl).trans (hcell j u (by
        have hj2 := (List.getElem?_eq_some_iff.1 hj).1
        rw [List.getElem?_take_of_lt (by simp at hj2; omega)] at hj; exact hj))
      have HL2 : Hid (∀ w', Below w.heap.size w w' → Lies w' (some ⟨b, o + k * 2, none⟩) (L.drop (k * 2))) := Lib.hid fun w' hb' => Lies.mk fun j u hj => (hb'.cell (p := ⟨b, o + k * 2 + j, none⟩) hbl).trans (by rw [Nat.add_assoc]; exact hcell _ u (by rw [List.getElem?_drop] at hj; exact hj))
      have H5 : Hid (0 + k ≤ maxLen) := Lib.hid (by unfold maxLen; omega)
      have H6 : Hid ((0 + k) * 40 ≤ 140737488355328) := Lib.hid (by omega)
      have H8 : Hid (k + 1 ≤ maxLen) := Lib.hid (by unfold maxLen; omega)
      have H9 : Hid ((k + 1) * 40 ≤ 140737488355328) := Lib.hid (by omega)
      have H10 : Hid (k + 1 + (xs.length - k) ≤ maxLen) := Lib.hid (by unfold maxLen; omega)
      have H11 : Hid ((k + 1 + (xs.length - k)) * 40 ≤ 140737488355328) := Lib.hid (by omega)
      have HN1 := Lib.hid hlt'
      have HN2 := Lib.hid hld'
      have HN3 : Hid ((xs.take k ++ [a]).length = k + 1) := Lib.hid (by rw [List.length_append, hlt']; rfl)
      have HF2 : Hid (∀ c ∈ bd, c < w1.heap.size) := Lib.hid fun c hc => Nat.lt_of_lt_of_le (hlts c (hb3 c (hbd c hc))) B1.size
      have HEa : Hid (((w1.alloc (.cells #[] 33)).alloc (.cells #[.string a.name, .slice Aa a.args.length ca] 33)).heap[w1.heap.size + 1]? = some (.cells #[.string a.name, .slice Aa a.args.length ca] 33 (0, 0))) := Lib.hid (by have := heap_alloc_new (w1.alloc (.cells #[] 33)) (.cells #[.string a.name, .slice Aa a.args.length ca] 33); rw [World.size_alloc] at this; exact this)
      have HEb : Hid (((w1.alloc (.cells #[.string a.name, .slice Aa a.args.length ca] 33)).alloc (.cells #[] 33)).heap[w1.heap.size]? = some (.cells #[.string a.name, .slice Aa a.args.length ca] 33 (0, 0))) := Lib.hid (by rw [Below.heap_alloc _ _ _ (by simp)]; exact heap_alloc_new _ _)
      have HRT1 := HRT.out.below atomK_good B1
      have hrd1 := HRD.out.below atomK_good B1
      have ha1 := atomK_good.below h2 B1
      have hBa : Below w1.heap.size w1 ((w1.alloc (.cells #[] 33)).alloc (.cells #[.string a.name, .slice Aa a.args.length ca] 33)).drew := (((Below.refl _ _).alloc (Nat.le_refl _) _).alloc (by simp) _).drew
      have hCa := Coll.empty (n := 2) (R := atomK) (e := 33) (w := ((w1.alloc (.cells #[] 33)).alloc (.cells #[.string a.name, .slice Aa a.args.length ca] 33)).drew) (g := w1.heap.size) (base := w1.heap.size) (show ((w1.alloc (.cells #[] 33)).alloc (.cells #[.string a.name, .slice Aa a.args.length ca] 33)).heap[w1.heap.size]? = _ by rw [Below.heap_alloc _ _ _ (by simp)]; exact heap_alloc_new _ _) (by omega)
      have HBa := Lib.hid hBa
      have HRa := Lib.hid (HRT1.below atomK_good hBa)
      have HLa : Hid (Lies ((w1.alloc (.cells #[] 33)).alloc (.cells #[.string a.name, .slice Aa a.args.length ca] 33)).drew (some ⟨b, o, none⟩) (L.take (k * 2))) := Lib.hid (HLT.out _ (B1.trans (hBa.mono B1.size)))
      have HFa : Hid (∀ c ∈ bt, (Value.slice (some ⟨w1.heap.size, 0, none⟩) 0 0).ownBlock ≠ some c) := Lib.hid fun c hc => own_block_ge hCa.own (Nat.lt_of_lt_of_le (hlts c (hb3 c (hbt c hc))) B1.size)
      have HCa := Lib.hid hCa
      clear hBa hCa
      have hBb : Below w1.heap.size w1 ((w1.alloc (.cells #[.string a.name, .slice Aa a.args.length ca] 33)).alloc (.cells #[] 33)).drew := (((Below.refl _ _).alloc (Nat.le_refl _) _).alloc (by simp) _).drew
      have hCb := Coll.empty (n := 2) (R := atomK) (e := 33) (w := ((w1.alloc (.cells #[.string a.name, .slice Aa a.args.length ca] 33)).alloc (.cells #[] 33)).drew) (g := w1.heap.size + 1) (base := w1.heap.size) (show ((w1.alloc (.cells #[.string a.name, .slice Aa a.args.length ca] 33)).alloc (.cells #[] 33)).heap[w1.heap.size + 1]? = _ by have := heap_alloc_new (w1.alloc (.cells #[.string a.name, .slice Aa a.args.length ca] 33)) (.cells #[] 33); rw [World.size_alloc] at this; exact this) (by omega)
      have HBb := Lib.hid hBb
      have HRb := Lib.hid (HRT1.below atomK_good hBb)
      have HLb : Hid (Lies ((w1.alloc (.cells #[.string a.name, .slice Aa a.args.length ca] 33)).alloc (.cells #[] 33)).drew (some ⟨b, o, none⟩) (L.take (k * 2))) := Lib.hid (HLT.out _ (B1.trans (hBb.mono B1.size)))
      have HFb : Hid (∀ c ∈ bt, (Value.slice (some ⟨w1.heap.size + 1, 0, none⟩) 0 0).ownBlock ≠ some c) := Lib.hid fun c hc => own_block_ge hCb.own (Nat.lt_of_lt_of_le (hlts c (hb3 c (hbt c hc))) B1.size)
      have HCb := Lib.hid hCb
      clear hBb hCb
      have hBc : Below w1.heap.size w1 (w1.alloc (.cells #[] 33)).drew := ((Below.refl _ _).alloc (Nat.le_refl _) _).drew
      have hCc := Coll.empty (n := 2) (R := atomK) (e := 33) (w := (w1.alloc (.cells #[] 33)).drew) (g := w1.heap.size) (base := w1.heap.size) (show (w1.alloc (.cells #[] 33)).heap[w1.heap.size]? = _ from heap_alloc_new _ _) (by omega)
      have HBc := Lib.hid hBc
      have HRc := Lib.hid (HRT1.below atomK_good hBc)
      have HLc : Hid (Lies (w1.alloc (.cells #[] 33)).drew (some ⟨b, o, none⟩) (L.take (k * 2))) := Lib.hid (HLT.out _ (B1.trans (hBc.mono B1.size)))
      have HFc : Hid (∀ c ∈ bt, (Value.slice (some ⟨w1.heap.size, 0, none⟩) 0 0).ownBlock ≠ some c) := Lib.hid fun c hc => own_block_ge hCc.own (Nat.lt_of_lt_of_le (hlts c (hb3 c (hbt c hc))) B1.size)
      have HCc := Lib.hid hCc
      clear hBc hCc
      have HBK : Hid (∀ w', Below w1.heap.size w1 w' → Below w.heap.size w w') := Lib.hid fun w' hb' => B1.trans (hb'.mono B1.size)
      have HRD1 := Lib.hid hrd1
      have HA1 := Lib.hid ha1
      clear HRT1 hrd1 ha1

      have hxx : w.heap.size < w1.heap.size := lt_of_cell x0
      have N1a := Lib.hid (own_ne (a := w1.heap.size + 1) (b := w1.heap.size) (n := 0) (c := 0) (o := 0) (by omega))
      have N1b := Lib.hid (own_ne (a := w1.heap.size) (b := w1.heap.size + 1) (n := 0) (c := 0) (o := 0) (by omega))
      have Sza : Hid (w1.heap.size + 1 < ((w1.alloc (.cells #[] 33)).alloc (.cells #[.string a.name, .slice Aa a.args.length ca] 33)).drew.heap.size) := Lib.hid (by simp)
      have Szb : Hid (w1.heap.size < ((w1.alloc (.cells #[.string a.name, .slice Aa a.args.length ca] 33)).alloc (.cells #[] 33)).drew.heap.size) := Lib.hid (by simp <;> omega)
      have H2 := Lib.hid h2
      have H2L : Hid (∀ c ∈ b2, c < w1.heap.size) := Lib.hid fun c hc => Nat.lt_of_lt_of_le (h2lt c hc) B1.size
      clear hlt' hld' hbt hbd hb3 hrt hrd hrow hsrc hcell h h2 h2lt
      by_cases hce : cap = k
      case' pos =>
        have hct : (cap = k) = True := eq_true hce
        have hxl : xs.length = k := by omega
        have hnil : L.drop (k * 2) = [] := List.length_eq_zero_iff.1 (by rw [HRD.out.len, HN2.out, hxl]; simp)
        replace HL2 : Hid (∀ w', Below w.heap.size w w' → Lies w' (some ⟨b, o, none⟩) (L.drop (k * 2))) := Lib.hid (fun w' _ => by rw [hnil]; exact Lies.nil w' _)
        have HCP := Lib.hid hce
        clear hxl hnil hce
      all_goals
        go_wp2
        go_region_held3 (fun w' => w'.cell? ⟨w.heap.size, 0, none⟩ = some (.string a.name) ∧ w'.cell? ⟨w.heap.size, 1, none⟩ = some (.slice Aa a.args.length ca)) (first | go_keep | exact ⟨q0, q1⟩ | exact ⟨r0, r1⟩ | exact ⟨s0, s1⟩) ((first
          | (refine step_coll ?_ (.tmp 15) (.tmp 18) _ ?_ w1.heap.size 33 i0 (.agg #[.string ⟨#[]⟩, .slice none 0 0]) 2 40 Try.underlying29 hi hz0 hz1 hz2 rfl (Nat.zero_lt_succ 1) atomK_good (.slice (some ⟨w1.heap.size, 0, none⟩) 0 0) 0 [] [] [] ?_ HCa.out rfl (some ⟨b, o, none⟩) k cap (L.take (k * 2)) _ _ ?_ HRa.out HN1.out HLa.out HFa.out H5.out H6.out w1 w1.heap.size HBa.out (Nat.le_refl _) HBa.out.size ?_; rfl; rfl; rfl; rfl; intro A1 cp1 w2 hC2 hB2 hS2 hG2; simp only [Nat.zero_add, List.nil_append] at hC2 ⊢; have q0 := cell_later hB2 x0; have q1 := cell_later hB2 x1; have HE2 : Hid (w2.heap[w1.heap.size + 1]? = some (.cells #[.string a.name, .slice Aa a.args.length ca] 33 (0, 0))) := Lib.hid ((hG2.block _ Sza.out N1a.out).trans HEa.out); clear hG2; have HLE := Lib.hid (lies_block HE2.out); have HRE := Lib.hid (Rowed.one_el (n := 2) (R := atomK) atomK_ones (atomK_good.below HA1.out hB2)); have HFE := Lib.hid (fun c hc => own_block_ge hC2.own (H2L.out c hc)); have HC2 := Lib.hid hC2; have HB2 := Lib.hid hB2; have HS2 := Lib.hid hS2; clear hC2 hB2 hS2)
          | (refine step_coll ?_ (.tmp 15) (.tmp 18) _ ?_ w1.heap.size 33 i0 (.agg #[.string ⟨#[]⟩, .slice none 0 0]) 2 40 Try.underlying29 hi hz0 hz1 hz2 rfl (Nat.zero_lt_succ 1) atomK_good (.slice (some ⟨w1.heap.size + 1, 0, none⟩) 0 0) 0 [] [] [] ?_ HCb.out rfl (some ⟨b, o, none⟩) k cap (L.take (k * 2)) _ _ ?_ HRb.out HN1.out HLb.out HFb.out H5.out H6.out w1 w1.heap.size HBb.out (Nat.le_refl _) HBb.out.size ?_; rfl; rfl; rfl; rfl; intro A1 cp1 w2 hC2 hB2 hS2 hG2; simp only [Nat.zero_add, List.nil_append] at hC2 ⊢; have q0 := cell_later hB2 x0; have q1 := cell_later hB2 x1; have HE2 : Hid (w2.heap[w1.heap.size]? = some (.cells #[.string a.name, .slice Aa a.args.length ca] 33 (0, 0))) := Lib.hid ((hG2.block _ Szb.out N1b.out).trans HEb.out); clear hG2; have HLE := Lib.hid (lies_block HE2.out); have HRE := Lib.hid (Rowed.one_el (n := 2) (R := atomK) atomK_ones (atomK_good.below HA1.out hB2)); have HFE := Lib.hid (fun c hc => own_block_ge hC2.own (H2L.out c hc)); have HC2 := Lib.hid hC2; have HB2 := Lib.hid hB2; have HS2 := Lib.hid hS2; clear hC2 hB2 hS2)
          | (refine step_coll ?_ (.tmp 15) (.tmp 18) _ ?_ w1.heap.size 33 i0 (.agg #[.string ⟨#[]⟩, .slice none 0 0]) 2 40 Try.underlying29 hi hz0 hz1 hz2 rfl (Nat.zero_lt_succ 1) atomK_good (.slice (some ⟨w1.heap.size, 0, none⟩) 0 0) 0 [] [] [] ?_ HCc.out rfl (some ⟨b, o, none⟩) k cap (L.take (k * 2)) _ _ ?_ HRc.out HN1.out HLc.out HFc.out H5.out H6.out w1 w1.heap.size HBc.out (Nat.le_refl _) HBc.out.size ?_; rfl; rfl; rfl; rfl; intro A1 cp1 w2 hC2 hB2 hS2 hG2; simp only [Nat.zero_add, List.nil_append] at hC2 ⊢; have q0 := cell_later hB2 x0; have q1 := cell_later hB2 x1; skip; clear hG2; have hB2' : Below w1.heap.size w1 (w2.alloc (.cells #[.string a.name, .slice Aa a.args.length ca] 33)) := hB2.alloc hB2.size _; have HB2' := Lib.hid hB2'; have HC2' := Lib.hid (hC2.below atomK_good ((Below.refl w2.heap.size w2).alloc (Nat.le_refl _) (.cells #[.string a.name, .slice Aa a.args.length ca] 33))); have HS2' := Lib.hid hB2'.size; have HLE := Lib.hid (lies_block (heap_alloc_new w2 (.cells #[.string a.name, .slice Aa a.args.length ca] 33))); have HRE := Lib.hid (Rowed.one_el (n := 2) (R := atomK) atomK_ones (atomK_good.below HA1.out hB2')); have HFE := Lib.hid (fun c hc => own_block_ge hC2.own (H2L.out c hc)); clear hB2'; have HC2 := Lib.hid hC2; have HB2 := Lib.hid hB2; have HS2 := Lib.hid hS2; clear hC2 hB2 hS2)
          | (refine step_coll ?_ (.tmp 19) (.tmp 21) _ ?_ w1.heap.size 33 i0 (.agg #[.string ⟨#[]⟩, .slice none 0 0]) 2 40 Try.underlying29 hi hz0 hz1 hz2 rfl (Nat.zero_lt_succ 1) atomK_good (.slice A1 k cp1) k _ _ _ ?_ HC2.out HN1.out (some ⟨w1.heap.size + 1, 0, none⟩) 1 1 _ [a] _ ?_ HRE.out rfl HLE.out HFE.out H8.out H9.out w1 w1.heap.size HB2.out (Nat.le_refl _) HS2.out ?_; rfl; rfl; rfl; rfl; intro A2 cp2 w3 hC3 hB3 hS3 hG3; have r0 := cell_later hB3 x0; have r1 := cell_later hB3 x1; have HR3 := Lib.hid (HRD1.out.below atomK_good hB3); have HG3 := Lib.hid (fun c hc => own_block_ge hC3.own (HF2.out c hc)); have HC3 := Lib.hid hC3; have HB3 := Lib.hid hB3; have HS3 := Lib.hid hS3; clear hC3 hB3 hS3 hG3)
          | (refine step_coll ?_ (.tmp 19) (.tmp 21) _ ?_ w1.heap.size 33 i0 (.agg #[.string ⟨#[]⟩, .slice none 0 0]) 2 40 Try.underlying29 hi hz0 hz1 hz2 rfl (Nat.zero_lt_succ 1) atomK_good (.slice A1 k cp1) k _ _ _ ?_ HC2.out HN1.out (some ⟨w1.heap.size, 0, none⟩) 1 1 _ [a] _ ?_ HRE.out rfl HLE.out HFE.out H8.out H9.out w1 w1.heap.size HB2.out (Nat.le_refl _) HS2.out ?_; rfl; rfl; rfl; rfl; intro A2 cp2 w3 hC3 hB3 hS3 hG3; have r0 := cell_later hB3 x0; have r1 := cell_later hB3 x1; have HR3 := Lib.hid (HRD1.out.below atomK_good hB3); have HG3 := Lib.hid (fun c hc => own_block_ge hC3.own (HF2.out c hc)); have HC3 := Lib.hid hC3; have HB3 := Lib.hid hB3; have HS3 := Lib.hid hS3; clear hC3 hB3 hS3 hG3)
          | (refine step_coll ?_ (.tmp 19) (.tmp 21) _ ?_ w1.heap.size 33 i0 (.agg #[.string ⟨#[]⟩, .slice none 0 0]) 2 40 Try.underlying29 hi hz0 hz1 hz2 rfl (Nat.zero_lt_succ 1) atomK_good (.slice A1 k cp1) k _ _ _ ?_ HC2'.out HN1.out (some ⟨w2.heap.size, 0, none⟩) 1 1 _ [a] _ ?_ HRE.out rfl HLE.out HFE.out H8.out H9.out w1 w1.heap.size HB2'.out (Nat.le_refl _) HS2'.out ?_; rfl; rfl; rfl; rfl; intro A2 cp2 w3 hC3 hB3 hS3 hG3; have r0 := cell_later hB3 x0; have r1 := cell_later hB3 x1; have HR3 := Lib.hid (HRD1.out.below atomK_good hB3); have HG3 := Lib.hid (fun c hc => own_block_ge hC3.own (HF2.out c hc)); have HC3 := Lib.hid hC3; have HB3 := Lib.hid hB3; have HS3 := Lib.hid hS3; clear hC3 hB3 hS3 hG3)
          | (refine step_coll ?_ (.tmp 22) (.tmp 25) _ ?_ w1.heap.size 33 i0 (.agg #[.string ⟨#[]⟩, .slice none 0 0]) 2 40 Try.underlying29 hi hz0 hz1 hz2 rfl (Nat.zero_lt_succ 1) atomK_good (.slice A2 (k + 1) cp2) (k + 1) _ _ _ ?_ HC3.out HN3.out _ (xs.length - k) (cap - k) (L.drop (k * 2)) _ _ ?_ HR3.out HN2.out (HL2.out _ (HBK.out _ HB3.out)) HG3.out H10.out H11.out w1 w1.heap.size HB3.out (Nat.le_refl _) HS3.out ?_; rfl; rfl; rfl; rfl; intro A3 cp3 w4 hC4 hB4 hS4 _; have s0 := cell_later hB4 x0; have s1 := cell_later hB4 x1; have HC4 := Lib.hid hC4; have HB4 := Lib.hid hB4; clear hC4 hB4 hS4)))
        all_goals
          obtain ⟨b4, hs4, _⟩ := HC4.out.slice
          have HS := Lib.hid hs4
          clear hs4
          go_wp2
          go_ret
          exact ⟨HBK.out _ HB4.out, _, b4, rfl, by rw [HX.out]; exact HS.out, .inr ⟨_, _, by rw [HX.out]; exact HC4.out.monoB B1.size, fun c hc => by
            rcases List.mem_append.1 hc with hc | hc
            rcases List.mem_append.1 hc with hc | hc
            · exact List.mem_append.2 (.inl (HBT.out c hc))
            · exact List.mem_append.2 (.inr hc)
            · exact List.mem_append.2 (.inl (HBD.out c hc))⟩⟩
  · rw [hh] at hk
    have HX : Hid (insA xs a = xs) := Lib.hid (by rw [HD.out, hh]; rfl)
    clear hh HD
    go_enter Try.func35, Try.ntmps35
    go_wp2_with fail
    refine hk.mono ?_
    rintro e w1 ⟨rfl, hb1⟩
    have B1 := hA.trans (hb1.mono hA.size)
    have HR := Lib.hid (atomsK_good.below h B1)
    clear hk h h2
    go_wp2
    go_ret
    exact ⟨B1, _, bs, rfl, by rw [HX.out]; exact HR.out, .inl ⟨rfl, HX.out⟩⟩

theorem l3Put_own (xs : List A) (a : A) (v d0 d1 : Value) (bs b2 : List Nat) (w : World) (h : atomsK w [v] xs bs) (h2 : atomK w [d0, d1] a b2) (hs : asc xs = true) (hn : xs.length ≤ 16777216) :
    Calls Try.prog 35 #[v, .agg #[d0, d1]] w (ReadsO (bs ++ b2) xs (insA xs a) v w.heap.size w) := l3Put_big xs a v d0 d1 bs b2 w h h2 hs (by omega)

theorem l3Put_any (xs : List A) (a : A) (v d0 d1 : Value) (bs b2 : List Nat) (w : World) (h : atomsK w [v] xs bs) (h2 : atomK w [d0, d1] a b2) (hs : asc xs = true) (hn : xs.length ≤ 16777216) :
    Calls Try.prog 35 #[v, .agg #[d0, d1]] w (Reads atomsK (insA xs a) w.heap.size w) :=
  (l3Put_own xs a v d0 d1 bs b2 w h h2 hs hn).mono fun e w' ⟨h1, v', bs', h2, h3, _⟩ => ⟨h1, v', bs', h2, h3⟩

end Go.Proofs.Ytlmngncogomgeaa
