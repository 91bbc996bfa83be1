/- The walk of l3Without. -/
import Derived.WalkKit
import Derived.Lib.Hide
import Derived.WalkSpells
import Derived.WalkLawsBesides
import Derived.BigQuiet
import Derived.Deep.RegionHeld3
import Derived.Deep.RegionWith
import Derived.Deep.DrawnRows
import Derived.Deep.AppendLies
import Derived.Outline
import Derived.Test.YtadnimchnmkajaaProg
import Derived.Test.YtadnimchnmkajaaFp
import Derived.Test.YtadnimchnmkajaaSet
import Derived.Test.YtadnimchnmkajaaCopy
import Derived.Test.YtadnimchnmkajaaAt
import Derived.Test.YtadnimchnmkajaaL3
namespace Go.Proofs.Ytadnimchnmkajaa
open Go.RowKit D
set_option linter.unusedVariables false
attribute [local go_sem ↓] Go.wp_at_zero Go.wp_at_succ

set_option maxHeartbeats 1000000 in
theorem l3Without_any (xs : List A) (a : A) (v d0 d1 : Value) (bs b2 : List Nat) (w : World) (h : atomsK w [v] xs bs) (h2 : atomK w [d0, d1] a b2) (hs : asc xs = true) (hn : xs.length ≤ 16777216) :
    Calls Try.prog 26 #[v, .agg #[d0, d1]] w (Reads atomsK (delA xs a) w.heap.size w) := by
  obtain ⟨Ad, cap, rfl, hl, hm⟩ := sliceK_form h
  obtain ⟨Aa, ca, rfl, rfl⟩ := atom_cells2 h2
  obtain ⟨i0, hi, hz0, hz1, hz2⟩ := info_parts infoAtom3
  have hlm := nat_ge_max hm
  have hA : Below w.heap.size w (w.alloc (.cells #[.string a.name, .slice Aa a.args.length ca] 34)) := (Below.refl _ _).alloc (Nat.le_refl _) _
  have hk := l3At_any xs a _ _ _ bs b2 _ (atomsK_good.below h hA) (atomK_good.below h2 hA) hs
  have HD : Hid (delA xs a = if hasB xs a then xs.take (pl xs a) ++ xs.drop (pl xs a + 1) else xs) := Lib.hid rfl
  cases hh : hasB xs a
  · rw [hh] at hk
    have HX : Hid (delA xs a = xs) := Lib.hid (by rw [HD.out, hh]; rfl)
    clear hh HD
    go_enter Try.func26, Try.ntmps26
    go_wp2_with fail
    refine hk.mono ?_
    rintro e w1 ⟨rfl, hb1⟩
    have B1 := hA.trans (hb1.mono hA.size)
    have HR := Lib.hid (atomsK_good.below h B1)
    clear hk h h2
    go_wp2
    go_ret
    exact ⟨B1, _, bs, rfl, by rw [HX.out]; exact HR.out⟩
  · rw [hh] at hk
    have HX : Hid (delA xs a = xs.take (pl xs a) ++ xs.drop (pl xs a + 1)) := Lib.hid (by rw [HD.out, hh]; rfl)
    have hlt : pl xs a + 1 ≤ xs.length := by have := del_length hs hh; rw [HX.out] at this; simp at this; omega
    clear hh HD
    obtain ⟨L, b3, hrow, hb3, hsrc⟩ := sliceK_row atomK_ones (by omega) h
    obtain ⟨bt, hrt, hbt⟩ := hrow.take (k := pl xs a) (by omega)
    obtain ⟨bd, hrd, hbd⟩ := hrow.drop (k := pl xs a + 1) (by omega)
    obtain ⟨b, o, rfl, hbb, hcell⟩ := hsrc (by intro e; rw [e] at hlt; simp at hlt)
    have hlts := atomsK_good.lt h
    generalize pl xs a = k at *
    have HRT := Lib.hid hrt
    have HRD := Lib.hid hrd
    have HC := Lib.hid hcell
    clear hrow hsrc hrt hrd hcell h h2
    go_enter Try.func26, Try.ntmps26
    go_wp2_with fail
    refine hk.mono ?_
    rintro e w1 ⟨rfl, hb1⟩
    have B1 := hA.trans (hb1.mono hA.size)
    clear hk
    have hk0 : (0 : Int) ≤ (k : Int) := by omega
    have hk1 : (k : Int) ≤ (xs.length : Int) := by omega
    have hk2 : (k : Int) ≤ (cap : Int) := by omega
    have hk3 : (k : Int) + 1 ≤ (xs.length : Int) := by omega
    have hk4 : (xs.length : Int) ≤ (cap : Int) := by omega
    have hk5 : IntKind.i64.wrap ((k : Int) + 1) = (k : Int) + 1 := IntWalk.i64_in _ (by omega)
    have hk6 : (0 : Int) ≤ (k : Int) + 1 := by omega
    have hk7 : ((k : Int) + 1).toNat = k + 1 := by omega
    have hk8 : (k : Int) + 1 ≤ (cap : Int) := by omega
    have hbl := hlts b hbb
    have hA1 : Below w1.heap.size w1 (w1.alloc (.cells #[] 34)) := (Below.refl _ _).alloc (Nat.le_refl _) _
    have BE : Below w.heap.size w (w1.alloc (.cells #[] 34)).drew := (B1.trans (hA1.mono B1.size)).drew
    have hCE := Coll.empty (n := 2) (R := atomK) (e := 34) (show (w1.alloc (.cells #[] 34)).drew.heap[w1.heap.size]? = _ from heap_alloc_new w1 (.cells #[] 34)) B1.size
    have hlt' : (xs.take k).length = k := by rw [List.length_take]; omega
    have hld' : (xs.drop (k + 1)).length = xs.length - (k + 1) := List.length_drop
    have HCE := Lib.hid hCE
    have HL1 : Hid (Lies (w1.alloc (.cells #[] 34)).drew (some ⟨b, o, none⟩) (L.take (k * 2))) := Lib.hid (Lies.mk fun j u hj => (BE.cell (p := ⟨b, o + j, none⟩) hbl).trans (HC.out j u (by
      have hj2 := (List.getElem?_eq_some_iff.1 hj).1
      rw [List.getElem?_take_of_lt (by simp at hj2; omega)] at hj; exact hj)))
    have HL2 : Hid (∀ w', Below w.heap.size w w' → Lies w' (some ⟨b, o + (k + 1) * 2, none⟩) (L.drop ((k + 1) * 2))) := Lib.hid fun w' hb' => Lies.mk fun j u hj => (hb'.cell (p := ⟨b, o + (k + 1) * 2 + j, none⟩) hbl).trans (by rw [Nat.add_assoc]; exact HC.out _ u (by rw [List.getElem?_drop] at hj; exact hj))
    have H5 : Hid (0 + k ≤ maxLen) := Lib.hid (by unfold maxLen; omega)
    have H6 : Hid ((0 + k) * 40 ≤ 140737488355328) := Lib.hid (by omega)
    have H8 : Hid (k + (xs.length - (k + 1)) ≤ maxLen) := Lib.hid (by unfold maxLen; omega)
    have H9 : Hid ((k + (xs.length - (k + 1))) * 40 ≤ 140737488355328) := Lib.hid (by omega)
    have HN1 := Lib.hid hlt'
    have HN2 := Lib.hid hld'
    have HBE := Lib.hid BE
    have HR1 := Lib.hid (HRT.out.below atomK_good BE)
    have HF1 : Hid (∀ c ∈ bt, (Value.slice (some ⟨w1.heap.size, 0, none⟩) 0 0).ownBlock ≠ some c) := Lib.hid fun c hc => own_block_ge hCE.own (hlts c (hb3 c (hbt c hc)))
    have HF2 : Hid (∀ c ∈ bd, c < w.heap.size) := Lib.hid fun c hc => hlts c (hb3 c (hbd c hc))
    clear hCE hlt' hld' BE hA1 hbt hbd hb3
    by_cases hce : cap = k + 1
    · have hct : (cap = k + 1) = True := eq_true hce
      have hxl : xs.length = k + 1 := by omega
      have hnil : L.drop ((k + 1) * 2) = [] := List.length_eq_zero_iff.1 (by rw [HRD.out.len, HN2.out, hxl]; simp)
      have HLN : Hid (∀ w' Ad, Lies w' Ad (L.drop ((k + 1) * 2))) := Lib.hid (by rw [hnil]; exact fun w' Ad => Lies.nil w' Ad)
      have HCP := Lib.hid hce
      clear hxl hnil HL2 hce
      go_wp2
      go_region_held3 (fun _ => True) (trivial) ((first
        | (refine step_coll (by rfl) (.tmp 16) (.tmp 19) _ (by rfl) w.heap.size 34 i0 (.agg #[.string ⟨#[]⟩, .slice none 0 0]) 2 40 Try.underlying28 hi hz0 hz1 hz2 rfl (by omega) atomK_good (.slice (some ⟨w1.heap.size, 0, none⟩) 0 0) 0 [] [] [] (by rfl) HCE.out rfl (some ⟨b, o, none⟩) k cap (L.take (k * 2)) _ _ (by rfl) HR1.out HN1.out HL1.out HF1.out H5.out H6.out w w.heap.size HBE.out (Nat.le_refl _) HBE.out.size ?_; intro A1 cp1 w2 hC2 hB2 hS2 _; simp only [Nat.zero_add, List.nil_append] at hC2 ⊢; have HC2 := Lib.hid hC2; have HR2 := Lib.hid (HRD.out.keep atomK_good fun c hc => hB2.block c (HF2.out c hc)); have HG2 := Lib.hid (fun c hc => own_block_ge hC2.own (HF2.out c hc)); have HB2 := Lib.hid hB2; have HS2 := Lib.hid hS2; clear hC2 hB2 hS2)
        | (refine step_coll (by rfl) (.tmp 20) (.tmp 24) _ (by rfl) w.heap.size 34 i0 (.agg #[.string ⟨#[]⟩, .slice none 0 0]) 2 40 Try.underlying28 hi hz0 hz1 hz2 rfl (by omega) atomK_good (.slice A1 k cp1) k _ _ _ (by rfl) HC2.out HN1.out (some ⟨b, o, none⟩) (xs.length - (k + 1)) (cap - (k + 1)) (L.drop ((k + 1) * 2)) _ _ (by rfl) HR2.out HN2.out (HLN.out _ _) HG2.out H8.out H9.out w w.heap.size HB2.out (Nat.le_refl _) HS2.out ?_; intro A2 cp2 w3 hC3 hB3 hS3 _; have HC3 := Lib.hid hC3; have HB3 := Lib.hid hB3; clear hC3 hB3 hS3)))
      obtain ⟨b4, hs4, _⟩ := HC3.out.slice
      have HS := Lib.hid hs4
      clear hs4
      go_wp2
      go_ret
      exact ⟨HB3.out, _, b4, rfl, by rw [HX.out]; exact HS.out⟩
    · go_wp2
      go_region_held3 (fun _ => True) (trivial) ((first
        | (refine step_coll (by rfl) (.tmp 16) (.tmp 19) _ (by rfl) w.heap.size 34 i0 (.agg #[.string ⟨#[]⟩, .slice none 0 0]) 2 40 Try.underlying28 hi hz0 hz1 hz2 rfl (by omega) atomK_good (.slice (some ⟨w1.heap.size, 0, none⟩) 0 0) 0 [] [] [] (by rfl) HCE.out rfl (some ⟨b, o, none⟩) k cap (L.take (k * 2)) _ _ (by rfl) HR1.out HN1.out HL1.out HF1.out H5.out H6.out w w.heap.size HBE.out (Nat.le_refl _) HBE.out.size ?_; intro A1 cp1 w2 hC2 hB2 hS2 _; simp only [Nat.zero_add, List.nil_append] at hC2 ⊢; have HC2 := Lib.hid hC2; have HR2 := Lib.hid (HRD.out.keep atomK_good fun c hc => hB2.block c (HF2.out c hc)); have HG2 := Lib.hid (fun c hc => own_block_ge hC2.own (HF2.out c hc)); have HB2 := Lib.hid hB2; have HS2 := Lib.hid hS2; clear hC2 hB2 hS2)
        | (refine step_coll (by rfl) (.tmp 20) (.tmp 24) _ (by rfl) w.heap.size 34 i0 (.agg #[.string ⟨#[]⟩, .slice none 0 0]) 2 40 Try.underlying28 hi hz0 hz1 hz2 rfl (by omega) atomK_good (.slice A1 k cp1) k _ _ _ (by rfl) HC2.out HN1.out (some ⟨b, o + (k + 1) * 2, none⟩) (xs.length - (k + 1)) (cap - (k + 1)) (L.drop ((k + 1) * 2)) _ _ (by rfl) HR2.out HN2.out (HL2.out _ HB2.out) HG2.out H8.out H9.out w w.heap.size HB2.out (Nat.le_refl _) HS2.out ?_; intro A2 cp2 w3 hC3 hB3 hS3 _; have HC3 := Lib.hid hC3; have HB3 := Lib.hid hB3; clear hC3 hB3 hS3)))
      obtain ⟨b4, hs4, _⟩ := HC3.out.slice
      have HS := Lib.hid hs4
      clear hs4
      go_wp2
      go_ret
      exact ⟨HB3.out, _, b4, rfl, by rw [HX.out]; exact HS.out⟩

end Go.Proofs.Ytadnimchnmkajaa
