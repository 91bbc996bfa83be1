/- The walk of atomText: an atom as a text, through a strings.Builder. -/
import Derived.WalkKit
import Derived.WalkSpells
import Derived.WalkLawsBesides
import Derived.Lib.Hide
import Derived.Lib.IndexBytes
import Derived.Deep.Slices
import Derived.Deep.Fields
import Derived.ChangeSame
import Derived.Deep.Draws
import Derived.Shelf.Strings.BuilderK
import Derived.Test.YtoekllcfmnnibaaDoorPut
import Derived.Test.YtoekllcfmnnibaaDoorBld
namespace Go.Proofs.YtoekllcfmnnibaaDoor
open Go.RowKit D
set_option linter.unusedVariables false

set_option maxHeartbeats 1000000 in
theorem atomText_any (a : A) (c0 c1 : Value) (bs : List Nat) (w : World) (h : atomK w [c0, c1] a bs) (hn : bulkA a ≤ 16777216) :
    Calls Tryd.prog 26 #[.agg #[c0, c1]] w fun e w' => e = .returned (.string ⟨(putL a).toArray⟩) ∧ Below w.heap.size w w' := by
  obtain ⟨s, hcs, hnm, ht⟩ := h
  simp only [List.cons.injEq, and_true] at hcs
  obtain ⟨rfl, rfl⟩ := hcs
  obtain ⟨Ad, cap, rfl, hl, hm⟩ := sliceK_form ht
  have hlm := nat_ge_max (Nat.le_trans hl hm)
  clear hm
  have hbk : a.name.size + a.args.length + bulkTs a.args ≤ 16777216 := hn
  have hb1 : a.name.size ≤ 16777216 := by omega
  go_enter Tryd.func26, Tryd.ntmps26
  go_wp2_with fail
  refine (wStr (w.heap.size + 1) (w.heap.size + 1) [] a.name _ (by simpa using bld_new (w.alloc (.cells #[.string a.name, .slice Ad a.args.length cap] 32))) (by simp) (by omega) (by simp)).mono ?_
  rintro e w1 ⟨rfl, h1⟩
  have b1 := h1.below
  have sz1 := b1.size
  simp at sz1
  go_wp2_with fail
  refine (wByte (w.heap.size + 1) (w.heap.size + 1) _ 40 40 rfl _ h1.bld (by rw [List.nil_append, dlen]; omega) (by omega)).mono ?_
  rintro e w2 ⟨rfl, h2⟩
  have b2 := b1.trans h2.below
  have sz2 := h2.below.size
  have d1 : w2.cell? ⟨w.heap.size, 1, none⟩ = some (.slice Ad a.args.length cap) := (b2.cell (p := ⟨w.heap.size, 1, none⟩) (by simp)).trans (by go_simp)
  have B2 : Below w.heap.size w w2 := ((Below.refl w.heap.size w).alloc (Nat.le_refl _) _).trans ((((Below.refl w.heap.size _).alloc (by simp) _).trans (b2.mono (by omega))))
  have X2 := Lib.hid h2.bld
  clear h1 h2 b1 b2
  go_wp2_with fail
  go_loopw [13] (fun i wr => ∃ k : Nat, k ≤ a.args.length ∧ i = .int .i64 k ∧ Bld (w.heap.size + 1) (w.heap.size + 1) (a.name.data.toList ++ [40] ++ argsL (a.args.take k)) wr ∧ Below w.heap.size w wr ∧ w.heap.size + 2 ≤ wr.heap.size) (fun i _ => a.args.length - (intOf i).toNat)
  case atStart => exact ⟨0, Nat.zero_le _, rfl, by simpa [argsL] using X2.out, B2, by omega⟩
  case round =>
    obtain ⟨k, hk, rfl, hb, hB, hsz⟩ := hrel
    have hlen : (a.name.data.toList ++ [40] ++ argsL (a.args.take k)).length ≤ 67108864 := by
      have h2 := argsL_le (a.args.take k)
      have h3 := bulkTs_take a.args k
      have h4 : a.name.data.toList.length = a.name.size := Array.length_toList
      simp only [List.length_append, List.length_cons, List.length_nil, List.length_take] at h2 ⊢
      omega
    have HB := Lib.hid hb
    clear hb
    by_cases hlt : k < a.args.length
    · obtain ⟨b, o, rfl, _, c0, c1, hnm⟩ := terms_at (termsK_good.below ht hB) hlt
      have h2 : a.args[k].name.size ≤ 16777216 := by
        have := bulkTs_snoc a.args k hlt
        have := bulkTs_take a.args (k + 1)
        omega
      have HT := Lib.hid (argsL_snoc a.args k hlt)
      clear ht
      generalize a.args[k] = t at *
      by_cases hk0 : k = 0
      · have HK := Lib.hid hk0
        have hk1 : ¬ (0 : Int) < (k : Int) := by omega
        clear hk0
        go_wp2_with fail
        have hA : Below wr.heap.size wr (wr.alloc (.cells #[.bool t.var, .string t.name] 69)) := (Below.refl _ _).alloc (Nat.le_refl _) _
        refine (wStr (w.heap.size + 1) (w.heap.size + 1) _ t.name _ (HB.out.below hA) (by omega) (by omega) (by have := hA.size; omega)).mono ?_
        rintro e w3 ⟨rfl, h3⟩
        have B3 : Below w.heap.size w w3 := (hB.trans (hA.mono hB.size)).trans (h3.below.mono (by omega))
        have S3 : w.heap.size + 2 ≤ w3.heap.size := by have := h3.below.size; have := hA.size; omega
        have H3 := Lib.hid h3.bld
        clear h3 hA
        go_wp2
        go_roundw
        case rel => exact ⟨k + 1, by omega, by go_num, by have := H3.out; rw [HT.out, HK.out] at *; simpa [argsL] using this, B3, S3⟩
        case measure => simp [intOf]; omega
      · have hk1 : (0 : Int) < (k : Int) := by omega
        go_wp2_with fail
        have hA : Below wr.heap.size wr (wr.alloc (.cells #[.bool t.var, .string t.name] 69)) := (Below.refl _ _).alloc (Nat.le_refl _) _
        refine (wByte (w.heap.size + 1) (w.heap.size + 1) _ 44 44 rfl _ (HB.out.below hA) (by omega) (by have := hA.size; omega)).mono ?_
        rintro e w2' ⟨rfl, h2'⟩
        have hbx := h2'.block (heap_alloc_new wr (.cells #[.bool t.var, .string t.name] 69)) (by omega) (by decide)
        have x1 : w2'.cell? ⟨wr.heap.size, 1, none⟩ = some (.string t.name) := by rw [cell_of_row w2' _ 1 _ _ _ hbx]; rfl
        have B2' : Below w.heap.size w w2' := (hB.trans (hA.mono hB.size)).trans (h2'.below.mono (by omega))
        have S2' : w.heap.size + 2 ≤ w2'.heap.size := by have := h2'.below.size; have := hA.size; omega
        have H2' := Lib.hid h2'.bld
        clear h2' hA hbx
        go_wp2_with fail
        refine (wStr (w.heap.size + 1) (w.heap.size + 1) _ t.name _ H2'.out (by rw [List.length_append, List.length_singleton]; omega) (by omega) (by omega)).mono ?_
        rintro e w3 ⟨rfl, h3⟩
        have B3 : Below w.heap.size w w3 := B2'.trans (h3.below.mono (by omega))
        have S3 : w.heap.size + 2 ≤ w3.heap.size := by have := h3.below.size; omega
        have H3 := Lib.hid h3.bld
        clear h3 x1
        go_wp2
        go_roundw
        case rel => exact ⟨k + 1, by omega, by go_num, by have := H3.out; rw [HT.out, if_neg (by omega)]; simpa using this, B3, S3⟩
        case measure => simp [intOf]; omega
    · have he := Lib.hid (show k = a.args.length by omega)
      go_wp2_with fail
      refine (wByte (w.heap.size + 1) (w.heap.size + 1) _ 41 41 rfl _ HB.out (by omega) (by omega)).mono ?_
      rintro e w3 ⟨rfl, h3⟩
      go_wp2_with fail
      refine (wEnd (w.heap.size + 1) (w.heap.size + 1) _ _ h3.bld (by have := h3.below.size; omega)).mono ?_
      rintro e w4 ⟨rfl, h4⟩
      go_wp2
      go_ret
      exact ⟨ret_str (by rw [he.out, List.take_of_length_le (Nat.le_refl _)]; simp [putL]), (hB.trans (h3.below.mono (by omega))).trans (h4.below.mono (by omega))⟩

end Go.Proofs.YtoekllcfmnnibaaDoor
