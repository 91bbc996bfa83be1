/- The walks of bodyText, RulePut and of the reference's l1Rule, l1RulePut, RulePut. -/
import Derived.Test.YtmhjabjiojfgnaaDoorRPut
namespace Go.Proofs.YtmhjabjiojfgnaaDoor
open Go.RowKit D
set_option linter.unusedVariables false
attribute [local go_sem ↓] Go.wp_at_zero Go.wp_at_succ

namespace D
theorem bodyL_snoc (ps : List Pt) (k : Nat) (h : k < ps.length) : bodyL (ps.take (k + 1)) = bodyL (ps.take k) ++ ((if k = 0 then [] else andL) ++ partL ps[k]) := sepL_snoc _ _ _ _ h
theorem bulkPts_at (ps : List Pt) (k : Nat) (h : k < ps.length) : bulkPt ps[k] ≤ bulkPts ps := by
  have := sumL_at bulkPt ps k h
  unfold bulkPts; omega
theorem bulkPts_take (ps : List Pt) (k : Nat) : bulkPts (ps.take k) ≤ bulkPts ps := by
  have := sumL_take bulkPt ps k
  unfold bulkPts
  simp only [List.length_take]
  omega
theorem bodyL_take_le (ps : List Pt) (k : Nat) : (bodyL (ps.take k)).length ≤ 11 * bulkPts ps := by
  have := bodyL_le (ps.take k)
  have := bulkPts_take ps k
  omega
end D

set_option maxHeartbeats 2000000 in
theorem bodyText_any (ps : List Pt) (v : Value) (bs : List Nat) (w : World) (h : partsK w [v] ps bs) (hn : bulkPts ps ≤ 16777216) :
    Calls Tryd.prog 68 #[v] w fun e w' => e = .returned (.string ⟨(bodyL ps).toArray⟩) ∧ Below w.heap.size w w' := by
  obtain ⟨Ad, cap, rfl, hl, hm⟩ := sliceK_form h
  have hlm := nat_ge_max (Nat.le_trans hl hm)
  clear hm
  go_enter Tryd.func68, Tryd.ntmps68
  go_wp2
  have b0 := bld_new w
  have hA0 := (Below.refl w.heap.size w).alloc (Nat.le_refl _) (.cells #[.pointer none, .slice none 0 0] bT)
  go_loopw [8] (fun i wr => ∃ k : Nat, k ≤ ps.length ∧ i = .int .i64 k ∧ Bld w.heap.size w.heap.size (bodyL (ps.take k)) wr ∧ Below w.heap.size w wr ∧ w.heap.size + 1 ≤ wr.heap.size) (fun i _ => ps.length - (intOf i).toNat)
  case atStart => exact ⟨0, Nat.zero_le _, rfl, b0, hA0, by simp⟩
  case round =>
    obtain ⟨k, hk, rfl, hb, hB, hsz⟩ := hrel
    have hlen : (bodyL (ps.take k)).length ≤ 184549376 := by have := bodyL_take_le ps k; omega
    have HB := Lib.hid hb
    clear hb b0 hA0
    by_cases hlt : k < ps.length
    · obtain ⟨bb, o, Ae, ce, bk, rfl, _, d0, d1, d2, hel, hbks⟩ := parts_el (partsK_good.below h hB) hlt
      have hltbk : ∀ c ∈ bk, c < w.heap.size := fun c hc => partsK_good.lt h c (hbks c hc)
      have hbk := bulkPts_at ps k hlt
      have hbk1 : bulkA ps[k].atom ≤ 16777216 := by unfold bulkPt at hbk; omega
      have hple := putL_le ps[k].atom
      have ln : notL.length = 4 := rfl
      have la : andL.length = 5 := rfl
      have HT := Lib.hid (bodyL_snoc ps k hlt)
      have hat := part_atom hel
      have hpl : partL ps[k] = (if ps[k].no then notL else []) ++ putL ps[k].atom := rfl
      have HP := Lib.hid hpl
      clear h hel hpl hbks hbk
      generalize ps[k] = p at *
      obtain ⟨nb, pa⟩ := p
      dsimp only at *
      have hA : Below wr.heap.size wr (wr.alloc (.cells #[.bool nb, .string pa.name, .slice Ae pa.args.length ce] 72)) := (Below.refl _ _).alloc (Nat.le_refl _) _
      have Bz : Below w.heap.size w (wr.alloc (.cells #[.bool nb, .string pa.name, .slice Ae pa.args.length ce] 72)) := hB.trans (hA.mono hB.size)
      have Wz : Below w.heap.size wr (wr.alloc (.cells #[.bool nb, .string pa.name, .slice Ae pa.args.length ce] 72)) := hA.mono hB.size
      have hxz := heap_alloc_new wr (.cells #[.bool nb, .string pa.name, .slice Ae pa.args.length ce] 72)
      have Xz := HB.out.below hA
      have Sz : w.heap.size + 1 ≤ (wr.alloc (.cells #[.bool nb, .string pa.name, .slice Ae pa.args.length ce] 72)).heap.size := by have := hA.size; omega
      clear hA
      by_cases hk0 : k = 0
      · have HK := Lib.hid hk0
        have hk1 : ¬ (0 : Int) < (k : Int) := by omega
        clear hk0
        cases nb
        · have := trivial
          go_wp2_with fail
          refine (atomText_any pa _ _ bk _ (atomK_good.belowB hat Wz hltbk) hbk1).mono ?_
          rintro e wa ⟨rfl, hba⟩
          have Ba := Bz.trans (hba.mono Bz.size)
          have Xa := Xz.below hba
          have Sa : w.heap.size + 1 ≤ wa.heap.size := by have := hba.size; omega
          go_wp2_with fail
          refine (wStr w.heap.size w.heap.size _ _ _ Xa (by first | omega | (simp only [List.length_append]; omega)) (by rw [size_of]; omega) (by omega)).mono ?_
          rintro e wb ⟨rfl, hb3⟩
          have B3 : Below w.heap.size w wb := Ba.trans hb3.below
          have S3 : w.heap.size + 1 ≤ wb.heap.size := by have := hb3.below.size; omega
          have H3 := Lib.hid hb3.bld
          clear hb3 Xa hba hat
          go_wp2
          go_roundw
          case rel => exact ⟨k + 1, by omega, by go_num, by have := H3.out; rw [HT.out, HP.out]; simpa [HK.out] using this, B3, S3⟩
          case measure => simp [intOf]; omega
        · have := trivial
          go_wp2_with fail
          refine (wStr w.heap.size w.heap.size _ ⟨#[110, 111, 116, 32]⟩ _ Xz (by first | omega | (simp only [List.length_append]; omega)) (by decide) (by omega)).mono ?_
          rintro e wn ⟨rfl, hwn⟩
          have hxwn := hwn.block hxz (by omega) (by decide)
          have wn0 : wn.cell? ⟨wr.heap.size, 0, none⟩ = some (.bool true) := by rw [cell_of_row wn _ 0 _ _ _ hxwn]; rfl
          have wn1 : wn.cell? ⟨wr.heap.size, 1, none⟩ = some (.string pa.name) := by rw [cell_of_row wn _ 1 _ _ _ hxwn]; rfl
          have wn2 : wn.cell? ⟨wr.heap.size, 2, none⟩ = some (.slice Ae pa.args.length ce) := by rw [cell_of_row wn _ 2 _ _ _ hxwn]; rfl
          have Bwn : Below w.heap.size w wn := Bz.trans hwn.below
          have Wwn : Below w.heap.size wr wn := Wz.trans hwn.below
          have Swn : w.heap.size + 1 ≤ wn.heap.size := by have := hwn.below.size; omega
          have Xwn : Bld w.heap.size w.heap.size (bodyL (ps.take k) ++ notL) wn := hwn.bld
          clear hwn
          go_wp2_with fail
          refine (atomText_any pa _ _ bk _ (atomK_good.belowB hat Wwn hltbk) hbk1).mono ?_
          rintro e wa ⟨rfl, hba⟩
          have Ba := Bwn.trans (hba.mono Bwn.size)
          have Xa := Xwn.below hba
          have Sa : w.heap.size + 1 ≤ wa.heap.size := by have := hba.size; omega
          go_wp2_with fail
          refine (wStr w.heap.size w.heap.size _ _ _ Xa (by first | omega | (simp only [List.length_append]; omega)) (by rw [size_of]; omega) (by omega)).mono ?_
          rintro e wb ⟨rfl, hb3⟩
          have B3 : Below w.heap.size w wb := Ba.trans hb3.below
          have S3 : w.heap.size + 1 ≤ wb.heap.size := by have := hb3.below.size; omega
          have H3 := Lib.hid hb3.bld
          clear hb3 Xa hba hat
          go_wp2
          go_roundw
          case rel => exact ⟨k + 1, by omega, by go_num, by have := H3.out; rw [HT.out, HP.out]; simpa [HK.out] using this, B3, S3⟩
          case measure => simp [intOf]; omega
      · have HK := Lib.hid hk0
        have hk1 : (0 : Int) < (k : Int) := by omega
        clear hk0
        cases nb
        · have := trivial
          go_wp2_with fail
          refine (wStr w.heap.size w.heap.size _ ⟨#[32, 97, 110, 100, 32]⟩ _ Xz (by first | omega | (simp only [List.length_append]; omega)) (by decide) (by omega)).mono ?_
          rintro e wm ⟨rfl, hwm⟩
          have hxwm := hwm.block hxz (by omega) (by decide)
          have wm0 : wm.cell? ⟨wr.heap.size, 0, none⟩ = some (.bool false) := by rw [cell_of_row wm _ 0 _ _ _ hxwm]; rfl
          have wm1 : wm.cell? ⟨wr.heap.size, 1, none⟩ = some (.string pa.name) := by rw [cell_of_row wm _ 1 _ _ _ hxwm]; rfl
          have wm2 : wm.cell? ⟨wr.heap.size, 2, none⟩ = some (.slice Ae pa.args.length ce) := by rw [cell_of_row wm _ 2 _ _ _ hxwm]; rfl
          have Bwm : Below w.heap.size w wm := Bz.trans hwm.below
          have Wwm : Below w.heap.size wr wm := Wz.trans hwm.below
          have Swm : w.heap.size + 1 ≤ wm.heap.size := by have := hwm.below.size; omega
          have Xwm : Bld w.heap.size w.heap.size (bodyL (ps.take k) ++ andL) wm := hwm.bld
          clear hwm
          go_wp2_with fail
          refine (atomText_any pa _ _ bk _ (atomK_good.belowB hat Wwm hltbk) hbk1).mono ?_
          rintro e wa ⟨rfl, hba⟩
          have Ba := Bwm.trans (hba.mono Bwm.size)
          have Xa := Xwm.below hba
          have Sa : w.heap.size + 1 ≤ wa.heap.size := by have := hba.size; omega
          go_wp2_with fail
          refine (wStr w.heap.size w.heap.size _ _ _ Xa (by first | omega | (simp only [List.length_append]; omega)) (by rw [size_of]; omega) (by omega)).mono ?_
          rintro e wb ⟨rfl, hb3⟩
          have B3 : Below w.heap.size w wb := Ba.trans hb3.below
          have S3 : w.heap.size + 1 ≤ wb.heap.size := by have := hb3.below.size; omega
          have H3 := Lib.hid hb3.bld
          clear hb3 Xa hba hat
          go_wp2
          go_roundw
          case rel => exact ⟨k + 1, by omega, by go_num, by have := H3.out; rw [HT.out, HP.out]; simpa [HK.out] using this, B3, S3⟩
          case measure => simp [intOf]; omega
        · have := trivial
          go_wp2_with fail
          refine (wStr w.heap.size w.heap.size _ ⟨#[32, 97, 110, 100, 32]⟩ _ Xz (by first | omega | (simp only [List.length_append]; omega)) (by decide) (by omega)).mono ?_
          rintro e wm ⟨rfl, hwm⟩
          have hxwm := hwm.block hxz (by omega) (by decide)
          have wm0 : wm.cell? ⟨wr.heap.size, 0, none⟩ = some (.bool true) := by rw [cell_of_row wm _ 0 _ _ _ hxwm]; rfl
          have wm1 : wm.cell? ⟨wr.heap.size, 1, none⟩ = some (.string pa.name) := by rw [cell_of_row wm _ 1 _ _ _ hxwm]; rfl
          have wm2 : wm.cell? ⟨wr.heap.size, 2, none⟩ = some (.slice Ae pa.args.length ce) := by rw [cell_of_row wm _ 2 _ _ _ hxwm]; rfl
          have Bwm : Below w.heap.size w wm := Bz.trans hwm.below
          have Wwm : Below w.heap.size wr wm := Wz.trans hwm.below
          have Swm : w.heap.size + 1 ≤ wm.heap.size := by have := hwm.below.size; omega
          have Xwm : Bld w.heap.size w.heap.size (bodyL (ps.take k) ++ andL) wm := hwm.bld
          clear hwm
          go_wp2_with fail
          refine (wStr w.heap.size w.heap.size _ ⟨#[110, 111, 116, 32]⟩ _ Xwm (by first | omega | (simp only [List.length_append]; omega)) (by decide) (by omega)).mono ?_
          rintro e wn ⟨rfl, hwn⟩
          have hxwn := hwn.block hxwm (by omega) (by decide)
          have wn0 : wn.cell? ⟨wr.heap.size, 0, none⟩ = some (.bool true) := by rw [cell_of_row wn _ 0 _ _ _ hxwn]; rfl
          have wn1 : wn.cell? ⟨wr.heap.size, 1, none⟩ = some (.string pa.name) := by rw [cell_of_row wn _ 1 _ _ _ hxwn]; rfl
          have wn2 : wn.cell? ⟨wr.heap.size, 2, none⟩ = some (.slice Ae pa.args.length ce) := by rw [cell_of_row wn _ 2 _ _ _ hxwn]; rfl
          have Bwn : Below w.heap.size w wn := Bwm.trans hwn.below
          have Wwn : Below w.heap.size wr wn := Wwm.trans hwn.below
          have Swn : w.heap.size + 1 ≤ wn.heap.size := by have := hwn.below.size; omega
          have Xwn : Bld w.heap.size w.heap.size (bodyL (ps.take k) ++ andL ++ notL) wn := hwn.bld
          clear hwn
          go_wp2_with fail
          refine (atomText_any pa _ _ bk _ (atomK_good.belowB hat Wwn hltbk) hbk1).mono ?_
          rintro e wa ⟨rfl, hba⟩
          have Ba := Bwn.trans (hba.mono Bwn.size)
          have Xa := Xwn.below hba
          have Sa : w.heap.size + 1 ≤ wa.heap.size := by have := hba.size; omega
          go_wp2_with fail
          refine (wStr w.heap.size w.heap.size _ _ _ Xa (by first | omega | (simp only [List.length_append]; omega)) (by rw [size_of]; omega) (by omega)).mono ?_
          rintro e wb ⟨rfl, hb3⟩
          have B3 : Below w.heap.size w wb := Ba.trans hb3.below
          have S3 : w.heap.size + 1 ≤ wb.heap.size := by have := hb3.below.size; omega
          have H3 := Lib.hid hb3.bld
          clear hb3 Xa hba hat
          go_wp2
          go_roundw
          case rel => exact ⟨k + 1, by omega, by go_num, by have := H3.out; rw [HT.out, HP.out]; simpa [HK.out] using this, B3, S3⟩
          case measure => simp [intOf]; omega
    · have he := Lib.hid (show k = ps.length by omega)
      go_wp2_with fail
      refine (wEnd w.heap.size w.heap.size _ _ HB.out (by omega)).mono ?_
      rintro e w4 ⟨rfl, h4⟩
      go_wp2
      go_ret
      exact ⟨ret_str (by rw [he.out, List.take_of_length_le (Nat.le_refl _)]), hB.trans h4.below⟩

end Go.Proofs.YtmhjabjiojfgnaaDoor
