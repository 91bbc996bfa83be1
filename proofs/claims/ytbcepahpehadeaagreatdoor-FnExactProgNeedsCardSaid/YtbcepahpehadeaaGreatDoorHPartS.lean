/- The walks of szPartS, toPartS, eqPartS: slices of Part. -/
import Derived.Test.YtbcepahpehadeaaGreatDoorHPart
namespace Go.Proofs.YtbcepahpehadeaaGreatDoor
open Go.RowKit D
set_option linter.unusedVariables false
attribute [local go_sem ↓] Go.wp_at_zero Go.wp_at_succ

theorem infoPart : (Tryz.prog.info? 54).map (fun i => (i.zero, i.size, i.bytes)) = some (some (.agg #[.bool false, .string ⟨#[]⟩, .slice none 0 0]), 3, 48) := by kernel_rfl

set_option maxHeartbeats 400000 in
theorem szPartS_any (ts : List Pt) (v : Value) (bs : List Nat) (left : Int) (w : World) (h : partsK w [v] ts bs) (h0 : 0 ≤ left) (h1 : left ≤ 1048576) :
    Calls Tryz.prog 51 #[v, .int .i64 left] w (Left left (bulkPts ts) w.heap.size w) := by
  obtain ⟨Ad, cap, rfl, hl, hm⟩ := sliceK_form h
  have hlm := nat_ge_max (Nat.le_trans hl hm)
  have hbk : bulkPts ts = ts.length + sumL bulkPt ts := rfl
  have HB := Lib.hid hbk
  clear hm hbk
  go_enter Tryz.func51, Tryz.ntmps51
  go_wp2
  · go_ret
    exact ⟨Below.refl _ _, _, rfl, .inl rfl⟩
  · go_loopw [1, 5] (fun l i wr => ∃ (k : Nat) (m : Int), k ≤ ts.length ∧ i = .int .i64 k ∧ l = .int .i64 m ∧ 0 ≤ m ∧ m ≤ 1048576 ∧ m + ts.length + sumL bulkPt (ts.take k) = left ∧ Below w.heap.size w wr) (fun _ i _ => ts.length - (intOf i).toNat)
    case atStart => exact ⟨0, _, Nat.zero_le _, rfl, rfl, by assumption, by omega, by simp [sumL], Below.refl _ _⟩
    case round =>
      obtain ⟨k, m, hk, rfl, rfl, hm0, hm1, hsum, hb⟩ := hrel
      have HS := Lib.hid hsum
      clear hsum
      by_cases hlt : k < ts.length
      · have hw := partsK_good.below h hb
        obtain ⟨b, o, Ae, ce, bk, rfl, _, c0, c1, c2, hel, _⟩ := parts_el hw hlt
        have HT := Lib.hid (sumL_snoc bulkPt ts k hlt)
        clear h hw
        generalize ts[k] = t at *
        go_wp2_with fail
        refine (szPart_any t _ _ _ bk m _ hel hm0 hm1).mono ?_
        rintro e w' ⟨hb', r, rfl, hr⟩
        clear hel
        go_wp2
        · rcases hr with rfl | ⟨_, _⟩
          · go_ret
            exact ⟨hb.trans (hb'.mono hb.size), _, rfl, .inl rfl⟩
          · exfalso; omega
        · rcases hr with rfl | ⟨hr0, hr1⟩
          · exfalso; omega
          · have := HS.out
            have := HT.out
            go_roundw
            case rel => exact ⟨k + 1, r, by omega, by go_num, rfl, hr0, by omega, by omega, hb.trans (hb'.mono hb.size)⟩
            case measure => simp [intOf]; omega
      · have he : k = ts.length := by omega
        go_wp2
        go_ret
        refine ⟨hb, _, rfl, .inr ⟨hm0, ?_⟩⟩
        have := HS.out
        rw [he, List.take_of_length_le (Nat.le_refl _)] at this
        rw [HB.out]
        omega

set_option maxHeartbeats 400000 in
theorem toPartS_any (ts : List Pt) (v : Value) (bs : List Nat) (w : World) (h : partsK w [v] ts bs) (hn : bulkPts ts ≤ 1048576) :
    Calls Tryz.prog 59 #[v] w (Makes partsK ts w.heap.size w) := by
  obtain ⟨Ad, cap, rfl, hl, hm⟩ := sliceK_form h
  obtain ⟨i0, hi, hz0, hz1, hz2⟩ := info_parts infoPart
  have hn2 : ts.length + sumL bulkPt ts ≤ 1048576 := hn
  clear hm
  go_enter Tryz.func59, Tryz.ntmps59
  go_wp2_with (refine wpList_make_full _ rfl _ _ _ rfl w.heap.size 54 i0 _ 3 Tryz.underlying49 hi hz0 hz1 _ _ _ _ ts.length rfl rfl rfl rfl (by rw [hz2]; omega) (by unfold maxLen; omega) (Nat.le_refl _) ?_; intro w1 hown hgrow)
  have hb1 : Below w.heap.size w w1 := (Below.refl _ _).grown hgrow (Nat.le_refl _) (fun _ e => by cases e)
  have hg1 : w.heap.size < w1.heap.size := (hown.lt _ rfl).2
  clear hgrow
  go_loopw [4] (fun i wr => ∃ (k : Nat) (L : List Value) (bs' : List Nat), k ≤ ts.length ∧ i = .int .i64 k ∧ wr.ownsRow w.heap.size 54 3 (.slice (some ⟨w.heap.size, 0, none⟩) ts.length ts.length) ts.length L ∧
      Filled 3 partK w1.heap.size wr L ts k bs' ∧ Below w.heap.size w wr ∧ w1.heap.size ≤ wr.heap.size) (fun i _ => ts.length - (intOf i).toNat)
  case atStart => exact ⟨0, _, _, Nat.zero_le _, rfl, hown, Filled.start, hb1, Nat.le_refl _⟩
  case round =>
    obtain ⟨k, L, bs', hk, rfl, how, hF, hb, hsz⟩ := hrel
    clear hown hb1
    by_cases hlt : k < ts.length
    · have hw := partsK_good.below h hb
      obtain ⟨b, o, Ae, ce, bk, rfl, _, c0, c1, c2, hel, _⟩ := parts_el hw hlt
      have hle : bulkPt ts[k] ≤ 1048576 := by have := sumL_at bulkPt ts k hlt; omega
      have HK := Lib.hid hF
      clear h hw hF
      have hL := Lib.hid how.1
      go_wp2_with fail
      refine (toPart_b ts[k] _ _ _ bk _ hel hle).mono ?_
      rintro e w' ⟨hb', cs', b2, rfl, hR, hN⟩
      obtain ⟨Ae', ce', rfl⟩ := part_cells hR
      have how' := own_below how hb'
      obtain ⟨⟨u0, hu0⟩, hf0⟩ := own_slot how' (j := k * 3) (by omega)
      obtain ⟨⟨u1, hu1⟩, hf1⟩ := own_slot how' (j := k * 3 + 1) (by omega)
      obtain ⟨⟨u2, hu2⟩, hf2⟩ := own_slot how' (j := k * 3 + 2) (by omega)
      obtain ⟨R1, R2, R3, R4⟩ := fill3 partK_good how HK.out hlt hb hb' hg1 (Nat.le_refl _) hsz hR hN
      clear how' hel hR hN
      go_wp2
      go_roundw
      case rel => exact ⟨k + 1, _, _, by omega, by go_num, R1, R2, R3, R4⟩
      case measure => simp [intOf]; omega
    · have he : k = ts.length := by omega
      subst he
      have HF := Lib.hid hF
      clear hF
      go_wp2
      go_ret
      obtain ⟨b2, r1, r2, r3, r4⟩ := HF.out.slice how (fun hm => by have := (HF.out.new.own _ hm).1; omega)
      refine ⟨hb, _, b2, rfl, r1, r2, fun b hb' => ⟨?_, r4 b hb'⟩⟩
      rcases r3 b hb' with ⟨rfl, h⟩ | h
      · exact h
      · have := (HF.out.new.own b h).1; omega

end Go.Proofs.YtbcepahpehadeaaGreatDoor
