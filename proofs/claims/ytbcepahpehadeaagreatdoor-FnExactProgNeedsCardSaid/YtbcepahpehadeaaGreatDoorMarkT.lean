/- The walks of eqStringS, markStringS, heldStringS. -/
import Derived.WalkKit
import Derived.Lib.Hide
import Derived.WalkSpells
import Derived.WalkLawsBesides
import Derived.BigQuiet
import Derived.Deep.RegionHeld3
import Derived.Deep.RegionWith
import Derived.Deep.DrawnRows
import Derived.Test.YtbcepahpehadeaaGreatDoorProg
import Derived.Test.YtbcepahpehadeaaGreatDoorMarkTs
namespace Go.Proofs.YtbcepahpehadeaaGreatDoor
open Go.RowKit D
set_option linter.unusedVariables false
attribute [local go_sem ↓] Go.wp_at_zero Go.wp_at_succ

def D.mkS (s : ByteArray) (k : Nat) : ByteArray := D.markText k
def D.markSs : List ByteArray → Nat → List ByteArray := markL mkS (fun _ => 1)
theorem D.sumL_one {α : Type} (xs : List α) : sumL (fun _ => 1) xs = xs.length := by
  unfold sumL; induction xs with
  | nil => rfl
  | cons x xs ih => simp only [List.map_cons, List.sum_cons, List.length_cons, ih]; omega
theorem D.markSs_length (xs : List ByteArray) (k : Nat) : (markSs xs k).length = xs.length := markL_length xs k
theorem D.markSs_at {xs : List ByteArray} {k i : Nat} (h : i < xs.length) : (markSs xs k)[i]'(by rw [markSs_length]; exact h) = D.markText (k + i) := by
  have := markL_at (mk := mkS) (cnt := fun _ => 1) (k := k) h
  rw [sumL_one, List.length_take, Nat.min_eq_left (by omega)] at this
  exact this

set_option maxHeartbeats 400000 in
theorem eqStringS_same (ts : List ByteArray) (v1 v2 : Value) (b1 b2 : List Nat) (w : World) (h1 : strsK w [v1] ts b1) (h2 : strsK w [v2] ts b2) :
    Calls Tryz.prog 17 #[v1, v2] w (Yes w.heap.size w) := by
  obtain ⟨Ad, cap, rfl, hl, hm⟩ := sliceK_form h1
  obtain ⟨Ad2, cap2, rfl, hl2, hm2⟩ := sliceK_form h2
  have hlm := nat_ge_max (Nat.le_trans hl hm)
  clear hm hm2
  go_enter Tryz.func17, Tryz.ntmps17
  go_wp2
  go_loopw [5] (fun i wr => ∃ k : Nat, k ≤ ts.length ∧ i = .int .i64 k ∧ Below w.heap.size w wr) (fun i _ => ts.length - (intOf i).toNat)
  case atStart => exact ⟨0, Nat.zero_le _, rfl, Below.refl _ _⟩
  case round =>
    obtain ⟨k, hk, rfl, hb⟩ := hrel
    by_cases hlt : k < ts.length
    · obtain ⟨b, o, rfl, _, c0, hnm⟩ := strs_at (strsK_good.below h1 hb) hlt
      obtain ⟨b', o', rfl, _, d0, _⟩ := strs_at (strsK_good.below h2 hb) hlt
      clear h1 h2
      have hlt' : (k : Int) < (ts.length : Int) := by omega
      have hk0 : (0 : Int) ≤ (k : Int) := by omega
      generalize ts[k] = s at *
      go_wp2
      go_quiet (fail)
      go_wp2
      go_roundw
      case rel => exact ⟨k + 1, by omega, by go_num, ⟨hb.os, hb.tape, hb.output, hb.size, hb.block⟩⟩
      case measure => simp [intOf]; omega
    · have he : k = ts.length := by omega
      subst he
      go_wp2
      go_ret
      exact ⟨rfl, hb⟩

set_option maxHeartbeats 1000000 in
theorem markStringS_any (ts : List ByteArray) (v : Value) (bs : List Nat) (k B : Nat) (w : World) (h : strsK w [v] ts bs) (hN : New B w bs) (hk : k + ts.length ≤ 1000000000) :
    Calls Tryz.prog 19 #[v, .int .i64 k] w (Marked strsK [v] (markSs ts k) bs (k + ts.length) B w) := by
  obtain ⟨Ad, cap, rfl, hl, hm⟩ := sliceK_form h
  clear hm
  go_enter Tryz.func19, Tryz.ntmps19
  go_wp2
  go_loopw [1, 5] (fun q j wr => ∃ (i : Nat) (ys : List ByteArray), i ≤ ts.length ∧ j = .int .i64 i ∧ q = .int .i64 (k + i : Nat) ∧ ys = markTo mkS (fun _ => 1) ts k i ∧ strsK wr [.slice Ad ts.length cap] ys bs ∧ New B wr bs ∧ KeptBut bs w wr) (fun _ j _ => ts.length - (intOf j).toNat)
  case atStart => exact ⟨0, ts, Nat.zero_le _, rfl, rfl, rfl, h, hN, KeptBut.refl _ _⟩
  case round =>
    obtain ⟨i, ys, hi, rfl, rfl, hy, hT, hNr, hK⟩ := hrel
    clear h hN
    by_cases hlt : i < ts.length
    · have hle : ys.length = ts.length := by rw [hy, markTo_length]
      have HS := Lib.hid (markTo_step (mk := mkS) (cnt := fun _ => 1) (k := k) hlt)
      have HY := Lib.hid hy
      clear hy
      obtain ⟨b, o, cs, bk, rfl, hb, hbk, hnd, hsub, hcs, hcell, ⟨rfl, hnm, rfl⟩, hput⟩ := sliceK_open strK_good hT hNr.nodup (k := i) (by omega)
      obtain ⟨u0, c0⟩ : ∃ u, wr.cell? ⟨b, o + i, none⟩ = some u := ⟨_, by simpa using hcell 0 _ rfl⟩
      have HP := Lib.hid hput
      have HW := Lib.hid (hNr.wri b hb)
      have f0 := HW.out.frozen (o + i)
      have hbl := hNr.lt hb
      have HL := Lib.hid hle
      have HN := Lib.hid hNr
      clear hcell hput hT hnd hsub hcs hle hNr hnm
      obtain ⟨q, hq⟩ : ∃ q, q = k + i := ⟨_, rfl⟩
      rw [← hq]
      have hq9 : q ≤ 1000000000 := by omega
      have HQ := Lib.hid hq
      clear hq
      have HT : Hid ((markTo mkS (fun _ => 1) ts k i).set i (D.markText q) = markTo mkS (fun _ => 1) ts k (i + 1)) := Lib.hid (by
        have := HS.out
        rw [sumL_one, List.length_take, Nat.min_eq_left (by omega)] at this
        rw [HQ.out]; exact this)
      clear HS
      have hi0 : (0 : Int) ≤ (i : Int) := by omega
      have hi1 : (i : Int) < (ts.length : Int) := by omega
      have HB := Lib.hid hbl
      go_wp2_with fail
      refine (markText_any q _ (by omega)).mono ?_
      rintro e w2 ⟨rfl, hb2⟩
      have g0 : w2.cell? ⟨b, o + i, none⟩ = some u0 := cell_later hb2 c0
      have f2 : w2.frozen? ⟨b, o + i, none⟩ = false := (hb2.frozen (p := ⟨b, o + i, none⟩) HB.out).trans f0
      have R := HP.out (w2.setCell ⟨b, o + i, none⟩ (.string (D.markText q))) [.string (D.markText q)] (D.markText q) rfl
        (fun j v hv => by
          match j, hv with
          | 0, hv =>
            simp only [List.getElem?_cons_zero, Option.some.injEq] at hv
            subst hv
            rw [Nat.mul_one, Nat.add_zero]
            exact World.cell?_setCell_same' _ _ _ (by rw [g0]; rfl)
          | j + 1, hv => simp at hv)
        (fun p v hv hp => setCell_other (cell_later hb2 hv) (by omega))
        (fun c hc hne _ => by
          have hcl := HN.out.lt hc
          rw [Below.heap_setCell _ _ _ _ hne, hb2.block c hcl])
        ⟨rfl, markText_size (k := q) (by omega), rfl⟩
      rw [HY.out, HT.out] at R
      have hN3 : New B (w2.setCell ⟨b, o + i, none⟩ (.string (D.markText q))) bs := ⟨HN.out.nodup, fun c hc => ⟨(HN.out.own c hc).1, by
        refine Wri.setCell (Wri.keep (HN.out.wri c hc) (hb2.block c (HN.out.lt hc))) _ _⟩⟩
      have hK3 : KeptBut bs w (w2.setCell ⟨b, o + i, none⟩ (.string (D.markText q))) := (hK.trans (KeptBut.of_below hb2)).setCell hb _
      clear HP HN HW c0 f0
      go_wp2_with fail
      go_roundw
      case rel => exact ⟨i + 1, _, by omega, by go_num, by have := HQ.out; go_num, rfl, R, hN3, hK3⟩
      case measure => simp [intOf]; omega
    · have he : i = ts.length := by omega
      subst he
      have HY : Hid (ys = markSs ts k) := Lib.hid (by rw [hy, markTo_all]; rfl)
      clear hy
      go_wp2
      go_ret
      exact ⟨rfl, by rw [← HY.out]; exact hT, hNr, hK⟩

set_option maxHeartbeats 1000000 in
theorem heldStringS_any (ts : List ByteArray) (v : Value) (bs : List Nat) (k : Nat) (w : World) (h : strsK w [v] (markSs ts k) bs) (hk : k + ts.length ≤ 1000000000) :
    Calls Tryz.prog 20 #[v, .int .i64 k] w (Held (k + ts.length) w) := by
  obtain ⟨Ad, cap, rfl, hl, hm⟩ := sliceK_form h
  have hzl := markSs_length ts k
  rw [hzl] at h hl ⊢
  clear hm hl
  go_enter Tryz.func20, Tryz.ntmps20
  go_wp2
  go_loopw [1, 5] (fun q j wr => ∃ i : Nat, i ≤ ts.length ∧ j = .int .i64 i ∧ q = .int .i64 (k + i : Nat) ∧ Below w.heap.size w wr) (fun _ j _ => ts.length - (intOf j).toNat)
  case atStart => exact ⟨0, Nat.zero_le _, rfl, rfl, Below.refl _ _⟩
  case round =>
    obtain ⟨i, hi, rfl, rfl, hb⟩ := hrel
    by_cases hlt : i < ts.length
    · obtain ⟨b, o, rfl, _, c0, hnm⟩ := strs_at (strsK_good.below h hb) (k := i) (by rw [hzl]; exact hlt)
      rw [markSs_at hlt] at c0
      clear h hzl hnm
      have hlt' : (i : Int) < (ts.length : Int) := by omega
      have hk0 : (0 : Int) ≤ (i : Int) := by omega
      obtain ⟨q, hq⟩ : ∃ q, q = k + i := ⟨_, rfl⟩
      rw [← hq] at c0 ⊢
      have hq1 : q ≤ 1000000000 := by omega
      have HQ := Lib.hid hq
      clear hq
      go_wp2
      go_region_held3 (fun w' => w'.cell? ⟨b, o + i, none⟩ = some (.string (D.markText q))) (first | go_keep | exact cell_later hw2 c0)
        (first | (go_at_call 43; refine (markText_any q _ (by omega)).mono ?_; rintro e w2 ⟨rfl, hw2⟩))
      have B2 := hb.trans (((Below.refl _ _).drew.trans hw2).mono hb.size)
      go_wp2
      go_roundw
      case rel => exact ⟨i + 1, by omega, by go_num, by have := HQ.out; go_num, B2⟩
      case measure => simp [intOf]; omega
    · have he : i = ts.length := by omega
      subst he
      go_wp2
      go_ret
      exact ⟨rfl, hb⟩

end Go.Proofs.YtbcepahpehadeaaGreatDoor
