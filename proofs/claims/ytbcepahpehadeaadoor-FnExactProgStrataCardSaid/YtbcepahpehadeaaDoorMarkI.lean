/- The walks of eqIntS, markIntS, heldIntS. -/
import Derived.WalkKit
import Derived.Lib.Hide
import Derived.WalkSpells
import Derived.WalkLawsBesides
import Derived.BigQuiet
import Derived.Deep.RegionHeld3
import Derived.Deep.RegionWith
import Derived.Deep.DrawnRows
import Derived.Test.YtbcepahpehadeaaDoorProg
import Derived.Test.YtbcepahpehadeaaDoorMarkTs
import Derived.Test.YtbcepahpehadeaaDoorStrI
namespace Go.Proofs.YtbcepahpehadeaaDoor
open Go.RowKit D
set_option linter.unusedVariables false
attribute [local go_sem ↓] Go.wp_at_zero Go.wp_at_succ

def D.mkI (s : Nat) (k : Nat) : Nat := k
def D.markIs : List Nat → Nat → List Nat := markL mkI (fun _ => 1)
theorem D.sumL_one' {α : Type} (xs : List α) : sumL (fun _ => 1) xs = xs.length := by
  unfold sumL; induction xs with
  | nil => rfl
  | cons x xs ih => simp only [List.map_cons, List.sum_cons, List.length_cons, ih]; omega
theorem D.markIs_length (xs : List Nat) (k : Nat) : (markIs xs k).length = xs.length := markL_length xs k
theorem D.markIs_at {xs : List Nat} {k i : Nat} (h : i < xs.length) : (markIs xs k)[i]'(by rw [markIs_length]; exact h) = k + i := by
  have := markL_at (mk := mkI) (cnt := fun _ => 1) (k := k) h
  rw [sumL_one', List.length_take, Nat.min_eq_left (by omega)] at this
  exact this
theorem D.ints_at {w : World} {Ad : Option Addr} {len cap : Nat} {xs : List Nat} {bs : List Nat} {k : Nat} (h : intsK w [.slice Ad len cap] xs bs) (hk : k < xs.length) :
    ∃ b o, Ad = some ⟨b, o, none⟩ ∧ b ∈ bs ∧ w.cell? ⟨b, o + k, none⟩ = some (.int .i64 (xs[k] : Nat)) := by
  obtain ⟨b, o, cs, bk, rfl, hb, hcs, hcell, ⟨rfl, _⟩, _⟩ := sliceK_at h hk
  exact ⟨b, o, rfl, hb, by simpa using hcell 0 _ rfl⟩

set_option maxHeartbeats 400000 in
theorem eqIntS_same (ts : List Nat) (v1 v2 : Value) (b1 b2 : List Nat) (w : World) (h1 : intsK w [v1] ts b1) (h2 : intsK w [v2] ts b2) :
    Calls Tryd.prog 18 #[v1, v2] w (Yes w.heap.size w) := by
  obtain ⟨Ad, cap, rfl, hl, hm⟩ := sliceK_form h1
  obtain ⟨Ad2, cap2, rfl, hl2, hm2⟩ := sliceK_form h2
  have hlm := nat_ge_max (Nat.le_trans hl hm)
  clear hm hm2
  go_enter Tryd.func18, Tryd.ntmps18
  go_wp2
  go_loopw [5] (fun i wr => ∃ k : Nat, k ≤ ts.length ∧ i = .int .i64 k ∧ Below w.heap.size w wr) (fun i _ => ts.length - (intOf i).toNat)
  case atStart => exact ⟨0, Nat.zero_le _, rfl, Below.refl _ _⟩
  case round =>
    obtain ⟨k, hk, rfl, hb⟩ := hrel
    by_cases hlt : k < ts.length
    · obtain ⟨b, o, rfl, _, c0⟩ := ints_at (intsK_good.below h1 hb) hlt
      obtain ⟨b', o', rfl, _, d0⟩ := ints_at (intsK_good.below h2 hb) hlt
      clear h1 h2
      have hlt' : (k : Int) < (ts.length : Int) := by omega
      have hk0 : (0 : Int) ≤ (k : Int) := by omega
      generalize ts[k] = s at *
      go_wp2
      go_quiet (fail)
      go_wp2
      go_roundw
      case rel => exact ⟨k + 1, by omega, by go_num, ⟨hb.os, hb.tape, hb.output, hb.size, hb.block⟩⟩
      case measure => simp [intOf]; omega
    · have he : k = ts.length := by omega
      subst he
      go_wp2
      go_ret
      exact ⟨rfl, hb⟩

set_option maxHeartbeats 1000000 in
theorem markIntS_any (ts : List Nat) (v : Value) (bs : List Nat) (k B : Nat) (w : World) (h : intsK w [v] ts bs) (hN : New B w bs) (hk : k + ts.length ≤ 1000000000) :
    Calls Tryd.prog 20 #[v, .int .i64 k] w (Marked intsK [v] (markIs ts k) bs (k + ts.length) B w) := by
  obtain ⟨Ad, cap, rfl, hl, hm⟩ := sliceK_form h
  clear hm
  go_enter Tryd.func20, Tryd.ntmps20
  go_wp2
  go_loopw [1, 5] (fun q j wr => ∃ (i : Nat) (ys : List Nat), i ≤ ts.length ∧ j = .int .i64 i ∧ q = .int .i64 (k + i : Nat) ∧ ys = markTo mkI (fun _ => 1) ts k i ∧ intsK wr [.slice Ad ts.length cap] ys bs ∧ New B wr bs ∧ KeptBut bs w wr) (fun _ j _ => ts.length - (intOf j).toNat)
  case atStart => exact ⟨0, ts, Nat.zero_le _, rfl, rfl, rfl, h, hN, KeptBut.refl _ _⟩
  case round =>
    obtain ⟨i, ys, hi, rfl, rfl, hy, hT, hNr, hK⟩ := hrel
    clear h hN
    by_cases hlt : i < ts.length
    · have hle : ys.length = ts.length := by rw [hy, markTo_length]
      have HS := Lib.hid (markTo_step (mk := mkI) (cnt := fun _ => 1) (k := k) hlt)
      have HY := Lib.hid hy
      clear hy
      obtain ⟨b, o, cs, bk, rfl, hb, hbk, hnd, hsub, hcs, hcell, ⟨rfl, rfl⟩, hput⟩ := sliceK_open intK_good hT hNr.nodup (k := i) (by omega)
      obtain ⟨u0, c0⟩ : ∃ u, wr.cell? ⟨b, o + i, none⟩ = some u := ⟨_, by simpa using hcell 0 _ rfl⟩
      have HP := Lib.hid hput
      have HW := Lib.hid (hNr.wri b hb)
      have f0 := HW.out.frozen (o + i)
      have hbl := hNr.lt hb
      have HL := Lib.hid hle
      have HN := Lib.hid hNr
      clear hcell hput hT hnd hsub hcs hle hNr
      obtain ⟨q, hq⟩ : ∃ q, q = k + i := ⟨_, rfl⟩
      rw [← hq]
      have hq9 : q ≤ 1000000000 := by omega
      have HQ := Lib.hid hq
      clear hq
      have HT : Hid ((markTo mkI (fun _ => 1) ts k i).set i (q) = markTo mkI (fun _ => 1) ts k (i + 1)) := Lib.hid (by
        have := HS.out
        rw [sumL_one', List.length_take, Nat.min_eq_left (by omega)] at this
        rw [HQ.out]; exact this)
      clear HS
      have hi0 : (0 : Int) ≤ (i : Int) := by omega
      have hi1 : (i : Int) < (ts.length : Int) := by omega
      have HB := Lib.hid hbl
      have R := HP.out (wr.setCell ⟨b, o + i, none⟩ (.int .i64 (q : Nat))) [.int .i64 (q : Nat)] (q) rfl
        (fun j v hv => by
          match j, hv with
          | 0, hv =>
            simp only [List.getElem?_cons_zero, Option.some.injEq] at hv
            subst hv
            rw [Nat.mul_one, Nat.add_zero]
            exact World.cell?_setCell_same' _ _ _ (by rw [c0]; rfl)
          | j + 1, hv => simp at hv)
        (fun p v hv hp => setCell_other hv (by omega))
        (fun c hc hne _ => by
          have hcl := HN.out.lt hc
          rw [Below.heap_setCell _ _ _ _ hne])
        ⟨rfl, rfl⟩
      rw [HY.out, HT.out] at R
      have hN3 : New B (wr.setCell ⟨b, o + i, none⟩ (.int .i64 (q : Nat))) bs := ⟨HN.out.nodup, fun c hc => ⟨(HN.out.own c hc).1, by
        exact Wri.setCell (HN.out.wri c hc) _ _⟩⟩
      have hK3 : KeptBut bs w (wr.setCell ⟨b, o + i, none⟩ (.int .i64 (q : Nat))) := hK.setCell hb _
      clear HP HN HW
      go_wp2_with fail
      go_roundw
      case rel => exact ⟨i + 1, _, by omega, by go_num, by have := HQ.out; go_num, rfl, R, hN3, hK3⟩
      case measure => simp [intOf]; omega
    · have he : i = ts.length := by omega
      subst he
      have HY : Hid (ys = markIs ts k) := Lib.hid (by rw [hy, markTo_all]; rfl)
      clear hy
      go_wp2
      go_ret
      exact ⟨rfl, by rw [← HY.out]; exact hT, hNr, hK⟩

set_option maxHeartbeats 1000000 in
theorem heldIntS_any (ts : List Nat) (v : Value) (bs : List Nat) (k : Nat) (w : World) (h : intsK w [v] (markIs ts k) bs) (hk : k + ts.length ≤ 1000000000) :
    Calls Tryd.prog 21 #[v, .int .i64 k] w (Held (k + ts.length) w) := by
  obtain ⟨Ad, cap, rfl, hl, hm⟩ := sliceK_form h
  have hzl := markIs_length ts k
  rw [hzl] at h hl ⊢
  clear hm hl
  go_enter Tryd.func21, Tryd.ntmps21
  go_wp2
  go_loopw [1, 5] (fun q j wr => ∃ i : Nat, i ≤ ts.length ∧ j = .int .i64 i ∧ q = .int .i64 (k + i : Nat) ∧ Below w.heap.size w wr) (fun _ j _ => ts.length - (intOf j).toNat)
  case atStart => exact ⟨0, Nat.zero_le _, rfl, rfl, Below.refl _ _⟩
  case round =>
    obtain ⟨i, hi, rfl, rfl, hb⟩ := hrel
    by_cases hlt : i < ts.length
    · obtain ⟨b, o, rfl, _, c0⟩ := ints_at (intsK_good.below h hb) (k := i) (by rw [hzl]; exact hlt)
      rw [markIs_at hlt] at c0
      clear h hzl
      have hlt' : (i : Int) < (ts.length : Int) := by omega
      have hk0 : (0 : Int) ≤ (i : Int) := by omega
      obtain ⟨q, hq⟩ : ∃ q, q = k + i := ⟨_, rfl⟩
      rw [← hq] at c0 ⊢
      have hq1 : q ≤ 1000000000 := by omega
      have HQ := Lib.hid hq
      clear hq
      have B2 := hb
      go_wp2
      go_roundw
      case rel => exact ⟨i + 1, by omega, by go_num, by have := HQ.out; go_num, B2⟩
      case measure => simp [intOf]; omega
    · have he : i = ts.length := by omega
      subst he
      go_wp2
      go_ret
      exact ⟨rfl, hb⟩

end Go.Proofs.YtbcepahpehadeaaDoor
