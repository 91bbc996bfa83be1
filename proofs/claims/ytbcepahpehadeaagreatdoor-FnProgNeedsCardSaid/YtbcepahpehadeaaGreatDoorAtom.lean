/- The walks of the functions that say whether an atom is ok. -/
import Derived.WalkKit
import Derived.WalkSpells
import Derived.WalkLawsBesides
import Derived.Lib.Hide
import Derived.Lib.IndexBytes
import Derived.Deep.Slices
import Derived.Deep.Fields
import Derived.ChangeSame
import Derived.Deep.Draws
import Derived.Test.YtbcepahpehadeaaGreatDoorTerm
import Derived.Test.YtbcepahpehadeaaGreatDoorStr
namespace Go.Proofs.YtbcepahpehadeaaGreatDoor
open Go.RowKit D
set_option linter.unusedVariables false


set_option maxHeartbeats 400000 in
theorem atomOk_spec (a : A) (c0 c1 : Value) (bs : List Nat) (w : World) (h : atomK w [c0, c1] a bs) :
    Calls Tryz.prog 75 #[.agg #[c0, c1]] w fun e w' => e = .returned (.bool (atomOk a)) ∧ Below w.heap.size w w' := by
  obtain ⟨s, hcs, hnm, ht⟩ := h
  simp only [List.cons.injEq, and_true] at hcs
  obtain ⟨rfl, rfl⟩ := hcs
  obtain ⟨Ad, cap, rfl, hl, hm⟩ := sliceK_form ht
  have hlm := nat_ge_max (Nat.le_trans hl hm)
  clear hm
  have hn := fun w => nameOk_spec a.name w hnm
  unfold atomOk
  obtain ⟨nm, ts⟩ := a
  dsimp only at *
  generalize nameOk nm = b at *
  go_enter Tryz.func75, Tryz.ntmps75
  go_wp2
  go_loopw [3] (fun i wr => ∃ k : Nat, k ≤ ts.length ∧ i = .int .i64 k ∧ (ts.take k).all termOk = true ∧ Below w.heap.size w wr ∧ wr.cell? ⟨w.heap.size, 0, none⟩ = some (.string nm) ∧ wr.cell? ⟨w.heap.size, 1, none⟩ = some (.slice Ad ts.length cap) ∧ w.heap.size < wr.heap.size) (fun i _ => ts.length - (intOf i).toNat)
  case atStart => exact ⟨0, Nat.zero_le _, rfl, rfl, (Below.refl _ _).alloc (Nat.le_refl _) _, by simp, by simp, by simp⟩
  case round =>
    obtain ⟨k, hk, rfl, hall, hb, hc0, hc1, hsz⟩ := hrel
    have HA := Lib.hid hall
    clear hall
    by_cases hlt : k < ts.length
    · have hw := termsK_good.below ht hb
      obtain ⟨b0, o, rfl, _, d0, d1, hnm⟩ := terms_at hw hlt
      have HT := Lib.hid ht
      clear ht hw
      go_wp2_with (go_at_call 99; refine (l1Term_any _ _ hnm).mono ?_; rintro e w' ⟨rfl, hb'⟩)
      · have hx : (!termOk ts[k]) = true := by assumption
        go_ret
        exact ⟨ret_bool (by rw [all_bad ts k hlt (by simpa using hx)]; simp), hb.trans (hb'.mono (by omega))⟩
      · have hx : (!termOk ts[k]) = false := by assumption
        go_roundw
        case rel => exact ⟨k + 1, by omega, by go_num, by rw [all_take_snoc ts k hlt, HA.out]; simpa using hx, hb.trans (hb'.mono (by omega)), cell_later hb' hc0, cell_later hb' hc1, by have := hb'.size; omega⟩
        case measure => simp [intOf]; omega
    · have he : k = ts.length := by omega
      subst he
      have ha : ts.all termOk = true := by have := HA.out; rwa [List.take_of_length_le (Nat.le_refl _)] at this
      have HA2 := Lib.hid ha
      clear ha
      cases b
      all_goals
        go_wp2_with (go_at_call 100; refine (hn _).mono ?_; rintro e w3 ⟨rfl, rfl⟩)
        go_ret
        exact ⟨ret_bool (by rw [HA2.out]; first | (simp; done) | (rw [Bool.eq_iff_iff]; simp; omega)), hb⟩

set_option maxHeartbeats 400000 in
theorem atomOk_impl (a : A) (c0 c1 : Value) (bs : List Nat) (w : World) (h : atomK w [c0, c1] a bs) :
    Calls Tryz.prog 83 #[.agg #[c0, c1]] w fun e w' => e = .returned (.bool (atomOk a)) ∧ Below w.heap.size w w' := by
  obtain ⟨s, hcs, hnm, ht⟩ := h
  simp only [List.cons.injEq, and_true] at hcs
  obtain ⟨rfl, rfl⟩ := hcs
  obtain ⟨Ad, cap, rfl, hl, hm⟩ := sliceK_form ht
  have hlm := nat_ge_max (Nat.le_trans hl hm)
  clear hm
  have hn := fun w => nameOk_impl a.name w hnm
  unfold atomOk
  obtain ⟨nm, ts⟩ := a
  dsimp only at *
  generalize nameOk nm = b at *
  by_cases h3 : ts.length ≤ 3
  all_goals cases b
  case pos.true =>
    go_enter Tryz.func83, Tryz.ntmps83
    go_wp2_with (go_at_call 102; refine (hn _).mono ?_; rintro e w3 ⟨rfl, rfl⟩)
    go_loopw [18] (fun i wr => ∃ k : Nat, k ≤ ts.length ∧ i = .int .i64 k ∧ (ts.take k).all termOk = true ∧ Below w.heap.size w wr) (fun i _ => ts.length - (intOf i).toNat)
    case atStart => exact ⟨0, Nat.zero_le _, rfl, rfl, (Below.refl _ _).alloc (Nat.le_refl _) _⟩
    case round =>
      obtain ⟨k, hk, rfl, hall, hb⟩ := hrel
      have HA := Lib.hid hall
      clear hall
      by_cases hlt : k < ts.length
      · have hw := termsK_good.below ht hb
        obtain ⟨b0, o, rfl, _, d0, d1, hnm⟩ := terms_at hw hlt
        have HT := Lib.hid ht
        clear ht hw
        go_wp2_with (go_at_call 103; refine (termOk_any _ _ hnm).mono ?_; rintro e w' ⟨rfl, hb'⟩)
        · have hx : (!termOk ts[k]) = true := by assumption
          go_ret
          exact ⟨ret_bool (by rw [all_bad ts k hlt (by simpa using hx)]; simp), (hb.alloc hb.size _).trans (hb'.mono (by have := hb.size; simp; omega))⟩
        · have hx : (!termOk ts[k]) = false := by assumption
          go_roundw
          case rel => exact ⟨k + 1, by omega, by go_num, by rw [all_take_snoc ts k hlt, HA.out]; simpa using hx, (hb.alloc hb.size _).trans (hb'.mono (by have := hb.size; simp; omega))⟩
          case measure => simp [intOf]; omega
      · have he : k = ts.length := by omega
        subst he
        have ha : ts.all termOk = true := by have := HA.out; rwa [List.take_of_length_le (Nat.le_refl _)] at this
        have HA2 := Lib.hid ha
        clear ha
        go_wp2
        go_ret
        exact ⟨ret_bool (by rw [HA2.out]; simp; omega), hb⟩
  all_goals
    go_enter Tryz.func83, Tryz.ntmps83
    go_wp2_with (go_at_call 102; refine (hn _).mono ?_; rintro e w3 ⟨rfl, rfl⟩)
    all_goals (go_ret; exact ⟨ret_bool (by first | (simp; done) | (simp; omega)), (Below.refl _ _).alloc (Nat.le_refl _) _⟩)

end Go.Proofs.YtbcepahpehadeaaGreatDoor
