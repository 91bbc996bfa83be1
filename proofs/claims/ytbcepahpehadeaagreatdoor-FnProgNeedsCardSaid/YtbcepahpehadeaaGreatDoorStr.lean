/- The walks of the small functions over texts: plain, NameOk, l1In, l1Letters, spec.NameOk. -/
import Derived.WalkKit
import Derived.WalkSpells
import Derived.WalkLawsBesides
import Derived.Lib.Hide
import Derived.Lib.IndexBytes
import Derived.Test.YtbcepahpehadeaaGreatDoorProg
import Derived.Test.YtbcepahpehadeaaGreatDoorKind
namespace Go.Proofs.YtbcepahpehadeaaGreatDoor
open Go.RowKit D
set_option linter.unusedVariables false

set_option maxHeartbeats 400000 in
theorem plain_any (s : ByteArray) (w : World) (hs : s.size ≤ maxLen) :
    Calls Tryz.prog 129 #[.string s] w fun e w' => e = .returned (.bool (lows s.data.toList)) ∧ w = w' := by
  unfold maxLen at hs
  go_enter Tryz.func129, Tryz.ntmps129
  go_wp2
  go_loop [3, 4] (fun i _ => ∃ k : Nat, k ≤ s.size ∧ i = .int .i64 k ∧ lows (s.data.toList.take k) = true) (fun i _ => s.size - (intOf i).toNat)
  case atStart => exact ⟨0, Nat.zero_le _, rfl, rfl⟩
  case round =>
    obtain ⟨k, hk, rfl, hl⟩ := hrel
    have HL := Lib.hid hl
    clear hl
    by_cases hlt : k < s.size
    · by_cases hb : low s[k] = false
      · have hbad := lows_bad s k hlt hb
        have HB := Lib.hid hbad
        rw [low_int] at hb
        clear hbad
        go_wp2
        all_goals first
          | (exfalso; omega)
          | (go_ret; exact ⟨ret_bool HB.out.symm, rfl⟩)
      · have hg : low s[k] = true := by simpa using hb
        have hs1 := lows_snoc s k hlt HL.out
        rw [hg] at hs1
        have HS := Lib.hid hs1
        have hn := mt (low_int s[k]).2 hb
        clear hs1 hg hb
        go_wp2
        all_goals first
          | (exfalso; omega)
          | (go_round
             case rel => exact ⟨k + 1, by omega, by go_num, HS.out⟩
             case measure => simp [intOf]; omega)
    · have he : k = s.size := by omega
      subst he
      have HE := Lib.hid ((lows_all s).symm.trans HL.out)
      go_wp2
      go_ret
      exact ⟨ret_bool HE.out.symm, rfl⟩

set_option maxHeartbeats 400000 in
theorem in_any (a b c : Int) (w : World) :
    Calls Tryz.prog 148 #[.int .i64 a, .int .i64 b, .int .i64 c] w fun e w' => e = .returned (.bool (decide (b ≤ a) && decide (a ≤ c))) ∧ w = w' := by
  by_cases h1 : b ≤ a
  all_goals by_cases h2 : a ≤ c
  all_goals
    go_enter Tryz.func148, Tryz.ntmps148
    go_wp2
    go_ret
    exact ⟨ret_bool (by simp [h1, h2]), rfl⟩

set_option maxHeartbeats 400000 in
theorem letters_any (s : ByteArray) (w : World) (hs : s.size ≤ maxLen) :
    Calls Tryz.prog 128 #[.string s] w fun e w' => e = .returned (.bool (lows s.data.toList && decide (1 ≤ s.size) && decide (s.size ≤ 8))) ∧ w = w' := by
  unfold maxLen at hs
  go_enter Tryz.func128, Tryz.ntmps128
  go_wp2
  go_loop [3] (fun i => ∃ k : Nat, k ≤ s.size ∧ i = .int .i64 k ∧ lows (s.data.toList.take k) = true) (fun i => s.size - (intOf i).toNat)
  case atStart => exact ⟨0, Nat.zero_le _, rfl, rfl⟩
  case round =>
    obtain ⟨k, hk, rfl, hl⟩ := hrel
    have HL := Lib.hid hl
    clear hl
    by_cases hlt : k < s.size
    · by_cases hb : low s[k] = false
      · have hbad := lows_bad s k hlt hb
        have HB := Lib.hid hbad
        rw [low_int] at hb
        clear hbad
        go_wp2
        all_goals first
          | (exfalso; omega)
          | (go_ret; exact ⟨ret_bool (by rw [HB.out]; rfl), rfl⟩)
      · have hg : low s[k] = true := by simpa using hb
        have hs1 := lows_snoc s k hlt HL.out
        rw [hg] at hs1
        have HS := Lib.hid hs1
        have hn := mt (low_int s[k]).2 hb
        clear hs1 hg hb
        go_wp2
        all_goals first
          | (exfalso; omega)
          | (go_round
             case rel => exact ⟨k + 1, by omega, by go_num, HS.out⟩
             case measure => simp [intOf]; omega)
    · have he : k = s.size := by omega
      subst he
      have HE := Lib.hid ((lows_all s).symm.trans HL.out)
      go_wp2_with (go_at_call 148; refine (in_any _ _ _ _).mono ?_; rintro e w' ⟨rfl, rfl⟩)
      go_ret
      exact ⟨ret_bool (by rw [HE.out, Bool.eq_iff_iff]; simp; omega), rfl⟩

theorem nameOk_alt (s : ByteArray) : nameOk s = ((lows s.data.toList && decide (1 ≤ s.size) && decide (s.size ≤ 8)) && !(s.toList == [110, 111, 116])) := by
  unfold nameOk
  cases decide (1 ≤ s.size) <;> cases decide (s.size ≤ 8) <;> cases lows s.data.toList <;> rfl

set_option maxHeartbeats 400000 in
theorem nameOk_spec (s : ByteArray) (w : World) (hs : s.size ≤ maxLen) :
    Calls Tryz.prog 100 #[.string s] w fun e w' => e = .returned (.bool (nameOk s)) ∧ w = w' := by
  rw [nameOk_alt]
  have hc := letters_any s w hs
  generalize (lows s.data.toList && decide (1 ≤ s.size) && decide (s.size ≤ 8)) = b at *
  cases b
  all_goals
    go_enter Tryz.func100, Tryz.ntmps100
    go_wp2_with (go_at_call 128; refine hc.mono ?_; rintro e w' ⟨rfl, rfl⟩)
    go_ret
    exact ⟨rfl, rfl⟩

set_option maxHeartbeats 400000 in
theorem nameOk_impl (s : ByteArray) (w : World) (hs : s.size ≤ maxLen) :
    Calls Tryz.prog 102 #[.string s] w fun e w' => e = .returned (.bool (nameOk s)) ∧ w = w' := by
  unfold nameOk
  have hc := plain_any s w hs
  generalize lows s.data.toList = b at *
  by_cases h1 : 1 ≤ s.size
  all_goals by_cases h2 : s.size ≤ 8
  all_goals cases b
  all_goals
    go_enter Tryz.func102, Tryz.ntmps102
    go_wp2_with (go_at_call 129; refine hc.mono ?_; rintro e w' ⟨rfl, rfl⟩)
    all_goals (go_ret; exact ⟨ret_bool (by simp [h1, h2]), rfl⟩)

set_option maxHeartbeats 400000 in
theorem capital_any (s : ByteArray) (w : World) (hs : s.size ≤ maxLen) :
    Calls Tryz.prog 149 #[.string s] w fun e w' => e = .returned (.bool (capB s)) ∧ w = w' := by
  unfold maxLen at hs
  by_cases h0 : 0 < s.size
  · have hc : capB s = big s[0] := by unfold capB; rw [headD_at s h0]; simp [h0]
    rw [hc]
    have hne := nonempty_at s h0
    by_cases h1 : 65 ≤ (s[0].toNat : Int)
    all_goals by_cases h2 : (s[0].toNat : Int) ≤ 90
    all_goals
      go_enter Tryz.func149, Tryz.ntmps149
      go_wp2
      all_goals (go_ret; exact ⟨ret_bool (by rw [Bool.eq_iff_iff, big_int]; simp; omega), rfl⟩)
  · have hne := empty_at s h0
    have hc : capB s = false := by unfold capB; simp [h0]
    rw [hc]
    go_enter Tryz.func149, Tryz.ntmps149
    go_wp2
    go_ret
    exact ⟨rfl, rfl⟩

set_option maxHeartbeats 400000 in
theorem variableOk_any (s : ByteArray) (w : World) (hs : s.size ≤ maxLen) :
    Calls Tryz.prog 132 #[.string s] w fun e w' => e = .returned (.bool (varOk s)) ∧ w = w' := by
  have hc := capital_any s w hs
  have hp := plain_any (s.extract 1 s.size) w (by simp; omega)
  rw [tail_at] at hp
  unfold varOk
  unfold maxLen at hs
  by_cases h8 : s.size ≤ 8
  all_goals cases hb : capB s
  all_goals rw [hb] at hc
  case neg.false | neg.true | pos.false =>
    go_enter Tryz.func132, Tryz.ntmps132
    go_wp2_with (go_at_call 149; refine hc.mono ?_; rintro e w' ⟨rfl, rfl⟩)
    all_goals (go_ret; exact ⟨ret_bool (by simp [h8]), rfl⟩)
  case pos.true =>
    have h1 := capB_pos hb
    clear hb
    generalize lows s.data.toList.tail = b at *
    go_enter Tryz.func132, Tryz.ntmps132
    go_wp2_with (first | (go_at_call 149; refine hc.mono ?_; rintro e w' ⟨rfl, rfl⟩) | (go_at_call 129; refine hp.mono ?_; rintro e w' ⟨rfl, rfl⟩))
    all_goals (go_ret; exact ⟨ret_bool (by simp [h8]), rfl⟩)

end Go.Proofs.YtbcepahpehadeaaGreatDoor
