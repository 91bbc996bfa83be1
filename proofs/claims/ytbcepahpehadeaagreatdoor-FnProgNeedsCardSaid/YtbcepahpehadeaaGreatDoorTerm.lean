/- The walks of the functions that say whether a term is ok. -/
import Derived.WalkKit
import Derived.WalkSpells
import Derived.WalkLawsBesides
import Derived.Lib.Hide
import Derived.Lib.IndexBytes
import Derived.Deep.Slices
import Derived.Deep.Fields
import Derived.ChangeSame
import Derived.Deep.Draws
import Derived.Test.YtbcepahpehadeaaGreatDoorStr
import Derived.Test.YtbcepahpehadeaaGreatDoorKind
namespace Go.Proofs.YtbcepahpehadeaaGreatDoor
open Go.RowKit D
set_option linter.unusedVariables false

set_option maxHeartbeats 400000 in
theorem kindOf_any (t : T) (w : World) :
    Calls Tryz.prog 130 #[.agg #[.bool t.var, .string t.name]] w fun e w' =>
      e = .returned (.iface (if t.var then 177 else 175) (.string t.name)) ∧ Below w.heap.size w w' := by
  obtain ⟨b, nm⟩ := t
  cases b
  all_goals
    go_enter Tryz.func130, Tryz.ntmps130
    go_wp2
    go_ret
    exact ⟨rfl, (Below.refl _ _).alloc (Nat.le_refl _) _⟩

set_option maxHeartbeats 400000 in
theorem wordText_any (s : ByteArray) (w : World) :
    Calls Tryz.prog 131 #[.string s] w fun e w' => e = .returned (.string s) ∧ w = w' := by
  go_enter Tryz.func131, Tryz.ntmps131
  go_wp2
  go_ret
  exact ⟨rfl, rfl⟩
set_option maxHeartbeats 400000 in
theorem varText_any (s : ByteArray) (w : World) :
    Calls Tryz.prog 133 #[.string s] w fun e w' => e = .returned (.string s) ∧ w = w' := by
  go_enter Tryz.func133, Tryz.ntmps133
  go_wp2
  go_ret
  exact ⟨rfl, rfl⟩

theorem assertWW (s : ByteArray) (w : World) : (Instr.typeAssert (.iface 175 (.string s)) 173 175 true).run Tryz.prog w = .ok (.tuple #[.string s, .bool true]) w := by kernel_rfl
theorem assertVW (s : ByteArray) (w : World) : (Instr.typeAssert (.iface 177 (.string s)) 173 175 true).run Tryz.prog w = .ok (.tuple #[.string ⟨#[]⟩, .bool false]) w := by kernel_rfl
theorem assertVV (s : ByteArray) (w : World) : (Instr.typeAssert (.iface 177 (.string s)) 173 177 true).run Tryz.prog w = .ok (.tuple #[.string s, .bool true]) w := by kernel_rfl

set_option maxHeartbeats 400000 in
theorem termOk_any (t : T) (w : World) (hs : t.name.size ≤ maxLen) :
    Calls Tryz.prog 103 #[.agg #[.bool t.var, .string t.name]] w fun e w' => e = .returned (.bool (termOk t)) ∧ Below w.heap.size w w' := by
  unfold termOk
  have hk := kindOf_any t
  obtain ⟨b, nm⟩ := t
  have hw := wordText_any nm
  have hv := varText_any nm
  have hn := fun w => nameOk_impl nm w hs
  have ho := fun w => variableOk_any nm w hs
  cases b
  all_goals simp only [if_true, if_false, Bool.false_eq_true] at *
  all_goals
    go_enter Tryz.func103, Tryz.ntmps103
    have a1 := assertWW
    have a2 := assertVW
    have a3 := assertVV
    go_wp2_with (first
      | (go_at_call 130; refine (hk _).mono ?_; rintro e w1 ⟨rfl, hb1⟩)
      | (go_at_call 131; refine (hw _).mono ?_; rintro e w2 ⟨rfl, rfl⟩)
      | (go_at_call 133; refine (hv _).mono ?_; rintro e w2 ⟨rfl, rfl⟩)
      | (go_at_call 102; refine (hn _).mono ?_; rintro e w3 ⟨rfl, rfl⟩)
      | (go_at_call 132; refine (ho _).mono ?_; rintro e w3 ⟨rfl, rfl⟩))
    go_ret
    exact ⟨rfl, ((Below.refl _ _).alloc (Nat.le_refl _) _).trans (hb1.mono (by simp))⟩

set_option maxHeartbeats 400000 in
theorem l1Term_any (t : T) (w : World) (hs : t.name.size ≤ maxLen) :
    Calls Tryz.prog 99 #[.agg #[.bool t.var, .string t.name]] w fun e w' => e = .returned (.bool (termOk t)) ∧ Below w.heap.size w w' := by
  unfold termOk
  obtain ⟨b, s⟩ := t
  dsimp only at *
  have hn := fun w => nameOk_spec s w hs
  cases b
  · simp only [if_false, Bool.false_eq_true]
    go_enter Tryz.func99, Tryz.ntmps99
    go_wp2_with (go_at_call 100; refine (hn _).mono ?_; rintro e w3 ⟨rfl, rfl⟩)
    go_ret
    exact ⟨rfl, (Below.refl _ _).alloc (Nat.le_refl _) _⟩
  · simp only [if_true]
    have hl := fun w => letters_any (s.extract 1 s.size) w (by simp; omega)
    rw [tail_at] at hl
    unfold maxLen at hs
    by_cases h0 : 0 < s.size
    · have hc : capB s = big s[0] := by unfold capB; rw [headD_at s h0]; simp [h0]
      have h00 : ((s.size : Int) == 0) = false := beq_eq_false_iff_ne.2 (by omega)
      have h1 : (1 : Int) ≤ (s.size : Int) := by omega
      unfold varOk
      rw [hc]
      by_cases hb : big s[0] = true
      · have hB := (big_int _).1 hb
        rw [hb]
        clear hb hc
        by_cases hs1 : s.size = 1
        · have hl1 : lows s.data.toList.tail = true := by
            rw [← tail_at, hs1]; simp [lows]
          have HL := Lib.hid hl1
          have hs1' : ((s.size : Int) == 1) = true := beq_iff_eq.2 (by omega)
          clear hl1
          have HS := Lib.hid hs1
          clear hs1
          go_enter Tryz.func99, Tryz.ntmps99
          go_wp2
          go_ret
          exact ⟨ret_bool (by rw [HL.out, HS.out]; rfl), (Below.refl _ _).alloc (Nat.le_refl _) _⟩
        · have hs1' : ((s.size : Int) == 1) = false := beq_eq_false_iff_ne.2 (by omega)
          have hsz : (s.extract 1 s.size).size = s.size - 1 := by simp
          have hle : (s.size - 1 ≤ 8 ∧ s.size ≤ 8) ∨ (s.size - 1 = 8 ∧ ¬ s.size ≤ 8) ∨ ¬ s.size - 1 ≤ 8 := by omega
          rw [hsz] at hl
          have hp : decide (1 ≤ s.size - 1) = true := decide_eq_true (by omega)
          rw [hp] at hl
          clear hp hsz
          generalize lows s.data.toList.tail = b at *
          by_cases h8 : s.size ≤ 8
          · have h9 : decide (s.size - 1 ≤ 8) = true := decide_eq_true (by omega)
            rw [h9] at hl
            clear h9 hle
            have h8' := decide_eq_true h8
            cases b
            all_goals
              go_enter Tryz.func99, Tryz.ntmps99
              go_wp2_with (go_at_call 128; refine (hl _).mono ?_; rintro e w3 ⟨rfl, rfl⟩)
              go_ret
              exact ⟨ret_bool (by first | (simp [h8]; done) | (simp; omega)), (Below.refl _ _).alloc (Nat.le_refl _) _⟩
          · have h8' : decide (s.size ≤ 8) = false := decide_eq_false h8
            clear hle
            generalize decide (s.size - 1 ≤ 8) = b2 at *
            cases b
            all_goals cases b2
            all_goals
              go_enter Tryz.func99, Tryz.ntmps99
              go_wp2_with (go_at_call 128; refine (hl _).mono ?_; rintro e w3 ⟨rfl, rfl⟩)
              go_ret
              exact ⟨ret_bool (by first | (simp [h8]; done) | (simp; omega)), (Below.refl _ _).alloc (Nat.le_refl _) _⟩
      · have hB := mt (big_int _).2 hb
        have hb' : big s[0] = false := by simpa using hb
        rw [hb']
        clear hb hb' hc
        go_enter Tryz.func99, Tryz.ntmps99
        go_wp2
        all_goals first
          | (exfalso; omega)
          | (go_ret; exact ⟨ret_bool (by simp), (Below.refl _ _).alloc (Nat.le_refl _) _⟩)
    · have hc : varOk s = false := by unfold varOk capB; simp [h0]
      have h00 : ((s.size : Int) == 0) = true := beq_iff_eq.2 (by omega)
      rw [hc]
      go_enter Tryz.func99, Tryz.ntmps99
      go_wp2
      go_ret
      exact ⟨rfl, (Below.refl _ _).alloc (Nat.le_refl _) _⟩

end Go.Proofs.YtbcepahpehadeaaGreatDoor
