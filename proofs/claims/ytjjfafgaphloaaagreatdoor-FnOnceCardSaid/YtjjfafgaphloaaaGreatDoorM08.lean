/- Of the proof of FnOnce: Txt, Term, Cmp, Srch, GetB. -/
import Derived.Test.YtjjfafgaphloaaaGreatDoorM04
import Derived.Test.YtjjfafgaphloaaaGreatDoorM05
import Derived.Test.YtjjfafgaphloaaaGreatDoorM03
namespace Go.Proofs.YtjjfafgaphloaaaGreatDoor
open Go.RowKit D
set_option linter.unusedVariables false
set_option maxHeartbeats 1000000 in
theorem atomText_any (a : A) (c0 c1 : Value) (bs : List Nat) (w : World) (h : atomK w [c0, c1] a bs) (hn : bulkA a ≤ 16777216) :
    Calls Tryz.prog 26 #[.agg #[c0, c1]] w fun e w' => e = .returned (.string ⟨(putL a).toArray⟩) ∧ Below w.heap.size w w' := by
  obtain ⟨s, hcs, hnm, ht⟩ := h
  simp only [List.cons.injEq, and_true] at hcs
  obtain ⟨rfl, rfl⟩ := hcs
  obtain ⟨Ad, cap, rfl, hl, hm⟩ := sliceK_form ht
  have hlm := nat_ge_max (Nat.le_trans hl hm)
  clear hm
  have hbk : a.name.size + a.args.length + bulkTs a.args ≤ 16777216 := hn
  have hb1 : a.name.size ≤ 16777216 := by omega
  go_enter Tryz.func26, Tryz.ntmps26
  go_wp2_with fail
  refine (wStr (w.heap.size + 1) (w.heap.size + 1) [] a.name _ (by simpa using bld_new (w.alloc (.cells #[.string a.name, .slice Ad a.args.length cap] 33))) (by simp) (by omega) (by simp)).mono ?_
  rintro e w1 ⟨rfl, h1⟩
  have b1 := h1.below
  have sz1 := b1.size
  simp at sz1
  go_wp2_with fail
  refine (wByte (w.heap.size + 1) (w.heap.size + 1) _ 40 40 rfl _ h1.bld (by rw [List.nil_append, dlen]; omega) (by omega)).mono ?_
  rintro e w2 ⟨rfl, h2⟩
  have b2 := b1.trans h2.below
  have sz2 := h2.below.size
  have d1 : w2.cell? ⟨w.heap.size, 1, none⟩ = some (.slice Ad a.args.length cap) := (b2.cell (p := ⟨w.heap.size, 1, none⟩) (by simp)).trans (by go_simp)
  have B2 : Below w.heap.size w w2 := ((Below.refl w.heap.size w).alloc (Nat.le_refl _) _).trans ((((Below.refl w.heap.size _).alloc (by simp) _).trans (b2.mono (by omega))))
  have X2 := Lib.hid h2.bld
  clear h1 h2 b1 b2
  go_wp2_with fail
  go_loopw [13] (fun i wr => ∃ k : Nat, k ≤ a.args.length ∧ i = .int .i64 k ∧ Bld (w.heap.size + 1) (w.heap.size + 1) (a.name.data.toList ++ [40] ++ argsL (a.args.take k)) wr ∧ Below w.heap.size w wr ∧ w.heap.size + 2 ≤ wr.heap.size) (fun i _ => a.args.length - (intOf i).toNat)
  case atStart => exact ⟨0, Nat.zero_le _, rfl, by simpa [argsL] using X2.out, B2, by omega⟩
  case round =>
    obtain ⟨k, hk, rfl, hb, hB, hsz⟩ := hrel
    have hlen : (a.name.data.toList ++ [40] ++ argsL (a.args.take k)).length ≤ 67108864 := by
      have h2 := argsL_le (a.args.take k)
      have h3 := bulkTs_take a.args k
      have h4 : a.name.data.toList.length = a.name.size := Array.length_toList
      simp only [List.length_append, List.length_cons, List.length_nil, List.length_take] at h2 ⊢
      omega
    have HB := Lib.hid hb
    clear hb
    by_cases hlt : k < a.args.length
    · obtain ⟨b, o, rfl, _, c0, c1, hnm⟩ := terms_at (termsK_good.below ht hB) hlt
      have h2 : a.args[k].name.size ≤ 16777216 := by
        have := bulkTs_snoc a.args k hlt
        have := bulkTs_take a.args (k + 1)
        omega
      have HT := Lib.hid (argsL_snoc a.args k hlt)
      clear ht
      generalize a.args[k] = t at *
      by_cases hk0 : k = 0
      · have HK := Lib.hid hk0
        have hk1 : ¬ (0 : Int) < (k : Int) := by omega
        clear hk0
        go_wp2_with fail
        have hA : Below wr.heap.size wr (wr.alloc (.cells #[.bool t.var, .string t.name] 127)) := (Below.refl _ _).alloc (Nat.le_refl _) _
        refine (wStr (w.heap.size + 1) (w.heap.size + 1) _ t.name _ (HB.out.below hA) (by omega) (by omega) (by have := hA.size; omega)).mono ?_
        rintro e w3 ⟨rfl, h3⟩
        have B3 : Below w.heap.size w w3 := (hB.trans (hA.mono hB.size)).trans (h3.below.mono (by omega))
        have S3 : w.heap.size + 2 ≤ w3.heap.size := by have := h3.below.size; have := hA.size; omega
        have H3 := Lib.hid h3.bld
        clear h3 hA
        go_wp2
        go_roundw
        case rel => exact ⟨k + 1, by omega, by go_num, by have := H3.out; rw [HT.out, HK.out] at *; simpa [argsL] using this, B3, S3⟩
        case measure => simp [intOf]; omega
      · have hk1 : (0 : Int) < (k : Int) := by omega
        go_wp2_with fail
        have hA : Below wr.heap.size wr (wr.alloc (.cells #[.bool t.var, .string t.name] 127)) := (Below.refl _ _).alloc (Nat.le_refl _) _
        refine (wByte (w.heap.size + 1) (w.heap.size + 1) _ 44 44 rfl _ (HB.out.below hA) (by omega) (by have := hA.size; omega)).mono ?_
        rintro e w2' ⟨rfl, h2'⟩
        have hbx := h2'.block (heap_alloc_new wr (.cells #[.bool t.var, .string t.name] 127)) (by omega) (by decide)
        have x1 : w2'.cell? ⟨wr.heap.size, 1, none⟩ = some (.string t.name) := by rw [cell_of_row w2' _ 1 _ _ _ hbx]; rfl
        have B2' : Below w.heap.size w w2' := (hB.trans (hA.mono hB.size)).trans (h2'.below.mono (by omega))
        have S2' : w.heap.size + 2 ≤ w2'.heap.size := by have := h2'.below.size; have := hA.size; omega
        have H2' := Lib.hid h2'.bld
        clear h2' hA hbx
        go_wp2_with fail
        refine (wStr (w.heap.size + 1) (w.heap.size + 1) _ t.name _ H2'.out (by rw [List.length_append, List.length_singleton]; omega) (by omega) (by omega)).mono ?_
        rintro e w3 ⟨rfl, h3⟩
        have B3 : Below w.heap.size w w3 := B2'.trans (h3.below.mono (by omega))
        have S3 : w.heap.size + 2 ≤ w3.heap.size := by have := h3.below.size; omega
        have H3 := Lib.hid h3.bld
        clear h3 x1
        go_wp2
        go_roundw
        case rel => exact ⟨k + 1, by omega, by go_num, by have := H3.out; rw [HT.out, if_neg (by omega)]; simpa using this, B3, S3⟩
        case measure => simp [intOf]; omega
    · have he := Lib.hid (show k = a.args.length by omega)
      go_wp2_with fail
      refine (wByte (w.heap.size + 1) (w.heap.size + 1) _ 41 41 rfl _ HB.out (by omega) (by omega)).mono ?_
      rintro e w3 ⟨rfl, h3⟩
      go_wp2_with fail
      refine (wEnd (w.heap.size + 1) (w.heap.size + 1) _ _ h3.bld (by have := h3.below.size; omega)).mono ?_
      rintro e w4 ⟨rfl, h4⟩
      go_wp2
      go_ret
      exact ⟨ret_str (by rw [he.out, List.take_of_length_le (Nat.le_refl _)]; simp [putL]), (hB.trans (h3.below.mono (by omega))).trans (h4.below.mono (by omega))⟩

set_option maxHeartbeats 400000 in
theorem kindOf_any (t : T) (w : World) :
    Calls Tryz.prog 100 #[.agg #[.bool t.var, .string t.name]] w fun e w' =>
      e = .returned (.iface (if t.var then 169 else 173) (.string t.name)) ∧ Below w.heap.size w w' := by
  obtain ⟨b, nm⟩ := t
  cases b
  all_goals
    go_enter Tryz.func100, Tryz.ntmps100
    go_wp2
    go_ret
    exact ⟨rfl, (Below.refl _ _).alloc (Nat.le_refl _) _⟩

set_option maxHeartbeats 400000 in
theorem wordText_any (s : ByteArray) (w : World) :
    Calls Tryz.prog 103 #[.string s] w fun e w' => e = .returned (.string s) ∧ w = w' := by
  go_enter Tryz.func103, Tryz.ntmps103
  go_wp2
  go_ret
  exact ⟨rfl, rfl⟩

set_option maxHeartbeats 400000 in
theorem varText_any (s : ByteArray) (w : World) :
    Calls Tryz.prog 102 #[.string s] w fun e w' => e = .returned (.string s) ∧ w = w' := by
  go_enter Tryz.func102, Tryz.ntmps102
  go_wp2
  go_ret
  exact ⟨rfl, rfl⟩

theorem assertWW (s : ByteArray) (w : World) : (Instr.typeAssert (.iface 173 (.string s)) 167 173 true).run Tryz.prog w = .ok (.tuple #[.string s, .bool true]) w := by kernel_rfl

theorem assertVW (s : ByteArray) (w : World) : (Instr.typeAssert (.iface 169 (.string s)) 167 173 true).run Tryz.prog w = .ok (.tuple #[.string ⟨#[]⟩, .bool false]) w := by kernel_rfl

theorem assertVV (s : ByteArray) (w : World) : (Instr.typeAssert (.iface 169 (.string s)) 167 169 true).run Tryz.prog w = .ok (.tuple #[.string s, .bool true]) w := by kernel_rfl

set_option maxHeartbeats 400000 in
theorem termOk_any (t : T) (w : World) (hs : t.name.size ≤ maxLen) :
    Calls Tryz.prog 161 #[.agg #[.bool t.var, .string t.name]] w fun e w' => e = .returned (.bool (termOk t)) ∧ Below w.heap.size w w' := by
  unfold termOk
  have hk := kindOf_any t
  obtain ⟨b, nm⟩ := t
  have hw := wordText_any nm
  have hv := varText_any nm
  have hn := fun w => nameOk_impl nm w hs
  have ho := fun w => variableOk_any nm w hs
  cases b
  all_goals simp only [if_true, if_false, Bool.false_eq_true] at *
  all_goals
    go_enter Tryz.func161, Tryz.ntmps161
    have a1 := assertWW
    have a2 := assertVW
    have a3 := assertVV
    go_wp2_with (first
      | (go_at_call 100; refine (hk _).mono ?_; rintro e w1 ⟨rfl, hb1⟩)
      | (go_at_call 103; refine (hw _).mono ?_; rintro e w2 ⟨rfl, rfl⟩)
      | (go_at_call 102; refine (hv _).mono ?_; rintro e w2 ⟨rfl, rfl⟩)
      | (go_at_call 160; refine (hn _).mono ?_; rintro e w3 ⟨rfl, rfl⟩)
      | (go_at_call 185; refine (ho _).mono ?_; rintro e w3 ⟨rfl, rfl⟩))
    go_ret
    exact ⟨rfl, ((Below.refl _ _).alloc (Nat.le_refl _) _).trans (hb1.mono (by simp))⟩

set_option maxHeartbeats 400000 in
theorem l1Term_any (t : T) (w : World) (hs : t.name.size ≤ maxLen) :
    Calls Tryz.prog 171 #[.agg #[.bool t.var, .string t.name]] w fun e w' => e = .returned (.bool (termOk t)) ∧ Below w.heap.size w w' := by
  unfold termOk
  obtain ⟨b, s⟩ := t
  dsimp only at *
  have hn := fun w => nameOk_spec s w hs
  cases b
  · simp only [if_false, Bool.false_eq_true]
    go_enter Tryz.func171, Tryz.ntmps171
    go_wp2_with (go_at_call 172; refine (hn _).mono ?_; rintro e w3 ⟨rfl, rfl⟩)
    go_ret
    exact ⟨rfl, (Below.refl _ _).alloc (Nat.le_refl _) _⟩
  · simp only [if_true]
    have hl := fun w => letters_any (s.extract 1 s.size) w (by simp; omega)
    rw [tail_at] at hl
    unfold maxLen at hs
    by_cases h0 : 0 < s.size
    · have hc : capB s = big s[0] := by unfold capB; rw [headD_at s h0]; simp [h0]
      have h00 : ((s.size : Int) == 0) = false := beq_eq_false_iff_ne.2 (by omega)
      have h1 : (1 : Int) ≤ (s.size : Int) := by omega
      unfold varOk
      rw [hc]
      by_cases hb : big s[0] = true
      · have hB := (big_int _).1 hb
        rw [hb]
        clear hb hc
        by_cases hs1 : s.size = 1
        · have hl1 : lows s.data.toList.tail = true := by
            rw [← tail_at, hs1]; simp [lows]
          have HL := Lib.hid hl1
          have hs1' : ((s.size : Int) == 1) = true := beq_iff_eq.2 (by omega)
          clear hl1
          have HS := Lib.hid hs1
          clear hs1
          go_enter Tryz.func171, Tryz.ntmps171
          go_wp2
          go_ret
          exact ⟨ret_bool (by rw [HL.out, HS.out]; rfl), (Below.refl _ _).alloc (Nat.le_refl _) _⟩
        · have hs1' : ((s.size : Int) == 1) = false := beq_eq_false_iff_ne.2 (by omega)
          have hsz : (s.extract 1 s.size).size = s.size - 1 := by simp
          have hle : (s.size - 1 ≤ 8 ∧ s.size ≤ 8) ∨ (s.size - 1 = 8 ∧ ¬ s.size ≤ 8) ∨ ¬ s.size - 1 ≤ 8 := by omega
          rw [hsz] at hl
          have hp : decide (1 ≤ s.size - 1) = true := decide_eq_true (by omega)
          rw [hp] at hl
          clear hp hsz
          generalize lows s.data.toList.tail = b at *
          by_cases h8 : s.size ≤ 8
          · have h9 : decide (s.size - 1 ≤ 8) = true := decide_eq_true (by omega)
            rw [h9] at hl
            clear h9 hle
            have h8' := decide_eq_true h8
            cases b
            all_goals
              go_enter Tryz.func171, Tryz.ntmps171
              go_wp2_with (go_at_call 190; refine (hl _).mono ?_; rintro e w3 ⟨rfl, rfl⟩)
              go_ret
              exact ⟨ret_bool (by first | (simp [h8]; done) | (simp; omega)), (Below.refl _ _).alloc (Nat.le_refl _) _⟩
          · have h8' : decide (s.size ≤ 8) = false := decide_eq_false h8
            clear hle
            generalize decide (s.size - 1 ≤ 8) = b2 at *
            cases b
            all_goals cases b2
            all_goals
              go_enter Tryz.func171, Tryz.ntmps171
              go_wp2_with (go_at_call 190; refine (hl _).mono ?_; rintro e w3 ⟨rfl, rfl⟩)
              go_ret
              exact ⟨ret_bool (by first | (simp [h8]; done) | (simp; omega)), (Below.refl _ _).alloc (Nat.le_refl _) _⟩
      · have hB := mt (big_int _).2 hb
        have hb' : big s[0] = false := by simpa using hb
        rw [hb']
        clear hb hb' hc
        go_enter Tryz.func171, Tryz.ntmps171
        go_wp2
        all_goals first
          | (exfalso; omega)
          | (go_ret; exact ⟨ret_bool (by simp), (Below.refl _ _).alloc (Nat.le_refl _) _⟩)
    · have hc : varOk s = false := by unfold varOk capB; simp [h0]
      have h00 : ((s.size : Int) == 0) = true := beq_iff_eq.2 (by omega)
      rw [hc]
      go_enter Tryz.func171, Tryz.ntmps171
      go_wp2
      go_ret
      exact ⟨rfl, (Below.refl _ _).alloc (Nat.le_refl _) _⟩

end Go.Proofs.YtjjfafgaphloaaaGreatDoor
namespace Go.Proofs.YtjjfafgaphloaaaGreatDoor
open Go.RowKit D
set_option linter.unusedVariables false
attribute [local go_sem ↓] Go.wp_at_zero Go.wp_at_succ
theorem compare_any (a b : ByteArray) (w : World) :
    Calls Tryz.prog 68 #[.string a, .string b] w fun e w' => e = .returned (.int .i64 (cmpS a b)) ∧ w' = w := by
  rw [← compare_cmpS]
  exact Tryz.strings_Compare a b w

set_option maxHeartbeats 400000 in
theorem order1_any (t u : T) (w : World) :
    Calls Tryz.prog 70 #[.agg #[.bool t.var, .string t.name], .agg #[.bool u.var, .string u.name]] w fun e w' => e = .returned (.int .i64 (cmpS t.name u.name)) ∧ Below w.heap.size w w' := by
  go_enter Tryz.func70, Tryz.ntmps70
  go_wp2_with (go_at_call 68; refine (compare_any _ _ _).mono ?_; rintro e w' ⟨rfl, rfl⟩)
  go_ret
  exact ⟨rfl, ((Below.refl _ _).alloc (Nat.le_refl _) _).alloc (by simp) _⟩

set_option maxHeartbeats 400000 in
theorem compareFunc_any (ts us : List T) (v1 v2 : Value) (b1 b2 : List Nat) (w : World) (h1 : termsK w [v1] ts b1) (h2 : termsK w [v2] us b2) :
    Calls Tryz.prog 69 #[v1, v2, .func (.func 70) #[] #[]] w
      fun e w' => e = .returned (.int .i64 (cmpTs ts us)) ∧ Below w.heap.size w w' := by
  obtain ⟨Ad, cap, rfl, hl, hm⟩ := sliceK_form h1
  obtain ⟨Ad2, cap2, rfl, hl2, hm2⟩ := sliceK_form h2
  have hlm := nat_ge_max (Nat.le_trans hl hm)
  have hlm2 := nat_ge_max (Nat.le_trans hl2 hm2)
  clear hm hm2
  go_enter Tryz.func69, Tryz.ntmps69
  go_wp2
  go_loopw [13] (fun i wr => ∃ k : Nat, k ≤ ts.length ∧ k ≤ us.length ∧ i = .int .i64 k ∧ cmpTs ts us = cmpTs (ts.drop k) (us.drop k) ∧ Below w.heap.size w wr) (fun i _ => ts.length - (intOf i).toNat)
  case atStart => exact ⟨0, Nat.zero_le _, Nat.zero_le _, rfl, rfl, Below.refl _ _⟩
  case round =>
    obtain ⟨k, hk, hk2, rfl, hc, hb⟩ := hrel
    have HC := Lib.hid hc
    clear hc
    by_cases hlt : k < ts.length
    · obtain ⟨b, o, rfl, _, c0, c1, _⟩ := terms_at (termsK_good.below h1 hb) hlt
      have hA : Below wr.heap.size wr (wr.alloc (.cells #[.bool ts[k].var, .string ts[k].name] 127)) := (Below.refl _ _).alloc (Nat.le_refl _) _
      by_cases hlt2 : k < us.length
      · obtain ⟨b', o', rfl, _, d0, d1, _⟩ := terms_at (termsK_good.below h2 (hb.trans (hA.mono hb.size))) hlt2
        have HS := Lib.hid (cmpTs_step hlt hlt2)
        clear h1 h2
        go_wp2_with fail
        refine (order1_any ts[k] us[k] _).mono ?_
        rintro e w' ⟨rfl, hb'⟩
        have B' : Below w.heap.size w w' := (((hb.alloc hb.size _).alloc (by have := hb.size; simp; omega) _)).trans (hb'.mono (by have := hb.size; simp; omega))
        by_cases hz : cmpS ts[k].name us[k].name = 0
        · have hz' : (cmpS ts[k].name us[k].name == 0) = true := by simp [hz]
          have HZ := Lib.hid hz
          clear hz hA
          go_wp2
          go_roundw
          case rel => exact ⟨k + 1, by omega, by omega, by go_num, by rw [HC.out, HS.out, if_pos HZ.out], B'⟩
          case measure => simp [intOf]; omega
        · have hz' : (cmpS ts[k].name us[k].name == 0) = false := by simp [hz]
          have HZ := Lib.hid hz
          clear hz hA
          go_wp2
          go_ret
          exact ⟨ret_int (by rw [HC.out, HS.out, if_neg HZ.out]), B'⟩
      · clear h1 h2
        have HS := Lib.hid (cmpTs_end1 hlt (Nat.le_of_not_lt hlt2))
        go_wp2
        go_ret
        exact ⟨ret_int (by rw [HC.out, HS.out]), hb.trans (hA.mono hb.size)⟩
    · have he : ts.length ≤ k := by omega
      by_cases hlt2 : k < us.length
      · have HS := Lib.hid (cmpTs_end2 he hlt2)
        have hx : ts.length < us.length := by omega
        go_wp2
        go_ret
        exact ⟨ret_int (by rw [HC.out, HS.out]), hb⟩
      · have HS := Lib.hid (cmpTs_end3 he (Nat.le_of_not_lt hlt2))
        have hx : ¬ ts.length < us.length := by omega
        go_wp2
        go_ret
        exact ⟨ret_int (by rw [HC.out, HS.out]), hb⟩

set_option maxHeartbeats 400000 in
theorem atomOrder_any (a b : A) (c0 c1 d0 d1 : Value) (b1 b2 : List Nat) (w : World) (h1 : atomK w [c0, c1] a b1) (h2 : atomK w [d0, d1] b b2) :
    Calls Tryz.prog 29 #[.agg #[c0, c1], .agg #[d0, d1]] w fun e w' => e = .returned (.int .i64 (cmpA a b)) ∧ Below w.heap.size w w' := by
  obtain ⟨Ad, cap, rfl, rfl⟩ := atom_cells2 h1
  obtain ⟨Ae, cape, rfl, rfl⟩ := atom_cells2 h2
  have hq := fun w' (hb : Below w.heap.size w w') => compareFunc_any a.args b.args (.slice Ad a.args.length cap) (.slice Ae b.args.length cape) b1 b2 w' (atom_args (atomK_good.below h1 hb)) (atom_args (atomK_good.below h2 hb))
  have hc : cmpA a b = if cmpS a.name b.name = 0 then cmpTs a.args b.args else cmpS a.name b.name := rfl
  have HC := Lib.hid hc
  clear h1 h2 hc
  have hA := ((Below.refl w.heap.size w).alloc (Nat.le_refl _) (.cells #[.string a.name, .slice Ad a.args.length cap] 33)).alloc (by simp) (.cells #[.string b.name, .slice Ae b.args.length cape] 33)
  by_cases hz : cmpS a.name b.name = 0
  · have hz' : (cmpS a.name b.name != 0) = false := by simp [hz]
    have HZ := Lib.hid hz
    clear hz
    go_enter Tryz.func29, Tryz.ntmps29
    go_wp2_with (go_at_call 68; refine (compare_any _ _ _).mono ?_; rintro e w' ⟨rfl, rfl⟩)
    refine (hq _ hA).mono ?_
    rintro e w' ⟨rfl, hb'⟩
    go_wp2
    go_ret
    exact ⟨ret_int (by rw [HC.out, if_pos HZ.out]), hA.trans (hb'.mono hA.size)⟩
  · have hz' : (cmpS a.name b.name != 0) = true := by simp [hz]
    have HZ := Lib.hid hz
    clear hz
    go_enter Tryz.func29, Tryz.ntmps29
    go_wp2_with (go_at_call 68; refine (compare_any _ _ _).mono ?_; rintro e w' ⟨rfl, rfl⟩)
    go_ret
    exact ⟨ret_int (by rw [HC.out, if_neg HZ.out]), hA⟩

theorem isNaNs_any (s : ByteArray) (w : World) : Calls Tryz.prog 140 #[.string s] w fun e w' => e = .returned (.bool false) ∧ Below w.heap.size w w' := by
  have HB := Lib.hid (Below.refl w.heap.size w)
  go_enter Tryz.func140, Tryz.ntmps140
  go_wp2
  go_ret
  exact ⟨by simp, HB.out⟩

theorem isNaNc_any (s : ByteArray) (w : World) : Calls Tryz.prog 176 #[.string s] w fun e w' => e = .returned (.bool false) ∧ Below w.heap.size w w' := by
  have HB := Lib.hid (Below.refl w.heap.size w)
  go_enter Tryz.func176, Tryz.ntmps176
  go_wp2
  go_ret
  exact ⟨by simp, HB.out⟩

theorem cmpLess_any (s t : ByteArray) (w : World) : Calls Tryz.prog 139 #[.string s, .string t] w fun e w' => e = .returned (.bool (decide (cmpS s t < 0))) ∧ Below w.heap.size w w' := by
  have HN := fun s w => isNaNc_any s w
  have HE := Lib.hid (less_cmpS s t)
  go_enter Tryz.func139, Tryz.ntmps139
  go_wp2_with fail
  refine (HN _ _).mono ?_
  rintro e w1 ⟨rfl, hB⟩
  have HB := Lib.hid hB
  clear HN hB
  go_wp2
  go_ret
  exact ⟨by simp [HE.out], HB.out⟩

theorem D.ascS_idx {xs : List ByteArray} (h : ascS xs) {x : ByteArray} (hx : x ∈ xs) (m : Nat) (hm : m < xs.length) : cmpS xs[m] x < 0 ↔ m < xs.idxOf x := by
  have hi : xs.idxOf x < xs.length := List.idxOf_lt_length_of_mem hx
  have he : xs[xs.idxOf x] = x := List.getElem_idxOf hi
  have hp := List.pairwise_iff_getElem.1 h
  constructor
  · intro hc
    rcases Nat.lt_trichotomy m (xs.idxOf x) with h1 | h1 | h1
    · exact h1
    · exfalso
      have : xs[m] = x := by simp only [h1, he]
      rw [this, cmpS_is.refl] at hc; omega
    · have h2 := hp _ _ hi hm h1
      rw [he] at h2
      have h3 := cmpS_is.anti xs[m] x
      omega
  · intro hlt
    have h2 := hp _ _ hm hi hlt
    rwa [he] at h2

set_option maxHeartbeats 2000000 in
theorem searchS_any (xs : List ByteArray) (x : ByteArray) (v : Value) (bs : List Nat) (w : World) (h : strsK w [v] xs bs) (hs : ascS xs) (hx : x ∈ xs) (hlb : xs.length ≤ 1000000) :
    Calls Tryz.prog 101 #[v, .string x] w fun e w' => e = .returned (.tuple #[.int .i64 (xs.idxOf x : Nat), .bool true]) ∧ Below w.heap.size w w' := by
  obtain ⟨Ad, cap, rfl, hl, hm⟩ := sliceK_form h
  have hlm := nat_ge_max (Nat.le_trans hl hm)
  have HN := fun s w => isNaNs_any s w
  have HL := fun s t w => cmpLess_any s t w
  have hil : xs.idxOf x < xs.length := List.idxOf_lt_length_of_mem hx
  have HX := Lib.hid (fun m hm => ascS_idx hs hx m hm)
  have HE : Hid (∀ h : xs.idxOf x < xs.length, xs[xs.idxOf x] = x) := Lib.hid (fun h => List.getElem_idxOf h)
  clear hl hm hs hx
  obtain ⟨i, hi⟩ : ∃ i, i = xs.idxOf x := ⟨_, rfl⟩
  rw [← hi] at hil HX HE ⊢
  clear hi
  have HB := Lib.hid (Below.refl w.heap.size w)
  go_enter Tryz.func101, Tryz.ntmps101
  go_wp2
  go_loopw [7, 8] (fun p q wr => ∃ k n : Nat, k ≤ i ∧ i ≤ n ∧ n ≤ xs.length ∧ p = .int .i64 k ∧ q = .int .i64 n ∧ Below w.heap.size w wr) (fun p q _ => (intOf q).toNat - (intOf p).toNat)
  case atStart => exact ⟨0, xs.length, Nat.zero_le _, by omega, Nat.le_refl _, rfl, rfl, HB.out⟩
  case round =>
    obtain ⟨k, n, hk, hkn, hn, rfl, rfl, hb⟩ := hrel
    clear HB
    by_cases hlt : k < n
    · obtain ⟨m, hm⟩ : ∃ m, m = (k + n) / 2 := ⟨_, rfl⟩
      have hm1 : k ≤ m := by omega
      have hm2 : m < n := by omega
      have hm3 : m < xs.length := by omega
      have hq : ((k : Int) + (n : Int)) / 2 = (m : Int) := by omega
      have hk0 : (0 : Int) ≤ (m : Int) := by omega
      have hk1 : (m : Int) < (xs.length : Int) := by omega
      clear hm
      have HMI := Lib.hid (HX.out m hm3)
      obtain ⟨b, o, rfl, _, c0, _⟩ := strs_at (strsK_good.below h hb) hm3
      clear h HX HE
      generalize xs[m] = y at *
      have HL1 := HL y x
      have HBb := Lib.hid hb
      clear HL hb HN
      by_cases hc : cmpS y x < 0
      · have hd : decide (cmpS y x < 0) = true := decide_eq_true hc
        have hmi := Lib.hid (HMI.out.1 hc)
        clear HMI hc
        go_wp2_with fail
        refine (HL1 _).mono ?_
        rintro e w2 ⟨rfl, hw2⟩
        have HB2 := Lib.hid (HBb.out.trans (hw2.mono HBb.out.size))
        clear HL1 hw2
        go_wp2
        go_roundw
        case rel => exact ⟨m + 1, n, hmi.out, hkn, hn, by go_num, rfl, HB2.out⟩
        case measure => simp [intOf]; omega
      · have hd : decide (cmpS y x < 0) = false := decide_eq_false hc
        have hmi : Hid (i ≤ m) := Lib.hid (by have := mt HMI.out.2 hc; omega)
        clear HMI hc
        go_wp2_with fail
        refine (HL1 _).mono ?_
        rintro e w2 ⟨rfl, hw2⟩
        have HB2 := Lib.hid (HBb.out.trans (hw2.mono HBb.out.size))
        clear HL1 hw2
        go_wp2
        go_roundw
        case rel => exact ⟨k, m, hk, hmi.out, by omega, rfl, rfl, HB2.out⟩
        case measure => simp [intOf]; omega
    · obtain rfl : k = i := by omega
      have hk0 : (0 : Int) ≤ (k : Int) := by omega
      have hk1 : (k : Int) < (xs.length : Int) := by omega
      have hkn1 : ¬ (k : Int) < (n : Int) := by omega
      obtain ⟨b, o, rfl, _, c0, _⟩ := strs_at (strsK_good.below h hb) hil
      rw [HE.out hil] at c0
      have HBb := Lib.hid hb
      clear h HX HE HL HN hb
      go_wp2
      go_ret2
      exact ⟨rfl, HBb.out⟩

theorem D.getB_drop {b : Bd} {n : ByteArray} {k : Nat} (h : k < b.length) : getB (b.drop k) n = if b[k].1 = n then some b[k].2 else getB (b.drop (k + 1)) n := by
  rw [List.drop_eq_getElem_cons h, getB]

theorem D.toList_eq {a b : ByteArray} : (a.toList == b.toList) = decide (a = b) := by
  rw [ByteArray.toList_eq, ByteArray.toList_eq, Bool.eq_iff_iff]
  simp only [beq_iff_eq, decide_eq_true_eq]
  exact ⟨fun h => ByteArray.ext (Array.toList_inj.1 h), fun h => by rw [h]⟩

set_option maxHeartbeats 1000000 in
theorem get_any (b : Bd) (s : ByteArray) (c0 c1 : Value) (bs : List Nat) (w : World) (h : bindK w [c0, c1] b bs) :
    Calls Tryz.prog 114 #[.agg #[c0, c1], .string s] w fun e w' => e = .returned (.tuple #[.string (valB b s), .bool (getB b s).isSome]) ∧ Below w.heap.size w w' := by
  obtain ⟨x0, x1, b1, b2, hcs, rfl, h1, h2⟩ := h
  simp only [List.cons.injEq, and_true] at hcs
  obtain ⟨rfl, rfl⟩ := hcs
  obtain ⟨A1, p1, rfl, hp1, hm1⟩ := sliceK_form h1
  obtain ⟨A2, p2, rfl, hp2, hm2⟩ := sliceK_form h2
  have hlen1 : (b.map (·.1)).length = b.length := List.length_map ..
  have hlen2 : (b.map (·.2)).length = b.length := List.length_map ..
  rw [hlen1] at hp1 h1 ⊢
  rw [hlen2] at hp2 h2 ⊢
  have hmx := nat_ge_max (Nat.le_trans hp1 hm1)
  clear hm1 hm2
  go_enter Tryz.func114, Tryz.ntmps114
  go_wp2
  go_loopw [6] (fun i wr => ∃ k : Nat, k ≤ b.length ∧ i = .int .i64 k ∧ getB b s = getB (b.drop k) s ∧ Below w.heap.size w wr ∧ wr.cell? ⟨w.heap.size, 0, none⟩ = some (.slice A1 b.length p1) ∧ wr.cell? ⟨w.heap.size, 1, none⟩ = some (.slice A2 b.length p2)) (fun i _ => b.length - (intOf i).toNat)
  case atStart => exact ⟨0, Nat.zero_le _, rfl, rfl, (Below.refl _ _).alloc (Nat.le_refl _) _, by go_simp, by go_simp⟩
  case round =>
    obtain ⟨k, hk, rfl, hg, hb, y0, y1⟩ := hrel
    by_cases hlt : k < b.length
    · obtain ⟨d1, o1, rfl, _, e1, _⟩ := strs_at (strsK_good.below h1 hb) (k := k) (by simpa using hlt)
      obtain ⟨d2, o2, rfl, _, e2, _⟩ := strs_at (strsK_good.below h2 hb) (k := k) (by simpa using hlt)
      rw [List.getElem_map] at e1 e2
      have HG := Lib.hid (hg.trans (getB_drop hlt))
      have hlt' : (k : Int) < (b.length : Int) := by omega
      have hk0 : (0 : Int) ≤ (k : Int) := by omega
      clear h1 h2 hg
      generalize b[k].1 = x at *
      generalize b[k].2 = y at *
      cases hs : (x.toList == s.toList)
      · have HZ := Lib.hid (show getB b s = getB (b.drop (k + 1)) s by
          rw [HG.out, if_neg]
          rw [toList_eq] at hs
          exact of_decide_eq_false hs)
        clear HG
        go_wp2
        go_roundw
        case rel => exact ⟨k + 1, hlt, by go_num, HZ.out, hb, y0, y1⟩
        case measure => simp [intOf]; omega
      · have HZ := Lib.hid (show getB b s = some y by
          rw [HG.out, if_pos]
          rw [toList_eq] at hs
          exact of_decide_eq_true hs)
        have HV : Hid (valB b s = y) := Lib.hid (by unfold valB; rw [HZ.out]; rfl)
        clear HG
        go_wp2
        go_ret2
        exact ⟨by rw [HV.out, HZ.out]; rfl, hb⟩
    · have he : k = b.length := by omega
      have hlt' : ¬ (k : Int) < (b.length : Int) := by omega
      have HZ := Lib.hid (show getB b s = none by rw [hg, he, List.drop_eq_nil_of_le (Nat.le_refl _)]; rfl)
      have HV : Hid (valB b s = ⟨#[]⟩) := Lib.hid (by unfold valB; rw [HZ.out]; rfl)
      clear hg h1 h2
      go_wp2
      go_ret2
      exact ⟨by rw [HV.out, HZ.out]; rfl, hb⟩

end Go.Proofs.YtjjfafgaphloaaaGreatDoor
