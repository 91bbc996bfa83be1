/- The walks of the functions that compare texts, terms and atoms. -/
import Derived.Deep.RegionHeld3
import Derived.Deep.RegionWith
import Derived.BigQuiet
import Derived.Deep.DrawnRows
import Derived.WalkKit
import Derived.WalkSpells
import Derived.WalkLawsBesides
import Derived.Lib.Hide
import Derived.Lib.IndexBytes
import Derived.Deep.Slices
import Derived.Deep.Fields
import Derived.ChangeSame
import Derived.Deep.Draws
import Derived.Lib.Bytealg
import Derived.Test.YtbcepahpehadeaaGreatDoorProg
import Derived.Test.YtbcepahpehadeaaGreatDoorKind
import Derived.Test.YtbcepahpehadeaaGreatDoorShelf
namespace Go.Proofs.YtbcepahpehadeaaGreatDoor
open Go.RowKit D
set_option linter.unusedVariables false
attribute [local go_sem ↓] Go.wp_at_zero Go.wp_at_succ

theorem below_drewN {B : Nat} {a w : World} (h : Below B a w) (n : Nat) : Below B a (w.drewN n) := ⟨h.os, h.tape, h.output, h.size, h.block⟩
namespace D
theorem cmpTs_step {ts us : List T} {k : Nat} (h1 : k < ts.length) (h2 : k < us.length) : cmpTs (ts.drop k) (us.drop k) = if cmpS ts[k].name us[k].name = 0 then cmpTs (ts.drop (k + 1)) (us.drop (k + 1)) else cmpS ts[k].name us[k].name := by
  rw [List.drop_eq_getElem_cons h1, List.drop_eq_getElem_cons h2]; rfl
theorem cmpTs_end1 {ts us : List T} {k : Nat} (h1 : k < ts.length) (h2 : us.length ≤ k) : cmpTs (ts.drop k) (us.drop k) = 1 := by
  rw [List.drop_eq_getElem_cons h1, List.drop_of_length_le h2]; rfl
theorem cmpTs_end2 {ts us : List T} {k : Nat} (h1 : ts.length ≤ k) (h2 : k < us.length) : cmpTs (ts.drop k) (us.drop k) = -1 := by
  rw [List.drop_eq_getElem_cons h2, List.drop_of_length_le h1]; rfl
theorem cmpTs_end3 {ts us : List T} {k : Nat} (h1 : ts.length ≤ k) (h2 : us.length ≤ k) : cmpTs (ts.drop k) (us.drop k) = 0 := by
  rw [List.drop_of_length_le h2, List.drop_of_length_le h1]; rfl
theorem cmpS_cases (a b : ByteArray) : (cmpS a b = -1 ∧ Op.bytesLess a.toList b.toList = true) ∨ (cmpS a b = 0 ∧ Op.bytesLess a.toList b.toList = false ∧ (a.toList == b.toList) = true) ∨ (cmpS a b = 1 ∧ Op.bytesLess a.toList b.toList = false ∧ (a.toList == b.toList) = false) := by
  rw [less_cmpS, eq_cmpS]
  rcases cmpS_is.vals a b with h | h | h <;> simp [h]
end D

set_option maxHeartbeats 400000 in
theorem l1Texts_any (a b : ByteArray) (w : World) :
    Calls Tryz.prog 101 #[.string a, .string b] w fun e w' => e = .returned (.int .i64 (cmpS a b)) ∧ w' = w := by
  rcases cmpS_cases a b with ⟨h, h1⟩ | ⟨h, h1, h2⟩ | ⟨h, h1, h2⟩
  all_goals
    have H := Lib.hid h
    clear h
    go_enter Tryz.func101, Tryz.ntmps101
    go_wp2
    go_ret
    exact ⟨ret_int H.out.symm, rfl⟩

theorem compare_any (a b : ByteArray) (w : World) :
    Calls Tryz.prog 112 #[.string a, .string b] w fun e w' => e = .returned (.int .i64 (cmpS a b)) ∧ w' = w := by
  rw [← compare_cmpS]
  exact Tryz.strings_Compare a b w

set_option maxHeartbeats 400000 in
theorem order1_any (t u : T) (w : World) :
    Calls Tryz.prog 114 #[.agg #[.bool t.var, .string t.name], .agg #[.bool u.var, .string u.name]] w fun e w' => e = .returned (.int .i64 (cmpS t.name u.name)) ∧ Below w.heap.size w w' := by
  go_enter Tryz.func114, Tryz.ntmps114
  go_wp2_with (go_at_call 112; refine (compare_any _ _ _).mono ?_; rintro e w' ⟨rfl, rfl⟩)
  go_ret
  exact ⟨rfl, ((Below.refl _ _).alloc (Nat.le_refl _) _).alloc (by simp) _⟩

set_option maxHeartbeats 400000 in
theorem compareFunc_any (ts us : List T) (v1 v2 : Value) (b1 b2 : List Nat) (w : World) (h1 : termsK w [v1] ts b1) (h2 : termsK w [v2] us b2) :
    Calls Tryz.prog 113 #[v1, v2, .func (.func 114) #[] #[]] w
      fun e w' => e = .returned (.int .i64 (cmpTs ts us)) ∧ Below w.heap.size w w' := by
  obtain ⟨Ad, cap, rfl, hl, hm⟩ := sliceK_form h1
  obtain ⟨Ad2, cap2, rfl, hl2, hm2⟩ := sliceK_form h2
  have hlm := nat_ge_max (Nat.le_trans hl hm)
  have hlm2 := nat_ge_max (Nat.le_trans hl2 hm2)
  clear hm hm2
  go_enter Tryz.func113, Tryz.ntmps113
  go_wp2
  go_loopw [13] (fun i wr => ∃ k : Nat, k ≤ ts.length ∧ k ≤ us.length ∧ i = .int .i64 k ∧ cmpTs ts us = cmpTs (ts.drop k) (us.drop k) ∧ Below w.heap.size w wr) (fun i _ => ts.length - (intOf i).toNat)
  case atStart => exact ⟨0, Nat.zero_le _, Nat.zero_le _, rfl, rfl, Below.refl _ _⟩
  case round =>
    obtain ⟨k, hk, hk2, rfl, hc, hb⟩ := hrel
    have HC := Lib.hid hc
    clear hc
    by_cases hlt : k < ts.length
    · obtain ⟨b, o, rfl, _, c0, c1, _⟩ := terms_at (termsK_good.below h1 hb) hlt
      have hA : Below wr.heap.size wr (wr.alloc (.cells #[.bool ts[k].var, .string ts[k].name] 101)) := (Below.refl _ _).alloc (Nat.le_refl _) _
      by_cases hlt2 : k < us.length
      · obtain ⟨b', o', rfl, _, d0, d1, _⟩ := terms_at (termsK_good.below h2 (hb.trans (hA.mono hb.size))) hlt2
        have HS := Lib.hid (cmpTs_step hlt hlt2)
        clear h1 h2
        go_wp2_with fail
        refine (order1_any ts[k] us[k] _).mono ?_
        rintro e w' ⟨rfl, hb'⟩
        have B' : Below w.heap.size w w' := (((hb.alloc hb.size _).alloc (by have := hb.size; simp; omega) _)).trans (hb'.mono (by have := hb.size; simp; omega))
        by_cases hz : cmpS ts[k].name us[k].name = 0
        · have hz' : (cmpS ts[k].name us[k].name == 0) = true := by simp [hz]
          have HZ := Lib.hid hz
          clear hz hA
          go_wp2
          go_roundw
          case rel => exact ⟨k + 1, by omega, by omega, by go_num, by rw [HC.out, HS.out, if_pos HZ.out], B'⟩
          case measure => simp [intOf]; omega
        · have hz' : (cmpS ts[k].name us[k].name == 0) = false := by simp [hz]
          have HZ := Lib.hid hz
          clear hz hA
          go_wp2
          go_ret
          exact ⟨ret_int (by rw [HC.out, HS.out, if_neg HZ.out]), B'⟩
      · clear h1 h2
        have HS := Lib.hid (cmpTs_end1 hlt (Nat.le_of_not_lt hlt2))
        go_wp2
        go_ret
        exact ⟨ret_int (by rw [HC.out, HS.out]), hb.trans (hA.mono hb.size)⟩
    · have he : ts.length ≤ k := by omega
      by_cases hlt2 : k < us.length
      · have HS := Lib.hid (cmpTs_end2 he hlt2)
        have hx : ts.length < us.length := by omega
        go_wp2
        go_ret
        exact ⟨ret_int (by rw [HC.out, HS.out]), hb⟩
      · have HS := Lib.hid (cmpTs_end3 he (Nat.le_of_not_lt hlt2))
        have hx : ¬ ts.length < us.length := by omega
        go_wp2
        go_ret
        exact ⟨ret_int (by rw [HC.out, HS.out]), hb⟩

set_option maxHeartbeats 400000 in
theorem atomOrder_any (a b : A) (c0 c1 d0 d1 : Value) (b1 b2 : List Nat) (w : World) (h1 : atomK w [c0, c1] a b1) (h2 : atomK w [d0, d1] b b2) :
    Calls Tryz.prog 90 #[.agg #[c0, c1], .agg #[d0, d1]] w fun e w' => e = .returned (.int .i64 (cmpA a b)) ∧ Below w.heap.size w w' := by
  obtain ⟨Ad, cap, rfl, rfl⟩ := atom_cells2 h1
  obtain ⟨Ae, cape, rfl, rfl⟩ := atom_cells2 h2
  have hq := fun w' (hb : Below w.heap.size w w') => compareFunc_any a.args b.args (.slice Ad a.args.length cap) (.slice Ae b.args.length cape) b1 b2 w' (atom_args (atomK_good.below h1 hb)) (atom_args (atomK_good.below h2 hb))
  have hc : cmpA a b = if cmpS a.name b.name = 0 then cmpTs a.args b.args else cmpS a.name b.name := rfl
  have HC := Lib.hid hc
  clear h1 h2 hc
  have hA := ((Below.refl w.heap.size w).alloc (Nat.le_refl _) (.cells #[.string a.name, .slice Ad a.args.length cap] 48)).alloc (by simp) (.cells #[.string b.name, .slice Ae b.args.length cape] 48)
  by_cases hz : cmpS a.name b.name = 0
  · have hz' : (cmpS a.name b.name != 0) = false := by simp [hz]
    have HZ := Lib.hid hz
    clear hz
    go_enter Tryz.func90, Tryz.ntmps90
    go_wp2_with (go_at_call 112; refine (compare_any _ _ _).mono ?_; rintro e w' ⟨rfl, rfl⟩)
    refine (hq _ hA).mono ?_
    rintro e w' ⟨rfl, hb'⟩
    go_wp2
    go_ret
    exact ⟨ret_int (by rw [HC.out, if_pos HZ.out]), hA.trans (hb'.mono hA.size)⟩
  · have hz' : (cmpS a.name b.name != 0) = true := by simp [hz]
    have HZ := Lib.hid hz
    clear hz
    go_enter Tryz.func90, Tryz.ntmps90
    go_wp2_with (go_at_call 112; refine (compare_any _ _ _).mono ?_; rintro e w' ⟨rfl, rfl⟩)
    go_ret
    exact ⟨ret_int (by rw [HC.out, if_neg HZ.out]), hA⟩

set_option maxHeartbeats 1000000 in
theorem l1Cmp_any (a b : A) (c0 c1 d0 d1 : Value) (b1 b2 : List Nat) (w : World) (h1 : atomK w [c0, c1] a b1) (h2 : atomK w [d0, d1] b b2) :
    Calls Tryz.prog 79 #[.agg #[c0, c1], .agg #[d0, d1]] w fun e w' => e = .returned (.int .i64 (cmpA a b)) ∧ Below w.heap.size w w' := by
  obtain ⟨Ad, cap, rfl, rfl⟩ := atom_cells2 h1
  obtain ⟨Ae, cape, rfl, rfl⟩ := atom_cells2 h2
  have t1 := atom_args h1
  have t2 := atom_args h2
  obtain ⟨_, _, hv1, hl, hm⟩ := sliceK_form t1
  obtain ⟨_, _, hv2, hl2, hm2⟩ := sliceK_form t2
  have hlm := nat_ge_max (Nat.le_trans hl hm)
  have hlm2 := nat_ge_max (Nat.le_trans hl2 hm2)
  clear hv1 hv2 hl hl2 hm hm2
  have hc : cmpA a b = if cmpS a.name b.name = 0 then cmpTs a.args b.args else cmpS a.name b.name := rfl
  have HC := Lib.hid hc
  clear h1 h2 hc
  go_enter Tryz.func79, Tryz.ntmps79
  go_wp2_with (go_at_call 101; refine (l1Texts_any _ _ _).mono ?_; rintro e w' ⟨rfl, rfl⟩)
  have hA := ((Below.refl w.heap.size w).alloc (Nat.le_refl _) (.cells #[.string a.name, .slice Ad a.args.length cap] 48)).alloc (by simp) (.cells #[.string b.name, .slice Ae b.args.length cape] 48)
  go_loopw [5, 6] (fun c i wr => ∃ (k : Nat) (z : Int), k ≤ a.args.length ∧ k ≤ b.args.length ∧ i = .int .i64 k ∧ c = .int .i64 z ∧ cmpA a b = (if z = 0 then cmpTs (a.args.drop k) (b.args.drop k) else z) ∧ Below w.heap.size w wr ∧
      wr.cell? ⟨w.heap.size, 1, none⟩ = some (.slice Ad a.args.length cap) ∧ wr.cell? ⟨w.heap.size + 1, 1, none⟩ = some (.slice Ae b.args.length cape)) (fun _ i _ => a.args.length - (intOf i).toNat)
  case atStart => exact ⟨0, _, Nat.zero_le _, Nat.zero_le _, rfl, rfl, HC.out, hA, by go_simp, by go_simp⟩
  case round =>
    obtain ⟨k, z, hk, hk2, rfl, rfl, hz, hb, x1, y1⟩ := hrel
    have HZ := Lib.hid hz
    clear hz hA
    by_cases hz : z = 0
    · subst hz
      have H0 := Lib.hid (HZ.out.trans (if_pos rfl))
      by_cases hlt : k < a.args.length
      · by_cases hlt2 : k < b.args.length
        · obtain ⟨b', o, rfl, _, _, c1, _⟩ := terms_at (termsK_good.below t1 hb) hlt
          obtain ⟨b'', o', rfl, _, _, d1, _⟩ := terms_at (termsK_good.below t2 hb) hlt2
          have HS := Lib.hid (cmpTs_step hlt hlt2)
          have hkk : (0 : Int) ≤ (k : Int) := by omega
          have hk3 : (k : Int) < (a.args.length : Int) := by omega
          have hk4 : (k : Int) < (b.args.length : Int) := by omega
          clear t1 t2
          go_wp2
          go_quiet ((go_at_call 101; exact Calls.quiet_of_same (l1Texts_any _ _ _)))
          go_wp2
          have HW := Lib.hid HZ
          go_roundw
          case rel => exact ⟨k + 1, _, by omega, by omega, by go_num, rfl, by rw [H0.out, HS.out], below_drewN hb _, x1, y1⟩
          case measure => simp [intOf]; omega
        · have HS := Lib.hid (cmpTs_end1 hlt (Nat.le_of_not_lt hlt2))
          have hx : ¬ a.args.length < b.args.length := by omega
          have hy : b.args.length < a.args.length := by omega
          clear t1 t2
          go_wp2
          go_ret
          exact ⟨ret_int (by rw [H0.out, HS.out]), hb⟩
      · have he : a.args.length ≤ k := by omega
        by_cases hlt2 : k < b.args.length
        · have HS := Lib.hid (cmpTs_end2 he hlt2)
          have hx : a.args.length < b.args.length := by omega
          clear t1 t2
          go_wp2
          go_ret
          exact ⟨ret_int (by rw [H0.out, HS.out]), hb⟩
        · have HS := Lib.hid (cmpTs_end3 he (Nat.le_of_not_lt hlt2))
          have hx : ¬ a.args.length < b.args.length := by omega
          have hy : ¬ b.args.length < a.args.length := by omega
          clear t1 t2
          go_wp2
          go_ret
          exact ⟨ret_int (by rw [H0.out, HS.out]), hb⟩
    · have H0 := Lib.hid (HZ.out.trans (if_neg hz))
      have hz1 : (z == 0) = false := beq_eq_false_iff_ne.2 hz
      have hz2 : (z != 0) = true := by simp [hz]
      clear hz
      by_cases hlt : k < a.args.length
      all_goals by_cases hlt2 : k < b.args.length
      all_goals
        clear t1 t2
        go_wp2
        go_ret
        exact ⟨ret_int H0.out.symm, hb⟩

end Go.Proofs.YtbcepahpehadeaaGreatDoor
