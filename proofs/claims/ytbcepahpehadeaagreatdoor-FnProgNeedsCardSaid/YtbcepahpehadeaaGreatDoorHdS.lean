/- The walks of spec.l2Heads and spec.ProgHeads. -/
import Derived.WalkKit
import Derived.Lib.Hide
import Derived.WalkSpells
import Derived.WalkLawsBesides
import Derived.BigQuiet
import Derived.Test.YtbcepahpehadeaaGreatDoorChkS
import Derived.Test.YtbcepahpehadeaaGreatDoorHdI
namespace Go.Proofs.YtbcepahpehadeaaGreatDoor
open Go.RowKit D
set_option linter.unusedVariables false
attribute [local go_sem ↓] Go.wp_at_zero Go.wp_at_succ

set_option maxHeartbeats 1000000 in
theorem l2Heads_any (rs : List Ru) (s : ByteArray) (v : Value) (bs : List Nat) (w : World) (h : rulesK w [v] rs bs) :
    Calls Tryz.prog 50 #[v, .string s] w fun e w' => e = .returned (.bool (headB rs s)) ∧ Below w.heap.size w w' := by
  obtain ⟨Ad, cap, rfl, hl, hm⟩ := sliceK_form h
  have hlm := nat_ge_max (Nat.le_trans hl hm)
  clear hl hm
  go_enter Tryz.func50, Tryz.ntmps50
  go_wp2
  go_loopw [5] (fun i wr => ∃ k : Nat, k ≤ rs.length ∧ i = .int .i64 k ∧ (∀ r ∈ rs.take k, r.head.name ≠ s) ∧ Below w.heap.size w wr) (fun i _ => rs.length - (intOf i).toNat)
  case atStart => exact ⟨0, Nat.zero_le _, rfl, fun r h => by simp at h, Below.refl _ _⟩
  case round =>
    obtain ⟨k, hk, rfl, hall, hb⟩ := hrel
    have HA := Lib.hid hall
    clear hall
    by_cases hlt : k < rs.length
    · obtain ⟨b, o, Ae, ce, Af, cf, bk, rfl, _, d0, d1, d2, hel, _⟩ := rules_el (rulesK_good.below h hb) hlt
      have hk0 : (0 : Int) ≤ (k : Int) := by omega
      have hk1 : (k : Int) < (rs.length : Int) := by omega
      have HYES : Hid (rs[k].head.name = s → headB rs s = true) := Lib.hid fun e => decide_eq_true (e ▸ head_mem (List.getElem_mem hlt))
      have HNO : Hid (rs[k].head.name ≠ s → ∀ r ∈ rs.take (k + 1), r.head.name ≠ s) := Lib.hid fun hn r hr => by
        rw [List.take_succ_eq_append_getElem hlt] at hr
        rcases List.mem_append.1 hr with hr | hr
        · exact HA.out r hr
        · rw [List.mem_singleton.1 hr]; exact hn
      clear h hel
      have HLT := Lib.hid hlt
      generalize rs[k] = r at *
      clear hlt
      obtain ⟨⟨nm, args⟩, body⟩ := r
      dsimp only at *
      cases hq : (nm.toList == s.toList)
      · have HZ := Lib.hid (HNO.out (by intro e; rw [e] at hq; simp at hq))
        clear HYES HNO HA
        go_wp2
        go_roundw
        case rel => exact ⟨k + 1, HLT.out, by go_num, HZ.out, hb⟩
        case measure => have := HLT.out; simp [intOf]; omega
      · have HZ := Lib.hid (HYES.out (by have := name_eq nm s; rw [hq] at this; exact of_decide_eq_true this.symm))
        clear HYES HNO HA
        go_wp2
        go_ret
        exact ⟨ret_bool HZ.out.symm, hb⟩
    · have he : k = rs.length := by omega
      have hk1 : ¬ (k : Int) < (rs.length : Int) := by omega
      have HZ : Hid (headB rs s = false) := Lib.hid (decide_eq_false fun hm => by
        obtain ⟨r, hr, e⟩ := List.mem_map.1 hm
        exact HA.out r (by rw [he, List.take_of_length_le (Nat.le_refl _)]; exact hr) e)
      clear HA he h
      go_wp2
      go_ret
      exact ⟨ret_bool HZ.out.symm, hb⟩

set_option maxHeartbeats 1000000 in
theorem progHeads_spec (rs : List Ru) (s : ByteArray) (v : Value) (bs : List Nat) (w : World) (h : rulesK w [v] rs bs) :
    Calls Tryz.prog 26 #[v, .string s] w fun e w' => e = .returned (.bool (progHeads rs s)) ∧ Below w.heap.size w w' := by
  have c1 := progCheck_spec rs v bs w h
  have C2 := Lib.hid fun w' (hb : Below w.heap.size w w') => l2Heads_any rs s v bs w' (rulesK_good.below h hb)
  have hle : (progC rs : Int) ≤ 5 := by have := progC_le rs; omega
  have HZ : Hid (progHeads rs s = (decide (progC rs = 0) && headB rs s)) := Lib.hid rfl
  clear h
  generalize headB rs s = y at *
  generalize progC rs = c at *
  by_cases h0 : c = 0
  · subst h0
    go_enter Tryz.func26, Tryz.ntmps26
    go_wp2_with fail
    refine c1.mono ?_
    rintro e w1 ⟨rfl, hb⟩
    clear c1
    go_wp2_with fail
    refine (C2.out _ hb).mono ?_
    rintro e w2 ⟨rfl, hb2⟩
    go_wp2
    go_ret
    exact ⟨ret_bool (by rw [HZ.out]; simp), hb.trans (hb2.mono hb.size)⟩
  · have h1 : ¬ (c : Int) = 0 := by omega
    have HD : Hid (decide (c = 0) = false) := Lib.hid (decide_eq_false h0)
    clear h0
    go_enter Tryz.func26, Tryz.ntmps26
    go_wp2_with fail
    refine c1.mono ?_
    rintro e w1 ⟨rfl, hb⟩
    go_wp2
    go_ret
    exact ⟨ret_bool (by rw [HZ.out, HD.out]; rfl), hb⟩

end Go.Proofs.YtbcepahpehadeaaGreatDoor
