/- The walks of spec.l2Names, spec.l2Has, spec.ProgNames. -/
import Derived.WalkKit
import Derived.Lib.Hide
import Derived.WalkSpells
import Derived.WalkLawsBesides
import Derived.BigQuiet
import Derived.Test.YtbcepahpehadeaaGreatDoorProg
import Derived.Test.YtbcepahpehadeaaGreatDoorAscI
import Derived.Test.YtbcepahpehadeaaGreatDoorSPut
import Derived.Test.YtbcepahpehadeaaGreatDoorChkS
namespace Go.Proofs.YtbcepahpehadeaaGreatDoor
open Go.RowKit D
set_option linter.unusedVariables false
attribute [local go_sem ↓] Go.wp_at_zero Go.wp_at_succ

def D.namesA (as' : List A) : List ByteArray := ascOf (as'.map (·.name))
def D.namesV (rs : List Ru) : List ByteArray := if progC rs = 0 then namesA (allAtoms rs) else []
theorem D.namesA_snoc (xs : List A) (k : Nat) (h : k < xs.length) : namesA (xs.take (k + 1)) = putS (namesA (xs.take k)) xs[k].name := by
  unfold namesA ascOf
  rw [List.take_succ_eq_append_getElem h, List.map_append, List.foldl_append]
  rfl
theorem D.namesA_len (xs : List A) : (namesA xs).length ≤ xs.length := by
  have := ascOf_len (xs.map (·.name)) []
  unfold namesA ascOf
  simpa using this
theorem D.namesV_len (rs : List Ru) : (namesV rs).length ≤ 900000000 := by
  unfold namesV
  split
  · rename_i h
    have h1 := (fine_iff rs).1 h
    have h2 := (allAtoms_few h1.ok).2
    have h3 := namesA_len (allAtoms rs)
    have h4 := h1.few
    omega
  · simp

set_option maxRecDepth 100000 in
set_option maxHeartbeats 2000000 in
theorem l2Names_any (rs : List Ru) (v : Value) (bs : List Nat) (w : World) (h : rulesK w [v] rs bs) (hn : (allAtoms rs).length ≤ 1000000) :
    Calls Tryz.prog 41 #[v] w fun e w' => Below w.heap.size w w' ∧ ∃ v' b2, e = .returned v' ∧ strsK w' [v'] (namesA (allAtoms rs)) b2 := by
  obtain ⟨Ad, cap, rfl, hl, hm⟩ := sliceK_form h
  have hA0 : Below w.heap.size w (w.alloc (.cells #[] 9)) := (Below.refl _ _).alloc (Nat.le_refl _) _
  have c1 := l2Atoms_any rs _ bs (w.alloc (.cells #[] 9)) (rulesK_good.below h hA0) hn
  have HE : Hid (strsK (w.alloc (.cells #[] 9)) [.slice (some ⟨w.heap.size, 0, none⟩) 0 0] [] []) := Lib.hid strs_empty
  have HA := Lib.hid hA0
  generalize allAtoms rs = xs at *
  clear hl hm h hA0
  go_enter Tryz.func41, Tryz.ntmps41
  go_wp2_with fail
  refine c1.mono ?_
  rintro e w1 ⟨hB, v1, b2, rfl, hx⟩
  obtain ⟨A1, cap1, rfl, hl1, hm1⟩ := sliceK_form hx
  have hlm1 := nat_ge_max (Nat.le_trans hl1 hm1)
  have HE1 := Lib.hid (strsK_good.below HE.out hB)
  have HB1 := Lib.hid (HA.out.trans (hB.mono HA.out.size))
  clear c1 hl1 hm1 hB HE HA
  go_wp2
  go_loopw [3, 5] (fun v i wr => ∃ (k : Nat) (Av : Option Addr) (cp : Nat) (ys : List ByteArray) (b3 : List Nat), k ≤ xs.length ∧ i = .int .i64 k ∧ v = .slice Av ys.length cp ∧ ys = namesA (xs.take k) ∧ strsK wr [.slice Av ys.length cp] ys b3 ∧ Below w.heap.size w wr ∧ Below w1.heap.size w1 wr) (fun _ i _ => xs.length - (intOf i).toNat)
  case atStart => exact ⟨0, _, _, [], [], Nat.zero_le _, rfl, rfl, rfl, HE1.out, HB1.out, Below.refl _ _⟩
  case round =>
    obtain ⟨k, Av, cp, ys, b3, hk, rfl, rfl, hys, hS, hb, hb1⟩ := hrel
    clear HE1
    have HS := Lib.hid hS
    have HB := Lib.hid hb
    have HB2 := Lib.hid hb1
    have HY := Lib.hid hys
    have HLY : Hid (ys.length ≤ 1000000) := Lib.hid (by rw [hys]; have h1 := namesA_len (xs.take k); rw [List.length_take] at h1; omega)
    clear hS hb hys
    by_cases hlt : k < xs.length
    · obtain ⟨b, o, Ae, ce, bk, rfl, _, d0, d1, hel, _⟩ := atoms_el (atomsK_good.below hx hb1) hlt
      have hk0 : (0 : Int) ≤ (k : Int) := by omega
      have hk1 : (k : Int) < (xs.length : Int) := by omega
      have HSN := Lib.hid (namesA_snoc xs k hlt)
      have HSZ : Hid (xs[k].name.size ≤ maxLen) := Lib.hid (by obtain ⟨_, _, hs, _⟩ := hel; exact hs)
      clear hx hel hb1
      have HLT := Lib.hid hlt
      generalize xs[k] = x at *
      clear hlt
      obtain ⟨xn, xa⟩ := x
      dsimp only at *
      go_wp2_with fail
      refine (l2Put_any ys xn _ b3 wr HS.out HSZ.out (by have := HLY.out; omega)).mono ?_
      rintro e w2 ⟨hb2, v2, b4, rfl, hR2, _⟩
      obtain ⟨A2, cp2, rfl, _, _⟩ := sliceK_form hR2
      have HZ : Hid (putS ys xn = namesA (xs.take (k + 1))) := Lib.hid (by rw [HSN.out, HY.out])
      have HR2 := Lib.hid hR2
      have HB3 := Lib.hid (HB.out.trans (hb2.mono HB.out.size))
      have HB4 := Lib.hid (HB2.out.trans (hb2.mono HB2.out.size))
      clear hR2 hb2 HS HB HB2 HY HSN
      go_wp2
      go_roundw
      case rel => exact ⟨k + 1, A2, cp2, putS ys xn, b4, HLT.out, by go_num, rfl, HZ.out, HR2.out, HB3.out, HB4.out⟩
      case measure => have := HLT.out; simp [intOf]; omega
    · have he : k = xs.length := by omega
      have hk1 : ¬ (k : Int) < (xs.length : Int) := by omega
      have HZ : Hid (strsK wr [.slice Av ys.length cp] (namesA xs) b3) := Lib.hid (by
        have h1 := HS.out
        have h2 : ys = namesA xs := by rw [HY.out, he, List.take_of_length_le (Nat.le_refl _)]
        rw [← h2]; exact h1)
      clear he hx HS
      go_wp2
      go_ret
      exact ⟨HB.out, _, rfl, b3, HZ.out⟩

set_option maxHeartbeats 1000000 in
theorem progNames_spec (rs : List Ru) (v : Value) (bs : List Nat) (w : World) (h : rulesK w [v] rs bs) :
    Calls Tryz.prog 15 #[v] w fun e w' => Below w.heap.size w w' ∧ ∃ v' bs', e = .returned v' ∧ strsK w' [v'] (namesV rs) bs' := by
  have c1 := progCheck_spec rs v bs w h
  have C2 := Lib.hid fun w' (hb : Below w.heap.size w w') (hn : (allAtoms rs).length ≤ 1000000) => l2Names_any rs v bs w' (rulesK_good.below h hb) hn
  have hle : (progC rs : Int) ≤ 5 := by have := progC_le rs; omega
  clear h
  by_cases hp : progC rs = 0
  · have HN : Hid ((allAtoms rs).length ≤ 1000000) := Lib.hid (by have h1 := (fine_iff rs).1 hp; have := (allAtoms_few h1.ok).2; have := h1.few; omega)
    have HZ : Hid (namesV rs = namesA (allAtoms rs)) := Lib.hid (by unfold namesV; rw [if_pos hp])
    rw [hp] at c1
    clear hp
    go_enter Tryz.func15, Tryz.ntmps15
    go_wp2_with fail
    refine c1.mono ?_
    rintro e w1 ⟨rfl, hb1⟩
    clear c1
    go_wp2_with fail
    refine (C2.out _ hb1 HN.out).mono ?_
    rintro e w2 ⟨hb2, v2, b2, rfl, hs2⟩
    have HW : Hid (Below w.heap.size w w2 ∧ strsK w2 [v2] (namesV rs) b2) := Lib.hid ⟨hb1.trans (hb2.mono hb1.size), by rw [HZ.out]; exact hs2⟩
    clear hb1 hb2 hs2
    go_wp2
    go_ret
    exact ⟨HW.out.1, _, b2, rfl, HW.out.2⟩
  · have HZ : Hid (namesV rs = []) := Lib.hid (by unfold namesV; rw [if_neg hp])
    have h1 : ¬ ((progC rs : Nat) : Int) = 0 := by omega
    clear hp C2
    generalize progC rs = c at *
    go_enter Tryz.func15, Tryz.ntmps15
    go_wp2_with fail
    refine c1.mono ?_
    rintro e w1 ⟨rfl, hb1⟩
    have B2 := hb1.alloc hb1.size (.cells #[] 9)
    go_wp2
    go_ret
    exact ⟨B2, _, [], rfl, by rw [HZ.out]; exact strs_empty⟩

set_option maxHeartbeats 1000000 in
theorem l2Has_any (xs : List ByteArray) (s : ByteArray) (v : Value) (bs : List Nat) (w : World) (h : strsK w [v] xs bs) :
    Calls Tryz.prog 46 #[v, .string s] w fun e w' => e = .returned (.bool (decide (s ∈ xs))) ∧ Below w.heap.size w w' := by
  obtain ⟨Ad, cap, rfl, hl, hm⟩ := sliceK_form h
  have hlm := nat_ge_max (Nat.le_trans hl hm)
  clear hl hm
  go_enter Tryz.func46, Tryz.ntmps46
  go_wp2
  go_loopw [5] (fun i wr => ∃ k : Nat, k ≤ xs.length ∧ i = .int .i64 k ∧ (∀ x ∈ xs.take k, x ≠ s) ∧ Below w.heap.size w wr) (fun i _ => xs.length - (intOf i).toNat)
  case atStart => exact ⟨0, Nat.zero_le _, rfl, fun r h => by simp at h, Below.refl _ _⟩
  case round =>
    obtain ⟨k, hk, rfl, hall, hb⟩ := hrel
    have HA := Lib.hid hall
    clear hall
    by_cases hlt : k < xs.length
    · obtain ⟨b, o, rfl, _, c0, _⟩ := strs_at (strsK_good.below h hb) hlt
      have hk0 : (0 : Int) ≤ (k : Int) := by omega
      have hk1 : (k : Int) < (xs.length : Int) := by omega
      have HYES : Hid (xs[k] = s → decide (s ∈ xs) = true) := Lib.hid fun e => decide_eq_true (e ▸ List.getElem_mem hlt)
      have HNO : Hid (xs[k] ≠ s → ∀ r ∈ xs.take (k + 1), r ≠ s) := Lib.hid fun hn r hr => by
        rw [List.take_succ_eq_append_getElem hlt] at hr
        rcases List.mem_append.1 hr with hr | hr
        · exact HA.out r hr
        · rw [List.mem_singleton.1 hr]; exact hn
      clear h
      have HLT := Lib.hid hlt
      generalize xs[k] = nm at *
      clear hlt
      cases hq : (nm.toList == s.toList)
      · have HZ := Lib.hid (HNO.out (by intro e; rw [e] at hq; simp at hq))
        clear HYES HNO HA
        go_wp2
        go_roundw
        case rel => exact ⟨k + 1, HLT.out, by go_num, HZ.out, hb⟩
        case measure => have := HLT.out; simp [intOf]; omega
      · have HZ := Lib.hid (HYES.out (by have := name_eq nm s; rw [hq] at this; exact of_decide_eq_true this.symm))
        clear HYES HNO HA
        go_wp2
        go_ret
        exact ⟨ret_bool HZ.out.symm, hb⟩
    · have he : k = xs.length := by omega
      have hk1 : ¬ (k : Int) < (xs.length : Int) := by omega
      have HZ : Hid (decide (s ∈ xs) = false) := Lib.hid (decide_eq_false fun hm => HA.out s (by rw [he, List.take_of_length_le (Nat.le_refl _)]; exact hm) rfl)
      clear HA he h
      go_wp2
      go_ret
      exact ⟨ret_bool HZ.out.symm, hb⟩

theorem progNames_impl2 (rs : List Ru) (v : Value) (bs : List Nat) (w : World) (h : rulesK w [v] rs bs) (hg : LaidE w) :
    Calls Tryz.prog 16 #[v] w (Makes strsK (namesV rs) w.heap.size w) := progNames_impl rs v bs w h hg

end Go.Proofs.YtbcepahpehadeaaGreatDoor
