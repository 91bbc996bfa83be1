/- The walks of RulePut, the program's and the reference's. -/
import Derived.Test.YtmhjabjiojfgnaaDoorRPut2
namespace Go.Proofs.YtmhjabjiojfgnaaDoor
open Go.RowKit D
set_option linter.unusedVariables false
attribute [local go_sem ↓] Go.wp_at_zero Go.wp_at_succ

set_option maxHeartbeats 1000000 in
theorem l1Rule_any (r : Ru) (c0 c1 c2 : Value) (bs : List Nat) (w : World) (h : ruleK w [c0, c1, c2] r bs) :
    Calls Tryd.prog 69 #[.agg #[c0, c1, c2]] w fun e w' => e = .returned (.bool (ruleOk r)) ∧ Below w.heap.size w w' := by
  obtain ⟨b1, b2, rfl, hp, hq⟩ := rule_parts h
  obtain ⟨Ad, cap, Ae, cape, rfl, rfl, rfl⟩ := rule_cells2 h
  obtain ⟨_, _, hv, hl, hm⟩ := sliceK_form hq
  have hlm := nat_ge_max (Nat.le_trans hl hm)
  have hok := fun w' (hb : Below w.heap.size w w') => atomOk_spec r.head _ _ b1 w' (atomK_good.below hp hb)
  have hr : ruleOk r = (decide (r.body.length ≤ 4) && r.body.all (fun p => atomOk p.atom) && atomOk r.head) := rfl
  rw [hr]
  clear h hp hv hl hm hr
  generalize atomOk r.head = b at *
  have hA := (Below.refl w.heap.size w).alloc (Nat.le_refl _) (.cells #[.string r.head.name, .slice Ad r.head.args.length cap, .slice Ae r.body.length cape] 36)
  go_enter Tryd.func69, Tryd.ntmps69
  go_wp2
  go_loopw [3] (fun i wr => ∃ k : Nat, k ≤ r.body.length ∧ i = .int .i64 k ∧ (r.body.take k).all (fun p => atomOk p.atom) = true ∧ Below w.heap.size w wr ∧ wr.cell? ⟨w.heap.size, 0, none⟩ = some (.string r.head.name) ∧ wr.cell? ⟨w.heap.size, 1, none⟩ = some (.slice Ad r.head.args.length cap) ∧ wr.cell? ⟨w.heap.size, 2, none⟩ = some (.slice Ae r.body.length cape) ∧ w.heap.size < wr.heap.size) (fun i _ => r.body.length - (intOf i).toNat)
  case atStart => exact ⟨0, Nat.zero_le _, rfl, rfl, hA, by go_simp, by go_simp, by go_simp, by simp⟩
  case round =>
    obtain ⟨k, hk, rfl, hall, hb, x0, x1, x2, hsz⟩ := hrel
    have HA := Lib.hid hall
    clear hall hA
    by_cases hlt : k < r.body.length
    · obtain ⟨bb, o, Af, cf, bk, rfl, _, d0, d1, d2, hel, _⟩ := parts_el (partsK_good.below hq hb) hlt
      have hat := part_atom hel
      clear hq hel
      go_wp2_with fail
      refine (atomOk_spec r.body[k].atom _ _ bk _ hat).mono ?_
      rintro e w' ⟨rfl, hb'⟩
      have B' := hb.trans (hb'.mono hb.size)
      have y0 := cell_later hb' x0
      have y1 := cell_later hb' x1
      have y2 := cell_later hb' x2
      have S' : w.heap.size < w'.heap.size := by have := hb'.size; omega
      clear hat x0 x1 x2
      by_cases hx : atomOk r.body[k].atom = true
      · have hx1 : (!atomOk r.body[k].atom) = false := by simp [hx]
        have HX := Lib.hid hx
        clear hx
        go_wp2
        go_roundw
        case rel => exact ⟨k + 1, by omega, by go_num, by rw [all_take_snoc r.body k hlt, HA.out]; exact HX.out, B', y0, y1, y2, S'⟩
        case measure => simp [intOf]; omega
      · have hx1 : (!atomOk r.body[k].atom) = true := by simpa using hx
        have HX := Lib.hid hx
        clear hx
        go_wp2
        go_ret
        exact ⟨ret_bool (by rw [all_bad r.body k hlt (by simpa using HX.out)]; simp), B'⟩
    · have he := Lib.hid (show k = r.body.length by omega)
      have ha : Hid (r.body.all (fun p => atomOk p.atom) = true) := by have := HA.out; rw [he.out, List.take_of_length_le (Nat.le_refl _)] at this; exact this
      go_wp2_with fail
      refine (hok _ hb).mono ?_
      rintro e w' ⟨rfl, hb'⟩
      have B' := hb.trans (hb'.mono hb.size)
      have y2 := cell_later hb' x2
      clear x0 x1 x2 hok
      cases b
      all_goals
        go_wp2
        go_ret
        exact ⟨ret_bool (by rw [ha.out]; first | (simp; done) | (rw [Bool.eq_iff_iff]; simp; omega)), B'⟩

set_option maxHeartbeats 1000000 in
theorem l1RulePut_any (r : Ru) (c0 c1 c2 : Value) (bs : List Nat) (w : World) (h : ruleK w [c0, c1, c2] r bs) (hn : bulkR r ≤ 16777216) :
    Calls Tryd.prog 70 #[.agg #[c0, c1, c2]] w fun e w' => e = .returned (.string ⟨(ruleL r).toArray⟩) ∧ Below w.heap.size w w' := by
  obtain ⟨b1, b2, rfl, hp, hq⟩ := rule_parts h
  obtain ⟨Ad, cap, Ae, cape, rfl, rfl, rfl⟩ := rule_cells2 h
  obtain ⟨_, _, hv, hl, hm⟩ := sliceK_form hq
  have hlm := nat_ge_max (Nat.le_trans hl hm)
  have hn1 : bulkA r.head ≤ 16777216 := by unfold bulkR at hn; omega
  have hn2 : bulkPts r.body ≤ 16777216 := by unfold bulkR at hn; omega
  have hpt := fun w' (hb : Below w.heap.size w w') => l1Put_any r.head _ _ b1 w' (atomK_good.below hp hb) hn1
  have hpl := putL_le r.head
  clear h hp hv hl hm
  have hA := (Below.refl w.heap.size w).alloc (Nat.le_refl _) (.cells #[.string r.head.name, .slice Ad r.head.args.length cap, .slice Ae r.body.length cape] 36)
  go_enter Tryd.func70, Tryd.ntmps70
  go_wp2_with fail
  refine (hpt _ hA).mono ?_
  rintro e w1 ⟨rfl, hb1⟩
  have B1 := hA.trans (hb1.mono hA.size)
  have x2 : w1.cell? ⟨w.heap.size, 2, none⟩ = some (.slice Ae r.body.length cape) := cell_later hb1 (by go_simp)
  clear hpt hA
  go_wp2_with fail
  go_loopw [3, 4] (fun v i wr => ∃ (k : Nat) (s : ByteArray), k ≤ r.body.length ∧ i = .int .i64 k ∧ v = .string s ∧ s.data.toList = putL r.head ++ (if k = 0 then [] else ifL ++ bodyL (r.body.take k)) ∧ Below w.heap.size w wr ∧ wr.cell? ⟨w.heap.size, 2, none⟩ = some (.slice Ae r.body.length cape)) (fun _ i _ => r.body.length - (intOf i).toNat)
  case atStart => exact ⟨0, _, Nat.zero_le _, rfl, rfl, by simp, B1, x2⟩
  case round =>
    obtain ⟨k, s, hk, rfl, rfl, hs, hb, x2⟩ := hrel
    have hsz : s.size ≤ 268435456 := by
      have h1 := congrArg List.length hs
      have h2 := bodyL_take_le r.body k
      have h5 : s.data.toList.length = s.size := Array.length_toList
      have h6 : ifL.length = 4 := rfl
      rw [List.length_append] at h1
      split at h1
      · simp at h1; omega
      · rw [List.length_append] at h1; omega
    have HS := Lib.hid hs
    clear hs
    by_cases hlt : k < r.body.length
    · obtain ⟨bb, o, Af, cf, bk, rfl, _, d0, d1, d2, hel, _⟩ := parts_el (partsK_good.below hq hb) hlt
      have hbk : bulkPt r.body[k] ≤ 16777216 := Nat.le_trans (bulkPts_at r.body k hlt) hn2
      have hple := partL_le r.body[k]
      have HT := Lib.hid (bodyL_snoc r.body k hlt)
      clear hq
      generalize r.body[k] = p at *
      have hsz2 : (⟨(partL p).toArray⟩ : ByteArray).size ≤ 16777222 := by rw [size_of]; omega
      have hsz3 : (partL p).length ≤ 16777222 := by omega
      by_cases hk0 : k = 0
      · have HK := Lib.hid hk0
        have hk1 : ((k : Int) == 0) = true := beq_iff_eq.2 (by omega)
        clear hk0
        go_wp2_with fail
        refine (l1Part_any p _ _ _ bk _ hel hbk).mono ?_
        rintro e w' ⟨rfl, hb'⟩
        have B' := hb.trans (hb'.mono hb.size)
        have y2 := cell_later hb' x2
        clear hel x2
        go_wp2
        go_roundw
        case rel => exact ⟨k + 1, _, by omega, by go_num, rfl, by rw [HT.out]; simp [ByteArray.data_append, HS.out, HK.out, bodyL, sepL_nil, ifL], B', y2⟩
        case measure => simp [intOf]; omega
      · have HK := Lib.hid hk0
        have hk1 : ((k : Int) == 0) = false := beq_eq_false_iff_ne.2 (by omega)
        clear hk0
        go_wp2_with fail
        refine (l1Part_any p _ _ _ bk _ hel hbk).mono ?_
        rintro e w' ⟨rfl, hb'⟩
        have B' := hb.trans (hb'.mono hb.size)
        have y2 := cell_later hb' x2
        clear hel x2
        go_wp2
        go_roundw
        case rel => exact ⟨k + 1, _, by omega, by go_num, rfl, by rw [HT.out]; simp [ByteArray.data_append, HS.out, HK.out, andL], B', y2⟩
        case measure => simp [intOf]; omega
    · have he := Lib.hid (show k = r.body.length by omega)
      go_wp2
      go_ret
      refine ⟨ret_str (WideShapes.bytes_inj ?_), hb⟩
      rw [HS.out, he.out, List.take_of_length_le (Nat.le_refl _)]
      unfold ruleL
      by_cases hz : r.body = []
      · simp [hz]
      · have : r.body.length ≠ 0 := fun e => hz (List.length_eq_zero_iff.1 e)
        simp [hz]

end Go.Proofs.YtmhjabjiojfgnaaDoor
