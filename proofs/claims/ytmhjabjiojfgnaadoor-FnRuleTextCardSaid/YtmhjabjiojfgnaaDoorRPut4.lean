/- The walks of RulePut, the program's and the reference's (the whole). -/
import Derived.Test.YtmhjabjiojfgnaaDoorRPut3
namespace Go.Proofs.YtmhjabjiojfgnaaDoor
open Go.RowKit D
set_option linter.unusedVariables false
attribute [local go_sem ↓] Go.wp_at_zero Go.wp_at_succ

set_option maxHeartbeats 1000000 in
theorem rulePut_spec (r : Ru) (c0 c1 c2 : Value) (bs : List Nat) (w : World) (h : ruleK w [c0, c1, c2] r bs) (hn : bulkR r ≤ 16777216) :
    Calls Tryd.prog 29 #[.agg #[c0, c1, c2]] w fun e w' => e = .returned (.string (putR r)) ∧ Below w.heap.size w w' := by
  obtain ⟨Ad, cap, Ae, cape, rfl, rfl, rfl⟩ := rule_cells2 h
  have hok := fun w' (hb : Below w.heap.size w w') => l1Rule_any r _ _ _ bs w' (ruleK_good.below h hb)
  have hpt := fun w' (hb : Below w.heap.size w w') => l1RulePut_any r _ _ _ bs w' (ruleK_good.below h hb) hn
  unfold putR
  generalize ruleOk r = b at *
  clear h
  have hA := (Below.refl w.heap.size w).alloc (Nat.le_refl _) (.cells #[.string r.head.name, .slice Ad r.head.args.length cap, .slice Ae r.body.length cape] 36)
  go_enter Tryd.func29, Tryd.ntmps29
  go_wp2_with fail
  refine (hok _ hA).mono ?_
  rintro e w1 ⟨rfl, hb1⟩
  have B1 := hA.trans (hb1.mono hA.size)
  have x0 : w1.cell? ⟨w.heap.size, 0, none⟩ = some (.string r.head.name) := cell_later hb1 (by go_simp)
  have x1 : w1.cell? ⟨w.heap.size, 1, none⟩ = some (.slice Ad r.head.args.length cap) := cell_later hb1 (by go_simp)
  have x2 : w1.cell? ⟨w.heap.size, 2, none⟩ = some (.slice Ae r.body.length cape) := cell_later hb1 (by go_simp)
  cases b
  · go_wp2
    go_ret
    exact ⟨rfl, B1⟩
  · go_wp2_with fail
    refine (hpt _ B1).mono ?_
    rintro e w2 ⟨rfl, hb2⟩
    go_wp2
    go_ret
    exact ⟨rfl, B1.trans (hb2.mono B1.size)⟩

set_option maxHeartbeats 2000000 in
theorem rulePut_impl (r : Ru) (c0 c1 c2 : Value) (bs : List Nat) (w : World) (h : ruleK w [c0, c1, c2] r bs) (hn : bulkR r ≤ 16777216) :
    Calls Tryd.prog 28 #[.agg #[c0, c1, c2]] w fun e w' => e = .returned (.string (putR r)) ∧ Below w.heap.size w w' := by
  obtain ⟨b1, b2, rfl, hp, hq⟩ := rule_parts h
  obtain ⟨Ad, cap, Ae, cape, rfl, rfl, rfl⟩ := rule_cells2 h
  have hn1 : bulkA r.head ≤ 16777216 := by unfold bulkR at hn; omega
  have hn2 : bulkPts r.body ≤ 16777216 := by unfold bulkR at hn; omega
  have k1 := fun w' (hb : Below w.heap.size w w') => bodyOk_any r.body _ b2 w' (partsK_good.below hq hb)
  have k2 := fun w' (hb : Below w.heap.size w w') => atomOk_impl r.head _ _ b1 w' (atomK_good.below hp hb)
  have k3 := fun w' (hb : Below w.heap.size w w') => atomText_any r.head _ _ b1 w' (atomK_good.below hp hb) hn1
  have k4 := fun w' (hb : Below w.heap.size w w') => bodyText_any r.body _ b2 w' (partsK_good.below hq hb) hn2
  have hpl := putL_le r.head
  have hbl := bodyL_le r.body
  have z1 : (⟨(putL r.head).toArray⟩ : ByteArray).size ≤ 16777218 := by rw [size_of]; omega
  have z2 : (putL r.head).length ≤ 16777218 := by omega
  have z3 : (⟨(bodyL r.body).toArray⟩ : ByteArray).size ≤ 184549376 := by rw [size_of]; omega
  have z4 : (bodyL r.body).length ≤ 184549376 := by omega
  have hr : ruleL r = putL r.head ++ (if r.body = [] then [] else ifL ++ bodyL r.body) := rfl
  have HRL := Lib.hid hr
  unfold putR ruleOk
  generalize bodyOkB r.body = x at *
  generalize atomOk r.head = y at *
  clear h hp hq hr hpl hbl
  have hA := (Below.refl w.heap.size w).alloc (Nat.le_refl _) (.cells #[.string r.head.name, .slice Ad r.head.args.length cap, .slice Ae r.body.length cape] 36)
  go_enter Tryd.func28, Tryd.ntmps28
  go_wp2_with fail
  refine (k1 _ hA).mono ?_
  rintro e w1 ⟨rfl, hb1⟩
  have B1 := hA.trans (hb1.mono hA.size)
  have x0 : w1.cell? ⟨w.heap.size, 0, none⟩ = some (.string r.head.name) := cell_later hb1 (by go_simp)
  have x1 : w1.cell? ⟨w.heap.size, 1, none⟩ = some (.slice Ad r.head.args.length cap) := cell_later hb1 (by go_simp)
  have x2 : w1.cell? ⟨w.heap.size, 2, none⟩ = some (.slice Ae r.body.length cape) := cell_later hb1 (by go_simp)
  clear k1 hA
  cases x
  · go_wp2
    go_ret
    exact ⟨rfl, B1⟩
  · go_wp2_with fail
    refine (k2 _ B1).mono ?_
    rintro e w2 ⟨rfl, hb2⟩
    have B2 := B1.trans (hb2.mono B1.size)
    have y0 := cell_later hb2 x0
    have y1 := cell_later hb2 x1
    have y2 := cell_later hb2 x2
    clear k2 x0 x1 x2
    cases y
    · go_wp2
      go_ret
      exact ⟨rfl, B2⟩
    · by_cases hz : r.body.length = 0
      · have hz1 : ((r.body.length : Int) == 0) = true := beq_iff_eq.2 (by omega)
        have HZ := Lib.hid (List.length_eq_zero_iff.1 hz)
        clear hz
        go_wp2_with fail
        refine (k3 _ B2).mono ?_
        rintro e w3 ⟨rfl, hb3⟩
        go_wp2
        go_ret
        exact ⟨ret_str (by rw [HRL.out, HZ.out]; simp), B2.trans (hb3.mono B2.size)⟩
      · have hz1 : ((r.body.length : Int) == 0) = false := beq_eq_false_iff_ne.2 (by omega)
        have HZ := Lib.hid (fun e => hz (List.length_eq_zero_iff.2 e))
        clear hz z2 z4
        obtain ⟨s1, hs1⟩ : ∃ s, s = (⟨(putL r.head).toArray⟩ : ByteArray) := ⟨_, rfl⟩
        obtain ⟨s2, hs2⟩ : ∃ s, s = (⟨(bodyL r.body).toArray⟩ : ByteArray) := ⟨_, rfl⟩
        rw [← hs1] at k3 z1
        rw [← hs2] at k4 z3
        have HS1 := Lib.hid hs1
        have HS2 := Lib.hid hs2
        clear hs1 hs2
        have t1 : ¬ 9223372036854775807 < s1.size + 4 := by omega
        have t2 : ¬ 9223372036854775807 < s1.size + 4 + s2.size := by omega
        have t3 : ¬ 9223372036854775807 < (s1 ++ ⟨#[32, 105, 102, 32]⟩).size + s2.size := by rw [ByteArray.size_append]; show ¬ _ < _ + 4 + _; omega
        go_wp2_with fail
        go_region_held3 (fun w' => w'.cell? ⟨w.heap.size, 0, none⟩ = some (.string r.head.name) ∧ w'.cell? ⟨w.heap.size, 1, none⟩ = some (.slice Ad r.head.args.length cap) ∧ w'.cell? ⟨w.heap.size, 2, none⟩ = some (.slice Ae r.body.length cape))
          (first | go_keep | exact ⟨p0, p1, p2⟩)
          (first
            | (go_at_call 41; refine (k3 _ B2.drew).mono ?_; rintro e w3 ⟨rfl, hb3⟩; have B3 : Below w.heap.size w w3 := B2.drew.trans (hb3.mono B2.size); have p0 := cell_later hb3 y0; have p1 := cell_later hb3 y1; have p2 := cell_later hb3 y2)
            | (go_at_call 68; refine (k4 _ B3).mono ?_; rintro e w4 ⟨rfl, hb4⟩; have B4 := B3.trans (hb4.mono B3.size); have q0 := cell_later hb4 p0; have q1 := cell_later hb4 p1; have q2 := cell_later hb4 p2; clear p0 p1 p2; have p0 := q0; have p1 := q1; have p2 := q2; clear q0 q1 q2))
        go_wp2
        go_ret
        exact ⟨ret_str (WideShapes.bytes_inj (by rw [HRL.out, if_neg HZ.out]; simp [ByteArray.data_append, ifL, HS1.out, HS2.out])), B4⟩

end Go.Proofs.YtmhjabjiojfgnaaDoor
