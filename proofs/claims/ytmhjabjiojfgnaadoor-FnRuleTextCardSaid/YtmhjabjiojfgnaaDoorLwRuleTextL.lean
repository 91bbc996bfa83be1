/- The walk of the law FnRuleText (by gen/mkrtl.py). -/
import Derived.Laws.EntriesVeiled
import Derived.Deep.RegionHeld3
import Derived.Deep.RegionWith
import Derived.BigQuiet
import Derived.Deep.DrawnRows
import Derived.WalkKit
import Derived.WalkSpells
import Derived.WalkLawsBesides
import Derived.Lib.Hide
import Derived.Test.YtmhjabjiojfgnaaDoorDrawR
import Derived.Test.YtmhjabjiojfgnaaDoorDrawRG
import Derived.Test.YtmhjabjiojfgnaaDoorRGetS
import Derived.Test.YtmhjabjiojfgnaaDoorRGetI
import Derived.Test.YtmhjabjiojfgnaaDoorFsP
namespace Go.Proofs.YtmhjabjiojfgnaaDoor
open Go.RowKit D
set_option linter.unusedVariables false
attribute [local go_sem ↓] Go.wp_at_zero Go.wp_at_succ

theorem D.ruleL_ne (r : Ru) : ruleL r ≠ [] := by unfold ruleL putL; simp
theorem D.rule_get_put (r : Ru) : ruleI (putR r).data.toList = if ruleOk r then some r else none := by
  by_cases h : ruleOk r = true
  · rw [if_pos h]
    have e : (putR r).data.toList = ruleL r := by unfold putR; rw [if_pos h]
    rw [e, ruleI_full h]
  · rw [if_neg h]
    have e : (putR r).data.toList = [] := by unfold putR; rw [if_neg h]
    rw [e]
    cases hs : ruleI [] with
    | none => rfl
    | some q => exact absurd (ruleI_sound hs).2 (ruleL_ne q)
theorem D.putR_empty (r : Ru) : (putR r).toList.isEmpty = !ruleOk r := by
  rw [ByteArray.toList_eq]
  cases h : ruleOk r
  · have e : (putR r).data.toList = [] := by unfold putR; rw [h]; rfl
    rw [e]; rfl
  · have e : (putR r).data.toList = ruleL r := by unfold putR; rw [if_pos h]
    rw [e]
    simpa using ruleL_ne r
theorem D.rule_put_back {t : ByteArray} {r : Ru} (h : ruleI t.data.toList = some r) : putR r = t := by
  obtain ⟨h1, h2⟩ := ruleI_sound h
  unfold putR
  rw [if_pos h1, h2]
theorem D.putR_size {r : Ru} (h : (ruleL r).length ≤ 1000) : (putR r).size ≤ 1000 := by
  unfold putR
  split
  · have : (⟨(ruleL r).toArray⟩ : ByteArray).size = (ruleL r).length := List.size_toArray
    omega
  · exact Nat.zero_le _
theorem D.ok_small3 {a : A} (h : atomOk a = true) : bulkA a ≤ 100 := by
  unfold atomOk at h
  simp only [Bool.and_eq_true, decide_eq_true_eq, List.all_eq_true] at h
  have h1 := name_len h.1.1
  have hz : a.name.data.toList.length = a.name.size := Array.length_toList
  have h2 := small_bulk2 a.args fun t ht => by
    have := (term_no44 (h.2 t ht)).2.2
    have hz : t.name.data.toList.length = t.name.size := Array.length_toList
    omega
  unfold bulkA
  omega
theorem D.rule_bulk {t : List UInt8} {r : Ru} (h : ruleI t = some r) : bulkR r ≤ 16777216 := by
  obtain ⟨⟨h1, h2⟩, h3⟩ := (ok_iff r).1 (ruleI_sound h).1
  have key : ∀ xs : List Pt, (∀ p ∈ xs, atomOk p.atom = true) → bulkPts xs ≤ 101 * xs.length := by
    intro xs
    induction xs with
    | nil => intro _; simp [bulkPts, sumL]
    | cons x xs ih =>
      intro hx
      have h4 := ih (fun p hp => hx p (List.mem_cons_of_mem _ hp))
      have h5 := ok_small3 (hx x (List.mem_cons_self ..))
      have e : bulkPts (x :: xs) = 1 + (bulkA x.atom + bulkPts xs) := by simp [bulkPts, sumL, bulkPt]; omega
      rw [e]; simp only [List.length_cons]; omega
  have := key r.body h2
  have := ok_small3 h3
  unfold bulkR
  omega
theorem D.ruleL_small4 (r : Ru) (h1 : r.head.name.size ≤ 16) (h2 : r.head.args.length ≤ 4) (h3 : ∀ t ∈ r.head.args, t.name.size ≤ 16) (h : ∀ x ∈ r.body, PtS x) : (ruleL r).length ≤ 95 + 95 * r.body.length := by
  have h4 := bodyL_small r.body h
  have h5 := small_atom2 h1 h2 h3
  have h6 := putL_le r.head
  unfold ruleL
  have e : ifL.length = 4 := rfl
  split <;> simp only [List.length_append, List.length_nil, e] <;> omega

set_option maxRecDepth 100000 in
set_option maxHeartbeats 8000000 in
theorem ruleTextLaw_walk (xs : List UInt8) (v1 : Value) (bs1 : List Nat) (ys : List UInt8) (v2 : Value) (bs2 : List Nat) (m : Int) (w : World) (h1 : bytesK w [v1] xs bs1) (h2 : bytesK w [v2] ys bs2) (hmx : w.cell? ⟨0, 0, none⟩ = some (.int .i64 m)) :
    Calls Tryd.prog 6 #[v1, v2] w fun e w' => e = .returned (.bool true) ∧ Below w.heap.size w w' := by
  obtain ⟨Ad, cap, rfl, hl, hm⟩ := sliceK_form h1
  obtain ⟨Ae, cape, rfl, hl2, hm2⟩ := sliceK_form h2
  have hlm := nat_ge_max (Nat.le_trans hl hm)
  have hlm2 := nat_ge_max (Nat.le_trans hl2 hm2)
  clear hl hm hl2 hm2
  by_cases hn : xs.length ≤ 1048576
  · by_cases hn2 : ys.length ≤ 1048576
    · have hd := drawRulePut_any _ xs bs1 w h1 hn
      have HD2 := Lib.hid (fun w' (hb : Below w.heap.size w w') => drawRuleGet_any _ ys bs2 w' (bytesK_good.below h2 hb) hn2)
      have HMX := Lib.hid hmx
      have hn' : ¬ (1048576 : Int) < (xs.length : Int) := by omega
      have hn2' : ¬ (1048576 : Int) < (ys.length : Int) := by omega
      clear h1 h2 hn hn2 hmx
      go_enter Tryd.func6, Tryd.ntmps6
      go_wp2_with fail
      refine hd.mono ?_
      rintro e w1 ⟨r, A1, c1, E1, d1, b1, rfl, hR1, hs1, hs2, hs3, hx5, hsm, B1⟩
      have hbk := body_bulk hsm
      have hba := small_atom2 hs1 hs2 hs3
      have hpz := putR_size (r := r) (by have := ruleL_small4 r hs1 hs2 hs3 hsm; omega)
      have hbr : bulkR r ≤ 16777216 := by unfold bulkR; omega
      have hA1 : Below w1.heap.size w1 (w1.alloc (.cells #[.string r.head.name, .slice A1 r.head.args.length c1, .slice E1 r.body.length d1] 36)) := (Below.refl _ _).alloc (Nat.le_refl _) _
      have C1 := B1.trans (hA1.mono B1.size)
      have x0 : (w1.alloc (.cells #[.string r.head.name, .slice A1 r.head.args.length c1, .slice E1 r.body.length d1] 36)).cell? ⟨w1.heap.size, 0, none⟩ = some (.string r.head.name) := by go_simp
      have x1 : (w1.alloc (.cells #[.string r.head.name, .slice A1 r.head.args.length c1, .slice E1 r.body.length d1] 36)).cell? ⟨w1.heap.size, 1, none⟩ = some (.slice A1 r.head.args.length c1) := by go_simp
      have x2 : (w1.alloc (.cells #[.string r.head.name, .slice A1 r.head.args.length c1, .slice E1 r.body.length d1] 36)).cell? ⟨w1.heap.size, 2, none⟩ = some (.slice E1 r.body.length d1) := by go_simp
      have q1 := rulePut_impl r _ _ _ b1 _ (ruleK_good.below hR1 hA1) hbr
      have HR1 := Lib.hid (ruleK_good.below hR1 hA1)
      have HBR := Lib.hid hbr
      have HPZ := Lib.hid hpz
      have HGP := Lib.hid (rule_get_put r)
      have HEM := putR_empty r
      clear hd hR1 hs1 hs2 hs3 hx5 hsm B1 hbk hba hpz hbr
      go_wp2_with fail
      refine q1.mono ?_
      rintro e w2 ⟨rfl, hb2⟩
      have C2 := C1.trans (hb2.mono C1.size)
      replace HR1 := Lib.hid (ruleK_good.below HR1.out hb2)
      replace x0 := cell_later hb2 x0
      replace x1 := cell_later hb2 x1
      replace x2 := cell_later hb2 x2
      have q2 := ruleGet_impl (putR r) m w2 (by have := HPZ.out; omega) (cell_later C2 HMX.out)
      rw [HGP.out] at q2
      have HQ3 := Lib.hid (fun w' (hP : ruleK w' [.string r.head.name, .slice A1 r.head.args.length c1, .slice E1 r.body.length d1] r b1) => rulePut_spec r _ _ _ b1 w' hP HBR.out)
      generalize putR r = S at *
      generalize ruleOk r = ok at *
      clear q1 hb2 C1 HGP HPZ HBR hA1
      cases ok
      · rw [if_neg (by decide)] at q2
        have hem : S.toList.isEmpty = true := HEM
        clear HEM
        go_wp2_with fail
        refine q2.mono ?_
        rintro e w3 ⟨hb3, cs3, b3, rfl, hR3, hN3⟩
        obtain ⟨A3, c3, E3, d3, rfl⟩ := rule_cells hR3
        dsimp only [Option.getD_some, Option.getD_none] at hR3 ⊢
        have hA3 : Below w3.heap.size w3 (w3.alloc (.cells #[.string zeroR.head.name, .slice A3 zeroR.head.args.length c3, .slice E3 zeroR.body.length d3] 36)) := (Below.refl _ _).alloc (Nat.le_refl _) _
        have e3 := hb3.trans (hA3.mono hb3.size)
        have C3 := C2.trans (e3.mono C2.size)
        replace HR1 := Lib.hid (ruleK_good.below HR1.out e3)
        replace x0 := cell_later e3 x0
        replace x1 := cell_later e3 x1
        replace x2 := cell_later e3 x2
        have y0 : (w3.alloc (.cells #[.string zeroR.head.name, .slice A3 zeroR.head.args.length c3, .slice E3 zeroR.body.length d3] 36)).cell? ⟨w3.heap.size, 0, none⟩ = some (.string zeroR.head.name) := by go_simp
        have y1 : (w3.alloc (.cells #[.string zeroR.head.name, .slice A3 zeroR.head.args.length c3, .slice E3 zeroR.body.length d3] 36)).cell? ⟨w3.heap.size, 1, none⟩ = some (.slice A3 zeroR.head.args.length c3) := by go_simp
        have y2 : (w3.alloc (.cells #[.string zeroR.head.name, .slice A3 zeroR.head.args.length c3, .slice E3 zeroR.body.length d3] 36)).cell? ⟨w3.heap.size, 2, none⟩ = some (.slice E3 zeroR.body.length d3) := by go_simp
        have HR3 := Lib.hid (ruleK_good.below hR3 hA3)
        have q3 := HQ3.out _ HR1.out
        clear q2 hb3 hR3 hN3 hA3 e3 C2 HQ3
        go_wp2_with fail
        refine q3.mono ?_
        rintro e w4 ⟨rfl, hb4⟩
        replace C3 := C3.trans (hb4.mono C3.size)
        replace HR1 := Lib.hid (ruleK_good.below HR1.out hb4)
        replace HR3 := Lib.hid (ruleK_good.below HR3.out hb4)
        replace x0 := cell_later hb4 x0
        replace x1 := cell_later hb4 x1
        replace x2 := cell_later hb4 x2
        replace y0 := cell_later hb4 y0
        replace y1 := cell_later hb4 y1
        replace y2 := cell_later hb4 y2
        clear q3 hb4
        have HC := Lib.hid C3
        clear HR1 HR3 C3 x0 x1 x2 y0 y1 y2
        have hd2 := HD2.out _ HC.out
        go_wp2_with fail
        refine hd2.mono ?_
        rintro e u1 ⟨t, rfl, ht, hd3⟩
        have HT := Lib.hid (HC.out.trans (hd3.mono HC.out.size))
        have q7 := ruleGet_impl t m u1 (by omega) (cell_later HT.out HMX.out)
        have q8 := fun w' => ruleGet_spec t w' (by omega)
        simp only [ruleS_ruleI] at q8
        have HBK : Hid ((ruleI t.data.toList).isSome = true → putR ((ruleI t.data.toList).getD zeroR) = t ∧ bulkR ((ruleI t.data.toList).getD zeroR) ≤ 16777216) := Lib.hid (by
          cases hv : ruleI t.data.toList with
          | none => exact fun h => by cases h
          | some q => exact fun _ => ⟨rule_put_back hv, rule_bulk hv⟩)
        unfold MakesRu at q7
        unfold ReadsRu at q8
        generalize (ruleI t.data.toList).isSome = fine at *
        generalize (ruleI t.data.toList).getD zeroR = y at *
        clear hd2 hd3 ht HMX HC HD2
        go_wp2_with fail
        refine q7.mono ?_
        rintro e u2 ⟨hb2, cs2, b2, rfl, hR2, hN2⟩
        obtain ⟨A2, c2, E2, d2, rfl⟩ := rule_cells hR2
        have hA2 : Below u2.heap.size u2 (u2.alloc (.cells #[.string y.head.name, .slice A2 y.head.args.length c2, .slice E2 y.body.length d2] 36)) := (Below.refl _ _).alloc (Nat.le_refl _) _
        have e2 := hb2.trans (hA2.mono hb2.size)
        have HT2 := Lib.hid (HT.out.trans (e2.mono HT.out.size))
        have z0 : (u2.alloc (.cells #[.string y.head.name, .slice A2 y.head.args.length c2, .slice E2 y.body.length d2] 36)).cell? ⟨u2.heap.size, 0, none⟩ = some (.string y.head.name) := by go_simp
        have z1 : (u2.alloc (.cells #[.string y.head.name, .slice A2 y.head.args.length c2, .slice E2 y.body.length d2] 36)).cell? ⟨u2.heap.size, 1, none⟩ = some (.slice A2 y.head.args.length c2) := by go_simp
        have z2 : (u2.alloc (.cells #[.string y.head.name, .slice A2 y.head.args.length c2, .slice E2 y.body.length d2] 36)).cell? ⟨u2.heap.size, 2, none⟩ = some (.slice E2 y.body.length d2) := by go_simp
        have HR2 := Lib.hid (ruleK_good.below hR2 hA2)
        have q8a := q8 (u2.alloc (.cells #[.string y.head.name, .slice A2 y.head.args.length c2, .slice E2 y.body.length d2] 36))
        clear q7 q8 hb2 hR2 hN2 HT hA2 e2
        go_wp2_with fail
        refine q8a.mono ?_
        rintro e u3 ⟨hb3, cs3, b3, rfl, hR3⟩
        obtain ⟨A3, c3, E3, d3, rfl⟩ := rule_cells hR3
        have hA3 : Below u3.heap.size u3 (u3.alloc (.cells #[.string y.head.name, .slice A3 y.head.args.length c3, .slice E3 y.body.length d3] 36)) := (Below.refl _ _).alloc (Nat.le_refl _) _
        have e3 := hb3.trans (hA3.mono hb3.size)
        have HT3 := Lib.hid (HT2.out.trans (e3.mono HT2.out.size))
        replace z0 := cell_later e3 z0
        replace z1 := cell_later e3 z1
        replace z2 := cell_later e3 z2
        have v0 : (u3.alloc (.cells #[.string y.head.name, .slice A3 y.head.args.length c3, .slice E3 y.body.length d3] 36)).cell? ⟨u3.heap.size, 0, none⟩ = some (.string y.head.name) := by go_simp
        have v1 : (u3.alloc (.cells #[.string y.head.name, .slice A3 y.head.args.length c3, .slice E3 y.body.length d3] 36)).cell? ⟨u3.heap.size, 1, none⟩ = some (.slice A3 y.head.args.length c3) := by go_simp
        have v2 : (u3.alloc (.cells #[.string y.head.name, .slice A3 y.head.args.length c3, .slice E3 y.body.length d3] 36)).cell? ⟨u3.heap.size, 2, none⟩ = some (.slice E3 y.body.length d3) := by go_simp
        replace HR2 := Lib.hid (ruleK_good.below HR2.out e3)
        have q9 := fsRule_any y y _ _ _ _ _ _ _ _ _ HR2.out (ruleK_good.below hR3 hA3)
        clear q8a hb3 hR3 HT2 hA3 e3
        cases fine
        · go_wp2_with fail
          refine q9.mono ?_
          rintro e u4 ⟨r9, rfl, hr9, hb9⟩
          obtain rfl : r9 = true := (by first | exact hr9.2 rfl | exact hr9.2 trivial)
          have HZ := Lib.hid (HT3.out.trans (hb9.mono HT3.out.size))
          clear q9 hb9 hr9
          go_wp2
          go_ret
          exact ⟨rfl, HZ.out⟩
        · go_wp2_with fail
          refine q9.mono ?_
          rintro e u4 ⟨r9, rfl, hr9, hb9⟩
          obtain rfl : r9 = true := (by first | exact hr9.2 rfl | exact hr9.2 trivial)
          have HT4 := Lib.hid (HT3.out.trans (hb9.mono HT3.out.size))
          replace z0 := cell_later hb9 z0
          replace z1 := cell_later hb9 z1
          replace z2 := cell_later hb9 z2
          have q10 := rulePut_impl y _ _ _ b2 u4 (ruleK_good.below HR2.out hb9) (HBK.out (by trivial)).2
          rw [(HBK.out (by trivial)).1] at q10
          clear q9 hb9 hr9 HR2 HT3 HBK v0 v1 v2
          go_wp2_with fail
          refine q10.mono ?_
          rintro e u5 ⟨rfl, hb10⟩
          have HZ := Lib.hid (HT4.out.trans (hb10.mono HT4.out.size))
          clear q10 hb10
          go_wp2
          go_ret
          exact ⟨rfl, HZ.out⟩
      · rw [if_pos rfl] at q2
        have hem : S.toList.isEmpty = false := HEM
        clear HEM
        go_wp2_with fail
        refine q2.mono ?_
        rintro e w3 ⟨hb3, cs3, b3, rfl, hR3, hN3⟩
        obtain ⟨A3, c3, E3, d3, rfl⟩ := rule_cells hR3
        dsimp only [Option.getD_some, Option.getD_none] at hR3 ⊢
        have hA3 : Below w3.heap.size w3 (w3.alloc (.cells #[.string r.head.name, .slice A3 r.head.args.length c3, .slice E3 r.body.length d3] 36)) := (Below.refl _ _).alloc (Nat.le_refl _) _
        have e3 := hb3.trans (hA3.mono hb3.size)
        have C3 := C2.trans (e3.mono C2.size)
        replace HR1 := Lib.hid (ruleK_good.below HR1.out e3)
        replace x0 := cell_later e3 x0
        replace x1 := cell_later e3 x1
        replace x2 := cell_later e3 x2
        have y0 : (w3.alloc (.cells #[.string r.head.name, .slice A3 r.head.args.length c3, .slice E3 r.body.length d3] 36)).cell? ⟨w3.heap.size, 0, none⟩ = some (.string r.head.name) := by go_simp
        have y1 : (w3.alloc (.cells #[.string r.head.name, .slice A3 r.head.args.length c3, .slice E3 r.body.length d3] 36)).cell? ⟨w3.heap.size, 1, none⟩ = some (.slice A3 r.head.args.length c3) := by go_simp
        have y2 : (w3.alloc (.cells #[.string r.head.name, .slice A3 r.head.args.length c3, .slice E3 r.body.length d3] 36)).cell? ⟨w3.heap.size, 2, none⟩ = some (.slice E3 r.body.length d3) := by go_simp
        have HR3 := Lib.hid (ruleK_good.below hR3 hA3)
        have q3 := HQ3.out _ HR1.out
        clear q2 hb3 hR3 hN3 hA3 e3 C2 HQ3
        go_wp2_with fail
        refine q3.mono ?_
        rintro e w4 ⟨rfl, hb4⟩
        replace C3 := C3.trans (hb4.mono C3.size)
        replace HR1 := Lib.hid (ruleK_good.below HR1.out hb4)
        replace HR3 := Lib.hid (ruleK_good.below HR3.out hb4)
        replace x0 := cell_later hb4 x0
        replace x1 := cell_later hb4 x1
        replace x2 := cell_later hb4 x2
        replace y0 := cell_later hb4 y0
        replace y1 := cell_later hb4 y1
        replace y2 := cell_later hb4 y2
        clear q3 hb4
        have q4 := fsRule_any r r _ _ _ _ _ _ _ _ _ HR3.out HR1.out
        go_wp2_with fail
        refine q4.mono ?_
        rintro e w5 ⟨r5, rfl, hr5, hb5⟩
        obtain rfl : r5 = true := (by first | exact hr5.2 rfl | exact hr5.2 trivial)
        have HC := Lib.hid (C3.trans (hb5.mono C3.size))
        clear q4 hb5 hr5 HR1 HR3 C3 x0 x1 x2 y0 y1 y2
        have hd2 := HD2.out _ HC.out
        go_wp2_with fail
        refine hd2.mono ?_
        rintro e u1 ⟨t, rfl, ht, hd3⟩
        have HT := Lib.hid (HC.out.trans (hd3.mono HC.out.size))
        have q7 := ruleGet_impl t m u1 (by omega) (cell_later HT.out HMX.out)
        have q8 := fun w' => ruleGet_spec t w' (by omega)
        simp only [ruleS_ruleI] at q8
        have HBK : Hid ((ruleI t.data.toList).isSome = true → putR ((ruleI t.data.toList).getD zeroR) = t ∧ bulkR ((ruleI t.data.toList).getD zeroR) ≤ 16777216) := Lib.hid (by
          cases hv : ruleI t.data.toList with
          | none => exact fun h => by cases h
          | some q => exact fun _ => ⟨rule_put_back hv, rule_bulk hv⟩)
        unfold MakesRu at q7
        unfold ReadsRu at q8
        generalize (ruleI t.data.toList).isSome = fine at *
        generalize (ruleI t.data.toList).getD zeroR = y at *
        clear hd2 hd3 ht HMX HC HD2
        go_wp2_with fail
        refine q7.mono ?_
        rintro e u2 ⟨hb2, cs2, b2, rfl, hR2, hN2⟩
        obtain ⟨A2, c2, E2, d2, rfl⟩ := rule_cells hR2
        have hA2 : Below u2.heap.size u2 (u2.alloc (.cells #[.string y.head.name, .slice A2 y.head.args.length c2, .slice E2 y.body.length d2] 36)) := (Below.refl _ _).alloc (Nat.le_refl _) _
        have e2 := hb2.trans (hA2.mono hb2.size)
        have HT2 := Lib.hid (HT.out.trans (e2.mono HT.out.size))
        have z0 : (u2.alloc (.cells #[.string y.head.name, .slice A2 y.head.args.length c2, .slice E2 y.body.length d2] 36)).cell? ⟨u2.heap.size, 0, none⟩ = some (.string y.head.name) := by go_simp
        have z1 : (u2.alloc (.cells #[.string y.head.name, .slice A2 y.head.args.length c2, .slice E2 y.body.length d2] 36)).cell? ⟨u2.heap.size, 1, none⟩ = some (.slice A2 y.head.args.length c2) := by go_simp
        have z2 : (u2.alloc (.cells #[.string y.head.name, .slice A2 y.head.args.length c2, .slice E2 y.body.length d2] 36)).cell? ⟨u2.heap.size, 2, none⟩ = some (.slice E2 y.body.length d2) := by go_simp
        have HR2 := Lib.hid (ruleK_good.below hR2 hA2)
        have q8a := q8 (u2.alloc (.cells #[.string y.head.name, .slice A2 y.head.args.length c2, .slice E2 y.body.length d2] 36))
        clear q7 q8 hb2 hR2 hN2 HT hA2 e2
        go_wp2_with fail
        refine q8a.mono ?_
        rintro e u3 ⟨hb3, cs3, b3, rfl, hR3⟩
        obtain ⟨A3, c3, E3, d3, rfl⟩ := rule_cells hR3
        have hA3 : Below u3.heap.size u3 (u3.alloc (.cells #[.string y.head.name, .slice A3 y.head.args.length c3, .slice E3 y.body.length d3] 36)) := (Below.refl _ _).alloc (Nat.le_refl _) _
        have e3 := hb3.trans (hA3.mono hb3.size)
        have HT3 := Lib.hid (HT2.out.trans (e3.mono HT2.out.size))
        replace z0 := cell_later e3 z0
        replace z1 := cell_later e3 z1
        replace z2 := cell_later e3 z2
        have v0 : (u3.alloc (.cells #[.string y.head.name, .slice A3 y.head.args.length c3, .slice E3 y.body.length d3] 36)).cell? ⟨u3.heap.size, 0, none⟩ = some (.string y.head.name) := by go_simp
        have v1 : (u3.alloc (.cells #[.string y.head.name, .slice A3 y.head.args.length c3, .slice E3 y.body.length d3] 36)).cell? ⟨u3.heap.size, 1, none⟩ = some (.slice A3 y.head.args.length c3) := by go_simp
        have v2 : (u3.alloc (.cells #[.string y.head.name, .slice A3 y.head.args.length c3, .slice E3 y.body.length d3] 36)).cell? ⟨u3.heap.size, 2, none⟩ = some (.slice E3 y.body.length d3) := by go_simp
        replace HR2 := Lib.hid (ruleK_good.below HR2.out e3)
        have q9 := fsRule_any y y _ _ _ _ _ _ _ _ _ HR2.out (ruleK_good.below hR3 hA3)
        clear q8a hb3 hR3 HT2 hA3 e3
        cases fine
        · go_wp2_with fail
          refine q9.mono ?_
          rintro e u4 ⟨r9, rfl, hr9, hb9⟩
          obtain rfl : r9 = true := (by first | exact hr9.2 rfl | exact hr9.2 trivial)
          have HZ := Lib.hid (HT3.out.trans (hb9.mono HT3.out.size))
          clear q9 hb9 hr9
          go_wp2
          go_ret
          exact ⟨rfl, HZ.out⟩
        · go_wp2_with fail
          refine q9.mono ?_
          rintro e u4 ⟨r9, rfl, hr9, hb9⟩
          obtain rfl : r9 = true := (by first | exact hr9.2 rfl | exact hr9.2 trivial)
          have HT4 := Lib.hid (HT3.out.trans (hb9.mono HT3.out.size))
          replace z0 := cell_later hb9 z0
          replace z1 := cell_later hb9 z1
          replace z2 := cell_later hb9 z2
          have q10 := rulePut_impl y _ _ _ b2 u4 (ruleK_good.below HR2.out hb9) (HBK.out (by trivial)).2
          rw [(HBK.out (by trivial)).1] at q10
          clear q9 hb9 hr9 HR2 HT3 HBK v0 v1 v2
          go_wp2_with fail
          refine q10.mono ?_
          rintro e u5 ⟨rfl, hb10⟩
          have HZ := Lib.hid (HT4.out.trans (hb10.mono HT4.out.size))
          clear q10 hb10
          go_wp2
          go_ret
          exact ⟨rfl, HZ.out⟩
    · have hn' : ¬ (1048576 : Int) < (xs.length : Int) := by omega
      have hn2' : (1048576 : Int) < (ys.length : Int) := by omega
      clear h1 h2
      go_enter Tryd.func6, Tryd.ntmps6
      go_wp2
      go_ret
      exact ⟨rfl, Below.refl _ _⟩
  · have hn' : (1048576 : Int) < (xs.length : Int) := by omega
    clear h1 h2
    go_enter Tryd.func6, Tryd.ntmps6
    go_wp2
    go_ret
    exact ⟨rfl, Below.refl _ _⟩

end Go.Proofs.YtmhjabjiojfgnaaDoor
