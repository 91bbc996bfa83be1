/- The walk of the law FnAskText. -/
import Derived.Laws.EntriesVeiled
import Derived.Deep.RegionHeld3
import Derived.Deep.RegionWith
import Derived.BigQuiet
import Derived.Deep.DrawnRows
import Derived.WalkKit
import Derived.WalkSpells
import Derived.WalkLawsBesides
import Derived.Lib.Hide
import Derived.Test.YtmhjabjiojfgnaaDoorDrawK
import Derived.Test.YtmhjabjiojfgnaaDoorDrawAG
import Derived.Test.YtmhjabjiojfgnaaDoorAskGS
import Derived.Test.YtmhjabjiojfgnaaDoorAskGI
import Derived.Test.YtmhjabjiojfgnaaDoorFsP
namespace Go.Proofs.YtmhjabjiojfgnaaDoor
open Go.RowKit D
set_option linter.unusedVariables false
attribute [local go_sem ↓] Go.wp_at_zero Go.wp_at_succ

theorem D.ok_small2 {a : A} (h : atomOk a = true) : bulkA a ≤ 100 := by
  unfold atomOk at h
  simp only [Bool.and_eq_true, decide_eq_true_eq, List.all_eq_true] at h
  have h1 := name_len h.1.1
  have hz : a.name.data.toList.length = a.name.size := Array.length_toList
  have h2 := small_bulk2 a.args fun t ht => by
    have := (term_no44 (h.2 t ht)).2.2
    have hz : t.name.data.toList.length = t.name.size := Array.length_toList
    omega
  unfold bulkA
  omega
theorem D.ask_get_put (ps : List Pt) : askI (askPutS ps).data.toList = if askOk ps then some ps else none := by
  by_cases h : askOk ps = true
  · rw [if_pos h]
    have e : (askPutS ps).data.toList = bodyL ps := by unfold askPutS; rw [if_pos h]
    rw [e, askI_full h]
  · rw [if_neg h]
    have e : (askPutS ps).data.toList = [] := by unfold askPutS; rw [if_neg h]
    rw [e]
    cases hs : askI [] with
    | none => rfl
    | some r =>
      obtain ⟨h1, h2⟩ := askI_sound hs
      exact absurd h2 (bodyL_ne (askOk_body h1).1)
theorem D.ask_put_back {t : ByteArray} {ps : List Pt} (h : askI t.data.toList = some ps) : askPutS ps = t := by
  obtain ⟨h1, h2⟩ := askI_sound h
  unfold askPutS
  rw [if_pos h1, h2]
theorem D.ask_bulk {t : List UInt8} {ps : List Pt} (h : askI t = some ps) : bulkPts ps ≤ 16777216 := by
  obtain ⟨_, h1, h2⟩ := askOk_body (askI_sound h).1
  have key : ∀ xs : List Pt, (∀ p ∈ xs, atomOk p.atom = true) → bulkPts xs ≤ 101 * xs.length := by
    intro xs
    induction xs with
    | nil => intro _; simp [bulkPts, sumL]
    | cons x xs ih =>
      intro hx
      have h4 := ih (fun p hp => hx p (List.mem_cons_of_mem _ hp))
      have h5 := ok_small2 (hx x (List.mem_cons_self ..))
      have e : bulkPts (x :: xs) = 1 + (bulkA x.atom + bulkPts xs) := by simp [bulkPts, sumL, bulkPt]; omega
      rw [e]; simp only [List.length_cons]; omega
  have := key ps h2
  omega
theorem D.askPut_size {ps : List Pt} (h : (bodyL ps).length ≤ 1000) : (askPutS ps).size ≤ 1000 := by
  unfold askPutS
  split
  · have : (⟨(bodyL ps).toArray⟩ : ByteArray).size = (bodyL ps).length := List.size_toArray
    omega
  · exact Nat.zero_le _

set_option maxRecDepth 100000 in
set_option maxHeartbeats 8000000 in
theorem askTextLaw_walk (xs : List UInt8) (v1 : Value) (bs1 : List Nat) (ys : List UInt8) (v2 : Value) (bs2 : List Nat) (m : Int) (w : World) (h1 : bytesK w [v1] xs bs1) (h2 : bytesK w [v2] ys bs2) (hmx : w.cell? ⟨0, 0, none⟩ = some (.int .i64 m)) :
    Calls Tryd.prog 7 #[v1, v2] w fun e w' => e = .returned (.bool true) ∧ Below w.heap.size w w' := by
  obtain ⟨Ad, cap, rfl, hl, hm⟩ := sliceK_form h1
  obtain ⟨Ae, cape, rfl, hl2, hm2⟩ := sliceK_form h2
  have hlm := nat_ge_max (Nat.le_trans hl hm)
  have hlm2 := nat_ge_max (Nat.le_trans hl2 hm2)
  clear hl hm hl2 hm2
  by_cases hn : xs.length ≤ 1048576
  · by_cases hn2 : ys.length ≤ 1048576
    · have hd := drawAskPut_any _ xs bs1 w h1 hn
      have HD2 := Lib.hid (fun w' (hb : Below w.heap.size w w') => drawAskGet_any _ ys bs2 w' (bytesK_good.below h2 hb) hn2)
      have HMX := Lib.hid hmx
      have hn' : ¬ (1048576 : Int) < (xs.length : Int) := by omega
      have hn2' : ¬ (1048576 : Int) < (ys.length : Int) := by omega
      clear h1 h2 hn hn2 hmx
      go_enter Tryd.func7, Tryd.ntmps7
      go_wp2_with fail
      refine hd.mono ?_
      rintro e w1 ⟨ps, A1, c1, b1, rfl, hR1, hx5, hsm, B1⟩
      have hbk := body_bulk hsm
      have hpz := askPut_size (ps := ps) (by have := bodyL_small ps hsm; omega)
      have q1 := askPut_impl ps _ b1 w1 hR1 (by omega)
      have HR1 := Lib.hid hR1
      have HBK := Lib.hid hbk
      have HX := Lib.hid hx5
      have HPZ := Lib.hid hpz
      have HB1 := Lib.hid B1
      have HGP := Lib.hid (ask_get_put ps)
      clear hd hR1 hx5 hsm hbk hpz B1
      go_wp2_with fail
      refine q1.mono ?_
      rintro e w2 ⟨rfl, hb2⟩
      have HB2 := Lib.hid (HB1.out.trans (hb2.mono HB1.out.size))
      replace HR1 := Lib.hid (partsK_good.below HR1.out hb2)
      have q2 := askGet_impl (askPutS ps) m w2 (by have := HPZ.out; omega) (cell_later HB2.out HMX.out)
      rw [HGP.out] at q2
      have HQ3 := Lib.hid (fun b3 w' (hP : partsK w' [.slice A1 ps.length c1] ps b3) => askPut_spec ps _ b3 w' hP (by have := HBK.out; have := HX.out; omega))
      have HQ4 := Lib.hid (fun b3 w' (hP : partsK w' [.slice A1 ps.length c1] ps b3) => askOk_impl ps _ b3 w' hP)
      have HQ5 := Lib.hid (fun b3 w' (hP : partsK w' [.slice A1 ps.length c1] ps b3) => askOk_spec ps _ b3 w' hP)
      generalize askPutS ps = S at *
      generalize askOk ps = ok at *
      clear q1 hb2 HB1 HGP HPZ HX HBK
      have HTX : ∀ (w5 : World) (t : ByteArray), True := fun _ _ => trivial
      clear HTX
      cases ok
      · rw [if_neg (by decide)] at q2
        go_wp2_with fail
        refine q2.mono ?_
        rintro e w3 ⟨hb3, v3, b3, rfl, hR3, hN3⟩
        obtain ⟨A3, c3, rfl, _⟩ := sliceK_form hR3
        have HB3 := Lib.hid (HB2.out.trans (hb3.mono HB2.out.size))
        replace HR1 := Lib.hid (partsK_good.below HR1.out hb3)
        have q3 := HQ3.out _ _ HR1.out
        clear q2 hb3 hR3 hN3 HB2 HQ3
        go_wp2_with fail
        refine q3.mono ?_
        rintro e w4 ⟨rfl, hb4⟩
        replace HB3 := Lib.hid (HB3.out.trans (hb4.mono HB3.out.size))
        replace HR1 := Lib.hid (partsK_good.below HR1.out hb4)
        have q4 := HQ4.out _ _ HR1.out
        clear q3 hb4 HQ4
        go_wp2_with fail
        refine q4.mono ?_
        rintro e w5 ⟨rfl, hb5⟩
        replace HB3 := Lib.hid (HB3.out.trans (hb5.mono HB3.out.size))
        replace HR1 := Lib.hid (partsK_good.below HR1.out hb5)
        have q5 := HQ5.out _ _ HR1.out
        clear q4 hb5
        go_wp2_with fail
        refine q5.mono ?_
        rintro e w6 ⟨rfl, hb6⟩
        replace HB3 := Lib.hid (HB3.out.trans (hb6.mono HB3.out.size))
        replace HR1 := Lib.hid (partsK_good.below HR1.out hb6)
        have q6 := HQ5.out _ _ HR1.out
        clear q5 hb6 HQ5
        go_wp2_with fail
        refine q6.mono ?_
        rintro e w7 ⟨rfl, hb7⟩
        have HC := Lib.hid (HB3.out.trans (hb7.mono HB3.out.size))
        clear q6 hb7 HR1 HB3
        have hd2 := HD2.out _ HC.out
        go_wp2_with fail
        refine hd2.mono ?_
        rintro e u1 ⟨t, rfl, ht, hd3⟩
        have HT := Lib.hid (HC.out.trans (hd3.mono HC.out.size))
        have q7 := askGet_impl t m u1 (by omega) (cell_later HT.out HMX.out)
        have q8 := fun w' => askGet_spec t w' (by omega)
        simp only [askS_askI] at q8
        have HBK := Lib.hid (fun ps => ask_put_back (t := t) (ps := ps))
        have HOK := Lib.hid (fun ps (h : askI t.data.toList = some ps) => ask_bulk h)
        generalize askI t.data.toList = V at *
        clear hd2 hd3 ht HMX HC HD2
        go_wp2_with fail
        refine q7.mono ?_
        rintro e u2 ⟨hb2, v2, b2, rfl, hR2, hN2⟩
        obtain ⟨A2, c2, rfl, _⟩ := sliceK_form hR2
        have HT2 := Lib.hid (HT.out.trans (hb2.mono HT.out.size))
        have HR2 := Lib.hid hR2
        have q8a := q8 u2
        clear q7 q8 hb2 hR2 hN2 HT
        go_wp2_with fail
        refine q8a.mono ?_
        rintro e u3 ⟨hb3, v3, b3, rfl, hR3⟩
        obtain ⟨A3, c3, rfl, _⟩ := sliceK_form hR3
        have HT3 := Lib.hid (HT2.out.trans (hb3.mono HT2.out.size))
        replace HR2 := Lib.hid (partsK_good.below HR2.out hb3)
        have HR3 := Lib.hid hR3
        have q9 := fsParts_any (V.getD []) (V.getD []) _ _ _ _ _ HR2.out HR3.out
        clear q8a hb3 hR3 HT2
        cases V with
        | none =>
          go_wp2_with fail
          refine q9.mono ?_
          rintro e u4 ⟨r9, rfl, hr9, hb9⟩
          obtain rfl : r9 = true := (by first | exact hr9.2 rfl | exact hr9.2 trivial)
          have HZ := Lib.hid (HT3.out.trans (hb9.mono HT3.out.size))
          clear q9 hb9 hr9
          go_wp2
          go_ret
          exact ⟨rfl, HZ.out⟩
        | some qs =>
          go_wp2_with fail
          refine q9.mono ?_
          rintro e u4 ⟨r9, rfl, hr9, hb9⟩
          obtain rfl : r9 = true := (by first | exact hr9.2 rfl | exact hr9.2 trivial)
          have HT4 := Lib.hid (HT3.out.trans (hb9.mono HT3.out.size))
          have q10 := askPut_impl qs _ b2 u4 (partsK_good.below HR2.out hb9) (HOK.out _ rfl)
          have hpe := HBK.out _ rfl
          rw [hpe] at q10
          clear q9 hb9 hr9 HR2 HR3 HT3 hpe HBK HOK
          go_wp2_with fail
          refine q10.mono ?_
          rintro e u5 ⟨rfl, hb10⟩
          have HZ := Lib.hid (HT4.out.trans (hb10.mono HT4.out.size))
          clear q10 hb10
          go_wp2
          go_ret
          exact ⟨rfl, HZ.out⟩
      · rw [if_pos rfl] at q2
        go_wp2_with fail
        refine q2.mono ?_
        rintro e w3 ⟨hb3, v3, b3, rfl, hR3, hN3⟩
        obtain ⟨A3, c3, rfl, _⟩ := sliceK_form hR3
        dsimp only [Option.getD_some] at hR3 ⊢
        have HB3 := Lib.hid (HB2.out.trans (hb3.mono HB2.out.size))
        replace HR1 := Lib.hid (partsK_good.below HR1.out hb3)
        have HR3 := Lib.hid hR3
        have q3 := HQ3.out _ _ HR1.out
        clear q2 hb3 hR3 hN3 HB2 HQ3
        go_wp2_with fail
        refine q3.mono ?_
        rintro e w4 ⟨rfl, hb4⟩
        replace HB3 := Lib.hid (HB3.out.trans (hb4.mono HB3.out.size))
        replace HR1 := Lib.hid (partsK_good.below HR1.out hb4)
        replace HR3 := Lib.hid (partsK_good.below HR3.out hb4)
        have q4 := HQ4.out _ _ HR1.out
        clear q3 hb4 HQ4
        go_wp2_with fail
        refine q4.mono ?_
        rintro e w5 ⟨rfl, hb5⟩
        replace HB3 := Lib.hid (HB3.out.trans (hb5.mono HB3.out.size))
        replace HR1 := Lib.hid (partsK_good.below HR1.out hb5)
        replace HR3 := Lib.hid (partsK_good.below HR3.out hb5)
        have q5 := HQ5.out _ _ HR1.out
        clear q4 hb5
        go_wp2_with fail
        refine q5.mono ?_
        rintro e w6 ⟨rfl, hb6⟩
        replace HB3 := Lib.hid (HB3.out.trans (hb6.mono HB3.out.size))
        replace HR1 := Lib.hid (partsK_good.below HR1.out hb6)
        replace HR3 := Lib.hid (partsK_good.below HR3.out hb6)
        have q6 := HQ5.out _ _ HR1.out
        clear q5 hb6 HQ5
        go_wp2_with fail
        refine q6.mono ?_
        rintro e w7 ⟨rfl, hb7⟩
        replace HB3 := Lib.hid (HB3.out.trans (hb7.mono HB3.out.size))
        replace HR1 := Lib.hid (partsK_good.below HR1.out hb7)
        replace HR3 := Lib.hid (partsK_good.below HR3.out hb7)
        have q7 := fsParts_any ps ps _ _ _ _ _ HR3.out HR1.out
        clear q6 hb7
        go_wp2_with fail
        refine q7.mono ?_
        rintro e w8 ⟨r8, rfl, hr8, hb8⟩
        obtain rfl : r8 = true := (by first | exact hr8.2 rfl | exact hr8.2 trivial)
        have HC := Lib.hid (HB3.out.trans (hb8.mono HB3.out.size))
        clear q7 hb8 hr8 HR1 HR3 HB3
        have hd2 := HD2.out _ HC.out
        go_wp2_with fail
        refine hd2.mono ?_
        rintro e u1 ⟨t, rfl, ht, hd3⟩
        have HT := Lib.hid (HC.out.trans (hd3.mono HC.out.size))
        have q7 := askGet_impl t m u1 (by omega) (cell_later HT.out HMX.out)
        have q8 := fun w' => askGet_spec t w' (by omega)
        simp only [askS_askI] at q8
        have HBK := Lib.hid (fun ps => ask_put_back (t := t) (ps := ps))
        have HOK := Lib.hid (fun ps (h : askI t.data.toList = some ps) => ask_bulk h)
        generalize askI t.data.toList = V at *
        clear hd2 hd3 ht HMX HC HD2
        go_wp2_with fail
        refine q7.mono ?_
        rintro e u2 ⟨hb2, v2, b2, rfl, hR2, hN2⟩
        obtain ⟨A2, c2, rfl, _⟩ := sliceK_form hR2
        have HT2 := Lib.hid (HT.out.trans (hb2.mono HT.out.size))
        have HR2 := Lib.hid hR2
        have q8a := q8 u2
        clear q7 q8 hb2 hR2 hN2 HT
        go_wp2_with fail
        refine q8a.mono ?_
        rintro e u3 ⟨hb3, v3, b3, rfl, hR3⟩
        obtain ⟨A3, c3, rfl, _⟩ := sliceK_form hR3
        have HT3 := Lib.hid (HT2.out.trans (hb3.mono HT2.out.size))
        replace HR2 := Lib.hid (partsK_good.below HR2.out hb3)
        have HR3 := Lib.hid hR3
        have q9 := fsParts_any (V.getD []) (V.getD []) _ _ _ _ _ HR2.out HR3.out
        clear q8a hb3 hR3 HT2
        cases V with
        | none =>
          go_wp2_with fail
          refine q9.mono ?_
          rintro e u4 ⟨r9, rfl, hr9, hb9⟩
          obtain rfl : r9 = true := (by first | exact hr9.2 rfl | exact hr9.2 trivial)
          have HZ := Lib.hid (HT3.out.trans (hb9.mono HT3.out.size))
          clear q9 hb9 hr9
          go_wp2
          go_ret
          exact ⟨rfl, HZ.out⟩
        | some qs =>
          go_wp2_with fail
          refine q9.mono ?_
          rintro e u4 ⟨r9, rfl, hr9, hb9⟩
          obtain rfl : r9 = true := (by first | exact hr9.2 rfl | exact hr9.2 trivial)
          have HT4 := Lib.hid (HT3.out.trans (hb9.mono HT3.out.size))
          have q10 := askPut_impl qs _ b2 u4 (partsK_good.below HR2.out hb9) (HOK.out _ rfl)
          have hpe := HBK.out _ rfl
          rw [hpe] at q10
          clear q9 hb9 hr9 HR2 HR3 HT3 hpe HBK HOK
          go_wp2_with fail
          refine q10.mono ?_
          rintro e u5 ⟨rfl, hb10⟩
          have HZ := Lib.hid (HT4.out.trans (hb10.mono HT4.out.size))
          clear q10 hb10
          go_wp2
          go_ret
          exact ⟨rfl, HZ.out⟩
    · have hn' : ¬ (1048576 : Int) < (xs.length : Int) := by omega
      have hn2' : (1048576 : Int) < (ys.length : Int) := by omega
      clear h1 h2
      go_enter Tryd.func7, Tryd.ntmps7
      go_wp2
      go_ret
      exact ⟨rfl, Below.refl _ _⟩
  · have hn' : (1048576 : Int) < (xs.length : Int) := by omega
    clear h1 h2
    go_enter Tryd.func7, Tryd.ntmps7
    go_wp2
    go_ret
    exact ⟨rfl, Below.refl _ _⟩

end Go.Proofs.YtmhjabjiojfgnaaDoor
