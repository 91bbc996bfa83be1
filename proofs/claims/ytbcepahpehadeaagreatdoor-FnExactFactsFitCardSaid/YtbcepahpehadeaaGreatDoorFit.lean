/- The walks of FactsFit, the program's and the reference's. -/
import Derived.WalkKit
import Derived.Lib.Hide
import Derived.WalkSpells
import Derived.WalkLawsBesides
import Derived.BigQuiet
import Derived.Deep.RegionHeld3
import Derived.Deep.RegionWith
import Derived.Deep.DrawnRows
import Derived.Test.YtbcepahpehadeaaGreatDoorHdI
import Derived.Test.YtbcepahpehadeaaGreatDoorHdS
import Derived.Test.YtbcepahpehadeaaGreatDoorFacts3
namespace Go.Proofs.YtbcepahpehadeaaGreatDoor
open Go.RowKit D
set_option linter.unusedVariables false
attribute [local go_sem ↓] Go.wp_at_zero Go.wp_at_succ

/-- A fact has az many terms az rules say. -/
def D.fit1 (az : List A) (x : A) : Bool := az.all fun a => !clash a x
def D.fitB (az : List A) (xs : List A) : Bool := xs.all (fit1 az)
def D.factsFit (rs : List Ru) (xs : List A) : Bool := decide (progC rs = 0) && factsOk xs && fitB (allAtoms rs) xs
theorem D.fit_map {az : List A} (h : alikeB az = true) (x : A) : fit1 az x = (!decide (x.name ∈ (argSt az).1) || decide ((argSt az).2.1 x.name = x.args.length)) := by
  obtain ⟨i1, _, i2, _⟩ := argSt_is az
  rw [Bool.eq_iff_iff]
  unfold fit1
  simp only [List.all_eq_true, Bool.or_eq_true, Bool.not_eq_true', decide_eq_false_iff_not, decide_eq_true_eq]
  constructor
  · intro hc
    by_cases hm : x.name ∈ (argSt az).1
    · obtain ⟨a, ha, e⟩ := (i1 _).1 hm
      have h1 := hc a ha
      have h2 := argSt_at h ha
      rw [e] at h2
      unfold clash at h1
      rw [decide_eq_true e, Bool.true_and, decide_eq_false_iff_not, Classical.not_not] at h1
      exact .inr (by rw [h2, h1])
    · exact .inl hm
  · intro hc a ha
    unfold clash
    by_cases e : a.name = x.name
    · have hm : x.name ∈ (argSt az).1 := (i1 _).2 ⟨a, ha, e⟩
      have h1 := hc.resolve_left fun h => h hm
      have h2 := argSt_at h ha
      rw [e, h1] at h2
      have : a.args.length = x.args.length := by exact_mod_cast h2.symm
      simp [this]
    · simp [e]
theorem D.fit_snoc (az xs : List A) (k : Nat) (h : k < xs.length) (h0 : fitB az (xs.take k) = true) : fitB az (xs.take (k + 1)) = fit1 az xs[k] := by
  unfold fitB at *
  rw [List.take_succ_eq_append_getElem h, List.all_append, h0]; simp
theorem D.fit_bad (az xs : List A) (k : Nat) (h : k < xs.length) (h0 : fit1 az xs[k] = false) : fitB az xs = false := List.all_eq_false.2 ⟨_, List.getElem_mem h, by simp [h0]⟩

set_option maxRecDepth 100000 in
set_option maxHeartbeats 1000000 in
theorem fitsArgs_any (a : A) (c0 c1 : Value) (bs : List Nat) (w : World) (B n : Nat) (L : List ByteArray) (f : ByteArray → Int) (h : atomK w [c0, c1] a bs) (hM : MapF B n L f w) (hf : ∀ s ∈ L, 0 ≤ f s ∧ f s ≤ 1000000) :
    Calls Tryz.prog 38 #[.map (some B), .agg #[c0, c1]] w fun e w' => e = .returned (.bool (!decide (a.name ∈ L) || decide (f a.name = a.args.length))) ∧ Below w.heap.size w w' := by
  obtain ⟨s, hcs, hsz, ht⟩ := h
  simp only [List.cons.injEq, and_true] at hcs
  obtain ⟨rfl, rfl⟩ := hcs
  obtain ⟨Ad, cap, rfl, hl, hm⟩ := sliceK_form ht
  have hlm := nat_ge_max (Nat.le_trans hl hm)
  obtain ⟨nm, args⟩ := a
  dsimp only at *
  have hA : Below w.heap.size w (w.alloc (.cells #[.string nm, .slice Ad args.length cap] 48)) := (Below.refl _ _).alloc (Nat.le_refl _) _
  have HM := Lib.hid (hM.below hA hM.lt)
  have HSZ := Lib.hid hsz
  clear hl hm ht hM hsz
  by_cases hL : nm ∈ L
  · have HD : Hid (decide (nm ∈ L) = true) := Lib.hid (decide_eq_true hL)
    have hr := hf nm hL
    obtain ⟨v, hv⟩ : ∃ v, f nm = v := ⟨_, rfl⟩
    have HV : Hid ((if nm ∈ L then f nm else 0) = v) := Lib.hid ((if_pos hL).trans hv)
    rw [hv] at hr ⊢
    clear hv hf hL
    by_cases he : v = args.length
    · have HZ : Hid ((!decide (nm ∈ L) || decide (v = (args.length : Int))) = true) := Lib.hid (by rw [HD.out, decide_eq_true he]; rfl)
      subst he
      go_enter Tryz.func38, Tryz.ntmps38
      go_wp2_with (first | (at_lookup; refine wpList_mapf_ok _ rfl _ _ _ rfl Tryz.underlying69 _ _ _ _ rfl HM.out nm rfl HSZ.out true HD.out _ HV.out ?_) | go_in)
      go_ret
      exact ⟨rfl, hA⟩
    · have HZ : Hid ((!decide (nm ∈ L) || decide (v = (args.length : Int))) = false) := Lib.hid (by rw [HD.out, decide_eq_false he]; rfl)
      go_enter Tryz.func38, Tryz.ntmps38
      go_wp2_with (first | (at_lookup; refine wpList_mapf_ok _ rfl _ _ _ rfl Tryz.underlying69 _ _ _ _ rfl HM.out nm rfl HSZ.out true HD.out _ HV.out ?_) | go_in)
      go_ret
      exact ⟨ret_bool (by rw [HZ.out]; first | rfl | exact beq_eq_false_iff_ne.2 he), hA⟩
  · have HD : Hid (decide (nm ∈ L) = false) := Lib.hid (decide_eq_false hL)
    have HV : Hid ((if nm ∈ L then f nm else 0) = 0) := Lib.hid (if_neg hL)
    have HZ : Hid ((!decide (nm ∈ L) || decide (f nm = (args.length : Int))) = true) := Lib.hid (by rw [HD.out]; rfl)
    clear hf hL
    go_enter Tryz.func38, Tryz.ntmps38
    go_wp2_with (first | (at_lookup; refine wpList_mapf_ok _ rfl _ _ _ rfl Tryz.underlying69 _ _ _ _ rfl HM.out nm rfl HSZ.out false HD.out _ HV.out ?_) | go_in)
    go_ret
    exact ⟨ret_bool (by rw [HZ.out]), hA⟩

set_option maxRecDepth 100000 in
set_option maxHeartbeats 2000000 in
theorem factsFit_impl (rs : List Ru) (xs : List A) (v1 v2 : Value) (b1 b2 : List Nat) (w : World) (h : rulesK w [v1] rs b1) (h2 : atomsK w [v2] xs b2) (hg : LaidE w) :
    Calls Tryz.prog 12 #[v1, v2] w fun e w' => e = .returned (.bool (factsFit rs xs)) ∧ Below w.heap.size w w' := by
  have c1 := progFine_any rs v1 b1 w h hg
  have C2 := Lib.hid fun w' (hb : Below w.heap.size w w') => factsOk_impl xs v2 b2 w' (atomsK_good.below h2 hb)
  have C3 := Lib.hid fun w' (hb : Below w.heap.size w w') (hok : rs.all ruleOk = true) (hf : rs.length ≤ 8) => argsOf_any rs v1 b1 w' (rulesK_good.below h hb) hok hf
  obtain ⟨Ad2, cap2, rfl, hl2, hm2⟩ := sliceK_form h2
  have hlm := nat_ge_max (Nat.le_trans hl2 hm2)
  clear h hg hl2 hm2
  by_cases hp : progC rs = 0
  · have hfi := (fine_iff rs).1 hp
    have HF := Lib.hid hfi
    have HZ : Hid (factsFit rs xs = (factsOk xs && fitB (allAtoms rs) xs)) := Lib.hid (by unfold factsFit; rw [decide_eq_true hp, Bool.true_and])
    rw [decide_eq_true hp] at c1
    clear hp hfi
    go_enter Tryz.func12, Tryz.ntmps12
    go_wp2_with fail
    refine c1.mono ?_
    rintro e w1 ⟨rfl, hb1⟩
    clear c1
    go_wp2_with fail
    refine (C2.out _ hb1).mono ?_
    rintro e w2 ⟨rfl, hb2⟩
    have B2 := hb1.trans (hb2.mono hb1.size)
    clear C2 hb1 hb2
    cases hx : factsOk xs
    · have HZ2 : Hid (factsFit rs xs = false) := Lib.hid (by rw [HZ.out, hx]; rfl)
      clear HZ hx C3
      go_wp2
      go_ret
      exact ⟨ret_bool HZ2.out.symm, B2⟩
    · have HZ2 : Hid (factsFit rs xs = fitB (allAtoms rs) xs) := Lib.hid (by rw [HZ.out, hx, Bool.true_and])
      clear HZ hx
      go_wp2_with fail
      refine (C3.out _ B2 HF.out.ok HF.out.few).mono ?_
      rintro e w3 ⟨rfl, n, hM, hb3⟩
      have B3 := B2.trans (hb3.mono B2.size)
      have HM := Lib.hid hM
      have HRG := Lib.hid (argSt_bound HF.out.ok HF.out.few (xs := allAtoms rs) fun a h => h)
      have HFM := Lib.hid (fit_map HF.out.alike)
      have hlt3 : w2.heap.size < w3.heap.size := hM.lt
      clear hM C3 hb3
      generalize allAtoms rs = az at *
      go_wp2
      go_loopw [24] (fun i wr => ∃ k : Nat, k ≤ xs.length ∧ i = .int .i64 k ∧ fitB az (xs.take k) = true ∧ MapF w2.heap.size n (argSt az).1 (argSt az).2.1 wr ∧ Below w.heap.size w wr) (fun i _ => xs.length - (intOf i).toNat)
      case atStart => exact ⟨0, Nat.zero_le _, rfl, rfl, HM.out, B3⟩
      case round =>
        clear HM
        obtain ⟨k, hk, rfl, hall, hM, hb⟩ := hrel
        by_cases hlt : k < xs.length
        · obtain ⟨b, o, Ae, ce, bk, rfl, _, d0, d1, hel, _⟩ := atoms_el (atomsK_good.below h2 hb) hlt
          have hk0 : (0 : Int) ≤ (k : Int) := by omega
          have hk1 : (k : Int) < (xs.length : Int) := by omega
          have hA : Below wr.heap.size wr (wr.alloc (.cells #[.string xs[k].name, .slice Ae xs[k].args.length ce] 48)) := (Below.refl _ _).alloc (Nat.le_refl _) _
          have c4 := fitsArgs_any xs[k] _ _ bk _ _ n _ _ (atomK_good.below hel hA) (hM.below hA hM.lt) HRG.out
          rw [← HFM.out xs[k]] at c4
          have HS := Lib.hid (fit_snoc az xs k hlt hall)
          have HBAD := Lib.hid (fit_bad az xs k hlt)
          have HM := Lib.hid (hM.below hA hM.lt)
          have HB := Lib.hid (hb.trans (hA.mono hb.size))
          clear h2 hel hA hall hM hb
          have HLT := Lib.hid hlt
          generalize xs[k] = x at *
          clear hlt
          obtain ⟨xn, xa⟩ := x
          dsimp only at *
          go_wp2_with fail
          refine c4.mono ?_
          rintro e w5 ⟨rfl, hb5⟩
          have B5 := HB.out.trans (hb5.mono HB.out.size)
          have HM5 := Lib.hid (HM.out.below hb5 HM.out.lt)
          clear c4 HM HB
          cases hf : fit1 az ⟨xn, xa⟩
          · have HZ3 : Hid (factsFit rs xs = false) := Lib.hid (by rw [HZ2.out]; exact HBAD.out hf)
            clear hf HS HBAD
            go_wp2
            go_ret
            exact ⟨ret_bool HZ3.out.symm, B5⟩
          · have HZ3 := Lib.hid (HS.out.trans hf)
            clear hf HS HBAD
            go_wp2
            go_roundw
            case rel => exact ⟨k + 1, HLT.out, by go_num, HZ3.out, HM5.out, B5⟩
            case measure => have := HLT.out; simp [intOf]; omega
        · have he : k = xs.length := by omega
          have hk1 : ¬ (k : Int) < (xs.length : Int) := by omega
          have HZ3 : Hid (factsFit rs xs = true) := Lib.hid (by rw [HZ2.out]; rw [he, List.take_of_length_le (Nat.le_refl _)] at hall; exact hall)
          clear he hall hM h2
          go_wp2
          go_ret
          exact ⟨ret_bool HZ3.out.symm, hb⟩
  · have HZ : Hid (factsFit rs xs = false) := Lib.hid (by unfold factsFit; rw [decide_eq_false hp]; rfl)
    rw [decide_eq_false hp] at c1
    clear hp C2 C3 h2
    go_enter Tryz.func12, Tryz.ntmps12
    go_wp2_with fail
    refine c1.mono ?_
    rintro e w1 ⟨rfl, hb1⟩
    go_wp2
    go_ret
    exact ⟨ret_bool HZ.out.symm, hb1⟩

set_option maxRecDepth 100000 in
set_option maxHeartbeats 2000000 in
theorem l3Fit_any (rs : List Ru) (ys : List A) (v v2 : Value) (bs b9 : List Nat) (w : World) (h : rulesK w [v] rs bs) (h2 : atomsK w [v2] ys b9) (hn : (allAtoms rs).length ≤ 1000000) :
    Calls Tryz.prog 32 #[v, v2] w fun e w' => e = .returned (.bool (fitB (allAtoms rs) ys)) ∧ Below w.heap.size w w' := by
  obtain ⟨Ad, cap, rfl, hl, hm⟩ := sliceK_form h
  obtain ⟨Ay, cy, rfl, hly, hmy⟩ := sliceK_form h2
  have hlm := nat_ge_max (Nat.le_trans hl hm)
  have hlmy := nat_ge_max (Nat.le_trans hly hmy)
  have c1 := l2Atoms_any rs _ bs w h hn
  generalize allAtoms rs = xs at *
  clear hl hm h hly hmy
  go_enter Tryz.func32, Tryz.ntmps32
  go_wp2_with fail
  refine c1.mono ?_
  rintro e w1 ⟨hB, v1, b2, rfl, hx⟩
  obtain ⟨A1, cap1, rfl, hl1, hm1⟩ := sliceK_form hx
  have hlm1 := nat_ge_max (Nat.le_trans hl1 hm1)
  have h3 := atomsK_good.below h2 hB
  clear c1 hl1 hm1 h2
  go_wp2
  go_loopw [6] (fun i wr => ∃ k : Nat, k ≤ ys.length ∧ i = .int .i64 k ∧ fitB xs (ys.take k) = true ∧ Below w1.heap.size w1 wr) (fun i _ => ys.length - (intOf i).toNat)
  case atStart => exact ⟨0, Nat.zero_le _, rfl, rfl, Below.refl _ _⟩
  case round =>
    obtain ⟨k, hk, rfl, hall, hb⟩ := hrel
    have HA := Lib.hid hall
    have HB := Lib.hid hb
    clear hall hb
    by_cases hlt : k < ys.length
    · have hk0 : (0 : Int) ≤ (k : Int) := by omega
      have hk1 : (k : Int) < (ys.length : Int) := by omega
      have HS := Lib.hid (fit_snoc xs ys k hlt HA.out)
      have HBAD := Lib.hid (fit_bad xs ys k hlt)
      go_wp2
      go_loopw [7] (fun i wr => ∃ j : Nat, j ≤ xs.length ∧ i = .int .i64 j ∧ (∀ i, (hi : i < xs.length) → i < j → clash xs[i] ys[k] = false) ∧ Below w1.heap.size w1 wr) (fun i _ => xs.length - (intOf i).toNat)
      case atStart => exact ⟨0, Nat.zero_le _, rfl, fun i _ h => by omega, HB.out⟩
      case round =>
        obtain ⟨j, hj, rfl, hin, hb⟩ := hrel
        have HI := Lib.hid hin
        have HB2 := Lib.hid hb
        clear hin
        by_cases hjl : j < xs.length
        · have hj0 : (0 : Int) ≤ (j : Int) := by omega
          have hj2 : (j : Int) < (xs.length : Int) := by omega
          obtain ⟨b, o, Ae, ce, _, rfl, _, d0, d1, _, _⟩ := atoms_el (atomsK_good.below h3 hb) hlt
          obtain ⟨b', o', Af, cf, _, rfl, _, f0, f1, _, _⟩ := atoms_el (atomsK_good.below hx hb) hjl
          have HBAD2 : Hid (clash xs[j] ys[k] = true → fitB xs ys = false) := Lib.hid fun h => HBAD.out (List.all_eq_false.2 ⟨_, List.getElem_mem hjl, by simp [h]⟩)
          have HOKJ : Hid (clash xs[j] ys[k] = false → ∀ i, (hi : i < xs.length) → i < j + 1 → clash xs[i] ys[k] = false) := Lib.hid fun h i h9 hi => by
            by_cases e : i = j
            · subst e; exact h
            · exact HI.out i h9 (by omega)
          have HC : Hid (clash xs[j] ys[k] = (decide (xs[j].name = ys[k].name) && decide (xs[j].args.length ≠ ys[k].args.length))) := Lib.hid rfl
          clear hx hb h3 HBAD HS
          generalize ys[k] = y at *
          generalize xs[j] = x at *
          obtain ⟨xn, xa⟩ := x
          obtain ⟨yn, ya⟩ := y
          dsimp only at *
          cases hs : (xn.toList == yn.toList)
          · have HZ := Lib.hid (HOKJ.out (by rw [HC.out, ← name_eq, hs]; rfl))
            clear HOKJ HBAD2 HC HI HA HB
            go_wp2
            go_quiet (fail)
            go_wp2
            go_roundw
            case rel => exact ⟨j + 1, hjl, by go_num, HZ.out, below_drewN HB2.out _⟩
            case measure => simp [intOf]; omega
          · by_cases hle : xa.length = ya.length
            · have HZ := Lib.hid (HOKJ.out (by rw [HC.out, hle]; simp))
              have hd : (xa.length : Int) = (ya.length : Int) := by omega
              clear HOKJ HBAD2 HC HI HA HB
              go_wp2
              go_quiet (fail)
              go_wp2
              go_roundw
              case rel => exact ⟨j + 1, hjl, by go_num, HZ.out, below_drewN HB2.out _⟩
              case measure => simp [intOf]; omega
            · have HZ := Lib.hid (HBAD2.out (by rw [HC.out, ← name_eq, hs]; simpa using hle))
              have hd : ¬ (xa.length : Int) = (ya.length : Int) := by omega
              have HBW := Lib.hid hB
              clear HOKJ HBAD2 HC HI HA HB
              go_wp2
              go_quiet (fail)
              go_wp2
              go_ret
              exact ⟨ret_bool HZ.out.symm, HBW.out.trans ((below_drewN HB2.out _).mono HBW.out.size)⟩
        · have he : j = xs.length := by omega
          have hj1 : ¬ (j : Int) < (xs.length : Int) := by omega
          have HZ : Hid (fitB xs (ys.take (k + 1)) = true) := Lib.hid (HS.out.trans (List.all_eq_true.2 fun a ha => by
            obtain ⟨i, hi, rfl⟩ := List.mem_iff_getElem.1 ha
            rw [HI.out i hi (by omega)]; rfl))
          clear HI HA HB he HS HBAD
          go_wp2
          go_roundw
          case rel => exact ⟨k + 1, hlt, by go_num, HZ.out, HB2.out⟩
          case measure => simp [intOf]; omega
    · have he : k = ys.length := by omega
      have hk1 : ¬ (k : Int) < (ys.length : Int) := by omega
      have HZ : Hid (fitB xs ys = true) := Lib.hid (by have := HA.out; rw [he, List.take_of_length_le (Nat.le_refl _)] at this; exact this)
      clear HA hx h3
      go_wp2
      go_ret
      exact ⟨ret_bool HZ.out.symm, hB.trans (HB.out.mono hB.size)⟩

set_option maxHeartbeats 1000000 in
theorem factsFit_spec (rs : List Ru) (xs : List A) (v1 v2 : Value) (b1 b2 : List Nat) (w : World) (h : rulesK w [v1] rs b1) (h2 : atomsK w [v2] xs b2) :
    Calls Tryz.prog 9 #[v1, v2] w fun e w' => e = .returned (.bool (factsFit rs xs)) ∧ Below w.heap.size w w' := by
  have c1 := progCheck_spec rs v1 b1 w h
  have C2 := Lib.hid fun w' (hb : Below w.heap.size w w') => factsOk_spec xs v2 b2 w' (atomsK_good.below h2 hb)
  have C3 := Lib.hid fun w' (hb : Below w.heap.size w w') (hn : (allAtoms rs).length ≤ 1000000) => l3Fit_any rs xs v1 v2 b1 b2 w' (rulesK_good.below h hb) (atomsK_good.below h2 hb) hn
  have hle : (progC rs : Int) ≤ 5 := by have := progC_le rs; omega
  clear h h2
  by_cases hp : progC rs = 0
  · have hn : (allAtoms rs).length ≤ 1000000 := by have h1 := (fine_iff rs).1 hp; have := (allAtoms_few h1.ok).2; have := h1.few; omega
    have C4 := Lib.hid fun w' hb => C3.out w' hb hn
    have HZ : Hid (factsFit rs xs = (factsOk xs && fitB (allAtoms rs) xs)) := Lib.hid (by unfold factsFit; rw [decide_eq_true hp, Bool.true_and])
    rw [hp] at c1
    clear hp hn C3 hle
    generalize fitB (allAtoms rs) xs = z at *
    go_enter Tryz.func9, Tryz.ntmps9
    go_wp2_with fail
    refine c1.mono ?_
    rintro e w1 ⟨rfl, hb1⟩
    clear c1
    go_wp2_with fail
    refine (C2.out _ hb1).mono ?_
    rintro e w2 ⟨rfl, hb2⟩
    have B2 := hb1.trans (hb2.mono hb1.size)
    clear C2 hb1 hb2
    cases hx : factsOk xs
    · have HZ2 : Hid (factsFit rs xs = false) := Lib.hid (by rw [HZ.out, hx]; rfl)
      clear HZ hx C4
      go_wp2
      go_ret
      exact ⟨ret_bool HZ2.out.symm, B2⟩
    · have HZ2 : Hid (factsFit rs xs = z) := Lib.hid (by rw [HZ.out, hx, Bool.true_and])
      clear HZ hx
      go_wp2_with fail
      refine (C4.out _ B2).mono ?_
      rintro e w3 ⟨rfl, hb3⟩
      go_wp2
      go_ret
      exact ⟨ret_bool (by rw [HZ2.out]), B2.trans (hb3.mono B2.size)⟩
  · have HZ : Hid (factsFit rs xs = false) := Lib.hid (by unfold factsFit; rw [decide_eq_false hp]; rfl)
    have h1 : ¬ ((progC rs : Nat) : Int) = 0 := by omega
    clear hp C2 C3
    generalize progC rs = c at *
    go_enter Tryz.func9, Tryz.ntmps9
    go_wp2_with fail
    refine c1.mono ?_
    rintro e w1 ⟨rfl, hb1⟩
    go_wp2
    go_ret
    exact ⟨ret_bool (by rw [HZ.out]), hb1⟩

end Go.Proofs.YtbcepahpehadeaaGreatDoor
