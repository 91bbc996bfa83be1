/- Of the proof of FnOnce: HinI, Fit, DrawGv, FlwP. -/
import Derived.Test.YtjjfafgaphloaaaGreatDoorM38
import Derived.Test.YtjjfafgaphloaaaGreatDoorM39
import Derived.Test.YtjjfafgaphloaaaGreatDoorM36
namespace Go.Proofs.YtjjfafgaphloaaaGreatDoor
open Go.RowKit D
set_option linter.unusedVariables false
attribute [local go_sem ↓] Go.wp_at_zero Go.wp_at_succ
/-- Whether one that must not be is there. -/
def D.hinB (fs : List A) (ns : List A) (b : Bd) : Bool := ns.any fun n => decide (aText (fillB n b) ∈ fs.map aText)

theorem D.hinB_snoc (fs ns : List A) (b : Bd) (k : Nat) (h : k < ns.length) : hinB fs (ns.take (k + 1)) b = (hinB fs (ns.take k) b || decide (aText (fillB ns[k] b) ∈ fs.map aText)) := by
  unfold hinB
  rw [List.take_succ_eq_append_getElem h, List.any_append]
  simp

theorem D.hinB_at {fs ns : List A} {b : Bd} {k : Nat} (h : k < ns.length) (hd : decide (aText (fillB ns[k] b) ∈ fs.map aText) = true) : hinB fs ns b = true := List.any_eq_true.2 ⟨ns[k], List.getElem_mem h, hd⟩

set_option maxRecDepth 100000 in
set_option maxHeartbeats 4000000 in
theorem hindered_any (vars : List ByteArray) (hv : VarsOk vars) (b : Bd) (hbo : BdOk vars b) (fs : List A) (rn : List Nat) (bs : List Nat) (ns : List A) (An : Option Addr) (cn : Nat) (bn : List Nat) (sk sb : Nat) (v1 : Value) (wt : Nat → Bool) (io : Bool) (ah : Int) (tell : Value) (w : World)
    (h : SeaV sk sb v1 (.slice An ns.length cn) wt io ah tell w) (hb : BdAt vars b sk 18 w) (hst : StoreV sb fs rn bs w) (hns : patsK vars w [.slice An ns.length cn] ns bn) (hin : ∀ n ∈ ns, ∀ t ∈ n.args, t.var = true → t.name ∈ vars) (hok : ∀ n ∈ ns, atomOk (fillB n b) = true) (hnl : ns.length ≤ 1000000) :
    Calls Tryz.prog 142 #[.pointer (some ⟨sk, 0, none⟩)] w fun e w' => e = .returned (.bool (hinB fs ns b)) ∧ Below w.heap.size w w' := by
  have hsk := h.lt
  have y0 := h.p2
  have HX := Lib.hid (And.intro h (And.intro hb (And.intro hst (And.intro hns (And.intro hin hok)))))
  clear h hb hst hns hin hok
  go_enter Tryz.func142, Tryz.ntmps142
  go_wp2
  go_loopw [11] (fun i wr => ∃ (k : Nat), k ≤ ns.length ∧ i = .int .i64 k ∧ hinB fs (ns.take k) b = false ∧ Below w.heap.size w wr) (fun i _ => ns.length - (intOf i).toNat)
  case atStart => exact ⟨0, Nat.zero_le _, rfl, by simp [hinB], Below.refl _ _⟩
  case round =>
    obtain ⟨k, hk, rfl, hno, hbel⟩ := hrel
    by_cases hlt : k < ns.length
    · obtain ⟨bq, oq, Ae, ce, bk, rfl, _, f0, f1, ⟨vv, hvv, hnm, hsl⟩, _⟩ := pats_at ((patsK_good vars).below HX.out.2.2.2.1 hbel) hlt
      simp only [List.cons.injEq, and_true, true_and] at hvv
      subst hvv
      have hk0 : (0 : Int) ≤ (k : Int) := by omega
      have hk1 : (k : Int) < (ns.length : Int) := by omega
      have hHS := hinB_snoc fs ns b k hlt
      rw [hno, Bool.false_or] at hHS
      have HHS := Lib.hid hHS
      have HAT := Lib.hid (fun hd => hinB_at (fs := fs) (b := b) hlt hd)
      have hal : ns[k].args.length ≤ 1000000 := by
        have h9 := HX.out.2.2.2.2.2 _ (List.getElem_mem hlt)
        unfold atomOk at h9
        simp only [Bool.and_eq_true, decide_eq_true_eq] at h9
        have := h9.1.2
        simp [fillB] at this; omega
      have hA2 : Below wr.heap.size wr (wr.alloc (.cells #[.string ns[k].name, .slice Ae ns[k].args.length ce] 104)) := (Below.refl _ _).alloc (Nat.le_refl _) _
      have hb2 := hbel.trans (hA2.mono hbel.size)
      have hskr : sk < (wr.alloc (.cells #[.string ns[k].name, .slice Ae ns[k].args.length ce] 104)).heap.size := Nat.lt_of_lt_of_le hsk hb2.size
      have HF := Lib.hid (fact_any vars hv b hbo ns[k] Ae ce bk sk 18 (wr.alloc (.cells #[.string ns[k].name, .slice Ae ns[k].args.length ce] 104)).drew ((HX.out.2.1.keep (hb2.block _ hsk)).keep rfl) hnm ((slotsK_good vars).below hsl (hA2.drew)) (HX.out.2.2.2.2.1 _ (List.getElem_mem hlt)) hal)
      have HOK := Lib.hid (HX.out.2.2.2.2.2 _ (List.getElem_mem hlt))
      have HST := Lib.hid (HX.out.2.2.1.below hb2)
      have HB2 := Lib.hid hb2
      have s0 : (wr.alloc (.cells #[.string ns[k].name, .slice Ae ns[k].args.length ce] 104)).cell? ⟨sk, 0, none⟩ = some (.pointer (some ⟨sb, 0, none⟩)) := (HX.out.1.keep (hb2.block _ hsk)).st
      have z0 : (wr.alloc (.cells #[.string ns[k].name, .slice Ae ns[k].args.length ce] 104)).cell? ⟨wr.heap.size, 0, none⟩ = some (.string ns[k].name) := by go_simp
      have z1 : (wr.alloc (.cells #[.string ns[k].name, .slice Ae ns[k].args.length ce] 104)).cell? ⟨wr.heap.size, 1, none⟩ = some (.slice Ae ns[k].args.length ce) := by go_simp
      have HLT := Lib.hid hlt
      clear hno hbel hk hA2 hb2 hnm hsl hHS hal
      generalize ns[k] = n at *
      clear hlt
      obtain ⟨nn, nargs⟩ := n
      dsimp only at *
      generalize hr : decide (aText (fillB ⟨nn, nargs⟩ b) ∈ fs.map aText) = r at *
      have HR := Lib.hid hr
      clear hr
      cases r
      · go_wp2
        generalize wr.alloc (.cells #[.string nn, .slice Ae nargs.length ce] 104) = W1 at *
        go_region_law
          (first
            | (go_simp; go_at_call 60; refine HF.out.mono ?_; rintro e w2 ⟨v9, b9, rfl, hb9, ha9, hn9⟩; have HK2 := Lib.hid ((Below.refl W1.heap.size W1).drew.trans hb9); replace s0 := cell_later HK2.out s0; replace hskr := Nat.lt_of_lt_of_le hskr HK2.out.size; have hho := holds_any sb fs rn bs (fillB ⟨nn, nargs⟩ b) (.string nn) v9 b9 w2 (HST.out.below HK2.out) ha9 HOK.out; have HHO := Lib.hid hho; clear hb9 ha9 hn9 hho)
            | (go_simp; go_at_call 177; refine HHO.out.mono ?_; rintro e w3 ⟨rfl, hb3⟩; have HK3 := Lib.hid (HK2.out.trans (hb3.mono HK2.out.size)); rw [HR.out]; clear hb3))
        all_goals
          have HB3 := Lib.hid (HB2.out.trans (HK3.out.mono HB2.out.size))
          clear s0 z0 z1 HF HHO HK2 HK3 HST HOK
          go_wp2
          go_roundw
          case rel => exact ⟨k + 1, HLT.out, by go_num, HHS.out, HB3.out⟩
          case measure => have := HLT.out; simp [intOf]; omega
      · go_wp2
        generalize wr.alloc (.cells #[.string nn, .slice Ae nargs.length ce] 104) = W1 at *
        go_region_law
          (first
            | (go_simp; go_at_call 60; refine HF.out.mono ?_; rintro e w2 ⟨v9, b9, rfl, hb9, ha9, hn9⟩; have HK2 := Lib.hid ((Below.refl W1.heap.size W1).drew.trans hb9); replace s0 := cell_later HK2.out s0; replace hskr := Nat.lt_of_lt_of_le hskr HK2.out.size; have hho := holds_any sb fs rn bs (fillB ⟨nn, nargs⟩ b) (.string nn) v9 b9 w2 (HST.out.below HK2.out) ha9 HOK.out; have HHO := Lib.hid hho; clear hb9 ha9 hn9 hho)
            | (go_simp; go_at_call 177; refine HHO.out.mono ?_; rintro e w3 ⟨rfl, hb3⟩; have HK3 := Lib.hid (HK2.out.trans (hb3.mono HK2.out.size)); rw [HR.out]; clear hb3))
        all_goals
          have HB3 := Lib.hid (HB2.out.trans (HK3.out.mono HB2.out.size))
          clear s0 z0 z1 HF HHO HK2 HK3 HST HOK
          go_wp2
          go_ret
          rw [HAT.out (by trivial)]
          exact ⟨rfl, HB3.out⟩
    · have he : k = ns.length := by omega
      have hk1 : ¬ (k : Int) < (ns.length : Int) := by omega
      rw [List.take_of_length_le (Nat.le_of_eq he.symm)] at hno
      have HP := Lib.hid (And.intro hno hbel)
      clear hno hbel
      go_wp2
      go_ret
      rw [HP.out.1]
      exact ⟨rfl, HP.out.2⟩

theorem D.fit_map {az : List A} (h : alikeB az = true) (x : A) : fit1 az x = (!decide (x.name ∈ (argSt az).1) || decide ((argSt az).2.1 x.name = x.args.length)) := by
  obtain ⟨i1, _, i2, _⟩ := argSt_is az
  rw [Bool.eq_iff_iff]
  unfold fit1
  simp only [List.all_eq_true, Bool.or_eq_true, Bool.not_eq_true', decide_eq_false_iff_not, decide_eq_true_eq]
  constructor
  · intro hc
    by_cases hm : x.name ∈ (argSt az).1
    · obtain ⟨a, ha, e⟩ := (i1 _).1 hm
      have h1 := hc a ha
      have h2 := argSt_at h ha
      rw [e] at h2
      unfold clash at h1
      rw [decide_eq_true e, Bool.true_and, decide_eq_false_iff_not, Classical.not_not] at h1
      exact .inr (by rw [h2, h1])
    · exact .inl hm
  · intro hc a ha
    unfold clash
    by_cases e : a.name = x.name
    · have hm : x.name ∈ (argSt az).1 := (i1 _).2 ⟨a, ha, e⟩
      have h1 := hc.resolve_left fun h => h hm
      have h2 := argSt_at h ha
      rw [e, h1] at h2
      have : a.args.length = x.args.length := by exact_mod_cast h2.symm
      simp [this]
    · simp [e]

set_option maxRecDepth 100000 in
set_option maxHeartbeats 1000000 in
theorem fitsArgs_any (a : A) (c0 c1 : Value) (bs : List Nat) (w : World) (B n : Nat) (L : List ByteArray) (f : ByteArray → Int) (h : atomK w [c0, c1] a bs) (hM : MapF B n L f w) (hf : ∀ s ∈ L, 0 ≤ f s ∧ f s ≤ 1000000) :
    Calls Tryz.prog 36 #[.map (some B), .agg #[c0, c1]] w fun e w' => e = .returned (.bool (!decide (a.name ∈ L) || decide (f a.name = a.args.length))) ∧ Below w.heap.size w w' := by
  obtain ⟨s, hcs, hsz, ht⟩ := h
  simp only [List.cons.injEq, and_true] at hcs
  obtain ⟨rfl, rfl⟩ := hcs
  obtain ⟨Ad, cap, rfl, hl, hm⟩ := sliceK_form ht
  have hlm := nat_ge_max (Nat.le_trans hl hm)
  obtain ⟨nm, args⟩ := a
  dsimp only at *
  have hA : Below w.heap.size w (w.alloc (.cells #[.string nm, .slice Ad args.length cap] 33)) := (Below.refl _ _).alloc (Nat.le_refl _) _
  have HM := Lib.hid (hM.below hA hM.lt)
  have HSZ := Lib.hid hsz
  clear hl hm ht hM hsz
  by_cases hL : nm ∈ L
  · have HD : Hid (decide (nm ∈ L) = true) := Lib.hid (decide_eq_true hL)
    have hr := hf nm hL
    obtain ⟨v, hv⟩ : ∃ v, f nm = v := ⟨_, rfl⟩
    have HV : Hid ((if nm ∈ L then f nm else 0) = v) := Lib.hid ((if_pos hL).trans hv)
    rw [hv] at hr ⊢
    clear hv hf hL
    by_cases he : v = args.length
    · have HZ : Hid ((!decide (nm ∈ L) || decide (v = (args.length : Int))) = true) := Lib.hid (by rw [HD.out, decide_eq_true he]; rfl)
      subst he
      go_enter Tryz.func36, Tryz.ntmps36
      go_wp2_with (first | (at_lookup; refine wpList_mapf_ok _ rfl _ _ _ rfl Tryz.underlying68 _ _ _ _ rfl HM.out nm rfl HSZ.out true HD.out _ HV.out ?_) | go_in)
      go_ret
      exact ⟨rfl, hA⟩
    · have HZ : Hid ((!decide (nm ∈ L) || decide (v = (args.length : Int))) = false) := Lib.hid (by rw [HD.out, decide_eq_false he]; rfl)
      go_enter Tryz.func36, Tryz.ntmps36
      go_wp2_with (first | (at_lookup; refine wpList_mapf_ok _ rfl _ _ _ rfl Tryz.underlying68 _ _ _ _ rfl HM.out nm rfl HSZ.out true HD.out _ HV.out ?_) | go_in)
      go_ret
      exact ⟨ret_bool (by rw [HZ.out]; first | rfl | exact beq_eq_false_iff_ne.2 he), hA⟩
  · have HD : Hid (decide (nm ∈ L) = false) := Lib.hid (decide_eq_false hL)
    have HV : Hid ((if nm ∈ L then f nm else 0) = 0) := Lib.hid (if_neg hL)
    have HZ : Hid ((!decide (nm ∈ L) || decide (f nm = (args.length : Int))) = true) := Lib.hid (by rw [HD.out]; rfl)
    clear hf hL
    go_enter Tryz.func36, Tryz.ntmps36
    go_wp2_with (first | (at_lookup; refine wpList_mapf_ok _ rfl _ _ _ rfl Tryz.underlying68 _ _ _ _ rfl HM.out nm rfl HSZ.out false HD.out _ HV.out ?_) | go_in)
    go_ret
    exact ⟨ret_bool (by rw [HZ.out]), hA⟩

set_option maxRecDepth 100000 in
set_option maxHeartbeats 2000000 in
theorem factsFit_impl (rs : List Ru) (xs : List A) (v1 v2 : Value) (b1 b2 : List Nat) (w : World) (h : rulesK w [v1] rs b1) (h2 : atomsK w [v2] xs b2) (hg : LaidE w) :
    Calls Tryz.prog 9 #[v1, v2] w fun e w' => e = .returned (.bool (factsFit rs xs)) ∧ Below w.heap.size w w' := by
  have c1 := progFine_any rs v1 b1 w h hg
  have C2 := Lib.hid fun w' (hb : Below w.heap.size w w') => factsOk_impl xs v2 b2 w' (atomsK_good.below h2 hb)
  have C3 := Lib.hid fun w' (hb : Below w.heap.size w w') (hok : rs.all ruleOk = true) (hf : rs.length ≤ 8) => argsOf_any rs v1 b1 w' (rulesK_good.below h hb) hok hf
  obtain ⟨Ad2, cap2, rfl, hl2, hm2⟩ := sliceK_form h2
  have hlm := nat_ge_max (Nat.le_trans hl2 hm2)
  clear h hg hl2 hm2
  by_cases hp : progC rs = 0
  · have hfi := (fine_iff rs).1 hp
    have HF := Lib.hid hfi
    have HZ : Hid (factsFit rs xs = (factsOk xs && fitB (allAtoms rs) xs)) := Lib.hid (by unfold factsFit; rw [decide_eq_true hp, Bool.true_and])
    rw [decide_eq_true hp] at c1
    clear hp hfi
    go_enter Tryz.func9, Tryz.ntmps9
    go_wp2_with fail
    refine c1.mono ?_
    rintro e w1 ⟨rfl, hb1⟩
    clear c1
    go_wp2_with fail
    refine (C2.out _ hb1).mono ?_
    rintro e w2 ⟨rfl, hb2⟩
    have B2 := hb1.trans (hb2.mono hb1.size)
    clear C2 hb1 hb2
    cases hx : factsOk xs
    · have HZ2 : Hid (factsFit rs xs = false) := Lib.hid (by rw [HZ.out, hx]; rfl)
      clear HZ hx C3
      go_wp2
      go_ret
      exact ⟨ret_bool HZ2.out.symm, B2⟩
    · have HZ2 : Hid (factsFit rs xs = fitB (allAtoms rs) xs) := Lib.hid (by rw [HZ.out, hx, Bool.true_and])
      clear HZ hx
      go_wp2_with fail
      refine (C3.out _ B2 HF.out.ok HF.out.few).mono ?_
      rintro e w3 ⟨rfl, n, hM, hb3⟩
      have B3 := B2.trans (hb3.mono B2.size)
      have HM := Lib.hid hM
      have HRG := Lib.hid (argSt_bound HF.out.ok HF.out.few (xs := allAtoms rs) fun a h => h)
      have HFM := Lib.hid (fit_map HF.out.alike)
      have hlt3 : w2.heap.size < w3.heap.size := hM.lt
      clear hM C3 hb3
      generalize allAtoms rs = az at *
      go_wp2
      go_loopw [24] (fun i wr => ∃ k : Nat, k ≤ xs.length ∧ i = .int .i64 k ∧ fitB az (xs.take k) = true ∧ MapF w2.heap.size n (argSt az).1 (argSt az).2.1 wr ∧ Below w.heap.size w wr) (fun i _ => xs.length - (intOf i).toNat)
      case atStart => exact ⟨0, Nat.zero_le _, rfl, rfl, HM.out, B3⟩
      case round =>
        clear HM
        obtain ⟨k, hk, rfl, hall, hM, hb⟩ := hrel
        by_cases hlt : k < xs.length
        · obtain ⟨b, o, Ae, ce, bk, rfl, _, d0, d1, hel, _⟩ := atoms_el (atomsK_good.below h2 hb) hlt
          have hk0 : (0 : Int) ≤ (k : Int) := by omega
          have hk1 : (k : Int) < (xs.length : Int) := by omega
          have hA : Below wr.heap.size wr (wr.alloc (.cells #[.string xs[k].name, .slice Ae xs[k].args.length ce] 33)) := (Below.refl _ _).alloc (Nat.le_refl _) _
          have c4 := fitsArgs_any xs[k] _ _ bk _ _ n _ _ (atomK_good.below hel hA) (hM.below hA hM.lt) HRG.out
          rw [← HFM.out xs[k]] at c4
          have HS := Lib.hid (fit_snoc az xs k hlt hall)
          have HBAD := Lib.hid (fit_bad az xs k hlt)
          have HM := Lib.hid (hM.below hA hM.lt)
          have HB := Lib.hid (hb.trans (hA.mono hb.size))
          clear h2 hel hA hall hM hb
          have HLT := Lib.hid hlt
          generalize xs[k] = x at *
          clear hlt
          obtain ⟨xn, xa⟩ := x
          dsimp only at *
          go_wp2_with fail
          refine c4.mono ?_
          rintro e w5 ⟨rfl, hb5⟩
          have B5 := HB.out.trans (hb5.mono HB.out.size)
          have HM5 := Lib.hid (HM.out.below hb5 HM.out.lt)
          clear c4 HM HB
          cases hf : fit1 az ⟨xn, xa⟩
          · have HZ3 : Hid (factsFit rs xs = false) := Lib.hid (by rw [HZ2.out]; exact HBAD.out hf)
            clear hf HS HBAD
            go_wp2
            go_ret
            exact ⟨ret_bool HZ3.out.symm, B5⟩
          · have HZ3 := Lib.hid (HS.out.trans hf)
            clear hf HS HBAD
            go_wp2
            go_roundw
            case rel => exact ⟨k + 1, HLT.out, by go_num, HZ3.out, HM5.out, B5⟩
            case measure => have := HLT.out; simp [intOf]; omega
        · have he : k = xs.length := by omega
          have hk1 : ¬ (k : Int) < (xs.length : Int) := by omega
          have HZ3 : Hid (factsFit rs xs = true) := Lib.hid (by rw [HZ2.out]; rw [he, List.take_of_length_le (Nat.le_refl _)] at hall; exact hall)
          clear he hall hM h2
          go_wp2
          go_ret
          exact ⟨ret_bool HZ3.out.symm, hb⟩
  · have HZ : Hid (factsFit rs xs = false) := Lib.hid (by unfold factsFit; rw [decide_eq_false hp]; rfl)
    rw [decide_eq_false hp] at c1
    clear hp C2 C3 h2
    go_enter Tryz.func9, Tryz.ntmps9
    go_wp2_with fail
    refine c1.mono ?_
    rintro e w1 ⟨rfl, hb1⟩
    go_wp2
    go_ret
    exact ⟨ret_bool HZ.out.symm, hb1⟩

set_option maxHeartbeats 1000000 in
theorem factsFit_spec (rs : List Ru) (xs : List A) (v1 v2 : Value) (b1 b2 : List Nat) (w : World) (h : rulesK w [v1] rs b1) (h2 : atomsK w [v2] xs b2) :
    Calls Tryz.prog 10 #[v1, v2] w fun e w' => e = .returned (.bool (factsFit rs xs)) ∧ Below w.heap.size w w' := by
  have c1 := progCheck_spec rs v1 b1 w h
  have C2 := Lib.hid fun w' (hb : Below w.heap.size w w') => factsOk_spec xs v2 b2 w' (atomsK_good.below h2 hb)
  have C3 := Lib.hid fun w' (hb : Below w.heap.size w w') (hn : (allAtoms rs).length ≤ 1000000) => l3Fit_any rs xs v1 v2 b1 b2 w' (rulesK_good.below h hb) (atomsK_good.below h2 hb) hn
  have hle : (progC rs : Int) ≤ 5 := by have := progC_le rs; omega
  clear h h2
  by_cases hp : progC rs = 0
  · have hn : (allAtoms rs).length ≤ 1000000 := by have h1 := (fine_iff rs).1 hp; have := (allAtoms_few h1.ok).2; have := h1.few; omega
    have C4 := Lib.hid fun w' hb => C3.out w' hb hn
    have HZ : Hid (factsFit rs xs = (factsOk xs && fitB (allAtoms rs) xs)) := Lib.hid (by unfold factsFit; rw [decide_eq_true hp, Bool.true_and])
    rw [hp] at c1
    clear hp hn C3 hle
    generalize fitB (allAtoms rs) xs = z at *
    go_enter Tryz.func10, Tryz.ntmps10
    go_wp2_with fail
    refine c1.mono ?_
    rintro e w1 ⟨rfl, hb1⟩
    clear c1
    go_wp2_with fail
    refine (C2.out _ hb1).mono ?_
    rintro e w2 ⟨rfl, hb2⟩
    have B2 := hb1.trans (hb2.mono hb1.size)
    clear C2 hb1 hb2
    cases hx : factsOk xs
    · have HZ2 : Hid (factsFit rs xs = false) := Lib.hid (by rw [HZ.out, hx]; rfl)
      clear HZ hx C4
      go_wp2
      go_ret
      exact ⟨ret_bool HZ2.out.symm, B2⟩
    · have HZ2 : Hid (factsFit rs xs = z) := Lib.hid (by rw [HZ.out, hx, Bool.true_and])
      clear HZ hx
      go_wp2_with fail
      refine (C4.out _ B2).mono ?_
      rintro e w3 ⟨rfl, hb3⟩
      go_wp2
      go_ret
      exact ⟨ret_bool (by rw [HZ2.out]), B2.trans (hb3.mono B2.size)⟩
  · have HZ : Hid (factsFit rs xs = false) := Lib.hid (by unfold factsFit; rw [decide_eq_false hp]; rfl)
    have h1 : ¬ ((progC rs : Nat) : Int) = 0 := by omega
    clear hp C2 C3
    generalize progC rs = c at *
    go_enter Tryz.func10, Tryz.ntmps10
    go_wp2_with fail
    refine c1.mono ?_
    rintro e w1 ⟨rfl, hb1⟩
    go_wp2
    go_ret
    exact ⟨ret_bool (by rw [HZ.out]), hb1⟩

/-- Drawn rules and drawn facts that lie in memory. -/
def GivD (g p q : Nat) (w : World) (e : Ending) (w' : World) : Prop :=
  ∃ (rs : List Ru) (A0 : Option Addr) (c0 : Nat) (b0 : List Nat) (xs : List A) (A1 : Option Addr) (c1 : Nat) (b1 : List Nat) (p' : Nat), e = .returned (.tuple #[.slice A0 rs.length c0, .slice A1 xs.length c1]) ∧ rulesK w' [.slice A0 rs.length c0] rs b0 ∧ atomsK w' [.slice A1 xs.length c1] xs b1 ∧
    (∀ b ∈ b0, w.heap.size ≤ b) ∧ (∀ b ∈ b1, w.heap.size ≤ b) ∧ rs.length ≤ 9 ∧ (∀ r ∈ rs, RuS r) ∧ xs.length ≤ 50 ∧ (∀ a ∈ xs, a.args.length ≤ 4) ∧ Rdr g p' w' ∧ p' ≤ p + q ∧ KeptBut [g] w w'

theorem D.giv_end {g p p1 p2 q1 q2 : Nat} {w w1 w2 w3 : World} {rs : List Ru} {v : Value} {xs : List A} {v2 : Value} {b1 : List Nat} (hk : KeptBut [g] w w1) (hg : g < w.heap.size) (h1 : rs.length ≤ 9) (h2 : p1 ≤ p + q1) (hI : RsInv g p1 w1 rs v w2) (hR : Rdr g p2 w3) (hK : KeptBut [g] w2 w3) (h3 : p2 ≤ p1 + q2)
    (hat : atomsK w3 [v2] xs b1) (hfar : ∀ b ∈ b1, w2.heap.size ≤ b) (hx : xs.length ≤ 50) (hs : ∀ a ∈ xs, a.args.length ≤ 4) : GivD g p (q1 + q2) w (.returned (.tuple #[v, v2])) w3 := by
  have hI3 := hI.call hR hK
  obtain ⟨A0, c0, rfl⟩ := hI3.shape
  obtain ⟨b0, hr, hb0⟩ := hI3.rules
  obtain ⟨A1, c1, rfl, _, _⟩ := sliceK_form hat
  exact ⟨rs, A0, c0, b0, xs, A1, c1, b1, p2, rfl, hr, hat, fun b hb => Nat.le_trans hk.size (hb0 b hb), fun b hb => Nat.le_trans (Nat.le_trans hk.size hI.kept.size) (hfar b hb), h1, hI.small, hx, hs, hR, by omega, hk.trans hI3.kept⟩

set_option maxRecDepth 100000 in
set_option maxHeartbeats 1000000 in
theorem l10Given_any (g p : Nat) (w : World) (h : Rdr g p w) (hp : p ≤ 200000) :
    Calls Tryz.prog 21 #[.pointer (some ⟨g, 0, none⟩)] w (GivD g p 400 w) := by
  have hpk := pick_any g p 6 w h (by omega) (by omega) (by omega)
  have HL := Lib.hid h.lt
  have HP := Lib.hid hp
  clear h hp
  go_enter Tryz.func21, Tryz.ntmps21
  go_wp2_with fail
  refine hpk.mono ?_
  rintro e w1 ⟨k, rfl, hk1, hR1, hG1⟩
  have HK1 : Hid (KeptBut [g] w w1) := Lib.hid (KeptBut.of_grown hG1)
  obtain ⟨p1, hpe⟩ : ∃ p1, p1 = p + 1 := ⟨_, rfl⟩
  have HP1 : Hid (p1 ≤ p + 1) := Lib.hid (by omega)
  rw [← hpe] at hR1
  by_cases hk : k = 0
  · have hd := l10AnyRules_any g p1 w1 hR1 (by have := HP.out; omega)
    subst hk
    clear hpk hR1 hG1 hpe hk1
    go_wp2_with fail
    refine hd.mono ?_
    rintro e w2 ⟨rs, v, p2, rfl, hx, hq, hI⟩
    have hd2 := l10AnyFacts_any g p2 w2 hI.rdr (by have := HP.out; have := HP1.out; omega)
    have HI := Lib.hid (And.intro hI (And.intro hx hq))
    obtain ⟨A0, c0, rfl⟩ := hI.shape
    clear hd hx hq hI
    go_wp2_with fail
    refine hd2.mono ?_
    rintro e w3 ⟨xs, v2, b1, p3, rfl, ⟨hat, hfar⟩, hx2, hs2, hR3, hp3, hK3⟩
    have HZ : Hid (GivD g p 400 w (.returned (.tuple #[.slice A0 rs.length c0, v2])) w3) := Lib.hid (giv_end (q1 := 160) (q2 := 240) HK1.out HL.out HI.out.2.1 (by have := HI.out.2.2; have := HP1.out; omega) HI.out.1 hR3 hK3 (by omega) hat hfar hx2 hs2)
    obtain ⟨A1, c1, rfl, _, _⟩ := sliceK_form hat
    clear hd2 hat hfar hx2 hs2 hR3 hp3 hK3
    go_wp2
    go_ret2
    exact HZ.out
  · have hk' : ¬ ((k : Int) = 0) := by omega
    have hd := l10Rules_any g p1 w1 hR1 (by have := HP.out; omega)
    clear hpk hR1 hG1 hpe hk1 hk
    go_wp2_with fail
    refine hd.mono ?_
    rintro e w2 ⟨rs, v, p2, rfl, hx, hq, hI⟩
    have hd2 := l10Facts_any g p2 10 w2 hI.rdr (by have := HP.out; have := HP1.out; omega) (by omega) (by omega)
    have HI := Lib.hid (And.intro hI (And.intro hx hq))
    obtain ⟨A0, c0, rfl⟩ := hI.shape
    clear hd hx hq hI
    go_wp2_with fail
    refine hd2.mono ?_
    rintro e w3 ⟨xs, v2, p3, rfl, _, hx2, hs2, hp3, hF3⟩
    obtain ⟨b1, hat, hfar⟩ := hF3.atoms
    have HZ : Hid (GivD g p 400 w (.returned (.tuple #[.slice A0 rs.length c0, v2])) w3) := Lib.hid (giv_end (q1 := 160) (q2 := 240) HK1.out HL.out (Nat.le_trans HI.out.2.1 (by omega)) (by have := HI.out.2.2; have := HP1.out; omega) HI.out.1 hF3.rdr hF3.kept (by omega) hat hfar (by omega) (fun a ha => Nat.le_trans (hs2 a ha) (by omega)))
    obtain ⟨A1, c1, rfl, _, _⟩ := sliceK_form hat
    clear hd2 hat hfar hx2 hs2 hp3 hF3
    go_wp2
    go_ret2
    exact HZ.out

end Go.Proofs.YtjjfafgaphloaaaGreatDoor
namespace Go.Proofs.YtjjfafgaphloaaaGreatDoor
open Go.RowKit D
set_option linter.unusedVariables false
/-- Words that solve what is left: they agree with what is bound. -/
def D.SolW (fs ps ns : List A) (b : Bd) (left : Nat) (σ : Wo) : Prop := Agr b σ ∧ (∀ j (h : j < ps.length), left.testBit j = true → fillW σ ps[j] ∈ fs) ∧ ∀ n ∈ ns, fillW σ n ∉ fs

/-- Words of bindings are names. -/
def D.WdsOk (b : Bd) : Prop := ∀ p ∈ b, nameOk p.2 = true

theorem D.nameOk_full {s : ByteArray} (h : nameOk s = true) : s ≠ ⟨#[]⟩ := by
  rintro rfl
  revert h
  decide

theorem D.matchT_pre : ∀ (ts fs : List T) (b : Bd), ∃ c, (matchT ts fs b).1 = b ++ c
  | [], fs, b => by cases fs <;> exact ⟨[], by simp [matchT]⟩
  | t :: ts, [], b => ⟨[], by simp [matchT]⟩
  | t :: ts, f :: fs, b => by
    rw [matchT]
    split
    · split
      · split
        · exact matchT_pre ts fs b
        · exact ⟨[], by simp⟩
      · obtain ⟨c, hc⟩ := matchT_pre ts fs (b ++ [(t.name, f.name)])
        exact ⟨(t.name, f.name) :: c, by rw [hc]; simp⟩
    · split
      · exact matchT_pre ts fs b
      · exact ⟨[], by simp⟩

theorem D.matchB_pre (a f : A) (b : Bd) : (matchB a f b).1.take b.length = b := by
  unfold matchB
  split
  · obtain ⟨c, hc⟩ := matchT_pre a.args f.args b
    rw [hc]; simp
  · simp

theorem D.matchB_len_le (a f : A) (b : Bd) : b.length ≤ (matchB a f b).1.length := by
  have := congrArg List.length (matchB_pre a f b)
  simp at this
  omega

theorem D.matchT_wds : ∀ (ts fs : List T) (b : Bd), WdsOk b → (∀ f ∈ fs, nameOk f.name = true) → WdsOk (matchT ts fs b).1
  | [], fs, b, h, _ => by cases fs <;> simpa [matchT] using h
  | t :: ts, [], b, h, _ => by simpa [matchT] using h
  | t :: ts, f :: fs, b, h, hf => by
    have hf' : ∀ g ∈ fs, nameOk g.name = true := fun g hg => hf g (List.mem_cons_of_mem _ hg)
    rw [matchT]
    split
    · split
      · split
        · exact matchT_wds ts fs b h hf'
        · exact h
      · refine matchT_wds ts fs _ (fun p hp => ?_) hf'
        rcases List.mem_append.1 hp with hp | hp
        · exact h p hp
        · rw [List.mem_singleton.1 hp]; exact hf f (List.mem_cons_self ..)
    · split
      · exact matchT_wds ts fs b h hf'
      · exact h

theorem D.matchB_wds {a f : A} {b : Bd} (h : WdsOk b) (hf : ∀ t ∈ f.args, nameOk t.name = true) : WdsOk (matchB a f b).1 := by
  unfold matchB
  split
  · exact matchT_wds _ _ _ h hf
  · exact h

/-- A fact that may stand in the store. -/
structure D.FactOk (f : A) : Prop where
  ok : atomOk f = true
  gr : Gr f

theorem D.FactOk.names {f : A} (h : FactOk f) : ∀ t ∈ f.args, t.var = false ∧ nameOk t.name = true := fun t ht => by
  have h0 := h.ok
  unfold atomOk at h0
  simp only [Bool.and_eq_true, decide_eq_true_eq, List.all_eq_true] at h0
  have h1 := h0.2 t ht
  have h2 := h.gr t ht
  unfold termOk at h1
  rw [h2] at h1
  exact ⟨h2, by simpa using h1⟩

/-- An atom of a rule: with words that are names it is a fact. -/
theorem D.fill_ok {a : A} (ha : atomOk a = true) {b : Bd} (hw : WdsOk b) (hc : Cov b a.args) : FactOk (fillB a b) := by
  have h0 := ha
  unfold atomOk at h0
  simp only [Bool.and_eq_true, decide_eq_true_eq, List.all_eq_true] at h0
  refine ⟨?_, gr_fill (valB b) a⟩
  unfold atomOk fillB
  simp only [Bool.and_eq_true, decide_eq_true_eq, List.all_eq_true, List.length_map]
  refine ⟨h0.1, fun t ht => ?_⟩
  obtain ⟨u, hu, rfl⟩ := List.mem_map.1 ht
  have h1 := h0.2 u hu
  unfold termOk at *
  unfold fillT
  cases hv : u.var
  · simpa [hv] using h1
  · obtain ⟨v, hg⟩ := Option.isSome_iff_exists.1 (hc u hu hv)
    simp only [if_true, valB, hg, Option.getD_some]
    exact hw _ (getB_mem hg)

theorem D.mem_text {fs : List A} (hf : ∀ f ∈ fs, FactOk f) {a : A} (ha : FactOk a) : decide (aText a ∈ fs.map aText) = true ↔ a ∈ fs := by
  rw [decide_eq_true_eq, List.mem_map]
  constructor
  · rintro ⟨f, h1, h2⟩
    rw [← aText_inj (hf f h1).ok ha.ok h2]; exact h1
  · exact fun h => ⟨a, h, rfl⟩

/-- Bound variables of terms, by the words in their places. -/
theorem D.cov_wrd {vars : List ByteArray} (hv : VarsOk vars) {b : Bd} (hb : BdOk vars b) {ts : List T} (hin : ∀ t ∈ ts, t.var = true → t.name ∈ vars) :
    Cov b ts ↔ ∀ i, i < 12 → wantB vars ts i = true → wrd vars b i ≠ ⟨#[]⟩ := by
  constructor
  · intro hc i _ hw
    unfold wantB at hw
    obtain ⟨t, ht, h2⟩ := List.any_eq_true.1 hw
    simp only [Bool.and_eq_true, beq_iff_eq] at h2
    obtain ⟨h3, rfl⟩ := h2
    have hl := List.idxOf_lt_length_of_mem (hin t ht h3)
    obtain ⟨v, hg⟩ := Option.isSome_iff_exists.1 (hc t ht h3)
    unfold wrd
    rw [dif_pos hl]
    have e : vars[vars.idxOf t.name] = t.name := List.getElem_idxOf hl
    rw [e]
    intro e2
    rw [(hb.val_empty _).1 e2] at hg
    cases hg
  · intro h t ht htv
    have hm := hin t ht htv
    have hl := List.idxOf_lt_length_of_mem hm
    have hfew := hv.few
    have h1 := h (vars.idxOf t.name) (by omega) (List.any_eq_true.2 ⟨t, ht, by simp [htv]⟩)
    unfold wrd at h1
    rw [dif_pos hl] at h1
    have e : vars[vars.idxOf t.name] = t.name := List.getElem_idxOf hl
    rw [e] at h1
    cases hg : getB b t.name with
    | some v => rfl
    | none => exact absurd ((hb.val_empty _).2 hg) h1

/-- What matters: the head, and what must not be. -/
def D.matB (vars : List ByteArray) (head : A) (ns : List A) (i : Nat) : Bool := wantB vars head.args i || ns.any fun n => wantB vars n.args i

theorem D.setB_cov {vars : List ByteArray} (hv : VarsOk vars) {b : Bd} (hb : BdOk vars b) {head : A} {ns : List A} {wt : Nat → Bool} (hwt : ∀ i, i < 12 → wt i = matB vars head ns i) (hh : ∀ t ∈ head.args, t.var = true → t.name ∈ vars) (hn : ∀ n ∈ ns, ∀ t ∈ n.args, t.var = true → t.name ∈ vars) :
    setB vars b wt = true ↔ Cov b head.args ∧ ∀ n ∈ ns, Cov b n.args := by
  rw [setB_iff, cov_wrd hv hb hh]
  constructor
  · intro h
    refine ⟨fun i hi hw => h i hi (by rw [hwt i hi]; unfold matB; rw [hw]; rfl), fun n hn' => (cov_wrd hv hb (hn n hn')).2 fun i hi hw => h i hi (by rw [hwt i hi]; unfold matB; rw [List.any_eq_true.2 ⟨n, hn', hw⟩]; simp)⟩
  · rintro ⟨h1, h2⟩ i hi hw
    rw [hwt i hi] at hw
    unfold matB at hw
    rcases Bool.or_eq_true_iff.1 hw with h | h
    · exact h1 i hi h
    · obtain ⟨n, hn', h3⟩ := List.any_eq_true.1 h
      exact (cov_wrd hv hb (hn n hn')).1 (h2 n hn') i hi h3

theorem D.bits_less (l i : Nat) (hl : l < 16) (hi : i < 4) (h : l.testBit i = true) : bits .andNot .i64 (l : Int) (wrap64 (2 ^ i)) = ((l - 2 ^ i : Nat) : Int) := by
  have H : ∀ l : Nat, l < 16 → ∀ i : Nat, i < 4 → l.testBit i = true → bits .andNot .i64 (l : Int) (wrap64 (2 ^ i)) = ((l - 2 ^ i : Nat) : Int) := by decide +kernel
  exact H l hl i hi h

theorem D.less_bit (l i j : Nat) (hl : l < 16) (hi : i < 4) (hj : j < 4) (h : l.testBit i = true) : (l - 2 ^ i).testBit j = (l.testBit j && decide (j ≠ i)) := by
  have H : ∀ l : Nat, l < 16 → ∀ i : Nat, i < 4 → ∀ j : Nat, j < 4 → l.testBit i = true → (l - 2 ^ i).testBit j = (l.testBit j && decide (j ≠ i)) := by decide +kernel
  exact H l hl i hi j hj h

theorem D.less_lt (l i : Nat) (hl : l < 16) (hi : i < 4) (h : l.testBit i = true) : l - 2 ^ i < l := by
  have H : ∀ l : Nat, l < 16 → ∀ i : Nat, i < 4 → l.testBit i = true → l - 2 ^ i < l := by decide +kernel
  exact H l hl i hi h

theorem D.bit_some (l n : Nat) (hl : l < 2 ^ n) (hn : n ≤ 4) (h : l ≠ 0) : ∃ j, j < n ∧ l.testBit j = true := by
  have H : ∀ n : Nat, n < 5 → ∀ l : Nat, l < 2 ^ n → l ≠ 0 → ∃ j, j < n ∧ l.testBit j = true := by decide +kernel
  exact H n (by omega) l hl h

/-- A solution stays one as a part is matched, and comes from one. -/
theorem D.SolW.step {fs ps ns : List A} {b : Bd} {left m : Nat} {σ : Wo} {f : A} (hl : left < 16) (hp4 : ps.length ≤ 4) (hm : m < ps.length) (hbit : left.testBit m = true) (h : SolW fs ps ns b left σ) (he : fillW σ ps[m] = f) :
    (matchB ps[m] f b).2 = true ∧ SolW fs ps ns (matchB ps[m] f b).1 (left - 2 ^ m) σ := by
  obtain ⟨h1, h2, h3⟩ := h
  obtain ⟨g1, g2⟩ := matchB_words h1 he
  refine ⟨g1, g2, fun j hj hb => h2 j hj ?_, h3⟩
  rw [less_bit left m j hl (by omega) (by omega) hbit] at hb
  exact (Bool.and_eq_true_iff.1 hb).1

theorem D.SolW.back {fs ps ns : List A} {b : Bd} {left m : Nat} {σ : Wo} {f : A} (hl : left < 16) (hp4 : ps.length ≤ 4) (hm : m < ps.length) (hbit : left.testBit m = true) (hf : f ∈ fs) (hgr : Gr f) (hmt : (matchB ps[m] f b).2 = true) (h : SolW fs ps ns (matchB ps[m] f b).1 (left - 2 ^ m) σ) :
    SolW fs ps ns b left σ := by
  obtain ⟨h1, h2, h3⟩ := h
  obtain ⟨g1, g2⟩ := matchB_fill hgr hmt
  refine ⟨h1.of_le (matchB_le _ _ _), fun j hj hb => ?_, h3⟩
  by_cases e : j = m
  · subst e
    rw [← fillB_cov g1 h1, g2]; exact hf
  · refine h2 j hj ?_
    rw [less_bit left m j hl (by omega) (by omega) hbit, hb]
    simpa using e

end Go.Proofs.YtjjfafgaphloaaaGreatDoor
