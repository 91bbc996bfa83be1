/- The walk of the law FnProgNeeds. -/
import Derived.Laws.EntriesVeiled
import Derived.Deep.RegionHeld3
import Derived.Deep.RegionWith
import Derived.Deep.CutRange
import Derived.BigQuiet
import Derived.Deep.QuietTactic
import Derived.Deep.DrawnRows
import Derived.WalkKit
import Derived.WalkSpells
import Derived.WalkLawsBesides
import Derived.Lib.Hide
import Derived.Test.YtbcepahpehadeaaGreatDoorDrawPN
import Derived.Test.YtbcepahpehadeaaGreatDoorFsT
import Derived.Test.YtbcepahpehadeaaGreatDoorFsX
import Derived.Test.YtbcepahpehadeaaGreatDoorNeedI
import Derived.Test.YtbcepahpehadeaaGreatDoorNeedS
import Derived.Test.YtbcepahpehadeaaGreatDoorNamS
import Derived.Test.YtbcepahpehadeaaGreatDoorHdI
import Derived.Test.YtbcepahpehadeaaGreatDoorHdS
namespace Go.Proofs.YtbcepahpehadeaaGreatDoor
open Go.RowKit D
set_option linter.unusedVariables false
attribute [local go_sem ↓] Go.wp_at_zero Go.wp_at_succ

set_option maxRecDepth 100000 in
set_option maxHeartbeats 8000000 in
theorem progNeedsLaw_walk (cs : List UInt8) (v1 : Value) (bs1 : List Nat) (w : World) (h1 : bytesK w [v1] cs bs1) (hg : LaidE w) :
    Calls Tryz.prog 6 #[v1] w fun e w' => e = .returned (.bool true) ∧ Below w.heap.size w w' := by
  obtain ⟨Ad, cap, rfl, hl, hm⟩ := sliceK_form h1
  have hlm := nat_ge_max (Nat.le_trans hl hm)
  clear hl hm
  have HG := Lib.hid hg
  clear hg
  by_cases hn : cs.length ≤ 1048576
  · have hd := drawProgNeeds_any _ cs bs1 w h1 hn
    have hn' : ¬ (1048576 : Int) < (cs.length : Int) := by omega
    clear h1 hn
    go_enter Tryz.func6, Tryz.ntmps6
    go_wp2_with fail
    refine hd.mono ?_
    rintro e w1 ⟨xs, Av, cp, b1, s, rfl, hR1, hx9, hsm, hs, hbw⟩
    have HR1 := Lib.hid hR1
    have HBW := Lib.hid hbw
    have HX9 := Lib.hid hx9
    have HB1 : Hid (Below w1.heap.size w1 w1) := Lib.hid (Below.refl _ _)
    have hcI := progNeeds_impl xs s _ b1 w1 hR1 (HG.out.below hbw) hs.max
    have HCN := Lib.hid (fun w' (hb : Below w1.heap.size w1 w') => progNeeds_spec xs s _ b1 w' (rulesK_good.below hR1 hb) hs.max)
    have HCM := Lib.hid (fun w' (hb : Below w1.heap.size w1 w') => progNames_spec xs _ b1 w' (rulesK_good.below hR1 hb))
    have HCI := Lib.hid (fun w' (hb : Below w1.heap.size w1 w') => progHeads_impl xs s _ b1 w' (rulesK_good.below hR1 hb) (HG.out.below (hbw.trans (hb.mono hbw.size))) hs.max)
    have HCS := Lib.hid (fun w' (hb : Below w1.heap.size w1 w') => progHeads_spec xs s _ b1 w' (rulesK_good.below hR1 hb))
    have HNI := Lib.hid (fun w' (hb : Below w1.heap.size w1 w') => progNames_impl2 xs _ b1 w' (rulesK_good.below hR1 hb) (HG.out.below (hbw.trans (hb.mono hbw.size))))
    clear hd hR1 hbw hsm hx9 hs
    go_wp2_with fail
    refine hcI.mono ?_
    rintro e w2 ⟨hb2, v2, b2, rfl, hX2, _⟩
    obtain ⟨A2, c2, rfl, hl2, hm2⟩ := sliceK_form hX2
    have hlm2 := nat_ge_max (Nat.le_trans hl2 hm2)
    have HB2 := Lib.hid hb2
    have HX := Lib.hid hX2
    have hni := HNI.out w2 hb2
    clear hcI hX2 hb2 hl2 hm2 HNI
    go_wp2_with fail
    refine hni.mono ?_
    rintro e w3 ⟨hb3, v3, b3, rfl, hN3, _⟩
    obtain ⟨A3, c3, rfl, _, _⟩ := sliceK_form hN3
    have HB3 : Hid (Below w1.heap.size w1 w3) := Lib.hid (HB2.out.trans (hb3.mono HB2.out.size))
    have HN := Lib.hid hN3
    replace HX := Lib.hid (strsK_good.below HX.out hb3)
    clear hni hN3 hb3
    generalize hhd : progHeads xs s = hd at *
    clear hhd
    go_wp2_with fail
    refine (HCN.out w3 HB3.out).mono ?_
    rintro e w4 ⟨hb4, v4, b4, rfl, hq4⟩
    have HB4 : Hid (Below w1.heap.size w1 w4) := Lib.hid (HB3.out.trans (hb4.mono HB3.out.size))
    obtain ⟨A4, c4, rfl, _, _⟩ := sliceK_form hq4
    have HQ := Lib.hid hq4
    clear hq4
    replace HX := Lib.hid (strsK_good.below HX.out hb4)
    replace HN := Lib.hid (strsK_good.below HN.out hb4)
    clear hb4
    go_wp2_with fail
    refine (fsTexts_same _ _ _ _ _ w4 HX.out HQ.out).mono ?_
    rintro e w5 ⟨rfl, hb5⟩
    have HB5 : Hid (Below w1.heap.size w1 w5) := Lib.hid (HB4.out.trans (hb5.mono HB4.out.size))
    replace HX := Lib.hid (strsK_good.below HX.out hb5)
    replace HN := Lib.hid (strsK_good.below HN.out hb5)
    clear HQ
    clear hb5
    go_wp2_with fail
    refine (HCM.out w5 HB5.out).mono ?_
    rintro e w6 ⟨hb6, v6, b6, rfl, hq6⟩
    have HB6 : Hid (Below w1.heap.size w1 w6) := Lib.hid (HB5.out.trans (hb6.mono HB5.out.size))
    obtain ⟨A6, c6, rfl, _, _⟩ := sliceK_form hq6
    have HQ := Lib.hid hq6
    clear hq6
    replace HX := Lib.hid (strsK_good.below HX.out hb6)
    replace HN := Lib.hid (strsK_good.below HN.out hb6)
    clear hb6
    go_wp2_with fail
    refine (fsTexts_same _ _ _ _ _ w6 HN.out HQ.out).mono ?_
    rintro e w7 ⟨rfl, hb7⟩
    have HB7 : Hid (Below w1.heap.size w1 w7) := Lib.hid (HB6.out.trans (hb7.mono HB6.out.size))
    replace HX := Lib.hid (strsK_good.below HX.out hb7)
    replace HN := Lib.hid (strsK_good.below HN.out hb7)
    clear HQ
    clear hb7
    go_wp2_with fail
    refine (HCI.out w7 HB7.out).mono ?_
    rintro e w8 ⟨rfl, hb8⟩
    have HB8 : Hid (Below w1.heap.size w1 w8) := Lib.hid (HB7.out.trans (hb8.mono HB7.out.size))
    replace HX := Lib.hid (strsK_good.below HX.out hb8)
    replace HN := Lib.hid (strsK_good.below HN.out hb8)
    clear hb8
    go_wp2_with fail
    refine (HCS.out w8 HB8.out).mono ?_
    rintro e w9 ⟨rfl, hb9⟩
    have HB9 : Hid (Below w1.heap.size w1 w9) := Lib.hid (HB8.out.trans (hb9.mono HB8.out.size))
    replace HX := Lib.hid (strsK_good.below HX.out hb9)
    replace HN := Lib.hid (strsK_good.below HN.out hb9)
    clear hb9
    by_cases hX : (needsV xs s).length = 0
    case pos =>
      have hxi : (((needsV xs s).length : Int) == 0) = true := by rw [beq_iff_eq]; omega
      clear hX
      go_wp2_with fail
      refine (HCN.out w9 HB9.out).mono ?_
      rintro e w10 ⟨hb10, v10, b10, rfl, hq10⟩
      have HB10 : Hid (Below w1.heap.size w1 w10) := Lib.hid (HB9.out.trans (hb10.mono HB9.out.size))
      obtain ⟨A10, c10, rfl, _, _⟩ := sliceK_form hq10
      have HQ := Lib.hid hq10
      clear hq10
      replace HX := Lib.hid (strsK_good.below HX.out hb10)
      replace HN := Lib.hid (strsK_good.below HN.out hb10)
      clear hb10
      go_wp2_with fail
      refine (fsTexts_same _ _ _ _ _ w10 HX.out HQ.out).mono ?_
      rintro e w11 ⟨rfl, hb11⟩
      have HB11 : Hid (Below w1.heap.size w1 w11) := Lib.hid (HB10.out.trans (hb11.mono HB10.out.size))
      replace HX := Lib.hid (strsK_good.below HX.out hb11)
      replace HN := Lib.hid (strsK_good.below HN.out hb11)
      clear HQ
      clear hb11
      go_wp2_with fail
      refine (HCM.out w11 HB11.out).mono ?_
      rintro e w12 ⟨hb12, v12, b12, rfl, hq12⟩
      have HB12 : Hid (Below w1.heap.size w1 w12) := Lib.hid (HB11.out.trans (hb12.mono HB11.out.size))
      obtain ⟨A12, c12, rfl, _, _⟩ := sliceK_form hq12
      have HQ := Lib.hid hq12
      clear hq12
      replace HX := Lib.hid (strsK_good.below HX.out hb12)
      replace HN := Lib.hid (strsK_good.below HN.out hb12)
      clear hb12
      go_wp2_with fail
      refine (fsTexts_same _ _ _ _ _ w12 HN.out HQ.out).mono ?_
      rintro e w13 ⟨rfl, hb13⟩
      have HB13 : Hid (Below w1.heap.size w1 w13) := Lib.hid (HB12.out.trans (hb13.mono HB12.out.size))
      replace HX := Lib.hid (strsK_good.below HX.out hb13)
      replace HN := Lib.hid (strsK_good.below HN.out hb13)
      clear HQ
      clear hb13
      go_wp2_with fail
      refine (HCI.out w13 HB13.out).mono ?_
      rintro e w14 ⟨rfl, hb14⟩
      have HB14 : Hid (Below w1.heap.size w1 w14) := Lib.hid (HB13.out.trans (hb14.mono HB13.out.size))
      replace HX := Lib.hid (strsK_good.below HX.out hb14)
      replace HN := Lib.hid (strsK_good.below HN.out hb14)
      clear hb14
      go_wp2_with fail
      refine (HCS.out w14 HB14.out).mono ?_
      rintro e w15 ⟨rfl, hb15⟩
      have HB15 : Hid (Below w1.heap.size w1 w15) := Lib.hid (HB14.out.trans (hb15.mono HB14.out.size))
      replace HX := Lib.hid (strsK_good.below HX.out hb15)
      replace HN := Lib.hid (strsK_good.below HN.out hb15)
      clear hb15
      have HZ := Lib.hid (HBW.out.trans (HB15.out.mono HBW.out.size))
      go_wp2
      go_ret
      exact ⟨by simp, HZ.out⟩
    case neg =>
    have hxi : (((needsV xs s).length : Int) == 0) = false := by rw [beq_eq_false_iff_ne]; omega
    have hpn : progC xs = 0 ∧ s ∈ allNames xs := by
      by_cases h : progC xs = 0 ∧ s ∈ allNames xs
      · exact h
      · exfalso; apply hX; unfold needsV; rw [if_neg h]; rfl
    have hne : needsV xs s = needs xs s := by unfold needsV; rw [if_pos hpn]
    have hnm : namesV xs = ascOf (allNames xs) := by unfold namesV; rw [if_pos hpn.1]; rfl
    have F1 : Hid (∀ r ∈ xs, r.head.name ∈ needs xs s → ∀ p ∈ r.body, p.atom.name ∈ needs xs s) := Lib.hid (fun r hr hh p hp => needs_mem.2 (.step (needs_mem.1 hh) hr hp))
    have F2 : Hid (∀ x ∈ needs xs s, x ∈ ascOf (allNames xs)) := Lib.hid (fun x hx => (ascOf_mem _ _).2 ((reach_name (needs_mem.1 hx)).elim (fun e => e ▸ hpn.2) id))
    have F3 : Hid (s ∈ needs xs s) := Lib.hid (needs_mem.2 .self)
    have F4 : Hid (ascS (needs xs s)) := Lib.hid (needs_asc xs s)
    rw [hne] at hX hxi hlm2 HX ⊢
    rw [hnm] at HN ⊢
    generalize needs xs s = X at *
    generalize ascOf (allNames xs) = N at *
    have hxl : (xs.length : Int) ≤ 9 := by have := HX9.out; omega
    clear hpn hne hnm hX HCN HCM HCI HCS
    go_wp2_with fail
    go_loopw [7] (fun v wr => ∃ i : Nat, i ≤ xs.length ∧ v = .int .i64 i ∧ Below w9.heap.size w9 wr) (fun v _ => xs.length - (intOf v).toNat)
    case atStart => exact ⟨0, Nat.zero_le _, rfl, Below.refl _ _⟩
    case round =>
      obtain ⟨i, hi, rfl, hb⟩ := hrel
      have HB := Lib.hid hb
      have hi9 : (i : Int) ≤ 9 := by omega
      have hi0 : (0 : Int) ≤ (i : Int) := by omega
      have HT := Lib.hid (fun w' (hb : Below w9.heap.size w9 w') t => fsText_any X t _ b2 w' (strsK_good.below HX.out hb))
      have HM := Lib.hid (fun w' (hb : Below w9.heap.size w9 w') t => fsText_any N t _ b3 w' (strsK_good.below HN.out hb))
      clear hb
      by_cases hin : i < xs.length
      case pos =>
        have hi1 : (i : Int) < (xs.length : Int) := by omega
        obtain ⟨b0, o0, Ae, ce, Bi, di, bki, rfl, _, i0, i1, i2, heli, _⟩ := rules_el (rulesK_good.below HR1.out HB9.out) hin
        obtain ⟨p1, p2, rfl, hati, hbdi⟩ := rule_parts heli
        have HF1 : Hid (xs[i].head.name ∈ X → ∀ p ∈ xs[i].body, p.atom.name ∈ X) := Lib.hid (F1.out _ (List.getElem_mem hin))
        generalize xs[i] = ri at *
        have HBD := Lib.hid hbdi
        have HI0 := Lib.hid i0
        have HI2c := Lib.hid i2
        have HIN := Lib.hid hin
        have hblm : (ri.body.length : Int) ≤ 9223372036854775807 := by
          obtain ⟨_, _, _, h1, h2⟩ := sliceK_form hbdi
          exact nat_ge_max (Nat.le_trans h1 h2)
        clear heli hati hbdi i0 i1 i2 hin
        go_wp2_with fail
        go_loopw [8] (fun v wr => ∃ k : Nat, k ≤ ri.body.length ∧ v = .int .i64 k ∧ Below w9.heap.size w9 wr) (fun v _ => ri.body.length - (intOf v).toNat)
        case atStart => exact ⟨0, Nat.zero_le _, rfl, HB.out⟩
        case round =>
          clear HB
          obtain ⟨k, hk, rfl, hb⟩ := hrel
          have HB := Lib.hid hb
          have i0 := cell_later hb HI0.out
          have i2 := cell_later hb HI2c.out
          have hk0 : (0 : Int) ≤ (k : Int) := by omega
          by_cases hkn : k < ri.body.length
          case neg =>
            have hkn' : ¬ (k : Int) < (ri.body.length : Int) := by omega
            clear hb
            go_wp2_with fail
            go_roundw
            case rel => exact ⟨i + 1, HIN.out, by go_num, HB.out⟩
            case measure => have := HIN.out; simp [intOf]; omega
          case pos =>
          have hk1 : (k : Int) < (ri.body.length : Int) := by omega
          have hf := HT.out wr hb ri.head.name
          obtain ⟨b4, o5, Ag, cg, bg, rfl, _, f0, f1, f2, hel, _⟩ := parts_el HBD.out hkn
          have HF2 : Hid (ri.head.name ∈ X → ri.body[k].atom.name ∈ X) := Lib.hid (fun h => HF1.out h _ (List.getElem_mem hkn))
          have hf2 := fun w' hb' => HT.out w' hb' ri.body[k].atom.name
          have HK := Lib.hid hkn
          generalize ri.body[k] = p at *
          have HT2 := Lib.hid hf2
          have HF1c := Lib.hid f1
          clear f0 f1 f2 hel hkn hf2 hb
          go_wp2_with fail
          refine hf.mono ?_
          rintro e w20 ⟨rfl, hb20⟩
          have HB20 : Hid (Below w9.heap.size w9 w20) := Lib.hid (HB.out.trans (hb20.mono HB.out.size))
          have hdec : Hid (decide (ri.head.name ∈ X) = true → p.atom.name ∈ X) := Lib.hid (fun h => HF2.out (by simpa using h))
          clear hf hb20
          generalize decide (ri.head.name ∈ X) = d at *
          cases d
          case false =>
            clear i0 i2
            go_wp2_with fail
            go_roundw
            case rel => exact ⟨i + 1, HIN.out, by go_num, HB20.out⟩
            case measure => have := HIN.out; simp [intOf]; omega
          case true =>
            have hf2 := HT2.out w20 HB20.out
            rw [show decide (p.atom.name ∈ X) = true from by simpa using hdec.out rfl] at hf2
            replace i0 := cell_later HB20.out HI0.out
            replace i2 := cell_later HB20.out HI2c.out
            have f1 := cell_later HB20.out HF1c.out
            go_wp2_with fail
            refine hf2.mono ?_
            rintro e w21 ⟨rfl, hb21⟩
            have HB21 := Lib.hid (HB20.out.trans (hb21.mono HB20.out.size))
            clear hf2 hb21 i0 i2 f1
            go_wp2_with fail
            go_roundw
            case rel => exact ⟨k + 1, HK.out, by go_num, HB21.out⟩
            case measure => have := HK.out; simp [intOf]; omega
      case neg =>
        have hie : i = xs.length := by omega
        subst hie
        have hxx : ¬ (xs.length : Int) < (xs.length : Int) := by omega
        clear hin hi hi9
        go_wp2_with fail
        go_loopw [9] (fun v wr => ∃ k : Nat, k ≤ X.length ∧ v = .int .i64 k ∧ Below w9.heap.size w9 wr) (fun v _ => X.length - (intOf v).toNat)
        case atStart => exact ⟨0, Nat.zero_le _, rfl, HB.out⟩
        case round =>
          clear HB
          obtain ⟨k, hk, rfl, hb⟩ := hrel
          have HB := Lib.hid hb
          have hk0 : (0 : Int) ≤ (k : Int) := by omega
          by_cases hkn : k < X.length
          case neg =>
            have hke : k = X.length := by omega
            subst hke
            have hkn' : ¬ (X.length : Int) < (X.length : Int) := by omega
            have hf := HT.out wr hb s
            rw [show decide (s ∈ X) = true from by simpa using F3.out] at hf
            clear hb hk hkn
            go_wp2_with fail
            refine hf.mono ?_
            rintro e w22 ⟨rfl, hb22⟩
            have HZ := Lib.hid (HBW.out.trans ((HB9.out.trans ((HB.out.trans (hb22.mono HB.out.size)).mono HB9.out.size)).mono HBW.out.size))
            clear hf hb22
            go_wp2_with fail
            go_ret
            exact ⟨rfl, HZ.out⟩
          case pos =>
          have hk1 : (k : Int) < (X.length : Int) := by omega
          obtain ⟨bx, ox, rfl, _, x0, _⟩ := strs_at HX.out hkn
          replace x0 := cell_later hb x0
          have hf := HM.out wr.drew ((hb.trans ((Below.refl _ _).drew))) X[k]
          rw [show decide (X[k] ∈ N) = true from by simpa using F2.out _ (List.getElem_mem hkn)] at hf
          have HF := Lib.hid hf
          have HCM : Hid (∀ h0 : 0 < k, cmpS (X[k-1]'(by omega)) X[k] < 0) := Lib.hid (fun h0 => List.pairwise_iff_getElem.1 F4.out (k - 1) k (by omega) hkn (by omega))
          have HX1 : Hid (0 < k → wr.cell? ⟨bx, ox + (k - 1), none⟩ = some (.string (X[k-1]'(by omega)))) := Lib.hid (fun h0 => by
            obtain ⟨b9, o9, e9, _, h9, _⟩ := strs_at HX.out (k := k - 1) (by omega)
            simp only [Option.some.injEq, Addr.mk.injEq, and_true] at e9
            obtain ⟨rfl, rfl⟩ := e9
            exact cell_later hb h9)
          have HK := Lib.hid hkn
          by_cases h0 : k = 0
          · subst h0
            generalize X[0] = t at *
            replace x0 : wr.cell? ⟨bx, ox, none⟩ = some (.string t) := x0
            clear hkn hk hb HCM HX1 hf
            go_wp2_with fail
            refine wp_region_held_drew (S := (fun w' => w'.cell? ⟨bx, ox, none⟩ = some (.string t))) (by kernel_rfl) ?_ (fun hHeld => ?_)
            · exact x0
            refine wpAnyH_take (i := 0) (oi := ⟨_, _, _, _, _, _⟩) (v := ?_) rfl (by kernel_rfl) (by kernel_rfl) (by kernel_rfl) (fun _ _ _ h => h) (Or.inl ⟨by rfl, ?_⟩) (by assumption) ?_
            rotate_left
            · (intro w hSw; (try dsimp only at hSw); go_simp); (first | done | with_reducible rfl)
            try simp only [Act.put, List.setIfInBounds_toArray, List.set_cons_zero, List.set_cons_succ]
            refine wpAnyH_take (i := 1) (oi := ⟨_, _, _, _, _, _⟩) (v := ?_) rfl (by kernel_rfl) (by kernel_rfl) (by kernel_rfl) (fun _ _ _ h => h) (Or.inl ⟨by rfl, ?_⟩) (by assumption) ?_
            rotate_left
            · (intro w hSw; (try dsimp only at hSw); go_simp); (first | done | with_reducible rfl)
            try simp only [Act.put, List.setIfInBounds_toArray, List.set_cons_zero, List.set_cons_succ]
            refine wpAnyH_take (i := 2) (oi := ⟨_, _, _, _, _, _⟩) (v := ?_) rfl (by kernel_rfl) (by kernel_rfl) (by kernel_rfl) (fun _ _ _ h => h) (Or.inl ⟨by rfl, ?_⟩) (by assumption) ?_
            rotate_left
            · (intro w hSw; (try dsimp only at hSw); go_simp); (first | done | with_reducible rfl)
            try simp only [Act.put, List.setIfInBounds_toArray, List.set_cons_zero, List.set_cons_succ]
            refine wpAnyH_take (i := 3) (oi := ⟨_, _, _, _, _, _⟩) (v := ?_) rfl (by kernel_rfl) (by kernel_rfl) (by kernel_rfl) (fun _ _ _ h => h) (Or.inl ⟨by rfl, ?_⟩) (by assumption) ?_
            rotate_left
            · (intro w hSw; (try dsimp only at hSw); go_simp); (first | done | with_reducible rfl)
            try simp only [Act.put, List.setIfInBounds_toArray, List.set_cons_zero, List.set_cons_succ]
            refine wpAnyH_take (i := 4) (oi := ⟨_, _, _, _, _, _⟩) (v := ?_) rfl (by kernel_rfl) (by kernel_rfl) (by kernel_rfl) (fun _ _ _ h => h) (Or.inl ⟨by rfl, ?_⟩) (by assumption) ?_
            rotate_left
            · (intro w hSw; (try dsimp only at hSw); go_simp); (first | done | with_reducible rfl)
            try simp only [Act.put, List.setIfInBounds_toArray, List.set_cons_zero, List.set_cons_succ]
            refine wpAnyH_ready (rs := [5]) (by kernel_rfl) (by simp) ?_
            refine AllReadyH.cons (o := ⟨_, _, _, _, _, _⟩) rfl (fun K hK => ?_) AllReadyH.nil
            rw [if_pos (by rfl)]
            go_simp
            go_at_call 27
            refine HF.out.mono ?_
            rintro e w23 ⟨rfl, hb23⟩
            have HB23 : Hid (Below w9.heap.size w9 w23) := Lib.hid (HB.out.trans ((show Below wr.heap.size wr w23 from ((Below.refl _ _).drew).trans hb23).mono HB.out.size))
            replace x0 := cell_later hb23 x0
            clear hHeld
            refine hK.out _ _ ?_ (fun hHeld => ?_)
            · exact x0
            clear hK
            clear K
            try simp only [Act.put, List.setIfInBounds_toArray, List.set_cons_zero, List.set_cons_succ]
            refine wpAnyH_take (i := 6) (oi := ⟨_, _, _, _, _, _⟩) (v := ?_) rfl (by kernel_rfl) (by kernel_rfl) (by kernel_rfl) (fun _ _ _ h => h) (Or.inl ⟨by rfl, ?_⟩) (by assumption) ?_
            rotate_left
            · (intro w hSw; (try dsimp only at hSw); go_simp); (first | done | with_reducible rfl)
            try simp only [Act.put, List.setIfInBounds_toArray, List.set_cons_zero, List.set_cons_succ]
            refine wpAnyH_take (i := 7) (oi := ⟨_, _, _, _, _, _⟩) (v := ?_) rfl (by kernel_rfl) (by kernel_rfl) (by kernel_rfl) (fun _ _ _ h => h) (Or.inl ⟨by rfl, ?_⟩) (by assumption) ?_
            rotate_left
            · (intro w hSw; (try dsimp only at hSw); go_simp); (first | done | with_reducible rfl)
            try simp only [Act.put, List.setIfInBounds_toArray, List.set_cons_zero, List.set_cons_succ]
            refine wpAnyH_take (i := 8) (oi := ⟨_, _, _, _, _, _⟩) (v := ?_) rfl (by kernel_rfl) (by kernel_rfl) (by kernel_rfl) (fun _ _ _ h => h) (Or.inl ⟨by rfl, ?_⟩) (by assumption) ?_
            rotate_left
            · (intro w hSw; (try dsimp only at hSw); go_simp); (first | done | with_reducible rfl)
            try simp only [Act.put, List.setIfInBounds_toArray, List.set_cons_zero, List.set_cons_succ]
            refine wpAnyH_take (i := 9) (oi := ⟨_, _, _, _, _, _⟩) (v := ?_) rfl (by kernel_rfl) (by kernel_rfl) (by kernel_rfl) (fun _ _ _ h => h) (Or.inl ⟨by rfl, ?_⟩) (by assumption) ?_
            rotate_left
            · (intro w hSw; (try dsimp only at hSw); go_simp); (first | done | with_reducible rfl)
            try simp only [Act.put, List.setIfInBounds_toArray, List.set_cons_zero, List.set_cons_succ]
            refine wpAnyH_take (i := 10) (oi := ⟨_, _, _, _, _, _⟩) (v := ?_) rfl (by kernel_rfl) (by kernel_rfl) (by kernel_rfl) (fun _ _ _ h => h) (Or.inl ⟨by rfl, ?_⟩) (by assumption) ?_
            rotate_left
            · (intro w hSw; (try dsimp only at hSw); go_simp); (first | done | with_reducible rfl)
            try simp only [Act.put, List.setIfInBounds_toArray, List.set_cons_zero, List.set_cons_succ]
            refine wpAnyH_take (i := 11) (oi := ⟨_, _, _, _, _, _⟩) (v := undef) rfl (by kernel_rfl) (by kernel_rfl) (by kernel_rfl) (fun _ _ _ h => h) (Or.inr ⟨by kernel_rfl, rfl⟩) (by assumption) ?_
            try simp only [Act.put, List.setIfInBounds_toArray, List.set_cons_zero, List.set_cons_succ]
            refine wpAnyH_take (i := 12) (oi := ⟨_, _, _, _, _, _⟩) (v := undef) rfl (by kernel_rfl) (by kernel_rfl) (by kernel_rfl) (fun _ _ _ h => h) (Or.inr ⟨by kernel_rfl, rfl⟩) (by assumption) ?_
            try simp only [Act.put, List.setIfInBounds_toArray, List.set_cons_zero, List.set_cons_succ]
            refine wpAnyH_take (i := 13) (oi := ⟨_, _, _, _, _, _⟩) (v := undef) rfl (by kernel_rfl) (by kernel_rfl) (by kernel_rfl) (fun _ _ _ h => h) (Or.inr ⟨by kernel_rfl, rfl⟩) (by assumption) ?_
            try simp only [Act.put, List.setIfInBounds_toArray, List.set_cons_zero, List.set_cons_succ]
            refine wpAnyH_take (i := 14) (oi := ⟨_, _, _, _, _, _⟩) (v := undef) rfl (by kernel_rfl) (by kernel_rfl) (by kernel_rfl) (fun _ _ _ h => h) (Or.inr ⟨by kernel_rfl, rfl⟩) (by assumption) ?_
            try simp only [Act.put, List.setIfInBounds_toArray, List.set_cons_zero, List.set_cons_succ]
            refine wpAnyH_take (i := 15) (oi := ⟨_, _, _, _, _, _⟩) (v := undef) rfl (by kernel_rfl) (by kernel_rfl) (by kernel_rfl) (fun _ _ _ h => h) (Or.inr ⟨by kernel_rfl, rfl⟩) (by assumption) ?_
            try simp only [Act.put, List.setIfInBounds_toArray, List.set_cons_zero, List.set_cons_succ]
            refine wpAnyH_take (i := 16) (oi := ⟨_, _, _, _, _, _⟩) (v := undef) rfl (by kernel_rfl) (by kernel_rfl) (by kernel_rfl) (fun _ _ _ h => h) (Or.inr ⟨by kernel_rfl, rfl⟩) (by assumption) ?_
            try simp only [Act.put, List.setIfInBounds_toArray, List.set_cons_zero, List.set_cons_succ]
            refine wpAnyH_take (i := 17) (oi := ⟨_, _, _, _, _, _⟩) (v := undef) rfl (by kernel_rfl) (by kernel_rfl) (by kernel_rfl) (fun _ _ _ h => h) (Or.inr ⟨by kernel_rfl, rfl⟩) (by assumption) ?_
            try simp only [Act.put, List.setIfInBounds_toArray, List.set_cons_zero, List.set_cons_succ]
            refine wpAnyH_take (i := 18) (oi := ⟨_, _, _, _, _, _⟩) (v := undef) rfl (by kernel_rfl) (by kernel_rfl) (by kernel_rfl) (fun _ _ _ h => h) (Or.inr ⟨by kernel_rfl, rfl⟩) (by assumption) ?_
            try simp only [Act.put, List.setIfInBounds_toArray, List.set_cons_zero, List.set_cons_succ]
            refine wpAnyH_take (i := 19) (oi := ⟨_, _, _, _, _, _⟩) (v := undef) rfl (by kernel_rfl) (by kernel_rfl) (by kernel_rfl) (fun _ _ _ h => h) (Or.inr ⟨by kernel_rfl, rfl⟩) (by assumption) ?_
            try simp only [Act.put, List.setIfInBounds_toArray, List.set_cons_zero, List.set_cons_succ]
            refine wpAnyH_take (i := 20) (oi := ⟨_, _, _, _, _, _⟩) (v := undef) rfl (by kernel_rfl) (by kernel_rfl) (by kernel_rfl) (fun _ _ _ h => h) (Or.inr ⟨by kernel_rfl, rfl⟩) (by assumption) ?_
            try simp only [Act.put, List.setIfInBounds_toArray, List.set_cons_zero, List.set_cons_succ]
            refine wpAnyH_take (i := 21) (oi := ⟨_, _, _, _, _, _⟩) (v := ?_) rfl (by kernel_rfl) (by kernel_rfl) (by kernel_rfl) (fun _ _ _ h => h) (Or.inl ⟨by rfl, ?_⟩) (by assumption) ?_
            rotate_left
            · (intro w hSw; (try dsimp only at hSw); go_simp); (first | done | with_reducible rfl)
            try simp only [Act.put, List.setIfInBounds_toArray, List.set_cons_zero, List.set_cons_succ]
            refine wpAnyH_take (i := 22) (oi := ⟨_, _, _, _, _, _⟩) (v := ?_) rfl (by kernel_rfl) (by kernel_rfl) (by kernel_rfl) (fun _ _ _ h => h) (Or.inl ⟨by rfl, ?_⟩) (by assumption) ?_
            rotate_left
            · (intro w hSw; (try dsimp only at hSw); go_simp); (first | done | with_reducible rfl)
            try simp only [Act.put, List.setIfInBounds_toArray, List.set_cons_zero, List.set_cons_succ]
            clear hHeld
            refine wpAnyH_done (by kernel_rfl) ?_ _
            go_wp2_with fail
            go_roundw
            case rel => exact ⟨0 + 1, HK.out, by go_num, HB23.out⟩
            case measure => have := HK.out; simp [intOf]; omega
          · have h0i : (0 : Int) < (k : Int) := by omega
            have h0n : 0 < k := by omega
            have x1 := HX1.out h0n
            have hcm := HCM.out h0n
            generalize X[k-1]'(by omega) = u at *
            generalize X[k] = t at *
            have hd1 : decide ((0 : Int) < (k : Int)) = true := by simpa using h0n
            have hd2 : decide (0 < k) = true := by simpa using h0n
            have hw1 : IntKind.i64.wrap ((k : Int) - 1) = (k : Int) - 1 := by simp only [IntKind.wrap, IntKind.bits, IntKind.signed]; simp; omega
            have hw2 : ((k : Int) - 1).toNat = k - 1 := by omega
            have hw3 : (0 : Int) ≤ (k : Int) - 1 := by omega
            have hw5 : (1 : Int) ≤ (k : Int) := by omega
            have hw4 : (k : Int) - 1 < (X.length : Int) := by omega
            clear hkn hk hb HCM HX1 hf h0
            go_wp2_with fail
            refine wp_region_held_drew (S := (fun w' => w'.cell? ⟨bx, ox + k, none⟩ = some (.string t) ∧ w'.cell? ⟨bx, ox + (k - 1), none⟩ = some (.string u))) (by kernel_rfl) ?_ (fun hHeld => ?_)
            · exact ⟨x0, x1⟩
            refine wpAnyH_take (i := 0) (oi := ⟨_, _, _, _, _, _⟩) (v := ?_) rfl (by kernel_rfl) (by kernel_rfl) (by kernel_rfl) (fun _ _ _ h => h) (Or.inl ⟨by rfl, ?_⟩) (by assumption) ?_
            rotate_left
            · (intro w hSw; (try dsimp only at hSw); go_simp); (first | done | with_reducible rfl)
            try simp only [Act.put, List.setIfInBounds_toArray, List.set_cons_zero, List.set_cons_succ]
            refine wpAnyH_take (i := 1) (oi := ⟨_, _, _, _, _, _⟩) (v := ?_) rfl (by kernel_rfl) (by kernel_rfl) (by kernel_rfl) (fun _ _ _ h => h) (Or.inl ⟨by rfl, ?_⟩) (by assumption) ?_
            rotate_left
            · (intro w hSw; (try dsimp only at hSw); go_simp); (first | done | with_reducible rfl)
            try simp only [Act.put, List.setIfInBounds_toArray, List.set_cons_zero, List.set_cons_succ]
            refine wpAnyH_take (i := 2) (oi := ⟨_, _, _, _, _, _⟩) (v := ?_) rfl (by kernel_rfl) (by kernel_rfl) (by kernel_rfl) (fun _ _ _ h => h) (Or.inl ⟨by rfl, ?_⟩) (by assumption) ?_
            rotate_left
            · (intro w hSw; (try dsimp only at hSw); go_simp); (first | done | with_reducible rfl)
            try simp only [Act.put, List.setIfInBounds_toArray, List.set_cons_zero, List.set_cons_succ]
            refine wpAnyH_take (i := 3) (oi := ⟨_, _, _, _, _, _⟩) (v := ?_) rfl (by kernel_rfl) (by kernel_rfl) (by kernel_rfl) (fun _ _ _ h => h) (Or.inl ⟨by rfl, ?_⟩) (by assumption) ?_
            rotate_left
            · (intro w hSw; (try dsimp only at hSw); go_simp); (first | done | with_reducible rfl)
            try simp only [Act.put, List.setIfInBounds_toArray, List.set_cons_zero, List.set_cons_succ]
            refine wpAnyH_take (i := 4) (oi := ⟨_, _, _, _, _, _⟩) (v := ?_) rfl (by kernel_rfl) (by kernel_rfl) (by kernel_rfl) (fun _ _ _ h => h) (Or.inl ⟨by rfl, ?_⟩) (by assumption) ?_
            rotate_left
            · (intro w hSw; (try dsimp only at hSw); go_simp); (first | done | with_reducible rfl)
            try simp only [Act.put, List.setIfInBounds_toArray, List.set_cons_zero, List.set_cons_succ]
            refine wpAnyH_ready (rs := [5]) (by kernel_rfl) (by simp) ?_
            refine AllReadyH.cons (o := ⟨_, _, _, _, _, _⟩) rfl (fun K hK => ?_) AllReadyH.nil
            rw [if_pos (by rfl)]
            go_simp
            go_at_call 27
            refine HF.out.mono ?_
            rintro e w23 ⟨rfl, hb23⟩
            have HB23 : Hid (Below w9.heap.size w9 w23) := Lib.hid (HB.out.trans ((show Below wr.heap.size wr w23 from ((Below.refl _ _).drew).trans hb23).mono HB.out.size))
            replace x0 := cell_later hb23 x0
            replace x1 := cell_later hb23 x1
            clear hHeld
            refine hK.out _ _ ?_ (fun hHeld => ?_)
            · exact ⟨x0, x1⟩
            clear hK
            clear K
            try simp only [Act.put, List.setIfInBounds_toArray, List.set_cons_zero, List.set_cons_succ]
            refine wpAnyH_take (i := 6) (oi := ⟨_, _, _, _, _, _⟩) (v := ?_) rfl (by kernel_rfl) (by kernel_rfl) (by kernel_rfl) (fun _ _ _ h => h) (Or.inl ⟨by rfl, ?_⟩) (by assumption) ?_
            rotate_left
            · (intro w hSw; (try dsimp only at hSw); go_simp); (first | done | with_reducible rfl)
            try simp only [Act.put, List.setIfInBounds_toArray, List.set_cons_zero, List.set_cons_succ]
            refine wpAnyH_take (i := 7) (oi := ⟨_, _, _, _, _, _⟩) (v := ?_) rfl (by kernel_rfl) (by kernel_rfl) (by kernel_rfl) (fun _ _ _ h => h) (Or.inl ⟨by rfl, ?_⟩) (by assumption) ?_
            rotate_left
            · (intro w hSw; (try dsimp only at hSw); go_simp); (first | done | with_reducible rfl)
            try simp only [Act.put, List.setIfInBounds_toArray, List.set_cons_zero, List.set_cons_succ]
            refine wpAnyH_take (i := 8) (oi := ⟨_, _, _, _, _, _⟩) (v := ?_) rfl (by kernel_rfl) (by kernel_rfl) (by kernel_rfl) (fun _ _ _ h => h) (Or.inl ⟨by rfl, ?_⟩) (by assumption) ?_
            rotate_left
            · (intro w hSw; (try dsimp only at hSw); go_simp); (first | done | with_reducible rfl)
            try simp only [Act.put, List.setIfInBounds_toArray, List.set_cons_zero, List.set_cons_succ]
            refine wpAnyH_take (i := 9) (oi := ⟨_, _, _, _, _, _⟩) (v := ?_) rfl (by kernel_rfl) (by kernel_rfl) (by kernel_rfl) (fun _ _ _ h => h) (Or.inl ⟨by rfl, ?_⟩) (by assumption) ?_
            rotate_left
            · (intro w hSw; (try dsimp only at hSw); go_simp); (first | done | with_reducible rfl)
            try simp only [Act.put, List.setIfInBounds_toArray, List.set_cons_zero, List.set_cons_succ]
            refine wpAnyH_take (i := 10) (oi := ⟨_, _, _, _, _, _⟩) (v := ?_) rfl (by kernel_rfl) (by kernel_rfl) (by kernel_rfl) (fun _ _ _ h => h) (Or.inl ⟨by rfl, ?_⟩) (by assumption) ?_
            rotate_left
            · (intro w hSw; (try dsimp only at hSw); go_simp); (first | done | with_reducible rfl)
            try simp only [Act.put, List.setIfInBounds_toArray, List.set_cons_zero, List.set_cons_succ]
            refine wpAnyH_take (i := 11) (oi := ⟨_, _, _, _, _, _⟩) (v := ?_) rfl (by kernel_rfl) (by kernel_rfl) (by kernel_rfl) (fun _ _ _ h => h) (Or.inl ⟨by rfl, ?_⟩) (by assumption) ?_
            rotate_left
            · (intro w hSw; (try dsimp only at hSw); go_simp); (first | done | with_reducible rfl)
            try simp only [Act.put, List.setIfInBounds_toArray, List.set_cons_zero, List.set_cons_succ]
            refine wpAnyH_take (i := 12) (oi := ⟨_, _, _, _, _, _⟩) (v := ?_) rfl (by kernel_rfl) (by kernel_rfl) (by kernel_rfl) (fun _ _ _ h => h) (Or.inl ⟨by rfl, ?_⟩) (by assumption) ?_
            rotate_left
            · (intro w hSw; (try dsimp only at hSw); go_simp); (first | done | with_reducible rfl)
            try simp only [Act.put, List.setIfInBounds_toArray, List.set_cons_zero, List.set_cons_succ]
            refine wpAnyH_take (i := 13) (oi := ⟨_, _, _, _, _, _⟩) (v := ?_) rfl (by kernel_rfl) (by kernel_rfl) (by kernel_rfl) (fun _ _ _ h => h) (Or.inl ⟨by rfl, ?_⟩) (by assumption) ?_
            rotate_left
            · (intro w hSw; (try dsimp only at hSw); go_simp); (first | done | with_reducible rfl)
            try simp only [Act.put, List.setIfInBounds_toArray, List.set_cons_zero, List.set_cons_succ]
            refine wpAnyH_take (i := 14) (oi := ⟨_, _, _, _, _, _⟩) (v := ?_) rfl (by kernel_rfl) (by kernel_rfl) (by kernel_rfl) (fun _ _ _ h => h) (Or.inl ⟨by rfl, ?_⟩) (by assumption) ?_
            rotate_left
            · (intro w hSw; (try dsimp only at hSw); go_simp); (first | done | with_reducible rfl)
            try simp only [Act.put, List.setIfInBounds_toArray, List.set_cons_zero, List.set_cons_succ]
            refine wpAnyH_take (i := 15) (oi := ⟨_, _, _, _, _, _⟩) (v := ?_) rfl (by kernel_rfl) (by kernel_rfl) (by kernel_rfl) (fun _ _ _ h => h) (Or.inl ⟨by rfl, ?_⟩) (by assumption) ?_
            rotate_left
            · (intro w hSw; (try dsimp only at hSw); go_simp); (first | done | with_reducible rfl)
            try simp only [Act.put, List.setIfInBounds_toArray, List.set_cons_zero, List.set_cons_succ]
            refine wpAnyH_take (i := 16) (oi := ⟨_, _, _, _, _, _⟩) (v := ?_) rfl (by kernel_rfl) (by kernel_rfl) (by kernel_rfl) (fun _ _ _ h => h) (Or.inl ⟨by rfl, ?_⟩) (by assumption) ?_
            rotate_left
            · (intro w hSw; (try dsimp only at hSw); go_simp); (first | done | with_reducible rfl)
            try simp only [Act.put, List.setIfInBounds_toArray, List.set_cons_zero, List.set_cons_succ]
            refine wpAnyH_take (i := 17) (oi := ⟨_, _, _, _, _, _⟩) (v := ?_) rfl (by kernel_rfl) (by kernel_rfl) (by kernel_rfl) (fun _ _ _ h => h) (Or.inl ⟨by rfl, ?_⟩) (by assumption) ?_
            rotate_left
            · (intro w hSw; (try dsimp only at hSw); go_simp); (first | done | with_reducible rfl)
            try simp only [Act.put, List.setIfInBounds_toArray, List.set_cons_zero, List.set_cons_succ]
            refine wpAnyH_take (i := 18) (oi := ⟨_, _, _, _, _, _⟩) (v := ?_) rfl (by kernel_rfl) (by kernel_rfl) (by kernel_rfl) (fun _ _ _ h => h) (Or.inl ⟨by rfl, ?_⟩) (by assumption) ?_
            rotate_left
            · (intro w hSw; (try dsimp only at hSw); go_simp); (first | done | with_reducible rfl)
            try simp only [Act.put, List.setIfInBounds_toArray, List.set_cons_zero, List.set_cons_succ]
            refine wpAnyH_take (i := 19) (oi := ⟨_, _, _, _, _, _⟩) (v := ?_) rfl (by kernel_rfl) (by kernel_rfl) (by kernel_rfl) (fun _ _ _ h => h) (Or.inl ⟨by rfl, ?_⟩) (by assumption) ?_
            rotate_left
            · (intro w hSw; (try dsimp only at hSw); go_simp); (first | done | with_reducible rfl)
            try simp only [Act.put, List.setIfInBounds_toArray, List.set_cons_zero, List.set_cons_succ]
            refine wpAnyH_take (i := 20) (oi := ⟨_, _, _, _, _, _⟩) (v := ?_) rfl (by kernel_rfl) (by kernel_rfl) (by kernel_rfl) (fun _ _ _ h => h) (Or.inl ⟨by rfl, ?_⟩) (by assumption) ?_
            rotate_left
            · (intro w hSw; (try dsimp only at hSw); go_simp); (first | done | with_reducible rfl)
            try simp only [Act.put, List.setIfInBounds_toArray, List.set_cons_zero, List.set_cons_succ]
            refine wpAnyH_take (i := 21) (oi := ⟨_, _, _, _, _, _⟩) (v := ?_) rfl (by kernel_rfl) (by kernel_rfl) (by kernel_rfl) (fun _ _ _ h => h) (Or.inl ⟨by rfl, ?_⟩) (by assumption) ?_
            rotate_left
            · (intro w hSw; (try dsimp only at hSw); go_simp); (first | done | with_reducible rfl)
            try simp only [Act.put, List.setIfInBounds_toArray, List.set_cons_zero, List.set_cons_succ]
            refine wpAnyH_take (i := 22) (oi := ⟨_, _, _, _, _, _⟩) (v := ?_) rfl (by kernel_rfl) (by kernel_rfl) (by kernel_rfl) (fun _ _ _ h => h) (Or.inl ⟨by rfl, ?_⟩) (by assumption) ?_
            rotate_left
            · (intro w hSw; (try dsimp only at hSw); go_simp); (first | done | with_reducible rfl)
            try simp only [Act.put, List.setIfInBounds_toArray, List.set_cons_zero, List.set_cons_succ]
            clear hHeld
            refine wpAnyH_done (by kernel_rfl) ?_ _
            have hless : (!Op.bytesLess u.toList t.toList) = false := by rw [less_cmpS]; simpa using hcm
            rw [hless]
            clear hcm hless
            go_wp2_with fail
            go_roundw
            case rel => exact ⟨k + 1, HK.out, by go_num, HB23.out⟩
            case measure => have := HK.out; simp [intOf]; omega
  · have hn' : (1048576 : Int) < (cs.length : Int) := by omega
    go_enter Tryz.func6, Tryz.ntmps6
    go_wp2
    go_ret
    exact ⟨rfl, Below.refl _ _⟩

end Go.Proofs.YtbcepahpehadeaaGreatDoor
