/- The walk of the law FnProgStrata. -/
import Derived.Laws.EntriesVeiled
import Derived.Deep.RegionHeld3
import Derived.Deep.RegionWith
import Derived.Deep.CutRange
import Derived.BigQuiet
import Derived.Deep.QuietTactic
import Derived.Deep.DrawnRows
import Derived.WalkKit
import Derived.WalkSpells
import Derived.WalkLawsBesides
import Derived.Lib.Hide
import Derived.Test.YtbcepahpehadeaaDoorDrawPS
import Derived.Test.YtbcepahpehadeaaDoorPrgP
import Derived.Test.YtbcepahpehadeaaDoorSta
import Derived.Test.YtbcepahpehadeaaDoorFsI
namespace Go.Proofs.YtbcepahpehadeaaDoor
open Go.RowKit D
set_option linter.unusedVariables false
attribute [local go_sem ↓] Go.wp_at_zero Go.wp_at_succ

theorem D.atL_get {out : List Nat} {i : Nat} (h : i < out.length) : out[i] = atL out i := by unfold atL; rw [List.getD_eq_getElem?_getD, List.getElem?_eq_getElem h]; rfl

set_option maxRecDepth 100000 in
set_option maxHeartbeats 8000000 in
theorem progStrataLaw_walk (cs : List UInt8) (v1 : Value) (bs1 : List Nat) (w : World) (h1 : bytesK w [v1] cs bs1) (hg : LaidE w) :
    Calls Tryd.prog 7 #[v1] w fun e w' => e = .returned (.bool true) ∧ Below w.heap.size w w' := by
  obtain ⟨Ad, cap, rfl, hl, hm⟩ := sliceK_form h1
  have hlm := nat_ge_max (Nat.le_trans hl hm)
  clear hl hm
  have HG := Lib.hid hg
  clear hg
  by_cases hn : cs.length ≤ 1048576
  · have hd := drawProgStrata_any _ cs bs1 w h1 hn
    have hn' : ¬ (1048576 : Int) < (cs.length : Int) := by omega
    clear h1 hn
    go_enter Tryd.func7, Tryd.ntmps7
    go_wp2_with fail
    refine hd.mono ?_
    rintro e w1 ⟨xs, Av, cp, b1, rfl, hR1, hx9, hsm, hb1⟩
    have HR1 := Lib.hid hR1
    have HB1 := Lib.hid hb1
    have HX9 := Lib.hid hx9
    have hpi := progStrata_impl xs _ b1 w1 hR1 (HG.out.below hb1)
    have hps := fun w' (hb : Below w1.heap.size w1 w') => progStrata_spec xs _ b1 w' (rulesK_good.below hR1 hb)
    have hpc := fun w' (hb : Below w1.heap.size w1 w') => progCheck_spec xs _ b1 w' (rulesK_good.below hR1 hb)
    have HPS := Lib.hid hps
    have HPC := Lib.hid hpc
    clear hd hR1 hb1 hsm hps hpc hx9
    go_wp2_with fail
    refine hpi.mono ?_
    rintro e w2 ⟨hb2, v2, b2, rfl, hI2, hN2⟩
    obtain ⟨A2, c2, rfl, hl2, hm2⟩ := sliceK_form hI2
    have hs3 := HPS.out w2 hb2
    have HI2 := Lib.hid hI2
    have HB2 := Lib.hid hb2
    have hlm2 := nat_ge_max (Nat.le_trans hl2 hm2)
    clear hpi hI2 hN2 hb2 hl2 hm2
    go_wp2_with fail
    refine hs3.mono ?_
    rintro e w3 ⟨hb3, v3, b3, rfl, hI3⟩
    obtain ⟨A3, c3, rfl, _, _⟩ := sliceK_form hI3
    have hf4 := fsInts_same (strataV xs) _ _ b2 b3 w3 (intsK_good.below HI2.out hb3) hI3
    have HB3 : Hid (Below w1.heap.size w1 w3) := Lib.hid (HB2.out.trans (hb3.mono HB2.out.size))
    replace HI2 := Lib.hid (intsK_good.below HI2.out hb3)
    clear hs3 hb3 hI3
    go_wp2_with fail
    refine hf4.mono ?_
    rintro e w4 ⟨rfl, hb4⟩
    have HB4 : Hid (Below w1.heap.size w1 w4) := Lib.hid (HB3.out.trans (hb4.mono HB3.out.size))
    have hc5 := HPC.out w4 HB4.out
    replace HI2 := Lib.hid (intsK_good.below HI2.out hb4)
    clear hf4 hb4 HB3
    go_wp2_with fail
    refine hc5.mono ?_
    rintro e w5 ⟨rfl, hb5⟩
    have HB5 : Hid (Below w1.heap.size w1 w5) := Lib.hid (HB4.out.trans (hb5.mono HB4.out.size))
    replace HI2 := Lib.hid (intsK_good.below HI2.out hb5)
    have HS6 := Lib.hid (HPS.out w5 HB5.out)
    clear hc5 hb5 HB4
    by_cases hp : progC xs = 0
    case neg =>
      have tn : ((progC xs : Int) != 0) = true := by simp; omega
      generalize progC xs = k at *
      go_wp2_with fail
      refine HS6.out.mono ?_
      rintro e w6 ⟨hb6, v6, b6, rfl, hI6⟩
      obtain ⟨A6, c6, rfl, _, _⟩ := sliceK_form hI6
      have hf7 := fsInts_same (strataV xs) _ _ b2 b6 w6 (intsK_good.below HI2.out hb6) hI6
      have HB6 : Hid (Below w1.heap.size w1 w6) := Lib.hid (HB5.out.trans (hb6.mono HB5.out.size))
      clear hb6 hI6
      go_wp2_with fail
      refine hf7.mono ?_
      rintro e w7 ⟨rfl, hb7⟩
      have HB7 := Lib.hid (HB1.out.trans ((HB6.out.trans (hb7.mono HB6.out.size)).mono HB1.out.size))
      clear hf7 hb7
      go_wp2
      go_ret
      exact ⟨rfl, HB7.out⟩
    case pos =>
    have HF := Lib.hid ((fine_iff xs).1 hp)
    have hst : strataV xs = levelsL xs := by unfold strataV; rw [if_pos hp]
    rw [hp]
    rw [hst] at HI2 ⊢
    have hll := levels_len xs
    rw [hst, hll] at hlm2
    have HLL := Lib.hid hll
    have HL9 := Lib.hid (fun i (hi : i < xs.length) => hll ▸ hi)
    rw [hll]
    clear hp hst hll HS6 HPS HPC
    go_wp2
    go_loopw [5] (fun v wr => ∃ i : Nat, i ≤ xs.length ∧ v = .int .i64 i ∧ Below w5.heap.size w5 wr) (fun v _ => xs.length - (intOf v).toNat)
    case atStart => exact ⟨0, Nat.zero_le _, rfl, Below.refl _ _⟩
    case round =>
      obtain ⟨i, hi, rfl, hb⟩ := hrel
      have HB := Lib.hid hb
      have hi9 : (i : Int) ≤ 9 := by have := HX9.out; omega
      have hi0 : (0 : Int) ≤ (i : Int) := by omega
      clear hb
      by_cases hin : i < xs.length
      case neg =>
        have hie : i = xs.length := by omega
        subst hie
        have HBW := Lib.hid (HB1.out.trans ((HB5.out.trans (HB.out.mono HB5.out.size)).mono HB1.out.size))
        go_wp2
        go_ret
        exact ⟨rfl, HBW.out⟩
      case pos =>
      have hi1 : (i : Int) < (xs.length : Int) := by omega
      obtain ⟨b0, o0, Ae, ce, Bi, di, bki, rfl, _, i0, i1, i2, heli, _⟩ := rules_el (rulesK_good.below HR1.out HB5.out) hin
      obtain ⟨p1, p2, rfl, hati, hbdi⟩ := rule_parts heli
      obtain ⟨l0, m0, rfl, _, s0⟩ := intsFs_at HI2.out (k := i) (by rw [HLL.out]; exact hin)
      have HEI := Lib.hid (atL_get (show i < (levelsL xs).length from by rw [HLL.out]; exact hin))
      rw [HEI.out] at s0
      obtain ⟨ri, hri⟩ : ∃ r, r = xs[i] := ⟨_, rfl⟩
      rw [← hri] at i0 i2 hbdi
      have HRI : Hid (∃ h : i < xs.length, ri = xs[i]) := Lib.hid ⟨hin, hri⟩
      clear hri
      obtain ⟨lvI, hlvI⟩ : ∃ l, l = atL (levelsL xs) i := ⟨_, rfl⟩
      rw [← hlvI] at s0
      have HLI := Lib.hid hlvI
      have HI0 := Lib.hid i0
      have HI2c := Lib.hid i2
      have HS0 := Lib.hid s0
      have HBD := Lib.hid hbdi
      have HIN := Lib.hid hin
      clear heli hati hbdi i1 hlvI HEI i0 i2 s0 hin
      go_wp2
      go_loopw [6] (fun v wr => ∃ k : Nat, k ≤ xs.length ∧ v = .int .i64 k ∧ Below w5.heap.size w5 wr) (fun v _ => xs.length - (intOf v).toNat)
      case atStart => exact ⟨0, Nat.zero_le _, rfl, HB.out⟩
      case round =>
        clear HB
        obtain ⟨k, hk, rfl, hb⟩ := hrel
        have HB := Lib.hid hb
        have hk9 : (k : Int) ≤ 9 := by have := HX9.out; omega
        have hk0 : (0 : Int) ≤ (k : Int) := by omega
        clear hb
        by_cases hkn : k < xs.length
        case neg =>
          have hke : k = xs.length := by omega
          subst hke
          go_wp2
          go_roundw
          case rel => exact ⟨i + 1, HIN.out, by go_num, HB.out⟩
          case measure => have := HIN.out; simp [intOf]; omega
        case pos =>
        have hk1 : (k : Int) < (xs.length : Int) := by omega
        obtain ⟨b9, o9, Ak, ck, Bk, dk, bkk, e9, _, k0, k1, k2, helk, _⟩ := rules_el (rulesK_good.below HR1.out HB5.out) hkn
        obtain ⟨rfl, rfl⟩ : b0 = b9 ∧ o0 = o9 := by simpa using e9
        obtain ⟨l9, m9, e9', _, t0⟩ := intsFs_at HI2.out (k := k) (by rw [HLL.out]; exact hkn)
        obtain ⟨rfl, rfl⟩ : l0 = l9 ∧ m0 = m9 := by simpa using e9'
        rw [atL_get (show k < (levelsL xs).length from by rw [HLL.out]; exact hkn)] at t0
        obtain ⟨rk, hrk⟩ : ∃ r, r = xs[k] := ⟨_, rfl⟩
        rw [← hrk] at k0
        obtain ⟨lvK, hlvK⟩ : ∃ l, l = atL (levelsL xs) k := ⟨_, rfl⟩
        rw [← hlvK] at t0
        have HEQ : Hid (ri.head.name = rk.head.name → lvI = lvK) := Lib.hid (fun e => by
          obtain ⟨h, e2⟩ := HRI.out
          rw [HLI.out, hlvK]; exact lev_same HF.out h hkn (by rw [← e2, ← hrk]; exact e))
        have HPT : Hid (∀ j (hj : j < ri.body.length), ri.body[j].atom.name = rk.head.name → lvK + noN ri.body[j] ≤ lvI) := Lib.hid (fun j hj e => by
          obtain ⟨h, e2⟩ := HRI.out
          subst e2
          rw [HLI.out, hlvK]; exact lev_part HF.out h hkn hj (by rw [← hrk]; exact e))
        have HK0 := Lib.hid k0
        have HT0 := Lib.hid t0
        have i0 := cell_later HB.out HI0.out
        have s0 := cell_later HB.out HS0.out
        replace k0 := cell_later HB.out k0
        replace t0 := cell_later HB.out t0
        have HKN := Lib.hid hkn
        clear e9 e9' k1 k2 helk hrk hlvK hkn
        go_upto_region 13 with (fail)
        go_cut [65] from 36 to 119 (fun c wx => c = .bool false ∧ Below w5.heap.size w5 wx)
        case first =>
          cases hs : (ri.head.name.toList == rk.head.name.toList)
          · go_quiet (fail)
            go_wp2
            go_meet
            case rel => exact ⟨rfl, below_drewN HB.out _⟩
          · have he := HEQ.out (by rw [name_eq] at hs; simpa using hs)
            have hne : ((lvI : Int) != (lvK : Int)) = false := by rw [he]; simp
            clear he
            go_quiet (fail)
            go_wp2
            go_meet
            case rel => exact ⟨rfl, below_drewN HB.out _⟩
        case rest =>
          clear HB i0 s0 k0 t0
          obtain ⟨rfl, hb⟩ := hcut
          have HB := Lib.hid hb
          clear hb
          go_wp2
          go_loopw [7] (fun v wr => ∃ j : Nat, j ≤ ri.body.length ∧ v = .int .i64 j ∧ Below w5.heap.size w5 wr) (fun v _ => ri.body.length - (intOf v).toNat)
          case atStart => exact ⟨0, Nat.zero_le _, rfl, HB.out⟩
          case round =>
            clear HB
            obtain ⟨j, hj, rfl, hb⟩ := hrel
            have j2 := cell_later hb HI2c.out
            have HB := Lib.hid hb
            clear hb
            have hj0 : (0 : Int) ≤ (j : Int) := by omega
            have hblm : (ri.body.length : Int) ≤ 9223372036854775807 := by
              obtain ⟨_, _, _, h1, h2⟩ := sliceK_form HBD.out
              exact nat_ge_max (Nat.le_trans h1 h2)
            by_cases hjl : j < ri.body.length
            case neg =>
              have hje : j = ri.body.length := by omega
              subst hje
              go_wp2
              go_roundw
              case rel => exact ⟨k + 1, HKN.out, by go_num, HB.out⟩
              case measure => have := HKN.out; simp [intOf]; omega
            case pos =>
            have hj1 : (j : Int) < (ri.body.length : Int) := by omega
            obtain ⟨b4, o5, Ag, cg, bg, rfl, _, f0, f1, f2, hel, _⟩ := parts_el HBD.out hjl
            replace f0 := cell_later HB.out f0
            replace f1 := cell_later HB.out f1
            replace f2 := cell_later HB.out f2
            have k0 := cell_later HB.out HK0.out
            have s0 := cell_later HB.out HS0.out
            have t0 := cell_later HB.out HT0.out
            have hbk : b0 < wr.heap.size := lt_of_cell k0
            have hlk : l0 < wr.heap.size := lt_of_cell t0
            have HPJ := Lib.hid (HPT.out j hjl)
            have hA : Below wr.heap.size wr (wr.alloc (.cells #[.bool ri.body[j].no, .string ri.body[j].atom.name, .slice Ag ri.body[j].atom.args.length cg] 37)) := (Below.refl _ _).alloc (Nat.le_refl _) _
            have HB3 := Lib.hid (HB.out.trans (hA.mono HB.out.size))
            have HLJ := Lib.hid hjl
            clear hel hA HB
            generalize ri.body[j] = p at *
            clear hjl
            obtain ⟨no, ⟨pn, pargs⟩⟩ := p
            dsimp only [noN] at *
            cases hq : (pn.toList == rk.head.name.toList)
            · go_wp2
              go_quiet (fail)
              go_wp2
              go_roundw
              case rel => exact ⟨j + 1, HLJ.out, by go_num, below_drewN HB3.out _⟩
              case measure => have := HLJ.out; simp [intOf]; omega
            · have hle := HPJ.out (by rw [name_eq] at hq; simpa using hq)
              cases no
              · have g1 : ¬ (lvI : Int) < (lvK : Int) := by simp at hle; omega
                clear hle
                go_wp2
                go_quiet (fail)
                go_wp2
                go_roundw
                case rel => exact ⟨j + 1, HLJ.out, by go_num, below_drewN HB3.out _⟩
                case measure => have := HLJ.out; simp [intOf]; omega
              · have g1 : ¬ (lvI : Int) < (lvK : Int) := by simp at hle; omega
                have g2 : decide ((lvI : Int) ≤ (lvK : Int)) = false := by simp at hle; simp; omega
                have g3 : decide (lvI ≤ lvK) = false := by simp at hle; simp; omega
                have g4 : ¬ lvI ≤ lvK := by simp at hle; omega
                have g5 : ¬ (lvI : Int) ≤ (lvK : Int) := by omega
                clear hle
                go_wp2
                go_quiet (fail)
                go_wp2
                go_roundw
                case rel => exact ⟨j + 1, HLJ.out, by go_num, below_drewN HB3.out _⟩
                case measure => have := HLJ.out; simp [intOf]; omega
  · have hn' : (1048576 : Int) < (cs.length : Int) := by omega
    go_enter Tryd.func7, Tryd.ntmps7
    go_wp2
    go_ret
    exact ⟨rfl, Below.refl _ _⟩

end Go.Proofs.YtbcepahpehadeaaDoor
