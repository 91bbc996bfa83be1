/- The walks of spec.l2Cycle and spec.ProgCheck. -/
import Derived.WalkKit
import Derived.Lib.Hide
import Derived.WalkSpells
import Derived.WalkLawsBesides
import Derived.BigQuiet
import Derived.Deep.RegionHeld3
import Derived.Deep.RegionWith
import Derived.Deep.DrawnRows
import Derived.Test.YtbcepahpehadeaaGreatDoorProg
import Derived.Test.YtbcepahpehadeaaGreatDoorLevS
import Derived.Test.YtbcepahpehadeaaGreatDoorTightS
import Derived.Test.YtbcepahpehadeaaGreatDoorRuleS
namespace Go.Proofs.YtbcepahpehadeaaGreatDoor
open Go.RowKit D
set_option linter.unusedVariables false
attribute [local go_sem ↓] Go.wp_at_zero Go.wp_at_succ

set_option maxRecDepth 100000 in
set_option maxHeartbeats 2000000 in
theorem l2Cycle_any (rs : List Ru) (v : Value) (bs : List Nat) (w : World) (h : rulesK w [v] rs bs) (hf : rs.length ≤ 8) (hok : rs.all ruleOk = true) :
    Calls Tryz.prog 56 #[v] w fun e w' => e = .returned (.bool (cycB rs)) ∧ Below w.heap.size w w' := by
  obtain ⟨Ad, cap, rfl, hl, hm⟩ := sliceK_form h
  have hlm := nat_ge_max (Nat.le_trans hl hm)
  have c1 := l2Levels_any rs _ bs w h hf hok
  have HC : Hid (cycB rs = (levelsL rs).any fun x => decide (rs.length ≤ x)) := Lib.hid rfl
  have HL := Lib.hid (levels_len rs)
  clear hl hm h
  go_enter Tryz.func56, Tryz.ntmps56
  go_wp2_with fail
  refine c1.mono ?_
  rintro e w1 ⟨hB, rfl, hI, hmx⟩
  clear c1 hB
  have HMX := Lib.hid hmx
  clear hmx
  generalize levelsL rs = xs at *
  go_wp2
  go_loopw [4] (fun i wr => ∃ k : Nat, k ≤ rs.length ∧ i = .int .i64 k ∧ (∀ i, i < k → atL xs i < rs.length) ∧ LInv w rs xs wr) (fun i _ => rs.length - (intOf i).toNat)
  case atStart => exact ⟨0, Nat.zero_le _, rfl, fun i h => by omega, hI⟩
  case round =>
    obtain ⟨k, hk, rfl, hall, hI⟩ := hrel
    have HA := Lib.hid hall
    have HI := Lib.hid hI
    clear hall
    by_cases hlt : k < rs.length
    · have hk0 : (0 : Int) ≤ (k : Int) := by omega
      have hk1 : (k : Int) < (rs.length : Int) := by omega
      have a1 := hI.at hlt
      have hma := HMX.out k
      obtain ⟨a, ha⟩ : ∃ a, a = atL xs k := ⟨_, rfl⟩
      rw [← ha] at a1 hma
      by_cases hge : rs.length ≤ a
      · have HZ : Hid (cycB rs = true) := Lib.hid (by
          rw [HC.out, List.any_eq_true]
          have hkx : k < xs.length := by rw [HL.out]; exact hlt
          refine ⟨xs[k], List.getElem_mem hkx, decide_eq_true ?_⟩
          have : atL xs k = xs[k] := by unfold atL; rw [List.getD_eq_getElem?_getD, List.getElem?_eq_getElem hkx]; rfl
          omega)
        have hge1 : (rs.length : Int) ≤ (a : Int) := by omega
        clear HC HA ha hI hge
        go_wp2
        go_ret
        exact ⟨ret_bool HZ.out.symm, HI.out.bel⟩
      · have HZ : Hid (∀ i, i < k + 1 → atL xs i < rs.length) := Lib.hid fun i hi => by
          by_cases e : i = k
          · subst e; omega
          · exact HA.out i (by omega)
        have hge1 : ¬ (rs.length : Int) ≤ (a : Int) := by omega
        clear HC HA ha hI hge
        go_wp2
        go_roundw
        case rel => exact ⟨k + 1, hlt, by go_num, HZ.out, HI.out⟩
        case measure => simp [intOf]; omega
    · have he : k = rs.length := by omega
      have hk1 : ¬ (k : Int) < (rs.length : Int) := by omega
      have HZ : Hid (cycB rs = false) := Lib.hid (by
        rw [HC.out, List.any_eq_false]
        intro x hx
        obtain ⟨i, hi, rfl⟩ := List.mem_iff_getElem.1 hx
        have h1 := HA.out i (by rw [HL.out] at hi; omega)
        have : atL xs i = xs[i] := by unfold atL; rw [List.getD_eq_getElem?_getD, List.getElem?_eq_getElem hi]; rfl
        simp; omega)
      clear HC HA hI he
      go_wp2
      go_ret
      exact ⟨ret_bool HZ.out.symm, HI.out.bel⟩

theorem D.sumL_le {α : Type} (f : α → Nat) (c : Nat) : ∀ (xs : List α), (∀ x ∈ xs, f x ≤ c) → sumL f xs ≤ c * xs.length := fun xs h => sumL_const f c xs h
theorem D.ruleOk_sums {r : Ru} (h : ruleOk r = true) : sumL (fun p => p.atom.args.length) r.body ≤ 1000000 ∧ r.head.args.length ≤ 1000000 := by
  obtain ⟨h1, _, h3⟩ := ruleOk_args h
  have h4 := h3 r.head (List.mem_cons_self ..)
  have h5 := sumL_const (fun p : Pt => p.atom.args.length) 3 r.body fun p hp => h3 p.atom (List.mem_cons_of_mem _ (List.mem_map.2 ⟨p, hp, rfl⟩))
  omega
theorem D.okS_snoc (rs : List Ru) (k : Nat) (h : k < rs.length) (h0 : (rs.take k).all ruleOk = true) : (rs.take (k + 1)).all ruleOk = ruleOk rs[k] := by
  rw [List.take_succ_eq_append_getElem h, List.all_append, h0]; simp
theorem D.okS_bad (rs : List Ru) (k : Nat) (h : k < rs.length) (h0 : ruleOk rs[k] = false) : progC rs = 1 := by
  unfold progC
  rw [if_pos (List.all_eq_false.2 ⟨_, List.getElem_mem h, by simp [h0]⟩)]
theorem D.tiS_snoc (rs : List Ru) (k : Nat) (h : k < rs.length) (h0 : (rs.take k).all (fun r => tightB r.head r.body) = true) : ((rs.take (k + 1)).all fun r => tightB r.head r.body) = tightB rs[k].head rs[k].body := by
  rw [List.take_succ_eq_append_getElem h, List.all_append, h0]; simp
theorem D.tiS_bad (rs : List Ru) (k : Nat) (h : k < rs.length) (h0 : tightB rs[k].head rs[k].body = false) : (rs.all fun r => tightB r.head r.body) = false :=
  List.all_eq_false.2 ⟨_, List.getElem_mem h, by simp [h0]⟩

set_option maxRecDepth 100000 in
set_option maxHeartbeats 4000000 in
theorem progCheck_spec (rs : List Ru) (v : Value) (bs : List Nat) (w : World) (h : rulesK w [v] rs bs) :
    Calls Tryz.prog 30 #[v] w fun e w' => e = .returned (.int .i64 (progC rs)) ∧ Below w.heap.size w w' := by
  obtain ⟨Ad, cap, rfl, hl, hm⟩ := sliceK_form h
  have hlm := nat_ge_max (Nat.le_trans hl hm)
  have C1 := Lib.hid fun w' (hb : Below w.heap.size w w') (hn : (allAtoms rs).length ≤ 1000000) => l2Args_any rs _ bs w' (rulesK_good.below h hb) hn
  have C3 := Lib.hid fun w' (hb : Below w.heap.size w w') (hok : rs.all ruleOk = true) (hf : rs.length ≤ 8) => l2Cycle_any rs _ bs w' (rulesK_good.below h hb) hf hok
  clear hl hm
  go_enter Tryz.func30, Tryz.ntmps30
  go_wp2
  go_loopw [3] (fun i wr => ∃ k : Nat, k ≤ rs.length ∧ i = .int .i64 k ∧ (rs.take k).all ruleOk = true ∧ Below w.heap.size w wr) (fun i _ => rs.length - (intOf i).toNat)
  case atStart => exact ⟨0, Nat.zero_le _, rfl, rfl, Below.refl _ _⟩
  case round =>
    obtain ⟨k, hk, rfl, hall, hb⟩ := hrel
    have HA := Lib.hid hall
    clear hall
    by_cases hlt : k < rs.length
    · clear C1 C3
      obtain ⟨b, o, Ae, ce, Af, cf, bk, rfl, _, d0, d1, d2, hel, _⟩ := rules_el (rulesK_good.below h hb) hlt
      have HS := Lib.hid (okS_snoc rs k hlt HA.out)
      have HBAD := Lib.hid (okS_bad rs k hlt)
      have hk0 : (0 : Int) ≤ (k : Int) := by omega
      have hk1 : (k : Int) < (rs.length : Int) := by omega
      have c1 := l1Rule_any rs[k] _ _ _ bk wr hel
      have HLT := Lib.hid hlt
      clear h hel
      generalize rs[k] = r at *
      clear hlt
      obtain ⟨⟨nm, args⟩, body⟩ := r
      dsimp only at *
      go_wp2_with fail
      refine c1.mono ?_
      rintro e w2 ⟨rfl, hb2⟩
      have B2 := hb.trans (hb2.mono hb.size)
      clear c1
      cases h1 : ruleOk ⟨⟨nm, args⟩, body⟩
      · have HZ := Lib.hid (HBAD.out h1)
        clear h1 HBAD HS
        go_wp2
        go_ret
        exact ⟨ret_int (by simp [HZ.out]), B2⟩
      · have HZ := Lib.hid (HS.out.trans h1)
        clear h1 HBAD HS
        go_wp2
        go_roundw
        case rel => exact ⟨k + 1, HLT.out, by go_num, HZ.out, B2⟩
        case measure => have := HLT.out; simp [intOf]; omega
    · have he : k = rs.length := by omega
      have hk1 : ¬ (k : Int) < (rs.length : Int) := by omega
      have hok : rs.all ruleOk = true := by have := HA.out; rw [he, List.take_of_length_le (Nat.le_refl _)] at this; exact this
      clear HA he
      by_cases hf : rs.length ≤ 8
      · have hf1 : ¬ (8 : Int) < (rs.length : Int) := by omega
        have hP : progC rs = if alikeB (allAtoms rs) = false then 3 else if (rs.all fun r => tightB r.head r.body) = false then 4 else if cycB rs = true then 5 else 0 := by
          unfold progC; rw [if_neg (by simp [hok]), if_neg (by omega)]
        have hn40 : (allAtoms rs).length ≤ 1000000 := by have := (allAtoms_few hok).2; omega
        have C4 := Lib.hid fun w' hb => C1.out w' hb hn40
        have C5 := Lib.hid fun w' hb => C3.out w' hb hok hf
        have HP := Lib.hid hP
        have HOK := Lib.hid hok
        clear hok hf hP C1 C3 hn40
        go_wp2_with fail
        refine (C4.out _ hb).mono ?_
        rintro e w2 ⟨rfl, hb2⟩
        have B2 := hb.trans (hb2.mono hb.size)
        clear C4
        cases ha : alikeB (allAtoms rs)
        · have HZ : Hid (progC rs = 3) := Lib.hid (by rw [HP.out, if_pos ha])
          clear HP ha
          go_wp2
          go_ret
          exact ⟨ret_int (by simp [HZ.out]), B2⟩
        · replace HP : Hid (progC rs = if (rs.all fun r => tightB r.head r.body) = false then 4 else if cycB rs = true then 5 else 0) := Lib.hid (by rw [HP.out, if_neg (by simp [ha])])
          clear ha hb hb2
          go_wp2
          go_loopw [4] (fun i wr => ∃ k : Nat, k ≤ rs.length ∧ i = .int .i64 k ∧ (rs.take k).all (fun r => tightB r.head r.body) = true ∧ Below w.heap.size w wr) (fun i _ => rs.length - (intOf i).toNat)
          case atStart => exact ⟨0, Nat.zero_le _, rfl, rfl, B2⟩
          case round =>
            clear hk hk1
            obtain ⟨k, hk, rfl, hall, hb⟩ := hrel
            have HA := Lib.hid hall
            clear hall
            by_cases hlt : k < rs.length
            · clear C5
              obtain ⟨b, o, Ae, ce, Af, cf, bk, rfl, _, d0, d1, d2, hel, _⟩ := rules_el (rulesK_good.below h hb) hlt
              have HS := Lib.hid (tiS_snoc rs k hlt HA.out)
              have HBAD := Lib.hid (tiS_bad rs k hlt)
              have hk0 : (0 : Int) ≤ (k : Int) := by omega
              have hk1 : (k : Int) < (rs.length : Int) := by omega
              have hsum := ruleOk_sums (List.all_eq_true.1 HOK.out _ (List.getElem_mem hlt))
              have c1 := l2Tight_any rs[k] _ _ _ bk wr hel hsum.1 hsum.2
              have HLT := Lib.hid hlt
              clear h hel hsum
              generalize rs[k] = r at *
              clear hlt
              obtain ⟨⟨nm, args⟩, body⟩ := r
              dsimp only at *
              go_wp2_with fail
              refine c1.mono ?_
              rintro e w3 ⟨rfl, hb3⟩
              have B3 := hb.trans (hb3.mono hb.size)
              clear c1
              cases h1 : tightB ⟨nm, args⟩ body
              · have HZ : Hid (progC rs = 4) := Lib.hid (by rw [HP.out, if_pos (HBAD.out h1)])
                clear h1 HBAD HS HP
                go_wp2
                go_ret
                exact ⟨ret_int (by simp [HZ.out]), B3⟩
              · have HZ := Lib.hid (HS.out.trans h1)
                clear h1 HBAD HS
                go_wp2
                go_roundw
                case rel => exact ⟨k + 1, HLT.out, by go_num, HZ.out, B3⟩
                case measure => have := HLT.out; simp [intOf]; omega
            · have he : k = rs.length := by omega
              have hk1 : ¬ (k : Int) < (rs.length : Int) := by omega
              have hti : (rs.all fun r => tightB r.head r.body) = true := by have := HA.out; rw [he, List.take_of_length_le (Nat.le_refl _)] at this; exact this
              replace HP : Hid (progC rs = if cycB rs = true then 5 else 0) := Lib.hid (by rw [HP.out, if_neg (by simp [hti])])
              clear HA he hti h
              go_wp2_with fail
              refine (C5.out _ hb).mono ?_
              rintro e w4 ⟨rfl, hb4⟩
              have B4 := hb.trans (hb4.mono hb.size)
              clear C5
              cases hc : cycB rs
              · have HZ : Hid (progC rs = 0) := Lib.hid (by rw [HP.out, if_neg (by simp [hc])])
                clear HP hc
                go_wp2
                go_ret
                exact ⟨ret_int (by simp [HZ.out]), B4⟩
              · have HZ : Hid (progC rs = 5) := Lib.hid (by rw [HP.out, if_pos hc])
                clear HP hc
                go_wp2
                go_ret
                exact ⟨ret_int (by simp [HZ.out]), B4⟩
      · have hf1 : (8 : Int) < (rs.length : Int) := by omega
        have HZ : Hid (progC rs = 2) := Lib.hid (by unfold progC; rw [if_neg (by simp [hok]), if_pos (by omega)])
        clear hok hf C1 C3 h
        go_wp2
        go_ret
        exact ⟨ret_int (by simp [HZ.out]), hb⟩

end Go.Proofs.YtbcepahpehadeaaGreatDoor
