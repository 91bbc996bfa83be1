/- Of the proof of FnExactOnce: ChkS, Facts3, HRule, SeaP. -/
import Derived.WalkKit
import Derived.Lib.Hide
import Derived.WalkSpells
import Derived.WalkLawsBesides
import Derived.BigQuiet
import Derived.Deep.RegionHeld3
import Derived.Deep.RegionWith
import Derived.Deep.DrawnRows
import Derived.Test.YtjjfafgaphloaaaGreatDoorProg
import Derived.Test.YtjjfafgaphloaaaGreatDoorM27
import Derived.Test.YtjjfafgaphloaaaGreatDoorM21
import Derived.Laws.EntriesVeiled
import Derived.Lib.IndexBytes
import Derived.Deep.Slices
import Derived.Deep.Fields
import Derived.ChangeSame
import Derived.Deep.Draws
import Derived.Lib.Bytealg
import Derived.Test.YtjjfafgaphloaaaGreatDoorM28
import Derived.Test.YtjjfafgaphloaaaGreatDoorM16
import Derived.Test.YtjjfafgaphloaaaGreatDoorM17
import Derived.Test.YtjjfafgaphloaaaGreatDoorM29
namespace Go.Proofs.YtjjfafgaphloaaaGreatDoor
open Go.RowKit D
set_option linter.unusedVariables false
attribute [local go_sem ↓] Go.wp_at_zero Go.wp_at_succ
set_option maxRecDepth 100000 in
set_option maxHeartbeats 2000000 in
theorem l2Cycle_any (rs : List Ru) (v : Value) (bs : List Nat) (w : World) (h : rulesK w [v] rs bs) (hf : rs.length ≤ 8) (hok : rs.all ruleOk = true) :
    Calls Tryz.prog 83 #[v] w fun e w' => e = .returned (.bool (cycB rs)) ∧ Below w.heap.size w w' := by
  obtain ⟨Ad, cap, rfl, hl, hm⟩ := sliceK_form h
  have hlm := nat_ge_max (Nat.le_trans hl hm)
  have c1 := l2Levels_any rs _ bs w h hf hok
  have HC : Hid (cycB rs = (levelsL rs).any fun x => decide (rs.length ≤ x)) := Lib.hid rfl
  have HL := Lib.hid (levels_len rs)
  clear hl hm h
  go_enter Tryz.func83, Tryz.ntmps83
  go_wp2_with fail
  refine c1.mono ?_
  rintro e w1 ⟨hB, rfl, hI, hmx⟩
  clear c1 hB
  have HMX := Lib.hid hmx
  clear hmx
  generalize levelsL rs = xs at *
  go_wp2
  go_loopw [4] (fun i wr => ∃ k : Nat, k ≤ rs.length ∧ i = .int .i64 k ∧ (∀ i, i < k → atL xs i < rs.length) ∧ LInv w rs xs wr) (fun i _ => rs.length - (intOf i).toNat)
  case atStart => exact ⟨0, Nat.zero_le _, rfl, fun i h => by omega, hI⟩
  case round =>
    obtain ⟨k, hk, rfl, hall, hI⟩ := hrel
    have HA := Lib.hid hall
    have HI := Lib.hid hI
    clear hall
    by_cases hlt : k < rs.length
    · have hk0 : (0 : Int) ≤ (k : Int) := by omega
      have hk1 : (k : Int) < (rs.length : Int) := by omega
      have a1 := hI.at hlt
      have hma := HMX.out k
      obtain ⟨a, ha⟩ : ∃ a, a = atL xs k := ⟨_, rfl⟩
      rw [← ha] at a1 hma
      by_cases hge : rs.length ≤ a
      · have HZ : Hid (cycB rs = true) := Lib.hid (by
          rw [HC.out, List.any_eq_true]
          have hkx : k < xs.length := by rw [HL.out]; exact hlt
          refine ⟨xs[k], List.getElem_mem hkx, decide_eq_true ?_⟩
          have : atL xs k = xs[k] := by unfold atL; rw [List.getD_eq_getElem?_getD, List.getElem?_eq_getElem hkx]; rfl
          omega)
        have hge1 : (rs.length : Int) ≤ (a : Int) := by omega
        clear HC HA ha hI hge
        go_wp2
        go_ret
        exact ⟨ret_bool HZ.out.symm, HI.out.bel⟩
      · have HZ : Hid (∀ i, i < k + 1 → atL xs i < rs.length) := Lib.hid fun i hi => by
          by_cases e : i = k
          · subst e; omega
          · exact HA.out i (by omega)
        have hge1 : ¬ (rs.length : Int) ≤ (a : Int) := by omega
        clear HC HA ha hI hge
        go_wp2
        go_roundw
        case rel => exact ⟨k + 1, hlt, by go_num, HZ.out, HI.out⟩
        case measure => simp [intOf]; omega
    · have he : k = rs.length := by omega
      have hk1 : ¬ (k : Int) < (rs.length : Int) := by omega
      have HZ : Hid (cycB rs = false) := Lib.hid (by
        rw [HC.out, List.any_eq_false]
        intro x hx
        obtain ⟨i, hi, rfl⟩ := List.mem_iff_getElem.1 hx
        have h1 := HA.out i (by rw [HL.out] at hi; omega)
        have : atL xs i = xs[i] := by unfold atL; rw [List.getD_eq_getElem?_getD, List.getElem?_eq_getElem hi]; rfl
        simp; omega)
      clear HC HA hI he
      go_wp2
      go_ret
      exact ⟨ret_bool HZ.out.symm, HI.out.bel⟩

theorem D.ruleOk_sums {r : Ru} (h : ruleOk r = true) : sumL (fun p => p.atom.args.length) r.body ≤ 1000000 ∧ r.head.args.length ≤ 1000000 := by
  obtain ⟨h1, _, h3⟩ := ruleOk_args h
  have h4 := h3 r.head (List.mem_cons_self ..)
  have h5 := sumL_const (fun p : Pt => p.atom.args.length) 3 r.body fun p hp => h3 p.atom (List.mem_cons_of_mem _ (List.mem_map.2 ⟨p, hp, rfl⟩))
  omega

theorem D.okS_snoc (rs : List Ru) (k : Nat) (h : k < rs.length) (h0 : (rs.take k).all ruleOk = true) : (rs.take (k + 1)).all ruleOk = ruleOk rs[k] := by
  rw [List.take_succ_eq_append_getElem h, List.all_append, h0]; simp

theorem D.okS_bad (rs : List Ru) (k : Nat) (h : k < rs.length) (h0 : ruleOk rs[k] = false) : progC rs = 1 := by
  unfold progC
  rw [if_pos (List.all_eq_false.2 ⟨_, List.getElem_mem h, by simp [h0]⟩)]

theorem D.tiS_snoc (rs : List Ru) (k : Nat) (h : k < rs.length) (h0 : (rs.take k).all (fun r => tightB r.head r.body) = true) : ((rs.take (k + 1)).all fun r => tightB r.head r.body) = tightB rs[k].head rs[k].body := by
  rw [List.take_succ_eq_append_getElem h, List.all_append, h0]; simp

theorem D.tiS_bad (rs : List Ru) (k : Nat) (h : k < rs.length) (h0 : tightB rs[k].head rs[k].body = false) : (rs.all fun r => tightB r.head r.body) = false :=
  List.all_eq_false.2 ⟨_, List.getElem_mem h, by simp [h0]⟩

set_option maxRecDepth 100000 in
set_option maxHeartbeats 4000000 in
theorem progCheck_spec (rs : List Ru) (v : Value) (bs : List Nat) (w : World) (h : rulesK w [v] rs bs) :
    Calls Tryz.prog 37 #[v] w fun e w' => e = .returned (.int .i64 (progC rs)) ∧ Below w.heap.size w w' := by
  obtain ⟨Ad, cap, rfl, hl, hm⟩ := sliceK_form h
  have hlm := nat_ge_max (Nat.le_trans hl hm)
  have C1 := Lib.hid fun w' (hb : Below w.heap.size w w') (hn : (allAtoms rs).length ≤ 1000000) => l2Args_any rs _ bs w' (rulesK_good.below h hb) hn
  have C3 := Lib.hid fun w' (hb : Below w.heap.size w w') (hok : rs.all ruleOk = true) (hf : rs.length ≤ 8) => l2Cycle_any rs _ bs w' (rulesK_good.below h hb) hf hok
  clear hl hm
  go_enter Tryz.func37, Tryz.ntmps37
  go_wp2
  go_loopw [3] (fun i wr => ∃ k : Nat, k ≤ rs.length ∧ i = .int .i64 k ∧ (rs.take k).all ruleOk = true ∧ Below w.heap.size w wr) (fun i _ => rs.length - (intOf i).toNat)
  case atStart => exact ⟨0, Nat.zero_le _, rfl, rfl, Below.refl _ _⟩
  case round =>
    obtain ⟨k, hk, rfl, hall, hb⟩ := hrel
    have HA := Lib.hid hall
    clear hall
    by_cases hlt : k < rs.length
    · clear C1 C3
      obtain ⟨b, o, Ae, ce, Af, cf, bk, rfl, _, d0, d1, d2, hel, _⟩ := rules_el (rulesK_good.below h hb) hlt
      have HS := Lib.hid (okS_snoc rs k hlt HA.out)
      have HBAD := Lib.hid (okS_bad rs k hlt)
      have hk0 : (0 : Int) ≤ (k : Int) := by omega
      have hk1 : (k : Int) < (rs.length : Int) := by omega
      have c1 := l1Rule_any rs[k] _ _ _ bk wr hel
      have HLT := Lib.hid hlt
      clear h hel
      generalize rs[k] = r at *
      clear hlt
      obtain ⟨⟨nm, args⟩, body⟩ := r
      dsimp only at *
      go_wp2_with fail
      refine c1.mono ?_
      rintro e w2 ⟨rfl, hb2⟩
      have B2 := hb.trans (hb2.mono hb.size)
      clear c1
      cases h1 : ruleOk ⟨⟨nm, args⟩, body⟩
      · have HZ := Lib.hid (HBAD.out h1)
        clear h1 HBAD HS
        go_wp2
        go_ret
        exact ⟨ret_int (by simp [HZ.out]), B2⟩
      · have HZ := Lib.hid (HS.out.trans h1)
        clear h1 HBAD HS
        go_wp2
        go_roundw
        case rel => exact ⟨k + 1, HLT.out, by go_num, HZ.out, B2⟩
        case measure => have := HLT.out; simp [intOf]; omega
    · have he : k = rs.length := by omega
      have hk1 : ¬ (k : Int) < (rs.length : Int) := by omega
      have hok : rs.all ruleOk = true := by have := HA.out; rw [he, List.take_of_length_le (Nat.le_refl _)] at this; exact this
      clear HA he
      by_cases hf : rs.length ≤ 8
      · have hf1 : ¬ (8 : Int) < (rs.length : Int) := by omega
        have hP : progC rs = if alikeB (allAtoms rs) = false then 3 else if (rs.all fun r => tightB r.head r.body) = false then 4 else if cycB rs = true then 5 else 0 := by
          unfold progC; rw [if_neg (by simp [hok]), if_neg (by omega)]
        have hn40 : (allAtoms rs).length ≤ 1000000 := by have := (allAtoms_few hok).2; omega
        have C4 := Lib.hid fun w' hb => C1.out w' hb hn40
        have C5 := Lib.hid fun w' hb => C3.out w' hb hok hf
        have HP := Lib.hid hP
        have HOK := Lib.hid hok
        clear hok hf hP C1 C3 hn40
        go_wp2_with fail
        refine (C4.out _ hb).mono ?_
        rintro e w2 ⟨rfl, hb2⟩
        have B2 := hb.trans (hb2.mono hb.size)
        clear C4
        cases ha : alikeB (allAtoms rs)
        · have HZ : Hid (progC rs = 3) := Lib.hid (by rw [HP.out, if_pos ha])
          clear HP ha
          go_wp2
          go_ret
          exact ⟨ret_int (by simp [HZ.out]), B2⟩
        · replace HP : Hid (progC rs = if (rs.all fun r => tightB r.head r.body) = false then 4 else if cycB rs = true then 5 else 0) := Lib.hid (by rw [HP.out, if_neg (by simp [ha])])
          clear ha hb hb2
          go_wp2
          go_loopw [4] (fun i wr => ∃ k : Nat, k ≤ rs.length ∧ i = .int .i64 k ∧ (rs.take k).all (fun r => tightB r.head r.body) = true ∧ Below w.heap.size w wr) (fun i _ => rs.length - (intOf i).toNat)
          case atStart => exact ⟨0, Nat.zero_le _, rfl, rfl, B2⟩
          case round =>
            clear hk hk1
            obtain ⟨k, hk, rfl, hall, hb⟩ := hrel
            have HA := Lib.hid hall
            clear hall
            by_cases hlt : k < rs.length
            · clear C5
              obtain ⟨b, o, Ae, ce, Af, cf, bk, rfl, _, d0, d1, d2, hel, _⟩ := rules_el (rulesK_good.below h hb) hlt
              have HS := Lib.hid (tiS_snoc rs k hlt HA.out)
              have HBAD := Lib.hid (tiS_bad rs k hlt)
              have hk0 : (0 : Int) ≤ (k : Int) := by omega
              have hk1 : (k : Int) < (rs.length : Int) := by omega
              have hsum := ruleOk_sums (List.all_eq_true.1 HOK.out _ (List.getElem_mem hlt))
              have c1 := l2Tight_any rs[k] _ _ _ bk wr hel hsum.1 hsum.2
              have HLT := Lib.hid hlt
              clear h hel hsum
              generalize rs[k] = r at *
              clear hlt
              obtain ⟨⟨nm, args⟩, body⟩ := r
              dsimp only at *
              go_wp2_with fail
              refine c1.mono ?_
              rintro e w3 ⟨rfl, hb3⟩
              have B3 := hb.trans (hb3.mono hb.size)
              clear c1
              cases h1 : tightB ⟨nm, args⟩ body
              · have HZ : Hid (progC rs = 4) := Lib.hid (by rw [HP.out, if_pos (HBAD.out h1)])
                clear h1 HBAD HS HP
                go_wp2
                go_ret
                exact ⟨ret_int (by simp [HZ.out]), B3⟩
              · have HZ := Lib.hid (HS.out.trans h1)
                clear h1 HBAD HS
                go_wp2
                go_roundw
                case rel => exact ⟨k + 1, HLT.out, by go_num, HZ.out, B3⟩
                case measure => have := HLT.out; simp [intOf]; omega
            · have he : k = rs.length := by omega
              have hk1 : ¬ (k : Int) < (rs.length : Int) := by omega
              have hti : (rs.all fun r => tightB r.head r.body) = true := by have := HA.out; rw [he, List.take_of_length_le (Nat.le_refl _)] at this; exact this
              replace HP : Hid (progC rs = if cycB rs = true then 5 else 0) := Lib.hid (by rw [HP.out, if_neg (by simp [hti])])
              clear HA he hti h
              go_wp2_with fail
              refine (C5.out _ hb).mono ?_
              rintro e w4 ⟨rfl, hb4⟩
              have B4 := hb.trans (hb4.mono hb.size)
              clear C5
              cases hc : cycB rs
              · have HZ : Hid (progC rs = 0) := Lib.hid (by rw [HP.out, if_neg (by simp [hc])])
                clear HP hc
                go_wp2
                go_ret
                exact ⟨ret_int (by simp [HZ.out]), B4⟩
              · have HZ : Hid (progC rs = 5) := Lib.hid (by rw [HP.out, if_pos hc])
                clear HP hc
                go_wp2
                go_ret
                exact ⟨ret_int (by simp [HZ.out]), B4⟩
      · have hf1 : (8 : Int) < (rs.length : Int) := by omega
        have HZ : Hid (progC rs = 2) := Lib.hid (by unfold progC; rw [if_neg (by simp [hok]), if_pos (by omega)])
        clear hok hf C1 C3 h
        go_wp2
        go_ret
        exact ⟨ret_int (by simp [HZ.out]), hb⟩

end Go.Proofs.YtjjfafgaphloaaaGreatDoor

namespace Go.Proofs.YtjjfafgaphloaaaGreatDoor
open Go.RowKit D
set_option linter.unusedVariables false
attribute [local go_sem ↓] Go.wp_at_zero Go.wp_at_succ
set_option maxHeartbeats 400000 in
theorem factsOk_spec (xs : List A) (v : Value) (bs : List Nat) (w : World) (h : atomsK w [v] xs bs) :
    Calls Tryz.prog 38 #[v] w fun e w' => e = .returned (.bool (factsOk xs)) ∧ Below w.heap.size w w' := by
  obtain ⟨Ad, cap, rfl, hl, hm⟩ := sliceK_form h
  have hk := l3Ok_any xs _ bs 300 w h (by omega)
  rw [← factsOk_eq] at hk
  generalize factsOk xs = r at *
  clear h hm
  go_enter Tryz.func38, Tryz.ntmps38
  go_wp2_with fail
  refine hk.mono ?_
  rintro e w1 ⟨rfl, hb1⟩
  go_wp2
  go_ret
  exact ⟨rfl, hb1⟩

set_option maxHeartbeats 1000000 in
theorem factsOk_impl (xs : List A) (v : Value) (bs : List Nat) (w : World) (h : atomsK w [v] xs bs) :
    Calls Tryz.prog 34 #[v] w fun e w' => e = .returned (.bool (factsOk xs)) ∧ Below w.heap.size w w' := by
  obtain ⟨Ad, cap, rfl, hl, hm⟩ := sliceK_form h
  have hlm := nat_ge_max (Nat.le_trans hl hm)
  clear hm
  by_cases hle : xs.length ≤ 300
  · have hle' : ¬ (300 : Int) < (xs.length : Int) := by omega
    have hle2 : ¬ 300 < xs.length := by omega
    have HE : Hid (factsOk xs = okB xs) := Lib.hid (by rw [factsOk_eq, decide_eq_true hle, Bool.and_true])
    clear hle
    go_enter Tryz.func34, Tryz.ntmps34
    go_wp2
    go_loopw [10] (fun i wr => ∃ k : Nat, k ≤ xs.length ∧ i = .int .i64 k ∧ facTo xs k ∧ Below w.heap.size w wr) (fun i _ => xs.length - (intOf i).toNat)
    case atStart => exact ⟨0, Nat.zero_le _, rfl, facTo_zero _, Below.refl _ _⟩
    case round =>
      obtain ⟨k, hk, rfl, hall, hb⟩ := hrel
      have HA := Lib.hid hall
      clear hall
      by_cases hlt : k < xs.length
      · have hk0 : (0 : Int) ≤ (k : Int) := by omega
        have hk1 : (k : Int) < (xs.length : Int) := by omega
        obtain ⟨b, o, Ae, ce, bk, rfl, _, c0, c1, hel, _⟩ := atoms_el (atomsK_good.below h hb) hlt
        have hA : Below wr.heap.size wr (wr.alloc (.cells #[.string xs[k].name, .slice Ae xs[k].args.length ce] 33)) := (Below.refl _ _).alloc (Nat.le_refl _) _
        have hg := isFact_any xs[k] _ _ bk _ (atomK_good.below hel hA)
        have HF1 := Lib.hid (fun hf => facTo_step (k := k) HA.out hlt hf)
        have HF2 := Lib.hid (fun hf => okB_bad hlt hf)
        generalize isFactB xs[k] = x at *
        clear h hel
        go_wp2_with fail
        refine hg.mono ?_
        rintro e w' ⟨rfl, hb'⟩
        have B' := hb.trans ((hA.trans (hb'.mono hA.size)).mono hb.size)
        cases x
        · go_wp2
          go_ret
          exact ⟨ret_bool (by rw [HE.out, HF2.out (by simp)]), B'⟩
        · go_wp2
          go_roundw
          case rel => exact ⟨k + 1, by omega, by go_num, HF1.out (by simp), B'⟩
          case measure => simp [intOf]; omega
      · have he : k = xs.length := by omega
        have HO : Hid (okB xs = asc xs) := Lib.hid (by
          have hf := HA.out
          rw [he] at hf
          unfold okB
          rw [show xs.all isFactB = true from by
            rw [List.all_eq_true]; intro y hy
            obtain ⟨j, hj, rfl⟩ := List.mem_iff_getElem.1 hy
            exact hf j hj hj, Bool.true_and])
        have he' : ¬ (k : Int) < (xs.length : Int) := by omega
        have hs := sortedFacts_any Ad xs.length cap wr
        have has := fun w' (hb' : Below wr.heap.size wr w') => ascends_any xs _ bs w' (atomsK_good.below (atomsK_good.below h hb) hb')
        clear h he HA
        go_wp2_with fail
        refine hs.mono ?_
        rintro e w1 ⟨rfl, hb1⟩
        go_wp2_with fail
        refine (has _ hb1).mono ?_
        rintro e w2 ⟨rfl, hb2⟩
        go_wp2
        go_ret
        exact ⟨ret_bool (by rw [HE.out, HO.out]), hb.trans ((hb1.trans (hb2.mono hb1.size)).mono hb.size)⟩
  · have hle' : (300 : Int) < (xs.length : Int) := by omega
    have hle2 : 300 < xs.length := by omega
    have HE : Hid (factsOk xs = false) := Lib.hid (by rw [factsOk_eq, decide_eq_false hle, Bool.and_false])
    clear hle h
    go_enter Tryz.func34, Tryz.ntmps34
    go_wp2
    go_ret
    exact ⟨ret_bool HE.out.symm, Below.refl _ _⟩

end Go.Proofs.YtjjfafgaphloaaaGreatDoor

namespace Go.Proofs.YtjjfafgaphloaaaGreatDoor
open Go.RowKit D
set_option linter.unusedVariables false
set_option maxHeartbeats 400000 in
theorem szRule_any (r : Ru) (c0 c1 c2 : Value) (bs : List Nat) (left : Int) (w : World) (h : ruleK w [c0, c1, c2] r bs) (h0 : 0 ≤ left) (h1 : left ≤ 1048576) :
    Calls Tryz.prog 40 #[.agg #[c0, c1, c2], .int .i64 left] w (Left left (bulkR r) w.heap.size w) := by
  obtain ⟨b1, b2, rfl, hp, hq⟩ := rule_parts h
  obtain ⟨Ad, cap, Ae, cape, rfl, rfl, rfl⟩ := rule_cells2 h
  have q1 := fun w' (hb : Below w.heap.size w w') => szAtom_any r.head _ _ b1 left w' (atomK_good.below hp hb) h0 h1
  have q2 := fun l (g0 : 0 ≤ l) (g1 : l ≤ 1048576) w' (hb : Below w.heap.size w w') => szPartS_any r.body _ b2 l w' (partsK_good.below hq hb) g0 g1
  have hbk : bulkR r = bulkA r.head + bulkPts r.body := rfl
  have HB := Lib.hid hbk
  clear h hp hq hbk
  have hA := (Below.refl w.heap.size w).alloc (Nat.le_refl _) (.cells #[.string r.head.name, .slice Ad r.head.args.length cap, .slice Ae r.body.length cape] 79)
  go_enter Tryz.func40, Tryz.ntmps40
  go_wp2_with fail
  refine (q1 _ hA).mono ?_
  rintro e w1 ⟨hb1, z, rfl, hr⟩
  have B1 := hA.trans (hb1.mono hA.size)
  have x0 : w1.cell? ⟨w.heap.size, 0, none⟩ = some (.string r.head.name) := cell_later hb1 (by go_simp)
  have x1 : w1.cell? ⟨w.heap.size, 1, none⟩ = some (.slice Ad r.head.args.length cap) := cell_later hb1 (by go_simp)
  have x2 : w1.cell? ⟨w.heap.size, 2, none⟩ = some (.slice Ae r.body.length cape) := cell_later hb1 (by go_simp)
  clear q1 hA
  rcases hr with rfl | ⟨hr0, hr1⟩
  · go_wp2
    go_ret
    exact ⟨B1, _, rfl, .inl rfl⟩
  · go_wp2_with fail
    refine (q2 z hr0 (by omega) _ B1).mono ?_
    rintro e w2 ⟨hb2, z2, rfl, hr2⟩
    have B2 := B1.trans (hb2.mono B1.size)
    rcases hr2 with rfl | ⟨hr3, hr4⟩
    · go_wp2
      go_ret
      exact ⟨B2, _, rfl, .inl rfl⟩
    · go_wp2
      go_ret
      exact ⟨B2, _, rfl, .inr ⟨hr3, by rw [HB.out]; omega⟩⟩

set_option maxHeartbeats 1000000 in
theorem toRule_b (r : Ru) (c0 c1 c2 : Value) (bs : List Nat) (w : World) (h : ruleK w [c0, c1, c2] r bs) (hn : bulkR r ≤ 1048576) :
    Calls Tryz.prog 42 #[.agg #[c0, c1, c2]] w (MakesA ruleK r w.heap.size w) := by
  obtain ⟨b1, b2, rfl, hp, hq⟩ := rule_parts h
  obtain ⟨Ad, cap, Ae, cape, rfl, rfl, rfl⟩ := rule_cells2 h
  have hbk : bulkA r.head + bulkPts r.body ≤ 1048576 := hn
  have q1 := fun w' (hb : Below w.heap.size w w') => toAtom_b r.head _ _ b1 w' (atomK_good.below hp hb) (by omega)
  have q2 := fun w' (hb : Below w.heap.size w w') => toPartS_any r.body _ b2 w' (partsK_good.below hq hb) (by omega)
  clear h hp hq
  have hA := (((Below.refl w.heap.size w).alloc (Nat.le_refl _) (.cells #[.string r.head.name, .slice Ad r.head.args.length cap, .slice Ae r.body.length cape] 79)).alloc (by simp) (.cells #[.string ⟨#[]⟩, .slice none 0 0, .slice none 0 0] 53)).alloc (by simp; omega) (.cells #[.string ⟨#[]⟩, .slice none 0 0, .slice none 0 0] 53)
  go_enter Tryz.func42, Tryz.ntmps42
  go_wp2_with fail
  refine (q1 _ hA).mono ?_
  rintro e w1 ⟨hb1, cs1, bs1, rfl, hR1, hN1⟩
  obtain ⟨Ad3, cap3, rfl⟩ := atom_cells hR1
  have hnm : r.head.name.size ≤ maxLen := by obtain ⟨_, _, hn, _⟩ := hR1; exact hn
  have B1 := hA.trans (hb1.mono hA.size)
  have x0 : w1.cell? ⟨w.heap.size, 0, none⟩ = some (.string r.head.name) := cell_later hb1 (by go_simp)
  have x1 : w1.cell? ⟨w.heap.size, 1, none⟩ = some (.slice Ad r.head.args.length cap) := cell_later hb1 (by go_simp)
  have x2 : w1.cell? ⟨w.heap.size, 2, none⟩ = some (.slice Ae r.body.length cape) := cell_later hb1 (by go_simp)
  have k0 : w1.cell? ⟨w.heap.size + 1 + 1, 0, none⟩ = some (.string ⟨#[]⟩) := cell_later hb1 (by go_simp)
  have k1 : w1.cell? ⟨w.heap.size + 1 + 1, 1, none⟩ = some (.slice none 0 0) := cell_later hb1 (by go_simp)
  have k2 : w1.cell? ⟨w.heap.size + 1 + 1, 2, none⟩ = some (.slice none 0 0) := cell_later hb1 (by go_simp)
  have l0 : w1.cell? ⟨w.heap.size + 1, 0, none⟩ = some (.string ⟨#[]⟩) := cell_later hb1 (by go_simp)
  have l1 : w1.cell? ⟨w.heap.size + 1, 1, none⟩ = some (.slice none 0 0) := cell_later hb1 (by go_simp)
  have l2 : w1.cell? ⟨w.heap.size + 1, 2, none⟩ = some (.slice none 0 0) := cell_later hb1 (by go_simp)
  have f0 : w1.frozen? ⟨w.heap.size + 1 + 1, 0, none⟩ = false := (hb1.frozen (p := ⟨w.heap.size + 1 + 1, 0, none⟩) (by simp)).trans (by go_simp)
  have f1 : w1.frozen? ⟨w.heap.size + 1 + 1, 1, none⟩ = false := (hb1.frozen (p := ⟨w.heap.size + 1 + 1, 1, none⟩) (by simp)).trans (by go_simp)
  have f2 : w1.frozen? ⟨w.heap.size + 1 + 1, 2, none⟩ = false := (hb1.frozen (p := ⟨w.heap.size + 1 + 1, 2, none⟩) (by simp)).trans (by go_simp)
  have g0 : w1.frozen? ⟨w.heap.size + 1, 0, none⟩ = false := (hb1.frozen (p := ⟨w.heap.size + 1, 0, none⟩) (by simp)).trans (by go_simp)
  have g1 : w1.frozen? ⟨w.heap.size + 1, 1, none⟩ = false := (hb1.frozen (p := ⟨w.heap.size + 1, 1, none⟩) (by simp)).trans (by go_simp)
  have g2 : w1.frozen? ⟨w.heap.size + 1, 2, none⟩ = false := (hb1.frozen (p := ⟨w.heap.size + 1, 2, none⟩) (by simp)).trans (by go_simp)
  have hge1 : ∀ b ∈ bs1, w.heap.size + 1 + 1 < b := fun b hb => by have := (hN1.own b hb).1; simp at this; omega
  have hS1 : w.heap.size + 1 + 1 < w1.heap.size := lt_of_cell k0
  have hB1 : Below w.heap.size w ((w1.setCell ⟨w.heap.size + 1 + 1, 0, none⟩ (.string r.head.name)).setCell ⟨w.heap.size + 1 + 1, 1, none⟩ (.slice Ad3 r.head.args.length cap3)) := (Below.setCell (Below.setCell B1 (by simp; omega) (.string r.head.name) (p := ⟨w.heap.size + 1 + 1, 0, none⟩)) (by simp; omega) (.slice Ad3 r.head.args.length cap3) (p := ⟨w.heap.size + 1 + 1, 1, none⟩))
  clear hA q1
  go_wp2_with fail
  refine (q2 _ hB1).mono ?_
  rintro e w2 ⟨hb2, v2, bs2, rfl, hR2, hN2⟩
  obtain ⟨Ae3, cape3, rfl, _, _⟩ := sliceK_form hR2
  have B2 := hB1.trans (hb2.mono hB1.size)
  have k0' : w2.cell? ⟨w.heap.size + 1 + 1, 0, none⟩ = some (.string r.head.name) := cell_later hb2 (by go_simp)
  have k1' : w2.cell? ⟨w.heap.size + 1 + 1, 1, none⟩ = some (.slice Ad3 r.head.args.length cap3) := cell_later hb2 (by go_simp)
  have k2' : w2.cell? ⟨w.heap.size + 1 + 1, 2, none⟩ = some (.slice none 0 0) := cell_later hb2 (by go_simp)
  have l0' : w2.cell? ⟨w.heap.size + 1, 0, none⟩ = some (.string ⟨#[]⟩) := cell_later hb2 (by go_simp)
  have l1' : w2.cell? ⟨w.heap.size + 1, 1, none⟩ = some (.slice none 0 0) := cell_later hb2 (by go_simp)
  have l2' : w2.cell? ⟨w.heap.size + 1, 2, none⟩ = some (.slice none 0 0) := cell_later hb2 (by go_simp)
  have f2' : w2.frozen? ⟨w.heap.size + 1 + 1, 2, none⟩ = false := (hb2.frozen (p := ⟨w.heap.size + 1 + 1, 2, none⟩) (by simp; omega)).trans (by go_simp)
  have g0' : w2.frozen? ⟨w.heap.size + 1, 0, none⟩ = false := (hb2.frozen (p := ⟨w.heap.size + 1, 0, none⟩) (by simp; omega)).trans (by go_simp)
  have g1' : w2.frozen? ⟨w.heap.size + 1, 1, none⟩ = false := (hb2.frozen (p := ⟨w.heap.size + 1, 1, none⟩) (by simp; omega)).trans (by go_simp)
  have g2' : w2.frozen? ⟨w.heap.size + 1, 2, none⟩ = false := (hb2.frozen (p := ⟨w.heap.size + 1, 2, none⟩) (by simp; omega)).trans (by go_simp)
  have hge2 : ∀ b ∈ bs2, w.heap.size + 1 + 1 < b := fun b hb => by have := (hN2.own b hb).1; simp at this; omega
  have hk1 : ∀ b ∈ bs1, ((w1.setCell ⟨w.heap.size + 1 + 1, 0, none⟩ (.string r.head.name)).setCell ⟨w.heap.size + 1 + 1, 1, none⟩ (.slice Ad3 r.head.args.length cap3)).heap[b]? = w1.heap[b]? := fun b hb => by
    have := hge1 b hb
    rw [Below.heap_setCell _ _ _ _ (by simp; omega), Below.heap_setCell _ _ _ _ (by simp; omega)]
  have hR1' := atomK_good.below (atomK_good.keep hR1 hk1) hb2
  have hN1' := (hN1.keep hk1).below hb2
  have hlt1 : ∀ b ∈ bs1, b < w1.heap.size := fun b hb => hN1.lt hb
  clear x0 k0 l0 f0 g0 x1 k1 l1 f1 g1 x2 k2 l2 f2 g2 q2 hk1 hR1
  go_wp2
  have hk : ∀ b, w.heap.size + 1 + 1 < b → ((((w2.setCell ⟨w.heap.size + 1 + 1, 2, none⟩ (.slice Ae3 r.body.length cape3)).setCell ⟨w.heap.size + 1, 0, none⟩ (.string r.head.name)).setCell ⟨w.heap.size + 1, 1, none⟩ (.slice Ad3 r.head.args.length cap3)).setCell ⟨w.heap.size + 1, 2, none⟩ (.slice Ae3 r.body.length cape3)).heap[b]? = w2.heap[b]? := fun b hb => by
    rw [Below.heap_setCell _ _ _ _ (by simp; omega), Below.heap_setCell _ _ _ _ (by simp; omega), Below.heap_setCell _ _ _ _ (by simp; omega), Below.heap_setCell _ _ _ _ (by simp; omega)]
  exact bodyPost_ret (v := .agg #[.string r.head.name, .slice Ad3 r.head.args.length cap3, .slice Ae3 r.body.length cape3]) (by simp [results, Tryz.results42, go_sem, l0', l1', l2']) rfl
    ⟨((((B2.setCell (by first | (simp; done) | (simp; omega)) _).setCell (by first | (simp; done) | (simp; omega)) _).setCell (by first | (simp; done) | (simp; omega)) _).setCell (by first | (simp; done) | (simp; omega)) _), _, bs1 ++ bs2, rfl, ⟨_, _, bs1, bs2, rfl, hnm, rfl, termsK_good.keep (atom_args hR1') (fun b hb => hk b (hge1 b hb)), partsK_good.keep hR2 (fun b hb => hk b (hge2 b hb))⟩,
      (New.append ((hN1'.keep (fun b hb => hk b (hge1 b hb))).mono (B' := w.heap.size) (by simp; omega)) ((hN2.keep (fun b hb => hk b (hge2 b hb))).mono (B' := w1.heap.size) (by simp)) (by have := B1.size; omega) hlt1)⟩

end Go.Proofs.YtjjfafgaphloaaaGreatDoor

namespace Go.Proofs.YtjjfafgaphloaaaGreatDoor
open Go.RowKit D
set_option linter.unusedVariables false
/-- What lies in the search's block sk beside the bindings (from cell 18 on). -/
structure D.SeaV (sk sb : Nat) (v1 v2 : Value) (wt : Nat → Bool) (io : Bool) (ah : Int) (tell : Value) (w : World) : Prop where
  st : w.cell? ⟨sk, 0, none⟩ = some (.pointer (some ⟨sb, 0, none⟩))
  p1 : w.cell? ⟨sk, 1, none⟩ = some v1
  p2 : w.cell? ⟨sk, 2, none⟩ = some v2
  wd : ∀ i, i < 12 → w.cell? ⟨sk, 4 + i, none⟩ = some (.bool (wt i))
  io : w.cell? ⟨sk, 16, none⟩ = some (.bool io)
  ah : w.cell? ⟨sk, 17, none⟩ = some (.int .i64 ah)
  tl : w.cell? ⟨sk, 43, none⟩ = some tell

section
variable {sk sb : Nat} {v1 v2 : Value} {wt : Nat → Bool} {io : Bool} {ah : Int} {tell : Value} {w w' : World}
theorem D.SeaV.keep (h : SeaV sk sb v1 v2 wt io ah tell w) (e : w'.heap[sk]? = w.heap[sk]?) : SeaV sk sb v1 v2 wt io ah tell w' :=
  ⟨(World.cell?_of_block e).trans h.st, (World.cell?_of_block e).trans h.p1, (World.cell?_of_block e).trans h.p2, fun i hi => (World.cell?_of_block e).trans (h.wd i hi), (World.cell?_of_block e).trans h.io, (World.cell?_of_block e).trans h.ah, (World.cell?_of_block e).trans h.tl⟩

theorem D.SeaV.kept (h : SeaV sk sb v1 v2 wt io ah tell w) (k : BdKept sk 18 w w') : SeaV sk sb v1 v2 wt io ah tell w' :=
  ⟨(k.rest _ (by omega)).trans h.st, (k.rest _ (by omega)).trans h.p1, (k.rest _ (by omega)).trans h.p2, fun i hi => (k.rest _ (by omega)).trans (h.wd i hi), (k.rest _ (by omega)).trans h.io, (k.rest _ (by omega)).trans h.ah, (k.rest _ (by omega)).trans h.tl⟩

theorem D.SeaV.lt (h : SeaV sk sb v1 v2 wt io ah tell w) : sk < w.heap.size := lt_of_cell h.st

end
/-- All that matters is bound. -/
def D.setB (vars : List ByteArray) (b : Bd) (wt : Nat → Bool) : Bool := (List.range 12).all fun i => !wt i || decide (wrd vars b i ≠ ⟨#[]⟩)

theorem D.setB_iff {vars : List ByteArray} {b : Bd} {wt : Nat → Bool} : setB vars b wt = true ↔ ∀ i, i < 12 → wt i = true → wrd vars b i ≠ ⟨#[]⟩ := by
  unfold setB
  rw [List.all_eq_true]
  constructor
  · intro h i hi hw
    have := h i (List.mem_range.2 hi)
    simpa [hw] using this
  · intro h i hi
    have hi := List.mem_range.1 hi
    cases hw : wt i
    · rfl
    · simpa using h i hi hw

end Go.Proofs.YtjjfafgaphloaaaGreatDoor
