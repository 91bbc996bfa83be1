/- Of the proof of FnOnce: ChkS, Facts3, RxInv. -/
import Derived.Test.YtjjfafgaphloaaaGreatDoorM27
import Derived.Test.YtjjfafgaphloaaaGreatDoorM28
namespace Go.Proofs.YtjjfafgaphloaaaGreatDoor
open Go.RowKit D
set_option linter.unusedVariables false
attribute [local go_sem ↓] Go.wp_at_zero Go.wp_at_succ
set_option maxRecDepth 100000 in
set_option maxHeartbeats 2000000 in
theorem l2Cycle_any (rs : List Ru) (v : Value) (bs : List Nat) (w : World) (h : rulesK w [v] rs bs) (hf : rs.length ≤ 8) (hok : rs.all ruleOk = true) :
    Calls Tryz.prog 83 #[v] w fun e w' => e = .returned (.bool (cycB rs)) ∧ Below w.heap.size w w' := by
  obtain ⟨Ad, cap, rfl, hl, hm⟩ := sliceK_form h
  have hlm := nat_ge_max (Nat.le_trans hl hm)
  have c1 := l2Levels_any rs _ bs w h hf hok
  have HC : Hid (cycB rs = (levelsL rs).any fun x => decide (rs.length ≤ x)) := Lib.hid rfl
  have HL := Lib.hid (levels_len rs)
  clear hl hm h
  go_enter Tryz.func83, Tryz.ntmps83
  go_wp2_with fail
  refine c1.mono ?_
  rintro e w1 ⟨hB, rfl, hI, hmx⟩
  clear c1 hB
  have HMX := Lib.hid hmx
  clear hmx
  generalize levelsL rs = xs at *
  go_wp2
  go_loopw [4] (fun i wr => ∃ k : Nat, k ≤ rs.length ∧ i = .int .i64 k ∧ (∀ i, i < k → atL xs i < rs.length) ∧ LInv w rs xs wr) (fun i _ => rs.length - (intOf i).toNat)
  case atStart => exact ⟨0, Nat.zero_le _, rfl, fun i h => by omega, hI⟩
  case round =>
    obtain ⟨k, hk, rfl, hall, hI⟩ := hrel
    have HA := Lib.hid hall
    have HI := Lib.hid hI
    clear hall
    by_cases hlt : k < rs.length
    · have hk0 : (0 : Int) ≤ (k : Int) := by omega
      have hk1 : (k : Int) < (rs.length : Int) := by omega
      have a1 := hI.at hlt
      have hma := HMX.out k
      obtain ⟨a, ha⟩ : ∃ a, a = atL xs k := ⟨_, rfl⟩
      rw [← ha] at a1 hma
      by_cases hge : rs.length ≤ a
      · have HZ : Hid (cycB rs = true) := Lib.hid (by
          rw [HC.out, List.any_eq_true]
          have hkx : k < xs.length := by rw [HL.out]; exact hlt
          refine ⟨xs[k], List.getElem_mem hkx, decide_eq_true ?_⟩
          have : atL xs k = xs[k] := by unfold atL; rw [List.getD_eq_getElem?_getD, List.getElem?_eq_getElem hkx]; rfl
          omega)
        have hge1 : (rs.length : Int) ≤ (a : Int) := by omega
        clear HC HA ha hI hge
        go_wp2
        go_ret
        exact ⟨ret_bool HZ.out.symm, HI.out.bel⟩
      · have HZ : Hid (∀ i, i < k + 1 → atL xs i < rs.length) := Lib.hid fun i hi => by
          by_cases e : i = k
          · subst e; omega
          · exact HA.out i (by omega)
        have hge1 : ¬ (rs.length : Int) ≤ (a : Int) := by omega
        clear HC HA ha hI hge
        go_wp2
        go_roundw
        case rel => exact ⟨k + 1, hlt, by go_num, HZ.out, HI.out⟩
        case measure => simp [intOf]; omega
    · have he : k = rs.length := by omega
      have hk1 : ¬ (k : Int) < (rs.length : Int) := by omega
      have HZ : Hid (cycB rs = false) := Lib.hid (by
        rw [HC.out, List.any_eq_false]
        intro x hx
        obtain ⟨i, hi, rfl⟩ := List.mem_iff_getElem.1 hx
        have h1 := HA.out i (by rw [HL.out] at hi; omega)
        have : atL xs i = xs[i] := by unfold atL; rw [List.getD_eq_getElem?_getD, List.getElem?_eq_getElem hi]; rfl
        simp; omega)
      clear HC HA hI he
      go_wp2
      go_ret
      exact ⟨ret_bool HZ.out.symm, HI.out.bel⟩

theorem D.ruleOk_sums {r : Ru} (h : ruleOk r = true) : sumL (fun p => p.atom.args.length) r.body ≤ 1000000 ∧ r.head.args.length ≤ 1000000 := by
  obtain ⟨h1, _, h3⟩ := ruleOk_args h
  have h4 := h3 r.head (List.mem_cons_self ..)
  have h5 := sumL_const (fun p : Pt => p.atom.args.length) 3 r.body fun p hp => h3 p.atom (List.mem_cons_of_mem _ (List.mem_map.2 ⟨p, hp, rfl⟩))
  omega

theorem D.okS_snoc (rs : List Ru) (k : Nat) (h : k < rs.length) (h0 : (rs.take k).all ruleOk = true) : (rs.take (k + 1)).all ruleOk = ruleOk rs[k] := by
  rw [List.take_succ_eq_append_getElem h, List.all_append, h0]; simp

theorem D.okS_bad (rs : List Ru) (k : Nat) (h : k < rs.length) (h0 : ruleOk rs[k] = false) : progC rs = 1 := by
  unfold progC
  rw [if_pos (List.all_eq_false.2 ⟨_, List.getElem_mem h, by simp [h0]⟩)]

theorem D.tiS_snoc (rs : List Ru) (k : Nat) (h : k < rs.length) (h0 : (rs.take k).all (fun r => tightB r.head r.body) = true) : ((rs.take (k + 1)).all fun r => tightB r.head r.body) = tightB rs[k].head rs[k].body := by
  rw [List.take_succ_eq_append_getElem h, List.all_append, h0]; simp

theorem D.tiS_bad (rs : List Ru) (k : Nat) (h : k < rs.length) (h0 : tightB rs[k].head rs[k].body = false) : (rs.all fun r => tightB r.head r.body) = false :=
  List.all_eq_false.2 ⟨_, List.getElem_mem h, by simp [h0]⟩

set_option maxRecDepth 100000 in
set_option maxHeartbeats 4000000 in
theorem progCheck_spec (rs : List Ru) (v : Value) (bs : List Nat) (w : World) (h : rulesK w [v] rs bs) :
    Calls Tryz.prog 37 #[v] w fun e w' => e = .returned (.int .i64 (progC rs)) ∧ Below w.heap.size w w' := by
  obtain ⟨Ad, cap, rfl, hl, hm⟩ := sliceK_form h
  have hlm := nat_ge_max (Nat.le_trans hl hm)
  have C1 := Lib.hid fun w' (hb : Below w.heap.size w w') (hn : (allAtoms rs).length ≤ 1000000) => l2Args_any rs _ bs w' (rulesK_good.below h hb) hn
  have C3 := Lib.hid fun w' (hb : Below w.heap.size w w') (hok : rs.all ruleOk = true) (hf : rs.length ≤ 8) => l2Cycle_any rs _ bs w' (rulesK_good.below h hb) hf hok
  clear hl hm
  go_enter Tryz.func37, Tryz.ntmps37
  go_wp2
  go_loopw [3] (fun i wr => ∃ k : Nat, k ≤ rs.length ∧ i = .int .i64 k ∧ (rs.take k).all ruleOk = true ∧ Below w.heap.size w wr) (fun i _ => rs.length - (intOf i).toNat)
  case atStart => exact ⟨0, Nat.zero_le _, rfl, rfl, Below.refl _ _⟩
  case round =>
    obtain ⟨k, hk, rfl, hall, hb⟩ := hrel
    have HA := Lib.hid hall
    clear hall
    by_cases hlt : k < rs.length
    · clear C1 C3
      obtain ⟨b, o, Ae, ce, Af, cf, bk, rfl, _, d0, d1, d2, hel, _⟩ := rules_el (rulesK_good.below h hb) hlt
      have HS := Lib.hid (okS_snoc rs k hlt HA.out)
      have HBAD := Lib.hid (okS_bad rs k hlt)
      have hk0 : (0 : Int) ≤ (k : Int) := by omega
      have hk1 : (k : Int) < (rs.length : Int) := by omega
      have c1 := l1Rule_any rs[k] _ _ _ bk wr hel
      have HLT := Lib.hid hlt
      clear h hel
      generalize rs[k] = r at *
      clear hlt
      obtain ⟨⟨nm, args⟩, body⟩ := r
      dsimp only at *
      go_wp2_with fail
      refine c1.mono ?_
      rintro e w2 ⟨rfl, hb2⟩
      have B2 := hb.trans (hb2.mono hb.size)
      clear c1
      cases h1 : ruleOk ⟨⟨nm, args⟩, body⟩
      · have HZ := Lib.hid (HBAD.out h1)
        clear h1 HBAD HS
        go_wp2
        go_ret
        exact ⟨ret_int (by simp [HZ.out]), B2⟩
      · have HZ := Lib.hid (HS.out.trans h1)
        clear h1 HBAD HS
        go_wp2
        go_roundw
        case rel => exact ⟨k + 1, HLT.out, by go_num, HZ.out, B2⟩
        case measure => have := HLT.out; simp [intOf]; omega
    · have he : k = rs.length := by omega
      have hk1 : ¬ (k : Int) < (rs.length : Int) := by omega
      have hok : rs.all ruleOk = true := by have := HA.out; rw [he, List.take_of_length_le (Nat.le_refl _)] at this; exact this
      clear HA he
      by_cases hf : rs.length ≤ 8
      · have hf1 : ¬ (8 : Int) < (rs.length : Int) := by omega
        have hP : progC rs = if alikeB (allAtoms rs) = false then 3 else if (rs.all fun r => tightB r.head r.body) = false then 4 else if cycB rs = true then 5 else 0 := by
          unfold progC; rw [if_neg (by simp [hok]), if_neg (by omega)]
        have hn40 : (allAtoms rs).length ≤ 1000000 := by have := (allAtoms_few hok).2; omega
        have C4 := Lib.hid fun w' hb => C1.out w' hb hn40
        have C5 := Lib.hid fun w' hb => C3.out w' hb hok hf
        have HP := Lib.hid hP
        have HOK := Lib.hid hok
        clear hok hf hP C1 C3 hn40
        go_wp2_with fail
        refine (C4.out _ hb).mono ?_
        rintro e w2 ⟨rfl, hb2⟩
        have B2 := hb.trans (hb2.mono hb.size)
        clear C4
        cases ha : alikeB (allAtoms rs)
        · have HZ : Hid (progC rs = 3) := Lib.hid (by rw [HP.out, if_pos ha])
          clear HP ha
          go_wp2
          go_ret
          exact ⟨ret_int (by simp [HZ.out]), B2⟩
        · replace HP : Hid (progC rs = if (rs.all fun r => tightB r.head r.body) = false then 4 else if cycB rs = true then 5 else 0) := Lib.hid (by rw [HP.out, if_neg (by simp [ha])])
          clear ha hb hb2
          go_wp2
          go_loopw [4] (fun i wr => ∃ k : Nat, k ≤ rs.length ∧ i = .int .i64 k ∧ (rs.take k).all (fun r => tightB r.head r.body) = true ∧ Below w.heap.size w wr) (fun i _ => rs.length - (intOf i).toNat)
          case atStart => exact ⟨0, Nat.zero_le _, rfl, rfl, B2⟩
          case round =>
            clear hk hk1
            obtain ⟨k, hk, rfl, hall, hb⟩ := hrel
            have HA := Lib.hid hall
            clear hall
            by_cases hlt : k < rs.length
            · clear C5
              obtain ⟨b, o, Ae, ce, Af, cf, bk, rfl, _, d0, d1, d2, hel, _⟩ := rules_el (rulesK_good.below h hb) hlt
              have HS := Lib.hid (tiS_snoc rs k hlt HA.out)
              have HBAD := Lib.hid (tiS_bad rs k hlt)
              have hk0 : (0 : Int) ≤ (k : Int) := by omega
              have hk1 : (k : Int) < (rs.length : Int) := by omega
              have hsum := ruleOk_sums (List.all_eq_true.1 HOK.out _ (List.getElem_mem hlt))
              have c1 := l2Tight_any rs[k] _ _ _ bk wr hel hsum.1 hsum.2
              have HLT := Lib.hid hlt
              clear h hel hsum
              generalize rs[k] = r at *
              clear hlt
              obtain ⟨⟨nm, args⟩, body⟩ := r
              dsimp only at *
              go_wp2_with fail
              refine c1.mono ?_
              rintro e w3 ⟨rfl, hb3⟩
              have B3 := hb.trans (hb3.mono hb.size)
              clear c1
              cases h1 : tightB ⟨nm, args⟩ body
              · have HZ : Hid (progC rs = 4) := Lib.hid (by rw [HP.out, if_pos (HBAD.out h1)])
                clear h1 HBAD HS HP
                go_wp2
                go_ret
                exact ⟨ret_int (by simp [HZ.out]), B3⟩
              · have HZ := Lib.hid (HS.out.trans h1)
                clear h1 HBAD HS
                go_wp2
                go_roundw
                case rel => exact ⟨k + 1, HLT.out, by go_num, HZ.out, B3⟩
                case measure => have := HLT.out; simp [intOf]; omega
            · have he : k = rs.length := by omega
              have hk1 : ¬ (k : Int) < (rs.length : Int) := by omega
              have hti : (rs.all fun r => tightB r.head r.body) = true := by have := HA.out; rw [he, List.take_of_length_le (Nat.le_refl _)] at this; exact this
              replace HP : Hid (progC rs = if cycB rs = true then 5 else 0) := Lib.hid (by rw [HP.out, if_neg (by simp [hti])])
              clear HA he hti h
              go_wp2_with fail
              refine (C5.out _ hb).mono ?_
              rintro e w4 ⟨rfl, hb4⟩
              have B4 := hb.trans (hb4.mono hb.size)
              clear C5
              cases hc : cycB rs
              · have HZ : Hid (progC rs = 0) := Lib.hid (by rw [HP.out, if_neg (by simp [hc])])
                clear HP hc
                go_wp2
                go_ret
                exact ⟨ret_int (by simp [HZ.out]), B4⟩
              · have HZ : Hid (progC rs = 5) := Lib.hid (by rw [HP.out, if_pos hc])
                clear HP hc
                go_wp2
                go_ret
                exact ⟨ret_int (by simp [HZ.out]), B4⟩
      · have hf1 : (8 : Int) < (rs.length : Int) := by omega
        have HZ : Hid (progC rs = 2) := Lib.hid (by unfold progC; rw [if_neg (by simp [hok]), if_pos (by omega)])
        clear hok hf C1 C3 h
        go_wp2
        go_ret
        exact ⟨ret_int (by simp [HZ.out]), hb⟩

set_option maxHeartbeats 400000 in
theorem factsOk_spec (xs : List A) (v : Value) (bs : List Nat) (w : World) (h : atomsK w [v] xs bs) :
    Calls Tryz.prog 38 #[v] w fun e w' => e = .returned (.bool (factsOk xs)) ∧ Below w.heap.size w w' := by
  obtain ⟨Ad, cap, rfl, hl, hm⟩ := sliceK_form h
  have hk := l3Ok_any xs _ bs 300 w h (by omega)
  rw [← factsOk_eq] at hk
  generalize factsOk xs = r at *
  clear h hm
  go_enter Tryz.func38, Tryz.ntmps38
  go_wp2_with fail
  refine hk.mono ?_
  rintro e w1 ⟨rfl, hb1⟩
  go_wp2
  go_ret
  exact ⟨rfl, hb1⟩

set_option maxHeartbeats 1000000 in
theorem factsOk_impl (xs : List A) (v : Value) (bs : List Nat) (w : World) (h : atomsK w [v] xs bs) :
    Calls Tryz.prog 34 #[v] w fun e w' => e = .returned (.bool (factsOk xs)) ∧ Below w.heap.size w w' := by
  obtain ⟨Ad, cap, rfl, hl, hm⟩ := sliceK_form h
  have hlm := nat_ge_max (Nat.le_trans hl hm)
  clear hm
  by_cases hle : xs.length ≤ 300
  · have hle' : ¬ (300 : Int) < (xs.length : Int) := by omega
    have hle2 : ¬ 300 < xs.length := by omega
    have HE : Hid (factsOk xs = okB xs) := Lib.hid (by rw [factsOk_eq, decide_eq_true hle, Bool.and_true])
    clear hle
    go_enter Tryz.func34, Tryz.ntmps34
    go_wp2
    go_loopw [10] (fun i wr => ∃ k : Nat, k ≤ xs.length ∧ i = .int .i64 k ∧ facTo xs k ∧ Below w.heap.size w wr) (fun i _ => xs.length - (intOf i).toNat)
    case atStart => exact ⟨0, Nat.zero_le _, rfl, facTo_zero _, Below.refl _ _⟩
    case round =>
      obtain ⟨k, hk, rfl, hall, hb⟩ := hrel
      have HA := Lib.hid hall
      clear hall
      by_cases hlt : k < xs.length
      · have hk0 : (0 : Int) ≤ (k : Int) := by omega
        have hk1 : (k : Int) < (xs.length : Int) := by omega
        obtain ⟨b, o, Ae, ce, bk, rfl, _, c0, c1, hel, _⟩ := atoms_el (atomsK_good.below h hb) hlt
        have hA : Below wr.heap.size wr (wr.alloc (.cells #[.string xs[k].name, .slice Ae xs[k].args.length ce] 33)) := (Below.refl _ _).alloc (Nat.le_refl _) _
        have hg := isFact_any xs[k] _ _ bk _ (atomK_good.below hel hA)
        have HF1 := Lib.hid (fun hf => facTo_step (k := k) HA.out hlt hf)
        have HF2 := Lib.hid (fun hf => okB_bad hlt hf)
        generalize isFactB xs[k] = x at *
        clear h hel
        go_wp2_with fail
        refine hg.mono ?_
        rintro e w' ⟨rfl, hb'⟩
        have B' := hb.trans ((hA.trans (hb'.mono hA.size)).mono hb.size)
        cases x
        · go_wp2
          go_ret
          exact ⟨ret_bool (by rw [HE.out, HF2.out (by simp)]), B'⟩
        · go_wp2
          go_roundw
          case rel => exact ⟨k + 1, by omega, by go_num, HF1.out (by simp), B'⟩
          case measure => simp [intOf]; omega
      · have he : k = xs.length := by omega
        have HO : Hid (okB xs = asc xs) := Lib.hid (by
          have hf := HA.out
          rw [he] at hf
          unfold okB
          rw [show xs.all isFactB = true from by
            rw [List.all_eq_true]; intro y hy
            obtain ⟨j, hj, rfl⟩ := List.mem_iff_getElem.1 hy
            exact hf j hj hj, Bool.true_and])
        have he' : ¬ (k : Int) < (xs.length : Int) := by omega
        have hs := sortedFacts_any Ad xs.length cap wr
        have has := fun w' (hb' : Below wr.heap.size wr w') => ascends_any xs _ bs w' (atomsK_good.below (atomsK_good.below h hb) hb')
        clear h he HA
        go_wp2_with fail
        refine hs.mono ?_
        rintro e w1 ⟨rfl, hb1⟩
        go_wp2_with fail
        refine (has _ hb1).mono ?_
        rintro e w2 ⟨rfl, hb2⟩
        go_wp2
        go_ret
        exact ⟨ret_bool (by rw [HE.out, HO.out]), hb.trans ((hb1.trans (hb2.mono hb1.size)).mono hb.size)⟩
  · have hle' : (300 : Int) < (xs.length : Int) := by omega
    have hle2 : 300 < xs.length := by omega
    have HE : Hid (factsOk xs = false) := Lib.hid (by rw [factsOk_eq, decide_eq_false hle, Bool.and_false])
    clear hle h
    go_enter Tryz.func34, Tryz.ntmps34
    go_wp2
    go_ret
    exact ⟨ret_bool HE.out.symm, Below.refl _ _⟩

end Go.Proofs.YtjjfafgaphloaaaGreatDoor
namespace Go.Proofs.YtjjfafgaphloaaaGreatDoor
open Go.RowKit D
set_option linter.unusedVariables false
/-- A block none of whose cells is a yes or no. -/
def D.NoBB (w : World) (n0 : Nat) : Prop := ∀ o u, w.cell? ⟨n0, o, none⟩ = some u → ∀ b, u ≠ .bool b

theorem D.nobb_box {w : World} {n0 : Nat} {s : ByteArray} {A B : Option Addr} {l c m d : Nat} {t : TypeId} (h : w.heap[n0]? = some (.cells #[.string s, .slice A l c, .slice B m d] t (0, 0))) : NoBB w n0 := by
  intro o u hu
  rw [cell_of_blk h] at hu
  match o with
  | 0 => simp at hu; subst hu; exact fun b => by simp
  | 1 => simp at hu; subst hu; exact fun b => by simp
  | 2 => simp at hu; subst hu; exact fun b => by simp
  | o + 3 => simp at hu

theorem D.terms_apartB {w : World} {n0 : Nat} (ha : NoBB w n0) {v : Value} {ts : List T} {bs : List Nat} (h : termsK w [v] ts bs) : n0 ∉ bs := by
  intro hb
  obtain ⟨Ad, cap, hcs, hl, hm, g0, g1⟩ := h
  by_cases hne : ts = []
  · rw [g0 hne] at hb; simp at hb
  · obtain ⟨b, o, rfl, F, G, rfl, hF⟩ := g1 hne
    rcases List.mem_cons.1 hb with rfl | hb
    · match ts, hne with
      | y :: r, _ =>
        obtain ⟨a1, a2, a3⟩ := hF 0 y rfl
        obtain ⟨e, _, _⟩ := a3
        have := a2 0 (.bool y.var) (by rw [e]; rfl)
        exact ha _ _ this _ rfl
    · obtain ⟨k, hk, hck⟩ := List.mem_flatMap.1 hb
      have hkl := List.mem_range.1 hk
      obtain ⟨a1, a2, a3⟩ := hF k ts[k] (List.getElem?_eq_getElem hkl)
      obtain ⟨_, _, e⟩ := a3
      rw [e] at hck; simp at hck

theorem D.rowedP_apartB {w : World} {n0 : Nat} (ha : NoBB w n0) {L : List Value} {xs : List Pt} {bs : List Nat} (h : Rowed 3 partK w L xs bs) : n0 ∉ bs := by
  obtain ⟨h1, h2, G, rfl, h3⟩ := h
  intro hb
  obtain ⟨j, hj, hc⟩ := List.mem_flatMap.1 hb
  obtain ⟨s, _, _, ht⟩ := h3 j (List.mem_range.1 hj)
  exact terms_apartB ha ht hc

/-- An owned row lies in memory. -/
theorem own_lies {w : World} {base e n k c : Nat} {A : Option Addr} {L : List Value} (h : w.ownsRow base e n (.slice A k c) k L) : Lies w A L := by
  rcases h.2 with ⟨e1, e2⟩ | ⟨g, cap, cur, e1, _, hh, _, _, hsz, ht⟩
  · have : L.length = 0 := by rw [h.1, e2, Nat.zero_mul]
    rw [List.length_eq_zero_iff.1 this]
    exact Lies.nil _ _
  · simp only [Value.slice.injEq] at e1
    rw [e1.1]
    refine Lies.mk fun j u hj => ?_
    rw [Nat.zero_add, cell_of_blk hh]
    rw [← ht] at hj
    by_cases hjk : j < k * n
    · rw [List.getElem?_take_of_lt hjk] at hj
      simpa using hj
    · rw [List.getElem?_take_eq_none (by omega)] at hj
      cases hj

/-- A drawn rule under way: its box is block rb; the body is drawn in the world wb. -/
structure RxInv (g p rb : Nat) (wb : World) (a : A) (A1 : Option Addr) (c1 : Nat) (b1 : List Nat) (xs : List Pt) (A2 : Option Addr) (c2 : Nat) (wr : World) : Prop where
  box : wr.heap[rb]? = some (.cells #[.string a.name, .slice A1 a.args.length c1, .slice A2 xs.length c2] 53 (0, 0))
  at_ : atomK wr [.string a.name, .slice A1 a.args.length c1] a b1
  alt : ∀ b ∈ b1, b < wb.heap.size
  bd : BdInv g p wb xs (.slice A2 xs.length c2) wr
  gb : g ≠ rb
  ga : g ∉ b1
  rbb : wb.heap.size ≤ rb

section
variable {g p rb : Nat} {wb : World} {a : A} {A1 : Option Addr} {c1 : Nat} {b1 : List Nat} {xs : List Pt} {A2 : Option Addr} {c2 : Nat} {wr : World}
theorem RxInv.call {p2 : Nat} {w2 : World} (h : RxInv g p rb wb a A1 c1 b1 xs A2 c2 wr) (hR : Rdr g p2 w2) (hK : KeptBut [g] wr w2) : RxInv g p2 rb wb a A1 c1 b1 xs A2 c2 w2 :=
  ⟨hK.blk h.box (by simp; exact fun e => h.gb e.symm), Good.kept atomK_good h.at_ hK (fun b hb => by simp; rintro rfl; exact h.ga hb), h.alt, h.bd.call hR hK, h.gb, h.ga, h.rbb⟩

theorem RxInv.below {w2 : World} (h : RxInv g p rb wb a A1 c1 b1 xs A2 c2 wr) (hB : Below wr.heap.size wr w2) : RxInv g p rb wb a A1 c1 b1 xs A2 c2 w2 :=
  ⟨(hB.block _ (lt_of_block h.box)).trans h.box, atomK_good.below h.at_ hB, h.alt, h.bd.below hB, h.gb, h.ga, h.rbb⟩

/-- The box as it is laid. -/
theorem RxInv.start {w4 : World} (hat : atomK wb [.string a.name, .slice A1 a.args.length c1] a b1) (hga : g ∉ b1) (hF : BdInv g p wb xs (.slice A2 xs.length c2) w4) :
    RxInv g p w4.heap.size wb a A1 c1 b1 xs A2 c2 (w4.alloc (.cells #[.string a.name, .slice A1 a.args.length c1, .slice A2 xs.length c2] 53)) := by
  have hA5 : Below w4.heap.size w4 (w4.alloc (.cells #[.string a.name, .slice A1 a.args.length c1, .slice A2 xs.length c2] 53)) := (Below.refl _ _).alloc (Nat.le_refl _) _
  exact ⟨heap_alloc_new w4 _, atomK_good.below (Good.kept atomK_good hat hF.kept (fun b hb => by simp; rintro rfl; exact hga hb)) hA5, atomK_good.lt hat, hF.below hA5, by have := hF.kept.size; have := hF.glt; omega, hga, hF.kept.size⟩

/-- The body gives way to another one. -/
theorem RxInv.put {ys : List Pt} {A3 : Option Addr} {c3 : Nat} {w2 : World} (h : RxInv g p rb wb a A1 c1 b1 xs A2 c2 wr) (hbox : w2.heap[rb]? = wr.heap[rb]?) (hat : ∀ b ∈ b1, w2.heap[b]? = wr.heap[b]?) (hbd : BdInv g p wb ys (.slice A3 ys.length c3) w2) :
    RxInv g p rb wb a A1 c1 b1 ys A3 c3 (w2.setCell ⟨rb, 2, none⟩ (.slice A3 ys.length c3)) := by
  have hb2 := hbox.trans h.box
  have hx := blk_setG (o := 2) (u := .slice A3 ys.length c3) hb2
  have hnb := nobb_box hb2
  have hat2 := atomK_good.keep h.at_ hat
  have hb1 : rb ∉ b1 := terms_apartB hnb (atom_args hat2)
  obtain ⟨L, bs, hC, hbb⟩ := hbd.coll
  have hbs : rb ∉ bs := rowedP_apartB hnb hC.row
  have hne : (Value.slice A3 ys.length c3).ownBlock ≠ some rb := own_ne_blk hC.own hb2 (by decide)
  exact ⟨hx, atomK_good.keep hat2 fun b hb => Below.heap_setCell _ _ _ _ (by rintro rfl; exact hb1 hb), h.alt, ⟨⟨L, bs, hC.setBox partK_good hne hbs, hbb⟩, hbd.small, hbd.rdr.belowN ((Below.refl wb.heap.size w2).setCell h.rbb _) hbd.glt, hbd.kept.setNew h.rbb _, hbd.glt⟩, h.gb, h.ga, h.rbb⟩

/-- The body gives way to none. -/
theorem RxInv.bare (h : RxInv g p rb wb a A1 c1 b1 xs A2 c2 wr) : RxInv g p rb wb a A1 c1 b1 [] (some ⟨wr.heap.size, 0, none⟩) 0 ((wr.setCell ⟨rb, 2, none⟩ (.slice (some ⟨wr.heap.size, 0, none⟩) 0 0)).alloc (.cells #[] 148)) := by
  have hx := blk_setG (o := 2) (u := .slice (some ⟨wr.heap.size, 0, none⟩) 0 0) h.box
  have hb1 : rb ∉ b1 := terms_apartB (nobb_box h.box) (atom_args h.at_)
  have hat := atomK_good.keep h.at_ (w' := wr.setCell ⟨rb, 2, none⟩ (.slice (some ⟨wr.heap.size, 0, none⟩) 0 0)) fun b hb => Below.heap_setCell _ _ _ _ (by rintro rfl; exact hb1 hb)
  have hrd := h.bd.rdr.belowN ((Below.refl wb.heap.size wr).setCell (p := ⟨rb, 2, none⟩) h.rbb (.slice (some ⟨wr.heap.size, 0, none⟩) 0 0)) h.bd.glt
  have hk := h.bd.kept.setNew (p := ⟨rb, 2, none⟩) h.rbb (.slice (some ⟨wr.heap.size, 0, none⟩) 0 0)
  have hsz : (wr.setCell ⟨rb, 2, none⟩ (.slice (some ⟨wr.heap.size, 0, none⟩) 0 0)).heap.size = wr.heap.size := by simp [World.setCell]
  generalize wr.setCell ⟨rb, 2, none⟩ (.slice (some ⟨wr.heap.size, 0, none⟩) 0 0) = wx at *
  rw [← hsz] at hx ⊢
  have hA : Below wx.heap.size wx (wx.alloc (.cells #[] 148)) := (Below.refl _ _).alloc (Nat.le_refl _) _
  exact ⟨(hA.block _ (lt_of_block hx)).trans hx, atomK_good.below hat hA, h.alt, ⟨⟨_, _, Coll.empty (heap_alloc_new wx _) hk.size, fun b hb => by simp at hb⟩, fun a ha => by simp at ha, hrd.below hA, hk.belowN hA hk.size, h.bd.glt⟩, h.gb, h.ga, h.rbb⟩

theorem RxInv.cell (h : RxInv g p rb wb a A1 c1 b1 xs A2 c2 wr) : wr.cell? ⟨rb, 0, none⟩ = some (.string a.name) ∧ wr.cell? ⟨rb, 1, none⟩ = some (.slice A1 a.args.length c1) ∧ wr.cell? ⟨rb, 2, none⟩ = some (.slice A2 xs.length c2) := ⟨cell_of_blk h.box, cell_of_blk h.box, cell_of_blk h.box⟩

theorem RxInv.froz (h : RxInv g p rb wb a A1 c1 b1 xs A2 c2 wr) (o : Nat) : wr.frozen? ⟨rb, o, none⟩ = false := frozen_of_blk h.box

/-- Behind an append to the body, the box is as it was. -/
theorem RxInv.keep {wx w4 : World} (h : RxInv g p rb wb a A1 c1 b1 xs A2 c2 wr) (hA : Below wr.heap.size wr wx) (hG : wx.grownBy w4 (Value.slice A2 xs.length c2).ownBlock) :
    w4.heap[rb]? = wr.heap[rb]? ∧ w4.cell? ⟨rb, 2, none⟩ = some (.slice A2 xs.length c2) ∧ w4.frozen? ⟨rb, 2, none⟩ = false ∧ rb < w4.heap.size := by
  obtain ⟨L, bs, hCo, hbs⟩ := h.bd.coll
  have hne : (Value.slice A2 xs.length c2).ownBlock ≠ some rb := own_ne_blk hCo.own h.box (by decide)
  have hbox : w4.heap[rb]? = wr.heap[rb]? := by
    rw [hG.block rb (Nat.lt_of_lt_of_le (lt_of_block h.box) hA.size) (fun e => hne e.symm)]
    exact hA.block rb (lt_of_block h.box)
  have hb := hbox.trans h.box
  exact ⟨hbox, cell_of_blk hb, frozen_of_blk hb, lt_of_block hb⟩

theorem RxInv.app {y : A} {A4 : Option Addr} {c4 : Nat} {wx w4 : World} {L4 : List Value} {bs4 : List Nat} (h : RxInv g p rb wb a A1 c1 b1 xs A2 c2 wr) (hA : Below wr.heap.size wr wx) (hC : Coll 3 partK wb.heap.size 148 w4 (.slice A4 (xs.length + 1) c4) L4 (xs ++ [⟨false, y⟩]) bs4) (hbb : ∀ b ∈ bs4, wb.heap.size ≤ b) (hB : Below wb.heap.size wr w4) (hG : wx.grownBy w4 (Value.slice A2 xs.length c2).ownBlock) (hy : PtS ⟨false, y⟩) :
    RxInv g p rb wb a A1 c1 b1 (xs ++ [⟨false, y⟩]) A4 c4 (w4.setCell ⟨rb, 2, none⟩ (.slice A4 (xs.length + 1) c4)) := by
  have hbd := h.bd.app hC hbb hB hy
  have e : xs.length + 1 = (xs ++ [(⟨false, y⟩ : Pt)]).length := by simp
  rw [e]
  exact h.put (h.keep hA hG).1 (fun b hb => hB.block b (h.alt b hb)) (by rw [← e]; exact hbd)

/-- The rule as it lies. -/
theorem RxInv.rule {B : Nat} (h : RxInv g p rb wb a A1 c1 b1 xs A2 c2 wr) (hb1 : ∀ b ∈ b1, B ≤ b) (hB : B ≤ wb.heap.size) : ∃ br, ruleK wr [.string a.name, .slice A1 a.args.length c1, .slice A2 xs.length c2] ⟨a, xs⟩ br ∧ ∀ b ∈ br, B ≤ b := by
  obtain ⟨b2, hp, h2⟩ := h.bd.parts
  obtain ⟨s, hs1, hs2, hs3⟩ := h.at_
  simp only [List.cons.injEq, and_true, true_and] at hs1
  subst hs1
  exact ⟨b1 ++ b2, ⟨_, _, b1, b2, rfl, hs2, rfl, hs3, hp⟩, fun b hb => (List.mem_append.1 hb).elim (hb1 b) (fun hb => Nat.le_trans hB (h2 b hb))⟩

end
theorem D.terms_three {w : World} {b : Nat} {x y z : ByteArray} (h : w.heap[b]? = some (.cells #[.bool true, .string x, .bool true, .string y, .bool true, .string z] 127 (0, 0))) (hx : x.size ≤ maxLen) (hy : y.size ≤ maxLen) (hz : z.size ≤ maxLen) :
    termsK w [.slice (some ⟨b, 0, none⟩) 3 3] [⟨true, x⟩, ⟨true, y⟩, ⟨true, z⟩] [b] := by
  refine ⟨_, 3, rfl, Nat.le_refl _, by unfold maxLen; omega, fun h => by simp at h, fun _ => ⟨b, 0, rfl, fun k => if k = 0 then [.bool true, .string x] else if k = 1 then [.bool true, .string y] else [.bool true, .string z], fun _ => [], by simp, fun k t hk => ?_⟩⟩
  match k, hk with
  | 0, hk =>
    simp only [List.getElem?_cons_zero, Option.some.injEq] at hk
    subst hk
    refine ⟨rfl, fun j v hj => ?_, rfl, hx, rfl⟩
    match j, hj with
    | 0, hj => rw [cell_of_blk h]; simpa using hj
    | 1, hj => rw [cell_of_blk h]; simpa using hj
    | j + 2, hj => simp at hj
  | 1, hk =>
    simp only [List.getElem?_cons_succ, List.getElem?_cons_zero, Option.some.injEq] at hk
    subst hk
    refine ⟨rfl, fun j v hj => ?_, rfl, hy, rfl⟩
    match j, hj with
    | 0, hj => rw [cell_of_blk h]; simpa using hj
    | 1, hj => rw [cell_of_blk h]; simpa using hj
    | j + 2, hj => simp at hj
  | 2, hk =>
    simp only [List.getElem?_cons_succ, List.getElem?_cons_zero, Option.some.injEq] at hk
    subst hk
    refine ⟨rfl, fun j v hj => ?_, rfl, hz, rfl⟩
    match j, hj with
    | 0, hj => rw [cell_of_blk h]; simpa using hj
    | 1, hj => rw [cell_of_blk h]; simpa using hj
    | j + 2, hj => simp at hj
  | k + 3, hk => simp at hk

/-- The first append of a drawn region: a copy of the list, in whatever world between. -/
theorem step_rs1 {g p n : Nat} {w w8 W1 : World} {xs : List Ru} {Av : Option Addr} {cp : Nat} {i0 : TypeInfo} (hi : Tryz.prog.info? 53 = some i0) (hz0 : i0.zero = some (.agg #[.string ⟨#[]⟩, .slice none 0 0, .slice none 0 0])) (hz1 : i0.size = 3) (hz2 : i0.bytes = 64)
    {ops : Array Oper} {o : Oper} {a : Act} {K : Act → World → Prop} {Q : Exit → Act → World → Prop} {E : Prop} (hgd : o.guard = none) (s x : Operand)
    (ho : o.op = .call { callee := .builtin .append, args := #[s, x], argTypes := #[23, 23] }) (b : Nat) (hs : a.eval s = .slice (some ⟨b, 0, none⟩) 0 0) (hE : W1.heap[b]? = some (.cells #[] 53 (0, 0))) (hb : w8.heap.size ≤ b)
    (H : RsInv g p w xs (.slice Av n cp) w8) (hx : a.eval x = .slice Av n cp) (hn : xs.length = n) (hB : Below w8.heap.size w8 W1) (hlen : n ≤ 100)
    (h : ∀ A cap w', (∃ L bs, Coll 3 ruleK w8.heap.size 53 w' (.slice A n cap) L xs bs ∧ (∀ b ∈ bs, w.heap.size ≤ b)) → Below w8.heap.size w8 w' → W1.grownBy w' (some b) → K (a.put o.dst (.slice A n cap)) w') : if Region.wanted o (yielded ops a.tmps) = true then Oper.wp Tryz.prog o a W1 K Q else E := by
  subst hn
  obtain ⟨L, bs, hC, hbb⟩ := H.coll
  have hC1 := hC.below ruleK_good hB
  refine step_coll hgd s x _ ho w8.heap.size 53 i0 _ 3 64 Tryz.underlying23 hi hz0 hz1 hz2 rfl (by omega) ruleK_good (.slice (some ⟨b, 0, none⟩) 0 0) 0 [] [] [] hs (Coll.empty hE hb) rfl Av xs.length cp L xs bs hx hC1.row rfl (own_lies hC1.own) (fun c hc => by
    have := hC.row.lt ruleK_good c hc
    simp [Value.ownBlock]; omega) (by unfold maxLen; omega) (by omega) w8 w8.heap.size hB (Nat.le_refl _) hB.size fun A cap w' hCo hBe _ hG => ?_
  rw [Nat.zero_add] at *
  exact h A cap w' ⟨L, bs, by simpa using hCo, hbb⟩ hBe hG

/-- The second one: a rule behind it. -/
theorem step_rs2 {g p n : Nat} {w w8 W2 : World} {xs : List Ru} {Av : Option Addr} {cp : Nat} {i0 : TypeInfo} (hi : Tryz.prog.info? 53 = some i0) (hz0 : i0.zero = some (.agg #[.string ⟨#[]⟩, .slice none 0 0, .slice none 0 0])) (hz1 : i0.size = 3) (hz2 : i0.bytes = 64)
    {ops : Array Oper} {o : Oper} {a : Act} {K : Act → World → Prop} {Q : Exit → Act → World → Prop} {E : Prop} (hgd : o.guard = none) (s x : Operand)
    (ho : o.op = .call { callee := .builtin .append, args := #[s, x], argTypes := #[23, 23] }) {L : List Value} {bs : List Nat} (hs : a.eval s = .slice Av n cp) (hC : Coll 3 ruleK w8.heap.size 53 W2 (.slice Av n cp) L xs bs) (hbb : ∀ b ∈ bs, w.heap.size ≤ b)
    {v : Value} (H : RsInv g p w xs v w8) (lb : Nat) (hx : a.eval x = .slice (some ⟨lb, 0, none⟩) 1 1) {c0 c1 c2 : Value} (hl : W2.heap[lb]? = some (.cells #[c0, c1, c2] 53 (0, 0))) {r : Ru} {br : List Nat} (hr : ruleK w8 [c0, c1, c2] r br) (hbr : ∀ b ∈ br, w.heap.size ≤ b) (hRu : RuS r) (hn : xs.length = n) (hB : Below w8.heap.size w8 W2) (hlen : n ≤ 100)
    (h : ∀ A cap w', RsInv g p w (xs ++ [r]) (.slice A (n + 1) cap) w' → Below w8.heap.size w8 w' → K (a.put o.dst (.slice A (n + 1) cap)) w') : if Region.wanted o (yielded ops a.tmps) = true then Oper.wp Tryz.prog o a W2 K Q else E := by
  subst hn
  have hws := H.kept.size
  refine step_coll hgd s x _ ho w8.heap.size 53 i0 _ 3 64 Tryz.underlying23 hi hz0 hz1 hz2 rfl (by omega) ruleK_good (.slice Av xs.length cp) xs.length L xs bs hs hC rfl (some ⟨lb, 0, none⟩) 1 1 _ [r] br hx (Rowed.one_el ruleK_ones (ruleK_good.below hr hB)) rfl (lies_block hl) (fun c hc => own_block_ge hC.own (ruleK_good.lt hr c hc)) (by unfold maxLen; omega) (by omega) w8 w8.heap.size hB (Nat.le_refl _) hB.size fun A cap w' hCo hBe _ hG => ?_
  have hBw : Below w.heap.size w8 w' := hBe.mono hws
  exact h A cap w' (H.app (hCo.mono hws) (fun b hb => (List.mem_append.1 hb).elim (hbb b) (hbr b)) hBw hRu) hBe

end Go.Proofs.YtjjfafgaphloaaaGreatDoor
