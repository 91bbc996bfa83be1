/- The walk of merge's iterator: its contract. -/
import Derived.RangeFuncNested
import Derived.RangeFuncBound
import Derived.RangeFuncCalls
import Derived.RangeFuncLeaves
import Derived.Shelf.Abstract
import Derived.Shelf.RegionOpen
import Derived.OwnWalkIn
import Derived.TacticsInMore
import Derived.LoopNIn
import Derived.LoopIn
import Derived.Laws.EntriesVeiled
import Derived.Deep.RegionHeld3
import Derived.Deep.RegionWith
import Derived.BigQuiet
import Derived.Deep.DrawnRows
import Derived.WalkKit
import Derived.WalkSpells
import Derived.WalkLawsBesides
import Derived.Lib.Hide
import Derived.Lib.IndexBytes
import Derived.Deep.Slices
import Derived.Deep.Fields
import Derived.ChangeSame
import Derived.Deep.Draws
import Derived.Lib.Bytealg
import Derived.Test.YtlmimajgifidhaaKind
import Derived.Test.YtlmimajgifidhaaCmp

namespace Go.Proofs.Ytlmimajgifidhaa
open Go.RowKit D Go.Shelf
set_option linter.unusedVariables false
attribute [local go_sem ↓] Go.wp_at_zero Go.wp_at_succ
attribute [local go_sem] Oper.semAt_some

/-- What merge hands to a round: an atom as it lies in w0, and where it is. -/
structure D.Itm (w0 : World) where
  c0 : Value
  c1 : Value
  a : A
  s : Nat
  bs : List Nat
  h : atomK w0 [c0, c1] a bs
def D.Itm.key {w0 : World} (x : Itm w0) : A × Nat := (x.a, x.s)
def D.Itm.enc {w0 : World} (x : Itm w0) : Array Value := #[.agg #[x.c0, x.c1], .int .i64 x.s]
theorem D.grown_of_below {w w' : World} (h : Below w.heap.size w w') : w.grownBy w' none := ⟨h.os, h.tape, h.output, h.size, fun k hk _ => h.block k hk⟩
theorem D.map_snoc {w0 : World} (pre : List (Itm w0)) (x : Itm w0) {m rest : List (A × Nat)} (h : m = pre.map Itm.key ++ x.key :: rest) : m = (pre ++ [x]).map Itm.key ++ rest := by rw [h]; simp

/-- What merge's iterator reads: its two boxes, and the data, which lie as they lay in wd. -/
structure D.MInv (B1 B2 : Nat) (v1 v2 : Value) (wd W : World) : Prop where
  s1 : W.cell? ⟨B1, 0, none⟩ = some v1
  s2 : W.cell? ⟨B1, 1, none⟩ = some (.func (.func 70) #[] #[])
  s3 : W.cell? ⟨B2, 0, none⟩ = some v2
  hb : Below wd.heap.size wd W
theorem D.MInv.below {B1 B2 : Nat} {v1 v2 : Value} {wd W W' : World} (h : MInv B1 B2 v1 v2 wd W) (hb : Below W.heap.size W W') : MInv B1 B2 v1 v2 wd W' :=
  ⟨cell_later hb h.s1, cell_later hb h.s2, cell_later hb h.s3, h.hb.trans (hb.mono h.hb.size)⟩

set_option maxRecDepth 100000 in
set_option maxHeartbeats 4000000 in
theorem merge1_in (n : Nat) (hn : 1 ≤ n) (l B1 B2 : Nat) (xs ys : List A) (v1 v2 : Value) (bs1 bs2 : List Nat) (wd : World) (h1 : atomsK wd [v1] xs bs1) (h2 : atomsK wd [v2] ys bs2)
    (Kp : World → World → Prop) (hKp : ∀ W W', Kp W W' → MInv B1 B2 v1 v2 wd W → MInv B1 B2 v1 v2 wd W')
    (J Jx : List (Itm wd) → World → Prop) (W : World) (hW : MInv B1 B2 v1 v2 wd W) (hJ : AbidesFrom W.heap.size J)
    (hY : ∀ pre x W, J pre W → pre.length < (mergeL xs ys).length → YieldAt Fence.wide (n - 1) Try.prog l x.enc W fun e W' =>
      (e = .returned (.bool true) ∧ J (pre ++ [x]) W' ∧ Kp W W') ∨ (e = .returned (.bool false) ∧ Jx (pre ++ [x]) W'))
    (h0 : J [] W) :
    CallsIn Fence.wide n Try.prog 74 #[.func (.yield l) #[] #[], .pointer (some ⟨B1, 0, none⟩), .pointer (some ⟨B2, 0, none⟩)] W fun e W' => (∃ v, e = .returned v) ∧
      ((∃ pre, pre.map Itm.key = mergeL xs ys ∧ J pre W') ∨ (∃ pre rest, pre.map Itm.key ++ rest = mergeL xs ys ∧ Jx pre W')) := by
  obtain ⟨Ad, cap, rfl, hl, hm⟩ := sliceK_form h1
  obtain ⟨Ad2, cap2, rfl, hl2, hm2⟩ := sliceK_form h2
  have hlm := nat_ge_max (Nat.le_trans hl hm)
  have hlm2 := nat_ge_max (Nat.le_trans hl2 hm2)
  clear hm hm2
  refine callsIn_of_wp Try.func74 rfl trivial ?_ rfl
  simp only [Try.ntmps74, List.size_toArray, List.length_cons, List.length_nil, Nat.reduceAdd, Nat.reduceSub, Array.replicate_succ, Array.replicate_zero, List.push_toArray, List.append_toArray, List.nil_append, List.cons_append]
  gi_wp2
  gi_loopw [4, 5] (fun i j wr => ∃ (p q : Nat) (pre : List (Itm wd)), p ≤ xs.length ∧ q ≤ ys.length ∧ i = .int .i64 p ∧ j = .int .i64 q ∧ mergeL xs ys = pre.map Itm.key ++ mergeL (xs.drop p) (ys.drop q) ∧ J pre wr ∧ MInv B1 B2 (.slice Ad xs.length cap) (.slice Ad2 ys.length cap2) wd wr)
    (fun i j _ => xs.length + ys.length - (intOf i).toNat - (intOf j).toNat)
  case atStart => exact ⟨0, 0, [], Nat.zero_le _, Nat.zero_le _, rfl, rfl, rfl, h0, hW⟩
  case round =>
    obtain ⟨p, q, pre, hp, hq, rfl, rfl, hmg, hJs, hI⟩ := hrel
    have hb := hI.hb
    have HI := Lib.hid hI
    have HM := Lib.hid hmg
    clear hmg
    have r1 := hI.s1
    have r2 := hI.s2
    have r3 := hI.s3
    clear hI
    have hp0 : (0 : Int) ≤ (p : Int) := by omega
    have hq0 : (0 : Int) ≤ (q : Int) := by omega
    by_cases hp1 : p < xs.length
    · have hp2 : (p : Int) < (xs.length : Int) := by omega
      have hpn : ¬ (p : Int) = (xs.length : Int) := by omega
      have hpb : ((p : Int) == (xs.length : Int)) = false := beq_eq_false_iff_ne.2 hpn
      obtain ⟨b, o, Ae, ce, bk, rfl, _, c0, c1, hel, _⟩ := atoms_el h1 hp1
      have f0 := cell_later hb c0
      have f1 := cell_later hb c1
      by_cases hq1 : q < ys.length
      · have hq2 : (q : Int) < (ys.length : Int) := by omega
        have hqn : ¬ (q : Int) = (ys.length : Int) := by omega
        have hqb : ((q : Int) == (ys.length : Int)) = false := beq_eq_false_iff_ne.2 hqn
        obtain ⟨b', o', Af, cf, bm, rfl, _, d0, d1, hem, _⟩ := atoms_el h2 hq1
        have e0 := cell_later hb d0
        have e1 := cell_later hb d1
        have hD : Below wr.heap.size wr wr.drew := Below.drew (Below.refl _ _)
        have hcm := atomOrder_any xs[p] ys[q] _ _ _ _ bk bm wr.drew (atomK_good.below hel (hb.trans (hD.mono hb.size))) (atomK_good.below hem (hb.trans (hD.mono hb.size)))
        by_cases hc1 : cmpA xs[p] ys[q] < 0
        · have HN := Lib.hid (HM.out.trans (by rw [List.drop_eq_getElem_cons hp1, List.drop_eq_getElem_cons hq1, mergeL_lt hc1]))
          rw [← List.drop_eq_getElem_cons hq1] at HN
          clear h1 h2
          gi_wp2
          rw [wpIn_wide]
          go_region_held3 (fun w' => w'.cell? ⟨B1, 0, none⟩ = some (.slice (some ⟨b, o, none⟩) xs.length cap) ∧ w'.cell? ⟨B1, 1, none⟩ = some (.func (.func 70) #[] #[]) ∧ w'.cell? ⟨B2, 0, none⟩ = some (.slice (some ⟨b', o', none⟩) ys.length cap2) ∧ w'.cell? ⟨b, o + p * 2, none⟩ = some (.string xs[p].name) ∧ w'.cell? ⟨b, o + p * 2 + 1, none⟩ = some (.slice Ae xs[p].args.length ce) ∧ w'.cell? ⟨b', o' + q * 2, none⟩ = some (.string ys[q].name) ∧ w'.cell? ⟨b', o' + q * 2 + 1, none⟩ = some (.slice Af ys[q].args.length cf))
            (first | go_keep | exact ⟨y0, y1, y2, y3, y4, y5, y6⟩)
            (first | (go_at_call 70; refine hcm.mono ?_; rintro e w2 ⟨rfl, hw2⟩; have y0 := cell_later hw2 r1; have y1 := cell_later hw2 r2; have y2 := cell_later hw2 r3; have y3 := cell_later hw2 f0; have y4 := cell_later hw2 f1; have y5 := cell_later hw2 e0; have y6 := cell_later hw2 e1))
          have hD2 := hD.trans hw2
          have HI2 := HI.out.below hD2
          have hJ1 := hJ _ _ _ none hJs (grown_of_below hD2) (fun r e => by cases e)
          clear hcm r1 r2 r3 f0 f1 e0 e1
          obtain ⟨fn, tmps, assign, body, hy, hR⟩ := hY pre ⟨.string xs[p].name, .slice Ae xs[p].args.length ce, xs[p], 0, bk, hel⟩ w2 hJ1 (by rw [HN.out]; simp)
          dsimp only [Itm.enc] at hy
          rw [show ((0 : Nat) : Int) = 0 from rfl] at hy
          gi_wp2
          refine hR.mono ?_
          rintro e W3 (⟨rfl, hJ3, hk3⟩ | ⟨rfl, hJx3⟩)
          · gi_wp2
            go_roundw
            case rel => exact ⟨p + 1, q, pre ++ [⟨.string xs[p].name, .slice Ae xs[p].args.length ce, xs[p], 0, bk, hel⟩], by omega, by omega, by go_num, by go_num, map_snoc pre ⟨.string xs[p].name, .slice Ae xs[p].args.length ce, xs[p], 0, bk, hel⟩ HN.out, hJ3, hKp _ _ hk3 HI2⟩
            case measure => simp [intOf]; omega
          · gi_wp2
            refine bodyPost_ret (results_none rfl _ _ _) rfl ?_
            exact ⟨⟨_, rfl⟩, .inr ⟨pre ++ [⟨.string xs[p].name, .slice Ae xs[p].args.length ce, xs[p], 0, bk, hel⟩], _, (map_snoc pre ⟨.string xs[p].name, .slice Ae xs[p].args.length ce, xs[p], 0, bk, hel⟩ HN.out).symm, hJx3⟩⟩
        · by_cases hc2 : 0 < cmpA xs[p] ys[q]
          · have HN := Lib.hid (HM.out.trans (by rw [List.drop_eq_getElem_cons hp1, List.drop_eq_getElem_cons hq1, mergeL_gt hc2]))
            rw [← List.drop_eq_getElem_cons hp1] at HN
            clear h1 h2
            gi_wp2
            rw [wpIn_wide]
            go_region_held3 (fun w' => w'.cell? ⟨B1, 0, none⟩ = some (.slice (some ⟨b, o, none⟩) xs.length cap) ∧ w'.cell? ⟨B1, 1, none⟩ = some (.func (.func 70) #[] #[]) ∧ w'.cell? ⟨B2, 0, none⟩ = some (.slice (some ⟨b', o', none⟩) ys.length cap2) ∧ w'.cell? ⟨b, o + p * 2, none⟩ = some (.string xs[p].name) ∧ w'.cell? ⟨b, o + p * 2 + 1, none⟩ = some (.slice Ae xs[p].args.length ce) ∧ w'.cell? ⟨b', o' + q * 2, none⟩ = some (.string ys[q].name) ∧ w'.cell? ⟨b', o' + q * 2 + 1, none⟩ = some (.slice Af ys[q].args.length cf))
              (first | go_keep | exact ⟨y0, y1, y2, y3, y4, y5, y6⟩)
              (first | (go_at_call 70; refine hcm.mono ?_; rintro e w2 ⟨rfl, hw2⟩; have y0 := cell_later hw2 r1; have y1 := cell_later hw2 r2; have y2 := cell_later hw2 r3; have y3 := cell_later hw2 f0; have y4 := cell_later hw2 f1; have y5 := cell_later hw2 e0; have y6 := cell_later hw2 e1))
            have hD2 := hD.trans hw2
            have HI2 := HI.out.below hD2
            have hJ1 := hJ _ _ _ none hJs (grown_of_below hD2) (fun r e => by cases e)
            clear hcm r1 r2 r3 f0 f1 e0 e1
            obtain ⟨fn, tmps, assign, body, hy, hR⟩ := hY pre ⟨.string ys[q].name, .slice Af ys[q].args.length cf, ys[q], 1, bm, hem⟩ w2 hJ1 (by rw [HN.out]; simp)
            dsimp only [Itm.enc] at hy
            rw [show ((1 : Nat) : Int) = 1 from rfl] at hy
            gi_wp2
            refine hR.mono ?_
            rintro e W3 (⟨rfl, hJ3, hk3⟩ | ⟨rfl, hJx3⟩)
            · gi_wp2
              go_roundw
              case rel => exact ⟨p, q + 1, pre ++ [⟨.string ys[q].name, .slice Af ys[q].args.length cf, ys[q], 1, bm, hem⟩], by omega, by omega, by go_num, by go_num, map_snoc pre ⟨.string ys[q].name, .slice Af ys[q].args.length cf, ys[q], 1, bm, hem⟩ HN.out, hJ3, hKp _ _ hk3 HI2⟩
              case measure => simp [intOf]; omega
            · gi_wp2
              refine bodyPost_ret (results_none rfl _ _ _) rfl ?_
              exact ⟨⟨_, rfl⟩, .inr ⟨pre ++ [⟨.string ys[q].name, .slice Af ys[q].args.length cf, ys[q], 1, bm, hem⟩], _, (map_snoc pre ⟨.string ys[q].name, .slice Af ys[q].args.length cf, ys[q], 1, bm, hem⟩ HN.out).symm, hJx3⟩⟩
          · have HN := Lib.hid (HM.out.trans (by rw [List.drop_eq_getElem_cons hp1, List.drop_eq_getElem_cons hq1, mergeL_eq hc1 hc2]))
            clear h1 h2
            gi_wp2
            rw [wpIn_wide]
            go_region_held3 (fun w' => w'.cell? ⟨B1, 0, none⟩ = some (.slice (some ⟨b, o, none⟩) xs.length cap) ∧ w'.cell? ⟨B1, 1, none⟩ = some (.func (.func 70) #[] #[]) ∧ w'.cell? ⟨B2, 0, none⟩ = some (.slice (some ⟨b', o', none⟩) ys.length cap2) ∧ w'.cell? ⟨b, o + p * 2, none⟩ = some (.string xs[p].name) ∧ w'.cell? ⟨b, o + p * 2 + 1, none⟩ = some (.slice Ae xs[p].args.length ce) ∧ w'.cell? ⟨b', o' + q * 2, none⟩ = some (.string ys[q].name) ∧ w'.cell? ⟨b', o' + q * 2 + 1, none⟩ = some (.slice Af ys[q].args.length cf))
              (first | go_keep | exact ⟨y0, y1, y2, y3, y4, y5, y6⟩)
              (first | (go_at_call 70; refine hcm.mono ?_; rintro e w2 ⟨rfl, hw2⟩; have y0 := cell_later hw2 r1; have y1 := cell_later hw2 r2; have y2 := cell_later hw2 r3; have y3 := cell_later hw2 f0; have y4 := cell_later hw2 f1; have y5 := cell_later hw2 e0; have y6 := cell_later hw2 e1))
            have hD2 := hD.trans hw2
            have HI2 := HI.out.below hD2
            have hJ1 := hJ _ _ _ none hJs (grown_of_below hD2) (fun r e => by cases e)
            clear hcm r1 r2 r3 f0 f1 e0 e1
            obtain ⟨fn, tmps, assign, body, hy, hR⟩ := hY pre ⟨.string xs[p].name, .slice Ae xs[p].args.length ce, xs[p], 2, bk, hel⟩ w2 hJ1 (by rw [HN.out]; simp)
            dsimp only [Itm.enc] at hy
            rw [show ((2 : Nat) : Int) = 2 from rfl] at hy
            gi_wp2
            refine hR.mono ?_
            rintro e W3 (⟨rfl, hJ3, hk3⟩ | ⟨rfl, hJx3⟩)
            · gi_wp2
              go_roundw
              case rel => exact ⟨p + 1, q + 1, pre ++ [⟨.string xs[p].name, .slice Ae xs[p].args.length ce, xs[p], 2, bk, hel⟩], by omega, by omega, by go_num, by go_num, map_snoc pre ⟨.string xs[p].name, .slice Ae xs[p].args.length ce, xs[p], 2, bk, hel⟩ HN.out, hJ3, hKp _ _ hk3 HI2⟩
              case measure => simp [intOf]; omega
            · gi_wp2
              refine bodyPost_ret (results_none rfl _ _ _) rfl ?_
              exact ⟨⟨_, rfl⟩, .inr ⟨pre ++ [⟨.string xs[p].name, .slice Ae xs[p].args.length ce, xs[p], 2, bk, hel⟩], _, (map_snoc pre ⟨.string xs[p].name, .slice Ae xs[p].args.length ce, xs[p], 2, bk, hel⟩ HN.out).symm, hJx3⟩⟩
      · have hqe : q = ys.length := by omega
        have hqd : ys.drop q = [] := List.drop_of_length_le (Nat.le_of_eq hqe.symm)
        have hqz : (q : Int) = (ys.length : Int) := by omega
        have hqb : ((q : Int) == (ys.length : Int)) = true := beq_iff_eq.2 hqz
        have HN := Lib.hid (HM.out.trans (by rw [hqd, List.drop_eq_getElem_cons hp1, mergeL]))
        have HD := Lib.hid hqd
        have hJ1 := hJs
        clear h1 h2 hqd hqz hqe
        obtain ⟨fn, tmps, assign, body, hy, hR⟩ := hY pre ⟨.string xs[p].name, .slice Ae xs[p].args.length ce, xs[p], 0, bk, hel⟩ wr hJ1 (by rw [HN.out]; simp)
        dsimp only [Itm.enc] at hy
        rw [show ((0 : Nat) : Int) = 0 from rfl] at hy
        gi_wp2
        refine hR.mono ?_
        rintro e W3 (⟨rfl, hJ3, hk3⟩ | ⟨rfl, hJx3⟩)
        · gi_wp2
          go_roundw
          case rel => exact ⟨p + 1, q, pre ++ [⟨.string xs[p].name, .slice Ae xs[p].args.length ce, xs[p], 0, bk, hel⟩], by omega, by omega, by go_num, by go_num, by rw [HD.out]; exact map_snoc pre ⟨.string xs[p].name, .slice Ae xs[p].args.length ce, xs[p], 0, bk, hel⟩ HN.out, hJ3, hKp _ _ hk3 HI.out⟩
          case measure => simp [intOf]; omega
        · gi_wp2
          refine bodyPost_ret (results_none rfl _ _ _) rfl ?_
          exact ⟨⟨_, rfl⟩, .inr ⟨pre ++ [⟨.string xs[p].name, .slice Ae xs[p].args.length ce, xs[p], 0, bk, hel⟩], _, (map_snoc pre ⟨.string xs[p].name, .slice Ae xs[p].args.length ce, xs[p], 0, bk, hel⟩ HN.out).symm, hJx3⟩⟩
    · have hpe : p = xs.length := by omega
      have hpd : xs.drop p = [] := List.drop_of_length_le (Nat.le_of_eq hpe.symm)
      have hpz : (p : Int) = (xs.length : Int) := by omega
      have hpb : ((p : Int) == (xs.length : Int)) = true := beq_iff_eq.2 hpz
      by_cases hq1 : q < ys.length
      · have hq2 : (q : Int) < (ys.length : Int) := by omega
        obtain ⟨b', o', Af, cf, bm, rfl, _, d0, d1, hem, _⟩ := atoms_el h2 hq1
        have e0 := cell_later hb d0
        have e1 := cell_later hb d1
        have HN := Lib.hid (HM.out.trans (by rw [hpd, List.drop_eq_getElem_cons hq1, mergeL]))
        have HD := Lib.hid hpd
        have hJ1 := hJs
        clear h1 h2 hpd hpz hpe
        obtain ⟨fn, tmps, assign, body, hy, hR⟩ := hY pre ⟨.string ys[q].name, .slice Af ys[q].args.length cf, ys[q], 1, bm, hem⟩ wr hJ1 (by rw [HN.out]; simp)
        dsimp only [Itm.enc] at hy
        rw [show ((1 : Nat) : Int) = 1 from rfl] at hy
        gi_wp2
        refine hR.mono ?_
        rintro e W3 (⟨rfl, hJ3, hk3⟩ | ⟨rfl, hJx3⟩)
        · gi_wp2
          go_roundw
          case rel => exact ⟨p, q + 1, pre ++ [⟨.string ys[q].name, .slice Af ys[q].args.length cf, ys[q], 1, bm, hem⟩], by omega, by omega, by go_num, by go_num, by rw [HD.out]; exact map_snoc pre ⟨.string ys[q].name, .slice Af ys[q].args.length cf, ys[q], 1, bm, hem⟩ HN.out, hJ3, hKp _ _ hk3 HI.out⟩
          case measure => simp [intOf]; omega
        · gi_wp2
          refine bodyPost_ret (results_none rfl _ _ _) rfl ?_
          exact ⟨⟨_, rfl⟩, .inr ⟨pre ++ [⟨.string ys[q].name, .slice Af ys[q].args.length cf, ys[q], 1, bm, hem⟩], _, (map_snoc pre ⟨.string ys[q].name, .slice Af ys[q].args.length cf, ys[q], 1, bm, hem⟩ HN.out).symm, hJx3⟩⟩
      · have hqe : q = ys.length := by omega
        have HN := Lib.hid (HM.out.trans (by rw [hpd, List.drop_of_length_le (Nat.le_of_eq hqe.symm), mergeL, List.append_nil]))
        gi_wp2
        go_end0
        exact ⟨⟨_, rfl⟩, .inl ⟨pre, HN.out.symm, hJs⟩⟩

end Go.Proofs.Ytlmimajgifidhaa
