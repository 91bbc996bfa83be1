/- The walks of BinarySearchFunc, find, has (by gen/mkbin.py). -/
import Derived.Laws.EntriesVeiled
import Derived.Deep.RegionHeld3
import Derived.Deep.RegionWith
import Derived.BigQuiet
import Derived.Deep.DrawnRows
import Derived.WalkKit
import Derived.WalkSpells
import Derived.WalkLawsBesides
import Derived.Lib.Hide
import Derived.Lib.IndexBytes
import Derived.Deep.Slices
import Derived.Deep.Fields
import Derived.ChangeSame
import Derived.Deep.Draws
import Derived.Lib.Bytealg
import Derived.Test.YtbppnelbjklpeaaFp
import Derived.Test.YtbppnelbjklpeaaFact
import Derived.Test.YtbppnelbjklpeaaFacts2
namespace Go.Proofs.Ytbppnelbjklpeaa
open Go.RowKit D
set_option linter.unusedVariables false
attribute [local go_sem ↓] Go.wp_at_zero Go.wp_at_succ

theorem D.ltTo_sorted {xs : List A} {a : A} {m : Nat} (hs : asc xs = true) (hm : m < xs.length) (h : cmpA xs[m] a < 0) : ltTo xs a (m + 1) := fun j hj hjm => by
  by_cases e : j = m
  · subst e; exact h
  · exact cmpA_lt_le (asc_lt hs hm (by omega)) (by omega)

set_option maxHeartbeats 2000000 in
theorem search_any (xs : List A) (a : A) (v d0 d1 : Value) (bs b2 : List Nat) (w : World) (h : atomsK w [v] xs bs) (h2 : atomK w [d0, d1] a b2) (hs : asc xs = true) (hn : xs.length ≤ 16777216) :
    Calls Try.prog 96 #[v, .agg #[d0, d1], .func (.func 41) #[] #[]] w fun e w' => e = .returned (.tuple #[.int .i64 (pl xs a), .bool (hasB xs a)]) ∧ Below w.heap.size w w' := by
  obtain ⟨Ad, cap, rfl, hl, hm⟩ := sliceK_form h
  obtain ⟨Aa, ca, rfl, rfl⟩ := atom_cells2 h2
  clear hm
  have hA0 : Below w.heap.size w (w.alloc (.cells #[.string a.name, .slice Aa a.args.length ca] 25)) := (Below.refl _ _).alloc (Nat.le_refl _) _
  go_enter Try.func96, Try.ntmps96
  go_wp2
  go_loopw [9, 10] (fun i j wr => ∃ k n : Nat, k ≤ n ∧ n ≤ xs.length ∧ i = .int .i64 k ∧ j = .int .i64 n ∧ ltTo xs a k ∧ (∀ h : n < xs.length, ¬ cmpA xs[n] a < 0) ∧ Below w.heap.size w wr ∧ wr.cell? ⟨w.heap.size, 0, none⟩ = some (.string a.name) ∧ wr.cell? ⟨w.heap.size, 1, none⟩ = some (.slice Aa a.args.length ca) ∧ w.heap.size < wr.heap.size) (fun i j _ => (intOf j).toNat - (intOf i).toNat)
  case atStart => exact ⟨0, xs.length, Nat.zero_le _, Nat.le_refl _, rfl, rfl, ltTo_zero _ _, fun h => absurd h (Nat.lt_irrefl _), hA0, by go_simp, by go_simp, by simp⟩
  case round =>
    obtain ⟨k, n, hk, hkn, rfl, rfl, hall, hge, hb, s0, s1, hgt⟩ := hrel
    have HA := Lib.hid hall
    have HG := Lib.hid hge
    clear hall hge hA0
    have hD : Below wr.heap.size wr wr.drew := Below.drew (Below.refl _ _)
    by_cases hlt : k < n
    · obtain ⟨m, hm⟩ : ∃ m, m = (k + n) / 2 := ⟨_, rfl⟩
      have hm1 : k ≤ m := by omega
      have hm2 : m < n := by omega
      have hm3 : m < xs.length := by omega
      have hq : ((k : Int) + (n : Int)) / 2 = (m : Int) := by omega
      have hk0 : (0 : Int) ≤ (m : Int) := by omega
      have hk1 : (m : Int) < (xs.length : Int) := by omega
      clear hm
      obtain ⟨b, o, Ae, ce, bk, rfl, _, c0, c1, hel, _⟩ := atoms_el (atomsK_good.below h hb) hm3
      have hcm := atomOrder_any xs[m] a _ _ _ _ bk b2 _ (atomK_good.below hel hD) (atomK_good.below h2 (hb.trans (hD.mono hb.size)))
      clear h h2 hel
      by_cases hc : cmpA xs[m] a < 0
      · have HC := Lib.hid (ltTo_sorted hs hm3 hc)
        go_wp2
        go_region_held3 (fun w' => w'.cell? ⟨b, o + m * 2, none⟩ = some (.string xs[m].name) ∧ w'.cell? ⟨b, o + m * 2 + 1, none⟩ = some (.slice Ae xs[m].args.length ce) ∧ w'.cell? ⟨w.heap.size, 0, none⟩ = some (.string a.name) ∧ w'.cell? ⟨w.heap.size, 1, none⟩ = some (.slice Aa a.args.length ca))
          (first | go_keep | exact ⟨y0, y1, y2, y3⟩)
          (first | (go_at_call 41; refine (hcm).mono ?_; rintro e w2 ⟨rfl, hw2⟩; have y0 := cell_later hw2 c0; have y1 := cell_later hw2 c1; have y2 := cell_later hw2 s0; have y3 := cell_later hw2 s1))
        have B2 := hb.trans ((hD.trans hw2).mono hb.size)
        clear hcm
        go_wp2
        go_roundw
        case rel => exact ⟨m + 1, n, by omega, hkn, by go_num, rfl, HC.out, (fun h => Int.not_lt.2 (HG.out h)), B2, y2, y3, Nat.lt_of_lt_of_le hgt (hD.trans hw2).size⟩
        case measure => simp [intOf]; omega
      · have HC : Hid (∀ h : m < xs.length, ¬ cmpA xs[m] a < 0) := Lib.hid (fun _ => hc)
        go_wp2
        go_region_held3 (fun w' => w'.cell? ⟨b, o + m * 2, none⟩ = some (.string xs[m].name) ∧ w'.cell? ⟨b, o + m * 2 + 1, none⟩ = some (.slice Ae xs[m].args.length ce) ∧ w'.cell? ⟨w.heap.size, 0, none⟩ = some (.string a.name) ∧ w'.cell? ⟨w.heap.size, 1, none⟩ = some (.slice Aa a.args.length ca))
          (first | go_keep | exact ⟨y0, y1, y2, y3⟩)
          (first | (go_at_call 41; refine (hcm).mono ?_; rintro e w2 ⟨rfl, hw2⟩; have y0 := cell_later hw2 c0; have y1 := cell_later hw2 c1; have y2 := cell_later hw2 s0; have y3 := cell_later hw2 s1))
        have B2 := hb.trans ((hD.trans hw2).mono hb.size)
        clear hcm
        go_wp2
        go_roundw
        case rel => exact ⟨k, m, hm1, by omega, rfl, rfl, HA.out, (fun h => Int.not_lt.2 (HC.out h)), B2, y2, y3, Nat.lt_of_lt_of_le hgt (hD.trans hw2).size⟩
        case measure => simp [intOf]; omega
    · obtain ⟨j, hj⟩ : ∃ j, j = n := ⟨_, rfl⟩
      obtain rfl : k = n := by omega
      have HP := Lib.hid (place_of hs hkn HA.out HG.out)
      by_cases hlt2 : k < xs.length
      · have hk0 : (0 : Int) ≤ (k : Int) := by omega
        have hk1 : (k : Int) < (xs.length : Int) := by omega
        have HH := Lib.hid (has_at hs hlt2 HA.out (HG.out hlt2))
        obtain ⟨b, o, Ae, ce, bk, rfl, _, c0, c1, hel, _⟩ := atoms_el (atomsK_good.below h hb) hlt2
        have hcm := atomOrder_any xs[k] a _ _ _ _ bk b2 _ (atomK_good.below hel hD) (atomK_good.below h2 (hb.trans (hD.mono hb.size)))
        clear h h2 hel hj hk hlt
        go_wp2
        go_region_held3 (fun w' => w'.cell? ⟨b, o + k * 2, none⟩ = some (.string xs[k].name) ∧ w'.cell? ⟨b, o + k * 2 + 1, none⟩ = some (.slice Ae xs[k].args.length ce) ∧ w'.cell? ⟨w.heap.size, 0, none⟩ = some (.string a.name) ∧ w'.cell? ⟨w.heap.size, 1, none⟩ = some (.slice Aa a.args.length ca))
          (first | go_keep | exact ⟨y0, y1, y2, y3⟩)
          (first | (go_at_call 41; refine (hcm).mono ?_; rintro e w2 ⟨rfl, hw2⟩; have y0 := cell_later hw2 c0; have y1 := cell_later hw2 c1; have y2 := cell_later hw2 s0; have y3 := cell_later hw2 s1))
        have B2 := hb.trans ((hD.trans hw2).mono hb.size)
        go_wp2
        go_ret2
        exact ⟨by rw [← HP.out, HH.out]; rfl, B2⟩
      · have he := Lib.hid (show k = xs.length by omega)
        have hk1 : decide ((k : Int) < (xs.length : Int)) = false := decide_eq_false (by omega)
        clear h h2 hj hk hlt
        go_wp2
        go_quiet (fail)
        go_wp2
        go_ret2
        have hA := HA.out
        refine ⟨?_, below_drewN hb _⟩
        rw [← HP.out, has_end (by rw [← he.out]; exact hA)]
        rfl

set_option maxHeartbeats 400000 in
theorem find_any (xs : List A) (a : A) (v d0 d1 : Value) (bs b2 : List Nat) (w : World) (h : atomsK w [v] xs bs) (h2 : atomK w [d0, d1] a b2) (hs : asc xs = true) (hn : xs.length ≤ 16777216) :
    Calls Try.prog 81 #[.agg #[v, .func (.func 41) #[] #[]], .agg #[d0, d1]] w fun e w' => e = .returned (.tuple #[.int .i64 (pl xs a), .bool (hasB xs a)]) ∧ Below w.heap.size w w' := by
  obtain ⟨Ad, cap, rfl, hl, hm⟩ := sliceK_form h
  obtain ⟨Aa, ca, rfl, rfl⟩ := atom_cells2 h2
  have hA0 : Below w.heap.size w ((w.alloc (.cells #[.slice Ad xs.length cap, .func (.func 41) #[] #[]] 72)).alloc (.cells #[.string a.name, .slice Aa a.args.length ca] 25)) := ((Below.refl _ _).alloc (Nat.le_refl _) _).alloc (by simp) _
  have hk := search_any xs a _ _ _ bs b2 _ (atomsK_good.below h hA0) (atomK_good.below h2 hA0) hs hn
  clear h h2 hm
  go_enter Try.func81, Try.ntmps81
  go_wp2_with fail
  refine hk.mono ?_
  rintro e w1 ⟨rfl, hb1⟩
  go_wp2
  go_ret2
  exact ⟨rfl, hA0.trans (hb1.mono hA0.size)⟩

set_option maxHeartbeats 1000000 in
theorem has_any (xs : List A) (a : A) (v d0 d1 : Value) (bs b2 : List Nat) (w : World) (h : atomsK w [v] xs bs) (h2 : atomK w [d0, d1] a b2) (hs : asc xs = true) (hn : xs.length ≤ 16777216) :
    Calls Try.prog 48 #[v, .agg #[d0, d1]] w fun e w' => e = .returned (.bool (hasB xs a && isFactB a)) ∧ Below w.heap.size w w' := by
  obtain ⟨Ad, cap, rfl, hl, hm⟩ := sliceK_form h
  obtain ⟨Aa, ca, rfl, rfl⟩ := atom_cells2 h2
  have hA0 : Below w.heap.size w (w.alloc (.cells #[.string a.name, .slice Aa a.args.length ca] 25)) := (Below.refl _ _).alloc (Nat.le_refl _) _
  have k1 := sortedFacts_any Ad xs.length cap (w.alloc (.cells #[.string a.name, .slice Aa a.args.length ca] 25)).drew
  have k2 := fun w' (hb : Below w.heap.size w w') => find_any xs a _ _ _ bs b2 w' (atomsK_good.below h hb) (atomK_good.below h2 hb) hs hn
  have k3 := fun w' (hb : Below w.heap.size w w') => isFact_any a _ _ b2 w' (atomK_good.below h2 hb)
  generalize isFactB a = x at *
  generalize hasB xs a = y at *
  clear h h2 hm
  have c0 : (w.alloc (.cells #[.string a.name, .slice Aa a.args.length ca] 25)).cell? ⟨w.heap.size, 0, none⟩ = some (.string a.name) := by go_simp
  have c1 : (w.alloc (.cells #[.string a.name, .slice Aa a.args.length ca] 25)).cell? ⟨w.heap.size, 1, none⟩ = some (.slice Aa a.args.length ca) := by go_simp
  have hgt : w.heap.size < (w.alloc (.cells #[.string a.name, .slice Aa a.args.length ca] 25)).heap.size := by simp
  go_enter Try.func48, Try.ntmps48
  go_wp2
  generalize w.alloc (.cells #[.string a.name, .slice Aa a.args.length ca] 25) = wa at *
  go_region_held3 (fun w' => w'.cell? ⟨w.heap.size, 0, none⟩ = some (.string a.name) ∧ w'.cell? ⟨w.heap.size, 1, none⟩ = some (.slice Aa a.args.length ca))
    (first | go_keep | exact ⟨x0, x1⟩ | exact ⟨y0, y1⟩)
    (first
      | (go_at_call 55; refine k1.mono ?_; rintro e w1 ⟨rfl, hb1⟩; have x0 := cell_later hb1 c0; have x1 := cell_later hb1 c1; have B1 := hA0.drew.trans (hb1.mono hA0.size))
      | (go_at_call 81; refine (k2 _ B1).mono ?_; rintro e w2 ⟨rfl, hb2⟩; have y0 := cell_later hb2 x0; have y1 := cell_later hb2 x1; have B2 := B1.trans (hb2.mono B1.size)))
  clear k1 k2 x0 x1 c0 c1
  cases y
  · go_wp2
    go_ret
    exact ⟨ret_bool (by simp), B2⟩
  · go_wp2_with fail
    refine (k3 _ B2).mono ?_
    rintro e w3 ⟨rfl, hb3⟩
    go_wp2
    go_ret
    exact ⟨ret_bool (by simp), B2.trans (hb3.mono B2.size)⟩

end Go.Proofs.Ytbppnelbjklpeaa
