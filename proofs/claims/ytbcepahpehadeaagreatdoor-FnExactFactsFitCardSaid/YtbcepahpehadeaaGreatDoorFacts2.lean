/- The walks of both FactsOk: the sorted list's ascends. -/
import Derived.Laws.EntriesVeiled
import Derived.Deep.RegionHeld3
import Derived.Deep.RegionWith
import Derived.BigQuiet
import Derived.Deep.DrawnRows
import Derived.WalkKit
import Derived.WalkSpells
import Derived.WalkLawsBesides
import Derived.Lib.Hide
import Derived.Lib.IndexBytes
import Derived.Deep.Slices
import Derived.Deep.Fields
import Derived.ChangeSame
import Derived.Deep.Draws
import Derived.Lib.Bytealg
import Derived.Test.YtbcepahpehadeaaGreatDoorKind
import Derived.Test.YtbcepahpehadeaaGreatDoorCmp
namespace Go.Proofs.YtbcepahpehadeaaGreatDoor
open Go.RowKit D
set_option linter.unusedVariables false
attribute [local go_sem ↓] Go.wp_at_zero Go.wp_at_succ

set_option maxHeartbeats 400000 in
theorem sortedFacts_any (Ad : Option Addr) (n cap : Nat) (w : World) :
    Calls Tryz.prog 63 #[.slice Ad n cap] w fun e w' => e = .returned (.agg #[.slice Ad n cap, .func (.func 90) #[] #[]]) ∧ Below w.heap.size w w' := by
  go_enter Tryz.func63, Tryz.ntmps63
  go_wp2
  exact bodyPost_ret (v := .agg #[.slice Ad n cap, .func (.func 90) #[] #[]]) (by simp [results, Tryz.results63, go_sem]) rfl ⟨rfl, by repeat (first | exact Below.refl _ _ | (refine Below.setCell ?_ (by first | (simp; done) | (simp; omega)) _) | (refine Below.alloc ?_ (by first | (simp; done) | (simp; omega)) _))⟩

set_option maxHeartbeats 1000000 in
theorem ascends_any (xs : List A) (v : Value) (bs : List Nat) (w : World) (h : atomsK w [v] xs bs) :
    Calls Tryz.prog 64 #[.agg #[v, .func (.func 90) #[] #[]]] w fun e w' => e = .returned (.bool (asc xs)) ∧ Below w.heap.size w w' := by
  obtain ⟨Ad, cap, rfl, hl, hm⟩ := sliceK_form h
  have hlm := nat_ge_max (Nat.le_trans hl hm)
  clear hm
  have hA0 : Below w.heap.size w (w.alloc (.cells #[.slice Ad xs.length cap, .func (.func 90) #[] #[]] 92)) := (Below.refl _ _).alloc (Nat.le_refl _) _
  go_enter Tryz.func64, Tryz.ntmps64
  go_wp2
  go_loopw [3] (fun i wr => ∃ k : Nat, 0 < k ∧ (k ≤ xs.length ∨ k = 1) ∧ i = .int .i64 k ∧ ascTo xs k ∧ Below w.heap.size w wr ∧ wr.cell? ⟨w.heap.size, 0, none⟩ = some (.slice Ad xs.length cap) ∧ wr.cell? ⟨w.heap.size, 1, none⟩ = some (.func (.func 90) #[] #[]) ∧ w.heap.size < wr.heap.size) (fun i _ => xs.length + 1 - (intOf i).toNat)
  case atStart => exact ⟨1, Nat.one_pos, .inr rfl, rfl, ascTo_one _, hA0, by go_simp, by go_simp, by simp⟩
  case round =>
    obtain ⟨k, hp0, hk, rfl, hall, hb, s0, s1, hgt⟩ := hrel
    have HA := Lib.hid hall
    have HK := Lib.hid hk
    clear hall hA0 hk
    by_cases hlt : k < xs.length
    · have hk0 : (0 : Int) ≤ (k : Int) := by omega
      have hk1 : (k : Int) < (xs.length : Int) := by omega
      obtain ⟨j, hkj⟩ : ∃ j, k = j + 1 := ⟨k - 1, by omega⟩
      have hlj : j < xs.length := by omega
      have HS : Hid (cmpA xs[j] xs[k] < 0 → ascTo xs (k + 1)) := by subst hkj; exact Lib.hid (fun hc => ascTo_step (xs := xs) (k := j) HA.out hlt hc)
      have HB : Hid (¬ cmpA xs[j] xs[k] < 0 → asc xs = false) := by subst hkj; exact Lib.hid (fun hc => asc_bad xs j hlt hc)
      have hw1 : IntKind.i64.wrap ((k : Int) - 1) = (j : Int) := (IntWalk.i64_in _ ⟨by omega, by omega⟩).trans (by omega)
      have hK := Lib.hid hkj
      have hx1 : (0 : Int) ≤ (j : Int) := by omega
      have hx2 : (j : Int) < (xs.length : Int) := by omega
      clear HA hkj
      obtain ⟨b, o, Ae, ce, bk, Af, cf, bm, rfl, c0, c1, hel, d0, d1, hem⟩ := atoms_two (atomsK_good.below h hb) hlj hlt
      have hD : Below wr.heap.size wr wr.drew := Below.drew (Below.refl _ _)
      have hcm := atomOrder_any xs[j] xs[k] _ _ _ _ bk bm wr.drew (atomK_good.below hel hD) (atomK_good.below hem hD)
      clear h hel hem
      by_cases hc : cmpA xs[j] xs[k] < 0
      · have hc' : ¬ 0 ≤ cmpA xs[j] xs[k] := by omega
        have HC := Lib.hid (HS.out hc)
        clear hc
        go_wp2
        go_region_held3 (fun w' => w'.cell? ⟨b, o + j * 2, none⟩ = some (.string xs[j].name) ∧ w'.cell? ⟨b, o + j * 2 + 1, none⟩ = some (.slice Ae xs[j].args.length ce) ∧ w'.cell? ⟨b, o + k * 2, none⟩ = some (.string xs[k].name) ∧ w'.cell? ⟨b, o + k * 2 + 1, none⟩ = some (.slice Af xs[k].args.length cf) ∧ w'.cell? ⟨w.heap.size, 0, none⟩ = some (.slice (some ⟨b, o, none⟩) xs.length cap) ∧ w'.cell? ⟨w.heap.size, 1, none⟩ = some (.func (.func 90) #[] #[]))
          (first | go_keep | exact ⟨y0, y1, y2, y3, y4, y5⟩)
          (first
            | (go_at_call 90; refine hcm.mono ?_; rintro e w2 ⟨rfl, hb2⟩; have y0 := cell_later hb2 c0; have y1 := cell_later hb2 c1; have y2 := cell_later hb2 d0; have y3 := cell_later hb2 d1; have y4 := cell_later hb2 s0; have y5 := cell_later hb2 s1; have B2 := hD.trans hb2))
        go_wp2
        go_roundw
        case rel => exact ⟨k + 1, Nat.succ_pos _, .inl (by omega), by go_num, HC.out, hb.trans (B2.mono hb.size), y4, y5, Nat.lt_of_lt_of_le hgt B2.size⟩
        case measure => simp [intOf]; omega
      · have hc' : 0 ≤ cmpA xs[j] xs[k] := by omega
        have HC := Lib.hid (HB.out hc)
        clear hc
        go_wp2
        go_region_held3 (fun w' => w'.cell? ⟨b, o + j * 2, none⟩ = some (.string xs[j].name) ∧ w'.cell? ⟨b, o + j * 2 + 1, none⟩ = some (.slice Ae xs[j].args.length ce) ∧ w'.cell? ⟨b, o + k * 2, none⟩ = some (.string xs[k].name) ∧ w'.cell? ⟨b, o + k * 2 + 1, none⟩ = some (.slice Af xs[k].args.length cf) ∧ w'.cell? ⟨w.heap.size, 0, none⟩ = some (.slice (some ⟨b, o, none⟩) xs.length cap) ∧ w'.cell? ⟨w.heap.size, 1, none⟩ = some (.func (.func 90) #[] #[]))
          (first | go_keep | exact ⟨y0, y1, y2, y3, y4, y5⟩)
          (first
            | (go_at_call 90; refine hcm.mono ?_; rintro e w2 ⟨rfl, hb2⟩; have y0 := cell_later hb2 c0; have y1 := cell_later hb2 c1; have y2 := cell_later hb2 d0; have y3 := cell_later hb2 d1; have y4 := cell_later hb2 s0; have y5 := cell_later hb2 s1; have B2 := hD.trans hb2))
        go_wp2
        go_ret
        exact ⟨ret_bool HC.out.symm, hb.trans (B2.mono hb.size)⟩
    · have HE : Hid (asc xs = true) := Lib.hid (asc_end fun j hj hjk => HA.out j hj (by have := HK.out; omega))
      go_wp2
      go_ret
      exact ⟨ret_bool HE.out.symm, hb⟩

end Go.Proofs.YtbcepahpehadeaaGreatDoor
