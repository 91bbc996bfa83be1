/- The walks of l3At, l3Has (by gen/mkfind.py). -/
import Derived.Laws.EntriesVeiled
import Derived.Deep.RegionHeld3
import Derived.Deep.RegionWith
import Derived.BigQuiet
import Derived.Deep.DrawnRows
import Derived.WalkKit
import Derived.WalkSpells
import Derived.WalkLawsBesides
import Derived.Lib.Hide
import Derived.Lib.IndexBytes
import Derived.Deep.Slices
import Derived.Deep.Fields
import Derived.ChangeSame
import Derived.Deep.Draws
import Derived.Lib.Bytealg
import Derived.Test.YtlmimajgifidhaaKind
import Derived.Test.YtlmimajgifidhaaCmp
namespace Go.Proofs.Ytlmimajgifidhaa
open Go.RowKit D
set_option linter.unusedVariables false
attribute [local go_sem ↓] Go.wp_at_zero Go.wp_at_succ

set_option maxHeartbeats 2000000 in
theorem l3At_any (xs : List A) (a : A) (v d0 d1 : Value) (bs b2 : List Nat) (w : World) (h : atomsK w [v] xs bs) (h2 : atomK w [d0, d1] a b2) (hs : asc xs = true) :
    Calls Try.prog 64 #[v, .agg #[d0, d1]] w fun e w' => e = .returned (.tuple #[.int .i64 (pl xs a), .bool (hasB xs a)]) ∧ Below w.heap.size w w' := by
  obtain ⟨Ad, cap, rfl, hl, hm⟩ := sliceK_form h
  obtain ⟨Aa, ca, rfl, rfl⟩ := atom_cells2 h2
  have hlm := nat_ge_max (Nat.le_trans hl hm)
  clear hm
  have hA0 : Below w.heap.size w (w.alloc (.cells #[.string a.name, .slice Aa a.args.length ca] 45)) := (Below.refl _ _).alloc (Nat.le_refl _) _
  go_enter Try.func64, Try.ntmps64
  go_wp2
  go_loopw [6] (fun i wr => ∃ k : Nat, k ≤ xs.length ∧ i = .int .i64 k ∧ ltTo xs a k ∧ Below w.heap.size w wr ∧ wr.cell? ⟨w.heap.size, 0, none⟩ = some (.string a.name) ∧ wr.cell? ⟨w.heap.size, 1, none⟩ = some (.slice Aa a.args.length ca) ∧ w.heap.size < wr.heap.size) (fun i _ => xs.length - (intOf i).toNat)
  case atStart => exact ⟨0, Nat.zero_le _, rfl, ltTo_zero _ _, hA0, by go_simp, by go_simp, by simp⟩
  case round =>
    obtain ⟨k, hk, rfl, hall, hb, s0, s1, hgt⟩ := hrel
    have HA := Lib.hid hall
    clear hall hA0
    by_cases hlt : k < xs.length
    · have hk0 : (0 : Int) ≤ (k : Int) := by omega
      have hk1 : (k : Int) < (xs.length : Int) := by omega
      obtain ⟨b, o, Ae, ce, bk, rfl, _, c0, c1, hel, _⟩ := atoms_el (atomsK_good.below h hb) hlt
      have hD : Below wr.heap.size wr wr.drew := Below.drew (Below.refl _ _)
      have hcm := fun w' (hb' : Below wr.heap.size wr w') => l1Cmp_any xs[k] a _ _ _ _ bk b2 w' (atomK_good.below hel hb') (atomK_good.below h2 (hb.trans (hb'.mono hb.size)))
      clear h h2 hel
      by_cases hc : cmpA xs[k] a < 0
      · have HC := Lib.hid (ltTo_step HA.out hlt hc)
        go_wp2
        go_region_held3 (fun w' => w'.cell? ⟨b, o + k * 2, none⟩ = some (.string xs[k].name) ∧ w'.cell? ⟨b, o + k * 2 + 1, none⟩ = some (.slice Ae xs[k].args.length ce) ∧ w'.cell? ⟨w.heap.size, 0, none⟩ = some (.string a.name) ∧ w'.cell? ⟨w.heap.size, 1, none⟩ = some (.slice Aa a.args.length ca))
          (first | go_keep | exact ⟨y0, y1, y2, y3⟩)
          (first | (go_at_call 66; refine (hcm _ hD).mono ?_; rintro e w2 ⟨rfl, hw2⟩; have y0 := cell_later hw2 c0; have y1 := cell_later hw2 c1; have y2 := cell_later hw2 s0; have y3 := cell_later hw2 s1))
        have B2 := hb.trans ((hD.trans hw2).mono hb.size)
        clear hcm
        go_wp2
        go_roundw
        case rel => exact ⟨k + 1, by omega, by go_num, HC.out, B2, y2, y3, Nat.lt_of_lt_of_le hgt (hD.trans hw2).size⟩
        case measure => simp [intOf]; omega
      · have HP := Lib.hid (place_of hs hk HA.out (fun _ => hc))
        have HH := Lib.hid (has_at hs hlt HA.out hc)
        go_wp2
        go_region_held3 (fun w' => w'.cell? ⟨b, o + k * 2, none⟩ = some (.string xs[k].name) ∧ w'.cell? ⟨b, o + k * 2 + 1, none⟩ = some (.slice Ae xs[k].args.length ce) ∧ w'.cell? ⟨w.heap.size, 0, none⟩ = some (.string a.name) ∧ w'.cell? ⟨w.heap.size, 1, none⟩ = some (.slice Aa a.args.length ca))
          (first | go_keep | exact ⟨y0, y1, y2, y3⟩)
          (first | (go_at_call 66; refine (hcm _ hD).mono ?_; rintro e w2 ⟨rfl, hw2⟩; have y0 := cell_later hw2 c0; have y1 := cell_later hw2 c1; have y2 := cell_later hw2 s0; have y3 := cell_later hw2 s1))
        have B2 := hb.trans ((hD.trans hw2).mono hb.size)
        have hE := hD.trans hw2
        have hcm2 := hcm _ (hE.trans ((Below.refl _ _).drew.mono hE.size))
        have hD2 : Below w2.heap.size w2 w2.drew := Below.drew (Below.refl _ _)
        clear hcm
        go_wp2
        go_region_held3 (fun w' => w'.cell? ⟨b, o + k * 2, none⟩ = some (.string xs[k].name) ∧ w'.cell? ⟨b, o + k * 2 + 1, none⟩ = some (.slice Ae xs[k].args.length ce) ∧ w'.cell? ⟨w.heap.size, 0, none⟩ = some (.string a.name) ∧ w'.cell? ⟨w.heap.size, 1, none⟩ = some (.slice Aa a.args.length ca))
          (first | go_keep | exact ⟨z0, z1, z2, z3⟩)
          (first | (go_at_call 66; refine (hcm2).mono ?_; rintro e w3 ⟨rfl, hw3⟩; have z0 := cell_later hw3 y0; have z1 := cell_later hw3 y1; have z2 := cell_later hw3 y2; have z3 := cell_later hw3 y3))
        have B3 := B2.trans ((hD2.trans hw3).mono B2.size)
        go_wp2
        go_ret2
        exact ⟨by rw [← HP.out, HH.out]; rfl, B3⟩
    · have he := Lib.hid (show k = xs.length by omega)
      have hk1 : decide ((k : Int) < (xs.length : Int)) = false := decide_eq_false (by omega)
      go_wp2
      go_quiet (fail)
      go_wp2
      go_quiet (fail)
      go_wp2
      go_ret2
      have hA := HA.out
      refine ⟨?_, below_drewN (below_drewN hb _) _⟩
      rw [← place_of hs hk hA (fun h => absurd h hlt), has_end (by rw [← he.out]; exact hA)]
      rfl

end Go.Proofs.Ytlmimajgifidhaa
