/- The walk of the reference's ChangeOk. -/
import Derived.Laws.EntriesVeiled
import Derived.Deep.RegionHeld3
import Derived.Deep.RegionWith
import Derived.BigQuiet
import Derived.Deep.DrawnRows
import Derived.WalkKit
import Derived.WalkSpells
import Derived.WalkLawsBesides
import Derived.Lib.Hide
import Derived.Lib.IndexBytes
import Derived.Deep.Slices
import Derived.Deep.Fields
import Derived.ChangeSame
import Derived.Deep.Draws
import Derived.Lib.Bytealg
import Derived.Test.YtlmimajgifidhaaKind
import Derived.Test.YtlmimajgifidhaaAt
import Derived.Test.YtlmimajgifidhaaAtH
import Derived.Test.YtlmimajgifidhaaFacts3
namespace Go.Proofs.Ytlmimajgifidhaa
open Go.RowKit D
set_option linter.unusedVariables false
attribute [local go_sem ↓] Go.wp_at_zero Go.wp_at_succ


set_option maxHeartbeats 2000000 in
theorem changeOk_spec (c : Ch) (c0 c1 : Value) (bs : List Nat) (w : World) (h : changeK w [c0, c1] c bs) :
    Calls Try.prog 18 #[.agg #[c0, c1]] w fun e w' => e = .returned (.bool (changeOk c)) ∧ Below w.heap.size w w' := by
  obtain ⟨Ad, cap, Ae, cape, rfl, rfl⟩ := change_cells2 h
  obtain ⟨b1, b2, rfl, ht, hp⟩ := change_parts h
  obtain ⟨_, _, hv1, hl, hm⟩ := sliceK_form ht
  have hlm := nat_ge_max (Nat.le_trans hl hm)
  have k1 := fun w' (hb : Below w.heap.size w w') => factsOk_spec c.comes _ b1 w' (atomsK_good.below ht hb)
  have k2 := fun w' (hb : Below w.heap.size w w') => factsOk_spec c.goes _ b2 w' (atomsK_good.below hp hb)
  have HE : Hid (changeOk c = (factsOk c.comes && factsOk c.goes && !meets c.comes c.goes)) := Lib.hid rfl
  have hs2 := fun (hf : factsOk c.goes = true) => factsOk_asc hf
  generalize factsOk c.comes = x at *
  generalize factsOk c.goes = y at *
  clear h hv1 hl hm
  have hA := (Below.refl w.heap.size w).alloc (Nat.le_refl _) (.cells #[.slice Ad c.comes.length cap, .slice Ae c.goes.length cape] 28)
  go_enter Try.func18, Try.ntmps18
  go_wp2_with fail
  refine (k1 _ hA).mono ?_
  rintro e w1 ⟨rfl, hb1⟩
  have B1 := hA.trans (hb1.mono hA.size)
  have x0 : w1.cell? ⟨w.heap.size, 0, none⟩ = some (.slice Ad c.comes.length cap) := cell_later hb1 (by go_simp)
  have x1 : w1.cell? ⟨w.heap.size, 1, none⟩ = some (.slice Ae c.goes.length cape) := cell_later hb1 (by go_simp)
  clear k1 hA
  cases x
  · clear hs2
    go_wp2
    go_ret
    exact ⟨ret_bool (by rw [HE.out]; rfl), B1⟩
  · go_wp2_with fail
    refine (k2 _ B1).mono ?_
    rintro e w2 ⟨rfl, hb2⟩
    have B2 := B1.trans (hb2.mono B1.size)
    have y0 := cell_later hb2 x0
    have y1 := cell_later hb2 x1
    clear k2 x0 x1
    cases y
    · clear hs2
      go_wp2
      go_ret
      exact ⟨ret_bool (by rw [HE.out]; rfl), B2⟩
    · have hs := hs2 rfl
      have HS := Lib.hid hs
      clear hs2
      go_wp2
      go_loopw [3] (fun i wr => ∃ k : Nat, k ≤ c.comes.length ∧ i = .int .i64 k ∧ meets (c.comes.take k) c.goes = false ∧ Below w.heap.size w wr ∧ wr.cell? ⟨w.heap.size, 0, none⟩ = some (.slice Ad c.comes.length cap) ∧ wr.cell? ⟨w.heap.size, 1, none⟩ = some (.slice Ae c.goes.length cape) ∧ w.heap.size < wr.heap.size) (fun i _ => c.comes.length - (intOf i).toNat)
      case atStart => exact ⟨0, Nat.zero_le _, rfl, rfl, B2, y0, y1, lt_of_cell y0⟩
      case round =>
        obtain ⟨k, hk, rfl, hall, hb, s0, s1, hgt⟩ := hrel
        have HA := Lib.hid hall
        clear hall y0 y1 B2 hb2 B1 hb1
        by_cases hlt : k < c.comes.length
        · have hk0 : (0 : Int) ≤ (k : Int) := by omega
          have hk1 : (k : Int) < (c.comes.length : Int) := by omega
          obtain ⟨b, o, Af, ce, bk, rfl, _, c0, c1, hel, _⟩ := atoms_el (atomsK_good.below ht hb) hlt
          have hD : Below wr.heap.size wr wr.drew := Below.drew (Below.refl _ _)
          have hcm := l3Has_any c.goes c.comes[k] _ _ _ b2 bk wr.drew (atomsK_good.below hp (hb.trans (hD.mono hb.size))) (atomK_good.below hel hD) HS.out
          have HM := Lib.hid (meets_snoc (ys := c.goes) hlt)
          have HB := Lib.hid (fun hf => meets_bad (ys := c.goes) hlt hf)
          generalize hasB c.goes c.comes[k] = z at *
          clear ht hp hel hs
          cases z
          all_goals
            go_wp2
            go_region_held3 (fun w' => w'.cell? ⟨w.heap.size, 0, none⟩ = some (.slice (some ⟨b, o, none⟩) c.comes.length cap) ∧ w'.cell? ⟨w.heap.size, 1, none⟩ = some (.slice Ae c.goes.length cape) ∧ w'.cell? ⟨b, o + k * 2, none⟩ = some (.string c.comes[k].name) ∧ w'.cell? ⟨b, o + k * 2 + 1, none⟩ = some (.slice Af c.comes[k].args.length ce))
              (first | go_keep | exact ⟨z0, z1, z2, z3⟩)
              (first | (go_at_call 42; refine hcm.mono ?_; rintro e w3 ⟨rfl, hw3⟩; have z0 := cell_later hw3 s0; have z1 := cell_later hw3 s1; have z2 := cell_later hw3 c0; have z3 := cell_later hw3 c1))
            have B3 := hb.trans ((hD.trans hw3).mono hb.size)
            clear hcm
            go_wp2
          · go_roundw
            case rel => exact ⟨k + 1, by omega, by go_num, by rw [HM.out, HA.out]; rfl, B3, z0, z1, Nat.lt_of_lt_of_le hgt (hD.trans hw3).size⟩
            case measure => simp [intOf]; omega
          · go_ret
            exact ⟨ret_bool (by rw [HE.out, HB.out (by simp)]; rfl), B3⟩
        · have he := Lib.hid (show k = c.comes.length by omega)
          clear ht hp hs
          go_wp2
          go_ret
          exact ⟨ret_bool (by have := HA.out; rw [he.out, List.take_of_length_le (Nat.le_refl _)] at this; rw [HE.out, this]; rfl), hb⟩

end Go.Proofs.Ytlmimajgifidhaa
