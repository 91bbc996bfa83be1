/- Facts: what is one, what is a list of facts in order: plain facts; the walks of isFact, l3Ground. -/
import Derived.Deep.RegionHeld3
import Derived.Deep.RegionWith
import Derived.BigQuiet
import Derived.Deep.DrawnRows
import Derived.WalkKit
import Derived.WalkSpells
import Derived.WalkLawsBesides
import Derived.Lib.Hide
import Derived.Lib.IndexBytes
import Derived.Deep.Slices
import Derived.Deep.Fields
import Derived.ChangeSame
import Derived.Deep.Draws
import Derived.Lib.Bytealg
import Derived.Test.YtbcepahpehadeaaGreatDoorKind
import Derived.Test.YtbcepahpehadeaaGreatDoorAtom
namespace Go.Proofs.YtbcepahpehadeaaGreatDoor
open Go.RowKit D
set_option linter.unusedVariables false
attribute [local go_sem ↓] Go.wp_at_zero Go.wp_at_succ


set_option maxHeartbeats 400000 in
theorem isVar_any (t : T) (w : World) :
    Calls Tryz.prog 89 #[.agg #[.bool t.var, .string t.name]] w fun e w' => e = .returned (.bool t.var) ∧ Below w.heap.size w w' := by
  go_enter Tryz.func89, Tryz.ntmps89
  go_wp2
  go_ret
  exact ⟨rfl, (Below.refl _ _).alloc (Nat.le_refl _) _⟩

def Found (b : Bool) (w : World) (e : Ending) (w' : World) : Prop := (∃ z : Int, e = .returned (.int .i64 z) ∧ decide (0 ≤ z) = b) ∧ Below w.heap.size w w'

set_option maxHeartbeats 400000 in
theorem indexVar_any (ts : List T) (v : Value) (bs : List Nat) (w : World) (h : termsK w [v] ts bs) :
    Calls Tryz.prog 111 #[v, .func (.func 89) #[] #[]] w (Found (anyVar ts) w) := by
  obtain ⟨Ad, cap, rfl, hl, hm⟩ := sliceK_form h
  have hlm := nat_ge_max (Nat.le_trans hl hm)
  clear hm
  go_enter Tryz.func111, Tryz.ntmps111
  go_wp2
  go_loopw [8] (fun i wr => ∃ k : Nat, k ≤ ts.length ∧ i = .int .i64 k ∧ anyVar (ts.take k) = false ∧ Below w.heap.size w wr) (fun i _ => ts.length - (intOf i).toNat)
  case atStart => exact ⟨0, Nat.zero_le _, rfl, rfl, Below.refl _ _⟩
  case round =>
    obtain ⟨k, hk, rfl, hall, hb⟩ := hrel
    have HA := Lib.hid hall
    clear hall
    by_cases hlt : k < ts.length
    · obtain ⟨b, o, rfl, _, c0, c1, _⟩ := terms_at (termsK_good.below h hb) hlt
      clear h
      go_wp2_with fail
      refine (isVar_any ts[k] _).mono ?_
      rintro e w' ⟨rfl, hb'⟩
      have B' := hb.trans (hb'.mono hb.size)
      cases hv : ts[k].var
      · have HV := Lib.hid hv
        go_wp2
        go_roundw
        case rel => exact ⟨k + 1, by omega, by go_num, by rw [anyVar_snoc ts k hlt, HA.out, HV.out]; rfl, B'⟩
        case measure => simp [intOf]; omega
      · have HV := Lib.hid (anyVar_bad ts k hlt hv)
        go_wp2
        go_ret
        exact ⟨⟨_, rfl, by rw [HV.out]; simp⟩, B'⟩
    · have he := Lib.hid (show k = ts.length by omega)
      go_wp2
      go_ret
      exact ⟨⟨_, rfl, by have := HA.out; rw [he.out, List.take_of_length_le (Nat.le_refl _)] at this; rw [this]; rfl⟩, hb⟩

set_option maxHeartbeats 400000 in
theorem containsVar_any (ts : List T) (v : Value) (bs : List Nat) (w : World) (h : termsK w [v] ts bs) :
    Calls Tryz.prog 88 #[v, .func (.func 89) #[] #[]] w fun e w' => e = .returned (.bool (anyVar ts)) ∧ Below w.heap.size w w' := by
  have hi := indexVar_any ts v bs w h
  clear h
  go_enter Tryz.func88, Tryz.ntmps88
  go_wp2_with fail
  refine hi.mono ?_
  rintro e w' ⟨⟨z, rfl, hz⟩, hb⟩
  have HZ := Lib.hid hz
  clear hz
  go_wp2
  go_ret
  exact ⟨ret_bool HZ.out, hb⟩

set_option maxHeartbeats 400000 in
theorem isFact_any (a : A) (c0 c1 : Value) (bs : List Nat) (w : World) (h : atomK w [c0, c1] a bs) :
    Calls Tryz.prog 62 #[.agg #[c0, c1]] w fun e w' => e = .returned (.bool (isFactB a)) ∧ Below w.heap.size w w' := by
  obtain ⟨Ad, cap, rfl, rfl⟩ := atom_cells2 h
  have k1 := fun w' (hb : Below w.heap.size w w') => atomOk_impl a _ _ bs w' (atomK_good.below h hb)
  have k2 := fun w' (hb : Below w.heap.size w w') => containsVar_any a.args _ bs w' (atom_args (atomK_good.below h hb))
  unfold isFactB
  generalize atomOk a = x at *
  generalize anyVar a.args = y at *
  clear h
  have hA := (Below.refl w.heap.size w).alloc (Nat.le_refl _) (.cells #[.string a.name, .slice Ad a.args.length cap] 48)
  go_enter Tryz.func62, Tryz.ntmps62
  go_wp2_with fail
  refine (k1 _ hA).mono ?_
  rintro e w1 ⟨rfl, hb1⟩
  have B1 := hA.trans (hb1.mono hA.size)
  have x1 : w1.cell? ⟨w.heap.size, 1, none⟩ = some (.slice Ad a.args.length cap) := cell_later hb1 (by go_simp)
  clear k1 hA
  cases x
  · go_wp2
    go_ret
    exact ⟨rfl, B1⟩
  · go_wp2_with fail
    refine (k2 _ B1).mono ?_
    rintro e w2 ⟨rfl, hb2⟩
    go_wp2
    go_ret
    exact ⟨ret_bool (by simp), B1.trans (hb2.mono B1.size)⟩

set_option maxHeartbeats 400000 in
theorem l3Ground_any (a : A) (c0 c1 : Value) (bs : List Nat) (w : World) (h : atomK w [c0, c1] a bs) :
    Calls Tryz.prog 78 #[.agg #[c0, c1]] w fun e w' => e = .returned (.bool (isFactB a)) ∧ Below w.heap.size w w' := by
  have ht := atom_args h
  obtain ⟨Ad, cap, rfl, rfl⟩ := atom_cells2 h
  obtain ⟨_, _, hv, hl, hm⟩ := sliceK_form ht
  have hlm := nat_ge_max (Nat.le_trans hl hm)
  have k1 := fun w' (hb : Below w.heap.size w w') => atomOk_spec a _ _ bs w' (atomK_good.below h hb)
  have hf : isFactB a = (atomOk a && !anyVar a.args) := rfl
  have HF := Lib.hid hf
  clear h hv hl hm hf
  have hA := (Below.refl w.heap.size w).alloc (Nat.le_refl _) (.cells #[.string a.name, .slice Ad a.args.length cap] 48)
  go_enter Tryz.func78, Tryz.ntmps78
  go_wp2
  go_loopw [3] (fun i wr => ∃ k : Nat, k ≤ a.args.length ∧ i = .int .i64 k ∧ anyVar (a.args.take k) = false ∧ wr = w.alloc (.cells #[.string a.name, .slice Ad a.args.length cap] 48)) (fun i _ => a.args.length - (intOf i).toNat)
  case atStart => exact ⟨0, Nat.zero_le _, rfl, rfl, rfl⟩
  case round =>
    obtain ⟨k, hk, rfl, hall, rfl⟩ := hrel
    have HA := Lib.hid hall
    clear hall
    by_cases hlt : k < a.args.length
    · obtain ⟨b, o, rfl, _, d0, d1, _⟩ := terms_at (termsK_good.below ht ((Below.refl _ _).alloc (Nat.le_refl _) (.cells #[.string a.name, .slice Ad a.args.length cap] 48))) hlt
      clear ht
      cases hv : a.args[k].var
      · have HV := Lib.hid hv
        rw [hv] at d0
        clear hv
        go_wp2
        go_roundw
        case rel => exact ⟨k + 1, by omega, by go_num, by rw [anyVar_snoc a.args k hlt, HA.out, HV.out]; rfl, (by simp)⟩
        case measure => simp [intOf]; omega
      · have HV := Lib.hid (anyVar_bad a.args k hlt hv)
        rw [hv] at d0
        clear hv
        go_wp2
        go_ret
        exact ⟨ret_bool (by rw [HF.out, HV.out]; simp), hA⟩
    · have he := Lib.hid (show k = a.args.length by omega)
      go_wp2_with fail
      refine (k1 _ hA).mono ?_
      rintro e w' ⟨rfl, hb'⟩
      go_wp2
      go_ret
      exact ⟨ret_bool (by have := HA.out; rw [he.out, List.take_of_length_le (Nat.le_refl _)] at this; rw [HF.out, this]; simp), hA.trans (hb'.mono hA.size)⟩

end Go.Proofs.YtbcepahpehadeaaGreatDoor
