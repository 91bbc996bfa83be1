/- The walks of fsHas and fsChange. -/
import Derived.Laws.EntriesVeiled
import Derived.Deep.RegionHeld3
import Derived.Deep.RegionWith
import Derived.BigQuiet
import Derived.Deep.QuietTactic
import Derived.Deep.DrawnRows
import Derived.WalkKit
import Derived.WalkSpells
import Derived.WalkLawsBesides
import Derived.Lib.Hide
import Derived.Test.YtlmimajgifidhaaFs
namespace Go.Proofs.Ytlmimajgifidhaa
open Go.RowKit D
set_option linter.unusedVariables false
attribute [local go_sem ↓] Go.wp_at_zero Go.wp_at_succ

theorem D.mem_of_take {xs : List A} {a : A} (h : ∀ j (h : j < xs.length), xs[j] ≠ a) : a ∉ xs := by
  intro hm
  obtain ⟨j, hj, rfl⟩ := List.mem_iff_getElem.1 hm
  exact h j hj rfl

set_option maxHeartbeats 1000000 in
theorem fsHas_any (xs : List A) (a : A) (v c0 c1 : Value) (b1 b2 : List Nat) (w : World) (h : atomsK w [v] xs b1) (h2 : atomK w [c0, c1] a b2) :
    Calls Try.prog 20 #[v, .agg #[c0, c1]] w (Truth (a ∈ xs) w) := by
  obtain ⟨Ad, cap, rfl, hl, hm⟩ := sliceK_form h
  obtain ⟨Aa, ca, rfl, rfl⟩ := atom_cells2 h2
  have hlm := nat_ge_max (Nat.le_trans hl hm)
  have hA : Below w.heap.size w (w.alloc (.cells #[.string a.name, .slice Aa a.args.length ca] 45)) := (Below.refl _ _).alloc (Nat.le_refl _) _
  have x0 : (w.alloc (.cells #[.string a.name, .slice Aa a.args.length ca] 45)).cell? ⟨w.heap.size, 0, none⟩ = some (.string a.name) := by go_simp
  have x1 : (w.alloc (.cells #[.string a.name, .slice Aa a.args.length ca] 45)).cell? ⟨w.heap.size, 1, none⟩ = some (.slice Aa a.args.length ca) := by go_simp
  have hst := Lib.hid (And.intro hA (And.intro x0 x1))
  clear hl hm hA x0 x1
  go_enter Try.func20, Try.ntmps20
  go_wp2
  go_loopw [5] (fun i wr => ∃ k : Nat, k ≤ xs.length ∧ i = .int .i64 k ∧ (∀ j (h1 : j < xs.length), j < k → xs[j] ≠ a) ∧ Below w.heap.size w wr ∧ wr.cell? ⟨w.heap.size, 0, none⟩ = some (.string a.name) ∧ wr.cell? ⟨w.heap.size, 1, none⟩ = some (.slice Aa a.args.length ca)) (fun i _ => xs.length - (intOf i).toNat)
  case atStart => exact ⟨0, Nat.zero_le _, rfl, fun j _ h => by omega, hst.out.1, hst.out.2.1, hst.out.2.2⟩
  case round =>
    obtain ⟨k, hk, rfl, hall, hb, x0, x1⟩ := hrel
    have HA := Lib.hid hall
    clear hall hst
    by_cases hlt : k < xs.length
    · obtain ⟨bb, o, A1, p1, bk1, rfl, _, e0, e1, hel, _⟩ := atoms_el (atomsK_good.below h hb) hlt
      have hk0 : (0 : Int) ≤ (k : Int) := by omega
      have hk1 : (k : Int) < (xs.length : Int) := by omega
      have HLT := Lib.hid hlt
      have HU : Hid (xs[k] ≠ a → ∀ j (h1 : j < xs.length), j < k + 1 → xs[j] ≠ a) := Lib.hid (fun e j h1 hj => by
        by_cases hjk : j = k
        · subst hjk; exact e
        · exact HA.out j h1 (by omega))
      have HV : Hid (xs[k] = a → a ∈ xs) := Lib.hid (fun e => e ▸ List.getElem_mem _)
      have hf := fsAtom_any xs[k] a _ _ _ _ bk1 b2 _ (atomK_good.below hel ((Below.refl _ _).drew)) (atomK_good.below h2 (hb.drew))
      generalize xs[k] = t at *
      clear h h2 hlt hel
      go_wp2
      go_region_held3 (fun w' => w'.cell? ⟨bb, o + k * 2, none⟩ = some (.string t.name) ∧ w'.cell? ⟨bb, o + k * 2 + 1, none⟩ = some (.slice A1 t.args.length p1) ∧ w'.cell? ⟨w.heap.size, 0, none⟩ = some (.string a.name) ∧ w'.cell? ⟨w.heap.size, 1, none⟩ = some (.slice Aa a.args.length ca)) (first | go_keep | exact ⟨q0, q1, q2, q3⟩)
        (first | (go_at_call 39; refine hf.mono ?_; rintro e w' ⟨r, rfl, hr, hb'⟩; have HR := Lib.hid hr; clear hr; have q0 := cell_later hb' e0; have q1 := cell_later hb' e1; have q2 := cell_later hb' x0; have q3 := cell_later hb' x1))
      have HB' : Hid (Below w.heap.size w w' ∧ w'.cell? ⟨w.heap.size, 0, none⟩ = some (.string a.name) ∧ w'.cell? ⟨w.heap.size, 1, none⟩ = some (.slice Aa a.args.length ca)) := Lib.hid ⟨hb.trans (((Below.refl _ _).drew.trans hb').mono hb.size), q2, q3⟩
      cases r
      · have HW := Lib.hid (HU.out (fun e => by have := HR.out.2 e; cases this))
        go_wp2
        go_roundw
        case rel => exact ⟨k + 1, HLT.out, by go_num, HW.out, HB'.out.1, HB'.out.2.1, HB'.out.2.2⟩
        case measure => have := HLT.out; simp [intOf]; omega
      · have HW := Lib.hid (HV.out (HR.out.1 rfl))
        go_wp2
        go_ret
        exact ⟨true, rfl, by simpa using HW.out, HB'.out.1⟩
    · have he : k = xs.length := by omega
      have HW : Hid (a ∉ xs) := Lib.hid (mem_of_take fun j hj => HA.out j hj (by omega))
      subst he
      clear h h2
      go_wp2
      go_ret
      exact ⟨false, rfl, by simpa using HW.out, hb⟩

set_option maxHeartbeats 1000000 in
theorem fsChange_any (c d : Ch) (c0 c1 d0 d1 : Value) (b1 b2 : List Nat) (w : World) (h : changeK w [c0, c1] c b1) (h2 : changeK w [d0, d1] d b2) :
    Calls Try.prog 23 #[.agg #[c0, c1], .agg #[d0, d1]] w (Truth (c.comes = d.comes ∧ c.goes = d.goes) w) := by
  obtain ⟨Ad, cap, Ae, cape, rfl, rfl⟩ := change_cells2 h
  obtain ⟨Af, capf, Ag, capg, rfl, rfl⟩ := change_cells2 h2
  obtain ⟨p1, p2, rfl, ht, hp⟩ := change_parts h
  obtain ⟨p3, p4, rfl, ht2, hp2⟩ := change_parts h2
  have hA : Below w.heap.size w ((w.alloc (.cells #[.slice Ad c.comes.length cap, .slice Ae c.goes.length cape] 28)).alloc (.cells #[.slice Af d.comes.length capf, .slice Ag d.goes.length capg] 28)) := ((Below.refl _ _).alloc (Nat.le_refl _) _).alloc (by simp) _
  have q1 := fsSame_any c.comes d.comes _ _ p1 p3 _ (atomsK_good.below ht hA) (atomsK_good.below ht2 hA)
  have q2 := fun w' (hb : Below w.heap.size w w') => fsSame_any c.goes d.goes _ _ p2 p4 w' (atomsK_good.below hp hb) (atomsK_good.below hp2 hb)
  clear h h2 ht hp ht2 hp2
  go_enter Try.func23, Try.ntmps23
  go_wp2_with fail
  refine q1.mono ?_
  rintro e w1 ⟨r, rfl, hr, hb1⟩
  have HR := Lib.hid hr
  have B1 := hA.trans (hb1.mono hA.size)
  have x1 : w1.cell? ⟨w.heap.size, 1, none⟩ = some (.slice Ae c.goes.length cape) := cell_later hb1 (by go_simp)
  have y1 : w1.cell? ⟨w.heap.size + 1, 1, none⟩ = some (.slice Ag d.goes.length capg) := cell_later hb1 (by go_simp)
  clear q1 hr hA
  cases r
  · have HW : Hid (¬ (c.comes = d.comes ∧ c.goes = d.goes)) := Lib.hid (fun e => by have := HR.out.2 e.1; cases this)
    clear q2
    go_wp2
    go_ret
    exact ⟨false, rfl, by simpa using HW.out, B1⟩
  · have HE := Lib.hid (HR.out.1 rfl)
    go_wp2_with fail
    refine (q2 _ B1).mono ?_
    rintro e w2 ⟨r2, rfl, hr2, hb2⟩
    have HR2 := Lib.hid hr2
    have HB2 := Lib.hid (B1.trans (hb2.mono B1.size))
    clear hr2 q2
    cases r2
    · have HW : Hid (¬ (c.comes = d.comes ∧ c.goes = d.goes)) := Lib.hid (fun e => by have := HR2.out.2 e.2; cases this)
      go_wp2
      go_ret
      exact ⟨false, rfl, by simpa using HW.out, HB2.out⟩
    · have HW : Hid (c.comes = d.comes ∧ c.goes = d.goes) := Lib.hid ⟨HE.out, HR2.out.1 rfl⟩
      go_wp2
      go_ret
      exact ⟨true, rfl, by simpa using HW.out, HB2.out⟩

end Go.Proofs.Ytlmimajgifidhaa
