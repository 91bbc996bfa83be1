/- The walk of fsAtom. -/
import Derived.Laws.EntriesVeiled
import Derived.Deep.RegionHeld3
import Derived.Deep.RegionWith
import Derived.BigQuiet
import Derived.Deep.QuietTactic
import Derived.Deep.DrawnRows
import Derived.WalkKit
import Derived.WalkSpells
import Derived.WalkLawsBesides
import Derived.Lib.Hide
import Derived.Lib.IndexBytes
import Derived.Lib.Bytealg
import Derived.Test.YtmhjabjiojfgnaaDoorProg
import Derived.Test.YtmhjabjiojfgnaaDoorKind
namespace Go.Proofs.YtmhjabjiojfgnaaDoor
open Go.RowKit D
set_option linter.unusedVariables false
attribute [local go_sem ↓] Go.wp_at_zero Go.wp_at_succ

/-- A yes just if P. -/
def D.Truth (P : Prop) (w : World) (e : Ending) (w' : World) : Prop := ∃ r : Bool, e = .returned (.bool r) ∧ (r = true ↔ P) ∧ Below w.heap.size w w'
theorem D.bytes_eq {a b : ByteArray} : (a.toList == b.toList) = true ↔ a = b := by
  rw [beq_iff_eq, ByteArray.toList_eq, ByteArray.toList_eq]
  constructor
  · intro h; cases a; cases b; simp only [ByteArray.mk.injEq]; exact Array.toList_inj.1 h
  · rintro rfl; rfl
theorem D.bytes_ne {a b : ByteArray} : (a.toList == b.toList) = false ↔ a ≠ b := by
  rw [← Bool.not_eq_true, bytes_eq]
theorem D.term_eq {t u : T} : t = u ↔ t.var = u.var ∧ t.name = u.name := by cases t; cases u; simp
theorem D.atom_eq {a b : A} : a = b ↔ a.name = b.name ∧ a.args = b.args := by cases a; cases b; simp

set_option maxHeartbeats 1000000 in
theorem fsAtom_any (a b : A) (c0 c1 d0 d1 : Value) (b1 b2 : List Nat) (w : World) (h : atomK w [c0, c1] a b1) (h2 : atomK w [d0, d1] b b2) :
    Calls Tryd.prog 14 #[.agg #[c0, c1], .agg #[d0, d1]] w (Truth (a = b) w) := by
  have t1 := atom_args h
  have t2 := atom_args h2
  obtain ⟨Ad, cap, rfl, rfl⟩ := atom_cells2 h
  obtain ⟨Ae, cape, rfl, rfl⟩ := atom_cells2 h2
  obtain ⟨_, _, _, hl, hm⟩ := sliceK_form t1
  have hA0 : Below w.heap.size w ((w.alloc (.cells #[.string a.name, .slice Ad a.args.length cap] 25)).alloc (.cells #[.string b.name, .slice Ae b.args.length cape] 25)) := ((Below.refl _ _).alloc (Nat.le_refl _) _).alloc (by simp) _
  have hlm := nat_ge_max (Nat.le_trans hl hm)
  clear h h2 hl hm
  cases hn : (a.name.toList == b.name.toList)
  · have HE : Hid (¬ a = b) := Lib.hid (fun e => bytes_ne.1 hn (by rw [e]))
    clear t1 t2
    go_enter Tryd.func14, Tryd.ntmps14
    go_wp2
    go_ret
    exact ⟨false, rfl, by simpa using HE.out, hA0⟩
  · by_cases hl : a.args.length = b.args.length
    · have HN := Lib.hid (bytes_eq.1 hn)
      have x1 : ((w.alloc (.cells #[.string a.name, .slice Ad a.args.length cap] 25)).alloc (.cells #[.string b.name, .slice Ae b.args.length cape] 25)).cell? ⟨w.heap.size, 1, none⟩ = some (.slice Ad a.args.length cap) := by go_simp
      have y1 : ((w.alloc (.cells #[.string a.name, .slice Ad a.args.length cap] 25)).alloc (.cells #[.string b.name, .slice Ae b.args.length cape] 25)).cell? ⟨w.heap.size + 1, 1, none⟩ = some (.slice Ae b.args.length cape) := by go_simp
      have hq : ((a.args.length : Int) == (b.args.length : Int)) = true := by simp [hl]
      have HL := Lib.hid hl
      clear hl
      have hst := Lib.hid (And.intro hA0 (And.intro x1 y1))
      clear hA0 x1 y1
      go_enter Tryd.func14, Tryd.ntmps14
      go_wp2
      go_loopw [5] (fun i wr => ∃ k : Nat, k ≤ a.args.length ∧ i = .int .i64 k ∧ (∀ j (h1 : j < a.args.length) (h2 : j < b.args.length), j < k → a.args[j] = b.args[j]) ∧ Below w.heap.size w wr ∧ wr.cell? ⟨w.heap.size, 1, none⟩ = some (.slice Ad a.args.length cap) ∧ wr.cell? ⟨w.heap.size + 1, 1, none⟩ = some (.slice Ae b.args.length cape)) (fun i _ => a.args.length - (intOf i).toNat)
      case atStart => exact ⟨0, Nat.zero_le _, rfl, fun j _ _ h => by omega, hst.out.1, hst.out.2.1, hst.out.2.2⟩
      case round =>
        obtain ⟨k, hk, rfl, hall, hb, x1, y1⟩ := hrel
        have HA := Lib.hid hall
        clear hall hst
        by_cases hlt : k < a.args.length
        · have hlt2 : k < b.args.length := by have := HL.out; omega
          obtain ⟨bb, o, rfl, _, e0, e1, _⟩ := terms_at (termsK_good.below t1 hb) hlt
          obtain ⟨bc, o', rfl, _, g0, g1, _⟩ := terms_at (termsK_good.below t2 hb) hlt2
          have hk0 : (0 : Int) ≤ (k : Int) := by omega
          have hk1 : (k : Int) < (a.args.length : Int) := by omega
          have hk2 : (k : Int) < (b.args.length : Int) := by omega
          have HLT := Lib.hid (And.intro hlt hlt2)
          have HU : Hid (a.args[k] = b.args[k] → ∀ j (h1 : j < a.args.length) (h2 : j < b.args.length), j < k + 1 → a.args[j] = b.args[j]) := Lib.hid (fun e j h1 h2 hj => by
            by_cases hjk : j = k
            · subst hjk; exact e
            · exact HA.out j h1 h2 (by omega))
          have HV : Hid (a.args[k] ≠ b.args[k] → ¬ a = b) := Lib.hid (fun hne e => hne (by subst e; rfl))
          have HT : Hid (a.args[k] = b.args[k] ↔ a.args[k].var = b.args[k].var ∧ a.args[k].name = b.args[k].name) := Lib.hid term_eq
          generalize a.args[k] = t at *
          generalize b.args[k] = u at *
          clear t1 t2 hlt hlt2
          cases hv : (t.var == u.var)
          · have hne : t ≠ u := fun e => by subst e; simp at hv
            have HW := Lib.hid (HV.out hne)
            cases hz : (t.name.toList == u.name.toList) <;>
            · go_wp2
              go_quiet (fail)
              go_wp2
              go_ret
              exact ⟨false, rfl, by simpa using HW.out, by first | exact hb | exact below_drewN hb _⟩
          · cases hz : (t.name.toList == u.name.toList)
            · have hne : t ≠ u := fun e => by subst e; exact (bytes_ne.1 hz) rfl
              have HW := Lib.hid (HV.out hne)
              go_wp2
              go_quiet (fail)
              go_wp2
              go_ret
              exact ⟨false, rfl, by simpa using HW.out, by first | exact hb | exact below_drewN hb _⟩
            · have HW := Lib.hid (HU.out (HT.out.2 ⟨by simpa using hv, bytes_eq.1 hz⟩))
              go_wp2
              go_quiet (fail)
              go_wp2
              go_roundw
              case rel => exact ⟨k + 1, HLT.out.1, by go_num, HW.out, by first | exact hb | exact below_drewN hb _, by first | exact x1 | (go_simp; done), by first | exact y1 | (go_simp; done)⟩
              case measure => have := HLT.out.1; simp [intOf]; omega
        · have he : k = a.args.length := by omega
          have HW : Hid (a = b) := Lib.hid (atom_eq.2 ⟨HN.out, List.ext_getElem HL.out fun j h1 h2 => HA.out j h1 h2 (by omega)⟩)
          subst he
          clear t1 t2
          go_wp2
          go_ret
          exact ⟨true, rfl, by simpa using HW.out, hb⟩
    · have hq : ((a.args.length : Int) == (b.args.length : Int)) = false := beq_eq_false_iff_ne.2 (by omega)
      have HE : Hid (¬ a = b) := Lib.hid (fun e => hl (by rw [e]))
      clear t1 t2 hl
      go_enter Tryd.func14, Tryd.ntmps14
      go_wp2
      go_ret
      exact ⟨false, rfl, by simpa using HE.out, hA0⟩

end Go.Proofs.YtmhjabjiojfgnaaDoor
