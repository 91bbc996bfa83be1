/- The walks of isBound, allBound, bodyLoose, impl.AskOk. -/
import Derived.WalkKit
import Derived.Lib.Hide
import Derived.WalkSpells
import Derived.WalkLawsBesides
import Derived.BigQuiet
import Derived.Deep.RegionHeld3
import Derived.Deep.RegionWith
import Derived.Deep.DrawnRows
import Derived.Test.YtbcepahpehadeaaGreatDoorProg
import Derived.Test.YtbcepahpehadeaaGreatDoorVarP
import Derived.Test.YtbcepahpehadeaaGreatDoorBody
namespace Go.Proofs.YtbcepahpehadeaaGreatDoor
open Go.RowKit D
set_option linter.unusedVariables false
attribute [local go_sem ↓] Go.wp_at_zero Go.wp_at_succ

theorem below_drewQ {B : Nat} {a w : World} (h : Below B a w) (n : Nat) : Below B a (w.drewN n) := ⟨h.os, h.tape, h.output, h.size, h.block⟩

set_option maxHeartbeats 1000000 in
theorem indexTerm_any (ts : List T) (s : ByteArray) (v : Value) (bs : List Nat) (w : World) (h : termsK w [v] ts bs) :
    Calls Tryz.prog 153 #[v, .agg #[.bool true, .string s]] w fun e w' => ∃ r : Int, e = .returned (.int .i64 r) ∧ (0 ≤ r ↔ varIn s ts) ∧ Below w.heap.size w w' := by
  obtain ⟨Ad, cap, rfl, hl, hm⟩ := sliceK_form h
  have hlm := nat_ge_max (Nat.le_trans hl hm)
  have hA : Below w.heap.size w (w.alloc (.cells #[.bool true, .string s] 101)) := (Below.refl _ _).alloc (Nat.le_refl _) _
  have x0 : (w.alloc (.cells #[.bool true, .string s] 101)).cell? ⟨w.heap.size, 0, none⟩ = some (.bool true) := by go_simp
  have x1 : (w.alloc (.cells #[.bool true, .string s] 101)).cell? ⟨w.heap.size, 1, none⟩ = some (.string s) := by go_simp
  have hst := Lib.hid (And.intro hA (And.intro x0 x1))
  clear hl hm hA x0 x1
  go_enter Tryz.func153, Tryz.ntmps153
  go_wp2
  go_loopw [5, 8] (fun a i wr => ∃ k : Nat, k ≤ ts.length ∧ i = .int .i64 k ∧ (∀ j (h1 : j < ts.length), j < k → ¬ (ts[j].var = true ∧ ts[j].name = s)) ∧ Below w.heap.size w wr ∧ wr.cell? ⟨w.heap.size, 0, none⟩ = some (.bool true) ∧ wr.cell? ⟨w.heap.size, 1, none⟩ = some (.string s)) (fun _ i _ => ts.length - (intOf i).toNat)
  case atStart => exact ⟨0, Nat.zero_le _, rfl, fun j _ h => by omega, hst.out.1, hst.out.2.1, hst.out.2.2⟩
  case round =>
    obtain ⟨k, hk, rfl, hall, hb, x0, x1⟩ := hrel
    have HA := Lib.hid hall
    have HB := Lib.hid hb
    clear hall hst
    by_cases hlt : k < ts.length
    · obtain ⟨b, o, rfl, _, e0, e1, _⟩ := terms_at (termsK_good.below h hb) hlt
      have hk0 : (0 : Int) ≤ (k : Int) := by omega
      have hk1 : (k : Int) < (ts.length : Int) := by omega
      have HLT := Lib.hid hlt
      have HI : Hid (∀ (_ : ts[k].var = true ∧ ts[k].name = s), varIn s ts) := Lib.hid (fun e => ⟨_, List.getElem_mem hlt, e⟩)
      have HN : Hid (¬ (ts[k].var = true ∧ ts[k].name = s) → ∀ j (h1 : j < ts.length), j < k + 1 → ¬ (ts[j].var = true ∧ ts[j].name = s)) := Lib.hid (fun e j h1 hj => by
        by_cases hjk : j = k
        · subst hjk; exact e
        · exact HA.out j h1 (by omega))
      generalize ts[k] = t at *
      obtain ⟨tv, tn⟩ := t
      dsimp only at *
      clear hb hlt h
      cases tv
      · have HN2 := Lib.hid (HN.out (by simp))
        clear HI HN
        go_wp2
        go_quiet (fail)
        go_wp2
        go_roundw
        case rel => exact ⟨k + 1, HLT.out, by go_num, HN2.out, below_drewQ HB.out _, x0, x1⟩
        case measure => have := HLT.out; simp [intOf]; omega
      · cases hs : (s.toList == tn.toList)
        · have HN2 := Lib.hid (HN.out (fun e => by rw [e.2] at hs; simp at hs))
          clear HI HN
          go_wp2
          go_quiet (fail)
          go_wp2
          go_roundw
          case rel => exact ⟨k + 1, HLT.out, by go_num, HN2.out, below_drewQ HB.out _, x0, x1⟩
          case measure => have := HLT.out; simp [intOf]; omega
        · have HI2 := Lib.hid (HI.out ⟨rfl, by have := (cmpS_is.eq s tn).1 (by have h9 := eq_cmpS s tn; rw [hs] at h9; simpa using h9.symm); exact this.symm⟩)
          clear HI HN
          go_wp2
          go_quiet (fail)
          go_wp2
          go_ret
          exact ⟨k, rfl, ⟨fun _ => HI2.out, fun _ => hk0⟩, below_drewQ HB.out _⟩
    · have he := Lib.hid (show k = ts.length by omega)
      have hk1 : ¬ (k : Int) < (ts.length : Int) := by omega
      clear h hb
      go_wp2
      go_ret
      exact ⟨-1, rfl, ⟨fun h0 => absurd h0 (by decide), fun ⟨t, ht, h1⟩ => by
        obtain ⟨j, hj, rfl⟩ := List.mem_iff_getElem.1 ht
        exact absurd h1 (HA.out j hj (by rw [he.out]; exact hj))⟩, HB.out⟩

set_option maxHeartbeats 400000 in
theorem containsTerm_any (ts : List T) (s : ByteArray) (v : Value) (bs : List Nat) (w : World) (h : termsK w [v] ts bs) :
    Calls Tryz.prog 150 #[v, .agg #[.bool true, .string s]] w fun e w' => ∃ r : Bool, e = .returned (.bool r) ∧ (r = true ↔ varIn s ts) ∧ Below w.heap.size w w' := by
  obtain ⟨Ad, cap, rfl, hl, hm⟩ := sliceK_form h
  have hA : Below w.heap.size w (w.alloc (.cells #[.bool true, .string s] 101)) := (Below.refl _ _).alloc (Nat.le_refl _) _
  have hk := indexTerm_any ts s _ bs _ (termsK_good.below h hA)
  clear h hl hm
  go_enter Tryz.func150, Tryz.ntmps150
  go_wp2_with fail
  refine hk.mono ?_
  rintro e w1 ⟨r, rfl, hr, hb1⟩
  have HR := Lib.hid hr
  have B1 := Lib.hid (hA.trans (hb1.mono hA.size))
  clear hk hr hA
  go_wp2
  go_ret
  exact ⟨decide (0 ≤ r), rfl, by rw [decide_eq_true_iff]; exact HR.out, B1.out⟩

namespace D
def partB (x : ByteArray) (p : Pt) : Bool := !p.no && p.atom.args.any fun t => t.var && decide (cmpS t.name x = 0)
theorem partB_iff (p : Pt) (x : ByteArray) : partB x p = true ↔ p.no = false ∧ varIn x p.atom.args := by
  unfold partB varIn
  simp only [Bool.and_eq_true, Bool.not_eq_true', List.any_eq_true, decide_eq_true_eq, cmpS_is.eq]
theorem boundB_yes {ps : List Pt} {x : ByteArray} {k : Nat} (hk : k < ps.length) (h : partB x ps[k] = true) : boundB ps x = true := by
  unfold boundB; rw [List.any_eq_true]; exact ⟨_, List.getElem_mem hk, h⟩
theorem boundB_no {ps : List Pt} {x : ByteArray} (h : ps.all (fun p => !partB x p) = true) : boundB ps x = false := by
  unfold boundB
  rw [List.any_eq_false]
  intro p hp hb
  have := List.all_eq_true.1 h p hp
  rw [show partB x p = true from hb] at this; cases this
end D

set_option maxHeartbeats 1000000 in
theorem isBound_any (ps : List Pt) (x : ByteArray) (v : Value) (bs : List Nat) (w : World) (h : partsK w [v] ps bs) :
    Calls Tryz.prog 134 #[v, .string x] w fun e w' => e = .returned (.bool (boundB ps x)) ∧ Below w.heap.size w w' := by
  obtain ⟨Ad, cap, rfl, hl, hm⟩ := sliceK_form h
  have hlm := nat_ge_max (Nat.le_trans hl hm)
  clear hl hm
  go_enter Tryz.func134, Tryz.ntmps134
  go_wp2
  go_loopw [9] (fun i wr => ∃ k : Nat, k ≤ ps.length ∧ i = .int .i64 k ∧ (ps.take k).all (fun p => !partB x p) = true ∧ Below w.heap.size w wr) (fun i _ => ps.length - (intOf i).toNat)
  case atStart => exact ⟨0, Nat.zero_le _, rfl, rfl, Below.refl _ _⟩
  case round =>
    obtain ⟨k, hk, rfl, hall, hb⟩ := hrel
    have HA := Lib.hid hall
    clear hall
    by_cases hlt : k < ps.length
    · obtain ⟨b, o, Ae, ce, bk, rfl, _, d0, d1, d2, hel, _⟩ := parts_el (partsK_good.below h hb) hlt
      have hk0 : (0 : Int) ≤ (k : Int) := by omega
      have hk1 : (k : Int) < (ps.length : Int) := by omega
      have HLT := Lib.hid hlt
      have hA : Below wr.heap.size wr (wr.alloc (.cells #[.bool ps[k].no, .string ps[k].atom.name, .slice Ae ps[k].atom.args.length ce] 54)) := (Below.refl _ _).alloc (Nat.le_refl _) _
      have hc := containsTerm_any ps[k].atom.args x _ bk _ (termsK_good.below (atom_args (part_atom hel)) hA)
      have HY : Hid (partB x ps[k] = true → boundB ps x = true) := Lib.hid (boundB_yes hlt)
      have HN : Hid (partB x ps[k] = false → (ps.take (k + 1)).all (fun p => !partB x p) = true) := Lib.hid (fun e => by rw [all_take_snoc ps k hlt, HA.out]; show (true && !partB x ps[k]) = true; rw [e]; rfl)
      have HB := Lib.hid (hb.trans (hA.mono hb.size))
      have HI := Lib.hid (partB_iff ps[k] x)
      generalize ps[k] = p at *
      obtain ⟨no, nm, args⟩ := p
      dsimp only at *
      clear h hel hA hb hlt
      cases no
      · go_wp2_with fail
        refine hc.mono ?_
        rintro e w1 ⟨r, rfl, hr, hb1⟩
        have HR := Lib.hid hr
        have HB1 := Lib.hid (HB.out.trans (hb1.mono HB.out.size))
        clear hc hr hb1
        cases r
        · have HN2 := Lib.hid (HN.out (by cases hx : partB x ⟨false, nm, args⟩; rfl; exact absurd (HR.out.2 (HI.out.1 hx).2) (by simp)))
          clear HN HY HR
          go_wp2
          go_roundw
          case rel => exact ⟨k + 1, HLT.out, by go_num, HN2.out, HB1.out⟩
          case measure => have := HLT.out; simp [intOf]; omega
        · have HY2 := Lib.hid (HY.out (HI.out.2 ⟨by simp, HR.out.1 rfl⟩))
          clear HN HY HR
          go_wp2
          go_ret
          exact ⟨ret_bool HY2.out.symm, HB1.out⟩
      · have HN2 := Lib.hid (HN.out (by cases hx : partB x ⟨true, nm, args⟩; rfl; exact absurd (HI.out.1 hx).1 (by simp)))
        clear HN HY hc
        go_wp2
        go_roundw
        case rel => exact ⟨k + 1, HLT.out, by go_num, HN2.out, HB.out⟩
        case measure => have := HLT.out; simp [intOf]; omega
    · have he := Lib.hid (show k = ps.length by omega)
      have hk1 : ¬ (k : Int) < (ps.length : Int) := by omega
      have HE := Lib.hid (boundB_no (ps := ps) (x := x) (by have := HA.out; rw [he.out, List.take_of_length_le (Nat.le_refl _)] at this; exact this))
      have HB := Lib.hid hb
      clear h hb
      go_wp2
      go_ret
      exact ⟨ret_bool HE.out.symm, HB.out⟩

theorem assertWV (s : ByteArray) (w : World) : (Instr.typeAssert (.iface 175 (.string s)) 173 177 true).run Tryz.prog w = .ok (.tuple #[.string ⟨#[]⟩, .bool false]) w := by kernel_rfl

set_option maxHeartbeats 1000000 in
theorem allBound_any (ps : List Pt) (a : A) (v c0 c1 : Value) (bs b2 : List Nat) (w : World) (h : partsK w [v] ps bs) (h2 : atomK w [c0, c1] a b2) :
    Calls Tryz.prog 105 #[v, .agg #[c0, c1]] w fun e w' => e = .returned (.bool (allBoundB ps a)) ∧ Below w.heap.size w w' := by
  obtain ⟨Ad, cap, rfl, hl, hm⟩ := sliceK_form h
  have ht := atom_args h2
  obtain ⟨Aa, ca, rfl, rfl⟩ := atom_cells2 h2
  have hlm := nat_ge_max (Nat.le_trans hl hm)
  obtain ⟨_, _, e0', hl2, hm2⟩ := sliceK_form ht
  have hla := nat_ge_max (Nat.le_trans hl2 hm2)
  have hA : Below w.heap.size w (w.alloc (.cells #[.string a.name, .slice Aa a.args.length ca] 48)) := (Below.refl _ _).alloc (Nat.le_refl _) _
  clear hl hm hl2 hm2 e0' h2
  unfold allBoundB
  obtain ⟨an, args⟩ := a
  dsimp only at *
  go_enter Tryz.func105, Tryz.ntmps105
  have a1 := assertVV
  have a2 := assertWV
  go_wp2
  go_loopw [12] (fun i wr => ∃ k : Nat, k ≤ args.length ∧ i = .int .i64 k ∧ (args.take k).all (fun t => !t.var || boundB ps t.name) = true ∧ Below w.heap.size w wr) (fun i _ => args.length - (intOf i).toNat)
  case atStart => exact ⟨0, Nat.zero_le _, rfl, rfl, hA⟩
  case round =>
    obtain ⟨k, hk, rfl, hall, hb⟩ := hrel
    have HA := Lib.hid hall
    clear hall hA
    by_cases hlt : k < args.length
    · obtain ⟨b, o, rfl, _, d0, d1, _⟩ := terms_at (termsK_good.below ht hb) hlt
      have hk0 : (0 : Int) ≤ (k : Int) := by omega
      have hk1 : (k : Int) < (args.length : Int) := by omega
      have HLT := Lib.hid hlt
      have hA : Below wr.heap.size wr (wr.alloc (.cells #[.bool args[k].var, .string args[k].name] 101)) := (Below.refl _ _).alloc (Nat.le_refl _) _
      have hb' := hb.trans (hA.mono hb.size)
      have hkd := kindOf_any args[k] (wr.alloc (.cells #[.bool args[k].var, .string args[k].name] 101))
      have hbd := fun w' (hb2 : Below w.heap.size w w') => isBound_any ps args[k].name _ bs w' (partsK_good.below h hb2)
      have HY : Hid ((!args[k].var || boundB ps args[k].name) = true → (args.take (k + 1)).all (fun t => !t.var || boundB ps t.name) = true) := Lib.hid (fun e => by rw [all_take_snoc args k hlt, HA.out]; show (true && (!args[k].var || boundB ps args[k].name)) = true; rw [e]; rfl)
      have HN : Hid ((!args[k].var || boundB ps args[k].name) = false → args.all (fun t => !t.var || boundB ps t.name) = false) := Lib.hid (fun e => all_bad args k hlt e)
      have HB := Lib.hid hb'
      generalize args[k] = t at *
      obtain ⟨tv, tn⟩ := t
      dsimp only at *
      clear h ht hA hb hb' hlt
      cases tv
      · simp only [Bool.false_eq_true, if_false] at hkd
        have HY2 := Lib.hid (HY.out rfl)
        clear HY HN hbd
        go_wp2_with fail
        refine hkd.mono ?_
        rintro e w1 ⟨rfl, hb1⟩
        have HB1 := Lib.hid (HB.out.trans (hb1.mono HB.out.size))
        clear hkd hb1
        go_wp2
        go_roundw
        case rel => exact ⟨k + 1, HLT.out, by go_num, HY2.out, HB1.out⟩
        case measure => have := HLT.out; simp [intOf]; omega
      · simp only [if_true] at hkd
        go_wp2_with fail
        refine hkd.mono ?_
        rintro e w1 ⟨rfl, hb1⟩
        have HB1 := Lib.hid (HB.out.trans (hb1.mono HB.out.size))
        have hv := varText_any tn w1
        have hbd1 := hbd w1 HB1.out
        have HG : Hid ((!true || boundB ps tn) = boundB ps tn) := Lib.hid rfl
        rw [HG.out] at HY HN
        generalize boundB ps tn = r at *
        clear hkd hbd hb1
        go_wp2_with fail
        refine hv.mono ?_
        rintro e w2 ⟨rfl, rfl⟩
        go_wp2_with fail
        refine hbd1.mono ?_
        rintro e w3 ⟨rfl, hb3⟩
        have HB3 := Lib.hid (HB1.out.trans (hb3.mono HB1.out.size))
        clear hv hbd1 hb3
        cases r
        · have HN2 := Lib.hid (HN.out rfl)
          clear HN HY
          go_wp2
          go_ret
          exact ⟨ret_bool HN2.out.symm, HB3.out⟩
        · have HY2 := Lib.hid (HY.out rfl)
          clear HN HY
          go_wp2
          go_roundw
          case rel => exact ⟨k + 1, HLT.out, by go_num, HY2.out, HB3.out⟩
          case measure => have := HLT.out; simp [intOf]; omega
    · have he := Lib.hid (show k = args.length by omega)
      have hk1 : ¬ (k : Int) < (args.length : Int) := by omega
      have HE : Hid (args.all (fun t => !t.var || boundB ps t.name) = true) := Lib.hid (by have := HA.out; rw [he.out, List.take_of_length_le (Nat.le_refl _)] at this; exact this)
      have HB := Lib.hid hb
      clear h ht hb
      go_wp2
      go_ret
      exact ⟨ret_bool HE.out.symm, HB.out⟩

set_option maxHeartbeats 1000000 in
theorem bodyLoose_any (ps : List Pt) (v : Value) (bs : List Nat) (w : World) (h : partsK w [v] ps bs) :
    Calls Tryz.prog 106 #[v] w fun e w' => e = .returned (.bool (looseB ps)) ∧ Below w.heap.size w w' := by
  obtain ⟨Ad, cap, rfl, hl, hm⟩ := sliceK_form h
  have hlm := nat_ge_max (Nat.le_trans hl hm)
  clear hl hm
  unfold looseB
  go_enter Tryz.func106, Tryz.ntmps106
  go_wp2
  go_loopw [7] (fun i wr => ∃ k : Nat, k ≤ ps.length ∧ i = .int .i64 k ∧ (ps.take k).all (fun p => allBoundB ps p.atom) = true ∧ Below w.heap.size w wr) (fun i _ => ps.length - (intOf i).toNat)
  case atStart => exact ⟨0, Nat.zero_le _, rfl, rfl, Below.refl _ _⟩
  case round =>
    obtain ⟨k, hk, rfl, hall, hb⟩ := hrel
    have HA := Lib.hid hall
    clear hall
    by_cases hlt : k < ps.length
    · obtain ⟨b, o, Ae, ce, bk, rfl, _, d0, d1, d2, hel, _⟩ := parts_el (partsK_good.below h hb) hlt
      have hk0 : (0 : Int) ≤ (k : Int) := by omega
      have hk1 : (k : Int) < (ps.length : Int) := by omega
      have HLT := Lib.hid hlt
      have hA : Below wr.heap.size wr (wr.alloc (.cells #[.bool ps[k].no, .string ps[k].atom.name, .slice Ae ps[k].atom.args.length ce] 54)) := (Below.refl _ _).alloc (Nat.le_refl _) _
      have hb' := hb.trans (hA.mono hb.size)
      have hc := allBound_any ps ps[k].atom _ _ _ bs bk _ (partsK_good.below h hb') (atomK_good.below (part_atom hel) hA)
      have HY : Hid (allBoundB ps ps[k].atom = true → (ps.take (k + 1)).all (fun p => allBoundB ps p.atom) = true) := Lib.hid (fun e => by rw [all_take_snoc ps k hlt, HA.out]; show (true && allBoundB ps ps[k].atom) = true; rw [e]; rfl)
      have HN : Hid (allBoundB ps ps[k].atom = false → ps.all (fun p => allBoundB ps p.atom) = false) := Lib.hid (fun e => all_bad ps k hlt e)
      have HB := Lib.hid hb'
      generalize allBoundB ps ps[k].atom = r at *
      generalize ps[k] = p at *
      clear h hel hA hb hb' hlt
      go_wp2_with fail
      refine hc.mono ?_
      rintro e w1 ⟨rfl, hb1⟩
      have HB1 := Lib.hid (HB.out.trans (hb1.mono HB.out.size))
      clear hc hb1
      cases r
      · have HN2 := Lib.hid (HN.out rfl)
        clear HN HY
        go_wp2
        go_ret
        exact ⟨ret_bool (by rw [HN2.out]; rfl), HB1.out⟩
      · have HY2 := Lib.hid (HY.out rfl)
        clear HN HY
        go_wp2
        go_roundw
        case rel => exact ⟨k + 1, HLT.out, by go_num, HY2.out, HB1.out⟩
        case measure => have := HLT.out; simp [intOf]; omega
    · have he := Lib.hid (show k = ps.length by omega)
      have hk1 : ¬ (k : Int) < (ps.length : Int) := by omega
      have HE : Hid (ps.all (fun p => allBoundB ps p.atom) = true) := Lib.hid (by have := HA.out; rw [he.out, List.take_of_length_le (Nat.le_refl _)] at this; exact this)
      have HB := Lib.hid hb
      clear h hb
      go_wp2
      go_ret
      exact ⟨ret_bool (by rw [HE.out]; rfl), HB.out⟩

end Go.Proofs.YtbcepahpehadeaaGreatDoor
