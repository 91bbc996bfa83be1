/- The walks of impl.ruleLoose and of slices.ContainsFunc at rules. -/
import Derived.WalkKit
import Derived.Lib.Hide
import Derived.WalkSpells
import Derived.WalkLawsBesides
import Derived.BigQuiet
import Derived.Deep.RegionHeld3
import Derived.Deep.RegionWith
import Derived.Deep.DrawnRows
import Derived.Test.YtbcepahpehadeaaGreatDoorProg
import Derived.Test.YtbcepahpehadeaaGreatDoorBound
namespace Go.Proofs.YtbcepahpehadeaaGreatDoor
open Go.RowKit D
set_option linter.unusedVariables false
attribute [local go_sem ↓] Go.wp_at_zero Go.wp_at_succ

theorem D.loose_tight (r : Ru) : (!allBoundB r.body r.head || looseB r.body) = !tightB r.head r.body := by
  rw [Bool.eq_iff_iff]
  have h1 := tight_iff r.head r.body
  have h2 := allBound_iff r.body r.head
  rw [← h2] at h1
  cases ht : tightB r.head r.body <;> cases ha : allBoundB r.body r.head <;> cases hl : looseB r.body <;> simp_all
theorem D.tight_snoc (rs : List Ru) (k : Nat) (h : k < rs.length) (h0 : (rs.take k).all (fun r => tightB r.head r.body) = true) : ((rs.take (k + 1)).all fun r => tightB r.head r.body) = tightB rs[k].head rs[k].body := by
  rw [List.take_succ_eq_append_getElem h, List.all_append, h0]; simp
theorem D.tight_bad (rs : List Ru) (k : Nat) (h : k < rs.length) (h0 : tightB rs[k].head rs[k].body = false) : (rs.all fun r => tightB r.head r.body) = false :=
  List.all_eq_false.2 ⟨_, List.getElem_mem h, by simp [h0]⟩

set_option maxHeartbeats 1000000 in
theorem ruleLoose_any (r : Ru) (c0 c1 c2 : Value) (bs : List Nat) (w : World) (h : ruleK w [c0, c1, c2] r bs) :
    Calls Tryz.prog 85 #[.agg #[c0, c1, c2]] w fun e w' => e = .returned (.bool (!tightB r.head r.body)) ∧ Below w.heap.size w w' := by
  obtain ⟨Ad, cap, Ae, cape, rfl, rfl, rfl⟩ := rule_cells2 h
  have hA : Below w.heap.size w (w.alloc (.cells #[.string r.head.name, .slice Ad r.head.args.length cap, .slice Ae r.body.length cape] 51)) := (Below.refl _ _).alloc (Nat.le_refl _) _
  obtain ⟨b1, b2, _, hh, hb⟩ := rule_parts h
  have c1 := fun w' (hw : Below w.heap.size w w') => allBound_any r.body r.head _ _ _ b2 b1 w' (partsK_good.below hb hw) (atomK_good.below hh hw)
  have c2 := fun w' (hw : Below w.heap.size w w') => bodyLoose_any r.body _ b2 w' (partsK_good.below hb hw)
  rw [← loose_tight r]
  clear h hh hb
  obtain ⟨⟨nm, args⟩, body⟩ := r
  dsimp only at *
  cases ha : allBoundB body ⟨nm, args⟩
  · rw [ha] at c1
    clear c2 ha
    go_enter Tryz.func85, Tryz.ntmps85
    go_wp2_with fail
    refine (c1 _ hA).mono ?_
    rintro e w2 ⟨rfl, hb2⟩
    have B2 := hA.trans (hb2.mono hA.size)
    go_wp2
    go_ret
    exact ⟨rfl, B2⟩
  · rw [ha] at c1
    clear ha
    generalize looseB body = l at *
    go_enter Tryz.func85, Tryz.ntmps85
    go_wp2_with fail
    refine (c1 _ hA).mono ?_
    rintro e w2 ⟨rfl, hb2⟩
    have B2 := hA.trans (hb2.mono hA.size)
    have x2 : w2.cell? ⟨w.heap.size, 2, none⟩ = some (.slice Ae body.length cape) := cell_later hb2 (by go_simp)
    go_wp2_with fail
    refine (c2 _ B2).mono ?_
    rintro e w3 ⟨rfl, hb3⟩
    go_wp2
    go_ret
    exact ⟨ret_bool (by simp), B2.trans (hb3.mono B2.size)⟩

def FoundR (b : Bool) (w : World) (e : Ending) (w' : World) : Prop := (∃ z : Int, e = .returned (.int .i64 z) ∧ decide (0 ≤ z) = b) ∧ Below w.heap.size w w'

set_option maxHeartbeats 1000000 in
theorem indexLoose_any (rs : List Ru) (v : Value) (bs : List Nat) (w : World) (h : rulesK w [v] rs bs) :
    Calls Tryz.prog 104 #[v, .func (.func 85) #[] #[]] w (FoundR (!rs.all fun r => tightB r.head r.body) w) := by
  obtain ⟨Ad, cap, rfl, hl, hm⟩ := sliceK_form h
  have hlm := nat_ge_max (Nat.le_trans hl hm)
  clear hm
  go_enter Tryz.func104, Tryz.ntmps104
  go_wp2
  go_loopw [8] (fun i wr => ∃ k : Nat, k ≤ rs.length ∧ i = .int .i64 k ∧ (rs.take k).all (fun r => tightB r.head r.body) = true ∧ Below w.heap.size w wr) (fun i _ => rs.length - (intOf i).toNat)
  case atStart => exact ⟨0, Nat.zero_le _, rfl, rfl, Below.refl _ _⟩
  case round =>
    obtain ⟨k, hk, rfl, hall, hb⟩ := hrel
    have HA := Lib.hid hall
    clear hall
    by_cases hlt : k < rs.length
    · obtain ⟨b, o, Ae, ce, Af, cf, bk, rfl, _, d0, d1, d2, hel, _⟩ := rules_el (rulesK_good.below h hb) hlt
      have HS := Lib.hid (tight_snoc rs k hlt HA.out)
      have HBAD := Lib.hid (tight_bad rs k hlt)
      have hk0 : (0 : Int) ≤ (k : Int) := by omega
      have hk1 : (k : Int) < (rs.length : Int) := by omega
      have HLT := Lib.hid hlt
      have c1 := ruleLoose_any rs[k] _ _ _ bk wr hel
      clear h hel
      generalize rs[k] = r at *
      clear hlt
      obtain ⟨⟨nm, args⟩, body⟩ := r
      dsimp only at *
      go_wp2_with fail
      refine c1.mono ?_
      rintro e w' ⟨rfl, hb'⟩
      have B' := hb.trans (hb'.mono hb.size)
      clear c1
      cases hv : tightB ⟨nm, args⟩ body
      · have HV := Lib.hid (HBAD.out hv)
        clear hv
        go_wp2
        go_ret
        exact ⟨⟨_, rfl, by rw [HV.out]; simp⟩, B'⟩
      · have HV := Lib.hid (HS.out.trans hv)
        clear hv
        go_wp2
        go_roundw
        case rel => exact ⟨k + 1, HLT.out, by go_num, HV.out, B'⟩
        case measure => have := HLT.out; simp [intOf]; omega
    · have he := Lib.hid (show k = rs.length by omega)
      go_wp2
      go_ret
      exact ⟨⟨_, rfl, by have := HA.out; rw [he.out, List.take_of_length_le (Nat.le_refl _)] at this; rw [this]; rfl⟩, hb⟩

set_option maxHeartbeats 400000 in
theorem containsLoose_any (rs : List Ru) (v : Value) (bs : List Nat) (w : World) (h : rulesK w [v] rs bs) :
    Calls Tryz.prog 84 #[v, .func (.func 85) #[] #[]] w fun e w' => e = .returned (.bool (!rs.all fun r => tightB r.head r.body)) ∧ Below w.heap.size w w' := by
  have hi := indexLoose_any rs v bs w h
  clear h
  go_enter Tryz.func84, Tryz.ntmps84
  go_wp2_with fail
  refine hi.mono ?_
  rintro e w' ⟨⟨z, rfl, hz⟩, hb⟩
  have HZ := Lib.hid hz
  clear hz
  go_wp2
  go_ret
  exact ⟨ret_bool HZ.out, hb⟩

end Go.Proofs.YtbcepahpehadeaaGreatDoor
