/- The walks of the functions that lay an argument anew (to..). -/
import Derived.WalkSpells
import Derived.WalkLawsBesides
import Derived.Lib.Hide
import Derived.WalkKit
import Derived.Deep.Slices
import Derived.Deep.Fields
import Derived.ChangeSame
import Derived.Deep.Draws
import Derived.Lib.IndexBytes
import Derived.Test.YtoekllcfmnnibaaDoorProg
import Derived.Test.YtoekllcfmnnibaaDoorKind
namespace Go.Proofs.YtoekllcfmnnibaaDoor
open Go.RowKit D
set_option linter.unusedVariables false

theorem infoTerm : (Tryd.prog.info? 69).map (fun i => (i.zero, i.size, i.bytes)) = some (some (.agg #[.bool false, .string ⟨#[]⟩]), 2, 24) := by kernel_rfl


set_option maxHeartbeats 400000 in
theorem toTerm_any (t : T) (w : World) :
    Calls Tryd.prog 30 #[.agg #[.bool t.var, .string t.name]] w fun e w' => e = .returned (.agg #[.bool t.var, .string t.name]) ∧ Below w.heap.size w w' := by
  go_enter Tryd.func30, Tryd.ntmps30
  go_wp2
  exact bodyPost_ret (v := .agg #[.bool t.var, .string t.name]) (by simp [results, Tryd.results30, go_sem]) rfl ⟨rfl, by repeat (first | exact Below.refl _ _ | (refine Below.setCell ?_ (by first | (simp; done) | (simp; omega)) _) | (refine Below.alloc ?_ (by first | (simp; done) | (simp; omega)) _))⟩

set_option maxHeartbeats 400000 in
theorem toTermS_any (ts : List T) (v : Value) (bs : List Nat) (w : World) (h : termsK w [v] ts bs) (hn : ts.length ≤ 1048576) :
    Calls Tryd.prog 23 #[v] w (Makes termsK ts w.heap.size w) := by
  obtain ⟨Ad, cap, rfl, hl, hm⟩ := sliceK_form h
  obtain ⟨i0, hi, hz0, hz1, hz2⟩ := info_parts infoTerm
  clear hm
  go_enter Tryd.func23, Tryd.ntmps23
  go_wp2_with (refine wpList_make_full _ rfl _ _ _ rfl w.heap.size 69 i0 _ 2 Tryd.underlying30 hi hz0 hz1 _ _ _ _ ts.length rfl rfl rfl rfl (by rw [hz2]; omega) (by unfold maxLen; omega) (Nat.le_refl _) ?_; intro w1 hown hgrow)
  have hb1 : Below w.heap.size w w1 := (Below.refl _ _).grown hgrow (Nat.le_refl _) (fun _ e => by cases e)
  have hg1 : w.heap.size < w1.heap.size := (hown.lt _ rfl).2
  clear hgrow
  go_loopw [4] (fun i wr => ∃ (k : Nat) (L : List Value) (bs' : List Nat), k ≤ ts.length ∧ i = .int .i64 k ∧ wr.ownsRow w.heap.size 69 2 (.slice (some ⟨w.heap.size, 0, none⟩) ts.length ts.length) ts.length L ∧
      Filled 2 termK w1.heap.size wr L ts k bs' ∧ Below w.heap.size w wr ∧ w1.heap.size ≤ wr.heap.size) (fun i _ => ts.length - (intOf i).toNat)
  case atStart => exact ⟨0, _, _, Nat.zero_le _, rfl, hown, Filled.start, hb1, Nat.le_refl _⟩
  case round =>
    obtain ⟨k, L, bs', hk, rfl, how, hF, hb, hsz⟩ := hrel
    clear hown hb1
    by_cases hlt : k < ts.length
    · have hw := termsK_good.below h hb
      obtain ⟨b, o, rfl, _, c0, c1, hnm⟩ := terms_at hw hlt
      have HK := Lib.hid hF
      clear h hw hF
      have hL := Lib.hid how.1
      go_wp2_with (go_at_call 30; refine (toTerm_any _ _).mono ?_; rintro e w' ⟨rfl, hb'⟩; have how' := own_below how hb'; obtain ⟨⟨u0, hu0⟩, hf0⟩ := own_slot how' (j := k * 2) (by omega); obtain ⟨⟨u1, hu1⟩, hf1⟩ := own_slot how' (j := k * 2 + 1) (by omega))
      obtain ⟨R1, R2, R3, R4⟩ := fill2 termK_good how HK.out hlt hb hb' hg1 (Nat.le_refl _) hsz (a := .bool ts[k].var) (b := .string ts[k].name) (b2 := []) ⟨rfl, hnm, rfl⟩ (New.nil _ _)
      go_roundw
      case rel => exact ⟨k + 1, _, _, by omega, by go_num, R1, R2, R3, R4⟩
      case measure => simp [intOf]; omega
    · have he : k = ts.length := by omega
      subst he
      have HF := Lib.hid hF
      clear hF
      go_wp2
      go_ret
      obtain ⟨b2, r1, r2, r3, r4⟩ := HF.out.slice how (fun hm => by have := (HF.out.new.own _ hm).1; omega)
      refine ⟨hb, _, b2, rfl, r1, r2, fun b hb' => ⟨?_, r4 b hb'⟩⟩
      rcases r3 b hb' with ⟨rfl, h⟩ | h
      · exact h
      · have := (HF.out.new.own b h).1; omega

end Go.Proofs.YtoekllcfmnnibaaDoor
