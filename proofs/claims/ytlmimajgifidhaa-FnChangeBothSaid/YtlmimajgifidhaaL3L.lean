/- The walk of l3Less. -/
import Derived.WalkKit
import Derived.Lib.Hide
import Derived.WalkSpells
import Derived.WalkLawsBesides
import Derived.BigQuiet
import Derived.Deep.RegionHeld3
import Derived.Deep.RegionWith
import Derived.Deep.DrawnRows
import Derived.Deep.AppendLies
import Derived.Test.YtlmimajgifidhaaProg
import Derived.Test.YtlmimajgifidhaaKind
import Derived.Test.YtlmimajgifidhaaL3
import Derived.Test.YtlmimajgifidhaaAt
import Derived.Test.YtlmimajgifidhaaAtH
namespace Go.Proofs.Ytlmimajgifidhaa
open Go.RowKit D
set_option linter.unusedVariables false
attribute [local go_sem ↓] Go.wp_at_zero Go.wp_at_succ

theorem D.less_snoc (xs ys : List A) (k : Nat) (h : k < xs.length) : lessL (xs.take (k + 1)) ys = if hasB ys xs[k] then lessL (xs.take k) ys else lessL (xs.take k) ys ++ [xs[k]] := by
  unfold lessL
  rw [List.take_succ_eq_append_getElem h, List.filter_append]
  cases h' : hasB ys xs[k] <;> simp [h']
theorem D.less_snoc_no (xs ys : List A) (k : Nat) (h : k < xs.length) (e : hasB ys xs[k] = false) : lessL (xs.take (k + 1)) ys = lessL (xs.take k) ys ++ [xs[k]] := by rw [less_snoc xs ys k h, e]; rfl
theorem D.less_snoc_yes (xs ys : List A) (k : Nat) (h : k < xs.length) (e : hasB ys xs[k] = true) : lessL (xs.take (k + 1)) ys = lessL (xs.take k) ys := by rw [less_snoc xs ys k h, e]; rfl
theorem D.less_length (xs ys : List A) : (lessL xs ys).length ≤ xs.length := List.length_filter_le _ _

set_option maxHeartbeats 1000000 in
theorem l3Less_own (xs ys : List A) (v1 v2 : Value) (bs1 bs2 : List Nat) (w : World) (h : atomsK w [v1] xs bs1) (h2 : atomsK w [v2] ys bs2) (hs : asc ys = true) (hn : xs.length ≤ 16777216) (ha : ∀ a ∈ xs, a.args.length ≤ 16777216) :
    Calls Try.prog 48 #[v1, v2] w fun e w' => Below w.heap.size w w' ∧ ∃ v L b9, e = .returned v ∧ Coll 2 atomK w.heap.size 45 w' v L (lessL xs ys) b9 ∧ ∀ c ∈ b9, w.heap.size ≤ c := by
  obtain ⟨Ad, cap, rfl, hl, hm⟩ := sliceK_form h
  obtain ⟨Ad2, cap2, rfl, hl2, hm2⟩ := sliceK_form h2
  obtain ⟨i0, hi, hz0, hz1, hz2⟩ := info_parts infoAtom3
  clear hm hm2
  have hA : Below w.heap.size w (w.alloc (.cells #[] 45)) := (Below.refl _ _).alloc (Nat.le_refl _) _
  have hst := Coll.empty (n := 2) (R := atomK) (e := 45) (heap_alloc_new w (.cells #[] 45)) (Nat.le_refl w.heap.size)
  go_enter Try.func48, Try.ntmps48
  go_wp2
  go_loopw [5, 6] (fun v i wr => ∃ (k m : Nat) (A : Option Addr) (cp : Nat) (L : List Value) (b2 : List Nat), k ≤ xs.length ∧ i = .int .i64 k ∧ v = .slice A m cp ∧ m = (lessL (xs.take k) ys).length ∧ Coll 2 atomK w.heap.size 45 wr (.slice A m cp) L (lessL (xs.take k) ys) b2 ∧ Below w.heap.size w wr ∧ ∀ c ∈ b2, w.heap.size ≤ c) (fun _ i _ => xs.length - (intOf i).toNat)
  case atStart => exact ⟨0, 0, _, _, _, _, Nat.zero_le _, rfl, rfl, rfl, hst, hA, fun c hc => by simp at hc⟩
  case round =>
    obtain ⟨k, m, A, cp, L, b2, hk, rfl, rfl, hme, hC, hb, hfar⟩ := hrel
    have HFR := Lib.hid hfar
    clear hfar
    clear hst hA
    have hml : m ≤ 16777216 := by have := less_length (xs.take k) ys; rw [List.length_take] at this; omega
    have HM := Lib.hid hme
    clear hme
    by_cases hlt : k < xs.length
    · have HLT := Lib.hid hlt
      obtain ⟨b, o, Ae, ce, bk, rfl, _, c0, c1, hel, _⟩ := atoms_el (atomsK_good.below h hb) hlt
      have hle : xs[k].args.length ≤ 16777216 := ha _ (List.getElem_mem _)
      have hk0 : (0 : Int) ≤ (k : Int) := by omega
      have hk1 : (k : Int) < (xs.length : Int) := by omega
      have HTf : Hid (hasB ys xs[k] = false → lessL (xs.take (k + 1)) ys = lessL (xs.take k) ys ++ [xs[k]]) := Lib.hid (fun e => less_snoc_no xs ys k hlt e)
      have HTt : Hid (hasB ys xs[k] = true → lessL (xs.take (k + 1)) ys = lessL (xs.take k) ys) := Lib.hid (fun e => less_snoc_yes xs ys k hlt e)
      have hh := l3Has_any ys xs[k] _ _ _ bs2 bk wr (atomsK_good.below h2 hb) hel hs
      have hc := fun w' (hb' : Below wr.heap.size wr w') => l3Atom_any xs[k] _ _ bk w' (atomK_good.below hel hb') hle
      have HC := Lib.hid hC
      clear h h2 ha hC hel
      go_wp2_with fail
      refine hh.mono ?_
      rintro e w0 ⟨rfl, hb0⟩
      have B0 := hb.trans (hb0.mono hb.size)
      have e0 := cell_later hb0 c0
      have e1 := cell_later hb0 c1
      clear hh
      cases hhv : hasB ys xs[k]
      · have HT2 : Hid (lessL (xs.take (k + 1)) ys = lessL (xs.take k) ys ++ [xs[k]]) := Lib.hid (HTf.out hhv)
        have hc2 := hc _ hb0
        have HC0 := Lib.hid (HC.out.below atomK_good hb0)
        clear hhv HTf HTt hc
        go_wp2_with fail
        refine hc2.mono ?_
        rintro e w1 ⟨hb1, cs', b3, rfl, hR, hN⟩
        obtain ⟨Ae', ce', rfl⟩ := atom_cells hR
        clear hc2
        have hA2 : Below w1.heap.size w1 (w1.alloc (.cells #[.string xs[k].name, .slice Ae' xs[k].args.length ce'] 45)) := (Below.refl _ _).alloc (Nat.le_refl _) _
        have hb2 : Below w0.heap.size w0 (w1.alloc (.cells #[.string xs[k].name, .slice Ae' xs[k].args.length ce'] 45)) := hb1.alloc hb1.size _
        have HB2 := Lib.hid (B0.trans (hb2.mono B0.size))
        have HC2 := Lib.hid (HC0.out.below atomK_good hb2)
        have HL := Lib.hid (lies_block (heap_alloc_new w1 (.cells #[.string xs[k].name, .slice Ae' xs[k].args.length ce'] 45)))
        have HR2 := Lib.hid (Rowed.one_el (n := 2) (R := atomK) atomK_ones (atomK_good.below hR hA2))
        have HF : Hid (∀ b ∈ b3, (Value.slice A m cp).ownBlock ≠ some b) := Lib.hid (fun b hb' => own_block_lt HC0.out.own (hN.own b hb').1)
        have HF3 : Hid (∀ c ∈ b2 ++ b3, w.heap.size ≤ c) := Lib.hid (fun c hc => (List.mem_append.1 hc).elim (HFR.out c) (fun h9 => Nat.le_trans B0.size (hN.own c h9).1))
        have HM2 : Hid ((lessL (xs.take k) ys).length = m) := Lib.hid HM.out.symm
        clear hb2 hA2 hR hN
        go_wp2_with (at_builtin; refine wpList_coll rfl _ _ _ rfl w.heap.size 45 i0 (.agg #[.string ⟨#[]⟩, .slice none 0 0]) 2 40 Try.underlying26 hi hz0 hz1 hz2 rfl (by omega) atomK_good (.slice A m cp) m _ _ _ rfl HC2.out HM2.out (some ⟨w1.heap.size, 0, none⟩) 1 1 _ [xs[k]] _ rfl HR2.out rfl HL.out HF.out (by unfold maxLen; omega) (by omega) w w.heap.size HB2.out (Nat.le_refl _) HB2.out.size ?_; intro A2 cp2 w2 hC3 hB3 hS3 _)
        have HC3 := Lib.hid hC3
        clear hC3
        go_wp2
        go_roundw
        case rel => exact ⟨k + 1, m + 1, A2, cp2, _, _, HLT.out, by go_num, rfl, by rw [HT2.out, List.length_append, HM2.out]; rfl, by rw [HT2.out]; exact HC3.out, hB3, HF3.out⟩
        case measure => have := HLT.out; simp [intOf]; omega
      · have HT2 : Hid (lessL (xs.take (k + 1)) ys = lessL (xs.take k) ys) := Lib.hid (HTt.out hhv)
        have HC0 := Lib.hid (HC.out.below atomK_good hb0)
        clear hhv HTf HTt hc
        go_wp2
        go_roundw
        case rel => exact ⟨k + 1, m, A, cp, L, b2, HLT.out, by go_num, rfl, by rw [HT2.out]; exact HM.out, by rw [HT2.out]; exact HC0.out, B0, HFR.out⟩
        case measure => have := HLT.out; simp [intOf]; omega
    · have he : k = xs.length := by omega
      subst he
      rw [List.take_of_length_le (Nat.le_refl _)] at hC
      have HS := Lib.hid hC
      clear hC
      go_wp2
      go_ret
      exact ⟨hb, _, L, b2, rfl, HS.out, HFR.out⟩

theorem l3Less_any (xs ys : List A) (v1 v2 : Value) (bs1 bs2 : List Nat) (w : World) (h : atomsK w [v1] xs bs1) (h2 : atomsK w [v2] ys bs2) (hs : asc ys = true) (hn : xs.length ≤ 16777216) (ha : ∀ a ∈ xs, a.args.length ≤ 16777216) :
    Calls Try.prog 48 #[v1, v2] w (Reads atomsK (lessL xs ys) w.heap.size w) :=
  (l3Less_own xs ys v1 v2 bs1 bs2 w h h2 hs hn ha).mono fun e w' ⟨h1, v, L, b9, h2, h3, _⟩ => by
    obtain ⟨b3, hs3, _⟩ := h3.slice
    exact ⟨h1, v, b3, h2, hs3⟩

end Go.Proofs.Ytlmimajgifidhaa
