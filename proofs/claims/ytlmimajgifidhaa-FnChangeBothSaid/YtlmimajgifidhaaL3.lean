/- The walks of l3Atom, l3Copy, l3Without, l3Put. -/
import Derived.WalkKit
import Derived.Lib.Hide
import Derived.WalkSpells
import Derived.WalkLawsBesides
import Derived.BigQuiet
import Derived.Deep.RegionHeld3
import Derived.Deep.RegionWith
import Derived.Deep.DrawnRows
import Derived.Deep.AppendLies
import Derived.Outline
import Derived.Test.YtlmimajgifidhaaProg
import Derived.Test.YtlmimajgifidhaaKind
import Derived.Test.YtlmimajgifidhaaCopy
import Derived.Test.YtlmimajgifidhaaAt
namespace Go.Proofs.Ytlmimajgifidhaa
open Go.RowKit D
set_option linter.unusedVariables false
attribute [local go_sem ↓] Go.wp_at_zero Go.wp_at_succ

theorem D.row_lies {α : Type} {n : Nat} {R : Rel α} {w w' : World} {Ad : Option Addr} {L : List Value} {xs : List α} {b2 bs : List Nat} (h : Rowed n R w L xs b2) (hn : 0 < n)
    (hs : xs ≠ [] → ∃ b o, Ad = some ⟨b, o, none⟩ ∧ b ∈ bs ∧ ∀ j u, L[j]? = some u → w.cell? ⟨b, o + j, none⟩ = some u) (hlt : ∀ b ∈ bs, b < w.heap.size) (hb : Below w.heap.size w w') : Lies w' Ad L := by
  by_cases hx : xs = []
  · have : L = [] := List.length_eq_zero_iff.1 (by rw [h.len, hx]; simp)
    rw [this]; exact Lies.nil _ _
  · obtain ⟨b, o, rfl, hbb, hc⟩ := hs hx
    exact Lies.mk fun j u hj => (hb.cell (p := ⟨b, o + j, none⟩) (hlt b hbb)).trans (hc j u hj)

theorem D.own_two {a k n c o : Nat} (e : (Value.slice (some ⟨a + 1 + 1, o, none⟩) n c).ownBlock = some k) : a ≤ k := by
  have : a + 1 + 1 = k := by simpa [Value.ownBlock] using e
  omega
theorem D.own_ne {a b o n c : Nat} (h : a ≠ b) : (some a : Option Nat) ≠ (Value.slice (some ⟨b, o, none⟩) n c).ownBlock := fun e => h (by simpa [Value.ownBlock] using e)

set_option maxRecDepth 100000 in
set_option maxHeartbeats 1000000 in
theorem l3Atom_any (a : A) (c0 c1 : Value) (bs : List Nat) (w : World) (h : atomK w [c0, c1] a bs) (hn : a.args.length ≤ 16777216) :
    Calls Try.prog 72 #[.agg #[c0, c1]] w (MakesA atomK a w.heap.size w) := by
  have ht := atom_args h
  have hnm : a.name.size ≤ maxLen := by obtain ⟨_, _, hn, _⟩ := h; exact hn
  obtain ⟨Ad, cap, rfl, rfl⟩ := atom_cells2 h
  obtain ⟨i0, hi, hz0, hz1, hz2⟩ := info_parts infoTerm3
  obtain ⟨L, b2, hrow, _, hsrc⟩ := sliceK_row termK_ones (by omega) ht
  have HL := Lib.hid (fun w' (hb : Below w.heap.size w w') => row_lies hrow (by omega) hsrc (termsK_good.lt ht) hb)
  have HR := Lib.hid hrow
  clear h ht hrow hsrc
  have hA := ((Below.refl w.heap.size w).alloc (Nat.le_refl _) (.cells #[.string a.name, .slice Ad a.args.length cap] 45)).alloc (by simp) (.cells #[.string ⟨#[]⟩, .slice none 0 0] 45)
  have HE : Hid ((((w.alloc (.cells #[.string a.name, .slice Ad a.args.length cap] 45)).alloc (.cells #[.string ⟨#[]⟩, .slice none 0 0] 45)).alloc (.cells #[] 90)).heap[w.heap.size + 1 + 1]? = some (.cells #[] 90 (0, 0))) := Lib.hid (by
    have := heap_alloc_new ((w.alloc (.cells #[.string a.name, .slice Ad a.args.length cap] 45)).alloc (.cells #[.string ⟨#[]⟩, .slice none 0 0] 45)) (.cells #[] 90)
    simpa using this)
  have HO : Hid ((((w.alloc (.cells #[.string a.name, .slice Ad a.args.length cap] 45)).alloc (.cells #[.string ⟨#[]⟩, .slice none 0 0] 45)).alloc (.cells #[] 90)).ownsRow (w.heap.size + 2) 90 2 (.slice (some ⟨w.heap.size + 1 + 1, 0, none⟩) 0 0) 0 []) := Lib.hid (own_empty HE.out (by omega))
  have HI : Hid (Lies (((w.alloc (.cells #[.string a.name, .slice Ad a.args.length cap] 45)).alloc (.cells #[.string ⟨#[]⟩, .slice none 0 0] 45)).alloc (.cells #[] 90)) Ad L) := Lib.hid (HL.out _ (hA.alloc (by simp <;> omega) _))
  have hlen := HR.out.len
  have hone := HR.out.one
  have h63 : 0 + a.args.length ≤ maxLen := by unfold maxLen; omega
  have hby : (0 + a.args.length) * 24 ≤ 140737488355328 := by omega
  have hbs : w.heap.size + 2 ≤ (((w.alloc (.cells #[.string a.name, .slice Ad a.args.length cap] 45)).alloc (.cells #[.string ⟨#[]⟩, .slice none 0 0] 45)).alloc (.cells #[] 90)).heap.size := by simp
  have H1 := Lib.hid hlen
  have H2 := Lib.hid hone
  have H3 := Lib.hid h63
  have H4 := Lib.hid hby
  have H5 := Lib.hid hbs
  have X0 : Hid ((((w.alloc (.cells #[.string a.name, .slice Ad a.args.length cap] 45)).alloc (.cells #[.string ⟨#[]⟩, .slice none 0 0] 45)).alloc (.cells #[] 90)).cell? ⟨w.heap.size, 0, none⟩ = some (.string a.name)) := Lib.hid (by go_simp)
  have X1 : Hid ((((w.alloc (.cells #[.string a.name, .slice Ad a.args.length cap] 45)).alloc (.cells #[.string ⟨#[]⟩, .slice none 0 0] 45)).alloc (.cells #[] 90)).cell? ⟨w.heap.size, 1, none⟩ = some (.slice Ad a.args.length cap)) := Lib.hid (by go_simp)
  have X2 : Hid ((((w.alloc (.cells #[.string a.name, .slice Ad a.args.length cap] 45)).alloc (.cells #[.string ⟨#[]⟩, .slice none 0 0] 45)).alloc (.cells #[] 90)).cell? ⟨w.heap.size + 1, 0, none⟩ = some (.string ⟨#[]⟩)) := Lib.hid (by go_simp)
  have X3 : Hid ((((w.alloc (.cells #[.string a.name, .slice Ad a.args.length cap] 45)).alloc (.cells #[.string ⟨#[]⟩, .slice none 0 0] 45)).alloc (.cells #[] 90)).cell? ⟨w.heap.size + 1, 1, none⟩ = some (.slice none 0 0)) := Lib.hid (by go_simp)
  have F0 : Hid ((((w.alloc (.cells #[.string a.name, .slice Ad a.args.length cap] 45)).alloc (.cells #[.string ⟨#[]⟩, .slice none 0 0] 45)).alloc (.cells #[] 90)).frozen? ⟨w.heap.size + 1, 0, none⟩ = false) := Lib.hid (by go_simp)
  have F1 : Hid ((((w.alloc (.cells #[.string a.name, .slice Ad a.args.length cap] 45)).alloc (.cells #[.string ⟨#[]⟩, .slice none 0 0] 45)).alloc (.cells #[] 90)).frozen? ⟨w.heap.size + 1, 1, none⟩ = false) := Lib.hid (by go_simp)
  clear hlen hone h63 hby hbs HE HL
  go_enter Try.func72, Try.ntmps72
  go_wp2
  go_region_held3 (fun w' => w'.cell? ⟨w.heap.size, 0, none⟩ = some (.string a.name) ∧ w'.cell? ⟨w.heap.size, 1, none⟩ = some (.slice Ad a.args.length cap))
    (first | go_keep | exact ⟨q0, q1⟩)
    ((refine step_app (by rfl) _ _ _ (by rfl) (w.heap.size + 2) 90 i0 (.agg #[.bool false, .string ⟨#[]⟩]) 2 24 Try.underlying43 hi hz0 hz1 hz2 rfl (by omega) (.slice (some ⟨w.heap.size + 1 + 1, 0, none⟩) 0 0) 0 [] (by rfl) HO.out Ad a.args.length cap L (by rfl) H1.out HI.out H2.out H3.out H4.out H5.out ?_; intro A1 cp w1 hown hgrow hloc; clear hloc; simp only [Nat.zero_add, List.nil_append] at hown ⊢; have q0 := hgrow.cell X0.out (own_ne (a := w.heap.size) (b := w.heap.size + 1 + 1) (by omega)); have q1 := hgrow.cell X1.out (own_ne (a := w.heap.size) (b := w.heap.size + 1 + 1) (by omega)); have q2 := hgrow.cell X2.out (own_ne (a := w.heap.size + 1) (b := w.heap.size + 1 + 1) (by omega)); have q3 := hgrow.cell X3.out (own_ne (a := w.heap.size + 1) (b := w.heap.size + 1 + 1) (by omega)); have g0 := (hgrow.frozen_far _ (lt_of_cell X2.out) (own_ne (a := w.heap.size + 1) (b := w.heap.size + 1 + 1) (by omega))).trans F0.out; have g1 := (hgrow.frozen_far _ (lt_of_cell X3.out) (own_ne (a := w.heap.size + 1) (b := w.heap.size + 1 + 1) (by omega))).trans F1.out))
  obtain ⟨b3, hR3, hN3⟩ := terms_own HR.out hown
  have hne : ∀ c ∈ b3, c ≠ w.heap.size + 1 := fun c hc e => by have := (hN3.own c hc).1; omega
  have B2 : Below w.heap.size w w1 := (hA.alloc (by simp <;> omega) _).drew.grown hgrow (by simp <;> omega) (fun k e => own_two e)
  go_wp2
  refine bodyPost_ret (v := .agg #[.string a.name, .slice A1 a.args.length cp]) (by simp [results, Try.results72, go_sem, q2, q3]) rfl ⟨(B2.setCell (by simp) _).setCell (by simp) _, _, b3, rfl, ⟨_, rfl, hnm, termsK_good.keep hR3 fun c hc => ?_⟩, (hN3.mono (by omega)).keep fun c hc => ?_⟩
  all_goals rw [Below.heap_setCell _ _ _ _ (hne c hc), Below.heap_setCell _ _ _ _ (hne c hc)]

set_option maxHeartbeats 1000000 in
theorem l3Copy_any (ts : List A) (v : Value) (bs : List Nat) (w : World) (h : atomsK w [v] ts bs) (hn : ts.length ≤ 16777216) (ha : ∀ a ∈ ts, a.args.length ≤ 16777216) :
    Calls Try.prog 63 #[v] w (Reads atomsK ts w.heap.size w) := by
  obtain ⟨Ad, cap, rfl, hl, hm⟩ := sliceK_form h
  obtain ⟨i0, hi, hz0, hz1, hz2⟩ := info_parts infoAtom3
  clear hm
  have hA : Below w.heap.size w (w.alloc (.cells #[] 45)) := (Below.refl _ _).alloc (Nat.le_refl _) _
  have hst := Coll.empty (n := 2) (R := atomK) (e := 45) (heap_alloc_new w (.cells #[] 45)) (Nat.le_refl w.heap.size)
  go_enter Try.func63, Try.ntmps63
  go_wp2
  go_loopw [3, 4] (fun v i wr => ∃ (k : Nat) (A : Option Addr) (cp : Nat) (L : List Value) (b2 : List Nat), k ≤ ts.length ∧ i = .int .i64 k ∧ v = .slice A k cp ∧ Coll 2 atomK w.heap.size 45 wr (.slice A k cp) L (ts.take k) b2 ∧ Below w.heap.size w wr) (fun _ i _ => ts.length - (intOf i).toNat)
  case atStart => exact ⟨0, _, _, _, _, Nat.zero_le _, rfl, rfl, hst, hA⟩
  case round =>
    obtain ⟨k, A, cp, L, b2, hk, rfl, rfl, hC, hb⟩ := hrel
    clear hst hA
    by_cases hlt : k < ts.length
    · have HLT := Lib.hid hlt
      obtain ⟨b, o, Ae, ce, bk, rfl, _, c0, c1, hel, _⟩ := atoms_el (atomsK_good.below h hb) hlt
      have hle : ts[k].args.length ≤ 16777216 := ha _ (List.getElem_mem _)
      have hk0 : (0 : Int) ≤ (k : Int) := by omega
      have hk1 : (k : Int) < (ts.length : Int) := by omega
      have HT : Hid (ts.take (k + 1) = ts.take k ++ [ts[k]]) := Lib.hid (List.take_succ_eq_append_getElem hlt)
      have hc := l3Atom_any ts[k] _ _ bk _ hel hle
      have HC := Lib.hid hC
      clear h ha hC
      go_wp2_with fail
      refine hc.mono ?_
      rintro e w1 ⟨hb1, cs', b3, rfl, hR, hN⟩
      obtain ⟨Ae', ce', rfl⟩ := atom_cells hR
      clear hel hc
      have hlen : (ts.take k).length = k := by rw [List.length_take]; omega
      have hb2 : Below wr.heap.size wr (w1.alloc (.cells #[.string ts[k].name, .slice Ae' ts[k].args.length ce'] 45)) := hb1.alloc hb1.size _
      have hA2 : Below w1.heap.size w1 (w1.alloc (.cells #[.string ts[k].name, .slice Ae' ts[k].args.length ce'] 45)) := (Below.refl _ _).alloc (Nat.le_refl _) _
      have hC2 := HC.out.below atomK_good hb2
      have hR2 := atomK_good.below hR hA2
      have hL : Lies (w1.alloc (.cells #[.string ts[k].name, .slice Ae' ts[k].args.length ce'] 45)) (some ⟨w1.heap.size, 0, none⟩) [.string ts[k].name, .slice Ae' ts[k].args.length ce'] := lies_block (heap_alloc_new w1 _)
      have HC2 := Lib.hid hC2
      have HO2 : Hid ((w1.alloc (.cells #[.string ts[k].name, .slice Ae' ts[k].args.length ce'] 45)).ownsRow w.heap.size 45 2 (.slice A k cp) k L) := Lib.hid (by have := hC2.own; rw [hlen] at this; exact this)
      have HL := Lib.hid hL
      have HR2 := Lib.hid hR2
      have hsz := hb2.size
      clear hC2 hL hR2 hlen
      go_wp2_with (at_builtin; refine wpList_app rfl _ _ _ rfl w.heap.size 45 i0 (.agg #[.string ⟨#[]⟩, .slice none 0 0]) 2 40 Try.underlying26 hi hz0 hz1 hz2 rfl (by omega) (.slice A k cp) k L rfl HO2.out (some ⟨w1.heap.size, 0, none⟩) 1 1 [.string ts[k].name, .slice Ae' ts[k].args.length ce'] rfl rfl HL.out (by simp [Value.oneCell']) (by unfold maxLen; omega) (by omega) (Nat.le_trans hb.size hsz) ?_; intro A2 cp2 w2 hown2 hgrow2 hloc2)
      have hlen : (ts.take k).length = k := by rw [List.length_take]; omega
      have hfar : ∀ b ∈ b3, (Value.slice A k cp).ownBlock ≠ some b := fun b hb' => own_block_lt HC.out.own (hN.own b hb').1
      have C3 := HC2.out.app atomK_good (Rowed.one_el atomK_ones HR2.out) hfar (by rw [hlen]; exact hown2) hgrow2 hloc2
      have B3 := own_grown (hb.trans (hb2.mono hb.size)) HO2.out (Nat.le_refl _) (Nat.le_trans hb.size hsz) hgrow2
      clear hown2 hgrow2 hloc2 hfar hlen hR hN
      have H3 := Lib.hid C3
      clear C3
      go_wp2
      go_roundw
      case rel => exact ⟨k + 1, A2, cp2, _, _, HLT.out, by go_num, rfl, by rw [HT.out]; exact H3.out, B3⟩
      case measure => have := HLT.out; simp [intOf]; omega
    · have he : k = ts.length := by omega
      subst he
      rw [List.take_of_length_le (Nat.le_refl _)] at hC
      obtain ⟨b3, hs, _⟩ := hC.slice
      have HS := Lib.hid hs
      clear hC hs
      go_wp2
      go_ret
      exact ⟨hb, _, b3, rfl, HS.out⟩

end Go.Proofs.Ytlmimajgifidhaa
