/- The walks of l3Atom, l3Copy, l3Without, l3Put. -/
import Derived.WalkKit
import Derived.Lib.Hide
import Derived.WalkSpells
import Derived.WalkLawsBesides
import Derived.BigQuiet
import Derived.Deep.RegionHeld3
import Derived.Deep.RegionWith
import Derived.Deep.DrawnRows
import Derived.Deep.AppendLies
import Derived.Outline
import Derived.Test.YtadnimchnmkajaaProg
import Derived.Test.YtadnimchnmkajaaFp
import Derived.Test.YtadnimchnmkajaaSet
import Derived.Test.YtadnimchnmkajaaCopy
import Derived.Test.YtadnimchnmkajaaAt
namespace Go.Proofs.Ytadnimchnmkajaa
open Go.RowKit D
set_option linter.unusedVariables false
attribute [local go_sem ↓] Go.wp_at_zero Go.wp_at_succ

theorem D.row_lies {α : Type} {n : Nat} {R : Rel α} {w w' : World} {Ad : Option Addr} {L : List Value} {xs : List α} {b2 bs : List Nat} (h : Rowed n R w L xs b2) (hn : 0 < n)
    (hs : xs ≠ [] → ∃ b o, Ad = some ⟨b, o, none⟩ ∧ b ∈ bs ∧ ∀ j u, L[j]? = some u → w.cell? ⟨b, o + j, none⟩ = some u) (hlt : ∀ b ∈ bs, b < w.heap.size) (hb : Below w.heap.size w w') : Lies w' Ad L := by
  by_cases hx : xs = []
  · have : L = [] := List.length_eq_zero_iff.1 (by rw [h.len, hx]; simp)
    rw [this]; exact Lies.nil _ _
  · obtain ⟨b, o, rfl, hbb, hc⟩ := hs hx
    exact Lies.mk fun j u hj => (hb.cell (p := ⟨b, o + j, none⟩) (hlt b hbb)).trans (hc j u hj)

theorem D.own_two {a k n c o : Nat} (e : (Value.slice (some ⟨a + 1 + 1, o, none⟩) n c).ownBlock = some k) : a ≤ k := by
  have : a + 1 + 1 = k := by simpa [Value.ownBlock] using e
  omega
theorem D.own_ne {a b o n c : Nat} (h : a ≠ b) : (some a : Option Nat) ≠ (Value.slice (some ⟨b, o, none⟩) n c).ownBlock := fun e => h (by simpa [Value.ownBlock] using e)

set_option maxRecDepth 100000 in
set_option maxHeartbeats 1000000 in
theorem l3Atom_any (a : A) (c0 c1 : Value) (bs : List Nat) (w : World) (h : atomK w [c0, c1] a bs) (hn : a.args.length ≤ 16777216) :
    Calls Try.prog 45 #[.agg #[c0, c1]] w (MakesA atomK a w.heap.size w) := by
  have ht := atom_args h
  have hnm : a.name.size ≤ maxLen := by obtain ⟨_, _, hn, _⟩ := h; exact hn
  obtain ⟨Ad, cap, rfl, rfl⟩ := atom_cells2 h
  obtain ⟨i0, hi, hz0, hz1, hz2⟩ := info_parts infoTerm3
  obtain ⟨L, b2, hrow, _, hsrc⟩ := sliceK_row termK_ones (by omega) ht
  have HL := Lib.hid (fun w' (hb : Below w.heap.size w w') => row_lies hrow (by omega) hsrc (termsK_good.lt ht) hb)
  have HR := Lib.hid hrow
  clear h ht hrow hsrc
  have hA := ((Below.refl w.heap.size w).alloc (Nat.le_refl _) (.cells #[.string a.name, .slice Ad a.args.length cap] 34)).alloc (by simp) (.cells #[.string ⟨#[]⟩, .slice none 0 0] 34)
  have HE : Hid ((((w.alloc (.cells #[.string a.name, .slice Ad a.args.length cap] 34)).alloc (.cells #[.string ⟨#[]⟩, .slice none 0 0] 34)).alloc (.cells #[] 67)).heap[w.heap.size + 1 + 1]? = some (.cells #[] 67 (0, 0))) := Lib.hid (by
    have := heap_alloc_new ((w.alloc (.cells #[.string a.name, .slice Ad a.args.length cap] 34)).alloc (.cells #[.string ⟨#[]⟩, .slice none 0 0] 34)) (.cells #[] 67)
    simpa using this)
  have HO : Hid ((((w.alloc (.cells #[.string a.name, .slice Ad a.args.length cap] 34)).alloc (.cells #[.string ⟨#[]⟩, .slice none 0 0] 34)).alloc (.cells #[] 67)).ownsRow (w.heap.size + 2) 67 2 (.slice (some ⟨w.heap.size + 1 + 1, 0, none⟩) 0 0) 0 []) := Lib.hid (own_empty HE.out (by omega))
  have HI : Hid (Lies (((w.alloc (.cells #[.string a.name, .slice Ad a.args.length cap] 34)).alloc (.cells #[.string ⟨#[]⟩, .slice none 0 0] 34)).alloc (.cells #[] 67)) Ad L) := Lib.hid (HL.out _ (hA.alloc (by simp <;> omega) _))
  have hlen := HR.out.len
  have hone := HR.out.one
  have h63 : 0 + a.args.length ≤ maxLen := by unfold maxLen; omega
  have hby : (0 + a.args.length) * 24 ≤ 140737488355328 := by omega
  have hbs : w.heap.size + 2 ≤ (((w.alloc (.cells #[.string a.name, .slice Ad a.args.length cap] 34)).alloc (.cells #[.string ⟨#[]⟩, .slice none 0 0] 34)).alloc (.cells #[] 67)).heap.size := by simp
  have H1 := Lib.hid hlen
  have H2 := Lib.hid hone
  have H3 := Lib.hid h63
  have H4 := Lib.hid hby
  have H5 := Lib.hid hbs
  have X0 : Hid ((((w.alloc (.cells #[.string a.name, .slice Ad a.args.length cap] 34)).alloc (.cells #[.string ⟨#[]⟩, .slice none 0 0] 34)).alloc (.cells #[] 67)).cell? ⟨w.heap.size, 0, none⟩ = some (.string a.name)) := Lib.hid (by go_simp)
  have X1 : Hid ((((w.alloc (.cells #[.string a.name, .slice Ad a.args.length cap] 34)).alloc (.cells #[.string ⟨#[]⟩, .slice none 0 0] 34)).alloc (.cells #[] 67)).cell? ⟨w.heap.size, 1, none⟩ = some (.slice Ad a.args.length cap)) := Lib.hid (by go_simp)
  have X2 : Hid ((((w.alloc (.cells #[.string a.name, .slice Ad a.args.length cap] 34)).alloc (.cells #[.string ⟨#[]⟩, .slice none 0 0] 34)).alloc (.cells #[] 67)).cell? ⟨w.heap.size + 1, 0, none⟩ = some (.string ⟨#[]⟩)) := Lib.hid (by go_simp)
  have X3 : Hid ((((w.alloc (.cells #[.string a.name, .slice Ad a.args.length cap] 34)).alloc (.cells #[.string ⟨#[]⟩, .slice none 0 0] 34)).alloc (.cells #[] 67)).cell? ⟨w.heap.size + 1, 1, none⟩ = some (.slice none 0 0)) := Lib.hid (by go_simp)
  have F0 : Hid ((((w.alloc (.cells #[.string a.name, .slice Ad a.args.length cap] 34)).alloc (.cells #[.string ⟨#[]⟩, .slice none 0 0] 34)).alloc (.cells #[] 67)).frozen? ⟨w.heap.size + 1, 0, none⟩ = false) := Lib.hid (by go_simp)
  have F1 : Hid ((((w.alloc (.cells #[.string a.name, .slice Ad a.args.length cap] 34)).alloc (.cells #[.string ⟨#[]⟩, .slice none 0 0] 34)).alloc (.cells #[] 67)).frozen? ⟨w.heap.size + 1, 1, none⟩ = false) := Lib.hid (by go_simp)
  clear hlen hone h63 hby hbs HE HL
  go_enter Try.func45, Try.ntmps45
  go_wp2
  go_region_held3 (fun w' => w'.cell? ⟨w.heap.size, 0, none⟩ = some (.string a.name) ∧ w'.cell? ⟨w.heap.size, 1, none⟩ = some (.slice Ad a.args.length cap))
    (first | go_keep | exact ⟨q0, q1⟩)
    ((refine step_app (by rfl) _ _ _ (by rfl) (w.heap.size + 2) 67 i0 (.agg #[.bool false, .string ⟨#[]⟩]) 2 24 Try.underlying32 hi hz0 hz1 hz2 rfl (by omega) (.slice (some ⟨w.heap.size + 1 + 1, 0, none⟩) 0 0) 0 [] (by rfl) HO.out Ad a.args.length cap L (by rfl) H1.out HI.out H2.out H3.out H4.out H5.out ?_; intro A1 cp w1 hown hgrow hloc; clear hloc; simp only [Nat.zero_add, List.nil_append] at hown ⊢; have q0 := hgrow.cell X0.out (own_ne (a := w.heap.size) (b := w.heap.size + 1 + 1) (by omega)); have q1 := hgrow.cell X1.out (own_ne (a := w.heap.size) (b := w.heap.size + 1 + 1) (by omega)); have q2 := hgrow.cell X2.out (own_ne (a := w.heap.size + 1) (b := w.heap.size + 1 + 1) (by omega)); have q3 := hgrow.cell X3.out (own_ne (a := w.heap.size + 1) (b := w.heap.size + 1 + 1) (by omega)); have g0 := (hgrow.frozen_far _ (lt_of_cell X2.out) (own_ne (a := w.heap.size + 1) (b := w.heap.size + 1 + 1) (by omega))).trans F0.out; have g1 := (hgrow.frozen_far _ (lt_of_cell X3.out) (own_ne (a := w.heap.size + 1) (b := w.heap.size + 1 + 1) (by omega))).trans F1.out))
  obtain ⟨b3, hR3, hN3⟩ := terms_own HR.out hown
  have hne : ∀ c ∈ b3, c ≠ w.heap.size + 1 := fun c hc e => by have := (hN3.own c hc).1; omega
  have B2 : Below w.heap.size w w1 := (hA.alloc (by simp <;> omega) _).drew.grown hgrow (by simp <;> omega) (fun k e => own_two e)
  go_wp2
  refine bodyPost_ret (v := .agg #[.string a.name, .slice A1 a.args.length cp]) (by simp [results, Try.results45, go_sem, q2, q3]) rfl ⟨(B2.setCell (by simp) _).setCell (by simp) _, _, b3, rfl, ⟨_, rfl, hnm, termsK_good.keep hR3 fun c hc => ?_⟩, (hN3.mono (by omega)).keep fun c hc => ?_⟩
  all_goals rw [Below.heap_setCell _ _ _ _ (hne c hc), Below.heap_setCell _ _ _ _ (hne c hc)]

set_option maxHeartbeats 1000000 in
theorem l3Copy_any (ts : List A) (v : Value) (bs : List Nat) (w : World) (h : atomsK w [v] ts bs) (hn : ts.length ≤ 16777216) (ha : ∀ a ∈ ts, a.args.length ≤ 16777216) :
    Calls Try.prog 25 #[v] w (Reads atomsK ts w.heap.size w) := by
  obtain ⟨Ad, cap, rfl, hl, hm⟩ := sliceK_form h
  obtain ⟨i0, hi, hz0, hz1, hz2⟩ := info_parts infoAtom3
  clear hm
  have hA : Below w.heap.size w (w.alloc (.cells #[] 34)) := (Below.refl _ _).alloc (Nat.le_refl _) _
  have hst := Coll.empty (n := 2) (R := atomK) (e := 34) (heap_alloc_new w (.cells #[] 34)) (Nat.le_refl w.heap.size)
  go_enter Try.func25, Try.ntmps25
  go_wp2
  go_loopw [3, 4] (fun v i wr => ∃ (k : Nat) (A : Option Addr) (cp : Nat) (L : List Value) (b2 : List Nat), k ≤ ts.length ∧ i = .int .i64 k ∧ v = .slice A k cp ∧ Coll 2 atomK w.heap.size 34 wr (.slice A k cp) L (ts.take k) b2 ∧ Below w.heap.size w wr) (fun _ i _ => ts.length - (intOf i).toNat)
  case atStart => exact ⟨0, _, _, _, _, Nat.zero_le _, rfl, rfl, hst, hA⟩
  case round =>
    obtain ⟨k, A, cp, L, b2, hk, rfl, rfl, hC, hb⟩ := hrel
    clear hst hA
    by_cases hlt : k < ts.length
    · have HLT := Lib.hid hlt
      obtain ⟨b, o, Ae, ce, bk, rfl, _, c0, c1, hel, _⟩ := atoms_el (atomsK_good.below h hb) hlt
      have hle : ts[k].args.length ≤ 16777216 := ha _ (List.getElem_mem _)
      have hk0 : (0 : Int) ≤ (k : Int) := by omega
      have hk1 : (k : Int) < (ts.length : Int) := by omega
      have HT : Hid (ts.take (k + 1) = ts.take k ++ [ts[k]]) := Lib.hid (List.take_succ_eq_append_getElem hlt)
      have hc := l3Atom_any ts[k] _ _ bk _ hel hle
      have HC := Lib.hid hC
      clear h ha hC
      go_wp2_with fail
      refine hc.mono ?_
      rintro e w1 ⟨hb1, cs', b3, rfl, hR, hN⟩
      obtain ⟨Ae', ce', rfl⟩ := atom_cells hR
      clear hel hc
      have hlen : (ts.take k).length = k := by rw [List.length_take]; omega
      have hb2 : Below wr.heap.size wr (w1.alloc (.cells #[.string ts[k].name, .slice Ae' ts[k].args.length ce'] 34)) := hb1.alloc hb1.size _
      have hA2 : Below w1.heap.size w1 (w1.alloc (.cells #[.string ts[k].name, .slice Ae' ts[k].args.length ce'] 34)) := (Below.refl _ _).alloc (Nat.le_refl _) _
      have hC2 := HC.out.below atomK_good hb2
      have hR2 := atomK_good.below hR hA2
      have hL : Lies (w1.alloc (.cells #[.string ts[k].name, .slice Ae' ts[k].args.length ce'] 34)) (some ⟨w1.heap.size, 0, none⟩) [.string ts[k].name, .slice Ae' ts[k].args.length ce'] := lies_block (heap_alloc_new w1 _)
      have HC2 := Lib.hid hC2
      have HO2 : Hid ((w1.alloc (.cells #[.string ts[k].name, .slice Ae' ts[k].args.length ce'] 34)).ownsRow w.heap.size 34 2 (.slice A k cp) k L) := Lib.hid (by have := hC2.own; rw [hlen] at this; exact this)
      have HL := Lib.hid hL
      have HR2 := Lib.hid hR2
      have hsz := hb2.size
      clear hC2 hL hR2 hlen
      go_wp2_with (at_builtin; refine wpList_app rfl _ _ _ rfl w.heap.size 34 i0 (.agg #[.string ⟨#[]⟩, .slice none 0 0]) 2 40 Try.underlying28 hi hz0 hz1 hz2 rfl (by omega) (.slice A k cp) k L rfl HO2.out (some ⟨w1.heap.size, 0, none⟩) 1 1 [.string ts[k].name, .slice Ae' ts[k].args.length ce'] rfl rfl HL.out (by simp [Value.oneCell']) (by unfold maxLen; omega) (by omega) (Nat.le_trans hb.size hsz) ?_; intro A2 cp2 w2 hown2 hgrow2 hloc2)
      have hlen : (ts.take k).length = k := by rw [List.length_take]; omega
      have hfar : ∀ b ∈ b3, (Value.slice A k cp).ownBlock ≠ some b := fun b hb' => own_block_lt HC.out.own (hN.own b hb').1
      have C3 := HC2.out.app atomK_good (Rowed.one_el atomK_ones HR2.out) hfar (by rw [hlen]; exact hown2) hgrow2 hloc2
      have B3 := own_grown (hb.trans (hb2.mono hb.size)) HO2.out (Nat.le_refl _) (Nat.le_trans hb.size hsz) hgrow2
      clear hown2 hgrow2 hloc2 hfar hlen hR hN
      have H3 := Lib.hid C3
      clear C3
      go_wp2
      go_roundw
      case rel => exact ⟨k + 1, A2, cp2, _, _, HLT.out, by go_num, rfl, by rw [HT.out]; exact H3.out, B3⟩
      case measure => have := HLT.out; simp [intOf]; omega
    · have he : k = ts.length := by omega
      subst he
      rw [List.take_of_length_le (Nat.le_refl _)] at hC
      obtain ⟨b3, hs, _⟩ := hC.slice
      have HS := Lib.hid hs
      clear hC hs
      go_wp2
      go_ret
      exact ⟨hb, _, b3, rfl, HS.out⟩

set_option maxHeartbeats 1000000 in
theorem l3Without_any (xs : List A) (a : A) (v d0 d1 : Value) (bs b2 : List Nat) (w : World) (h : atomsK w [v] xs bs) (h2 : atomK w [d0, d1] a b2) (hs : asc xs = true) (hn : xs.length ≤ 16777216) :
    Calls Try.prog 26 #[v, .agg #[d0, d1]] w (Reads atomsK (delA xs a) w.heap.size w) := by
  obtain ⟨Ad, cap, rfl, hl, hm⟩ := sliceK_form h
  obtain ⟨Aa, ca, rfl, rfl⟩ := atom_cells2 h2
  obtain ⟨i0, hi, hz0, hz1, hz2⟩ := info_parts infoAtom3
  have hlm := nat_ge_max hm
  have hA : Below w.heap.size w (w.alloc (.cells #[.string a.name, .slice Aa a.args.length ca] 34)) := (Below.refl _ _).alloc (Nat.le_refl _) _
  have hk := l3At_any xs a _ _ _ bs b2 _ (atomsK_good.below h hA) (atomK_good.below h2 hA) hs
  have HD : Hid (delA xs a = if hasB xs a then xs.take (pl xs a) ++ xs.drop (pl xs a + 1) else xs) := Lib.hid rfl
  cases hh : hasB xs a
  · rw [hh] at hk
    have HX : Hid (delA xs a = xs) := Lib.hid (by rw [HD.out, hh]; rfl)
    clear hh HD
    go_enter Try.func26, Try.ntmps26
    go_wp2_with fail
    refine hk.mono ?_
    rintro e w1 ⟨rfl, hb1⟩
    have B1 := hA.trans (hb1.mono hA.size)
    have HR := Lib.hid (atomsK_good.below h B1)
    clear hk h h2
    go_wp2
    go_ret
    exact ⟨B1, _, bs, rfl, by rw [HX.out]; exact HR.out⟩
  · rw [hh] at hk
    have HX : Hid (delA xs a = xs.take (pl xs a) ++ xs.drop (pl xs a + 1)) := Lib.hid (by rw [HD.out, hh]; rfl)
    have hlt : pl xs a + 1 ≤ xs.length := by have := del_length hs hh; rw [HX.out] at this; simp at this; omega
    clear hh HD
    obtain ⟨L, b3, hrow, hb3, hsrc⟩ := sliceK_row atomK_ones (by omega) h
    obtain ⟨bt, hrt, hbt⟩ := hrow.take (k := pl xs a) (by omega)
    obtain ⟨bd, hrd, hbd⟩ := hrow.drop (k := pl xs a + 1) (by omega)
    obtain ⟨b, o, rfl, hbb, hcell⟩ := hsrc (by intro e; rw [e] at hlt; simp at hlt)
    have hlts := atomsK_good.lt h
    generalize pl xs a = k at *
    have HRT := Lib.hid hrt
    have HRD := Lib.hid hrd
    have HC := Lib.hid hcell
    clear hrow hsrc hrt hrd hcell h h2
    go_enter Try.func26, Try.ntmps26
    go_wp2_with fail
    refine hk.mono ?_
    rintro e w1 ⟨rfl, hb1⟩
    have B1 := hA.trans (hb1.mono hA.size)
    clear hk
    have hk0 : (0 : Int) ≤ (k : Int) := by omega
    have hk1 : (k : Int) ≤ (xs.length : Int) := by omega
    have hk2 : (k : Int) ≤ (cap : Int) := by omega
    have hk3 : (k : Int) + 1 ≤ (xs.length : Int) := by omega
    have hk4 : (xs.length : Int) ≤ (cap : Int) := by omega
    have hk5 : IntKind.i64.wrap ((k : Int) + 1) = (k : Int) + 1 := IntWalk.i64_in _ (by omega)
    have hk6 : (0 : Int) ≤ (k : Int) + 1 := by omega
    have hk7 : ((k : Int) + 1).toNat = k + 1 := by omega
    have hk8 : (k : Int) + 1 ≤ (cap : Int) := by omega
    have hbl := hlts b hbb
    have hA1 : Below w1.heap.size w1 (w1.alloc (.cells #[] 34)) := (Below.refl _ _).alloc (Nat.le_refl _) _
    have BE : Below w.heap.size w (w1.alloc (.cells #[] 34)).drew := (B1.trans (hA1.mono B1.size)).drew
    have hCE := Coll.empty (n := 2) (R := atomK) (e := 34) (show (w1.alloc (.cells #[] 34)).drew.heap[w1.heap.size]? = _ from heap_alloc_new w1 (.cells #[] 34)) B1.size
    have hlt' : (xs.take k).length = k := by rw [List.length_take]; omega
    have hld' : (xs.drop (k + 1)).length = xs.length - (k + 1) := List.length_drop
    have HCE := Lib.hid hCE
    have HL1 : Hid (Lies (w1.alloc (.cells #[] 34)).drew (some ⟨b, o, none⟩) (L.take (k * 2))) := Lib.hid (Lies.mk fun j u hj => (BE.cell (p := ⟨b, o + j, none⟩) hbl).trans (HC.out j u (by
      have hj2 := (List.getElem?_eq_some_iff.1 hj).1
      rw [List.getElem?_take_of_lt (by simp at hj2; omega)] at hj; exact hj)))
    have HL2 : Hid (∀ w', Below w.heap.size w w' → Lies w' (some ⟨b, o + (k + 1) * 2, none⟩) (L.drop ((k + 1) * 2))) := Lib.hid fun w' hb' => Lies.mk fun j u hj => (hb'.cell (p := ⟨b, o + (k + 1) * 2 + j, none⟩) hbl).trans (by rw [Nat.add_assoc]; exact HC.out _ u (by rw [List.getElem?_drop] at hj; exact hj))
    have H5 : Hid (0 + k ≤ maxLen) := Lib.hid (by unfold maxLen; omega)
    have H6 : Hid ((0 + k) * 40 ≤ 140737488355328) := Lib.hid (by omega)
    have H8 : Hid (k + (xs.length - (k + 1)) ≤ maxLen) := Lib.hid (by unfold maxLen; omega)
    have H9 : Hid ((k + (xs.length - (k + 1))) * 40 ≤ 140737488355328) := Lib.hid (by omega)
    have HN1 := Lib.hid hlt'
    have HN2 := Lib.hid hld'
    have HBE := Lib.hid BE
    have HR1 := Lib.hid (HRT.out.below atomK_good BE)
    have HF1 : Hid (∀ c ∈ bt, (Value.slice (some ⟨w1.heap.size, 0, none⟩) 0 0).ownBlock ≠ some c) := Lib.hid fun c hc => own_block_ge hCE.own (hlts c (hb3 c (hbt c hc)))
    have HF2 : Hid (∀ c ∈ bd, c < w.heap.size) := Lib.hid fun c hc => hlts c (hb3 c (hbd c hc))
    clear hCE hlt' hld' BE hA1 hbt hbd hb3
    by_cases hce : cap = k + 1
    · have hct : (cap = k + 1) = True := eq_true hce
      have hxl : xs.length = k + 1 := by omega
      have hnil : L.drop ((k + 1) * 2) = [] := List.length_eq_zero_iff.1 (by rw [HRD.out.len, HN2.out, hxl]; simp)
      have HLN : Hid (∀ w' Ad, Lies w' Ad (L.drop ((k + 1) * 2))) := Lib.hid (by rw [hnil]; exact fun w' Ad => Lies.nil w' Ad)
      have HCP := Lib.hid hce
      clear hxl hnil HL2 hce
      go_wp2
      go_region_held3 (fun _ => True) (trivial) ((first
        | (refine step_coll (by rfl) (.tmp 16) (.tmp 19) _ (by rfl) w.heap.size 34 i0 (.agg #[.string ⟨#[]⟩, .slice none 0 0]) 2 40 Try.underlying28 hi hz0 hz1 hz2 rfl (by omega) atomK_good (.slice (some ⟨w1.heap.size, 0, none⟩) 0 0) 0 [] [] [] (by rfl) HCE.out rfl (some ⟨b, o, none⟩) k cap (L.take (k * 2)) _ _ (by rfl) HR1.out HN1.out HL1.out HF1.out H5.out H6.out w w.heap.size HBE.out (Nat.le_refl _) HBE.out.size ?_; intro A1 cp1 w2 hC2 hB2 hS2 _; simp only [Nat.zero_add, List.nil_append] at hC2 ⊢; have HC2 := Lib.hid hC2; have HR2 := Lib.hid (HRD.out.keep atomK_good fun c hc => hB2.block c (HF2.out c hc)); have HG2 := Lib.hid (fun c hc => own_block_ge hC2.own (HF2.out c hc)); have HB2 := Lib.hid hB2; have HS2 := Lib.hid hS2; clear hC2 hB2 hS2)
        | (refine step_coll (by rfl) (.tmp 20) (.tmp 24) _ (by rfl) w.heap.size 34 i0 (.agg #[.string ⟨#[]⟩, .slice none 0 0]) 2 40 Try.underlying28 hi hz0 hz1 hz2 rfl (by omega) atomK_good (.slice A1 k cp1) k _ _ _ (by rfl) HC2.out HN1.out (some ⟨b, o, none⟩) (xs.length - (k + 1)) (cap - (k + 1)) (L.drop ((k + 1) * 2)) _ _ (by rfl) HR2.out HN2.out (HLN.out _ _) HG2.out H8.out H9.out w w.heap.size HB2.out (Nat.le_refl _) HS2.out ?_; intro A2 cp2 w3 hC3 hB3 hS3 _; have HC3 := Lib.hid hC3; have HB3 := Lib.hid hB3; clear hC3 hB3 hS3)))
      obtain ⟨b4, hs4, _⟩ := HC3.out.slice
      have HS := Lib.hid hs4
      clear hs4
      go_wp2
      go_ret
      exact ⟨HB3.out, _, b4, rfl, by rw [HX.out]; exact HS.out⟩
    · go_wp2
      go_region_held3 (fun _ => True) (trivial) ((first
        | (refine step_coll (by rfl) (.tmp 16) (.tmp 19) _ (by rfl) w.heap.size 34 i0 (.agg #[.string ⟨#[]⟩, .slice none 0 0]) 2 40 Try.underlying28 hi hz0 hz1 hz2 rfl (by omega) atomK_good (.slice (some ⟨w1.heap.size, 0, none⟩) 0 0) 0 [] [] [] (by rfl) HCE.out rfl (some ⟨b, o, none⟩) k cap (L.take (k * 2)) _ _ (by rfl) HR1.out HN1.out HL1.out HF1.out H5.out H6.out w w.heap.size HBE.out (Nat.le_refl _) HBE.out.size ?_; intro A1 cp1 w2 hC2 hB2 hS2 _; simp only [Nat.zero_add, List.nil_append] at hC2 ⊢; have HC2 := Lib.hid hC2; have HR2 := Lib.hid (HRD.out.keep atomK_good fun c hc => hB2.block c (HF2.out c hc)); have HG2 := Lib.hid (fun c hc => own_block_ge hC2.own (HF2.out c hc)); have HB2 := Lib.hid hB2; have HS2 := Lib.hid hS2; clear hC2 hB2 hS2)
        | (refine step_coll (by rfl) (.tmp 20) (.tmp 24) _ (by rfl) w.heap.size 34 i0 (.agg #[.string ⟨#[]⟩, .slice none 0 0]) 2 40 Try.underlying28 hi hz0 hz1 hz2 rfl (by omega) atomK_good (.slice A1 k cp1) k _ _ _ (by rfl) HC2.out HN1.out (some ⟨b, o + (k + 1) * 2, none⟩) (xs.length - (k + 1)) (cap - (k + 1)) (L.drop ((k + 1) * 2)) _ _ (by rfl) HR2.out HN2.out (HL2.out _ HB2.out) HG2.out H8.out H9.out w w.heap.size HB2.out (Nat.le_refl _) HS2.out ?_; intro A2 cp2 w3 hC3 hB3 hS3 _; have HC3 := Lib.hid hC3; have HB3 := Lib.hid hB3; clear hC3 hB3 hS3)))
      obtain ⟨b4, hs4, _⟩ := HC3.out.slice
      have HS := Lib.hid hs4
      clear hs4
      go_wp2
      go_ret
      exact ⟨HB3.out, _, b4, rfl, by rw [HX.out]; exact HS.out⟩

end Go.Proofs.Ytadnimchnmkajaa
