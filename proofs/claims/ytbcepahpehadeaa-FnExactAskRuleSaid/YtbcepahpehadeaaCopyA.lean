/- The walk of copyAtom: an atom in new memory. -/
import Derived.WalkKit
import Derived.Lib.Hide
import Derived.WalkSpells
import Derived.WalkLawsBesides
import Derived.Deep.AppendLies
import Derived.Test.YtbcepahpehadeaaProg
import Derived.Test.YtbcepahpehadeaaKind
namespace Go.Proofs.Ytbcepahpehadeaa
open Go.RowKit D
set_option linter.unusedVariables false

theorem infoTerm3 : (Try.prog.info? 61).map (fun i => (i.zero, i.size, i.bytes)) = some (some (.agg #[.bool false, .string ⟨#[]⟩]), 2, 24) := by kernel_rfl
theorem sizeTerm : (Try.prog.info? 61).map (·.size) = some 2 := by kernel_rfl
theorem infoAtom3 : (Try.prog.info? 35).map (fun i => (i.zero, i.size, i.bytes)) = some (some (.agg #[.string ⟨#[]⟩, .slice none 0 0]), 2, 40) := by kernel_rfl

theorem D.terms_none (w : World) : termsK w [.slice none 0 0] [] [] := ⟨none, 0, rfl, Nat.le_refl _, Nat.zero_le _, fun _ => rfl, fun h => absurd rfl h⟩
theorem D.atoms_none (w : World) : atomsK w [.slice none 0 0] [] [] := ⟨none, 0, rfl, Nat.le_refl _, Nat.zero_le _, fun _ => rfl, fun h => absurd rfl h⟩
theorem D.termRow {w : World} {L : List Value} {xs : List T} {bs : List Nat} (h : Rowed 2 termK w L xs bs) : bs = [] := by
  obtain ⟨_, _, G, rfl, hG⟩ := h
  rw [List.flatMap_eq_nil_iff]
  intro j hj
  obtain ⟨_, _, h⟩ := hG j (List.mem_range.1 hj)
  exact h
/-- A row of terms of the call's own, as a slice. -/
theorem D.terms_own {w w2 : World} {base e : Nat} {A : Option Addr} {cap : Nat} {L : List Value} {xs : List T} {bs : List Nat} (h : Rowed 2 termK w L xs bs) (hown : w2.ownsRow base e 2 (.slice A xs.length cap) xs.length L) :
    ∃ b2, termsK w2 [.slice A xs.length cap] xs b2 ∧ New base w2 b2 := by
  obtain rfl := termRow h
  have h2 : Rowed 2 termK w2 L xs [] := h.keep termK_good fun b hb => by simp at hb
  rcases hown.2 with ⟨hv, hx⟩ | ⟨g, cap', cur, hv, hg, hh, hc1, hc2, hc3, hc4⟩
  · have hx0 : xs = [] := List.length_eq_zero_iff.1 hx
    subst hx0
    simp only [Value.slice.injEq, List.length_nil] at hv
    obtain ⟨rfl, -, rfl⟩ := hv
    exact ⟨[], terms_none w2, New.nil _ _⟩
  · obtain ⟨b2, hs, hb⟩ := h2.slice hown
    simp only [Value.slice.injEq] at hv
    obtain ⟨rfl, -, rfl⟩ := hv
    by_cases hne : xs = []
    · subst hne
      exact ⟨[], ⟨_, cap, rfl, hc1, hc2, fun _ => rfl, fun h => absurd rfl h⟩, New.nil _ _⟩
    · obtain ⟨Ad', cap'', hcs, _, _, _, h1⟩ := id hs
      obtain ⟨b, o, hAd, F, G, rfl, hF⟩ := h1 hne
      have hG : (List.range xs.length).flatMap G = [] := by
        rw [List.flatMap_eq_nil_iff]
        intro j hj
        obtain ⟨_, _, _, _, h⟩ := hF j _ (List.getElem?_eq_getElem (List.mem_range.1 hj))
        exact h
      rw [hG] at hs
      simp only [List.cons.injEq, Value.slice.injEq, and_true] at hcs
      have hb' : b = g := by
        have := hcs.1.symm.trans rfl
        rw [hAd] at this
        simp at this
        exact this.1
      subst hb'
      exact ⟨[b], hs, ⟨by simp, fun c hc => by
        obtain rfl : c = b := by simpa using hc
        exact ⟨hg, cur, e, hh⟩⟩⟩

set_option maxRecDepth 100000 in
set_option maxHeartbeats 1000000 in
theorem copyAtom_any (a : A) (c0 c1 : Value) (bs : List Nat) (w : World) (h : atomK w [c0, c1] a bs) (hn : a.args.length ≤ 16777216) :
    Calls Try.prog 50 #[.agg #[c0, c1]] w (MakesA atomK a w.heap.size w) := by
  have ht := atom_args h
  have hnm : a.name.size ≤ maxLen := by obtain ⟨_, _, hn, _⟩ := h; exact hn
  obtain ⟨Ad, cap, rfl, rfl⟩ := atom_cells2 h
  obtain ⟨i0, hi, hz0, hz1, hz2⟩ := info_parts infoTerm3
  by_cases h0 : a.args.length = 0
  · have hl : ((a.args.length : Int) == 0) = true := beq_iff_eq.2 (by omega)
    have hx : a.args = [] := List.length_eq_zero_iff.1 h0
    have HX := Lib.hid hx
    clear h ht h0 hx hi hz0 hz1 hz2
    go_enter Try.func50, Try.ntmps50
    go_wp2
    refine bodyPost_ret (v := .agg #[.string a.name, .slice none 0 0]) (by simp [results, Try.results50, go_sem]) rfl ⟨?_, _, [], rfl, ⟨_, rfl, hnm, by rw [HX.out]; exact terms_none _⟩, New.nil _ _⟩
    repeat (first | exact Below.refl _ _ | (refine Below.setCell ?_ (by first | (simp; done) | (simp; omega)) _) | (refine Below.alloc ?_ (by first | (simp; done) | (simp; omega)) _))
  · have hl : ((a.args.length : Int) == 0) = false := beq_eq_false_iff_ne.2 (by omega)
    obtain ⟨L, b2, hrow, _, hsrc⟩ := sliceK_row termK_ones (by omega) ht
    obtain ⟨b, o, rfl, hbb, hcell⟩ := hsrc (by intro e; rw [e] at h0; exact h0 rfl)
    have hblt := termsK_good.lt ht b hbb
    have hLl := hrow.len
    have hone := hrow.one
    have HR := Lib.hid hrow
    have HL := Lib.hid hLl
    have HC := Lib.hid hcell
    have HO := Lib.hid hone
    clear h ht h0 hrow hLl hone hcell hsrc
    go_enter Try.func50, Try.ntmps50
    go_wp2_with (first
      | (at_make; refine wpList_make_full _ rfl _ _ _ rfl (w.heap.size + 2) 61 i0 _ 2 Try.underlying33 hi hz0 hz1 _ _ _ _ a.args.length rfl rfl rfl rfl (by rw [hz2]; omega) (by unfold maxLen; omega) (by simp) ?_; intro w1 hown hgrow; have hW := (Below.refl _ _).grown hgrow (Nat.le_refl _) (fun _ e => by cases e); have x0 : w1.cell? ⟨w.heap.size, 0, none⟩ = some (.string a.name) := cell_later hW (by go_simp); have x1 : w1.cell? ⟨w.heap.size, 1, none⟩ = some (.slice (some ⟨b, o, none⟩) a.args.length cap) := cell_later hW (by go_simp); have r0 : w1.cell? ⟨w.heap.size + 1, 0, none⟩ = some (.string ⟨#[]⟩) := cell_later hW (by go_simp); have r1 : w1.cell? ⟨w.heap.size + 1, 1, none⟩ = some (.slice none 0 0) := cell_later hW (by go_simp); have f0 : w1.frozen? ⟨w.heap.size + 1, 0, none⟩ = false := (hW.frozen (p := ⟨w.heap.size + 1, 0, none⟩) (by simp)).trans (by go_simp); have f1 : w1.frozen? ⟨w.heap.size + 1, 1, none⟩ = false := (hW.frozen (p := ⟨w.heap.size + 1, 1, none⟩) (by simp)).trans (by go_simp); have B1 : Below w.heap.size w w1 := (((Below.refl _ _).alloc (Nat.le_refl _) _).alloc (by simp) _).trans (hW.mono (by simp; omega)); simp only [World.size_alloc] at hown)
      | ((with_reducible refine wpList_copy_n rfl (.tmp 15) (.tmp 17) _ _ rfl (w.heap.size + 2) 61 2 a.args.length a.args.length Try.underlying33 sizeTerm _ _ hown ⟨b, o, none⟩ cap L HL.out ?_ HO.out ?_ ?_ ?_); exact (fun j v hj => by rw [addr_add]; exact (B1.cell (p := ⟨b, o + j, none⟩) hblt).trans (HC.out j v hj)); rfl; rfl; intro w2 hown2 hgrow2; have y0 := hgrow2.cell x0 (by simp; omega); have s0 := hgrow2.cell r0 (by simp); have s1 := hgrow2.cell r1 (by simp); have g0 := (hgrow2.frozen_far ⟨w.heap.size + 1, 0, none⟩ (lt_of_cell r0) (by simp)).trans f0; have g1 := (hgrow2.frozen_far ⟨w.heap.size + 1, 1, none⟩ (lt_of_cell r1) (by simp)).trans f1))
    obtain ⟨b3, hR3, hN3⟩ := terms_own HR.out hown2
    have hne : ∀ c ∈ b3, c ≠ w.heap.size + 1 := fun c hc e => by have := (hN3.own c hc).1; omega
    have B2 : Below w.heap.size w w2 := B1.grown hgrow2 B1.size (fun k e => by cases e; omega)
    refine bodyPost_ret (v := .agg #[.string a.name, .slice (some ⟨w.heap.size + 1 + 1, 0, none⟩) a.args.length a.args.length]) (by simp [results, Try.results50, go_sem, s0, s1]) rfl ⟨(B2.setCell (by simp) _).setCell (by simp) _, _, b3, rfl, ⟨_, rfl, hnm, termsK_good.keep hR3 fun c hc => ?_⟩, (hN3.mono (by omega)).keep fun c hc => ?_⟩
    all_goals rw [Below.heap_setCell _ _ _ _ (hne c hc), Below.heap_setCell _ _ _ _ (hne c hc)]

end Go.Proofs.Ytbcepahpehadeaa
