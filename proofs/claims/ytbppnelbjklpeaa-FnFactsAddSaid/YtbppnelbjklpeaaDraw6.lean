/- The draws of facts, and one. -/
import Derived.Laws.EntriesVeiled
import Derived.Deep.RegionHeld3
import Derived.Deep.RegionWith
import Derived.BigQuiet
import Derived.Deep.QuietTactic
import Derived.Deep.DrawnRows
import Derived.WalkKit
import Derived.WalkSpells
import Derived.WalkLawsBesides
import Derived.Lib.Hide
import Derived.Test.YtbppnelbjklpeaaDraw5
namespace Go.Proofs.Ytbppnelbjklpeaa
open Go.RowKit D
set_option linter.unusedVariables false
attribute [local go_sem ↓] Go.wp_at_zero Go.wp_at_succ

/-- Under way: a box for the result (block w.heap.size), a drawn list behind it, a reader. -/
structure LSt (w : World) (g p : Nat) (xs : List A) (v : Value) (bs : List Nat) (W : World) : Prop where
  at1 : atomsK W [v] xs bs
  far : ∀ b ∈ bs, w.heap.size + 1 ≤ b
  r3 : ∃ x y, W.heap[w.heap.size]? = some (.cells #[x, y] 25 (0, 0))
  rdr : Rdr g p W
  bel : Below w.heap.size w W
  glt : w.heap.size + 1 ≤ g
  gsz : g < W.heap.size
theorem LSt.kept {w : World} {g p p2 : Nat} {xs : List A} {v : Value} {bs : List Nat} {W W' : World} (h : LSt w g p xs v bs W) (hK : KeptBut [g] W W') (hR : Rdr g p2 W') : LSt w g p2 xs v bs W' := by
  have hg := h.glt
  obtain ⟨x, y, h3⟩ := h.r3
  have ha := atoms_apartN h.rdr.noSB h.at1
  exact ⟨Good.kept atomsK_good h.at1 hK (fun b hb => by simp; intro e; exact ha (e ▸ hb)), h.far, ⟨x, y, hK.blk h3 (by simp; omega)⟩, hR, h.bel.trans (hK.below (by simp; omega) h.bel.size), hg, Nat.lt_of_lt_of_le h.gsz hK.size⟩
theorem LSt.box {w : World} {g p : Nat} {xs : List A} {v : Value} {bs : List Nat} {W : World} (h : LSt w g p xs v bs W) : ∃ x y, W.cell? ⟨w.heap.size, 0, none⟩ = some x ∧ W.cell? ⟨w.heap.size, 1, none⟩ = some y ∧ W.frozen? ⟨w.heap.size, 0, none⟩ = false ∧ W.frozen? ⟨w.heap.size, 1, none⟩ = false := by
  obtain ⟨x, y, h3⟩ := h.r3
  exact ⟨x, y, cell_of_blk h3, cell_of_blk h3, frozen_of_blk h3, frozen_of_blk h3⟩
/-- Drawn facts, and an atom. -/
def ListD (w : World) (e : Ending) (w' : World) : Prop := ∃ (xs : List A) (a : A) (A1 A2 : Option Addr) (c1 c2 : Nat) (b1 b2 : List Nat), e = .returned (.tuple #[.slice A1 xs.length c1, .agg #[.string a.name, .slice A2 a.args.length c2]]) ∧
  atomsK w' [.slice A1 xs.length c1] xs b1 ∧ atomK w' [.string a.name, .slice A2 a.args.length c2] a b2 ∧ xs.length ≤ 50 ∧ (∀ x ∈ xs, x.args.length ≤ 4) ∧ a.args.length ≤ 4 ∧ Below w.heap.size w w' ∧ (∀ b ∈ b1, w.heap.size ≤ b) ∧ ∀ b ∈ b2, w.heap.size ≤ b
theorem LSt.done {w : World} {g p : Nat} {xs : List A} {A1 A2 : Option Addr} {c1 c2 : Nat} {bs b2 : List Nat} {W : World} {a : A} (h : LSt w g p xs (.slice A1 xs.length c1) bs W) (ha : atomK W [.string a.name, .slice A2 a.args.length c2] a b2) (f2 : ∀ b ∈ b2, w.heap.size + 1 ≤ b) (hx : xs.length ≤ 50) (hs : ∀ x ∈ xs, x.args.length ≤ 4) (hl : a.args.length ≤ 4) :
    ListD w (.returned (.tuple #[.slice A1 xs.length c1, .agg #[.string a.name, .slice A2 a.args.length c2]])) ((W.setCell ⟨w.heap.size, 0, none⟩ (.string a.name)).setCell ⟨w.heap.size, 1, none⟩ (.slice A2 a.args.length c2)) := by
  refine ⟨xs, a, A1, A2, c1, c2, bs, b2, rfl, atomsK_good.keep h.at1 fun b hb => ?_, atomK_good.keep ha fun b hb => ?_, hx, hs, hl, (h.bel.setCell (p := ⟨w.heap.size, 0, none⟩) (Nat.le_refl _) _).setCell (p := ⟨w.heap.size, 1, none⟩) (Nat.le_refl _) _, fun b hb => by have := h.far b hb; omega, fun b hb => by have := f2 b hb; omega⟩
  · have := h.far b hb
    rw [Below.heap_setCell _ _ _ _ (by simp; omega), Below.heap_setCell _ _ _ _ (by simp; omega)]
  · have := f2 b hb
    rw [Below.heap_setCell _ _ _ _ (by simp; omega), Below.heap_setCell _ _ _ _ (by simp; omega)]

set_option maxRecDepth 100000 in
set_option maxHeartbeats 2000000 in
theorem drawFactsAdd_any (v : Value) (cs : List UInt8) (bs : List Nat) (w : World) (h : bytesK w [v] cs bs) (hn : cs.length ≤ 1048576) :
    Calls Try.prog 13 #[v] w (ListD w) := by
  have hA : Below w.heap.size w (w.alloc (.cells #[.string ⟨#[]⟩, .slice none 0 0] 25)) := (Below.refl _ _).alloc (Nat.le_refl _) _
  have ho := open_any v cs bs _ (bytesK_good.below h hA) hn
  have HT := Lib.hid (heap_alloc_new w (.cells #[.string ⟨#[]⟩, .slice none 0 0] 25))
  clear h
  go_enter Try.func13, Try.ntmps13
  go_wp2_with fail
  refine ho.mono ?_
  rintro e w1 ⟨rfl, hR, hb⟩
  obtain ⟨g, hg⟩ : ∃ g, g = (w.alloc (.cells #[.string ⟨#[]⟩, .slice none 0 0] 25)).heap.size := ⟨_, rfl⟩
  have HGW : Hid (g = w.heap.size + 1) := Lib.hid (by rw [hg]; simp)
  rw [← hg] at hR
  have HB1 := Lib.hid (hA.trans (hb.mono hA.size))
  have HR3 := Lib.hid ((hb.block _ (by simp)).trans HT.out)
  have HGZ : Hid (g < w1.heap.size) := Lib.hid hR.lt
  have hd := l10AnyFacts_any g 0 w1 hR (by omega)
  clear ho hR hb hA HT
  rw [← hg]
  clear hg
  go_wp2_with fail
  refine hd.mono ?_
  rintro e w2 ⟨xs, v2, b1, p', rfl, ⟨hat, hfar⟩, hx, hsm, hR2, hp2, hK2⟩
  obtain ⟨A1, c1, rfl, hl1, hm1⟩ := sliceK_form hat
  have hlm := nat_ge_max (Nat.le_trans hl1 hm1)
  have HS : Hid (LSt w g p' xs (.slice A1 xs.length c1) b1 w2) := Lib.hid (by
    have hg := HGW.out
    have hz := HGZ.out
    exact ⟨hat, fun b hb => by have := hfar b hb; omega, ⟨_, _, hK2.blk HR3.out (by simp; omega)⟩, hR2, HB1.out.trans (hK2.below (by simp; omega) HB1.out.size), by omega, Nat.lt_of_lt_of_le hz hK2.size⟩)
  have HX : Hid (xs.length ≤ 50 ∧ (∀ x ∈ xs, x.args.length ≤ 4) ∧ p' ≤ 200) := Lib.hid ⟨hx, hsm, by omega⟩
  clear hd hat hfar hR2 hK2 hp2 hsm HR3 HB1 hl1 hm1
  by_cases h0 : 0 < xs.length
  · have h0i : (0 : Int) < (xs.length : Int) := by omega
    have HX0 := Lib.hid h0
    have hpk := pick_any g p' 3 w2 HS.out.rdr (by have := HX.out; omega) (by omega) (by omega)
    clear h0 hx
    go_wp2_with fail
    refine hpk.mono ?_
    rintro e w3 ⟨i, rfl, hi, hR3, hG3⟩
    replace HS := Lib.hid (HS.out.kept (KeptBut.of_grown hG3) hR3)
    clear hpk hR3 hG3
    by_cases hi0 : i = 0
    · subst hi0
      clear hi
      have hpk := pick_any g (p' + 1) xs.length w3.drew HS.out.rdr.drew (by have := HX.out; omega) (by have := HX0.out; omega) (by have := HX.out; omega)
      have HSd := Lib.hid (HS.out.kept ((KeptBut.refl _ _).drew) HS.out.rdr.drew)
      go_wp2
      go_region_law
        (first
          | (go_simp; go_at_call 38; refine hpk.mono ?_; rintro e w4 ⟨i3, rfl, hi3, hR4, hG4⟩; have HS4 := Lib.hid (HSd.out.kept (KeptBut.of_grown hG4) hR4); have hi3' : i3 < xs.length := (by omega); obtain ⟨b, o, Ae, ce, bk, rfl, _, d0, d1, hel, hbk⟩ := atoms_el HS4.out.at1 hi3'; have hk0 : (0 : Int) ≤ (i3 : Int) := (by omega); have HA5 := Lib.hid hel; have HB5 : Hid (∀ c ∈ bk, w.heap.size + 1 ≤ c) := Lib.hid (fun c hc => HS4.out.far c (hbk c hc)); obtain ⟨zx, zy, z0, z1, f0, f1⟩ := HS4.out.box; have HL5 : Hid (xs[i3].args.length ≤ 4) := Lib.hid (HX.out.2.1 _ (List.getElem_mem _)); have HD := Lib.hid (HS4.out.done HA5.out HB5.out HX.out.1 HX.out.2.1 HL5.out); clear hR4 hG4 hel hbk))
      go_wp2
      refine bodyPost_ret (v := .tuple #[.slice (some ⟨b, o, none⟩) xs.length c1, .agg #[.string xs[i3].name, .slice Ae xs[i3].args.length ce]]) (by simp [results, Try.results13, go_sem, z0, z1]) rfl HD.out
    · have hii : ((i : Int) == 0) = false := beq_eq_false_iff_ne.2 (by omega)
      clear hi0 hi
      have hpk := pick_any g (p' + 1) 6 w3 HS.out.rdr (by have := HX.out; omega) (by omega) (by omega)
      go_wp2_with fail
      refine hpk.mono ?_
      rintro e w4 ⟨i2, rfl, hi2, hR4, hG4⟩
      replace HS := Lib.hid (HS.out.kept (KeptBut.of_grown hG4) hR4)
      clear hpk hR4 hG4
      by_cases hj0 : i2 = 0
      · subst hj0
        have hc := l10AnyAtom_any g (p' + 1 + 1) w4 HS.out.rdr (by have := HX.out; omega)
        go_wp2_with fail
        refine hc.mono ?_
        rintro e w5 ⟨a, v5, L5, p5, rfl, hs5, hx5, hC5, hR5, hp5, hK5⟩
        obtain ⟨b5, hsl, hfar5⟩ := hC5.slice
        obtain ⟨A5, c5, rfl⟩ := own_shape hC5.own
        have HS5 := Lib.hid (HS.out.kept hK5 hR5)
        have HB5 : Hid (∀ b ∈ b5, w.heap.size + 1 ≤ b) := Lib.hid (fun b hb => by have h1 := (hfar5 b hb).resolve_right (by simp); have h2 := HS.out.gsz; have h3 := HS.out.glt; omega)
        have HA5 : Hid (atomK w5 [.string a.name, .slice A5 a.args.length c5] a b5) := Lib.hid ⟨_, rfl, Nat.le_trans hs5 (by decide), hsl⟩
        have HL5 : Hid (a.args.length ≤ 4) := Lib.hid (by omega)
        obtain ⟨zx, zy, z0, z1, f0, f1⟩ := HS5.out.box
        have HD := Lib.hid (HS5.out.done HA5.out HB5.out HX.out.1 HX.out.2.1 HL5.out)
        clear hc hC5 hR5 hK5 hsl hfar5 hs5 hx5 hp5
        go_wp2
        refine bodyPost_ret (v := .tuple #[.slice A1 xs.length c1, .agg #[.string a.name, .slice A5 a.args.length c5]]) (by simp [results, Try.results13, go_sem, z0, z1]) rfl HD.out
      · have hjj : ((i2 : Int) == 0) = false := beq_eq_false_iff_ne.2 (by omega)
        have hc := l10Fact_any g (p' + 1 + 1) w4 HS.out.rdr (by have := HX.out; omega)
        go_wp2_with fail
        refine hc.mono ?_
        rintro e w5 ⟨a, v5, L5, p5, rfl, hs5, hx5, hC5, hR5, hp5, hK5⟩
        obtain ⟨b5, hsl, hfar5⟩ := hC5.slice
        obtain ⟨A5, c5, rfl⟩ := own_shape hC5.own
        have HS5 := Lib.hid (HS.out.kept hK5 hR5)
        have HB5 : Hid (∀ b ∈ b5, w.heap.size + 1 ≤ b) := Lib.hid (fun b hb => by have h1 := (hfar5 b hb).resolve_right (by simp); have h2 := HS.out.gsz; have h3 := HS.out.glt; omega)
        have HA5 : Hid (atomK w5 [.string a.name, .slice A5 a.args.length c5] a b5) := Lib.hid ⟨_, rfl, Nat.le_trans hs5 (by decide), hsl⟩
        have HL5 : Hid (a.args.length ≤ 4) := Lib.hid (by omega)
        obtain ⟨zx, zy, z0, z1, f0, f1⟩ := HS5.out.box
        have HD := Lib.hid (HS5.out.done HA5.out HB5.out HX.out.1 HX.out.2.1 HL5.out)
        clear hc hC5 hR5 hK5 hsl hfar5 hs5 hx5 hp5
        go_wp2
        refine bodyPost_ret (v := .tuple #[.slice A1 xs.length c1, .agg #[.string a.name, .slice A5 a.args.length c5]]) (by simp [results, Try.results13, go_sem, z0, z1]) rfl HD.out
  · have h0i : ¬ (0 : Int) < (xs.length : Int) := by omega
    obtain ⟨w3, hw3⟩ : ∃ w3, w3 = w2 := ⟨_, rfl⟩
    clear h0 hx
    have hpk := pick_any g (p') 6 w2 HS.out.rdr (by have := HX.out; omega) (by omega) (by omega)
    go_wp2_with fail
    refine hpk.mono ?_
    rintro e w4 ⟨i2, rfl, hi2, hR4, hG4⟩
    replace HS := Lib.hid (HS.out.kept (KeptBut.of_grown hG4) hR4)
    clear hpk hR4 hG4
    by_cases hj0 : i2 = 0
    · subst hj0
      have hc := l10AnyAtom_any g (p' + 1) w4 HS.out.rdr (by have := HX.out; omega)
      go_wp2_with fail
      refine hc.mono ?_
      rintro e w5 ⟨a, v5, L5, p5, rfl, hs5, hx5, hC5, hR5, hp5, hK5⟩
      obtain ⟨b5, hsl, hfar5⟩ := hC5.slice
      obtain ⟨A5, c5, rfl⟩ := own_shape hC5.own
      have HS5 := Lib.hid (HS.out.kept hK5 hR5)
      have HB5 : Hid (∀ b ∈ b5, w.heap.size + 1 ≤ b) := Lib.hid (fun b hb => by have h1 := (hfar5 b hb).resolve_right (by simp); have h2 := HS.out.gsz; have h3 := HS.out.glt; omega)
      have HA5 : Hid (atomK w5 [.string a.name, .slice A5 a.args.length c5] a b5) := Lib.hid ⟨_, rfl, Nat.le_trans hs5 (by decide), hsl⟩
      have HL5 : Hid (a.args.length ≤ 4) := Lib.hid (by omega)
      obtain ⟨zx, zy, z0, z1, f0, f1⟩ := HS5.out.box
      have HD := Lib.hid (HS5.out.done HA5.out HB5.out HX.out.1 HX.out.2.1 HL5.out)
      clear hc hC5 hR5 hK5 hsl hfar5 hs5 hx5 hp5
      go_wp2
      refine bodyPost_ret (v := .tuple #[.slice A1 xs.length c1, .agg #[.string a.name, .slice A5 a.args.length c5]]) (by simp [results, Try.results13, go_sem, z0, z1]) rfl HD.out
    · have hjj : ((i2 : Int) == 0) = false := beq_eq_false_iff_ne.2 (by omega)
      have hc := l10Fact_any g (p' + 1) w4 HS.out.rdr (by have := HX.out; omega)
      go_wp2_with fail
      refine hc.mono ?_
      rintro e w5 ⟨a, v5, L5, p5, rfl, hs5, hx5, hC5, hR5, hp5, hK5⟩
      obtain ⟨b5, hsl, hfar5⟩ := hC5.slice
      obtain ⟨A5, c5, rfl⟩ := own_shape hC5.own
      have HS5 := Lib.hid (HS.out.kept hK5 hR5)
      have HB5 : Hid (∀ b ∈ b5, w.heap.size + 1 ≤ b) := Lib.hid (fun b hb => by have h1 := (hfar5 b hb).resolve_right (by simp); have h2 := HS.out.gsz; have h3 := HS.out.glt; omega)
      have HA5 : Hid (atomK w5 [.string a.name, .slice A5 a.args.length c5] a b5) := Lib.hid ⟨_, rfl, Nat.le_trans hs5 (by decide), hsl⟩
      have HL5 : Hid (a.args.length ≤ 4) := Lib.hid (by omega)
      obtain ⟨zx, zy, z0, z1, f0, f1⟩ := HS5.out.box
      have HD := Lib.hid (HS5.out.done HA5.out HB5.out HX.out.1 HX.out.2.1 HL5.out)
      clear hc hC5 hR5 hK5 hsl hfar5 hs5 hx5 hp5
      go_wp2
      refine bodyPost_ret (v := .tuple #[.slice A1 xs.length c1, .agg #[.string a.name, .slice A5 a.args.length c5]]) (by simp [results, Try.results13, go_sem, z0, z1]) rfl HD.out

end Go.Proofs.Ytbppnelbjklpeaa
