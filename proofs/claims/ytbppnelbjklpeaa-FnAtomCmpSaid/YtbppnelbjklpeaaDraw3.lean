/- The draw of two atoms. -/
import Derived.Laws.EntriesVeiled
import Derived.Deep.RegionHeld3
import Derived.Deep.RegionWith
import Derived.Deep.RegionLaw
import Derived.BigQuiet
import Derived.Deep.QuietTactic
import Derived.Deep.DrawnRows
import Derived.Deep.AppendLies
import Derived.WalkKit
import Derived.WalkSpells
import Derived.WalkLawsBesides
import Derived.Lib.Hide
import Derived.Test.YtbppnelbjklpeaaDraw2
import Derived.Test.YtbppnelbjklpeaaL3
namespace Go.Proofs.Ytbppnelbjklpeaa
open Go.RowKit D
set_option linter.unusedVariables false
attribute [local go_sem ↓] Go.wp_at_zero Go.wp_at_succ

/-- Under way: two boxes for the results, an atom whose blocks lie behind them, a reader. -/
structure CSt (w : World) (g p : Nat) (a : A) (v : Value) (bs : List Nat) (W : World) : Prop where
  at1 : atomK W [.string a.name, v] a bs
  far : ∀ b ∈ bs, w.heap.size + 2 ≤ b ∧ b ≠ g
  r2 : ∃ s A l c, W.heap[w.heap.size]? = some (.cells #[.string s, .slice A l c] 25 (0, 0))
  r3 : ∃ s A l c, W.heap[w.heap.size + 1]? = some (.cells #[.string s, .slice A l c] 25 (0, 0))
  rdr : Rdr g p W
  bel : Below w.heap.size w W
  glt : w.heap.size + 2 ≤ g
  gsz : g < W.heap.size
section
variable {w : World} {g p : Nat} {a : A} {v : Value} {bs : List Nat} {W W' : World}
theorem D.Below.of_kept {N : Nat} {bs : List Nat} {W W' : World} (h : KeptBut bs W W') (hb : ∀ b ∈ bs, N ≤ b) (hN : N ≤ W.heap.size) : Below N W W' := h.below hb hN
theorem CSt.kept {p2 : Nat} (h : CSt w g p a v bs W) (hK : KeptBut [g] W W') (hR : Rdr g p2 W') : CSt w g p2 a v bs W' := by
  have hg := h.glt
  obtain ⟨s2, A2, l2, c2, h2⟩ := h.r2
  obtain ⟨s3, A3, l3, c3, h3⟩ := h.r3
  exact ⟨Good.kept atomK_good h.at1 hK (fun b hb => by have := (h.far b hb).2; simpa using this), h.far, ⟨s2, A2, l2, c2, hK.blk h2 (by simp; omega)⟩, ⟨s3, A3, l3, c3, hK.blk h3 (by simp; omega)⟩, hR, h.bel.trans (hK.below (by simp; omega) h.bel.size), hg, Nat.lt_of_lt_of_le h.gsz hK.size⟩
theorem CSt.below (h : CSt w g p a v bs W) (hB : Below W.heap.size W W') : CSt w g p a v bs W' := by
  have hg := h.glt
  have hz := h.gsz
  obtain ⟨s2, A2, l2, c2, h2⟩ := h.r2
  obtain ⟨s3, A3, l3, c3, h3⟩ := h.r3
  exact ⟨atomK_good.below h.at1 hB, h.far, ⟨s2, A2, l2, c2, (hB.block _ (lt_of_block h2)).trans h2⟩, ⟨s3, A3, l3, c3, (hB.block _ (lt_of_block h3)).trans h3⟩, h.rdr.below hB, h.bel.trans (hB.mono h.bel.size), hg, Nat.lt_of_lt_of_le hz hB.size⟩
theorem CSt.drew (h : CSt w g p a v bs W) : CSt w g p a v bs W.drew := h.below ((Below.refl _ _).drew)
theorem CSt.store (h : CSt w g p a v bs W) (s : ByteArray) (A : Option Addr) (l c : Nat) : CSt w g p a v bs ((W.setCell ⟨w.heap.size, 0, none⟩ (.string s)).setCell ⟨w.heap.size, 1, none⟩ (.slice A l c)) := by
  have hg := h.glt
  obtain ⟨s2, A2, l2, c2, h2⟩ := h.r2
  obtain ⟨s3, A3, l3, c3, h3⟩ := h.r3
  have hB : Below w.heap.size W ((W.setCell ⟨w.heap.size, 0, none⟩ (.string s)).setCell ⟨w.heap.size, 1, none⟩ (.slice A l c)) := ((Below.refl w.heap.size W).setCell (p := ⟨w.heap.size, 0, none⟩) (Nat.le_refl _) _).setCell (p := ⟨w.heap.size, 1, none⟩) (Nat.le_refl _) _
  refine ⟨atomK_good.keep h.at1 fun b hb => ?_, h.far, ⟨_, _, _, _, blk_set (blk_set0 h2)⟩, ⟨s3, A3, l3, c3, ?_⟩, ?_, h.bel.trans hB, hg, Nat.lt_of_lt_of_le h.gsz hB.size⟩
  · have := (h.far b hb).1
    rw [Below.heap_setCell _ _ _ _ (by simp; omega), Below.heap_setCell _ _ _ _ (by simp; omega)]
  · rw [Below.heap_setCell _ _ _ _ (by simp), Below.heap_setCell _ _ _ _ (by simp)]; exact h3
  · obtain ⟨Ad, n, cap, q1, q2, q3⟩ := h.rdr
    refine ⟨Ad, n, cap, ?_, q2, fun k hk => ?_⟩
    · rw [Below.heap_setCell _ _ _ _ (by simp; omega), Below.heap_setCell _ _ _ _ (by simp; omega)]; exact q1
    · obtain ⟨b, o, c, e, hlt, h4, h5⟩ := q3 k hk
      have hne : b ≠ w.heap.size := by
        intro e'; subst e'
        rw [cell_of_blk h2] at h4
        rcases hz : o + k with _ | _ | z <;> rw [hz] at h4 <;> simp at h4
      exact ⟨b, o, c, e, hlt, by rw [World.cell?_of_block (w := W) (by rw [Below.heap_setCell _ _ _ _ (by simpa using hne), Below.heap_setCell _ _ _ _ (by simpa using hne)])]; exact h4, h5⟩
end

theorem D.noZ (w : World) : ∃ s A l c, (w.alloc (.cells #[.string ⟨#[]⟩, .slice none 0 0] 25)).heap[w.heap.size]? = some (.cells #[.string s, .slice A l c] 25 (0, 0)) := ⟨_, _, _, _, heap_alloc_new w _⟩
/-- Two drawn atoms. -/
def TwoD (w : World) (e : Ending) (w' : World) : Prop := ∃ (a b : A) (A1 A2 : Option Addr) (c1 c2 : Nat) (b1 b2 : List Nat), e = .returned (.tuple #[.agg #[.string a.name, .slice A1 a.args.length c1], .agg #[.string b.name, .slice A2 b.args.length c2]]) ∧
  atomK w' [.string a.name, .slice A1 a.args.length c1] a b1 ∧ atomK w' [.string b.name, .slice A2 b.args.length c2] b b2 ∧ a.args.length ≤ 4 ∧ b.args.length ≤ 4 ∧ Below w.heap.size w w'
/-- Nothing behind the two boxes has changed. -/
def D.Same2 (w X Y : World) : Prop := (∀ k, w.heap.size + 2 ≤ k → Y.heap[k]? = X.heap[k]?) ∧ Below w.heap.size X Y
theorem D.Same2.refl (w X : World) : Same2 w X X := ⟨fun _ _ => rfl, Below.refl _ _⟩
theorem D.Same2.set {w X Y : World} {o : Nat} {u : Value} (h : Same2 w X Y) : Same2 w X (Y.setCell ⟨w.heap.size, o, none⟩ u) := ⟨fun k hk => (Below.heap_setCell _ _ _ _ (by simp; omega)).trans (h.1 k hk), h.2.setCell (Nat.le_refl _) _⟩
theorem D.Same2.set1 {w X Y : World} {o : Nat} {u : Value} (h : Same2 w X Y) : Same2 w X (Y.setCell ⟨w.heap.size + 1, o, none⟩ u) := ⟨fun k hk => (Below.heap_setCell _ _ _ _ (by simp; omega)).trans (h.1 k hk), h.2.setCell (Nat.le_succ _) _⟩
theorem TwoD.mk' {w X Y : World} {a b : A} {A1 A2 : Option Addr} {c1 c2 : Nat} {b1 b2 : List Nat} (h1 : atomK X [.string a.name, .slice A1 a.args.length c1] a b1) (f1 : ∀ k ∈ b1, w.heap.size + 2 ≤ k) (h2 : atomK X [.string b.name, .slice A2 b.args.length c2] b b2) (f2 : ∀ k ∈ b2, w.heap.size + 2 ≤ k)
    (n1 : a.args.length ≤ 4) (n2 : b.args.length ≤ 4) (hB : Below w.heap.size w X) (hs : Same2 w X Y) : TwoD w (.returned (.tuple #[.agg #[.string a.name, .slice A1 a.args.length c1], .agg #[.string b.name, .slice A2 b.args.length c2]])) Y :=
  ⟨a, b, A1, A2, c1, c2, b1, b2, rfl, atomK_good.keep h1 fun k hk => hs.1 k (f1 k hk), atomK_good.keep h2 fun k hk => hs.1 k (f2 k hk), n1, n2, hB.trans hs.2⟩
theorem D.cell_other {W : World} {b b' o o' : Nat} {u x : Value} (hne : b' ≠ b) (h : W.cell? ⟨b', o', none⟩ = some x) : (W.setCell ⟨b, o, none⟩ u).cell? ⟨b', o', none⟩ = some x := (World.cell?_of_block (w := W) (Below.heap_setCell _ _ _ _ hne)).trans h
theorem D.cells2 {W : World} {b : Nat} {s : ByteArray} {A : Option Addr} {l c : Nat} {t : TypeId} (h : W.heap[b]? = some (.cells #[.string s, .slice A l c] t (0, 0))) : W.cell? ⟨b, 0, none⟩ = some (.string s) ∧ W.cell? ⟨b, 1, none⟩ = some (.slice A l c) ∧ W.frozen? ⟨b, 0, none⟩ = false ∧ W.frozen? ⟨b, 1, none⟩ = false := ⟨cell_of_blk h, cell_of_blk h, frozen_of_blk h, frozen_of_blk h⟩

set_option maxRecDepth 100000 in
set_option maxHeartbeats 2000000 in
theorem drawAtomCmp_any (v : Value) (xs : List UInt8) (bs : List Nat) (w : World) (h : bytesK w [v] xs bs) (hn : xs.length ≤ 1048576) :
    Calls Try.prog 8 #[v] w (TwoD w) := by
  have hA : Below w.heap.size w ((w.alloc (.cells #[.string ⟨#[]⟩, .slice none 0 0] 25)).alloc (.cells #[.string ⟨#[]⟩, .slice none 0 0] 25)) := ((Below.refl _ _).alloc (Nat.le_refl _) _).alloc (by simp) _
  have ho := open_any v xs bs _ (bytesK_good.below h hA) hn
  have ht := heap_two w (.cells #[.string ⟨#[]⟩, .slice none 0 0] 25) (.cells #[.string ⟨#[]⟩, .slice none 0 0] 25)
  have HT := Lib.hid ht
  clear h ht
  go_enter Try.func8, Try.ntmps8
  go_wp2_with fail
  refine ho.mono ?_
  rintro e w1 ⟨rfl, hR, hb⟩
  obtain ⟨g, hg⟩ : ∃ g, g = ((w.alloc (.cells #[.string ⟨#[]⟩, .slice none 0 0] 25)).alloc (.cells #[.string ⟨#[]⟩, .slice none 0 0] 25)).heap.size := ⟨_, rfl⟩
  have hgw : g = w.heap.size + 2 := by rw [hg]; simp
  rw [← hg] at hR
  have hge : w.heap.size + 1 + 1 = g := by omega
  have hB1 : Below w.heap.size w w1 := hA.trans (hb.mono hA.size)
  have HR2 : Hid (∃ s A l c, w1.heap[w.heap.size]? = some (.cells #[.string s, .slice A l c] 25 (0, 0))) := Lib.hid ⟨_, _, _, _, (hb.block _ (by simp; omega)).trans HT.out.1⟩
  have HR3 : Hid (∃ s A l c, w1.heap[w.heap.size + 1]? = some (.cells #[.string s, .slice A l c] 25 (0, 0))) := Lib.hid ⟨_, _, _, _, (hb.block _ (by simp)).trans HT.out.2⟩
  have hd := l10AnyAtom_any g 0 w1 hR (by omega)
  have HGZ : Hid (g < w1.heap.size) := Lib.hid hR.lt
  have HB1 := Lib.hid hB1
  have HGW : Hid (g = w.heap.size + 2) := Lib.hid hgw
  clear ho hR hb hA HT hB1
  rw [← hg]
  clear hg hgw hge
  go_wp2_with fail
  refine hd.mono ?_
  rintro e w2 ⟨a, v2, L, p', rfl, hs2, hx, hC, hR2, hp2, hK2⟩
  obtain ⟨b1, hsl, hfar⟩ := hC.slice
  obtain ⟨A1, c1, rfl⟩ := own_shape hC.own
  have HS : Hid (CSt w g p' a (.slice A1 a.args.length c1) b1 w2) := Lib.hid (by
    obtain ⟨s2, A2, l2, d2, h2⟩ := HR2.out
    obtain ⟨s3, A3, l3, d3, h3⟩ := HR3.out
    have hg := HGW.out
    have hgz := HGZ.out
    refine ⟨⟨_, rfl, Nat.le_trans hs2 (by decide), hsl⟩, fun b hb => ?_, ⟨_, _, _, _, hK2.blk h2 (by simp; omega)⟩, ⟨_, _, _, _, hK2.blk h3 (by simp; omega)⟩, hR2, HB1.out.trans (hK2.below (by simp; omega) HB1.out.size), by omega, Nat.lt_of_lt_of_le hgz hK2.size⟩
    rcases hfar b hb with h | h
    · exact ⟨by omega, by omega⟩
    · simp at h)
  have HG2 : Hid (g < w2.heap.size) := Lib.hid HS.out.gsz
  have HX := Lib.hid hx
  have HP : Hid (p' ≤ 20) := Lib.hid (by omega)
  clear hd hC hR2 hK2 hsl hfar hs2 hx hp2 HR2 HR3 HB1
  replace HS := Lib.hid (HS.out.below ((Below.refl _ _).alloc (Nat.le_refl _) (.cells #[.string a.name, .slice A1 a.args.length c1] 25)))
  have y0 : (w2.alloc (.cells #[.string a.name, .slice A1 a.args.length c1] 25)).cell? ⟨w2.heap.size, 0, none⟩ = some (.string a.name) := by go_simp
  have y1 : (w2.alloc (.cells #[.string a.name, .slice A1 a.args.length c1] 25)).cell? ⟨w2.heap.size, 1, none⟩ = some (.slice A1 a.args.length c1) := by go_simp
  have hpk := pick_any g p' 4 _ HS.out.rdr (by have := HP.out; omega) (by omega) (by omega)
  have HW2 : Hid (w.heap.size + 2 < w2.heap.size) := Lib.hid (by have := HGW.out; have := HG2.out; omega)
  have HGL : Hid (g ≠ w2.heap.size) := Lib.hid (by have := HG2.out; omega)
  go_wp2_with fail
  refine hpk.mono ?_
  rintro e w3 ⟨i, rfl, hi, hR3, hG3⟩
  replace y0 := (KeptBut.of_grown hG3).cell (by have := HGL.out; intro hb; have h1 : w2.heap.size ∈ [g] := hb; simp at h1; omega) y0
  replace y1 := (KeptBut.of_grown hG3).cell (by have := HGL.out; intro hb; have h1 : w2.heap.size ∈ [g] := hb; simp at h1; omega) y1
  replace HS := Lib.hid (HS.out.kept (KeptBut.of_grown hG3) hR3)
  have HS2 := Lib.hid ((HS.out.drew).store a.name A1 a.args.length c1)
  have HW3 : Hid (w.heap.size + 2 < w2.heap.size) := HW2
  have hz2 : w2.heap.size < w3.heap.size := lt_of_cell y0
  clear hpk hR3 hG3
  have x2 := HS.out.r2
  obtain ⟨s2, A2, l2, d2, x2⟩ := x2
  have x3 := HS.out.r3
  obtain ⟨s3, A3, l3, d3, x3⟩ := x3
  obtain ⟨z20, z21, f20, f21⟩ := cells2 x2
  obtain ⟨z30, z31, f30, f31⟩ := cells2 x3
  clear x2 x3
  have hn0 : w.heap.size < w2.heap.size := by have := HW3.out; omega
  have hn1 : w.heap.size + 1 < w2.heap.size := by have := HW3.out; omega
  have hna : w2.heap.size ≠ w.heap.size := by omega
  have hnb : w2.heap.size ≠ w.heap.size + 1 := by omega
  have y0' : w3.drew.cell? ⟨w2.heap.size, 0, none⟩ = some (.string a.name) := y0
  have y1' : w3.drew.cell? ⟨w2.heap.size, 1, none⟩ = some (.slice A1 a.args.length c1) := y1
  by_cases hi0 : i = 0
  · subst hi0
    clear hi
    go_wp2
    replace y0 := y0'
    replace y1 := y1'
    go_region_held3 (fun w' => w'.cell? ⟨w2.heap.size, 0, none⟩ = some (.string a.name) ∧ w'.cell? ⟨w2.heap.size, 1, none⟩ = some (.slice A1 a.args.length c1))
      (first | with_reducible exact ⟨y0, y1⟩ | exact ⟨(by repeat (first | with_reducible exact y0 | with_reducible refine cell_other hna ?_ | with_reducible refine cell_other hnb ?_)), (by repeat (first | with_reducible exact y1 | with_reducible refine cell_other hna ?_ | with_reducible refine cell_other hnb ?_))⟩ | go_keep)
      (first
        | (go_at_call 39; refine Calls.mono (l3Atom_any a _ _ b1 _ (by first | with_reducible exact HS.out.drew.at1 | exact HS2.out.at1) (by have := HX.out; omega)) ?_; rintro e w4 ⟨hb4, cs4, b4, rfl, hR4, hN4⟩; obtain ⟨A4, c4, rfl⟩ := atom_cells hR4; have HQ := Lib.hid (CSt.below (w := w) (g := g) (p := p' + 1) (a := a) (v := .slice A1 a.args.length c1) (bs := b1) (by first | with_reducible exact HS.out.drew | exact HS2.out) hb4); have HB4 : Hid (∀ k ∈ b4, w.heap.size + 2 ≤ k) := Lib.hid (fun k hk => by have h1 := (hN4.own k hk).1; have h2 := HW3.out; simp at h1; omega); have HR4 := Lib.hid hR4; replace y0 := cell_later hb4 (by repeat (first | with_reducible exact y0 | with_reducible refine cell_other hna ?_)); replace y1 := cell_later hb4 (by repeat (first | with_reducible exact y1 | with_reducible refine cell_other hna ?_)); clear hR4 hN4; have x2 := HQ.out.r2; have x3 := HQ.out.r3; clear z20 z21 f20 f21 z30 z31 f30 f31; obtain ⟨t2, E2, k2, e2, x2⟩ := x2; obtain ⟨t3, E3, k3, e3, x3⟩ := x3; obtain ⟨z20, z21, f20, f21⟩ := cells2 x2; obtain ⟨z30, z31, f30, f31⟩ := cells2 x3; clear x2 x3; have hn2 : w.heap.size + 1 < w4.heap.size := lt_of_cell z30))
    all_goals
      have HF := Lib.hid (And.intro HQ.out (And.intro HR4.out HB4.out))
      clear HQ HR4 HB4
      go_wp2
      refine bodyPost_ret (v := .tuple #[.agg #[.string a.name, .slice A1 a.args.length c1], .agg #[.string a.name, .slice A4 a.args.length c4]]) (by simp [results, Try.results8, go_sem, z20, z21, z30, z31]) rfl ?_
      exact TwoD.mk' HF.out.1.at1 (fun k hk => (HF.out.1.far k hk).1) HF.out.2.1 HF.out.2.2 HX.out HX.out HF.out.1.bel (by repeat (first | with_reducible exact Same2.refl _ _ | with_reducible refine Same2.set ?_ | with_reducible refine Same2.set1 ?_))
  · have hi1 : ((i : Int) == 0) = false := beq_eq_false_iff_ne.2 (by omega)
    go_wp2
    replace y0 := y0'
    replace y1 := y1'
    go_region_held3 (fun w' => w'.cell? ⟨w2.heap.size, 0, none⟩ = some (.string a.name) ∧ w'.cell? ⟨w2.heap.size, 1, none⟩ = some (.slice A1 a.args.length c1))
      (first | with_reducible exact ⟨y0, y1⟩ | exact ⟨(by repeat (first | with_reducible exact y0 | with_reducible refine cell_other hna ?_ | with_reducible refine cell_other hnb ?_)), (by repeat (first | with_reducible exact y1 | with_reducible refine cell_other hna ?_ | with_reducible refine cell_other hnb ?_))⟩ | go_keep)
      (first
        | (go_at_call 37; refine Calls.mono (l10AnyAtom_any g (p' + 1) _ (by first | with_reducible exact HS.out.drew.rdr | exact HS2.out.rdr) (by have := HP.out; omega)) ?_; rintro e w4 ⟨b, v4, L4, p4, rfl, hs4, hx4, hC4, hR4, hp4, hK4⟩; obtain ⟨b4, hsl4, hf4⟩ := hC4.slice; obtain ⟨A4, c4, rfl⟩ := own_shape hC4.own; have HQ := Lib.hid (CSt.kept (w := w) (g := g) (p := p' + 1) (a := a) (v := .slice A1 a.args.length c1) (bs := b1) (by first | with_reducible exact HS.out.drew | exact HS2.out) hK4 hR4); have HB4 : Hid (∀ k ∈ b4, w.heap.size + 2 ≤ k) := Lib.hid (fun k hk => by have h1 := hf4 k hk; have h2 := HW3.out; simp at h1; omega); have HR4 : Hid (atomK w4 [.string b.name, .slice A4 b.args.length c4] b b4) := Lib.hid ⟨_, rfl, Nat.le_trans hs4 (by decide), hsl4⟩; have HX4 : Hid (b.args.length ≤ 4) := Lib.hid hx4; replace y0 := hK4.cell (by have := HGL.out; intro hb; have h1 : w2.heap.size ∈ [g] := hb; simp at h1; omega) (show World.cell? _ ⟨w2.heap.size, 0, none⟩ = _ by repeat (first | with_reducible exact y0 | with_reducible refine cell_other hna ?_)); replace y1 := hK4.cell (by have := HGL.out; intro hb; have h1 : w2.heap.size ∈ [g] := hb; simp at h1; omega) (show World.cell? _ ⟨w2.heap.size, 1, none⟩ = _ by repeat (first | with_reducible exact y1 | with_reducible refine cell_other hna ?_)); clear hsl4 hf4 hs4 hx4 hC4 hR4 hp4 hK4; have x2 := HQ.out.r2; have x3 := HQ.out.r3; clear z20 z21 f20 f21 z30 z31 f30 f31; obtain ⟨t2, E2, k2, e2, x2⟩ := x2; obtain ⟨t3, E3, k3, e3, x3⟩ := x3; obtain ⟨z20, z21, f20, f21⟩ := cells2 x2; obtain ⟨z30, z31, f30, f31⟩ := cells2 x3; clear x2 x3; have hn2 : w.heap.size + 1 < w4.heap.size := lt_of_cell z30))
    all_goals
      have HF := Lib.hid (And.intro HQ.out (And.intro HR4.out HB4.out))
      clear HQ HR4 HB4
      go_wp2
      refine bodyPost_ret (v := .tuple #[.agg #[.string a.name, .slice A1 a.args.length c1], .agg #[.string b.name, .slice A4 b.args.length c4]]) (by simp [results, Try.results8, go_sem, z20, z21, z30, z31]) rfl ?_
      exact TwoD.mk' HF.out.1.at1 (fun k hk => (HF.out.1.far k hk).1) HF.out.2.1 HF.out.2.2 HX.out HX4.out HF.out.1.bel (by repeat (first | with_reducible exact Same2.refl _ _ | with_reducible refine Same2.set ?_ | with_reducible refine Same2.set1 ?_))

end Go.Proofs.Ytbppnelbjklpeaa
