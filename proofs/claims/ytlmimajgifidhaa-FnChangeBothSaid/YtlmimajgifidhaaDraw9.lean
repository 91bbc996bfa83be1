/- The draws of a change (by gen/mkdraw9.py). -/
import Derived.Laws.EntriesVeiled
import Derived.Deep.RegionHeld3
import Derived.Deep.RegionWith
import Derived.Deep.RegionLaw
import Derived.BigQuiet
import Derived.Deep.QuietTactic
import Derived.Deep.DrawnRows
import Derived.WalkKit
import Derived.WalkSpells
import Derived.WalkLawsBesides
import Derived.Lib.Hide
import Derived.Test.YtlmimajgifidhaaDraw5
import Derived.Test.YtlmimajgifidhaaL3L
namespace Go.Proofs.Ytlmimajgifidhaa
open Go.RowKit D
set_option linter.unusedVariables false
attribute [local go_sem ↓] Go.wp_at_zero Go.wp_at_succ

theorem D.noSB_pair {w : World} {n0 : Nat} {A B : Option Addr} {l c l' c' : Nat} {t : TypeId} (h : w.heap[n0]? = some (.cells #[.slice A l c, .slice B l' c'] t (0, 0))) : NoSB w n0 := fun o u hu => by
  rw [cell_of_blk h] at hu
  match o with
  | 0 => simp at hu; subst hu; exact ⟨fun s => by simp, fun b => by simp⟩
  | 1 => simp at hu; subst hu; exact ⟨fun s => by simp, fun b => by simp⟩
  | o + 2 => simp at hu
theorem D.atoms_set {w : World} {n0 : Nat} {o : Nat} {u v : Value} {xs : List A} {bs : List Nat} (h : atomsK w [v] xs bs) (hn : n0 ∉ bs) : atomsK (w.setCell ⟨n0, o, none⟩ u) [v] xs bs :=
  atomsK_good.keep h fun b hb => Below.heap_setCell _ _ _ _ (by intro e; have e2 : b = n0 := e; exact hn (e2 ▸ hb))

/-- A drawn change: what goes lies in a row of the draw's own. -/
def ChgO (g p q : Nat) (w : World) (e : Ending) (w' : World) : Prop :=
  ∃ (c : Ch) (A1 A2 : Option Addr) (c1 c2 : Nat) (L : List Value) (b1 b2 : List Nat) (p' : Nat), e = .returned (.agg #[.slice A1 c.comes.length c1, .slice A2 c.goes.length c2]) ∧ atomsK w' [.slice A1 c.comes.length c1] c.comes b1 ∧
    Coll 2 atomK w.heap.size 45 w' (.slice A2 c.goes.length c2) L c.goes b2 ∧ (∀ b ∈ b1, (Value.slice A2 c.goes.length c2).ownBlock ≠ some b) ∧ (c.comes.length ≤ 50 ∧ c.goes.length ≤ 5 ∧ (∀ a ∈ c.comes, a.args.length ≤ 4) ∧ ∀ a ∈ c.goes, a.args.length ≤ 4) ∧
    Rdr g p' w' ∧ p' ≤ p + q ∧ KeptBut [g] w w'

set_option maxRecDepth 100000 in
set_option maxHeartbeats 1000000 in
theorem l10Change_any (g p : Nat) (w : World) (h : Rdr g p w) (hp : p ≤ 600000) :
    Calls Try.prog 61 #[.pointer (some ⟨g, 0, none⟩)] w (ChgO g p 80 w) := by
  have hA : Below w.heap.size w (w.alloc (.cells #[.slice none 0 0, .slice none 0 0] 28)) := (Below.refl _ _).alloc (Nat.le_refl _) _
  have HZ := Lib.hid (heap_alloc_new w (.cells #[.slice none 0 0, .slice none 0 0] 28))
  have HL := Lib.hid h.lt
  have k1 := l10Facts_any g p 5 _ (h.below hA) (by omega) (by omega) (by omega)
  have HA := Lib.hid hA
  have HP := Lib.hid hp
  clear h hA hp
  go_enter Try.func61, Try.ntmps61
  go_wp2_with fail
  refine k1.mono ?_
  rintro e w1 ⟨xs, v1, p1, rfl, hs1, hx1, hsm1, hp1, hF1⟩
  obtain ⟨A1, c1, rfl⟩ := hF1.shape
  obtain ⟨b1, hat1, hfar1⟩ := hF1.atoms
  have hg0 : Hid (∀ n0, n0 = w.heap.size → n0 ∉ [g]) := Lib.hid (fun n0 e => by have := HL.out; simp; omega)
  replace HZ := Lib.hid (hF1.kept.blk HZ.out (hg0.out _ rfl))
  have HK1 := Lib.hid ((KeptBut.of_below HA.out).trans hF1.kept)
  have HR1 := Lib.hid hF1.rdr
  have HAT := Lib.hid hat1
  have HAP := Lib.hid (atoms_apartN hF1.rdr.noSB hat1)
  have HX1 := Lib.hid (And.intro hs1 (And.intro hx1 (And.intro hsm1 hp1)))
  have k2 := l10Facts_any g p1 5 w1 hF1.rdr (by have := HP.out; omega) (by omega) (by omega)
  clear k1 hF1 hat1 hfar1 hs1 hx1 hsm1 hp1
  go_wp2_with fail
  refine k2.mono ?_
  rintro e w2 ⟨ys, v2, p2, rfl, hs2, hx2, hsm2, hp2, hF2⟩
  obtain ⟨A2, c2, rfl⟩ := hF2.shape
  obtain ⟨b2, hat2, hfar2⟩ := hF2.atoms
  replace HZ := Lib.hid (hF2.kept.blk HZ.out (hg0.out _ rfl))
  replace HAT := Lib.hid (Good.kept atomsK_good HAT.out hF2.kept (fun b hb => by simp; intro e; exact HAP.out (e ▸ hb)))
  have HK2 := Lib.hid (HK1.out.trans hF2.kept)
  have HR2 := Lib.hid hF2.rdr
  have HX2 : Hid (ys.length ≤ 5 ∧ (∀ a ∈ ys, a.args.length ≤ 3) ∧ p2 ≤ p1 + 40) := Lib.hid ⟨hx2, hsm2, hp2⟩
  have k3 := l3Less_own ys xs _ _ b2 b1 w2 hat2 HAT.out HX1.out.1 (by omega) (fun a ha => by have := hsm2 a ha; omega)
  clear k2 hF2 hat2 hfar2 hs2 hx2 hsm2 hp2
  go_wp2_with fail
  refine k3.mono ?_
  rintro e w3 ⟨hb3, v3, L3, b3, rfl, hC3, hfar3⟩
  obtain ⟨A3, c3, rfl⟩ := own_shape hC3.own
  replace HZ := Lib.hid ((hb3.block _ (lt_of_block HZ.out)).trans HZ.out)
  have HLT := Lib.hid (atomsK_good.lt HAT.out)
  have HS1 := Lib.hid HK1.out.size
  have HS2 := Lib.hid HK2.out.size
  have hn1 : w.heap.size ∉ b1 := atoms_apartN (noSB_pair (HZ.out)) (atomsK_good.below HAT.out hb3)
  have hn3 : w.heap.size ∉ b3 := rowed_apart (noSB_pair (HZ.out)) hC3.row
  have hx1 := atoms_set (o := 0) (u := .slice A1 xs.length c1) (atomsK_good.below HAT.out hb3) hn1
  have hx2 := atoms_set (o := 1) (u := .slice A3 (lessL ys xs).length c3) hx1 hn1
  have z1 := blk_set0 (u := .slice A1 xs.length c1) HZ.out
  have hc1 := hC3.setBox (o := 0) (u := .slice A1 xs.length c1) atomK_good (own_ne_blk hC3.own HZ.out (by decide)) hn3
  have hc2 := hc1.setBox (o := 1) (u := .slice A3 (lessL ys xs).length c3) atomK_good (own_ne_blk hC3.own HZ.out (by decide)) hn3
  have hBW : Below w.heap.size w3 ((w3.setCell ⟨w.heap.size, 0, none⟩ (.slice A1 xs.length c1)).setCell ⟨w.heap.size, 1, none⟩ (.slice A3 (lessL ys xs).length c3)) := ((Below.refl w.heap.size w3).setCell (p := ⟨w.heap.size, 0, none⟩) (Nat.le_refl _) _).setCell (p := ⟨w.heap.size, 1, none⟩) (Nat.le_refl _) _
  have HD : Hid (ChgO g p 80 w (.returned (.agg #[.slice A1 xs.length c1, .slice A3 (lessL ys xs).length c3])) ((w3.setCell ⟨w.heap.size, 0, none⟩ (.slice A1 xs.length c1)).setCell ⟨w.heap.size, 1, none⟩ (.slice A3 (lessL ys xs).length c3))) := Lib.hid
    ⟨⟨xs, lessL ys xs⟩, A1, A3, c1, c3, L3, b1, b3, p2, rfl, hx2, hc2.mono HS2.out, fun b hb => own_block_ge hC3.own (HLT.out b hb), ⟨by have := HX1.out.2.1; dsimp only; omega, by have := HX2.out.1; have h9 : (lessL ys xs).length ≤ ys.length := List.length_filter_le _ _; dsimp only; omega, fun a ha => by have := HX1.out.2.2.1 a ha; omega, fun a ha => by have := HX2.out.2.1 a (mem_less ha); omega⟩,
      ((HR2.out.below hb3).belowN hBW HL.out), by have := HX1.out.2.2.2; have := HX2.out.2.2; omega, (HK2.out.belowN hb3 HS2.out).belowN hBW (Nat.le_refl _)⟩
  have z0 : w3.cell? ⟨w.heap.size, 0, none⟩ = some (.slice none 0 0) := cell_of_blk HZ.out
  have z1' : w3.cell? ⟨w.heap.size, 1, none⟩ = some (.slice none 0 0) := cell_of_blk HZ.out
  have f0 : w3.frozen? ⟨w.heap.size, 0, none⟩ = false := frozen_of_blk HZ.out
  have f1 : w3.frozen? ⟨w.heap.size, 1, none⟩ = false := frozen_of_blk HZ.out
  clear k3 hC3 hfar3 hx1 hx2 hc1 hc2 hn1 hn3 z1 hBW
  go_wp2
  refine bodyPost_ret (v := .agg #[.slice A1 xs.length c1, .slice A3 (lessL ys xs).length c3]) (by simp [results, Try.results61, go_sem, z0, z1']) rfl HD.out

/-- A change under way: its box is block n1, the result's block is n0; what goes lies in a row of the draw's own. -/
structure CInv (g p : Nat) (w : World) (n0 n1 : Nat) (c : Ch) (A1 A2 : Option Addr) (c1 c2 : Nat) (L : List Value) (b1 b2 : List Nat) (wr : World) : Prop where
  r0 : wr.heap[n0]? = some (.cells #[.slice none 0 0, .slice none 0 0] 28 (0, 0))
  r1 : wr.heap[n1]? = some (.cells #[.slice A1 c.comes.length c1, .slice A2 c.goes.length c2] 28 (0, 0))
  h0 : w.heap.size ≤ n0
  h1 : w.heap.size ≤ n1
  ne : n0 ≠ n1
  at1 : atomsK wr [.slice A1 c.comes.length c1] c.comes b1
  coll : Coll 2 atomK w.heap.size 45 wr (.slice A2 c.goes.length c2) L c.goes b2
  dif : ∀ b ∈ b1, (Value.slice A2 c.goes.length c2).ownBlock ≠ some b
  rdr : Rdr g p wr
  kept : KeptBut [g] w wr
  glt : g < w.heap.size
/-- The same, whatever row it lies in. -/
structure DInv (g p : Nat) (w : World) (n0 n1 : Nat) (c : Ch) (A1 A2 : Option Addr) (c1 c2 : Nat) (b1 b2 : List Nat) (wr : World) : Prop where
  r0 : wr.heap[n0]? = some (.cells #[.slice none 0 0, .slice none 0 0] 28 (0, 0))
  r1 : wr.heap[n1]? = some (.cells #[.slice A1 c.comes.length c1, .slice A2 c.goes.length c2] 28 (0, 0))
  h0 : w.heap.size ≤ n0
  h1 : w.heap.size ≤ n1
  ne : n0 ≠ n1
  at1 : atomsK wr [.slice A1 c.comes.length c1] c.comes b1
  at2 : atomsK wr [.slice A2 c.goes.length c2] c.goes b2
  rdr : Rdr g p wr
  kept : KeptBut [g] w wr
  glt : g < w.heap.size
/-- A drawn change. -/
def ChgD (g p q : Nat) (w : World) (e : Ending) (w' : World) : Prop :=
  ∃ (c : Ch) (A1 A2 : Option Addr) (c1 c2 : Nat) (b1 b2 : List Nat) (p' : Nat), e = .returned (.agg #[.slice A1 c.comes.length c1, .slice A2 c.goes.length c2]) ∧ atomsK w' [.slice A1 c.comes.length c1] c.comes b1 ∧ atomsK w' [.slice A2 c.goes.length c2] c.goes b2 ∧
    (c.comes.length ≤ 50 ∧ c.goes.length ≤ 6 ∧ (∀ a ∈ c.comes, a.args.length ≤ 4) ∧ ∀ a ∈ c.goes, a.args.length ≤ 4) ∧ Rdr g p' w' ∧ p' ≤ p + q ∧ KeptBut [g] w w'
section
variable {g p : Nat} {w : World} {n0 n1 : Nat} {c : Ch} {A1 A2 : Option Addr} {c1 c2 : Nat} {L : List Value} {b1 b2 : List Nat} {wr : World}
theorem CInv.call {p2 : Nat} {w2 : World} (h : CInv g p w n0 n1 c A1 A2 c1 c2 L b1 b2 wr) (hR : Rdr g p2 w2) (hK : KeptBut [g] wr w2) : CInv g p2 w n0 n1 c A1 A2 c1 c2 L b1 b2 w2 := by
  have hg := h.glt; have h0 := h.h0; have h1 := h.h1
  have ha := atoms_apartN h.rdr.noSB h.at1
  exact ⟨hK.blk h.r0 (by simp; omega), hK.blk h.r1 (by simp; omega), h0, h1, h.ne, Good.kept atomsK_good h.at1 hK (fun b hb => by simp; intro e; exact ha (e ▸ hb)), h.coll.keptG atomK_good hK hg (rowed_apart h.rdr.noSB h.coll.row), h.dif, hR, h.kept.trans hK, hg⟩
theorem CInv.drew (h : CInv g p w n0 n1 c A1 A2 c1 c2 L b1 b2 wr) : CInv g p w n0 n1 c A1 A2 c1 c2 L b1 b2 wr.drew :=
  ⟨h.r0, h.r1, h.h0, h.h1, h.ne, atomsK_good.keep h.at1 fun _ _ => rfl, ⟨h.coll.own, h.coll.row.keep atomK_good fun _ _ => rfl, h.coll.far⟩, h.dif, h.rdr.drew, h.kept.drew, h.glt⟩
theorem CInv.alloc (h : CInv g p w n0 n1 c A1 A2 c1 c2 L b1 b2 wr) (o : Obj) : CInv g p w n0 n1 c A1 A2 c1 c2 L b1 b2 (wr.alloc o) := by
  have hA : Below wr.heap.size wr (wr.alloc o) := (Below.refl _ _).alloc (Nat.le_refl _) _
  exact ⟨(hA.block n0 (lt_of_block h.r0)).trans h.r0, (hA.block n1 (lt_of_block h.r1)).trans h.r1, h.h0, h.h1, h.ne, atomsK_good.below h.at1 hA, h.coll.below atomK_good hA, h.dif, h.rdr.below hA, h.kept.belowN hA h.kept.size, h.glt⟩
theorem CInv.toD (h : CInv g p w n0 n1 c A1 A2 c1 c2 L b1 b2 wr) : ∃ b3, DInv g p w n0 n1 c A1 A2 c1 c2 b1 b3 wr := by
  obtain ⟨b3, hs, _⟩ := h.coll.slice
  exact ⟨b3, h.r0, h.r1, h.h0, h.h1, h.ne, h.at1, hs, h.rdr, h.kept, h.glt⟩
theorem CInv.cells (h : CInv g p w n0 n1 c A1 A2 c1 c2 L b1 b2 wr) : wr.cell? ⟨n1, 0, none⟩ = some (.slice A1 c.comes.length c1) ∧ wr.cell? ⟨n1, 1, none⟩ = some (.slice A2 c.goes.length c2) ∧ wr.frozen? ⟨n1, 1, none⟩ = false := ⟨cell_of_blk h.r1, cell_of_blk h.r1, frozen_of_blk h.r1⟩
/-- An atom's cells, new. -/
theorem CInv.lit {a : A} {A3 : Option Addr} {c3 : Nat} {b3 : List Nat} (h : CInv g p w n0 n1 c A1 A2 c1 c2 L b1 b2 wr) (ha : atomK wr [.string a.name, .slice A3 a.args.length c3] a b3) (hb : ∀ b ∈ b3, (Value.slice A2 c.goes.length c2).ownBlock ≠ some b) :
    Coll 2 atomK w.heap.size 45 (wr.alloc (.cells #[.string a.name, .slice A3 a.args.length c3] 45)) (.slice A2 c.goes.length c2) L c.goes b2 ∧ Rowed 2 atomK (wr.alloc (.cells #[.string a.name, .slice A3 a.args.length c3] 45)) [.string a.name, .slice A3 a.args.length c3] [a] b3 ∧
      Lies (wr.alloc (.cells #[.string a.name, .slice A3 a.args.length c3] 45)) (some ⟨wr.heap.size, 0, none⟩) [.string a.name, .slice A3 a.args.length c3] ∧ Below w.heap.size wr (wr.alloc (.cells #[.string a.name, .slice A3 a.args.length c3] 45)) ∧ w.heap.size ≤ (wr.alloc (.cells #[.string a.name, .slice A3 a.args.length c3] 45)).heap.size := by
  have h2 := h.alloc (.cells #[.string a.name, .slice A3 a.args.length c3] 45)
  have hA : Below wr.heap.size wr (wr.alloc (.cells #[.string a.name, .slice A3 a.args.length c3] 45)) := (Below.refl _ _).alloc (Nat.le_refl _) _
  exact ⟨h2.coll, Rowed.one_el atomK_ones (atomK_good.below ha hA), lies_block (heap_alloc_new wr _), (Below.refl _ _).alloc h.kept.size _, h2.kept.size⟩
/-- Behind an append of atoms, and the store back. -/
theorem CInv.app {w3 : World} {o : Obj} {A3 : Option Addr} {k3 c3 : Nat} {L3 : List Value} {xs3 : List A} {b3 : List Nat} (h : CInv g p w n0 n1 c A1 A2 c1 c2 L b1 b2 wr) (hC : Coll 2 atomK w.heap.size 45 w3 (.slice A3 k3 c3) L3 xs3 b3) (hk : k3 = xs3.length) (hB : Below w.heap.size wr w3) (hG : (wr.alloc o).grownBy w3 (Value.slice A2 c.goes.length c2).ownBlock) :
    w3.cell? ⟨n1, 0, none⟩ = some (.slice A1 c.comes.length c1) ∧ w3.cell? ⟨n1, 1, none⟩ = some (.slice A2 c.goes.length c2) ∧ w3.frozen? ⟨n1, 1, none⟩ = false ∧ ∃ b4, DInv g p w n0 n1 ⟨c.comes, xs3⟩ A1 A3 c1 c3 b1 b4 (w3.setCell ⟨n1, 1, none⟩ (.slice A3 k3 c3)) := by
  subst hk
  have h2 := h.alloc o
  have b0 := (hG.block n0 (lt_of_block h2.r0) (own_ne_blk h2.coll.own h2.r0 (by decide)).symm).trans h2.r0
  have b1' := (hG.block n1 (lt_of_block h2.r1) (own_ne_blk h2.coll.own h2.r1 (by decide)).symm).trans h2.r1
  have ha : atomsK w3 [.slice A1 c.comes.length c1] c.comes b1 := atomsK_good.keep h2.at1 fun b hb => hG.block b (atomsK_good.lt h2.at1 b hb) (h2.dif b hb).symm
  obtain ⟨b4, hs, _⟩ := hC.slice
  refine ⟨cell_of_blk b1', cell_of_blk b1', frozen_of_blk b1', b4, (Below.heap_setCell _ _ _ _ h.ne).trans b0, blk_set b1', h.h0, h.h1, h.ne, atoms_set ha (atoms_apartN (noSB_pair b1') ha), atoms_set hs (atoms_apartN (noSB_pair b1') hs), ?_, (h.kept.belowN hB (Nat.le_refl _)).setNew h.h1 _, h.glt⟩
  exact (h.rdr.belowN hB h.glt).belowN ((Below.refl w.heap.size w3).setCell h.h1 _) h.glt
theorem DInv.call {p2 : Nat} {w2 : World} (h : DInv g p w n0 n1 c A1 A2 c1 c2 b1 b2 wr) (hR : Rdr g p2 w2) (hK : KeptBut [g] wr w2) : DInv g p2 w n0 n1 c A1 A2 c1 c2 b1 b2 w2 := by
  have hg := h.glt; have h0 := h.h0; have h1 := h.h1
  have ha := atoms_apartN h.rdr.noSB h.at1
  have hb2 := atoms_apartN h.rdr.noSB h.at2
  exact ⟨hK.blk h.r0 (by simp; omega), hK.blk h.r1 (by simp; omega), h0, h1, h.ne, Good.kept atomsK_good h.at1 hK (fun b hb => by simp; intro e; exact ha (e ▸ hb)), Good.kept atomsK_good h.at2 hK (fun b hb => by simp; intro e; exact hb2 (e ▸ hb)), hR, h.kept.trans hK, hg⟩
theorem DInv.comes {xs : List A} {A5 : Option Addr} {c5 : Nat} {b5 : List Nat} (h : DInv g p w n0 n1 c A1 A2 c1 c2 b1 b2 wr) (ha : atomsK wr [.slice A5 xs.length c5] xs b5) : DInv g p w n0 n1 ⟨xs, c.goes⟩ A5 A2 c5 c2 b5 b2 (wr.setCell ⟨n1, 0, none⟩ (.slice A5 xs.length c5)) :=
  ⟨(Below.heap_setCell _ _ _ _ h.ne).trans h.r0, blk_set0 h.r1, h.h0, h.h1, h.ne, atoms_set ha (atoms_apartN (noSB_pair h.r1) ha), atoms_set h.at2 (atoms_apartN (noSB_pair h.r1) h.at2), h.rdr.belowN ((Below.refl w.heap.size wr).setCell h.h1 _) h.glt, h.kept.setNew h.h1 _, h.glt⟩
theorem DInv.done {q p0 : Nat} (h : DInv g p w n0 n1 c A1 A2 c1 c2 b1 b2 wr) (hs : c.comes.length ≤ 50 ∧ c.goes.length ≤ 6 ∧ (∀ a ∈ c.comes, a.args.length ≤ 4) ∧ ∀ a ∈ c.goes, a.args.length ≤ 4) (hp : p ≤ p0 + q) :
    ChgD g p0 q w (.returned (.agg #[.slice A1 c.comes.length c1, .slice A2 c.goes.length c2])) ((wr.setCell ⟨n0, 0, none⟩ (.slice A1 c.comes.length c1)).setCell ⟨n0, 1, none⟩ (.slice A2 c.goes.length c2)) := by
  have hB : Below w.heap.size wr ((wr.setCell ⟨n0, 0, none⟩ (.slice A1 c.comes.length c1)).setCell ⟨n0, 1, none⟩ (.slice A2 c.goes.length c2)) := ((Below.refl _ _).setCell h.h0 _).setCell h.h0 _
  have e1 := atoms_apartN (noSB_pair h.r0) h.at1
  have e2 := atoms_apartN (noSB_pair h.r0) h.at2
  exact ⟨c, A1, A2, c1, c2, b1, b2, p, rfl, atoms_set (atoms_set h.at1 e1) e1, atoms_set (atoms_set h.at2 e2) e2, hs, h.rdr.belowN hB h.glt, hp, h.kept.belowN hB (Nat.le_refl _)⟩
end

set_option maxRecDepth 100000 in
set_option maxHeartbeats 2000000 in
theorem l10AnyChange_any (g p : Nat) (w : World) (h : Rdr g p w) (hp : p ≤ 500000) :
    Calls Try.prog 36 #[.pointer (some ⟨g, 0, none⟩)] w (ChgD g p 300 w) := by
  obtain ⟨i0, hi, hz0, hz1, hz2⟩ := info_parts infoAtomD
  have hA : Below w.heap.size w (w.alloc (.cells #[.slice none 0 0, .slice none 0 0] 28)) := (Below.refl _ _).alloc (Nat.le_refl _) _
  have HZ := Lib.hid (heap_alloc_new w (.cells #[.slice none 0 0, .slice none 0 0] 28))
  have HL := Lib.hid h.lt
  have k1 := l10Change_any g p _ (h.below hA) (by omega)
  have HA := Lib.hid hA
  have HP := Lib.hid hp
  clear h hA hp
  go_enter Try.func36, Try.ntmps36
  go_wp2_with fail
  refine k1.mono ?_
  rintro e w1 ⟨c, A1, A2, c1, c2, L, b1, b2, p1, rfl, hat, hC, hdif, hsz, hR, hp1, hK⟩
  have HX := Lib.hid (And.intro hsz hp1)
  have HI : Hid (CInv g p1 w w.heap.size w1.heap.size c A1 A2 c1 c2 L b1 b2 (w1.alloc (.cells #[.slice A1 c.comes.length c1, .slice A2 c.goes.length c2] 28))) := Lib.hid (by
    have hA1 : Below w1.heap.size w1 (w1.alloc (.cells #[.slice A1 c.comes.length c1, .slice A2 c.goes.length c2] 28)) := (Below.refl _ _).alloc (Nat.le_refl _) _
    have hz := hK.blk HZ.out (by have := HL.out; simp; omega)
    have hk := (KeptBut.of_below HA.out).trans hK
    exact ⟨(hA1.block _ (lt_of_block hz)).trans hz, heap_alloc_new w1 _, Nat.le_refl _, hk.size, Nat.ne_of_lt (lt_of_block hz), atomsK_good.below hat hA1, (hC.mono (by have := HA.out.size; simp)).below atomK_good hA1, hdif, hR.below hA1, hk.belowN hA1 hk.size, HL.out⟩)
  have hnn : w.heap.size < w1.heap.size := lt_of_block (hK.blk HZ.out (by have := HL.out; simp; omega))
  have hpk := pick_any g p1 16 _ HI.out.rdr (by have := HP.out; omega) (by omega) (by omega)
  clear k1 hat hC hdif hsz hR hp1 hK HZ
  go_wp2_with fail
  refine hpk.mono ?_
  rintro e w2 ⟨j, rfl, hj, hR2, hG2⟩
  replace HI := Lib.hid (HI.out.call hR2 (KeptBut.of_grown hG2))
  clear hpk hR2 hG2
  by_cases hj0 : j = 0
  · subst hj0
    clear hj
    replace HI := Lib.hid HI.out.drew
    have q0 := HI.out.cells.1
    have q1 := HI.out.cells.2.1
    have q2 := HI.out.cells.2.2
    have H63 : Hid (c.goes.length + 1 ≤ maxLen) := Lib.hid (by have := HX.out.1.2.1; unfold maxLen; omega)
    have HBY : Hid ((c.goes.length + 1) * 40 ≤ 140737488355328) := Lib.hid (by have := HX.out.1.2.1; omega)
    go_wp2
    go_region_law
      (first
        | (go_simp; go_at_call 57; refine (l10AnyAtom_any g _ _ HI.out.rdr (by have := HP.out; have := HX.out.2; omega)).mono ?_; rintro e w3 ⟨a, v3, L3, p3, rfl, hs3, hx3, hC3, hR3, hp3, hK3⟩; have HF : Hid (∀ b, _ ≤ b → (Value.slice A2 c.goes.length c2).ownBlock ≠ some b) := Lib.hid (fun b hb => own_block_lt HI.out.coll.own hb); replace HI := Lib.hid (HI.out.call hR3 hK3); replace q0 := HI.out.cells.1; replace q1 := HI.out.cells.2.1; replace q2 := HI.out.cells.2.2; have q3 : w1.heap.size < w3.heap.size := lt_of_cell q1; obtain ⟨A3, c3, rfl⟩ := own_shape hC3.own; obtain ⟨b5, hsl5, hfar5⟩ := hC3.slice; have HF3 : Hid (∀ b ∈ b5, (Value.slice A2 c.goes.length c2).ownBlock ≠ some b) := Lib.hid (fun b hb => HF.out b ((hfar5 b hb).resolve_right (by simp))); have HT := Lib.hid (HI.out.lit (a := a) ⟨_, rfl, Nat.le_trans hs3 (by decide), hsl5⟩ HF3.out); have HX3 : Hid (a.args.length ≤ 4 ∧ p3 ≤ p1 + 1 + 20) := Lib.hid ⟨hx3, hp3⟩; clear hsl5 hfar5 hs3 hx3 hp3; clear hC3 hR3 hK3)
        | (refine step_coll (by rfl) (.tmp 11) (.tmp 14) _ (by rfl) w.heap.size 45 i0 (.agg #[.string ⟨#[]⟩, .slice none 0 0]) 2 40 Try.underlying26 hi hz0 hz1 hz2 rfl (Nat.zero_lt_succ 1) atomK_good (.slice A2 c.goes.length c2) c.goes.length L c.goes b2 (by rfl) HT.out.1 rfl (some ⟨w3.heap.size, 0, none⟩) 1 1 _ [a] _ (by rfl) HT.out.2.1 rfl HT.out.2.2.1 HF3.out H63.out HBY.out w3 w.heap.size HT.out.2.2.2.1 (Nat.le_refl _) HT.out.2.2.2.2 ?_; intro A4 c4 w4 hC4 hB4 hS4 hG4; have HZ4 := Lib.hid (HI.out.app hC4 (by simp) hB4 hG4); replace q0 := HZ4.out.1; replace q1 := HZ4.out.2.1; replace q2 := HZ4.out.2.2.1; clear hC4 hB4 hG4))
    all_goals
      obtain ⟨b4, hD0⟩ := HZ4.out.2.2.2
      obtain ⟨G, hGe⟩ : ∃ G, G = c.goes ++ [a] := ⟨_, rfl⟩
      have hlen : c.goes.length + 1 = G.length := by rw [hGe]; simp
      have HGS : Hid (G.length ≤ 6 ∧ ∀ x ∈ G, x.args.length ≤ 4) := Lib.hid (by
        have h5 := HX.out.1.2.1
        refine ⟨by omega, fun x hx => ?_⟩
        rw [hGe] at hx
        rcases List.mem_append.1 hx with hx | hx
        · exact HX.out.1.2.2.2 x hx
        · rw [List.mem_singleton.1 hx]; exact HX3.out.1)
      rw [← hGe, hlen] at hD0
      rw [hlen]
      clear hGe hlen HT HI HF HF3 HZ4 q0 q1 q2
      obtain ⟨W, hW⟩ : ∃ W, W = w4.setCell ⟨w1.heap.size, 1, none⟩ (.slice A4 G.length c4) := ⟨_, rfl⟩
      rw [← hW] at hD0 ⊢
      clear hW
      have q0 : W.cell? ⟨w1.heap.size, 0, none⟩ = some (.slice A1 c.comes.length c1) := cell_of_blk hD0.r1
      have q1 : W.cell? ⟨w1.heap.size, 1, none⟩ = some (.slice A4 G.length c4) := cell_of_blk hD0.r1
      have z0 : W.cell? ⟨w.heap.size, 0, none⟩ = some (.slice none 0 0) := cell_of_blk hD0.r0
      have z1 : W.cell? ⟨w.heap.size, 1, none⟩ = some (.slice none 0 0) := cell_of_blk hD0.r0
      have f0 : W.frozen? ⟨w.heap.size, 0, none⟩ = false := frozen_of_blk hD0.r0
      have f1 : W.frozen? ⟨w.heap.size, 1, none⟩ = false := frozen_of_blk hD0.r0
      have HD : Hid (ChgD g p 300 w (.returned (.agg #[.slice A1 c.comes.length c1, .slice A4 G.length c4])) ((W.setCell ⟨w.heap.size, 0, none⟩ (.slice A1 c.comes.length c1)).setCell ⟨w.heap.size, 1, none⟩ (.slice A4 G.length c4))) := Lib.hid (hD0.done (p0 := p) (q := 300) ⟨HX.out.1.1, HGS.out.1, HX.out.1.2.2.1, HGS.out.2⟩ (by have := HX3.out.2; have := HX.out.2; omega))
      clear hD0
      go_wp2
      refine bodyPost_ret (v := .agg #[.slice A1 c.comes.length c1, .slice A4 G.length c4]) (by simp [results, Try.results36, go_sem, z0, z1]) rfl HD.out
  · have hj0i : ((j : Int) == 0) = false := beq_eq_false_iff_ne.2 (by omega)
    obtain ⟨b3, hD⟩ := HI.out.toD
    clear HI
    by_cases hj1 : j = 1
    · subst hj1
      have hc := l10AnyFacts_any g _ w2 hD.rdr (by have := HP.out; have := HX.out.2; omega)
      have HD0 := Lib.hid hD
      clear hD hj hj0
      go_wp2_with fail
      refine hc.mono ?_
      rintro e w3 ⟨xs, v3, b5, p3, rfl, ⟨hat, hfar⟩, hx, hsm, hR3, hp3, hK3⟩
      obtain ⟨A3, c3, rfl, _, _⟩ := sliceK_form hat
      have hD3 := HD0.out.call hR3 hK3
      have q0 : w3.cell? ⟨w1.heap.size, 0, none⟩ = some (.slice A1 c.comes.length c1) := cell_of_blk hD3.r1
      have q1 : w3.cell? ⟨w1.heap.size, 1, none⟩ = some (.slice A2 c.goes.length c2) := cell_of_blk hD3.r1
      have q2 : w3.frozen? ⟨w1.heap.size, 0, none⟩ = false := frozen_of_blk hD3.r1
      have z0 : w3.cell? ⟨w.heap.size, 0, none⟩ = some (.slice none 0 0) := cell_of_blk hD3.r0
      have z1 : w3.cell? ⟨w.heap.size, 1, none⟩ = some (.slice none 0 0) := cell_of_blk hD3.r0
      have f0 : w3.frozen? ⟨w.heap.size, 0, none⟩ = false := frozen_of_blk hD3.r0
      have f1 : w3.frozen? ⟨w.heap.size, 1, none⟩ = false := frozen_of_blk hD3.r0
      have hn1 : ¬ (w.heap.size = w1.heap.size) := by omega
      have hn2 : ¬ (w1.heap.size = w.heap.size) := by omega
      have HD : Hid (ChgD g p 300 w (.returned (.agg #[.slice A3 xs.length c3, .slice A2 c.goes.length c2])) (((w3.setCell ⟨w1.heap.size, 0, none⟩ (.slice A3 xs.length c3)).setCell ⟨w.heap.size, 0, none⟩ (.slice A3 xs.length c3)).setCell ⟨w.heap.size, 1, none⟩ (.slice A2 c.goes.length c2))) := Lib.hid ((hD3.comes hat).done (p0 := p) (q := 300) ⟨hx, by have := HX.out.1.2.1; dsimp only; omega, hsm, HX.out.1.2.2.2⟩ (by have := HX.out.2; omega))
      clear hc HD0 hD3 hat hfar hx hsm hR3 hp3 hK3
      go_wp2
      refine bodyPost_ret (v := .agg #[.slice A3 xs.length c3, .slice A2 c.goes.length c2]) (by simp [results, Try.results36, go_sem, z0, z1]) rfl HD.out
    · have hj1i : ((j : Int) == 1) = false := beq_eq_false_iff_ne.2 (by omega)
      have q0 : w2.cell? ⟨w1.heap.size, 0, none⟩ = some (.slice A1 c.comes.length c1) := cell_of_blk hD.r1
      have q1 : w2.cell? ⟨w1.heap.size, 1, none⟩ = some (.slice A2 c.goes.length c2) := cell_of_blk hD.r1
      have z0 : w2.cell? ⟨w.heap.size, 0, none⟩ = some (.slice none 0 0) := cell_of_blk hD.r0
      have z1 : w2.cell? ⟨w.heap.size, 1, none⟩ = some (.slice none 0 0) := cell_of_blk hD.r0
      have f0 : w2.frozen? ⟨w.heap.size, 0, none⟩ = false := frozen_of_blk hD.r0
      have f1 : w2.frozen? ⟨w.heap.size, 1, none⟩ = false := frozen_of_blk hD.r0
      have HD : Hid (ChgD g p 300 w (.returned (.agg #[.slice A1 c.comes.length c1, .slice A2 c.goes.length c2])) ((w2.setCell ⟨w.heap.size, 0, none⟩ (.slice A1 c.comes.length c1)).setCell ⟨w.heap.size, 1, none⟩ (.slice A2 c.goes.length c2))) := Lib.hid (hD.done (p0 := p) (q := 300) ⟨HX.out.1.1, by have := HX.out.1.2.1; omega, HX.out.1.2.2.1, HX.out.1.2.2.2⟩ (by have := HX.out.2; omega))
      clear hD hj hj0 hj1
      go_wp2
      refine bodyPost_ret (v := .agg #[.slice A1 c.comes.length c1, .slice A2 c.goes.length c2]) (by simp [results, Try.results36, go_sem, z0, z1]) rfl HD.out

end Go.Proofs.Ytlmimajgifidhaa
