/- The walks of DrawAtomPut, DrawAtomGet. -/
import Derived.Laws.EntriesVeiled
import Derived.Deep.RegionHeld3
import Derived.Deep.RegionWith
import Derived.Deep.RegionLaw
import Derived.BigQuiet
import Derived.Deep.QuietTactic
import Derived.Deep.DrawnRows
import Derived.WalkKit
import Derived.WalkSpells
import Derived.WalkLawsBesides
import Derived.Lib.Hide
import Derived.Test.YtmhjabjiojfgnaaDoorCutD
import Derived.Test.YtmhjabjiojfgnaaDoorPut
namespace Go.Proofs.YtmhjabjiojfgnaaDoor
open Go.RowKit D
set_option linter.unusedVariables false
attribute [local go_sem ↓] Go.wp_at_zero Go.wp_at_succ

theorem D.small_bulk : ∀ (ts : List T), (∀ t ∈ ts, t.name.size ≤ 16) → bulkTs ts ≤ 16 * ts.length
  | [], _ => by simp [bulkTs]
  | t :: ts, h => by
    have h1 := h t (List.mem_cons_self ..)
    have h2 := small_bulk ts fun x hx => h x (List.mem_cons_of_mem _ hx)
    unfold bulkTs at *
    simp only [List.map_cons, List.sum_cons, List.length_cons] at *
    omega
theorem D.small_atom {a : A} {k : Nat} (h1 : a.name.size ≤ 16) (h2 : a.args.length ≤ k) (h3 : ∀ t ∈ a.args, t.name.size ≤ 16) : bulkA a ≤ 16 + 17 * k := by
  have := small_bulk a.args h3
  unfold bulkA
  omega
theorem D.putL_size (a : A) : (putL a).length ≤ bulkA a + 2 := by
  have := argsL_le a.args
  have : a.name.data.toList.length = a.name.size := Array.length_toList
  unfold putL bulkA
  simp only [List.length_append, List.length_cons, List.length_nil]
  omega
/-- A drawn atom that lies in memory. -/
def AtomO (k : Nat) (w : World) (e : Ending) (w' : World) : Prop := ∃ (a : A) (Ad : Option Addr) (c : Nat) (bs : List Nat), e = .returned (.agg #[.string a.name, .slice Ad a.args.length c]) ∧ atomK w' [.string a.name, .slice Ad a.args.length c] a bs ∧ a.name.size ≤ 16 ∧ a.args.length ≤ k ∧ (∀ t ∈ a.args, t.name.size ≤ 16) ∧ Below w.heap.size w w'
/-- A drawn text. -/
def TextO (m : Nat) (w : World) (e : Ending) (w' : World) : Prop := ∃ t : ByteArray, e = .returned (.string t) ∧ t.size ≤ m ∧ Below w.heap.size w w'

set_option maxHeartbeats 400000 in
theorem drawAtomPut_any (v : Value) (cs : List UInt8) (bs : List Nat) (w : World) (h : bytesK w [v] cs bs) (hn : cs.length ≤ 1048576) :
    Calls Tryd.prog 8 #[v] w (AtomO 4 w) := by
  have hA : Below w.heap.size w (w.alloc (.cells #[.string ⟨#[]⟩, .slice none 0 0] 25)) := (Below.refl _ _).alloc (Nat.le_refl _) _
  have HZ := Lib.hid (heap_alloc_new w (.cells #[.string ⟨#[]⟩, .slice none 0 0] 25))
  have ho := open_any v cs bs _ (bytesK_good.below h hA) hn
  clear h
  go_enter Tryd.func8, Tryd.ntmps8
  go_wp2_with fail
  refine ho.mono ?_
  rintro e w1 ⟨rfl, hR, hb⟩
  replace HZ := Lib.hid ((hb.block _ (lt_of_block HZ.out)).trans HZ.out)
  have HB := Lib.hid (hA.trans (hb.mono hA.size))
  rw [World.size_alloc] at hR
  have hd := l10AnyAtom_s _ 0 w1 hR (by omega)
  clear ho hR hb
  go_wp2_with fail
  refine hd.mono ?_
  rintro e w2 ⟨a, v2, L, p', rfl, hs, hl, hC, hR, hp, hK, hsm⟩
  obtain ⟨Av, cv, rfl⟩ := own_shape hC.own
  have hz : w2.heap[w.heap.size]? = some (.cells #[.string ⟨#[]⟩, .slice none 0 0] 25 (0, 0)) := hK.blk HZ.out (by simp)
  have z0 : w2.cell? ⟨w.heap.size, 0, none⟩ = some (.string ⟨#[]⟩) := cell_of_blk hz
  have z1 : w2.cell? ⟨w.heap.size, 1, none⟩ = some (.slice none 0 0) := cell_of_blk hz
  have f0 : w2.frozen? ⟨w.heap.size, 0, none⟩ = false := frozen_of_blk hz
  have f1 : w2.frozen? ⟨w.heap.size, 1, none⟩ = false := frozen_of_blk hz
  have HC := Lib.hid (And.intro hC (And.intro hK hz))
  have HS := Lib.hid (And.intro hs (And.intro hl hsm))
  clear hd hC hR hK hz hs hl hsm
  go_wp2
  refine bodyPost_ret (v := .agg #[.string a.name, .slice Av a.args.length cv]) (by simp [results, Tryd.results8, go_sem, z0, z1]) rfl ?_
  obtain ⟨hC, hK, hz⟩ := HC.out
  have b0 := blk_set0 (u := .string a.name) hz
  have c1 := hC.setBox (o := 0) (u := .string a.name) termK_good (own_ne_blk hC.own hz (by decide)) (by simp)
  have c2 := c1.setBox (o := 1) (u := .slice Av a.args.length cv) termK_good (own_ne_blk c1.own b0 (by decide)) (by simp)
  obtain ⟨b9, hs9, _⟩ := c2.slice
  exact ⟨a, Av, cv, b9, rfl, ⟨_, rfl, Nat.le_trans HS.out.1 (by decide), hs9⟩, HS.out.1, HS.out.2.1, HS.out.2.2, ((HB.out.trans (hK.below (by simp) HB.out.size)).setCell (Nat.le_refl _) _).setCell (Nat.le_refl _) _⟩

set_option maxHeartbeats 400000 in
theorem drawAtomGet_any (v : Value) (cs : List UInt8) (bs : List Nat) (w : World) (h : bytesK w [v] cs bs) (hn : cs.length ≤ 1048576) :
    Calls Tryd.prog 15 #[v] w (TextO 100 w) := by
  have ho := open_any v cs bs w h hn
  clear h
  go_enter Tryd.func15, Tryd.ntmps15
  go_wp2_with fail
  refine ho.mono ?_
  rintro e w1 ⟨rfl, hR, hb⟩
  have HB := Lib.hid hb
  have h1 := of_lit _ 0 [⟨#[101]⟩, ⟨#[112]⟩, ⟨#[122]⟩, ⟨#[104]⟩] 4 w1 hR (by decide) rfl (by decide) (by decide) (by decide)
  clear ho hR hb
  go_wp2_with fail
  refine h1.mono ?_
  rintro e w2 ⟨s, rfl, hs, hR, hK⟩
  replace HB := Lib.hid (HB.out.trans (hK.below (by simp) HB.out.size))
  have h2 := l10Atom_s s true _ 1 w2 hR (by decide) hs
  clear h1 hR hK
  go_wp2_with fail
  refine h2.mono ?_
  rintro e w3 ⟨a, v2, L, p', rfl, hs2, hl, hC, hR, hp, hK, hsm⟩
  obtain ⟨Av, cv, rfl⟩ := own_shape hC.own
  replace HB := Lib.hid (HB.out.trans (hK.below (by simp) HB.out.size))
  obtain ⟨b9, hs9, _⟩ := hC.slice
  have hbk := small_atom hs2 hl hsm
  have h3 := l1Put_any a _ _ b9 w3 ⟨_, rfl, Nat.le_trans hs2 (by decide), hs9⟩ (by omega)
  have hps := putL_size a
  have HR := Lib.hid hR
  clear h2 hC hK hR hs9
  go_wp2_with fail
  refine h3.mono ?_
  rintro e w4 ⟨rfl, hb4⟩
  have hz : (⟨(putL a).toArray⟩ : ByteArray).size = (putL a).length := List.size_toArray
  have h4 := l10Cut_any _ p' ⟨(putL a).toArray⟩ w4 (HR.out.below hb4) (by omega) (by omega)
  replace HB := Lib.hid (HB.out.trans (hb4.mono HB.out.size))
  clear h3 hb4
  generalize (⟨(putL a).toArray⟩ : ByteArray) = s4 at *
  go_wp2_with fail
  refine h4.mono ?_
  rintro e w5 ⟨t, p5, rfl, ht, _, _, hK⟩
  replace HB := Lib.hid (HB.out.trans (hK.below (by simp) HB.out.size))
  clear h4 hK
  go_wp2
  go_ret
  exact ⟨t, rfl, by omega, HB.out⟩

end Go.Proofs.YtmhjabjiojfgnaaDoor
