/- An atom under way; the walks of spec.AtomGet. -/
import Derived.WalkKit
import Derived.Lib.Hide
import Derived.WalkSpells
import Derived.WalkLawsBesides
import Derived.BigQuiet
import Derived.Deep.RegionHeld3
import Derived.Deep.RegionWith
import Derived.Deep.RegionLaw
import Derived.Deep.DrawnRows
import Derived.Deep.AppendLies
import Derived.Test.YtmhjabjiojfgnaaDoorProg
import Derived.Test.YtmhjabjiojfgnaaDoorCutW
import Derived.Test.YtmhjabjiojfgnaaDoorAPutS
namespace Go.Proofs.YtmhjabjiojfgnaaDoor
open Go.RowKit D
set_option linter.unusedVariables false
attribute [local go_sem ↓] Go.wp_at_zero Go.wp_at_succ

theorem below_dQ {B : Nat} {a w : World} (h : Below B a w) (n : Nat) : Below B a (w.drewN n) := ⟨h.os, h.tape, h.output, h.size, h.block⟩
theorem infoTermG : (Tryd.prog.info? 61).map (fun i => (i.zero, i.size, i.bytes)) = some (some (.agg #[.bool false, .string ⟨#[]⟩]), 2, 24) := by kernel_rfl
/-- An atom under way: its box is block n1, the result's block is n0; the terms are a row from block B on. -/
structure D.PInv (w : World) (n0 n1 B : Nat) (nm : ByteArray) (v : Value) (L : List Value) (xs : List T) (wr : World) : Prop where
  r0 : wr.heap[n0]? = some (.cells #[.string ⟨#[]⟩, .slice none 0 0] 25 (0, 0))
  r1 : wr.heap[n1]? = some (.cells #[.string nm, v] 25 (0, 0))
  h0 : w.heap.size ≤ n0
  h1 : w.heap.size ≤ n1
  ne : n0 ≠ n1
  hB : w.heap.size ≤ B
  coll : Coll 2 termK B 61 wr v L xs []
  bel : Below w.heap.size w wr
  siz : B ≤ wr.heap.size
section
variable {w : World} {n0 n1 B : Nat} {nm : ByteArray} {v : Value} {L : List Value} {xs : List T} {wr : World}
theorem D.PInv.later {w' : World} (h : PInv w n0 n1 B nm v L xs wr) (hb : Below wr.heap.size wr w') : PInv w n0 n1 B nm v L xs w' :=
  ⟨(hb.block n0 (lt_of_block h.r0)).trans h.r0, (hb.block n1 (lt_of_block h.r1)).trans h.r1, h.h0, h.h1, h.ne, h.hB, h.coll.below termK_good hb, h.bel.trans (hb.mono h.bel.size), Nat.le_trans h.siz hb.size⟩
theorem D.PInv.base {B2 : Nat} (h : PInv w n0 n1 B nm (.slice none 0 0) [] [] wr) (h2 : w.heap.size ≤ B2) (h3 : B2 ≤ wr.heap.size) : PInv w n0 n1 B2 nm (.slice none 0 0) [] [] wr :=
  ⟨h.r0, h.r1, h.h0, h.h1, h.ne, h2, Coll.nil _, h.bel, h3⟩
theorem D.PInv.lit (b : Bool) (s : ByteArray) (h : PInv w n0 n1 B nm v L xs wr) (hs : s.size ≤ maxLen) :
    Coll 2 termK B 61 (wr.alloc (.cells #[.bool b, .string s] 61)) v L xs [] ∧ Rowed 2 termK (wr.alloc (.cells #[.bool b, .string s] 61)) [.bool b, .string s] [⟨b, s⟩] [] ∧ Lies (wr.alloc (.cells #[.bool b, .string s] 61)) (some ⟨wr.heap.size, 0, none⟩) [.bool b, .string s] ∧
      Below B wr (wr.alloc (.cells #[.bool b, .string s] 61)) ∧ B ≤ (wr.alloc (.cells #[.bool b, .string s] 61)).heap.size := by
  have hA : Below wr.heap.size wr (wr.alloc (.cells #[.bool b, .string s] 61)) := (Below.refl _ _).alloc (Nat.le_refl _) _
  exact ⟨(h.later hA).coll, Rowed.one_el termK_ones ⟨rfl, hs, rfl⟩, lies_block (heap_alloc_new wr _), (Below.refl _ _).alloc h.siz _, Nat.le_trans h.siz hA.size⟩
theorem D.PInv.app {w3 : World} {v3 : Value} {L3 : List Value} {xs3 : List T} {b4 : List Nat} {vs : Value} {vars : List ByteArray} (h : PInv w n0 n1 B nm v L xs wr) (hC : Coll 2 termK B 61 w3 v3 L3 xs3 []) (hb : Below B wr w3)
    (hv : strsK wr [vs] vars b4) (hf : ∀ c ∈ b4, c < B) (hn : n1 ∉ b4) (hnB : n1 < B) (hnB0 : n0 < B) :
    w3.cell? ⟨n1, 1, none⟩ = some v ∧ w3.frozen? ⟨n1, 1, none⟩ = false ∧ PInv w n0 n1 B nm v3 L3 xs3 (w3.setCell ⟨n1, 1, none⟩ v3) ∧ strsK (w3.setCell ⟨n1, 1, none⟩ v3) [vs] vars b4 := by
  have b0 := (hb.block n0 hnB0).trans h.r0
  have b1 := (hb.block n1 hnB).trans h.r1
  have e1 := blk_setG (o := 1) (u := v3) b1
  refine ⟨cell_of_blk b1, frozen_of_blk b1, ⟨(Below.heap_setCell _ _ _ _ h.ne).trans b0, e1, h.h0, h.h1, h.ne, h.hB, hC.setBox termK_good (own_ne_blk hC.own b1 (by decide)) (by simp), (h.bel.trans (hb.mono h.hB)).setCell h.h1 _, ?_⟩, ?_⟩
  · have := hb.size; simp [World.setCell]; exact Nat.le_trans h.siz this
  · refine strsK_good.keep hv fun c hc => ?_
    rw [Below.heap_setCell _ _ _ _ (by intro e; have e2 : c = n1 := e; exact hn (e2 ▸ hc))]
    exact hb.block c (hf c hc)
end
theorem D.terms_one {w : World} {v : Value} {xs : List T} {bs : List Nat} (h : termsK w [v] xs bs) : bs = [] ∨ ∃ b o n c, v = .slice (some ⟨b, o, none⟩) n c ∧ bs = [b] := by
  obtain ⟨Ad, cap, hcs, hl, hm, g0, g1⟩ := h
  by_cases hne : xs = []
  · exact .inl (g0 hne)
  · obtain ⟨b, o, rfl, F, G, rfl, hF⟩ := g1 hne
    right
    refine ⟨b, o, _, cap, by simpa using hcs, ?_⟩
    congr 1
    rw [List.flatMap_eq_nil_iff]
    intro k hk
    have hkl := List.mem_range.1 hk
    obtain ⟨_, _, _, _, e⟩ := hF k xs[k] (List.getElem?_eq_getElem hkl)
    exact e
theorem D.coll_new {B e : Nat} {w : World} {v : Value} {L : List Value} {xs : List T} (h : Coll 2 termK B e w v L xs []) : ∃ b2, termsK w [v] xs b2 ∧ New B w b2 := by
  obtain ⟨b2, hs, hf⟩ := h.slice
  refine ⟨b2, hs, ?_⟩
  rcases terms_one hs with rfl | ⟨b, o, n, c, rfl, rfl⟩
  · exact New.nil _ _
  · rcases h.own.2 with ⟨hv, _⟩ | ⟨g, cap, cur, hv, hg, hh, _⟩
    · simp at hv
    · simp only [Value.slice.injEq, Option.some.injEq, Addr.mk.injEq, and_true] at hv
      obtain ⟨⟨rfl, _⟩, _⟩ := hv
      exact ⟨by simp, fun x hx => by obtain rfl := List.mem_singleton.1 hx; exact ⟨hg, cur, _, hh⟩⟩

/-- An atom and a yes or no: read; in new memory. -/
def D.ReadsAB (p : A × Bool) (B : Nat) (w : World) (e : Ending) (w' : World) : Prop := Below B w w' ∧ ∃ cs bs, e = .returned (.tuple #[.agg cs, .bool p.2]) ∧ atomK w' cs.toList p.1 bs
def D.MakesAB (p : A × Bool) (B : Nat) (w : World) (e : Ending) (w' : World) : Prop := Below B w w' ∧ ∃ cs bs, e = .returned (.tuple #[.agg cs, .bool p.2]) ∧ atomK w' cs.toList p.1 bs ∧ New B w' bs
theorem D.get_zero {w W : World} {n0 : Nat} {b : Bool} (h : W.heap[n0]? = some (.cells #[.string ⟨#[]⟩, .slice none 0 0] 25 (0, 0))) (hb : Below w.heap.size w W) (hn : w.heap.size ≤ n0) :
    MakesAB (zeroA, b) w.heap.size w (.returned (.tuple #[.agg #[.string ⟨#[]⟩, .slice none 0 0], .bool b])) ((W.setCell ⟨n0, 0, none⟩ (.string ⟨#[]⟩)).setCell ⟨n0, 1, none⟩ (.slice none 0 0)) :=
  ⟨(hb.setCell hn _).setCell hn _, _, [], rfl, ⟨_, rfl, Nat.zero_le _, ⟨none, 0, rfl, Nat.le_refl _, Nat.zero_le _, fun _ => rfl, fun h => absurd rfl h⟩⟩, New.nil _ _⟩
theorem D.PInv.done {w : World} {n1 B : Nat} {nm : ByteArray} {v : Value} {L : List Value} {xs : List T} {wr : World} (h : PInv w w.heap.size n1 B nm v L xs wr) (hn : nm.size ≤ maxLen) :
    MakesAB (⟨nm, xs⟩, true) w.heap.size w (.returned (.tuple #[.agg #[.string nm, v], .bool true])) ((wr.setCell ⟨w.heap.size, 0, none⟩ (.string nm)).setCell ⟨w.heap.size, 1, none⟩ v) := by
  have e1 := h.coll.setBox (o := 0) (u := .string nm) termK_good (own_ne_blk h.coll.own h.r0 (by decide)) (by simp)
  have e2 := e1.setBox (o := 1) (u := v) termK_good (own_ne_blk h.coll.own h.r0 (by decide)) (by simp)
  obtain ⟨b9, hs, hN⟩ := coll_new e2
  exact ⟨(h.bel.setCell (Nat.le_refl _) _).setCell (Nat.le_refl _) _, _, b9, rfl, ⟨_, rfl, hn, hs⟩, hN.mono h.hB⟩
theorem D.makesAB_reads {p : A × Bool} {B : Nat} {w : World} {e : Ending} {w' : World} (h : MakesAB p B w e w') : ReadsAB p B w e w' := by
  obtain ⟨h1, cs, bs, h2, h3, _⟩ := h; exact ⟨h1, cs, bs, h2, h3⟩
def D.argsOf (ws : List (List UInt8)) : List T := ws.map fun w => argT (toB w)
theorem D.args_snoc (ws : List (List UInt8)) (k : Nat) (h : k < ws.length) : (ws.take (k + 1)).map (fun w => argT (toB w)) = (ws.take k).map (fun w => argT (toB w)) ++ [argT (toB ws[k])] := by
  rw [List.take_succ_eq_append_getElem h, List.map_append]; rfl

end Go.Proofs.YtmhjabjiojfgnaaDoor
