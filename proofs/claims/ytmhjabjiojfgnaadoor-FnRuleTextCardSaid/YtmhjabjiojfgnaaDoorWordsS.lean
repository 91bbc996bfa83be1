/- The walk of l1Words. -/
import Derived.WalkKit
import Derived.Lib.Hide
import Derived.WalkSpells
import Derived.WalkLawsBesides
import Derived.BigQuiet
import Derived.Deep.RegionHeld3
import Derived.Deep.RegionWith
import Derived.Deep.RegionLaw
import Derived.Deep.DrawnRows
import Derived.Deep.AppendLies
import Derived.Test.YtmhjabjiojfgnaaDoorProg
import Derived.Test.YtmhjabjiojfgnaaDoorAGetS
import Derived.Test.YtmhjabjiojfgnaaDoorRGetW
namespace Go.Proofs.YtmhjabjiojfgnaaDoor
open Go.RowKit D
set_option linter.unusedVariables false
attribute [local go_sem ↓] Go.wp_at_zero Go.wp_at_succ

theorem infoPartW : (Tryd.prog.info? 72).map (fun i => (i.zero, i.size, i.bytes)) = some (some (.agg #[.bool false, .string ⟨#[]⟩, .slice none 0 0]), 3, 48) := by kernel_rfl
theorem D.not_word (p : List UInt8) : ((toB p).toList == [110, 111, 116]) = decide (p = notW) := by
  rw [ByteArray.toList_eq, Bool.eq_iff_iff]
  show (p == notW) = true ↔ _
  simp
/-- The way through the words. -/
structure D.WInv (ws : List (List UInt8)) (A0 : Option Addr) (c0 : Nat) (w : World) (Av : Option Addr) (cv : Nat) (L : List Value) (qs : List Pt) (bs : List Nat) (k : Nat) (wr : World) : Prop where
  coll : Coll 3 partK w.heap.size 72 wr (.slice Av qs.length cv) L qs bs
  len : qs.length ≤ k
  newb : ∀ b ∈ bs, w.heap.size ≤ b
  same : wordsS ws = (wordsS (ws.drop k)).map (qs ++ ·)
  bel : Below w.heap.size w wr

/-- Behind the reading of an atom: the part's box is the block at wr's end. -/
structure D.WGot (w : World) (Av : Option Addr) (cv : Nat) (L : List Value) (qs : List Pt) (bs : List Nat) (pb : Nat) (no : Bool) (a : A) (Aa : Option Addr) (ca : Nat) (b1 : List Nat) (w1 : World) : Prop where
  coll : Coll 3 partK w.heap.size 72 w1 (.slice Av qs.length cv) L qs bs
  box : w1.heap[pb]? = some (.cells #[.bool no, .string ⟨#[]⟩, .slice none 0 0] 72 (0, 0))
  at_ : atomK w1 [.string a.name, .slice Aa a.args.length ca] a b1
  far : ∀ b ∈ b1, pb < b ∧ (Value.slice Av qs.length cv).ownBlock ≠ some b
  own : (Value.slice Av qs.length cv).ownBlock ≠ some pb
  out : pb ∉ bs
  new : w.heap.size ≤ pb
  bel : Below w.heap.size w w1
theorem D.WInv.got {ws : List (List UInt8)} {A0 : Option Addr} {c0 : Nat} {w : World} {Av : Option Addr} {cv : Nat} {L : List Value} {qs : List Pt} {bs : List Nat} {k : Nat} {wr : World} (hI : WInv ws A0 c0 w Av cv L qs bs k wr)
    {no : Bool} {a : A} {Aa : Option Addr} {ca : Nat} {b1 : List Nat} {w1 : World} (hb : Below (wr.alloc (.cells #[.bool no, .string ⟨#[]⟩, .slice none 0 0] 72)).heap.size (wr.alloc (.cells #[.bool no, .string ⟨#[]⟩, .slice none 0 0] 72)) w1)
    (hA : atomK w1 (#[.string a.name, .slice Aa a.args.length ca] : Array Value).toList a b1) (hN : New (wr.alloc (.cells #[.bool no, .string ⟨#[]⟩, .slice none 0 0] 72)).heap.size w1 b1) : WGot w Av cv L qs bs wr.heap.size no a Aa ca b1 w1 := by
  have hA0 : Below wr.heap.size wr (wr.alloc (.cells #[.bool no, .string ⟨#[]⟩, .slice none 0 0] 72)) := (Below.refl _ _).alloc (Nat.le_refl _) _
  have hn := heap_alloc_new wr (.cells #[.bool no, .string ⟨#[]⟩, .slice none 0 0] 72)
  have hsz : (wr.alloc (.cells #[.bool no, .string ⟨#[]⟩, .slice none 0 0] 72)).heap.size = wr.heap.size + 1 := by simp
  have hb2 := hA0.trans (hb.mono hA0.size)
  refine ⟨hI.coll.below partK_good hb2, (hb.block _ (lt_of_block hn)).trans hn, hA, fun b h => ?_, own_block_lt hI.coll.own (Nat.le_refl _), fun h => Nat.lt_irrefl _ (hI.coll.row.lt partK_good _ h), hI.bel.size, hI.bel.trans (hb2.mono hI.bel.size)⟩
  have := (hN.own b h).1
  rw [hsz] at this
  exact ⟨by omega, own_block_lt hI.coll.own (by omega)⟩

/-- The atom lies in the part's box. -/
structure D.WPut (w : World) (Av : Option Addr) (cv : Nat) (L : List Value) (qs : List Pt) (bs : List Nat) (pb : Nat) (no : Bool) (a : A) (Aa : Option Addr) (ca : Nat) (b1 : List Nat) (W : World) : Prop where
  coll : Coll 3 partK w.heap.size 72 W (.slice Av qs.length cv) L qs bs
  box : W.heap[pb]? = some (.cells #[.bool no, .string a.name, .slice Aa a.args.length ca] 72 (0, 0))
  at_ : partK W [.bool no, .string a.name, .slice Aa a.args.length ca] ⟨no, a⟩ b1
  far : ∀ b ∈ b1, (Value.slice Av qs.length cv).ownBlock ≠ some b
  bel : Below w.heap.size w W
theorem D.WGot.put {w : World} {Av : Option Addr} {cv : Nat} {L : List Value} {qs : List Pt} {bs : List Nat} {pb : Nat} {no : Bool} {a : A} {Aa : Option Addr} {ca : Nat} {b1 : List Nat} {w1 : World} (h : WGot w Av cv L qs bs pb no a Aa ca b1 w1) :
    WPut w Av cv L qs bs pb no a Aa ca b1 (((w1.setCell ⟨pb, 1, none⟩ (.string a.name)).setCell ⟨pb, 2, none⟩ (.slice Aa a.args.length ca)).alloc (.cells #[.string a.name, .slice Aa a.args.length ca] 25)) := by
  have c1 := h.coll.setBox (o := 1) (u := .string a.name) partK_good h.own h.out
  have c2 := c1.setBox (o := 2) (u := .slice Aa a.args.length ca) partK_good h.own h.out
  have k1 := (h.bel.setCell (p := ⟨pb, 1, none⟩) h.new (.string a.name)).setCell (p := ⟨pb, 2, none⟩) h.new (.slice Aa a.args.length ca)
  have hm : atomK ((w1.setCell ⟨pb, 1, none⟩ (.string a.name)).setCell ⟨pb, 2, none⟩ (.slice Aa a.args.length ca)) [.string a.name, .slice Aa a.args.length ca] a b1 :=
    atomK_good.keep h.at_ fun b hb => by
      have hne : b ≠ pb := by have := (h.far b hb).1; omega
      rw [Below.heap_setCell _ _ _ _ hne, Below.heap_setCell _ _ _ _ hne]
  have hx := blk_setG (o := 2) (u := .slice Aa a.args.length ca) (blk_setG (o := 1) (u := .string a.name) h.box)
  generalize (w1.setCell ⟨pb, 1, none⟩ (.string a.name)).setCell ⟨pb, 2, none⟩ (.slice Aa a.args.length ca) = wx at *
  have hA1 : Below wx.heap.size wx (wx.alloc (.cells #[.string a.name, .slice Aa a.args.length ca] 25)) := (Below.refl _ _).alloc (Nat.le_refl _) _
  obtain ⟨s, hs1, hs2, hs3⟩ := atomK_good.below hm hA1
  simp only [List.cons.injEq, and_true, true_and] at hs1
  subst hs1
  exact ⟨c2.below partK_good hA1, (hA1.block _ (lt_of_block hx)).trans hx, ⟨_, rfl, hs2, hs3⟩, fun b hb => (h.far b hb).2, k1.trans (hA1.mono k1.size)⟩
theorem D.WPut.app {w : World} {Av : Option Addr} {cv : Nat} {L : List Value} {qs : List Pt} {bs : List Nat} {pb : Nat} {no : Bool} {a : A} {Aa : Option Addr} {ca : Nat} {b1 : List Nat} {W : World} (h : WPut w Av cv L qs bs pb no a Aa ca b1 W) :
    Coll 3 partK w.heap.size 72 (W.alloc (.cells #[.bool no, .string a.name, .slice Aa a.args.length ca] 72)) (.slice Av qs.length cv) L qs bs ∧ Rowed 3 partK (W.alloc (.cells #[.bool no, .string a.name, .slice Aa a.args.length ca] 72)) [.bool no, .string a.name, .slice Aa a.args.length ca] [⟨no, a⟩] b1 ∧
      Lies (W.alloc (.cells #[.bool no, .string a.name, .slice Aa a.args.length ca] 72)) (some ⟨W.heap.size, 0, none⟩) [.bool no, .string a.name, .slice Aa a.args.length ca] ∧ Below w.heap.size w (W.alloc (.cells #[.bool no, .string a.name, .slice Aa a.args.length ca] 72)) := by
  have hA : Below W.heap.size W (W.alloc (.cells #[.bool no, .string a.name, .slice Aa a.args.length ca] 72)) := (Below.refl _ _).alloc (Nat.le_refl _) _
  exact ⟨h.coll.below partK_good hA, Rowed.one_el partK_ones (partK_good.below h.at_ hA), lies_block (heap_alloc_new _ _), h.bel.trans (hA.mono h.bel.size)⟩
theorem D.WInv.next {ws : List (List UInt8)} {A0 A1 : Option Addr} {c0 c1 : Nat} {w w3 : World} {L3 : List Value} {qs : List Pt} {bs b1 : List Nat} {k j : Nat} {p : Pt} (hc : Coll 3 partK w.heap.size 72 w3 (.slice A1 (qs.length + 1) c1) L3 (qs ++ [p]) (bs ++ b1))
    (hl : qs.length ≤ k) (hj : k + 1 ≤ j) (hn : wordsS ws = (wordsS (ws.drop j)).map (qs ++ [p] ++ ·)) (hb : Below w.heap.size w w3) (h1 : ∀ b ∈ bs, w.heap.size ≤ b) (h2 : ∀ b ∈ b1, w.heap.size ≤ b) : WInv ws A0 c0 w A1 c1 L3 (qs ++ [p]) (bs ++ b1) j w3 :=
  ⟨by rw [List.length_append]; exact hc, by simp; omega, fun b hb => (List.mem_append.1 hb).elim (h1 b) (h2 b), hn, hb⟩

set_option maxRecDepth 100000 in
set_option maxHeartbeats 4000000 in
theorem l1Words_any (ws : List (List UInt8)) (v : Value) (b0 : List Nat) (w : World) (h : strsK w [v] (ws.map toB) b0) (hs : ∀ p ∈ ws, p.length ≤ 1048576) (hl : ws.length ≤ 1048577) :
    Calls Tryd.prog 56 #[v] w (WordsPs (wordsS ws) w.heap.size w) := by
  obtain ⟨A0, c0, rfl, _, _⟩ := sliceK_form h
  rw [List.length_map] at *
  obtain ⟨i0, hi, hz0, hz1, hz2⟩ := info_parts infoPartW
  have hA0 : Below w.heap.size w (w.alloc (.cells #[] 72)) := (Below.refl _ _).alloc (Nat.le_refl _) _
  have HI : Hid (WInv ws A0 c0 w (some ⟨w.heap.size, 0, none⟩) 0 [] [] [] 0 (w.alloc (.cells #[] 72))) := Lib.hid ⟨Coll.empty (heap_alloc_new w _) (Nat.le_refl _), Nat.le_refl _, fun b hb => (by simp at hb), by simp, hA0⟩
  have HR := Lib.hid h
  have HS := Lib.hid hs
  clear h hs hA0
  go_enter Tryd.func56, Tryd.ntmps56
  go_wp2
  go_loopw [4, 5] (fun o i wr => ∃ (k : Nat) (Av : Option Addr) (cv : Nat) (L : List Value) (qs : List Pt) (bs : List Nat), k ≤ ws.length + 1 ∧ i = .int .i64 k ∧ o = .slice Av qs.length cv ∧ WInv ws A0 c0 w Av cv L qs bs k wr) (fun _ i _ => ws.length + 1 - (intOf i).toNat)
  case atStart => exact ⟨0, _, 0, [], [], [], Nat.zero_le _, rfl, rfl, HI.out⟩
  case round =>
    obtain ⟨k, Av, cv, L, qs, bs, hk, rfl, rfl, hI⟩ := hrel
    clear HI
    by_cases hlt : k < ws.length
    · obtain ⟨b, o, rfl, _, e0, _⟩ := strs_at (strsK_good.below HR.out hI.bel) (k := k) (by rw [List.length_map]; exact hlt)
      rw [List.getElem_map] at e0
      have HNB := Lib.hid hI.newb
      have hql : Hid (qs.length ≤ k ∧ k ≤ 1048577) := Lib.hid ⟨hI.len, by omega⟩
      have hk0 : (0 : Int) ≤ (k : Int) := by omega
      have hk1 : (k : Int) < (ws.length : Int) := by omega
      have hb0 : b < wr.heap.size := lt_of_cell e0
      have hwk : IntKind.i64.wrap ((k : Int) + 1) = ((k + 1 : Nat) : Int) := IntWalk.i64_in _ (by omega)
      by_cases hw : ws[k] = notW
      · have hq : ((toB ws[k]).toList == [110, 111, 116]) = true := by rw [not_word]; exact decide_eq_true hw
        by_cases h2 : k + 1 < ws.length
        · have hk2 : ((k + 1 : Nat) : Int) < (ws.length : Int) := by omega
          have hk3 : (0 : Int) ≤ ((k + 1 : Nat) : Int) := by omega
          obtain ⟨b', o', he', _, e1, _⟩ := strs_at (strsK_good.below HR.out hI.bel) (k := k + 1) (by rw [List.length_map]; exact h2)
          obtain ⟨rfl, rfl⟩ : b = b' ∧ o = o' := by simpa using he'
          rw [List.getElem_map] at e1
          have HW := Lib.hid (words_at_not h2 hw)
          clear hw
          generalize toB ws[k] = p0 at *
          have hsz : (toB ws[k + 1]).size ≤ 1048576 := by rw [toB_size]; exact HS.out _ (List.getElem_mem _)
          have hc := atomGet_specM (toB ws[k + 1]) (wr.alloc (.cells #[.bool true, .string ⟨#[]⟩, .slice none 0 0] 72)) hsz
          rw [toB_data] at hc
          have hnx : Hid (wordsS ws = (oneS true ws[k + 1] (wordsS (ws.drop (k + 3)))).map (qs ++ ·)) := Lib.hid (by rw [hI.same, HW.out])
          have hst := one_stop (ps := wordsS (ws.drop (k + 3))) (w := ws[k + 1]) (no := true) (qs := qs) (ws := wordsS ws)
          have hgo := one_step (ps := wordsS (ws.drop (k + 3))) (w := ws[k + 1]) (no := true) (qs := qs) (ws := wordsS ws)
          have HI := Lib.hid hI
          generalize toB ws[k + 1] = pj at *
          generalize getS ws[k + 1] = G at *
          obtain ⟨a, ok⟩ := G
          dsimp only at *
          go_wp2_with fail
          refine hc.mono ?_
          rintro e w1 ⟨hb1, cs, b1, rfl, hA1, hN1⟩
          obtain ⟨Aa, ca, rfl⟩ := atom_cells hA1
          have hI1 := HI.out.got hb1 hA1 hN1
          have hpb : wr.heap.size < w1.heap.size := lt_of_block hI1.box
          have x0 : w1.cell? ⟨wr.heap.size, 0, none⟩ = some (.bool true) := cell_of_blk hI1.box
          have x1 : w1.cell? ⟨wr.heap.size, 1, none⟩ = some (.string ⟨#[]⟩) := cell_of_blk hI1.box
          have x2 : w1.cell? ⟨wr.heap.size, 2, none⟩ = some (.slice none 0 0) := cell_of_blk hI1.box
          have f0 : w1.frozen? ⟨wr.heap.size, 0, none⟩ = false := frozen_of_blk hI1.box
          have f1 : w1.frozen? ⟨wr.heap.size, 1, none⟩ = false := frozen_of_blk hI1.box
          have f2 : w1.frozen? ⟨wr.heap.size, 2, none⟩ = false := frozen_of_blk hI1.box
          have HI1 := Lib.hid hI1
          clear hc hb1 hA1 hN1 hI HI hI1 e0 hsz HW
          cases ok
          · have HN : Hid (wordsS ws = none) := Lib.hid (hst rfl hnx.out)
            clear hst hgo hnx
            go_wp2
            go_ret2
            exact ⟨(HI1.out.bel.alloc HI1.out.bel.size _), Av, qs.length, cv, by rw [HN.out]; rfl, fun ps hp => by rw [HN.out] at hp; cases hp⟩
          · have HN := Lib.hid (hgo rfl hnx.out)
            clear hst hgo hnx
            have HN1 : Hid (∀ b ∈ b1, w.heap.size ≤ b) := Lib.hid (fun b hb => Nat.le_trans HI1.out.new (Nat.le_of_lt (HI1.out.far b hb).1))
            have HKL : Hid (qs.length + 1 ≤ maxLen ∧ (qs.length + 1) * 48 ≤ 140737488355328) := Lib.hid (by have := hql.out; unfold maxLen; omega)
            go_wp2_with (first | (with_reducible show Go.wpList _ _ _ (Go.Oper.mk (some 46) _ _ _ _ _ :: _) _ _; (have hP := HI1.out.put); (generalize (((w1.setCell ⟨wr.heap.size, 1, none⟩ (.string a.name)).setCell ⟨wr.heap.size, 2, none⟩ (.slice Aa a.args.length ca)).alloc (.cells #[.string a.name, .slice Aa a.args.length ca] 25)) = W at hP ⊢); (have y0 := cell_of_blk (o := 0) hP.box); (have y1 := cell_of_blk (o := 1) hP.box); (have y2 := cell_of_blk (o := 2) hP.box); (have HFR := Lib.hid hP.far); (have HP := Lib.hid hP.app); clear hP HI1 x0 x1 x2 f0 f1 f2; simp only [List.getElem?_toArray, List.getElem?_cons_zero, List.getElem?_cons_succ] at y0 y1 y2) | (at_builtin; refine wpList_coll rfl _ _ _ rfl w.heap.size 72 i0 (.agg #[.bool false, .string ⟨#[]⟩, .slice none 0 0]) 3 48 Tryd.underlying34 hi hz0 hz1 hz2 rfl (by omega) partK_good (.slice Av qs.length cv) qs.length _ _ _ rfl HP.out.1 rfl (some ⟨W.heap.size, 0, none⟩) 1 1 _ [⟨true, a⟩] _ rfl HP.out.2.1 rfl HP.out.2.2.1 HFR.out HKL.out.1 HKL.out.2 w w.heap.size HP.out.2.2.2 (Nat.le_refl _) HP.out.2.2.2.size ?_; intro A2 cp2 w2 hC3 hB3 hS3 _))
            have HX := Lib.hid (And.intro hC3 hB3)
            clear hC3 hB3 hS3 HP y0 y1 y2
            go_wp2
            go_roundw
            case rel => exact ⟨k + 3, A2, cp2, _, _, _, by omega, by go_num, by rw [List.length_append]; rfl, WInv.next HX.out.1 hql.out.1 (by omega) HN.out HX.out.2 HNB.out HN1.out⟩
            case measure => simp [intOf]; omega
        · have hk2 : ¬ ((k + 1 : Nat) : Int) < (ws.length : Int) := by omega
          have HW := Lib.hid (words_at_pos hlt (.inr h2))
          clear hw
          have hsz : (toB ws[k]).size ≤ 1048576 := by rw [toB_size]; exact HS.out _ (List.getElem_mem _)
          have hc := atomGet_specM (toB ws[k]) (wr.alloc (.cells #[.bool false, .string ⟨#[]⟩, .slice none 0 0] 72)) hsz
          rw [toB_data] at hc
          have hnx : Hid (wordsS ws = (oneS false ws[k] (wordsS (ws.drop (k + 2)))).map (qs ++ ·)) := Lib.hid (by rw [hI.same, HW.out])
          have hst := one_stop (ps := wordsS (ws.drop (k + 2))) (w := ws[k]) (no := false) (qs := qs) (ws := wordsS ws)
          have hgo := one_step (ps := wordsS (ws.drop (k + 2))) (w := ws[k]) (no := false) (qs := qs) (ws := wordsS ws)
          have HI := Lib.hid hI
          generalize toB ws[k] = pj at *
          generalize getS ws[k] = G at *
          obtain ⟨a, ok⟩ := G
          dsimp only at *
          go_wp2_with fail
          refine hc.mono ?_
          rintro e w1 ⟨hb1, cs, b1, rfl, hA1, hN1⟩
          obtain ⟨Aa, ca, rfl⟩ := atom_cells hA1
          have hI1 := HI.out.got hb1 hA1 hN1
          have hpb : wr.heap.size < w1.heap.size := lt_of_block hI1.box
          have x0 : w1.cell? ⟨wr.heap.size, 0, none⟩ = some (.bool false) := cell_of_blk hI1.box
          have x1 : w1.cell? ⟨wr.heap.size, 1, none⟩ = some (.string ⟨#[]⟩) := cell_of_blk hI1.box
          have x2 : w1.cell? ⟨wr.heap.size, 2, none⟩ = some (.slice none 0 0) := cell_of_blk hI1.box
          have f0 : w1.frozen? ⟨wr.heap.size, 0, none⟩ = false := frozen_of_blk hI1.box
          have f1 : w1.frozen? ⟨wr.heap.size, 1, none⟩ = false := frozen_of_blk hI1.box
          have f2 : w1.frozen? ⟨wr.heap.size, 2, none⟩ = false := frozen_of_blk hI1.box
          have HI1 := Lib.hid hI1
          clear hc hb1 hA1 hN1 hI HI hI1 e0 hsz HW
          cases ok
          · have HN : Hid (wordsS ws = none) := Lib.hid (hst rfl hnx.out)
            clear hst hgo hnx
            go_wp2
            go_ret2
            exact ⟨(HI1.out.bel.alloc HI1.out.bel.size _), Av, qs.length, cv, by rw [HN.out]; rfl, fun ps hp => by rw [HN.out] at hp; cases hp⟩
          · have HN := Lib.hid (hgo rfl hnx.out)
            clear hst hgo hnx
            have HN1 : Hid (∀ b ∈ b1, w.heap.size ≤ b) := Lib.hid (fun b hb => Nat.le_trans HI1.out.new (Nat.le_of_lt (HI1.out.far b hb).1))
            have HKL : Hid (qs.length + 1 ≤ maxLen ∧ (qs.length + 1) * 48 ≤ 140737488355328) := Lib.hid (by have := hql.out; unfold maxLen; omega)
            go_wp2_with (first | (with_reducible show Go.wpList _ _ _ (Go.Oper.mk (some 46) _ _ _ _ _ :: _) _ _; (have hP := HI1.out.put); (generalize (((w1.setCell ⟨wr.heap.size, 1, none⟩ (.string a.name)).setCell ⟨wr.heap.size, 2, none⟩ (.slice Aa a.args.length ca)).alloc (.cells #[.string a.name, .slice Aa a.args.length ca] 25)) = W at hP ⊢); (have y0 := cell_of_blk (o := 0) hP.box); (have y1 := cell_of_blk (o := 1) hP.box); (have y2 := cell_of_blk (o := 2) hP.box); (have HFR := Lib.hid hP.far); (have HP := Lib.hid hP.app); clear hP HI1 x0 x1 x2 f0 f1 f2; simp only [List.getElem?_toArray, List.getElem?_cons_zero, List.getElem?_cons_succ] at y0 y1 y2) | (at_builtin; refine wpList_coll rfl _ _ _ rfl w.heap.size 72 i0 (.agg #[.bool false, .string ⟨#[]⟩, .slice none 0 0]) 3 48 Tryd.underlying34 hi hz0 hz1 hz2 rfl (by omega) partK_good (.slice Av qs.length cv) qs.length _ _ _ rfl HP.out.1 rfl (some ⟨W.heap.size, 0, none⟩) 1 1 _ [⟨false, a⟩] _ rfl HP.out.2.1 rfl HP.out.2.2.1 HFR.out HKL.out.1 HKL.out.2 w w.heap.size HP.out.2.2.2 (Nat.le_refl _) HP.out.2.2.2.size ?_; intro A2 cp2 w2 hC3 hB3 hS3 _))
            have HX := Lib.hid (And.intro hC3 hB3)
            clear hC3 hB3 hS3 HP y0 y1 y2
            go_wp2
            go_roundw
            case rel => exact ⟨k + 2, A2, cp2, _, _, _, by omega, by go_num, by rw [List.length_append]; rfl, WInv.next HX.out.1 hql.out.1 (by omega) HN.out HX.out.2 HNB.out HN1.out⟩
            case measure => simp [intOf]; omega
      · have hq : ((toB ws[k]).toList == [110, 111, 116]) = false := by rw [not_word]; exact decide_eq_false hw
        have HW := Lib.hid (words_at_pos hlt (.inl hw))
        clear hw
        have hsz : (toB ws[k]).size ≤ 1048576 := by rw [toB_size]; exact HS.out _ (List.getElem_mem _)
        have hc := atomGet_specM (toB ws[k]) (wr.alloc (.cells #[.bool false, .string ⟨#[]⟩, .slice none 0 0] 72)) hsz
        rw [toB_data] at hc
        have hnx : Hid (wordsS ws = (oneS false ws[k] (wordsS (ws.drop (k + 2)))).map (qs ++ ·)) := Lib.hid (by rw [hI.same, HW.out])
        have hst := one_stop (ps := wordsS (ws.drop (k + 2))) (w := ws[k]) (no := false) (qs := qs) (ws := wordsS ws)
        have hgo := one_step (ps := wordsS (ws.drop (k + 2))) (w := ws[k]) (no := false) (qs := qs) (ws := wordsS ws)
        have HI := Lib.hid hI
        generalize toB ws[k] = pj at *
        generalize getS ws[k] = G at *
        obtain ⟨a, ok⟩ := G
        dsimp only at *
        go_wp2_with fail
        refine hc.mono ?_
        rintro e w1 ⟨hb1, cs, b1, rfl, hA1, hN1⟩
        obtain ⟨Aa, ca, rfl⟩ := atom_cells hA1
        have hI1 := HI.out.got hb1 hA1 hN1
        have hpb : wr.heap.size < w1.heap.size := lt_of_block hI1.box
        have x0 : w1.cell? ⟨wr.heap.size, 0, none⟩ = some (.bool false) := cell_of_blk hI1.box
        have x1 : w1.cell? ⟨wr.heap.size, 1, none⟩ = some (.string ⟨#[]⟩) := cell_of_blk hI1.box
        have x2 : w1.cell? ⟨wr.heap.size, 2, none⟩ = some (.slice none 0 0) := cell_of_blk hI1.box
        have f0 : w1.frozen? ⟨wr.heap.size, 0, none⟩ = false := frozen_of_blk hI1.box
        have f1 : w1.frozen? ⟨wr.heap.size, 1, none⟩ = false := frozen_of_blk hI1.box
        have f2 : w1.frozen? ⟨wr.heap.size, 2, none⟩ = false := frozen_of_blk hI1.box
        have HI1 := Lib.hid hI1
        clear hc hb1 hA1 hN1 hI HI hI1 e0 hsz HW
        cases ok
        · have HN : Hid (wordsS ws = none) := Lib.hid (hst rfl hnx.out)
          clear hst hgo hnx
          go_wp2
          go_ret2
          exact ⟨(HI1.out.bel.alloc HI1.out.bel.size _), Av, qs.length, cv, by rw [HN.out]; rfl, fun ps hp => by rw [HN.out] at hp; cases hp⟩
        · have HN := Lib.hid (hgo rfl hnx.out)
          clear hst hgo hnx
          have HN1 : Hid (∀ b ∈ b1, w.heap.size ≤ b) := Lib.hid (fun b hb => Nat.le_trans HI1.out.new (Nat.le_of_lt (HI1.out.far b hb).1))
          have HKL : Hid (qs.length + 1 ≤ maxLen ∧ (qs.length + 1) * 48 ≤ 140737488355328) := Lib.hid (by have := hql.out; unfold maxLen; omega)
          go_wp2_with (first | (with_reducible show Go.wpList _ _ _ (Go.Oper.mk (some 46) _ _ _ _ _ :: _) _ _; (have hP := HI1.out.put); (generalize (((w1.setCell ⟨wr.heap.size, 1, none⟩ (.string a.name)).setCell ⟨wr.heap.size, 2, none⟩ (.slice Aa a.args.length ca)).alloc (.cells #[.string a.name, .slice Aa a.args.length ca] 25)) = W at hP ⊢); (have y0 := cell_of_blk (o := 0) hP.box); (have y1 := cell_of_blk (o := 1) hP.box); (have y2 := cell_of_blk (o := 2) hP.box); (have HFR := Lib.hid hP.far); (have HP := Lib.hid hP.app); clear hP HI1 x0 x1 x2 f0 f1 f2; simp only [List.getElem?_toArray, List.getElem?_cons_zero, List.getElem?_cons_succ] at y0 y1 y2) | (at_builtin; refine wpList_coll rfl _ _ _ rfl w.heap.size 72 i0 (.agg #[.bool false, .string ⟨#[]⟩, .slice none 0 0]) 3 48 Tryd.underlying34 hi hz0 hz1 hz2 rfl (by omega) partK_good (.slice Av qs.length cv) qs.length _ _ _ rfl HP.out.1 rfl (some ⟨W.heap.size, 0, none⟩) 1 1 _ [⟨false, a⟩] _ rfl HP.out.2.1 rfl HP.out.2.2.1 HFR.out HKL.out.1 HKL.out.2 w w.heap.size HP.out.2.2.2 (Nat.le_refl _) HP.out.2.2.2.size ?_; intro A2 cp2 w2 hC3 hB3 hS3 _))
          have HX := Lib.hid (And.intro hC3 hB3)
          clear hC3 hB3 hS3 HP y0 y1 y2
          go_wp2
          go_roundw
          case rel => exact ⟨k + 2, A2, cp2, _, _, _, by omega, by go_num, by rw [List.length_append]; rfl, WInv.next HX.out.1 hql.out.1 (by omega) HN.out HX.out.2 HNB.out HN1.out⟩
          case measure => simp [intOf]; omega
    · have hk1 : ¬ (k : Int) < (ws.length : Int) := by omega
      have HW : Hid (wordsS ws = some qs) := Lib.hid (by rw [hI.same, words_end (by omega)]; simp)
      obtain ⟨b2, hs2, hf2⟩ := hI.coll.slice
      have HF := Lib.hid (fun b hb => (hf2 b hb).elim id (hI.newb b))
      have HZ := Lib.hid (And.intro hs2 hI.bel)
      clear hI hs2 hf2
      go_wp2
      go_ret2
      refine ⟨HZ.out.2, Av, qs.length, cv, by rw [HW.out]; rfl, fun ps hp => ?_⟩
      rw [HW.out] at hp
      injection hp with hp
      subst hp
      exact ⟨b2, HZ.out.1, HF.out⟩

end Go.Proofs.YtmhjabjiojfgnaaDoor
