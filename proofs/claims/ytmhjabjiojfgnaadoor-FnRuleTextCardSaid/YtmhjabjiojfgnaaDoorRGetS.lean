/- The walk of spec.RuleGet. -/
import Derived.WalkKit
import Derived.Lib.Hide
import Derived.WalkSpells
import Derived.WalkLawsBesides
import Derived.BigQuiet
import Derived.Deep.RegionHeld3
import Derived.Deep.RegionWith
import Derived.Deep.RegionLaw
import Derived.Deep.DrawnRows
import Derived.Deep.AppendLies
import Derived.Test.YtmhjabjiojfgnaaDoorProg
import Derived.Test.YtmhjabjiojfgnaaDoorWordsS
import Derived.Test.YtmhjabjiojfgnaaDoorRPut4
namespace Go.Proofs.YtmhjabjiojfgnaaDoor
open Go.RowKit D
set_option linter.unusedVariables false
attribute [local go_sem ↓] Go.wp_at_zero Go.wp_at_succ

abbrev D.zRu : Array Value := #[.string ⟨#[]⟩, .slice none 0 0, .slice none 0 0]
/-- A rule under way: its box is block rb, the result's block is the world's end. -/
structure D.RInv (w : World) (rb : Nat) (c0 c1 c2 : Value) (r : Ru) (bs : List Nat) (W : World) : Prop where
  res : W.heap[w.heap.size]? = some (.cells #[.string ⟨#[]⟩, .slice none 0 0, .slice none 0 0] 36 (0, 0))
  box : W.heap[rb]? = some (.cells #[c0, c1, c2] 36 (0, 0))
  rule : ruleK W [c0, c1, c2] r bs
  far : ∀ b ∈ bs, w.heap.size < b
  bel : Below w.heap.size w W
section
variable {w : World} {rb : Nat} {c0 c1 c2 : Value} {r : Ru} {bs : List Nat} {W : World}
theorem D.RInv.later {W' : World} (h : RInv w rb c0 c1 c2 r bs W) (hb : Below W.heap.size W W') : RInv w rb c0 c1 c2 r bs W' :=
  ⟨(hb.block _ (lt_of_block h.res)).trans h.res, (hb.block _ (lt_of_block h.box)).trans h.box, ruleK_good.below h.rule hb, h.far, h.bel.trans (hb.mono h.bel.size)⟩
theorem D.rget_none (hb : Below w.heap.size w W) : ReadsRu none w.heap.size w (.returned (.tuple #[.agg #[.string ⟨#[]⟩, .slice none 0 0, .slice none 0 0], .bool false])) W :=
  ⟨hb, _, [], rfl, ⟨_, _, [], [], rfl, Nat.zero_le _, rfl, ⟨none, 0, rfl, Nat.le_refl _, Nat.zero_le _, fun _ => rfl, fun h => absurd rfl h⟩, ⟨none, 0, rfl, Nat.le_refl _, Nat.zero_le _, fun _ => rfl, fun h => absurd rfl h⟩⟩⟩
theorem D.below_set3 {b : Nat} {u0 u1 u2 : Value} {w : World} {W : World} (hb : Below w.heap.size w W) (h : w.heap.size ≤ b) : Below w.heap.size w (((W.setCell ⟨b, 0, none⟩ u0).setCell ⟨b, 1, none⟩ u1).setCell ⟨b, 2, none⟩ u2) := ((hb.setCell h _).setCell h _).setCell h _
theorem D.RInv.done (h : RInv w rb c0 c1 c2 r bs W) : ReadsRu (some r) w.heap.size w (.returned (.tuple #[.agg #[c0, c1, c2], .bool true])) (((W.setCell ⟨w.heap.size, 0, none⟩ c0).setCell ⟨w.heap.size, 1, none⟩ c1).setCell ⟨w.heap.size, 2, none⟩ c2) :=
  ⟨((h.bel.setCell (Nat.le_refl _) _).setCell (Nat.le_refl _) _).setCell (Nat.le_refl _) _, _, bs, rfl, ruleK_good.keep h.rule fun b hb => by
    have hne : b ≠ w.heap.size := Nat.ne_of_gt (h.far b hb)
    rw [Below.heap_setCell _ _ _ _ hne, Below.heap_setCell _ _ _ _ hne, Below.heap_setCell _ _ _ _ hne]⟩
theorem D.RInv.body {c3 : Value} {ps : List Pt} {b3 : List Nat} {a : A} (h : RInv w rb c0 c1 (.slice none 0 0) ⟨a, []⟩ bs W) (hp : partsK W [c3] ps b3) (hf : ∀ b ∈ b3, w.heap.size < b) (h3 : rb ∉ b3) (h2 : rb ∉ bs) (hr : w.heap.size < rb) :
    RInv w rb c0 c1 c3 ⟨a, ps⟩ (bs ++ b3) (W.setCell ⟨rb, 2, none⟩ c3) := by
  have hrule : ruleK W [c0, c1, c3] ⟨a, ps⟩ (bs ++ b3) := by
    obtain ⟨s, b, x1, x2, e1, e2, rfl, e3, e4⟩ := h.rule
    simp only [List.cons.injEq, and_true] at e1
    obtain ⟨rfl, rfl, rfl⟩ := e1
    have hx2 : x2 = [] := by
      obtain ⟨_, _, _, _, _, g0, _⟩ := e4
      exact g0 rfl
    subst hx2
    exact ⟨_, _, x1, b3, rfl, e2, by rw [List.append_nil], e3, hp⟩
  have hk : ∀ b ∈ bs ++ b3, (W.setCell ⟨rb, 2, none⟩ c3).heap[b]? = W.heap[b]? := fun b hb => Below.heap_setCell _ _ _ _ (by
    rintro rfl
    exact (List.mem_append.1 hb).elim h2 h3)
  exact ⟨(Below.heap_setCell _ _ _ _ (Nat.ne_of_lt hr)).trans h.res, blk_setG (o := 2) (u := c3) h.box, ruleK_good.keep hrule hk, fun b hb => (List.mem_append.1 hb).elim (h.far b) (hf b), h.bel.setCell (Nat.le_of_lt hr) _⟩
end
theorem D.RInv.start {w w1 w2 : World} {a : A} {Aa : Option Addr} {ca : Nat} {b1 : List Nat} (hres : w1.heap[w.heap.size]? = some (.cells #[.string ⟨#[]⟩, .slice none 0 0, .slice none 0 0] 36 (0, 0))) (hB : Below w.heap.size w w1)
    (hb : Below w1.heap.size w1 w2) (hA : atomK w2 (#[.string a.name, .slice Aa a.args.length ca] : Array Value).toList a b1) (hN : New w1.heap.size w2 b1) :
    RInv w (w2.heap.size + 1) (.string a.name) (.slice Aa a.args.length ca) (.slice none 0 0) ⟨a, []⟩ b1 ((w2.alloc (.cells #[.string a.name, .slice Aa a.args.length ca] 25)).alloc (.cells #[.string a.name, .slice Aa a.args.length ca, .slice none 0 0] 36)) := by
  have hA1 : Below w2.heap.size w2 (w2.alloc (.cells #[.string a.name, .slice Aa a.args.length ca] 25)) := (Below.refl _ _).alloc (Nat.le_refl _) _
  have hA2 : Below w2.heap.size w2 ((w2.alloc (.cells #[.string a.name, .slice Aa a.args.length ca] 25)).alloc (.cells #[.string a.name, .slice Aa a.args.length ca, .slice none 0 0] 36)) := hA1.alloc hA1.size _
  have hn := heap_alloc_new (w2.alloc (.cells #[.string a.name, .slice Aa a.args.length ca] 25)) (.cells #[.string a.name, .slice Aa a.args.length ca, .slice none 0 0] 36)
  rw [show (w2.alloc (.cells #[.string a.name, .slice Aa a.args.length ca] 25)).heap.size = w2.heap.size + 1 by simp] at hn
  have hr2 := (hb.block _ (lt_of_block hres)).trans hres
  obtain ⟨s, hs1, hs2, hs3⟩ := atomK_good.below hA hA2
  simp only [List.cons.injEq, and_true, true_and] at hs1
  subst hs1
  have hbw := hB.trans (hb.mono hB.size)
  exact ⟨(hA2.block _ (lt_of_block hr2)).trans hr2, hn, ⟨_, _, b1, [], rfl, hs2, by simp, hs3, ⟨none, 0, rfl, Nat.le_refl _, Nat.zero_le _, fun _ => rfl, fun h => absurd rfl h⟩⟩, fun b hb' => Nat.lt_of_lt_of_le (lt_of_block hres) (hN.own b hb').1, hbw.trans (hA2.mono hbw.size)⟩
theorem D.len_sum : ∀ ws : List (List UInt8), ws.length ≤ (ws.map fun w => w.length + 1).sum
  | [] => Nat.le_refl _
  | w :: ws => by have := len_sum ws; simp only [List.map_cons, List.sum_cons, List.length_cons]; omega
theorem D.mem_sum : ∀ {ws : List (List UInt8)} {p : List UInt8}, p ∈ ws → p.length + 1 ≤ (ws.map fun w => w.length + 1).sum
  | w :: ws, p, h => by
    simp only [List.map_cons, List.sum_cons]
    rcases List.mem_cons.1 h with rfl | h
    · omega
    · have := mem_sum h; omega
theorem D.fin_yes {t : List UInt8} {r : Ru} (h : (if ruleOk r then ruleL r else []) = t) : finS t r = some r := by unfold finS; rw [if_pos h]
theorem D.fin_no {t : List UInt8} {r : Ru} (h : ¬ (if ruleOk r then ruleL r else []) = t) : finS t r = none := by unfold finS; rw [if_neg h]

set_option maxRecDepth 100000 in
set_option maxHeartbeats 4000000 in
theorem ruleGet_spec (s : ByteArray) (w : World) (hs : s.size ≤ 1048576) :
    Calls Tryd.prog 17 #[.string s] w (ReadsRu (ruleS s.data.toList) w.heap.size w) := by
  have hlen : s.data.toList.length = s.size := Array.length_toList
  have hA : Below w.heap.size w (w.alloc (.cells #[.string ⟨#[]⟩, .slice none 0 0, .slice none 0 0] 36)) := (Below.refl _ _).alloc (Nat.le_refl _) _
  have HZ := Lib.hid (heap_alloc_new w (.cells #[.string ⟨#[]⟩, .slice none 0 0, .slice none 0 0] 36))
  have hc1 := l1Cut_any s 32 (w.alloc (.cells #[.string ⟨#[]⟩, .slice none 0 0, .slice none 0 0] 36)) (by omega)
  have HA := Lib.hid hA
  have HSUM : Hid (((splitL 32 s.data.toList).map fun w => w.length + 1).sum ≤ 1048577) := Lib.hid (by have := sum_split 32 s.data.toList; omega)
  have hG : Hid (ruleS s.data.toList = match splitL 32 s.data.toList with
    | [] => none
    | w :: ws => if (getS w).2 then (if 2 < (w :: ws).length then (match wordsS (ws.drop 1) with | some ps => finS s.data.toList ⟨(getS w).1, ps⟩ | none => none) else finS s.data.toList ⟨(getS w).1, []⟩) else none) := Lib.hid rfl
  have hne := splitL_ne 32 s.data.toList
  have HXE : Hid (∀ X : List UInt8, ((toB X).toList == s.toList) = decide (X = s.data.toList)) := Lib.hid (fun X => by rw [ByteArray.toList_eq, ByteArray.toList_eq]; show (X == s.data.toList) = _; rw [Bool.eq_iff_iff]; simp)
  generalize ruleS s.data.toList = G at *
  generalize hS : s.data.toList = S at *
  clear hA hs hlen hS
  go_enter Tryd.func17, Tryd.ntmps17
  go_wp2_with fail
  refine hc1.mono ?_
  rintro e w1 ⟨hb1, v1, b1, rfl, hR1, hf1⟩
  obtain ⟨A1, c1, rfl, hcl, _⟩ := sliceK_form hR1
  rw [List.length_map] at *
  have HB1 := Lib.hid (HA.out.trans (hb1.mono HA.out.size))
  replace HZ := Lib.hid ((hb1.block _ (lt_of_block HZ.out)).trans HZ.out)
  clear hc1 hb1
  generalize splitL 32 S = P at *
  obtain ⟨p0, ws, rfl⟩ : ∃ p0 ws, P = p0 :: ws := by cases P with | nil => exact absurd rfl hne | cons p0 ws => exact ⟨p0, ws, rfl⟩
  obtain ⟨b, o, rfl, hbb, e0, hx0⟩ := strs_at hR1 (k := 0) (by simp)
  clear hx0
  simp only [List.map_cons, List.getElem_cons_zero, Nat.add_zero] at e0
  have hp0 : p0.length ≤ 1048576 := by have := HSUM.out; simp only [List.map_cons, List.sum_cons] at this; omega
  have hsz : (toB p0).size ≤ 1048576 := by rw [toB_size]; exact hp0
  have hc2 := atomGet_specM (toB p0) w1 hsz
  rw [toB_data] at hc2
  have hgb := fun h => getS_bulk (t := p0) h
  have HG : Hid (G = if (getS p0).2 then (if 2 < (p0 :: ws).length then (match wordsS (ws.drop 1) with | some ps => finS S ⟨(getS p0).1, ps⟩ | none => none) else finS S ⟨(getS p0).1, []⟩) else none) := Lib.hid hG.out
  have HR1 := Lib.hid hR1
  have hl1 : (0 : Int) < ((p0 :: ws).length : Int) := by simp
  have hl9 : (p0 :: ws).length ≤ 1048577 := by have := HSUM.out; have h9 := len_sum (p0 :: ws); omega
  generalize hn : (p0 :: ws).length = n at *
  have HNN := Lib.hid hn
  clear hG hne hR1 hsz hf1 hn
  generalize toB p0 = t0 at *
  generalize getS p0 = g0 at *
  obtain ⟨a, ok⟩ := g0
  dsimp only at hc2 hgb HG
  go_wp2_with fail
  refine hc2.mono ?_
  rintro e w2 ⟨hb2, cs, b2, rfl, hA2, hN2⟩
  obtain ⟨Aa, ca, rfl⟩ := atom_cells hA2
  dsimp only at hA2
  have hI0 := RInv.start HZ.out HB1.out hb2 hA2 hN2
  have HB2 := Lib.hid (HB1.out.trans (hb2.mono HB1.out.size))
  have HRS := Lib.hid ((hb2.block _ (lt_of_block HZ.out)).trans HZ.out)
  have HR2 := Lib.hid (strsK_good.below HR1.out hb2)
  have HL2 := Lib.hid (fun x hx => (hN2.lt (b := x) hx))
  have HI0 := Lib.hid hI0
  clear hc2 hb2 hA2 hN2 HZ HR1 hI0
  cases ok
  · have HGN : Hid (G = none) := Lib.hid (by rw [HG.out]; rfl)
    have n0 : w.heap.size < w2.heap.size := lt_of_block HRS.out
    have z0 : w2.cell? ⟨w.heap.size, 0, none⟩ = some (.string ⟨#[]⟩) := cell_of_blk HRS.out
    have z1 : w2.cell? ⟨w.heap.size, 1, none⟩ = some (.slice none 0 0) := cell_of_blk HRS.out
    have z2 : w2.cell? ⟨w.heap.size, 2, none⟩ = some (.slice none 0 0) := cell_of_blk HRS.out
    have f0 : w2.frozen? ⟨w.heap.size, 0, none⟩ = false := frozen_of_blk HRS.out
    have f1 : w2.frozen? ⟨w.heap.size, 1, none⟩ = false := frozen_of_blk HRS.out
    have f2 : w2.frozen? ⟨w.heap.size, 2, none⟩ = false := frozen_of_blk HRS.out
    clear hgb HG HI0
    go_wp2
    exact bodyPost_ret (v := .tuple #[.agg #[.string ⟨#[]⟩, .slice none 0 0, .slice none 0 0], .bool false]) (by simp [results, Tryd.results17, go_sem, z0, z1, z2, n0]) rfl (by rw [HGN.out]; exact rget_none ((below_set3 HB2.out (Nat.le_refl _)).alloc (below_set3 HB2.out (Nat.le_refl _)).size _))
  · replace hgb := Lib.hid (hgb rfl)
    by_cases h2 : 2 < n
    · have h2i : (2 : Int) < (n : Int) := by omega
      have h2c : (2 : Int) ≤ (c1 : Int) := by omega
      have h2n : (2 : Int) ≤ (n : Int) := by omega
      have h2d : ¬ c1 = 2 := by omega
      obtain ⟨b3, hd, hsub⟩ := sliceK_drop HR2.out (j := 2) (by rw [List.length_map, HNN.out]; omega)
      rw [← List.map_drop] at hd
      have HG2 : Hid (G = match wordsS (ws.drop 1) with | some ps => finS S ⟨a, ps⟩ | none => none) := Lib.hid (by rw [HG.out, if_pos rfl, if_pos h2])
      have hwb := fun ps h => words_bulk (ws.drop 1).length (ws.drop 1) ps (Nat.le_refl _) h
      have hA4 : Below w2.heap.size w2 ((w2.alloc (.cells #[.string a.name, .slice Aa a.args.length ca] 25)).alloc (.cells #[.string a.name, .slice Aa a.args.length ca, .slice none 0 0] 36)) := ((Below.refl _ _).alloc (Nat.le_refl _) _).alloc ((Below.refl _ _).alloc (Nat.le_refl _) _).size _
      have hln := HNN.out
      have hsm : ((ws.drop 1).map fun w => w.length + 1).sum + p0.length ≤ 1048577 := by
        have h8 := HSUM.out
        simp only [List.map_cons, List.sum_cons] at h8
        cases ws with
        | nil => simp; omega
        | cons x xs => simp only [List.map_cons, List.sum_cons, List.drop_succ_cons, List.drop_zero] at h8 ⊢; omega
      have hel : ∀ p ∈ ws.drop 1, p.length ≤ 1048576 := fun p hp => by have := mem_sum hp; omega
      have hle := len_sum (ws.drop 1)
      have hc3 := l1Words_any (ws.drop 1) (.slice (some ⟨b, o + 2, none⟩) (n - 2) (c1 - 2)) b3 ((w2.alloc (.cells #[.string a.name, .slice Aa a.args.length ca] 25)).alloc (.cells #[.string a.name, .slice Aa a.args.length ca, .slice none 0 0] 36)) (strsK_good.below hd hA4) hel (by omega)
      have HWB : Hid (∀ ps, wordsS (ws.drop 1) = some ps → bulkR ⟨a, ps⟩ ≤ 16777216) := Lib.hid (fun ps hp => by have h8 := (hwb ps hp).1; have h9 := hgb.out; unfold bulkR; dsimp only at *; omega)
      have HI1 := HI0
      have n1 : w.heap.size < w2.heap.size := lt_of_block HRS.out
      clear hd hsub hwb hA4 hln hsm hel hle HG HRS HR2 hgb HSUM hp0 hl9 h2
      generalize wordsS (ws.drop 1) = wo at *
      go_wp2_with fail
      refine hc3.mono ?_
      rintro e w3 ⟨hb3, A3, m3, c3, rfl, hps⟩
      have HI := Lib.hid (HI1.out.later hb3)
      clear HI1 HI0 hc3
      cases wo with
      | none =>
        have HGN : Hid (G = none) := Lib.hid HG2.out
        clear hps
        have n0 : w.heap.size < w3.heap.size := lt_of_block HI.out.res
        have z0 : w3.cell? ⟨w.heap.size, 0, none⟩ = some (.string ⟨#[]⟩) := cell_of_blk HI.out.res
        have z1 : w3.cell? ⟨w.heap.size, 1, none⟩ = some (.slice none 0 0) := cell_of_blk HI.out.res
        have z2 : w3.cell? ⟨w.heap.size, 2, none⟩ = some (.slice none 0 0) := cell_of_blk HI.out.res
        have f0 : w3.frozen? ⟨w.heap.size, 0, none⟩ = false := frozen_of_blk HI.out.res
        have f1 : w3.frozen? ⟨w.heap.size, 1, none⟩ = false := frozen_of_blk HI.out.res
        have f2 : w3.frozen? ⟨w.heap.size, 2, none⟩ = false := frozen_of_blk HI.out.res
        clear HG2 HWB hb3
        go_wp2
        exact bodyPost_ret (v := .tuple #[.agg #[.string ⟨#[]⟩, .slice none 0 0, .slice none 0 0], .bool false]) (by simp [results, Tryd.results17, go_sem, z0, z1, z2]) rfl (by rw [HGN.out]; exact rget_none (below_set3 HI.out.bel (Nat.le_refl _)))
      | some ps =>
        obtain ⟨b4, hp4, hf4⟩ := hps ps rfl
        have HBK := Lib.hid (HWB.out ps rfl)
        have hsz0 : ((w2.alloc (.cells #[.string a.name, .slice Aa a.args.length ca] 25)).alloc (.cells #[.string a.name, .slice Aa a.args.length ca, .slice none 0 0] 36)).heap.size = w2.heap.size + 2 := by simp
        have HJ := Lib.hid (HI.out.body hp4 (fun b hb => by have := hf4 b hb; rw [hsz0] at this; omega) (fun hb => by have := hf4 _ hb; rw [hsz0] at this; omega) (fun hb => by have := HL2.out _ hb; omega) (by omega))
        have x0 : w3.cell? ⟨w2.heap.size + 1, 0, none⟩ = some (.string a.name) := cell_of_blk HI.out.box
        have x1 : w3.cell? ⟨w2.heap.size + 1, 1, none⟩ = some (.slice Aa a.args.length ca) := cell_of_blk HI.out.box
        have x2 : w3.cell? ⟨w2.heap.size + 1, 2, none⟩ = some (.slice none 0 0) := cell_of_blk HI.out.box
        have f2 : w3.frozen? ⟨w2.heap.size + 1, 2, none⟩ = false := frozen_of_blk HI.out.box
        have n3 : w2.heap.size + 1 < w3.heap.size := lt_of_block HI.out.box
        replace HG2 : Hid (G = finS S ⟨a, ps⟩) := Lib.hid HG2.out
        have HI := HJ
        clear hps hp4 hf4 HWB HJ hsz0
        have hput := rulePut_spec ⟨a, ps⟩ _ _ _ _ _ HI.out.rule HBK.out
        have HPR : Hid (putR ⟨a, ps⟩ = toB (if ruleOk ⟨a, ps⟩ then ruleL ⟨a, ps⟩ else [])) := Lib.hid (by unfold putR; split <;> rfl)
        have hfy := fin_yes (t := S) (r := ⟨a, ps⟩)
        have hfn := fin_no (t := S) (r := ⟨a, ps⟩)
        rw [HPR.out] at hput
        clear HPR HBK
        generalize (if ruleOk ⟨a, ps⟩ then ruleL ⟨a, ps⟩ else []) = X at *
        go_wp2_with fail
        refine hput.mono ?_
        rintro e w5 ⟨rfl, hb5⟩
        replace HI := Lib.hid (HI.out.later hb5)
        replace x0 : w5.cell? ⟨w2.heap.size + 1, 0, none⟩ = some (.string a.name) := cell_of_blk HI.out.box
        replace x1 : w5.cell? ⟨w2.heap.size + 1, 1, none⟩ = some (.slice Aa a.args.length ca) := cell_of_blk HI.out.box
        replace x2 : w5.cell? ⟨w2.heap.size + 1, 2, none⟩ = some (.slice A3 m3 c3) := cell_of_blk HI.out.box
        clear f2
        have n0 : w.heap.size < w5.heap.size := lt_of_block HI.out.res
        have z0 : w5.cell? ⟨w.heap.size, 0, none⟩ = some (.string ⟨#[]⟩) := cell_of_blk HI.out.res
        have z1 : w5.cell? ⟨w.heap.size, 1, none⟩ = some (.slice none 0 0) := cell_of_blk HI.out.res
        have z2 : w5.cell? ⟨w.heap.size, 2, none⟩ = some (.slice none 0 0) := cell_of_blk HI.out.res
        have f0 : w5.frozen? ⟨w.heap.size, 0, none⟩ = false := frozen_of_blk HI.out.res
        have f1 : w5.frozen? ⟨w.heap.size, 1, none⟩ = false := frozen_of_blk HI.out.res
        have f2 : w5.frozen? ⟨w.heap.size, 2, none⟩ = false := frozen_of_blk HI.out.res
        clear hput hb5
        by_cases hx : X = S
        · have hq : ((toB X).toList == s.toList) = true := by rw [HXE.out]; exact decide_eq_true hx
          have HGE : Hid (G = some ⟨a, ps⟩) := Lib.hid (by rw [HG2.out, hfy hx])
          have HD := Lib.hid HI.out.done
          clear hx hfy hfn
          generalize toB X = PX at *
          go_wp2
          exact bodyPost_ret (v := .tuple #[.agg #[.string a.name, .slice Aa a.args.length ca, .slice A3 m3 c3], .bool true]) (by simp [results, Tryd.results17, go_sem, z0, z1, z2]) rfl (by rw [HGE.out]; exact HD.out)
        · have hq : ((toB X).toList == s.toList) = false := by rw [HXE.out]; exact decide_eq_false hx
          have HGE : Hid (G = none) := Lib.hid (by rw [HG2.out, hfn hx])
          have HD := Lib.hid (rget_none (below_set3 (u0 := .string ⟨#[]⟩) (u1 := .slice none 0 0) (u2 := .slice none 0 0) HI.out.bel (Nat.le_refl _)))
          clear hx hfy hfn
          generalize toB X = PX at *
          go_wp2
          exact bodyPost_ret (v := .tuple #[.agg #[.string ⟨#[]⟩, .slice none 0 0, .slice none 0 0], .bool false]) (by simp [results, Tryd.results17, go_sem, z0, z1, z2]) rfl (by rw [HGE.out]; exact HD.out)
    · have h2i : ¬ (2 : Int) < (n : Int) := by omega
      have HG2 : Hid (G = finS S ⟨a, []⟩) := Lib.hid (by rw [HG.out, if_pos rfl, if_neg h2])
      have HBK : Hid (bulkR ⟨a, []⟩ ≤ 16777216) := Lib.hid (by have h9 := hgb.out; have e0 : bulkR ⟨a, []⟩ = bulkA a + 0 := rfl; omega)
      have HI := HI0
      clear HG HI0 hgb h2 HRS
      have hput := rulePut_spec ⟨a, []⟩ _ _ _ _ _ HI.out.rule HBK.out
      have y0 : ((w2.alloc (.cells #[.string a.name, .slice Aa a.args.length ca] 25)).alloc (.cells #[.string a.name, .slice Aa a.args.length ca, .slice none 0 0] 36)).cell? ⟨w2.heap.size + 1, 0, none⟩ = some (.string a.name) := cell_of_blk HI.out.box
      have y1 : ((w2.alloc (.cells #[.string a.name, .slice Aa a.args.length ca] 25)).alloc (.cells #[.string a.name, .slice Aa a.args.length ca, .slice none 0 0] 36)).cell? ⟨w2.heap.size + 1, 1, none⟩ = some (.slice Aa a.args.length ca) := cell_of_blk HI.out.box
      have y2 : ((w2.alloc (.cells #[.string a.name, .slice Aa a.args.length ca] 25)).alloc (.cells #[.string a.name, .slice Aa a.args.length ca, .slice none 0 0] 36)).cell? ⟨w2.heap.size + 1, 2, none⟩ = some (.slice none 0 0) := cell_of_blk HI.out.box
      have HPR : Hid (putR ⟨a, []⟩ = toB (if ruleOk ⟨a, []⟩ then ruleL ⟨a, []⟩ else [])) := Lib.hid (by unfold putR; split <;> rfl)
      have hfy := fin_yes (t := S) (r := ⟨a, []⟩)
      have hfn := fin_no (t := S) (r := ⟨a, []⟩)
      rw [HPR.out] at hput
      clear HPR HBK
      generalize (if ruleOk ⟨a, []⟩ then ruleL ⟨a, []⟩ else []) = X at *
      go_wp2_with fail
      refine hput.mono ?_
      rintro e w5 ⟨rfl, hb5⟩
      replace HI := Lib.hid (HI.out.later hb5)
      have x0 : w5.cell? ⟨w2.heap.size + 1, 0, none⟩ = some (.string a.name) := cell_of_blk HI.out.box
      have x1 : w5.cell? ⟨w2.heap.size + 1, 1, none⟩ = some (.slice Aa a.args.length ca) := cell_of_blk HI.out.box
      have x2 : w5.cell? ⟨w2.heap.size + 1, 2, none⟩ = some (.slice none 0 0) := cell_of_blk HI.out.box
      have n0 : w.heap.size < w5.heap.size := lt_of_block HI.out.res
      have z0 : w5.cell? ⟨w.heap.size, 0, none⟩ = some (.string ⟨#[]⟩) := cell_of_blk HI.out.res
      have z1 : w5.cell? ⟨w.heap.size, 1, none⟩ = some (.slice none 0 0) := cell_of_blk HI.out.res
      have z2 : w5.cell? ⟨w.heap.size, 2, none⟩ = some (.slice none 0 0) := cell_of_blk HI.out.res
      have f0 : w5.frozen? ⟨w.heap.size, 0, none⟩ = false := frozen_of_blk HI.out.res
      have f1 : w5.frozen? ⟨w.heap.size, 1, none⟩ = false := frozen_of_blk HI.out.res
      have f2 : w5.frozen? ⟨w.heap.size, 2, none⟩ = false := frozen_of_blk HI.out.res
      clear hput hb5 y0 y1 y2
      by_cases hx : X = S
      · have hq : ((toB X).toList == s.toList) = true := by rw [HXE.out]; exact decide_eq_true hx
        have HGE : Hid (G = some ⟨a, []⟩) := Lib.hid (by rw [HG2.out, hfy hx])
        have HD := Lib.hid HI.out.done
        clear hx hfy hfn
        generalize toB X = PX at *
        go_wp2
        exact bodyPost_ret (v := .tuple #[.agg #[.string a.name, .slice Aa a.args.length ca, .slice none 0 0], .bool true]) (by simp [results, Tryd.results17, go_sem, z0, z1, z2]) rfl (by rw [HGE.out]; exact HD.out)
      · have hq : ((toB X).toList == s.toList) = false := by rw [HXE.out]; exact decide_eq_false hx
        have HGE : Hid (G = none) := Lib.hid (by rw [HG2.out, hfn hx])
        have HD := Lib.hid (rget_none (below_set3 (u0 := .string ⟨#[]⟩) (u1 := .slice none 0 0) (u2 := .slice none 0 0) HI.out.bel (Nat.le_refl _)))
        clear hx hfy hfn
        generalize toB X = PX at *
        go_wp2
        exact bodyPost_ret (v := .tuple #[.agg #[.string ⟨#[]⟩, .slice none 0 0, .slice none 0 0], .bool false]) (by simp [results, Tryd.results17, go_sem, z0, z1, z2]) rfl (by rw [HGE.out]; exact HD.out)

end Go.Proofs.YtmhjabjiojfgnaaDoor
