/- The walk of union: all that merge hands out, collected. -/
import Derived.WalkKit
import Derived.Lib.Hide
import Derived.WalkSpells
import Derived.WalkLawsBesides
import Derived.RangeFuncNested
import Derived.RangeFuncBound
import Derived.RangeFuncCalls
import Derived.RangeFuncLeaves
import Derived.RangeFuncBox
import Derived.Shelf.Abstract
import Derived.Shelf.RegionOpen
import Derived.OwnWalkIn
import Derived.TacticsInMore
import Derived.LoopNIn
import Derived.LoopIn
import Derived.Maps.AppendAt
import Derived.Deep.AppendLies
import Derived.Laws.EntriesVeiled
import Derived.Test.YtlmimajgifidhaaProg
import Derived.Test.YtlmimajgifidhaaKind
import Derived.Test.YtlmimajgifidhaaUnionP
namespace Go.Proofs.Ytlmimajgifidhaa
open Go.RowKit D Go.Shelf
set_option linter.unusedVariables false
attribute [local go_sem ↓] Go.wp_at_zero Go.wp_at_succ
attribute [local go_sem] Oper.semAt_some

set_option maxRecDepth 100000 in
set_option maxHeartbeats 4000000 in
theorem union_any (xs ys : List A) (v1 v2 : Value) (bs1 bs2 : List Nat) (w : World) (h1 : atomsK w [v1] xs bs1) (h2 : atomsK w [v2] ys bs2) (hn1 : xs.length ≤ 1000000) (hn2 : ys.length ≤ 1000000) :
    Calls Try.prog 28 #[v1, v2] w (Reads atomsK (unionL xs ys) w.heap.size w) := by
  obtain ⟨Ad, cap, rfl, hl, hm⟩ := sliceK_form h1
  obtain ⟨Ad2, cap2, rfl, hl2, hm2⟩ := sliceK_form h2
  obtain ⟨i0, hi, hz0, hz1, hz2⟩ := info_parts infoAtomU
  have hml := merge_length _ xs ys (Nat.le_refl _)
  clear hm hm2
  refine (callsIn_wide (n := 4)).1 ?_
  refine callsIn_of_wp_marks Try.func28 rfl trivial ?_ rfl
  simp only [Try.ntmps28, List.size_toArray, List.length_cons, List.length_nil, Nat.reduceAdd, Nat.reduceSub, Array.replicate_succ, Array.replicate_zero, List.push_toArray, List.append_toArray, List.nil_append, List.cons_append]
  have hA0 : Below w.heap.size w (w.alloc (.cells #[.slice none 0 0] 26)) := (Below.refl _ _).alloc (Nat.le_refl _) _
  have bx0 : Boxed (w.alloc (.cells #[.slice none 0 0] 26)) w.heap.size 26 (.slice none 0 0) := Boxed.new _ _ _
  gi_wp2
  refine ⟨trivial, ?_⟩
  refine (callsIn_wide.2 (sortedFacts_any Ad xs.length cap _)).mono ?_
  rintro e w2 ⟨rfl, hb2⟩
  have B2 := hA0.trans (hb2.mono hA0.size)
  have bx2 : Boxed w2 w.heap.size 26 (.slice none 0 0) := (hb2.block _ bx0.lt).trans bx0
  gi_wp2
  refine ⟨trivial, ?_⟩
  refine (callsIn_wide.2 (sortedFacts_any Ad2 ys.length cap2 _)).mono ?_
  rintro e w3 ⟨rfl, hb3⟩
  have B3 := B2.trans (hb3.mono B2.size)
  have bx3 : Boxed w3 w.heap.size 26 (.slice none 0 0) := (hb3.block _ bx2.lt).trans bx2
  have hw3 : w.heap.size < w3.heap.size := bx3.lt
  clear bx0 bx2
  gi_wp2
  refine ⟨trivial, ?_⟩
  refine (callsIn_wide.2 (merge_any _ _ _ _ _ _ _)).mono ?_
  rintro e w4 ⟨rfl, rfl⟩
  gi_wp2
  have hM : Below w3.heap.size w3 ((w3.alloc (.cells #[.slice Ad xs.length cap, .func (.func 70) #[] #[]] 69)).alloc (.cells #[.slice Ad2 ys.length cap2, .func (.func 70) #[] #[]] 69)) := ((Below.refl _ _).alloc (Nat.le_refl _) _).alloc (by simp) _
  have s1 : ((w3.alloc (.cells #[.slice Ad xs.length cap, .func (.func 70) #[] #[]] 69)).alloc (.cells #[.slice Ad2 ys.length cap2, .func (.func 70) #[] #[]] 69)).cell? ⟨w3.heap.size, 0, none⟩ = some (.slice Ad xs.length cap) := by go_simp
  have s2 : ((w3.alloc (.cells #[.slice Ad xs.length cap, .func (.func 70) #[] #[]] 69)).alloc (.cells #[.slice Ad2 ys.length cap2, .func (.func 70) #[] #[]] 69)).cell? ⟨w3.heap.size, 1, none⟩ = some (.func (.func 70) #[] #[]) := by go_simp
  have s3 : ((w3.alloc (.cells #[.slice Ad xs.length cap, .func (.func 70) #[] #[]] 69)).alloc (.cells #[.slice Ad2 ys.length cap2, .func (.func 70) #[] #[]] 69)).cell? ⟨w3.heap.size + 1, 0, none⟩ = some (.slice Ad2 ys.length cap2) := by go_simp
  generalize ((w3.alloc (.cells #[.slice Ad xs.length cap, .func (.func 70) #[] #[]] 69)).alloc (.cells #[.slice Ad2 ys.length cap2, .func (.func 70) #[] #[]] 69)) = wm at *
  have B4 := B3.trans (hM.mono B3.size)
  have bx4 : Boxed wm w.heap.size 26 (.slice none 0 0) := (hM.block _ bx3.lt).trans bx3
  clear bx3
  have hwm : w.heap.size ≤ wm.heap.size := B4.size
  have hwm2 : w.heap.size < wm.heap.size := bx4.lt
  have hs1 : w3.heap.size < wm.heap.size := lt_of_cell s1
  have hs3 : w3.heap.size + 1 < wm.heap.size := lt_of_cell s3
  refine wpIn_rangeFunc_ownH rfl (by omega) (gf := 74) (lb := #[.pointer (some ⟨w3.heap.size, 0, none⟩), .pointer (some ⟨w3.heap.size + 1, 0, none⟩)]) rfl trivial (enters_of Try.func74 (by kernel_rfl) rfl)
    (merge_stops 3 (by omega) w3.heap.size (w3.heap.size + 1) xs ys _ _ bs1 bs2 w wm h1 h2 (KExc w.heap.size wm.heap.size) (fun W W' hk hI => hk.inv hI hs1 hs3 (by omega) (by omega) (Nat.le_refl _) hwm2) ⟨s1, s2, s3, B4⟩) KExc.trans KExc.putObj (Below.refl _ _) (fun _ => rfl)
    (fun pre W => ((∃ v, Boxed W w.heap.size 26 v ∧ W.ownsRow wm.heap.size 45 2 v pre.length (cellsI pre) ∧ True) ∧ Below w.heap.size w W) ∧ wm.heap.size ≤ W.heap.size)
    (fun c pre W => False)
    (OwnFrom.and (OwnFrom.and (Own.from (holdsRow_own wm.heap.size w.heap.size 26 45 2 (fun pre => pre.length) (fun pre => cellsI pre) (fun pre v => True)) _) (ownFrom_below (Nat.le_refl _) hwm)) (fun s A B row hs hg hr => Nat.le_trans hs hg.size))
    (fun c => fun _ _ _ _ hs _ _ => hs)
    ⟨⟨⟨_, bx4, World.ownsRow_nil _ _ _ _, trivial⟩, B4⟩, Nat.le_refl _⟩
    (fun x a' W => ∃ Bx, wm.heap.size ≤ Bx ∧ W.heap[Bx]? = some (.cells #[x.c0, x.c1] 45 (0, 0)) ∧ a' = { tmps := #[.slice Ad xs.length cap, .slice Ad2 ys.length cap2, undef, undef, .slice none 0 0, .pointer (some ⟨w.heap.size, 0, none⟩), .pointer (some ⟨Bx, 0, none⟩), .slice Ad xs.length cap, .agg #[.slice Ad xs.length cap, .func (.func 70) #[] #[]], .slice Ad2 ys.length cap2, .agg #[.slice Ad2 ys.length cap2, .func (.func 70) #[] #[]], .func (.func 74) #[] #[.pointer (some ⟨w3.heap.size, 0, none⟩), .pointer (some ⟨w3.heap.size + 1, 0, none⟩)], .agg #[x.c0, x.c1], .int .i64 x.s, undef, undef, undef, undef, undef], defers := [] })
    (fun x a' _ X Y row hs hg hr => by
      obtain ⟨Bx, g1, g2, g3⟩ := hs
      exact ⟨Bx, g1, (hg.block Bx (lt_of_block g2) (fun e => by obtain ⟨_, o, ho, hc⟩ := hr Bx e.symm; rw [g2] at ho; cases ho; cases hc)).trans g2, g3⟩)
    ?assign ?body ?done ?stop
  case assign =>
    rintro l pre x W K ⟨⟨⟨v, hbx, hrow, _⟩, hB⟩, hS⟩ hK
    obtain ⟨c0, c1, a, s, bs, hat⟩ := x
    obtain ⟨Ax, capx, rfl, rfl⟩ := atom_cells2 hat
    dsimp only [Itm.enc]
    gi_wp2
    exact hK _ _ ((KeepsOthers.alloc _ _).from _) (KExc.of_grown (World.grownBy_alloc W _ none) hS (fun r e => by cases e)) ⟨⟨⟨v, hbx.alloc _, hrow.alloc _, trivial⟩, hB.alloc hB.size _⟩, Nat.le_trans hS (by simp)⟩ ⟨W.heap.size, hS, heap_alloc_new W _, rfl⟩
  case body =>
    rintro l pre x a' W hlw ⟨r, hr⟩ ⟨⟨⟨v, hbx, hrow, _⟩, hB⟩, hS⟩ ⟨Bx, hBx, hX, rfl⟩ hlen
    obtain ⟨c0, c1, a, s, bs, hat⟩ := x
    obtain ⟨Ax, capx, rfl, rfl⟩ := atom_cells2 hat
    obtain ⟨A1, cp1, rfl⟩ := own_shape hrow
    have hc := hbx.cell
    have hf := hbx.frozen
    have y0 : W.cell? ⟨Bx, 0, none⟩ = some (.string a.name) := by rw [cell_of_row W Bx 0 _ _ _ hX]; rfl
    have y1 : W.cell? ⟨Bx, 1, none⟩ = some (.slice Ax a.args.length capx) := by rw [cell_of_row W Bx 1 _ _ _ hX]; rfl
    have hpl : pre.length + 1 ≤ 2000000 := by omega
    have HX := Lib.hid hX
    have HBx := Lib.hid hbx
    have HRW := Lib.hid hrow
    clear hX hbx hlen hr
    gi_wp2_with (gi_at_builtin; refine wpListIn_append_own _ rfl _ _ 26 rfl wm.heap.size 45 i0 (.agg #[.string ⟨#[]⟩, .slice none 0 0]) 2 40 Try.underlying26 hi hz0 hz1 hz2 rfl (by decide) _ _ _ rfl (HRW.out.alloc _) ⟨W.heap.size, 0, none⟩ 1 1 [.string a.name, .slice Ax a.args.length capx] rfl rfl (World.news_of_block (cs := #[.string a.name, .slice Ax a.args.length capx]) (heap_alloc_new W _)) (by simp [Value.oneCell']) (by unfold maxLen; omega) (by omega) (by simp; omega) ?_; intro v' w1 hown' hgrow _; obtain ⟨A2, cp2, rfl⟩ := own_shape hown'; obtain ⟨hv1, hv2, hr2, hk2⟩ := boxed_app HBx.out (by decide) HRW.out hown' hgrow; have hc1 := hv1.cell; have hf1 := hv1.frozen)
    have hg : W.grownBy w1 (Value.slice A1 pre.length cp1).ownBlock := ⟨hgrow.os, hgrow.tape, hgrow.output, Nat.le_trans (by simp) hgrow.size, fun k hk hne => (hgrow.block k (by simp; omega) hne).trans (Below.heap_alloc _ _ _ hk)⟩
    have hge := own_row_ge HRW.out
    have hK1 : KExc w.heap.size wm.heap.size W w1 := KExc.of_grown hg hS (fun r e => .inl (hge r e))
    have hK2 : KExc w.heap.size wm.heap.size w1 (w1.setCell ⟨w.heap.size, 0, none⟩ (.slice A2 (pre.length + 1) cp2)) := KExc.of_grown (grownBy_setCell' w1 w.heap.size _) (Nat.le_trans hS hg.size) (fun r e => by cases e; exact .inr rfl)
    have hB1 : Below w.heap.size w w1 := hB.grown hg hB.size (fun r e => by have := hge r e; omega)
    have hr3 : (w1.setCell ⟨w.heap.size, 0, none⟩ (.slice A2 (pre.length + 1) cp2)).ownsRow wm.heap.size 45 2 (.slice A2 (pre.length + 1) cp2) (pre ++ [(⟨.string a.name, .slice Ax a.args.length capx, a, s, bs, hat⟩ : Itm w)]).length (cellsI (pre ++ [(⟨.string a.name, .slice Ax a.args.length capx, a, s, bs, hat⟩ : Itm w)])) := by
      rw [cellsI_snoc, @List.length_append _ pre _]; exact hr2
    exact ⟨hk2.from _, hK1.trans hK2, ⟨⟨_, hv2, hr3⟩, hB1.setCell (Nat.le_refl _) _⟩, Nat.le_trans hS (Nat.le_trans hg.size (by simp [World.setCell]))⟩
  case done =>
    rintro D pr W hD hS ⟨⟨⟨v, hbx, hrow, _⟩, hB⟩, hsz⟩ hK
    obtain ⟨A1, cp1, rfl⟩ := own_shape hrow
    have hc := hbx.cell
    have HS : Hid (pr.map (·.a) = unionL xs ys) := Lib.hid (key_union hS)
    have HRW := Lib.hid hrow
    clear hS hrow
    gi_wp2
    refine ⟨by simp, .inl ⟨_, _, rfl, run_takeDeferred hK, ?_⟩⟩
    obtain ⟨bs, hrI⟩ := rowI pr
    have hB5 := hB.trans (belowK_b (w := w) (Nat.le_refl _) W D _ (.deferred none) (by omega) hK rfl rfl)
    have hr5 := ownsRow_putObj HRW.out (.deferred none) hK rfl
    have hI5 := hrI.below atomK_good hB5
    rw [HS.out] at hI5
    have hln : pr.length = (unionL xs ys).length := by rw [← HS.out, List.length_map]
    rw [hln] at hr5
    obtain ⟨b5, hs5, _⟩ := hI5.slice hr5
    have hs6 : atomsK (W.putObj D (.deferred none)) [.slice A1 pr.length cp1] (unionL xs ys) b5 := by rw [hln]; exact hs5
    exact ⟨.slice A1 pr.length cp1, by simp [results, Try.f28, go_sem], hB5, _, b5, rfl, hs6⟩
  case stop =>
    rintro D c pre W _ _ h _
    exact h.elim

end Go.Proofs.Ytlmimajgifidhaa
