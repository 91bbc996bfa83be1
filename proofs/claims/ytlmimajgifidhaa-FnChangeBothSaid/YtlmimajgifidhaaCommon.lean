/- The walk of common. -/
import Derived.RangeFuncNested
import Derived.RangeFuncBound
import Derived.RangeFuncCalls
import Derived.RangeFuncLeaves
import Derived.Shelf.Abstract
import Derived.Shelf.RegionOpen
import Derived.OwnWalkIn
import Derived.TacticsInMore
import Derived.LoopNIn
import Derived.LoopIn
import Derived.Laws.EntriesVeiled
import Derived.Deep.RegionHeld3
import Derived.Deep.RegionWith
import Derived.BigQuiet
import Derived.Deep.DrawnRows
import Derived.WalkKit
import Derived.WalkSpells
import Derived.WalkLawsBesides
import Derived.Lib.Hide
import Derived.Lib.IndexBytes
import Derived.Deep.Slices
import Derived.Deep.Fields
import Derived.ChangeSame
import Derived.Deep.Draws
import Derived.Lib.Bytealg
import Derived.Test.YtlmimajgifidhaaMergeS
import Derived.Test.YtlmimajgifidhaaFacts2
namespace Go.Proofs.Ytlmimajgifidhaa
open Go.RowKit D Go.Shelf
set_option linter.unusedVariables false
attribute [local go_sem ↓] Go.wp_at_zero Go.wp_at_succ
attribute [local go_sem] Oper.semAt_some

set_option maxRecDepth 100000 in
set_option maxHeartbeats 4000000 in
theorem common_any (xs ys : List A) (v1 v2 : Value) (bs1 bs2 : List Nat) (w : World) (h1 : atomsK w [v1] xs bs1) (h2 : atomsK w [v2] ys bs2) :
    Calls Try.prog 41 #[v1, v2] w fun e w' => e = .returned (.bool ((mergeL xs ys).any (fun p => p.2 == 2))) ∧ Below w.heap.size w w' := by
  obtain ⟨Ad, cap, rfl, hl, hm⟩ := sliceK_form h1
  obtain ⟨Ad2, cap2, rfl, hl2, hm2⟩ := sliceK_form h2
  clear hm hm2
  refine (callsIn_wide (n := 4)).1 ?_
  refine callsIn_of_wp_marks Try.func41 rfl trivial ?_ rfl
  simp only [Try.ntmps41, List.size_toArray, List.length_cons, List.length_nil, Nat.reduceAdd, Nat.reduceSub, Array.replicate_succ, Array.replicate_zero, List.push_toArray, List.append_toArray, List.nil_append, List.cons_append]
  have hA0 : Below w.heap.size w (w.alloc (.cells #[.bool false] 4)) := (Below.refl _ _).alloc (Nat.le_refl _) _
  gi_wp2
  refine ⟨trivial, ?_⟩
  refine (callsIn_wide.2 (sortedFacts_any Ad xs.length cap _)).mono ?_
  rintro e w2 ⟨rfl, hb2⟩
  have B2 := hA0.trans (hb2.mono hA0.size)
  have x2 : w2.cell? ⟨w.heap.size, 0, none⟩ = some (.bool false) := cell_later hb2 (by go_simp)
  have f2 : w2.frozen? ⟨w.heap.size, 0, none⟩ = false := (hb2.frozen (p := ⟨w.heap.size, 0, none⟩) (by simp)).trans (by go_simp)
  gi_wp2
  refine ⟨trivial, ?_⟩
  refine (callsIn_wide.2 (sortedFacts_any Ad2 ys.length cap2 _)).mono ?_
  rintro e w3 ⟨rfl, hb3⟩
  have B3 := B2.trans (hb3.mono B2.size)
  have x3 : w3.cell? ⟨w.heap.size, 0, none⟩ = some (.bool false) := cell_later hb3 x2
  have f3 : w3.frozen? ⟨w.heap.size, 0, none⟩ = false := (hb3.frozen (p := ⟨w.heap.size, 0, none⟩) (lt_of_cell x2)).trans f2
  clear x2 f2
  gi_wp2
  refine ⟨trivial, ?_⟩
  refine (callsIn_wide.2 (merge_any _ _ _ _ _ _ _)).mono ?_
  rintro e w4 ⟨rfl, rfl⟩
  gi_wp2
  have hM : Below w3.heap.size w3 ((w3.alloc (.cells #[.slice Ad xs.length cap, .func (.func 70) #[] #[]] 69)).alloc (.cells #[.slice Ad2 ys.length cap2, .func (.func 70) #[] #[]] 69)) := ((Below.refl _ _).alloc (Nat.le_refl _) _).alloc (by simp) _
  have s1 : ((w3.alloc (.cells #[.slice Ad xs.length cap, .func (.func 70) #[] #[]] 69)).alloc (.cells #[.slice Ad2 ys.length cap2, .func (.func 70) #[] #[]] 69)).cell? ⟨w3.heap.size, 0, none⟩ = some (.slice Ad xs.length cap) := by go_simp
  have s2 : ((w3.alloc (.cells #[.slice Ad xs.length cap, .func (.func 70) #[] #[]] 69)).alloc (.cells #[.slice Ad2 ys.length cap2, .func (.func 70) #[] #[]] 69)).cell? ⟨w3.heap.size, 1, none⟩ = some (.func (.func 70) #[] #[]) := by go_simp
  have s3 : ((w3.alloc (.cells #[.slice Ad xs.length cap, .func (.func 70) #[] #[]] 69)).alloc (.cells #[.slice Ad2 ys.length cap2, .func (.func 70) #[] #[]] 69)).cell? ⟨w3.heap.size + 1, 0, none⟩ = some (.slice Ad2 ys.length cap2) := by go_simp
  generalize ((w3.alloc (.cells #[.slice Ad xs.length cap, .func (.func 70) #[] #[]] 69)).alloc (.cells #[.slice Ad2 ys.length cap2, .func (.func 70) #[] #[]] 69)) = wm at *
  have B4 := B3.trans (hM.mono B3.size)
  have x4 := cell_later hM x3
  have f4 : wm.frozen? ⟨w.heap.size, 0, none⟩ = false := (hM.frozen (p := ⟨w.heap.size, 0, none⟩) (lt_of_cell x3)).trans f3
  clear x3 f3
  have hwm : w.heap.size ≤ wm.heap.size := B4.size
  refine wpIn_rangeFunc_ownG rfl (by omega) (gf := 74) (lb := #[.pointer (some ⟨w3.heap.size, 0, none⟩), .pointer (some ⟨w3.heap.size + 1, 0, none⟩)]) rfl trivial (enters_of Try.func74 (by kernel_rfl) rfl)
    (merge_stops 3 (by omega) w3.heap.size (w3.heap.size + 1) xs ys _ _ bs1 bs2 w wm h1 h2 (Below wm.heap.size) (fun W W' hk hI => ⟨(hk.cell (p := ⟨w3.heap.size, 0, none⟩) (lt_of_cell s1)).trans hI.s1, (hk.cell (p := ⟨w3.heap.size, 1, none⟩) (lt_of_cell s2)).trans hI.s2, (hk.cell (p := ⟨w3.heap.size + 1, 0, none⟩) (lt_of_cell s3)).trans hI.s3, hI.hb.trans (hk.mono hwm)⟩) ⟨s1, s2, s3, B4⟩) belowK_t (belowK_b (Nat.le_refl _)) (Below.refl _ _) (fun _ => rfl)
    (fun pre W => (pre.all (fun x => x.s != 2) = true ∧ W.cell? ⟨w.heap.size, 0, none⟩ = some (.bool false) ∧ W.frozen? ⟨w.heap.size, 0, none⟩ = false) ∧ Below w.heap.size w W)
    (fun c pre W => (c = .ret ∧ pre.any (fun x => x.s == 2) = true ∧ W.cell? ⟨w.heap.size, 0, none⟩ = some (.bool true)) ∧ Below w.heap.size w W)
    (OwnFrom.and (Own.from (fun s A B row hs hg hr => ⟨hs.1, cell_kept hs.2.1 hg hr, (frozen_kept hs.2.1 hg hr).trans hs.2.2⟩) _) (ownFrom_below (Nat.le_refl _) hwm))
    (fun c => OwnFrom.and (Own.from (fun s A B row hs hg hr => ⟨hs.1, hs.2.1, cell_kept hs.2.2 hg hr⟩) _) (ownFrom_below (Nat.le_refl _) hwm))
    ⟨⟨rfl, x4, f4⟩, B4⟩
    (fun x => { tmps := #[.slice Ad xs.length cap, .slice Ad2 ys.length cap2, undef, undef, .pointer (some ⟨w.heap.size, 0, none⟩), undef, .int .i64 x.s, .slice Ad xs.length cap, .agg #[.slice Ad xs.length cap, .func (.func 70) #[] #[]], .slice Ad2 ys.length cap2, .agg #[.slice Ad2 ys.length cap2, .func (.func 70) #[] #[]], .func (.func 74) #[] #[.pointer (some ⟨w3.heap.size, 0, none⟩), .pointer (some ⟨w3.heap.size + 1, 0, none⟩)], .agg #[x.c0, x.c1], .int .i64 x.s, undef, undef], defers := [] }) ?assign ?body ?done ?stop
  case assign =>
    intro l x W K hK
    dsimp only [Itm.enc]
    gi_wp2
    exact hK
  case body =>
    rintro l pre x W ⟨⟨hp, hc, hf⟩, hB⟩ _
    by_cases hs : x.s = 2
    · have h2 : ((x.s : Int) == 2) = true := beq_iff_eq.2 (by omega)
      have HS := Lib.hid hs
      clear hs
      gi_wp2
      exact ⟨(KeepsOthers.setCell _ _ _).from _, ⟨rfl, by simp [HS.out], World.cell?_setCell_same' _ _ _ (by rw [hc]; rfl)⟩, hB.setCell (p := ⟨w.heap.size, 0, none⟩) (Nat.le_refl _) _⟩
    · have h2 : ((x.s : Int) == 2) = false := beq_eq_false_iff_ne.2 (by omega)
      have HS := Lib.hid hs
      have HP := Lib.hid hp
      clear hs hp
      gi_wp2
      exact ⟨KeepsFrom.refl _ _, Below.refl _ _, ⟨by rw [List.all_append, HP.out]; have := HS.out; simp [this], hc, hf⟩, hB⟩
  case done =>
    rintro D pr W hD hS ⟨⟨hp, hc, hf⟩, hB⟩ hK
    have HR : Hid ((mergeL xs ys).any (fun p => p.2 == 2) = false) := Lib.hid (by
      rw [← hS, List.any_map, List.any_eq_false]
      intro x hx
      have := List.all_eq_true.1 hp x hx
      simpa [Itm.key] using this)
    clear hp hS
    gi_wp2
    have hK' := (KeepsOthers.setCell W ⟨w.heap.size, 0, none⟩ (.bool false)).same D _ hK rfl
    refine ⟨by simp, .inl ⟨_, _, rfl, run_takeDeferred hK', ?_⟩⟩
    have hc5 := cell_kept (World.cell?_setCell_same' W ⟨w.heap.size, 0, none⟩ (.bool false) (by rw [hc]; rfl)) (grownBy_putObj' _ D (.deferred none)) (fun r e => by cases e; exact ⟨_, hK', rfl⟩)
    refine ⟨.bool false, ?_, by rw [HR.out], (hB.setCell (p := ⟨w.heap.size, 0, none⟩) (Nat.le_refl _) _).trans (belowK_b (w := w) (Nat.le_refl _) _ D _ _ (by omega) hK' rfl rfl)⟩
    simp [results, Try.f41, go_sem, hc5]
  case stop =>
    rintro D c pre W hD ⟨rest, hr⟩ ⟨⟨rfl, ha, hc⟩, hB⟩ hK
    have HR : Hid ((mergeL xs ys).any (fun p => p.2 == 2) = true) := Lib.hid (by
      rw [← hr, List.any_append, List.any_map]
      rw [show pre.any ((fun p => p.2 == 2) ∘ Itm.key) = true from ha]; rfl)
    clear ha hr
    gi_wp2
    refine ⟨by simp, .inl ⟨_, _, rfl, run_takeDeferred hK, ?_⟩⟩
    have hc5 := cell_kept hc (grownBy_putObj' _ D (.deferred none)) (fun r e => by cases e; exact ⟨_, hK, rfl⟩)
    refine ⟨.bool true, ?_, by rw [HR.out], hB.trans (belowK_b (w := w) (Nat.le_refl _) W D _ _ (by omega) hK rfl rfl)⟩
    simp [results, Try.f41, go_sem, hc5]

end Go.Proofs.Ytlmimajgifidhaa
