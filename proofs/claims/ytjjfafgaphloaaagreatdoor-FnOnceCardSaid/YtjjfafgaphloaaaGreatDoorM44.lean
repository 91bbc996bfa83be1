/- Of the proof of FnOnce: ColI. -/
import Derived.Test.YtjjfafgaphloaaaGreatDoorM42
namespace Go.Proofs.YtjjfafgaphloaaaGreatDoor
open Go.RowKit D
set_option linter.unusedVariables false
attribute [local go_sem] Oper.semAt_some
theorem infoAtomF : (Tryz.prog.info? 33).map (fun i => (i.zero, i.size, i.bytes)) = some (some (.agg #[.string ⟨#[]⟩, .slice none 0 0]), 2, 40) := by kernel_rfl

def D.flatF {E : List Fe} {w0 : World} (xs : List (FdIn E w0)) : List Value := xs.flatMap fun x => [.string x.1.t.name, x.1.c1]

theorem D.flatF_snoc {E : List Fe} {w0 : World} (xs : List (FdIn E w0)) (x : FdIn E w0) : flatF (xs ++ [x]) = flatF xs ++ [.string x.1.t.name, x.1.c1] := by simp [flatF]

theorem D.cell_two_new (w : World) (x y : Value) (t : TypeId) : ∀ j u, [x, y][j]? = some u → (w.alloc (.cells #[x, y] t)).cell? ((⟨w.heap.size, 0, none⟩ : Addr).add j) = some u := by
  intro j u hj
  have hb := fun o => cell_of_blk (o := o) (heap_alloc_new w (.cells #[x, y] t))
  match j, hj with
  | 0, hj => simp at hj; subst hj; exact hb 0
  | 1, hj => simp at hj; subst hj; exact hb 1
  | j + 2, hj => simp at hj

/-- The loop's variable, in a block of its own. -/
def D.LvAt (Bx : Nat) (cs : Array Value) (W : World) : Prop := W.heap[Bx]? = some (.cells cs 33 (0, 0))

theorem values_stops (F : Fence) (n : Nat) (hf : F.fn 67) (hro : F.round = none) (hn : 1 ≤ n) (Bm b : Nat) (E : List Fe) (w0 : World) (Lf : List (Value × Value)) (w : World)
    (hm : w.cell? ⟨Bm, 0, none⟩ = some (.map (some b))) (hL : MapV isStr b Lf w) (hT : Timed b w) (hE : ∀ p ∈ Lf, ∃ x : FdIn E w0, p = (.string (aText x.1.t), x.1.val)) (hN : Lf.length ≤ maxLen) :
    SeqStopsK F n Tryz.prog 67 #[.pointer (some ⟨Bm, 0, none⟩)] (fun x : FdIn E w0 => #[x.1.val]) KeepsWalks (AllCame Lf) (fun _ => True) Lf.length w := fun l J Jx W hW hJ _ hY h0 =>
  values1_in F n hf hro hn l Bm b E w0 Lf J Jx hY W hJ ((hW.cell (p := ⟨Bm, 0, none⟩) (lt_of_cell hm)).trans hm) (hL.below hW hL.lt) (hT.same (hW.block b hL.lt)) hE hN h0

set_option maxRecDepth 100000 in
set_option maxHeartbeats 4000000 in
theorem appendSeq_in (F : Fence) (n : Nat) (h7 : F.fn 107) (hf : F.fn 67) (hro : F.round = none) (hn : 3 ≤ n) (Bm b : Nat) (E : List Fe) (w0 : World) (Lf : List (Value × Value)) (w : World)
    (hm : w.cell? ⟨Bm, 0, none⟩ = some (.map (some b))) (hL : MapV isStr b Lf w) (hT : Timed b w) (hE : ∀ p ∈ Lf, ∃ x : FdIn E w0, p = (.string (aText x.1.t), x.1.val)) (hN : Lf.length ≤ maxLen) (hN2 : Lf.length * 40 ≤ 140737488355328) :
    CallsIn F n Tryz.prog 107 #[.slice none 0 0, .func (.func 67) #[] #[.pointer (some ⟨Bm, 0, none⟩)]] w fun e W' =>
      ∃ (xs : List (FdIn E w0)) (v : Value), e = .returned v ∧ AllCame Lf xs ∧ W'.ownsRow w.heap.size 33 2 v xs.length (flatF xs) ∧ Below w.heap.size w W' := by
  have h1 : 1 ≤ n := by omega
  obtain ⟨i0, hi, hz0, hz1, hz2⟩ := info_parts infoAtomF
  refine callsIn_of_wp_marks Tryz.func107 rfl h7 ?_ hro
  simp only [Tryz.ntmps107, List.size_toArray, List.length_cons, List.length_nil, Nat.reduceAdd, Nat.reduceSub, Array.replicate_succ, Array.replicate_zero, List.push_toArray, List.append_toArray, List.nil_append, List.cons_append]
  gi_wp2
  have bO := Boxed.new w 24 (.slice none 0 0)
  have hB0 : Below w.heap.size w (w.alloc (.cells #[.slice none 0 0] 24)) := (Below.refl _ w).alloc (Nat.le_refl _) _
  refine wpIn_rangeFunc_ownH hro h1 (gf := 67) (lb := #[.pointer (some ⟨Bm, 0, none⟩)]) rfl hf (enters_of Tryz.func67 (by kernel_rfl) rfl)
    (values_stops F (n - 1) hf hro (by omega) Bm b E w0 Lf (w.alloc (.cells #[.slice none 0 0] 24)) ((hB0.cell (p := ⟨Bm, 0, none⟩) (lt_of_cell hm)).trans hm) (hL.below hB0 hL.lt) (hT.same (hB0.block b hL.lt)) hE hN) walksK_t walksK_b (Below.refl _ _) (fun _ => rfl)
    (fun pre W => (∃ v, Boxed W w.heap.size 24 v ∧ W.ownsRow w.heap.size 33 2 v pre.length (flatF pre) ∧ True) ∧ Below w.heap.size w W)
    (fun _ _ _ => False)
    (OwnFrom.and (Own.from (holdsRow_own w.heap.size w.heap.size 24 33 2 (fun pre : List (FdIn E w0) => pre.length) (fun pre => flatF pre) (fun pre v => True)) _) (ownFrom_below (Nat.le_refl _) (by simp)))
    (fun _ _ _ _ _ hs _ _ => hs)
    ⟨⟨_, bO, World.ownsRow_nil _ _ _ _, trivial⟩, hB0⟩
    (fun x a' W => ∃ Bx, w.heap.size < Bx ∧ LvAt Bx #[.string x.1.t.name, x.1.c1] W ∧ a' = { tmps := #[.slice none 0 0, .func (.func 67) #[] #[.pointer (some ⟨Bm, 0, none⟩)], .pointer (some ⟨w.heap.size, 0, none⟩), undef, .slice none 0 0, .pointer (some ⟨Bx, 0, none⟩), .func (.func 67) #[] #[.pointer (some ⟨Bm, 0, none⟩)], x.1.val, undef, undef, undef, undef, undef], defers := [] })
    (fun x a' s W W' row hs hg hr => by
      obtain ⟨Bx, g1, g2, g3⟩ := hs
      refine ⟨Bx, g1, (hg.block Bx (lt_of_block g2) fun e => ?_).trans g2, g3⟩
      obtain ⟨_, o, ho, hc⟩ := hr Bx e.symm
      rw [show W.heap[Bx]? = _ from g2] at ho
      cases ho
      cases hc) ?assign ?body ?done ?stop
  case assign =>
    rintro l pre ⟨⟨t, c1, ba⟩, hX1, hX2, hX3⟩ W K hI hK
    obtain ⟨Ae, ce, _, hc1⟩ := atom_cells2 hX3
    have hc1' : c1 = .slice Ae t.args.length ce := hc1
    subst hc1'
    have hlt := hI.2.size
    have hlt2 := hI.1
    obtain ⟨v, hv, hrow, _⟩ := hI.1
    have HK := Lib.hid hK
    have HI := Lib.hid hI
    have HL2 := Lib.hid hv.lt
    clear hK hI hlt hlt2 hv hrow
    dsimp only [Fe.val]
    gi_wp2
    refine HK.out _ _ ((KeepsOthers.alloc _ _).from _) (KeepsWalks.alloc _ _) ?_ ⟨W.heap.size, HL2.out, World.alloc_heap_new W _, rfl⟩
    obtain ⟨⟨v, hv, hrow, _⟩, hB⟩ := HI.out
    exact ⟨⟨v, hv.alloc _, hrow.alloc _, trivial⟩, hB.alloc hB.size _⟩
  case body =>
    rintro l pre ⟨⟨t, c1, ba⟩, hX1, hX2, hX3⟩ a' W hl _ ⟨⟨v, hv, hrow, _⟩, hB⟩ ⟨Bx, hBx, hlv, rfl⟩ hlt
    obtain ⟨Ae, ce, _, hc1⟩ := atom_cells2 hX3
    have hc1' : c1 = .slice Ae t.args.length ce := hc1
    subst hc1'
    have hc := hv.cell
    have hx0 := cell_of_blk hlv (o := 0)
    have hx1 := cell_of_blk hlv (o := 1)
    dsimp only [Fe.val] at hx0 hx1 ⊢
    have HP := Lib.hid (And.intro hX1 (And.intro hX2 hX3))
    have HB := Lib.hid hB
    have HE := Lib.hid (flatF_snoc (E := E) (w0 := w0) pre ⟨⟨t, .slice Ae t.args.length ce, ba⟩, hX1, hX2, hX3⟩)
    clear hlv
    gi_wp2_with (gi_at_builtin; refine wpListIn_append_own _ rfl _ _ 24 rfl w.heap.size 33 i0 (.agg #[.string ⟨#[]⟩, .slice none 0 0]) 2 40 Tryz.underlying24 hi hz0 hz1 hz2 rfl (by decide) _ _ _ rfl (hrow.alloc _) ⟨W.heap.size, 0, none⟩ 1 1 [.string t.name, .slice Ae t.args.length ce] rfl rfl (cell_two_new _ _ _ _) (by simp [Value.oneCell']) (by omega) (by omega) (by have := HB.out.size; simp; omega) ?_; intro v' w1 hown' hgrow _; obtain ⟨g', cap', rfl⟩ := ownsRow_succ hown'; obtain ⟨hv1, hv2, hr2, hk2, hb2⟩ := hv.appended (by decide) hrow HB.out.size (Nat.le_refl _) hown' hgrow; have hc1 := hv1.cell; have hf1 := hv1.frozen)
    exact ⟨hk2.from _, ⟨hk2.size, fun k o h hw => hk2.same k o h (Obj.not_cells_of_walk hw)⟩, ⟨_, hv2, by rw [HE.out]; simpa using hr2⟩, HB.out.trans hb2⟩
  case done =>
    rintro D xs W hD hS ⟨⟨v, hv, hrow, _⟩, hB⟩ hK
    have hc := hv.cell
    gi_wp2
    refine ⟨by simp, .inl ⟨_, _, rfl, run_takeDeferred hK, ?_⟩⟩
    exact ⟨_, results_tmp rfl _ _ _, xs, v, rfl, hS, ownsRow_putObj hrow _ hK rfl, hB.trans (belowK_b (w := w) (Nat.le_refl _) W D _ _ (by simp at hD; omega) hK rfl rfl)⟩
  case stop =>
    rintro D c pre W _ _ h _
    exact h.elim

end Go.Proofs.YtjjfafgaphloaaaGreatDoor
