/- The walks of (*impl.walk).enter and (*impl.walk).next. -/
import Derived.WalkKit
import Derived.Lib.Hide
import Derived.WalkSpells
import Derived.WalkLawsBesides
import Derived.BigQuiet
import Derived.RegionTactic
import Derived.Deep.RegionLaw
import Derived.Deep.AppendLies
import Derived.Maps.OwnSet
import Derived.Test.YtoekllcfmnnibaaDoorProg
import Derived.Test.YtoekllcfmnnibaaDoorPfW
namespace Go.Proofs.YtoekllcfmnnibaaDoor
open Go.RowKit Go.ChangeMaps D
set_option linter.unusedVariables false
attribute [local go_sem ↓] Go.wp_at_zero Go.wp_at_succ

theorem infoStep : (Tryd.prog.info? 82).map (fun i => (i.zero, i.size, i.bytes)) = some (some (.agg #[.pointer none, .int .i64 0]), 2, 16) := by kernel_rfl
theorem infoPrf : (Tryd.prog.info? 35).map (fun i => i.size) = some 4 := by kernel_rfl
theorem D.zeroInt (w : World) : (zeroValue 3).run Tryd.prog w = .ok (.int .i64 0) w := by kernel_rfl
abbrev D.WP (BS : List Nat) (w : World) : Prop := ∀ b ∈ BS, ∃ cs t, w.heap[b]? = some (.cells cs t (0, 0))
abbrev D.SP (BS : List Nat) (v : Value) : Prop := ∃ a : Addr, v = .pointer (some a) ∧ a.block ∈ BS
theorem D.keyP (BS : List Nat) : KeyV Tryd.prog 46 (WP BS) (SP BS) := by
  have h := infoPrf
  cases hi : Tryd.prog.info? 35 with
  | none => simp [hi] at h
  | some i =>
    simp only [hi, Option.map_some, Option.some.injEq] at h
    exact keyV_ptr Tryd.underlying46 hi (by rw [h]; decide) BS
/-- The way lies in the block wb, its row and its map in blocks of the call's own. -/
structure D.Wk (BS : List Nat) (base wb : Nat) (st : List Fr) (w : World) : Prop where
  ex : ∃ v mb, w.heap[wb]? = some (.cells #[v, .map (some mb)] 74 (0, 0)) ∧ w.ownsRow base 82 2 v st.length (cellsW st) ∧ MapV (SP BS) mb (entsW st) w ∧ base ≤ mb
  ge : base ≤ wb
  way : Way BS w st
  low : ∀ b ∈ BS, b < base
  wri : WP BS w
theorem D.Wk.len {BS : List Nat} {base wb : Nat} {st : List Fr} {w : World} (h : Wk BS base wb st w) : wb < w.heap.size := by
  obtain ⟨v, mb, h1, _⟩ := h.ex
  exact lt_of_block h1

set_option maxRecDepth 100000 in
set_option maxHeartbeats 2000000 in
theorem enter_any (BS : List Nat) (base wb : Nat) (st : List Fr) (a : Addr) (p : Pf) (w : World) (h : Wk BS base wb st w) (ha : AtP BS w a p) (hd : ∀ f ∈ st, sizePf p < sizePf f.pf) (hl : st.length ≤ 16777216) :
    Calls Tryd.prog 32 #[.pointer (some ⟨wb, 0, none⟩), .pointer (some a)] w fun e w' => e = .returned (.tuple #[]) ∧ Wk BS base wb (st ++ [⟨a, p, 0⟩]) w' ∧ Below base w w' := by
  obtain ⟨⟨v, mb, h1, h2, h3, h4⟩, h5, h6, h7, h8⟩ := h
  have c0 : w.cell? ⟨wb, 0, none⟩ = some v := by simp [World.cell?, h1]
  have c1 : w.cell? ⟨wb, 1, none⟩ = some (.map (some mb)) := by simp [World.cell?, h1]
  obtain ⟨i0, hi, hz0, hz1, hz2⟩ := info_parts infoStep
  have hwl := lt_of_block h1
  have hne : v.ownBlock ≠ some wb := own_ne_blk h2 h1 (by decide)
  obtain ⟨A, cap, rfl⟩ := own_shape h2
  have hA : Below w.heap.size w (w.alloc (.cells #[.pointer (some a), .int .i64 0] 82)) := (Below.refl _ _).alloc (Nat.le_refl _) _
  have H2 := Lib.hid (own_below h2 hA)
  have HL : Hid (Lies (w.alloc (.cells #[.pointer (some a), .int .i64 0] 82)) (some ⟨w.heap.size, 0, none⟩) [.pointer (some a), .int .i64 0]) := Lib.hid (by have := lies_block (heap_alloc_new w (.cells #[.pointer (some a), .int .i64 0] 82)); simpa using this)
  have hbs := h5
  go_enter Tryd.func32, Tryd.ntmps32
  go_wp2_with (at_builtin; refine wpList_app rfl _ _ _ rfl base 82 i0 (.agg #[.pointer none, .int .i64 0]) 2 16 Tryd.underlying72 hi hz0 hz1 hz2 rfl (by omega) _ _ _ rfl H2.out (some ⟨w.heap.size, 0, none⟩) 1 1 [.pointer (some a), .int .i64 0] rfl rfl HL.out (by intro u hu; simp at hu; rcases hu with rfl | rfl <;> rfl) (by unfold maxLen; omega) (by omega) (by have := hA.size; omega) ?_)
  intro A2 cap2 w2 hown2 hg2 _
  have hb2 : w2.heap[wb]? = some (.cells #[.slice A st.length cap, .map (some mb)] 74 (0, 0)) := by
    rw [hg2.block wb (by have := hA.size; omega) (fun e => hne e.symm), hA.block wb hwl]
    exact h1
  have hm2 : MapV (SP BS) mb (entsW st) w2 := (h3.same (hA.block mb h3.lt)).same (hg2.block mb (Nat.lt_of_lt_of_le h3.lt hA.size) fun e => own_ne_map h2 h3 e.symm)
  have d0 : w2.cell? ⟨wb, 0, none⟩ = some (.slice A st.length cap) := by simp [World.cell?, hb2]
  have d1 : w2.cell? ⟨wb, 1, none⟩ = some (.map (some mb)) := by simp [World.cell?, hb2]
  have f0 : w2.frozen? ⟨wb, 0, none⟩ = false := by simp [World.frozen?, hb2]
  have hbase : base ≤ w.heap.size := Nat.le_trans hbs (Nat.le_of_lt hwl)
  have hB2 : Below base w w2 := own_grown (hA.mono hbase) H2.out (Nat.le_refl _) (Nat.le_trans hbase hA.size) hg2
  have hB3 : Below base w (w2.setCell ⟨wb, 0, none⟩ (.slice A2 (st.length + 1) cap2)) := hB2.setCell hbs _
  have HM3 : Hid (MapV (SP BS) mb (entsW st) (w2.setCell ⟨wb, 0, none⟩ (.slice A2 (st.length + 1) cap2))) := Lib.hid (hm2.setCell (map_ne_blk hm2 hb2) _)
  have HW3 : Hid (WP BS (w2.setCell ⟨wb, 0, none⟩ (.slice A2 (st.length + 1) cap2))) := Lib.hid fun b hb => by rw [hB3.block b (h7 b hb)]; exact h8 b hb
  have HMI := Lib.hid (h6.miss ha hd)
  have HS : Hid (SP BS (.pointer (some a))) := Lib.hid ⟨a, rfl, ha.block⟩
  go_wp2_with (first
    | (at_lookup; refine wpList_mapv_miss (keyP BS) HW3.out false rfl _ _ _ _ rfl Tryd.underlying71 mb _ rfl HM3.out (.pointer (some a)) (.int .i64 0) (zeroInt _) rfl HS.out HMI.out ?_)
    | (at_mapUpdate; refine wpList_mapv_new (keyP BS) HW3.out rfl _ _ _ _ _ rfl Tryd.underlying71 mb _ rfl HM3.out (.pointer (some a)) (.int .i64 1) rfl rfl HS.out HMI.out ?_; intro w4 hm4 hg4)
    | go_in)
  go_end0
  have hb3 : (w2.setCell ⟨wb, 0, none⟩ (.slice A2 (st.length + 1) cap2)).heap[wb]? = some (.cells #[.slice A2 (st.length + 1) cap2, .map (some mb)] 74 (0, 0)) := heap_setCell_self hb2 0 _
  have hB4 : Below base w w4 := hB3.grown hg4 (by have := hB3.size; omega) fun j hj => by cases hj; exact h4
  have hk : ∀ b ∈ BS, w4.heap[b]? = w.heap[b]? := fun b hb => hB4.block b (h7 b hb)
  refine ⟨rfl, ⟨⟨.slice A2 (st.length + 1) cap2, mb, ?_, ?_, ?_, h4⟩, hbs, ?_, h7, ?_⟩, hB4⟩
  · rw [hg4.block wb (lt_of_block hb3) (fun e => map_ne_blk hm2 hb2 (by injection e with e; exact e.symm))]
    exact hb3
  · rw [List.length_append, cellsW_snoc]
    have h9 : (Value.slice A2 (st.length + 1) cap2).ownBlock ≠ some wb := own_ne_blk hown2 hb2 (by decide)
    exact (ownsRow_setCell_other hown2 h9 _).kept hg4 (Or.inr (own_ne_map (ownsRow_setCell_other hown2 h9 _) HM3.out))
  · rw [entsW_snoc]; exact hm4
  · exact (h6.push ha hd).keep hk
  · exact fun b hb => by rw [hk b hb]; exact h8 b hb

/-- How long the way is, for the measure. -/
def D.wlen (wb : Nat) (w : World) : Nat := match w.cell? ⟨wb, 0, none⟩ with
  | some (.slice _ n _) => n
  | _ => 0
theorem D.Wk.wlen {BS : List Nat} {base wb : Nat} {st : List Fr} {w : World} (h : Wk BS base wb st w) : wlen wb w = st.length := by
  obtain ⟨v, mb, h1, h2, _⟩ := h.ex
  obtain ⟨A, cap, rfl⟩ := own_shape h2
  unfold D.wlen
  rw [show w.cell? ⟨wb, 0, none⟩ = some (.slice A st.length cap) from by simp [World.cell?, h1]]
/-- A way with steps, opened. -/
theorem D.Wk.top {BS : List Nat} {base wb : Nat} {st : List Fr} {f : Fr} {w : World} (h : Wk BS base wb (st ++ [f]) w) :
    ∃ g cap mb pb po Af cf, w.heap[wb]? = some (.cells #[.slice (some ⟨g, 0, none⟩) (st.length + 1) cap, .map (some mb)] 74 (0, 0)) ∧
      w.ownsRow base 82 2 (.slice (some ⟨g, 0, none⟩) (st.length + 1) cap) (st.length + 1) (cellsW st ++ [.pointer (some f.at_), .int .i64 f.next]) ∧ MapV (SP BS) mb (entsW st ++ [(.pointer (some f.at_), .int .i64 1)]) w ∧ base ≤ mb ∧
      w.cell? ⟨g, st.length * 2, none⟩ = some (.pointer (some ⟨pb, po, none⟩)) ∧ w.cell? ⟨g, st.length * 2 + 1, none⟩ = some (.int .i64 f.next) ∧ w.frozen? ⟨g, st.length * 2 + 1, none⟩ = false ∧ f.at_ = ⟨pb, po, none⟩ ∧
      w.cell? ⟨pb, po + 3, none⟩ = some (.slice Af f.pf.kids.length cf) ∧ f.pf.kids.length ≤ cf ∧ cf ≤ maxLen ∧ (∀ k (hk : k < f.pf.kids.length), ∃ b' o', Af = some ⟨b', o', none⟩ ∧ AtP BS w ⟨b', o' + k * 4, none⟩ f.pf.kids[k]) ∧ f.next ≤ f.pf.kids.length := by
  obtain ⟨⟨v, mb, h1, h2, h3, h4⟩, h5, h6, h7, h8⟩ := h
  rw [List.length_append] at h2
  rw [cellsW_snoc] at h2
  rw [entsW_snoc] at h3
  have hat := h6.at_ f (by simp)
  have hat0 := hat
  obtain ⟨n, pb, po, cs, bk, e, _⟩ := hat0
  rw [e] at hat
  obtain ⟨Af, cf, q1, q2, q3, q4⟩ := hat.kids
  rcases h2.2 with ⟨_, h0⟩ | ⟨g, cap, cur, rfl, hb, hh, hc1, hc2, hc3, hc4⟩
  · simp at h0
  · refine ⟨g, cap, mb, pb, po, Af, cf, h1, h2, h3, h4, ?_, ?_, by simp [World.frozen?, hh], e, q1, q2, q3, q4, h6.next f (by simp)⟩
    · rw [h2.cellAt _ (by simp), ← cellsW_len, ← e]
      simp
    · rw [h2.cellAt _ (by simp; omega), ← cellsW_len]
      simp

theorem D.Wk.heap {BS : List Nat} {base wb : Nat} {st : List Fr} {w w' : World} (h : Wk BS base wb st w) (e : w'.heap = w.heap) : Wk BS base wb st w' := by
  obtain ⟨⟨v, mb, h1, h2, h3, h4⟩, h5, h6, h7, h8⟩ := h
  refine ⟨⟨v, mb, by rw [e]; exact h1, ?_, h3.same (by rw [e]), h4⟩, h5, h6.keep fun b _ => by rw [e], h7, fun b hb => by rw [e]; exact h8 b hb⟩
  refine ⟨h2.1, h2.2.imp id ?_⟩
  rintro ⟨g, cap, cur, hv, hg, hh, r⟩
  exact ⟨g, cap, cur, hv, hg, by rw [e]; exact hh, r⟩
theorem D.Wk.atP {BS : List Nat} {base wb : Nat} {st : List Fr} {w w' : World} (h : Wk BS base wb st w) (hb : Below base w w') {a : Addr} {p : Pf} (ha : AtP BS w a p) : AtP BS w' a p := ha.keep fun b hb' => hb.block b (h.low b hb')
theorem D.Wk.step {BS : List Nat} {base wb g n cap : Nat} {st : List Fr} {f : Fr} {w : World} (h : Wk BS base wb (st ++ [f]) w) (hk : f.next < f.pf.kids.length) (hn : n = st.length) (c0 : w.cell? ⟨wb, 0, none⟩ = some (.slice (some ⟨g, 0, none⟩) (n + 1) cap)) :
    Wk BS base wb (st ++ [⟨f.at_, f.pf, f.next + 1⟩]) (w.setCell ⟨g, n * 2 + 1, none⟩ (.int .i64 ((f.next : Int) + 1))) ∧ base ≤ g := by
  subst hn
  obtain ⟨⟨v, mb, h1, h2, h3, h4⟩, h5, h6, h7, h8⟩ := h
  have hv : v = .slice (some ⟨g, 0, none⟩) (st.length + 1) cap := by
    have : w.cell? ⟨wb, 0, none⟩ = some v := by simp [World.cell?, h1]
    rw [this] at c0
    exact Option.some.inj c0
  subst hv
  have hwb : (Value.slice (some ⟨g, 0, none⟩) (st.length + 1) cap).ownBlock ≠ some wb := own_ne_blk h2 h1 (by decide)
  have hmb := own_ne_map h2 h3
  have hg : base ≤ g := by
    rcases h2.2 with ⟨h, _⟩ | ⟨g', _, _, hv, hb, _⟩
    · cases h
    · simp only [Value.slice.injEq, Option.some.injEq, Addr.mk.injEq, and_true] at hv
      rw [hv.1]; exact hb
  have hgw : wb ≠ g := fun e => hwb (by simp [Value.ownBlock, e])
  have hgm : mb ≠ g := fun e => hmb (by simp [Value.ownBlock, e])
  have hkeep : ∀ b ∈ BS, (w.setCell ⟨g, st.length * 2 + 1, none⟩ (.int .i64 ((f.next : Int) + 1))).heap[b]? = w.heap[b]? := fun b hb => Below.heap_setCell _ _ _ _ (by have := h7 b hb; simp; omega)
  refine ⟨⟨⟨_, mb, (Below.heap_setCell _ _ _ _ hgw).trans h1, ?_, ?_, h4⟩, h5, (h6.step hk).keep hkeep, h7, fun b hb => by rw [hkeep b hb]; exact h8 b hb⟩, hg⟩
  · rw [List.length_append] at h2 ⊢
    rw [cellsW_snoc] at h2 ⊢
    have := (h2.stored (st.length * 2 + 1) (.int .i64 ((f.next : Int) + 1))).1
    rw [← cellsW_len, List.set_append_right _ _ (by omega)] at this
    simpa [cellsW_len] using this
  · rw [entsW_snoc] at h3 ⊢
    exact h3.setCell hgm _

/-- What next leaves. -/
def D.NextPost (BS : List Nat) (base wb : Nat) (st : List Fr) (w : World) (e : Ending) (w' : World) : Prop := Below base w w' ∧ ((e = .returned (.pointer none) ∧ restW st = 0) ∨
  ∃ st' a p, e = .returned (.pointer (some a)) ∧ Wk BS base wb st' w' ∧ AtP BS w' a p ∧ (∀ f ∈ st', sizePf p < sizePf f.pf) ∧ st'.length ≤ st.length ∧ restW st' + sizePf p = restW st)
theorem D.MapV.drewN {S : Value → Prop} {b : Nat} {L : List (Value × Value)} {w : World} (h : MapV S b L w) (m : Nat) : MapV S b L (w.drewN m) := MapV.same (w' := w.drewN m) h rfl
theorem D.Below.drewN {B : Nat} {a w : World} (h : Below B a w) (n : Nat) : Below B a (w.drewN n) := ⟨h.os, h.tape, h.output, h.size, h.block⟩
theorem D.next_found {BS : List Nat} {base wb g n cap kb ko : Nat} {st pre : List Fr} {f : Fr} {w wr : World} (h : Wk BS base wb (pre ++ [f]) wr) (hB : Below base w wr) (hr : restW (pre ++ [f]) = restW st) (hle : n + 1 ≤ st.length) (hk : f.next < f.pf.kids.length) (hn : n = pre.length)
    (c0 : wr.cell? ⟨wb, 0, none⟩ = some (.slice (some ⟨g, 0, none⟩) (n + 1) cap)) (ha : AtP BS wr ⟨kb, ko, none⟩ f.pf.kids[f.next]) (m1 m2 : Nat) :
    NextPost BS base wb st w (.returned (.pointer (some ⟨kb, ko, none⟩))) (((wr.drewN m1).setCell ⟨g, n * 2 + 1, none⟩ (.int .i64 ((f.next : Int) + 1))).drewN m2) := by
  obtain ⟨h1, hg⟩ := (h.heap (w' := wr.drewN m1) rfl).step hk hn c0
  have hB1 : Below base wr (((wr.drewN m1).setCell ⟨g, n * 2 + 1, none⟩ (.int .i64 ((f.next : Int) + 1))).drewN m2) := Below.drewN (Below.setCell (Below.drewN (Below.refl _ _) m1) hg _) m2
  refine ⟨hB.trans hB1, .inr ⟨_, _, _, rfl, h1.heap rfl, h.atP hB1 ha, h.way.kid hk, ?_, ?_⟩⟩
  · rw [List.length_append, List.length_singleton, ← hn]; exact hle
  · rw [← hr, restW_step hk]
theorem D.Wk.popped {BS : List Nat} {base wb g n cap mb : Nat} {pre : List Fr} {f : Fr} {w wr w6 : World} (h : Wk BS base wb (pre ++ [f]) wr) (hB : Below base w wr) (hn : n = pre.length)
    (c0 : wr.cell? ⟨wb, 0, none⟩ = some (.slice (some ⟨g, 0, none⟩) (n + 1) cap)) (c1 : wr.cell? ⟨wb, 1, none⟩ = some (.map (some mb))) (hg : wr.grownBy w6 (some mb)) (hm : MapV (SP BS) mb (entsW pre) w6) (m : Nat) :
    Wk BS base wb pre ((w6.drewN m).setCell ⟨wb, 0, none⟩ (.slice (some ⟨g, 0, none⟩) n cap)) ∧ Below base w ((w6.drewN m).setCell ⟨wb, 0, none⟩ (.slice (some ⟨g, 0, none⟩) n cap)) := by
  subst hn
  obtain ⟨⟨v, mb', h1, h2, h3, h4⟩, h5, h6, h7, h8⟩ := h
  have e0 : wr.cell? ⟨wb, 0, none⟩ = some v := by simp [World.cell?, h1]
  have e1 : wr.cell? ⟨wb, 1, none⟩ = some (.map (some mb')) := by simp [World.cell?, h1]
  rw [e0] at c0
  rw [e1] at c1
  obtain rfl := Option.some.inj c0
  have e2 := Option.some.inj c1
  simp only [Value.map.injEq, Option.some.injEq] at e2
  subst e2
  have hwb : (Value.slice (some ⟨g, 0, none⟩) (pre.length + 1) cap).ownBlock ≠ some wb := own_ne_blk h2 h1 (by decide)
  have hmb := own_ne_map h2 h3
  have hmw := map_ne_blk h3 h1
  have hsz : base ≤ wr.heap.size := Nat.le_trans h5 (Nat.le_of_lt (lt_of_block h1))
  have hB6 : Below base wr w6 := (Below.refl _ _).grown hg hsz fun j hj => by cases hj; exact h4
  have hB7 : Below base wr ((w6.drewN m).setCell ⟨wb, 0, none⟩ (.slice (some ⟨g, 0, none⟩) pre.length cap)) := Below.setCell (Below.drewN hB6 m) h5 _
  have hk : ∀ b ∈ BS, ((w6.drewN m).setCell ⟨wb, 0, none⟩ (.slice (some ⟨g, 0, none⟩) pre.length cap)).heap[b]? = wr.heap[b]? := fun b hb => hB7.block b (h7 b hb)
  have h16 : (w6.drewN m).heap[wb]? = some (.cells #[.slice (some ⟨g, 0, none⟩) (pre.length + 1) cap, .map (some mb')] 74 (0, 0)) := (hg.block wb (lt_of_block h1) fun e => hmw (by injection e with e; exact e.symm)).trans h1
  refine ⟨⟨⟨.slice (some ⟨g, 0, none⟩) pre.length cap, mb', heap_setCell_self h16 0 _, ?_, MapV.setCell (hm.drewN m) (a := ⟨wb, 0, none⟩) hmw _, h4⟩, h5, h6.pop.keep hk, h7, fun b hb => by rw [hk b hb]; exact h8 b hb⟩, hB.trans hB7⟩
  rw [List.length_append, cellsW_snoc] at h2
  have h26 : w6.ownsRow base 82 2 (.slice (some ⟨g, 0, none⟩) pre.length cap) pre.length (cellsW pre) := own_take (h2.kept hg (Or.inr hmb)) (cellsW_len pre)
  have h27 : (w6.drewN m).ownsRow base 82 2 (.slice (some ⟨g, 0, none⟩) pre.length cap) pre.length (cellsW pre) := h26
  exact ownsRow_setCell_other h27 (by simpa [Value.ownBlock] using hwb) _
set_option maxRecDepth 100000 in
set_option maxHeartbeats 4000000 in
theorem next_any (BS : List Nat) (base wb : Nat) (st : List Fr) (w : World) (h : Wk BS base wb st w) (hl : st.length ≤ 16777216) :
    Calls Tryd.prog 31 #[.pointer (some ⟨wb, 0, none⟩)] w (NextPost BS base wb st w) := by
  have H := Lib.hid h
  clear h
  go_enter Tryd.func31, Tryd.ntmps31
  go_wp2_with fail
  go_loopw [3] (fun _ wr => ∃ st1, Wk BS base wb st1 wr ∧ Below base w wr ∧ restW st1 = restW st ∧ st1.length ≤ st.length) (fun _ wr => wlen wb wr)
  case atStart => exact ⟨st, H.out, Below.refl _ _, rfl, Nat.le_refl _⟩
  case round =>
    clear H
    obtain ⟨st1, hw, hb, hr, hle⟩ := hrel
    have hwl := hw.wlen
    rcases List.eq_nil_or_concat st1 with rfl | ⟨pre, f, rfl⟩
    · obtain ⟨v, mb, h1, h2, h3, h4⟩ := hw.ex
      obtain ⟨A, cap, rfl⟩ := own_shape h2
      have c0 : wr.cell? ⟨wb, 0, none⟩ = some (.slice A 0 cap) := by simp [World.cell?, h1]
      clear h1 h2 h3 h4
      go_wp2
      go_ret
      exact ⟨hb, .inl ⟨rfl, hr.symm⟩⟩
    · rw [List.concat_eq_append] at hw hr hle hwl
      obtain ⟨g, cap, mb, pb, po, Af, cf, h1, h2, h3, h4, k0, k1, k2, hat, k3, hcf, hmx, hkid, hnx⟩ := hw.top
      rw [List.length_append, List.length_singleton] at hle hwl
      have c0 : wr.cell? ⟨wb, 0, none⟩ = some (.slice (some ⟨g, 0, none⟩) (pre.length + 1) cap) := by simp [World.cell?, h1]
      have c1 : wr.cell? ⟨wb, 1, none⟩ = some (.map (some mb)) := by simp [World.cell?, h1]
      have f0 : wr.frozen? ⟨wb, 0, none⟩ = false := by simp [World.frozen?, h1]
      obtain ⟨n, hn⟩ : ∃ n, n = pre.length := ⟨_, rfl⟩
      rw [← hn] at c0 k0 k1 k2 hle hwl
      have hn1 : n + 1 ≤ 16777216 := by omega
      have HN := Lib.hid hn
      have hpg : pb < g := by
        have a1 := hw.low pb (by have := (hw.way.at_ f (by simp)).block; rw [hat] at this; exact this)
        have a2 : base ≤ g := by
          rcases h2.2 with ⟨h, _⟩ | ⟨g', _, _, hv, hb, _⟩
          · cases h
          · simp only [Value.slice.injEq, Option.some.injEq, Addr.mk.injEq, and_true, true_and] at hv
            rw [hv.1]; exact hb
        omega
      have HW := Lib.hid hw
      have HB := Lib.hid hb
      have HR := Lib.hid hr
      have HLE := Lib.hid hle
      have HWL := Lib.hid hwl
      have HAT := Lib.hid hat
      clear hw hb hr hle hwl hat h1 hn
      by_cases hlt : f.next < f.pf.kids.length
      · obtain ⟨kb, ko, rfl, hka⟩ := hkid _ hlt
        have HKA := Lib.hid hka
        have hil : (f.next : Int) < (f.pf.kids.length : Int) := by omega
        have hk9 := nat_ge_max (Nat.le_trans hcf hmx)
        clear h2 h3 h4 hkid hka
        go_wp2
        go_quiet (fail)
        go_wp2
        go_quiet (fail)
        go_wp2
        go_quiet (fail)
        go_wp2
        go_ret
        exact next_found HW.out HB.out HR.out HLE.out hlt HN.out c0 HKA.out _ _
      · have hil : ¬ ((f.next : Int) < (f.pf.kids.length : Int)) := by omega
        have hk9 := nat_ge_max (Nat.le_trans hcf hmx)
        have hml : ∀ m, (Instr.lookup 71 (.map (some mb)) (.pointer (some ⟨pb, po, none⟩)) false).run Tryd.prog (wr.drewN m) = .ok (.int .i64 1) (wr.drewN m) := fun m =>
          run_mapv_hit (keyP BS) (w := wr.drewN m) HW.out.wri false Tryd.underlying71 (L := entsW pre ++ [(.pointer (some f.at_), .int .i64 1)]) (h3.drewN m) (by rw [HAT.out]; simp)
        have hmu : ∀ m, ∃ w', (Instr.mapUpdate 71 (.map (some mb)) (.pointer (some ⟨pb, po, none⟩)) (.int .i64 0)).run Tryd.prog (wr.drewN m) = .ok () w' ∧ MapV (SP BS) mb (entsW pre ++ (.pointer (some ⟨pb, po, none⟩), .int .i64 0) :: []) w' ∧ (wr.drewN m).grownBy w' (some mb) := fun m =>
          run_mapv_put (keyP BS) (w := wr.drewN m) HW.out.wri Tryd.underlying71 (.int .i64 0) (by rw [← HAT.out]; exact h3.drewN m)
        obtain ⟨W5, hW5⟩ : ∃ W5 : Nat → World, ∀ m, (Instr.mapUpdate 71 (.map (some mb)) (.pointer (some ⟨pb, po, none⟩)) (.int .i64 0)).run Tryd.prog (wr.drewN m) = .ok () (W5 m) ∧ MapV (SP BS) mb (entsW pre ++ (.pointer (some ⟨pb, po, none⟩), .int .i64 0) :: []) (W5 m) ∧ (wr.drewN m).grownBy (W5 m) (some mb) := ⟨fun m => Classical.choose (hmu m), fun m => Classical.choose_spec (hmu m)⟩
        have hmu := fun m => (hW5 m).1
        have hw0 : IntKind.i64.wrap 0 = 0 := by decide
        have hmw : mb ≠ wb := by
          obtain ⟨v, mb', h1, _⟩ := HW.out.ex
          exact map_ne_blk h3 h1
        have hmg : mb ≠ g := fun e => own_ne_map h2 h3 (by simp [Value.ownBlock, e])
        have hG5 : ∀ m, wr.grownBy (W5 m) (some mb) := fun m => by
          have := (hW5 m).2.2
          exact ⟨this.os, this.tape, this.output, this.size, this.block⟩
        have hwl5 := HW.out.len
        have hgl5 : g < wr.heap.size := lt_of_cell k0
        have blk : ∀ m b, b < wr.heap.size → mb ≠ b → (W5 m).heap[b]? = wr.heap[b]? := fun m b hb hne => (hG5 m).block b hb fun e => hne (by injection e with e; exact e.symm)
        have d0 : ∀ m, (W5 m).cell? ⟨wb, 0, none⟩ = some (.slice (some ⟨g, 0, none⟩) (n + 1) cap) := fun m => by rw [World.cell?_of_block (w := wr) (blk m wb hwl5 hmw)]; exact c0
        have d1 : ∀ m, (W5 m).cell? ⟨wb, 1, none⟩ = some (.map (some mb)) := fun m => by rw [World.cell?_of_block (w := wr) (blk m wb hwl5 hmw)]; exact c1
        have d2 : ∀ m, (W5 m).cell? ⟨g, n * 2, none⟩ = some (.pointer (some ⟨pb, po, none⟩)) := fun m => by rw [World.cell?_of_block (w := wr) (blk m g hgl5 hmg)]; exact k0
        have hWP : ∀ m, WP BS (W5 m) := fun m b hb => by
          obtain ⟨cs, t, hc⟩ := HW.out.wri b hb
          refine ⟨cs, t, (blk m b (lt_of_block hc) ?_).trans hc⟩
          rintro rfl
          have h9 := h3
          exact map_ne_blk h9 hc rfl
        have hml7 : ∀ m k, (Instr.lookup 71 (.map (some mb)) (.pointer (some ⟨pb, po, none⟩)) false).run Tryd.prog ((W5 m).drewN k) = .ok (.int .i64 0) ((W5 m).drewN k) := fun m k =>
          run_mapv_hit (keyP BS) (w := (W5 m).drewN k) (hWP m) false Tryd.underlying71 ((hW5 m).2.1.drewN k) (by simp)
        obtain ⟨W6, hW6⟩ : ∃ W6 : Nat → Nat → World, ∀ m k, (Builtin.delete_ #[71, 46] 0 #[.map (some mb), .pointer (some ⟨pb, po, none⟩)]).run Tryd.prog ((W5 m).drewN k) = .ok (.tuple #[]) (W6 m k) ∧ MapV (SP BS) mb (entsW pre ++ []) (W6 m k) ∧ ((W5 m).drewN k).grownBy (W6 m k) (some mb) := by
          have hmd := fun m k => run_mapv_del (keyP BS) (w := (W5 m).drewN k) (hWP m) Tryd.underlying71 0 ((hW5 m).2.1.drewN k)
          exact ⟨fun m k => Classical.choose (hmd m k), fun m k => Classical.choose_spec (hmd m k)⟩
        have hmd := fun m k => (hW6 m k).1
        have hwn : IntKind.i64.wrap (n : Int) = (n : Int) := by
          unfold IntKind.wrap
          have h1 : (IntKind.i64.bits) = 64 := rfl
          have h2 : (IntKind.i64.signed) = true := rfl
          simp only [h1, h2, Bool.true_and, decide_eq_true_eq]
          have h3 : (n : Int) % 2 ^ 64 = n := Int.emod_eq_of_lt (by omega) (by omega)
          rw [h3, if_neg (by omega)]
        have hnc : (n : Int) ≤ (cap : Int) := by
          rcases h2.2 with ⟨h, _⟩ | ⟨g', _, _, hv, _, _, hc, _⟩
          · cases h
          · simp only [Value.slice.injEq, Option.some.injEq, Addr.mk.injEq, and_true, true_and] at hv
            have := HN.out
            omega
        have hG6 : ∀ m k, wr.grownBy (W6 m k) (some mb) := fun m k => by
          have := (hW6 m k).2.2
          exact (hG5 m).trans ⟨this.os, this.tape, this.output, this.size, this.block⟩
        have blk6 : ∀ m k b, b < wr.heap.size → mb ≠ b → (W6 m k).heap[b]? = wr.heap[b]? := fun m k b hb hne => (hG6 m k).block b hb fun e => hne (by injection e with e; exact e.symm)
        have e0 : ∀ m k, (W6 m k).cell? ⟨wb, 0, none⟩ = some (.slice (some ⟨g, 0, none⟩) (n + 1) cap) := fun m k => by rw [World.cell?_of_block (w := wr) (blk6 m k wb hwl5 hmw)]; exact c0
        have e1 : ∀ m k, (W6 m k).frozen? ⟨wb, 0, none⟩ = false := fun m k => by rw [World.frozen?_of_block (w := wr) (blk6 m k wb hwl5 hmw)]; exact f0
        have HZ : Hid (∀ m k j, Wk BS base wb pre (((W6 m k).drewN j).setCell ⟨wb, 0, none⟩ (.slice (some ⟨g, 0, none⟩) n cap)) ∧ Below base w (((W6 m k).drewN j).setCell ⟨wb, 0, none⟩ (.slice (some ⟨g, 0, none⟩) n cap))) := Lib.hid fun m k j =>
          HW.out.popped HB.out HN.out c0 c1 (hG6 m k) (by have := (hW6 m k).2.1; rwa [List.append_nil] at this) j
        clear h2 h3 h4 hkid hW5 hmw hmg hG5 hwl5 hgl5 blk hWP hG6 hW6 blk6
        go_wp2
        go_quiet (fail)
        go_wp2
        go_quiet (fail)
        go_wp2
        go_region_law (fail)
        all_goals
          clear hml hmu c0 c1 k0 k1 k2 k3 f0
          go_wp2
          go_quiet (fail)
          go_wp2
          go_region_law (fail)
        all_goals
          clear hml7 hmd d0 d1 d2
          go_wp2
          go_region_law (fail)
        all_goals
          go_wp2
          go_roundw
          case rel => exact ⟨pre, (HZ.out _ _ _).1, (HZ.out _ _ _).2, by rw [← restW_last (f := f) (by omega)]; exact HR.out, by have := HLE.out; have := HN.out; omega⟩
          case measure => exact Nat.lt_of_le_of_lt (Nat.le_of_eq (HZ.out _ _ 1).1.wlen) (by rw [HWL.out, HN.out]; omega)

end Go.Proofs.YtoekllcfmnnibaaDoor
