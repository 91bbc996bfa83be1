/- Of the proof of FnExactProofNeeds: WlkN. -/
import Derived.Test.YtlmngncogomgeaaM13
namespace Go.Proofs.Ytlmngncogomgeaa
open Go.RowKit Go.ChangeMaps D
set_option linter.unusedVariables false
attribute [local go_sem ↓] Go.wp_at_zero Go.wp_at_succ
/-- The way with its row's value and its map's block told. -/
structure D.WkX (BS : List Nat) (base wb mb : Nat) (v : Value) (st : List Fr) (w : World) : Prop where
  blk : w.heap[wb]? = some (.cells #[v, .map (some mb)] 52 (0, 0))
  own : w.ownsRow base 73 2 v st.length (cellsW st)
  map : MapV (SP BS) mb (entsW st) w
  geb : base ≤ mb
  ge : base ≤ wb
  way : Way BS w st
  low : ∀ b ∈ BS, b < base
  wri : WP BS w

theorem D.WkX.wk {BS : List Nat} {base wb mb : Nat} {v : Value} {st : List Fr} {w : World} (h : WkX BS base wb mb v st w) : Wk BS base wb st w := ⟨⟨v, mb, h.blk, h.own, h.map, h.geb⟩, h.ge, h.way, h.low, h.wri⟩

theorem D.Wk.x {BS : List Nat} {base wb mb : Nat} {v : Value} {st : List Fr} {w : World} (h : Wk BS base wb st w) (c0 : w.cell? ⟨wb, 0, none⟩ = some v) (c1 : w.cell? ⟨wb, 1, none⟩ = some (.map (some mb))) : WkX BS base wb mb v st w := by
  obtain ⟨⟨v', mb', h1, h2, h3, h4⟩, h5, h6, h7, h8⟩ := h
  have e0 : w.cell? ⟨wb, 0, none⟩ = some v' := by simp [World.cell?, h1]
  have e1 : w.cell? ⟨wb, 1, none⟩ = some (.map (some mb')) := by simp [World.cell?, h1]
  rw [e0] at c0
  rw [e1] at c1
  obtain rfl := Option.some.inj c0
  have e2 := Option.some.inj c1
  simp only [Value.map.injEq, Option.some.injEq] at e2
  subst e2
  exact ⟨h1, h2, h3, h4, h5, h6, h7, h8⟩

/-- No block but the way's own has changed. -/
def D.FrS (wb mb : Nat) (go : Option Nat) (w w' : World) : Prop := ∀ b, b < w.heap.size → b ≠ wb → b ≠ mb → go ≠ some b → w'.heap[b]? = w.heap[b]?

theorem D.FrS.refl (wb mb : Nat) (go : Option Nat) (w : World) : FrS wb mb go w w := fun _ _ _ _ _ => rfl

set_option maxRecDepth 100000 in
set_option maxHeartbeats 2000000 in
theorem enterX_any (BS : List Nat) (base wb mb : Nat) (v : Value) (st : List Fr) (a : Addr) (p : Pf) (w : World) (h : WkX BS base wb mb v st w) (ha : AtP BS w a p) (hd : ∀ f ∈ st, sizePf p < sizePf f.pf) (hl : st.length ≤ 16777216) :
    Calls Try.prog 20 #[.pointer (some ⟨wb, 0, none⟩), .pointer (some a)] w fun e w' => e = .returned (.tuple #[]) ∧ ∃ v', WkX BS base wb mb v' (st ++ [⟨a, p, 0⟩]) w' ∧ Below base w w' ∧ FrS wb mb v.ownBlock w w' ∧ (v'.ownBlock = v.ownBlock ∨ ∃ b, v'.ownBlock = some b ∧ w.heap.size ≤ b) := by
  obtain ⟨h1, h2, h3, h4, h5, h6, h7, h8⟩ := h
  have c0 : w.cell? ⟨wb, 0, none⟩ = some v := by simp [World.cell?, h1]
  have c1 : w.cell? ⟨wb, 1, none⟩ = some (.map (some mb)) := by simp [World.cell?, h1]
  obtain ⟨i0, hi, hz0, hz1, hz2⟩ := info_parts infoStep
  have hwl := lt_of_block h1
  have hne : v.ownBlock ≠ some wb := own_ne_blk h2 h1 (by decide)
  obtain ⟨A, cap, rfl⟩ := own_shape h2
  have hA : Below w.heap.size w (w.alloc (.cells #[.pointer (some a), .int .i64 0] 73)) := (Below.refl _ _).alloc (Nat.le_refl _) _
  have H2 := Lib.hid (own_below h2 hA)
  have HL : Hid (Lies (w.alloc (.cells #[.pointer (some a), .int .i64 0] 73)) (some ⟨w.heap.size, 0, none⟩) [.pointer (some a), .int .i64 0]) := Lib.hid (by have := lies_block (heap_alloc_new w (.cells #[.pointer (some a), .int .i64 0] 73)); simpa using this)
  have hbs := h5
  go_enter Try.func20, Try.ntmps20
  go_wp2_with (at_builtin; refine wpList_app rfl _ _ _ rfl base 73 i0 (.agg #[.pointer none, .int .i64 0]) 2 16 Try.underlying50 hi hz0 hz1 hz2 rfl (by omega) _ _ _ rfl H2.out (some ⟨w.heap.size, 0, none⟩) 1 1 [.pointer (some a), .int .i64 0] rfl rfl HL.out (by intro u hu; simp at hu; rcases hu with rfl | rfl <;> rfl) (by unfold maxLen; omega) (by omega) (by have := hA.size; omega) ?_)
  intro A2 cap2 w2 hown2 hg2 hloc
  have HLOC := Lib.hid hloc
  clear hloc
  have hb2 : w2.heap[wb]? = some (.cells #[.slice A st.length cap, .map (some mb)] 52 (0, 0)) := by
    rw [hg2.block wb (by have := hA.size; omega) (fun e => hne e.symm), hA.block wb hwl]
    exact h1
  have hm2 : MapV (SP BS) mb (entsW st) w2 := (h3.same (hA.block mb h3.lt)).same (hg2.block mb (Nat.lt_of_lt_of_le h3.lt hA.size) fun e => own_ne_map h2 h3 e.symm)
  have d0 : w2.cell? ⟨wb, 0, none⟩ = some (.slice A st.length cap) := by simp [World.cell?, hb2]
  have d1 : w2.cell? ⟨wb, 1, none⟩ = some (.map (some mb)) := by simp [World.cell?, hb2]
  have f0 : w2.frozen? ⟨wb, 0, none⟩ = false := by simp [World.frozen?, hb2]
  have hbase : base ≤ w.heap.size := Nat.le_trans hbs (Nat.le_of_lt hwl)
  have hB2 : Below base w w2 := own_grown (hA.mono hbase) H2.out (Nat.le_refl _) (Nat.le_trans hbase hA.size) hg2
  have hB3 : Below base w (w2.setCell ⟨wb, 0, none⟩ (.slice A2 (st.length + 1) cap2)) := hB2.setCell hbs _
  have HM3 : Hid (MapV (SP BS) mb (entsW st) (w2.setCell ⟨wb, 0, none⟩ (.slice A2 (st.length + 1) cap2))) := Lib.hid (hm2.setCell (map_ne_blk hm2 hb2) _)
  have HW3 : Hid (WP BS (w2.setCell ⟨wb, 0, none⟩ (.slice A2 (st.length + 1) cap2))) := Lib.hid fun b hb => by rw [hB3.block b (h7 b hb)]; exact h8 b hb
  have HMI := Lib.hid (h6.miss ha hd)
  have HS : Hid (SP BS (.pointer (some a))) := Lib.hid ⟨a, rfl, ha.block⟩
  go_wp2_with (first
    | (at_lookup; refine wpList_mapv_miss (keyP BS) HW3.out false rfl _ _ _ _ rfl Try.underlying49 mb _ rfl HM3.out (.pointer (some a)) (.int .i64 0) (zeroInt _) rfl HS.out HMI.out ?_)
    | (at_mapUpdate; refine wpList_mapv_new (keyP BS) HW3.out rfl _ _ _ _ _ rfl Try.underlying49 mb _ rfl HM3.out (.pointer (some a)) (.int .i64 1) rfl rfl HS.out HMI.out ?_; intro w4 hm4 hg4)
    | go_in)
  go_end0
  have hb3 : (w2.setCell ⟨wb, 0, none⟩ (.slice A2 (st.length + 1) cap2)).heap[wb]? = some (.cells #[.slice A2 (st.length + 1) cap2, .map (some mb)] 52 (0, 0)) := heap_setCell_self hb2 0 _
  have hB4 : Below base w w4 := hB3.grown hg4 (by have := hB3.size; omega) fun j hj => by cases hj; exact h4
  have hk : ∀ b ∈ BS, w4.heap[b]? = w.heap[b]? := fun b hb => hB4.block b (h7 b hb)
  refine ⟨rfl, .slice A2 (st.length + 1) cap2, ⟨?_, ?_, ?_, h4, hbs, ?_, h7, ?_⟩, hB4, fun b hb x1 x2 x3 => ?_, ?_⟩
  · rw [hg4.block wb (lt_of_block hb3) (fun e => map_ne_blk hm2 hb2 (by injection e with e; exact e.symm))]
    exact hb3
  · rw [List.length_append, cellsW_snoc]
    have h9 : (Value.slice A2 (st.length + 1) cap2).ownBlock ≠ some wb := own_ne_blk hown2 hb2 (by decide)
    exact (ownsRow_setCell_other hown2 h9 _).kept hg4 (Or.inr (own_ne_map (ownsRow_setCell_other hown2 h9 _) HM3.out))
  · rw [entsW_snoc]; exact hm4
  · exact (h6.push ha hd).keep hk
  · exact fun b hb => by rw [hk b hb]; exact h8 b hb
  · rw [hg4.block b (Nat.lt_of_lt_of_le hb (Nat.le_trans hA.size (by have := hg2.size; simpa [World.setCell] using this))) (fun e => x2 (by injection e)), Below.heap_setCell _ _ _ _ x1, hg2.block b (Nat.lt_of_lt_of_le hb hA.size) (fun e => x3 e.symm), hA.block b hb]
  · rcases HLOC.out with h | h
    · exact .inl h
    · exact .inr ⟨_, h, Nat.le_succ _⟩

/-- What next leaves, and what it leaves alone. -/
def D.NextX (BS : List Nat) (base wb mb : Nat) (v : Value) (st : List Fr) (w : World) (e : Ending) (w' : World) : Prop := Below base w w' ∧ FrS wb mb v.ownBlock w w' ∧ ((e = .returned (.pointer none) ∧ ∀ f ∈ st, f.pf.kids.length ≤ f.next) ∨
  ∃ pre f suf a v', st = pre ++ f :: suf ∧ (∀ g ∈ suf, g.pf.kids.length ≤ g.next) ∧ ∃ hk : f.next < f.pf.kids.length, e = .returned (.pointer (some a)) ∧ WkX BS base wb mb v' (pre ++ [⟨f.at_, f.pf, f.next + 1⟩]) w' ∧ AtP BS w' a f.pf.kids[f.next] ∧ v'.ownBlock = v.ownBlock)

theorem D.nextX_found {BS : List Nat} {base wb mb g n cap kb ko : Nat} {v : Value} {st pre : List Fr} {f : Fr} {w wr : World} (h : WkX BS base wb mb (.slice (some ⟨g, 0, none⟩) (n + 1) cap) (pre ++ [f]) wr) (hB : Below base w wr) (hF : FrS wb mb v.ownBlock w wr) (hv : v.ownBlock = some g) (hr : ∃ suf, st = pre ++ f :: suf ∧ ∀ g ∈ suf, g.pf.kids.length ≤ g.next) (hk : f.next < f.pf.kids.length) (hn : n = pre.length)
    (ha : AtP BS wr ⟨kb, ko, none⟩ f.pf.kids[f.next]) (m1 m2 : Nat) :
    NextX BS base wb mb v st w (.returned (.pointer (some ⟨kb, ko, none⟩))) (((wr.drewN m1).setCell ⟨g, n * 2 + 1, none⟩ (.int .i64 ((f.next : Int) + 1))).drewN m2) := by
  have c0 : wr.cell? ⟨wb, 0, none⟩ = some (.slice (some ⟨g, 0, none⟩) (n + 1) cap) := by simp [World.cell?, h.blk]
  obtain ⟨h1, hg⟩ := (h.wk.heap (w' := wr.drewN m1) rfl).step hk hn c0
  have hB1 : Below base wr (((wr.drewN m1).setCell ⟨g, n * 2 + 1, none⟩ (.int .i64 ((f.next : Int) + 1))).drewN m2) := Below.drewN (Below.setCell (Below.drewN (Below.refl _ _) m1) hg _) m2
  have hgw : wb ≠ g := fun e => own_ne_blk h.own h.blk (by decide) (by simp [Value.ownBlock, e])
  have hbk : (((wr.drewN m1).setCell ⟨g, n * 2 + 1, none⟩ (.int .i64 ((f.next : Int) + 1))).drewN m2).heap[wb]? = some (.cells #[.slice (some ⟨g, 0, none⟩) (n + 1) cap, .map (some mb)] 52 (0, 0)) := (Below.heap_setCell (wr.drewN m1) ⟨g, n * 2 + 1, none⟩ (.int .i64 ((f.next : Int) + 1)) wb hgw).trans h.blk
  obtain ⟨suf, hst, hs⟩ := hr
  have h2 := h1.heap (w' := ((wr.drewN m1).setCell ⟨g, n * 2 + 1, none⟩ (.int .i64 ((f.next : Int) + 1))).drewN m2) rfl
  refine ⟨hB.trans hB1, fun b hb x1 x2 x3 => ?_, .inr ⟨pre, f, suf, _, .slice (some ⟨g, 0, none⟩) (n + 1) cap, hst, hs, hk, rfl, h2.x (cell_of_blk hbk) (cell_of_blk hbk), h.wk.atP hB1 ha, by rw [hv]; rfl⟩⟩
  exact (Below.heap_setCell (wr.drewN m1) ⟨g, n * 2 + 1, none⟩ (.int .i64 ((f.next : Int) + 1)) b (fun e => x3 (by rw [hv]; exact congrArg some e.symm))).trans (hF b hb x1 x2 x3)

theorem D.WkX.popped {BS : List Nat} {base wb mb g n cap : Nat} {v : Value} {pre : List Fr} {f : Fr} {w wr w6 : World} (h : WkX BS base wb mb (.slice (some ⟨g, 0, none⟩) (n + 1) cap) (pre ++ [f]) wr) (hB : Below base w wr) (hF : FrS wb mb v.ownBlock w wr) (hw : w.heap.size ≤ wr.heap.size) (hn : n = pre.length)
    (hg : wr.grownBy w6 (some mb)) (hm : MapV (SP BS) mb (entsW pre) w6) (m : Nat) :
    WkX BS base wb mb (.slice (some ⟨g, 0, none⟩) n cap) pre ((w6.drewN m).setCell ⟨wb, 0, none⟩ (.slice (some ⟨g, 0, none⟩) n cap)) ∧ Below base w ((w6.drewN m).setCell ⟨wb, 0, none⟩ (.slice (some ⟨g, 0, none⟩) n cap)) ∧ FrS wb mb v.ownBlock w ((w6.drewN m).setCell ⟨wb, 0, none⟩ (.slice (some ⟨g, 0, none⟩) n cap)) := by
  have c0 : wr.cell? ⟨wb, 0, none⟩ = some (.slice (some ⟨g, 0, none⟩) (n + 1) cap) := by simp [World.cell?, h.blk]
  have c1 : wr.cell? ⟨wb, 1, none⟩ = some (.map (some mb)) := by simp [World.cell?, h.blk]
  obtain ⟨h1, h2⟩ := h.wk.popped hB hn c0 c1 hg hm m
  have hmw := map_ne_blk h.map h.blk
  have h16 : (w6.drewN m).heap[wb]? = some (.cells #[.slice (some ⟨g, 0, none⟩) (n + 1) cap, .map (some mb)] 52 (0, 0)) := (hg.block wb (lt_of_block h.blk) fun e => hmw (by injection e with e; exact e.symm)).trans h.blk
  have h17 := heap_setCell_self h16 0 (.slice (some ⟨g, 0, none⟩) n cap)
  refine ⟨h1.x (by simp [World.cell?, h17]) (by simp [World.cell?, h17]), h2, fun b hb x1 x2 x3 => ?_⟩
  exact (Below.heap_setCell (w6.drewN m) ⟨wb, 0, none⟩ (.slice (some ⟨g, 0, none⟩) n cap) b x1).trans ((hg.block b (Nat.lt_of_lt_of_le hb hw) (fun e => x2 (by injection e))).trans (hF b hb x1 x2 x3))

set_option maxRecDepth 100000 in
set_option maxHeartbeats 4000000 in
theorem nextX_any (BS : List Nat) (base wb mb : Nat) (v : Value) (st : List Fr) (w : World) (h : WkX BS base wb mb v st w) (hl : st.length ≤ 16777216) :
    Calls Try.prog 19 #[.pointer (some ⟨wb, 0, none⟩)] w (NextX BS base wb mb v st w) := by
  have H := Lib.hid h
  clear h
  go_enter Try.func19, Try.ntmps19
  go_wp2_with fail
  go_loopw [3] (fun _ wr => ∃ st1 v1, WkX BS base wb mb v1 st1 wr ∧ Below base w wr ∧ Hid (FrS wb mb v.ownBlock w wr ∧ v1.ownBlock = v.ownBlock) ∧ Hid (∃ suf, st = st1 ++ suf ∧ ∀ g ∈ suf, g.pf.kids.length ≤ g.next) ∧ st1.length ≤ st.length) (fun _ wr => wlen wb wr)
  case atStart => exact ⟨st, v, H.out, Below.refl _ _, Lib.hid ⟨FrS.refl _ _ _ _, rfl⟩, Lib.hid ⟨[], by simp, fun g hg => by simp at hg⟩, Nat.le_refl _⟩
  case round =>
    clear H
    obtain ⟨st1, v1, hw, hb, HFR, hr, hle⟩ := hrel
    have hwl := hw.wk.wlen
    rcases List.eq_nil_or_concat st1 with rfl | ⟨pre, f, rfl⟩
    · have h1 := hw.blk
      obtain ⟨A, cap, rfl⟩ := own_shape hw.own
      have c0 : wr.cell? ⟨wb, 0, none⟩ = some (.slice A 0 cap) := by simp [World.cell?, h1]
      have HWW := Lib.hid hw
      clear h1 hw
      go_wp2
      go_ret
      obtain ⟨suf, hst, hs⟩ := hr.out
      exact ⟨hb, HFR.out.1, .inl ⟨rfl, by rw [hst]; simpa using hs⟩⟩
    · rw [List.concat_eq_append] at hw hr hle hwl
      obtain ⟨g, cap, mb', pb, po, Af, cf, h1, h2, h3, h4, k0, k1, k2, hat, k3, hcf, hmx, hkid, hnx⟩ := hw.wk.top
      have hbk := hw.blk
      rw [h1] at hbk
      have hbk2 := Option.some.inj hbk
      simp only [Obj.cells.injEq, Array.mk.injEq, List.cons.injEq, Value.map.injEq, Option.some.injEq, and_true] at hbk2
      obtain ⟨rfl, rfl⟩ := hbk2
      clear hbk
      rw [List.length_append, List.length_singleton] at hle hwl
      have c0 : wr.cell? ⟨wb, 0, none⟩ = some (.slice (some ⟨g, 0, none⟩) (pre.length + 1) cap) := by simp [World.cell?, h1]
      have c1 : wr.cell? ⟨wb, 1, none⟩ = some (.map (some mb')) := by simp [World.cell?, h1]
      have f0 : wr.frozen? ⟨wb, 0, none⟩ = false := by simp [World.frozen?, h1]
      obtain ⟨n, hn⟩ : ∃ n, n = pre.length := ⟨_, rfl⟩
      rw [← hn] at c0 k0 k1 k2 hle hwl
      have hn1 : n + 1 ≤ 16777216 := by omega
      have HN := Lib.hid hn
      have hpg : pb < g := by
        have a1 := hw.low pb (by have := (hw.way.at_ f (by simp)).block; rw [hat] at this; exact this)
        have a2 : base ≤ g := by
          rcases h2.2 with ⟨h, _⟩ | ⟨g', _, _, hv, hb, _⟩
          · cases h
          · simp only [Value.slice.injEq, Option.some.injEq, Addr.mk.injEq, and_true, true_and] at hv
            rw [hv.1]; exact hb
        omega
      have HW : Hid (WkX BS base wb mb' (.slice (some ⟨g, 0, none⟩) (n + 1) cap) (pre ++ [f]) wr) := Lib.hid (by rw [HN.out]; exact hw)
      have HVG : Hid (v.ownBlock = some g) := Lib.hid (by rw [← HFR.out.2]; rfl)
      have HWS : Hid (w.heap.size ≤ wr.heap.size) := Lib.hid hb.size
      have HB := Lib.hid hb
      have HR : Hid (∃ suf, st = pre ++ f :: suf ∧ ∀ g ∈ suf, g.pf.kids.length ≤ g.next) := Lib.hid (by obtain ⟨suf, hst, hs⟩ := hr.out; exact ⟨suf, by rw [hst]; simp, hs⟩)
      have HLE := Lib.hid hle
      have HWL := Lib.hid hwl
      have HAT := Lib.hid hat
      clear hw hb hr hle hwl hat h1 hn
      by_cases hlt : f.next < f.pf.kids.length
      · obtain ⟨kb, ko, rfl, hka⟩ := hkid _ hlt
        have HKA := Lib.hid hka
        have hil : (f.next : Int) < (f.pf.kids.length : Int) := by omega
        have hk9 := nat_ge_max (Nat.le_trans hcf hmx)
        clear h2 h3 h4 hkid hka
        go_wp2
        go_quiet (fail)
        go_wp2
        go_quiet (fail)
        go_wp2
        go_quiet (fail)
        go_wp2
        go_ret
        exact nextX_found HW.out HB.out HFR.out.1 HVG.out HR.out hlt HN.out HKA.out _ _
      · have hil : ¬ ((f.next : Int) < (f.pf.kids.length : Int)) := by omega
        have hk9 := nat_ge_max (Nat.le_trans hcf hmx)
        have hml : ∀ m, (Instr.lookup 49 (.map (some mb')) (.pointer (some ⟨pb, po, none⟩)) false).run Try.prog (wr.drewN m) = .ok (.int .i64 1) (wr.drewN m) := fun m =>
          run_mapv_hit (keyP BS) (w := wr.drewN m) HW.out.wri false Try.underlying49 (L := entsW pre ++ [(.pointer (some f.at_), .int .i64 1)]) (h3.drewN m) (by rw [HAT.out]; simp)
        have hmu : ∀ m, ∃ w', (Instr.mapUpdate 49 (.map (some mb')) (.pointer (some ⟨pb, po, none⟩)) (.int .i64 0)).run Try.prog (wr.drewN m) = .ok () w' ∧ MapV (SP BS) mb' (entsW pre ++ (.pointer (some ⟨pb, po, none⟩), .int .i64 0) :: []) w' ∧ (wr.drewN m).grownBy w' (some mb') := fun m =>
          run_mapv_put (keyP BS) (w := wr.drewN m) HW.out.wri Try.underlying49 (.int .i64 0) (by rw [← HAT.out]; exact h3.drewN m)
        obtain ⟨W5, hW5⟩ : ∃ W5 : Nat → World, ∀ m, (Instr.mapUpdate 49 (.map (some mb')) (.pointer (some ⟨pb, po, none⟩)) (.int .i64 0)).run Try.prog (wr.drewN m) = .ok () (W5 m) ∧ MapV (SP BS) mb' (entsW pre ++ (.pointer (some ⟨pb, po, none⟩), .int .i64 0) :: []) (W5 m) ∧ (wr.drewN m).grownBy (W5 m) (some mb') := ⟨fun m => Classical.choose (hmu m), fun m => Classical.choose_spec (hmu m)⟩
        have hmu := fun m => (hW5 m).1
        have hw0 : IntKind.i64.wrap 0 = 0 := by decide
        have hmw : mb' ≠ wb := by
          exact map_ne_blk h3 HW.out.blk
        have hmg : mb' ≠ g := fun e => own_ne_map h2 h3 (by simp [Value.ownBlock, e])
        have hG5 : ∀ m, wr.grownBy (W5 m) (some mb') := fun m => by
          have := (hW5 m).2.2
          exact ⟨this.os, this.tape, this.output, this.size, this.block⟩
        have hwl5 := HW.out.wk.len
        have hgl5 : g < wr.heap.size := lt_of_cell k0
        have blk : ∀ m b, b < wr.heap.size → mb' ≠ b → (W5 m).heap[b]? = wr.heap[b]? := fun m b hb hne => (hG5 m).block b hb fun e => hne (by injection e with e; exact e.symm)
        have d0 : ∀ m, (W5 m).cell? ⟨wb, 0, none⟩ = some (.slice (some ⟨g, 0, none⟩) (n + 1) cap) := fun m => by rw [World.cell?_of_block (w := wr) (blk m wb hwl5 hmw)]; exact c0
        have d1 : ∀ m, (W5 m).cell? ⟨wb, 1, none⟩ = some (.map (some mb')) := fun m => by rw [World.cell?_of_block (w := wr) (blk m wb hwl5 hmw)]; exact c1
        have d2 : ∀ m, (W5 m).cell? ⟨g, n * 2, none⟩ = some (.pointer (some ⟨pb, po, none⟩)) := fun m => by rw [World.cell?_of_block (w := wr) (blk m g hgl5 hmg)]; exact k0
        have hWP : ∀ m, WP BS (W5 m) := fun m b hb => by
          obtain ⟨cs, t, hc⟩ := HW.out.wri b hb
          refine ⟨cs, t, (blk m b (lt_of_block hc) ?_).trans hc⟩
          rintro rfl
          have h9 := h3
          exact map_ne_blk h9 hc rfl
        have hml7 : ∀ m k, (Instr.lookup 49 (.map (some mb')) (.pointer (some ⟨pb, po, none⟩)) false).run Try.prog ((W5 m).drewN k) = .ok (.int .i64 0) ((W5 m).drewN k) := fun m k =>
          run_mapv_hit (keyP BS) (w := (W5 m).drewN k) (hWP m) false Try.underlying49 ((hW5 m).2.1.drewN k) (by simp)
        obtain ⟨W6, hW6⟩ : ∃ W6 : Nat → Nat → World, ∀ m k, (Builtin.delete_ #[49, 53] 0 #[.map (some mb'), .pointer (some ⟨pb, po, none⟩)]).run Try.prog ((W5 m).drewN k) = .ok (.tuple #[]) (W6 m k) ∧ MapV (SP BS) mb' (entsW pre ++ []) (W6 m k) ∧ ((W5 m).drewN k).grownBy (W6 m k) (some mb') := by
          have hmd := fun m k => run_mapv_del (keyP BS) (w := (W5 m).drewN k) (hWP m) Try.underlying49 0 ((hW5 m).2.1.drewN k)
          exact ⟨fun m k => Classical.choose (hmd m k), fun m k => Classical.choose_spec (hmd m k)⟩
        have hmd := fun m k => (hW6 m k).1
        have hwn : IntKind.i64.wrap (n : Int) = (n : Int) := by
          unfold IntKind.wrap
          have h1 : (IntKind.i64.bits) = 64 := rfl
          have h2 : (IntKind.i64.signed) = true := rfl
          simp only [h1, h2, Bool.true_and, decide_eq_true_eq]
          have h3 : (n : Int) % 2 ^ 64 = n := Int.emod_eq_of_lt (by omega) (by omega)
          rw [h3, if_neg (by omega)]
        have hnc : (n : Int) ≤ (cap : Int) := by
          rcases h2.2 with ⟨h, _⟩ | ⟨g', _, _, hv, _, _, hc, _⟩
          · cases h
          · simp only [Value.slice.injEq, Option.some.injEq, Addr.mk.injEq, and_true, true_and] at hv
            have := HN.out
            omega
        have hG6 : ∀ m k, wr.grownBy (W6 m k) (some mb') := fun m k => by
          have := (hW6 m k).2.2
          exact (hG5 m).trans ⟨this.os, this.tape, this.output, this.size, this.block⟩
        have blk6 : ∀ m k b, b < wr.heap.size → mb' ≠ b → (W6 m k).heap[b]? = wr.heap[b]? := fun m k b hb hne => (hG6 m k).block b hb fun e => hne (by injection e with e; exact e.symm)
        have e0 : ∀ m k, (W6 m k).cell? ⟨wb, 0, none⟩ = some (.slice (some ⟨g, 0, none⟩) (n + 1) cap) := fun m k => by rw [World.cell?_of_block (w := wr) (blk6 m k wb hwl5 hmw)]; exact c0
        have e1 : ∀ m k, (W6 m k).frozen? ⟨wb, 0, none⟩ = false := fun m k => by rw [World.frozen?_of_block (w := wr) (blk6 m k wb hwl5 hmw)]; exact f0
        have HZ : Hid (∀ m k j, WkX BS base wb mb' (.slice (some ⟨g, 0, none⟩) n cap) pre (((W6 m k).drewN j).setCell ⟨wb, 0, none⟩ (.slice (some ⟨g, 0, none⟩) n cap)) ∧ Below base w (((W6 m k).drewN j).setCell ⟨wb, 0, none⟩ (.slice (some ⟨g, 0, none⟩) n cap)) ∧ FrS wb mb' v.ownBlock w (((W6 m k).drewN j).setCell ⟨wb, 0, none⟩ (.slice (some ⟨g, 0, none⟩) n cap))) := Lib.hid fun m k j =>
          HW.out.popped HB.out HFR.out.1 HWS.out HN.out (hG6 m k) (by have := (hW6 m k).2.1; rwa [List.append_nil] at this) j
        clear h2 h3 h4 hkid hW5 hmw hmg hG5 hwl5 hgl5 blk hWP hG6 hW6 blk6
        go_wp2
        go_quiet (fail)
        go_wp2
        go_quiet (fail)
        go_wp2
        go_region_law (fail)
        all_goals
          clear hml hmu c0 c1 k0 k1 k2 k3 f0
          go_wp2
          go_quiet (fail)
          go_wp2
          go_region_law (fail)
        all_goals
          clear hml7 hmd d0 d1 d2
          go_wp2
          go_region_law (fail)
        all_goals
          go_wp2
          go_roundw
          case rel => exact ⟨pre, _, (HZ.out _ _ _).1, (HZ.out _ _ _).2.1, Lib.hid ⟨(HZ.out _ _ _).2.2, by rw [HVG.out]; rfl⟩, Lib.hid (by obtain ⟨suf, hst, hs⟩ := HR.out; exact ⟨f :: suf, hst, fun g hg => (List.mem_cons.1 hg).elim (fun e => by rw [e]; omega) (hs g)⟩), by have := HLE.out; have := HN.out; omega⟩
          case measure => exact Nat.lt_of_le_of_lt (Nat.le_of_eq (HZ.out _ _ 1).1.wk.wlen) (by rw [HWL.out, HN.out]; omega)

end Go.Proofs.Ytlmngncogomgeaa
