/- Of the proof of FnExactProofNeeds: WlkI, StbS. -/
import Derived.Test.YtlmngncogomgeaaM11
import Derived.Test.YtlmngncogomgeaaM10
namespace Go.Proofs.Ytlmngncogomgeaa
open Go.RowKit Go.ChangeMaps D
set_option linter.unusedVariables false
attribute [local go_sem ↓] Go.wp_at_zero Go.wp_at_succ
theorem infoStep : (Try.prog.info? 73).map (fun i => (i.zero, i.size, i.bytes)) = some (some (.agg #[.pointer none, .int .i64 0]), 2, 16) := by kernel_rfl

theorem infoPrf : (Try.prog.info? 36).map (fun i => i.size) = some 4 := by kernel_rfl

theorem D.zeroInt (w : World) : (zeroValue 3).run Try.prog w = .ok (.int .i64 0) w := by kernel_rfl

abbrev D.WP (BS : List Nat) (w : World) : Prop := ∀ b ∈ BS, ∃ cs t, w.heap[b]? = some (.cells cs t (0, 0))

abbrev D.SP (BS : List Nat) (v : Value) : Prop := ∃ a : Addr, v = .pointer (some a) ∧ a.block ∈ BS

theorem D.keyP (BS : List Nat) : KeyV Try.prog 53 (WP BS) (SP BS) := by
  have h := infoPrf
  cases hi : Try.prog.info? 36 with
  | none => simp [hi] at h
  | some i =>
    simp only [hi, Option.map_some, Option.some.injEq] at h
    exact keyV_ptr Try.underlying53 hi (by rw [h]; decide) BS

/-- The way lies in the block wb, its row and its map in blocks of the call's own. -/
structure D.Wk (BS : List Nat) (base wb : Nat) (st : List Fr) (w : World) : Prop where
  ex : ∃ v mb, w.heap[wb]? = some (.cells #[v, .map (some mb)] 52 (0, 0)) ∧ w.ownsRow base 73 2 v st.length (cellsW st) ∧ MapV (SP BS) mb (entsW st) w ∧ base ≤ mb
  ge : base ≤ wb
  way : Way BS w st
  low : ∀ b ∈ BS, b < base
  wri : WP BS w

theorem D.Wk.len {BS : List Nat} {base wb : Nat} {st : List Fr} {w : World} (h : Wk BS base wb st w) : wb < w.heap.size := by
  obtain ⟨v, mb, h1, _⟩ := h.ex
  exact lt_of_block h1

/-- How long the way is, for the measure. -/
def D.wlen (wb : Nat) (w : World) : Nat := match w.cell? ⟨wb, 0, none⟩ with
  | some (.slice _ n _) => n
  | _ => 0

theorem D.Wk.wlen {BS : List Nat} {base wb : Nat} {st : List Fr} {w : World} (h : Wk BS base wb st w) : wlen wb w = st.length := by
  obtain ⟨v, mb, h1, h2, _⟩ := h.ex
  obtain ⟨A, cap, rfl⟩ := own_shape h2
  unfold D.wlen
  rw [show w.cell? ⟨wb, 0, none⟩ = some (.slice A st.length cap) from by simp [World.cell?, h1]]

/-- A way with steps, opened. -/
theorem D.Wk.top {BS : List Nat} {base wb : Nat} {st : List Fr} {f : Fr} {w : World} (h : Wk BS base wb (st ++ [f]) w) :
    ∃ g cap mb pb po Af cf, w.heap[wb]? = some (.cells #[.slice (some ⟨g, 0, none⟩) (st.length + 1) cap, .map (some mb)] 52 (0, 0)) ∧
      w.ownsRow base 73 2 (.slice (some ⟨g, 0, none⟩) (st.length + 1) cap) (st.length + 1) (cellsW st ++ [.pointer (some f.at_), .int .i64 f.next]) ∧ MapV (SP BS) mb (entsW st ++ [(.pointer (some f.at_), .int .i64 1)]) w ∧ base ≤ mb ∧
      w.cell? ⟨g, st.length * 2, none⟩ = some (.pointer (some ⟨pb, po, none⟩)) ∧ w.cell? ⟨g, st.length * 2 + 1, none⟩ = some (.int .i64 f.next) ∧ w.frozen? ⟨g, st.length * 2 + 1, none⟩ = false ∧ f.at_ = ⟨pb, po, none⟩ ∧
      w.cell? ⟨pb, po + 3, none⟩ = some (.slice Af f.pf.kids.length cf) ∧ f.pf.kids.length ≤ cf ∧ cf ≤ maxLen ∧ (∀ k (hk : k < f.pf.kids.length), ∃ b' o', Af = some ⟨b', o', none⟩ ∧ AtP BS w ⟨b', o' + k * 4, none⟩ f.pf.kids[k]) ∧ f.next ≤ f.pf.kids.length := by
  obtain ⟨⟨v, mb, h1, h2, h3, h4⟩, h5, h6, h7, h8⟩ := h
  rw [List.length_append] at h2
  rw [cellsW_snoc] at h2
  rw [entsW_snoc] at h3
  have hat := h6.at_ f (by simp)
  have hat0 := hat
  obtain ⟨n, pb, po, cs, bk, e, _⟩ := hat0
  rw [e] at hat
  obtain ⟨Af, cf, q1, q2, q3, q4⟩ := hat.kids
  rcases h2.2 with ⟨_, h0⟩ | ⟨g, cap, cur, rfl, hb, hh, hc1, hc2, hc3, hc4⟩
  · simp at h0
  · refine ⟨g, cap, mb, pb, po, Af, cf, h1, h2, h3, h4, ?_, ?_, by simp [World.frozen?, hh], e, q1, q2, q3, q4, h6.next f (by simp)⟩
    · rw [h2.cellAt _ (by simp), ← cellsW_len, ← e]
      simp
    · rw [h2.cellAt _ (by simp; omega), ← cellsW_len]
      simp

theorem D.Wk.heap {BS : List Nat} {base wb : Nat} {st : List Fr} {w w' : World} (h : Wk BS base wb st w) (e : w'.heap = w.heap) : Wk BS base wb st w' := by
  obtain ⟨⟨v, mb, h1, h2, h3, h4⟩, h5, h6, h7, h8⟩ := h
  refine ⟨⟨v, mb, by rw [e]; exact h1, ?_, h3.same (by rw [e]), h4⟩, h5, h6.keep fun b _ => by rw [e], h7, fun b hb => by rw [e]; exact h8 b hb⟩
  refine ⟨h2.1, h2.2.imp id ?_⟩
  rintro ⟨g, cap, cur, hv, hg, hh, r⟩
  exact ⟨g, cap, cur, hv, hg, by rw [e]; exact hh, r⟩

theorem D.Wk.atP {BS : List Nat} {base wb : Nat} {st : List Fr} {w w' : World} (h : Wk BS base wb st w) (hb : Below base w w') {a : Addr} {p : Pf} (ha : AtP BS w a p) : AtP BS w' a p := ha.keep fun b hb' => hb.block b (h.low b hb')

theorem D.Wk.step {BS : List Nat} {base wb g n cap : Nat} {st : List Fr} {f : Fr} {w : World} (h : Wk BS base wb (st ++ [f]) w) (hk : f.next < f.pf.kids.length) (hn : n = st.length) (c0 : w.cell? ⟨wb, 0, none⟩ = some (.slice (some ⟨g, 0, none⟩) (n + 1) cap)) :
    Wk BS base wb (st ++ [⟨f.at_, f.pf, f.next + 1⟩]) (w.setCell ⟨g, n * 2 + 1, none⟩ (.int .i64 ((f.next : Int) + 1))) ∧ base ≤ g := by
  subst hn
  obtain ⟨⟨v, mb, h1, h2, h3, h4⟩, h5, h6, h7, h8⟩ := h
  have hv : v = .slice (some ⟨g, 0, none⟩) (st.length + 1) cap := by
    have : w.cell? ⟨wb, 0, none⟩ = some v := by simp [World.cell?, h1]
    rw [this] at c0
    exact Option.some.inj c0
  subst hv
  have hwb : (Value.slice (some ⟨g, 0, none⟩) (st.length + 1) cap).ownBlock ≠ some wb := own_ne_blk h2 h1 (by decide)
  have hmb := own_ne_map h2 h3
  have hg : base ≤ g := by
    rcases h2.2 with ⟨h, _⟩ | ⟨g', _, _, hv, hb, _⟩
    · cases h
    · simp only [Value.slice.injEq, Option.some.injEq, Addr.mk.injEq, and_true] at hv
      rw [hv.1]; exact hb
  have hgw : wb ≠ g := fun e => hwb (by simp [Value.ownBlock, e])
  have hgm : mb ≠ g := fun e => hmb (by simp [Value.ownBlock, e])
  have hkeep : ∀ b ∈ BS, (w.setCell ⟨g, st.length * 2 + 1, none⟩ (.int .i64 ((f.next : Int) + 1))).heap[b]? = w.heap[b]? := fun b hb => Below.heap_setCell _ _ _ _ (by have := h7 b hb; simp; omega)
  refine ⟨⟨⟨_, mb, (Below.heap_setCell _ _ _ _ hgw).trans h1, ?_, ?_, h4⟩, h5, (h6.step hk).keep hkeep, h7, fun b hb => by rw [hkeep b hb]; exact h8 b hb⟩, hg⟩
  · rw [List.length_append] at h2 ⊢
    rw [cellsW_snoc] at h2 ⊢
    have := (h2.stored (st.length * 2 + 1) (.int .i64 ((f.next : Int) + 1))).1
    rw [← cellsW_len, List.set_append_right _ _ (by omega)] at this
    simpa [cellsW_len] using this
  · rw [entsW_snoc] at h3 ⊢
    exact h3.setCell hgm _

theorem D.restW_thru : ∀ {st : List Fr}, (∀ f ∈ st, f.pf.kids.length ≤ f.next) → restW st = 0
  | [], _ => rfl
  | f :: st, h => by
    have h1 := restW_thru fun g hg => h g (List.mem_cons_of_mem _ hg)
    unfold restW sumL at *
    rw [List.map_cons, List.sum_cons, List.drop_eq_nil_of_le (h f (List.mem_cons_self ..)), h1]; rfl

theorem D.restW_append (s t : List Fr) : restW (s ++ t) = restW s + restW t := by unfold restW sumL; simp

theorem D.kid_small {p : Pf} {k : Nat} (hk : k < p.kids.length) : sizePf p.kids[k] < sizePf p := Pf.kid_size hk

theorem D.MapV.drewN {S : Value → Prop} {b : Nat} {L : List (Value × Value)} {w : World} (h : MapV S b L w) (m : Nat) : MapV S b L (w.drewN m) := MapV.same (w' := w.drewN m) h rfl

theorem D.Below.drewN {B : Nat} {a w : World} (h : Below B a w) (n : Nat) : Below B a (w.drewN n) := ⟨h.os, h.tape, h.output, h.size, h.block⟩

theorem D.Wk.popped {BS : List Nat} {base wb g n cap mb : Nat} {pre : List Fr} {f : Fr} {w wr w6 : World} (h : Wk BS base wb (pre ++ [f]) wr) (hB : Below base w wr) (hn : n = pre.length)
    (c0 : wr.cell? ⟨wb, 0, none⟩ = some (.slice (some ⟨g, 0, none⟩) (n + 1) cap)) (c1 : wr.cell? ⟨wb, 1, none⟩ = some (.map (some mb))) (hg : wr.grownBy w6 (some mb)) (hm : MapV (SP BS) mb (entsW pre) w6) (m : Nat) :
    Wk BS base wb pre ((w6.drewN m).setCell ⟨wb, 0, none⟩ (.slice (some ⟨g, 0, none⟩) n cap)) ∧ Below base w ((w6.drewN m).setCell ⟨wb, 0, none⟩ (.slice (some ⟨g, 0, none⟩) n cap)) := by
  subst hn
  obtain ⟨⟨v, mb', h1, h2, h3, h4⟩, h5, h6, h7, h8⟩ := h
  have e0 : wr.cell? ⟨wb, 0, none⟩ = some v := by simp [World.cell?, h1]
  have e1 : wr.cell? ⟨wb, 1, none⟩ = some (.map (some mb')) := by simp [World.cell?, h1]
  rw [e0] at c0
  rw [e1] at c1
  obtain rfl := Option.some.inj c0
  have e2 := Option.some.inj c1
  simp only [Value.map.injEq, Option.some.injEq] at e2
  subst e2
  have hwb : (Value.slice (some ⟨g, 0, none⟩) (pre.length + 1) cap).ownBlock ≠ some wb := own_ne_blk h2 h1 (by decide)
  have hmb := own_ne_map h2 h3
  have hmw := map_ne_blk h3 h1
  have hsz : base ≤ wr.heap.size := Nat.le_trans h5 (Nat.le_of_lt (lt_of_block h1))
  have hB6 : Below base wr w6 := (Below.refl _ _).grown hg hsz fun j hj => by cases hj; exact h4
  have hB7 : Below base wr ((w6.drewN m).setCell ⟨wb, 0, none⟩ (.slice (some ⟨g, 0, none⟩) pre.length cap)) := Below.setCell (Below.drewN hB6 m) h5 _
  have hk : ∀ b ∈ BS, ((w6.drewN m).setCell ⟨wb, 0, none⟩ (.slice (some ⟨g, 0, none⟩) pre.length cap)).heap[b]? = wr.heap[b]? := fun b hb => hB7.block b (h7 b hb)
  have h16 : (w6.drewN m).heap[wb]? = some (.cells #[.slice (some ⟨g, 0, none⟩) (pre.length + 1) cap, .map (some mb')] 52 (0, 0)) := (hg.block wb (lt_of_block h1) fun e => hmw (by injection e with e; exact e.symm)).trans h1
  refine ⟨⟨⟨.slice (some ⟨g, 0, none⟩) pre.length cap, mb', heap_setCell_self h16 0 _, ?_, MapV.setCell (hm.drewN m) (a := ⟨wb, 0, none⟩) hmw _, h4⟩, h5, h6.pop.keep hk, h7, fun b hb => by rw [hk b hb]; exact h8 b hb⟩, hB.trans hB7⟩
  rw [List.length_append, cellsW_snoc] at h2
  have h26 : w6.ownsRow base 73 2 (.slice (some ⟨g, 0, none⟩) pre.length cap) pre.length (cellsW pre) := own_take (h2.kept hg (Or.inr hmb)) (cellsW_len pre)
  have h27 : (w6.drewN m).ownsRow base 73 2 (.slice (some ⟨g, 0, none⟩) pre.length cap) pre.length (cellsW pre) := h26
  exact ownsRow_setCell_other h27 (by simpa [Value.ownBlock] using hwb) _

end Go.Proofs.Ytlmngncogomgeaa
namespace Go.Proofs.Ytlmngncogomgeaa
open Go.Shelf Go.RowKit Go.Lib Go.Sort D
set_option linter.unusedVariables false
section
variable {α : Type} [Inhabited α] {lt : α → α → Bool}
/-- From a on, in steps of s, each part is in order. -/
def D.Run (lt : α → α → Bool) (d : Array α) (n s a : Nat) : Prop := ∀ j, Srt lt (seg d (a + j * s) (min (a + j * s + s) n))

/-- Up to a, in steps of s, each part is in order. -/
def D.Done (lt : α → α → Bool) (d : Array α) (s a : Nat) : Prop := ∀ j, j * s + s ≤ a → Srt lt (seg d (j * s) (j * s + s))

theorem D.Run.next {d d' : Array α} {n s a : Nat} (h : Run lt d n s a) (e : ∀ i, a + 2 * s ≤ i → d'[i]! = d[i]!) : Run lt d' n s (a + 2 * s) := fun j => by
  have h1 := h (j + 2)
  rw [Nat.add_mul, show a + (j * s + 2 * s) = a + 2 * s + j * s by omega] at h1
  rwa [seg_same (d := d) fun i i1 _ => e i (by omega)]

theorem D.Run.one {d : Array α} {n s a : Nat} (h : Run lt d n s a) : Srt lt (seg d a (min (a + s) n)) ∧ Srt lt (seg d (a + s) (min (a + s + s) n)) := by
  have h1 := h 0
  have h2 := h 1
  rw [Nat.zero_mul, Nat.add_zero] at h1
  rw [Nat.one_mul] at h2
  exact ⟨h1, h2⟩

theorem D.Done.next {d d' : Array α} {s a : Nat} (h : Done lt d s a) (hs : 0 < s) (ht : ∃ t, a = t * s) (e : ∀ i, i < a → d'[i]! = d[i]!) (h2 : Srt lt (seg d' a (a + s))) : Done lt d' s (a + s) := fun j hj => by
  obtain ⟨t, ht⟩ := ht
  by_cases he : j * s = a
  · rw [he]; exact h2
  · have h3 : j < t := by
      apply Nat.lt_of_mul_lt_mul_right (a := s)
      omega
    have h4 := Nat.mul_le_mul_right s (show j + 1 ≤ t from h3)
    rw [Nat.add_mul, Nat.one_mul] at h4
    rw [seg_same (d := d) fun i i1 i2 => e i (by omega)]
    exact h j (by omega)

theorem D.Done.all {d : Array α} {n s a : Nat} (h : Done lt d s a) (hs : 0 < s) (ht : ∃ t, a = t * s) (hn : n < a + s) (h2 : Srt lt (seg d a n)) : Run lt d n s 0 := fun j => by
  obtain ⟨t, ht⟩ := ht
  rw [Nat.zero_add]
  by_cases h3 : j < t
  · have h4 := Nat.mul_le_mul_right s (show j + 1 ≤ t from h3)
    rw [Nat.add_mul, Nat.one_mul] at h4
    exact (h j (by omega)).sub (Nat.le_refl _) (Nat.min_le_left _ _)
  · have h4 := Nat.mul_le_mul_right s (show t ≤ j by omega)
    exact h2.sub (by omega) (Nat.min_le_right _ _)

theorem D.Done.zero (d : Array α) (s : Nat) (hs : 0 < s) : Done lt d s 0 := fun j hj => by omega

theorem D.Done.keep {d d' : Array α} {s a : Nat} (h : Done lt d s a) (e : ∀ i, i < a → d'[i]! = d[i]!) : Done lt d' s a := fun j hj => by
  rw [seg_same (d := d) fun i i1 i2 => e i (by omega)]
  exact h j hj

end
set_option maxHeartbeats 8000000 in
set_option maxRecDepth 1000000 in
theorem stable_any {α : Type} [Inhabited α] (k : Nat) (aE : ∀ w, (isAgg 33).run Try.prog w = .ok true w) (zE : ∀ w, (Go.sizeOf 33).run Try.prog w = .ok k w) (enc : α → List Value) (cf : α → α → Int) (hO : SWO (ltOf cf)) (g : Nat) (cb : Array Value) (eg : ∀ args w, (callFunc g args).run Try.prog w = .ok (.enter g args) w) (blk off cap len : Nat) (d0 d : Array α) (w0 w : World) (R : RowK enc k w0 blk off d0) (hlen : d0.size = len) (hcmp : CmpLays Try.prog g cb enc k cf blk off len w0) (hsz : len ≤ 1099511627776) (hds : d.size = len) (S : SWK enc k w0 blk off d w) :
    Calls Try.prog 37 #[.slice (some ⟨blk, off, none⟩) len cap, .int .i64 len, .func (.func g) #[] cb] w fun e w' => e = .returned (.tuple #[]) ∧ ∃ d' : Array α, Mrg (ltOf cf) 0 len d d' ∧ SWK enc k w0 blk off d' w' := by
  have HINS : Hid (∀ (a b : Nat) (dk : Array α) (w : World), dk.size = len → SWK enc k w0 blk off dk w → a ≤ b → b ≤ len → Calls Try.prog 46 #[.slice (some ⟨blk, off, none⟩) len cap, .int .i64 a, .int .i64 b, .func (.func g) #[] cb] w fun e w' => e = .returned (.tuple #[]) ∧ ∃ d' : Array α, Mrg (ltOf cf) a b dk d' ∧ SWK enc k w0 blk off d' w') := Lib.hid fun a b dk w hk hS hab hb => by
    have h1 := AnyQ.insertionSortCmpFunc_w Try.insA k aE zE enc cf g cb blk off cap a b d0 dk w0 w eg (by rw [hlen]; exact hcmp) R (by omega) hS hO hab (by omega) (by omega)
    rw [hk] at h1
    refine Calls.mono (f := 46) h1 ?_
    rintro e w' ⟨rfl, h2⟩
    have h3 := ins_stir hO (d := dk) hab (by omega)
    exact ⟨rfl, _, ⟨h3.1, h3.2⟩, h2⟩
  have HSYM : Hid (∀ (a m b : Nat) (dk : Array α) (w : World), dk.size = len → SWK enc k w0 blk off dk w → a < m → m < b → b ≤ len → Srt (ltOf cf) (seg dk a m) → Srt (ltOf cf) (seg dk m b) → Calls Try.prog 47 #[.slice (some ⟨blk, off, none⟩) len cap, .int .i64 a, .int .i64 m, .int .i64 b, .func (.func g) #[] cb] w fun e w' => e = .returned (.tuple #[]) ∧ ∃ d' : Array α, Mrg (ltOf cf) a b dk d' ∧ SWK enc k w0 blk off d' w') := Lib.hid fun a m b dk w hk hS h1 h2 h3 h4 h5 =>
    symMerge_any k aE zE enc cf hO g cb eg blk off cap len d0 w0 R hlen hcmp (by omega) (b - a) a m b dk w (Nat.le_refl _) hk hS h1 h2 h3 h4 h5
  have S0 : Aside (SWK enc k w0 blk off d w) := S
  clear hcmp S
  go_enter Try.func37, Try.ntmps37
  go_wp2
  go_loopg [7, 8] len (fun kx s7 s8 wr => ∃ (a : Nat) (dk : Array α), s7 = .int .i64 a ∧ s8 = .int .i64 (a + 20 : Nat) ∧ a ≤ len ∧ len - a ≤ kx ∧ Hid (∃ t, a = t * 20) ∧ Hid (Stir (ltOf cf) 0 len d dk) ∧ Hid (Done (ltOf cf) dk 20 a) ∧ Aside (SWK enc k w0 blk off dk wr))
  case atStart => exact ⟨0, d, rfl, rfl, Nat.zero_le _, by omega, Lib.hid ⟨0, rfl⟩, Lib.hid (Stir.refl _ _ _), Lib.hid (Done.zero _ _ (by omega)), S0⟩
  case round =>
    clear S0
    obtain ⟨a, dk, rfl, rfl, ha, hkx, HT, HS, HD, S1⟩ := hrel
    have hdk := HS.out.size
    by_cases hlt : a + 20 ≤ len
    · have hc := HINS.out a (a + 20) dk wr (by omega) S1.out (by omega) hlt
      have rw1 : IntKind.i64.wrap (((a + 20 : Nat) : Int) + 20) = ((a + 20 + 20 : Nat) : Int) := by rw [IntKind.wrap_i64]; omega
      have hlz : ((a + 20 : Nat) : Int) ≤ (len : Int) := by omega
      go_wp2_with fail
      refine hc.mono ?_
      rintro e w1 ⟨rfl, d1, hM, S2⟩
      have S3 : Aside _ := S2
      have HM := Lib.hid hM
      clear hc S2 S1 hM
      go_wp2_with fail
      go_roundg (len - (a + 20))
      case measure => omega
      case rel => exact ⟨a + 20, d1, rfl, rfl, hlt, Nat.le_refl _, Lib.hid (by obtain ⟨t, ht⟩ := HT.out; exact ⟨t + 1, by omega⟩), Lib.hid (HS.out.trans (HM.out.toStir.mono (Nat.zero_le _) (by omega) hlt)), Lib.hid (HD.out.next (by omega) HT.out (fun i hi => HM.out.out i (.inl hi)) HM.out.srt), S3⟩
    · have hc := HINS.out a len dk wr (by omega) S1.out ha (Nat.le_refl _)
      have hlz : ¬ ((a + 20 : Nat) : Int) ≤ (len : Int) := by omega
      go_wp2_with fail
      refine hc.mono ?_
      rintro e w1 ⟨rfl, d1, hM, S2⟩
      have S3 : Aside (SWK enc k w0 blk off d1 w1) := S2
      have HS1 : Hid (Stir (ltOf cf) 0 len d d1) := Lib.hid (HS.out.trans (hM.toStir.mono (Nat.zero_le _) ha (Nat.le_refl _)))
      have HR1 : Hid (Run (ltOf cf) d1 len 20 0) := Lib.hid ((HD.out.keep fun i hi => hM.out i (.inl hi)).all (by omega) HT.out (by omega) hM.srt)
      clear hc S2 S1 hM HS HD HT hkx hlz hlt ha hdk
      go_wp2_with fail
      go_loopg [6, 7, 8, 9] len (fun kx s6 s7 s8 s9 wr => ∃ (s : Nat) (dk : Array α), s6 = .int .i64 s ∧ 1 ≤ s ∧ s ≤ 2 * len + 20 ∧ len - s ≤ kx ∧ Hid (Stir (ltOf cf) 0 len d dk) ∧ Hid (Run (ltOf cf) dk len s 0) ∧ Aside (SWK enc k w0 blk off dk wr))
      case atStart => exact ⟨20, d1, rfl, by omega, by omega, by omega, HS1, HR1, S3⟩
      case round =>
        clear S3 HS1 HR1
        obtain ⟨s, dk, rfl, hs1, hs2, hkx, HS, HR, S4⟩ := hrel
        by_cases hlt : s < len
        · have hlz : (s : Int) < (len : Int) := by omega
          have rw1 : IntKind.i64.wrap (2 * (s : Int)) = ((2 * s : Nat) : Int) := by rw [IntKind.wrap_i64]; omega
          have rw2 : IntKind.i64.wrap ((s : Int) * 2) = ((2 * s : Nat) : Int) := by rw [IntKind.wrap_i64]; omega
          go_wp2_with fail
          go_loopg [7, 8] len (fun ky s7 s8 wr => ∃ (a : Nat) (dl : Array α), s7 = .int .i64 a ∧ s8 = .int .i64 (a + 2 * s : Nat) ∧ a ≤ len ∧ len - a ≤ ky ∧ Hid (∃ t, a = t * (2 * s)) ∧ Hid (Stir (ltOf cf) 0 len d dl) ∧ Hid (Done (ltOf cf) dl (2 * s) a) ∧ Hid (Run (ltOf cf) dl len s a) ∧ Aside (SWK enc k w0 blk off dl wr))
          case atStart => exact ⟨0, dk, rfl, by congr 2; omega, Nat.zero_le _, by omega, Lib.hid ⟨0, by omega⟩, HS, Lib.hid (Done.zero _ _ (by omega)), HR, S4⟩
          case round =>
            clear S4 HS HR
            obtain ⟨a, dl, rfl, rfl, ha, hky, HT, HS, HD, HR, S5⟩ := hrel
            have hdl := HS.out.size
            have rw3 : IntKind.i64.wrap ((a : Int) + (s : Int)) = ((a + s : Nat) : Int) := by rw [IntKind.wrap_i64]; omega
            by_cases hb : a + 2 * s ≤ len
            · have hbz : ((a + 2 * s : Nat) : Int) ≤ (len : Int) := by omega
              have rw4 : IntKind.i64.wrap (((a + 2 * s : Nat) : Int) + ((2 * s : Nat) : Int)) = ((a + 2 * s + 2 * s : Nat) : Int) := by rw [IntKind.wrap_i64]; omega
              have hc := HSYM.out a (a + s) (a + 2 * s) dl wr (by omega) S5.out (by omega) (by omega) hb (by have := HR.out.one.1; rwa [Nat.min_eq_left (by omega)] at this) (by have := HR.out.one.2; rwa [show a + s + s = a + 2 * s by omega, Nat.min_eq_left (by omega)] at this)
              go_wp2_with fail
              refine hc.mono ?_
              rintro e w2 ⟨rfl, d2, hM, S6⟩
              have S7 : Aside _ := S6
              have HM := Lib.hid hM
              clear hc S6 S5 hM
              go_wp2_with fail
              go_roundg (len - (a + 2 * s))
              case measure => omega
              case rel => exact ⟨a + 2 * s, d2, rfl, rfl, hb, Nat.le_refl _, Lib.hid (by obtain ⟨t, ht⟩ := HT.out; exact ⟨t + 1, by rw [ht, Nat.add_mul, Nat.one_mul]⟩), Lib.hid (HS.out.trans (HM.out.toStir.mono (Nat.zero_le _) (by omega) hb)), Lib.hid (HD.out.next (by omega) HT.out (fun i hi => HM.out.out i (.inl hi)) HM.out.srt), Lib.hid (HR.out.next fun i hi => HM.out.out i (.inr hi)), S7⟩
            · have hbz : ¬ ((a + 2 * s : Nat) : Int) ≤ (len : Int) := by omega
              by_cases hm : a + s < len
              · have hmz : ((a + s : Nat) : Int) < (len : Int) := by omega
                have hc := HSYM.out a (a + s) len dl wr (by omega) S5.out (by omega) (by omega) (Nat.le_refl _) (by have := HR.out.one.1; rwa [Nat.min_eq_left (by omega)] at this) (by have := HR.out.one.2; rwa [Nat.min_eq_right (by omega)] at this)
                go_wp2_with fail
                refine hc.mono ?_
                rintro e w2 ⟨rfl, d2, hM, S6⟩
                have S7 : Aside _ := S6
                have HM := Lib.hid hM
                clear hc S6 S5 hM
                go_wp2_with fail
                go_roundg (len - 2 * s)
                case measure => omega
                case rel => exact ⟨2 * s, d2, rfl, by omega, by omega, Nat.le_refl _, Lib.hid (HS.out.trans (HM.out.toStir.mono (Nat.zero_le _) (by omega) (Nat.le_refl _))), Lib.hid ((HD.out.keep fun i hi => HM.out.out i (.inl hi)).all (by omega) HT.out (by omega) HM.out.srt), S7⟩
              · have hmz : ¬ ((a + s : Nat) : Int) < (len : Int) := by omega
                go_wp2_with fail
                go_roundg (len - 2 * s)
                case measure => omega
                case rel => exact ⟨2 * s, dl, rfl, by omega, by omega, Nat.le_refl _, HS, Lib.hid (HD.out.all (by omega) HT.out (by omega) (by have := HR.out.one.1; rwa [Nat.min_eq_right (by omega)] at this)), S5⟩
        · have hlz : ¬ (s : Int) < (len : Int) := by omega
          go_wp2_with fail
          first | go_end0 | refine bodyPost_ret (results_none rfl _ _ _) rfl ?_
          refine ⟨rfl, dk, ⟨HS.out, ?_⟩, S4.out⟩
          have h9 := HR.out 0
          rw [Nat.zero_mul, Nat.add_zero, Nat.zero_add, Nat.min_eq_right (by omega)] at h9
          exact h9

set_option maxHeartbeats 1000000 in
theorem sortStable_any {α : Type} [Inhabited α] (k : Nat) (aE : ∀ w, (isAgg 33).run Try.prog w = .ok true w) (zE : ∀ w, (Go.sizeOf 33).run Try.prog w = .ok k w) (enc : α → List Value) (cf : α → α → Int) (hO : SWO (ltOf cf)) (g : Nat) (cb : Array Value) (eg : ∀ args w, (callFunc g args).run Try.prog w = .ok (.enter g args) w) (blk off cap len : Nat) (d : Array α) (w : World) (R : RowK enc k w blk off d) (hds : d.size = len) (hcmp : CmpLays Try.prog g cb enc k cf blk off len w) (hsz : len ≤ 1099511627776) :
    Calls Try.prog 21 #[.slice (some ⟨blk, off, none⟩) len cap, .func (.func g) #[] cb] w fun e w' => e = .returned (.tuple #[]) ∧ ∃ d' : Array α, Mrg (ltOf cf) 0 len d d' ∧ SWK enc k w blk off d' w' := by
  have hc := stable_any k aE zE enc cf hO g cb eg blk off cap len d d w w R hds hcmp hsz hds (SWK.start R.hH)
  clear hcmp
  go_enter Try.func21, Try.ntmps21
  go_wp2_with fail
  refine hc.mono ?_
  rintro e w1 ⟨rfl, h⟩
  go_wp2_with fail
  first | go_end0 | refine bodyPost_ret (results_none rfl _ _ _) rfl ?_
  exact ⟨rfl, h⟩

end Go.Proofs.Ytlmngncogomgeaa
