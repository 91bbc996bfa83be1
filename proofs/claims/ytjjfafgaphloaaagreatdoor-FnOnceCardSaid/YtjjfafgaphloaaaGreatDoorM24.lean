/- Of the proof of FnOnce: QryQ, WoS. -/
import Derived.Test.YtjjfafgaphloaaaGreatDoorM17
import Derived.Test.YtjjfafgaphloaaaGreatDoorM18
namespace Go.Proofs.YtjjfafgaphloaaaGreatDoor
open Go.RowKit D
set_option linter.unusedVariables false
theorem D.own_keep {w w' : World} {base e size n : Nat} {v : Value} {L : List Value} (h : w.ownsRow base e size v n L) (hk : ∀ b, v.ownBlock = some b → w'.heap[b]? = w.heap[b]?) : w'.ownsRow base e size v n L := by
  refine ⟨h.1, ?_⟩
  rcases h.2 with h2 | ⟨g, cap, cur, rfl, h3, h4, h5⟩
  · exact .inl h2
  · exact .inr ⟨g, cap, cur, rfl, h3, (hk g (by simp [Value.ownBlock])).trans h4, h5⟩

theorem D.own_block_in {w : World} {base e size n b : Nat} {v : Value} {L : List Value} (h : w.ownsRow base e size v n L) (hb : v.ownBlock = some b) : base ≤ b ∧ b < w.heap.size := by
  rcases h.2 with ⟨rfl, _⟩ | ⟨g, cap, cur, rfl, h3, h4, _⟩
  · simp [Value.ownBlock] at hb
  · simp [Value.ownBlock] at hb
    subst hb
    exact ⟨h3, lt_of_block h4⟩

theorem D.Coll.keepB {α : Type} {n : Nat} {R : Rel α} {base e : Nat} {w w' : World} {v : Value} {L : List Value} {xs : List α} {bs : List Nat} (g : Good R) (h : Coll n R base e w v L xs bs)
    (h1 : ∀ b, v.ownBlock = some b → w'.heap[b]? = w.heap[b]?) (h2 : ∀ b ∈ bs, w'.heap[b]? = w.heap[b]?) : Coll n R base e w' v L xs bs :=
  ⟨own_keep h.own h1, h.row.keep g h2, h.far⟩

theorem D.posA_snoc (ps : List Pt) (k : Nat) (h : k < ps.length) : posA (ps.take (k + 1)) = posA (ps.take k) ++ (if ps[k].no then [] else [ps[k].atom]) := by
  unfold posA
  rw [List.take_succ_eq_append_getElem h, List.filter_append, List.map_append]
  cases hn : ps[k].no <;> simp [hn]

theorem D.negA_snoc (ps : List Pt) (k : Nat) (h : k < ps.length) : negA (ps.take (k + 1)) = negA (ps.take k) ++ (if ps[k].no then [ps[k].atom] else []) := by
  unfold negA
  rw [List.take_succ_eq_append_getElem h, List.filter_append, List.map_append]
  cases hn : ps[k].no <;> simp [hn]

/-- The query's box, and its two rows so far. -/
structure D.QInv (vars : List ByteArray) (w : World) (hz hb B : Nat) (vv : Value) (b3 : List Nat) (v1 : Value) (L1 : List Value) (xs1 : List A) (bs1 : List Nat) (v2 : Value) (L2 : List Value) (xs2 : List A) (bs2 : List Nat) (wr : World) : Prop where
  r0 : wr.heap[hz]? = some (.cells #[.slice none 0 0, .slice none 0 0, .slice none 0 0] 100 (0, 0))
  r1 : wr.heap[hb]? = some (.cells #[v1, v2, vv] 100 (0, 0))
  h0 : w.heap.size ≤ hz
  h1 : hz < hb
  hB : hb < B
  c1 : Coll 2 (patK vars) B 104 wr v1 L1 xs1 bs1
  c2 : Coll 2 (patK vars) B 104 wr v2 L2 xs2 bs2
  k1 : ∀ b ∈ bs1, B ≤ b
  k2 : ∀ b ∈ bs2, B ≤ b
  f12 : ∀ b, v1.ownBlock = some b → v2.ownBlock ≠ some b ∧ b ∉ bs2
  f21 : ∀ b, v2.ownBlock = some b → b ∉ bs1
  vs : strsK wr [vv] vars b3
  kv : ∀ b ∈ b3, w.heap.size ≤ b ∧ b < hb ∧ b ≠ hz
  bel : Below w.heap.size w wr
  siz : B ≤ wr.heap.size

section
variable {vars : List ByteArray} {w : World} {hz hb B : Nat} {vv : Value} {b3 : List Nat} {v1 : Value} {L1 : List Value} {xs1 : List A} {bs1 : List Nat} {v2 : Value} {L2 : List Value} {xs2 : List A} {bs2 : List Nat} {wr : World}
theorem D.QInv.later {w' : World} (h : QInv vars w hz hb B vv b3 v1 L1 xs1 bs1 v2 L2 xs2 bs2 wr) (hk : Below wr.heap.size wr w') : QInv vars w hz hb B vv b3 v1 L1 xs1 bs1 v2 L2 xs2 bs2 w' :=
  ⟨(hk.block _ (lt_of_block h.r0)).trans h.r0, (hk.block _ (lt_of_block h.r1)).trans h.r1, h.h0, h.h1, h.hB, h.c1.below (patK_good _) hk, h.c2.below (patK_good _) hk, h.k1, h.k2, h.f12, h.f21, strsK_good.below h.vs hk, h.kv,
    h.bel.trans (hk.mono h.bel.size), Nat.le_trans h.siz hk.size⟩

/-- The two rows change places. -/
theorem D.QInv.lit {a : A} {v9 : Value} {b9 : List Nat} {w2 : World} {v : Value} {L : List Value} {n : Nat} (hk : Below wr.heap.size wr w2) (hB : B ≤ wr.heap.size) (hown : wr.ownsRow B 104 2 v n L) (hnm : a.name.size ≤ maxLen) (hp : slotsK vars w2 [v9] a.args b9) (h9 : Value.oneCell' v9 = true) :
    (w2.alloc (.cells #[.string a.name, v9] 104)).ownsRow B 104 2 v n L ∧
      Lies (w2.alloc (.cells #[.string a.name, v9] 104)) (some ⟨w2.heap.size, 0, none⟩) [.string a.name, v9] ∧ (∀ u ∈ [.string a.name, v9], Value.oneCell' u = true) ∧ B ≤ (w2.alloc (.cells #[.string a.name, v9] 104)).heap.size := by
  have hA : Below w2.heap.size w2 (w2.alloc (.cells #[.string a.name, v9] 104)) := (Below.refl _ _).alloc (Nat.le_refl _) _
  have hb := hk.trans (hA.mono hk.size)
  refine ⟨own_below hown hb, by have := lies_block (heap_alloc_new w2 (.cells #[.string a.name, v9] 104)); simpa using this, fun u hu => ?_, Nat.le_trans hB hb.size⟩
  rcases List.mem_cons.1 hu with rfl | hu
  · rfl
  · rw [List.mem_singleton.1 hu]; exact h9

theorem D.QInv.app1 {a : A} {v9 : Value} {b9 : List Nat} {w2 w5 : World} {A5 : Option Addr} {c5 : Nat} (h : QInv vars w hz hb B vv b3 v1 L1 xs1 bs1 v2 L2 xs2 bs2 wr) (hk : Below wr.heap.size wr w2) (hnm : a.name.size ≤ maxLen) (hp : slotsK vars w2 [v9] a.args b9) (hn : New wr.heap.size w2 b9) (h9 : Value.oneCell' v9 = true)
    (hown : w5.ownsRow B 104 2 (.slice A5 (xs1.length + 1) c5) (xs1.length + 1) (L1 ++ [.string a.name, v9])) (hg : (w2.alloc (.cells #[.string a.name, v9] 104)).grownBy w5 v1.ownBlock)
    (hloc : (Value.slice A5 (xs1.length + 1) c5).ownBlock = v1.ownBlock ∨ (Value.slice A5 (xs1.length + 1) c5).ownBlock = some (w2.alloc (.cells #[.string a.name, v9] 104)).heap.size) :
    w5.cell? ⟨hb, 0, none⟩ = some v1 ∧ w5.cell? ⟨hb, 1, none⟩ = some v2 ∧ w5.cell? ⟨hb, 2, none⟩ = some vv ∧ w5.frozen? ⟨hb, 0, none⟩ = false ∧
      QInv vars w hz hb B vv b3 (.slice A5 (xs1.length + 1) c5) (L1 ++ [.string a.name, v9]) (xs1 ++ [a]) (bs1 ++ b9) v2 L2 xs2 bs2 (w5.setCell ⟨hb, 0, none⟩ (.slice A5 (xs1.length + 1) c5)) := by
  have hA : Below w2.heap.size w2 (w2.alloc (.cells #[.string a.name, v9] 104)) := (Below.refl _ _).alloc (Nat.le_refl _) _
  have hbw := hk.trans (hA.mono hk.size)
  have h2 := h.later hbw
  have hlt := h2.siz
  have hs2 := hk.size
  have hB9 := h.hB
  have h19 := h.h1
  have h09 := h.h0
  have hs9 := h.siz
  have g9 : ∀ b ∈ b9, wr.heap.size ≤ b ∧ b < w2.heap.size := fun b hb => ⟨(hn.own b hb).1, hn.lt hb⟩
  have hgb : ∀ b, b < w2.heap.size + 1 → v1.ownBlock ≠ some b → w5.heap[b]? = (w2.alloc (.cells #[.string a.name, v9] 104)).heap[b]? := fun b hb hne => hg.block b (by simpa using hb) (fun e => hne e.symm)
  have o1 : ∀ b, v1.ownBlock = some b → B ≤ b ∧ b < wr.heap.size := fun b hb => own_block_in h.c1.own hb
  have o2 : ∀ b, v2.ownBlock = some b → B ≤ b ∧ b < wr.heap.size := fun b hb => own_block_in h.c2.own hb
  have l1 : ∀ b ∈ bs1, b < wr.heap.size := fun b hb => h.c1.row.lt (patK_good _) b hb
  have l2 : ∀ b ∈ bs2, b < wr.heap.size := fun b hb => h.c2.row.lt (patK_good _) b hb
  have n1 : v1.ownBlock ≠ some hb := fun e => by have := (o1 _ e).1; omega
  have n0 : v1.ownBlock ≠ some hz := fun e => by have := (o1 _ e).1; omega
  have hr1 := (hgb hb (by omega) n1).trans h2.r1
  have hr0 := (hgb hz (by omega) n0).trans h2.r0
  have hp2 : patK vars (w2.alloc (.cells #[.string a.name, v9] 104)) [.string a.name, v9] a b9 := ⟨v9, rfl, hnm, (slotsK_good _).below hp hA⟩
  have hc1 : Coll 2 (patK vars) B 104 w5 (.slice A5 (xs1.length + 1) c5) (L1 ++ [.string a.name, v9]) (xs1 ++ [a]) (bs1 ++ b9) :=
    h2.c1.app (patK_good _) (Rowed.one_el (patK_ones _) hp2) (fun b hb e => by have := (o1 _ e).2; have := (g9 b hb).1; omega) hown hg hloc
  have hkc : ∀ b, b ≠ hb → (w5.setCell ⟨hb, 0, none⟩ (.slice A5 (xs1.length + 1) c5)).heap[b]? = w5.heap[b]? := fun b hne => Below.heap_setCell _ _ _ _ hne
  have onew : ∀ b, (Value.slice A5 (xs1.length + 1) c5).ownBlock = some b → v1.ownBlock = some b ∨ b = w2.heap.size + 1 := fun b e => by
    rcases hloc with h' | h'
    · left; rw [← h']; exact e
    · right; rw [h'] at e; simp at e; omega
  refine ⟨cell_of_blk hr1, cell_of_blk hr1, cell_of_blk hr1, frozen_of_blk hr1, ⟨(hkc _ (by omega)).trans hr0, ?_, h09, h19, hB9, ?_, ?_, ?_, h.k2, ?_, ?_, ?_, h.kv, ?_, ?_⟩⟩
  · have := blk_setG (o := 0) (u := .slice A5 (xs1.length + 1) c5) hr1
    simpa using this
  · exact hc1.keepB (patK_good _) (fun b e => hkc b (fun e2 => by
      subst e2
      rcases onew _ e with h' | h'
      · exact n1 h'
      · omega)) (fun b hb' => hkc b (fun e2 => by
      subst e2
      rcases List.mem_append.1 hb' with h' | h'
      · have := h.k1 _ h'; omega
      · have := (g9 _ h').1; omega))
  · refine (h2.c2.keepB (patK_good _) (fun b e => ?_) (fun b hb' => ?_))
    · have := o2 _ e
      rw [hkc b (by omega)]
      exact hgb b (by omega) (fun e2 => (h.f12 b e2).1 e)
    · have := l2 _ hb'
      have := h.k2 _ hb'
      rw [hkc b (by omega)]
      exact hgb b (by omega) (fun e2 => (h.f12 b e2).2 hb')
  · intro b hb'
    rcases List.mem_append.1 hb' with h' | h'
    · exact h.k1 _ h'
    · have := (g9 _ h').1; omega
  · intro b e
    rcases onew _ e with h' | h'
    · exact h.f12 b h'
    · exact ⟨fun e2 => by have := (o2 _ e2).2; omega, fun e2 => by have := l2 _ e2; omega⟩
  · intro b e hb'
    rcases List.mem_append.1 hb' with h' | h'
    · exact h.f21 b e h'
    · have := (o2 _ e).2; have := (g9 _ h').1; omega
  · refine strsK_good.keep h2.vs fun b hb' => ?_
    have := h.kv b hb'
    rw [hkc b (by omega)]
    exact hgb b (by omega) (fun e => by have := (o1 _ e).1; omega)
  · have hbel : Below w.heap.size w w5 := h2.bel.grown hg h2.bel.size fun k e => by have := (o1 _ e).1; omega
    exact hbel.setCell (by show w.heap.size ≤ hb; omega) _
  · have := hg.size; simp [World.setCell]; simp at this; omega

theorem D.QInv.app2 {a : A} {v9 : Value} {b9 : List Nat} {w2 w5 : World} {A5 : Option Addr} {c5 : Nat} (h : QInv vars w hz hb B vv b3 v1 L1 xs1 bs1 v2 L2 xs2 bs2 wr) (hk : Below wr.heap.size wr w2) (hnm : a.name.size ≤ maxLen) (hp : slotsK vars w2 [v9] a.args b9) (hn : New wr.heap.size w2 b9) (h9 : Value.oneCell' v9 = true)
    (hown : w5.ownsRow B 104 2 (.slice A5 (xs2.length + 1) c5) (xs2.length + 1) (L2 ++ [.string a.name, v9])) (hg : (w2.alloc (.cells #[.string a.name, v9] 104)).grownBy w5 v2.ownBlock)
    (hloc : (Value.slice A5 (xs2.length + 1) c5).ownBlock = v2.ownBlock ∨ (Value.slice A5 (xs2.length + 1) c5).ownBlock = some (w2.alloc (.cells #[.string a.name, v9] 104)).heap.size) :
    w5.cell? ⟨hb, 0, none⟩ = some v1 ∧ w5.cell? ⟨hb, 1, none⟩ = some v2 ∧ w5.cell? ⟨hb, 2, none⟩ = some vv ∧ w5.frozen? ⟨hb, 1, none⟩ = false ∧
      QInv vars w hz hb B vv b3 v1 L1 xs1 bs1 (.slice A5 (xs2.length + 1) c5) (L2 ++ [.string a.name, v9]) (xs2 ++ [a]) (bs2 ++ b9) (w5.setCell ⟨hb, 1, none⟩ (.slice A5 (xs2.length + 1) c5)) := by
  have hA : Below w2.heap.size w2 (w2.alloc (.cells #[.string a.name, v9] 104)) := (Below.refl _ _).alloc (Nat.le_refl _) _
  have hbw := hk.trans (hA.mono hk.size)
  have h2 := h.later hbw
  have hlt := h2.siz
  have hs2 := hk.size
  have hB9 := h.hB
  have h19 := h.h1
  have h09 := h.h0
  have hs9 := h.siz
  have g9 : ∀ b ∈ b9, wr.heap.size ≤ b ∧ b < w2.heap.size := fun b hb => ⟨(hn.own b hb).1, hn.lt hb⟩
  have hgb : ∀ b, b < w2.heap.size + 1 → v2.ownBlock ≠ some b → w5.heap[b]? = (w2.alloc (.cells #[.string a.name, v9] 104)).heap[b]? := fun b hb hne => hg.block b (by simpa using hb) (fun e => hne e.symm)
  have o1 : ∀ b, v1.ownBlock = some b → B ≤ b ∧ b < wr.heap.size := fun b hb => own_block_in h.c1.own hb
  have o2 : ∀ b, v2.ownBlock = some b → B ≤ b ∧ b < wr.heap.size := fun b hb => own_block_in h.c2.own hb
  have l1 : ∀ b ∈ bs1, b < wr.heap.size := fun b hb => h.c1.row.lt (patK_good _) b hb
  have l2 : ∀ b ∈ bs2, b < wr.heap.size := fun b hb => h.c2.row.lt (patK_good _) b hb
  have n1 : v2.ownBlock ≠ some hb := fun e => by have := (o2 _ e).1; omega
  have n0 : v2.ownBlock ≠ some hz := fun e => by have := (o2 _ e).1; omega
  have hr1 := (hgb hb (by omega) n1).trans h2.r1
  have hr0 := (hgb hz (by omega) n0).trans h2.r0
  have hp2 : patK vars (w2.alloc (.cells #[.string a.name, v9] 104)) [.string a.name, v9] a b9 := ⟨v9, rfl, hnm, (slotsK_good _).below hp hA⟩
  have hc1 : Coll 2 (patK vars) B 104 w5 (.slice A5 (xs2.length + 1) c5) (L2 ++ [.string a.name, v9]) (xs2 ++ [a]) (bs2 ++ b9) :=
    h2.c2.app (patK_good _) (Rowed.one_el (patK_ones _) hp2) (fun b hb e => by have := (o2 _ e).2; have := (g9 b hb).1; omega) hown hg hloc
  have hkc : ∀ b, b ≠ hb → (w5.setCell ⟨hb, 1, none⟩ (.slice A5 (xs2.length + 1) c5)).heap[b]? = w5.heap[b]? := fun b hne => Below.heap_setCell _ _ _ _ hne
  have onew : ∀ b, (Value.slice A5 (xs2.length + 1) c5).ownBlock = some b → v2.ownBlock = some b ∨ b = w2.heap.size + 1 := fun b e => by
    rcases hloc with h' | h'
    · left; rw [← h']; exact e
    · right; rw [h'] at e; simp at e; omega
  refine ⟨cell_of_blk hr1, cell_of_blk hr1, cell_of_blk hr1, frozen_of_blk hr1, ⟨(hkc _ (by omega)).trans hr0, ?_, h09, h19, hB9, ?_, ?_, h.k1, ?_, ?_, ?_, ?_, h.kv, ?_, ?_⟩⟩
  · have := blk_setG (o := 1) (u := .slice A5 (xs2.length + 1) c5) hr1
    simpa using this
  · refine (h2.c1.keepB (patK_good _) (fun b e => ?_) (fun b hb' => ?_))
    · have := o1 _ e
      rw [hkc b (by omega)]
      exact hgb b (by omega) (fun e2 => (h.f12 b e).1 e2)
    · have := l1 _ hb'
      have := h.k1 _ hb'
      rw [hkc b (by omega)]
      exact hgb b (by omega) (fun e2 => h.f21 b e2 hb')
  · exact hc1.keepB (patK_good _) (fun b e => hkc b (fun e2 => by
      subst e2
      rcases onew _ e with h' | h'
      · exact n1 h'
      · omega)) (fun b hb' => hkc b (fun e2 => by
      subst e2
      rcases List.mem_append.1 hb' with h' | h'
      · have := h.k2 _ h'; omega
      · have := (g9 _ h').1; omega))
  · intro b hb'
    rcases List.mem_append.1 hb' with h' | h'
    · exact h.k2 _ h'
    · have := (g9 _ h').1; omega
  · intro b e
    refine ⟨fun e2 => ?_, fun hb' => ?_⟩
    · rcases onew _ e2 with h' | h'
      · exact (h.f12 b e).1 h'
      · have := (o1 _ e).2; omega
    · rcases List.mem_append.1 hb' with h' | h'
      · exact (h.f12 b e).2 h'
      · have := (o1 _ e).2; have := (g9 _ h').1; omega
  · intro b e hb'
    rcases onew _ e with h' | h'
    · exact h.f21 b h' hb'
    · have := l1 _ hb'; omega
  · refine strsK_good.keep h2.vs fun b hb' => ?_
    have := h.kv b hb'
    rw [hkc b (by omega)]
    exact hgb b (by omega) (fun e => by have := (o2 _ e).1; omega)
  · have hbel : Below w.heap.size w w5 := h2.bel.grown hg h2.bel.size fun k e => by have := (o2 _ e).1; omega
    exact hbel.setCell (by show w.heap.size ≤ hb; omega) _
  · have := hg.size; simp [World.setCell]; simp at this; omega

end
end Go.Proofs.YtjjfafgaphloaaaGreatDoor
namespace Go.Proofs.YtjjfafgaphloaaaGreatDoor
open Go.RowKit D
set_option linter.unusedVariables false
attribute [local go_sem ↓] Go.wp_at_zero Go.wp_at_succ
theorem infoBindW : (Tryz.prog.info? 140).map (fun i => (i.zero, i.size, i.bytes)) = some (some (.agg #[.slice none 0 0, .slice none 0 0]), 2, 48) := by kernel_rfl

theorem D.bindK_ones : Ones 2 bindK := fun h => by
  obtain ⟨s, v, b1, b2, rfl, _, h1, h2⟩ := h
  obtain ⟨A1, p1, rfl, _⟩ := sliceK_form h1
  obtain ⟨A2, p2, rfl, _⟩ := sliceK_form h2
  simp [Value.oneCell']

theorem D.binds_el {w : World} {Ad : Option Addr} {len cap k : Nat} {xs : List Bd} {bs : List Nat} (h : bindsK w [.slice Ad len cap] xs bs) (hk : k < xs.length) :
    ∃ b o A1 p1 A2 p2 bk, Ad = some ⟨b, o, none⟩ ∧ b ∈ bs ∧ w.cell? ⟨b, o + k * 2, none⟩ = some (.slice A1 xs[k].length p1) ∧ w.cell? ⟨b, o + k * 2 + 1, none⟩ = some (.slice A2 xs[k].length p2) ∧ bindK w [.slice A1 xs[k].length p1, .slice A2 xs[k].length p2] xs[k] bk ∧ ∀ c ∈ bk, c ∈ bs := by
  obtain ⟨b, o, cs, bk, rfl, hb, hcs, hcell, hR, hsub⟩ := sliceK_at h hk
  obtain ⟨A1, p1, A2, p2, rfl⟩ := bind_cells hR
  exact ⟨b, o, A1, p1, A2, p2, bk, rfl, hb, by simpa using hcell 0 _ rfl, by simpa [Nat.add_assoc] using hcell 1 _ rfl, hR, hsub⟩

/-- The first parts of a body, for one binding. -/
theorem D.freeB_snoc (list : List A) (body : List Pt) (b : Bd) (k : Nat) (h : k < body.length) : freeB list (body.take (k + 1)) b = (freeB list (body.take k) b && (!body[k].no || !hasB list (fillB body[k].atom b))) := by
  unfold freeB
  rw [List.take_succ_eq_append_getElem h, List.all_append]
  simp

set_option maxRecDepth 100000 in
set_option maxHeartbeats 4000000 in
theorem l4Without_any (list : List A) (body : List Pt) (all : List Bd) (v0 v1 v2 : Value) (bl bb ba : List Nat) (w : World) (hl : atomsK w [v0] list bl) (hb : partsK w [v1] body bb) (h : bindsK w [v2] all ba)
    (hasc : asc list = true) (hn : all.length ≤ 10000000000) (hbl : ∀ p ∈ body, p.atom.args.length ≤ 1000000) :
    Calls Tryz.prog 112 #[v0, v1, v2] w fun e w' => Below w.heap.size w w' ∧ ∃ v bs, e = .returned v ∧ bindsK w' [v] (all.filter (freeB list body)) bs := by
  obtain ⟨Al, pl, rfl, hl1, hl2⟩ := sliceK_form hl
  obtain ⟨Ab, pb, rfl, hb1, hb2⟩ := sliceK_form hb
  obtain ⟨Aa, pa, rfl, ha1, ha2⟩ := sliceK_form h
  obtain ⟨i0, hi, hz0, hz1, hz2⟩ := info_parts infoBindW
  have hlm := nat_ge_max (Nat.le_trans hb1 hb2)
  have hlm2 := nat_ge_max (Nat.le_trans ha1 ha2)
  have HL := Lib.hid hl
  have HB := Lib.hid hb
  have HA := Lib.hid h
  have HBL := Lib.hid hbl
  clear hl hb h hl1 hl2 hb2 ha2 hbl
  have hA0 : Below w.heap.size w (w.alloc (.cells #[] 140)) := (Below.refl _ _).alloc (Nat.le_refl _) _
  have hE : Coll 2 bindK w.heap.size 140 (w.alloc (.cells #[] 140)) (.slice (some ⟨w.heap.size, 0, none⟩) 0 0) [] [] [] := Coll.empty (heap_alloc_new w _) (Nat.le_refl _)
  go_enter Tryz.func112, Tryz.ntmps112
  go_wp2_with fail
  generalize w.alloc (.cells #[] 140) = w0 at *
  go_loopw [7, 8, 9, 10] (fun o i _ _ wr => ∃ (k : Nat) (Am : Option Addr) (cm : Nat) (L : List Value) (bs : List Nat), k ≤ all.length ∧ i = .int .i64 k ∧ o = .slice Am ((all.take k).filter (freeB list body)).length cm ∧ Hid (Coll 2 bindK w.heap.size 140 wr (.slice Am ((all.take k).filter (freeB list body)).length cm) L ((all.take k).filter (freeB list body)) bs) ∧ Hid (Below w.heap.size w wr)) (fun _ i _ _ _ => all.length - (intOf i).toNat)
  case atStart => exact ⟨0, _, _, _, _, Nat.zero_le _, rfl, rfl, Lib.hid hE, Lib.hid hA0⟩
  case round =>
    obtain ⟨k, Am, cm, L, bs, hk, rfl, rfl, hC, hBw⟩ := hrel
    clear hE hA0
    by_cases hlt : k < all.length
    · have hk0 : (0 : Int) ≤ (k : Int) := by omega
      have hk1 : (k : Int) < (all.length : Int) := by omega
      have HSN : Hid ((all.take (k + 1)).filter (freeB list body) = (all.take k).filter (freeB list body) ++ (if freeB list body all[k] then [all[k]] else [])) := Lib.hid (by
        rw [List.take_succ_eq_append_getElem hlt, List.filter_append]
        congr 1
        by_cases hf : freeB list body all[k] = true
        · simp [List.filter, hf]
        · simp [List.filter, hf])
      have HLEN : Hid (((all.take k).filter (freeB list body)).length ≤ k) := Lib.hid (Nat.le_trans (List.length_filter_le _ _) (by simp; omega))
      generalize hys : (all.take k).filter (freeB list body) = ys at *
      generalize hb0 : all[k] = b0 at *
      clear hys
      generalize wr = wo at *
      go_wp2_with fail
      go_loopw [9, 10] (fun ok i wr => ∃ (j : Nat), j ≤ body.length ∧ i = .int .i64 j ∧ ok = .bool (freeB list (body.take j) b0) ∧ Hid (Below wo.heap.size wo wr)) (fun _ i _ => body.length - (intOf i).toNat)
      case atStart => exact ⟨0, Nat.zero_le _, rfl, rfl, Lib.hid (Below.refl _ _)⟩
      case round =>
        obtain ⟨j, hj, rfl, rfl, hB2⟩ := hrel
        have hBW2 := hBw.out.trans (hB2.out.mono hBw.out.size)
        by_cases hjt : j < body.length
        · obtain ⟨pb1, po, Ae, ce, bk, rfl, _, e0, e1, e2, hel, _⟩ := parts_el (partsK_good.below HB.out hBW2) hjt
          obtain ⟨ab1, ao, A1, p1, A2, p2, bq, rfl, _, d0, d1, hbd, _⟩ := binds_el (bindsK_good.below HA.out hBW2) hlt
          rw [hb0] at d0 d1 hbd
          have hj0 : (0 : Int) ≤ (j : Int) := by omega
          have hj1 : (j : Int) < (body.length : Int) := by omega
          have HFS := Lib.hid (freeB_snoc list body b0 j hjt)
          have HJT := Lib.hid hjt
          have HAL := Lib.hid (HBL.out _ (List.getElem_mem hjt))
          generalize body[j] = p at *
          obtain ⟨pno, px⟩ := p
          dsimp only at *
          cases hfb : freeB list (body.take j) b0 with
          | false =>
            have HZ : Hid (freeB list (body.take (j + 1)) b0 = false) := Lib.hid (by rw [HFS.out, hfb]; rfl)
            clear HFS hfb e0 e1 e2 hel d0 d1 hbd
            go_wp2_with fail
            go_quiet (fail)
            go_wp2
            go_roundw
            case rel => exact ⟨j + 1, hjt, by go_num, by rw [HZ.out], Lib.hid (below_drewN hB2.out _)⟩
            case measure => simp [intOf]; omega
          | true =>
            cases pno with
            | false =>
              have HZ : Hid (freeB list (body.take (j + 1)) b0 = true) := Lib.hid (by rw [HFS.out, hfb]; rfl)
              clear HFS hfb e1 e2 hel d0 d1 hbd
              go_wp2_with fail
              go_quiet (fail)
              go_wp2
              go_roundw
              case rel => exact ⟨j + 1, hjt, by go_num, by rw [HZ.out], Lib.hid (below_drewN hB2.out _)⟩
              case measure => simp [intOf]; omega
            | true =>
              have HZ : Hid (freeB list (body.take (j + 1)) b0 = !hasB list (fillB px b0)) := Lib.hid (by rw [HFS.out, hfb]; simp)
              have hat : atomK wr [.string px.name, .slice Ae px.args.length ce] px bk := by
                obtain ⟨t, hcs, h1, h2⟩ := hel
                simp only [List.cons.injEq, true_and, and_true] at hcs
                subst hcs
                exact ⟨_, rfl, h1, h2⟩
              have hD : Below wr.heap.size wr wr.drew := Below.drew (Below.refl _ _)
              have q1 := fun w' (hb : Below wr.heap.size wr w') => fill_any px b0 _ _ _ _ bk bq w' (atomK_good.below hat hb) (bindK_good.below hbd hb) HAL.out
              have q2 := fun w' (hb : Below wr.heap.size wr w') d0 d1 b5 (h5 : atomK w' [d0, d1] (fillB px b0) b5) => l3Has_any list (fillB px b0) _ d0 d1 bl b5 w' (atomsK_good.below HL.out (hBW2.trans (hb.mono hBW2.size))) h5 hasc
              have Q1 := Lib.hid q1
              have Q2 := Lib.hid q2
              clear HFS hfb hel hbd q1 q2 hat
              go_wp2_with fail
              go_region_held3 (fun w' => w'.cell? ⟨pb1, po + j * 3, none⟩ = some (.bool true) ∧ w'.cell? ⟨pb1, po + j * 3 + 1, none⟩ = some (.string px.name) ∧ w'.cell? ⟨pb1, po + j * 3 + 2, none⟩ = some (.slice Ae px.args.length ce) ∧ w'.cell? ⟨ab1, ao + k * 2, none⟩ = some (.slice A1 b0.length p1) ∧ w'.cell? ⟨ab1, ao + k * 2 + 1, none⟩ = some (.slice A2 b0.length p2))
                (first | go_keep | exact hq | exact hq2)
                (first
                  | (go_at_call 74; refine (Q1.out _ hD).mono ?_; rintro e w5 ⟨hb5, g0, g1, b5, rfl, h5, _⟩; have B5 := hD.trans (hb5.mono hD.size); have hq := And.intro (cell_later B5 e0) (And.intro (cell_later B5 e1) (And.intro (cell_later B5 e2) (And.intro (cell_later B5 d0) (cell_later B5 d1)))))
                  | (go_at_call 159; refine (Q2.out _ B5 _ _ _ h5).mono ?_; rintro e w6 ⟨rfl, hb6⟩; have B6 := B5.trans (hb6.mono B5.size); have hq2 := And.intro (cell_later B6 e0) (And.intro (cell_later B6 e1) (And.intro (cell_later B6 e2) (And.intro (cell_later B6 d0) (cell_later B6 d1))))))
              have HB6 := Lib.hid (hB2.out.trans (B6.mono hB2.out.size))
              clear Q1 Q2 hq hq2 h5 hb5 hb6 B5 B6 e0 e1 e2 d0 d1
              go_wp2
              go_roundw
              case rel => exact ⟨j + 1, hjt, by go_num, by rw [HZ.out], HB6⟩
              case measure => simp [intOf]; omega
        · have he : j = body.length := by omega
          have hj1 : ¬ (j : Int) < (body.length : Int) := by omega
          have HFR : Hid (freeB list (body.take j) b0 = freeB list body b0) := Lib.hid (by rw [he, List.take_of_length_le (Nat.le_refl _)])
          have HC2 := Lib.hid (hC.out.below bindK_good hB2.out)
          have HBW2 := Lib.hid hBW2
          clear he hj
          cases hfb : freeB list (body.take j) b0 with
          | false =>
            have HE : Hid ((all.take (k + 1)).filter (freeB list body) = ys) := Lib.hid (by rw [HSN.out, ← HFR.out, hfb]; simp)
            clear hfb HSN HFR
            go_wp2
            go_roundw
            case rel => exact ⟨k + 1, Am, cm, L, bs, hlt, by go_num, by rw [HE.out], by rw [HE.out]; exact HC2, HBW2⟩
            case measure => simp [intOf]; omega
          | true =>
            have HE : Hid ((all.take (k + 1)).filter (freeB list body) = ys ++ [b0]) := Lib.hid (by rw [HSN.out, ← HFR.out, hfb]; simp)
            obtain ⟨ab1, ao, A1, p1, A2, p2, bq, rfl, _, d0, d1, hbd, hsub⟩ := binds_el (bindsK_good.below HA.out hBW2) hlt
            rw [hb0] at d0 d1 hbd
            clear hfb HSN HFR
            have hAt : Below wr.heap.size wr (wr.alloc (.cells #[.slice A1 b0.length p1, .slice A2 b0.length p2] 140)) := (Below.refl _ _).alloc (Nat.le_refl _) _
            have hfar : ∀ c ∈ bq, (Value.slice Am ys.length cm).ownBlock ≠ some c := fun c hc e => by
              have h1 := (own_inn HC2.out.own c e).1
              have h2 := bindsK_good.lt HA.out c (hsub c hc)
              omega
            have HLL : Hid (Coll 2 bindK w.heap.size 140 (wr.alloc (.cells #[.slice A1 b0.length p1, .slice A2 b0.length p2] 140)) (.slice Am ys.length cm) L ys bs ∧ Rowed 2 bindK (wr.alloc (.cells #[.slice A1 b0.length p1, .slice A2 b0.length p2] 140)) [.slice A1 b0.length p1, .slice A2 b0.length p2] [b0] bq ∧ Lies (wr.alloc (.cells #[.slice A1 b0.length p1, .slice A2 b0.length p2] 140)) (some ⟨wr.heap.size, 0, none⟩) [.slice A1 b0.length p1, .slice A2 b0.length p2] ∧ Below w.heap.size w (wr.alloc (.cells #[.slice A1 b0.length p1, .slice A2 b0.length p2] 140)) ∧ w.heap.size ≤ (wr.alloc (.cells #[.slice A1 b0.length p1, .slice A2 b0.length p2] 140)).heap.size ∧ ∀ c ∈ bq, (Value.slice Am ys.length cm).ownBlock ≠ some c) :=
              Lib.hid ⟨HC2.out.below bindK_good hAt, Rowed.one_el bindK_ones (bindK_good.below hbd hAt), lies_block (heap_alloc_new wr _), HBW2.out.trans (hAt.mono HBW2.out.size), Nat.le_trans HBW2.out.size hAt.size, hfar⟩
            have H63 : Hid (ys.length + 1 ≤ maxLen) := Lib.hid (by have := HLEN.out; unfold maxLen; omega)
            have HBY : Hid ((ys.length + 1) * 48 ≤ 140737488355328) := Lib.hid (by have := HLEN.out; omega)
            clear hAt hfar hbd hC hBw hBW2 hB2 HC2
            go_wp2_with (at_builtin; refine wpList_coll rfl _ _ _ rfl w.heap.size 140 i0 (.agg #[.slice none 0 0, .slice none 0 0]) 2 48 Tryz.underlying135 hi hz0 hz1 hz2 rfl (Nat.zero_lt_succ 1) bindK_good (.slice Am ys.length cm) ys.length L _ bs rfl HLL.out.1 rfl (some ⟨wr.heap.size, 0, none⟩) 1 1 _ [b0] bq rfl HLL.out.2.1 rfl HLL.out.2.2.1 HLL.out.2.2.2.2.2 H63.out HBY.out w w.heap.size HLL.out.2.2.2.1 (Nat.le_refl _) HLL.out.2.2.2.2.1 ?_; intro A4 c4 w4 hC4 hB4 hS4 hG4; have HZ := Lib.hid (And.intro hC4 hB4); clear hC4 hB4 hS4 hG4)
            go_roundw
            case rel => exact ⟨k + 1, A4, c4, _, _, hlt, by go_num, by rw [HE.out, List.length_append]; rfl, by rw [HE.out, List.length_append]; exact Lib.hid HZ.out.1, Lib.hid HZ.out.2⟩
            case measure => simp [intOf]; omega
    · have he : k = all.length := by omega
      have hk1 : ¬ (k : Int) < (all.length : Int) := by omega
      have HR : Hid (∃ b2, bindsK wr [.slice Am ((all.take k).filter (freeB list body)).length cm] (all.filter (freeB list body)) b2) := Lib.hid (by
        obtain ⟨b2, h2, _⟩ := hC.out.slice
        rw [he, List.take_of_length_le (Nat.le_refl _)] at h2
        rw [he, List.take_of_length_le (Nat.le_refl _)]
        exact ⟨b2, h2⟩)
      clear hC he hk
      go_wp2
      go_ret
      exact ⟨hBw.out, _, rfl, HR.out⟩

end Go.Proofs.YtjjfafgaphloaaaGreatDoor
