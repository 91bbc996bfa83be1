/- Of the proof of FnOnce: Draw, RdrP, Fs. -/
import Derived.Test.YtjjfafgaphloaaaGreatDoorM06
namespace Go.Proofs.YtjjfafgaphloaaaGreatDoor
open Go.RowKit D
set_option linter.unusedVariables false
attribute [local go_sem ↓] Go.wp_at_zero Go.wp_at_succ
theorem infoTermD : (Tryz.prog.info? 127).map (fun i => (i.zero, i.size, i.bytes)) = some (some (.agg #[.bool false, .string ⟨#[]⟩]), 2, 24) := by kernel_rfl

theorem Rdr.belowN {g p N : Nat} {w w' : World} (h : Rdr g p w) (hb : Below N w w') (hg : g < N) : Rdr g p w' := by
  obtain ⟨Ad, n, cap, h1, h2, h3⟩ := h
  refine ⟨Ad, n, cap, (hb.block g hg).trans h1, h2, fun k hk => ?_⟩
  obtain ⟨b, o, c, e, hlt, h4, h5⟩ := h3 k hk
  exact ⟨b, o, c, e, hlt, (World.cell?_of_block (w := w) (hb.block b (by omega))).trans h4, h5⟩

/-- A small text; not 'zzz', and no line's end in it. -/
def D.Sm (s : ByteArray) : Prop := s.size ≤ 16 ∧ s.data.toList ≠ [122, 122, 122] ∧ s.data.toList.all (fun c => c != 10) = true

instance (s : ByteArray) : Decidable (D.Sm s) := by unfold D.Sm; infer_instance

theorem D.Sm.max {s : ByteArray} (h : Sm s) : s.size ≤ maxLen := Nat.le_trans h.1 (by decide)

/-- What a drawn word leaves. -/
def Word (g p : Nat) (w : World) (e : Ending) (w' : World) : Prop := ∃ s : ByteArray, e = .returned (.string s) ∧ Sm s ∧ Rdr g (p + 1) w' ∧ KeptBut [g] w w'

theorem of_lit (g p : Nat) (ws : List ByteArray) (n : Nat) (w : World) (h : Rdr g p w) (hp : p ≤ 1000000) (hn : ws.length = n) (h1 : 1 ≤ n) (h2 : n ≤ 100) (hs : ∀ s ∈ ws, Sm s) :
    Calls Tryz.prog 94 #[.pointer (some ⟨g, 0, none⟩), .slice (some ⟨w.heap.size, 0, none⟩) n n] (w.alloc (.cells (ws.map Value.string).toArray 9)) (Word g p w) := by
  subst hn
  have hA : Below w.heap.size w (w.alloc (.cells (ws.map Value.string).toArray 9)) := (Below.refl _ _).alloc (Nat.le_refl _) _
  have hlt := h.lt
  refine (of_any g p _ ws _ _ (h.below hA) (strs_of_block (cap := ws.length) (heap_alloc_new w _) (Nat.le_refl _) (by unfold maxLen; omega) (fun s hm => Sm.max (hs s hm))) hp h1 (by omega) (by split <;> simp <;> omega)).mono ?_
  rintro e w' ⟨s, rfl, hm, hR, hG⟩
  exact ⟨s, rfl, hs s hm, hR, (KeptBut.of_below hA).trans (KeptBut.of_grown hG)⟩

/-- An atom under way: its box is block n1, the result's block is n0; the terms are a row of the draw's own. -/
structure AInv (g p : Nat) (w : World) (n0 n1 : Nat) (nm : ByteArray) (v : Value) (L : List Value) (xs : List T) (wr : World) : Prop where
  r0 : ∃ x y, wr.heap[n0]? = some (.cells #[x, y] 33 (0, 0))
  r1 : wr.heap[n1]? = some (.cells #[.string nm, v] 33 (0, 0))
  h0 : w.heap.size ≤ n0
  h1 : w.heap.size ≤ n1
  ne : n0 ≠ n1
  coll : Coll 2 termK w.heap.size 127 wr v L xs []
  rdr : Rdr g p wr
  kept : KeptBut [g] w wr
  glt : g < w.heap.size
  small : ∀ t ∈ xs, Sm t.name

section
variable {g p : Nat} {w : World} {n0 n1 : Nat} {nm : ByteArray} {v : Value} {L : List Value} {xs : List T} {wr : World}
theorem AInv.call {p2 : Nat} {w2 : World} (h : AInv g p w n0 n1 nm v L xs wr) (hR : Rdr g p2 w2) (hK : KeptBut [g] wr w2) : AInv g p2 w n0 n1 nm v L xs w2 := by
  have hg := h.glt; have h0 := h.h0; have h1 := h.h1
  obtain ⟨x, y, hr0⟩ := h.r0
  exact ⟨⟨x, y, (hK.block n0 (lt_of_block hr0) (by simp; omega)).trans hr0⟩, (hK.block n1 (lt_of_block h.r1) (by simp; omega)).trans h.r1, h0, h1, h.ne, h.coll.keptG termK_good hK hg (by simp), hR, h.kept.trans hK, hg, h.small⟩

theorem AInv.drew (h : AInv g p w n0 n1 nm v L xs wr) : AInv g p w n0 n1 nm v L xs wr.drew :=
  ⟨h.r0, h.r1, h.h0, h.h1, h.ne, ⟨h.coll.own, h.coll.row.keep termK_good fun _ _ => rfl, h.coll.far⟩, h.rdr.drew, h.kept.drew, h.glt, h.small⟩

theorem AInv.alloc (h : AInv g p w n0 n1 nm v L xs wr) (o : Obj) : AInv g p w n0 n1 nm v L xs (wr.alloc o) := by
  obtain ⟨x, y, hr0⟩ := h.r0
  have hA : Below wr.heap.size wr (wr.alloc o) := (Below.refl _ _).alloc (Nat.le_refl _) _
  exact ⟨⟨x, y, (hA.block n0 (lt_of_block hr0)).trans hr0⟩, (hA.block n1 (lt_of_block h.r1)).trans h.r1, h.h0, h.h1, h.ne, h.coll.below termK_good hA, h.rdr.below hA, h.kept.belowN hA h.kept.size, h.glt, h.small⟩

theorem AInv.cell0 (h : AInv g p w n0 n1 nm v L xs wr) : wr.cell? ⟨n1, 0, none⟩ = some (.string nm) := cell_of_blk h.r1

theorem AInv.cell1 (h : AInv g p w n0 n1 nm v L xs wr) : wr.cell? ⟨n1, 1, none⟩ = some v := cell_of_blk h.r1

theorem AInv.froz (h : AInv g p w n0 n1 nm v L xs wr) (o : Nat) : wr.frozen? ⟨n1, o, none⟩ = false := frozen_of_blk h.r1

theorem AInv.froz0 (h : AInv g p w n0 n1 nm v L xs wr) (o : Nat) : wr.frozen? ⟨n0, o, none⟩ = false := by obtain ⟨x, y, hr0⟩ := h.r0; exact frozen_of_blk hr0

/-- A term's cells, new. -/
theorem AInv.lit (b : Bool) (s : ByteArray) (h : AInv g p w n0 n1 nm v L xs wr) (hs : Sm s) :
    Coll 2 termK w.heap.size 127 (wr.alloc (.cells #[.bool b, .string s] 127)) v L xs [] ∧ Rowed 2 termK (wr.alloc (.cells #[.bool b, .string s] 127)) [.bool b, .string s] [⟨b, s⟩] [] ∧ Lies (wr.alloc (.cells #[.bool b, .string s] 127)) (some ⟨wr.heap.size, 0, none⟩) [.bool b, .string s] ∧ Below w.heap.size wr (wr.alloc (.cells #[.bool b, .string s] 127)) ∧ w.heap.size ≤ (wr.alloc (.cells #[.bool b, .string s] 127)).heap.size ∧ Sm s := by
  have h2 := h.alloc (.cells #[.bool b, .string s] 127)
  exact ⟨h2.coll, Rowed.one_el termK_ones ⟨rfl, Sm.max hs, rfl⟩, lies_block (heap_alloc_new wr _), (Below.refl _ _).alloc h.kept.size _, h2.kept.size, hs⟩

/-- Behind an append of terms, and the store back. -/
theorem AInv.app {w3 : World} {o : Obj} {v3 : Value} {L3 : List Value} {u : T} (h : AInv g p w n0 n1 nm v L xs wr) (hC : Coll 2 termK w.heap.size 127 w3 v3 L3 (xs ++ [u]) []) (hB : Below w.heap.size wr w3) (hG : (wr.alloc o).grownBy w3 v.ownBlock) (hu : Sm u.name) :
    w3.cell? ⟨n1, 0, none⟩ = some (.string nm) ∧ w3.cell? ⟨n1, 1, none⟩ = some v ∧ w3.frozen? ⟨n1, 1, none⟩ = false ∧ AInv g p w n0 n1 nm v3 L3 (xs ++ [u]) (w3.setCell ⟨n1, 1, none⟩ v3) := by
  have h2 := h.alloc o
  obtain ⟨x, y, hr0⟩ := h2.r0
  have b0 := (hG.block n0 (lt_of_block hr0) (own_ne_blk h2.coll.own hr0 (by decide)).symm).trans hr0
  have b1 := (hG.block n1 (lt_of_block h2.r1) (own_ne_blk h2.coll.own h2.r1 (by decide)).symm).trans h2.r1
  refine ⟨cell_of_blk b1, cell_of_blk b1, frozen_of_blk b1, ⟨x, y, (Below.heap_setCell _ _ _ _ h.ne).trans b0⟩, blk_set b1, h.h0, h.h1, h.ne, hC.setBox termK_good (own_ne_blk hC.own b1 (by decide)) (by simp), ?_, (h.kept.belowN hB (Nat.le_refl _)).setNew h.h1 _, h.glt, fun t ht => (List.mem_append.1 ht).elim (h.small t) fun e => by rw [List.mem_singleton.1 e]; exact hu⟩
  exact (h.rdr.belowN hB h.glt).belowN ((Below.refl w.heap.size w3).setCell h.h1 _) h.glt

theorem AInv.name (h : AInv g p w n0 n1 nm v L xs wr) (s : ByteArray) : AInv g p w n0 n1 s v L xs (wr.setCell ⟨n1, 0, none⟩ (.string s)) := by
  obtain ⟨x, y, hr0⟩ := h.r0
  exact ⟨⟨x, y, (Below.heap_setCell _ _ _ _ h.ne).trans hr0⟩, blk_set0 h.r1, h.h0, h.h1, h.ne, h.coll.setBox termK_good (own_ne_blk h.coll.own h.r1 (by decide)) (by simp), h.rdr.belowN ((Below.refl w.heap.size wr).setCell h.h1 _) h.glt, h.kept.setNew h.h1 _, h.glt, h.small⟩

end
/-- What a drawn atom leaves: its terms are a row of its own. -/
def AtomD (k g p q : Nat) (w : World) (e : Ending) (w' : World) : Prop :=
  ∃ (a : A) (v : Value) (L : List Value) (p' : Nat), e = .returned (.agg #[.string a.name, v]) ∧ Sm a.name ∧ a.args.length ≤ k ∧ Coll 2 termK w.heap.size 127 w' v L a.args [] ∧ Rdr g p' w' ∧ p' ≤ p + q ∧ KeptBut [g] w w'

/-- The same, the terms' names small. -/
def AtomS (k g p q : Nat) (w : World) (e : Ending) (w' : World) : Prop :=
  ∃ (a : A) (v : Value) (L : List Value) (p' : Nat), e = .returned (.agg #[.string a.name, v]) ∧ Sm a.name ∧ a.args.length ≤ k ∧ Coll 2 termK w.heap.size 127 w' v L a.args [] ∧ Rdr g p' w' ∧ p' ≤ p + q ∧ KeptBut [g] w w' ∧ ∀ t ∈ a.args, Sm t.name

theorem AtomS.weak {k g p q : Nat} {w : World} {e : Ending} {w' : World} (h : AtomS k g p q w e w') : AtomD k g p q w e w' := by
  obtain ⟨a, v, L, p', h1, h2, h3, h4, h5, h6, h7, _⟩ := h
  exact ⟨a, v, L, p', h1, h2, h3, h4, h5, h6, h7⟩

theorem AInv.done {g p : Nat} {w : World} {n0 n1 : Nat} {nm : ByteArray} {v : Value} {L : List Value} {xs : List T} {wr : World} {k q p0 : Nat} (h : AInv g p w n0 n1 nm v L xs wr) (hn : Sm nm) (hx : xs.length ≤ k) (hp : p ≤ p0 + q) :
    AtomS k g p0 q w (.returned (.agg #[.string nm, v])) ((wr.setCell ⟨n0, 0, none⟩ (.string nm)).setCell ⟨n0, 1, none⟩ v) := by
  obtain ⟨x, y, hr0⟩ := h.r0
  have hB : Below w.heap.size wr ((wr.setCell ⟨n0, 0, none⟩ (.string nm)).setCell ⟨n0, 1, none⟩ v) := ((Below.refl _ _).setCell h.h0 _).setCell h.h0 _
  have b0 := blk_set0 (u := .string nm) hr0
  have c1 := h.coll.setBox (o := 0) (u := .string nm) termK_good (own_ne_blk h.coll.own hr0 (by decide)) (by simp)
  exact ⟨⟨nm, xs⟩, v, L, p, rfl, hn, hx, c1.setBox termK_good (own_ne_blk c1.own b0 (by decide)) (by simp), h.rdr.belowN hB h.glt, hp, h.kept.belowN hB (Nat.le_refl _), h.small⟩

theorem l10Word_any (g p : Nat) (w : World) (h : Rdr g p w) (hp : p ≤ 1000000) :
    Calls Tryz.prog 136 #[.pointer (some ⟨g, 0, none⟩)] w (Word g p w) := by
  have ho := of_lit g p [⟨#[97]⟩, ⟨#[98]⟩, ⟨#[99]⟩, ⟨#[100]⟩, ⟨#[97]⟩, ⟨#[98]⟩] 6 w h hp rfl (by decide) (by decide) (by decide)
  clear h
  go_enter Tryz.func136, Tryz.ntmps136
  go_wp2_with fail
  refine ho.mono ?_
  rintro e w1 ⟨s, rfl, hs, hR, hK⟩
  have H := Lib.hid (And.intro hR hK)
  clear hR hK ho
  go_wp2
  go_ret
  exact ⟨s, rfl, hs, H.out.1, H.out.2⟩

theorem l10Var_any (g p : Nat) (w : World) (h : Rdr g p w) (hp : p ≤ 1000000) :
    Calls Tryz.prog 135 #[.pointer (some ⟨g, 0, none⟩)] w (Word g p w) := by
  have ho := of_lit g p [⟨#[88]⟩, ⟨#[89]⟩, ⟨#[90]⟩, ⟨#[88]⟩, ⟨#[89]⟩] 5 w h hp rfl (by decide) (by decide) (by decide)
  clear h
  go_enter Tryz.func135, Tryz.ntmps135
  go_wp2_with fail
  refine ho.mono ?_
  rintro e w1 ⟨s, rfl, hs, hR, hK⟩
  have H := Lib.hid (And.intro hR hK)
  clear hR hK ho
  go_wp2
  go_ret
  exact ⟨s, rfl, hs, H.out.1, H.out.2⟩

theorem l10Args_any (nm : ByteArray) (w : World) :
    Calls Tryz.prog 134 #[.string nm] w fun e w' => ∃ k : Nat, k ≤ 3 ∧ e = .returned (.int .i64 k) ∧ Below w.heap.size w w' := by
  cases n0 : (nm.toList == [101])
  · skip
    cases n1 : (nm.toList == [116])
    · skip
      cases n2 : (nm.toList == [122])
      · skip
        cases n3 : (nm.toList == [104])
        · skip
          go_enter Tryz.func134, Tryz.ntmps134
          go_wp2
          go_ret
          exact ⟨1, by decide, rfl, Below.refl _ _⟩
        · skip
          go_enter Tryz.func134, Tryz.ntmps134
          go_wp2
          go_ret
          exact ⟨3, by decide, rfl, Below.refl _ _⟩
      · skip
        go_enter Tryz.func134, Tryz.ntmps134
        go_wp2
        go_ret
        exact ⟨0, by decide, rfl, Below.refl _ _⟩
    · skip
      go_enter Tryz.func134, Tryz.ntmps134
      go_wp2
      go_ret
      exact ⟨2, by decide, rfl, Below.refl _ _⟩
  · skip
    go_enter Tryz.func134, Tryz.ntmps134
    go_wp2
    go_ret
    exact ⟨2, by decide, rfl, Below.refl _ _⟩

set_option maxRecDepth 100000 in
set_option maxHeartbeats 2000000 in
theorem l10Atom_s (nm : ByteArray) (vars : Bool) (g p : Nat) (w : World) (h : Rdr g p w) (hp : p ≤ 900000) (hs : Sm nm) :
    Calls Tryz.prog 98 #[.pointer (some ⟨g, 0, none⟩), .string nm, .bool vars] w (AtomS 3 g p 6 w) := by
  obtain ⟨i0, hi, hz0, hz1, hz2⟩ := info_parts infoTermD
  have HS := Lib.hid hs
  have HPP := Lib.hid hp
  have hb0 : Below w.heap.size w ((w.alloc (.cells #[.string ⟨#[]⟩, .slice none 0 0] 33)).alloc (.cells #[.string nm, .slice none 0 0] 33)) := ((Below.refl _ _).alloc (Nat.le_refl _) _).alloc (by simp) _
  have ht := heap_two w (.cells #[.string ⟨#[]⟩, .slice none 0 0] 33) (.cells #[.string nm, .slice none 0 0] 33)
  have HI : Hid (AInv g p w w.heap.size (w.heap.size + 1) nm (.slice none 0 0) [] [] ((w.alloc (.cells #[.string ⟨#[]⟩, .slice none 0 0] 33)).alloc (.cells #[.string nm, .slice none 0 0] 33))) :=
    Lib.hid ⟨⟨_, _, ht.1⟩, ht.2, Nat.le_refl _, Nat.le_succ _, by omega, Coll.nil _, h.below hb0, KeptBut.of_below hb0, h.lt, by simp⟩
  have hka := l10Args_any nm ((w.alloc (.cells #[.string ⟨#[]⟩, .slice none 0 0] 33)).alloc (.cells #[.string nm, .slice none 0 0] 33))
  clear h hs hp hb0 ht
  go_enter Tryz.func98, Tryz.ntmps98
  go_wp2_with fail
  refine hka.mono ?_
  rintro e w1 ⟨k0, hk0, rfl, hb1⟩
  have HI1 := Lib.hid (HI.out.call (HI.out.rdr.below hb1) (KeptBut.of_below hb1))
  clear HI hka hb1
  go_wp2
  go_loopw [8] (fun n wr => ∃ (k : Nat) (xs : List T) (Av : Option Addr) (cv : Nat) (L : List Value) (p' : Nat), k ≤ 3 ∧ n = .int .i64 k ∧ xs.length + k ≤ 3 ∧ p' + 2 * k ≤ p + 6 ∧ p' ≤ p + 6 ∧ AInv g p' w w.heap.size (w.heap.size + 1) nm (.slice Av xs.length cv) L xs wr) (fun n _ => (intOf n).toNat)
  case atStart => exact ⟨k0, [], none, 0, [], p, hk0, rfl, by simpa using hk0, by omega, by omega, HI1.out⟩
  case round =>
    obtain ⟨k, xs, Av, cv, L, p', hk, rfl, hx, hp2, hp3, hI⟩ := hrel
    have HI0 := Lib.hid hI
    have HP : Hid (p' + 2 * k ≤ 900006 ∧ p' + 2 * k ≤ p + 6 ∧ p' ≤ p + 6) := Lib.hid (by have := HPP.out; omega)
    have H63 : Hid (xs.length + 1 ≤ maxLen) := Lib.hid (by unfold maxLen; omega)
    have HBY : Hid ((xs.length + 1) * 24 ≤ 140737488355328) := Lib.hid (by omega)
    clear hI HI1
    by_cases hk0' : 0 < k
    · have hki : (0 : Int) < (k : Int) := by omega
      have hk3 : (k : Int) ≤ 3 := by omega
      have HW : Hid (wrap64 ((k : Int) - 1) = ((k - 1 : Nat) : Int)) := Lib.hid (by unfold wrap64; omega)
      have HKP : Hid (0 < k ∧ k ≤ 3 ∧ xs.length + k ≤ 3) := Lib.hid ⟨hk0', hk, hx⟩
      clear hp2 hp3 hx hk hk0 hk0'
      cases vars
      · skip
        have HI := Lib.hid HI0.out.drew
        have q0 := HI.out.cell0
        have q1 := HI.out.cell1
        have q2 := HI.out.froz 1
        go_wp2
        go_region_law
          (first
            | (go_simp; go_at_call 136; refine (l10Word_any g _ _ HI.out.rdr (by have := HP.out; omega)).mono ?_; rintro e w2 ⟨s, rfl, hs2, hR2, hK2⟩; replace HI := Lib.hid (HI.out.call hR2 hK2); replace q0 := HI.out.cell0; replace q1 := HI.out.cell1; replace q2 := HI.out.froz 1; have q3 : w.heap.size + 1 < w2.heap.size := lt_of_cell q1; have HT := Lib.hid (HI.out.lit false s hs2); clear hR2 hK2 hs2)
            | (refine step_coll (by rfl) (.tmp 32) (.tmp 36) _ (by rfl) w.heap.size 127 i0 (.agg #[.bool false, .string ⟨#[]⟩]) 2 24 Tryz.underlying31 hi hz0 hz1 hz2 rfl (Nat.zero_lt_succ 1) termK_good (.slice Av xs.length cv) xs.length L xs [] (by rfl) HT.out.1 rfl (some ⟨w2.heap.size, 0, none⟩) 1 1 _ [⟨false, s⟩] _ (by rfl) HT.out.2.1 rfl HT.out.2.2.1 (fun b hb => by simp at hb) H63.out HBY.out w2 w.heap.size HT.out.2.2.2.1 (Nat.le_refl _) HT.out.2.2.2.2.1 ?_; intro A3 c3 w3 hC3 hB3 hS3 hG3; have HZ := Lib.hid (HI.out.app hC3 hB3 hG3 HT.out.2.2.2.2.2); replace q0 := HZ.out.1; replace q1 := HZ.out.2.1; replace q2 := HZ.out.2.2.1; clear hC3 hB3 hS3 hG3))
        all_goals
          have HI9 := Lib.hid HZ.out.2.2.2
          clear HI HT HZ q0 q1 q2 q3
          go_wp2
          go_roundw
          case rel => exact ⟨k - 1, xs ++ [⟨false, s⟩], A3, c3, L ++ [.bool false, .string s], p' + 1, by have := HKP.out; omega, (by first | rw [HW.out] | (have := HKP.out; go_num)), by have := HKP.out; simp; omega, by have := HP.out; have := HKP.out; omega, by have := HP.out; have := HKP.out; omega, by simpa using HI9.out⟩
          case measure => have := HKP.out; (try rw [HW.out]); simp [intOf]; omega
      · have hpk := pick_any g p' 6 wr HI0.out.rdr (by have := HP.out; omega) (by omega) (by omega)
        go_wp2_with fail
        refine hpk.mono ?_
        rintro e w9 ⟨j, rfl, hj, hR9, hG9⟩
        replace HI0 := Lib.hid (HI0.out.call hR9 (KeptBut.of_grown hG9))
        clear hpk hR9 hG9
        by_cases hj0 : 0 < j
        · have hji : (0 : Int) < (j : Int) := by omega
          have HI := Lib.hid HI0.out.drew
          have q0 := HI.out.cell0
          have q1 := HI.out.cell1
          have q2 := HI.out.froz 1
          go_wp2
          go_region_law
            (first
              | (go_simp; go_at_call 135; refine (l10Var_any g _ _ HI.out.rdr (by have := HP.out; omega)).mono ?_; rintro e w2 ⟨s, rfl, hs2, hR2, hK2⟩; replace HI := Lib.hid (HI.out.call hR2 hK2); replace q0 := HI.out.cell0; replace q1 := HI.out.cell1; replace q2 := HI.out.froz 1; have q3 : w.heap.size + 1 < w2.heap.size := lt_of_cell q1; have HT := Lib.hid (HI.out.lit true s hs2); clear hR2 hK2 hs2)
              | (refine step_coll (by rfl) (.tmp 24) (.tmp 28) _ (by rfl) w.heap.size 127 i0 (.agg #[.bool false, .string ⟨#[]⟩]) 2 24 Tryz.underlying31 hi hz0 hz1 hz2 rfl (Nat.zero_lt_succ 1) termK_good (.slice Av xs.length cv) xs.length L xs [] (by rfl) HT.out.1 rfl (some ⟨w2.heap.size, 0, none⟩) 1 1 _ [⟨true, s⟩] _ (by rfl) HT.out.2.1 rfl HT.out.2.2.1 (fun b hb => by simp at hb) H63.out HBY.out w2 w.heap.size HT.out.2.2.2.1 (Nat.le_refl _) HT.out.2.2.2.2.1 ?_; intro A3 c3 w3 hC3 hB3 hS3 hG3; have HZ := Lib.hid (HI.out.app hC3 hB3 hG3 HT.out.2.2.2.2.2); replace q0 := HZ.out.1; replace q1 := HZ.out.2.1; replace q2 := HZ.out.2.2.1; clear hC3 hB3 hS3 hG3))
          all_goals
            have HI9 := Lib.hid HZ.out.2.2.2
            clear HI HT HZ q0 q1 q2 q3
            go_wp2
            go_roundw
            case rel => exact ⟨k - 1, xs ++ [⟨true, s⟩], A3, c3, L ++ [.bool true, .string s], p' + 1 + 1, by have := HKP.out; omega, (by first | rw [HW.out] | (have := HKP.out; go_num)), by have := HKP.out; simp; omega, by have := HP.out; have := HKP.out; omega, by have := HP.out; have := HKP.out; omega, by simpa using HI9.out⟩
            case measure => have := HKP.out; (try rw [HW.out]); simp [intOf]; omega
        · obtain rfl : j = 0 := by omega
          have HI := Lib.hid HI0.out.drew
          have q0 := HI.out.cell0
          have q1 := HI.out.cell1
          have q2 := HI.out.froz 1
          go_wp2
          go_region_law
            (first
              | (go_simp; go_at_call 136; refine (l10Word_any g _ _ HI.out.rdr (by have := HP.out; omega)).mono ?_; rintro e w2 ⟨s, rfl, hs2, hR2, hK2⟩; replace HI := Lib.hid (HI.out.call hR2 hK2); replace q0 := HI.out.cell0; replace q1 := HI.out.cell1; replace q2 := HI.out.froz 1; have q3 : w.heap.size + 1 < w2.heap.size := lt_of_cell q1; have HT := Lib.hid (HI.out.lit false s hs2); clear hR2 hK2 hs2)
              | (refine step_coll (by rfl) (.tmp 32) (.tmp 36) _ (by rfl) w.heap.size 127 i0 (.agg #[.bool false, .string ⟨#[]⟩]) 2 24 Tryz.underlying31 hi hz0 hz1 hz2 rfl (Nat.zero_lt_succ 1) termK_good (.slice Av xs.length cv) xs.length L xs [] (by rfl) HT.out.1 rfl (some ⟨w2.heap.size, 0, none⟩) 1 1 _ [⟨false, s⟩] _ (by rfl) HT.out.2.1 rfl HT.out.2.2.1 (fun b hb => by simp at hb) H63.out HBY.out w2 w.heap.size HT.out.2.2.2.1 (Nat.le_refl _) HT.out.2.2.2.2.1 ?_; intro A3 c3 w3 hC3 hB3 hS3 hG3; have HZ := Lib.hid (HI.out.app hC3 hB3 hG3 HT.out.2.2.2.2.2); replace q0 := HZ.out.1; replace q1 := HZ.out.2.1; replace q2 := HZ.out.2.2.1; clear hC3 hB3 hS3 hG3))
          all_goals
            have HI9 := Lib.hid HZ.out.2.2.2
            clear HI HT HZ q0 q1 q2 q3
            go_wp2
            go_roundw
            case rel => exact ⟨k - 1, xs ++ [⟨false, s⟩], A3, c3, L ++ [.bool false, .string s], p' + 1 + 1, by have := HKP.out; omega, (by first | rw [HW.out] | (have := HKP.out; go_num)), by have := HKP.out; simp; omega, by have := HP.out; have := HKP.out; omega, by have := HP.out; have := HKP.out; omega, by simpa using HI9.out⟩
            case measure => have := HKP.out; (try rw [HW.out]); simp [intOf]; omega
    · obtain rfl : k = 0 := by omega
      have q0 := HI0.out.cell0
      have q1 := HI0.out.cell1
      have f0 := HI0.out.froz0 0
      have f1 := HI0.out.froz0 1
      have z0 : ∃ x y, wr.cell? ⟨w.heap.size, 0, none⟩ = some x ∧ wr.cell? ⟨w.heap.size, 1, none⟩ = some y := by
        obtain ⟨x, y, hr⟩ := HI0.out.r0
        exact ⟨x, y, cell_of_blk hr, cell_of_blk hr⟩
      obtain ⟨zx, zy, z0, z1⟩ := z0
      have HD := Lib.hid (HI0.out.done (k := 3) (q := 6) (p0 := p) HS.out (by omega) (by omega))
      clear hp2 hp3 hx hk hk0 hk0'
      go_wp2
      refine bodyPost_ret (v := .agg #[.string nm, .slice Av xs.length cv]) (by simp [results, Tryz.results98, go_sem, z0, z1]) rfl HD.out

theorem l10Atom_any (nm : ByteArray) (vars : Bool) (g p : Nat) (w : World) (h : Rdr g p w) (hp : p ≤ 900000) (hs : Sm nm) :
    Calls Tryz.prog 98 #[.pointer (some ⟨g, 0, none⟩), .string nm, .bool vars] w (AtomD 3 g p 6 w) := (l10Atom_s nm vars g p w h hp hs).mono fun _ _ h => h.weak

end Go.Proofs.YtjjfafgaphloaaaGreatDoor
namespace Go.Proofs.YtjjfafgaphloaaaGreatDoor
open Go.RowKit D
set_option linter.unusedVariables false
/-- A block whose cells are neither texts nor yes or no. -/
def D.NoSB (w : World) (n0 : Nat) : Prop := ∀ o u, w.cell? ⟨n0, o, none⟩ = some u → (∀ s, u ≠ .string s) ∧ ∀ b, u ≠ .bool b

theorem Rdr.noSB {g p : Nat} {w : World} (h : Rdr g p w) : NoSB w g := by
  obtain ⟨Ad, n, cap, hg, _, _⟩ := h
  intro o u hu
  rw [cell_of_blk hg] at hu
  match o with
  | 0 => simp at hu; subst hu; exact ⟨fun s => by simp, fun b => by simp⟩
  | 1 => simp at hu; subst hu; exact ⟨fun s => by simp, fun b => by simp⟩
  | o + 2 => simp at hu

theorem D.terms_apartN {w : World} {n0 : Nat} (ha : NoSB w n0) {v : Value} {ts : List T} {bs : List Nat} (h : termsK w [v] ts bs) : n0 ∉ bs := by
  intro hb
  obtain ⟨Ad, cap, hcs, hl, hm, g0, g1⟩ := h
  by_cases hne : ts = []
  · rw [g0 hne] at hb; simp at hb
  · obtain ⟨b, o, rfl, F, G, rfl, hF⟩ := g1 hne
    rcases List.mem_cons.1 hb with rfl | hb
    · match ts, hne with
      | y :: r, _ =>
        obtain ⟨a1, a2, a3⟩ := hF 0 y rfl
        obtain ⟨e, _, _⟩ := a3
        have := a2 0 (.bool y.var) (by rw [e]; rfl)
        exact (ha _ _ this).2 _ rfl
    · obtain ⟨k, hk, hck⟩ := List.mem_flatMap.1 hb
      have hkl := List.mem_range.1 hk
      obtain ⟨a1, a2, a3⟩ := hF k ts[k] (List.getElem?_eq_getElem hkl)
      obtain ⟨_, _, e⟩ := a3
      rw [e] at hck; simp at hck

theorem D.rowedP_apart {w : World} {n0 : Nat} (ha : NoSB w n0) {L : List Value} {xs : List Pt} {bs : List Nat} (h : Rowed 3 partK w L xs bs) : n0 ∉ bs := by
  obtain ⟨h1, h2, G, rfl, h3⟩ := h
  intro hb
  obtain ⟨j, hj, hc⟩ := List.mem_flatMap.1 hb
  obtain ⟨s, _, _, ht⟩ := h3 j (List.mem_range.1 hj)
  exact terms_apartN ha ht hc

end Go.Proofs.YtjjfafgaphloaaaGreatDoor
namespace Go.Proofs.YtjjfafgaphloaaaGreatDoor
open Go.RowKit D
set_option linter.unusedVariables false
attribute [local go_sem ↓] Go.wp_at_zero Go.wp_at_succ
set_option maxHeartbeats 1000000 in
theorem fsSame_any (xs ys : List A) (v1 v2 : Value) (b1 b2 : List Nat) (w : World) (h : atomsK w [v1] xs b1) (h2 : atomsK w [v2] ys b2) :
    Calls Tryz.prog 7 #[v1, v2] w (Truth (xs = ys) w) := by
  obtain ⟨Ad, cap, rfl, hl, hm⟩ := sliceK_form h
  obtain ⟨Ae, cape, rfl, hl2, hm2⟩ := sliceK_form h2
  have hlm := nat_ge_max (Nat.le_trans hl hm)
  clear hl hm hl2 hm2
  by_cases hq0 : xs.length = ys.length
  · have hq : ((xs.length : Int) == (ys.length : Int)) = true := by simp [hq0]
    have HL := Lib.hid hq0
    clear hq0
    go_enter Tryz.func7, Tryz.ntmps7
    go_wp2
    go_loopw [5] (fun i wr => ∃ k : Nat, k ≤ xs.length ∧ i = .int .i64 k ∧ (∀ j (h1 : j < xs.length) (h2 : j < ys.length), j < k → xs[j] = ys[j]) ∧ Below w.heap.size w wr) (fun i _ => xs.length - (intOf i).toNat)
    case atStart => exact ⟨0, Nat.zero_le _, rfl, fun j _ _ h => by omega, Below.refl _ _⟩
    case round =>
      obtain ⟨k, hk, rfl, hall, hb⟩ := hrel
      have HA := Lib.hid hall
      clear hall
      by_cases hlt : k < xs.length
      · have hlt2 : k < ys.length := by have := HL.out; omega
        obtain ⟨bb, o, A1, p1, bk1, rfl, _, e0, e1, hel, _⟩ := atoms_el (atomsK_good.below h hb) hlt
        obtain ⟨bc, o', A2, p2, bk2, rfl, _, g0, g1, hel2, _⟩ := atoms_el (atomsK_good.below h2 hb) hlt2
        have hk0 : (0 : Int) ≤ (k : Int) := by omega
        have hk1 : (k : Int) < (xs.length : Int) := by omega
        have hk2 : (k : Int) < (ys.length : Int) := by omega
        have HLT := Lib.hid (And.intro hlt hlt2)
        have HU : Hid (xs[k] = ys[k] → ∀ j (h1 : j < xs.length) (h2 : j < ys.length), j < k + 1 → xs[j] = ys[j]) := Lib.hid (fun e j h1 h2 hj => by
          by_cases hjk : j = k
          · subst hjk; exact e
          · exact HA.out j h1 h2 (by omega))
        have HV : Hid (xs[k] ≠ ys[k] → ¬ xs = ys) := Lib.hid (fun hne e => hne (by subst e; rfl))
        have hf := fsAtom_any xs[k] ys[k] _ _ _ _ bk1 bk2 _ (atomK_good.below hel ((Below.refl _ _).drew)) (atomK_good.below hel2 ((Below.refl _ _).drew))
        generalize xs[k] = t at *
        generalize ys[k] = u at *
        clear h h2 hlt hlt2 hel hel2
        go_wp2
        go_region_held3 (fun w' => w'.cell? ⟨bb, o + k * 2, none⟩ = some (.string t.name) ∧ w'.cell? ⟨bb, o + k * 2 + 1, none⟩ = some (.slice A1 t.args.length p1) ∧ w'.cell? ⟨bc, o' + k * 2, none⟩ = some (.string u.name) ∧ w'.cell? ⟨bc, o' + k * 2 + 1, none⟩ = some (.slice A2 u.args.length p2)) (first | go_keep | exact ⟨q0, q1, q2, q3⟩)
          (first | (go_at_call 30; refine hf.mono ?_; rintro e w' ⟨r, rfl, hr, hb'⟩; have HR := Lib.hid hr; clear hr; have q0 := cell_later hb' e0; have q1 := cell_later hb' e1; have q2 := cell_later hb' g0; have q3 := cell_later hb' g1))
        have HB' : Hid (Below w.heap.size w w') := Lib.hid (hb.trans (((Below.refl _ _).drew.trans hb').mono hb.size))
        cases r
        · have HW := Lib.hid (HV.out (fun e => by have := HR.out.2 e; cases this))
          go_wp2
          go_ret
          exact ⟨false, rfl, by simpa using HW.out, HB'.out⟩
        · have HW := Lib.hid (HU.out (HR.out.1 rfl))
          go_wp2
          go_roundw
          case rel => exact ⟨k + 1, HLT.out.1, by go_num, HW.out, HB'.out⟩
          case measure => have := HLT.out.1; simp [intOf]; omega
      · have he : k = xs.length := by omega
        have HW : Hid (xs = ys) := Lib.hid (List.ext_getElem HL.out fun j h1 h2 => HA.out j h1 h2 (by omega))
        subst he
        clear h h2
        go_wp2
        go_ret
        exact ⟨true, rfl, by simpa using HW.out, hb⟩
  · have hq : ((xs.length : Int) == (ys.length : Int)) = false := beq_eq_false_iff_ne.2 (by omega)
    have HE : Hid (¬ xs = ys) := Lib.hid (fun e => hq0 (by rw [e]))
    clear h h2 hq0
    go_enter Tryz.func7, Tryz.ntmps7
    go_wp2
    go_ret
    exact ⟨false, rfl, by simpa using HE.out, Below.refl _ _⟩

end Go.Proofs.YtjjfafgaphloaaaGreatDoor
