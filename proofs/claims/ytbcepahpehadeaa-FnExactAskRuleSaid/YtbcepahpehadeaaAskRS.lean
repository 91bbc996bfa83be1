/- The walks of l7Rules and spec.AskRule. -/
import Derived.WalkKit
import Derived.Lib.Hide
import Derived.WalkSpells
import Derived.WalkLawsBesides
import Derived.BigQuiet
import Derived.Deep.RegionHeld3
import Derived.Deep.RegionWith
import Derived.Deep.RegionLaw
import Derived.Deep.DrawnRows
import Derived.Deep.AppendLies
import Derived.Test.YtbcepahpehadeaaProg
import Derived.Test.YtbcepahpehadeaaLate
import Derived.Test.YtbcepahpehadeaaAskRP
import Derived.Test.YtbcepahpehadeaaAskS
import Derived.Test.YtbcepahpehadeaaL3A
namespace Go.Proofs.Ytbcepahpehadeaa
open Go.RowKit D
set_option linter.unusedVariables false
set_option linter.unusedSimpArgs false
attribute [local go_sem ↓] Go.wp_at_zero Go.wp_at_succ

theorem infoPart7 : (Try.prog.info? 51).map (fun i => (i.zero, i.size, i.bytes)) = some (some (.agg #[.bool false, .string ⟨#[]⟩, .slice none 0 0]), 3, 48) := by kernel_rfl
theorem infoRule7 : (Try.prog.info? 37).map (fun i => (i.zero, i.size, i.bytes)) = some (some (.agg #[.string ⟨#[]⟩, .slice none 0 0, .slice none 0 0]), 3, 64) := by kernel_rfl

/-- A rule in a box of its own, its parts so far. -/
structure D.LInv (w1 : World) (nm : ByteArray) (sl v : Value) (L : List Value) (ps : List Pt) (bs : List Nat) (wr : World) : Prop where
  r1 : wr.heap[w1.heap.size]? = some (.cells #[.string nm, sl, v] 37 (0, 0))
  coll : Coll 3 partK (w1.heap.size + 1) 51 wr v L ps bs
  far : ∀ b ∈ bs, w1.heap.size + 1 ≤ b
  bel : Below w1.heap.size w1 wr
  siz : w1.heap.size + 1 ≤ wr.heap.size
/-- One part more, laid in a block of its own. -/
structure D.LLit (w1 : World) (nm : ByteArray) (sl v : Value) (L : List Value) (ps : List Pt) (bs : List Nat) (p : Pt) (A5 : Option Addr) (c5 : Nat) (b5 : List Nat) (w5 : World) : Prop where
  r1 : w5.heap[w1.heap.size]? = some (.cells #[.string nm, sl, v] 37 (0, 0))
  coll : Coll 3 partK (w1.heap.size + 1) 51 (w5.alloc (.cells #[.bool p.no, .string p.atom.name, .slice A5 p.atom.args.length c5] 51)) v L ps bs
  row : Rowed 3 partK (w5.alloc (.cells #[.bool p.no, .string p.atom.name, .slice A5 p.atom.args.length c5] 51)) [.bool p.no, .string p.atom.name, .slice A5 p.atom.args.length c5] [p] b5
  lies : Lies (w5.alloc (.cells #[.bool p.no, .string p.atom.name, .slice A5 p.atom.args.length c5] 51)) (some ⟨w5.heap.size, 0, none⟩) [.bool p.no, .string p.atom.name, .slice A5 p.atom.args.length c5]
  far : ∀ b ∈ b5, v.ownBlock ≠ some b
  new5 : ∀ b ∈ b5, w1.heap.size + 1 ≤ b
  far0 : ∀ b ∈ bs, w1.heap.size + 1 ≤ b
  belw : Below w1.heap.size w1 (w5.alloc (.cells #[.bool p.no, .string p.atom.name, .slice A5 p.atom.args.length c5] 51))
  siz : w1.heap.size + 1 ≤ (w5.alloc (.cells #[.bool p.no, .string p.atom.name, .slice A5 p.atom.args.length c5] 51)).heap.size
  later : Below w5.heap.size w5 (w5.alloc (.cells #[.bool p.no, .string p.atom.name, .slice A5 p.atom.args.length c5] 51))
/-- It is appended; it is to be stored into the box. -/
structure D.LPut (w1 : World) (nm : ByteArray) (sl v v6 : Value) (L6 : List Value) (ps6 : List Pt) (bs6 : List Nat) (W w6 : World) : Prop where
  cell : w6.cell? ⟨w1.heap.size, 2, none⟩ = some v
  froz : w6.frozen? ⟨w1.heap.size, 2, none⟩ = false
  old : ∀ {a : Addr} {u : Value}, W.cell? a = some u → a.block < w1.heap.size + 1 → w6.cell? a = some u
  fin : LInv w1 nm sl v6 L6 ps6 bs6 (w6.setCell ⟨w1.heap.size, 2, none⟩ v6)
section
variable {w1 : World} {nm : ByteArray} {sl v : Value} {L : List Value} {ps : List Pt} {bs : List Nat} {wr : World}
theorem D.LInv.later {w' : World} (h : LInv w1 nm sl v L ps bs wr) (hk : Below wr.heap.size wr w') : LInv w1 nm sl v L ps bs w' :=
  ⟨(hk.block _ (lt_of_block h.r1)).trans h.r1, h.coll.below partK_good hk, h.far, h.bel.trans (hk.mono h.bel.size), Nat.le_trans h.siz hk.size⟩
theorem D.part_of7 {w : World} {c1 c2 : Value} {a : A} {bs : List Nat} (b : Bool) (h : atomK w [c1, c2] a bs) : partK w [.bool b, c1, c2] ⟨b, a⟩ bs := by
  obtain ⟨s, hcs, hn, ht⟩ := h
  simp only [List.cons.injEq, and_true] at hcs
  obtain ⟨rfl, rfl⟩ := hcs
  exact ⟨_, rfl, hn, ht⟩
theorem D.LInv.lit {no : Bool} {a : A} {A5 : Option Addr} {c5 : Nat} {b5 : List Nat} {w5 : World} (h : LInv w1 nm sl v L ps bs wr) (hk : Below wr.heap.size wr w5) (hR : atomK w5 (#[.string a.name, .slice A5 a.args.length c5] : Array Value).toList a b5) (hN : New wr.heap.size w5 b5) :
    LLit w1 nm sl v L ps bs ⟨no, a⟩ A5 c5 b5 w5 := by
  have h5 := h.later hk
  have hA : Below w5.heap.size w5 (w5.alloc (.cells #[.bool no, .string a.name, .slice A5 a.args.length c5] 51)) := (Below.refl _ _).alloc (Nat.le_refl _) _
  have h6 := h5.later hA
  exact ⟨h5.r1, h6.coll, Rowed.one_el partK_ones (partK_good.below (part_of7 no hR) hA), lies_block (heap_alloc_new w5 _), fun b hb => own_block_lt h.coll.own (hN.own b hb).1, fun b hb => Nat.le_trans h.siz (hN.own b hb).1, h.far, h6.bel, h6.siz, hA⟩
theorem D.LLit.app {p : Pt} {A5 : Option Addr} {c5 : Nat} {b5 : List Nat} {w5 w6 : World} {v6 : Value} {L6 : List Value} {ps6 : List Pt} (h : LLit w1 nm sl v L ps bs p A5 c5 b5 w5) (hC : Coll 3 partK (w1.heap.size + 1) 51 w6 v6 L6 ps6 (bs ++ b5))
    (hB : Below (w1.heap.size + 1) (w5.alloc (.cells #[.bool p.no, .string p.atom.name, .slice A5 p.atom.args.length c5] 51)) w6) :
    LPut w1 nm sl v v6 L6 ps6 (bs ++ b5) (w5.alloc (.cells #[.bool p.no, .string p.atom.name, .slice A5 p.atom.args.length c5] 51)) w6 := by
  have e1 := (hB.block _ (Nat.lt_succ_self _)).trans ((h.later.block _ (lt_of_block h.r1)).trans h.r1)
  refine ⟨cell_of_blk e1, frozen_of_blk e1, fun {a u} ha hlt => (hB.cell (p := a) hlt).trans ha, ?_, hC.setBox partK_good (own_block_ge hC.own (Nat.lt_succ_self _)) ?_, fun b hb => (List.mem_append.1 hb).elim (h.far0 b) (h.new5 b), (h.belw.trans (hB.mono (Nat.le_succ _))).setCell (Nat.le_refl _) _, ?_⟩
  · have := blk_setG (o := 2) (u := v6) e1
    simpa using this
  · intro hm
    have : w1.heap.size + 1 ≤ w1.heap.size := (List.mem_append.1 hm).elim (h.far0 _) (h.new5 _)
    omega
  · have := hB.size; have := h.siz; simp [World.setCell] at *; omega
end

theorem D.rules_one {w : World} {g : Nat} {cs : Array Value} {t : TypeId} {r : Ru} {bs : List Nat} (h : w.heap[g]? = some (.cells cs t (0, 0))) (hR : ruleK w cs.toList r bs) : rulesK w [.slice (some ⟨g, 0, none⟩) 1 1] [r] (g :: bs) := by
  refine ⟨_, 1, rfl, Nat.le_refl _, by unfold maxLen; omega, fun h => by simp at h, fun _ => ⟨g, 0, rfl, fun _ => cs.toList, fun _ => bs, by simp [List.range_succ], fun k x hx => ?_⟩⟩
  obtain ⟨hk, rfl⟩ := List.getElem?_eq_some_iff.1 hx
  obtain rfl : k = 0 := by simpa using hk
  refine ⟨(ruleK_ones hR).1, fun j u hu => ?_, by simpa using hR⟩
  rw [cell_of_blk h]
  simpa using hu
theorem D.ruleRB_done {w w5 : World} {hd : A} {ps : List Pt} {s q : Value} {bk bq : List Nat} (hb : Below w.heap.size w w5) (h0 : w5.heap[w.heap.size]? = some (.cells #[.string ⟨#[]⟩, .slice none 0 0, .slice none 0 0] 37 (0, 0)))
    (hn : hd.name.size ≤ maxLen) (hT : termsK w5 [s] hd.args bk) (hP : partsK w5 [q] ps bq) (hk : ∀ b ∈ bk ++ bq, b ≠ w.heap.size) :
    ReadsRB (⟨hd, ps⟩, true) w.heap.size w (.returned (.tuple #[.agg #[.string hd.name, s, q], .bool true])) (((w5.setCell ⟨w.heap.size, 0, none⟩ (.string hd.name)).setCell ⟨w.heap.size, 1, none⟩ s).setCell ⟨w.heap.size, 2, none⟩ q) := by
  have keep : ∀ b, b ≠ w.heap.size → (((w5.setCell ⟨w.heap.size, 0, none⟩ (.string hd.name)).setCell ⟨w.heap.size, 1, none⟩ s).setCell ⟨w.heap.size, 2, none⟩ q).heap[b]? = w5.heap[b]? := fun b hb' => by
    rw [Below.heap_setCell _ _ _ _ hb', Below.heap_setCell _ _ _ _ hb', Below.heap_setCell _ _ _ _ hb']
  refine ⟨((hb.setCell (p := ⟨w.heap.size, 0, none⟩) (Nat.le_refl _) _).setCell (p := ⟨w.heap.size, 1, none⟩) (Nat.le_refl _) _).setCell (p := ⟨w.heap.size, 2, none⟩) (Nat.le_refl _) _, _, bk ++ bq, rfl, ⟨_, _, bk, bq, rfl, hn, rfl, termsK_good.keep hT fun b hb' => keep b (hk b (List.mem_append_left _ hb')), partsK_good.keep hP fun b hb' => keep b (hk b (List.mem_append_right _ hb'))⟩⟩

/-- Read behind the call out of blocks that are new. -/
def D.ReadsF {α : Type} (R : Rel α) (x : α) (B : Nat) (w : World) (e : Ending) (w' : World) : Prop := Below B w w' ∧ ∃ v bs, e = .returned v ∧ R w' [v] x bs ∧ ∀ b ∈ bs, B ≤ b

set_option maxRecDepth 100000 in
set_option maxHeartbeats 4000000 in
theorem l7Rules_any (rs : List Ru) (v : Value) (bs : List Nat) (w : World) (h : rulesK w [v] rs bs) (hn : rs.length ≤ 1000) (hs : ∀ r ∈ rs, r.head.args.length ≤ 1000 ∧ r.body.length ≤ 1000 ∧ ∀ p ∈ r.body, p.atom.args.length ≤ 1000) :
    Calls Try.prog 30 #[v] w (ReadsF rulesK rs w.heap.size w) := by
  obtain ⟨Ad, cap, rfl, hl, hm⟩ := sliceK_form h
  obtain ⟨i0, hi, hz0, hz1, hz2⟩ := info_parts infoPart7
  obtain ⟨j0, gi, gz0, gz1, gz2⟩ := info_parts infoRule7
  have hlm := nat_ge_max (Nat.le_trans hl hm)
  have hA : Below w.heap.size w (w.alloc (.cells #[] 37)) := (Below.refl _ _).alloc (Nat.le_refl _) _
  have HST := Lib.hid (And.intro hA (Coll.empty (n := 3) (R := ruleK) (e := 37) (heap_alloc_new w (.cells #[] 37)) (Nat.le_refl w.heap.size)))
  have HLTB := Lib.hid (rulesK_good.lt h)
  clear hl hm hA
  go_enter Try.func30, Try.ntmps30
  go_wp2
  go_loopw [3, 4] (fun v i wr => ∃ (k : Nat) (Av : Option Addr) (cv : Nat) (L : List Value) (done : List Ru) (bo : List Nat), k ≤ rs.length ∧ i = .int .i64 k ∧ v = .slice Av done.length cv ∧ done = rs.take k ∧ Coll 3 ruleK w.heap.size 37 wr (.slice Av done.length cv) L done bo ∧ (∀ b ∈ bo, w.heap.size ≤ b) ∧ Below w.heap.size w wr) (fun _ i _ => rs.length - (intOf i).toNat)
  case atStart => exact ⟨0, _, _, _, [], [], Nat.zero_le _, rfl, rfl, rfl, HST.out.2, fun b hb => by simp at hb, HST.out.1⟩
  case round =>
    obtain ⟨i, Av, cv, LL, done, bo, hi', rfl, rfl, hdone, hC, hbo, hb⟩ := hrel
    have HBO := Lib.hid hbo
    clear HST hbo
    have HDN := Lib.hid hdone
    clear hdone
    by_cases hlt : i < rs.length
    · obtain ⟨b, o, sl, sq, bk, bq, rfl, hbm, d0, d1, d2, hnm, hT, hP, _, _⟩ := rules_at h hlt
      have hb0 := HLTB.out b hbm
      replace d0 := cell_later hb d0
      replace d1 := cell_later hb d1
      replace d2 := cell_later hb d2
      obtain ⟨hs1, hs2, hs3⟩ := hs _ (List.getElem_mem hlt)
      have hk0 : (0 : Int) ≤ (i : Int) := by omega
      have hk1 : (i : Int) < (rs.length : Int) := by omega
      have HLT := Lib.hid hlt
      have HTK : Hid (rs.take (i + 1) = rs.take i ++ [rs[i]]) := Lib.hid (List.take_succ_eq_append_getElem hlt)
      have HDL : Hid (done.length ≤ 1000) := Lib.hid (by rw [HDN.out, List.length_take]; omega)
      obtain ⟨Ae, ce, rfl, _, _⟩ := sliceK_form hT
      obtain ⟨Af, cf, rfl, hlf, hmf⟩ := sliceK_form hP
      have hlf' := nat_ge_max (Nat.le_trans hlf hmf)
      have HH := Lib.hid (And.intro hnm (And.intro hT hP))
      clear hnm hT hP hlf hmf hs h
      generalize rs[i] = r at *
      clear hlt
      obtain ⟨⟨hn1, hargs⟩, body⟩ := r
      dsimp only at *
      have hca := l3Atom_any ⟨hn1, hargs⟩ (.string hn1) (.slice Ae hargs.length ce) bk wr (atomK_good.below ⟨_, rfl, HH.out.1, HH.out.2.1⟩ hb) (by simp only; omega)
      have HW := Lib.hid (And.intro hC hb)
      clear hC hb
      obtain ⟨wo, hwo⟩ : ∃ wo : World, wo = wr := ⟨_, rfl⟩
      subst hwo
      go_wp2_with fail
      refine hca.mono ?_
      rintro e w1 ⟨hb1, cs1, b1, rfl, hR1, hN1⟩
      obtain ⟨A1, c1, rfl⟩ := atom_cells hR1
      dsimp only at hR1 ⊢
      have hA1 : Below w1.heap.size w1 (w1.alloc (.cells #[.string hn1, .slice A1 hargs.length c1, .slice none 0 0] 37)) := (Below.refl _ _).alloc (Nat.le_refl _) _
      have HL0 : Hid (LInv w1 hn1 (.slice A1 hargs.length c1) (.slice none 0 0) [] [] [] (w1.alloc (.cells #[.string hn1, .slice A1 hargs.length c1, .slice none 0 0] 37))) :=
        Lib.hid ⟨heap_alloc_new w1 _, Coll.nil _, fun b hb => by simp at hb, hA1, by simp⟩
      have hB1 := HW.out.2.trans (hb1.mono HW.out.2.size)
      replace d2 := cell_later hb1 d2
      have HB1 := Lib.hid hB1
      have HR1 := Lib.hid (And.intro hR1 (And.intro hN1 hb1))
      have hws : w.heap.size ≤ w1.heap.size := hB1.size
      have hlb : b < w1.heap.size + 1 := by omega
      have hlb1 : b < w1.heap.size := by omega
      clear hca hR1 hN1 hb1 hB1 d0 d1 hA1
      go_wp2
      go_loopw [6] (fun k wr => ∃ (j : Nat) (Ab : Option Addr) (cb : Nat) (L : List Value) (ps : List Pt) (bs : List Nat), j ≤ body.length ∧ k = .int .i64 j ∧ ps = body.take j ∧ LInv w1 hn1 (.slice A1 hargs.length c1) (.slice Ab ps.length cb) L ps bs wr) (fun k _ => body.length - (intOf k).toNat)
      case atStart => exact ⟨0, none, 0, [], [], [], Nat.zero_le _, rfl, rfl, HL0.out⟩
      case round =>
        obtain ⟨k, Ab, cb, L, ps, bs', hk, rfl, hps, hI⟩ := hrel
        clear HL0
        have HPS := Lib.hid hps
        clear hps
        have c2 : wr.cell? ⟨w1.heap.size, 2, none⟩ = some (.slice Ab ps.length cb) := cell_of_blk hI.r1
        replace d2 := cell_later hI.bel d2
        by_cases hlt : k < body.length
        · obtain ⟨b2, o2, s2, bk2, rfl, hbm2, f0, f1, f2, hnm2, hT2, _⟩ := parts_at HH.out.2.2 hlt
          have hlb2 : b2 < w1.heap.size + 1 := by have := partsK_good.lt HH.out.2.2 b2 hbm2; omega
          have hB2 := HB1.out.trans (hI.bel.mono hws)
          replace f0 := cell_later hB2 f0
          replace f1 := cell_later hB2 f1
          replace f2 := cell_later hB2 f2
          have hj0 : (0 : Int) ≤ (k : Int) := by omega
          have hj1 : (k : Int) < (body.length : Int) := by omega
          have HLK := Lib.hid hlt
          have HTB : Hid (body.take (k + 1) = body.take k ++ [body[k]]) := Lib.hid (List.take_succ_eq_append_getElem hlt)
          have hs4 := hs3 _ (List.getElem_mem hlt)
          have HPL : Hid (ps.length ≤ 1000) := Lib.hid (by rw [HPS.out, List.length_take]; omega)
          have H63 : Hid (ps.length + 1 ≤ maxLen) := Lib.hid (by have := HPL.out; unfold maxLen; omega)
          have HBY : Hid ((ps.length + 1) * 48 ≤ 140737488355328) := Lib.hid (by have := HPL.out; omega)
          obtain ⟨Ae, ce, rfl, _, _⟩ := sliceK_form hT2
          have hD : Below wr.heap.size wr wr.drew := (Below.refl _ _).drew
          have HI := Lib.hid (hI.later hD)
          have hB3 : Below w.heap.size w wr.drew := hB2.trans (hD.mono hB2.size)
          have hat : atomK w [.string body[k].atom.name, .slice Ae body[k].atom.args.length ce] body[k].atom bk2 := ⟨_, rfl, hnm2, hT2⟩
          have HQ := Lib.hid (l3Atom_any body[k].atom _ _ bk2 wr.drew (atomK_good.below hat hB3) (by omega))
          clear hI hT2 hnm2 hs4 hB2 hB3 hD hk hat
          generalize body[k] = p at *
          clear hlt
          obtain ⟨no, nm, args⟩ := p
          dsimp only at *
          go_wp2
          refine late_region (fun w' => w'.cell? ⟨w1.heap.size, 2, none⟩ = some (.slice Ab ps.length cb) ∧ w'.cell? ⟨b, o + i * 3 + 2, none⟩ = some (.slice (some ⟨b2, o2, none⟩) body.length cf) ∧ w'.cell? ⟨b2, o2 + k * 3, none⟩ = some (.bool no) ∧ w'.cell? ⟨b2, o2 + k * 3 + 1, none⟩ = some (.string nm) ∧ w'.cell? ⟨b2, o2 + k * 3 + 2, none⟩ = some (.slice Ae args.length ce)) (fun j => j == 25) (by kernel_rfl) ?_ (fun hHeld => ?_)
          · exact ⟨c2, d2, f0, f1, f2⟩
          refine late_take (i := 0) (oi := ⟨_, _, _, _, _, _⟩) (v := ?_) rfl (by kernel_rfl) (by kernel_rfl) (by kernel_rfl) (by kernel_rfl) (fun _ _ _ h => h) (Or.inl ⟨by rfl, ?_⟩) (by assumption) ?_
          rotate_left
          · (intro w hSw; (try dsimp only at hSw); go_simp); (first | done | with_reducible rfl)
          try simp only [Act.put, List.setIfInBounds_toArray, List.set_cons_zero, List.set_cons_succ]
          refine late_take (i := 1) (oi := ⟨_, _, _, _, _, _⟩) (v := ?_) rfl (by kernel_rfl) (by kernel_rfl) (by kernel_rfl) (by kernel_rfl) (fun _ _ _ h => h) (Or.inl ⟨by rfl, ?_⟩) (by assumption) ?_
          rotate_left
          · (intro w hSw; (try dsimp only at hSw); go_simp); (first | done | with_reducible rfl)
          try simp only [Act.put, List.setIfInBounds_toArray, List.set_cons_zero, List.set_cons_succ]
          refine late_take (i := 2) (oi := ⟨_, _, _, _, _, _⟩) (v := ?_) rfl (by kernel_rfl) (by kernel_rfl) (by kernel_rfl) (by kernel_rfl) (fun _ _ _ h => h) (Or.inl ⟨by rfl, ?_⟩) (by assumption) ?_
          rotate_left
          · (intro w hSw; (try dsimp only at hSw); go_simp); (first | done | with_reducible rfl)
          try simp only [Act.put, List.setIfInBounds_toArray, List.set_cons_zero, List.set_cons_succ]
          refine late_take (i := 3) (oi := ⟨_, _, _, _, _, _⟩) (v := ?_) rfl (by kernel_rfl) (by kernel_rfl) (by kernel_rfl) (by kernel_rfl) (fun _ _ _ h => h) (Or.inl ⟨by rfl, ?_⟩) (by assumption) ?_
          rotate_left
          · (intro w hSw; (try dsimp only at hSw); go_simp); (first | done | with_reducible rfl)
          try simp only [Act.put, List.setIfInBounds_toArray, List.set_cons_zero, List.set_cons_succ]
          refine late_take (i := 4) (oi := ⟨_, _, _, _, _, _⟩) (v := ?_) rfl (by kernel_rfl) (by kernel_rfl) (by kernel_rfl) (by kernel_rfl) (fun _ _ _ h => h) (Or.inl ⟨by rfl, ?_⟩) (by assumption) ?_
          rotate_left
          · (intro w hSw; (try dsimp only at hSw); go_simp); (first | done | with_reducible rfl)
          try simp only [Act.put, List.setIfInBounds_toArray, List.set_cons_zero, List.set_cons_succ]
          refine late_take (i := 5) (oi := ⟨_, _, _, _, _, _⟩) (v := ?_) rfl (by kernel_rfl) (by kernel_rfl) (by kernel_rfl) (by kernel_rfl) (fun _ _ _ h => h) (Or.inl ⟨by rfl, ?_⟩) (by assumption) ?_
          rotate_left
          · (intro w hSw; (try dsimp only at hSw); go_simp); (first | done | with_reducible rfl)
          try simp only [Act.put, List.setIfInBounds_toArray, List.set_cons_zero, List.set_cons_succ]
          refine late_take (i := 6) (oi := ⟨_, _, _, _, _, _⟩) (v := ?_) rfl (by kernel_rfl) (by kernel_rfl) (by kernel_rfl) (by kernel_rfl) (fun _ _ _ h => h) (Or.inl ⟨by rfl, ?_⟩) (by assumption) ?_
          rotate_left
          · (intro w hSw; (try dsimp only at hSw); go_simp); (first | done | with_reducible rfl)
          try simp only [Act.put, List.setIfInBounds_toArray, List.set_cons_zero, List.set_cons_succ]
          refine late_take (i := 7) (oi := ⟨_, _, _, _, _, _⟩) (v := ?_) rfl (by kernel_rfl) (by kernel_rfl) (by kernel_rfl) (by kernel_rfl) (fun _ _ _ h => h) (Or.inl ⟨by rfl, ?_⟩) (by assumption) ?_
          rotate_left
          · (intro w hSw; (try dsimp only at hSw); go_simp); (first | done | with_reducible rfl)
          try simp only [Act.put, List.setIfInBounds_toArray, List.set_cons_zero, List.set_cons_succ]
          refine late_take (i := 8) (oi := ⟨_, _, _, _, _, _⟩) (v := ?_) rfl (by kernel_rfl) (by kernel_rfl) (by kernel_rfl) (by kernel_rfl) (fun _ _ _ h => h) (Or.inl ⟨by rfl, ?_⟩) (by assumption) ?_
          rotate_left
          · (intro w hSw; (try dsimp only at hSw); go_simp); (first | done | with_reducible rfl)
          try simp only [Act.put, List.setIfInBounds_toArray, List.set_cons_zero, List.set_cons_succ]
          refine late_take (i := 9) (oi := ⟨_, _, _, _, _, _⟩) (v := ?_) rfl (by kernel_rfl) (by kernel_rfl) (by kernel_rfl) (by kernel_rfl) (fun _ _ _ h => h) (Or.inl ⟨by rfl, ?_⟩) (by assumption) ?_
          rotate_left
          · (intro w hSw; (try dsimp only at hSw); go_simp); (first | done | with_reducible rfl)
          try simp only [Act.put, List.setIfInBounds_toArray, List.set_cons_zero, List.set_cons_succ]
          refine late_take (i := 10) (oi := ⟨_, _, _, _, _, _⟩) (v := ?_) rfl (by kernel_rfl) (by kernel_rfl) (by kernel_rfl) (by kernel_rfl) (fun _ _ _ h => h) (Or.inl ⟨by rfl, ?_⟩) (by assumption) ?_
          rotate_left
          · (intro w hSw; (try dsimp only at hSw); go_simp); (first | done | with_reducible rfl)
          try simp only [Act.put, List.setIfInBounds_toArray, List.set_cons_zero, List.set_cons_succ]
          refine late_take (i := 11) (oi := ⟨_, _, _, _, _, _⟩) (v := ?_) rfl (by kernel_rfl) (by kernel_rfl) (by kernel_rfl) (by kernel_rfl) (fun _ _ _ h => h) (Or.inl ⟨by rfl, ?_⟩) (by assumption) ?_
          rotate_left
          · (intro w hSw; (try dsimp only at hSw); go_simp); (first | done | with_reducible rfl)
          try simp only [Act.put, List.setIfInBounds_toArray, List.set_cons_zero, List.set_cons_succ]
          refine late_take (i := 12) (oi := ⟨_, _, _, _, _, _⟩) (v := ?_) rfl (by kernel_rfl) (by kernel_rfl) (by kernel_rfl) (by kernel_rfl) (fun _ _ _ h => h) (Or.inl ⟨by rfl, ?_⟩) (by assumption) ?_
          rotate_left
          · (intro w hSw; (try dsimp only at hSw); go_simp); (first | done | with_reducible rfl)
          try simp only [Act.put, List.setIfInBounds_toArray, List.set_cons_zero, List.set_cons_succ]
          refine late_take (i := 13) (oi := ⟨_, _, _, _, _, _⟩) (v := ?_) rfl (by kernel_rfl) (by kernel_rfl) (by kernel_rfl) (by kernel_rfl) (fun _ _ _ h => h) (Or.inl ⟨by rfl, ?_⟩) (by assumption) ?_
          rotate_left
          · (intro w hSw; (try dsimp only at hSw); go_simp); (first | done | with_reducible rfl)
          try simp only [Act.put, List.setIfInBounds_toArray, List.set_cons_zero, List.set_cons_succ]
          refine late_take (i := 14) (oi := ⟨_, _, _, _, _, _⟩) (v := ?_) rfl (by kernel_rfl) (by kernel_rfl) (by kernel_rfl) (by kernel_rfl) (fun _ _ _ h => h) (Or.inl ⟨by rfl, ?_⟩) (by assumption) ?_
          rotate_left
          · (intro w hSw; (try dsimp only at hSw); go_simp); (first | done | with_reducible rfl)
          try simp only [Act.put, List.setIfInBounds_toArray, List.set_cons_zero, List.set_cons_succ]
          refine late_take (i := 15) (oi := ⟨_, _, _, _, _, _⟩) (v := ?_) rfl (by kernel_rfl) (by kernel_rfl) (by kernel_rfl) (by kernel_rfl) (fun _ _ _ h => h) (Or.inl ⟨by rfl, ?_⟩) (by assumption) ?_
          rotate_left
          · (intro w hSw; (try dsimp only at hSw); go_simp); (first | done | with_reducible rfl)
          try simp only [Act.put, List.setIfInBounds_toArray, List.set_cons_zero, List.set_cons_succ]
          refine late_take (i := 16) (oi := ⟨_, _, _, _, _, _⟩) (v := ?_) rfl (by kernel_rfl) (by kernel_rfl) (by kernel_rfl) (by kernel_rfl) (fun _ _ _ h => h) (Or.inl ⟨by rfl, ?_⟩) (by assumption) ?_
          rotate_left
          · (intro w hSw; (try dsimp only at hSw); go_simp); (first | done | with_reducible rfl)
          try simp only [Act.put, List.setIfInBounds_toArray, List.set_cons_zero, List.set_cons_succ]
          refine late_take (i := 17) (oi := ⟨_, _, _, _, _, _⟩) (v := ?_) rfl (by kernel_rfl) (by kernel_rfl) (by kernel_rfl) (by kernel_rfl) (fun _ _ _ h => h) (Or.inl ⟨by rfl, ?_⟩) (by assumption) ?_
          rotate_left
          · (intro w hSw; (try dsimp only at hSw); go_simp); (first | done | with_reducible rfl)
          try simp only [Act.put, List.setIfInBounds_toArray, List.set_cons_zero, List.set_cons_succ]
          refine late_take (i := 18) (oi := ⟨_, _, _, _, _, _⟩) (v := ?_) rfl (by kernel_rfl) (by kernel_rfl) (by kernel_rfl) (by kernel_rfl) (fun _ _ _ h => h) (Or.inl ⟨by rfl, ?_⟩) (by assumption) ?_
          rotate_left
          · (intro w hSw; (try dsimp only at hSw); go_simp); (first | done | with_reducible rfl)
          try simp only [Act.put, List.setIfInBounds_toArray, List.set_cons_zero, List.set_cons_succ]
          refine late_take (i := 19) (oi := ⟨_, _, _, _, _, _⟩) (v := ?_) rfl (by kernel_rfl) (by kernel_rfl) (by kernel_rfl) (by kernel_rfl) (fun _ _ _ h => h) (Or.inl ⟨by rfl, ?_⟩) (by assumption) ?_
          rotate_left
          · (intro w hSw; (try dsimp only at hSw); go_simp); (first | done | with_reducible rfl)
          try simp only [Act.put, List.setIfInBounds_toArray, List.set_cons_zero, List.set_cons_succ]
          refine late_one (i := 20) (o := ⟨_, _, _, _, _, _⟩) (by kernel_rfl) rfl (fun K hK => ?_)
          rw [if_pos (by rfl)]
          go_simp
          go_at_call 48
          refine HQ.out.mono ?_
          rintro e w5 ⟨hb5, cs5, b5, rfl, hR5, hN5⟩
          obtain ⟨A5, c5, rfl⟩ := atom_cells hR5
          have HL5 := Lib.hid (HI.out.lit (no := no) hb5 hR5 hN5)
          replace c2 := cell_later hb5 c2
          replace d2 := cell_later hb5 d2
          replace f0 := cell_later hb5 f0
          replace f1 := cell_later hb5 f1
          replace f2 := cell_later hb5 f2
          clear hR5 hN5 hb5
          try clear hHeld
          refine hK.out _ _ ?_ (fun hHeld => ?_)
          · exact ⟨c2, d2, f0, f1, f2⟩
          clear hK
          clear K
          try simp only [Act.put, List.setIfInBounds_toArray, List.set_cons_zero, List.set_cons_succ]
          refine late_take (i := 21) (oi := ⟨_, _, _, _, _, _⟩) (v := ?_) rfl (by kernel_rfl) (by kernel_rfl) (by kernel_rfl) (by kernel_rfl) (fun _ _ _ h => h) (Or.inl ⟨by rfl, ?_⟩) (by assumption) ?_
          rotate_left
          · (intro w hSw; (try dsimp only at hSw); go_simp); (first | done | with_reducible rfl)
          try simp only [Act.put, List.setIfInBounds_toArray, List.set_cons_zero, List.set_cons_succ]
          refine late_one (i := 22) (o := ⟨_, _, _, _, _, _⟩) (by kernel_rfl) rfl (fun K hK => ?_)
          rw [if_pos (by rfl)]
          go_simp
          have q2 : (w5.alloc (.cells #[.bool no, .string nm, .slice A5 args.length c5] 51)).cell? ⟨w1.heap.size, 2, none⟩ = _ := cell_later HL5.out.later c2
          have q3 := cell_later HL5.out.later d2
          have q4 := cell_later HL5.out.later f0
          have q5 := cell_later HL5.out.later f1
          have q6 := cell_later HL5.out.later f2
          try clear hHeld
          refine hK.out _ _ ?_ (fun hHeld => ?_)
          · exact ⟨q2, q3, q4, q5, q6⟩
          clear hK
          clear K
          try simp only [Act.put, List.setIfInBounds_toArray, List.set_cons_zero, List.set_cons_succ]
          refine late_one (i := 23) (o := ⟨_, _, _, _, _, _⟩) (by kernel_rfl) rfl (fun K hK => ?_)
          refine step_coll (by rfl) (.tmp 32) (.tmp 53) _ (by rfl) (w1.heap.size + 1) 51 i0 (.agg #[.bool false, .string ⟨#[]⟩, .slice none 0 0]) 3 48 Try.underlying26 hi hz0 hz1 hz2 rfl (Nat.zero_lt_succ 2) partK_good (.slice Ab ps.length cb) ps.length _ ps _ (by rfl) HL5.out.coll rfl (some ⟨w5.heap.size, 0, none⟩) 1 1 _ [⟨no, ⟨nm, args⟩⟩] _ (by rfl) HL5.out.row rfl HL5.out.lies HL5.out.far H63.out HBY.out _ (w1.heap.size + 1) (Below.refl _ _) (Nat.le_refl _) HL5.out.siz ?_
          intro A6 c6 w6 hC6 hB6 hS6 hG6
          have HZ := Lib.hid (HL5.out.app hC6 hB6)
          have p2 := HZ.out.cell
          have p3 := HZ.out.froz
          try clear hHeld
          refine hK.out _ _ ?_ (fun hHeld => ?_)
          · exact ⟨p2, HZ.out.old q3 hlb, HZ.out.old q4 hlb2, HZ.out.old q5 hlb2, HZ.out.old q6 hlb2⟩
          clear hK
          clear K
          try simp only [Act.put, List.setIfInBounds_toArray, List.set_cons_zero, List.set_cons_succ]
          refine late_take (i := 24) (oi := ⟨_, _, _, _, _, _⟩) (v := ?_) rfl (by kernel_rfl) (by kernel_rfl) (by kernel_rfl) (by kernel_rfl) (fun _ _ _ h => h) (Or.inl ⟨by rfl, ?_⟩) (by assumption) ?_
          rotate_left
          · (intro w hSw; (try dsimp only at hSw); go_simp); (first | done | with_reducible rfl)
          try simp only [Act.put, List.setIfInBounds_toArray, List.set_cons_zero, List.set_cons_succ]
          refine late_last (i := 25) (o := ⟨_, _, _, _, _, _⟩) (by kernel_rfl) rfl rfl (fun K hK => ?_)
          rw [if_pos (by rfl)]
          go_simp
          try clear hHeld
          refine hK.out _ _ ?_
          clear hK
          clear K
          try simp only [Act.put, List.setIfInBounds_toArray, List.set_cons_zero, List.set_cons_succ]
          refine late_done (by kernel_rfl) ?_ _
          have HF := Lib.hid HZ.out.fin
          clear HI HL5 HZ HQ p2 p3 q2 q3 q4 q5 q6 c2 f0 f1 f2
          go_wp2
          go_roundw
          case rel => exact ⟨k + 1, A6, c6, _, ps ++ [⟨no, nm, args⟩], _, HLK.out, by go_num, by rw [HTB.out, HPS.out], by rw [List.length_append]; exact HF.out⟩
          case measure => have := HLK.out; simp [intOf]; omega
        · have he : k = body.length := by omega
          have hj1 : ¬ (k : Int) < (body.length : Int) := by omega
          have hpe : ps = body := by rw [HPS.out, he, List.take_of_length_le (Nat.le_refl _)]
          clear he HPS
          subst hpe
          have c0 : wr.cell? ⟨w1.heap.size, 0, none⟩ = some (.string hn1) := cell_of_blk hI.r1
          have c1' : wr.cell? ⟨w1.heap.size, 1, none⟩ = some (.slice A1 hargs.length c1) := cell_of_blk hI.r1
          have hA9 : Below wr.heap.size wr (wr.alloc (.cells #[.string hn1, .slice A1 hargs.length c1, .slice Ab ps.length cb] 37)) := (Below.refl _ _).alloc (Nat.le_refl _) _
          have hb9 : Below w1.heap.size w1 (wr.alloc (.cells #[.string hn1, .slice A1 hargs.length c1, .slice Ab ps.length cb] 37)) := hI.bel.trans (hA9.mono hI.bel.size)
          have hbo := HR1.out.2.2.trans (hb9.mono HR1.out.2.2.size)
          obtain ⟨b7, hs7, hn7⟩ := (hI.later hA9).coll.slice
          have hru : ruleK (wr.alloc (.cells #[.string hn1, .slice A1 hargs.length c1, .slice Ab ps.length cb] 37)) [.string hn1, .slice A1 hargs.length c1, .slice Ab ps.length cb] ⟨⟨hn1, hargs⟩, ps⟩ (b1 ++ b7) :=
            ⟨_, _, b1, b7, rfl, HH.out.1, rfl, termsK_good.below (atom_args HR1.out.1) hb9, hs7⟩
          have HRW := Lib.hid (Rowed.one_el (R := ruleK) ruleK_ones hru)
          have HCC := Lib.hid (HW.out.1.below ruleK_good hbo)
          have HFR : Hid (∀ b ∈ b1 ++ b7, (Value.slice Av done.length cv).ownBlock ≠ some b) := Lib.hid fun b hb => own_block_lt HW.out.1.own (by
            rcases List.mem_append.1 hb with hb | hb
            · exact (HR1.out.2.1.own b hb).1
            · have h1 := HR1.out.2.2.size
              rcases hn7 b hb with h2 | h2
              · omega
              · have := hI.far b h2; omega)
          have HBN : Hid (∀ b ∈ bo ++ (b1 ++ b7), w.heap.size ≤ b) := Lib.hid fun b hb => by
            rcases List.mem_append.1 hb with hb | hb
            · exact HBO.out b hb
            · have h0 := HW.out.2.size
              rcases List.mem_append.1 hb with hb | hb
              · have := (HR1.out.2.1.own b hb).1; omega
              · rcases hn7 b hb with h2 | h2
                · omega
                · have := hI.far b h2; omega
          have HLI := Lib.hid (lies_block (heap_alloc_new wr (.cells #[.string hn1, .slice A1 hargs.length c1, .slice Ab ps.length cb] 37)))
          have HBB := Lib.hid (HW.out.2.trans (hbo.mono HW.out.2.size))
          have H63 : Hid (done.length + 1 ≤ maxLen) := Lib.hid (by have := HDL.out; unfold maxLen; omega)
          have HBY : Hid ((done.length + 1) * 64 ≤ 140737488355328) := Lib.hid (by have := HDL.out; omega)
          clear hI hA9 hb9 hbo hs7 hn7 hru hk
          go_wp2_with (at_builtin; refine wpList_coll rfl _ _ _ rfl w.heap.size 37 j0 (.agg #[.string ⟨#[]⟩, .slice none 0 0, .slice none 0 0]) 3 64 Try.underlying58 gi gz0 gz1 gz2 rfl (Nat.zero_lt_succ 2) ruleK_good (.slice Av done.length cv) done.length LL done bo rfl HCC.out rfl (some ⟨wr.heap.size, 0, none⟩) 1 1 _ [⟨⟨hn1, hargs⟩, ps⟩] _ rfl HRW.out rfl HLI.out HFR.out H63.out HBY.out w w.heap.size HBB.out (Nat.le_refl _) HBB.out.size ?_; intro A9 c9 w9 hC9 hB9 hS9 hG9)
          have HC9 := Lib.hid hC9
          have HB9 := Lib.hid hB9
          clear hC9 hB9 hS9 hG9 c0 c1' c2
          go_wp2
          go_roundw
          case rel => exact ⟨i + 1, A9, c9, _, done ++ [⟨⟨hn1, hargs⟩, ps⟩], _, HLT.out, by go_num, by simp, by rw [HTK.out, HDN.out], by rw [List.length_append]; exact HC9.out, HBN.out, HB9.out⟩
          case measure => have := HLT.out; simp [intOf]; omega
    · have he : i = rs.length := by omega
      have hk1 : ¬ (i : Int) < (rs.length : Int) := by omega
      have hde : done = rs := by rw [HDN.out, he, List.take_of_length_le (Nat.le_refl _)]
      clear he HDN
      subst hde
      obtain ⟨b7, hs7, hn7⟩ := hC.slice
      have HZ : Hid (ReadsF rulesK done w.heap.size w (.returned (.slice Av done.length cv)) wr) := Lib.hid ⟨hb, _, b7, rfl, hs7, fun b hb => (hn7 b hb).elim id (HBO.out b)⟩
      clear hC hb hs7 h
      go_wp2
      go_ret
      exact HZ.out

set_option maxRecDepth 100000 in
set_option maxHeartbeats 2000000 in
theorem askRule_spec (nm : ByteArray) (ps : List Pt) (v : Value) (bs : List Nat) (w : World) (h : partsK w [v] ps bs) (hnm : nm.size ≤ maxLen) :
    Calls Try.prog 14 #[.string nm, v] w (ReadsRB (askRuleV nm ps) w.heap.size w) := by
  obtain ⟨Ad, cap, rfl, hl, hm⟩ := sliceK_form h
  have hlm := nat_ge_max (Nat.le_trans hl hm)
  have hA : Below w.heap.size w (w.alloc (.cells #[.string ⟨#[]⟩, .slice none 0 0, .slice none 0 0] 37)) := (Below.refl _ _).alloc (Nat.le_refl _) _
  have HZ0 := Lib.hid (heap_alloc_new w (.cells #[.string ⟨#[]⟩, .slice none 0 0, .slice none 0 0] 37))
  have q1 := nameOk_spec nm (w.alloc (.cells #[.string ⟨#[]⟩, .slice none 0 0, .slice none 0 0] 37)) hnm
  have q2 := askOk_spec ps _ bs _ (partsK_good.below h hA)
  have HQ3 := Lib.hid (fun (hx : askOk ps = true) w' (hb : Below w.heap.size w w') => l5Vars_any ps _ bs w' (partsK_good.below h hb) (Nat.le_trans (ask_sum hx) (by omega)))
  have HQ4 := Lib.hid (fun (hx : askOk ps = true) w' (hb : Below w.heap.size w w') => l5Rule_any nm ps _ bs w' (partsK_good.below h hb) hnm (Nat.le_trans (ask_sum hx) (by omega)))
  have HQ5 := Lib.hid (fun (hx : askRuleB nm ps = true) (v : Value) (b2 : List Nat) w' (hR : rulesK w' [v] [⟨headOf nm ps, ps⟩] b2) => l7Rules_any [⟨headOf nm ps, ps⟩] v b2 w' hR (by simp) (fun r hr => by
    obtain rfl : r = ⟨headOf nm ps, ps⟩ := by simpa using hr
    have h0 := askV_cnt nm ps
    rw [askV_yes hx] at h0
    refine ⟨by have := h0.1; simp only at this ⊢; omega, by have := h0.2.1; simp only at this ⊢; omega, fun p hp => ?_⟩
    unfold askRuleB askOk at hx
    simp only [Bool.and_eq_true] at hx
    have := atom_args3 (List.all_eq_true.1 hx.1.2.1.2 p hp)
    omega))
  have HNo := Lib.hid (askV_no (nm := nm) (ps := ps))
  have HYes := Lib.hid (askV_yes (nm := nm) (ps := ps))
  have HG : Hid (askRuleB nm ps = (nameOk nm && askOk ps && decide ((bodyVars ps).length ≤ 3))) := Lib.hid rfl
  have HA := Lib.hid hA
  clear h hl hm hA hnm
  generalize askRuleV nm ps = G at *
  generalize askRuleB nm ps = gb at *
  generalize headOf nm ps = hd at *
  generalize bodyVars ps = vars at *
  generalize askOk ps = x at *
  generalize nameOk nm = y at *
  have z0 : (w.alloc (.cells #[.string ⟨#[]⟩, .slice none 0 0, .slice none 0 0] 37)).cell? ⟨w.heap.size, 0, none⟩ = some (.string ⟨#[]⟩) := by go_simp
  have z1 : (w.alloc (.cells #[.string ⟨#[]⟩, .slice none 0 0, .slice none 0 0] 37)).cell? ⟨w.heap.size, 1, none⟩ = some (.slice none 0 0) := by go_simp
  have z2 : (w.alloc (.cells #[.string ⟨#[]⟩, .slice none 0 0, .slice none 0 0] 37)).cell? ⟨w.heap.size, 2, none⟩ = some (.slice none 0 0) := by go_simp
  have f0 : (w.alloc (.cells #[.string ⟨#[]⟩, .slice none 0 0, .slice none 0 0] 37)).frozen? ⟨w.heap.size, 0, none⟩ = false := frozen_of_blk HZ0.out
  have f1 : (w.alloc (.cells #[.string ⟨#[]⟩, .slice none 0 0, .slice none 0 0] 37)).frozen? ⟨w.heap.size, 1, none⟩ = false := frozen_of_blk HZ0.out
  have f2 : (w.alloc (.cells #[.string ⟨#[]⟩, .slice none 0 0, .slice none 0 0] 37)).frozen? ⟨w.heap.size, 2, none⟩ = false := frozen_of_blk HZ0.out
  have hsz1 : (w.alloc (.cells #[.string ⟨#[]⟩, .slice none 0 0, .slice none 0 0] 37)).heap.size = w.heap.size + 1 := by simp
  go_enter Try.func14, Try.ntmps14
  go_wp2_with fail
  generalize w.alloc (.cells #[.string ⟨#[]⟩, .slice none 0 0, .slice none 0 0] 37) = W0 at *
  have n0 : w.heap.size < W0.heap.size := by omega
  refine q1.mono ?_
  rintro e w1 ⟨rfl, rfl⟩
  clear q1
  cases y
  · have HGN : Hid (G = (ruleZ, false)) := Lib.hid (HNo.out (by rw [HG.out]; rfl))
    have HB := Lib.hid (((HA.out.setCell (p := ⟨w.heap.size, 0, none⟩) (Nat.le_refl _) (.string ⟨#[]⟩)).setCell (p := ⟨w.heap.size, 1, none⟩) (Nat.le_refl _) (.slice none 0 0)).setCell (p := ⟨w.heap.size, 2, none⟩) (Nat.le_refl _) (.slice none 0 0))
    clear HNo HYes HG HQ3 HQ4 HQ5 q2
    go_wp2
    exact bodyPost_ret (v := .tuple #[.agg #[.string ⟨#[]⟩, .slice none 0 0, .slice none 0 0], .bool false]) (by simp [results, Try.results14, go_sem, z0, z1, z2]) rfl (by rw [HGN.out]; exact readsRB_no HB.out)
  · go_wp2_with fail
    refine q2.mono ?_
    rintro e w2 ⟨rfl, hb2⟩
    have hB2 := HA.out.trans (hb2.mono HA.out.size)
    replace z0 := cell_later hb2 z0
    replace z1 := cell_later hb2 z1
    replace z2 := cell_later hb2 z2
    have HZ2 : Hid (w2.heap[w.heap.size]? = some (.cells #[.string ⟨#[]⟩, .slice none 0 0, .slice none 0 0] 37 (0, 0))) := Lib.hid ((hb2.block _ n0).trans HZ0.out)
    replace f0 : w2.frozen? ⟨w.heap.size, 0, none⟩ = false := frozen_of_blk HZ2.out
    replace f1 : w2.frozen? ⟨w.heap.size, 1, none⟩ = false := frozen_of_blk HZ2.out
    replace f2 : w2.frozen? ⟨w.heap.size, 2, none⟩ = false := frozen_of_blk HZ2.out
    have n2 : w.heap.size < w2.heap.size := lt_of_block HZ2.out
    have HB2 := Lib.hid hB2
    clear q2 hb2 hB2 HZ0 hsz1 n0 HA
    have n0 := n2
    cases x
    · have HGN : Hid (G = (ruleZ, false)) := Lib.hid (HNo.out (by rw [HG.out]; rfl))
      have HB := Lib.hid (((HB2.out.setCell (p := ⟨w.heap.size, 0, none⟩) (Nat.le_refl _) (.string ⟨#[]⟩)).setCell (p := ⟨w.heap.size, 1, none⟩) (Nat.le_refl _) (.slice none 0 0)).setCell (p := ⟨w.heap.size, 2, none⟩) (Nat.le_refl _) (.slice none 0 0))
      clear HNo HYes HG HQ3 HQ4 HQ5
      go_wp2
      exact bodyPost_ret (v := .tuple #[.agg #[.string ⟨#[]⟩, .slice none 0 0, .slice none 0 0], .bool false]) (by simp [results, Try.results14, go_sem, z0, z1, z2]) rfl (by rw [HGN.out]; exact readsRB_no HB.out)
    · have q3 := HQ3.out rfl _ HB2.out
      clear HQ3
      go_wp2_with fail
      refine q3.mono ?_
      rintro e w3 ⟨hb3, v3, b3, rfl, hR3, _⟩
      obtain ⟨A3, c3, rfl, hl3, hm3⟩ := sliceK_form hR3
      have hlv := nat_ge_max (Nat.le_trans hl3 hm3)
      have hB3 := HB2.out.trans (hb3.mono HB2.out.size)
      replace z0 := cell_later hb3 z0
      replace z1 := cell_later hb3 z1
      replace z2 := cell_later hb3 z2
      have HZ3 : Hid (w3.heap[w.heap.size]? = some (.cells #[.string ⟨#[]⟩, .slice none 0 0, .slice none 0 0] 37 (0, 0))) := Lib.hid ((hb3.block _ n0).trans HZ2.out)
      replace f0 : w3.frozen? ⟨w.heap.size, 0, none⟩ = false := frozen_of_blk HZ3.out
      replace f1 : w3.frozen? ⟨w.heap.size, 1, none⟩ = false := frozen_of_blk HZ3.out
      replace f2 : w3.frozen? ⟨w.heap.size, 2, none⟩ = false := frozen_of_blk HZ3.out
      have n3 : w.heap.size < w3.heap.size := lt_of_block HZ3.out
      have HB3 := Lib.hid hB3
      clear q3 hb3 hB3 HZ2 n0 n2 HB2 hR3 hl3 hm3
      have n0 := n3
      by_cases hlen : vars.length ≤ 3
      · have hi3 : ¬ (3 : Int) < (vars.length : Int) := by omega
        have HGT : Hid (gb = true) := Lib.hid (by rw [HG.out, decide_eq_true hlen]; rfl)
        have HGY : Hid (G = (⟨hd, ps⟩, true)) := Lib.hid (HYes.out HGT.out)
        have q4 := HQ4.out (by trivial) _ HB3.out
        clear HNo HYes HG HQ4 hlen
        go_wp2_with fail
        refine q4.mono ?_
        rintro e w4 ⟨hb4, cs4, b4, rfl, hR4⟩
        obtain ⟨A4, c4, E4, g4, rfl⟩ := rule_cells hR4
        dsimp only at hR4 ⊢
        have hA4 : Below w4.heap.size w4 ((w4.alloc (.cells #[.string hd.name, .slice A4 hd.args.length c4, .slice E4 ps.length g4] 37)).alloc (.cells #[.string hd.name, .slice A4 hd.args.length c4, .slice E4 ps.length g4] 37)) := ((Below.refl _ _).alloc (Nat.le_refl _) _).alloc (by simp) _
        have hrr := ruleK_good.below hR4 hA4
        have hblk := heap_two w4 (.cells #[.string hd.name, .slice A4 hd.args.length c4, .slice E4 ps.length g4] 37) (.cells #[.string hd.name, .slice A4 hd.args.length c4, .slice E4 ps.length g4] 37)
        have q5 := HQ5.out HGT.out (.slice (some ⟨w4.heap.size + 1, 0, none⟩) 1 1) ((w4.heap.size + 1) :: b4) _ (rules_one hblk.2 hrr)
        have hB4 := HB3.out.trans ((hb4.trans (hA4.mono hb4.size)).mono HB3.out.size)
        have HB4 := Lib.hid hB4
        have hbb := hb4.trans (hA4.mono hb4.size)
        replace z0 := cell_later hbb z0
        replace z1 := cell_later hbb z1
        replace z2 := cell_later hbb z2
        have HZ4 := Lib.hid ((hbb.block _ n0).trans HZ3.out)
        have y0 : (w4.alloc (.cells #[.string hd.name, .slice A4 hd.args.length c4, .slice E4 ps.length g4] 37)).cell? ⟨w4.heap.size, 0, none⟩ = some (.string hd.name) := by go_simp
        have y1 : (w4.alloc (.cells #[.string hd.name, .slice A4 hd.args.length c4, .slice E4 ps.length g4] 37)).cell? ⟨w4.heap.size, 1, none⟩ = some (.slice A4 hd.args.length c4) := by go_simp
        have y2 : (w4.alloc (.cells #[.string hd.name, .slice A4 hd.args.length c4, .slice E4 ps.length g4] 37)).cell? ⟨w4.heap.size, 2, none⟩ = some (.slice E4 ps.length g4) := by go_simp
        clear q4 hb4 hR4 hA4 hrr hblk hB4 hbb HB3 HZ3 HQ5 f0 f1 f2 n3
        go_wp2_with fail
        refine q5.mono ?_
        rintro e w5 ⟨hb5, v5, b5, rfl, hR5, hf5⟩
        obtain ⟨A5, c5, rfl, _, _⟩ := sliceK_form hR5
        obtain ⟨x5, o5, s5, t5, bk5, bq5, rfl, hbm5, g0, g1, g2, hnm5, hT5, hP5, hk5, hq5⟩ := rules_at hR5 (k := 0) (by simp)
        simp only [List.getElem_cons_zero, Nat.zero_mul, Nat.add_zero] at g0 g1 g2 hT5 hP5 hnm5
        obtain ⟨A6, c6, rfl, _, _⟩ := sliceK_form hT5
        obtain ⟨A7, c7, rfl, _, _⟩ := sliceK_form hP5
        replace z0 := cell_later hb5 z0
        replace z1 := cell_later hb5 z1
        replace z2 := cell_later hb5 z2
        have hZ5 := (hb5.block _ (lt_of_block HZ4.out)).trans HZ4.out
        have f0 : w5.frozen? ⟨w.heap.size, 0, none⟩ = false := frozen_of_blk hZ5
        have f1 : w5.frozen? ⟨w.heap.size, 1, none⟩ = false := frozen_of_blk hZ5
        have f2 : w5.frozen? ⟨w.heap.size, 2, none⟩ = false := frozen_of_blk hZ5
        have HD := Lib.hid (ruleRB_done (HB4.out.trans (hb5.mono HB4.out.size)) hZ5 hnm5 hT5 hP5 (fun b hb => by
          have h1 := hf5 b ((List.mem_append.1 hb).elim (hk5 b) (hq5 b))
          have h2 := lt_of_block HZ4.out
          omega))
        clear q5 hb5 hR5 hT5 hP5 hZ5 HB4 HZ4 y0 y1 y2 hnm5 hf5 hk5 hq5
        go_wp2
        exact bodyPost_ret (v := .tuple #[.agg #[.string hd.name, .slice A6 hd.args.length c6, .slice A7 ps.length c7], .bool true]) (by simp [results, Try.results14, go_sem, z0, z1, z2]) rfl (by rw [HGY.out]; exact HD.out)
      · have hi3 : (3 : Int) < (vars.length : Int) := by omega
        have HGN : Hid (G = (ruleZ, false)) := Lib.hid (HNo.out (by rw [HG.out, decide_eq_false hlen]; rfl))
        have HB := Lib.hid (((HB3.out.setCell (p := ⟨w.heap.size, 0, none⟩) (Nat.le_refl _) (.string ⟨#[]⟩)).setCell (p := ⟨w.heap.size, 1, none⟩) (Nat.le_refl _) (.slice none 0 0)).setCell (p := ⟨w.heap.size, 2, none⟩) (Nat.le_refl _) (.slice none 0 0))
        clear HNo HYes HG HQ4 HQ5 hlen
        go_wp2
        exact bodyPost_ret (v := .tuple #[.agg #[.string ⟨#[]⟩, .slice none 0 0, .slice none 0 0], .bool false]) (by simp [results, Try.results14, go_sem, z0, z1, z2]) rfl (by rw [HGN.out]; exact readsRB_no HB.out)

end Go.Proofs.Ytbcepahpehadeaa
