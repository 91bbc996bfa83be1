/- The draws of bodies. -/
import Derived.Laws.EntriesVeiled
import Derived.Deep.RegionHeld3
import Derived.Deep.RegionWith
import Derived.BigQuiet
import Derived.Deep.QuietTactic
import Derived.Deep.DrawnRows
import Derived.Deep.AppendLies
import Derived.WalkKit
import Derived.WalkSpells
import Derived.WalkLawsBesides
import Derived.Lib.Hide
import Derived.Test.YtbcepahpehadeaaGreatDoorDraw2
import Derived.Test.YtbcepahpehadeaaGreatDoorRdrP
namespace Go.Proofs.YtbcepahpehadeaaGreatDoor
open Go.RowKit D
set_option linter.unusedVariables false
attribute [local go_sem ↓] Go.wp_at_zero Go.wp_at_succ

theorem infoPartD : (Tryz.prog.info? 54).map (fun i => (i.zero, i.size, i.bytes)) = some (some (.agg #[.bool false, .string ⟨#[]⟩, .slice none 0 0]), 3, 48) := by kernel_rfl
/-- A small part. -/
def D.PtS (p : Pt) : Prop := Sm p.atom.name ∧ p.atom.args.length ≤ 4 ∧ ∀ t ∈ p.atom.args, Sm t.name
/-- A drawn body under way: a list in memory of the draw's own. -/
structure BdInv (g p : Nat) (w : World) (xs : List Pt) (v : Value) (wr : World) : Prop where
  coll : ∃ L bs, Coll 3 partK w.heap.size 54 wr v L xs bs ∧ ∀ b ∈ bs, w.heap.size ≤ b
  small : ∀ x ∈ xs, PtS x
  rdr : Rdr g p wr
  kept : KeptBut [g] w wr
  glt : g < w.heap.size
section
variable {g p : Nat} {w : World} {xs : List Pt} {v : Value} {wr : World}
theorem BdInv.call {p2 : Nat} {w2 : World} (h : BdInv g p w xs v wr) (hR : Rdr g p2 w2) (hK : KeptBut [g] wr w2) : BdInv g p2 w xs v w2 := by
  obtain ⟨L, bs, hC, hbb⟩ := h.coll
  exact ⟨⟨L, bs, hC.keptG partK_good hK h.glt (rowedP_apart h.rdr.noSB hC.row), hbb⟩, h.small, hR, h.kept.trans hK, h.glt⟩
theorem BdInv.below {w2 : World} (h : BdInv g p w xs v wr) (hB : Below wr.heap.size wr w2) : BdInv g p w xs v w2 := by
  obtain ⟨L, bs, hC, hbb⟩ := h.coll
  exact ⟨⟨L, bs, hC.below partK_good hB, hbb⟩, h.small, h.rdr.below hB, h.kept.belowN hB h.kept.size, h.glt⟩
theorem BdInv.parts (h : BdInv g p w xs v wr) : ∃ bs, partsK wr [v] xs bs ∧ ∀ b ∈ bs, w.heap.size ≤ b := by
  obtain ⟨L, bs, hC, hbb⟩ := h.coll
  obtain ⟨b2, hs, h2⟩ := hC.slice
  exact ⟨b2, hs, fun b hb => (h2 b hb).elim id (hbb b)⟩
theorem BdInv.shape (h : BdInv g p w xs v wr) : ∃ A c, v = .slice A xs.length c := by
  obtain ⟨L, bs, hC, _⟩ := h.coll
  exact own_shape hC.own
/-- An atom is drawn (in memory from N on): what the append of a part wants. -/
theorem BdInv.part {a : A} {A2 : Option Addr} {c2 : Nat} {b2 : List Nat} {N pN : Nat} (h : BdInv g p w xs v wr) {wN : World} (hN : BdInv g pN w xs v wN) (hNN : wN.heap.size = N) (hat : atomK wr [.string a.name, .slice A2 a.args.length c2] a b2) (hf : ∀ b ∈ b2, N ≤ b) (no : Bool) :
    ∃ L bs, Coll 3 partK w.heap.size 54 (wr.alloc (.cells #[.bool no, .string a.name, .slice A2 a.args.length c2] 54)) v L xs bs ∧ (∀ b ∈ bs ++ b2, w.heap.size ≤ b) ∧ Rowed 3 partK (wr.alloc (.cells #[.bool no, .string a.name, .slice A2 a.args.length c2] 54)) [.bool no, .string a.name, .slice A2 a.args.length c2] [⟨no, a⟩] b2 ∧
      Lies (wr.alloc (.cells #[.bool no, .string a.name, .slice A2 a.args.length c2] 54)) (some ⟨wr.heap.size, 0, none⟩) [.bool no, .string a.name, .slice A2 a.args.length c2] ∧ (∀ b ∈ b2, v.ownBlock ≠ some b) ∧ Below w.heap.size wr (wr.alloc (.cells #[.bool no, .string a.name, .slice A2 a.args.length c2] 54)) := by
  obtain ⟨L, bs, hC, hbb⟩ := h.coll
  obtain ⟨L', bs', hC', _⟩ := hN.coll
  have hA : Below wr.heap.size wr (wr.alloc (.cells #[.bool no, .string a.name, .slice A2 a.args.length c2] 54)) := (Below.refl _ _).alloc (Nat.le_refl _) _
  obtain ⟨s, hs1, hs2, hs3⟩ := atomK_good.below hat hA
  simp only [List.cons.injEq, and_true, true_and] at hs1
  subst hs1
  exact ⟨L, bs, hC.below partK_good hA, fun b hb => (List.mem_append.1 hb).elim (hbb b) (fun hb => by have := hf b hb; have := hN.kept.size; omega), Rowed.one_el partK_ones ⟨_, rfl, hs2, hs3⟩, lies_block (heap_alloc_new _ _), fun b hb => own_block_lt hC'.own (by have := hf b hb; omega), (Below.refl _ _).alloc h.kept.size _⟩
theorem BdInv.app {w4 : World} {v4 : Value} {L4 : List Value} {bs4 : List Nat} {y : Pt} (h : BdInv g p w xs v wr) (hC : Coll 3 partK w.heap.size 54 w4 v4 L4 (xs ++ [y]) bs4) (hbb : ∀ b ∈ bs4, w.heap.size ≤ b) (hB : Below w.heap.size wr w4) (hy : PtS y) : BdInv g p w (xs ++ [y]) v4 w4 :=
  ⟨⟨L4, bs4, hC, hbb⟩, fun x hx => (List.mem_append.1 hx).elim (h.small x) (fun hx => by rw [List.mem_singleton.1 hx]; exact hy), h.rdr.belowN hB h.glt, h.kept.belowN hB (Nat.le_refl _), h.glt⟩
end
/-- A drawn body. -/
def BodyD (k m g p q : Nat) (w : World) (e : Ending) (w' : World) : Prop :=
  ∃ (xs : List Pt) (v : Value) (p' : Nat), e = .returned v ∧ k ≤ xs.length ∧ xs.length ≤ m ∧ p' ≤ p + q ∧ BdInv g p' w xs v w'

set_option maxRecDepth 100000 in
set_option maxHeartbeats 2000000 in
theorem l10Body_any (g p : Nat) (ws : List ByteArray) (n b : Nat) (w : World) (h : Rdr g p w) (hb : w.heap[b]? = some (.cells (ws.map Value.string).toArray 9 (0, 0))) (hne : g ≠ b) (hp : p ≤ 700000) (hn : ws.length = n) (h1 : 1 ≤ n) (h2 : n ≤ 100) (hs : ∀ s ∈ ws, Sm s) :
    Calls Tryz.prog 98 #[.pointer (some ⟨g, 0, none⟩), .slice (some ⟨b, 0, none⟩) n n] w (BodyD 1 3 g p 25 w) := by
  obtain ⟨i0, hi, hz0, hz1, hz2⟩ := info_parts infoPartD
  have hA : Below w.heap.size w (w.alloc (.cells #[] 54)) := (Below.refl _ _).alloc (Nat.le_refl _) _
  have HF : Hid (BdInv g p w [] (.slice (some ⟨w.heap.size, 0, none⟩) 0 0) (w.alloc (.cells #[] 54))) := Lib.hid ⟨⟨_, _, Coll.empty (heap_alloc_new w _) (Nat.le_refl _), fun b hb => by simp at hb⟩, fun a ha => by simp at ha, h.below hA, KeptBut.of_below hA, h.lt⟩
  have hpk := pick_any g p 3 _ HF.out.rdr (by omega) (by omega) (by omega)
  have HP := Lib.hid hp
  have HBK := Lib.hid hb
  have hof := fun p' w' hR hb' hp' => of_blk g p' ws n b w' hR hb' hne hp' hn h1 h2 hs
  have HOF := Lib.hid hof
  have HNE := Lib.hid hne
  clear h hp hA hb hne hn h1 h2 hs hof
  go_enter Tryz.func98, Tryz.ntmps98
  go_wp2_with fail
  refine hpk.mono ?_
  rintro e w1 ⟨m, rfl, hm, hR1, hG1⟩
  have HF1 := Lib.hid (HF.out.call hR1 (KeptBut.of_grown hG1))
  have HN : Hid (m < 3) := Lib.hid (by omega)
  have hm3 : (m : Int) < 3 := hm
  clear hpk hR1 hG1 HF hm
  go_wp2
  go_loopw [5, 6] (fun v i wr => ∃ (k : Nat) (xs : List Pt) (Av : Option Addr) (cp p' : Nat), i = .int .i64 k ∧ v = .slice Av xs.length cp ∧ xs.length + k = m + 1 ∧ p' + 8 * k ≤ p + 1 + 8 * (m + 1) ∧ BdInv g p' w xs (.slice Av xs.length cp) wr) (fun _ i _ => (intOf i).toNat)
  case atStart => exact ⟨m + 1, [], _, _, p + 1, by congr 1; omega, rfl, by simp, by omega, HF1.out⟩
  case round =>
    obtain ⟨k, xs, Av, cp, p', rfl, rfl, hk, hp, hF⟩ := hrel
    have HF2 := Lib.hid hF
    have HX : Hid (xs.length + k = m + 1 ∧ p' + 8 * k ≤ p + 1 + 8 * (m + 1)) := Lib.hid ⟨hk, hp⟩
    have HQ : Hid (p' ≤ 800000 ∧ k ≤ 3 ∧ xs.length ≤ 3) := Lib.hid (by have := HP.out; have := HN.out; omega)
    clear hF HF1 hk hp hm3
    by_cases hk0 : 0 < k
    · have hki : (0 : Int) < (k : Int) := by omega
      have hk3 : (k : Int) ≤ 3 := by have := HQ.out.2.1; omega
      have HK := Lib.hid hk0
      have hpk := pick_any g p' 6 wr HF2.out.rdr (by have := HQ.out; omega) (by omega) (by omega)
      clear hk0
      go_wp2_with fail
      refine hpk.mono ?_
      rintro e w2 ⟨m6, rfl, hm6, hR2, hG2⟩
      have HF3 := Lib.hid (HF2.out.call hR2 (KeptBut.of_grown hG2))
      clear hpk hR2 hG2 hm6
      by_cases hz : m6 = 0
      · subst hz
        by_cases hx0 : 0 < xs.length
        · have hx0i : (0 : Int) < (xs.length : Int) := by omega
          have hof := HOF.out (p' + 1) w2 HF3.out.rdr (HF3.out.kept.blk HBK.out (by simp; exact fun e => HNE.out e.symm)) (by have := HQ.out.1; omega)
          go_wp2_with fail
          refine hof.mono ?_
          rintro e w3 ⟨s, rfl, hs, hR3, hK3⟩
          have HF4 := Lib.hid (HF3.out.call hR3 hK3)
          have hat := l10Atom_s s true g (p' + 1 + 1) w3 hR3 (by have := HQ.out.1; omega) hs
          clear hof hR3 hK3 hs
          go_wp2_with fail
          refine hat.mono ?_
          rintro e w4 ⟨a, v4, L4, p4, rfl, hs4, hl4, hC4, hR4, hp4, hK4, hsm4⟩
          obtain ⟨b4, hsl4, hfar4⟩ := hC4.slice
          obtain ⟨A4, c4, rfl⟩ := own_shape hC4.own
          have HF5 := Lib.hid (HF4.out.call hR4 hK4)
          have HA5 : Hid (PtS ⟨true, a⟩ ∧ p4 ≤ p' + 8) := Lib.hid ⟨⟨hs4, Nat.le_succ_of_le hl4, hsm4⟩, by omega⟩
          obtain ⟨L5, bs5, hC5, hbb5, hR5, hL5, hO5, hB5⟩ := HF5.out.part HF4.out rfl ⟨_, rfl, Sm.max hs4, hsl4⟩ (fun b hb => (hfar4 b hb).resolve_right (by simp)) (true)
          have HY := Lib.hid (And.intro hC5 (And.intro hbb5 (And.intro hR5 (And.intro hL5 (And.intro hO5 hB5)))))
          have HKL : Hid (xs.length + 1 ≤ maxLen ∧ (xs.length + 1) * 48 ≤ 140737488355328) := Lib.hid (by have := HQ.out; unfold maxLen; omega)
          clear hat hs4 hl4 hC4 hR4 hp4 hK4 hsm4 hsl4 hfar4 hC5 hbb5 hR5 hL5 hO5 hB5
          have HSZ : Hid (w.heap.size ≤ (w4.alloc (.cells #[.bool true, .string a.name, .slice A4 a.args.length c4] 54)).heap.size) := Lib.hid (by have := HF5.out.kept.size; simp; omega)
          go_wp2_with (at_builtin; refine wpList_coll rfl _ _ _ rfl w.heap.size 54 i0 (.agg #[.bool false, .string ⟨#[]⟩, .slice none 0 0]) 3 48 Tryz.underlying49 hi hz0 hz1 hz2 rfl (by omega) partK_good (.slice Av xs.length cp) xs.length _ _ _ rfl HY.out.1 rfl (some ⟨w4.heap.size, 0, none⟩) 1 1 _ [⟨true, a⟩] _ rfl HY.out.2.2.1 rfl HY.out.2.2.2.1 HY.out.2.2.2.2.1 HKL.out.1 HKL.out.2 w4 w.heap.size HY.out.2.2.2.2.2 (Nat.le_refl _) HSZ.out ?_; intro A6 cp6 w6 hC6 hB6 hS6 hG6)
          have HF6 := Lib.hid (HF5.out.app hC6 HY.out.2.1 hB6 HA5.out.1)
          clear hC6 hB6 hS6 hG6 HY
          go_wp2
          go_roundw
          case rel => exact ⟨k - 1, xs ++ [⟨true, a⟩], A6, cp6, p4, by have := HK.out; first | (unfold wrap64; congr 1; omega) | go_num, by rw [List.length_append]; rfl, by rw [List.length_append]; have := HX.out; have := HK.out; simp; omega, by have := HX.out; have := HK.out; have := HA5.out.2; omega, by rw [List.length_append]; exact HF6.out⟩
          case measure => have := HK.out; simp [intOf]; omega
        · have hx0i : ¬ (0 : Int) < (xs.length : Int) := by omega
          have hof := HOF.out (p' + 1) w2 HF3.out.rdr (HF3.out.kept.blk HBK.out (by simp; exact fun e => HNE.out e.symm)) (by have := HQ.out.1; omega)
          go_wp2_with fail
          refine hof.mono ?_
          rintro e w3 ⟨s, rfl, hs, hR3, hK3⟩
          have HF4 := Lib.hid (HF3.out.call hR3 hK3)
          have hat := l10Atom_s s true g (p' + 1 + 1) w3 hR3 (by have := HQ.out.1; omega) hs
          clear hof hR3 hK3 hs
          go_wp2_with fail
          refine hat.mono ?_
          rintro e w4 ⟨a, v4, L4, p4, rfl, hs4, hl4, hC4, hR4, hp4, hK4, hsm4⟩
          obtain ⟨b4, hsl4, hfar4⟩ := hC4.slice
          obtain ⟨A4, c4, rfl⟩ := own_shape hC4.own
          have HF5 := Lib.hid (HF4.out.call hR4 hK4)
          have HA5 : Hid (PtS ⟨false, a⟩ ∧ p4 ≤ p' + 8) := Lib.hid ⟨⟨hs4, Nat.le_succ_of_le hl4, hsm4⟩, by omega⟩
          obtain ⟨L5, bs5, hC5, hbb5, hR5, hL5, hO5, hB5⟩ := HF5.out.part HF4.out rfl ⟨_, rfl, Sm.max hs4, hsl4⟩ (fun b hb => (hfar4 b hb).resolve_right (by simp)) (false)
          have HY := Lib.hid (And.intro hC5 (And.intro hbb5 (And.intro hR5 (And.intro hL5 (And.intro hO5 hB5)))))
          have HKL : Hid (xs.length + 1 ≤ maxLen ∧ (xs.length + 1) * 48 ≤ 140737488355328) := Lib.hid (by have := HQ.out; unfold maxLen; omega)
          clear hat hs4 hl4 hC4 hR4 hp4 hK4 hsm4 hsl4 hfar4 hC5 hbb5 hR5 hL5 hO5 hB5
          have HSZ : Hid (w.heap.size ≤ (w4.alloc (.cells #[.bool false, .string a.name, .slice A4 a.args.length c4] 54)).heap.size) := Lib.hid (by have := HF5.out.kept.size; simp; omega)
          go_wp2_with (at_builtin; refine wpList_coll rfl _ _ _ rfl w.heap.size 54 i0 (.agg #[.bool false, .string ⟨#[]⟩, .slice none 0 0]) 3 48 Tryz.underlying49 hi hz0 hz1 hz2 rfl (by omega) partK_good (.slice Av xs.length cp) xs.length _ _ _ rfl HY.out.1 rfl (some ⟨w4.heap.size, 0, none⟩) 1 1 _ [⟨false, a⟩] _ rfl HY.out.2.2.1 rfl HY.out.2.2.2.1 HY.out.2.2.2.2.1 HKL.out.1 HKL.out.2 w4 w.heap.size HY.out.2.2.2.2.2 (Nat.le_refl _) HSZ.out ?_; intro A6 cp6 w6 hC6 hB6 hS6 hG6)
          have HF6 := Lib.hid (HF5.out.app hC6 HY.out.2.1 hB6 HA5.out.1)
          clear hC6 hB6 hS6 hG6 HY
          go_wp2
          go_roundw
          case rel => exact ⟨k - 1, xs ++ [⟨false, a⟩], A6, cp6, p4, by have := HK.out; first | (unfold wrap64; congr 1; omega) | go_num, by rw [List.length_append]; rfl, by rw [List.length_append]; have := HX.out; have := HK.out; simp; omega, by have := HX.out; have := HK.out; have := HA5.out.2; omega, by rw [List.length_append]; exact HF6.out⟩
          case measure => have := HK.out; simp [intOf]; omega
      · have hzi : ¬ (m6 : Int) = 0 := by omega
        have hof := HOF.out (p' + 1) w2 HF3.out.rdr (HF3.out.kept.blk HBK.out (by simp; exact fun e => HNE.out e.symm)) (by have := HQ.out.1; omega)
        go_wp2_with fail
        refine hof.mono ?_
        rintro e w3 ⟨s, rfl, hs, hR3, hK3⟩
        have HF4 := Lib.hid (HF3.out.call hR3 hK3)
        have hat := l10Atom_s s true g (p' + 1 + 1) w3 hR3 (by have := HQ.out.1; omega) hs
        clear hof hR3 hK3 hs
        go_wp2_with fail
        refine hat.mono ?_
        rintro e w4 ⟨a, v4, L4, p4, rfl, hs4, hl4, hC4, hR4, hp4, hK4, hsm4⟩
        obtain ⟨b4, hsl4, hfar4⟩ := hC4.slice
        obtain ⟨A4, c4, rfl⟩ := own_shape hC4.own
        have HF5 := Lib.hid (HF4.out.call hR4 hK4)
        have HA5 : Hid (PtS ⟨false, a⟩ ∧ p4 ≤ p' + 8) := Lib.hid ⟨⟨hs4, Nat.le_succ_of_le hl4, hsm4⟩, by omega⟩
        obtain ⟨L5, bs5, hC5, hbb5, hR5, hL5, hO5, hB5⟩ := HF5.out.part HF4.out rfl ⟨_, rfl, Sm.max hs4, hsl4⟩ (fun b hb => (hfar4 b hb).resolve_right (by simp)) (false)
        have HY := Lib.hid (And.intro hC5 (And.intro hbb5 (And.intro hR5 (And.intro hL5 (And.intro hO5 hB5)))))
        have HKL : Hid (xs.length + 1 ≤ maxLen ∧ (xs.length + 1) * 48 ≤ 140737488355328) := Lib.hid (by have := HQ.out; unfold maxLen; omega)
        clear hat hs4 hl4 hC4 hR4 hp4 hK4 hsm4 hsl4 hfar4 hC5 hbb5 hR5 hL5 hO5 hB5
        have HSZ : Hid (w.heap.size ≤ (w4.alloc (.cells #[.bool false, .string a.name, .slice A4 a.args.length c4] 54)).heap.size) := Lib.hid (by have := HF5.out.kept.size; simp; omega)
        go_wp2_with (at_builtin; refine wpList_coll rfl _ _ _ rfl w.heap.size 54 i0 (.agg #[.bool false, .string ⟨#[]⟩, .slice none 0 0]) 3 48 Tryz.underlying49 hi hz0 hz1 hz2 rfl (by omega) partK_good (.slice Av xs.length cp) xs.length _ _ _ rfl HY.out.1 rfl (some ⟨w4.heap.size, 0, none⟩) 1 1 _ [⟨false, a⟩] _ rfl HY.out.2.2.1 rfl HY.out.2.2.2.1 HY.out.2.2.2.2.1 HKL.out.1 HKL.out.2 w4 w.heap.size HY.out.2.2.2.2.2 (Nat.le_refl _) HSZ.out ?_; intro A6 cp6 w6 hC6 hB6 hS6 hG6)
        have HF6 := Lib.hid (HF5.out.app hC6 HY.out.2.1 hB6 HA5.out.1)
        clear hC6 hB6 hS6 hG6 HY
        go_wp2
        go_roundw
        case rel => exact ⟨k - 1, xs ++ [⟨false, a⟩], A6, cp6, p4, by have := HK.out; first | (unfold wrap64; congr 1; omega) | go_num, by rw [List.length_append]; rfl, by rw [List.length_append]; have := HX.out; have := HK.out; simp; omega, by have := HX.out; have := HK.out; have := HA5.out.2; omega, by rw [List.length_append]; exact HF6.out⟩
        case measure => have := HK.out; simp [intOf]; omega
    · obtain rfl : k = 0 := by omega
      clear hk0
      go_wp2
      go_ret
      exact ⟨xs, _, p', rfl, by have := HX.out; omega, by have := HX.out; have := HN.out; omega, by have := HX.out; have := HN.out; omega, HF2.out⟩

end Go.Proofs.YtbcepahpehadeaaGreatDoor
