/- Of the proof of FnOnce: DrawB, Draw2F, BdP. -/
import Derived.Test.YtjjfafgaphloaaaGreatDoorM16
import Derived.Test.YtjjfafgaphloaaaGreatDoorM17
namespace Go.Proofs.YtjjfafgaphloaaaGreatDoor
open Go.RowKit D
set_option linter.unusedVariables false
attribute [local go_sem ↓] Go.wp_at_zero Go.wp_at_succ
theorem infoPartD : (Tryz.prog.info? 148).map (fun i => (i.zero, i.size, i.bytes)) = some (some (.agg #[.bool false, .string ⟨#[]⟩, .slice none 0 0]), 3, 48) := by kernel_rfl

/-- A small part. -/
def D.PtS (p : Pt) : Prop := Sm p.atom.name ∧ p.atom.args.length ≤ 4 ∧ ∀ t ∈ p.atom.args, Sm t.name

/-- A drawn body under way: a list in memory of the draw's own. -/
structure BdInv (g p : Nat) (w : World) (xs : List Pt) (v : Value) (wr : World) : Prop where
  coll : ∃ L bs, Coll 3 partK w.heap.size 148 wr v L xs bs ∧ ∀ b ∈ bs, w.heap.size ≤ b
  small : ∀ x ∈ xs, PtS x
  rdr : Rdr g p wr
  kept : KeptBut [g] w wr
  glt : g < w.heap.size

section
variable {g p : Nat} {w : World} {xs : List Pt} {v : Value} {wr : World}
theorem BdInv.call {p2 : Nat} {w2 : World} (h : BdInv g p w xs v wr) (hR : Rdr g p2 w2) (hK : KeptBut [g] wr w2) : BdInv g p2 w xs v w2 := by
  obtain ⟨L, bs, hC, hbb⟩ := h.coll
  exact ⟨⟨L, bs, hC.keptG partK_good hK h.glt (rowedP_apart h.rdr.noSB hC.row), hbb⟩, h.small, hR, h.kept.trans hK, h.glt⟩

theorem BdInv.below {w2 : World} (h : BdInv g p w xs v wr) (hB : Below wr.heap.size wr w2) : BdInv g p w xs v w2 := by
  obtain ⟨L, bs, hC, hbb⟩ := h.coll
  exact ⟨⟨L, bs, hC.below partK_good hB, hbb⟩, h.small, h.rdr.below hB, h.kept.belowN hB h.kept.size, h.glt⟩

theorem BdInv.parts (h : BdInv g p w xs v wr) : ∃ bs, partsK wr [v] xs bs ∧ ∀ b ∈ bs, w.heap.size ≤ b := by
  obtain ⟨L, bs, hC, hbb⟩ := h.coll
  obtain ⟨b2, hs, h2⟩ := hC.slice
  exact ⟨b2, hs, fun b hb => (h2 b hb).elim id (hbb b)⟩

theorem BdInv.shape (h : BdInv g p w xs v wr) : ∃ A c, v = .slice A xs.length c := by
  obtain ⟨L, bs, hC, _⟩ := h.coll
  exact own_shape hC.own

/-- An atom is drawn (in memory from N on): what the append of a part wants. -/
theorem BdInv.part {a : A} {A2 : Option Addr} {c2 : Nat} {b2 : List Nat} {N pN : Nat} (h : BdInv g p w xs v wr) {wN : World} (hN : BdInv g pN w xs v wN) (hNN : wN.heap.size = N) (hat : atomK wr [.string a.name, .slice A2 a.args.length c2] a b2) (hf : ∀ b ∈ b2, N ≤ b) (no : Bool) :
    ∃ L bs, Coll 3 partK w.heap.size 148 (wr.alloc (.cells #[.bool no, .string a.name, .slice A2 a.args.length c2] 148)) v L xs bs ∧ (∀ b ∈ bs ++ b2, w.heap.size ≤ b) ∧ Rowed 3 partK (wr.alloc (.cells #[.bool no, .string a.name, .slice A2 a.args.length c2] 148)) [.bool no, .string a.name, .slice A2 a.args.length c2] [⟨no, a⟩] b2 ∧
      Lies (wr.alloc (.cells #[.bool no, .string a.name, .slice A2 a.args.length c2] 148)) (some ⟨wr.heap.size, 0, none⟩) [.bool no, .string a.name, .slice A2 a.args.length c2] ∧ (∀ b ∈ b2, v.ownBlock ≠ some b) ∧ Below w.heap.size wr (wr.alloc (.cells #[.bool no, .string a.name, .slice A2 a.args.length c2] 148)) := by
  obtain ⟨L, bs, hC, hbb⟩ := h.coll
  obtain ⟨L', bs', hC', _⟩ := hN.coll
  have hA : Below wr.heap.size wr (wr.alloc (.cells #[.bool no, .string a.name, .slice A2 a.args.length c2] 148)) := (Below.refl _ _).alloc (Nat.le_refl _) _
  obtain ⟨s, hs1, hs2, hs3⟩ := atomK_good.below hat hA
  simp only [List.cons.injEq, and_true, true_and] at hs1
  subst hs1
  exact ⟨L, bs, hC.below partK_good hA, fun b hb => (List.mem_append.1 hb).elim (hbb b) (fun hb => by have := hf b hb; have := hN.kept.size; omega), Rowed.one_el partK_ones ⟨_, rfl, hs2, hs3⟩, lies_block (heap_alloc_new _ _), fun b hb => own_block_lt hC'.own (by have := hf b hb; omega), (Below.refl _ _).alloc h.kept.size _⟩

theorem BdInv.app {w4 : World} {v4 : Value} {L4 : List Value} {bs4 : List Nat} {y : Pt} (h : BdInv g p w xs v wr) (hC : Coll 3 partK w.heap.size 148 w4 v4 L4 (xs ++ [y]) bs4) (hbb : ∀ b ∈ bs4, w.heap.size ≤ b) (hB : Below w.heap.size wr w4) (hy : PtS y) : BdInv g p w (xs ++ [y]) v4 w4 :=
  ⟨⟨L4, bs4, hC, hbb⟩, fun x hx => (List.mem_append.1 hx).elim (h.small x) (fun hx => by rw [List.mem_singleton.1 hx]; exact hy), h.rdr.belowN hB h.glt, h.kept.belowN hB (Nat.le_refl _), h.glt⟩

end
/-- A drawn body. -/
def BodyD (k m g p q : Nat) (w : World) (e : Ending) (w' : World) : Prop :=
  ∃ (xs : List Pt) (v : Value) (p' : Nat), e = .returned v ∧ k ≤ xs.length ∧ xs.length ≤ m ∧ p' ≤ p + q ∧ BdInv g p' w xs v w'

set_option maxRecDepth 100000 in
set_option maxHeartbeats 2000000 in
theorem l10Body_any (g p : Nat) (ws : List ByteArray) (n b : Nat) (w : World) (h : Rdr g p w) (hb : w.heap[b]? = some (.cells (ws.map Value.string).toArray 9 (0, 0))) (hne : g ≠ b) (hp : p ≤ 700000) (hn : ws.length = n) (h1 : 1 ≤ n) (h2 : n ≤ 100) (hs : ∀ s ∈ ws, Sm s) :
    Calls Tryz.prog 93 #[.pointer (some ⟨g, 0, none⟩), .slice (some ⟨b, 0, none⟩) n n] w (BodyD 1 3 g p 25 w) := by
  obtain ⟨i0, hi, hz0, hz1, hz2⟩ := info_parts infoPartD
  have hA : Below w.heap.size w (w.alloc (.cells #[] 148)) := (Below.refl _ _).alloc (Nat.le_refl _) _
  have HF : Hid (BdInv g p w [] (.slice (some ⟨w.heap.size, 0, none⟩) 0 0) (w.alloc (.cells #[] 148))) := Lib.hid ⟨⟨_, _, Coll.empty (heap_alloc_new w _) (Nat.le_refl _), fun b hb => by simp at hb⟩, fun a ha => by simp at ha, h.below hA, KeptBut.of_below hA, h.lt⟩
  have hpk := pick_any g p 3 _ HF.out.rdr (by omega) (by omega) (by omega)
  have HP := Lib.hid hp
  have HBK := Lib.hid hb
  have hof := fun p' w' hR hb' hp' => of_blk g p' ws n b w' hR hb' hne hp' hn h1 h2 hs
  have HOF := Lib.hid hof
  have HNE := Lib.hid hne
  clear h hp hA hb hne hn h1 h2 hs hof
  go_enter Tryz.func93, Tryz.ntmps93
  go_wp2_with fail
  refine hpk.mono ?_
  rintro e w1 ⟨m, rfl, hm, hR1, hG1⟩
  have HF1 := Lib.hid (HF.out.call hR1 (KeptBut.of_grown hG1))
  have HN : Hid (m < 3) := Lib.hid (by omega)
  have hm3 : (m : Int) < 3 := hm
  clear hpk hR1 hG1 HF hm
  go_wp2
  go_loopw [5, 6] (fun v i wr => ∃ (k : Nat) (xs : List Pt) (Av : Option Addr) (cp p' : Nat), i = .int .i64 k ∧ v = .slice Av xs.length cp ∧ xs.length + k = m + 1 ∧ p' + 8 * k ≤ p + 1 + 8 * (m + 1) ∧ BdInv g p' w xs (.slice Av xs.length cp) wr) (fun _ i _ => (intOf i).toNat)
  case atStart => exact ⟨m + 1, [], _, _, p + 1, by congr 1; omega, rfl, by simp, by omega, HF1.out⟩
  case round =>
    obtain ⟨k, xs, Av, cp, p', rfl, rfl, hk, hp, hF⟩ := hrel
    have HF2 := Lib.hid hF
    have HX : Hid (xs.length + k = m + 1 ∧ p' + 8 * k ≤ p + 1 + 8 * (m + 1)) := Lib.hid ⟨hk, hp⟩
    have HQ : Hid (p' ≤ 800000 ∧ k ≤ 3 ∧ xs.length ≤ 3) := Lib.hid (by have := HP.out; have := HN.out; omega)
    clear hF HF1 hk hp hm3
    by_cases hk0 : 0 < k
    · have hki : (0 : Int) < (k : Int) := by omega
      have hk3 : (k : Int) ≤ 3 := by have := HQ.out.2.1; omega
      have HK := Lib.hid hk0
      have hpk := pick_any g p' 6 wr HF2.out.rdr (by have := HQ.out; omega) (by omega) (by omega)
      clear hk0
      go_wp2_with fail
      refine hpk.mono ?_
      rintro e w2 ⟨m6, rfl, hm6, hR2, hG2⟩
      have HF3 := Lib.hid (HF2.out.call hR2 (KeptBut.of_grown hG2))
      clear hpk hR2 hG2 hm6
      by_cases hz : m6 = 0
      · subst hz
        by_cases hx0 : 0 < xs.length
        · have hx0i : (0 : Int) < (xs.length : Int) := by omega
          have hof := HOF.out (p' + 1) w2 HF3.out.rdr (HF3.out.kept.blk HBK.out (by simp; exact fun e => HNE.out e.symm)) (by have := HQ.out.1; omega)
          go_wp2_with fail
          refine hof.mono ?_
          rintro e w3 ⟨s, rfl, hs, hR3, hK3⟩
          have HF4 := Lib.hid (HF3.out.call hR3 hK3)
          have hat := l10Atom_s s true g (p' + 1 + 1) w3 hR3 (by have := HQ.out.1; omega) hs
          clear hof hR3 hK3 hs
          go_wp2_with fail
          refine hat.mono ?_
          rintro e w4 ⟨a, v4, L4, p4, rfl, hs4, hl4, hC4, hR4, hp4, hK4, hsm4⟩
          obtain ⟨b4, hsl4, hfar4⟩ := hC4.slice
          obtain ⟨A4, c4, rfl⟩ := own_shape hC4.own
          have HF5 := Lib.hid (HF4.out.call hR4 hK4)
          have HA5 : Hid (PtS ⟨true, a⟩ ∧ p4 ≤ p' + 8) := Lib.hid ⟨⟨hs4, Nat.le_succ_of_le hl4, hsm4⟩, by omega⟩
          obtain ⟨L5, bs5, hC5, hbb5, hR5, hL5, hO5, hB5⟩ := HF5.out.part HF4.out rfl ⟨_, rfl, Sm.max hs4, hsl4⟩ (fun b hb => (hfar4 b hb).resolve_right (by simp)) (true)
          have HY := Lib.hid (And.intro hC5 (And.intro hbb5 (And.intro hR5 (And.intro hL5 (And.intro hO5 hB5)))))
          have HKL : Hid (xs.length + 1 ≤ maxLen ∧ (xs.length + 1) * 48 ≤ 140737488355328) := Lib.hid (by have := HQ.out; unfold maxLen; omega)
          clear hat hs4 hl4 hC4 hR4 hp4 hK4 hsm4 hsl4 hfar4 hC5 hbb5 hR5 hL5 hO5 hB5
          have HSZ : Hid (w.heap.size ≤ (w4.alloc (.cells #[.bool true, .string a.name, .slice A4 a.args.length c4] 148)).heap.size) := Lib.hid (by have := HF5.out.kept.size; simp; omega)
          go_wp2_with (at_builtin; refine wpList_coll rfl _ _ _ rfl w.heap.size 148 i0 (.agg #[.bool false, .string ⟨#[]⟩, .slice none 0 0]) 3 48 Tryz.underlying51 hi hz0 hz1 hz2 rfl (by omega) partK_good (.slice Av xs.length cp) xs.length _ _ _ rfl HY.out.1 rfl (some ⟨w4.heap.size, 0, none⟩) 1 1 _ [⟨true, a⟩] _ rfl HY.out.2.2.1 rfl HY.out.2.2.2.1 HY.out.2.2.2.2.1 HKL.out.1 HKL.out.2 w4 w.heap.size HY.out.2.2.2.2.2 (Nat.le_refl _) HSZ.out ?_; intro A6 cp6 w6 hC6 hB6 hS6 hG6)
          have HF6 := Lib.hid (HF5.out.app hC6 HY.out.2.1 hB6 HA5.out.1)
          clear hC6 hB6 hS6 hG6 HY
          go_wp2
          go_roundw
          case rel => exact ⟨k - 1, xs ++ [⟨true, a⟩], A6, cp6, p4, by have := HK.out; first | (unfold wrap64; congr 1; omega) | go_num, by rw [List.length_append]; rfl, by rw [List.length_append]; have := HX.out; have := HK.out; simp; omega, by have := HX.out; have := HK.out; have := HA5.out.2; omega, by rw [List.length_append]; exact HF6.out⟩
          case measure => have := HK.out; simp [intOf]; omega
        · have hx0i : ¬ (0 : Int) < (xs.length : Int) := by omega
          have hof := HOF.out (p' + 1) w2 HF3.out.rdr (HF3.out.kept.blk HBK.out (by simp; exact fun e => HNE.out e.symm)) (by have := HQ.out.1; omega)
          go_wp2_with fail
          refine hof.mono ?_
          rintro e w3 ⟨s, rfl, hs, hR3, hK3⟩
          have HF4 := Lib.hid (HF3.out.call hR3 hK3)
          have hat := l10Atom_s s true g (p' + 1 + 1) w3 hR3 (by have := HQ.out.1; omega) hs
          clear hof hR3 hK3 hs
          go_wp2_with fail
          refine hat.mono ?_
          rintro e w4 ⟨a, v4, L4, p4, rfl, hs4, hl4, hC4, hR4, hp4, hK4, hsm4⟩
          obtain ⟨b4, hsl4, hfar4⟩ := hC4.slice
          obtain ⟨A4, c4, rfl⟩ := own_shape hC4.own
          have HF5 := Lib.hid (HF4.out.call hR4 hK4)
          have HA5 : Hid (PtS ⟨false, a⟩ ∧ p4 ≤ p' + 8) := Lib.hid ⟨⟨hs4, Nat.le_succ_of_le hl4, hsm4⟩, by omega⟩
          obtain ⟨L5, bs5, hC5, hbb5, hR5, hL5, hO5, hB5⟩ := HF5.out.part HF4.out rfl ⟨_, rfl, Sm.max hs4, hsl4⟩ (fun b hb => (hfar4 b hb).resolve_right (by simp)) (false)
          have HY := Lib.hid (And.intro hC5 (And.intro hbb5 (And.intro hR5 (And.intro hL5 (And.intro hO5 hB5)))))
          have HKL : Hid (xs.length + 1 ≤ maxLen ∧ (xs.length + 1) * 48 ≤ 140737488355328) := Lib.hid (by have := HQ.out; unfold maxLen; omega)
          clear hat hs4 hl4 hC4 hR4 hp4 hK4 hsm4 hsl4 hfar4 hC5 hbb5 hR5 hL5 hO5 hB5
          have HSZ : Hid (w.heap.size ≤ (w4.alloc (.cells #[.bool false, .string a.name, .slice A4 a.args.length c4] 148)).heap.size) := Lib.hid (by have := HF5.out.kept.size; simp; omega)
          go_wp2_with (at_builtin; refine wpList_coll rfl _ _ _ rfl w.heap.size 148 i0 (.agg #[.bool false, .string ⟨#[]⟩, .slice none 0 0]) 3 48 Tryz.underlying51 hi hz0 hz1 hz2 rfl (by omega) partK_good (.slice Av xs.length cp) xs.length _ _ _ rfl HY.out.1 rfl (some ⟨w4.heap.size, 0, none⟩) 1 1 _ [⟨false, a⟩] _ rfl HY.out.2.2.1 rfl HY.out.2.2.2.1 HY.out.2.2.2.2.1 HKL.out.1 HKL.out.2 w4 w.heap.size HY.out.2.2.2.2.2 (Nat.le_refl _) HSZ.out ?_; intro A6 cp6 w6 hC6 hB6 hS6 hG6)
          have HF6 := Lib.hid (HF5.out.app hC6 HY.out.2.1 hB6 HA5.out.1)
          clear hC6 hB6 hS6 hG6 HY
          go_wp2
          go_roundw
          case rel => exact ⟨k - 1, xs ++ [⟨false, a⟩], A6, cp6, p4, by have := HK.out; first | (unfold wrap64; congr 1; omega) | go_num, by rw [List.length_append]; rfl, by rw [List.length_append]; have := HX.out; have := HK.out; simp; omega, by have := HX.out; have := HK.out; have := HA5.out.2; omega, by rw [List.length_append]; exact HF6.out⟩
          case measure => have := HK.out; simp [intOf]; omega
      · have hzi : ¬ (m6 : Int) = 0 := by omega
        have hof := HOF.out (p' + 1) w2 HF3.out.rdr (HF3.out.kept.blk HBK.out (by simp; exact fun e => HNE.out e.symm)) (by have := HQ.out.1; omega)
        go_wp2_with fail
        refine hof.mono ?_
        rintro e w3 ⟨s, rfl, hs, hR3, hK3⟩
        have HF4 := Lib.hid (HF3.out.call hR3 hK3)
        have hat := l10Atom_s s true g (p' + 1 + 1) w3 hR3 (by have := HQ.out.1; omega) hs
        clear hof hR3 hK3 hs
        go_wp2_with fail
        refine hat.mono ?_
        rintro e w4 ⟨a, v4, L4, p4, rfl, hs4, hl4, hC4, hR4, hp4, hK4, hsm4⟩
        obtain ⟨b4, hsl4, hfar4⟩ := hC4.slice
        obtain ⟨A4, c4, rfl⟩ := own_shape hC4.own
        have HF5 := Lib.hid (HF4.out.call hR4 hK4)
        have HA5 : Hid (PtS ⟨false, a⟩ ∧ p4 ≤ p' + 8) := Lib.hid ⟨⟨hs4, Nat.le_succ_of_le hl4, hsm4⟩, by omega⟩
        obtain ⟨L5, bs5, hC5, hbb5, hR5, hL5, hO5, hB5⟩ := HF5.out.part HF4.out rfl ⟨_, rfl, Sm.max hs4, hsl4⟩ (fun b hb => (hfar4 b hb).resolve_right (by simp)) (false)
        have HY := Lib.hid (And.intro hC5 (And.intro hbb5 (And.intro hR5 (And.intro hL5 (And.intro hO5 hB5)))))
        have HKL : Hid (xs.length + 1 ≤ maxLen ∧ (xs.length + 1) * 48 ≤ 140737488355328) := Lib.hid (by have := HQ.out; unfold maxLen; omega)
        clear hat hs4 hl4 hC4 hR4 hp4 hK4 hsm4 hsl4 hfar4 hC5 hbb5 hR5 hL5 hO5 hB5
        have HSZ : Hid (w.heap.size ≤ (w4.alloc (.cells #[.bool false, .string a.name, .slice A4 a.args.length c4] 148)).heap.size) := Lib.hid (by have := HF5.out.kept.size; simp; omega)
        go_wp2_with (at_builtin; refine wpList_coll rfl _ _ _ rfl w.heap.size 148 i0 (.agg #[.bool false, .string ⟨#[]⟩, .slice none 0 0]) 3 48 Tryz.underlying51 hi hz0 hz1 hz2 rfl (by omega) partK_good (.slice Av xs.length cp) xs.length _ _ _ rfl HY.out.1 rfl (some ⟨w4.heap.size, 0, none⟩) 1 1 _ [⟨false, a⟩] _ rfl HY.out.2.2.1 rfl HY.out.2.2.2.1 HY.out.2.2.2.2.1 HKL.out.1 HKL.out.2 w4 w.heap.size HY.out.2.2.2.2.2 (Nat.le_refl _) HSZ.out ?_; intro A6 cp6 w6 hC6 hB6 hS6 hG6)
        have HF6 := Lib.hid (HF5.out.app hC6 HY.out.2.1 hB6 HA5.out.1)
        clear hC6 hB6 hS6 hG6 HY
        go_wp2
        go_roundw
        case rel => exact ⟨k - 1, xs ++ [⟨false, a⟩], A6, cp6, p4, by have := HK.out; first | (unfold wrap64; congr 1; omega) | go_num, by rw [List.length_append]; rfl, by rw [List.length_append]; have := HX.out; have := HK.out; simp; omega, by have := HX.out; have := HK.out; have := HA5.out.2; omega, by rw [List.length_append]; exact HF6.out⟩
        case measure => have := HK.out; simp [intOf]; omega
    · obtain rfl : k = 0 := by omega
      clear hk0
      go_wp2
      go_ret
      exact ⟨xs, _, p', rfl, by have := HX.out; omega, by have := HX.out; have := HN.out; omega, by have := HX.out; have := HN.out; omega, HF2.out⟩

set_option maxHeartbeats 1000000 in
theorem l10Fact_any (g p : Nat) (w : World) (h : Rdr g p w) (hp : p ≤ 800000) :
    Calls Tryz.prog 95 #[.pointer (some ⟨g, 0, none⟩)] w (AtomD 3 g p 7 w) := by
  have hA : Below w.heap.size w (w.alloc (.cells #[.string ⟨#[]⟩, .slice none 0 0] 33)) := (Below.refl _ _).alloc (Nat.le_refl _) _
  have ho := of_lit g p [⟨#[101]⟩, ⟨#[101]⟩, ⟨#[101]⟩, ⟨#[112]⟩, ⟨#[112]⟩, ⟨#[113]⟩, ⟨#[122]⟩, ⟨#[104]⟩] 8 (w.alloc (.cells #[.string ⟨#[]⟩, .slice none 0 0] 33)) (h.below hA) (by omega) rfl (by decide) (by decide) (by decide)
  rw [World.size_alloc] at ho
  have hg := h.lt
  have HZ := Lib.hid (heap_alloc_new w (.cells #[.string ⟨#[]⟩, .slice none 0 0] 33))
  have HPP := Lib.hid hp
  clear h hp
  go_enter Tryz.func95, Tryz.ntmps95
  go_wp2_with fail
  refine ho.mono ?_
  rintro e w1 ⟨s, rfl, hs, hR, hK⟩
  replace HZ := Lib.hid (hK.blk HZ.out (by simp; omega))
  have HK := Lib.hid ((KeptBut.of_below hA (bs := [g])).trans hK)
  have hca := l10Atom_any s false g (p + 1) w1 hR (by have := HPP.out; omega) hs
  clear ho hK hR hA
  go_wp2_with fail
  refine hca.mono ?_
  rintro e w2 ⟨a, v, L, p', rfl, hs2, hx, hC, hR2, hp2, hK2⟩
  replace HZ := Lib.hid (hK2.blk HZ.out (by simp; omega))
  have z0 := cell_of_blk (o := 0) HZ.out
  have z1 := cell_of_blk (o := 1) HZ.out
  have f0 := frozen_of_blk (o := 0) HZ.out
  have f1 := frozen_of_blk (o := 1) HZ.out
  simp only [List.getElem?_toArray, List.getElem?_cons_zero, List.getElem?_cons_succ] at z0 z1
  obtain ⟨Av, cv, rfl⟩ := own_shape hC.own
  have HD := Lib.hid (atomD_store (k := 3) (p0 := p) (q := 7) HZ.out (Nat.le_refl _) hC HK.out.size hR2 (HK.out.trans hK2) hg hs2 hx (by omega))
  clear hca hC hR2 hK2 hs2 hx hp2 hs
  go_wp2
  refine bodyPost_ret (v := .agg #[.string a.name, .slice Av a.args.length cv]) (by simp [results, Tryz.results95, go_sem, z0, z1]) rfl HD.out

end Go.Proofs.YtjjfafgaphloaaaGreatDoor
namespace Go.Proofs.YtjjfafgaphloaaaGreatDoor
open Go.RowKit D
set_option linter.unusedVariables false
/-- The word in a variable's place. -/
def D.wrd (vars : List ByteArray) (b : Bd) (i : Nat) : ByteArray := if h : i < vars.length then valB b vars[i] else ⟨#[]⟩

/-- Bindings lie in block blk from cell o on. -/
structure D.BdAt (vars : List ByteArray) (b : Bd) (blk o : Nat) (w : World) : Prop where
  wd : ∀ i, i < 12 → w.cell? ⟨blk, o + i, none⟩ = some (.string (wrd vars b i))
  bd : ∀ i, i < 12 → ∃ z : Int, w.cell? ⟨blk, o + 12 + i, none⟩ = some (.int .i64 z) ∧ ∀ h : i < b.length, z = (vars.idxOf b[i].1 : Nat)
  ct : w.cell? ⟨blk, o + 24, none⟩ = some (.int .i64 b.length)
  fz : ∀ i, i < 25 → w.frozen? ⟨blk, o + i, none⟩ = false

/-- Names of bindings are variables, each once; words are not empty. -/
structure D.BdOk (vars : List ByteArray) (b : Bd) : Prop where
  inn : ∀ p ∈ b, p.1 ∈ vars
  once : (b.map (·.1)).Nodup
  full : ∀ p ∈ b, p.2 ≠ ⟨#[]⟩
  size : ∀ p ∈ b, p.2.size ≤ maxLen

/-- Variables as the program keeps them. -/
structure D.VarsOk (vars : List ByteArray) : Prop where
  few : vars.length ≤ 12
  once : vars.Nodup

theorem D.getB_none {b : Bd} {n : ByteArray} : getB b n = none ↔ ∀ p ∈ b, p.1 ≠ n := by
  induction b with
  | nil => simp [getB]
  | cons p b ih =>
    rw [getB]
    split
    · rename_i h; simp [h]
    · rename_i h; simp [h, ih]

theorem D.getB_mem {b : Bd} {n v : ByteArray} (h : getB b n = some v) : (n, v) ∈ b := by
  induction b with
  | nil => simp [getB] at h
  | cons p b ih =>
    rw [getB] at h
    split at h
    · rename_i e
      cases h
      subst e
      exact List.mem_cons_self ..
    · exact List.mem_cons_of_mem _ (ih h)

theorem D.getB_snoc_same {b : Bd} {n v : ByteArray} (h : getB b n = none) : getB (b ++ [(n, v)]) n = some v := by rw [getB_append, h]; simp [getB]

theorem D.getB_snoc_other {b : Bd} {n m v : ByteArray} (h : n ≠ m) : getB (b ++ [(n, v)]) m = getB b m := by
  rw [getB_append]
  simp [getB, h]

/-- A word is empty just where nothing is bound. -/
theorem D.BdOk.val_empty {vars : List ByteArray} {b : Bd} (h : BdOk vars b) (n : ByteArray) : valB b n = ⟨#[]⟩ ↔ getB b n = none := by
  unfold valB
  cases hg : getB b n with
  | none => simp
  | some v => simp [h.full _ (getB_mem hg)]

theorem D.BdOk.len {vars : List ByteArray} {b : Bd} (h : BdOk vars b) : b.length ≤ vars.length := by
  have : (b.map (·.1)).length ≤ vars.length := nodup_len h.once fun x hx => by
    obtain ⟨p, hp, rfl⟩ := List.mem_map.1 hx
    exact h.inn p hp
  simpa using this

theorem D.BdOk.lt {vars : List ByteArray} {b : Bd} (h : BdOk vars b) {n : ByteArray} (hn : n ∈ vars) (hg : getB b n = none) : b.length < vars.length := by
  have hnd : (n :: b.map (·.1)).Nodup := List.nodup_cons.2 ⟨fun hm => by
    obtain ⟨p, hp, e⟩ := List.mem_map.1 hm
    exact getB_none.1 hg p hp e, h.once⟩
  have : (n :: b.map (·.1)).length ≤ vars.length := nodup_len hnd fun x hx => by
    rcases List.mem_cons.1 hx with rfl | hx
    · exact hn
    · obtain ⟨p, hp, rfl⟩ := List.mem_map.1 hx
      exact h.inn p hp
  simp at this
  omega

theorem D.BdOk.snoc {vars : List ByteArray} {b : Bd} (h : BdOk vars b) {n v : ByteArray} (hn : n ∈ vars) (hg : getB b n = none) (hv : v ≠ ⟨#[]⟩) (hs : v.size ≤ maxLen) : BdOk vars (b ++ [(n, v)]) := by
  refine ⟨fun p hp => ?_, ?_, fun p hp => ?_, fun p hp => ?_⟩
  · rcases List.mem_append.1 hp with hp | hp
    · exact h.inn p hp
    · rw [List.mem_singleton.1 hp]; exact hn
  · rw [List.map_append]
    refine List.nodup_append.2 ⟨h.once, by simp, fun x hx y hy e => ?_⟩
    simp at hy
    obtain ⟨p, hp, rfl⟩ := List.mem_map.1 hx
    exact getB_none.1 hg p hp (e.trans hy)
  · rcases List.mem_append.1 hp with hp | hp
    · exact h.full p hp
    · rw [List.mem_singleton.1 hp]; exact hv
  · rcases List.mem_append.1 hp with hp | hp
    · exact h.size p hp
    · rw [List.mem_singleton.1 hp]; exact hs

theorem D.BdOk.init {vars : List ByteArray} {b : Bd} {p : ByteArray × ByteArray} (h : BdOk vars (b ++ [p])) : BdOk vars b ∧ p.1 ∈ vars ∧ getB b p.1 = none := by
  have h2 := h.once
  rw [List.map_append] at h2
  obtain ⟨h3, _, h4⟩ := List.nodup_append.1 h2
  exact ⟨⟨fun q hq => h.inn q (List.mem_append_left _ hq), h3, fun q hq => h.full q (List.mem_append_left _ hq), fun q hq => h.size q (List.mem_append_left _ hq)⟩, h.inn p (by simp), getB_none.2 fun q hq e => h4 q.1 (List.mem_map.2 ⟨q, hq, rfl⟩) p.1 (by simp) e⟩

theorem D.BdOk.nil (vars : List ByteArray) : BdOk vars [] := ⟨fun p h => by simp at h, by simp, fun p h => by simp at h, fun p h => by simp at h⟩

theorem D.BdOk.fill_size {vars : List ByteArray} {b : Bd} (h : BdOk vars b) {t : T} (ht : t.var = false → t.name.size ≤ maxLen) : (fillT b t).name.size ≤ maxLen := by
  unfold fillT
  cases hv : t.var
  · simpa using ht hv
  · simp only [if_true, valB]
    cases hg : getB b t.name with
    | none => decide
    | some v => exact h.size _ (getB_mem hg)

/-- Which word changes as one variable is bound. -/
theorem D.wrd_snoc {vars : List ByteArray} (hv : VarsOk vars) {b : Bd} {n v : ByteArray} (hn : n ∈ vars) (hg : getB b n = none) (i : Nat) :
    wrd vars (b ++ [(n, v)]) i = if i = vars.idxOf n then v else wrd vars b i := by
  have hl := List.idxOf_lt_length_of_mem hn
  unfold wrd
  by_cases hi : i < vars.length
  · rw [dif_pos hi, dif_pos hi]
    split
    · rename_i e
      subst e
      have : vars[vars.idxOf n] = n := List.getElem_idxOf hi
      unfold valB
      rw [this, getB_snoc_same hg]; rfl
    · rename_i e
      have hne : n ≠ vars[i] := fun e2 => e (by rw [e2]; exact (List.Nodup.idxOf_getElem hv.once i hi).symm)
      unfold valB
      rw [getB_snoc_other hne]
  · rw [dif_neg hi, dif_neg hi]
    split
    · omega
    · rfl

section
variable {vars : List ByteArray} {b : Bd} {blk o : Nat} {w : World}
theorem D.BdAt.keep {w' : World} (h : BdAt vars b blk o w) (e : w'.heap[blk]? = w.heap[blk]?) : BdAt vars b blk o w' :=
  ⟨fun i hi => (World.cell?_of_block e).trans (h.wd i hi), fun i hi => by obtain ⟨z, h1, h2⟩ := h.bd i hi; exact ⟨z, (World.cell?_of_block e).trans h1, h2⟩, (World.cell?_of_block e).trans h.ct, fun i hi => (World.frozen?_of_block e).trans (h.fz i hi)⟩

theorem D.BdAt.lt (h : BdAt vars b blk o w) : blk < w.heap.size := lt_of_cell h.ct

theorem D.cell_put (w : World) (b o : Nat) (v : Value) {u : Value} (h : w.cell? ⟨b, o, none⟩ = some u) (q : Nat) : (w.setCell ⟨b, o, none⟩ v).cell? ⟨b, q, none⟩ = if q = o then some v else w.cell? ⟨b, q, none⟩ := by
  split
  · rename_i e; subst e; exact World.cell?_setCell_same _ _ _ h
  · rename_i e; exact World.cell?_setCell_other _ _ _ _ (fun e2 => e (by injection e2 with _ e3 _; exact e3.symm))

theorem D.BdAt.bind (hv : VarsOk vars) (h : BdAt vars b blk o w) (hb : BdOk vars b) {n v : ByteArray} (hn : n ∈ vars) (hg : getB b n = none) :
    BdAt vars (b ++ [(n, v)]) blk o (((w.setCell ⟨blk, o + vars.idxOf n, none⟩ (.string v)).setCell ⟨blk, o + 12 + b.length, none⟩ (.int .i64 (vars.idxOf n : Nat))).setCell ⟨blk, o + 24, none⟩ (.int .i64 ((b ++ [(n, v)]).length : Nat))) := by
  have hl := hb.lt hn hg
  have hf := hv.few
  have hi := List.idxOf_lt_length_of_mem hn
  obtain ⟨z0, hz0, _⟩ := h.bd b.length (by omega)
  have c1 := D.cell_put w blk (o + vars.idxOf n) (.string v) (h.wd _ (by omega))
  have c2 := D.cell_put (w.setCell ⟨blk, o + vars.idxOf n, none⟩ (.string v)) blk (o + 12 + b.length) (.int .i64 (vars.idxOf n : Nat)) (u := .int .i64 z0) (by rw [c1, if_neg (by omega)]; exact hz0)
  have c3 := D.cell_put ((w.setCell ⟨blk, o + vars.idxOf n, none⟩ (.string v)).setCell ⟨blk, o + 12 + b.length, none⟩ (.int .i64 (vars.idxOf n : Nat))) blk (o + 24) (.int .i64 ((b ++ [(n, v)]).length : Nat)) (u := .int .i64 b.length)
    (by rw [c2, if_neg (by omega), c1, if_neg (by omega)]; exact h.ct)
  refine ⟨fun i hi' => ?_, fun i hi' => ?_, ?_, fun i hi' => ?_⟩
  · rw [c3, if_neg (by omega), c2, if_neg (by omega), c1, wrd_snoc hv hn hg]
    by_cases e : i = vars.idxOf n
    · rw [if_pos (by omega), if_pos e]
    · rw [if_neg (by omega), if_neg e]; exact h.wd i hi'
  · rw [c3, if_neg (by omega), c2]
    by_cases e : i = b.length
    · subst e
      rw [if_pos rfl]
      exact ⟨_, rfl, fun hlt => by simp⟩
    · rw [if_neg (by omega), c1, if_neg (by omega)]
      obtain ⟨z, h1, h2⟩ := h.bd i hi'
      refine ⟨z, h1, fun hlt => ?_⟩
      have hlt' : i < b.length := by simp at hlt; omega
      rw [h2 hlt', List.getElem_append_left hlt']
  · rw [c3, if_pos rfl]
  · simp only [World.frozen?_setCell]
    exact h.fz i hi'

theorem D.BdAt.unbind (hv : VarsOk vars) {n v : ByteArray} (h : BdAt vars (b ++ [(n, v)]) blk o w) (hb : BdOk vars (b ++ [(n, v)])) :
    BdAt vars b blk o ((w.setCell ⟨blk, o + 24, none⟩ (.int .i64 (b.length : Nat))).setCell ⟨blk, o + vars.idxOf n, none⟩ (.string ⟨#[]⟩)) := by
  obtain ⟨hb0, hn, hg⟩ := hb.init
  have hf := hv.few
  have hi := List.idxOf_lt_length_of_mem hn
  dsimp only at hn hg hi
  have c1 := D.cell_put w blk (o + 24) (.int .i64 (b.length : Nat)) h.ct
  have c2 := D.cell_put (w.setCell ⟨blk, o + 24, none⟩ (.int .i64 (b.length : Nat))) blk (o + vars.idxOf n) (.string ⟨#[]⟩) (by rw [c1, if_neg (by omega)]; exact h.wd _ (by omega))
  refine ⟨fun i hi' => ?_, fun i hi' => ?_, ?_, fun i hi' => ?_⟩
  · rw [c2]
    by_cases e : i = vars.idxOf n
    · rw [if_pos (by omega)]
      subst e
      unfold wrd
      rw [dif_pos hi]
      have : vars[vars.idxOf n] = n := List.getElem_idxOf hi
      rw [this, (hb0.val_empty n).2 hg]
    · rw [if_neg (by omega), c1, if_neg (by omega), h.wd i hi', wrd_snoc hv hn hg, if_neg e]
  · rw [c2, if_neg (by omega), c1, if_neg (by omega)]
    obtain ⟨z, h1, h2⟩ := h.bd i hi'
    refine ⟨z, h1, fun hlt => ?_⟩
    rw [h2 (by simp; omega), List.getElem_append_left hlt]
  · rw [c2, if_neg (by omega), c1, if_pos rfl]
  · simp only [World.frozen?_setCell]
    exact h.fz i hi'

end
/-- What a change of bindings leaves: every other block that was there, and what else lies in theirs. -/
structure D.BdKept (blk o : Nat) (w w' : World) : Prop where
  grow : w.grownBy w' (some blk)
  rest : ∀ q, (q < o ∨ o + 25 ≤ q) → w'.cell? ⟨blk, q, none⟩ = w.cell? ⟨blk, q, none⟩

section
variable {blk o : Nat} {w w' w2 : World}
theorem D.BdKept.refl (blk o : Nat) (w : World) : BdKept blk o w w := ⟨⟨rfl, rfl, rfl, Nat.le_refl _, fun _ _ _ => rfl⟩, fun _ _ => rfl⟩

theorem D.BdKept.trans (h : BdKept blk o w w') (k : BdKept blk o w' w2) : BdKept blk o w w2 :=
  ⟨⟨k.grow.os.trans h.grow.os, k.grow.tape.trans h.grow.tape, k.grow.output.trans h.grow.output, Nat.le_trans h.grow.size k.grow.size, fun i hi hne => (k.grow.block i (Nat.lt_of_lt_of_le hi h.grow.size) hne).trans (h.grow.block i hi hne)⟩,
    fun q hq => (k.rest q hq).trans (h.rest q hq)⟩

theorem D.BdKept.of_below (h : Below w.heap.size w w') (hb : blk < w.heap.size) : BdKept blk o w w' :=
  ⟨⟨h.os, h.tape, h.output, h.size, fun i hi _ => h.block i hi⟩, fun q _ => World.cell?_of_block (h.block _ hb)⟩

theorem D.BdKept.put (w : World) (i : Nat) (hi : i < 25) (v : Value) : BdKept blk o w (w.setCell ⟨blk, o + i, none⟩ v) :=
  ⟨⟨rfl, rfl, rfl, by simp [World.setCell], fun k _ hne => Below.heap_setCell _ _ _ _ (fun e => hne (by rw [e]))⟩,
    fun q hq => World.cell?_setCell_other _ _ _ _ (fun e => by injection e with _ e2 _; omega)⟩

theorem D.BdKept.keep {α : Type} {R : Rel α} (g : Good R) {cs : List Value} {x : α} {bs : List Nat} (h : BdKept blk o w w') (hr : R w cs x bs) (hb : blk ∉ bs) : R w' cs x bs :=
  g.keep hr fun b hb' => h.grow.block b (g.lt hr b hb') (fun e => hb (by injection e with e; rw [← e]; exact hb'))

theorem D.BdKept.block (h : BdKept blk o w w') {b : Nat} (hb : b < w.heap.size) (hne : b ≠ blk) : w'.heap[b]? = w.heap[b]? := h.grow.block b hb (fun e => hne (by injection e))

end
/-- One step of matching, as the program takes it. -/
theorem D.matchT_prog {vars : List ByteArray} {b : Bd} (hb : BdOk vars b) (t f : T) (ts fs : List T) (hc : t.var = false → t.name ≠ ⟨#[]⟩) :
    matchT (t :: ts) (f :: fs) b = if (fillT b t).name = ⟨#[]⟩ then matchT ts fs (b ++ [(t.name, f.name)]) else if (fillT b t).name = f.name then matchT ts fs b else (b, false) := by
  obtain ⟨tv, tn⟩ := t
  rw [matchT]
  unfold fillT
  cases tv
  · simp only [Bool.false_eq_true, if_false]
    rw [if_neg (hc rfl)]
  · simp only [if_true]
    cases hg : getB b tn with
    | none =>
      have : valB b tn = ⟨#[]⟩ := (hb.val_empty tn).2 hg
      rw [if_pos this]
    | some v =>
      have e : valB b tn = v := by unfold valB; rw [hg]; rfl
      have hne : v ≠ ⟨#[]⟩ := hb.full _ (getB_mem hg)
      simp only [e]
      rw [if_neg hne]

theorem D.fill_empty {vars : List ByteArray} {b : Bd} (hb : BdOk vars b) {t : T} (hc : t.var = false → t.name ≠ ⟨#[]⟩) (h : (fillT b t).name = ⟨#[]⟩) : t.var = true ∧ getB b t.name = none := by
  unfold fillT at h
  cases hv : t.var
  · simp [hv] at h; exact absurd h (hc hv)
  · simp [hv] at h; exact ⟨rfl, (hb.val_empty _).1 h⟩

end Go.Proofs.YtjjfafgaphloaaaGreatDoor
