/- The reader of a code (l1Rd): what pick and of give. -/
import Derived.BigQuiet
import Derived.Deep.QuietTactic
import Derived.Laws.BitsAllLaws
import Derived.WalkKit
import Derived.WalkSpells
import Derived.WalkLawsBesides
import Derived.Lib.Hide
import Derived.Lib.IndexBytes
import Derived.Deep.Slices
import Derived.Deep.Fields
import Derived.ChangeSame
import Derived.Deep.Draws
import Derived.Test.YtbcepahpehadeaaGreatDoorProg
import Derived.Test.YtbcepahpehadeaaGreatDoorKind
namespace Go.Proofs.YtbcepahpehadeaaGreatDoor
open Go.RowKit D
set_option linter.unusedVariables false

theorem i64_xor_nat (a b : Nat) (ha : a < 4611686018427387904) (hb : b < 4611686018427387904) : bits .xor .i64 (a : Int) (b : Int) = ((a ^^^ b : Nat) : Int) := by
  have hx : a ^^^ b < 2 ^ 62 := Nat.xor_lt_two_pow (by omega) (by omega)
  show IntKind.i64.wrap ((BitVec.ofInt 64 (a : Int) ^^^ BitVec.ofInt 64 (b : Int)).toNat : Int) = _
  rw [BitVec.toNat_xor, ofInt_u64 a (by omega), ofInt_u64 b (by omega), IntKind.wrap_i64]
  omega
theorem i64_xor_pos (a b : Int) (h1 : 0 ≤ a) (h2 : a < 4611686018427387904) (h3 : 0 ≤ b) (h4 : b < 4611686018427387904) : 0 ≤ bits .xor .i64 a b := by
  obtain ⟨x, rfl⟩ := Int.eq_ofNat_of_zero_le h1
  obtain ⟨y, rfl⟩ := Int.eq_ofNat_of_zero_le h3
  rw [i64_xor_nat x y (by omega) (by omega)]
  omega

/-- Block g is a reader that has been asked p times; its bytes lie in other blocks. -/
def Rdr (g : Nat) (p : Nat) (w : World) : Prop :=
  ∃ (Ad : Option Addr) (n cap : Nat), w.heap[g]? = some (.cells #[.slice Ad n cap, .int .i64 p] 133 (0, 0)) ∧ n ≤ 2000 ∧
    ∀ k, k < n → ∃ b o c, Ad = some ⟨b, o, none⟩ ∧ b < g ∧ w.cell? ⟨b, o + k, none⟩ = some (.int .u8 c) ∧ 0 ≤ c ∧ c ≤ 255

theorem Rdr.lt {g p : Nat} {w : World} (h : Rdr g p w) : g < w.heap.size := by
  obtain ⟨_, _, _, h, _⟩ := h; exact lt_of_block h

theorem Rdr.drew {g p : Nat} {w : World} (h : Rdr g p w) : Rdr g p w.drew := h

theorem grown_setCell (w : World) (g o : Nat) (v : Value) : w.grownBy (w.setCell ⟨g, o, none⟩ v) (some g) :=
  ⟨rfl, rfl, rfl, by simp [World.setCell], fun k _ hk => Below.heap_setCell _ _ _ _ (fun e => hk (by rw [e]))⟩
theorem grown_drewN {w w' : World} {r : Option Nat} (h : w.grownBy w' r) (n : Nat) : w.grownBy (w'.drewN n) r := ⟨h.os, h.tape, h.output, h.size, h.block⟩

theorem Rdr.step {g p m cap : Nat} {Ad : Option Addr} {w : World} (hg : w.heap[g]? = some (.cells #[.slice Ad m cap, .int .i64 p] 133 (0, 0))) (hm : m ≤ 2000)
    (hc : ∀ k, k < m → ∃ b o c, Ad = some ⟨b, o, none⟩ ∧ b < g ∧ w.cell? ⟨b, o + k, none⟩ = some (.int .u8 c) ∧ 0 ≤ c ∧ c ≤ 255) : Rdr g (p + 1) (w.setCell ⟨g, 1, none⟩ (.int .i64 ((p : Int) + 1))) := by
  refine ⟨Ad, m, cap, ?_, hm, fun k hk => ?_⟩
  · have hlt := lt_of_block hg
    have h' : w.heap[g] = .cells #[.slice Ad m cap, .int .i64 p] 133 (0, 0) := by simpa [Array.getElem?_eq_getElem hlt] using hg
    show (w.heap.modify g _)[g]? = _
    rw [Array.getElem?_eq_getElem (by simpa using hlt), Array.getElem_modify_self, h']
    rfl
  · obtain ⟨b, o, c, h1, h2, h3, h4⟩ := hc k hk
    exact ⟨b, o, c, h1, h2, by rw [World.cell?_of_block (w := w) (Below.heap_setCell _ _ _ _ (Nat.ne_of_lt h2))]; exact h3, h4⟩

theorem Rdr.keep {g p : Nat} {w w' : World} (h : Rdr g p w) (hk : ∀ b, b < w.heap.size → w'.heap[b]? = w.heap[b]?) : Rdr g p w' := by
  obtain ⟨Ad, n, cap, hg, hn, hc⟩ := h
  refine ⟨Ad, n, cap, by rw [hk g (lt_of_block hg)]; exact hg, hn, fun k hkn => ?_⟩
  obtain ⟨b, o, c, h1, h2, h3, h4⟩ := hc k hkn
  exact ⟨b, o, c, h1, h2, by rw [World.cell?_of_block (w := w) (hk b (lt_of_cell h3))]; exact h3, h4⟩
theorem Rdr.below {g p : Nat} {w w' : World} (h : Rdr g p w) (hb : Below w.heap.size w w') : Rdr g p w' := h.keep hb.block
theorem Below.of_grown {B g : Nat} {w w' : World} (h : w.grownBy w' (some g)) (hB : B ≤ w.heap.size) (hg : B ≤ g) : Below B w w' :=
  (Below.refl _ _).grown h hB (fun k e => by injection e with e; omega)

/-- What pick leaves. -/
def Picked (g p : Nat) (n : Int) (w : World) (e : Ending) (w' : World) : Prop := ∃ i : Nat, e = .returned (.int .i64 i) ∧ (i : Int) < n ∧ Rdr g (p + 1) w' ∧ w.grownBy w' (some g)
theorem Picked.mk {g p : Nat} {n i : Int} {w w' : World} (h0 : 0 ≤ i) (hi : i < n) (hR : Rdr g (p + 1) w') (hg : w.grownBy w' (some g)) : Picked g p n w (.returned (.int .i64 i)) w' := by
  obtain ⟨x, rfl⟩ := Int.eq_ofNat_of_zero_le h0
  exact ⟨x, rfl, hi, hR, hg⟩

set_option maxHeartbeats 1000000 in
theorem pick_any (g p : Nat) (n : Int) (w : World) (h : Rdr g p w) (hp : p ≤ 1000000) (hn : 1 ≤ n) (hn2 : n ≤ 1000000) :
    Calls Tryz.prog 96 #[.pointer (some ⟨g, 0, none⟩), .int .i64 n] w (Picked g p n w) := by
  obtain ⟨Ad, m, cap, hg, hm, hc⟩ := h
  have c0 : w.cell? ⟨g, 0, none⟩ = some (.slice Ad m cap) := by simp [World.cell?, hg]
  have c1 : w.cell? ⟨g, 1, none⟩ = some (.int .i64 p) := by simp [World.cell?, hg]
  have f1 : w.frozen? ⟨g, 1, none⟩ = false := by simp [World.frozen?, hg]
  have HR := Lib.hid (Rdr.step hg hm hc)
  have HW := Lib.hid (grown_setCell w g 1 (.int .i64 ((p : Int) + 1)))
  have k0 : ∀ k, k < m → ∃ b o c, Ad = some ⟨b, o, none⟩ ∧ (w.setCell ⟨g, 1, none⟩ (.int .i64 ((p : Int) + 1))).cell? ⟨b, o + k, none⟩ = some (.int .u8 c) ∧ 0 ≤ c ∧ c ≤ 255 := by
    obtain ⟨Ad', m', cap', hg', _, hc'⟩ := HR.out
    intro k hk
    obtain ⟨b, o, c, h1, h2, h3, h4⟩ := hc k hk
    exact ⟨b, o, c, h1, by rw [World.cell?_of_block (w := w) (Below.heap_setCell _ _ _ _ (Nat.ne_of_lt h2))]; exact h3, h4⟩
  have HC := Lib.hid k0
  clear hg hc k0
  by_cases h0 : m = 0
  · subst h0
    go_enter Tryz.func96, Tryz.ntmps96
    go_wp2
    go_ret
    exact Picked.mk (by omega) (by omega) HR.out HW.out
  · by_cases hk : p < m
    · obtain ⟨b, o, c, rfl, d0, d1, d2⟩ := HC.out p hk
      have h0' : ((m : Int) == 0) = false := beq_eq_false_iff_ne.2 (by omega)
      go_enter Tryz.func96, Tryz.ntmps96
      go_wp2
      go_ret
      exact Picked.mk (Int.emod_nonneg _ (by omega)) (Int.emod_lt_of_pos _ (by omega)) HR.out HW.out
    · have m1 := Nat.mod_lt p (show 0 < m by omega)
      have m2 := Nat.mod_lt (p * 7 + 3) (show 0 < m by omega)
      obtain ⟨b, o, x1, rfl, d0, d1, d2⟩ := HC.out (p % m) m1
      obtain ⟨b', o', x2, he, e0, e1, e2⟩ := HC.out ((p * 7 + 3) % m) m2
      simp only [Option.some.injEq, Addr.mk.injEq, and_true] at he
      obtain ⟨rfl, rfl⟩ := he
      have h0' : ((m : Int) == 0) = false := beq_eq_false_iff_ne.2 (by omega)
      have b1 : (0 : Int) ≤ (p : Int) % (m : Int) := Int.emod_nonneg _ (by omega)
      have b2 : (p : Int) % (m : Int) < (m : Int) := Int.emod_lt_of_pos _ (by omega)
      have b3 : (0 : Int) ≤ ((p : Int) * 7 + 3) % (m : Int) := Int.emod_nonneg _ (by omega)
      have b4 : ((p : Int) * 7 + 3) % (m : Int) < (m : Int) := Int.emod_lt_of_pos _ (by omega)
      have b5 : (0 : Int) ≤ (p : Int) / (m : Int) := Int.ediv_nonneg (by omega) (by omega)
      have b6 : (p : Int) / (m : Int) ≤ (p : Int) := Int.ediv_le_self _ (by omega)
      have hmm : (1 : Int) ≤ (m : Int) := by omega
      go_enter Tryz.func96, Tryz.ntmps96
      go_wp2
      go_quiet (fail)
      clear d0 e0
      go_wp2
      go_ret
      have hx := i64_xor_pos (x1 * 131 + x2 * 1117 + (p : Int) * 29 + (p : Int) / (m : Int) * 53) ((x1 * 131 + x2 * 1117 + (p : Int) * 29 + (p : Int) / (m : Int) * 53) / 64) (by omega) (by omega) (by omega) (by omega)
      exact Picked.mk (Int.tmod_nonneg _ hx) (Int.tmod_lt_of_pos _ (by omega)) HR.out (grown_drewN HW.out _)

/-- What 'of' leaves: one of the texts. -/
def OneOf (xs : List ByteArray) (g p : Nat) (w : World) (e : Ending) (w' : World) : Prop := ∃ s, e = .returned (.string s) ∧ s ∈ xs ∧ Rdr g (p + 1) w' ∧ w.grownBy w' (some g)

set_option maxHeartbeats 400000 in
theorem of_any (g p : Nat) (v : Value) (xs : List ByteArray) (bs : List Nat) (w : World) (h : Rdr g p w) (hx : strsK w [v] xs bs) (hp : p ≤ 1000000) (hn : 1 ≤ xs.length) (hn2 : xs.length ≤ 1000000) (hg : g ∉ bs) :
    Calls Tryz.prog 72 #[.pointer (some ⟨g, 0, none⟩), v] w (OneOf xs g p w) := by
  obtain ⟨Ad, cap, rfl, hl, hm⟩ := sliceK_form hx
  have hpk := pick_any g p xs.length w h hp (by omega) (by omega)
  clear hm
  go_enter Tryz.func72, Tryz.ntmps72
  go_wp2_with fail
  refine hpk.mono ?_
  rintro e w1 ⟨i, rfl, hi, hR, hG⟩
  have hi' : i < xs.length := by omega
  have hi0 : (0 : Int) ≤ (i : Int) := by omega
  obtain ⟨b, o, rfl, hb, c0, hsz⟩ := strs_at (strsK_good.keep hx (w' := w1) (fun b hb => hG.block b (strsK_good.lt hx b hb) (fun e => hg (by injection e with e; rw [← e]; exact hb)))) hi'
  have hmem : xs[i] ∈ xs := List.getElem_mem _
  have HM := Lib.hid hmem
  have HG := Lib.hid hG
  clear hmem hx h hG
  go_wp2
  go_ret
  exact ⟨_, rfl, HM.out, hR, HG.out⟩

/-- What l1Open leaves: a reader in the one new block. -/
def Opened (w : World) (e : Ending) (w' : World) : Prop := e = .returned (.pointer (some ⟨w.heap.size, 0, none⟩)) ∧ Rdr w.heap.size 0 w' ∧ Below w.heap.size w w'

theorem opened_mk {w : World} {Ad : Option Addr} {n m cap : Nat} {xs : List UInt8} {bs : List Nat} (h : bytesK w [.slice Ad xs.length cap] xs bs) (hm : m ≤ xs.length) (h2 : m ≤ 2000) :
    Rdr w.heap.size 0 (w.alloc (.cells #[.slice Ad m n, .int .i64 0] 133)) := by
  refine ⟨Ad, m, n, heap_alloc_new w _, h2, fun k hk => ?_⟩
  obtain ⟨b, o, rfl, hb, hc⟩ := bytes_at h (show k < xs.length by omega)
  have hlt := bytesK_good.lt h b hb
  exact ⟨b, o, _, rfl, by omega, by rw [World.cell?_alloc_lt w _ _ hlt]; exact hc, by omega, by have := xs[k].toNat_lt; omega⟩

set_option maxHeartbeats 400000 in
theorem open_any (v : Value) (xs : List UInt8) (bs : List Nat) (w : World) (h : bytesK w [v] xs bs) (hn : xs.length ≤ 1048576) :
    Calls Tryz.prog 70 #[v] w (Opened w) := by
  obtain ⟨Ad, cap, rfl, hl, hm⟩ := sliceK_form h
  have hlm := nat_ge_max hm
  clear hm
  by_cases h2 : 2000 < xs.length
  · have hR := Lib.hid (fun n => opened_mk (n := n) (m := 2000) h (by omega) (by omega))
    clear h
    have hlc : (2000 : Int) ≤ (cap : Int) := by omega
    go_enter Tryz.func70, Tryz.ntmps70
    go_wp2
    go_ret
    exact ⟨rfl, hR.out _, (Below.refl _ _).alloc (Nat.le_refl _) _⟩
  · have hR := Lib.hid (opened_mk (n := cap) (m := xs.length) h (by omega) (by omega))
    clear h
    go_enter Tryz.func70, Tryz.ntmps70
    go_wp2
    go_ret
    exact ⟨rfl, hR.out, (Below.refl _ _).alloc (Nat.le_refl _) _⟩

end Go.Proofs.YtbcepahpehadeaaGreatDoor
