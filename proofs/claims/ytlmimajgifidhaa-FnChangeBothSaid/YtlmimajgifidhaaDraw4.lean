/- The draws of facts. -/
import Derived.Laws.EntriesVeiled
import Derived.Deep.RegionHeld3
import Derived.Deep.RegionWith
import Derived.BigQuiet
import Derived.Deep.QuietTactic
import Derived.Deep.DrawnRows
import Derived.Deep.AppendLies
import Derived.WalkKit
import Derived.WalkSpells
import Derived.WalkLawsBesides
import Derived.Lib.Hide
import Derived.Test.YtlmimajgifidhaaDraw2
import Derived.Test.YtlmimajgifidhaaL3P
namespace Go.Proofs.Ytlmimajgifidhaa
open Go.RowKit D
set_option linter.unusedVariables false
attribute [local go_sem ↓] Go.wp_at_zero Go.wp_at_succ

theorem infoAtomD : (Try.prog.info? 45).map (fun i => (i.zero, i.size, i.bytes)) = some (some (.agg #[.string ⟨#[]⟩, .slice none 0 0]), 2, 40) := by kernel_rfl
/-- A block whose cells are neither texts nor yes or no. -/
def D.NoSB (w : World) (n0 : Nat) : Prop := ∀ o u, w.cell? ⟨n0, o, none⟩ = some u → (∀ s, u ≠ .string s) ∧ ∀ b, u ≠ .bool b
theorem Rdr.noSB {g p : Nat} {w : World} (h : Rdr g p w) : NoSB w g := by
  obtain ⟨Ad, n, cap, hg, _, _⟩ := h
  intro o u hu
  rw [cell_of_blk hg] at hu
  match o with
  | 0 => simp at hu; subst hu; exact ⟨fun s => by simp, fun b => by simp⟩
  | 1 => simp at hu; subst hu; exact ⟨fun s => by simp, fun b => by simp⟩
  | o + 2 => simp at hu
theorem D.terms_apartN {w : World} {n0 : Nat} (ha : NoSB w n0) {v : Value} {ts : List T} {bs : List Nat} (h : termsK w [v] ts bs) : n0 ∉ bs := by
  intro hb
  obtain ⟨Ad, cap, hcs, hl, hm, g0, g1⟩ := h
  by_cases hne : ts = []
  · rw [g0 hne] at hb; simp at hb
  · obtain ⟨b, o, rfl, F, G, rfl, hF⟩ := g1 hne
    rcases List.mem_cons.1 hb with rfl | hb
    · match ts, hne with
      | y :: r, _ =>
        obtain ⟨a1, a2, a3⟩ := hF 0 y rfl
        obtain ⟨e, _, _⟩ := a3
        have := a2 0 (.bool y.var) (by rw [e]; rfl)
        exact (ha _ _ this).2 _ rfl
    · obtain ⟨k, hk, hck⟩ := List.mem_flatMap.1 hb
      have hkl := List.mem_range.1 hk
      obtain ⟨a1, a2, a3⟩ := hF k ts[k] (List.getElem?_eq_getElem hkl)
      obtain ⟨_, _, e⟩ := a3
      rw [e] at hck; simp at hck
theorem D.rowed_apart {w : World} {n0 : Nat} (ha : NoSB w n0) {L : List Value} {xs : List A} {bs : List Nat} (h : Rowed 2 atomK w L xs bs) : n0 ∉ bs := by
  obtain ⟨h1, h2, G, rfl, h3⟩ := h
  intro hb
  obtain ⟨j, hj, hc⟩ := List.mem_flatMap.1 hb
  obtain ⟨s, _, _, ht⟩ := h3 j (List.mem_range.1 hj)
  exact terms_apartN ha ht hc
/-- Drawn facts under way: a list in memory of the draw's own. -/
structure FInv (g p : Nat) (w : World) (xs : List A) (v : Value) (wr : World) : Prop where
  coll : ∃ L bs, Coll 2 atomK w.heap.size 45 wr v L xs bs ∧ ∀ b ∈ bs, w.heap.size ≤ b
  small : ∀ a ∈ xs, a.args.length ≤ 4
  rdr : Rdr g p wr
  kept : KeptBut [g] w wr
  glt : g < w.heap.size
section
variable {g p : Nat} {w : World} {xs : List A} {v : Value} {wr : World}
theorem FInv.call {p2 : Nat} {w2 : World} (h : FInv g p w xs v wr) (hR : Rdr g p2 w2) (hK : KeptBut [g] wr w2) : FInv g p2 w xs v w2 := by
  obtain ⟨L, bs, hC, hbb⟩ := h.coll
  exact ⟨⟨L, bs, hC.keptG atomK_good hK h.glt (rowed_apart h.rdr.noSB hC.row), hbb⟩, h.small, hR, h.kept.trans hK, h.glt⟩
theorem FInv.below {w2 : World} (h : FInv g p w xs v wr) (hB : Below wr.heap.size wr w2) : FInv g p w xs v w2 := by
  obtain ⟨L, bs, hC, hbb⟩ := h.coll
  exact ⟨⟨L, bs, hC.below atomK_good hB, hbb⟩, h.small, h.rdr.below hB, h.kept.belowN hB h.kept.size, h.glt⟩
theorem FInv.atoms (h : FInv g p w xs v wr) : ∃ bs, atomsK wr [v] xs bs ∧ ∀ b ∈ bs, w.heap.size ≤ b := by
  obtain ⟨L, bs, hC, hbb⟩ := h.coll
  obtain ⟨b2, hs, h2⟩ := hC.slice
  exact ⟨b2, hs, fun b hb => (h2 b hb).elim id (hbb b)⟩
theorem FInv.shape (h : FInv g p w xs v wr) : ∃ A c, v = .slice A xs.length c := by
  obtain ⟨L, bs, hC, _⟩ := h.coll
  exact own_shape hC.own
/-- Behind l3Put. -/
theorem FInv.put {w2 : World} {xs' : List A} {v' : Value} (h : FInv g p w xs v wr) (hB : Below wr.heap.size wr w2) (hs : ∀ a ∈ xs', a.args.length ≤ 4) {bb : List Nat} (ho : (v' = v ∧ xs' = xs) ∨ ∃ L b9, Coll 2 atomK wr.heap.size 45 w2 v' L xs' b9 ∧ ∀ c ∈ b9, c ∈ bb) (hbb : ∀ c ∈ bb, w.heap.size ≤ c) : FInv g p w xs' v' w2 := by
  rcases ho with ⟨rfl, rfl⟩ | ⟨L, b2, hC, h9⟩
  · exact h.below hB
  · exact ⟨⟨L, b2, hC.mono h.kept.size, fun c hc => hbb c (h9 c hc)⟩, hs, h.rdr.below hB, h.kept.belowN hB h.kept.size, h.glt⟩
end
/-- Drawn facts. -/
def FactsD (m k g p q : Nat) (w : World) (e : Ending) (w' : World) : Prop :=
  ∃ (xs : List A) (v : Value) (p' : Nat), e = .returned v ∧ asc xs = true ∧ xs.length ≤ m ∧ (∀ a ∈ xs, a.args.length ≤ k) ∧ p' ≤ p + q ∧ FInv g p' w xs v w'

set_option maxRecDepth 100000 in
set_option maxHeartbeats 1000000 in
theorem l10Facts_any (g p m : Nat) (w : World) (h : Rdr g p w) (hp : p ≤ 700000) (hm : 1 ≤ m) (hm2 : m ≤ 100) :
    Calls Try.prog 55 #[.pointer (some ⟨g, 0, none⟩), .int .i64 m] w (FactsD m 3 g p (8 * m) w) := by
  have hA : Below w.heap.size w (w.alloc (.cells #[] 45)) := (Below.refl _ _).alloc (Nat.le_refl _) _
  have HF : Hid (FInv g p w [] (.slice (some ⟨w.heap.size, 0, none⟩) 0 0) (w.alloc (.cells #[] 45))) := Lib.hid ⟨⟨_, _, Coll.empty (heap_alloc_new w _) (Nat.le_refl _), fun b hb => by simp at hb⟩, fun a ha => by simp at ha, h.below hA, KeptBut.of_below hA, h.lt⟩
  have hpk := pick_any g p m _ HF.out.rdr (by omega) (by omega) (by omega)
  have HP := Lib.hid (And.intro hp hm2)
  clear h hp hm hm2 hA
  go_enter Try.func55, Try.ntmps55
  go_wp2_with fail
  refine hpk.mono ?_
  rintro e w1 ⟨n, rfl, hn, hR1, hG1⟩
  have HF1 := Lib.hid (HF.out.call hR1 (KeptBut.of_grown hG1))
  have HN : Hid (n < m) := Lib.hid (by omega)
  clear hpk hR1 hG1 HF hn
  go_wp2
  go_loopw [5, 6] (fun v i wr => ∃ (k : Nat) (xs : List A) (Av : Option Addr) (cp p' : Nat), k ≤ n ∧ i = .int .i64 k ∧ v = .slice Av xs.length cp ∧ asc xs = true ∧ xs.length + k ≤ n ∧ (∀ a ∈ xs, a.args.length ≤ 3) ∧ p' + 7 * k ≤ p + 1 + 7 * n ∧ FInv g p' w xs (.slice Av xs.length cp) wr) (fun _ i _ => (intOf i).toNat)
  case atStart => exact ⟨n, [], _, _, p + 1, Nat.le_refl _, rfl, rfl, rfl, by simp, fun a ha => by simp at ha, by omega, HF1.out⟩
  case round =>
    obtain ⟨k, xs, Av, cp, p', hk, rfl, rfl, hs, hx, hsm, hp, hF⟩ := hrel
    have HF2 := Lib.hid hF
    have HX : Hid (asc xs = true ∧ xs.length + k ≤ n ∧ (∀ a ∈ xs, a.args.length ≤ 3) ∧ p' + 7 * k ≤ p + 1 + 7 * n) := Lib.hid ⟨hs, hx, hsm, hp⟩
    have HQ : Hid (p' ≤ 800000 ∧ k ≤ 100) := Lib.hid (by have := HP.out; have := HN.out; omega)
    clear hF HF1 hs hx hsm hp
    by_cases hk0 : 0 < k
    · have hki : (0 : Int) < (k : Int) := by omega
      have hk3 : (k : Int) ≤ 100 := by have := HQ.out.2; omega
      have HK := Lib.hid hk0
      have hc := l10Fact_any g p' wr HF2.out.rdr HQ.out.1
      clear hk hk0
      go_wp2_with fail
      refine hc.mono ?_
      rintro e w2 ⟨a, v2, L2, p2, rfl, hs2, hx2, hC2, hR2, hp2, hK2⟩
      obtain ⟨b2, hsl, hfar⟩ := hC2.slice
      have HFA : Hid (∀ c ∈ b2, w.heap.size ≤ c) := Lib.hid (fun c hc => Nat.le_trans HF2.out.kept.size ((hfar c hc).resolve_right (by simp)))
      clear hfar
      have hat : atomK w2 [.string a.name, v2] a b2 := ⟨_, rfl, Nat.le_trans hs2 (by decide), hsl⟩
      obtain ⟨A2, c2, rfl⟩ := own_shape hC2.own
      have HF3 := Lib.hid (HF2.out.call hR2 hK2)
      obtain ⟨b3, hxs, hfb⟩ := HF3.out.atoms
      have HFB := Lib.hid hfb
      clear hfb
      have hput := l3Put_own xs a _ _ _ b3 b2 w2 hxs hat HX.out.1 (by have := HX.out.2.1; have := HP.out; have := HN.out; omega)
      have HA3 : Hid (a.args.length ≤ 3 ∧ p2 ≤ p' + 7) := Lib.hid ⟨hx2, hp2⟩
      clear hc hC2 hR2 hK2 hsl hat hxs hs2 hx2 hp2
      go_wp2_with fail
      refine hput.mono ?_
      rintro e w3 ⟨hb3, v3, b4, rfl, hR3, ho⟩
      have HF4 := Lib.hid (HF3.out.put (xs' := insA xs a) hb3 (fun y hy => by rcases mem_ins hy with hy | rfl; exact Nat.le_succ_of_le (HX.out.2.2.1 y hy); exact Nat.le_succ_of_le HA3.out.1) ho (fun c hc => (List.mem_append.1 hc).elim (HFB.out c) (HFA.out c)))
      obtain ⟨A3, c3, rfl, _, _⟩ := sliceK_form hR3
      clear hput hR3 ho HF3 HF2
      go_wp2
      go_roundw
      case rel => exact ⟨k - 1, insA xs a, A3, c3, p2, by have := HX.out.2.1; omega, by have := HK.out; first | (unfold wrap64; congr 1; omega) | go_num, rfl, asc_ins HX.out.1 a, by have := ins_length_le xs a; have := HX.out.2.1; have := HK.out; omega, fun y hy => by rcases mem_ins hy with hy | rfl; exact HX.out.2.2.1 y hy; exact HA3.out.1, by have := HX.out.2.2.2; have := HA3.out.2; have := HK.out; omega, HF4.out⟩
      case measure => have := HK.out; simp [intOf]; omega
    · obtain rfl : k = 0 := by omega
      clear hk hk0
      go_wp2
      go_ret
      exact ⟨xs, _, p', rfl, HX.out.1, by have := HX.out.2.1; have := HN.out; omega, HX.out.2.2.1, by have := HX.out.2.2.2; have := HN.out; omega, HF2.out⟩

end Go.Proofs.Ytlmimajgifidhaa
