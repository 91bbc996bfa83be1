/- The draws of bodies, any ones. -/
import Derived.Laws.EntriesVeiled
import Derived.Deep.RegionHeld3
import Derived.Deep.RegionWith
import Derived.BigQuiet
import Derived.Deep.QuietTactic
import Derived.Deep.DrawnRows
import Derived.Deep.AppendLies
import Derived.WalkKit
import Derived.WalkSpells
import Derived.WalkLawsBesides
import Derived.Lib.Hide
import Derived.Test.YtmhjabjiojfgnaaDoorDrawB
namespace Go.Proofs.YtmhjabjiojfgnaaDoor
open Go.RowKit D
set_option linter.unusedVariables false
attribute [local go_sem ↓] Go.wp_at_zero Go.wp_at_succ

section
variable {g p : Nat} {w : World} {xs : List Pt} {v : Value} {wr : World}
theorem BdInv.base {w0 : World} (h : BdInv g p w xs v wr) (hb : Below w0.heap.size w0 w) (hg : g < w0.heap.size) : BdInv g p w0 xs v wr := by
  obtain ⟨L, bs, hC, hbb⟩ := h.coll
  exact ⟨⟨L, bs, hC.mono hb.size, fun b hx => Nat.le_trans hb.size (hbb b hx)⟩, h.small, h.rdr, (KeptBut.of_below hb).trans h.kept, hg⟩
/-- The first part once more: what its append wants. -/
theorem BdInv.first (h : BdInv g p w xs v wr) (h0 : 0 < xs.length) :
    ∃ b cp c0 c1 c2 x, v = .slice (some ⟨b, 0, none⟩) xs.length cp ∧ PtS x ∧ b < wr.heap.size ∧ wr.cell? ⟨b, 0, none⟩ = some c0 ∧ wr.cell? ⟨b, 1, none⟩ = some c1 ∧ wr.cell? ⟨b, 2, none⟩ = some c2 ∧ ∃ L bs b3, Coll 3 partK w.heap.size 72 (wr.alloc (.cells #[c0, c1, c2] 72)) v L xs bs ∧ (∀ b ∈ bs ++ b3, w.heap.size ≤ b) ∧
      Rowed 3 partK (wr.alloc (.cells #[c0, c1, c2] 72)) [c0, c1, c2] [x] b3 ∧ Lies (wr.alloc (.cells #[c0, c1, c2] 72)) (some ⟨wr.heap.size, 0, none⟩) [c0, c1, c2] ∧ (∀ b ∈ b3, v.ownBlock ≠ some b) ∧ Below w.heap.size wr (wr.alloc (.cells #[c0, c1, c2] 72)) := by
  obtain ⟨L, bs, hC, hbb⟩ := h.coll
  obtain ⟨b3, hr, hs3⟩ := hC.row.take (k := 1) h0
  have hlen := hC.row.len
  have h3 : ∃ c0 c1 c2, L.take (1 * 3) = [c0, c1, c2] := by
    match L, hlen with
    | c0 :: c1 :: c2 :: r, _ => exact ⟨c0, c1, c2, rfl⟩
    | [c0, c1], hl => simp only [List.length_cons, List.length_nil] at hl; omega
    | [c0], hl => simp only [List.length_cons, List.length_nil] at hl; omega
    | [], hl => simp only [List.length_nil] at hl; omega
  obtain ⟨c0, c1, c2, e3⟩ := h3
  rw [e3] at hr
  have hx : ∃ x, xs.take 1 = [x] ∧ x ∈ xs := by
    cases xs with
    | nil => simp at h0
    | cons x r => exact ⟨x, rfl, List.mem_cons_self ..⟩
  obtain ⟨x, ex, hxm⟩ := hx
  rw [ex] at hr
  have hA : ∀ c0 c1 c2, Below wr.heap.size wr (wr.alloc (.cells #[c0, c1, c2] 72)) := fun _ _ _ => (Below.refl _ _).alloc (Nat.le_refl _) _
  have hown := hC.own
  rcases hown.2 with ⟨_, hL⟩ | ⟨b, cap, cur, rfl, hbB, hh, _, _, _⟩
  · exfalso
    first
      | (rw [hL] at e3; simp at e3)
      | omega
  · have hL3 : ∀ j u, [c0, c1, c2][j]? = some u → wr.cell? ⟨b, j, none⟩ = some u := fun j u hj => by
      have hjl := (List.getElem?_eq_some_iff.1 hj).1
      simp at hjl
      rw [hown.cellAt j (by omega)]
      rw [← e3, List.getElem?_take_of_lt (by omega)] at hj
      exact hj
    exact ⟨b, cap, c0, c1, c2, x, rfl, h.small x hxm, lt_of_block hh, hL3 0 c0 rfl, hL3 1 c1 rfl, hL3 2 c2 rfl, L, bs, b3, hC.below partK_good (hA _ _ _), fun y hy => (List.mem_append.1 hy).elim (hbb y) (fun hy => hbb y (hs3 y hy)), hr.below partK_good (hA _ _ _), lies_block (heap_alloc_new _ _), fun y hy => hC.far y (hs3 y hy), (Below.refl _ _).alloc h.kept.size _⟩
end
theorem BodyD.nil (g p p0 q m : Nat) (w wr : World) (b : Nat) (hR : Rdr g p wr) (hK : KeptBut [g] w wr) (hg : g < w.heap.size) (hp : p ≤ p0 + q) (hb : b = wr.heap.size) : BodyD 0 m g p0 q w (.returned (.slice (some ⟨b, 0, none⟩) 0 0)) (wr.alloc (.cells #[] 72)) := by
  subst hb
  have hA : Below wr.heap.size wr (wr.alloc (.cells #[] 72)) := (Below.refl _ _).alloc (Nat.le_refl _) _
  exact ⟨[], _, p, rfl, Nat.le_refl _, Nat.zero_le _, hp, ⟨_, _, Coll.empty (heap_alloc_new wr _) hK.size, fun b hb => by simp at hb⟩, fun a ha => by simp at ha, hR.below hA, hK.belowN hA hK.size, hg⟩
def D.lenB : Value → Nat
  | .slice _ n _ => n
  | _ => 0

set_option maxRecDepth 100000 in
set_option maxHeartbeats 2000000 in
theorem l10AnyBody_any (g p : Nat) (w : World) (h : Rdr g p w) (hp : p ≤ 600000) :
    Calls Tryd.prog 71 #[.pointer (some ⟨g, 0, none⟩)] w (BodyD 0 5 g p 60 w) := by
  obtain ⟨i0, hi, hz0, hz1, hz2⟩ := info_parts infoPartD
  have hgl := h.lt
  have hA : Below w.heap.size w (w.alloc (.cells #[.string ⟨#[101]⟩, .string ⟨#[112]⟩, .string ⟨#[116]⟩, .string ⟨#[113]⟩, .string ⟨#[114]⟩, .string ⟨#[122]⟩, .string ⟨#[101]⟩] 9)) := (Below.refl _ _).alloc (Nat.le_refl _) _
  have h3 := l10Body_any g p [⟨#[101]⟩, ⟨#[112]⟩, ⟨#[116]⟩, ⟨#[113]⟩, ⟨#[114]⟩, ⟨#[122]⟩, ⟨#[101]⟩] 7 w.heap.size _ (h.below hA) (heap_alloc_new w _) (Nat.ne_of_lt hgl) (by omega) rfl (by decide) (by decide) (by decide)
  have HA := Lib.hid hA
  clear h hA
  go_enter Tryd.func71, Tryd.ntmps71
  go_wp2_with fail
  refine h3.mono ?_
  rintro e w1 ⟨xs, v1, p1, rfl, hx1, hx3, hp1, hF0⟩
  have hF := hF0.base HA.out hgl
  obtain ⟨A1, c1, rfl⟩ := hF.shape
  have h4 := pick_any g p1 12 w1 hF.rdr (by omega) (by omega) (by omega)
  have HF := Lib.hid hF
  clear h3 hF0 hF HA
  go_wp2_with fail
  refine h4.mono ?_
  rintro e w2 ⟨m, rfl, hm, hR2, hG2⟩
  have HF2 := Lib.hid (HF.out.call hR2 (KeptBut.of_grown hG2))
  have HX : Hid (1 ≤ xs.length ∧ xs.length ≤ 3 ∧ p1 ≤ p + 25 ∧ p ≤ 600000) := Lib.hid ⟨hx1, hx3, hp1, hp⟩
  clear h4 hR2 hG2 HF hm hx1 hx3 hp1 hp
  by_cases h0 : m = 0
  · subst h0
    go_wp2
    go_ret
    exact BodyD.nil g (p1 + 1) p 60 5 w w2 _ HF2.out.rdr HF2.out.kept hgl (by have := HX.out; omega) rfl
  · have h0i : ¬ (m : Int) = 0 := by omega
    by_cases h1 : m = 1
    · subst h1
      have hat := l10AnyAtom_s g (p1 + 1) w2 HF2.out.rdr (by have := HX.out; omega)
      go_wp2_with fail
      refine hat.mono ?_
      rintro e w4 ⟨a, v4, L4, p4, rfl, hs4, hl4, hC4, hR4, hp4, hK4, hsm4⟩
      obtain ⟨b4, hsl4, hfar4⟩ := hC4.slice
      obtain ⟨A4, c4, rfl⟩ := own_shape hC4.own
      have HF5 := Lib.hid (HF2.out.call hR4 hK4)
      have HA5 : Hid (PtS ⟨true, a⟩ ∧ p4 ≤ p1 + 21) := Lib.hid ⟨⟨hs4, hl4, hsm4⟩, by omega⟩
      obtain ⟨L5, bs5, hC5, hbb5, hR5, hL5, hO5, hB5⟩ := HF5.out.part HF2.out rfl ⟨_, rfl, Nat.le_trans hs4 (by decide), hsl4⟩ (fun b hb => (hfar4 b hb).resolve_right (by simp)) (true)
      have HY := Lib.hid (And.intro hC5 (And.intro hbb5 (And.intro hR5 (And.intro hL5 (And.intro hO5 hB5)))))
      have HKL : Hid (xs.length + 1 ≤ maxLen ∧ (xs.length + 1) * 48 ≤ 140737488355328) := Lib.hid (by have := HX.out; unfold maxLen; omega)
      have HSZ : Hid (w.heap.size ≤ (w4.alloc (.cells #[.bool true, .string a.name, .slice A4 a.args.length c4] 72)).heap.size) := Lib.hid (by have := HF5.out.kept.size; simp; omega)
      clear hat hs4 hl4 hC4 hR4 hp4 hK4 hsm4 hsl4 hfar4 hC5 hbb5 hR5 hL5 hO5 hB5
      go_wp2_with (at_builtin; refine wpList_coll rfl _ _ _ rfl w.heap.size 72 i0 (.agg #[.bool false, .string ⟨#[]⟩, .slice none 0 0]) 3 48 Tryd.underlying34 hi hz0 hz1 hz2 rfl (by omega) partK_good (.slice A1 xs.length c1) xs.length _ _ _ rfl HY.out.1 rfl (some ⟨w4.heap.size, 0, none⟩) 1 1 _ [⟨true, a⟩] _ rfl HY.out.2.2.1 rfl HY.out.2.2.2.1 HY.out.2.2.2.2.1 HKL.out.1 HKL.out.2 w4 w.heap.size HY.out.2.2.2.2.2 (Nat.le_refl _) HSZ.out ?_; intro A6 cp6 w6 hC6 hB6 hS6 hG6)
      have HF6 := Lib.hid (HF5.out.app hC6 HY.out.2.1 hB6 HA5.out.1)
      clear hC6 hB6 hS6 hG6 HY
      go_wp2
      go_ret
      exact ⟨xs ++ [⟨true, a⟩], _, p4, rfl, Nat.zero_le _, by have := HX.out; simp; omega, by have := HX.out; have := HA5.out.2; omega, HF6.out⟩
    · have h1i : ¬ (m : Int) = 1 := by omega
      by_cases h2 : m = 2
      · subst h2
        go_wp2
        go_loopw [3] (fun v wr => ∃ (ys : List Pt) (Av : Option Addr) (cp p' : Nat), v = .slice Av ys.length cp ∧ 1 ≤ ys.length ∧ ys.length ≤ 5 ∧ p' ≤ p1 + 1 + ys.length ∧ BdInv g p' w ys (.slice Av ys.length cp) wr) (fun v _ => 6 - lenB v)
        case atStart => exact ⟨xs, _, _, p1 + 1, rfl, by have := HX.out; omega, by have := HX.out; omega, by omega, HF2.out⟩
        case round =>
          obtain ⟨ys, Av, cp, p', rfl, hy1, hy5, hp', hF⟩ := hrel
          have hpk := pick_any g p' 2 wr hF.rdr (by have := HX.out; omega) (by omega) (by omega)
          have HF7 := Lib.hid hF
          have HQ : Hid (1 ≤ ys.length ∧ ys.length ≤ 5 ∧ p' ≤ p1 + 1 + ys.length) := Lib.hid ⟨hy1, hy5, hp'⟩
          clear hF HF2 hp'
          go_wp2_with fail
          refine hpk.mono ?_
          rintro e w8 ⟨n8, rfl, hn8, hR8, hG8⟩
          have HF8 := Lib.hid (HF7.out.call hR8 (KeptBut.of_grown hG8))
          have hn8' : (n8 : Int) < 2 := hn8
          clear hpk hR8 hG8 HF7
          by_cases hc : ys.length < 4 + n8
          · have hci : (ys.length : Int) < 4 + (n8 : Int) := by omega
            obtain ⟨b9, cp9, d0, d1, d2, x9, e9, hx9, hb9, k0, k1, k2, L5, bs5, b3, hC5, hbb5, hR5, hL5, hO5, hB5⟩ := HF8.out.first (by omega)
            injection e9 with e9 _ e9'
            subst e9 e9'
            have HY := Lib.hid (And.intro hC5 (And.intro hbb5 (And.intro hR5 (And.intro hL5 (And.intro hO5 hB5)))))
            have HKL : Hid (ys.length + 1 ≤ maxLen ∧ (ys.length + 1) * 48 ≤ 140737488355328) := Lib.hid (by unfold maxLen; omega)
            have HSZ : Hid (w.heap.size ≤ (w8.alloc (.cells #[d0, d1, d2] 72)).heap.size) := Lib.hid (by have := HF8.out.kept.size; simp; omega)
            have HX9 := Lib.hid hx9
            have hpos : (0 : Int) < (ys.length : Int) := by omega
            have HC : Hid (ys.length + 1 ≤ 5) := Lib.hid (by omega)
            clear hC5 hbb5 hR5 hL5 hO5 hB5 hx9
            go_wp2_with (at_builtin; refine wpList_coll rfl _ _ _ rfl w.heap.size 72 i0 (.agg #[.bool false, .string ⟨#[]⟩, .slice none 0 0]) 3 48 Tryd.underlying34 hi hz0 hz1 hz2 rfl (by omega) partK_good (.slice (some ⟨b9, 0, none⟩) ys.length cp) ys.length _ _ _ rfl HY.out.1 rfl (some ⟨w8.heap.size, 0, none⟩) 1 1 _ [x9] _ rfl HY.out.2.2.1 rfl HY.out.2.2.2.1 HY.out.2.2.2.2.1 HKL.out.1 HKL.out.2 w8 w.heap.size HY.out.2.2.2.2.2 (Nat.le_refl _) HSZ.out ?_; intro A6 cp6 w6 hC6 hB6 hS6 hG6)
            have HF6 := Lib.hid (HF8.out.app hC6 HY.out.2.1 hB6 HX9.out)
            clear hC6 hB6 hS6 hG6 HY
            go_wp2
            go_roundw
            case rel => exact ⟨ys ++ [x9], A6, cp6, p' + 1, by rw [List.length_append]; rfl, by simp, by have := HC.out; simp; omega, by have := HQ.out; simp; omega, by rw [List.length_append]; exact HF6.out⟩
            case measure => have := HC.out; simp [lenB]; omega
          · have hci : ¬ (ys.length : Int) < 4 + (n8 : Int) := by omega
            go_wp2
            go_ret
            exact ⟨ys, _, p' + 1, rfl, Nat.zero_le _, HQ.out.2.1, by have := HX.out; have := HQ.out; omega, HF8.out⟩
      · have h2i : ¬ (m : Int) = 2 := by omega
        go_wp2
        go_ret
        exact ⟨xs, _, p1 + 1, rfl, Nat.zero_le _, by have := HX.out; omega, by have := HX.out; omega, HF2.out⟩

/-- A drawn body that lies in memory. -/
def BodyO (m : Nat) (w : World) (e : Ending) (w' : World) : Prop := ∃ (xs : List Pt) (A : Option Addr) (c : Nat) (bs : List Nat), e = .returned (.slice A xs.length c) ∧ partsK w' [.slice A xs.length c] xs bs ∧ xs.length ≤ m ∧ (∀ x ∈ xs, PtS x) ∧ Below w.heap.size w w'
set_option maxHeartbeats 400000 in
theorem drawAskPut_any (v : Value) (cs : List UInt8) (bs : List Nat) (w : World) (h : bytesK w [v] cs bs) (hn : cs.length ≤ 1048576) :
    Calls Tryd.prog 32 #[v] w (BodyO 5 w) := by
  have ho := open_any v cs bs w h hn
  clear h
  go_enter Tryd.func32, Tryd.ntmps32
  go_wp2_with fail
  refine ho.mono ?_
  rintro e w1 ⟨rfl, hR, hb⟩
  have hd := l10AnyBody_any _ 0 w1 hR (by omega)
  have HB := Lib.hid hb
  clear ho hR hb
  go_wp2_with fail
  refine hd.mono ?_
  rintro e w2 ⟨xs, v2, p2, rfl, _, hx, _, hF⟩
  obtain ⟨A2, c2, rfl⟩ := hF.shape
  have HF := Lib.hid hF
  clear hd hF
  go_wp2
  go_ret
  obtain ⟨b2, hs2, _⟩ := HF.out.parts
  exact ⟨xs, A2, c2, b2, rfl, hs2, hx, HF.out.small, HB.out.trans (HF.out.kept.below (by simp) HB.out.size)⟩

end Go.Proofs.YtmhjabjiojfgnaaDoor
