/- The draws of facts and of any atoms. -/
import Derived.Laws.EntriesVeiled
import Derived.Deep.RegionHeld3
import Derived.Deep.RegionWith
import Derived.Deep.RegionLaw
import Derived.BigQuiet
import Derived.Deep.QuietTactic
import Derived.Deep.DrawnRows
import Derived.Deep.AppendLies
import Derived.WalkKit
import Derived.WalkSpells
import Derived.WalkLawsBesides
import Derived.Lib.Hide
import Derived.Test.YtbcepahpehadeaaGreatDoorDraw
namespace Go.Proofs.YtbcepahpehadeaaGreatDoor
open Go.RowKit D
set_option linter.unusedVariables false
attribute [local go_sem ↓] Go.wp_at_zero Go.wp_at_succ

theorem of_blk (g p : Nat) (ws : List ByteArray) (n b : Nat) (w : World) (h : Rdr g p w) (hb : w.heap[b]? = some (.cells (ws.map Value.string).toArray 9 (0, 0))) (hne : g ≠ b) (hp : p ≤ 1000000) (hn : ws.length = n) (h1 : 1 ≤ n) (h2 : n ≤ 100) (hs : ∀ s ∈ ws, Sm s) :
    Calls Tryz.prog 72 #[.pointer (some ⟨g, 0, none⟩), .slice (some ⟨b, 0, none⟩) n n] w (Word g p w) := by
  subst hn
  refine (of_any g p _ ws _ _ h (strs_of_block (cap := ws.length) hb (Nat.le_refl _) (by unfold maxLen; omega) (fun s hm => Sm.max (hs s hm))) hp h1 (by omega) (by split <;> simp <;> omega)).mono ?_
  rintro e w' ⟨s, rfl, hm, hR, hG⟩
  exact ⟨s, rfl, hs s hm, hR, KeptBut.of_grown hG⟩
theorem atomD_store {k g p' p0 q n0 B : Nat} {w wr : World} {nm : ByteArray} {v : Value} {L : List Value} {xs : List T} {x y : Value} (hr0 : wr.heap[n0]? = some (.cells #[x, y] 48 (0, 0))) (h0 : w.heap.size ≤ n0) (hC : Coll 2 termK B 101 wr v L xs []) (hB : w.heap.size ≤ B)
    (hR : Rdr g p' wr) (hK : KeptBut [g] w wr) (hg : g < w.heap.size) (hn : Sm nm) (hx : xs.length ≤ k) (hp : p' ≤ p0 + q) : AtomD k g p0 q w (.returned (.agg #[.string nm, v])) ((wr.setCell ⟨n0, 0, none⟩ (.string nm)).setCell ⟨n0, 1, none⟩ v) := by
  have hBl : Below w.heap.size wr ((wr.setCell ⟨n0, 0, none⟩ (.string nm)).setCell ⟨n0, 1, none⟩ v) := ((Below.refl _ _).setCell h0 _).setCell h0 _
  have b0 := blk_set0 (u := .string nm) hr0
  have c1 := (hC.mono hB).setBox (o := 0) (u := .string nm) termK_good (own_ne_blk hC.own hr0 (by decide)) (by simp)
  exact ⟨⟨nm, xs⟩, v, L, p', rfl, hn, hx, c1.setBox termK_good (own_ne_blk c1.own b0 (by decide)) (by simp), hR.belowN hBl hg, hp, hK.belowN hBl (Nat.le_refl _)⟩
theorem D.KeptBut.blk {bs : List Nat} {w w' : World} {b : Nat} {cs : Array Value} {t : TypeId} (h : KeptBut bs w w') (hb : w.heap[b]? = some (.cells cs t (0, 0))) (hn : b ∉ bs) : w'.heap[b]? = some (.cells cs t (0, 0)) := (h.block b (lt_of_block hb) hn).trans hb

theorem blk_if {g b : Nat} {W X w4 : World} {cs : Array Value} {t : TypeId} (hG : W.grownBy w4 (some g)) (hb : X.heap[b]? = some (.cells cs t (0, 0))) (hne : g ≠ b) : W = X.drew → w4.heap[b]? = some (.cells cs t (0, 0)) := by
  rintro rfl
  exact (KeptBut.of_grown hG).blk hb (by simp; omega)
def lenAt (w : World) (b : Nat) : Nat := match w.cell? ⟨b, 1, none⟩ with
  | some (.slice _ l _) => l
  | _ => 0
theorem lenAt_of {w : World} {b l c : Nat} {A : Option Addr} (h : w.cell? ⟨b, 1, none⟩ = some (.slice A l c)) : lenAt w b = l := by unfold lenAt; rw [h]

theorem AInv.has0 {g p : Nat} {w : World} {n0 n1 : Nat} {nm : ByteArray} {v : Value} {L : List Value} {xs : List T} {wr : World} (h : AInv g p w n0 n1 nm v L xs wr) : ∃ x y, wr.cell? ⟨n0, 0, none⟩ = some x ∧ wr.cell? ⟨n0, 1, none⟩ = some y := by
  obtain ⟨x, y, hr⟩ := h.r0
  exact ⟨x, y, cell_of_blk hr, cell_of_blk hr⟩
theorem AInv.start {g p B : Nat} {w wr : World} {n0 : Nat} {nm : ByteArray} {v : Value} {L : List Value} {xs : List T} {x y : Value} (hr0 : wr.heap[n0]? = some (.cells #[x, y] 48 (0, 0))) (h0 : w.heap.size ≤ n0) (hC : Coll 2 termK B 101 wr v L xs []) (hB : w.heap.size ≤ B)
    (hR : Rdr g p wr) (hK : KeptBut [g] w wr) (hg : g < w.heap.size) (hsm : ∀ t ∈ xs, Sm t.name) : AInv g p w n0 wr.heap.size nm v L xs (wr.alloc (.cells #[.string nm, v] 48)) := by
  have hA : Below wr.heap.size wr (wr.alloc (.cells #[.string nm, v] 48)) := (Below.refl _ _).alloc (Nat.le_refl _) _
  have hl := lt_of_block hr0
  exact ⟨⟨x, y, (hA.block n0 hl).trans hr0⟩, heap_alloc_new wr _, h0, hK.size, by omega, (hC.mono hB).below termK_good hA, hR.below hA, hK.belowN hA hK.size, hg, hsm⟩

set_option maxRecDepth 100000 in
set_option maxHeartbeats 8000000 in
theorem l10AnyAtom_s (g p : Nat) (w : World) (h : Rdr g p w) (hp : p ≤ 800000) :
    Calls Tryz.prog 97 #[.pointer (some ⟨g, 0, none⟩)] w (AtomS 4 g p 20 w) := by
  obtain ⟨i0, hi, hz0, hz1, hz2⟩ := info_parts infoTermD
  have hA : Below w.heap.size w (w.alloc (.cells #[.string ⟨#[]⟩, .slice none 0 0] 48)) := (Below.refl _ _).alloc (Nat.le_refl _) _
  have ho := of_lit g p [⟨#[101]⟩, ⟨#[112]⟩, ⟨#[116]⟩, ⟨#[113]⟩, ⟨#[122]⟩, ⟨#[104]⟩] 6 (w.alloc (.cells #[.string ⟨#[]⟩, .slice none 0 0] 48)) (h.below hA) (by omega) rfl (by decide) (by decide) (by decide)
  rw [World.size_alloc] at ho
  have hg := h.lt
  have HZ := Lib.hid (heap_alloc_new w (.cells #[.string ⟨#[]⟩, .slice none 0 0] 48))
  have HPP := Lib.hid hp
  clear h hp
  go_enter Tryz.func97, Tryz.ntmps97
  go_wp2_with fail
  refine ho.mono ?_
  rintro e w1 ⟨s, rfl, hs, hR, hK⟩
  replace HZ := Lib.hid (hK.blk HZ.out (by simp; omega))
  have HK := Lib.hid ((KeptBut.of_below hA (bs := [g])).trans hK)
  have hca := l10Atom_s s true g (p + 1) w1 hR (by have := HPP.out; omega) hs
  clear ho hK hR hA
  go_wp2_with fail
  refine hca.mono ?_
  rintro e w2 ⟨a, v, L, p', rfl, hs2, hx, hC, hR2, hp2, hK2, hsm⟩
  replace HZ := Lib.hid (hK2.blk HZ.out (by simp; omega))
  have HI := Lib.hid (AInv.start (nm := a.name) HZ.out (Nat.le_refl _) hC HK.out.size hR2 (HK.out.trans hK2) hg hsm)
  have HP : Hid (p' ≤ p + 7 ∧ p ≤ 800000) := Lib.hid (by have := HPP.out; omega)
  have HN := Lib.hid hs2
  have HX := Lib.hid hx
  obtain ⟨Av, cv, rfl⟩ := own_shape hC.own
  have hpk := pick_any g p' 16 _ HI.out.rdr (by have := HP.out; omega) (by omega) (by omega)
  clear hca hC hR2 hK2 hs2 hx hp2 hs HK HZ hsm
  go_wp2_with fail
  refine hpk.mono ?_
  rintro e w3 ⟨j, rfl, hj, hR3, hG3⟩
  replace HI := Lib.hid (HI.out.call hR3 (KeptBut.of_grown hG3))
  have hn1 : w2.heap.size < w3.heap.size := lt_of_cell HI.out.cell0
  clear hpk hR3 hG3
  by_cases hj0 : j = 0
  · subst hj0
    have ho := of_lit g (p' + 1) [⟨#[]⟩, ⟨#[110, 111, 116]⟩, ⟨#[65]⟩, ⟨#[97, 98, 99, 100, 101, 102, 103, 104, 105]⟩] 4 w3 HI.out.rdr (by have := HP.out; omega) rfl (by decide) (by decide) (by decide)
    go_wp2_with fail
    refine ho.mono ?_
    rintro e w4 ⟨s4, rfl, hs4, hR4, hK4⟩
    replace HI := Lib.hid (HI.out.call hR4 hK4)
    have q0 := HI.out.cell0
    have q1 := HI.out.cell1
    have g0 := HI.out.froz 0
    have g1 := HI.out.froz 1
    replace HI := Lib.hid (HI.out.name s4)
    have q1' := HI.out.cell1
    have q0' := HI.out.cell0
    have f0 := HI.out.froz0 0
    have f1 := HI.out.froz0 1
    have z0 := HI.out.has0
    obtain ⟨zx, zy, z0, z1⟩ := z0
    have HD := Lib.hid (HI.out.done (k := 4) (q := 20) (p0 := p) hs4 (by have := HX.out; omega) (by have := HP.out; omega))
    clear ho hR4 hK4 hs4
    go_wp2
    refine bodyPost_ret (v := .agg #[.string s4, .slice Av a.args.length cv]) (by simp [results, Tryz.results97, go_sem, z0, z1]) rfl HD.out
  · have hji0 : ((j : Int) == 0) = false := beq_eq_false_iff_ne.2 (by omega)
    by_cases hj1 : j = 1
    · subst hj1
      have HI0 := HI
      have qw0 := HI0.out.cell0
      have qw1 := HI0.out.cell1
      replace HI := Lib.hid HI.out.drew
      have q0 := HI.out.cell0
      have q1 := HI.out.cell1
      have q2 := HI.out.froz 1
      have hxl : a.args.length ≤ 3 := HX.out
      have H63 : Hid (a.args.length + 1 ≤ maxLen) := Lib.hid (by unfold maxLen; omega)
      have HBY : Hid ((a.args.length + 1) * 24 ≤ 140737488355328) := Lib.hid (by omega)
      have HGW : Hid (g ≠ w3.heap.size) := Lib.hid (by have := HI0.out.kept.size; omega)
      have HQ0 := Lib.hid (heap_alloc_new w3 (.cells #[.string ⟨#[]⟩, .string ⟨#[120]⟩, .string ⟨#[88]⟩, .string ⟨#[88, 121, 49]⟩, .string ⟨#[88, 89]⟩, .string ⟨#[65, 98, 99, 100, 101, 102, 103, 104]⟩, .string ⟨#[65, 98, 99, 100, 101, 102, 103, 104, 105]⟩] 9))
      go_wp2
      go_region_law
        (first
          | (have _hh := HT; refine step_coll (by rfl) (.tmp 20) (.tmp 28) _ (by rfl) w.heap.size 101 i0 (.agg #[.bool false, .string ⟨#[]⟩]) 2 24 Tryz.underlying46 hi hz0 hz1 hz2 rfl (Nat.zero_lt_succ 1) termK_good (.slice Av a.args.length cv) a.args.length L a.args [] (by rfl) (HT.out _).1 rfl (some ⟨w5.heap.size, 0, none⟩) 1 1 _ [⟨_, s5⟩] _ (by rfl) (HT.out _).2.1 rfl (HT.out _).2.2.1 (fun b hb => by simp at hb) H63.out HBY.out w5 w.heap.size (HT.out _).2.2.2.1 (Nat.le_refl _) (HT.out _).2.2.2.2.1 ?_; intro A3 c3 w6 hC3 hB3 hS3 hG3; have HZ := Lib.hid (HI.out.app hC3 hB3 hG3 (HT.out false).2.2.2.2.2); replace q0 := HZ.out.1; replace q1 := HZ.out.2.1; replace q2 := HZ.out.2.2.1; clear hC3 hB3 hS3 hG3)
          | (go_simp; go_at_call 96; refine Calls.mono (pick_any g (p' + 1) 2 _ (by first | with_reducible exact HI.out.rdr | exact (HI0.out.alloc (.cells #[.string ⟨#[]⟩, .string ⟨#[120]⟩, .string ⟨#[88]⟩, .string ⟨#[88, 121, 49]⟩, .string ⟨#[88, 89]⟩, .string ⟨#[65, 98, 99, 100, 101, 102, 103, 104]⟩, .string ⟨#[65, 98, 99, 100, 101, 102, 103, 104, 105]⟩] 9)).drew.rdr) (by have := HP.out; omega) (by omega) (by omega)) ?_; rintro e w4 ⟨j2, rfl, hj2, hR4, hG4⟩; have HQ := Lib.hid (blk_if hG4 HQ0.out HGW.out); have HI2 := Lib.hid (AInv.call (p := p' + 1) (by first | with_reducible exact HI.out | exact (HI0.out.alloc (.cells #[.string ⟨#[]⟩, .string ⟨#[120]⟩, .string ⟨#[88]⟩, .string ⟨#[88, 121, 49]⟩, .string ⟨#[88, 89]⟩, .string ⟨#[65, 98, 99, 100, 101, 102, 103, 104]⟩, .string ⟨#[65, 98, 99, 100, 101, 102, 103, 104, 105]⟩] 9)).drew) hR4 (KeptBut.of_grown hG4)); clear HI; have HI := HI2; clear HI2; replace q0 := HI.out.cell0; replace q1 := HI.out.cell1; replace q2 := HI.out.froz 1; have hn4 : w2.heap.size < w4.heap.size := lt_of_cell q1; clear hR4 hG4)
          | (have HQ2 := HQ.out (by with_reducible rfl); go_simp; go_at_call 72; refine (of_blk g _ [⟨#[]⟩, ⟨#[120]⟩, ⟨#[88]⟩, ⟨#[88, 121, 49]⟩, ⟨#[88, 89]⟩, ⟨#[65, 98, 99, 100, 101, 102, 103, 104]⟩, ⟨#[65, 98, 99, 100, 101, 102, 103, 104, 105]⟩] 7 _ w4 HI.out.rdr HQ2 HGW.out (by have := HP.out; omega) rfl (by decide) (by decide) (by decide)).mono ?_; rintro e w5 ⟨s5, rfl, hs5, hR5, hK5⟩; (try clear HQ2); replace HI := Lib.hid (HI.out.call hR5 hK5); replace q0 := HI.out.cell0; replace q1 := HI.out.cell1; replace q2 := HI.out.froz 1; have hn5 : w2.heap.size < w5.heap.size := lt_of_cell q1; have HT := Lib.hid (fun b => HI.out.lit b s5 hs5); clear hR5 hK5 hs5)
          | (go_simp; go_at_call 72; refine (of_lit g _ [⟨#[]⟩, ⟨#[120]⟩, ⟨#[88]⟩, ⟨#[88, 121, 49]⟩, ⟨#[88, 89]⟩, ⟨#[65, 98, 99, 100, 101, 102, 103, 104]⟩, ⟨#[65, 98, 99, 100, 101, 102, 103, 104, 105]⟩] 7 w4 HI.out.rdr (by have := HP.out; omega) rfl (by decide) (by decide) (by decide)).mono ?_; rintro e w5 ⟨s5, rfl, hs5, hR5, hK5⟩; (try clear HQ2); replace HI := Lib.hid (HI.out.call hR5 hK5); replace q0 := HI.out.cell0; replace q1 := HI.out.cell1; replace q2 := HI.out.froz 1; have hn5 : w2.heap.size < w5.heap.size := lt_of_cell q1; have HT := Lib.hid (fun b => HI.out.lit b s5 hs5); clear hR5 hK5 hs5))
      all_goals
        have HI9 := Lib.hid HZ.out.2.2.2
        clear HI HT HZ q0 q1 q2
        have q0 := HI9.out.cell0
        have q1 := HI9.out.cell1
        have f0 := HI9.out.froz0 0
        have f1 := HI9.out.froz0 1
        have z0 := HI9.out.has0
        obtain ⟨zx, zy, z0, z1⟩ := z0
        have HD := Lib.hid (HI9.out.done (k := 4) (q := 20) (p0 := p) HN.out (by have := HX.out; simp; omega) (by have := HP.out; omega))
        go_wp2
        refine bodyPost_ret (v := .agg #[.string a.name, .slice A3 (a.args.length + 1) c3]) (by simp [results, Tryz.results97, go_sem, z0, z1]) rfl HD.out
    · have hji1 : ((j : Int) == 1) = false := beq_eq_false_iff_ne.2 (by omega)
      by_cases hj2 : j = 2
      · subst hj2
        have HL0 : Hid (∃ (xs : List T) (Av' : Option Addr) (cv' : Nat) (L' : List Value) (p2 : Nat), xs.length ≤ 4 ∧ p2 ≤ p + 8 + xs.length ∧ AInv g p2 w w.heap.size w2.heap.size a.name (.slice Av' xs.length cv') L' xs w3) := Lib.hid ⟨a.args, Av, cv, L, p' + 1, by have := HX.out; omega, by have := HP.out; omega, HI.out⟩
        clear HI hn1
        go_wp2
        go_loopw [] (fun wr => ∃ (xs : List T) (Av' : Option Addr) (cv' : Nat) (L' : List Value) (p2 : Nat), xs.length ≤ 4 ∧ p2 ≤ p + 8 + xs.length ∧ AInv g p2 w w.heap.size w2.heap.size a.name (.slice Av' xs.length cv') L' xs wr) (fun wr => 5 - lenAt wr w2.heap.size)
        case atStart => exact HL0.out
        case round =>
          obtain ⟨xs, Av', cv', L', p2, hx4, hp22, hI⟩ := hrel
          have HI := Lib.hid hI.drew
          have HI0 := Lib.hid hI
          have HXL : Hid (xs.length ≤ 4 ∧ p2 ≤ p + 8 + xs.length ∧ p ≤ 800000) := Lib.hid ⟨hx4, hp22, HP.out.2⟩
          have H63 : Hid (xs.length + 1 ≤ maxLen) := Lib.hid (by unfold maxLen; omega)
          have HBY : Hid ((xs.length + 1) * 24 ≤ 140737488355328) := Lib.hid (by omega)
          clear hI HL0 hx4 hp22
          have q1 := HI.out.cell1
          go_wp2
          go_region_held3 (fun w' => w'.cell? ⟨w2.heap.size, 1, none⟩ = some (.slice Av' xs.length cv')) (first | exact q1 | go_keep)
            (first
              | (go_at_call 96; refine (pick_any g _ 2 _ HI.out.rdr (by have := HXL.out; omega) (by omega) (by omega)).mono ?_; rintro e w4 ⟨j2, rfl, hj2, hR4, hG4⟩; have hw3 : IntKind.i64.wrap (3 + (j2 : Int)) = 3 + (j2 : Int) := (by simp only [IntKind.wrap, IntKind.bits, IntKind.signed]; simp; omega); replace HI := Lib.hid (HI.out.call hR4 (KeptBut.of_grown hG4)); replace q1 := HI.out.cell1; clear hR4 hG4))
          have q0 := HI.out.cell0
          have hn4 : w2.heap.size < w4.heap.size := lt_of_cell q1
          by_cases hlt : xs.length < 3 + j2
          · have hlt' : (xs.length : Int) < 3 + (j2 : Int) := by omega
            have HT := Lib.hid (HI.out.lit false ⟨#[97]⟩ (by decide))
            have HLT := Lib.hid hlt
            have HJ := Lib.hid hj2
            have g1 := HI.out.froz 1
            clear hlt
            go_wp2_with (at_builtin; refine wpList_coll rfl _ _ _ rfl w.heap.size 101 i0 (.agg #[.bool false, .string ⟨#[]⟩]) 2 24 Tryz.underlying46 hi hz0 hz1 hz2 rfl (Nat.zero_lt_succ 1) termK_good (.slice Av' xs.length cv') xs.length L' xs [] rfl HT.out.1 rfl (some ⟨w4.heap.size, 0, none⟩) 1 1 _ [⟨false, ⟨#[97]⟩⟩] _ rfl HT.out.2.1 rfl HT.out.2.2.1 (fun b hb => by simp at hb) H63.out HBY.out w4 w.heap.size HT.out.2.2.2.1 (Nat.le_refl _) HT.out.2.2.2.2.1 ?_; intro A3 c3 w6 hC3 hB3 hS3 hG3; have HZ := Lib.hid (HI.out.app hC3 hB3 hG3 HT.out.2.2.2.2.2); replace q0 := HZ.out.1; replace q1 := HZ.out.2.1; have q2 := HZ.out.2.2.1; clear hC3 hB3 hS3 hG3)
            have HI9 := Lib.hid HZ.out.2.2.2
            have HM : Hid (lenAt wr w2.heap.size = xs.length) := Lib.hid (lenAt_of HI0.out.cell1)
            have HM2 : Hid (lenAt (w6.setCell ⟨w2.heap.size, 1, none⟩ (.slice A3 (xs.length + 1) c3)) w2.heap.size = xs.length + 1) := Lib.hid (lenAt_of HI9.out.cell1)
            clear HI HT HZ q0 q1 q2
            go_roundw
            case rel => exact ⟨xs ++ [⟨false, ⟨#[97]⟩⟩], A3, c3, L' ++ [.bool false, .string ⟨#[97]⟩], p2 + 1, by have := HLT.out; have := HJ.out; simp; omega, by have := HXL.out; simp; omega, by simpa using HI9.out⟩
            case measure => have := HM.out; have := HM2.out; have := HXL.out; omega
          · have hlt' : ¬ (xs.length : Int) < 3 + (j2 : Int) := by omega
            have f0 := HI.out.froz0 0
            have f1 := HI.out.froz0 1
            have z0 := HI.out.has0
            obtain ⟨zx, zy, z0, z1⟩ := z0
            have HD := Lib.hid (HI.out.done (k := 4) (q := 20) (p0 := p) HN.out HXL.out.1 (by have := HXL.out; omega))
            clear hlt
            go_wp2
            refine bodyPost_ret (v := .agg #[.string a.name, .slice Av' xs.length cv']) (by simp [results, Tryz.results97, go_sem, z0, z1]) rfl HD.out
      · have hji2 : ((j : Int) == 2) = false := beq_eq_false_iff_ne.2 (by omega)
        have q0 := HI.out.cell0
        have q1 := HI.out.cell1
        have f0 := HI.out.froz0 0
        have f1 := HI.out.froz0 1
        have z0 := HI.out.has0
        obtain ⟨zx, zy, z0, z1⟩ := z0
        have HD := Lib.hid (HI.out.done (k := 4) (q := 20) (p0 := p) HN.out (by have := HX.out; simp; omega) (by have := HP.out; omega))
        go_wp2
        refine bodyPost_ret (v := .agg #[.string a.name, .slice Av a.args.length cv]) (by simp [results, Tryz.results97, go_sem, z0, z1]) rfl HD.out


theorem l10AnyAtom_any (g p : Nat) (w : World) (h : Rdr g p w) (hp : p ≤ 800000) :
    Calls Tryz.prog 97 #[.pointer (some ⟨g, 0, none⟩)] w (AtomD 4 g p 20 w) := (l10AnyAtom_s g p w h hp).mono fun _ _ h => h.weak

end Go.Proofs.YtbcepahpehadeaaGreatDoor
