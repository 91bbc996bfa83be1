/- The walk of impl.AskRule. -/
import Derived.WalkKit
import Derived.Lib.Hide
import Derived.WalkSpells
import Derived.WalkLawsBesides
import Derived.BigQuiet
import Derived.Deep.RegionHeld3
import Derived.Deep.RegionWith
import Derived.Deep.RegionLaw
import Derived.Deep.DrawnRows
import Derived.Deep.AppendLies
import Derived.Test.YtbcepahpehadeaaProg
import Derived.Test.YtbcepahpehadeaaAskRP
import Derived.Test.YtbcepahpehadeaaCopyB
namespace Go.Proofs.Ytbcepahpehadeaa
open Go.RowKit D
set_option linter.unusedVariables false
attribute [local go_sem ↓] Go.wp_at_zero Go.wp_at_succ

theorem infoTermQ : (Try.prog.info? 61).map (fun i => (i.zero, i.size, i.bytes)) = some (some (.agg #[.bool false, .string ⟨#[]⟩]), 2, 24) := by kernel_rfl

/-- A head in a box of its own, its terms so far. -/
structure D.HInv (w : World) (hb B : Nat) (nm : ByteArray) (v : Value) (L : List Value) (xs : List T) (wr : World) : Prop where
  r0 : wr.heap[w.heap.size]? = some (.cells #[.string ⟨#[]⟩, .slice none 0 0, .slice none 0 0] 37 (0, 0))
  r1 : wr.heap[hb]? = some (.cells #[.string nm, v] 35 (0, 0))
  h1 : w.heap.size < hb
  hB : hb < B
  coll : Coll 2 termK B 61 wr v L xs []
  bel : Below w.heap.size w wr
  siz : B ≤ wr.heap.size
section
variable {w : World} {hb B : Nat} {nm : ByteArray} {v : Value} {L : List Value} {xs : List T} {wr : World}
theorem D.HInv.later {w' : World} (h : HInv w hb B nm v L xs wr) (hk : Below wr.heap.size wr w') : HInv w hb B nm v L xs w' :=
  ⟨(hk.block _ (lt_of_block h.r0)).trans h.r0, (hk.block _ (lt_of_block h.r1)).trans h.r1, h.h1, h.hB, h.coll.below termK_good hk, h.bel.trans (hk.mono h.bel.size), Nat.le_trans h.siz hk.size⟩
theorem D.HInv.lit (s : ByteArray) (h : HInv w hb B nm v L xs wr) (hs : s.size ≤ maxLen) :
    Coll 2 termK B 61 (wr.alloc (.cells #[.bool true, .string s] 61)) v L xs [] ∧ Rowed 2 termK (wr.alloc (.cells #[.bool true, .string s] 61)) [.bool true, .string s] [⟨true, s⟩] [] ∧ Lies (wr.alloc (.cells #[.bool true, .string s] 61)) (some ⟨wr.heap.size, 0, none⟩) [.bool true, .string s] ∧
      Below B wr (wr.alloc (.cells #[.bool true, .string s] 61)) ∧ B ≤ (wr.alloc (.cells #[.bool true, .string s] 61)).heap.size := by
  have hA : Below wr.heap.size wr (wr.alloc (.cells #[.bool true, .string s] 61)) := (Below.refl _ _).alloc (Nat.le_refl _) _
  exact ⟨(h.later hA).coll, Rowed.one_el termK_ones ⟨rfl, hs, rfl⟩, lies_block (heap_alloc_new wr _), (Below.refl _ _).alloc h.siz _, Nat.le_trans h.siz hA.size⟩
theorem D.HInv.app {w3 : World} {v3 : Value} {L3 : List Value} {xs3 : List T} {b4 : List Nat} {vs : Value} {vars : List ByteArray} (h : HInv w hb B nm v L xs wr) (hC : Coll 2 termK B 61 w3 v3 L3 xs3 []) (hk : Below B wr w3)
    (hv : strsK wr [vs] vars b4) (hf : ∀ c ∈ b4, c < hb) :
    w3.cell? ⟨hb, 1, none⟩ = some v ∧ w3.frozen? ⟨hb, 1, none⟩ = false ∧ HInv w hb B nm v3 L3 xs3 (w3.setCell ⟨hb, 1, none⟩ v3) ∧ strsK (w3.setCell ⟨hb, 1, none⟩ v3) [vs] vars b4 := by
  have b0 := (hk.block w.heap.size (Nat.lt_trans h.h1 h.hB)).trans h.r0
  have b1 := (hk.block hb h.hB).trans h.r1
  refine ⟨cell_of_blk b1, frozen_of_blk b1, ⟨(Below.heap_setCell _ _ _ _ (by have := h.h1; show w.heap.size ≠ hb; omega)).trans b0, blk_set b1, h.h1, h.hB, hC.setBox termK_good (own_block_ge hC.own h.hB) (by simp), (h.bel.trans (hk.mono (Nat.le_of_lt (Nat.lt_trans h.h1 h.hB)))).setCell (Nat.le_of_lt h.h1) _, ?_⟩, ?_⟩
  · have := hk.size; have := h.siz; simp [World.setCell]; omega
  · refine strsK_good.keep hv fun c hc => ?_
    have hlt := hf c hc
    rw [Below.heap_setCell _ _ _ _ (by show c ≠ hb; omega)]
    exact hk.block c (Nat.lt_trans hlt h.hB)
theorem D.HInv.done {w5 : World} {hd : A} {ps : List Pt} {b5 : List Nat} {v5 : Value} (h : HInv w hb B nm v L xs wr) (hk : Below wr.heap.size wr w5) (he : hd = ⟨nm, xs⟩) (hn : nm.size ≤ maxLen) (hp : partsK w5 [v5] ps b5) (hN : New wr.heap.size w5 b5) :
    MakesRB (⟨hd, ps⟩, true) w.heap.size w (.returned (.tuple #[.agg #[.string nm, v, v5], .bool true])) (((w5.setCell ⟨w.heap.size, 0, none⟩ (.string nm)).setCell ⟨w.heap.size, 1, none⟩ v).setCell ⟨w.heap.size, 2, none⟩ v5) := by
  subst he
  have hI := h.later hk
  obtain ⟨b9, hs, hn9⟩ := hI.coll.new (New.nil _ _)
  have hlt0 := h.h1
  have hlt1 := h.hB
  have hlt2 := h.siz
  have k9 : ∀ b ∈ b9, b ≠ w.heap.size := fun b hb' e => by have := (hn9.own b hb').1; omega
  have k5 : ∀ b ∈ b5, b ≠ w.heap.size := fun b hb' e => by have := (hN.own b hb').1; omega
  have keep : ∀ b, b ≠ w.heap.size → (((w5.setCell ⟨w.heap.size, 0, none⟩ (.string nm)).setCell ⟨w.heap.size, 1, none⟩ v).setCell ⟨w.heap.size, 2, none⟩ v5).heap[b]? = w5.heap[b]? := fun b hb' => by
    rw [Below.heap_setCell _ _ _ _ hb', Below.heap_setCell _ _ _ _ hb', Below.heap_setCell _ _ _ _ hb']
  -- the row of the head lies ahead of the body's blocks
  have hsep : ∀ b ∈ b9, b < wr.heap.size := by
    obtain ⟨b8, hs8, hn8⟩ := h.coll.new (New.nil _ _)
    have e1 := sliceK_good (R := termK) termK_good (n := 2) (by omega)
    intro b hb'
    have hown := h.coll.own
    have hform := hs
    rcases hown.2 with ⟨rfl, _⟩ | ⟨g, cap, cur, rfl, hg, hh, _⟩
    · obtain ⟨_, _, hcs, _, _, h0, h1⟩ := hs
      simp only [List.cons.injEq, Value.slice.injEq, and_true] at hcs
      by_cases hx : xs = []
      · rw [h0 hx] at hb'; simp at hb'
      · obtain ⟨_, _, hA, _⟩ := h1 hx
        rw [← hcs.1] at hA; cases hA
    · obtain ⟨_, _, hcs, _, _, h0, h1⟩ := hs
      simp only [List.cons.injEq, Value.slice.injEq, and_true] at hcs
      by_cases hx : xs = []
      · rw [h0 hx] at hb'; simp at hb'
      · obtain ⟨b', o', hA, F, G, rfl, hF⟩ := h1 hx
        have hbg : b' = g := by rw [← hcs.1] at hA; simp at hA; exact hA.1.symm
        rcases List.mem_cons.1 hb' with rfl | hm
        · rw [hbg]; exact lt_of_block hh
        · obtain ⟨j, hj, hm⟩ := List.mem_flatMap.1 hm
          obtain ⟨_, _, _, _, e⟩ := hF j _ (List.getElem?_eq_getElem (List.mem_range.1 hj))
          rw [e] at hm; simp at hm
  have hW := ((hI.bel.setCell (p := ⟨w.heap.size, 0, none⟩) (Nat.le_refl _) (.string nm)).setCell (p := ⟨w.heap.size, 1, none⟩) (Nat.le_refl _) v).setCell (p := ⟨w.heap.size, 2, none⟩) (Nat.le_refl _) v5
  refine ⟨hW, _, b9 ++ b5, rfl, ⟨_, _, b9, b5, rfl, hn, rfl, termsK_good.keep hs fun b hb' => keep b (k9 b hb'), partsK_good.keep hp fun b hb' => keep b (k5 b hb')⟩, ?_⟩
  exact New.append ((hn9.mono (by omega)).keep fun b hb' => keep b (k9 b hb')) (hN.keep fun b hb' => keep b (k5 b hb')) (by omega) hsep
end

set_option maxRecDepth 100000 in
set_option maxHeartbeats 2000000 in
theorem askRule_impl (nm : ByteArray) (ps : List Pt) (v : Value) (bs : List Nat) (w : World) (h : partsK w [v] ps bs) (hnm : nm.size ≤ maxLen) :
    Calls Try.prog 15 #[.string nm, v] w (MakesRB (askRuleV nm ps) w.heap.size w) := by
  obtain ⟨Ad, cap, rfl, hl, hm⟩ := sliceK_form h
  obtain ⟨i0, hi, hz0, hz1, hz2⟩ := info_parts infoTermQ
  have hlm := nat_ge_max (Nat.le_trans hl hm)
  have hA : Below w.heap.size w (w.alloc (.cells #[.string ⟨#[]⟩, .slice none 0 0, .slice none 0 0] 37)) := (Below.refl _ _).alloc (Nat.le_refl _) _
  have HZ0 := Lib.hid (heap_alloc_new w (.cells #[.string ⟨#[]⟩, .slice none 0 0, .slice none 0 0] 37))
  have q1 := nameOk_impl nm (w.alloc (.cells #[.string ⟨#[]⟩, .slice none 0 0, .slice none 0 0] 37)) hnm
  have q2 := askOk_impl ps _ bs _ (partsK_good.below h hA)
  have HQ3 := Lib.hid (fun (hx : askOk ps = true) w' (hb : Below w.heap.size w w') => bodyVars_any ps _ bs w' (partsK_good.below h hb) (Nat.le_trans (ask_sum hx) (by omega)))
  have HQ4 := Lib.hid (fun (hx : askOk ps = true) w' (hb : Below w.heap.size w w') => copyBody_any ps _ bs w' (partsK_good.below h hb) (by unfold askOk at hx; simp only [Bool.and_eq_true, decide_eq_true_eq] at hx; omega) (fun p hp => by
    unfold askOk at hx
    simp only [Bool.and_eq_true] at hx
    have := atom_args3 (List.all_eq_true.1 hx.1.2 p hp)
    omega))
  have HNo := Lib.hid (askV_no (nm := nm) (ps := ps))
  have HYes := Lib.hid (askV_yes (nm := nm) (ps := ps))
  have HG : Hid (askRuleB nm ps = (nameOk nm && askOk ps && decide ((bodyVars ps).length ≤ 3))) := Lib.hid rfl
  have HHD : Hid (headOf nm ps = ⟨nm, (bodyVars ps).map fun s => ⟨true, s⟩⟩) := Lib.hid rfl
  have HA := Lib.hid hA
  have HNM := Lib.hid hnm
  clear h hl hm hA hnm
  generalize askRuleV nm ps = G at *
  generalize askRuleB nm ps = gb at *
  generalize headOf nm ps = hd at *
  generalize bodyVars ps = vars at *
  generalize askOk ps = x at *
  generalize nameOk nm = y at *
  have z0 : (w.alloc (.cells #[.string ⟨#[]⟩, .slice none 0 0, .slice none 0 0] 37)).cell? ⟨w.heap.size, 0, none⟩ = some (.string ⟨#[]⟩) := by go_simp
  have z1 : (w.alloc (.cells #[.string ⟨#[]⟩, .slice none 0 0, .slice none 0 0] 37)).cell? ⟨w.heap.size, 1, none⟩ = some (.slice none 0 0) := by go_simp
  have z2 : (w.alloc (.cells #[.string ⟨#[]⟩, .slice none 0 0, .slice none 0 0] 37)).cell? ⟨w.heap.size, 2, none⟩ = some (.slice none 0 0) := by go_simp
  have f0 : (w.alloc (.cells #[.string ⟨#[]⟩, .slice none 0 0, .slice none 0 0] 37)).frozen? ⟨w.heap.size, 0, none⟩ = false := frozen_of_blk HZ0.out
  have f1 : (w.alloc (.cells #[.string ⟨#[]⟩, .slice none 0 0, .slice none 0 0] 37)).frozen? ⟨w.heap.size, 1, none⟩ = false := frozen_of_blk HZ0.out
  have f2 : (w.alloc (.cells #[.string ⟨#[]⟩, .slice none 0 0, .slice none 0 0] 37)).frozen? ⟨w.heap.size, 2, none⟩ = false := frozen_of_blk HZ0.out
  have hsz1 : (w.alloc (.cells #[.string ⟨#[]⟩, .slice none 0 0, .slice none 0 0] 37)).heap.size = w.heap.size + 1 := by simp
  go_enter Try.func15, Try.ntmps15
  go_wp2_with fail
  generalize w.alloc (.cells #[.string ⟨#[]⟩, .slice none 0 0, .slice none 0 0] 37) = W0 at *
  have n0 : w.heap.size < W0.heap.size := by omega
  refine q1.mono ?_
  rintro e w1 ⟨rfl, rfl⟩
  clear q1
  cases y
  · have HGN : Hid (G = (ruleZ, false)) := Lib.hid (HNo.out (by rw [HG.out]; rfl))
    have HB := Lib.hid (((HA.out.setCell (p := ⟨w.heap.size, 0, none⟩) (Nat.le_refl _) (.string ⟨#[]⟩)).setCell (p := ⟨w.heap.size, 1, none⟩) (Nat.le_refl _) (.slice none 0 0)).setCell (p := ⟨w.heap.size, 2, none⟩) (Nat.le_refl _) (.slice none 0 0))
    clear HNo HYes HG HQ3 HQ4 q2
    go_wp2
    exact bodyPost_ret (v := .tuple #[.agg #[.string ⟨#[]⟩, .slice none 0 0, .slice none 0 0], .bool false]) (by simp [results, Try.results15, go_sem, z0, z1, z2]) rfl (by rw [HGN.out]; exact makesRB_no HB.out)
  · go_wp2_with fail
    refine q2.mono ?_
    rintro e w2 ⟨rfl, hb2⟩
    have hB2 := HA.out.trans (hb2.mono HA.out.size)
    replace z0 := cell_later hb2 z0
    replace z1 := cell_later hb2 z1
    replace z2 := cell_later hb2 z2
    have HZ2 : Hid (w2.heap[w.heap.size]? = some (.cells #[.string ⟨#[]⟩, .slice none 0 0, .slice none 0 0] 37 (0, 0))) := Lib.hid ((hb2.block _ n0).trans HZ0.out)
    replace f0 : w2.frozen? ⟨w.heap.size, 0, none⟩ = false := frozen_of_blk HZ2.out
    replace f1 : w2.frozen? ⟨w.heap.size, 1, none⟩ = false := frozen_of_blk HZ2.out
    replace f2 : w2.frozen? ⟨w.heap.size, 2, none⟩ = false := frozen_of_blk HZ2.out
    have n2 : w.heap.size < w2.heap.size := lt_of_block HZ2.out
    have HB2 := Lib.hid hB2
    clear q2 hb2 hB2 HZ0 hsz1 n0 HA
    have n0 := n2
    cases x
    · have HGN : Hid (G = (ruleZ, false)) := Lib.hid (HNo.out (by rw [HG.out]; rfl))
      have HB := Lib.hid (((HB2.out.setCell (p := ⟨w.heap.size, 0, none⟩) (Nat.le_refl _) (.string ⟨#[]⟩)).setCell (p := ⟨w.heap.size, 1, none⟩) (Nat.le_refl _) (.slice none 0 0)).setCell (p := ⟨w.heap.size, 2, none⟩) (Nat.le_refl _) (.slice none 0 0))
      clear HNo HYes HG HQ3 HQ4
      go_wp2
      exact bodyPost_ret (v := .tuple #[.agg #[.string ⟨#[]⟩, .slice none 0 0, .slice none 0 0], .bool false]) (by simp [results, Try.results15, go_sem, z0, z1, z2]) rfl (by rw [HGN.out]; exact makesRB_no HB.out)
    · have q3 := HQ3.out rfl _ HB2.out
      clear HQ3
      go_wp2_with fail
      refine q3.mono ?_
      rintro e w3 ⟨hb3, v3, b3, rfl, hR3, hN3⟩
      obtain ⟨A3, c3, rfl, hl3, hm3⟩ := sliceK_form hR3
      have hlv := nat_ge_max (Nat.le_trans hl3 hm3)
      have hB3 := HB2.out.trans (hb3.mono HB2.out.size)
      replace z0 := cell_later hb3 z0
      replace z1 := cell_later hb3 z1
      replace z2 := cell_later hb3 z2
      have HZ3 : Hid (w3.heap[w.heap.size]? = some (.cells #[.string ⟨#[]⟩, .slice none 0 0, .slice none 0 0] 37 (0, 0))) := Lib.hid ((hb3.block _ n0).trans HZ2.out)
      replace f0 : w3.frozen? ⟨w.heap.size, 0, none⟩ = false := frozen_of_blk HZ3.out
      replace f1 : w3.frozen? ⟨w.heap.size, 1, none⟩ = false := frozen_of_blk HZ3.out
      replace f2 : w3.frozen? ⟨w.heap.size, 2, none⟩ = false := frozen_of_blk HZ3.out
      have n3 : w.heap.size < w3.heap.size := lt_of_block HZ3.out
      have HB3 := Lib.hid hB3
      have HR3 := Lib.hid hR3
      have HLT3 := Lib.hid (strsK_good.lt hR3)
      clear q3 hb3 hB3 HZ2 n0 n2 HB2 hR3 hN3 hl3 hm3
      have n0 := n3
      by_cases hlen : vars.length ≤ 3
      · have hi3 : ¬ (3 : Int) < (vars.length : Int) := by omega
        have HGY : Hid (G = (⟨hd, ps⟩, true)) := Lib.hid (HYes.out (by rw [HG.out, decide_eq_true hlen]; rfl))
        have hI0 : HInv w w3.heap.size (w3.heap.size + 1) nm (.slice none 0 0) [] [] (w3.alloc (.cells #[.string nm, .slice none 0 0] 35)) :=
          ⟨by have := ((Below.refl w3.heap.size w3).alloc (Nat.le_refl _) (.cells #[.string nm, .slice none 0 0] 35)).block _ n0; rw [this]; exact HZ3.out, heap_alloc_new w3 _, n0, Nat.lt_succ_self _, Coll.nil _, HB3.out.alloc HB3.out.size _, by simp⟩
        have HI0 := Lib.hid hI0
        have HR4 := Lib.hid (strsK_good.below HR3.out ((Below.refl w3.heap.size w3).alloc (Nat.le_refl _) (.cells #[.string nm, .slice none 0 0] 35)))
        clear HNo HYes HG hI0 HR3 HZ3 z0 z1 z2 f0 f1 f2
        go_wp2
        go_loopw [29] (fun i wr => ∃ (k : Nat) (Av : Option Addr) (cv : Nat) (L : List Value), k ≤ vars.length ∧ i = .int .i64 k ∧ HInv w w3.heap.size (w3.heap.size + 1) nm (.slice Av k cv) L ((vars.take k).map fun s => ⟨true, s⟩) wr ∧ strsK wr [.slice A3 vars.length c3] vars b3) (fun i _ => vars.length - (intOf i).toNat)
        case atStart => exact ⟨0, none, 0, [], Nat.zero_le _, rfl, HI0.out, HR4.out⟩
        case round =>
          obtain ⟨k, Av, cv, L, hk, rfl, hI, hR⟩ := hrel
          clear HI0 HR4
          by_cases hlt : k < vars.length
          · obtain ⟨b, o, rfl, _, e0, hsz⟩ := strs_at hR hlt
            have hk0 : (0 : Int) ≤ (k : Int) := by omega
            have hk1 : (k : Int) < (vars.length : Int) := by omega
            have HLT := Lib.hid hlt
            have HT : Hid (((vars.take (k + 1)).map fun s => (⟨true, s⟩ : T)) = ((vars.take k).map fun s => (⟨true, s⟩ : T)) ++ [⟨true, vars[k]⟩]) := Lib.hid (by rw [List.take_succ_eq_append_getElem hlt, List.map_append]; rfl)
            have HI := Lib.hid hI
            have HR := Lib.hid hR
            have q1 : wr.cell? ⟨w3.heap.size, 1, none⟩ = some (.slice Av k cv) := cell_of_blk hI.r1
            have q2 : wr.frozen? ⟨w3.heap.size, 1, none⟩ = false := frozen_of_blk hI.r1
            have q3 : w3.heap.size < wr.heap.size := lt_of_cell q1
            have HL := Lib.hid (hI.lit vars[k] hsz)
            have H63 : Hid (k + 1 ≤ maxLen) := Lib.hid (by unfold maxLen; omega)
            have HBY : Hid ((k + 1) * 24 ≤ 140737488355328) := Lib.hid (by omega)
            have HLM : Hid (((vars.take k).map fun s => (⟨true, s⟩ : T)).length = k) := Lib.hid (by simp; omega)
            clear hI hR hk
            generalize vars[k] = s at *
            clear hlt
            go_wp2_with (at_builtin; refine wpList_coll rfl _ _ _ rfl (w3.heap.size + 1) 61 i0 (.agg #[.bool false, .string ⟨#[]⟩]) 2 24 Try.underlying33 hi hz0 hz1 hz2 rfl (Nat.zero_lt_succ 1) termK_good (.slice Av k cv) k L _ [] rfl HL.out.1 HLM.out (some ⟨wr.heap.size, 0, none⟩) 1 1 _ [⟨true, s⟩] _ rfl HL.out.2.1 rfl HL.out.2.2.1 (fun b hb => by simp at hb) H63.out HBY.out wr (w3.heap.size + 1) HL.out.2.2.2.1 (Nat.le_refl _) HL.out.2.2.2.2 ?_; intro A4 c4 w4 hC4 hB4 hS4 hG4; have HZ := Lib.hid (HI.out.app hC4 hB4 HR.out HLT3.out); have p1 := HZ.out.1; have p2 := HZ.out.2.1; clear hC4 hB4 hS4 hG4 q1 q2 e0)
            go_wp2
            go_roundw
            case rel => exact ⟨k + 1, A4, c4, _, HLT.out, by go_num, by rw [HT.out]; exact HZ.out.2.2.1, HZ.out.2.2.2⟩
            case measure => have := HLT.out; simp [intOf]; omega
          · have he : k = vars.length := by omega
            have hk1 : ¬ (k : Int) < (vars.length : Int) := by omega
            have y0 : wr.cell? ⟨w3.heap.size, 0, none⟩ = some (.string nm) := cell_of_blk hI.r1
            have y1 : wr.cell? ⟨w3.heap.size, 1, none⟩ = some (.slice Av k cv) := cell_of_blk hI.r1
            have z0 : wr.cell? ⟨w.heap.size, 0, none⟩ = some (.string ⟨#[]⟩) := cell_of_blk hI.r0
            have z1 : wr.cell? ⟨w.heap.size, 1, none⟩ = some (.slice none 0 0) := cell_of_blk hI.r0
            have z2 : wr.cell? ⟨w.heap.size, 2, none⟩ = some (.slice none 0 0) := cell_of_blk hI.r0
            have hn0 : w.heap.size < wr.heap.size := lt_of_block hI.r0
            have hne1 : ¬ w.heap.size = w3.heap.size := by omega
            have hne2 : ¬ w3.heap.size = w.heap.size := by omega
            have HIe := Lib.hid hI
            have HHE : Hid (hd = ⟨nm, (vars.take k).map fun s => ⟨true, s⟩⟩) := Lib.hid (by rw [he, List.take_of_length_le (Nat.le_refl _)]; exact HHD.out)
            have hD : Below wr.heap.size wr wr.drew := (Below.refl _ _).drew
            have q4 := HQ4.out (by trivial) _ (hI.bel.trans (hD.mono hI.bel.size))
            have HD := Lib.hid hD
            clear hI hR he hk HQ4 hD
            go_wp2
            go_region_held3 (fun w' => w'.cell? ⟨w3.heap.size, 0, none⟩ = some (.string nm) ∧ w'.cell? ⟨w3.heap.size, 1, none⟩ = some (.slice Av k cv)) (first | go_keep | exact ⟨cell_later hb5 y0, cell_later hb5 y1⟩)
              (first | (go_at_call 32; refine q4.mono ?_; rintro e w5 ⟨hb5, v5, b5, rfl, hR5, hN5⟩; obtain ⟨A5, c5, rfl, _⟩ := sliceK_form hR5; have B5 := HD.out.trans (hb5.mono HD.out.size); have g0 := cell_later B5 z0; have g1 := cell_later B5 z1; have g2 := cell_later B5 z2; have hZ5 := (B5.block _ hn0).trans HIe.out.r0; have f0 : w5.frozen? ⟨w.heap.size, 0, none⟩ = false := frozen_of_blk hZ5; have f1 : w5.frozen? ⟨w.heap.size, 1, none⟩ = false := frozen_of_blk hZ5; have f2 : w5.frozen? ⟨w.heap.size, 2, none⟩ = false := frozen_of_blk hZ5; have HX := Lib.hid (HIe.out.done B5 HHE.out HNM.out hR5 hN5); clear hR5 hN5 hZ5))
            go_wp2
            exact bodyPost_ret (v := .tuple #[.agg #[.string nm, .slice Av k cv, .slice A5 ps.length c5], .bool true]) (by simp [results, Try.results15, go_sem, g0, g1, g2]) rfl (by rw [HGY.out]; exact HX.out)
      · have hi3 : (3 : Int) < (vars.length : Int) := by omega
        have HGN : Hid (G = (ruleZ, false)) := Lib.hid (HNo.out (by rw [HG.out, decide_eq_false hlen]; rfl))
        have HB := Lib.hid (((HB3.out.setCell (p := ⟨w.heap.size, 0, none⟩) (Nat.le_refl _) (.string ⟨#[]⟩)).setCell (p := ⟨w.heap.size, 1, none⟩) (Nat.le_refl _) (.slice none 0 0)).setCell (p := ⟨w.heap.size, 2, none⟩) (Nat.le_refl _) (.slice none 0 0))
        clear HNo HYes HG HQ4 hlen
        go_wp2
        exact bodyPost_ret (v := .tuple #[.agg #[.string ⟨#[]⟩, .slice none 0 0, .slice none 0 0], .bool false]) (by simp [results, Try.results15, go_sem, z0, z1, z2]) rfl (by rw [HGN.out]; exact makesRB_no HB.out)

end Go.Proofs.Ytbcepahpehadeaa
