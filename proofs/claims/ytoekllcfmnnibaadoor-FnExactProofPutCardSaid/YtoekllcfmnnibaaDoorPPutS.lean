/- The walks of spec.l6Put and spec.ProofPut. -/
import Derived.WalkKit
import Derived.Lib.Hide
import Derived.WalkSpells
import Derived.WalkLawsBesides
import Derived.BigQuiet
import Derived.Deep.RegionWith
import Derived.Test.YtoekllcfmnnibaaDoorProg
import Derived.Test.YtoekllcfmnnibaaDoorPut
import Derived.Test.YtoekllcfmnnibaaDoorPPutP
import Derived.Test.YtoekllcfmnnibaaDoorDecS
import Derived.Test.YtoekllcfmnnibaaDoorSizS
namespace Go.Proofs.YtoekllcfmnnibaaDoor
open Go.RowKit D
set_option linter.unusedVariables false
attribute [local go_sem ↓] Go.wp_at_zero Go.wp_at_succ

theorem D.putPf_cap {p : Pf} {n : Nat} (hf : Fits p) (hs : sizePf p ≤ 60) (hb : bulkPf p ≤ 1048576) (hn : n ≤ 60) : (putPf p n).length ≤ 3000000 := by
  have h := putPf_le p hf n
  have h2 : sizePf p * (2 * n + 2 * sizePf p + 28) ≤ 60 * (2 * 60 + 2 * 60 + 28) := Nat.mul_le_mul hs (by omega)
  omega

theorem D.pre_le (p : Pf) (d k : Nat) {u v : ByteArray} (hu : u.data.toList = List.replicate (2 * d) 32 ++ putL p.fact ++ ruleLn p.rule) (hv : v.data.toList = u.data.toList ++ (p.kids.take k).flatMap fun q => putPf q (d + 1)) : v.size ≤ (putPf p d).length := by
  have h1 : v.size = v.data.toList.length := by rw [Array.length_toList]; rfl
  rw [h1, hv, hu, putPf_eq]
  have h2 : (p.kids.flatMap fun q => putPf q (d + 1)) = ((p.kids.take k).flatMap fun q => putPf q (d + 1)) ++ ((p.kids.drop k).flatMap fun q => putPf q (d + 1)) := by
    rw [← List.flatMap_append, List.take_append_drop]
  rw [h2]
  simp only [List.length_append]
  omega

set_option maxRecDepth 100000 in
set_option maxHeartbeats 4000000 in
theorem l6Put_any : ∀ (n : Nat) (p : Pf) (c0 c1 c2 c3 : Value) (bs : List Nat) (d : Nat) (s : ByteArray) (w : World) (h : proofK n w [c0, c1, c2, c3] p bs) (hs : sizePf p + d ≤ 60) (hb : bulkPf p ≤ 1048576) (hi : s.data.toList = List.replicate (2 * d) 32),
    Calls Tryd.prog 12 #[.agg #[c0, c1, c2, c3], .string s] w fun e w' => ∃ t : ByteArray, e = .returned (.string t) ∧ Hid (t.data.toList = putPf p d) ∧ t.size ≤ 3000000 ∧ Below w.heap.size w w' := by
  intro n
  induction n with
  | zero => exact fun p c0 c1 c2 c3 bs d s w h => h.elim
  | succ n ih =>
    intro p c0 c1 c2 c3 bs d s w h hs hb hi
    have hfit := proofK_fits _ h
    obtain ⟨Ad, cap, Ae, cape, b1, b2, rfl, rfl, rfl, rfl, rfl, hrl, ha, hq⟩ := proof_parts h
    have hbk := bulkPf_eq p
    have hpt : ∀ w', Below w.heap.size w w' → Calls Tryd.prog 21 #[.agg #[.string p.fact.name, .slice Ad p.fact.args.length cap]] w' fun e w2 => ∃ t : ByteArray, e = .returned (.string t) ∧ Hid (t.data.toList = putL p.fact) ∧ t.size ≤ 2200000 ∧ Below w'.heap.size w' w2 := fun w' hb' => by
      refine (l1Put_any p.fact _ _ b1 w' (atomK_good.below ha hb') (by omega)).mono ?_
      rintro e w2 ⟨rfl, h2⟩
      refine ⟨_, rfl, Lib.hid rfl, ?_, h2⟩
      have := putL_le p.fact
      show (putL p.fact).toArray.size ≤ _
      rw [List.size_toArray]
      omega
    have hdc : ∀ w', 0 ≤ p.rule → Calls Tryd.prog 22 #[.int .i64 p.rule] w' fun e w2 => ∃ t : ByteArray, e = .returned (.string t) ∧ Hid (t.data.toList = Lib.itoa p.rule) ∧ t.size ≤ 21 ∧ Below w'.heap.size w' w2 := fun w' h0 => by
      obtain ⟨r, hr⟩ : ∃ r : Nat, p.rule = (r : Int) := ⟨p.rule.toNat, by omega⟩
      rw [hr]
      refine (l1Dec_any r w' (by omega)).mono ?_
      rintro e w2 ⟨rfl, h2⟩
      have hit : Lib.itoa (r : Int) = Lib.decDigits r := by
        unfold Lib.itoa
        rw [if_neg (by omega)]
        rfl
      refine ⟨_, rfl, Lib.hid hit.symm, ?_, h2⟩
      have := Lib.itoa_length_le (r : Int) (by omega) (by omega)
      rw [hit] at this
      show (Lib.decDigits r).toArray.size ≤ _
      rw [List.size_toArray]
      exact this
    have hsz : s.size ≤ 120 := by
      show s.data.size ≤ _
      rw [← Array.length_toList, hi, List.length_replicate]
      have := sizePf_pos p
      omega
    have HP := Lib.hid hpt
    have HD := Lib.hid hdc
    have HI := Lib.hid hi
    have HQ := Lib.hid hq
    have IH := Lib.hid ih
    have HF := Lib.hid hfit
    have HS := Lib.hid hs
    have HB := Lib.hid hb
    have hA := (Below.refl w.heap.size w).alloc (Nat.le_refl _) (.cells #[.string p.fact.name, .slice Ad p.fact.args.length cap, .int .i64 p.rule, .slice Ae p.kids.length cape] 35)
    clear h ha hq ih hpt hdc hi hfit hbk hb
    go_enter Tryd.func12, Tryd.ntmps12
    go_wp2_with fail
    refine (HP.out _ hA).mono ?_
    rintro e w1 ⟨t1, rfl, ht1, hz1, hb1⟩
    have B1 := Lib.hid (hA.trans (hb1.mono hA.size))
    have x0 : w1.cell? ⟨w.heap.size, 0, none⟩ = some (.string p.fact.name) := cell_later hb1 (by go_simp)
    have x1 : w1.cell? ⟨w.heap.size, 1, none⟩ = some (.slice Ad p.fact.args.length cap) := cell_later hb1 (by go_simp)
    have x2 : w1.cell? ⟨w.heap.size, 2, none⟩ = some (.int .i64 p.rule) := cell_later hb1 (by go_simp)
    have x3 : w1.cell? ⟨w.heap.size, 3, none⟩ = some (.slice Ae p.kids.length cape) := cell_later hb1 (by go_simp)
    have hkl : p.kids.length ≤ 60 := by have := kids_le p; omega
    clear hA hb1
    by_cases hr : p.rule < 0
    · have hr' : ¬ 0 ≤ p.rule := by omega
      have HU : Hid ((s ++ t1 ++ ⟨#[32, 103, 105, 118, 101, 110, 10]⟩).data.toList = List.replicate (2 * d) 32 ++ putL p.fact ++ ruleLn p.rule) := Lib.hid (by
        unfold ruleLn
        rw [if_pos hr, ByteArray.data_append, ByteArray.data_append, Array.toList_append, Array.toList_append, HI.out, ht1.out])
      clear hr
      go_wp2_with fail
      generalize s ++ t1 ++ ⟨#[32, 103, 105, 118, 101, 110, 10]⟩ = u at *
      go_loopw [5, 6] (fun o i wr => ∃ (k : Nat) (v : ByteArray), k ≤ p.kids.length ∧ i = .int .i64 k ∧ o = .string v ∧ Hid (v.data.toList = u.data.toList ++ (p.kids.take k).flatMap fun q => putPf q (d + 1)) ∧ Below w.heap.size w wr ∧ wr.cell? ⟨w.heap.size, 3, none⟩ = some (.slice Ae p.kids.length cape)) (fun _ i _ => p.kids.length - (intOf i).toNat)
      case atStart => exact ⟨0, u, Nat.zero_le _, rfl, rfl, Lib.hid (by simp), B1.out, x3⟩
      case round =>
        clear B1 x0 x1 x2 x3 ht1 hz1
        obtain ⟨k, v, hk, rfl, rfl, hv, hb, y3⟩ := hrel
        have HBW := Lib.hid hb
        have hvs : v.size ≤ 3000000 := Nat.le_trans (pre_le p d k HU.out hv.out) (putPf_cap HF.out (by have := HS.out; omega) HB.out (by have := HS.out; omega))
        by_cases hlt : k < p.kids.length
        · obtain ⟨b, o, Af, cf, Ag, cg, bk, rfl, _, d0, d1, d2, d3, hel, _⟩ := proofs_el ((proofsK_good n).below HQ.out hb) hlt
          have hki : (k : Int) < (p.kids.length : Int) := by omega
          have hs2 : (s ++ ⟨#[32, 32]⟩).data.toList = List.replicate (2 * (d + 1)) 32 := by
            rw [ByteArray.data_append, Array.toList_append, HI.out, show 2 * (d + 1) = 2 * d + 2 by omega, ← List.replicate_append_replicate]
            rfl
          have hc := IH.out p.kids[k] _ _ _ _ bk (d + 1) _ wr hel (by have := Pf.kid_size hlt; have := HS.out; omega) (Nat.le_trans (bulk_kid hlt) HB.out) hs2
          have HSN := Lib.hid (putPf_snoc p.kids (d + 1) k hlt)
          clear hel hb hs2
          generalize p.kids[k] = q at *
          go_wp2_with fail
          refine hc.mono ?_
          rintro e w2 ⟨t2, rfl, ht2, hz2, hb2⟩
          have HB2 := Lib.hid (HBW.out.trans (hb2.mono HBW.out.size))
          have z3 : w2.cell? ⟨w.heap.size, 3, none⟩ = some (.slice (some ⟨b, o, none⟩) p.kids.length cape) := cell_later hb2 y3
          have HV2 : Hid ((v ++ t2).data.toList = u.data.toList ++ (p.kids.take (k + 1)).flatMap fun q => putPf q (d + 1)) := Lib.hid (by
            rw [ByteArray.data_append, Array.toList_append, hv.out, ht2.out, HSN.out, List.append_assoc])
          clear hc hb2 ht2 hv
          go_wp2
          go_roundw
          case rel => exact ⟨k + 1, v ++ t2, by omega, by go_num, rfl, HV2.out, HB2.out, z3⟩
          case measure => simp [intOf]; omega
        · have he : k = p.kids.length := by omega
          have HE : Hid (v.data.toList = putPf p d) := Lib.hid (by rw [hv.out, he, List.take_of_length_le (Nat.le_refl _), putPf_eq, HU.out])
          have hki : ¬ (k : Int) < (p.kids.length : Int) := by omega
          clear hlt hk he hv
          go_wp2
          go_ret
          exact ⟨v, rfl, HE, hvs, HBW.out⟩
    · have hr0 : 0 ≤ p.rule := by omega
      have HDD := Lib.hid fun w' => HD.out w' hr0
      have HRL : Hid (ruleLn p.rule = [32, 98, 121, 32] ++ Lib.itoa p.rule ++ [10]) := Lib.hid (by unfold ruleLn; rw [if_neg hr])
      clear hr ht1
      go_wp2_with fail
      go_region_with (first
        | (go_at_call 21; first
            | (refine (HP.out _ B3.out).mono ?_; rintro e w2 ⟨t2, rfl, ht2, hz2, hb2⟩; have B2 := Lib.hid (B3.out.trans (hb2.mono B3.out.size)); have z3 := cell_later hb2 y3; have z2 := cell_later hb2 y2; clear hb2)
            | (refine (HP.out _ B1.out.drew).mono ?_; rintro e w2 ⟨t2, rfl, ht2, hz2, hb2⟩; have B2 := Lib.hid (B1.out.drew.trans (hb2.mono B1.out.drew.size)); have z2 : w2.cell? ⟨w.heap.size, 2, none⟩ = some (.int .i64 p.rule) := cell_later hb2 x2; have z3 : w2.cell? ⟨w.heap.size, 3, none⟩ = some (.slice Ae p.kids.length cape) := cell_later hb2 x3; clear hb2))
        | (go_at_call 22; refine (HDD.out _).mono ?_; rintro e w3 ⟨t3, rfl, ht3, hz3, hb3⟩))
      all_goals
        have BF := Lib.hid (B2.out.trans (hb3.mono B2.out.size))
        have y3 : w3.cell? ⟨w.heap.size, 3, none⟩ = some (.slice Ae p.kids.length cape) := cell_later hb3 z3
        have HU : Hid ((s ++ t2 ++ ⟨#[32, 98, 121, 32]⟩ ++ t3 ++ ⟨#[10]⟩).data.toList = List.replicate (2 * d) 32 ++ putL p.fact ++ ruleLn p.rule) := Lib.hid (by
          rw [HRL.out, ByteArray.data_append, ByteArray.data_append, ByteArray.data_append, ByteArray.data_append, Array.toList_append, Array.toList_append, Array.toList_append, Array.toList_append, HI.out, ht2.out, ht3.out]
          simp only [List.append_assoc])
        clear ht2 ht3 B1 B2 x0 x1 x2 x3 z2 z3 hb3 hz1 HRL HDD
        go_wp2_with fail
        generalize s ++ t2 ++ ⟨#[32, 98, 121, 32]⟩ ++ t3 ++ ⟨#[10]⟩ = u at *
        go_loopw [5, 6] (fun o i wr => ∃ (k : Nat) (v : ByteArray), k ≤ p.kids.length ∧ i = .int .i64 k ∧ o = .string v ∧ Hid (v.data.toList = u.data.toList ++ (p.kids.take k).flatMap fun q => putPf q (d + 1)) ∧ Below w.heap.size w wr ∧ wr.cell? ⟨w.heap.size, 3, none⟩ = some (.slice Ae p.kids.length cape)) (fun _ i _ => p.kids.length - (intOf i).toNat)
        case atStart => exact ⟨0, u, Nat.zero_le _, rfl, rfl, Lib.hid (by simp), BF.out, y3⟩
        case round =>
          clear BF y3
          obtain ⟨k, v, hk, rfl, rfl, hv, hb, y4⟩ := hrel
          have HBW := Lib.hid hb
          have hvs : v.size ≤ 3000000 := Nat.le_trans (pre_le p d k HU.out hv.out) (putPf_cap HF.out (by have := HS.out; omega) HB.out (by have := HS.out; omega))
          by_cases hlt : k < p.kids.length
          · obtain ⟨b, o, Af, cf, Ag, cg, bk, rfl, _, d0, d1, d2, d3, hel, _⟩ := proofs_el ((proofsK_good n).below HQ.out hb) hlt
            have hki : (k : Int) < (p.kids.length : Int) := by omega
            have hs2 : (s ++ ⟨#[32, 32]⟩).data.toList = List.replicate (2 * (d + 1)) 32 := by
              rw [ByteArray.data_append, Array.toList_append, HI.out, show 2 * (d + 1) = 2 * d + 2 by omega, ← List.replicate_append_replicate]
              rfl
            have hc := IH.out p.kids[k] _ _ _ _ bk (d + 1) _ wr hel (by have := Pf.kid_size hlt; have := HS.out; omega) (Nat.le_trans (bulk_kid hlt) HB.out) hs2
            have HSN := Lib.hid (putPf_snoc p.kids (d + 1) k hlt)
            clear hel hb hs2
            generalize p.kids[k] = q at *
            go_wp2_with fail
            refine hc.mono ?_
            rintro e w2 ⟨t2, rfl, ht2, hz2, hb2⟩
            have HB2 := Lib.hid (HBW.out.trans (hb2.mono HBW.out.size))
            have z3 : w2.cell? ⟨w.heap.size, 3, none⟩ = some (.slice (some ⟨b, o, none⟩) p.kids.length cape) := cell_later hb2 y4
            have HV2 : Hid ((v ++ t2).data.toList = u.data.toList ++ (p.kids.take (k + 1)).flatMap fun q => putPf q (d + 1)) := Lib.hid (by
              rw [ByteArray.data_append, Array.toList_append, hv.out, ht2.out, HSN.out, List.append_assoc])
            clear hc hb2 ht2 hv
            go_wp2
            go_roundw
            case rel => exact ⟨k + 1, v ++ t2, by omega, by go_num, rfl, HV2.out, HB2.out, z3⟩
            case measure => simp [intOf]; omega
          · have he : k = p.kids.length := by omega
            have HE : Hid (v.data.toList = putPf p d) := Lib.hid (by rw [hv.out, he, List.take_of_length_le (Nat.le_refl _), putPf_eq, HU.out])
            have hki : ¬ (k : Int) < (p.kids.length : Int) := by omega
            clear hlt hk he hv
            go_wp2
            go_ret
            exact ⟨v, rfl, HE, hvs, HBW.out⟩

end Go.Proofs.YtoekllcfmnnibaaDoor
