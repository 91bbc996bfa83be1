/- The walk of markPartS. -/
import Derived.WalkKit
import Derived.Lib.Hide
import Derived.WalkSpells
import Derived.WalkLawsBesides
import Derived.BigQuiet
import Derived.Deep.RegionHeld3
import Derived.Deep.RegionWith
import Derived.Deep.DrawnRows
import Derived.Test.YtbcepahpehadeaaGreatDoorProg
import Derived.Test.YtbcepahpehadeaaGreatDoorMarkTs
namespace Go.Proofs.YtbcepahpehadeaaGreatDoor
open Go.RowKit D
set_option linter.unusedVariables false
attribute [local go_sem ↓] Go.wp_at_zero Go.wp_at_succ


set_option maxHeartbeats 2000000 in
theorem markPartS_any (ts : List Pt) (v : Value) (bs : List Nat) (k B : Nat) (w : World) (h : partsK w [v] ts bs) (hN : New B w bs) (hk : k + sumL cntP ts ≤ 1000000000) :
    Calls Tryz.prog 45 #[v, .int .i64 k] w (Marked partsK [v] (markPs ts k) bs (k + sumL cntP ts) B w) := by
  obtain ⟨Ad, cap, rfl, hl, hm⟩ := sliceK_form h
  have hlen : ts.length ≤ 1000000000 := Nat.le_trans (len_cnt cntP cntP_pos ts) (by omega)
  clear hm
  go_enter Tryz.func45, Tryz.ntmps45
  go_wp2
  go_loopw [1, 5] (fun q j wr => ∃ (i : Nat) (ys : List Pt), i ≤ ts.length ∧ j = .int .i64 i ∧ q = .int .i64 (k + sumL cntP (ts.take i) : Nat) ∧ ys = markTo mkP cntP ts k i ∧ partsK wr [.slice Ad ts.length cap] ys bs ∧ New B wr bs ∧ KeptBut bs w wr) (fun _ j _ => ts.length - (intOf j).toNat)
  case atStart => exact ⟨0, ts, Nat.zero_le _, rfl, rfl, rfl, h, hN, KeptBut.refl _ _⟩
  case round =>
    obtain ⟨i, ys, hi, rfl, rfl, hy, hT, hNr, hK⟩ := hrel
    clear h hN
    by_cases hlt : i < ts.length
    · have HLT := Lib.hid hlt
      have hle : ys.length = ts.length := by rw [hy, markTo_length]
      have hey : ys[i]'(by omega) = ts[i] := by subst hy; exact markTo_at hlt
      have HS := Lib.hid (markTo_step (mk := mkP) (cnt := cntP) (k := k) hlt)
      have hsn := sumL_snoc cntP ts i hlt
      have hle2 := sumL_le_of_lt cntP ts i hlt
      have HY := Lib.hid hy
      clear hy
      obtain ⟨b, o, cs, bk, rfl, hb, hbk, hnd, hsub, hcs, hcell, hat, hput⟩ := sliceK_open partK_good hT hNr.nodup (k := i) (by omega)
      rw [hey] at hat
      obtain ⟨s, rfl, _, ht⟩ := hat
      obtain ⟨u0, c0⟩ : ∃ u, wr.cell? ⟨b, o + i * 3, none⟩ = some u := ⟨_, hcell 0 _ rfl⟩
      obtain ⟨u1, c1⟩ : ∃ u, wr.cell? ⟨b, o + i * 3 + 1, none⟩ = some u := ⟨_, by have := hcell 1 _ rfl; rwa [← Nat.add_assoc] at this⟩
      have c2 : wr.cell? ⟨b, o + i * 3 + 2, none⟩ = some s := by have := hcell 2 _ rfl; rwa [← Nat.add_assoc] at this
      have hWb := hNr.wri b hb
      have f0 := hWb.frozen (o + i * 3)
      have f1 := hWb.frozen (o + i * 3 + 1)
      have hbl := hNr.lt hb
      generalize ts[i] = a at *
      have hca : cntP a = 2 + 2 * a.atom.args.length := rfl
      have HP := Lib.hid hput
      have HL := Lib.hid hle
      have HN := Lib.hid hNr
      have HSN := Lib.hid hsn
      clear hcell hput hT hcs hle hNr hey hsn hWb
      obtain ⟨q, hq⟩ : ∃ q, q = k + sumL cntP (ts.take i) := ⟨_, rfl⟩
      rw [← hq] at HS ⊢
      have hq9 : q + 2 + 2 * a.atom.args.length ≤ 1000000000 := by omega
      have hq1 : (q : Int) + 2 ≤ 1000000000 := by omega
      have hq2 : q + 1 ≤ 1000000000 := by omega
      have HQ := Lib.hid hq
      have HC := Lib.hid hca
      clear hq hle2 hca
      go_wp2_with fail
      refine (markText_any (q + 1) _ (by omega)).mono ?_
      rintro e w2 ⟨rfl, hb2⟩
      have hdx : ((q : Int) % 3 == 0) = decide (q % 3 = 0) := by
        rw [Bool.eq_iff_iff, beq_iff_eq, decide_eq_true_eq]; omega
      rw [hdx] at hb2
      have HDX := Lib.hid hdx
      clear hdx
      generalize hw1 : wr.setCell ⟨b, o + i * 3, none⟩ (.bool (decide (q % 3 = 0))) = w1 at *
      have hK1 : KeptBut bs wr w1 := by rw [← hw1]; exact (KeptBut.refl bs wr).setCell hb _
      have hN1 : New B w1 bs := by rw [← hw1]; exact HN.out.set _ _
      have k0 : w1.cell? ⟨b, o + i * 3, none⟩ = some (.bool (decide (q % 3 = 0))) := by rw [← hw1]; exact World.cell?_setCell_same' wr ⟨b, o + i * 3, none⟩ _ (by rw [c0]; rfl)
      have k1 : w1.cell? ⟨b, o + i * 3 + 1, none⟩ = some u1 := by rw [← hw1]; exact setCell_other c1 (by omega)
      have k2 : w1.cell? ⟨b, o + i * 3 + 2, none⟩ = some s := by rw [← hw1]; exact setCell_other c2 (by omega)
      have kf : w1.frozen? ⟨b, o + i * 3 + 1, none⟩ = false := by rw [← hw1, World.frozen?_setCell]; exact f1
      have hother : ∀ p v, wr.cell? ⟨b, o + p, none⟩ = some v → (p < i * 3 ∨ i * 3 + 3 ≤ p) → w1.cell? ⟨b, o + p, none⟩ = some v := fun p v hv hp => by rw [← hw1]; exact setCell_other hv (by omega)
      have hblk1 : ∀ c, c ≠ b → w1.heap[c]? = wr.heap[c]? := fun c hne => by rw [← hw1]; exact Below.heap_setCell _ _ _ _ hne
      have hbl1 : b < w1.heap.size := hN1.lt hb
      have g1 : w2.cell? ⟨b, o + i * 3 + 1, none⟩ = some u1 := cell_later hb2 k1
      have g2 : w2.cell? ⟨b, o + i * 3 + 2, none⟩ = some s := cell_later hb2 k2
      have f2 : w2.frozen? ⟨b, o + i * 3 + 1, none⟩ = false := (hb2.frozen (p := ⟨b, o + i * 3 + 1, none⟩) hbl1).trans kf
      have ht2 : termsK w2 [s] a.atom.args bk := termsK_good.keep ht fun c hc => by
        have hcb : c ≠ b := fun e => hbk (by rw [← e]; exact hc)
        rw [hb2.block c (hN1.lt (hsub c hc)), hblk1 c hcb]
      have HT2 := Lib.hid ht2
      have HOT := Lib.hid hother
      have HBK := Lib.hid hblk1
      obtain ⟨Ae, ce, rfl, _⟩ := sliceK_form ht
      have HK0 := Lib.hid (cell_later hb2 k0)
      clear ht ht2 c0 c1 c2 f0 f1 hother hblk1 hw1 k0 k1 k2 kf
      have g3 : (w2.setCell ⟨b, o + i * 3 + 1, none⟩ (.string (markText (q + 1)))).cell? ⟨b, o + i * 3 + 2, none⟩ = some (.slice Ae a.atom.args.length ce) := setCell_other g2 (by omega)
      have hN2 : New B (w2.setCell ⟨b, o + i * 3 + 1, none⟩ (.string (markText (q + 1)))) bs := (hN1.below hb2).set _ _
      have hmt := markTermS_any a.atom.args _ bk (q + 2) B _ (termsK_good.keep HT2.out fun c hc => Below.heap_setCell w2 ⟨b, o + i * 3 + 1, none⟩ (.string (markText (q + 1))) _ fun e => hbk (by rw [← (show c = b from e)]; exact hc)) (hN2.sub hnd hsub) hq9
      have g4 : (w2.setCell ⟨b, o + i * 3 + 1, none⟩ (.string (markText (q + 1)))).cell? ⟨b, o + i * 3 + 1, none⟩ = some (.string (markText (q + 1))) := World.cell?_setCell_same' _ _ _ (by rw [g1]; rfl)
      have g5 : (w2.setCell ⟨b, o + i * 3 + 1, none⟩ (.string (markText (q + 1)))).cell? ⟨b, o + i * 3, none⟩ = some (.bool (decide (q % 3 = 0))) := setCell_other HK0.out (by omega)
      have hk2 : KeptBut bs wr (w2.setCell ⟨b, o + i * 3 + 1, none⟩ (.string (markText (q + 1)))) := (hK1.trans (KeptBut.of_below hb2)).setCell hb _
      have hrest : ∀ p v, wr.cell? ⟨b, o + p, none⟩ = some v → (p < i * 3 ∨ i * 3 + 3 ≤ p) → (w2.setCell ⟨b, o + i * 3 + 1, none⟩ (.string (markText (q + 1)))).cell? ⟨b, o + p, none⟩ = some v := fun p v hv hp => setCell_other (cell_later hb2 (HOT.out p v hv hp)) (by omega)
      have hblk : ∀ c ∈ bs, c ≠ b → (w2.setCell ⟨b, o + i * 3 + 1, none⟩ (.string (markText (q + 1)))).heap[c]? = wr.heap[c]? := fun c hc hne => by rw [Below.heap_setCell _ _ _ _ hne, hb2.block c (hN1.lt hc), HBK.out c hne]
      have HR := Lib.hid hrest
      have HB := Lib.hid hblk
      clear hrest hblk hN1 hK1
      go_wp2_with fail
      generalize hw3 : w2.setCell ⟨b, o + i * 3 + 1, none⟩ (.string (markText (q + 1))) = w3 at *
      clear hw3
      refine hmt.mono ?_
      rintro e w4 ⟨rfl, hR4, hN4, hK4⟩
      have R := HP.out w4 [.bool (decide (q % 3 = 0)), .string (markText (q + 1)), .slice Ae a.atom.args.length ce] (mkP a q) rfl
        (fun j v hv => by
          match j, hv with
          | 0, hv =>
            simp only [List.getElem?_cons_zero, Option.some.injEq] at hv
            subst hv
            rw [Nat.add_zero]
            exact hK4.cell hbk g5
          | 1, hv =>
            simp only [List.getElem?_cons_succ, List.getElem?_cons_zero, Option.some.injEq] at hv
            subst hv
            rw [← Nat.add_assoc]
            exact hK4.cell hbk g4
          | 2, hv =>
            simp only [List.getElem?_cons_succ, List.getElem?_cons_zero, Option.some.injEq] at hv
            subst hv
            rw [← Nat.add_assoc]
            exact hK4.cell hbk g3
          | j + 3, hv => simp at hv)
        (fun p v hv hp => hK4.cell hbk (HR.out p v hv hp))
        (fun c hc hne hnb => by rw [hK4.block c (hN2.lt hc) hnb, HB.out c hc hne])
        ⟨_, rfl, markText_size (k := q + 1) (by omega), hR4⟩
      rw [HY.out, HS.out] at R
      have hN5 : New B w4 bs := hN2.mix hN4 hK4
      have hK5 : KeptBut bs w w4 := hK.trans (hk2.trans (hK4.mono hsub))
      clear HP HN HR HB hmt g1 g2 f2 g3 g4 g5 hK4 hN4 hN2 hk2 hR4 HY HS HT2 HOT HBK HK0 HDX
      go_wp2_with fail
      go_roundw
      case rel => exact ⟨i + 1, _, HLT.out, by go_num, by have := HQ.out; have := HSN.out; have := HC.out; go_num, rfl, R, hN5, hK5⟩
      case measure => have := HLT.out; simp [intOf]; omega
    · have he : i = ts.length := by omega
      subst he
      have HY : Hid (ys = markPs ts k) := Lib.hid (by rw [hy, markTo_all]; rfl)
      have HT : Hid (ts.take ts.length = ts) := Lib.hid (List.take_of_length_le (Nat.le_refl _))
      clear hy
      go_wp2
      go_ret
      exact ⟨by rw [HT.out]; rfl, by rw [← HY.out]; exact hT, hNr, hK⟩

end Go.Proofs.YtbcepahpehadeaaGreatDoor
