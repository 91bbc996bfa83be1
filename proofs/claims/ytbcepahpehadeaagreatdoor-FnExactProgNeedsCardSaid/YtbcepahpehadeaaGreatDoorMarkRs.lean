/- The walk of markRuleS. -/
import Derived.WalkKit
import Derived.Lib.Hide
import Derived.WalkSpells
import Derived.WalkLawsBesides
import Derived.BigQuiet
import Derived.Deep.RegionHeld3
import Derived.Deep.RegionWith
import Derived.Deep.DrawnRows
import Derived.Test.YtbcepahpehadeaaGreatDoorProg
import Derived.Test.YtbcepahpehadeaaGreatDoorMarkPs
import Derived.Test.YtbcepahpehadeaaGreatDoorCnt
namespace Go.Proofs.YtbcepahpehadeaaGreatDoor
open Go.RowKit D
set_option linter.unusedVariables false
attribute [local go_sem ↓] Go.wp_at_zero Go.wp_at_succ

def D.cntRu (r : Ru) : Nat := 1 + 2 * r.head.args.length + sumL cntP r.body
def D.mkRu (r : Ru) (k : Nat) : Ru := ⟨⟨markText k, markTs r.head.args (k + 1)⟩, markPs r.body (k + 1 + 2 * r.head.args.length)⟩
def D.markRs : List Ru → Nat → List Ru := markL mkRu cntRu
theorem D.cntRu_pos (r : Ru) : 1 ≤ cntRu r := by unfold cntRu; omega

set_option maxHeartbeats 2000000 in
theorem markRuleS_any (ts : List Ru) (v : Value) (bs : List Nat) (k B : Nat) (w : World) (h : rulesK w [v] ts bs) (hN : New B w bs) (hk : k + sumL cntRu ts ≤ 1000000000) :
    Calls Tryz.prog 18 #[v, .int .i64 k] w (Marked rulesK [v] (markRs ts k) bs (k + sumL cntRu ts) B w) := by
  obtain ⟨Ad, cap, rfl, hl, hm⟩ := sliceK_form h
  have hlen : ts.length ≤ 1000000000 := Nat.le_trans (len_cnt cntRu cntRu_pos ts) (by omega)
  clear hm
  go_enter Tryz.func18, Tryz.ntmps18
  go_wp2
  go_loopw [1, 5] (fun q j wr => ∃ (i : Nat) (ys : List Ru), i ≤ ts.length ∧ j = .int .i64 i ∧ q = .int .i64 (k + sumL cntRu (ts.take i) : Nat) ∧ ys = markTo mkRu cntRu ts k i ∧ rulesK wr [.slice Ad ts.length cap] ys bs ∧ New B wr bs ∧ KeptBut bs w wr) (fun _ j _ => ts.length - (intOf j).toNat)
  case atStart => exact ⟨0, ts, Nat.zero_le _, rfl, rfl, rfl, h, hN, KeptBut.refl _ _⟩
  case round =>
    obtain ⟨i, ys, hi, rfl, rfl, hy, hT, hNr, hK⟩ := hrel
    clear h hN
    by_cases hlt : i < ts.length
    · have HLT := Lib.hid hlt
      have hle : ys.length = ts.length := by rw [hy, markTo_length]
      have hey : ys[i]'(by omega) = ts[i] := by subst hy; exact markTo_at hlt
      have HS := Lib.hid (markTo_step (mk := mkRu) (cnt := cntRu) (k := k) hlt)
      have hsn := sumL_snoc cntRu ts i hlt
      have hle2 := sumL_le_of_lt cntRu ts i hlt
      have HY := Lib.hid hy
      clear hy
      obtain ⟨b, o, cs, bk, rfl, hb, hbk, hnd, hsub, hcs, hcell, hat, hput⟩ := sliceK_open ruleK_good hT hNr.nodup (k := i) (by omega)
      rw [hey] at hat
      obtain ⟨s1, s2, b1, b2, rfl, _, rfl, ht, hp⟩ := hat
      obtain ⟨u0, c0⟩ : ∃ u, wr.cell? ⟨b, o + i * 3, none⟩ = some u := ⟨_, hcell 0 _ rfl⟩
      have c1 : wr.cell? ⟨b, o + i * 3 + 1, none⟩ = some s1 := by have := hcell 1 _ rfl; rwa [← Nat.add_assoc] at this
      have c2 : wr.cell? ⟨b, o + i * 3 + 2, none⟩ = some s2 := by have := hcell 2 _ rfl; rwa [← Nat.add_assoc] at this
      have hWb := hNr.wri b hb
      have f0 := hWb.frozen (o + i * 3)
      have hbl := hNr.lt hb
      generalize ts[i] = a at *
      have hca : cntRu a = 1 + 2 * a.head.args.length + sumL cntP a.body := rfl
      have HP := Lib.hid hput
      have HL := Lib.hid hle
      have HN := Lib.hid hNr
      have HSN := Lib.hid hsn
      clear hcell hput hT hcs hle hNr hey hsn hWb
      obtain ⟨q, hq⟩ : ∃ q, q = k + sumL cntRu (ts.take i) := ⟨_, rfl⟩
      rw [← hq] at HS ⊢
      have hq9 : q + 1 + 2 * a.head.args.length + sumL cntP a.body ≤ 1000000000 := by omega
      have hq1 : (q : Int) + 1 ≤ 1000000000 := by omega
      have hq2 : q ≤ 1000000000 := by omega
      have HQ := Lib.hid hq
      have HC := Lib.hid hca
      have hb1 : b ∉ b1 := fun h => hbk (List.mem_append_left _ h)
      have hb2' : b ∉ b2 := fun h => hbk (List.mem_append_right _ h)
      have hs1 : ∀ c ∈ b1, c ∈ bs := fun c h => hsub c (List.mem_append_left _ h)
      have hs2 : ∀ c ∈ b2, c ∈ bs := fun c h => hsub c (List.mem_append_right _ h)
      have hnd1 := (List.nodup_append.1 hnd).1
      have hnd2 := (List.nodup_append.1 hnd).2.1
      have hpar := (List.nodup_append.1 hnd).2.2
      clear hq hle2 hca
      go_wp2_with fail
      refine (markText_any q _ (by omega)).mono ?_
      rintro e w2 ⟨rfl, hb2⟩
      have hN2 : New B w2 bs := HN.out.below hb2
      have g0 : w2.cell? ⟨b, o + i * 3, none⟩ = some u0 := cell_later hb2 c0
      have g1 : w2.cell? ⟨b, o + i * 3 + 1, none⟩ = some s1 := cell_later hb2 c1
      have g2 : w2.cell? ⟨b, o + i * 3 + 2, none⟩ = some s2 := cell_later hb2 c2
      have f2 : w2.frozen? ⟨b, o + i * 3, none⟩ = false := (hb2.frozen (p := ⟨b, o + i * 3, none⟩) hbl).trans f0
      have HB2 := Lib.hid hb2
      have hk2 : KeptBut bs wr (w2.setCell ⟨b, o + i * 3, none⟩ (.string (markText q))) := (KeptBut.of_below hb2).setCell hb _
      have hN3 : New B (w2.setCell ⟨b, o + i * 3, none⟩ (.string (markText q))) bs := hN2.set _ _
      have hrest : ∀ p v, wr.cell? ⟨b, o + p, none⟩ = some v → (p < i * 3 ∨ i * 3 + 3 ≤ p) → (w2.setCell ⟨b, o + i * 3, none⟩ (.string (markText q))).cell? ⟨b, o + p, none⟩ = some v := fun p v hv hp => setCell_other (cell_later hb2 hv) (by omega)
      have hblk : ∀ c ∈ bs, c ≠ b → (w2.setCell ⟨b, o + i * 3, none⟩ (.string (markText q))).heap[c]? = wr.heap[c]? := fun c hc hne => by rw [Below.heap_setCell _ _ _ _ hne, hb2.block c (HN.out.lt hc)]
      have g3 : (w2.setCell ⟨b, o + i * 3, none⟩ (.string (markText q))).cell? ⟨b, o + i * 3 + 1, none⟩ = some s1 := setCell_other g1 (by omega)
      have g4 : (w2.setCell ⟨b, o + i * 3, none⟩ (.string (markText q))).cell? ⟨b, o + i * 3 + 2, none⟩ = some s2 := setCell_other g2 (by omega)
      have g5 : (w2.setCell ⟨b, o + i * 3, none⟩ (.string (markText q))).cell? ⟨b, o + i * 3, none⟩ = some (.string (markText q)) := World.cell?_setCell_same' _ _ _ (by rw [g0]; rfl)
      have ht3 : termsK (w2.setCell ⟨b, o + i * 3, none⟩ (.string (markText q))) [s1] a.head.args b1 := termsK_good.keep ht fun c hc => hblk c (hs1 c hc) fun e => hb1 (by rw [← e]; exact hc)
      have hp3 : partsK (w2.setCell ⟨b, o + i * 3, none⟩ (.string (markText q))) [s2] a.body b2 := partsK_good.keep hp fun c hc => hblk c (hs2 c hc) fun e => hb2' (by rw [← e]; exact hc)
      obtain ⟨Ae, ce, rfl, _⟩ := sliceK_form ht
      obtain ⟨Af, cf, rfl, _⟩ := sliceK_form hp
      have HR := Lib.hid hrest
      have HB := Lib.hid hblk
      have HT3 := Lib.hid ht3
      have HP3 := Lib.hid hp3
      clear hrest hblk hN2 ht hp ht3 hp3 c0 c1 c2 f0
      go_wp2_with fail
      generalize hw3 : w2.setCell ⟨b, o + i * 3, none⟩ (.string (markText q)) = w3 at *
      clear hw3 g0 g1 g2 f2
      refine (markTermS_any a.head.args _ b1 (q + 1) B _ HT3.out (hN3.sub hnd1 hs1) (by omega)).mono ?_
      rintro e w4 ⟨rfl, hR4, hN4, hK4⟩
      have j0 := hK4.cell (p := ⟨b, o + i * 3, none⟩) hb1 g5
      have j1 := hK4.cell (p := ⟨b, o + i * 3 + 1, none⟩) hb1 g3
      have j2 := hK4.cell (p := ⟨b, o + i * 3 + 2, none⟩) hb1 g4
      have hp4 : partsK w4 [.slice Af a.body.length cf] a.body b2 := partsK_good.keep HP3.out fun c hc => hK4.block c (hN3.lt (hs2 c hc)) fun h => hpar c h c hc rfl
      have hN5 : New B w4 bs := hN3.mix hN4 hK4
      have HK4 := Lib.hid hK4
      have HR4 := Lib.hid hR4
      have HN4 := Lib.hid hN4
      have HP4 := Lib.hid hp4
      clear hK4 hR4 hN4 hp4 g3 g4 g5
      have hqq : (q : Int) + 1 + 2 * (a.head.args.length : Int) ≤ 1000000000 := by omega
      go_wp2_with fail
      have hcast : (((q + 1 + 2 * a.head.args.length : Nat)) : Int) = (q : Int) + 1 + 2 * (a.head.args.length : Int) := by omega
      refine (markPartS_any a.body _ b2 (q + 1 + 2 * a.head.args.length) B _ HP4.out (hN5.sub hnd2 hs2) (by omega)).mono ?_
      rintro e w5 ⟨rfl, hR6, hN6, hK6⟩
      have hR5 : termsK w5 [.slice Ae a.head.args.length ce] (markTs a.head.args (q + 1)) b1 := termsK_good.keep HR4.out fun c hc => hK6.block c (hN5.lt (hs1 c hc)) fun h => hpar c hc c h rfl
      have R := HP.out w5 [.string (markText q), .slice Ae a.head.args.length ce, .slice Af a.body.length cf] (mkRu a q) rfl
        (fun j v hv => by
          match j, hv with
          | 0, hv =>
            simp only [List.getElem?_cons_zero, Option.some.injEq] at hv
            subst hv
            rw [Nat.add_zero]
            exact hK6.cell hb2' j0
          | 1, hv =>
            simp only [List.getElem?_cons_succ, List.getElem?_cons_zero, Option.some.injEq] at hv
            subst hv
            rw [← Nat.add_assoc]
            exact hK6.cell hb2' j1
          | 2, hv =>
            simp only [List.getElem?_cons_succ, List.getElem?_cons_zero, Option.some.injEq] at hv
            subst hv
            rw [← Nat.add_assoc]
            exact hK6.cell hb2' j2
          | j + 3, hv => simp at hv)
        (fun p v hv hp => hK6.cell hb2' (HK4.out.cell hb1 (HR.out p v hv hp)))
        (fun c hc hne hnb => by rw [hK6.block c (hN5.lt hc) fun h => hnb (List.mem_append_right _ h), HK4.out.block c (hN3.lt hc) fun h => hnb (List.mem_append_left _ h), HB.out c hc hne])
        ⟨_, _, b1, b2, rfl, markText_size (k := q) (by omega), rfl, hR5, hR6⟩
      rw [HY.out, HS.out] at R
      have hN7 : New B w5 bs := hN5.mix hN6 hK6
      have hK7 : KeptBut bs w w5 := hK.trans (hk2.trans ((HK4.out.mono hs1).trans (hK6.mono hs2)))
      clear HP HN HR HB hK6 hN6 hN5 hk2 hR6 hR5 HY HS HT3 HP3 HK4 HR4 HN4 HP4 j0 j1 j2 hcast
      go_wp2_with fail
      go_roundw
      case rel => exact ⟨i + 1, _, HLT.out, by go_num, by have := HQ.out; have := HSN.out; have := HC.out; go_num, rfl, R, hN7, hK7⟩
      case measure => have := HLT.out; simp [intOf]; omega
    · have he : i = ts.length := by omega
      subst he
      have HY : Hid (ys = markRs ts k) := Lib.hid (by rw [hy, markTo_all]; rfl)
      have HT : Hid (ts.take ts.length = ts) := Lib.hid (List.take_of_length_le (Nat.le_refl _))
      clear hy
      go_wp2
      go_ret
      exact ⟨by rw [HT.out]; rfl, by rw [← HY.out]; exact hT, hNr, hK⟩

theorem D.cntRs_le (xs : List Ru) : sumL cntRu xs ≤ 3 * bulkRs xs := by
  unfold bulkRs
  induction xs with
  | nil => simp [sumL]
  | cons x xs ih =>
    have h0 := cntPs_le x.body
    have h1 : cntRu x ≤ 3 + 3 * bulkR x := by unfold cntRu bulkR bulkA; omega
    simp only [sumL, List.map_cons, List.sum_cons, List.length_cons] at *
    omega

end Go.Proofs.YtbcepahpehadeaaGreatDoor
