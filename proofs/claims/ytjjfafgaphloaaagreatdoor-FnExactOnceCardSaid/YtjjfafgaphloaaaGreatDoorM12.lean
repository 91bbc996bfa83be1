/- Of the proof of FnExactOnce: Mark, MarkPs, Eq, EqP, MapF. -/
import Derived.WalkKit
import Derived.Lib.Hide
import Derived.WalkSpells
import Derived.WalkLawsBesides
import Derived.Laws.BytesArg
import Derived.ShutString
import Derived.BigQuiet
import Derived.Deep.RegionHeld3
import Derived.Deep.RegionWith
import Derived.Deep.DrawnRows
import Derived.Test.YtjjfafgaphloaaaGreatDoorProg
import Derived.Test.YtjjfafgaphloaaaGreatDoorM01
import Derived.Test.YtjjfafgaphloaaaGreatDoorM06
import Derived.Lib.IndexBytes
import Derived.Deep.Slices
import Derived.Deep.Fields
import Derived.ChangeSame
import Derived.Deep.Draws
import Derived.Maps.OwnSet
import Derived.StringKeys
import Derived.Test.YtjjfafgaphloaaaGreatDoorM03
import Derived.Test.YtjjfafgaphloaaaGreatDoorM07
namespace Go.Proofs.YtjjfafgaphloaaaGreatDoor
open Go.RowKit D
set_option linter.unusedVariables false
attribute [local go_sem ↓] Go.wp_at_zero Go.wp_at_succ
set_option maxHeartbeats 1000000 in
theorem heldTermS_any (ts : List T) (v : Value) (bs : List Nat) (k : Nat) (w : World) (h : termsK w [v] (markTs ts k) bs) (hk : k + 2 * ts.length ≤ 1000000000000) :
    Calls Tryz.prog 49 #[v, .int .i64 k] w (Held (k + 2 * ts.length) w) := by
  obtain ⟨Ad, cap, rfl, hl, hm⟩ := sliceK_form h
  have hzl := markTs_length ts k
  rw [hzl] at h hl ⊢
  clear hm hl
  go_enter Tryz.func49, Tryz.ntmps49
  go_wp2
  go_loopw [1, 5] (fun q j wr => ∃ i : Nat, i ≤ ts.length ∧ j = .int .i64 i ∧ q = .int .i64 (k + 2 * i : Nat) ∧ Below w.heap.size w wr) (fun _ j _ => ts.length - (intOf j).toNat)
  case atStart => exact ⟨0, Nat.zero_le _, rfl, rfl, Below.refl _ _⟩
  case round =>
    obtain ⟨i, hi, rfl, rfl, hb⟩ := hrel
    by_cases hlt : i < ts.length
    · obtain ⟨b, o, rfl, _, c0, c1, hnm⟩ := terms_at (termsK_good.below h hb) (k := i) (by rw [hzl]; exact hlt)
      rw [markTs_at hlt] at c0 c1
      clear h hzl hnm
      have hlt' : (i : Int) < (ts.length : Int) := by omega
      have hk0 : (0 : Int) ≤ (i : Int) := by omega
      obtain ⟨q, hq⟩ : ∃ q, q = k + 2 * i := ⟨_, rfl⟩
      rw [← hq] at c0 c1 ⊢
      have hq1 : q + 1 ≤ 1000000000000 := by omega
      have HQ := Lib.hid hq
      clear hq
      dsimp only [mkT] at c0 c1
      have d0 : (0 : Int) ≤ (q : Int) + 1 := by omega
      have hx : ((q : Int) % 3 == 0) = decide (q % 3 = 0) := by
        rw [Bool.eq_iff_iff, beq_iff_eq, decide_eq_true_eq]; omega
      rw [← hx] at c0
      clear hx
      go_wp2
      go_region_held3 (fun w' => w'.cell? ⟨b, o + i * 2 + 1, none⟩ = some (.string (markText (q + 1)))) (first | go_keep | exact cell_later hw2 c1)
        (first | (go_at_call 46; refine (markText_any (q + 1) _ (by omega)).mono ?_; rintro e w2 ⟨rfl, hw2⟩))
      have B2 := hb.trans (((Below.refl _ _).drew.trans hw2).mono hb.size)
      go_wp2
      go_roundw
      case rel => exact ⟨i + 1, by omega, by go_num, by have := HQ.out; go_num, B2⟩
      case measure => simp [intOf]; omega
    · have he : i = ts.length := by omega
      subst he
      go_wp2
      go_ret
      exact ⟨rfl, hb⟩

end Go.Proofs.YtjjfafgaphloaaaGreatDoor

namespace Go.Proofs.YtjjfafgaphloaaaGreatDoor
open Go.RowKit D
set_option linter.unusedVariables false
attribute [local go_sem ↓] Go.wp_at_zero Go.wp_at_succ
set_option maxHeartbeats 2000000 in
theorem markPartS_any (ts : List Pt) (v : Value) (bs : List Nat) (k B : Nat) (w : World) (h : partsK w [v] ts bs) (hN : New B w bs) (hk : k + sumL cntP ts ≤ 1000000000000) :
    Calls Tryz.prog 48 #[v, .int .i64 k] w (Marked partsK [v] (markPs ts k) bs (k + sumL cntP ts) B w) := by
  obtain ⟨Ad, cap, rfl, hl, hm⟩ := sliceK_form h
  have hlen : ts.length ≤ 1000000000000 := Nat.le_trans (len_cnt cntP cntP_pos ts) (by omega)
  clear hm
  go_enter Tryz.func48, Tryz.ntmps48
  go_wp2
  go_loopw [1, 5] (fun q j wr => ∃ (i : Nat) (ys : List Pt), i ≤ ts.length ∧ j = .int .i64 i ∧ q = .int .i64 (k + sumL cntP (ts.take i) : Nat) ∧ ys = markTo mkP cntP ts k i ∧ partsK wr [.slice Ad ts.length cap] ys bs ∧ New B wr bs ∧ KeptBut bs w wr) (fun _ j _ => ts.length - (intOf j).toNat)
  case atStart => exact ⟨0, ts, Nat.zero_le _, rfl, rfl, rfl, h, hN, KeptBut.refl _ _⟩
  case round =>
    obtain ⟨i, ys, hi, rfl, rfl, hy, hT, hNr, hK⟩ := hrel
    clear h hN
    by_cases hlt : i < ts.length
    · have HLT := Lib.hid hlt
      have hle : ys.length = ts.length := by rw [hy, markTo_length]
      have hey : ys[i]'(by omega) = ts[i] := by subst hy; exact markTo_at hlt
      have HS := Lib.hid (markTo_step (mk := mkP) (cnt := cntP) (k := k) hlt)
      have hsn := sumL_snoc cntP ts i hlt
      have hle2 := sumL_le_of_lt cntP ts i hlt
      have HY := Lib.hid hy
      clear hy
      obtain ⟨b, o, cs, bk, rfl, hb, hbk, hnd, hsub, hcs, hcell, hat, hput⟩ := sliceK_open partK_good hT hNr.nodup (k := i) (by omega)
      rw [hey] at hat
      obtain ⟨s, rfl, _, ht⟩ := hat
      obtain ⟨u0, c0⟩ : ∃ u, wr.cell? ⟨b, o + i * 3, none⟩ = some u := ⟨_, hcell 0 _ rfl⟩
      obtain ⟨u1, c1⟩ : ∃ u, wr.cell? ⟨b, o + i * 3 + 1, none⟩ = some u := ⟨_, by have := hcell 1 _ rfl; rwa [← Nat.add_assoc] at this⟩
      have c2 : wr.cell? ⟨b, o + i * 3 + 2, none⟩ = some s := by have := hcell 2 _ rfl; rwa [← Nat.add_assoc] at this
      have hWb := hNr.wri b hb
      have f0 := hWb.frozen (o + i * 3)
      have f1 := hWb.frozen (o + i * 3 + 1)
      have hbl := hNr.lt hb
      generalize ts[i] = a at *
      have hca : cntP a = 2 + 2 * a.atom.args.length := rfl
      have HP := Lib.hid hput
      have HL := Lib.hid hle
      have HN := Lib.hid hNr
      have HSN := Lib.hid hsn
      clear hcell hput hT hcs hle hNr hey hsn hWb
      obtain ⟨q, hq⟩ : ∃ q, q = k + sumL cntP (ts.take i) := ⟨_, rfl⟩
      rw [← hq] at HS ⊢
      have hq9 : q + 2 + 2 * a.atom.args.length ≤ 1000000000000 := by omega
      have hq1 : (q : Int) + 2 ≤ 1000000000000 := by omega
      have hq2 : q + 1 ≤ 1000000000000 := by omega
      have HQ := Lib.hid hq
      have HC := Lib.hid hca
      clear hq hle2 hca
      go_wp2_with fail
      refine (markText_any (q + 1) _ (by omega)).mono ?_
      rintro e w2 ⟨rfl, hb2⟩
      have hdx : ((q : Int) % 3 == 0) = decide (q % 3 = 0) := by
        rw [Bool.eq_iff_iff, beq_iff_eq, decide_eq_true_eq]; omega
      rw [hdx] at hb2
      have HDX := Lib.hid hdx
      clear hdx
      generalize hw1 : wr.setCell ⟨b, o + i * 3, none⟩ (.bool (decide (q % 3 = 0))) = w1 at *
      have hK1 : KeptBut bs wr w1 := by rw [← hw1]; exact (KeptBut.refl bs wr).setCell hb _
      have hN1 : New B w1 bs := by rw [← hw1]; exact HN.out.set _ _
      have k0 : w1.cell? ⟨b, o + i * 3, none⟩ = some (.bool (decide (q % 3 = 0))) := by rw [← hw1]; exact World.cell?_setCell_same' wr ⟨b, o + i * 3, none⟩ _ (by rw [c0]; rfl)
      have k1 : w1.cell? ⟨b, o + i * 3 + 1, none⟩ = some u1 := by rw [← hw1]; exact setCell_other c1 (by omega)
      have k2 : w1.cell? ⟨b, o + i * 3 + 2, none⟩ = some s := by rw [← hw1]; exact setCell_other c2 (by omega)
      have kf : w1.frozen? ⟨b, o + i * 3 + 1, none⟩ = false := by rw [← hw1, World.frozen?_setCell]; exact f1
      have hother : ∀ p v, wr.cell? ⟨b, o + p, none⟩ = some v → (p < i * 3 ∨ i * 3 + 3 ≤ p) → w1.cell? ⟨b, o + p, none⟩ = some v := fun p v hv hp => by rw [← hw1]; exact setCell_other hv (by omega)
      have hblk1 : ∀ c, c ≠ b → w1.heap[c]? = wr.heap[c]? := fun c hne => by rw [← hw1]; exact Below.heap_setCell _ _ _ _ hne
      have hbl1 : b < w1.heap.size := hN1.lt hb
      have g1 : w2.cell? ⟨b, o + i * 3 + 1, none⟩ = some u1 := cell_later hb2 k1
      have g2 : w2.cell? ⟨b, o + i * 3 + 2, none⟩ = some s := cell_later hb2 k2
      have f2 : w2.frozen? ⟨b, o + i * 3 + 1, none⟩ = false := (hb2.frozen (p := ⟨b, o + i * 3 + 1, none⟩) hbl1).trans kf
      have ht2 : termsK w2 [s] a.atom.args bk := termsK_good.keep ht fun c hc => by
        have hcb : c ≠ b := fun e => hbk (by rw [← e]; exact hc)
        rw [hb2.block c (hN1.lt (hsub c hc)), hblk1 c hcb]
      have HT2 := Lib.hid ht2
      have HOT := Lib.hid hother
      have HBK := Lib.hid hblk1
      obtain ⟨Ae, ce, rfl, _⟩ := sliceK_form ht
      have HK0 := Lib.hid (cell_later hb2 k0)
      clear ht ht2 c0 c1 c2 f0 f1 hother hblk1 hw1 k0 k1 k2 kf
      have g3 : (w2.setCell ⟨b, o + i * 3 + 1, none⟩ (.string (markText (q + 1)))).cell? ⟨b, o + i * 3 + 2, none⟩ = some (.slice Ae a.atom.args.length ce) := setCell_other g2 (by omega)
      have hN2 : New B (w2.setCell ⟨b, o + i * 3 + 1, none⟩ (.string (markText (q + 1)))) bs := (hN1.below hb2).set _ _
      have hmt := markTermS_any a.atom.args _ bk (q + 2) B _ (termsK_good.keep HT2.out fun c hc => Below.heap_setCell w2 ⟨b, o + i * 3 + 1, none⟩ (.string (markText (q + 1))) _ fun e => hbk (by rw [← (show c = b from e)]; exact hc)) (hN2.sub hnd hsub) hq9
      have g4 : (w2.setCell ⟨b, o + i * 3 + 1, none⟩ (.string (markText (q + 1)))).cell? ⟨b, o + i * 3 + 1, none⟩ = some (.string (markText (q + 1))) := World.cell?_setCell_same' _ _ _ (by rw [g1]; rfl)
      have g5 : (w2.setCell ⟨b, o + i * 3 + 1, none⟩ (.string (markText (q + 1)))).cell? ⟨b, o + i * 3, none⟩ = some (.bool (decide (q % 3 = 0))) := setCell_other HK0.out (by omega)
      have hk2 : KeptBut bs wr (w2.setCell ⟨b, o + i * 3 + 1, none⟩ (.string (markText (q + 1)))) := (hK1.trans (KeptBut.of_below hb2)).setCell hb _
      have hrest : ∀ p v, wr.cell? ⟨b, o + p, none⟩ = some v → (p < i * 3 ∨ i * 3 + 3 ≤ p) → (w2.setCell ⟨b, o + i * 3 + 1, none⟩ (.string (markText (q + 1)))).cell? ⟨b, o + p, none⟩ = some v := fun p v hv hp => setCell_other (cell_later hb2 (HOT.out p v hv hp)) (by omega)
      have hblk : ∀ c ∈ bs, c ≠ b → (w2.setCell ⟨b, o + i * 3 + 1, none⟩ (.string (markText (q + 1)))).heap[c]? = wr.heap[c]? := fun c hc hne => by rw [Below.heap_setCell _ _ _ _ hne, hb2.block c (hN1.lt hc), HBK.out c hne]
      have HR := Lib.hid hrest
      have HB := Lib.hid hblk
      clear hrest hblk hN1 hK1
      go_wp2_with fail
      generalize hw3 : w2.setCell ⟨b, o + i * 3 + 1, none⟩ (.string (markText (q + 1))) = w3 at *
      clear hw3
      refine hmt.mono ?_
      rintro e w4 ⟨rfl, hR4, hN4, hK4⟩
      have R := HP.out w4 [.bool (decide (q % 3 = 0)), .string (markText (q + 1)), .slice Ae a.atom.args.length ce] (mkP a q) rfl
        (fun j v hv => by
          match j, hv with
          | 0, hv =>
            simp only [List.getElem?_cons_zero, Option.some.injEq] at hv
            subst hv
            rw [Nat.add_zero]
            exact hK4.cell hbk g5
          | 1, hv =>
            simp only [List.getElem?_cons_succ, List.getElem?_cons_zero, Option.some.injEq] at hv
            subst hv
            rw [← Nat.add_assoc]
            exact hK4.cell hbk g4
          | 2, hv =>
            simp only [List.getElem?_cons_succ, List.getElem?_cons_zero, Option.some.injEq] at hv
            subst hv
            rw [← Nat.add_assoc]
            exact hK4.cell hbk g3
          | j + 3, hv => simp at hv)
        (fun p v hv hp => hK4.cell hbk (HR.out p v hv hp))
        (fun c hc hne hnb => by rw [hK4.block c (hN2.lt hc) hnb, HB.out c hc hne])
        ⟨_, rfl, markText_size (k := q + 1) (by omega), hR4⟩
      rw [HY.out, HS.out] at R
      have hN5 : New B w4 bs := hN2.mix hN4 hK4
      have hK5 : KeptBut bs w w4 := hK.trans (hk2.trans (hK4.mono hsub))
      clear HP HN HR HB hmt g1 g2 f2 g3 g4 g5 hK4 hN4 hN2 hk2 hR4 HY HS HT2 HOT HBK HK0 HDX
      go_wp2_with fail
      go_roundw
      case rel => exact ⟨i + 1, _, HLT.out, by go_num, by have := HQ.out; have := HSN.out; have := HC.out; go_num, rfl, R, hN5, hK5⟩
      case measure => have := HLT.out; simp [intOf]; omega
    · have he : i = ts.length := by omega
      subst he
      have HY : Hid (ys = markPs ts k) := Lib.hid (by rw [hy, markTo_all]; rfl)
      have HT : Hid (ts.take ts.length = ts) := Lib.hid (List.take_of_length_le (Nat.le_refl _))
      clear hy
      go_wp2
      go_ret
      exact ⟨by rw [HT.out]; rfl, by rw [← HY.out]; exact hT, hNr, hK⟩

end Go.Proofs.YtjjfafgaphloaaaGreatDoor

namespace Go.Proofs.YtjjfafgaphloaaaGreatDoor
open Go.RowKit D
set_option linter.unusedVariables false
attribute [local go_sem ↓] Go.wp_at_zero Go.wp_at_succ
set_option maxHeartbeats 400000 in
theorem szAtom_any (a : A) (c0 c1 : Value) (bs : List Nat) (left : Int) (w : World) (h : atomK w [c0, c1] a bs) (h0 : 0 ≤ left) (h1 : left ≤ 1048576) :
    Calls Tryz.prog 41 #[.agg #[c0, c1], .int .i64 left] w (Left left (bulkA a) w.heap.size w) := by
  obtain ⟨s1, hcs, hnm, ht⟩ := h
  simp only [List.cons.injEq, and_true] at hcs
  obtain ⟨rfl, rfl⟩ := hcs
  have hq := fun w' (hb : Below w.heap.size w w') (h0 : 0 ≤ left - (a.name.size : Int)) => szTermS_any a.args c1 bs (left - (a.name.size : Int)) w' (termsK_good.below ht hb) h0 (by omega)
  have hbk : bulkA a = a.name.size + a.args.length + bulkTs a.args := rfl
  have HB := Lib.hid hbk
  have hnm' := nat_ge_max hnm
  clear ht hbk hnm
  go_enter Tryz.func41, Tryz.ntmps41
  go_wp2_with fail
  · go_ret
    exact ⟨(Below.refl _ _).alloc (Nat.le_refl _) _, _, rfl, .inl rfl⟩
  · refine (hq _ ((Below.refl _ _).alloc (Nat.le_refl _) _) (by assumption)).mono ?_
    rintro e w' ⟨hb', r, rfl, hr⟩
    have hB : Below w.heap.size w w' := ((Below.refl _ _).alloc (Nat.le_refl _) _).trans (hb'.mono (by simp))
    go_wp2
    · rcases hr with rfl | ⟨_, _⟩
      · go_ret
        exact ⟨hB, _, rfl, .inl rfl⟩
      · exfalso; omega
    · rcases hr with rfl | ⟨hr0, hr1⟩
      · exfalso; omega
      · go_ret
        have := HB.out
        exact ⟨hB, _, rfl, .inr ⟨hr0, by omega⟩⟩

set_option maxHeartbeats 400000 in
theorem toAtom_any (a : A) (c0 c1 : Value) (bs : List Nat) (w : World) (h : atomK w [c0, c1] a bs) (hn : a.args.length ≤ 1048576) :
    Calls Tryz.prog 43 #[.agg #[c0, c1]] w (MakesA atomK a w.heap.size w) := by
  obtain ⟨s1, hcs, hnm, ht⟩ := h
  simp only [List.cons.injEq, and_true] at hcs
  obtain ⟨rfl, rfl⟩ := hcs
  have hq := fun w' (hb : Below w.heap.size w w') => toTermS_any a.args c1 bs w' (termsK_good.below ht hb) hn
  clear ht
  go_enter Tryz.func43, Tryz.ntmps43
  go_wp2_with fail
  refine (hq _ (by repeat (first | exact Below.refl _ _ | (refine Below.setCell ?_ (by first | (simp; done) | (simp; omega)) _) | (refine Below.alloc ?_ (by first | (simp; done) | (simp; omega)) _)))).mono ?_
  rintro e w' ⟨hb', v, bs', rfl, hR, hN⟩
  obtain ⟨Ad, cap, rfl, _, _⟩ := sliceK_form hR
  have hB : Below w.heap.size w w' := Below.trans (by repeat (first | exact Below.refl _ _ | (refine Below.setCell ?_ (by first | (simp; done) | (simp; omega)) _) | (refine Below.alloc ?_ (by first | (simp; done) | (simp; omega)) _))) (hb'.mono (by first | (simp; done) | (simp; omega)))
  have k0 : w'.cell? ⟨w.heap.size + 1 + 1, 0, none⟩ = some (.string a.name) := cell_later hb' (by go_simp)
  have k1 : w'.cell? ⟨w.heap.size + 1 + 1, 1, none⟩ = some (.slice none 0 0) := cell_later hb' (by go_simp)
  have k2 : w'.cell? ⟨w.heap.size + 1, 0, none⟩ = some (.string ⟨#[]⟩) := cell_later hb' (by go_simp)
  have k3 : w'.cell? ⟨w.heap.size + 1, 1, none⟩ = some (.slice none 0 0) := cell_later hb' (by go_simp)
  have f0 : w'.frozen? ⟨w.heap.size + 1 + 1, 1, none⟩ = false := (hb'.frozen (p := ⟨w.heap.size + 1 + 1, 1, none⟩) (by simp)).trans (by go_simp)
  have f1 : w'.frozen? ⟨w.heap.size + 1, 0, none⟩ = false := (hb'.frozen (p := ⟨w.heap.size + 1, 0, none⟩) (by simp)).trans (by go_simp)
  have f2 : w'.frozen? ⟨w.heap.size + 1, 1, none⟩ = false := (hb'.frozen (p := ⟨w.heap.size + 1, 1, none⟩) (by simp)).trans (by go_simp)
  have hge : ∀ b ∈ bs', w.heap.size + 1 + 1 < b := fun b hb => by have := (hN.own b hb).1; simp at this; omega
  go_wp2
  exact bodyPost_ret (v := .agg #[.string a.name, .slice Ad a.args.length cap]) (by simp [results, Tryz.results43, go_sem, k2, k3]) rfl
    ⟨((hB.setCell (by simp; omega) _).setCell (by simp) _).setCell (by simp) _, _, bs', rfl,
      ⟨_, rfl, hnm, termsK_good.keep hR fun b hb => by have := hge b hb; rw [Below.heap_setCell _ _ _ _ (by simp; omega), Below.heap_setCell _ _ _ _ (by simp; omega), Below.heap_setCell _ _ _ _ (by simp; omega)]⟩,
      (hN.keep fun b hb => by have := hge b hb; rw [Below.heap_setCell _ _ _ _ (by simp; omega), Below.heap_setCell _ _ _ _ (by simp; omega), Below.heap_setCell _ _ _ _ (by simp; omega)]).mono (by simp; omega)⟩

end Go.Proofs.YtjjfafgaphloaaaGreatDoor

namespace Go.Proofs.YtjjfafgaphloaaaGreatDoor
open Go.RowKit D
set_option linter.unusedVariables false
attribute [local go_sem ↓] Go.wp_at_zero Go.wp_at_succ
set_option maxHeartbeats 400000 in
theorem eqPart_same (p : Pt) (c0 c1 c2 d0 d1 d2 : Value) (b1 b2 : List Nat) (w : World) (h1 : partK w [c0, c1, c2] p b1) (h2 : partK w [d0, d1, d2] p b2) :
    Calls Tryz.prog 133 #[.agg #[c0, c1, c2], .agg #[d0, d1, d2]] w (Yes w.heap.size w) := by
  have a1 := part_atom h1
  have a2 := part_atom h2
  obtain ⟨Ad, cap, rfl, rfl, rfl⟩ := part_cells2 h1
  obtain ⟨Ae, cape, rfl, rfl, rfl⟩ := part_cells2 h2
  have hq := fun w' (hb : Below w.heap.size w w') => eqAtom_same p.atom _ _ _ _ b1 b2 w' (atomK_good.below a1 hb) (atomK_good.below a2 hb)
  clear h1 h2 a1 a2
  have hA := ((Below.refl w.heap.size w).alloc (Nat.le_refl _) (.cells #[.bool p.no, .string p.atom.name, .slice Ad p.atom.args.length cap] 148)).alloc (by simp) (.cells #[.bool p.no, .string p.atom.name, .slice Ae p.atom.args.length cape] 148)
  go_enter Tryz.func133, Tryz.ntmps133
  go_wp2_with fail
  refine (hq _ hA).mono ?_
  rintro e w' ⟨rfl, hb'⟩
  go_wp2
  go_ret
  exact ⟨rfl, hA.trans (hb'.mono hA.size)⟩

set_option maxHeartbeats 400000 in
theorem eqPartS_same (ts : List Pt) (v1 v2 : Value) (b1 b2 : List Nat) (w : World) (h1 : partsK w [v1] ts b1) (h2 : partsK w [v2] ts b2) :
    Calls Tryz.prog 91 #[v1, v2] w (Yes w.heap.size w) := by
  obtain ⟨Ad, cap, rfl, hl, hm⟩ := sliceK_form h1
  obtain ⟨Ad2, cap2, rfl, hl2, hm2⟩ := sliceK_form h2
  have hlm := nat_ge_max (Nat.le_trans hl hm)
  clear hm hm2
  go_enter Tryz.func91, Tryz.ntmps91
  go_wp2
  go_loopw [5] (fun i wr => ∃ k : Nat, k ≤ ts.length ∧ i = .int .i64 k ∧ Below w.heap.size w wr) (fun i _ => ts.length - (intOf i).toNat)
  case atStart => exact ⟨0, Nat.zero_le _, rfl, Below.refl _ _⟩
  case round =>
    obtain ⟨k, hk, rfl, hb⟩ := hrel
    by_cases hlt : k < ts.length
    · obtain ⟨b, o, Ae, ce, bk, rfl, _, c0, c1, c2, hel, _⟩ := parts_el (partsK_good.below h1 hb) hlt
      obtain ⟨b', o', Ae', ce', bk', rfl, _, d0, d1, d2, hel', _⟩ := parts_el (partsK_good.below h2 hb) hlt
      clear h1 h2
      have H1 := Lib.hid (partK_good.below hel (Below.drew (Below.refl _ _)))
      have H2 := Lib.hid (partK_good.below hel' (Below.drew (Below.refl _ _)))
      have hlt' : (k : Int) < (ts.length : Int) := by omega
      have hk0 : (0 : Int) ≤ (k : Int) := by omega
      clear hel hel'
      go_wp2
      go_region_held3 (fun w' => w'.cell? ⟨b, o + k * 3, none⟩ = some (.bool ts[k].no) ∧ w'.cell? ⟨b, o + k * 3 + 1, none⟩ = some (.string ts[k].atom.name) ∧ w'.cell? ⟨b, o + k * 3 + 2, none⟩ = some (.slice Ae ts[k].atom.args.length ce) ∧ w'.cell? ⟨b', o' + k * 3, none⟩ = some (.bool ts[k].no) ∧ w'.cell? ⟨b', o' + k * 3 + 1, none⟩ = some (.string ts[k].atom.name) ∧ w'.cell? ⟨b', o' + k * 3 + 2, none⟩ = some (.slice Ae' ts[k].atom.args.length ce')) (first | go_keep | exact ⟨cell_later hb' c0, cell_later hb' c1, cell_later hb' c2, cell_later hb' d0, cell_later hb' d1, cell_later hb' d2⟩)
        (first | (go_at_call 133; refine (eqPart_same ts[k] _ _ _ _ _ _ bk bk' _ H1.out H2.out).mono ?_; rintro e w' ⟨rfl, hb'⟩))
      go_wp2
      go_roundw
      case rel => exact ⟨k + 1, by omega, by go_num, hb.trans ((Below.drew (Below.refl _ _)).trans (hb'.mono hb.size))⟩
      case measure => simp [intOf]; omega
    · have he : k = ts.length := by omega
      subst he
      go_wp2
      go_ret
      exact ⟨rfl, hb⟩

end Go.Proofs.YtjjfafgaphloaaaGreatDoor

namespace Go.Proofs.YtjjfafgaphloaaaGreatDoor
open Go.RowKit Go.Maps D
set_option linter.unusedVariables false
theorem D.lawS : Keyed Tryz.prog 9 := string_keyed Tryz.underlying9

theorem D.zeroI (w : World) : (zeroValue 3).run Tryz.prog w = .ok (.int .i64 0) w := by kernel_rfl

def D.keyL (s : ByteArray) : Lit := .string s.data.toList

theorem D.keyOf_s {s : ByteArray} (h : s.size ≤ maxLen) : keyOf Tryz.prog 9 (.string s) = some (keyL s) := Go.WideMaps.keyOf_string_mk Tryz.underlying9 h

theorem D.keyL_inj {s t : ByteArray} (h : keyL s = keyL t) : s = t := by
  unfold keyL at h
  injection h with h
  exact bytes_inj h

theorem D.lit_eq {H : Type} {x y : Int} (h : (DataW.lit (.int .i64 x) : DataW H) = .lit (.int .i64 y)) : x = y := by simpa using h

/-- Block b is a map of at most n entries; its keys are L's, and each holds what f says. -/
structure D.MapF (b n : Nat) (L : List ByteArray) (f : ByteArray → Int) (w : World) : Prop where
  own : ∃ M : DataW Unit, w.ownsMap Tryz.prog 9 (plainElem Tryz.prog 3) b n M ∧ Maps.size M = L.length ∧ (∀ s, has M (keyL s) = decide (s ∈ L)) ∧ ∀ s ∈ L, M.atKey (keyL s) (.lit (.int .i64 0)) = .lit (.int .i64 (f s))
  nd : L.Nodup
  sz : ∀ s ∈ L, s.size ≤ maxLen

theorem D.MapF.made (w : World) (f : ByteArray → Int) : MapF w.heap.size 0 [] f (w.alloc (.map #[] 0)) :=
  ⟨⟨.map [], World.ownsMap_made _ _ _ _, rfl, fun s => by simp [has], fun s h => by simp at h⟩, List.nodup_nil, fun s h => by simp at h⟩

theorem D.MapF.same {b n : Nat} {L : List ByteArray} {f : ByteArray → Int} {w w' : World} (h : MapF b n L f w) (e : w'.heap[b]? = w.heap[b]?) : MapF b n L f w' := by
  obtain ⟨⟨M, ⟨es, c, h1, h2⟩, h3⟩, h4, h5⟩ := h
  exact ⟨⟨M, ⟨es, c, e.trans h1, h2⟩, h3⟩, h4, h5⟩

theorem D.MapF.mono {b n n' : Nat} {L : List ByteArray} {f : ByteArray → Int} {w : World} (h : MapF b n L f w) (hn : n ≤ n') : MapF b n' L f w := by
  obtain ⟨⟨M, h1, h2⟩, h4, h5⟩ := h
  exact ⟨⟨M, h1.mono hn, h2⟩, h4, h5⟩

theorem D.MapF.lt {b n : Nat} {L : List ByteArray} {f : ByteArray → Int} {w : World} (h : MapF b n L f w) : b < w.heap.size := by
  obtain ⟨⟨M, h1, _⟩, _⟩ := h
  exact h1.lt

theorem D.MapF.below {b n : Nat} {L : List ByteArray} {f : ByteArray → Int} {w w' : World} {B : Nat} (h : MapF b n L f w) (hb : Below B w w') (hB : b < B) : MapF b n L f w' := h.same (hb.block b hB)

theorem D.MapF.setCell {b n : Nat} {L : List ByteArray} {f : ByteArray → Int} {w : World} (h : MapF b n L f w) {a : Addr} (ha : b ≠ a.block) (u : Value) : MapF b n L f (w.setCell a u) :=
  h.same (Below.heap_setCell _ _ _ _ ha)

theorem D.MapF.grown {b n : Nat} {L : List ByteArray} {f : ByteArray → Int} {w w' : World} {row : Option Nat} (h : MapF b n L f w) (hg : w.grownBy w' row) (hne : some b ≠ row) : MapF b n L f w' :=
  h.same (hg.block b h.lt hne)

theorem D.MapF.len_le {b n : Nat} {L : List ByteArray} {f : ByteArray → Int} {w : World} (h : MapF b n L f w) : L.length ≤ n := by
  obtain ⟨⟨M, h1, h2, _⟩, _⟩ := h
  have := h1.size_le
  omega

theorem D.MapF.congr {b n : Nat} {L : List ByteArray} {f g : ByteArray → Int} {w : World} (h : MapF b n L f w) (e : ∀ s ∈ L, f s = g s) : MapF b n L g w := by
  obtain ⟨⟨M, h1, h2, h3, h4⟩, h5, h6⟩ := h
  exact ⟨⟨M, h1, h2, h3, fun s hs => by rw [h4 s hs, e s hs]⟩, h5, h6⟩

section
variable {ops : Array Oper} {rest : List Oper} {o : Oper} {a : Act} {Q : Exit → Act → World → Prop}
/-- 'v, ok := m[k]'. -/
theorem wpList_mapf_ok (w : World) (hg : o.guard = none) (m x : Operand) (t : TypeId) (hop : o.op = Op.lookup t m x true) (ht : Tryz.prog.underlying t = some (.map 9 3))
    (b n : Nat) (L : List ByteArray) (f : ByteArray → Int) (hm : a.eval m = .map (some b)) (h : MapF b n L f w) (s : ByteArray) (hx : a.eval x = .string s) (hs : s.size ≤ maxLen)
    (c : Bool) (hc : decide (s ∈ L) = c) (v : Int) (hv : (if s ∈ L then f s else 0) = v)
    (hK : wpList Tryz.prog ops Q rest (a.put o.dst (.tuple #[.int .i64 v, .bool c])) w) : wpList Tryz.prog ops Q (o :: rest) a w := by
  obtain ⟨⟨M, h1, h2, h3, h4⟩, h5, h6⟩ := h
  refine wpList_lookup_own_ok_int w hg m x t hop _ _ .i64 lawS ht Tryz.underlying3 (zeroI w) b n M hm h1 (.string s) (keyL s) hx (keyOf_s hs) fun d hd hw => ?_
  rw [h3 s, hc]
  have : d = v := by
    rw [← hv]
    split
    · rename_i hmem
      have := h4 s hmem
      rw [this] at hd
      exact lit_eq hd.symm
    · rename_i hmem
      have h7 : has M (keyL s) = false := by rw [h3 s]; simpa using hmem
      rw [atKey_of_not_has h7] at hd
      exact lit_eq hd.symm
  rw [this]
  exact hK

/-- 'm[k]'. -/
theorem wpList_mapf (w : World) (hg : o.guard = none) (m x : Operand) (t : TypeId) (hop : o.op = Op.lookup t m x false) (ht : Tryz.prog.underlying t = some (.map 9 3))
    (b n : Nat) (L : List ByteArray) (f : ByteArray → Int) (hm : a.eval m = .map (some b)) (h : MapF b n L f w) (s : ByteArray) (hx : a.eval x = .string s) (hs : s.size ≤ maxLen)
    (v : Int) (hv : (if s ∈ L then f s else 0) = v)
    (hK : wpList Tryz.prog ops Q rest (a.put o.dst (.int .i64 v)) w) : wpList Tryz.prog ops Q (o :: rest) a w := by
  obtain ⟨⟨M, h1, h2, h3, h4⟩, h5, h6⟩ := h
  refine wpList_lookup_own_int w hg m x t hop _ _ .i64 lawS ht Tryz.underlying3 (zeroI w) b n M hm h1 (.string s) (keyL s) hx (keyOf_s hs) fun d hd hw => ?_
  have : d = v := by
    rw [← hv]
    split
    · rename_i hmem
      have := h4 s hmem
      rw [this] at hd
      exact lit_eq hd.symm
    · rename_i hmem
      have h7 : has M (keyL s) = false := by rw [h3 s]; simpa using hmem
      rw [atKey_of_not_has h7] at hd
      exact lit_eq hd.symm
  rw [this]
  exact hK

/-- 'len(m)'. -/
theorem wpList_mapf_len (w : World) (hg : o.guard = none) (m : Operand) (t : TypeId) (hop : o.op = Op.call { callee := Callee.builtin Builtin.len, args := #[m], argTypes := #[t] }) (ht : Tryz.prog.underlying t = some (.map 9 3))
    (b n : Nat) (L : List ByteArray) (f : ByteArray → Int) (hm : a.eval m = .map (some b)) (h : MapF b n L f w)
    (hK : wpList Tryz.prog ops Q rest (a.put o.dst (.int .i64 L.length)) w) : wpList Tryz.prog ops Q (o :: rest) a w := by
  obtain ⟨⟨M, h1, h2, h3, h4⟩, h5, h6⟩ := h
  refine wpList_len_own w hg m t hop _ _ ht _ b n M hm h1 ?_
  rw [h2]
  exact hK

theorem D.putNew_nodup {L : List ByteArray} (h : L.Nodup) (s : ByteArray) : (putNew L s).Nodup := (places_fold [s] L h).1

/-- 'm[k] = v'. -/
theorem wpList_mapf_put (w : World) (hg : o.guard = none) (m x v : Operand) (t : TypeId) (hop : o.op = Op.mapUpdate t m x v) (ht : Tryz.prog.underlying t = some (.map 9 3))
    (b n : Nat) (L : List ByteArray) (f : ByteArray → Int) (hm : a.eval m = .map (some b)) (h : MapF b n L f w) (s : ByteArray) (hx : a.eval x = .string s) (hs : s.size ≤ maxLen) (z : Int) (hv : a.eval v = .int .i64 z) (hn : n < maxLen) (hz : 0 ≤ z ∧ z ≤ 1000000)
    (hK : ∀ w', MapF b (n + 1) (putNew L s) (fun t => if t = s then z else f t) w' → w.grownBy w' (some b) → wpList Tryz.prog ops Q rest (a.put o.dst undef) w') : wpList Tryz.prog ops Q (o :: rest) a w := by
  obtain ⟨⟨M, h1, h2, h3, h4⟩, h5, h6⟩ := h
  refine wpList_mapUpdate_own w hg m x v t hop _ _ lawS ht _ b n M hm h1 hn (.string s) (.int .i64 z) (keyL s) hx hv (keyOf_s hs) (.lit (.int .i64 z)) [] (plainElem_int Tryz.underlying3 (WalkArith.wf_i64 (by omega))) fun w' h7 hgr => ?_
  refine hK w' ⟨⟨_, h7, ?_, fun t => ?_, fun t ht => ?_⟩, putNew_nodup h5 s, fun t ht => ?_⟩ hgr
  · rw [size_put (h1.tidy lawS), h3 s]
    unfold putNew
    by_cases hm : s ∈ L
    · simp [hm, h2]
    · simp [hm, h2]
  · by_cases e : t = s
    · subst e
      rw [has_put_same h1.isMap (lawS.key (keyOf_s hs))]
      exact (decide_eq_true (putNew_mem.2 (.inr rfl))).symm
    · rw [has_put_other (fun h => e (keyL_inj h)), h3 t]
      by_cases hm : t ∈ L
      · simp [hm, putNew_mem]
      · simp [hm, putNew_mem, e]
  · by_cases e : t = s
    · subst e
      rw [atKey_put_same h1.isMap (lawS.key (keyOf_s hs)), if_pos rfl]
    · rw [atKey_put_other (fun h => e (keyL_inj h)), if_neg e]
      exact h4 t ((putNew_mem.1 ht).resolve_right e)
  · rcases putNew_mem.1 ht with h | rfl
    · exact h6 t h
    · exact hs

end
open Go.WideElems (rg) in
theorem D.MapF.tight {b n : Nat} {L : List ByteArray} {f : ByteArray → Int} {w : World} (h : MapF b n L f w) : MapF b L.length L f w := by
  obtain ⟨⟨M, ⟨es, c, h1, h2, h3, h4⟩, h5, h6⟩, h7, h8⟩ := h
  refine ⟨⟨M, ⟨es, c, h1, h2, ?_, h4⟩, h5, h6⟩, h7, h8⟩
  rw [← h5, h4]
  simp [Maps.size, length_sorted]

section
variable {ops : Array Oper} {rest : List Oper} {o : Oper} {a : Act} {Q : Exit → Act → World → Prop}
end
end Go.Proofs.YtjjfafgaphloaaaGreatDoor
