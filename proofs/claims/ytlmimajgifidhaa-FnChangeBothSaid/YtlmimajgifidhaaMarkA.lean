/- The walks of markAtomS, heldAtomS. -/
import Derived.WalkKit
import Derived.Lib.Hide
import Derived.WalkSpells
import Derived.WalkLawsBesides
import Derived.BigQuiet
import Derived.Deep.RegionHeld3
import Derived.Deep.RegionWith
import Derived.Deep.DrawnRows
import Derived.Test.YtlmimajgifidhaaProg
import Derived.Test.YtlmimajgifidhaaMark
namespace Go.Proofs.Ytlmimajgifidhaa
open Go.RowKit D
set_option linter.unusedVariables false
attribute [local go_sem ↓] Go.wp_at_zero Go.wp_at_succ

theorem D.markAs_length (ts : List A) (k : Nat) : (markAs ts k).length = ts.length := markL_length ts k
theorem D.markAs_at {ts : List A} {k i : Nat} (h : i < ts.length) : (markAs ts k)[i]'(by rw [markAs_length]; exact h) = mkA ts[i] (k + sumL cntA (ts.take i)) := by
  unfold markAs
  rw [markL_at h]
theorem D.cntAs_le (xs : List A) : sumL cntA xs ≤ 3 * bulkAs xs := by
  unfold bulkAs
  have : sumL cntA xs ≤ xs.length + 2 * sumL bulkA xs := by
    induction xs with
    | nil => simp [sumL]
    | cons x xs ih =>
      simp only [sumL, List.map_cons, List.sum_cons, List.length_cons] at *
      have : cntA x ≤ 1 + 2 * bulkA x := by unfold cntA bulkA; omega
      omega
  omega
theorem D.len_cnt {α : Type} (f : α → Nat) (hf : ∀ x, 1 ≤ f x) : ∀ (xs : List α), xs.length ≤ sumL f xs
  | [] => by simp [sumL]
  | x :: xs => by
    have h1 := len_cnt f hf xs
    have h2 := hf x
    simp only [sumL, List.map_cons, List.sum_cons, List.length_cons] at *
    omega
theorem D.cntA_pos (a : A) : 1 ≤ cntA a := by unfold cntA; omega
theorem D.sumL_le_of_lt {α : Type} (f : α → Nat) (xs : List α) (k : Nat) (h : k < xs.length) : sumL f (xs.take k) + f xs[k] ≤ sumL f xs := by
  have := sumL_snoc f xs k h
  have := sumL_take f xs (k + 1)
  omega
theorem D.New.sub {B : Nat} {w : World} {bs cs : List Nat} (h : New B w bs) (hn : cs.Nodup) (hs : ∀ c ∈ cs, c ∈ bs) : New B w cs := ⟨hn, fun b hb => h.own b (hs b hb)⟩
theorem D.New.mix {B : Nat} {w w' : World} {bs cs : List Nat} (h : New B w bs) (hc : New B w' cs) (hk : KeptBut cs w w') : New B w' bs :=
  ⟨h.nodup, fun b hb => by
    by_cases hm : b ∈ cs
    · exact hc.own b hm
    · rw [hk.block b (h.lt hb) hm]; exact h.own b hb⟩
theorem D.New.set {B : Nat} {w : World} {bs : List Nat} (h : New B w bs) (p : Addr) (u : Value) : New B (w.setCell p u) bs := ⟨h.nodup, fun b hb => ⟨(h.own b hb).1, Wri.setCell (h.wri b hb) p u⟩⟩

set_option maxHeartbeats 1000000 in
theorem markAtomS_any (ts : List A) (v : Value) (bs : List Nat) (k B : Nat) (w : World) (h : atomsK w [v] ts bs) (hN : New B w bs) (hk : k + sumL cntA ts ≤ 1000000000) :
    Calls Try.prog 32 #[v, .int .i64 k] w (Marked atomsK [v] (markAs ts k) bs (k + sumL cntA ts) B w) := by
  obtain ⟨Ad, cap, rfl, hl, hm⟩ := sliceK_form h
  have hlen : ts.length ≤ 1000000000 := Nat.le_trans (len_cnt cntA cntA_pos ts) (by omega)
  clear hm
  go_enter Try.func32, Try.ntmps32
  go_wp2
  go_loopw [1, 5] (fun q j wr => ∃ (i : Nat) (ys : List A), i ≤ ts.length ∧ j = .int .i64 i ∧ q = .int .i64 (k + sumL cntA (ts.take i) : Nat) ∧ ys = markTo mkA cntA ts k i ∧ atomsK wr [.slice Ad ts.length cap] ys bs ∧ New B wr bs ∧ KeptBut bs w wr) (fun _ j _ => ts.length - (intOf j).toNat)
  case atStart => exact ⟨0, ts, Nat.zero_le _, rfl, rfl, rfl, h, hN, KeptBut.refl _ _⟩
  case round =>
    obtain ⟨i, ys, hi, rfl, rfl, hy, hT, hNr, hK⟩ := hrel
    clear h hN
    by_cases hlt : i < ts.length
    · have HLT := Lib.hid hlt
      have hle : ys.length = ts.length := by rw [hy, markTo_length]
      have hey : ys[i]'(by omega) = ts[i] := by subst hy; exact markTo_at hlt
      have HS := Lib.hid (markTo_step (mk := mkA) (cnt := cntA) (k := k) hlt)
      have hsn := sumL_snoc cntA ts i hlt
      have hle2 := sumL_le_of_lt cntA ts i hlt
      have HY := Lib.hid hy
      clear hy
      obtain ⟨b, o, cs, bk, rfl, hb, hbk, hnd, hsub, hcs, hcell, hat, hput⟩ := sliceK_open atomK_good hT hNr.nodup (k := i) (by omega)
      rw [hey] at hat
      obtain ⟨s, rfl, _, ht⟩ := hat
      obtain ⟨u0, c0⟩ : ∃ u, wr.cell? ⟨b, o + i * 2, none⟩ = some u := ⟨_, hcell 0 _ rfl⟩
      have c1 : wr.cell? ⟨b, o + i * 2 + 1, none⟩ = some s := by have := hcell 1 _ rfl; rwa [← Nat.add_assoc] at this
      have f0 := (hNr.wri b hb).frozen (o + i * 2)
      have hbl := hNr.lt hb
      generalize ts[i] = a at *
      have hca : cntA a = 1 + 2 * a.args.length := rfl
      have HP := Lib.hid hput
      have HL := Lib.hid hle
      have HN := Lib.hid hNr
      have HSN := Lib.hid hsn
      clear hcell hput hT hcs hle hNr hey hsn
      obtain ⟨q, hq⟩ : ∃ q, q = k + sumL cntA (ts.take i) := ⟨_, rfl⟩
      rw [← hq] at HS ⊢
      have hq9 : q + 1 + 2 * a.args.length ≤ 1000000000 := by omega
      have hq1 : (q : Int) + 1 ≤ 1000000000 := by omega
      have HQ := Lib.hid hq
      have HC := Lib.hid hca
      clear hq hle2 hca
      go_wp2_with fail
      refine (markText_any q _ (by omega)).mono ?_
      rintro e w2 ⟨rfl, hb2⟩
      have g0 : w2.cell? ⟨b, o + i * 2, none⟩ = some u0 := cell_later hb2 c0
      have g1 : w2.cell? ⟨b, o + i * 2 + 1, none⟩ = some s := cell_later hb2 c1
      have f2 : w2.frozen? ⟨b, o + i * 2, none⟩ = false := (hb2.frozen (p := ⟨b, o + i * 2, none⟩) hbl).trans f0
      have g3 : (w2.setCell ⟨b, o + i * 2, none⟩ (.string (markText q))).cell? ⟨b, o + i * 2 + 1, none⟩ = some s := setCell_other g1 (by omega)
      have g4 : (w2.setCell ⟨b, o + i * 2, none⟩ (.string (markText q))).cell? ⟨b, o + i * 2, none⟩ = some (.string (markText q)) := World.cell?_setCell_same' _ _ _ (by rw [g0]; rfl)
      have hk2 : KeptBut bs wr (w2.setCell ⟨b, o + i * 2, none⟩ (.string (markText q))) := (KeptBut.of_below hb2).setCell hb _
      have hN2 := (HN.out.below hb2).set ⟨b, o + i * 2, none⟩ (.string (markText q))
      have ht2 : termsK (w2.setCell ⟨b, o + i * 2, none⟩ (.string (markText q))) [s] a.args bk := termsK_good.keep (termsK_good.below ht hb2) fun c hc => Below.heap_setCell _ _ _ _ fun e => hbk (by rw [← (show c = b from e)]; exact hc)
      have hmt := markTermS_any a.args s bk (q + 1) B _ ht2 (hN2.sub hnd hsub) hq9
      have hrest : ∀ p v, wr.cell? ⟨b, o + p, none⟩ = some v → (p < i * 2 ∨ i * 2 + 2 ≤ p) → (w2.setCell ⟨b, o + i * 2, none⟩ (.string (markText q))).cell? ⟨b, o + p, none⟩ = some v := fun p v hv hp => setCell_other (cell_later hb2 hv) (by omega)
      have hblk : ∀ c ∈ bs, c ≠ b → (w2.setCell ⟨b, o + i * 2, none⟩ (.string (markText q))).heap[c]? = wr.heap[c]? := fun c hc hne => by rw [Below.heap_setCell _ _ _ _ hne, hb2.block c (HN.out.lt hc)]
      have HR := Lib.hid hrest
      have HB := Lib.hid hblk
      obtain ⟨Ae, ce, rfl, _⟩ := sliceK_form ht
      clear hrest hblk ht ht2 c0 c1 f0
      go_wp2_with fail
      generalize hw3 : w2.setCell ⟨b, o + i * 2, none⟩ (.string (markText q)) = w3 at *
      clear hw3
      refine hmt.mono ?_
      rintro e w4 ⟨rfl, hR4, hN4, hK4⟩
      have R := HP.out w4 [.string (markText q), .slice Ae a.args.length ce] (mkA a q) rfl
        (fun j v hv => by
          match j, hv with
          | 0, hv =>
            simp only [List.getElem?_cons_zero, Option.some.injEq] at hv
            subst hv
            rw [Nat.add_zero]
            exact hK4.cell hbk g4
          | 1, hv =>
            simp only [List.getElem?_cons_succ, List.getElem?_cons_zero, Option.some.injEq] at hv
            subst hv
            rw [← Nat.add_assoc]
            exact hK4.cell hbk g3
          | j + 2, hv => simp at hv)
        (fun p v hv hp => hK4.cell hbk (HR.out p v hv hp))
        (fun c hc hne hnb => by rw [hK4.block c (hN2.lt hc) hnb, HB.out c hc hne])
        ⟨_, rfl, markText_size (k := q) (by omega), hR4⟩
      rw [HY.out, HS.out] at R
      have hN5 : New B w4 bs := hN2.mix hN4 hK4
      have hK5 : KeptBut bs w w4 := hK.trans (hk2.trans (hK4.mono hsub))
      clear HP HN HR HB hmt g0 g1 f2 g3 g4 hK4 hN4 hN2 hk2 hR4 HY HS
      go_wp2_with fail
      go_roundw
      case rel => exact ⟨i + 1, _, HLT.out, by go_num, by have := HQ.out; have := HSN.out; have := HC.out; go_num, rfl, R, hN5, hK5⟩
      case measure => have := HLT.out; simp [intOf]; omega
    · have he : i = ts.length := by omega
      subst he
      have HY : Hid (ys = markAs ts k) := Lib.hid (by rw [hy, markTo_all]; rfl)
      have HT : Hid (ts.take ts.length = ts) := Lib.hid (List.take_of_length_le (Nat.le_refl _))
      clear hy
      go_wp2
      go_ret
      exact ⟨by rw [HT.out]; rfl, by rw [← HY.out]; exact hT, hNr, hK⟩

set_option maxHeartbeats 1000000 in
theorem heldAtomS_any (ts : List A) (v : Value) (bs : List Nat) (k : Nat) (w : World) (h : atomsK w [v] (markAs ts k) bs) (hk : k + sumL cntA ts ≤ 1000000000) :
    Calls Try.prog 33 #[v, .int .i64 k] w (Held (k + sumL cntA ts) w) := by
  obtain ⟨Ad, cap, rfl, hl, hm⟩ := sliceK_form h
  have hzl := markAs_length ts k
  rw [hzl] at h hl ⊢
  have hlen : ts.length ≤ 1000000000 := Nat.le_trans (len_cnt cntA cntA_pos ts) (by omega)
  clear hm hl
  go_enter Try.func33, Try.ntmps33
  go_wp2
  go_loopw [1, 5] (fun q j wr => ∃ i : Nat, i ≤ ts.length ∧ j = .int .i64 i ∧ q = .int .i64 (k + sumL cntA (ts.take i) : Nat) ∧ Below w.heap.size w wr) (fun _ j _ => ts.length - (intOf j).toNat)
  case atStart => exact ⟨0, Nat.zero_le _, rfl, rfl, Below.refl _ _⟩
  case round =>
    obtain ⟨i, hi, rfl, rfl, hb⟩ := hrel
    by_cases hlt : i < ts.length
    · have HLT := Lib.hid hlt
      obtain ⟨b, o, Ae, ce, bk, rfl, _, c0, c1, hel, _⟩ := atoms_el (atomsK_good.below h hb) (k := i) (by rw [hzl]; exact hlt)
      rw [markAs_at hlt] at c0 c1 hel
      have hsn := sumL_snoc cntA ts i hlt
      have hle2 := sumL_le_of_lt cntA ts i hlt
      clear h hzl
      have hlt' : (i : Int) < (ts.length : Int) := by omega
      have hk0 : (0 : Int) ≤ (i : Int) := by omega
      generalize ts[i] = a at *
      obtain ⟨q, hq⟩ : ∃ q, q = k + sumL cntA (ts.take i) := ⟨_, rfl⟩
      rw [← hq] at c0 c1 hel ⊢
      have hca : cntA a = 1 + 2 * a.args.length := rfl
      have hq1 : q + 1 + 2 * a.args.length ≤ 1000000000 := by omega
      have d0 : (0 : Int) ≤ (q : Int) + 1 := by omega
      have d1 : (0 : Int) ≤ (q : Int) + 1 + 2 * (a.args.length : Int) := by omega
      have HQ := Lib.hid hq
      have HSN := Lib.hid hsn
      have HC := Lib.hid hca
      have ht := atom_args hel
      dsimp only [mkA] at c0 c1 ht
      rw [markTs_length] at c1 ht
      clear hq hsn hle2 hca hel
      have hD : Below wr.heap.size wr wr.drew := Below.drew (Below.refl _ _)
      go_wp2
      go_region_held3 (fun w' => w'.cell? ⟨b, o + i * 2, none⟩ = some (.string (markText q))) (first | go_keep | exact cell_later hw2 c0)
        (first | (go_at_call 52; refine (markText_any q _ (by omega)).mono ?_; rintro e w2 ⟨rfl, hw2⟩))
      have hB2 := hD.trans hw2
      have B2 := hb.trans (hB2.mono hb.size)
      have e1 := cell_later hB2 c1
      have hh := heldTermS_any a.args _ bk (q + 1) w2 (termsK_good.below ht hB2) hq1
      clear ht c0 c1
      go_wp2_with fail
      refine hh.mono ?_
      rintro e w4 ⟨rfl, hb4⟩
      clear hh
      have B4 := B2.trans (hb4.mono B2.size)
      go_wp2_with fail
      go_roundw
      case rel => exact ⟨i + 1, HLT.out, by go_num, by have := HQ.out; have := HSN.out; have := HC.out; go_num, B4⟩
      case measure => have := HLT.out; simp [intOf]; omega
    · have he : i = ts.length := by omega
      subst he
      have HT : Hid (ts.take ts.length = ts) := Lib.hid (List.take_of_length_le (Nat.le_refl _))
      go_wp2
      go_ret
      exact ⟨by rw [HT.out]; rfl, hb⟩

end Go.Proofs.Ytlmimajgifidhaa
