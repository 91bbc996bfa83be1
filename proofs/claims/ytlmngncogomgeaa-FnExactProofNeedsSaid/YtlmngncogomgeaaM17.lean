/- Of the proof of FnExactProofNeeds: MarkPf, EqAs. -/
import Derived.Test.YtlmngncogomgeaaM12
namespace Go.Proofs.Ytlmngncogomgeaa
open Go.RowKit D
set_option linter.unusedVariables false
attribute [local go_sem ↓] Go.wp_at_zero Go.wp_at_succ
/-- How many marks, at most, and two. -/
def D.cnM (p : Pf) : Nat := 2 + 2 * bulkPf p

theorem D.cnM_pos (p : Pf) : 1 ≤ cnM p := by unfold cnM; omega

theorem D.cnM_sum (ks : List Pf) : sumL cnM ks = 2 * ks.length + 2 * sumL bulkPf ks := by
  unfold sumL
  induction ks with
  | nil => rfl
  | cons k ks ih =>
    simp only [List.map_cons, List.sum_cons, List.length_cons] at *
    have : cnM k = 2 + 2 * bulkPf k := rfl
    omega

theorem D.cnM_kids (p : Pf) : 2 + 2 * p.fact.args.length + sumL cnM p.kids ≤ cnM p := by
  have h := bulkPf_eq p
  have h2 := cnM_sum p.kids
  have h3 : cnM p = 2 + 2 * bulkPf p := rfl
  unfold bulkA at h
  omega

def D.MkdS (n : Nat) (v : Value) (len : Nat) (bs : List Nat) (most B : Nat) (w : World) (e : Ending) (w' : World) : Prop :=
  ∃ (q : Nat) (ys : List Pf), e = .returned (.int .i64 q) ∧ q ≤ most ∧ ys.length = len ∧ proofsK n w' [v] ys bs ∧ New B w' bs ∧ KeptBut bs w w'

def D.PfMark (n : Nat) : Prop := ∀ (ts : List Pf) (v : Value) (bs : List Nat) (k B : Nat) (w : World), proofsK n w [v] ts bs → New B w bs → k + sumL cnM ts ≤ 1000000000000 →
  Calls Try.prog 29 #[v, .int .i64 k] w (MkdS n v ts.length bs (k + sumL cnM ts) B w)

set_option maxRecDepth 100000 in
set_option maxHeartbeats 4000000 in
theorem markProofS_of (n : Nat) (ih : ∀ m, n = m + 1 → PfMark m) : PfMark n := by
  intro ts v bs k B w h hN hk
  obtain ⟨Ad, cap, rfl, hl, hm⟩ := sliceK_form h
  have hlen : ts.length ≤ 1000000000000 := Nat.le_trans (len_cnt cnM cnM_pos ts) (by omega)
  clear hm
  have HIH := Lib.hid ih
  clear ih
  go_enter Try.func29, Try.ntmps29
  go_wp2
  go_loopw [1, 5] (fun q j wr => ∃ (i : Nat) (ys : List Pf) (r : Nat), i ≤ ts.length ∧ j = .int .i64 i ∧ q = .int .i64 r ∧ r ≤ k + sumL cnM (ts.take i) ∧ Hid (ys.length = ts.length ∧ ∀ m, i ≤ m → ys[m]? = ts[m]?) ∧ proofsK n wr [.slice Ad ts.length cap] ys bs ∧ New B wr bs ∧ KeptBut bs w wr) (fun _ j _ => ts.length - (intOf j).toNat)
  case atStart => exact ⟨0, ts, k, Nat.zero_le _, rfl, rfl, Nat.le_add_right _ _, Lib.hid ⟨rfl, fun _ _ => rfl⟩, h, hN, KeptBut.refl _ _⟩
  case round =>
    obtain ⟨i, ys, q, hi, rfl, rfl, hq, HY, hT, hNr, hK⟩ := hrel
    clear h hN
    by_cases hlt : i < ts.length
    · have HLT := Lib.hid hlt
      have hle : ys.length = ts.length := HY.out.1
      have hey : ys[i]'(by omega) = ts[i] := by
        have h1 := HY.out.2 i (Nat.le_refl _)
        rw [List.getElem?_eq_getElem (by omega), List.getElem?_eq_getElem hlt] at h1
        exact Option.some.inj h1
      have hsn := sumL_snoc cnM ts i hlt
      have hle2 := sumL_le_of_lt cnM ts i hlt
      obtain ⟨b, o, cs, bk, rfl, hb, hbk, hnd, hsub, hcs, hcell, hat, hput⟩ := sliceK_open (proofK_good n) hT hNr.nodup (k := i) (by omega)
      rw [hey] at hat
      cases n with
      | zero => exact hat.elim
      | succ n =>
      have IH := Lib.hid (HIH.out n rfl)
      clear HIH
      obtain ⟨s1, s3, b1, b2, rfl, hns, hru, rfl, ht, hp⟩ := hat
      obtain ⟨u0, c0⟩ : ∃ u, wr.cell? ⟨b, o + i * 4, none⟩ = some u := ⟨_, hcell 0 _ rfl⟩
      have c1 : wr.cell? ⟨b, o + i * 4 + 1, none⟩ = some s1 := by have := hcell 1 _ rfl; rwa [← Nat.add_assoc] at this
      have c2 : wr.cell? ⟨b, o + i * 4 + 2, none⟩ = some (.int .i64 ts[i].rule) := by have := hcell 2 _ rfl; rwa [← Nat.add_assoc] at this
      have c3 : wr.cell? ⟨b, o + i * 4 + 3, none⟩ = some s3 := by have := hcell 3 _ rfl; rwa [← Nat.add_assoc] at this
      have hWb := hNr.wri b hb
      have f0 := hWb.frozen (o + i * 4)
      have hbl := hNr.lt hb
      generalize ts[i] = a at *
      have hca := cnM_kids a
      have HP := Lib.hid hput
      have HN := Lib.hid hNr
      have HQ : Hid (q + cnM a ≤ k + sumL cnM (ts.take (i + 1))) := Lib.hid (by omega)
      have hq9 : q + 2 + 2 * a.fact.args.length + sumL cnM a.kids ≤ 1000000000000 := by omega
      have HC := Lib.hid hca
      clear hcell hput hT hcs hle hNr hey hsn hWb hq hle2 hca hns hru
      have hq1 : (q : Int) + 1 ≤ 1000000000000 := by omega
      have hq2 : q ≤ 1000000000000 := by omega
      have hb1 : b ∉ b1 := fun h => hbk (List.mem_append_left _ h)
      have hb2' : b ∉ b2 := fun h => hbk (List.mem_append_right _ h)
      have hs1 : ∀ c ∈ b1, c ∈ bs := fun c h => hsub c (List.mem_append_left _ h)
      have hs2 : ∀ c ∈ b2, c ∈ bs := fun c h => hsub c (List.mem_append_right _ h)
      have hnd1 := (List.nodup_append.1 hnd).1
      have hnd2 := (List.nodup_append.1 hnd).2.1
      have hpar := (List.nodup_append.1 hnd).2.2
      go_wp2_with fail
      refine (markText_any q _ (by omega)).mono ?_
      rintro e w2 ⟨rfl, hb2⟩
      have hN2 : New B w2 bs := HN.out.below hb2
      have g0 : w2.cell? ⟨b, o + i * 4, none⟩ = some u0 := cell_later hb2 c0
      have g1 : w2.cell? ⟨b, o + i * 4 + 1, none⟩ = some s1 := cell_later hb2 c1
      have g2 : w2.cell? ⟨b, o + i * 4 + 2, none⟩ = some (.int .i64 a.rule) := cell_later hb2 c2
      have g3 : w2.cell? ⟨b, o + i * 4 + 3, none⟩ = some s3 := cell_later hb2 c3
      have f2 : w2.frozen? ⟨b, o + i * 4, none⟩ = false := (hb2.frozen (p := ⟨b, o + i * 4, none⟩) hbl).trans f0
      obtain ⟨W3, hW3⟩ : ∃ W3, W3 = w2.setCell ⟨b, o + i * 4, none⟩ (.string (markText q)) := ⟨_, rfl⟩
      have hk2 : KeptBut bs wr W3 := by rw [hW3]; exact (KeptBut.of_below hb2).setCell hb _
      have hN3 : New B W3 bs := by rw [hW3]; exact hN2.set _ _
      have hrest : ∀ p v, wr.cell? ⟨b, o + p, none⟩ = some v → (p < i * 4 ∨ i * 4 + 4 ≤ p) → W3.cell? ⟨b, o + p, none⟩ = some v := fun p v hv hp => by rw [hW3]; exact setCell_other (cell_later hb2 hv) (by omega)
      have hblk : ∀ c ∈ bs, c ≠ b → W3.heap[c]? = wr.heap[c]? := fun c hc hne => by rw [hW3, Below.heap_setCell _ _ _ _ hne, hb2.block c (HN.out.lt hc)]
      have d0 : W3.cell? ⟨b, o + i * 4, none⟩ = some (.string (markText q)) := by rw [hW3]; exact World.cell?_setCell_same' _ _ _ (by rw [g0]; rfl)
      have d1 : W3.cell? ⟨b, o + i * 4 + 1, none⟩ = some s1 := by rw [hW3]; exact setCell_other g1 (by omega)
      have d2 : W3.cell? ⟨b, o + i * 4 + 2, none⟩ = some (.int .i64 a.rule) := by rw [hW3]; exact setCell_other g2 (by omega)
      have d3 : W3.cell? ⟨b, o + i * 4 + 3, none⟩ = some s3 := by rw [hW3]; exact setCell_other g3 (by omega)
      have ht3 : termsK W3 [s1] a.fact.args b1 := termsK_good.keep ht fun c hc => hblk c (hs1 c hc) fun e => hb1 (by rw [← e]; exact hc)
      have hp3 : proofsK n W3 [s3] a.kids b2 := (proofsK_good n).keep hp fun c hc => hblk c (hs2 c hc) fun e => hb2' (by rw [← e]; exact hc)
      obtain ⟨Ae, ce, rfl, _⟩ := sliceK_form ht
      obtain ⟨Af, cf, rfl, _⟩ := sliceK_form hp
      have HR := Lib.hid hrest
      have HB := Lib.hid hblk
      have HT3 := Lib.hid ht3
      have HP3 := Lib.hid hp3
      clear hrest hblk hN2 ht hp ht3 hp3 c0 c1 c2 c3 f0
      go_wp2_with fail
      rw [← hW3]
      clear hW3 g0 g1 g2 g3 f2
      refine (markTermS_any a.fact.args _ b1 (q + 1) B _ HT3.out (hN3.sub hnd1 hs1) (by omega)).mono ?_
      rintro e w4 ⟨he4, hR4, hN4, hK4⟩
      obtain ⟨q4, hq4⟩ : ∃ q4 : Nat, q4 = q + 1 + 2 * a.fact.args.length := ⟨_, rfl⟩
      rw [← hq4] at he4
      subst he4
      have j0 := hK4.cell (p := ⟨b, o + i * 4, none⟩) hb1 d0
      have j1 := hK4.cell (p := ⟨b, o + i * 4 + 1, none⟩) hb1 d1
      have j2 := hK4.cell (p := ⟨b, o + i * 4 + 2, none⟩) hb1 d2
      have j3 := hK4.cell (p := ⟨b, o + i * 4 + 3, none⟩) hb1 d3
      have hp4 : proofsK n w4 [.slice Af a.kids.length cf] a.kids b2 := (proofsK_good n).keep HP3.out fun c hc => hK4.block c (hN3.lt (hs2 c hc)) fun h => hpar c h c hc rfl
      have hN5 : New B w4 bs := hN3.mix hN4 hK4
      have f4 := (hN5.wri b hb).frozen (o + i * 4 + 2)
      have HK4 := Lib.hid hK4
      obtain ⟨W5, hW5⟩ : ∃ W5, W5 = w4.setCell ⟨b, o + i * 4 + 2, none⟩ (.int .i64 (q4 : Int)) := ⟨_, rfl⟩
      have hk5 : KeptBut bs w4 W5 := by rw [hW5]; exact (KeptBut.refl _ _).setCell hb _
      have hN6 : New B W5 bs := by rw [hW5]; exact hN5.set _ _
      have x0 : W5.cell? ⟨b, o + i * 4, none⟩ = some (.string (markText q)) := by rw [hW5]; exact setCell_other j0 (by omega)
      have x1 : W5.cell? ⟨b, o + i * 4 + 1, none⟩ = some (.slice Ae a.fact.args.length ce) := by rw [hW5]; exact setCell_other j1 (by omega)
      have x2 : W5.cell? ⟨b, o + i * 4 + 2, none⟩ = some (.int .i64 (q4 : Int)) := by rw [hW5]; exact World.cell?_setCell_same' _ _ _ (by rw [j2]; rfl)
      have x3 : W5.cell? ⟨b, o + i * 4 + 3, none⟩ = some (.slice Af a.kids.length cf) := by rw [hW5]; exact setCell_other j3 (by omega)
      have hR5 : termsK W5 [.slice Ae a.fact.args.length ce] (markTs a.fact.args (q + 1)) b1 := termsK_good.keep hR4 fun c hc => by rw [hW5]; exact Below.heap_setCell _ _ _ _ fun e => hb1 (by rw [← (show c = b from e)]; exact hc)
      have hp5 : proofsK n W5 [.slice Af a.kids.length cf] a.kids b2 := (proofsK_good n).keep hp4 fun c hc => by rw [hW5]; exact Below.heap_setCell _ _ _ _ fun e => hb2' (by rw [← (show c = b from e)]; exact hc)
      have HR2 : Hid (∀ p v, wr.cell? ⟨b, o + p, none⟩ = some v → (p < i * 4 ∨ i * 4 + 4 ≤ p) → W5.cell? ⟨b, o + p, none⟩ = some v) := Lib.hid fun p v hv hp => by rw [hW5]; exact setCell_other (HK4.out.cell hb1 (HR.out p v hv hp)) (by omega)
      have HB2 : Hid (∀ c ∈ bs, c ≠ b → c ∉ b1 → W5.heap[c]? = wr.heap[c]?) := Lib.hid fun c hc hne hn1 => by rw [hW5, Below.heap_setCell _ _ _ _ hne, HK4.out.block c (hN3.lt hc) hn1, HB.out c hc hne]
      have HR5 := Lib.hid hR5
      have HP5 := Lib.hid hp5
      have HK5 : Hid (KeptBut bs wr W5) := Lib.hid (hk2.trans ((HK4.out.mono hs1).trans hk5))
      have hq5 : (q4 : Int) + 1 ≤ 1000000000000 := by omega
      have hq6 : q4 + 1 + sumL cnM a.kids ≤ 1000000000000 := by omega
      have HQ4 := Lib.hid hq4
      have HQ6 := Lib.hid hq6
      clear hq4 hq6 hq9
      clear hK4 hR4 hN4 hp4 d0 d1 d2 d3 HR HB HK4 hk2 hk5 hR5 hp5 hN5 hN3 HT3 HP3 j0 j1
      go_wp2_with fail
      rw [← hW5]
      clear hW5 j2 j3 f4
      refine (IH.out a.kids _ b2 (q4 + 1) B _ HP5.out (hN6.sub hnd2 hs2) HQ6.out).mono ?_
      rintro e w6 ⟨q6, zs, rfl, hqz, hzl, hR6, hN7, hK6⟩
      have R := HP.out w6 [.string (markText q), .slice Ae a.fact.args.length ce, .int .i64 (q4 : Int), .slice Af a.kids.length cf] (.mk ⟨markText q, markTs a.fact.args (q + 1)⟩ q4 zs) rfl
        (fun j v hv => by
          match j, hv with
          | 0, hv =>
            simp only [List.getElem?_cons_zero, Option.some.injEq] at hv
            subst hv
            rw [Nat.add_zero]
            exact hK6.cell hb2' x0
          | 1, hv =>
            simp only [List.getElem?_cons_succ, List.getElem?_cons_zero, Option.some.injEq] at hv
            subst hv
            rw [← Nat.add_assoc]
            exact hK6.cell hb2' x1
          | 2, hv =>
            simp only [List.getElem?_cons_succ, List.getElem?_cons_zero, Option.some.injEq] at hv
            subst hv
            rw [← Nat.add_assoc]
            exact hK6.cell hb2' x2
          | 3, hv =>
            simp only [List.getElem?_cons_succ, List.getElem?_cons_zero, Option.some.injEq] at hv
            subst hv
            rw [← Nat.add_assoc]
            exact hK6.cell hb2' x3
          | j + 4, hv => simp at hv)
        (fun p v hv hp => hK6.cell hb2' (HR2.out p v hv hp))
        (fun c hc hne hnb => by rw [hK6.block c (hN6.lt hc) fun h => hnb (List.mem_append_right _ h), HB2.out c hc hne fun h => hnb (List.mem_append_left _ h)])
        ⟨_, _, b1, b2, rfl, markText_size (k := q) (by omega), ⟨by show (-9223372036854775808 : Int) ≤ (q4 : Int); omega, by show (q4 : Int) ≤ 9223372036854775807; omega⟩, rfl,
          termsK_good.keep HR5.out fun c hc => hK6.block c (hN6.lt (hs1 c hc)) fun h => hpar c hc c h rfl, hR6⟩
      have HR7 := Lib.hid R
      have HN8 : Hid (New B w6 bs) := Lib.hid (hN6.mix hN7 hK6)
      have HK7 : Hid (KeptBut bs w w6) := Lib.hid (hK.trans (HK5.out.trans (hK6.mono hs2)))
      have HQ7 : Hid (q6 ≤ k + sumL cnM (ts.take (i + 1))) := Lib.hid (by have := HQ.out; have := HC.out; have := HQ4.out; omega)
      have HY2 : Hid ((ys.set i (.mk ⟨markText q, markTs a.fact.args (q + 1)⟩ q4 zs)).length = ts.length ∧ ∀ m, i + 1 ≤ m → (ys.set i (.mk ⟨markText q, markTs a.fact.args (q + 1)⟩ q4 zs))[m]? = ts[m]?) := Lib.hid ⟨by rw [List.length_set]; exact HY.out.1, fun m hm => by rw [List.getElem?_set_ne (by omega)]; exact HY.out.2 m (by omega)⟩
      clear HP HN HR2 HB2 hK6 hN7 hN6 hR6 HR5 HP5 HK5 R HY hK x0 x1 x2 x3 IH hqz hzl HQ HC HQ4 HQ6
      go_wp2_with fail
      go_roundw
      case rel => exact ⟨i + 1, _, q6, HLT.out, by go_num, rfl, HQ7.out, HY2, HR7.out, HN8.out, HK7.out⟩
      case measure => have := HLT.out; simp [intOf]; omega
    · have he : i = ts.length := by omega
      subst he
      rw [List.take_of_length_le (Nat.le_refl _)] at hq
      have HQ := Lib.hid hq
      clear hq
      go_wp2
      go_ret
      exact ⟨q, ys, rfl, HQ.out, HY.out.1, hT, hNr, hK⟩

theorem markProofS_any (n : Nat) : PfMark n := by
  induction n with
  | zero => exact markProofS_of 0 fun m e => by omega
  | succ n ih => exact markProofS_of (n + 1) fun m e => by obtain rfl : n = m := by omega
                                                           exact ih

set_option maxRecDepth 100000 in
set_option maxHeartbeats 1000000 in
theorem markProof_any (n : Nat) (p : Pf) (c0 c1 c2 c3 : Value) (bs : List Nat) (k B : Nat) (w : World) (h : proofK n w [c0, c1, c2, c3] p bs) (hN : New B w bs) (hB : B ≤ w.heap.size) (hk : k + cnM p ≤ 1000000000000) :
    Calls Try.prog 10 #[.agg #[c0, c1, c2, c3], .int .i64 k] w fun e w' => ∃ q : Nat, e = .returned (.int .i64 q) ∧ q ≤ k + cnM p ∧ KeptBut bs w w' := by
  cases n with
  | zero => exact h.elim
  | succ n =>
  obtain ⟨Ad, cap, Ae, cape, b1, b2, rfl, rfl, rfl, rfl, rfl, hru, ht, hp⟩ := proof_parts h
  have hkk := cnM_kids p
  have hA0 : Below w.heap.size w (w.alloc (.cells #[.string p.fact.name, .slice Ad p.fact.args.length cap, .int .i64 p.rule, .slice Ae p.kids.length cape] 36)) := (Below.refl _ _).alloc (Nat.le_refl _) _
  have hlt := (proofK_good (n + 1)).lt h
  have hN0 := hN.below hA0
  have hm1 := markAtom_any p.fact _ _ b1 k B _ (atomK_good.below ht hA0) hN0.left (Nat.le_trans hB hA0.size) (by omega)
  have HP := Lib.hid ((proofsK_good n).below hp hA0)
  have HN := Lib.hid hN0
  have HL := Lib.hid hlt
  have HKK := Lib.hid hkk
  clear h ht hp hN hN0 hlt hru hkk
  go_enter Try.func10, Try.ntmps10
  go_wp2_with fail
  refine hm1.mono ?_
  rintro e w1 ⟨he1, hR1, hN1, hK1⟩
  obtain ⟨q1, hq1⟩ : ∃ q1 : Nat, q1 = k + 2 * p.fact.args.length := ⟨_, rfl⟩
  rw [← hq1] at he1
  subst he1
  have x1 : w1.cell? ⟨w.heap.size, 3, none⟩ = some (.slice Ae p.kids.length cape) := hK1.cell (by intro hb; have h1 : w.heap.size ∈ b1 := hb; have := HL.out _ (List.mem_append_left _ h1); omega) (by go_simp)
  have hP2 := Good.kept (proofsK_good n) HP.out hK1 HN.out.parted.2
  have hN2 := New.kept HN.out.right hK1 HN.out.parted.2
  have H1 := Lib.hid hK1
  clear hm1 hR1 hN1 hK1
  have hm3 := markProofS_any n p.kids _ b2 q1 B w1 hP2 hN2 (by have := HKK.out; omega)
  have HM3 := Lib.hid hm3
  have HQ1 := Lib.hid hq1
  clear hP2 hN2 hm3 hq1
  go_wp2_with fail
  refine HM3.out.mono ?_
  rintro e w2 ⟨q6, zs, rfl, hqz, hzl, hR6, hN7, hK6⟩
  have HZ : Hid (q6 ≤ k + cnM p ∧ KeptBut (b1 ++ b2) w w2) := Lib.hid ⟨by have := HKK.out; have := HQ1.out; omega, ((KeptBut.of_below hA0).trans (H1.out.mono fun b hb => List.mem_append_left _ hb)).trans (hK6.mono fun b hb => List.mem_append_right _ hb)⟩
  clear HM3 hqz hzl hR6 hN7 hK6 H1 HP HN
  go_wp2
  go_ret
  exact ⟨q6, rfl, HZ.out⟩

set_option maxHeartbeats 400000 in
theorem eqAtomS_same (ts : List A) (v1 v2 : Value) (b1 b2 : List Nat) (w : World) (h1 : atomsK w [v1] ts b1) (h2 : atomsK w [v2] ts b2) :
    Calls Try.prog 8 #[v1, v2] w (Yes w.heap.size w) := by
  obtain ⟨Ad, cap, rfl, hl, hm⟩ := sliceK_form h1
  obtain ⟨Ad2, cap2, rfl, hl2, hm2⟩ := sliceK_form h2
  have hlm := nat_ge_max (Nat.le_trans hl hm)
  clear hm hm2
  go_enter Try.func8, Try.ntmps8
  go_wp2
  go_loopw [5] (fun i wr => ∃ k : Nat, k ≤ ts.length ∧ i = .int .i64 k ∧ Below w.heap.size w wr) (fun i _ => ts.length - (intOf i).toNat)
  case atStart => exact ⟨0, Nat.zero_le _, rfl, Below.refl _ _⟩
  case round =>
    obtain ⟨k, hk, rfl, hb⟩ := hrel
    by_cases hlt : k < ts.length
    · obtain ⟨b, o, Ae, ce, bk, rfl, _, c0, c1, hel, _⟩ := atoms_el (atomsK_good.below h1 hb) hlt
      obtain ⟨b', o', Ae', ce', bk', rfl, _, d0, d1, hel', _⟩ := atoms_el (atomsK_good.below h2 hb) hlt
      clear h1 h2
      have H1 := Lib.hid (atomK_good.below hel (Below.drew (Below.refl _ _)))
      have H2 := Lib.hid (atomK_good.below hel' (Below.drew (Below.refl _ _)))
      have hlt' : (k : Int) < (ts.length : Int) := by omega
      have hk0 : (0 : Int) ≤ (k : Int) := by omega
      clear hel hel'
      go_wp2
      go_region_held3 (fun w' => w'.cell? ⟨b, o + k * 2, none⟩ = some (.string ts[k].name) ∧ w'.cell? ⟨b, o + k * 2 + 1, none⟩ = some (.slice Ae ts[k].args.length ce) ∧ w'.cell? ⟨b', o' + k * 2, none⟩ = some (.string ts[k].name) ∧ w'.cell? ⟨b', o' + k * 2 + 1, none⟩ = some (.slice Ae' ts[k].args.length ce')) (first | go_keep | exact ⟨cell_later hb' c0, cell_later hb' c1, cell_later hb' d0, cell_later hb' d1⟩)
        (first | (go_at_call 26; refine (eqAtom_same ts[k] _ _ _ _ bk bk' _ H1.out H2.out).mono ?_; rintro e w' ⟨rfl, hb'⟩))
      go_wp2
      go_roundw
      case rel => exact ⟨k + 1, by omega, by go_num, hb.trans ((Below.drew (Below.refl _ _)).trans (hb'.mono hb.size))⟩
      case measure => simp [intOf]; omega
    · have he : k = ts.length := by omega
      subst he
      go_wp2
      go_ret
      exact ⟨rfl, hb⟩

end Go.Proofs.Ytlmngncogomgeaa
