/- Of the proof of FnExactProofNeeds: HPrf. -/
import Derived.Test.YtlmngncogomgeaaM11
namespace Go.Proofs.Ytlmngncogomgeaa
open Go.RowKit D
set_option linter.unusedVariables false
attribute [local go_sem ↓] Go.wp_at_zero Go.wp_at_succ
theorem set4 {L : List Value} {k m : Nat} (hL : L.length = m * 4) (hk : k < m) (a b c d : Value) :
    (((((L.set (k * 4) a).set (k * 4 + 1) b).set (k * 4 + 2) c).set (k * 4 + 3) d).take (k * 4) = L.take (k * 4)) ∧ (((((L.set (k * 4) a).set (k * 4 + 1) b).set (k * 4 + 2) c).set (k * 4 + 3) d).drop (k * 4)).take 4 = [a, b, c, d] := by
  constructor
  · rw [List.take_set_of_le (by omega), List.take_set_of_le (by omega), List.take_set_of_le (by omega), List.take_set_of_le (by omega)]
  · refine List.ext_getElem? fun j => ?_
    rcases j with _ | _ | _ | _ | j
    · simp [List.getElem?_set, List.getElem?_drop]; omega
    · simp [List.getElem?_set, List.getElem?_drop]; omega
    · simp [List.getElem?_set, List.getElem?_drop]; omega
    · simp [List.getElem?_set, List.getElem?_drop]; omega
    · simp; omega

theorem own_store4 {w : World} {base e n g cap k : Nat} {L : List Value} (h : w.ownsRow base e 4 (.slice (some ⟨g, 0, none⟩) n cap) n L) (a b c d : Value) :
    ((((w.setCell ⟨g, k * 4, none⟩ a).setCell ⟨g, k * 4 + 1, none⟩ b).setCell ⟨g, k * 4 + 2, none⟩ c).setCell ⟨g, k * 4 + 3, none⟩ d).ownsRow base e 4 (.slice (some ⟨g, 0, none⟩) n cap) n ((((L.set (k * 4) a).set (k * 4 + 1) b).set (k * 4 + 2) c).set (k * 4 + 3) d) :=
  ((((h.stored _ _).1.stored _ _).1.stored _ _).1.stored _ _).1

theorem fill4 {α : Type} {R : Rel α} (gR : D.Good R) {w0 wr w1 : World} {base B e g cap C k : Nat} {L : List Value} {xs : List α} {bs b2 : List Nat} {a b c d : Value}
    (how : wr.ownsRow base e 4 (.slice (some ⟨g, 0, none⟩) xs.length cap) xs.length L) (hF : Filled 4 R C wr L xs k bs) (hk : k < xs.length)
    (hb0 : Below B w0 wr) (hb : Below wr.heap.size wr w1) (hgC : g < C) (hBg : B ≤ g) (hC : C ≤ wr.heap.size) (hR : R w1 [a, b, c, d] xs[k] b2) (hN : New wr.heap.size w1 b2) :
    ((((w1.setCell ⟨g, k * 4, none⟩ a).setCell ⟨g, k * 4 + 1, none⟩ b).setCell ⟨g, k * 4 + 2, none⟩ c).setCell ⟨g, k * 4 + 3, none⟩ d).ownsRow base e 4 (.slice (some ⟨g, 0, none⟩) xs.length cap) xs.length ((((L.set (k * 4) a).set (k * 4 + 1) b).set (k * 4 + 2) c).set (k * 4 + 3) d) ∧
    Filled 4 R C ((((w1.setCell ⟨g, k * 4, none⟩ a).setCell ⟨g, k * 4 + 1, none⟩ b).setCell ⟨g, k * 4 + 2, none⟩ c).setCell ⟨g, k * 4 + 3, none⟩ d) ((((L.set (k * 4) a).set (k * 4 + 1) b).set (k * 4 + 2) c).set (k * 4 + 3) d) xs (k + 1) (bs ++ b2) ∧
    Below B w0 ((((w1.setCell ⟨g, k * 4, none⟩ a).setCell ⟨g, k * 4 + 1, none⟩ b).setCell ⟨g, k * 4 + 2, none⟩ c).setCell ⟨g, k * 4 + 3, none⟩ d) ∧ C ≤ ((((w1.setCell ⟨g, k * 4, none⟩ a).setCell ⟨g, k * 4 + 1, none⟩ b).setCell ⟨g, k * 4 + 2, none⟩ c).setCell ⟨g, k * 4 + 3, none⟩ d).heap.size := by
  have hlt : ∀ c ∈ bs, c < wr.heap.size := fun c hc => hF.new.lt hc
  have hgs : ∀ c ∈ bs, c ≠ g := fun c hc e => by have := (hF.new.own c hc).1; omega
  have hg2 : ∀ c ∈ b2, c ≠ g := fun c hc e => by have := (hN.own c hc).1; omega
  have hs := set4 how.1 hk a b c d
  refine ⟨own_store4 (own_below how hb) a b c d, ?_, ?_, ?_⟩
  · refine Filled.step (hF.keep gR fun c hc => ?_) hs.1 hs.2 hk (gR.keep hR fun c hc => ?_) ⟨wr.heap.size, hC, hN.keep fun c hc => ?_, hlt⟩
    · rw [Below.heap_setCell _ _ _ _ (hgs c hc), Below.heap_setCell _ _ _ _ (hgs c hc), Below.heap_setCell _ _ _ _ (hgs c hc), Below.heap_setCell _ _ _ _ (hgs c hc), hb.block c (hlt c hc)]
    · rw [Below.heap_setCell _ _ _ _ (hg2 c hc), Below.heap_setCell _ _ _ _ (hg2 c hc), Below.heap_setCell _ _ _ _ (hg2 c hc), Below.heap_setCell _ _ _ _ (hg2 c hc)]
    · rw [Below.heap_setCell _ _ _ _ (hg2 c hc), Below.heap_setCell _ _ _ _ (hg2 c hc), Below.heap_setCell _ _ _ _ (hg2 c hc), Below.heap_setCell _ _ _ _ (hg2 c hc)]
  · exact ((((hb0.trans (hb.mono (by omega))).setCell hBg _).setCell hBg _).setCell hBg _).setCell hBg _
  · have := hb.size; simp; omega

theorem D.proof_cells {n : Nat} {w : World} {cs : Array Value} {p : Pf} {bs : List Nat} (h : proofK n w cs.toList p bs) : ∃ Ad cap Ae cape, cs = #[.string p.fact.name, .slice Ad p.fact.args.length cap, .int .i64 p.rule, .slice Ae p.kids.length cape] := by
  cases n with
  | zero => exact h.elim
  | succ n =>
    obtain ⟨s, b, _, _, hcs, _, _, _, ht, hp⟩ := h
    obtain ⟨Ad, cap, rfl, _⟩ := sliceK_form ht
    obtain ⟨Ae, cape, rfl, _⟩ := sliceK_form hp
    exact ⟨Ad, cap, Ae, cape, Array.toList_inj.1 hcs⟩

theorem D.proof_wf {n : Nat} {w : World} {cs : List Value} {p : Pf} {bs : List Nat} (h : proofK n w cs p bs) : (-9223372036854775808 ≤ p.rule ∧ p.rule ≤ 9223372036854775807) ∧ p.fact.name.size ≤ maxLen := by
  cases n with
  | zero => exact h.elim
  | succ n =>
    obtain ⟨_, _, _, _, _, hn, hw, _⟩ := h
    exact ⟨hw, hn⟩

theorem infoProof : (Try.prog.info? 36).map (fun i => (i.zero, i.size, i.bytes)) = some (some (.agg #[.string ⟨#[]⟩, .slice none 0 0, .int .i64 0, .slice none 0 0]), 4, 72) := by kernel_rfl

set_option maxHeartbeats 400000 in
theorem szProofS_of (n : Nat) (ih : ∀ (p : Pf) (c0 c1 c2 c3 : Value) (bs : List Nat) (left : Int) (w : World) (h : proofK n w [c0, c1, c2, c3] p bs) (h0 : 0 ≤ left) (h1 : left ≤ 1048576), Calls Try.prog 4 #[.agg #[c0, c1, c2, c3], .int .i64 left] w (Left left (bulkPf p) w.heap.size w)) (ts : List Pf) (v : Value) (bs : List Nat) (left : Int) (w : World) (h : proofsK n w [v] ts bs) (h0 : 0 ≤ left) (h1 : left ≤ 1048576) :
    Calls Try.prog 14 #[v, .int .i64 left] w (Left left ((ts.length + sumL bulkPf ts : Nat)) w.heap.size w) := by
  obtain ⟨Ad, cap, rfl, hl, hm⟩ := sliceK_form h
  have hlm := nat_ge_max (Nat.le_trans hl hm)
  have IH := Lib.hid ih
  clear hm ih
  go_enter Try.func14, Try.ntmps14
  go_wp2
  · go_ret
    exact ⟨Below.refl _ _, _, rfl, .inl rfl⟩
  · go_loopw [1, 5] (fun l i wr => ∃ (k : Nat) (m : Int), k ≤ ts.length ∧ i = .int .i64 k ∧ l = .int .i64 m ∧ 0 ≤ m ∧ m ≤ 1048576 ∧ m + ts.length + sumL bulkPf (ts.take k) = left ∧ Below w.heap.size w wr) (fun _ i _ => ts.length - (intOf i).toNat)
    case atStart => exact ⟨0, _, Nat.zero_le _, rfl, rfl, by assumption, by omega, by simp [sumL], Below.refl _ _⟩
    case round =>
      obtain ⟨k, m, hk, rfl, rfl, hm0, hm1, hsum, hb⟩ := hrel
      have HS := Lib.hid hsum
      clear hsum
      by_cases hlt : k < ts.length
      · have hw := (proofsK_good n).below h hb
        obtain ⟨b, o, Ae, ce, Af, cf, bk, rfl, _, c0, c1, c2, c3, hel, _⟩ := proofs_el hw hlt
        have HT := Lib.hid (sumL_snoc bulkPf ts k hlt)
        clear h hw
        generalize ts[k] = t at *
        go_wp2_with fail
        refine (IH.out t _ _ _ _ bk m _ hel hm0 hm1).mono ?_
        rintro e w' ⟨hb', r, rfl, hr⟩
        clear hel
        go_wp2
        · rcases hr with rfl | ⟨_, _⟩
          · go_ret
            exact ⟨hb.trans (hb'.mono hb.size), _, rfl, .inl rfl⟩
          · exfalso; omega
        · rcases hr with rfl | ⟨hr0, hr1⟩
          · exfalso; omega
          · have := HS.out
            have := HT.out
            go_roundw
            case rel => exact ⟨k + 1, r, by omega, by go_num, rfl, hr0, by omega, by omega, hb.trans (hb'.mono hb.size)⟩
            case measure => simp [intOf]; omega
      · have he : k = ts.length := by omega
        go_wp2
        go_ret
        refine ⟨hb, _, rfl, .inr ⟨hm0, ?_⟩⟩
        have := HS.out
        rw [he, List.take_of_length_le (Nat.le_refl _)] at this
        omega

set_option maxHeartbeats 400000 in
theorem szProof_any : ∀ (n : Nat) (p : Pf) (c0 c1 c2 c3 : Value) (bs : List Nat) (left : Int) (w : World) (h : proofK n w [c0, c1, c2, c3] p bs) (h0 : 0 ≤ left) (h1 : left ≤ 1048576),
    Calls Try.prog 4 #[.agg #[c0, c1, c2, c3], .int .i64 left] w (Left left (bulkPf p) w.heap.size w) := by
  intro n
  induction n with
  | zero => exact fun p c0 c1 c2 c3 bs left w h _ _ => h.elim
  | succ n ih =>
    intro p c0 c1 c2 c3 bs left w h h0 h1
    obtain ⟨Ad, cap, Ae, cape, b1, b2, rfl, rfl, rfl, rfl, rfl, _, hp, hq⟩ := proof_parts h
    have q1 := fun w' (hb : Below w.heap.size w w') => szAtom_any p.fact _ _ b1 left w' (atomK_good.below hp hb) h0 h1
    have q2 := fun l (g0 : 0 ≤ l) (g1 : l ≤ 1048576) w' (hb : Below w.heap.size w w') => szProofS_of n ih p.kids _ b2 l w' ((proofsK_good n).below hq hb) g0 g1
    have HB := Lib.hid (bulkPf_eq p)
    clear h hp hq ih
    have hA := (Below.refl w.heap.size w).alloc (Nat.le_refl _) (.cells #[.string p.fact.name, .slice Ad p.fact.args.length cap, .int .i64 p.rule, .slice Ae p.kids.length cape] 27)
    go_enter Try.func4, Try.ntmps4
    go_wp2_with fail
    refine (q1 _ hA).mono ?_
    rintro e w1 ⟨hb1, z, rfl, hr⟩
    have B1 := hA.trans (hb1.mono hA.size)
    have x0 : w1.cell? ⟨w.heap.size, 0, none⟩ = some (.string p.fact.name) := cell_later hb1 (by go_simp)
    have x1 : w1.cell? ⟨w.heap.size, 1, none⟩ = some (.slice Ad p.fact.args.length cap) := cell_later hb1 (by go_simp)
    have x2 : w1.cell? ⟨w.heap.size, 2, none⟩ = some (.int .i64 p.rule) := cell_later hb1 (by go_simp)
    have x3 : w1.cell? ⟨w.heap.size, 3, none⟩ = some (.slice Ae p.kids.length cape) := cell_later hb1 (by go_simp)
    clear q1 hA
    rcases hr with rfl | ⟨hr0, hr1⟩
    · go_wp2
      go_ret
      exact ⟨B1, _, rfl, .inl rfl⟩
    · go_wp2_with fail
      refine (q2 z hr0 (by omega) _ B1).mono ?_
      rintro e w2 ⟨hb2, z2, rfl, hr2⟩
      have B2 := B1.trans (hb2.mono B1.size)
      rcases hr2 with rfl | ⟨hr3, hr4⟩
      · go_wp2
        go_ret
        exact ⟨B2, _, rfl, .inl rfl⟩
      · go_wp2
        go_ret
        exact ⟨B2, _, rfl, .inr ⟨hr3, by rw [HB.out]; omega⟩⟩

set_option maxHeartbeats 800000 in
theorem toProofS_of (n : Nat) (ih : ∀ (p : Pf) (c0 c1 c2 c3 : Value) (bs : List Nat) (w : World) (h : proofK n w [c0, c1, c2, c3] p bs) (hn : bulkPf p ≤ 1048576), Calls Try.prog 6 #[.agg #[c0, c1, c2, c3]] w (MakesA (proofK n) p w.heap.size w)) (ts : List Pf) (v : Value) (bs : List Nat) (w : World) (h : proofsK n w [v] ts bs) (hn : ts.length + sumL bulkPf ts ≤ 1048576) :
    Calls Try.prog 18 #[v] w (Makes (proofsK n) ts w.heap.size w) := by
  obtain ⟨Ad, cap, rfl, hl, hm⟩ := sliceK_form h
  obtain ⟨i0, hi, hz0, hz1, hz2⟩ := info_parts infoProof
  have IH := Lib.hid ih
  clear hm ih
  go_enter Try.func18, Try.ntmps18
  go_wp2_with (refine wpList_make_full _ rfl _ _ _ rfl w.heap.size 36 i0 _ 4 Try.underlying34 hi hz0 hz1 _ _ _ _ ts.length rfl rfl rfl rfl (by rw [hz2]; omega) (by unfold maxLen; omega) (Nat.le_refl _) ?_; intro w1 hown hgrow)
  have hb1 : Below w.heap.size w w1 := (Below.refl _ _).grown hgrow (Nat.le_refl _) (fun _ e => by cases e)
  have hg1 : w.heap.size < w1.heap.size := (hown.lt _ rfl).2
  clear hgrow
  go_loopw [4] (fun i wr => ∃ (k : Nat) (L : List Value) (bs' : List Nat), k ≤ ts.length ∧ i = .int .i64 k ∧ wr.ownsRow w.heap.size 36 4 (.slice (some ⟨w.heap.size, 0, none⟩) ts.length ts.length) ts.length L ∧
      Filled 4 (proofK n) w1.heap.size wr L ts k bs' ∧ Below w.heap.size w wr ∧ w1.heap.size ≤ wr.heap.size) (fun i _ => ts.length - (intOf i).toNat)
  case atStart => exact ⟨0, _, _, Nat.zero_le _, rfl, hown, Filled.start, hb1, Nat.le_refl _⟩
  case round =>
    obtain ⟨k, L, bs', hk, rfl, how, hF, hb, hsz⟩ := hrel
    clear hown hb1
    by_cases hlt : k < ts.length
    · have hw := (proofsK_good n).below h hb
      obtain ⟨b, o, Ae, ce, Af, cf, bk, rfl, _, c0, c1, c2, c3, hel, _⟩ := proofs_el hw hlt
      have hle : bulkPf ts[k] ≤ 1048576 := by have := sumL_at bulkPf ts k hlt; omega
      have HK := Lib.hid hF
      clear h hw hF
      have hL := Lib.hid how.1
      go_wp2_with fail
      refine (IH.out ts[k] _ _ _ _ bk _ hel hle).mono ?_
      rintro e w' ⟨hb', cs', b2, rfl, hR, hN⟩
      obtain ⟨Ae', ce', Af', cf', rfl⟩ := proof_cells hR
      have how' := own_below how hb'
      obtain ⟨⟨u0, hu0⟩, hf0⟩ := own_slot how' (j := k * 4) (by omega)
      obtain ⟨⟨u1, hu1⟩, hf1⟩ := own_slot how' (j := k * 4 + 1) (by omega)
      obtain ⟨⟨u2, hu2⟩, hf2⟩ := own_slot how' (j := k * 4 + 2) (by omega)
      obtain ⟨⟨u3, hu3⟩, hf3⟩ := own_slot how' (j := k * 4 + 3) (by omega)
      obtain ⟨R1, R2, R3, R4⟩ := fill4 (proofK_good n) how HK.out hlt hb hb' hg1 (Nat.le_refl _) hsz hR hN
      clear how' hel hR hN
      go_wp2
      go_roundw
      case rel => exact ⟨k + 1, _, _, by omega, by go_num, R1, R2, R3, R4⟩
      case measure => simp [intOf]; omega
    · have he : k = ts.length := by omega
      subst he
      have HF := Lib.hid hF
      clear hF
      go_wp2
      go_ret
      obtain ⟨b2, r1, r2, r3, r4⟩ := HF.out.slice how (fun hm => by have := (HF.out.new.own _ hm).1; omega)
      refine ⟨hb, _, b2, rfl, r1, r2, fun b hb' => ⟨?_, r4 b hb'⟩⟩
      rcases r3 b hb' with ⟨rfl, h⟩ | h
      · exact h
      · have := (HF.out.new.own b h).1; omega

set_option maxHeartbeats 1000000 in
theorem toProof_b : ∀ (n : Nat) (p : Pf) (c0 c1 c2 c3 : Value) (bs : List Nat) (w : World) (h : proofK n w [c0, c1, c2, c3] p bs) (hn : bulkPf p ≤ 1048576),
    Calls Try.prog 6 #[.agg #[c0, c1, c2, c3]] w (MakesA (proofK n) p w.heap.size w) := by
  intro n
  induction n with
  | zero => exact fun p c0 c1 c2 c3 bs w h _ => h.elim
  | succ n ih =>
    intro p c0 c1 c2 c3 bs w h hn
    have hwf := (proof_wf h).1
    have hnm := (proof_wf h).2
    obtain ⟨Ad, cap, Ae, cape, b1, b2, rfl, rfl, rfl, rfl, rfl, _, hp, hq⟩ := proof_parts h
    have hbk : bulkA p.fact + (p.kids.length + sumL bulkPf p.kids) ≤ 1048576 := by rw [← bulkPf_eq]; exact hn
    have q1 := fun w' (hb : Below w.heap.size w w') => toAtom_b p.fact _ _ b1 w' (atomK_good.below hp hb) (by omega)
    have q2 := fun w' (hb : Below w.heap.size w w') => toProofS_of n ih p.kids _ b2 w' ((proofsK_good n).below hq hb) (by omega)
    clear h hp hq ih hn
    have hA := (((Below.refl w.heap.size w).alloc (Nat.le_refl _) (.cells #[.string p.fact.name, .slice Ad p.fact.args.length cap, .int .i64 p.rule, .slice Ae p.kids.length cape] 27)).alloc (by simp) (.cells #[.string ⟨#[]⟩, .slice none 0 0, .int .i64 0, .slice none 0 0] 36)).alloc (by simp; omega) (.cells #[.string ⟨#[]⟩, .slice none 0 0, .int .i64 0, .slice none 0 0] 36)
    go_enter Try.func6, Try.ntmps6
    go_wp2_with fail
    refine (q1 _ hA).mono ?_
    rintro e w1 ⟨hb1, cs1, bs1, rfl, hR1, hN1⟩
    obtain ⟨Ad3, cap3, rfl⟩ := atom_cells hR1
    have B1 := hA.trans (hb1.mono hA.size)
    have x0 : w1.cell? ⟨w.heap.size, 0, none⟩ = some (.string p.fact.name) := cell_later hb1 (by go_simp)
    have x1 : w1.cell? ⟨w.heap.size, 1, none⟩ = some (.slice Ad p.fact.args.length cap) := cell_later hb1 (by go_simp)
    have x2 : w1.cell? ⟨w.heap.size, 2, none⟩ = some (.int .i64 p.rule) := cell_later hb1 (by go_simp)
    have x3 : w1.cell? ⟨w.heap.size, 3, none⟩ = some (.slice Ae p.kids.length cape) := cell_later hb1 (by go_simp)
    have k0 : w1.cell? ⟨w.heap.size + 1 + 1, 0, none⟩ = some (.string ⟨#[]⟩) := cell_later hb1 (by go_simp)
    have k1 : w1.cell? ⟨w.heap.size + 1 + 1, 1, none⟩ = some (.slice none 0 0) := cell_later hb1 (by go_simp)
    have k2 : w1.cell? ⟨w.heap.size + 1 + 1, 2, none⟩ = some (.int .i64 0) := cell_later hb1 (by go_simp)
    have k3 : w1.cell? ⟨w.heap.size + 1 + 1, 3, none⟩ = some (.slice none 0 0) := cell_later hb1 (by go_simp)
    have l0 : w1.cell? ⟨w.heap.size + 1, 0, none⟩ = some (.string ⟨#[]⟩) := cell_later hb1 (by go_simp)
    have l1 : w1.cell? ⟨w.heap.size + 1, 1, none⟩ = some (.slice none 0 0) := cell_later hb1 (by go_simp)
    have l2 : w1.cell? ⟨w.heap.size + 1, 2, none⟩ = some (.int .i64 0) := cell_later hb1 (by go_simp)
    have l3 : w1.cell? ⟨w.heap.size + 1, 3, none⟩ = some (.slice none 0 0) := cell_later hb1 (by go_simp)
    have f0 : w1.frozen? ⟨w.heap.size + 1 + 1, 0, none⟩ = false := (hb1.frozen (p := ⟨w.heap.size + 1 + 1, 0, none⟩) (by simp)).trans (by go_simp)
    have f1 : w1.frozen? ⟨w.heap.size + 1 + 1, 1, none⟩ = false := (hb1.frozen (p := ⟨w.heap.size + 1 + 1, 1, none⟩) (by simp)).trans (by go_simp)
    have f2 : w1.frozen? ⟨w.heap.size + 1 + 1, 2, none⟩ = false := (hb1.frozen (p := ⟨w.heap.size + 1 + 1, 2, none⟩) (by simp)).trans (by go_simp)
    have f3 : w1.frozen? ⟨w.heap.size + 1 + 1, 3, none⟩ = false := (hb1.frozen (p := ⟨w.heap.size + 1 + 1, 3, none⟩) (by simp)).trans (by go_simp)
    have g0 : w1.frozen? ⟨w.heap.size + 1, 0, none⟩ = false := (hb1.frozen (p := ⟨w.heap.size + 1, 0, none⟩) (by simp)).trans (by go_simp)
    have g1 : w1.frozen? ⟨w.heap.size + 1, 1, none⟩ = false := (hb1.frozen (p := ⟨w.heap.size + 1, 1, none⟩) (by simp)).trans (by go_simp)
    have g2 : w1.frozen? ⟨w.heap.size + 1, 2, none⟩ = false := (hb1.frozen (p := ⟨w.heap.size + 1, 2, none⟩) (by simp)).trans (by go_simp)
    have g3 : w1.frozen? ⟨w.heap.size + 1, 3, none⟩ = false := (hb1.frozen (p := ⟨w.heap.size + 1, 3, none⟩) (by simp)).trans (by go_simp)
    have hge1 : ∀ b ∈ bs1, w.heap.size + 1 + 1 < b := fun b hb => by have := (hN1.own b hb).1; simp at this; omega
    have hS1 : w.heap.size + 1 + 1 < w1.heap.size := lt_of_cell k0
    have hB1 : Below w.heap.size w (((w1.setCell ⟨w.heap.size + 1 + 1, 0, none⟩ (.string p.fact.name)).setCell ⟨w.heap.size + 1 + 1, 1, none⟩ (.slice Ad3 p.fact.args.length cap3)).setCell ⟨w.heap.size + 1 + 1, 2, none⟩ (.int .i64 p.rule)) := ((B1.setCell (by simp; omega) _).setCell (by simp; omega) _).setCell (by simp; omega) _
    clear hA q1
    go_wp2_with fail
    refine (q2 _ hB1).mono ?_
    rintro e w2 ⟨hb2, v2, bs2, rfl, hR2, hN2⟩
    obtain ⟨Ae3, cape3, rfl, _, _⟩ := sliceK_form hR2
    have B2 := hB1.trans (hb2.mono hB1.size)
    have k0' : w2.cell? ⟨w.heap.size + 1 + 1, 0, none⟩ = some (.string p.fact.name) := cell_later hb2 (by go_simp)
    have k1' : w2.cell? ⟨w.heap.size + 1 + 1, 1, none⟩ = some (.slice Ad3 p.fact.args.length cap3) := cell_later hb2 (by go_simp)
    have k2' : w2.cell? ⟨w.heap.size + 1 + 1, 2, none⟩ = some (.int .i64 p.rule) := cell_later hb2 (by go_simp)
    have k3' : w2.cell? ⟨w.heap.size + 1 + 1, 3, none⟩ = some (.slice none 0 0) := cell_later hb2 (by go_simp)
    have l0' : w2.cell? ⟨w.heap.size + 1, 0, none⟩ = some (.string ⟨#[]⟩) := cell_later hb2 (by go_simp)
    have l1' : w2.cell? ⟨w.heap.size + 1, 1, none⟩ = some (.slice none 0 0) := cell_later hb2 (by go_simp)
    have l2' : w2.cell? ⟨w.heap.size + 1, 2, none⟩ = some (.int .i64 0) := cell_later hb2 (by go_simp)
    have l3' : w2.cell? ⟨w.heap.size + 1, 3, none⟩ = some (.slice none 0 0) := cell_later hb2 (by go_simp)
    have f3' : w2.frozen? ⟨w.heap.size + 1 + 1, 3, none⟩ = false := (hb2.frozen (p := ⟨w.heap.size + 1 + 1, 3, none⟩) (by simp; omega)).trans (by go_simp)
    have g0' : w2.frozen? ⟨w.heap.size + 1, 0, none⟩ = false := (hb2.frozen (p := ⟨w.heap.size + 1, 0, none⟩) (by simp; omega)).trans (by go_simp)
    have g1' : w2.frozen? ⟨w.heap.size + 1, 1, none⟩ = false := (hb2.frozen (p := ⟨w.heap.size + 1, 1, none⟩) (by simp; omega)).trans (by go_simp)
    have g2' : w2.frozen? ⟨w.heap.size + 1, 2, none⟩ = false := (hb2.frozen (p := ⟨w.heap.size + 1, 2, none⟩) (by simp; omega)).trans (by go_simp)
    have g3' : w2.frozen? ⟨w.heap.size + 1, 3, none⟩ = false := (hb2.frozen (p := ⟨w.heap.size + 1, 3, none⟩) (by simp; omega)).trans (by go_simp)
    have hge2 : ∀ b ∈ bs2, w.heap.size + 1 + 1 < b := fun b hb => by have := (hN2.own b hb).1; simp at this; omega
    have hk1 : ∀ b ∈ bs1, (((w1.setCell ⟨w.heap.size + 1 + 1, 0, none⟩ (.string p.fact.name)).setCell ⟨w.heap.size + 1 + 1, 1, none⟩ (.slice Ad3 p.fact.args.length cap3)).setCell ⟨w.heap.size + 1 + 1, 2, none⟩ (.int .i64 p.rule)).heap[b]? = w1.heap[b]? := fun b hb => by
      have := hge1 b hb
      rw [Below.heap_setCell _ _ _ _ (by simp; omega), Below.heap_setCell _ _ _ _ (by simp; omega), Below.heap_setCell _ _ _ _ (by simp; omega)]
    have hR1' := atomK_good.below (atomK_good.keep hR1 hk1) hb2
    have hN1' := (hN1.keep hk1).below hb2
    have hlt1 : ∀ b ∈ bs1, b < w1.heap.size := fun b hb => hN1.lt hb
    clear x0 x1 x2 x3 k0 k1 k2 k3 l0 l1 l2 l3 f0 f1 f2 f3 g0 g1 g2 g3 q2 hk1 hR1
    go_wp2
    have hk : ∀ b, w.heap.size + 1 + 1 < b → (((((w2.setCell ⟨w.heap.size + 1 + 1, 3, none⟩ (.slice Ae3 p.kids.length cape3)).setCell ⟨w.heap.size + 1, 0, none⟩ (.string p.fact.name)).setCell ⟨w.heap.size + 1, 1, none⟩ (.slice Ad3 p.fact.args.length cap3)).setCell ⟨w.heap.size + 1, 2, none⟩ (.int .i64 p.rule)).setCell ⟨w.heap.size + 1, 3, none⟩ (.slice Ae3 p.kids.length cape3)).heap[b]? = w2.heap[b]? := fun b hb => by
      rw [Below.heap_setCell _ _ _ _ (by simp; omega), Below.heap_setCell _ _ _ _ (by simp; omega), Below.heap_setCell _ _ _ _ (by simp; omega), Below.heap_setCell _ _ _ _ (by simp; omega), Below.heap_setCell _ _ _ _ (by simp; omega)]
    exact bodyPost_ret (v := .agg #[.string p.fact.name, .slice Ad3 p.fact.args.length cap3, .int .i64 p.rule, .slice Ae3 p.kids.length cape3]) (by simp [results, Try.results6, go_sem, l0', l1', l2', l3']) rfl
      ⟨(((((B2.setCell (by first | (simp; done) | (simp; omega)) _).setCell (by first | (simp; done) | (simp; omega)) _).setCell (by first | (simp; done) | (simp; omega)) _).setCell (by first | (simp; done) | (simp; omega)) _).setCell (by first | (simp; done) | (simp; omega)) _), _, bs1 ++ bs2, rfl, ⟨_, _, bs1, bs2, rfl, hnm, hwf, rfl, termsK_good.keep (atom_args hR1') (fun b hb => hk b (hge1 b hb)), (proofsK_good n).keep hR2 (fun b hb => hk b (hge2 b hb))⟩,
        (New.append ((hN1'.keep (fun b hb => hk b (hge1 b hb))).mono (B' := w.heap.size) (by simp; omega)) ((hN2.keep (fun b hb => hk b (hge2 b hb))).mono (B' := w1.heap.size) (by simp)) (by have := B1.size; omega) hlt1)⟩

set_option maxHeartbeats 800000 in
theorem eqProofS_of (n : Nat) (ih : ∀ (p : Pf) (c0 c1 c2 c3 d0 d1 d2 d3 : Value) (b1 b2 : List Nat) (w : World) (h1 : proofK n w [c0, c1, c2, c3] p b1) (h2 : proofK n w [d0, d1, d2, d3] p b2), Calls Try.prog 9 #[.agg #[c0, c1, c2, c3], .agg #[d0, d1, d2, d3]] w (Yes w.heap.size w)) (ts : List Pf) (v1 v2 : Value) (b1 b2 : List Nat) (w : World) (h1 : proofsK n w [v1] ts b1) (h2 : proofsK n w [v2] ts b2) :
    Calls Try.prog 27 #[v1, v2] w (Yes w.heap.size w) := by
  obtain ⟨Ad, cap, rfl, hl, hm⟩ := sliceK_form h1
  obtain ⟨Ad2, cap2, rfl, hl2, hm2⟩ := sliceK_form h2
  have hlm := nat_ge_max (Nat.le_trans hl hm)
  have IH := Lib.hid ih
  clear hm hm2 ih
  go_enter Try.func27, Try.ntmps27
  go_wp2
  go_loopw [5] (fun i wr => ∃ k : Nat, k ≤ ts.length ∧ i = .int .i64 k ∧ Below w.heap.size w wr) (fun i _ => ts.length - (intOf i).toNat)
  case atStart => exact ⟨0, Nat.zero_le _, rfl, Below.refl _ _⟩
  case round =>
    obtain ⟨k, hk, rfl, hb⟩ := hrel
    by_cases hlt : k < ts.length
    · obtain ⟨b, o, Ae, ce, Af, cf, bk, rfl, _, c0, c1, c2, c3, hel, _⟩ := proofs_el ((proofsK_good n).below h1 hb) hlt
      obtain ⟨b', o', Ae', ce', Af', cf', bk', rfl, _, d0, d1, d2, d3, hel', _⟩ := proofs_el ((proofsK_good n).below h2 hb) hlt
      clear h1 h2
      have H1 := Lib.hid ((proofK_good n).below hel (Below.drew (Below.refl _ _)))
      have H2 := Lib.hid ((proofK_good n).below hel' (Below.drew (Below.refl _ _)))
      have hlt' : (k : Int) < (ts.length : Int) := by omega
      have hk0 : (0 : Int) ≤ (k : Int) := by omega
      clear hel hel'
      go_wp2
      go_region_held3 (fun w' => w'.cell? ⟨b, o + k * 4, none⟩ = some (.string ts[k].fact.name) ∧ w'.cell? ⟨b, o + k * 4 + 1, none⟩ = some (.slice Ae ts[k].fact.args.length ce) ∧ w'.cell? ⟨b, o + k * 4 + 2, none⟩ = some (.int .i64 ts[k].rule) ∧ w'.cell? ⟨b, o + k * 4 + 3, none⟩ = some (.slice Af ts[k].kids.length cf) ∧ w'.cell? ⟨b', o' + k * 4, none⟩ = some (.string ts[k].fact.name) ∧ w'.cell? ⟨b', o' + k * 4 + 1, none⟩ = some (.slice Ae' ts[k].fact.args.length ce') ∧ w'.cell? ⟨b', o' + k * 4 + 2, none⟩ = some (.int .i64 ts[k].rule) ∧ w'.cell? ⟨b', o' + k * 4 + 3, none⟩ = some (.slice Af' ts[k].kids.length cf')) (first | exact ⟨c0, c1, c2, c3, d0, d1, d2, d3⟩ | exact ⟨cell_later hb' c0, cell_later hb' c1, cell_later hb' c2, cell_later hb' c3, cell_later hb' d0, cell_later hb' d1, cell_later hb' d2, cell_later hb' d3⟩ | go_keep)
        (first | (go_at_call 9; refine (IH.out ts[k] _ _ _ _ _ _ _ _ bk bk' _ H1.out H2.out).mono ?_; rintro e w' ⟨rfl, hb'⟩))
      go_wp2
      go_roundw
      case rel => exact ⟨k + 1, by omega, by go_num, hb.trans ((Below.drew (Below.refl _ _)).trans (hb'.mono hb.size))⟩
      case measure => simp [intOf]; omega
    · have he : k = ts.length := by omega
      subst he
      go_wp2
      go_ret
      exact ⟨rfl, hb⟩

set_option maxHeartbeats 800000 in
theorem eqProof_same : ∀ (n : Nat) (p : Pf) (c0 c1 c2 c3 d0 d1 d2 d3 : Value) (b1 b2 : List Nat) (w : World) (h1 : proofK n w [c0, c1, c2, c3] p b1) (h2 : proofK n w [d0, d1, d2, d3] p b2),
    Calls Try.prog 9 #[.agg #[c0, c1, c2, c3], .agg #[d0, d1, d2, d3]] w (Yes w.heap.size w) := by
  intro n
  induction n with
  | zero => exact fun p c0 c1 c2 c3 d0 d1 d2 d3 b1 b2 w h _ => h.elim
  | succ n ih =>
    intro p c0 c1 c2 c3 d0 d1 d2 d3 b1 b2 w h1 h2
    obtain ⟨Ad, cap, Ae, cape, p1, p2, rfl, rfl, rfl, rfl, rfl, _, hp1, hq1⟩ := proof_parts h1
    obtain ⟨Bd, dap, Be, dape, r1, r2, rfl, rfl, rfl, rfl, rfl, _, hp2, hq2⟩ := proof_parts h2
    have hA := ((Below.refl w.heap.size w).alloc (Nat.le_refl _) (.cells #[.string p.fact.name, .slice Ad p.fact.args.length cap, .int .i64 p.rule, .slice Ae p.kids.length cape] 36)).alloc (by simp) (.cells #[.string p.fact.name, .slice Bd p.fact.args.length dap, .int .i64 p.rule, .slice Be p.kids.length dape] 36)
    have q1 := fun w' (hb : Below w.heap.size w w') => eqAtom_same p.fact _ _ _ _ p1 r1 w' (atomK_good.below hp1 hb) (atomK_good.below hp2 hb)
    have q2 := fun w' (hb : Below w.heap.size w w') => eqProofS_of n ih p.kids _ _ p2 r2 w' ((proofsK_good n).below hq1 hb) ((proofsK_good n).below hq2 hb)
    clear h1 h2 hp1 hq1 hp2 hq2 ih
    go_enter Try.func9, Try.ntmps9
    go_wp2_with fail
    refine (q1 _ hA).mono ?_
    rintro e w1 ⟨rfl, hb1⟩
    have B1 := hA.trans (hb1.mono hA.size)
    have x0 : w1.cell? ⟨w.heap.size, 0, none⟩ = some (.string p.fact.name) := cell_later hb1 (by go_simp)
    have x1 : w1.cell? ⟨w.heap.size, 1, none⟩ = some (.slice Ad p.fact.args.length cap) := cell_later hb1 (by go_simp)
    have x2 : w1.cell? ⟨w.heap.size, 2, none⟩ = some (.int .i64 p.rule) := cell_later hb1 (by go_simp)
    have x3 : w1.cell? ⟨w.heap.size, 3, none⟩ = some (.slice Ae p.kids.length cape) := cell_later hb1 (by go_simp)
    have y0 : w1.cell? ⟨w.heap.size + 1, 0, none⟩ = some (.string p.fact.name) := cell_later hb1 (by go_simp)
    have y1 : w1.cell? ⟨w.heap.size + 1, 1, none⟩ = some (.slice Bd p.fact.args.length dap) := cell_later hb1 (by go_simp)
    have y2 : w1.cell? ⟨w.heap.size + 1, 2, none⟩ = some (.int .i64 p.rule) := cell_later hb1 (by go_simp)
    have y3 : w1.cell? ⟨w.heap.size + 1, 3, none⟩ = some (.slice Be p.kids.length dape) := cell_later hb1 (by go_simp)
    clear q1 hA
    go_wp2_with fail
    refine (q2 _ B1).mono ?_
    rintro e w2 ⟨rfl, hb2⟩
    have B2 := B1.trans (hb2.mono B1.size)
    go_wp2
    go_ret
    exact ⟨rfl, B2⟩

end Go.Proofs.Ytlmngncogomgeaa
