/- Of the proof of FnExactProofNeeds: To, CopyB, EqA, CmpS. -/
import Derived.Test.YtlmngncogomgeaaProg
import Derived.Test.YtlmngncogomgeaaM02
namespace Go.Proofs.Ytlmngncogomgeaa
open Go.RowKit D
set_option linter.unusedVariables false
theorem infoTerm : (Try.prog.info? 78).map (fun i => (i.zero, i.size, i.bytes)) = some (some (.agg #[.bool false, .string ⟨#[]⟩]), 2, 24) := by kernel_rfl

set_option maxHeartbeats 400000 in
theorem toTerm_any (t : T) (w : World) :
    Calls Try.prog 45 #[.agg #[.bool t.var, .string t.name]] w fun e w' => e = .returned (.agg #[.bool t.var, .string t.name]) ∧ Below w.heap.size w w' := by
  go_enter Try.func45, Try.ntmps45
  go_wp2
  exact bodyPost_ret (v := .agg #[.bool t.var, .string t.name]) (by simp [results, Try.results45, go_sem]) rfl ⟨rfl, by repeat (first | exact Below.refl _ _ | (refine Below.setCell ?_ (by first | (simp; done) | (simp; omega)) _) | (refine Below.alloc ?_ (by first | (simp; done) | (simp; omega)) _))⟩

set_option maxHeartbeats 400000 in
theorem toTermS_any (ts : List T) (v : Value) (bs : List Nat) (w : World) (h : termsK w [v] ts bs) (hn : ts.length ≤ 1048576) :
    Calls Try.prog 36 #[v] w (Makes termsK ts w.heap.size w) := by
  obtain ⟨Ad, cap, rfl, hl, hm⟩ := sliceK_form h
  obtain ⟨i0, hi, hz0, hz1, hz2⟩ := info_parts infoTerm
  clear hm
  go_enter Try.func36, Try.ntmps36
  go_wp2_with (refine wpList_make_full _ rfl _ _ _ rfl w.heap.size 78 i0 _ 2 Try.underlying31 hi hz0 hz1 _ _ _ _ ts.length rfl rfl rfl rfl (by rw [hz2]; omega) (by unfold maxLen; omega) (Nat.le_refl _) ?_; intro w1 hown hgrow)
  have hb1 : Below w.heap.size w w1 := (Below.refl _ _).grown hgrow (Nat.le_refl _) (fun _ e => by cases e)
  have hg1 : w.heap.size < w1.heap.size := (hown.lt _ rfl).2
  clear hgrow
  go_loopw [4] (fun i wr => ∃ (k : Nat) (L : List Value) (bs' : List Nat), k ≤ ts.length ∧ i = .int .i64 k ∧ wr.ownsRow w.heap.size 78 2 (.slice (some ⟨w.heap.size, 0, none⟩) ts.length ts.length) ts.length L ∧
      Filled 2 termK w1.heap.size wr L ts k bs' ∧ Below w.heap.size w wr ∧ w1.heap.size ≤ wr.heap.size) (fun i _ => ts.length - (intOf i).toNat)
  case atStart => exact ⟨0, _, _, Nat.zero_le _, rfl, hown, Filled.start, hb1, Nat.le_refl _⟩
  case round =>
    obtain ⟨k, L, bs', hk, rfl, how, hF, hb, hsz⟩ := hrel
    clear hown hb1
    by_cases hlt : k < ts.length
    · have hw := termsK_good.below h hb
      obtain ⟨b, o, rfl, _, c0, c1, hnm⟩ := terms_at hw hlt
      have HK := Lib.hid hF
      clear h hw hF
      have hL := Lib.hid how.1
      go_wp2_with (go_at_call 45; refine (toTerm_any _ _).mono ?_; rintro e w' ⟨rfl, hb'⟩; have how' := own_below how hb'; obtain ⟨⟨u0, hu0⟩, hf0⟩ := own_slot how' (j := k * 2) (by omega); obtain ⟨⟨u1, hu1⟩, hf1⟩ := own_slot how' (j := k * 2 + 1) (by omega))
      obtain ⟨R1, R2, R3, R4⟩ := fill2 termK_good how HK.out hlt hb hb' hg1 (Nat.le_refl _) hsz (a := .bool ts[k].var) (b := .string ts[k].name) (b2 := []) ⟨rfl, hnm, rfl⟩ (New.nil _ _)
      go_roundw
      case rel => exact ⟨k + 1, _, _, by omega, by go_num, R1, R2, R3, R4⟩
      case measure => simp [intOf]; omega
    · have he : k = ts.length := by omega
      subst he
      have HF := Lib.hid hF
      clear hF
      go_wp2
      go_ret
      obtain ⟨b2, r1, r2, r3, r4⟩ := HF.out.slice how (fun hm => by have := (HF.out.new.own _ hm).1; omega)
      refine ⟨hb, _, b2, rfl, r1, r2, fun b hb' => ⟨?_, r4 b hb'⟩⟩
      rcases r3 b hb' with ⟨rfl, h⟩ | h
      · exact h
      · have := (HF.out.new.own b h).1; omega

theorem infoTerm3 : (Try.prog.info? 78).map (fun i => (i.zero, i.size, i.bytes)) = some (some (.agg #[.bool false, .string ⟨#[]⟩]), 2, 24) := by kernel_rfl

theorem sizeTerm : (Try.prog.info? 78).map (·.size) = some 2 := by kernel_rfl

theorem infoAtom3 : (Try.prog.info? 33).map (fun i => (i.zero, i.size, i.bytes)) = some (some (.agg #[.string ⟨#[]⟩, .slice none 0 0]), 2, 40) := by kernel_rfl

theorem D.terms_none (w : World) : termsK w [.slice none 0 0] [] [] := ⟨none, 0, rfl, Nat.le_refl _, Nat.zero_le _, fun _ => rfl, fun h => absurd rfl h⟩

theorem D.atoms_none (w : World) : atomsK w [.slice none 0 0] [] [] := ⟨none, 0, rfl, Nat.le_refl _, Nat.zero_le _, fun _ => rfl, fun h => absurd rfl h⟩

theorem D.termRow {w : World} {L : List Value} {xs : List T} {bs : List Nat} (h : Rowed 2 termK w L xs bs) : bs = [] := by
  obtain ⟨_, _, G, rfl, hG⟩ := h
  rw [List.flatMap_eq_nil_iff]
  intro j hj
  obtain ⟨_, _, h⟩ := hG j (List.mem_range.1 hj)
  exact h

/-- A row of terms of the call's own, as a slice. -/
theorem D.terms_own {w w2 : World} {base e : Nat} {A : Option Addr} {cap : Nat} {L : List Value} {xs : List T} {bs : List Nat} (h : Rowed 2 termK w L xs bs) (hown : w2.ownsRow base e 2 (.slice A xs.length cap) xs.length L) :
    ∃ b2, termsK w2 [.slice A xs.length cap] xs b2 ∧ New base w2 b2 := by
  obtain rfl := termRow h
  have h2 : Rowed 2 termK w2 L xs [] := h.keep termK_good fun b hb => by simp at hb
  rcases hown.2 with ⟨hv, hx⟩ | ⟨g, cap', cur, hv, hg, hh, hc1, hc2, hc3, hc4⟩
  · have hx0 : xs = [] := List.length_eq_zero_iff.1 hx
    subst hx0
    simp only [Value.slice.injEq, List.length_nil] at hv
    obtain ⟨rfl, -, rfl⟩ := hv
    exact ⟨[], terms_none w2, New.nil _ _⟩
  · obtain ⟨b2, hs, hb⟩ := h2.slice hown
    simp only [Value.slice.injEq] at hv
    obtain ⟨rfl, -, rfl⟩ := hv
    by_cases hne : xs = []
    · subst hne
      exact ⟨[], ⟨_, cap, rfl, hc1, hc2, fun _ => rfl, fun h => absurd rfl h⟩, New.nil _ _⟩
    · obtain ⟨Ad', cap'', hcs, _, _, _, h1⟩ := id hs
      obtain ⟨b, o, hAd, F, G, rfl, hF⟩ := h1 hne
      have hG : (List.range xs.length).flatMap G = [] := by
        rw [List.flatMap_eq_nil_iff]
        intro j hj
        obtain ⟨_, _, _, _, h⟩ := hF j _ (List.getElem?_eq_getElem (List.mem_range.1 hj))
        exact h
      rw [hG] at hs
      simp only [List.cons.injEq, Value.slice.injEq, and_true] at hcs
      have hb' : b = g := by
        have := hcs.1.symm.trans rfl
        rw [hAd] at this
        simp at this
        exact this.1
      subst hb'
      exact ⟨[b], hs, ⟨by simp, fun c hc => by
        obtain rfl : c = b := by simpa using hc
        exact ⟨hg, cur, e, hh⟩⟩⟩

end Go.Proofs.Ytlmngncogomgeaa
namespace Go.Proofs.Ytlmngncogomgeaa
open Go.RowKit D
set_option linter.unusedVariables false
attribute [local go_sem ↓] Go.wp_at_zero Go.wp_at_succ
set_option maxHeartbeats 400000 in
theorem eqTerm_same (t : T) (w : World) :
    Calls Try.prog 49 #[.agg #[.bool t.var, .string t.name], .agg #[.bool t.var, .string t.name]] w (Yes w.heap.size w) := by
  obtain ⟨b, nm⟩ := t
  cases b
  all_goals
    go_enter Try.func49, Try.ntmps49
    go_wp2
    go_ret
    exact ⟨rfl, ((Below.refl _ _).alloc (Nat.le_refl _) _).alloc (by simp) _⟩

set_option maxHeartbeats 400000 in
theorem eqTermS_same (ts : List T) (v1 v2 : Value) (b1 b2 : List Nat) (w : World) (h1 : termsK w [v1] ts b1) (h2 : termsK w [v2] ts b2) :
    Calls Try.prog 42 #[v1, v2] w (Yes w.heap.size w) := by
  obtain ⟨Ad, cap, rfl, hl, hm⟩ := sliceK_form h1
  obtain ⟨Ad2, cap2, rfl, hl2, hm2⟩ := sliceK_form h2
  have hlm := nat_ge_max (Nat.le_trans hl hm)
  clear hm hm2
  go_enter Try.func42, Try.ntmps42
  go_wp2
  go_loopw [5] (fun i wr => ∃ k : Nat, k ≤ ts.length ∧ i = .int .i64 k ∧ Below w.heap.size w wr) (fun i _ => ts.length - (intOf i).toNat)
  case atStart => exact ⟨0, Nat.zero_le _, rfl, Below.refl _ _⟩
  case round =>
    obtain ⟨k, hk, rfl, hb⟩ := hrel
    by_cases hlt : k < ts.length
    · obtain ⟨b, o, rfl, _, c0, c1, hnm⟩ := terms_at (termsK_good.below h1 hb) hlt
      obtain ⟨b', o', rfl, _, d0, d1, _⟩ := terms_at (termsK_good.below h2 hb) hlt
      clear h1 h2
      have hlt' : (k : Int) < (ts.length : Int) := by omega
      have hk0 : (0 : Int) ≤ (k : Int) := by omega
      go_wp2
      go_region_held3 (fun w' => w'.cell? ⟨b, o + k * 2, none⟩ = some (.bool ts[k].var) ∧ w'.cell? ⟨b, o + k * 2 + 1, none⟩ = some (.string ts[k].name) ∧ w'.cell? ⟨b', o' + k * 2, none⟩ = some (.bool ts[k].var) ∧ w'.cell? ⟨b', o' + k * 2 + 1, none⟩ = some (.string ts[k].name)) (first | go_keep | exact ⟨cell_later hb' c0, cell_later hb' c1, cell_later hb' d0, cell_later hb' d1⟩)
        (first | (go_at_call 49; refine (eqTerm_same _ _).mono ?_; rintro e w' ⟨rfl, hb'⟩))
      go_wp2
      go_roundw
      case rel => exact ⟨k + 1, by omega, by go_num, hb.trans ((Below.drew (Below.refl _ _)).trans (hb'.mono hb.size))⟩
      case measure => simp [intOf]; omega
    · have he : k = ts.length := by omega
      subst he
      go_wp2
      go_ret
      exact ⟨rfl, hb⟩

set_option maxHeartbeats 400000 in
theorem eqAtom_same (a : A) (c0 c1 d0 d1 : Value) (b1 b2 : List Nat) (w : World) (h1 : atomK w [c0, c1] a b1) (h2 : atomK w [d0, d1] a b2) :
    Calls Try.prog 26 #[.agg #[c0, c1], .agg #[d0, d1]] w (Yes w.heap.size w) := by
  obtain ⟨s1, hcs, hnm, ht1⟩ := h1
  obtain ⟨s2, hcs2, _, ht2⟩ := h2
  simp only [List.cons.injEq, and_true] at hcs hcs2
  obtain ⟨rfl, rfl⟩ := hcs
  obtain ⟨rfl, rfl⟩ := hcs2
  have hq := fun w' (hb : Below w.heap.size w w') => eqTermS_same a.args c1 d1 b1 b2 w' (termsK_good.below ht1 hb) (termsK_good.below ht2 hb)
  clear ht1 ht2
  go_enter Try.func26, Try.ntmps26
  go_wp2_with (go_at_call 42; refine (hq _ (((Below.refl _ _).alloc (Nat.le_refl _) _).alloc (by simp) _)).mono ?_; rintro e w' ⟨rfl, hb'⟩)
  go_ret
  exact ⟨rfl, (((Below.refl _ _).alloc (Nat.le_refl _) _).alloc (by simp) _).trans (hb'.mono (by simp; omega))⟩

theorem below_drewN {B : Nat} {a w : World} (h : Below B a w) (n : Nat) : Below B a (w.drewN n) := ⟨h.os, h.tape, h.output, h.size, h.block⟩

namespace D
theorem cmpTs_step {ts us : List T} {k : Nat} (h1 : k < ts.length) (h2 : k < us.length) : cmpTs (ts.drop k) (us.drop k) = if cmpS ts[k].name us[k].name = 0 then cmpTs (ts.drop (k + 1)) (us.drop (k + 1)) else cmpS ts[k].name us[k].name := by
  rw [List.drop_eq_getElem_cons h1, List.drop_eq_getElem_cons h2]; rfl

theorem cmpTs_end1 {ts us : List T} {k : Nat} (h1 : k < ts.length) (h2 : us.length ≤ k) : cmpTs (ts.drop k) (us.drop k) = 1 := by
  rw [List.drop_eq_getElem_cons h1, List.drop_of_length_le h2]; rfl

theorem cmpTs_end2 {ts us : List T} {k : Nat} (h1 : ts.length ≤ k) (h2 : k < us.length) : cmpTs (ts.drop k) (us.drop k) = -1 := by
  rw [List.drop_eq_getElem_cons h2, List.drop_of_length_le h1]; rfl

theorem cmpTs_end3 {ts us : List T} {k : Nat} (h1 : ts.length ≤ k) (h2 : us.length ≤ k) : cmpTs (ts.drop k) (us.drop k) = 0 := by
  rw [List.drop_of_length_le h2, List.drop_of_length_le h1]; rfl

theorem cmpS_cases (a b : ByteArray) : (cmpS a b = -1 ∧ Op.bytesLess a.toList b.toList = true) ∨ (cmpS a b = 0 ∧ Op.bytesLess a.toList b.toList = false ∧ (a.toList == b.toList) = true) ∨ (cmpS a b = 1 ∧ Op.bytesLess a.toList b.toList = false ∧ (a.toList == b.toList) = false) := by
  rw [less_cmpS, eq_cmpS]
  rcases cmpS_is.vals a b with h | h | h <;> simp [h]

end D
set_option maxHeartbeats 400000 in
theorem l1Texts_any (a b : ByteArray) (w : World) :
    Calls Try.prog 53 #[.string a, .string b] w fun e w' => e = .returned (.int .i64 (cmpS a b)) ∧ w' = w := by
  rcases cmpS_cases a b with ⟨h, h1⟩ | ⟨h, h1, h2⟩ | ⟨h, h1, h2⟩
  all_goals
    have H := Lib.hid h
    clear h
    go_enter Try.func53, Try.ntmps53
    go_wp2
    go_ret
    exact ⟨ret_int H.out.symm, rfl⟩

set_option maxHeartbeats 1000000 in
theorem l1Cmp_any (a b : A) (c0 c1 d0 d1 : Value) (b1 b2 : List Nat) (w : World) (h1 : atomK w [c0, c1] a b1) (h2 : atomK w [d0, d1] b b2) :
    Calls Try.prog 50 #[.agg #[c0, c1], .agg #[d0, d1]] w fun e w' => e = .returned (.int .i64 (cmpA a b)) ∧ Below w.heap.size w w' := by
  obtain ⟨Ad, cap, rfl, rfl⟩ := atom_cells2 h1
  obtain ⟨Ae, cape, rfl, rfl⟩ := atom_cells2 h2
  have t1 := atom_args h1
  have t2 := atom_args h2
  obtain ⟨_, _, hv1, hl, hm⟩ := sliceK_form t1
  obtain ⟨_, _, hv2, hl2, hm2⟩ := sliceK_form t2
  have hlm := nat_ge_max (Nat.le_trans hl hm)
  have hlm2 := nat_ge_max (Nat.le_trans hl2 hm2)
  clear hv1 hv2 hl hl2 hm hm2
  have hc : cmpA a b = if cmpS a.name b.name = 0 then cmpTs a.args b.args else cmpS a.name b.name := rfl
  have HC := Lib.hid hc
  clear h1 h2 hc
  go_enter Try.func50, Try.ntmps50
  go_wp2_with (go_at_call 53; refine (l1Texts_any _ _ _).mono ?_; rintro e w' ⟨rfl, rfl⟩)
  have hA := ((Below.refl w.heap.size w).alloc (Nat.le_refl _) (.cells #[.string a.name, .slice Ad a.args.length cap] 33)).alloc (by simp) (.cells #[.string b.name, .slice Ae b.args.length cape] 33)
  go_loopw [5, 6] (fun c i wr => ∃ (k : Nat) (z : Int), k ≤ a.args.length ∧ k ≤ b.args.length ∧ i = .int .i64 k ∧ c = .int .i64 z ∧ cmpA a b = (if z = 0 then cmpTs (a.args.drop k) (b.args.drop k) else z) ∧ Below w.heap.size w wr ∧
      wr.cell? ⟨w.heap.size, 1, none⟩ = some (.slice Ad a.args.length cap) ∧ wr.cell? ⟨w.heap.size + 1, 1, none⟩ = some (.slice Ae b.args.length cape)) (fun _ i _ => a.args.length - (intOf i).toNat)
  case atStart => exact ⟨0, _, Nat.zero_le _, Nat.zero_le _, rfl, rfl, HC.out, hA, by go_simp, by go_simp⟩
  case round =>
    obtain ⟨k, z, hk, hk2, rfl, rfl, hz, hb, x1, y1⟩ := hrel
    have HZ := Lib.hid hz
    clear hz hA
    by_cases hz : z = 0
    · subst hz
      have H0 := Lib.hid (HZ.out.trans (if_pos rfl))
      by_cases hlt : k < a.args.length
      · by_cases hlt2 : k < b.args.length
        · obtain ⟨b', o, rfl, _, _, c1, _⟩ := terms_at (termsK_good.below t1 hb) hlt
          obtain ⟨b'', o', rfl, _, _, d1, _⟩ := terms_at (termsK_good.below t2 hb) hlt2
          have HS := Lib.hid (cmpTs_step hlt hlt2)
          have hkk : (0 : Int) ≤ (k : Int) := by omega
          have hk3 : (k : Int) < (a.args.length : Int) := by omega
          have hk4 : (k : Int) < (b.args.length : Int) := by omega
          clear t1 t2
          go_wp2
          go_quiet ((go_at_call 53; exact Calls.quiet_of_same (l1Texts_any _ _ _)))
          go_wp2
          have HW := Lib.hid HZ
          go_roundw
          case rel => exact ⟨k + 1, _, by omega, by omega, by go_num, rfl, by rw [H0.out, HS.out], below_drewN hb _, x1, y1⟩
          case measure => simp [intOf]; omega
        · have HS := Lib.hid (cmpTs_end1 hlt (Nat.le_of_not_lt hlt2))
          have hx : ¬ a.args.length < b.args.length := by omega
          have hy : b.args.length < a.args.length := by omega
          clear t1 t2
          go_wp2
          go_ret
          exact ⟨ret_int (by rw [H0.out, HS.out]), hb⟩
      · have he : a.args.length ≤ k := by omega
        by_cases hlt2 : k < b.args.length
        · have HS := Lib.hid (cmpTs_end2 he hlt2)
          have hx : a.args.length < b.args.length := by omega
          clear t1 t2
          go_wp2
          go_ret
          exact ⟨ret_int (by rw [H0.out, HS.out]), hb⟩
        · have HS := Lib.hid (cmpTs_end3 he (Nat.le_of_not_lt hlt2))
          have hx : ¬ a.args.length < b.args.length := by omega
          have hy : ¬ b.args.length < a.args.length := by omega
          clear t1 t2
          go_wp2
          go_ret
          exact ⟨ret_int (by rw [H0.out, HS.out]), hb⟩
    · have H0 := Lib.hid (HZ.out.trans (if_neg hz))
      have hz1 : (z == 0) = false := beq_eq_false_iff_ne.2 hz
      have hz2 : (z != 0) = true := by simp [hz]
      clear hz
      by_cases hlt : k < a.args.length
      all_goals by_cases hlt2 : k < b.args.length
      all_goals
        clear t1 t2
        go_wp2
        go_ret
        exact ⟨ret_int H0.out.symm, hb⟩

end Go.Proofs.Ytlmngncogomgeaa
