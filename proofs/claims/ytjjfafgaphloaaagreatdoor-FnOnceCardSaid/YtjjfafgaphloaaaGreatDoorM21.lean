/- Of the proof of FnOnce: TightS, RuleS, Grnd. -/
import Derived.Test.YtjjfafgaphloaaaGreatDoorM11
import Derived.Test.YtjjfafgaphloaaaGreatDoorM14
namespace Go.Proofs.YtjjfafgaphloaaaGreatDoor
open Go.RowKit D
set_option linter.unusedVariables false
attribute [local go_sem ↓] Go.wp_at_zero Go.wp_at_succ
def D.varsTs (ts : List T) (out : List ByteArray) : List ByteArray := ts.foldl (fun o t => if t.var then putS o t.name else o) out

theorem D.varsTs_snoc (ts : List T) (k : Nat) (h : k < ts.length) (out : List ByteArray) : varsTs (ts.take (k + 1)) out = if ts[k].var then putS (varsTs (ts.take k) out) ts[k].name else varsTs (ts.take k) out := varsA_snoc ⟨ByteArray.empty, ts⟩ k h out

theorem D.strs_empty {w : World} {g : Nat} : strsK w [.slice (some ⟨g, 0, none⟩) 0 0] [] [] := ⟨_, 0, rfl, Nat.le_refl _, Nat.zero_le _, fun _ => rfl, fun h => absurd rfl h⟩

set_option maxHeartbeats 1000000 in
theorem l2Vars_any (a : A) (out : List ByteArray) (c0 c1 v : Value) (b1 b2 : List Nat) (w : World) (h : atomK w [c0, c1] a b1) (h2 : strsK w [v] out b2) (hn : out.length + a.args.length ≤ 16777216) :
    Calls Tryz.prog 124 #[.agg #[c0, c1], v] w (ReadsN (varsA a out) b2 w.heap.size w) := by
  have ht := atom_args h
  obtain ⟨Aa, ca, rfl, rfl⟩ := atom_cells2 h
  obtain ⟨As, cs, rfl, _, _⟩ := sliceK_form h2
  obtain ⟨_, _, e0', hl2, hm2⟩ := sliceK_form ht
  have hla := nat_ge_max (Nat.le_trans hl2 hm2)
  obtain ⟨an, args⟩ := a
  dsimp only at *
  have hA : Below w.heap.size w (w.alloc (.cells #[.string an, .slice Aa args.length ca] 33)) := (Below.refl _ _).alloc (Nat.le_refl _) _
  have x1 : (w.alloc (.cells #[.string an, .slice Aa args.length ca] 33)).cell? ⟨w.heap.size, 1, none⟩ = some (.slice Aa args.length ca) := by go_simp
  have HST := Lib.hid (And.intro (strsK_good.below h2 hA) (And.intro hA x1))
  have HE : Hid (varsA ⟨an, args⟩ out = varsTs args out) := Lib.hid rfl
  have HN := Lib.hid hn
  clear h h2 hl2 hm2 e0' hA x1 hn
  go_enter Tryz.func124, Tryz.ntmps124
  go_wp2
  go_loopw [1, 5] (fun v i wr => ∃ (k m : Nat) (Av : Option Addr) (cp : Nat) (b4 : List Nat), k ≤ args.length ∧ i = .int .i64 k ∧ v = .slice Av m cp ∧ m = (varsTs (args.take k) out).length ∧ strsK wr [.slice Av m cp] (varsTs (args.take k) out) b4 ∧ (∀ c ∈ b4, w.heap.size ≤ c ∨ c ∈ b2) ∧ Below w.heap.size w wr ∧ wr.cell? ⟨w.heap.size, 1, none⟩ = some (.slice Aa args.length ca)) (fun _ i _ => args.length - (intOf i).toNat)
  case atStart => exact ⟨0, out.length, As, cs, b2, Nat.zero_le _, rfl, rfl, rfl, HST.out.1, fun c hc => .inr hc, HST.out.2.1, HST.out.2.2⟩
  case round =>
    obtain ⟨k, m, Av, cp, b4, hk, rfl, rfl, hme, hR, hfar, hb, x1⟩ := hrel
    have HFR := Lib.hid hfar
    clear hfar
    clear HST
    have HM := Lib.hid hme
    by_cases hlt : k < args.length
    · obtain ⟨b, o, rfl, _, d0, d1, hsz⟩ := terms_at (termsK_good.below ht hb) hlt
      have hk0 : (0 : Int) ≤ (k : Int) := by omega
      have hk1 : (k : Int) < (args.length : Int) := by omega
      have HLT := Lib.hid hlt
      have hlen : (varsTs (args.take k) out).length ≤ 16777216 := by
        have h1 := varsTs_len (args.take k) out
        rw [List.length_take] at h1
        have := HN.out
        have h3 : (varsTs (args.take k) out).length ≤ out.length + min k args.length := h1
        omega
      have hp := l2Put_any (varsTs (args.take k) out) args[k].name _ b4 wr hR hsz hlen
      have HT := Lib.hid (varsTs_snoc args k hlt out)
      have HR := Lib.hid (And.intro hR hb)
      generalize args[k] = t at *
      obtain ⟨tv, tn⟩ := t
      dsimp only at *
      clear hme hR hb ht hlen hlt hk
      cases tv
      · have HT2 : Hid (varsTs (args.take (k + 1)) out = varsTs (args.take k) out) := Lib.hid (by rw [HT.out]; rfl)
        clear HT hp
        go_wp2
        go_roundw
        case rel => exact ⟨k + 1, m, Av, cp, b4, HLT.out, by go_num, rfl, by rw [HT2.out]; exact HM.out, by rw [HT2.out]; exact HR.out.1, HFR.out, HR.out.2, x1⟩
        case measure => have := HLT.out; simp [intOf]; omega
      · have HT2 : Hid (varsTs (args.take (k + 1)) out = putS (varsTs (args.take k) out) tn) := Lib.hid (by rw [HT.out]; rfl)
        clear HT
        go_wp2_with fail
        refine hp.mono ?_
        rintro e w2 ⟨hb2, v2, b5, rfl, hR2, hf2⟩
        obtain ⟨A2, p2, rfl, _, _⟩ := sliceK_form hR2
        have HX := Lib.hid (And.intro hR2 (And.intro (HR.out.2.trans (hb2.mono HR.out.2.size)) (cell_later hb2 x1)))
        have HF2 : Hid (∀ c ∈ b5, w.heap.size ≤ c ∨ c ∈ b2) := Lib.hid (fun c hc => (hf2 c hc).elim (fun h9 => .inl (Nat.le_trans HR.out.2.size h9)) (HFR.out c))
        clear hp hR2 hb2 x1 hf2
        go_wp2
        go_roundw
        case rel => exact ⟨k + 1, _, A2, p2, b5, HLT.out, by go_num, rfl, by rw [HT2.out], by rw [HT2.out]; exact HX.out.1, HF2.out, HX.out.2.1, HX.out.2.2⟩
        case measure => have := HLT.out; simp [intOf]; omega
    · have he := Lib.hid (show k = args.length by omega)
      have hk1 : ¬ (k : Int) < (args.length : Int) := by omega
      have HX : Hid (strsK wr [.slice Av m cp] (varsTs args out) b4) := Lib.hid (by rw [he.out, List.take_of_length_le (Nat.le_refl _)] at hR; exact hR)
      have HB := Lib.hid hb
      clear hR hme hb ht
      go_wp2
      go_ret
      exact ⟨HB.out, _, b4, rfl, by rw [HE.out]; exact HX.out, HFR.out⟩

theorem D.sumL_filter {α : Type} (f : α → Nat) (q : α → Bool) (xs : List α) : sumL f (xs.filter q) ≤ sumL f xs := by
  induction xs with
  | nil => simp [sumL]
  | cons x xs ih =>
    rw [List.filter_cons]
    have e : sumL f (x :: xs) = f x + sumL f xs := by simp [sumL]
    split
    · have e2 : sumL f (x :: xs.filter q) = f x + sumL f (xs.filter q) := by simp [sumL]
      omega
    · omega

theorem D.vars_take {ps : List Pt} {m : Nat} (hs : sumL (fun p => p.atom.args.length) ps ≤ m) (k : Nat) (out : List ByteArray) : (varsPs (ps.take k) out).length ≤ out.length + m := by
  have h1 := varsPs_len (ps.take k) out
  have h2 := sumL_take (fun p : Pt => p.atom.args.length) ps k
  omega

set_option maxHeartbeats 2000000 in
theorem l2Tight_any (r : Ru) (c0 c1 c2 : Value) (bs : List Nat) (w : World) (h : ruleK w [c0, c1, c2] r bs) (hs : sumL (fun p => p.atom.args.length) r.body ≤ 1000000) (hh : r.head.args.length ≤ 1000000) :
    Calls Tryz.prog 82 #[.agg #[c0, c1, c2]] w fun e w' => e = .returned (.bool (tightB r.head r.body)) ∧ Below w.heap.size w w' := by
  obtain ⟨p1, p2, rfl, hat, hps⟩ := rule_parts h
  obtain ⟨Ad, cap, Ae, cape, rfl, rfl, rfl⟩ := rule_cells2 h
  obtain ⟨_, _, e0', hl2, hm2⟩ := sliceK_form hps
  have hlp := nat_ge_max (Nat.le_trans hl2 hm2)
  obtain ⟨hd, ps⟩ := r
  dsimp only at *
  have hA : Below w.heap.size w (w.alloc (.cells #[.string hd.name, .slice Ad hd.args.length cap, .slice Ae ps.length cape] 53)) := (Below.refl _ _).alloc (Nat.le_refl _) _
  have x2 : (w.alloc (.cells #[.string hd.name, .slice Ad hd.args.length cap, .slice Ae ps.length cape] 53)).cell? ⟨w.heap.size, 2, none⟩ = some (.slice Ae ps.length cape) := by go_simp
  have hA2 : Below w.heap.size w (((w.alloc (.cells #[.string hd.name, .slice Ad hd.args.length cap, .slice Ae ps.length cape] 53)).alloc (.cells #[] 9)).alloc (.cells #[] 9)) := (hA.alloc (by simp) _).alloc (by simp <;> omega) _
  have hv0 := l2Vars_any hd [] _ _ (.slice (some ⟨w.heap.size + 1 + 1, 0, none⟩) 0 0) p1 [] _ (atomK_good.below hat hA2) strs_empty (by simp; omega)
  have HE : Hid (tightB hd ps = decide ((varsPs ps (varsA hd [])).length = (varsPs (ps.filter fun p => !p.no) []).length)) := Lib.hid rfl
  have HS := Lib.hid hs
  have HH := Lib.hid hh
  have HA2 := Lib.hid hA2
  have HX2 := Lib.hid x2
  clear h hl2 hm2 e0' hA hs hh hat
  generalize tightB hd ps = G at *
  go_enter Tryz.func82, Tryz.ntmps82
  go_wp2_with fail
  refine hv0.mono ?_
  rintro e w1 ⟨hb1, v1, b4, rfl, hR1, _⟩
  obtain ⟨A1, p9, rfl, _, _⟩ := sliceK_form hR1
  have HR1 := Lib.hid (And.intro hR1 (And.intro (HA2.out.trans (hb1.mono HA2.out.size)) (cell_later hb1 (show ((((w.alloc (.cells #[.string hd.name, .slice Ad hd.args.length cap, .slice Ae ps.length cape] 53)).alloc (.cells #[] 9)).alloc (.cells #[] 9)).cell? ⟨w.heap.size, 2, none⟩ = some (.slice Ae ps.length cape)) by go_simp))))
  clear hv0 hR1 hb1 x2
  go_wp2
  go_loopw [3, 4, 5] (fun v3 v4 i wr => ∃ (k m q : Nat) (Av Bv : Option Addr) (cp cq : Nat) (b4 b5 : List Nat), k ≤ ps.length ∧ i = .int .i64 k ∧ v3 = .slice Bv q cq ∧ v4 = .slice Av m cp ∧ m = (varsPs (ps.take k) (varsA hd [])).length ∧ strsK wr [.slice Av m cp] (varsPs (ps.take k) (varsA hd [])) b4 ∧
    q = (varsPs ((ps.take k).filter fun p => !p.no) []).length ∧ strsK wr [.slice Bv q cq] (varsPs ((ps.take k).filter fun p => !p.no) []) b5 ∧ Below w.heap.size w wr ∧ wr.cell? ⟨w.heap.size, 2, none⟩ = some (.slice Ae ps.length cape)) (fun _ _ i _ => ps.length - (intOf i).toNat)
  case atStart => exact ⟨0, _, 0, A1, _, p9, _, b4, [], Nat.zero_le _, rfl, rfl, rfl, rfl, HR1.out.1, rfl, strs_empty, HR1.out.2.1, HR1.out.2.2⟩
  case round =>
    obtain ⟨k, m, q, Av, Bv, cp, cq, b4, b5, hk, rfl, rfl, rfl, hme, hR, hqe, hQ, hb, x2⟩ := hrel
    clear HR1
    have HM := Lib.hid (And.intro hme hqe)
    by_cases hlt : k < ps.length
    · obtain ⟨b, o, Aa, ce, bk, rfl, _, d0, d1, d2, hel, _⟩ := parts_el (partsK_good.below hps hb) hlt
      have hk0 : (0 : Int) ≤ (k : Int) := by omega
      have hk1 : (k : Int) < (ps.length : Int) := by omega
      have HLT := Lib.hid hlt
      have hal : (varsPs (ps.take k) (varsA hd [])).length + ps[k].atom.args.length ≤ 16777216 := by
        have h1 := vars_take HS.out k (varsA hd [])
        have h2 := varsA_len hd []
        have h3 := sumL_at (fun p : Pt => p.atom.args.length) ps k hlt
        have := HS.out
        have := HH.out
        simp only [List.length_nil] at h2
        omega
      have hbl : (varsPs ((ps.take k).filter fun p => !p.no) []).length + ps[k].atom.args.length ≤ 16777216 := by
        have h1 := varsPs_len ((ps.take k).filter fun p => !p.no) []
        have h4 := sumL_filter (fun p : Pt => p.atom.args.length) (fun p => !p.no) (ps.take k)
        have h5 := sumL_take (fun p : Pt => p.atom.args.length) ps k
        have h3 := sumL_at (fun p : Pt => p.atom.args.length) ps k hlt
        have := HS.out
        simp only [List.length_nil] at h1
        omega
      have hp := l2Vars_any ps[k].atom _ _ _ _ bk b4 wr (part_atom hel) hR hal
      have hp2 := fun w' (hb' : Below wr.heap.size wr w') => l2Vars_any ps[k].atom _ _ _ _ bk b5 w' (atomK_good.below (part_atom hel) hb') (strsK_good.below hQ hb') hbl
      have HT := Lib.hid (varsPs_snoc ps k hlt (varsA hd []))
      have HT2 := Lib.hid (filter_snoc ps k hlt)
      have HB := Lib.hid hb
      have HQ := Lib.hid hQ
      generalize ps[k] = p at *
      obtain ⟨no, pa⟩ := p
      dsimp only at *
      clear hme hqe hR hQ hb hps hel hlt hk hal hbl
      go_wp2_with fail
      refine hp.mono ?_
      rintro e w2 ⟨hb2, v2, b6, rfl, hR2, _⟩
      obtain ⟨A2, p2, rfl, _, _⟩ := sliceK_form hR2
      have HX := Lib.hid (And.intro hR2 (HB.out.trans (hb2.mono HB.out.size)))
      replace HQ := Lib.hid (strsK_good.below HQ.out hb2)
      have hp3 := hp2 _ hb2
      replace x2 := cell_later hb2 x2
      replace d0 := cell_later hb2 d0
      replace d1 := cell_later hb2 d1
      replace d2 := cell_later hb2 d2
      clear hp hp2 hR2 hb2
      cases no
      · have HT3 : Hid (varsPs ((ps.take (k + 1)).filter fun p => !p.no) [] = varsA pa (varsPs ((ps.take k).filter fun p => !p.no) [])) := Lib.hid (by rw [HT2.out]; unfold varsPs; rw [List.foldl_append]; rfl)
        clear HT2
        go_wp2_with fail
        refine hp3.mono ?_
        rintro e w3 ⟨hb3, v3, b7, rfl, hR3, _⟩
        obtain ⟨A3, p3, rfl, _, _⟩ := sliceK_form hR3
        have HY := Lib.hid (And.intro hR3 (And.intro (strsK_good.below HX.out.1 hb3) (And.intro (HX.out.2.trans (hb3.mono HX.out.2.size)) (cell_later hb3 x2))))
        clear hp3 hR3 hb3 x2 d0 d1 d2
        go_wp2
        go_roundw
        case rel => exact ⟨k + 1, _, _, A2, A3, p2, p3, b6, b7, HLT.out, by go_num, rfl, rfl, by rw [HT.out], by rw [HT.out]; exact HY.out.2.1, by rw [HT3.out], by rw [HT3.out]; exact HY.out.1, HY.out.2.2.1, HY.out.2.2.2⟩
        case measure => have := HLT.out; simp [intOf]; omega
      · have HT3 : Hid (varsPs ((ps.take (k + 1)).filter fun p => !p.no) [] = varsPs ((ps.take k).filter fun p => !p.no) []) := Lib.hid (by rw [HT2.out]; simp)
        clear HT2 hp3 d1 d2
        go_wp2
        go_roundw
        case rel => exact ⟨k + 1, _, q, A2, Bv, p2, cq, b6, b5, HLT.out, by go_num, rfl, rfl, by rw [HT.out], by rw [HT.out]; exact HX.out.1, by rw [HT3.out]; exact HM.out.2, by rw [HT3.out]; exact HQ.out, HX.out.2, x2⟩
        case measure => have := HLT.out; simp [intOf]; omega
    · have he := Lib.hid (show k = ps.length by omega)
      have hk1 : ¬ (k : Int) < (ps.length : Int) := by omega
      have HG2 : Hid (G = decide (m = q)) := Lib.hid (by
        have h1 := HM.out.1
        have h2 := HM.out.2
        rw [he.out, List.take_of_length_le (Nat.le_refl _)] at h1 h2
        rw [HE.out, ← h1, ← h2])
      have HB := Lib.hid hb
      clear hR hQ hme hqe hb hps HE
      go_wp2
      go_ret
      exact ⟨ret_bool (by rw [HG2.out]; first | (simp; omega) | (by_cases hmq : m = q <;> simp [hmq] <;> omega)), HB.out⟩

theorem D.sumL_const {α : Type} (f : α → Nat) (c : Nat) (xs : List α) (h : ∀ x ∈ xs, f x ≤ c) : sumL f xs ≤ c * xs.length := by
  induction xs with
  | nil => simp [sumL]
  | cons x xs ih =>
    have e : sumL f (x :: xs) = f x + sumL f xs := by simp [sumL]
    have h1 := h x (List.mem_cons_self ..)
    have h2 := ih (fun y hy => h y (List.mem_cons_of_mem _ hy))
    rw [e, List.length_cons, Nat.mul_add]
    omega

set_option maxHeartbeats 1000000 in
theorem l1Rule_any (r : Ru) (c0 c1 c2 : Value) (bs : List Nat) (w : World) (h : ruleK w [c0, c1, c2] r bs) :
    Calls Tryz.prog 80 #[.agg #[c0, c1, c2]] w fun e w' => e = .returned (.bool (ruleOk r)) ∧ Below w.heap.size w w' := by
  obtain ⟨b1, b2, rfl, hp, hq⟩ := rule_parts h
  obtain ⟨Ad, cap, Ae, cape, rfl, rfl, rfl⟩ := rule_cells2 h
  obtain ⟨_, _, hv, hl, hm⟩ := sliceK_form hq
  have hlm := nat_ge_max (Nat.le_trans hl hm)
  have hok := fun w' (hb : Below w.heap.size w w') => atomOk_spec r.head _ _ b1 w' (atomK_good.below hp hb)
  have hr : ruleOk r = (decide (r.body.length ≤ 4) && r.body.all (fun p => atomOk p.atom) && atomOk r.head) := rfl
  rw [hr]
  clear h hp hv hl hm hr
  generalize atomOk r.head = b at *
  have hA := (Below.refl w.heap.size w).alloc (Nat.le_refl _) (.cells #[.string r.head.name, .slice Ad r.head.args.length cap, .slice Ae r.body.length cape] 53)
  go_enter Tryz.func80, Tryz.ntmps80
  go_wp2
  go_loopw [3] (fun i wr => ∃ k : Nat, k ≤ r.body.length ∧ i = .int .i64 k ∧ (r.body.take k).all (fun p => atomOk p.atom) = true ∧ Below w.heap.size w wr ∧ wr.cell? ⟨w.heap.size, 0, none⟩ = some (.string r.head.name) ∧ wr.cell? ⟨w.heap.size, 1, none⟩ = some (.slice Ad r.head.args.length cap) ∧ wr.cell? ⟨w.heap.size, 2, none⟩ = some (.slice Ae r.body.length cape) ∧ w.heap.size < wr.heap.size) (fun i _ => r.body.length - (intOf i).toNat)
  case atStart => exact ⟨0, Nat.zero_le _, rfl, rfl, hA, by go_simp, by go_simp, by go_simp, by simp⟩
  case round =>
    obtain ⟨k, hk, rfl, hall, hb, x0, x1, x2, hsz⟩ := hrel
    have HA := Lib.hid hall
    clear hall hA
    by_cases hlt : k < r.body.length
    · obtain ⟨bb, o, Af, cf, bk, rfl, _, d0, d1, d2, hel, _⟩ := parts_el (partsK_good.below hq hb) hlt
      have hat := part_atom hel
      clear hq hel
      go_wp2_with fail
      refine (atomOk_spec r.body[k].atom _ _ bk _ hat).mono ?_
      rintro e w' ⟨rfl, hb'⟩
      have B' := hb.trans (hb'.mono hb.size)
      have y0 := cell_later hb' x0
      have y1 := cell_later hb' x1
      have y2 := cell_later hb' x2
      have S' : w.heap.size < w'.heap.size := by have := hb'.size; omega
      clear hat x0 x1 x2
      by_cases hx : atomOk r.body[k].atom = true
      · have hx1 : (!atomOk r.body[k].atom) = false := by simp [hx]
        have HX := Lib.hid hx
        clear hx
        go_wp2
        go_roundw
        case rel => exact ⟨k + 1, by omega, by go_num, by rw [all_take_snoc r.body k hlt, HA.out]; exact HX.out, B', y0, y1, y2, S'⟩
        case measure => simp [intOf]; omega
      · have hx1 : (!atomOk r.body[k].atom) = true := by simpa using hx
        have HX := Lib.hid hx
        clear hx
        go_wp2
        go_ret
        exact ⟨ret_bool (by rw [all_bad r.body k hlt (by simpa using HX.out)]; simp), B'⟩
    · have he := Lib.hid (show k = r.body.length by omega)
      have ha : Hid (r.body.all (fun p => atomOk p.atom) = true) := by have := HA.out; rw [he.out, List.take_of_length_le (Nat.le_refl _)] at this; exact this
      go_wp2_with fail
      refine (hok _ hb).mono ?_
      rintro e w' ⟨rfl, hb'⟩
      have B' := hb.trans (hb'.mono hb.size)
      have y2 := cell_later hb' x2
      clear x0 x1 x2 hok
      cases b
      all_goals
        go_wp2
        go_ret
        exact ⟨ret_bool (by rw [ha.out]; first | (simp; done) | (rw [Bool.eq_iff_iff]; simp; omega)), B'⟩

set_option maxHeartbeats 400000 in
theorem l3Ground_any (a : A) (c0 c1 : Value) (bs : List Nat) (w : World) (h : atomK w [c0, c1] a bs) :
    Calls Tryz.prog 126 #[.agg #[c0, c1]] w fun e w' => e = .returned (.bool (isFactB a)) ∧ Below w.heap.size w w' := by
  have ht := atom_args h
  obtain ⟨Ad, cap, rfl, rfl⟩ := atom_cells2 h
  obtain ⟨_, _, hv, hl, hm⟩ := sliceK_form ht
  have hlm := nat_ge_max (Nat.le_trans hl hm)
  have k1 := fun w' (hb : Below w.heap.size w w') => atomOk_spec a _ _ bs w' (atomK_good.below h hb)
  have hf : isFactB a = (atomOk a && !anyVar a.args) := rfl
  have HF := Lib.hid hf
  clear h hv hl hm hf
  have hA := (Below.refl w.heap.size w).alloc (Nat.le_refl _) (.cells #[.string a.name, .slice Ad a.args.length cap] 33)
  go_enter Tryz.func126, Tryz.ntmps126
  go_wp2
  go_loopw [3] (fun i wr => ∃ k : Nat, k ≤ a.args.length ∧ i = .int .i64 k ∧ anyVar (a.args.take k) = false ∧ wr = w.alloc (.cells #[.string a.name, .slice Ad a.args.length cap] 33)) (fun i _ => a.args.length - (intOf i).toNat)
  case atStart => exact ⟨0, Nat.zero_le _, rfl, rfl, rfl⟩
  case round =>
    obtain ⟨k, hk, rfl, hall, rfl⟩ := hrel
    have HA := Lib.hid hall
    clear hall
    by_cases hlt : k < a.args.length
    · obtain ⟨b, o, rfl, _, d0, d1, _⟩ := terms_at (termsK_good.below ht ((Below.refl _ _).alloc (Nat.le_refl _) (.cells #[.string a.name, .slice Ad a.args.length cap] 33))) hlt
      clear ht
      cases hv : a.args[k].var
      · have HV := Lib.hid hv
        rw [hv] at d0
        clear hv
        go_wp2
        go_roundw
        case rel => exact ⟨k + 1, by omega, by go_num, by rw [anyVar_snoc a.args k hlt, HA.out, HV.out]; rfl, (by simp)⟩
        case measure => simp [intOf]; omega
      · have HV := Lib.hid (anyVar_bad a.args k hlt hv)
        rw [hv] at d0
        clear hv
        go_wp2
        go_ret
        exact ⟨ret_bool (by rw [HF.out, HV.out]; simp), hA⟩
    · have he := Lib.hid (show k = a.args.length by omega)
      go_wp2_with fail
      refine (k1 _ hA).mono ?_
      rintro e w' ⟨rfl, hb'⟩
      go_wp2
      go_ret
      exact ⟨ret_bool (by have := HA.out; rw [he.out, List.take_of_length_le (Nat.le_refl _)] at this; rw [HF.out, this]; simp), hA.trans (hb'.mono hA.size)⟩

end Go.Proofs.YtjjfafgaphloaaaGreatDoor
