/- The walks of l2Vars, l5Vars, l5Rule, l2Tight, spec.AskOk. -/
import Derived.WalkKit
import Derived.Lib.Hide
import Derived.WalkSpells
import Derived.WalkLawsBesides
import Derived.BigQuiet
import Derived.Deep.RegionHeld3
import Derived.Deep.RegionWith
import Derived.Deep.RegionLaw
import Derived.Deep.DrawnRows
import Derived.Deep.AppendLies
import Derived.Test.YtbcepahpehadeaaProg
import Derived.Test.YtbcepahpehadeaaSPut
import Derived.Test.YtbcepahpehadeaaAtom
namespace Go.Proofs.Ytbcepahpehadeaa
open Go.RowKit D
set_option linter.unusedVariables false
attribute [local go_sem ↓] Go.wp_at_zero Go.wp_at_succ

def D.varsTs (ts : List T) (out : List ByteArray) : List ByteArray := ts.foldl (fun o t => if t.var then putS o t.name else o) out
theorem D.varsTs_snoc (ts : List T) (k : Nat) (h : k < ts.length) (out : List ByteArray) : varsTs (ts.take (k + 1)) out = if ts[k].var then putS (varsTs (ts.take k) out) ts[k].name else varsTs (ts.take k) out := varsA_snoc ⟨ByteArray.empty, ts⟩ k h out
theorem D.strs_empty {w : World} {g : Nat} : strsK w [.slice (some ⟨g, 0, none⟩) 0 0] [] [] := ⟨_, 0, rfl, Nat.le_refl _, Nat.zero_le _, fun _ => rfl, fun h => absurd rfl h⟩

set_option maxHeartbeats 1000000 in
theorem l2Vars_any (a : A) (out : List ByteArray) (c0 c1 v : Value) (b1 b2 : List Nat) (w : World) (h : atomK w [c0, c1] a b1) (h2 : strsK w [v] out b2) (hn : out.length + a.args.length ≤ 16777216) :
    Calls Try.prog 41 #[.agg #[c0, c1], v] w (ReadsN (varsA a out) b2 w.heap.size w) := by
  have ht := atom_args h
  obtain ⟨Aa, ca, rfl, rfl⟩ := atom_cells2 h
  obtain ⟨As, cs, rfl, _, _⟩ := sliceK_form h2
  obtain ⟨_, _, e0', hl2, hm2⟩ := sliceK_form ht
  have hla := nat_ge_max (Nat.le_trans hl2 hm2)
  obtain ⟨an, args⟩ := a
  dsimp only at *
  have hA : Below w.heap.size w (w.alloc (.cells #[.string an, .slice Aa args.length ca] 35)) := (Below.refl _ _).alloc (Nat.le_refl _) _
  have x1 : (w.alloc (.cells #[.string an, .slice Aa args.length ca] 35)).cell? ⟨w.heap.size, 1, none⟩ = some (.slice Aa args.length ca) := by go_simp
  have HST := Lib.hid (And.intro (strsK_good.below h2 hA) (And.intro hA x1))
  have HE : Hid (varsA ⟨an, args⟩ out = varsTs args out) := Lib.hid rfl
  have HN := Lib.hid hn
  clear h h2 hl2 hm2 e0' hA x1 hn
  go_enter Try.func41, Try.ntmps41
  go_wp2
  go_loopw [1, 5] (fun v i wr => ∃ (k m : Nat) (Av : Option Addr) (cp : Nat) (b4 : List Nat), k ≤ args.length ∧ i = .int .i64 k ∧ v = .slice Av m cp ∧ m = (varsTs (args.take k) out).length ∧ strsK wr [.slice Av m cp] (varsTs (args.take k) out) b4 ∧ (∀ c ∈ b4, w.heap.size ≤ c ∨ c ∈ b2) ∧ Below w.heap.size w wr ∧ wr.cell? ⟨w.heap.size, 1, none⟩ = some (.slice Aa args.length ca)) (fun _ i _ => args.length - (intOf i).toNat)
  case atStart => exact ⟨0, out.length, As, cs, b2, Nat.zero_le _, rfl, rfl, rfl, HST.out.1, fun c hc => .inr hc, HST.out.2.1, HST.out.2.2⟩
  case round =>
    obtain ⟨k, m, Av, cp, b4, hk, rfl, rfl, hme, hR, hfar, hb, x1⟩ := hrel
    have HFR := Lib.hid hfar
    clear hfar
    clear HST
    have HM := Lib.hid hme
    by_cases hlt : k < args.length
    · obtain ⟨b, o, rfl, _, d0, d1, hsz⟩ := terms_at (termsK_good.below ht hb) hlt
      have hk0 : (0 : Int) ≤ (k : Int) := by omega
      have hk1 : (k : Int) < (args.length : Int) := by omega
      have HLT := Lib.hid hlt
      have hlen : (varsTs (args.take k) out).length ≤ 16777216 := by
        have h1 := varsTs_len (args.take k) out
        rw [List.length_take] at h1
        have := HN.out
        have h3 : (varsTs (args.take k) out).length ≤ out.length + min k args.length := h1
        omega
      have hp := l2Put_any (varsTs (args.take k) out) args[k].name _ b4 wr hR hsz hlen
      have HT := Lib.hid (varsTs_snoc args k hlt out)
      have HR := Lib.hid (And.intro hR hb)
      generalize args[k] = t at *
      obtain ⟨tv, tn⟩ := t
      dsimp only at *
      clear hme hR hb ht hlen hlt hk
      cases tv
      · have HT2 : Hid (varsTs (args.take (k + 1)) out = varsTs (args.take k) out) := Lib.hid (by rw [HT.out]; rfl)
        clear HT hp
        go_wp2
        go_roundw
        case rel => exact ⟨k + 1, m, Av, cp, b4, HLT.out, by go_num, rfl, by rw [HT2.out]; exact HM.out, by rw [HT2.out]; exact HR.out.1, HFR.out, HR.out.2, x1⟩
        case measure => have := HLT.out; simp [intOf]; omega
      · have HT2 : Hid (varsTs (args.take (k + 1)) out = putS (varsTs (args.take k) out) tn) := Lib.hid (by rw [HT.out]; rfl)
        clear HT
        go_wp2_with fail
        refine hp.mono ?_
        rintro e w2 ⟨hb2, v2, b5, rfl, hR2, hf2⟩
        obtain ⟨A2, p2, rfl, _, _⟩ := sliceK_form hR2
        have HX := Lib.hid (And.intro hR2 (And.intro (HR.out.2.trans (hb2.mono HR.out.2.size)) (cell_later hb2 x1)))
        have HF2 : Hid (∀ c ∈ b5, w.heap.size ≤ c ∨ c ∈ b2) := Lib.hid (fun c hc => (hf2 c hc).elim (fun h9 => .inl (Nat.le_trans HR.out.2.size h9)) (HFR.out c))
        clear hp hR2 hb2 x1 hf2
        go_wp2
        go_roundw
        case rel => exact ⟨k + 1, _, A2, p2, b5, HLT.out, by go_num, rfl, by rw [HT2.out], by rw [HT2.out]; exact HX.out.1, HF2.out, HX.out.2.1, HX.out.2.2⟩
        case measure => have := HLT.out; simp [intOf]; omega
    · have he := Lib.hid (show k = args.length by omega)
      have hk1 : ¬ (k : Int) < (args.length : Int) := by omega
      have HX : Hid (strsK wr [.slice Av m cp] (varsTs args out) b4) := Lib.hid (by rw [he.out, List.take_of_length_le (Nat.le_refl _)] at hR; exact hR)
      have HB := Lib.hid hb
      clear hR hme hb ht
      go_wp2
      go_ret
      exact ⟨HB.out, _, b4, rfl, by rw [HE.out]; exact HX.out, HFR.out⟩

theorem D.sumL_filter {α : Type} (f : α → Nat) (q : α → Bool) (xs : List α) : sumL f (xs.filter q) ≤ sumL f xs := by
  induction xs with
  | nil => simp [sumL]
  | cons x xs ih =>
    rw [List.filter_cons]
    have e : sumL f (x :: xs) = f x + sumL f xs := by simp [sumL]
    split
    · have e2 : sumL f (x :: xs.filter q) = f x + sumL f (xs.filter q) := by simp [sumL]
      omega
    · omega
theorem D.vars_bound {ps : List Pt} {m : Nat} (hs : sumL (fun p => p.atom.args.length) ps ≤ m) (k : Nat) (h : k < ps.length) (qs : List Pt) (hq : ∀ out, (varsPs qs out).length ≤ out.length + m) : (varsPs qs []).length + ps[k].atom.args.length ≤ 2 * m := by
  have h1 := hq []
  have h2 := sumL_at (fun p : Pt => p.atom.args.length) ps k h
  simp only [List.length_nil] at h1
  omega
theorem D.vars_take {ps : List Pt} {m : Nat} (hs : sumL (fun p => p.atom.args.length) ps ≤ m) (k : Nat) (out : List ByteArray) : (varsPs (ps.take k) out).length ≤ out.length + m := by
  have h1 := varsPs_len (ps.take k) out
  have h2 := sumL_take (fun p : Pt => p.atom.args.length) ps k
  omega

set_option maxHeartbeats 1000000 in
theorem l5Vars_any (ps : List Pt) (v : Value) (bs : List Nat) (w : World) (h : partsK w [v] ps bs) (hs : sumL (fun p => p.atom.args.length) ps ≤ 1000000) :
    Calls Try.prog 21 #[v] w (ReadsN (bodyVars ps) [] w.heap.size w) := by
  obtain ⟨Ad, cap, rfl, hl, hm⟩ := sliceK_form h
  have hlm := nat_ge_max (Nat.le_trans hl hm)
  have hA : Below w.heap.size w (w.alloc (.cells #[] 9)) := (Below.refl _ _).alloc (Nat.le_refl _) _
  have HA0 := Lib.hid hA
  have HE : Hid (bodyVars ps = varsPs ps []) := Lib.hid rfl
  have HS := Lib.hid hs
  clear hl hm hA hs
  go_enter Try.func21, Try.ntmps21
  go_wp2
  go_loopw [3, 4] (fun v i wr => ∃ (k m : Nat) (Av : Option Addr) (cp : Nat) (b4 : List Nat), k ≤ ps.length ∧ i = .int .i64 k ∧ v = .slice Av m cp ∧ m = (varsPs (ps.take k) []).length ∧ strsK wr [.slice Av m cp] (varsPs (ps.take k) []) b4 ∧ (∀ c ∈ b4, w.heap.size ≤ c) ∧ Below w.heap.size w wr) (fun _ i _ => ps.length - (intOf i).toNat)
  case atStart => exact ⟨0, 0, _, _, [], Nat.zero_le _, rfl, rfl, rfl, strs_empty, fun c hc => by simp at hc, HA0.out⟩
  case round =>
    obtain ⟨k, m, Av, cp, b4, hk, rfl, rfl, hme, hR, hfar, hb⟩ := hrel
    have HFR := Lib.hid hfar
    clear hfar
    clear HA0
    have HM := Lib.hid hme
    by_cases hlt : k < ps.length
    · obtain ⟨b, o, Ae, ce, bk, rfl, _, d0, d1, d2, hel, _⟩ := parts_el (partsK_good.below h hb) hlt
      have hk0 : (0 : Int) ≤ (k : Int) := by omega
      have hk1 : (k : Int) < (ps.length : Int) := by omega
      have HLT := Lib.hid hlt
      have hp := l2Vars_any ps[k].atom (varsPs (ps.take k) []) _ _ _ bk b4 wr (part_atom hel) hR (by have := vars_bound HS.out k hlt (ps.take k) (fun out => vars_take HS.out k out); omega)
      have HT := Lib.hid (varsPs_snoc ps k hlt [])
      have HB := Lib.hid hb
      generalize ps[k] = p at *
      clear hme hR hb h hel hlt hk
      go_wp2_with fail
      refine hp.mono ?_
      rintro e w2 ⟨hb2, v2, b5, rfl, hR2, hf2⟩
      obtain ⟨A2, p2, rfl, _, _⟩ := sliceK_form hR2
      have HX := Lib.hid (And.intro hR2 (HB.out.trans (hb2.mono HB.out.size)))
      have HF2 : Hid (∀ c ∈ b5, w.heap.size ≤ c) := Lib.hid (fun c hc => (hf2 c hc).elim (fun h9 => Nat.le_trans HB.out.size h9) (HFR.out c))
      clear hp hR2 hb2 hf2
      go_wp2
      go_roundw
      case rel => exact ⟨k + 1, _, A2, p2, b5, HLT.out, by go_num, rfl, by rw [HT.out], by rw [HT.out]; exact HX.out.1, HF2.out, HX.out.2⟩
      case measure => have := HLT.out; simp [intOf]; omega
    · have he := Lib.hid (show k = ps.length by omega)
      have hk1 : ¬ (k : Int) < (ps.length : Int) := by omega
      have HX : Hid (strsK wr [.slice Av m cp] (varsPs ps []) b4) := Lib.hid (by rw [he.out, List.take_of_length_le (Nat.le_refl _)] at hR; exact hR)
      have HB := Lib.hid hb
      clear hR hme hb h
      go_wp2
      go_ret
      exact ⟨HB.out, _, b4, rfl, by rw [HE.out]; exact HX.out, fun c hc => .inl (HFR.out c hc)⟩

set_option maxHeartbeats 2000000 in
theorem l2Tight_any (r : Ru) (c0 c1 c2 : Value) (bs : List Nat) (w : World) (h : ruleK w [c0, c1, c2] r bs) (hs : sumL (fun p => p.atom.args.length) r.body ≤ 1000000) (hh : r.head.args.length ≤ 1000000) :
    Calls Try.prog 40 #[.agg #[c0, c1, c2]] w fun e w' => e = .returned (.bool (tightB r.head r.body)) ∧ Below w.heap.size w w' := by
  obtain ⟨p1, p2, rfl, hat, hps⟩ := rule_parts h
  obtain ⟨Ad, cap, Ae, cape, rfl, rfl, rfl⟩ := rule_cells2 h
  obtain ⟨_, _, e0', hl2, hm2⟩ := sliceK_form hps
  have hlp := nat_ge_max (Nat.le_trans hl2 hm2)
  obtain ⟨hd, ps⟩ := r
  dsimp only at *
  have hA : Below w.heap.size w (w.alloc (.cells #[.string hd.name, .slice Ad hd.args.length cap, .slice Ae ps.length cape] 37)) := (Below.refl _ _).alloc (Nat.le_refl _) _
  have x2 : (w.alloc (.cells #[.string hd.name, .slice Ad hd.args.length cap, .slice Ae ps.length cape] 37)).cell? ⟨w.heap.size, 2, none⟩ = some (.slice Ae ps.length cape) := by go_simp
  have hA2 : Below w.heap.size w (((w.alloc (.cells #[.string hd.name, .slice Ad hd.args.length cap, .slice Ae ps.length cape] 37)).alloc (.cells #[] 9)).alloc (.cells #[] 9)) := (hA.alloc (by simp) _).alloc (by simp <;> omega) _
  have hv0 := l2Vars_any hd [] _ _ (.slice (some ⟨w.heap.size + 1 + 1, 0, none⟩) 0 0) p1 [] _ (atomK_good.below hat hA2) strs_empty (by simp; omega)
  have HE : Hid (tightB hd ps = decide ((varsPs ps (varsA hd [])).length = (varsPs (ps.filter fun p => !p.no) []).length)) := Lib.hid rfl
  have HS := Lib.hid hs
  have HH := Lib.hid hh
  have HA2 := Lib.hid hA2
  have HX2 := Lib.hid x2
  clear h hl2 hm2 e0' hA hs hh hat
  generalize tightB hd ps = G at *
  go_enter Try.func40, Try.ntmps40
  go_wp2_with fail
  refine hv0.mono ?_
  rintro e w1 ⟨hb1, v1, b4, rfl, hR1, _⟩
  obtain ⟨A1, p9, rfl, _, _⟩ := sliceK_form hR1
  have HR1 := Lib.hid (And.intro hR1 (And.intro (HA2.out.trans (hb1.mono HA2.out.size)) (cell_later hb1 (show ((((w.alloc (.cells #[.string hd.name, .slice Ad hd.args.length cap, .slice Ae ps.length cape] 37)).alloc (.cells #[] 9)).alloc (.cells #[] 9)).cell? ⟨w.heap.size, 2, none⟩ = some (.slice Ae ps.length cape)) by go_simp))))
  clear hv0 hR1 hb1 x2
  go_wp2
  go_loopw [3, 4, 5] (fun v3 v4 i wr => ∃ (k m q : Nat) (Av Bv : Option Addr) (cp cq : Nat) (b4 b5 : List Nat), k ≤ ps.length ∧ i = .int .i64 k ∧ v3 = .slice Bv q cq ∧ v4 = .slice Av m cp ∧ m = (varsPs (ps.take k) (varsA hd [])).length ∧ strsK wr [.slice Av m cp] (varsPs (ps.take k) (varsA hd [])) b4 ∧
    q = (varsPs ((ps.take k).filter fun p => !p.no) []).length ∧ strsK wr [.slice Bv q cq] (varsPs ((ps.take k).filter fun p => !p.no) []) b5 ∧ Below w.heap.size w wr ∧ wr.cell? ⟨w.heap.size, 2, none⟩ = some (.slice Ae ps.length cape)) (fun _ _ i _ => ps.length - (intOf i).toNat)
  case atStart => exact ⟨0, _, 0, A1, _, p9, _, b4, [], Nat.zero_le _, rfl, rfl, rfl, rfl, HR1.out.1, rfl, strs_empty, HR1.out.2.1, HR1.out.2.2⟩
  case round =>
    obtain ⟨k, m, q, Av, Bv, cp, cq, b4, b5, hk, rfl, rfl, rfl, hme, hR, hqe, hQ, hb, x2⟩ := hrel
    clear HR1
    have HM := Lib.hid (And.intro hme hqe)
    by_cases hlt : k < ps.length
    · obtain ⟨b, o, Aa, ce, bk, rfl, _, d0, d1, d2, hel, _⟩ := parts_el (partsK_good.below hps hb) hlt
      have hk0 : (0 : Int) ≤ (k : Int) := by omega
      have hk1 : (k : Int) < (ps.length : Int) := by omega
      have HLT := Lib.hid hlt
      have hal : (varsPs (ps.take k) (varsA hd [])).length + ps[k].atom.args.length ≤ 16777216 := by
        have h1 := vars_take HS.out k (varsA hd [])
        have h2 := varsA_len hd []
        have h3 := sumL_at (fun p : Pt => p.atom.args.length) ps k hlt
        have := HS.out
        have := HH.out
        simp only [List.length_nil] at h2
        omega
      have hbl : (varsPs ((ps.take k).filter fun p => !p.no) []).length + ps[k].atom.args.length ≤ 16777216 := by
        have h1 := varsPs_len ((ps.take k).filter fun p => !p.no) []
        have h4 := sumL_filter (fun p : Pt => p.atom.args.length) (fun p => !p.no) (ps.take k)
        have h5 := sumL_take (fun p : Pt => p.atom.args.length) ps k
        have h3 := sumL_at (fun p : Pt => p.atom.args.length) ps k hlt
        have := HS.out
        simp only [List.length_nil] at h1
        omega
      have hp := l2Vars_any ps[k].atom _ _ _ _ bk b4 wr (part_atom hel) hR hal
      have hp2 := fun w' (hb' : Below wr.heap.size wr w') => l2Vars_any ps[k].atom _ _ _ _ bk b5 w' (atomK_good.below (part_atom hel) hb') (strsK_good.below hQ hb') hbl
      have HT := Lib.hid (varsPs_snoc ps k hlt (varsA hd []))
      have HT2 := Lib.hid (filter_snoc ps k hlt)
      have HB := Lib.hid hb
      have HQ := Lib.hid hQ
      generalize ps[k] = p at *
      obtain ⟨no, pa⟩ := p
      dsimp only at *
      clear hme hqe hR hQ hb hps hel hlt hk hal hbl
      go_wp2_with fail
      refine hp.mono ?_
      rintro e w2 ⟨hb2, v2, b6, rfl, hR2, _⟩
      obtain ⟨A2, p2, rfl, _, _⟩ := sliceK_form hR2
      have HX := Lib.hid (And.intro hR2 (HB.out.trans (hb2.mono HB.out.size)))
      replace HQ := Lib.hid (strsK_good.below HQ.out hb2)
      have hp3 := hp2 _ hb2
      replace x2 := cell_later hb2 x2
      replace d0 := cell_later hb2 d0
      replace d1 := cell_later hb2 d1
      replace d2 := cell_later hb2 d2
      clear hp hp2 hR2 hb2
      cases no
      · have HT3 : Hid (varsPs ((ps.take (k + 1)).filter fun p => !p.no) [] = varsA pa (varsPs ((ps.take k).filter fun p => !p.no) [])) := Lib.hid (by rw [HT2.out]; unfold varsPs; rw [List.foldl_append]; rfl)
        clear HT2
        go_wp2_with fail
        refine hp3.mono ?_
        rintro e w3 ⟨hb3, v3, b7, rfl, hR3, _⟩
        obtain ⟨A3, p3, rfl, _, _⟩ := sliceK_form hR3
        have HY := Lib.hid (And.intro hR3 (And.intro (strsK_good.below HX.out.1 hb3) (And.intro (HX.out.2.trans (hb3.mono HX.out.2.size)) (cell_later hb3 x2))))
        clear hp3 hR3 hb3 x2 d0 d1 d2
        go_wp2
        go_roundw
        case rel => exact ⟨k + 1, _, _, A2, A3, p2, p3, b6, b7, HLT.out, by go_num, rfl, rfl, by rw [HT.out], by rw [HT.out]; exact HY.out.2.1, by rw [HT3.out], by rw [HT3.out]; exact HY.out.1, HY.out.2.2.1, HY.out.2.2.2⟩
        case measure => have := HLT.out; simp [intOf]; omega
      · have HT3 : Hid (varsPs ((ps.take (k + 1)).filter fun p => !p.no) [] = varsPs ((ps.take k).filter fun p => !p.no) []) := Lib.hid (by rw [HT2.out]; simp)
        clear HT2 hp3 d1 d2
        go_wp2
        go_roundw
        case rel => exact ⟨k + 1, _, q, A2, Bv, p2, cq, b6, b5, HLT.out, by go_num, rfl, rfl, by rw [HT.out], by rw [HT.out]; exact HX.out.1, by rw [HT3.out]; exact HM.out.2, by rw [HT3.out]; exact HQ.out, HX.out.2, x2⟩
        case measure => have := HLT.out; simp [intOf]; omega
    · have he := Lib.hid (show k = ps.length by omega)
      have hk1 : ¬ (k : Int) < (ps.length : Int) := by omega
      have HG2 : Hid (G = decide (m = q)) := Lib.hid (by
        have h1 := HM.out.1
        have h2 := HM.out.2
        rw [he.out, List.take_of_length_le (Nat.le_refl _)] at h1 h2
        rw [HE.out, ← h1, ← h2])
      have HB := Lib.hid hb
      clear hR hQ hme hqe hb hps HE
      go_wp2
      go_ret
      exact ⟨ret_bool (by rw [HG2.out]; first | (simp; omega) | (by_cases hmq : m = q <;> simp [hmq] <;> omega)), HB.out⟩

theorem infoTermR : (Try.prog.info? 61).map (fun i => (i.zero, i.size, i.bytes)) = some (some (.agg #[.bool false, .string ⟨#[]⟩]), 2, 24) := by kernel_rfl
/-- A rule under way: its box is block n1, the result's block is n0; the head's terms are a row from block B on. -/
structure D.RInv (w : World) (n0 n1 B : Nat) (nm : ByteArray) (v : Value) (L : List Value) (xs : List T) (sb : Value) (wr : World) : Prop where
  r0 : wr.heap[n0]? = some (.cells #[.string ⟨#[]⟩, .slice none 0 0, .slice none 0 0] 37 (0, 0))
  r1 : wr.heap[n1]? = some (.cells #[.string nm, v, sb] 37 (0, 0))
  h0 : w.heap.size ≤ n0
  h1 : w.heap.size ≤ n1
  ne : n0 ≠ n1
  hB : w.heap.size ≤ B
  coll : Coll 2 termK B 61 wr v L xs []
  bel : Below w.heap.size w wr
  siz : B ≤ wr.heap.size
section
variable {w : World} {n0 n1 B : Nat} {nm : ByteArray} {v sb : Value} {L : List Value} {xs : List T} {wr : World}
theorem D.RInv.later {w' : World} (h : RInv w n0 n1 B nm v L xs sb wr) (hb : Below wr.heap.size wr w') : RInv w n0 n1 B nm v L xs sb w' :=
  ⟨(hb.block n0 (lt_of_block h.r0)).trans h.r0, (hb.block n1 (lt_of_block h.r1)).trans h.r1, h.h0, h.h1, h.ne, h.hB, h.coll.below termK_good hb, h.bel.trans (hb.mono h.bel.size), Nat.le_trans h.siz hb.size⟩
theorem D.RInv.cell (h : RInv w n0 n1 B nm v L xs sb wr) : wr.cell? ⟨n1, 1, none⟩ = some v ∧ wr.frozen? ⟨n1, 1, none⟩ = false := ⟨cell_of_blk h.r1, frozen_of_blk h.r1⟩
theorem D.RInv.lit (s : ByteArray) (h : RInv w n0 n1 B nm v L xs sb wr) (hs : s.size ≤ maxLen) :
    Coll 2 termK B 61 (wr.alloc (.cells #[.bool true, .string s] 61)) v L xs [] ∧ Rowed 2 termK (wr.alloc (.cells #[.bool true, .string s] 61)) [.bool true, .string s] [⟨true, s⟩] [] ∧ Lies (wr.alloc (.cells #[.bool true, .string s] 61)) (some ⟨wr.heap.size, 0, none⟩) [.bool true, .string s] ∧
      Below B wr (wr.alloc (.cells #[.bool true, .string s] 61)) ∧ B ≤ (wr.alloc (.cells #[.bool true, .string s] 61)).heap.size := by
  have hA : Below wr.heap.size wr (wr.alloc (.cells #[.bool true, .string s] 61)) := (Below.refl _ _).alloc (Nat.le_refl _) _
  exact ⟨(h.later hA).coll, Rowed.one_el termK_ones ⟨rfl, hs, rfl⟩, lies_block (heap_alloc_new wr _), (Below.refl _ _).alloc h.siz _, Nat.le_trans h.siz hA.size⟩
theorem D.RInv.app {w3 : World} {o : Obj} {v3 : Value} {L3 : List Value} {xs3 : List T} {b4 : List Nat} {vs : Value} {vars : List ByteArray} (h : RInv w n0 n1 B nm v L xs sb wr) (hC : Coll 2 termK B 61 w3 v3 L3 xs3 []) (hb : Below B wr w3) (hG : (wr.alloc o).grownBy w3 v.ownBlock)
    (hv : strsK wr [vs] vars b4) (hf : ∀ c ∈ b4, c < B) (hn : n1 ∉ b4) (hnB : n1 < B) (hnB0 : n0 < B) :
    w3.cell? ⟨n1, 1, none⟩ = some v ∧ w3.frozen? ⟨n1, 1, none⟩ = false ∧ RInv w n0 n1 B nm v3 L3 xs3 sb (w3.setCell ⟨n1, 1, none⟩ v3) ∧ strsK (w3.setCell ⟨n1, 1, none⟩ v3) [vs] vars b4 := by
  have b0 := (hb.block n0 hnB0).trans h.r0
  have b1 := (hb.block n1 hnB).trans h.r1
  have e1 := blk_setG (o := 1) (u := v3) b1
  refine ⟨cell_of_blk b1, frozen_of_blk b1, ⟨(Below.heap_setCell _ _ _ _ h.ne).trans b0, e1, h.h0, h.h1, h.ne, h.hB, hC.setBox termK_good (own_ne_blk hC.own b1 (by decide)) (by simp), (h.bel.trans (hb.mono h.hB)).setCell h.h1 _, ?_⟩, ?_⟩
  · have := hb.size; simp [World.setCell]; exact Nat.le_trans h.siz this
  · refine strsK_good.keep hv fun c hc => ?_
    rw [Below.heap_setCell _ _ _ _ (by intro e; have e2 : c = n1 := e; exact hn (e2 ▸ hc))]
    exact hb.block c (hf c hc)
end
theorem D.termsOf_snoc (vars : List ByteArray) (k : Nat) (h : k < vars.length) : (vars.take (k + 1)).map (fun s => (⟨true, s⟩ : T)) = (vars.take k).map (fun s => (⟨true, s⟩ : T)) ++ [⟨true, vars[k]⟩] := by
  rw [List.take_succ_eq_append_getElem h, List.map_append]; rfl

theorem rule_done {w wr : World} {n1 B k cv cap : Nat} {nm : ByteArray} {Av Ad : Option Addr} {L : List Value} {xs : List T} {vars : List ByteArray} {ps : List Pt} {bs : List Nat} {hd : A} (h : RInv w w.heap.size n1 B nm (.slice Av k cv) L xs (.slice Ad ps.length cap) wr) (he : hd = ⟨nm, vars.map fun s => ⟨true, s⟩⟩) (hx : xs = vars.map fun s => ⟨true, s⟩) (hn : nm.size ≤ maxLen) (hp : partsK w [.slice Ad ps.length cap] ps bs) :
    ReadsA ruleK ⟨hd, ps⟩ w.heap.size w (.returned (.agg #[.string nm, .slice Av k cv, .slice Ad ps.length cap])) (((wr.setCell ⟨w.heap.size, 0, none⟩ (.string nm)).setCell ⟨w.heap.size, 1, none⟩ (.slice Av k cv)).setCell ⟨w.heap.size, 2, none⟩ (.slice Ad ps.length cap)) := by
  subst he hx
  have e1 := h.coll.setBox (o := 0) (u := .string nm) termK_good (own_ne_blk h.coll.own h.r0 (by decide)) (by simp)
  have e2 := e1.setBox (o := 1) (u := .slice Av k cv) termK_good (own_ne_blk h.coll.own h.r0 (by decide)) (by simp)
  have e3 := e2.setBox (o := 2) (u := .slice Ad ps.length cap) termK_good (own_ne_blk h.coll.own h.r0 (by decide)) (by simp)
  obtain ⟨b9, hs, _⟩ := e3.slice
  have hB := ((h.bel.setCell (p := ⟨w.heap.size, 0, none⟩) (Nat.le_refl _) (.string nm)).setCell (p := ⟨w.heap.size, 1, none⟩) (Nat.le_refl _) (.slice Av k cv)).setCell (p := ⟨w.heap.size, 2, none⟩) (Nat.le_refl _) (.slice Ad ps.length cap)
  exact ⟨hB, _, b9 ++ bs, rfl, ⟨_, _, b9, bs, rfl, hn, rfl, hs, partsK_good.below hp hB⟩⟩

set_option maxRecDepth 100000 in
set_option maxHeartbeats 2000000 in
theorem l5Rule_any (nm : ByteArray) (ps : List Pt) (v : Value) (bs : List Nat) (w : World) (h : partsK w [v] ps bs) (hnm : nm.size ≤ maxLen) (hs : sumL (fun p => p.atom.args.length) ps ≤ 1000000) :
    Calls Try.prog 29 #[.string nm, v] w (ReadsA ruleK ⟨headOf nm ps, ps⟩ w.heap.size w) := by
  obtain ⟨Ad, cap, rfl, hl, hm⟩ := sliceK_form h
  obtain ⟨i0, hi, hz0, hz1, hz2⟩ := info_parts infoTermR
  have hlm := nat_ge_max (Nat.le_trans hl hm)
  have hA : Below w.heap.size w ((w.alloc (.cells #[.string ⟨#[]⟩, .slice none 0 0, .slice none 0 0] 37)).alloc (.cells #[.string nm, .slice none 0 0, .slice Ad ps.length cap] 37)) := ((Below.refl _ _).alloc (Nat.le_refl _) _).alloc (by simp) _
  have ht := heap_two w (.cells #[.string ⟨#[]⟩, .slice none 0 0, .slice none 0 0] 37) (.cells #[.string nm, .slice none 0 0, .slice Ad ps.length cap] 37)
  have hv0 := l5Vars_any ps _ bs _ (partsK_good.below h hA) hs
  have HBL : Hid ((bodyVars ps).length ≤ 1000000) := Lib.hid (by have := varsPs_len ps []; simp only [List.length_nil] at this; show (varsPs ps []).length ≤ _; omega)
  have HE : Hid (headOf nm ps = ⟨nm, (bodyVars ps).map fun s => ⟨true, s⟩⟩) := Lib.hid rfl
  have HI0 : Hid (RInv w w.heap.size (w.heap.size + 1) (w.heap.size + 2) nm (.slice none 0 0) [] [] (.slice Ad ps.length cap) ((w.alloc (.cells #[.string ⟨#[]⟩, .slice none 0 0, .slice none 0 0] 37)).alloc (.cells #[.string nm, .slice none 0 0, .slice Ad ps.length cap] 37))) :=
    Lib.hid ⟨ht.1, ht.2, Nat.le_refl _, Nat.le_succ _, by omega, by omega, Coll.nil _, hA, by simp⟩
  have HH := Lib.hid h
  have HNM := Lib.hid hnm
  clear hl hm hA h ht hs hnm
  generalize bodyVars ps = vars at *
  generalize headOf nm ps = hd at *
  go_enter Try.func29, Try.ntmps29
  go_wp2_with fail
  refine hv0.mono ?_
  rintro e w1 ⟨hb1, v1, b4, rfl, hR1, hf1⟩
  obtain ⟨A1, p1, rfl, hl1, hm1⟩ := sliceK_form hR1
  have hI1 := HI0.out.later hb1
  have HI1 : Hid (RInv w w.heap.size (w.heap.size + 1) w1.heap.size nm (.slice none 0 0) [] [] (.slice Ad ps.length cap) w1) := Lib.hid ⟨hI1.r0, hI1.r1, hI1.h0, hI1.h1, hI1.ne, hI1.bel.size, Coll.nil _, hI1.bel, Nat.le_refl _⟩
  have HF : Hid ((∀ c ∈ b4, c < w1.heap.size) ∧ (w.heap.size + 1) ∉ b4 ∧ w.heap.size + 1 < w1.heap.size) := Lib.hid ⟨strsK_good.lt hR1, fun hc => by have := (hf1 _ hc).resolve_right (by simp); simp only [World.size_alloc] at this; omega, lt_of_block hI1.r1⟩
  have HR1 := Lib.hid hR1
  have hlv : vars.length ≤ 1000000 := HBL.out
  clear hv0 hR1 hf1 hb1 hI1 HI0 hl1 hm1
  go_wp2
  go_loopw [7] (fun i wr => ∃ (k : Nat) (Av : Option Addr) (cv : Nat) (L : List Value), k ≤ vars.length ∧ i = .int .i64 k ∧ RInv w w.heap.size (w.heap.size + 1) w1.heap.size nm (.slice Av k cv) L ((vars.take k).map fun s => ⟨true, s⟩) (.slice Ad ps.length cap) wr ∧ strsK wr [.slice A1 vars.length p1] vars b4) (fun i _ => vars.length - (intOf i).toNat)
  case atStart => exact ⟨0, none, 0, [], Nat.zero_le _, rfl, HI1.out, HR1.out⟩
  case round =>
    obtain ⟨k, Av, cv, L, hk, rfl, hI, hR⟩ := hrel
    clear HI1 HR1
    by_cases hlt : k < vars.length
    · obtain ⟨b, o, rfl, _, e0, hsz⟩ := strs_at hR hlt
      have hk0 : (0 : Int) ≤ (k : Int) := by omega
      have hk1 : (k : Int) < (vars.length : Int) := by omega
      have hk9 : (k : Int) ≤ 1000000 := by omega
      have HLT := Lib.hid hlt
      have HT := Lib.hid (termsOf_snoc vars k hlt)
      have hD : Below wr.heap.size wr wr.drew := (Below.refl _ _).drew
      have HI := Lib.hid (hI.later hD)
      have HR := Lib.hid (strsK_good.below hR hD)
      have q1 : wr.cell? ⟨w.heap.size + 1, 1, none⟩ = some (.slice Av k cv) := hI.cell.1
      have q2 : wr.frozen? ⟨w.heap.size + 1, 1, none⟩ = false := hI.cell.2
      have q3 : w.heap.size + 1 < wr.heap.size := lt_of_cell q1
      have q4 : b < wr.heap.size := lt_of_cell e0
      have HL := Lib.hid (HI.out.lit vars[k] hsz)
      have H63 : Hid (k + 1 ≤ maxLen) := Lib.hid (by unfold maxLen; omega)
      have HBY : Hid ((k + 1) * 24 ≤ 140737488355328) := Lib.hid (by omega)
      have hlm : ((vars.take k).map fun s => (⟨true, s⟩ : T)).length = k := by simp; omega
      have HLM := Lib.hid hlm
      generalize vars[k] = s at *
      clear hI hR hlt hk hlm hD
      go_wp2
      go_region_law
        (first
          | (refine step_coll (by rfl) (.tmp 22) (.tmp 28) _ (by rfl) w1.heap.size 61 i0 (.agg #[.bool false, .string ⟨#[]⟩]) 2 24 Try.underlying33 hi hz0 hz1 hz2 rfl (Nat.zero_lt_succ 1) termK_good (.slice Av k cv) k L _ [] (by rfl) HL.out.1 HLM.out (some ⟨wr.heap.size, 0, none⟩) 1 1 _ [⟨true, s⟩] _ (by rfl) HL.out.2.1 rfl HL.out.2.2.1 (fun b hb => by simp at hb) H63.out HBY.out wr.drew w1.heap.size HL.out.2.2.2.1 (Nat.le_refl _) HL.out.2.2.2.2 ?_; intro A3 c3 w3 hC3 hB3 hS3 hG3; have HZ := Lib.hid (HI.out.app hC3 hB3 hG3 HR.out HF.out.1 HF.out.2.1 HF.out.2.2 (by have := HF.out.2.2; omega)); replace q1 := HZ.out.1; replace q2 := HZ.out.2.1; clear hC3 hB3 hS3 hG3))
      all_goals
        have HI9 := Lib.hid HZ.out.2.2
        clear HI HL HZ q1 q2 q3 q4 e0
        go_wp2
        go_roundw
        case rel => exact ⟨k + 1, A3, c3, _, HLT.out, by go_num, by rw [HT.out]; exact HI9.out.1, HI9.out.2⟩
        case measure => have := HLT.out; simp [intOf]; omega
    · have he : k = vars.length := by omega
      have hk1 : ¬ (k : Int) < (vars.length : Int) := by omega
      have z0 : wr.cell? ⟨w.heap.size, 0, none⟩ = some (.string ⟨#[]⟩) := cell_of_blk hI.r0
      have z1 : wr.cell? ⟨w.heap.size, 1, none⟩ = some (.slice none 0 0) := cell_of_blk hI.r0
      have z2 : wr.cell? ⟨w.heap.size, 2, none⟩ = some (.slice none 0 0) := cell_of_blk hI.r0
      have f0 : wr.frozen? ⟨w.heap.size, 0, none⟩ = false := frozen_of_blk hI.r0
      have f1 : wr.frozen? ⟨w.heap.size, 1, none⟩ = false := frozen_of_blk hI.r0
      have f2 : wr.frozen? ⟨w.heap.size, 2, none⟩ = false := frozen_of_blk hI.r0
      have y0 : wr.cell? ⟨w.heap.size + 1, 0, none⟩ = some (.string nm) := cell_of_blk hI.r1
      have y1 : wr.cell? ⟨w.heap.size + 1, 1, none⟩ = some (.slice Av k cv) := cell_of_blk hI.r1
      have y2 : wr.cell? ⟨w.heap.size + 1, 2, none⟩ = some (.slice Ad ps.length cap) := cell_of_blk hI.r1
      have HD := Lib.hid (rule_done hI HE.out (by rw [he, List.take_of_length_le (Nat.le_refl _)]) HNM.out HH.out)
      rw [← he] at hk1 hlv ⊢
      clear hI hR he hlt hk HH
      go_wp2
      refine bodyPost_ret (v := .agg #[.string nm, .slice Av k cv, .slice Ad ps.length cap]) (by simp [results, Try.results29, go_sem, z0, z1, z2]) rfl HD.out

theorem D.atomOk_args {a : A} (h : atomOk a = true) : a.args.length ≤ 3 := by
  unfold atomOk at h
  simp only [Bool.and_eq_true, decide_eq_true_eq] at h
  exact h.1.2
theorem D.sumL_const {α : Type} (f : α → Nat) (c : Nat) (xs : List α) (h : ∀ x ∈ xs, f x ≤ c) : sumL f xs ≤ c * xs.length := by
  induction xs with
  | nil => simp [sumL]
  | cons x xs ih =>
    have e : sumL f (x :: xs) = f x + sumL f xs := by simp [sumL]
    have h1 := h x (List.mem_cons_self ..)
    have h2 := ih (fun y hy => h y (List.mem_cons_of_mem _ hy))
    rw [e, List.length_cons, Nat.mul_add]
    omega
theorem D.askOk_all {ps : List Pt} (h : (ps.all fun p => atomOk p.atom) = true) : askOk ps = (decide ((1 : Int) ≤ (ps.length : Int)) && decide ((ps.length : Int) ≤ 4) && tightB (headOf ⟨#[120]⟩ ps) ps) := by
  unfold askOk
  rw [h, tight_head]
  have e1 : decide ((1 : Int) ≤ (ps.length : Int)) = decide (0 < ps.length) := by simp; omega
  have e2 : decide ((ps.length : Int) ≤ 4) = decide (ps.length ≤ 4) := by simp; omega
  rw [e1, e2, Bool.and_true]

set_option maxHeartbeats 1000000 in
theorem askOk_spec (ps : List Pt) (v : Value) (bs : List Nat) (w : World) (h : partsK w [v] ps bs) :
    Calls Try.prog 20 #[v] w fun e w' => e = .returned (.bool (askOk ps)) ∧ Below w.heap.size w w' := by
  obtain ⟨Ad, cap, rfl, hl, hm⟩ := sliceK_form h
  have hlm := nat_ge_max (Nat.le_trans hl hm)
  have HBad : Hid ((ps.all fun p => atomOk p.atom) = false → askOk ps = false) := Lib.hid (fun e => by unfold askOk; rw [e]; simp)
  have HGood : Hid ((ps.all fun p => atomOk p.atom) = true → askOk ps = (decide ((1 : Int) ≤ (ps.length : Int)) && decide ((ps.length : Int) ≤ 4) && tightB (headOf ⟨#[120]⟩ ps) ps)) := Lib.hid askOk_all
  clear hl hm
  generalize askOk ps = G at *
  go_enter Try.func20, Try.ntmps20
  go_wp2
  go_loopw [3] (fun i wr => ∃ k : Nat, k ≤ ps.length ∧ i = .int .i64 k ∧ (ps.take k).all (fun p => atomOk p.atom) = true ∧ Below w.heap.size w wr) (fun i _ => ps.length - (intOf i).toNat)
  case atStart => exact ⟨0, Nat.zero_le _, rfl, rfl, Below.refl _ _⟩
  case round =>
    obtain ⟨k, hk, rfl, hall, hb⟩ := hrel
    have HA := Lib.hid hall
    clear hall
    by_cases hlt : k < ps.length
    · obtain ⟨b, o, Ae, ce, bk, rfl, _, d0, d1, d2, hel, _⟩ := parts_el (partsK_good.below h hb) hlt
      have hk0 : (0 : Int) ≤ (k : Int) := by omega
      have hk1 : (k : Int) < (ps.length : Int) := by omega
      have HLT := Lib.hid hlt
      have hc := atomOk_spec ps[k].atom _ _ bk wr (part_atom hel)
      have HY : Hid (atomOk ps[k].atom = true → (ps.take (k + 1)).all (fun p => atomOk p.atom) = true) := Lib.hid (fun e => by rw [all_take_snoc ps k hlt, HA.out]; show (true && atomOk ps[k].atom) = true; rw [e]; rfl)
      have HN : Hid (atomOk ps[k].atom = false → G = false) := Lib.hid (fun e => HBad.out (all_bad ps k hlt e))
      have HB := Lib.hid hb
      generalize atomOk ps[k].atom = r at *
      generalize ps[k] = p at *
      clear h hel hb hlt hk
      go_wp2_with fail
      refine hc.mono ?_
      rintro e w1 ⟨rfl, hb1⟩
      have HB1 := Lib.hid (HB.out.trans (hb1.mono HB.out.size))
      clear hc hb1 d0 d1 d2
      cases r
      · have HN2 := Lib.hid (HN.out rfl)
        clear HN HY
        go_wp2
        go_ret
        exact ⟨ret_bool HN2.out.symm, HB1.out⟩
      · have HY2 := Lib.hid (HY.out rfl)
        clear HN HY
        go_wp2
        go_roundw
        case rel => exact ⟨k + 1, HLT.out, by go_num, HY2.out, HB1.out⟩
        case measure => have := HLT.out; simp [intOf]; omega
    · have he : k = ps.length := by omega
      have hk1 : ¬ (k : Int) < (ps.length : Int) := by omega
      have hal : (ps.all fun p => atomOk p.atom) = true := by have := HA.out; rw [he, List.take_of_length_le (Nat.le_refl _)] at this; exact this
      have HG := Lib.hid (HGood.out hal)
      have hin := in_any (ps.length : Int) 1 4 wr
      have hr := fun (hl : ps.length ≤ 4) => l5Rule_any ⟨#[120]⟩ ps _ bs wr (partsK_good.below h hb) (by decide) (by
        have := sumL_const (fun p : Pt => p.atom.args.length) 3 ps (fun p hp => atomOk_args (List.all_eq_true.1 hal p hp))
        omega)
      have HSM : Hid (ps.length ≤ 4 → sumL (fun p => p.atom.args.length) ps ≤ 1000000 ∧ (headOf ⟨#[120]⟩ ps).args.length ≤ 1000000) := Lib.hid (fun hl => by
        have h1 := sumL_const (fun p : Pt => p.atom.args.length) 3 ps (fun p hp => atomOk_args (List.all_eq_true.1 hal p hp))
        have h2 := varsPs_len ps []
        simp only [List.length_nil] at h2
        refine ⟨by omega, ?_⟩
        show ((bodyVars ps).map _).length ≤ _
        rw [List.length_map]
        show (varsPs ps []).length ≤ _
        omega)
      have HB := Lib.hid hb
      clear h hb hk he hal HA HBad HGood
      by_cases h1 : (1 : Int) ≤ (ps.length : Int)
      · by_cases h2 : (ps.length : Int) ≤ 4
        · have hl4 : ps.length ≤ 4 := by omega
          have hr2 := hr hl4
          have hsm := HSM.out hl4
          have HG2 : Hid (G = tightB (headOf ⟨#[120]⟩ ps) ps) := Lib.hid (by rw [HG.out, decide_eq_true h1, decide_eq_true h2]; rfl)
          rw [decide_eq_true h1, decide_eq_true h2] at hin
          have HS3 := Lib.hid hsm
          clear h1 h2 hr hsm hl4 HG
          go_wp2_with fail
          refine hin.mono ?_
          rintro e w1 ⟨rfl, rfl⟩
          clear hin
          go_wp2_with fail
          refine hr2.mono ?_
          rintro e w2 ⟨hb2, cs2, b2, rfl, hR2⟩
          obtain ⟨A2, c2, A3, c3, rfl⟩ := rule_cells hR2
          have ht := l2Tight_any ⟨headOf ⟨#[120]⟩ ps, ps⟩ _ _ _ b2 w2 hR2 HS3.out.1 HS3.out.2
          have HB2 := Lib.hid (HB.out.trans (hb2.mono HB.out.size))
          clear hr2 hR2 hb2
          go_wp2_with fail
          refine ht.mono ?_
          rintro e w3 ⟨rfl, hb3⟩
          have HB3 := Lib.hid (HB2.out.trans (hb3.mono HB2.out.size))
          clear ht hb3
          go_wp2
          go_ret
          exact ⟨ret_bool HG2.out.symm, HB3.out⟩
        · have HG2 : Hid (G = false) := Lib.hid (by rw [HG.out, decide_eq_false h2]; simp)
          rw [decide_eq_true h1, decide_eq_false h2] at hin
          clear h1 h2 hr HG
          go_wp2_with fail
          refine hin.mono ?_
          rintro e w1 ⟨rfl, rfl⟩
          clear hin
          go_wp2
          go_ret
          exact ⟨ret_bool HG2.out.symm, HB.out⟩
      · have HG2 : Hid (G = false) := Lib.hid (by rw [HG.out, decide_eq_false h1]; simp)
        rw [decide_eq_false h1] at hin
        clear h1 hr HG
        go_wp2_with fail
        refine hin.mono ?_
        rintro e w1 ⟨rfl, rfl⟩
        clear hin
        go_wp2
        go_ret
        exact ⟨ret_bool HG2.out.symm, HB.out⟩

end Go.Proofs.Ytbcepahpehadeaa
