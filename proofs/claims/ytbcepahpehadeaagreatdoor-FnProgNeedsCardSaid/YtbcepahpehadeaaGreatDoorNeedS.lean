/- The walks of spec.l2Needs and spec.ProgNeeds. -/
import Derived.WalkKit
import Derived.Lib.Hide
import Derived.WalkSpells
import Derived.WalkLawsBesides
import Derived.BigQuiet
import Derived.Test.YtbcepahpehadeaaGreatDoorProg
import Derived.Test.YtbcepahpehadeaaGreatDoorNamS
import Derived.Test.YtbcepahpehadeaaGreatDoorNeedI
namespace Go.Proofs.YtbcepahpehadeaaGreatDoor
open Go.RowKit D
set_option linter.unusedVariables false
attribute [local go_sem ↓] Go.wp_at_zero Go.wp_at_succ

/-- What a call of l2Needs leaves. -/
def D.NeedsQ (rs : List Ru) (s : ByteArray) (out : List ByteArray) (w : World) (e : Ending) (w' : World) : Prop :=
  Below w.heap.size w w' ∧ ∃ v bs out', e = .returned v ∧ strsK w' [v] out' bs ∧ Dfs rs s out out' ∧ ∀ x ∈ out', x ∈ allNames rs

set_option maxRecDepth 100000 in
set_option maxHeartbeats 4000000 in
theorem l2Needs_any (rs : List Ru) (v : Value) (bs : List Nat) (hU : (allNames rs).length ≤ 1000000) : ∀ (m : Nat) (s : ByteArray) (out : List ByteArray) (vo : Value) (bo : List Nat) (w : World), rulesK w [v] rs bs → strsK w [vo] out bo → ascS out →
    (∀ x ∈ out, x ∈ allNames rs) → s ∈ allNames rs → s.size ≤ maxLen → unmet (allNames rs) out ≤ m →
    Calls Tryz.prog 47 #[v, .string s, vo] w (NeedsQ rs s out w) := by
  intro m
  induction m with
  | zero =>
    intro s out vo bo w h ho ha hsub hs hsz hm
    have hmem : s ∈ out := Classical.byContradiction fun hn => by
      have := unmet_lt (out' := putS out s) hs hn ((putS_mem out s s).2 (.inr rfl)) fun x hx => (putS_mem out s x).2 (.inl hx)
      omega
    have c1 := l2Has_any out s vo bo w ho
    rw [decide_eq_true hmem] at c1
    have HZ := Lib.hid fun w' (hb : Below w.heap.size w w') => (show NeedsQ rs s out w (.returned vo) w' from ⟨hb, vo, bo, out, rfl, strsK_good.below ho hb, dfs_skip ha hmem, hsub⟩)
    clear h ho ha hsub hs hm hmem
    go_enter Tryz.func47, Tryz.ntmps47
    go_wp2_with fail
    refine c1.mono ?_
    rintro e w1 ⟨rfl, hb⟩
    go_wp2
    go_ret
    exact HZ.out _ hb
  | succ m ih =>
    intro s out vo bo w h ho ha hsub hs hsz hm
    have c1 := l2Has_any out s vo bo w ho
    by_cases hmem : s ∈ out
    · rw [decide_eq_true hmem] at c1
      have HZ := Lib.hid fun w' (hb : Below w.heap.size w w') => (show NeedsQ rs s out w (.returned vo) w' from ⟨hb, vo, bo, out, rfl, strsK_good.below ho hb, dfs_skip ha hmem, hsub⟩)
      clear ih h ho ha hsub hs hm hmem
      go_enter Tryz.func47, Tryz.ntmps47
      go_wp2_with fail
      refine c1.mono ?_
      rintro e w1 ⟨rfl, hb⟩
      go_wp2
      go_ret
      exact HZ.out _ hb
    · rw [decide_eq_false hmem] at c1
      obtain ⟨Ad, cap, rfl, hl, hm9⟩ := sliceK_form h
      have hlm := nat_ge_max (Nat.le_trans hl hm9)
      have hol : out.length ≤ 16777216 := by have := asc_few ha hsub; omega
      have C2 := Lib.hid fun w' (hb : Below w.heap.size w w') => l2Put_any out s vo bo w' (strsK_good.below ho hb) hsz hol
      have HS0 := Lib.hid (dfi_start (rs := rs) ha hmem)
      have HSB : Hid (∀ x ∈ putS out s, x ∈ allNames rs) := Lib.hid fun x hx => by
        rcases (putS_mem out s x).1 hx with h | rfl
        · exact hsub x h
        · exact hs
      have HUN : Hid (∀ cur, (∀ x ∈ out, x ∈ cur) → s ∈ cur → unmet (allNames rs) cur ≤ m) := Lib.hid fun cur h1 h2 => by
        have := unmet_lt hs hmem h2 h1
        omega
      have IH := Lib.hid ih
      have HR := Lib.hid h
      clear ih h ho ha hsub hs hm hmem hl hm9 hol hU
      go_enter Tryz.func47, Tryz.ntmps47
      go_wp2_with fail
      refine c1.mono ?_
      rintro e w1 ⟨rfl, hb1⟩
      clear c1
      go_wp2_with fail
      refine (C2.out _ hb1).mono ?_
      rintro e w2 ⟨hb2, v2, b2, rfl, hR2, _⟩
      obtain ⟨A2, cp2, rfl, _, _⟩ := sliceK_form hR2
      have HR2 := Lib.hid hR2
      have HB2 := Lib.hid (hb1.trans (hb2.mono hb1.size))
      clear hR2 hb1 hb2 C2
      go_wp2
      go_loopw [2, 7] (fun vo i wr => ∃ (k : Nat) (Av : Option Addr) (cp : Nat) (cur : List ByteArray) (bc : List Nat), k ≤ rs.length ∧ i = .int .i64 k ∧ vo = .slice Av cur.length cp ∧ strsK wr [.slice Av cur.length cp] cur bc ∧ Dfi rs s out k 0 cur ∧ (∀ x ∈ cur, x ∈ allNames rs) ∧ Below w.heap.size w wr) (fun _ i _ => rs.length - (intOf i).toNat)
      case atStart => exact ⟨0, A2, cp2, _, b2, Nat.zero_le _, rfl, rfl, HR2.out, HS0.out, HSB.out, HB2.out⟩
      case round =>
        clear HR2 HS0 HSB HB2
        obtain ⟨k, Av, cp, cur, bc, hk, rfl, rfl, hS, hD, hsb, hb⟩ := hrel
        by_cases hlt : k < rs.length
        · obtain ⟨b, o, Ae, ce, Af, cf, bk, rfl, _, d0, d1, d2, hel, _⟩ := rules_el HR.out hlt
          obtain ⟨_, bb, _, _, hbd⟩ := rule_parts hel
          have HBO := Lib.hid hbd
          have D0 := Lib.hid d0
          have D2 := Lib.hid d2
          have hk0 : (0 : Int) ≤ (k : Int) := by omega
          have hk1 : (k : Int) < (rs.length : Int) := by omega
          have HROW : Hid (∀ j cur, Dfi rs s out k j cur → (rs[k].head.name = s → rs[k].body.length ≤ j) → Dfi rs s out (k + 1) 0 cur) := Lib.hid fun j cur h1 h2 => dfi_row h1 hlt h2
          have HSTEP : Hid (∀ j cur cur', (hj : j < rs[k].body.length) → Dfi rs s out k j cur → rs[k].head.name = s → Dfs rs rs[k].body[j].atom.name cur cur' → Dfi rs s out k (j + 1) cur') := Lib.hid fun j cur cur' hj h1 h2 h3 => dfi_step h1 hlt h2 hj h3
          have HBN : Hid (∀ p ∈ rs[k].body, p.atom.name ∈ allNames rs) := Lib.hid fun p hp => body_name (List.getElem_mem hlt) hp
          obtain ⟨Ax, cx, hfx, hlx, hmx⟩ := sliceK_form hbd
          have hlb := nat_ge_max (Nat.le_trans hlx hmx)
          have HS := Lib.hid hS
          have HD := Lib.hid hD
          have HSB := Lib.hid hsb
          have HB := Lib.hid hb
          clear d0 d1 d2 hel hbd hS hD hsb hb hfx hlx hmx
          have HLT := Lib.hid hlt
          generalize rs[k] = r at *
          clear hlt
          obtain ⟨⟨nm, args⟩, body⟩ := r
          dsimp only at *
          go_wp2
          go_loopw [2, 8] (fun vo i wr => ∃ (j : Nat) (Av : Option Addr) (cp : Nat) (cur : List ByteArray) (bc : List Nat), j ≤ body.length ∧ i = .int .i64 j ∧ vo = .slice Av cur.length cp ∧ strsK wr [.slice Av cur.length cp] cur bc ∧ Dfi rs s out k j cur ∧ (∀ x ∈ cur, x ∈ allNames rs) ∧ Below w.heap.size w wr) (fun _ i _ => body.length - (intOf i).toNat)
          case atStart => exact ⟨0, Av, cp, cur, bc, Nat.zero_le _, rfl, rfl, HS.out, HD.out, HSB.out, HB.out⟩
          case round =>
            clear HS HD HSB HB
            obtain ⟨j, Aw, cq, cu, bu, hj, rfl, rfl, hS, hD, hsb, hb⟩ := hrel
            have d0 := cell_later hb D0.out
            have d2 := cell_later hb D2.out
            by_cases hjl : j < body.length
            · have hj0 : (0 : Int) ≤ (j : Int) := by omega
              have hj1 : (j : Int) < (body.length : Int) := by omega
              cases hq : (nm.toList == s.toList)
              · have hne : nm ≠ s := fun e => by rw [e] at hq; simp at hq
                have HZ := Lib.hid (HROW.out j cu hD fun e => absurd e hne)
                have HS := Lib.hid hS
                have HSB := Lib.hid hsb
                have HB := Lib.hid hb
                clear hS hD hsb hb hne
                go_wp2
                go_roundw
                case rel => exact ⟨k + 1, Aw, cq, cu, bu, HLT.out, by go_num, rfl, HS.out, HZ.out, HSB.out, HB.out⟩
                case measure => have := HLT.out; simp [intOf]; omega
              · have hse : nm = s := by have := name_eq nm s; rw [hq] at this; exact of_decide_eq_true this.symm
                obtain ⟨b4, o4, Ag, cg, bg, rfl, _, f0, f1, f2, help, _⟩ := parts_el HBO.out hjl
                replace f0 := cell_later hb f0
                replace f1 := cell_later hb f1
                replace f2 := cell_later hb f2
                have hpsz : body[j].atom.name.size ≤ maxLen := by obtain ⟨_, _, hs, _⟩ := help; exact hs
                have c5 := IH.out body[j].atom.name cu _ bu wr (rulesK_good.below HR.out hb) hS hD.asc hsb (HBN.out _ (List.getElem_mem hjl)) hpsz (HUN.out cu hD.old hD.has)
                have HST := Lib.hid fun cu' hd => HSTEP.out j cu cu' hjl hD hse hd
                have HB := Lib.hid hb
                clear hS hD hsb hb hse help hpsz
                have HJL := Lib.hid hjl
                generalize body[j] = p at *
                clear hjl
                obtain ⟨no, ⟨pn, pargs⟩⟩ := p
                dsimp only at *
                go_wp2_with fail
                refine c5.mono ?_
                rintro e w5 ⟨hb5, v5, b5, cu5, rfl, hs5, hd5, hsb5⟩
                obtain ⟨A5, cp5, rfl, _, _⟩ := sliceK_form hs5
                have HZ := Lib.hid (HST.out cu5 hd5)
                have HS := Lib.hid hs5
                have HSB := Lib.hid hsb5
                have HB5 := Lib.hid (HB.out.trans (hb5.mono HB.out.size))
                clear c5 hs5 hd5 hsb5 hb5 HB HST d0 d2 f0 f1 f2
                go_wp2
                go_roundw
                case rel => exact ⟨j + 1, A5, cp5, cu5, b5, HJL.out, by go_num, rfl, HS.out, HZ.out, HSB.out, HB5.out⟩
                case measure => have := HJL.out; simp [intOf]; omega
            · have hj1 : ¬ (j : Int) < (body.length : Int) := by omega
              have HZ := Lib.hid (HROW.out j cu hD fun _ => by omega)
              have HS := Lib.hid hS
              have HSB := Lib.hid hsb
              have HB := Lib.hid hb
              clear hS hD hsb hb
              go_wp2
              go_roundw
              case rel => exact ⟨k + 1, Aw, cq, cu, bu, HLT.out, by go_num, rfl, HS.out, HZ.out, HSB.out, HB.out⟩
              case measure => have := HLT.out; simp [intOf]; omega
        · have he : k = rs.length := by omega
          have hk1 : ¬ (k : Int) < (rs.length : Int) := by omega
          subst he
          have HZ : Hid (NeedsQ rs s out w (.returned (.slice Av cur.length cp)) wr) := Lib.hid ⟨hb, _, bc, cur, rfl, hS, dfi_end hD, hsb⟩
          clear hS hD hsb hb
          go_wp2
          go_ret
          exact HZ.out

set_option maxHeartbeats 2000000 in
theorem progNeeds_spec (rs : List Ru) (s : ByteArray) (v : Value) (bs : List Nat) (w : World) (h : rulesK w [v] rs bs) (hs : s.size ≤ maxLen) :
    Calls Tryz.prog 21 #[v, .string s] w fun e w' => Below w.heap.size w w' ∧ ∃ v' bs', e = .returned v' ∧ strsK w' [v'] (needsV rs s) bs' := by
  have c1 := progCheck_spec rs v bs w h
  have C2 := Lib.hid fun w' (hb : Below w.heap.size w w') (hn : (allAtoms rs).length ≤ 1000000) => l2Names_any rs v bs w' (rulesK_good.below h hb) hn
  have hle : (progC rs : Int) ≤ 5 := by have := progC_le rs; omega
  have HR := Lib.hid h
  have HS := Lib.hid hs
  clear h hs
  by_cases hp : progC rs = 0
  · have hfi := (fine_iff rs).1 hp
    have HN : Hid ((allAtoms rs).length ≤ 1000000) := Lib.hid (by have := (allAtoms_few hfi.ok).2; have := hfi.few; omega)
    have HU : Hid ((allNames rs).length ≤ 1000000) := Lib.hid (by have := allNames_len hfi; omega)
    have HA : Hid (decide (s ∈ namesA (allAtoms rs)) = decide (s ∈ allNames rs)) := Lib.hid (decide_eq_decide.2 (by unfold namesA; exact ascOf_mem _ _))
    by_cases hn : s ∈ allNames rs
    · have HZ : Hid (needsV rs s = needs rs s) := Lib.hid (by unfold needsV; rw [if_pos ⟨hp, hn⟩])
      have C4 := Lib.hid fun (w' : World) (hb : Below w.heap.size w w') (vo : Value) (ho : strsK w' [vo] [] []) => l2Needs_any rs v bs HU.out _ s [] vo [] w' (rulesK_good.below HR.out hb) ho ascS_nil (fun x hx => by simp at hx) hn HS.out (Nat.le_refl _)
      have HD : Hid (decide (s ∈ namesA (allAtoms rs)) = true) := Lib.hid (by rw [HA.out]; exact decide_eq_true hn)
      rw [hp] at c1
      clear hp hfi hn
      go_enter Tryz.func21, Tryz.ntmps21
      go_wp2_with fail
      refine c1.mono ?_
      rintro e w1 ⟨rfl, hb1⟩
      clear c1
      go_wp2_with fail
      refine (C2.out _ hb1 HN.out).mono ?_
      rintro e w2 ⟨hb2, v2, b2, rfl, hs2⟩
      have B2 := hb1.trans (hb2.mono hb1.size)
      have c3 := l2Has_any _ s _ b2 w2 hs2
      rw [HD.out] at c3
      clear hs2 hb1 hb2
      go_wp2_with fail
      refine c3.mono ?_
      rintro e w3 ⟨rfl, hb3⟩
      have B3 := B2.trans (hb3.mono B2.size)
      have hA : Below w3.heap.size w3 (w3.alloc (.cells #[] 9)) := (Below.refl _ _).alloc (Nat.le_refl _) _
      have B4 := B3.trans (hA.mono B3.size)
      clear c3 hb3 B2
      go_wp2_with fail
      refine (C4.out _ B4 _ strs_empty).mono ?_
      rintro e w5 ⟨hb5, v5, b5, out5, rfl, hs5, hd5, _⟩
      have HW : Hid (Below w.heap.size w w5 ∧ strsK w5 [v5] (needsV rs s) b5) := Lib.hid ⟨B4.trans (hb5.mono B4.size), by rw [HZ.out, ← dfs_needs hd5]; exact hs5⟩
      clear hb5 hs5 hd5 hA B3 B4
      go_wp2
      go_ret
      exact ⟨HW.out.1, _, b5, rfl, HW.out.2⟩
    · have HZ : Hid (needsV rs s = []) := Lib.hid (by unfold needsV; rw [if_neg fun h => hn h.2])
      have HD : Hid (decide (s ∈ namesA (allAtoms rs)) = false) := Lib.hid (by rw [HA.out]; exact decide_eq_false hn)
      rw [hp] at c1
      clear hp hfi hn HR
      go_enter Tryz.func21, Tryz.ntmps21
      go_wp2_with fail
      refine c1.mono ?_
      rintro e w1 ⟨rfl, hb1⟩
      clear c1
      go_wp2_with fail
      refine (C2.out _ hb1 HN.out).mono ?_
      rintro e w2 ⟨hb2, v2, b2, rfl, hs2⟩
      have B2 := hb1.trans (hb2.mono hb1.size)
      have c3 := l2Has_any _ s _ b2 w2 hs2
      rw [HD.out] at c3
      clear hs2 hb1 hb2
      go_wp2_with fail
      refine c3.mono ?_
      rintro e w3 ⟨rfl, hb3⟩
      have B3 := B2.trans (hb3.mono B2.size)
      have B4 := B3.alloc B3.size (.cells #[] 9)
      clear c3 hb3 B2
      go_wp2
      go_ret
      exact ⟨B4, _, [], rfl, by rw [HZ.out]; exact strs_empty⟩
  · have HZ : Hid (needsV rs s = []) := Lib.hid (by unfold needsV; rw [if_neg fun h => hp h.1])
    have h1 : ¬ ((progC rs : Nat) : Int) = 0 := by omega
    clear hp C2 HR
    generalize progC rs = c at *
    go_enter Tryz.func21, Tryz.ntmps21
    go_wp2_with fail
    refine c1.mono ?_
    rintro e w1 ⟨rfl, hb1⟩
    have B2 := hb1.alloc hb1.size (.cells #[] 9)
    go_wp2
    go_ret
    exact ⟨B2, _, [], rfl, by rw [HZ.out]; exact strs_empty⟩

end Go.Proofs.YtbcepahpehadeaaGreatDoor
