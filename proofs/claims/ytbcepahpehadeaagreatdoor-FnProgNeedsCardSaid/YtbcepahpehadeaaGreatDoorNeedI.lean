/- The walk of impl.ProgNeeds. -/
import Derived.WalkKit
import Derived.Lib.Hide
import Derived.WalkSpells
import Derived.WalkLawsBesides
import Derived.BigQuiet
import Derived.Test.YtbcepahpehadeaaGreatDoorProg
import Derived.Test.YtbcepahpehadeaaGreatDoorAscI
import Derived.Test.YtbcepahpehadeaaGreatDoorMapF
namespace Go.Proofs.YtbcepahpehadeaaGreatDoor
open Go.RowKit D
set_option linter.unusedVariables false
attribute [local go_sem ↓] Go.wp_at_zero Go.wp_at_succ

open Classical in
noncomputable def D.needsV (rs : List Ru) (s : ByteArray) : List ByteArray := if progC rs = 0 ∧ s ∈ allNames rs then needs rs s else []
theorem D.allNames_len {rs : List Ru} (h : Fine rs) : (allNames rs).length ≤ 40 := by
  have h1 := (allAtoms_few h.ok).2
  have h2 := h.few
  unfold allNames
  rw [List.length_map]; omega
theorem D.needsV_len (rs : List Ru) (s : ByteArray) : (needsV rs s).length ≤ 900000000 := by
  unfold needsV
  split
  · rename_i h
    have h1 := allNames_len ((fine_iff rs).1 h.1)
    have h2 := needs_len rs s
    omega
  · simp
/-- The names met so far: each is needed; all but those of the last round have been gone through. -/
structure D.Seen (rs : List Ru) (s : ByteArray) (L : List ByteArray) : Prop where
  has : s ∈ L
  reach : ∀ x ∈ L, Reach rs s x
  sub : ∀ x ∈ L, x ∈ allNames rs
  nd : L.Nodup
theorem D.Seen.few {rs : List Ru} {s : ByteArray} {L : List ByteArray} (h : Seen rs s L) : L.length ≤ (allNames rs).length := sub_len_le h.nd h.sub
def D.shutR (r : Ru) (L : List ByteArray) : Prop := r.head.name ∈ L → ∀ p ∈ r.body, p.atom.name ∈ L
theorem D.Seen.put {rs : List Ru} {s : ByteArray} {L : List ByteArray} (h : Seen rs s L) {r : Ru} (hr : r ∈ rs) (hh : r.head.name ∈ L) {p : Pt} (hp : p ∈ r.body) : Seen rs s (putNew L p.atom.name) := by
  refine ⟨putNew_mem.2 (.inl h.has), fun x hx => ?_, fun x hx => ?_, putNew_nodup h.nd _⟩
  · rcases putNew_mem.1 hx with hx | rfl
    · exact h.reach x hx
    · exact .step (h.reach _ hh) hr hp
  · rcases putNew_mem.1 hx with hx | rfl
    · exact h.sub x hx
    · exact body_name hr hp
theorem D.putNew_len (L : List ByteArray) (s : ByteArray) : L.length ≤ (putNew L s).length ∧ ((putNew L s).length = L.length → s ∈ L ∧ putNew L s = L) := by
  unfold putNew
  split
  · rename_i h; exact ⟨Nat.le_refl _, fun _ => ⟨h, rfl⟩⟩
  · exact ⟨by simp, fun h => by simp at h⟩

set_option maxRecDepth 100000 in
set_option maxHeartbeats 4000000 in
theorem progNeeds_impl (rs : List Ru) (s : ByteArray) (v : Value) (bs : List Nat) (w : World) (h : rulesK w [v] rs bs) (hg : LaidE w) (hs : s.size ≤ maxLen) :
    Calls Tryz.prog 22 #[v, .string s] w (Makes strsK (needsV rs s) w.heap.size w) := by
  have c1 := progFine_any rs v bs w h hg
  have C2 := Lib.hid fun w' (hb : Below w.heap.size w w') (hok : rs.all ruleOk = true) (hf : rs.length ≤ 8) => argsOf_any rs v bs w' (rulesK_good.below h hb) hok hf
  have HNIL : Hid (∀ w', Below w.heap.size w w' → needsV rs s = [] → Makes strsK (needsV rs s) w.heap.size w (.returned (.slice none 0 0)) w') := Lib.hid fun w' hb e => ⟨hb, _, [], rfl, by rw [e]; exact ⟨_, _, rfl, Nat.le_refl _, Nat.zero_le _, fun _ => rfl, fun h => absurd rfl h⟩, New.nil _ _⟩
  obtain ⟨Ad, cap, rfl, hl, hm⟩ := sliceK_form h
  have hlm := nat_ge_max (Nat.le_trans hl hm)
  have hmm := @run_makeMap Tryz.prog
  have HS := Lib.hid hs
  clear hl hm hg hs
  by_cases hp : progC rs = 0
  · have hfi := (fine_iff rs).1 hp
    have HF := Lib.hid hfi
    have HIN : Hid (∀ x, x ∈ (argSt (allAtoms rs)).1 ↔ x ∈ allNames rs) := Lib.hid fun x => by rw [(argSt_is (allAtoms rs)).1]; unfold allNames; rw [List.mem_map]
    rw [decide_eq_true hp] at c1
    by_cases hn : s ∈ allNames rs
    · have HZ : Hid (needsV rs s = needs rs s) := Lib.hid (by unfold needsV; rw [if_pos ⟨hp, hn⟩])
      have HD : Hid (decide (s ∈ (argSt (allAtoms rs)).1) = true) := Lib.hid (decide_eq_true ((HIN.out s).2 hn))
      obtain ⟨x, hx⟩ : ∃ x : Int, (if s ∈ (argSt (allAtoms rs)).1 then (argSt (allAtoms rs)).2.1 s else 0) = x := ⟨_, rfl⟩
      have HX := Lib.hid hx
      have HU40 := Lib.hid (allNames_len hfi)
      have HMET0 : Hid (Seen rs s [s]) := Lib.hid ⟨by simp, fun x hx => by rw [List.mem_singleton.1 hx]; exact .self, fun x hx => by rw [List.mem_singleton.1 hx]; exact hn, by simp⟩
      clear hp hfi hx hn
      go_enter Tryz.func22, Tryz.ntmps22
      go_wp2_with fail
      refine c1.mono ?_
      rintro e w1 ⟨rfl, hb1⟩
      clear c1
      go_wp2_with fail
      refine (C2.out _ hb1 HF.out.ok HF.out.few).mono ?_
      rintro e w2 ⟨rfl, n, hM, hb2⟩
      have B2 := hb1.trans (hb2.mono hb1.size)
      have HM := Lib.hid hM
      have HM0 : Hid (MapF w2.heap.size 0 [] (fun _ => 0) (w2.alloc (.map #[] 0))) := Lib.hid (MapF.made w2 _)
      have hA : Below w2.heap.size w2 (w2.alloc (.map #[] 0)) := (Below.refl _ _).alloc (Nat.le_refl _) _
      have HA := Lib.hid (B2.trans (hA.mono B2.size))
      have hgw : w.heap.size ≤ w2.heap.size := B2.size
      clear hM hb1 hb2 C2 B2 hA
      go_wp2_with (first
        | (at_lookup; refine wpList_mapf_ok _ rfl _ _ _ rfl Tryz.underlying69 _ _ _ _ rfl HM.out s rfl HS.out true HD.out x HX.out ?_)
        | (with_reducible show Go.wpList _ _ _ (Go.Oper.mk _ (Go.Op.insert _ _ _ _) _ _ _ _ :: _) _ _; refine wpList_mapf_insert _ rfl _ _ _ _ rfl Tryz.underlying69 _ _ _ _ rfl HM0.out s rfl HS.out 0 rfl (by unfold maxLen; omega) (by omega) ?_; intro w3 hM3 hg3)
        | go_in)
      have HM4 : Hid (MapF w2.heap.size 1 [s] (fun _ => 0) w3) := Lib.hid ((show MapF w2.heap.size 1 (putNew [] s) _ w3 from hM3).congr fun t _ => by split <;> rfl)
      have HB4 := Lib.hid (HA.out.grown hg3 (by have := HA.out.size; exact this) fun j hj => by cases hj; exact hgw)
      clear hM3 hg3 HM HM0 HA HX HD
      obtain ⟨B, hB⟩ : ∃ B, B = w2.heap.size := ⟨_, rfl⟩
      rw [← hB] at HM4 hgw ⊢
      clear hB hmm
      go_loopw [10] (fun bf wr => ∃ (k : Nat) (L : List ByteArray), bf = .int .i64 k ∧ k ≤ L.length ∧ MapF B L.length L (fun _ => 0) wr ∧ Seen rs s L ∧ (k = L.length → ∀ r ∈ rs, shutR r L) ∧ Below w.heap.size w wr) (fun bf _ => 41 - (intOf bf).toNat)
      case atStart => exact ⟨0, [s], rfl, Nat.zero_le _, HM4.out, HMET0.out, fun h => by simp at h, HB4.out⟩
      case round =>
        clear HM4 HMET0 HB4
        obtain ⟨k, L, rfl, hk, hM, hSe, hsh, hb⟩ := hrel
        have hl40 : L.length ≤ 40 := Nat.le_trans hSe.few HU40.out
        have hli : (L.length : Int) ≤ 40 := by omega
        have HM := Lib.hid hM
        have HB := Lib.hid hb
        by_cases hkl : k < L.length
        · have hkl1 : (k : Int) < (L.length : Int) := by omega
          have HSE := Lib.hid hSe
          obtain ⟨k0, hk0⟩ : ∃ k0, k0 = L.length := ⟨_, rfl⟩
          have HK0 : Hid (k0 = L.length ∧ k < k0) := Lib.hid ⟨hk0, by omega⟩
          have hk40 : k0 ≤ 40 := by omega
          clear hM hb hSe hsh
          go_wp2_with (first | (at_len; refine wpList_mapf_len _ rfl _ _ rfl Tryz.underlying69 _ _ _ _ rfl HM.out ?_) | go_in)
          rw [← hk0]
          clear hk0 hli hl40 hkl hkl1 hk
          go_loopw [44] (fun i wr => ∃ (j : Nat) (M : List ByteArray), j ≤ rs.length ∧ i = .int .i64 j ∧ k0 ≤ M.length ∧ MapF B M.length M (fun _ => 0) wr ∧ Seen rs s M ∧ (k0 = M.length → ∀ r ∈ rs.take j, shutR r M) ∧ Below w.heap.size w wr) (fun i _ => rs.length - (intOf i).toNat)
          case atStart => exact ⟨0, L, Nat.zero_le _, rfl, by rw [HK0.out.1]; exact Nat.le_refl _, HM.out, HSE.out, fun _ r hr => by simp at hr, HB.out⟩
          case round =>
            obtain ⟨j, M, hj, rfl, hkM, hM, hSe, hsh, hb⟩ := hrel
            clear HM HB HSE
            by_cases hjl : j < rs.length
            · obtain ⟨b0, o0, Ae, ce, Af, cf, bk, rfl, _, d0, d1, d2, hel, _⟩ := rules_el h hjl
              replace d0 := cell_later hb d0
              replace d1 := cell_later hb d1
              replace d2 := cell_later hb d2
              obtain ⟨_, bb, _, _, hbd⟩ := rule_parts hel
              have HBO := Lib.hid hbd
              have hj0 : (0 : Int) ≤ (j : Int) := by omega
              have hj1 : (j : Int) < (rs.length : Int) := by omega
              have hA : Below wr.heap.size wr (wr.alloc (.cells #[.string rs[j].head.name, .slice Ae rs[j].head.args.length ce, .slice Af rs[j].body.length cf] 51)) := (Below.refl _ _).alloc (Nat.le_refl _) _
              have HSZ : Hid (rs[j].head.name.size ≤ maxLen) := Lib.hid (by obtain ⟨_, _, _, _, _, hs, _⟩ := hel; exact hs)
              have HMEM := Lib.hid (List.getElem_mem hjl)
              have HSNOC : Hid (∀ M, (∀ r ∈ rs.take j, shutR r M) → shutR rs[j] M → ∀ r ∈ rs.take (j + 1), shutR r M) := Lib.hid fun M h1 h2 r hr => by
                rw [List.take_succ_eq_append_getElem hjl] at hr
                rcases List.mem_append.1 hr with hr | hr
                · exact h1 r hr
                · rw [List.mem_singleton.1 hr]; exact h2
              have hbl : (rs[j].body.length : Int) ≤ 4 := by have := (ruleOk_args (List.all_eq_true.1 HF.out.ok _ (List.getElem_mem hjl))).1; omega
              have HM1 := Lib.hid (hM.below hA hM.lt)
              have HB1 := Lib.hid (hb.trans (hA.mono hb.size))
              have HSE := Lib.hid hSe
              have HSH := Lib.hid hsh
              have HKM := Lib.hid hkM
              clear hel hbd hA hM hb hSe hsh hkM
              have HJL := Lib.hid hjl
              generalize rs[j] = r at *
              clear hjl
              obtain ⟨⟨nm, args⟩, body⟩ := r
              dsimp only at *
              by_cases hin : nm ∈ M
              · have HD : Hid (decide (nm ∈ M) = true) := Lib.hid (decide_eq_true hin)
                have HV : Hid ((if nm ∈ M then (0 : Int) else 0) = 0) := Lib.hid (by split <;> rfl)
                have HIN := Lib.hid hin
                clear hin
                go_wp2_with (first | (at_lookup; refine wpList_mapf_ok _ rfl _ _ _ rfl Tryz.underlying69 _ _ M _ rfl HM1.out nm rfl HSZ.out true HD.out 0 HV.out ?_) | go_in)
                generalize wr.alloc (.cells #[.string nm, .slice Ae args.length ce, .slice Af body.length cf] 51) = w5 at *
                go_loopw [61] (fun i wr => ∃ (q : Nat) (P : List ByteArray), q ≤ body.length ∧ i = .int .i64 q ∧ (∀ x ∈ M, x ∈ P) ∧ M.length ≤ P.length ∧ (M.length = P.length → P = M) ∧ MapF B P.length P (fun _ => 0) wr ∧ Seen rs s P ∧ (∀ p ∈ body.take q, p.atom.name ∈ P) ∧ Below w.heap.size w wr) (fun i _ => body.length - (intOf i).toNat)
                case atStart => exact ⟨0, M, Nat.zero_le _, rfl, fun x h => h, Nat.le_refl _, fun _ => rfl, HM1.out, HSE.out, fun p hp => by simp at hp, HB1.out⟩
                case round =>
                  clear HM1 HSE HB1
                  obtain ⟨q, P, hq, rfl, hsub, hML, hEQ, hM, hSe, hdn, hb⟩ := hrel
                  by_cases hql : q < body.length
                  · obtain ⟨b4, o4, Ag, cg, bg, rfl, _, f0, f1, f2, help, _⟩ := parts_el HBO.out hql
                    replace f0 := cell_later hb f0
                    replace f1 := cell_later hb f1
                    replace f2 := cell_later hb f2
                    have hq0 : (0 : Int) ≤ (q : Int) := by omega
                    have hq1 : (q : Int) < (body.length : Int) := by omega
                    have HPZ : Hid (body[q].atom.name.size ≤ maxLen) := Lib.hid (by obtain ⟨_, _, hs, _⟩ := help; exact hs)
                    have hA : Below wr.heap.size wr (wr.alloc (.cells #[.bool body[q].no, .string body[q].atom.name, .slice Ag body[q].atom.args.length cg] 54)) := (Below.refl _ _).alloc (Nat.le_refl _) _
                    have HM2 := Lib.hid (hM.below hA hM.lt)
                    have HB2 := Lib.hid (hb.trans (hA.mono hb.size))
                    have HS2 := Lib.hid (hSe.put HMEM.out (hsub _ HIN.out) (List.getElem_mem hql))
                    have hpl := putNew_len P body[q].atom.name
                    have HSUB : Hid ((∀ x ∈ M, x ∈ putNew P body[q].atom.name) ∧ M.length ≤ (putNew P body[q].atom.name).length ∧ (M.length = (putNew P body[q].atom.name).length → putNew P body[q].atom.name = M)) := Lib.hid ⟨fun x hx => putNew_mem.2 (.inl (hsub x hx)), Nat.le_trans hML hpl.1, fun e => by
                      have h1 := hpl.2 (by omega)
                      rw [h1.2]; exact hEQ (by omega)⟩
                    have HDN : Hid (∀ p ∈ body.take (q + 1), p.atom.name ∈ putNew P body[q].atom.name) := Lib.hid fun p hp => by
                      rw [List.take_succ_eq_append_getElem hql] at hp
                      rcases List.mem_append.1 hp with hp | hp
                      · exact putNew_mem.2 (.inl (hdn p hp))
                      · rw [List.mem_singleton.1 hp]; exact putNew_mem.2 (.inr rfl)
                    have hP40 : P.length < maxLen := by have h1 := hSe.few; have h2 := HU40.out; unfold maxLen; omega
                    clear help hA hM hb hSe hsub hML hEQ hdn hpl
                    have HQL := Lib.hid hql
                    generalize body[q] = p at *
                    clear hql
                    obtain ⟨no, ⟨pn, pargs⟩⟩ := p
                    dsimp only at *
                    go_wp2_with (first | (at_mapUpdate; refine wpList_mapf_put _ rfl _ _ _ _ rfl Tryz.underlying69 _ _ P _ rfl HM2.out pn rfl HPZ.out 0 rfl hP40 (by omega) ?_; intro w6 hM6 hg6) | go_in)
                    have HM6 := Lib.hid ((hM6.congr (g := fun _ => 0) fun t _ => by split <;> rfl).tight)
                    have HB6 := Lib.hid (HB2.out.grown hg6 (by have := HB2.out.size; exact this) fun j hj => by cases hj; exact hgw)
                    clear hM6 hg6
                    go_roundw
                    case rel => exact ⟨q + 1, _, HQL.out, by go_num, HSUB.out.1, HSUB.out.2.1, HSUB.out.2.2, HM6.out, HS2.out, HDN.out, HB6.out⟩
                    case measure => have := HQL.out; simp [intOf]; omega
                  · have he : q = body.length := by omega
                    have hq1 : ¬ (q : Int) < (body.length : Int) := by omega
                    have HZ9 : Hid (k0 ≤ P.length ∧ (k0 = P.length → ∀ r ∈ rs.take (j + 1), shutR r P)) := Lib.hid ⟨Nat.le_trans HKM.out hML, fun e => by
                      have h1 := HKM.out
                      have h2 : P = M := hEQ (by omega)
                      refine HSNOC.out P (by rw [h2]; exact HSH.out (by omega)) fun _ p hp => hdn p ?_
                      rw [he, List.take_of_length_le (Nat.le_refl _)]; exact hp⟩
                    have HM2 := Lib.hid hM
                    have HB2 := Lib.hid hb
                    have HS2 := Lib.hid hSe
                    clear hM hb hSe hsub hML hEQ hdn he
                    go_wp2
                    go_roundw
                    case rel => exact ⟨j + 1, P, HJL.out, by go_num, HZ9.out.1, HM2.out, HS2.out, HZ9.out.2, HB2.out⟩
                    case measure => have := HJL.out; simp [intOf]; omega
              · have HD : Hid (decide (nm ∈ M) = false) := Lib.hid (decide_eq_false hin)
                have HV : Hid ((if nm ∈ M then (0 : Int) else 0) = 0) := Lib.hid (by split <;> rfl)
                have HZ9 : Hid (k0 = M.length → ∀ r ∈ rs.take (j + 1), shutR r M) := Lib.hid fun e => HSNOC.out M (HSH.out e) fun h => absurd h hin
                clear hin
                go_wp2_with (first | (at_lookup; refine wpList_mapf_ok _ rfl _ _ _ rfl Tryz.underlying69 _ _ M _ rfl HM1.out nm rfl HSZ.out false HD.out 0 HV.out ?_) | go_in)
                go_roundw
                case rel => exact ⟨j + 1, M, HJL.out, by go_num, HKM.out, HM1.out, HSE.out, HZ9.out, HB1.out⟩
                case measure => have := HJL.out; simp [intOf]; omega
            · have he : j = rs.length := by omega
              have hj1 : ¬ (j : Int) < (rs.length : Int) := by omega
              have HZ9 : Hid (k0 = M.length → ∀ r ∈ rs, shutR r M) := Lib.hid (by rw [he, List.take_of_length_le (Nat.le_refl _)] at hsh; exact hsh)
              have HM2 := Lib.hid hM
              have HB2 := Lib.hid hb
              have HS2 := Lib.hid hSe
              have HKM := Lib.hid hkM
              clear hM hb hSe hsh he hkM
              go_wp2
              go_roundw
              case rel => exact ⟨k0, M, rfl, HKM.out, HM2.out, HS2.out, HZ9.out, HB2.out⟩
              case measure => have := HK0.out.2; simp [intOf]; omega
        · have he : k = L.length := by omega
          have hkl1 : ¬ (k : Int) < (L.length : Int) := by omega
          have HE : Hid (ascOf L = needsV rs s) := Lib.hid (by rw [HZ.out]; exact needs_ascOf hSe.has hSe.reach fun r hr => hsh he r hr)
          have c7 := ascendingKeys_any B _ L _ wr hM (by omega)
          rw [HE.out] at c7
          clear hM hb hSe hsh h
          go_wp2_with (at_len; refine wpList_mapf_len _ rfl _ _ rfl Tryz.underlying69 _ _ _ _ rfl HM.out ?_)
          refine c7.mono ?_
          rintro e w7 ⟨hb7, v7, b7, rfl, hs7, hn7⟩
          have HW : Hid (Makes strsK (needsV rs s) w.heap.size w (.returned v7) w7) := Lib.hid ⟨HB.out.trans (hb7.mono HB.out.size), v7, b7, rfl, hs7, hn7.mono HB.out.size⟩
          clear c7 hb7 hs7 hn7
          go_wp2
          go_ret
          exact HW.out
    · have HZ : Hid (needsV rs s = []) := Lib.hid (by unfold needsV; rw [if_neg fun h => hn h.2])
      have HD : Hid (decide (s ∈ (argSt (allAtoms rs)).1) = false) := Lib.hid (decide_eq_false fun h => hn ((HIN.out s).1 h))
      obtain ⟨x, hx⟩ : ∃ x : Int, (if s ∈ (argSt (allAtoms rs)).1 then (argSt (allAtoms rs)).2.1 s else 0) = x := ⟨_, rfl⟩
      have HX := Lib.hid hx
      clear hp hfi hx hn h
      go_enter Tryz.func22, Tryz.ntmps22
      go_wp2_with fail
      refine c1.mono ?_
      rintro e w1 ⟨rfl, hb1⟩
      clear c1
      go_wp2_with fail
      refine (C2.out _ hb1 HF.out.ok HF.out.few).mono ?_
      rintro e w2 ⟨rfl, n, hM, hb2⟩
      have B2 := Lib.hid (hb1.trans (hb2.mono hb1.size))
      have HM := Lib.hid hM
      clear hM hb1 hb2 C2
      go_wp2_with (first
        | (at_lookup; refine wpList_mapf_ok _ rfl _ _ _ rfl Tryz.underlying69 _ _ _ _ rfl HM.out s rfl HS.out false HD.out x HX.out ?_)
        | go_in)
      go_ret
      exact HNIL.out _ B2.out HZ.out
  · have HZ : Hid (needsV rs s = []) := Lib.hid (by unfold needsV; rw [if_neg fun h => hp h.1])
    rw [decide_eq_false hp] at c1
    clear hp C2 h
    go_enter Tryz.func22, Tryz.ntmps22
    go_wp2_with fail
    refine c1.mono ?_
    rintro e w1 ⟨rfl, hb1⟩
    have HB1 := Lib.hid hb1
    clear hb1
    go_wp2
    go_ret
    exact HNIL.out _ HB1.out HZ.out

end Go.Proofs.YtbcepahpehadeaaGreatDoor
