/- The walk of impl.ProgCheck. -/
import Derived.WalkKit
import Derived.Lib.Hide
import Derived.WalkSpells
import Derived.WalkLawsBesides
import Derived.BigQuiet
import Derived.Deep.RegionHeld3
import Derived.Deep.RegionWith
import Derived.Deep.DrawnRows
import Derived.Test.YtbcepahpehadeaaGreatDoorProg
import Derived.Test.YtbcepahpehadeaaGreatDoorAsE
import Derived.Test.YtbcepahpehadeaaGreatDoorArgsI
import Derived.Test.YtbcepahpehadeaaGreatDoorStrI
import Derived.Test.YtbcepahpehadeaaGreatDoorLooseI
import Derived.Test.YtbcepahpehadeaaGreatDoorBody
namespace Go.Proofs.YtbcepahpehadeaaGreatDoor
open Go.RowKit D
set_option linter.unusedVariables false
attribute [local go_sem ↓] Go.wp_at_zero Go.wp_at_succ

/-- The library's variable that errors.As reads. -/
def D.LaidE (w : World) : Prop := w.cell? ⟨0, 0, none⟩ = some (.iface 181 (.agg #[.pointer (some ⟨2, 119, none⟩)]))
theorem D.LaidE.below {w w' : World} (h : LaidE w) (hb : Below w.heap.size w w') : LaidE w' := cell_later hb h
theorem D.ok_snoc (rs : List Ru) (k : Nat) (h : k < rs.length) (h0 : (rs.take k).all ruleOk = true) : (rs.take (k + 1)).all ruleOk = ruleOk rs[k] := by
  rw [List.take_succ_eq_append_getElem h, List.all_append, h0]; simp
theorem D.ok_bad (rs : List Ru) (k : Nat) (h : k < rs.length) (h0 : ruleOk rs[k] = false) : progC rs = 1 := by
  unfold progC
  rw [if_pos (List.all_eq_false.2 ⟨_, List.getElem_mem h, by simp [h0]⟩)]

set_option maxRecDepth 100000 in
set_option maxHeartbeats 4000000 in
theorem progCheck_impl (rs : List Ru) (v : Value) (bs : List Nat) (w : World) (h : rulesK w [v] rs bs) (hg : LaidE w) :
    Calls Tryz.prog 61 #[v] w fun e w' => e = .returned (.int .i64 (progC rs)) ∧ Below w.heap.size w w' := by
  obtain ⟨Ad, cap, rfl, hl, hm⟩ := sliceK_form h
  have hlm := nat_ge_max (Nat.le_trans hl hm)
  have c1 := fun w' (hb : Below w.heap.size w w') (hok : rs.all ruleOk = true) (hf : rs.length ≤ 8) => argsOf_any rs _ bs w' (rulesK_good.below h hb) hok hf
  have c2 := fun w' (hb : Below w.heap.size w w') => containsLoose_any rs _ bs w' (rulesK_good.below h hb)
  have c3 := fun w' (hb : Below w.heap.size w w') (hok : rs.all ruleOk = true) (hf : rs.length ≤ 8) => strataOf_any rs _ bs w' (rulesK_good.below h hb) hf hok
  have C1 := Lib.hid c1
  have C2 := Lib.hid c2
  have C3 := Lib.hid c3
  have HG := Lib.hid hg
  clear hl hm c1 c2 c3 hg
  go_enter Tryz.func61, Tryz.ntmps61
  go_wp2
  go_loopw [12] (fun i wr => ∃ k : Nat, k ≤ rs.length ∧ i = .int .i64 k ∧ (rs.take k).all ruleOk = true ∧ Below w.heap.size w wr) (fun i _ => rs.length - (intOf i).toNat)
  case atStart => exact ⟨0, Nat.zero_le _, rfl, rfl, Below.refl _ _⟩
  case round =>
    obtain ⟨k, hk, rfl, hall, hb⟩ := hrel
    have HA := Lib.hid hall
    clear hall
    by_cases hlt : k < rs.length
    · clear C1 C2 C3 HG
      obtain ⟨b, o, Ae, ce, Af, cf, bk, rfl, _, d0, d1, d2, hel, _⟩ := rules_el (rulesK_good.below h hb) hlt
      have HS := Lib.hid (ok_snoc rs k hlt HA.out)
      have HBAD := Lib.hid (ok_bad rs k hlt)
      have hk0 : (0 : Int) ≤ (k : Int) := by omega
      have hk1 : (k : Int) < (rs.length : Int) := by omega
      have HLT := Lib.hid hlt
      obtain ⟨b1, b2, _, hhd, hbd⟩ := rule_parts hel
      have hA : Below wr.heap.size wr (wr.alloc (.cells #[.string rs[k].head.name, .slice Ae rs[k].head.args.length ce, .slice Af rs[k].body.length cf] 51)) := (Below.refl _ _).alloc (Nat.le_refl _) _
      have c1 := fun w' (hw : Below wr.heap.size wr w') => bodyOk_any rs[k].body _ b2 w' (partsK_good.below hbd hw)
      have c2 := fun w' (hw : Below wr.heap.size wr w') => atomOk_impl rs[k].head _ _ b1 w' (atomK_good.below hhd hw)
      have x0 : (wr.alloc (.cells #[.string rs[k].head.name, .slice Ae rs[k].head.args.length ce, .slice Af rs[k].body.length cf] 51)).cell? ⟨wr.heap.size, 0, none⟩ = some (.string rs[k].head.name) := by go_simp
      have x1 : (wr.alloc (.cells #[.string rs[k].head.name, .slice Ae rs[k].head.args.length ce, .slice Af rs[k].body.length cf] 51)).cell? ⟨wr.heap.size, 1, none⟩ = some (.slice Ae rs[k].head.args.length ce) := by go_simp
      have X0 := Lib.hid x0
      have X1 := Lib.hid x1
      have C1 := Lib.hid c1
      have C2 := Lib.hid c2
      have HH := Lib.hid hA
      have HRO : Hid (ruleOk rs[k] = (bodyOkB rs[k].body && atomOk rs[k].head)) := Lib.hid rfl
      clear h hel hhd hbd c1 c2 hA x0 x1
      generalize rs[k] = r at *
      clear hlt
      obtain ⟨⟨nm, args⟩, body⟩ := r
      dsimp only at *
      cases h1 : bodyOkB body
      · rw [h1] at C1
        have HZ := Lib.hid (HBAD.out (by rw [HRO.out, h1]; rfl))
        clear h1 HRO HBAD HS
        go_wp2_with fail
        refine (C1.out _ HH.out).mono ?_
        rintro e w2 ⟨rfl, hb2⟩
        have B2 := hb.trans ((HH.out.trans (hb2.mono HH.out.size)).mono hb.size)
        go_wp2
        go_ret
        exact ⟨ret_int (by simp [HZ.out]), B2⟩
      · rw [h1] at C1
        go_wp2_with fail
        refine (C1.out _ HH.out).mono ?_
        rintro e w2 ⟨rfl, hb2⟩
        have B1 := HH.out.trans (hb2.mono HH.out.size)
        have x0 := cell_later hb2 X0.out
        have x1 := cell_later hb2 X1.out
        clear X0 X1 C1
        go_wp2_with fail
        refine (C2.out _ B1).mono ?_
        rintro e w3 ⟨rfl, hb3⟩
        have B3 := hb.trans ((B1.trans (hb3.mono B1.size)).mono hb.size)
        cases h2 : atomOk ⟨nm, args⟩
        · have HZ := Lib.hid (HBAD.out (by rw [HRO.out, h1, h2]; rfl))
          clear h1 HRO HBAD HS
          go_wp2
          go_ret
          exact ⟨ret_int (by simp [HZ.out]), B3⟩
        · have HZ := Lib.hid (HS.out.trans (by rw [HRO.out, h1, h2, Bool.and_true]))
          clear h1 HRO HBAD HS
          go_wp2
          go_roundw
          case rel => exact ⟨k + 1, HLT.out, by go_num, HZ.out, B3⟩
          case measure => have := HLT.out; simp [intOf]; omega
    · have he : k = rs.length := by omega
      have hk1 : ¬ (k : Int) < (rs.length : Int) := by omega
      have hok : rs.all ruleOk = true := by have := HA.out; rw [he, List.take_of_length_le (Nat.le_refl _)] at this; exact this
      clear HA he h
      by_cases hf : rs.length ≤ 8
      · have hf1 : ¬ (8 : Int) < (rs.length : Int) := by omega
        have hP : progC rs = if alikeB (allAtoms rs) = false then 3 else if (rs.all fun r => tightB r.head r.body) = false then 4 else if cycB rs = true then 5 else 0 := by
          unfold progC; rw [if_neg (by simp [hok]), if_neg (by omega)]
        have C4 := Lib.hid fun w' hb => C1.out w' hb hok hf
        have C5 := Lib.hid fun w' hb => C3.out w' hb hok hf
        have HP := Lib.hid hP
        clear hok hf hP C1 C3
        go_wp2_with fail
        refine (C4.out _ hb).mono ?_
        rintro e w2 ⟨rfl, n, hM, hb2⟩
        have B2 := hb.trans (hb2.mono hb.size)
        clear C4 hM
        cases ha : alikeB (allAtoms rs)
        · have HZ : Hid (progC rs = 3) := Lib.hid (by rw [HP.out, if_pos ha])
          clear HP ha
          go_wp2
          go_ret
          exact ⟨ret_int (by simp [HZ.out]), B2⟩
        · replace HP : Hid (progC rs = if (rs.all fun r => tightB r.head r.body) = false then 4 else if cycB rs = true then 5 else 0) := Lib.hid (by rw [HP.out, if_neg (by simp [ha])])
          clear ha
          go_wp2_with fail
          refine (C2.out _ B2).mono ?_
          rintro e w3 ⟨rfl, hb3⟩
          have B3 := B2.trans (hb3.mono B2.size)
          clear C2
          cases ht : (rs.all fun r => tightB r.head r.body)
          · have HZ : Hid (progC rs = 4) := Lib.hid (by rw [HP.out, if_pos ht])
            clear HP ht
            go_wp2
            go_ret
            exact ⟨ret_int (by simp [HZ.out]), B3⟩
          · replace HP : Hid (progC rs = if cycB rs = true then 5 else 0) := Lib.hid (by rw [HP.out, if_neg (by simp [ht])])
            clear ht
            go_wp2_with fail
            refine (C5.out _ B3).mono ?_
            rintro e w4 ⟨hb4, hr⟩
            have B4 := B3.trans (hb4.mono B3.size)
            clear C5
            rcases hr with ⟨hc, a, rfl⟩ | ⟨hc, v', bs', rfl, _, _⟩
            · have HZ : Hid (progC rs = 5) := Lib.hid (by rw [HP.out, if_pos hc])
              clear HP hc
              have hA : Below w4.heap.size w4 (w4.alloc (.cells #[.pointer none] 122)) := (Below.refl _ _).alloc (Nat.le_refl _) _
              have HGW := Lib.hid ((HG.out.below (B4)).below hA)
              have HTW : Hid ((w4.alloc (.cells #[.pointer none] 122)).cell? ⟨w4.heap.size, 0, none⟩ = some (.pointer none)) := Lib.hid (by go_simp)
              have HFW : Hid ((w4.alloc (.cells #[.pointer none] 122)).frozen? ⟨w4.heap.size, 0, none⟩ = false) := Lib.hid (by go_simp)
              have B5 := B4.trans (hA.mono B4.size)
              have HSW : Hid (w.heap.size ≤ w4.heap.size) := Lib.hid B4.size
              clear hA
              go_wp2_with fail
              refine (errorsAs_hit _ _ _ _ HGW.out HTW.out HFW.out).mono ?_
              rintro e w5 ⟨rfl, hw5⟩
              have S0 := HSW.out
              have B6 := ((((B5.alloc (by simp; omega) (.cells #[.pointer (some ⟨w4.heap.size, 0, none⟩)] 124)).alloc (by simp; omega) (.cells #[.pointer (some ⟨2, 124, none⟩), .pointer (some ⟨w4.heap.size + 1, 0, none⟩), .int .u64 150] 146)).alloc (by simp; omega) (.cells #[.pointer (some ⟨2, 124, none⟩), .pointer (some ⟨w4.heap.size + 1, 0, none⟩), .int .u64 150] 146)).alloc (by simp; omega) (.cells #[.pointer (some a)] 122)).setCell (p := ⟨w4.heap.size, 0, none⟩) S0 (.pointer (some a))
              have HB6 : Hid (Below w.heap.size w w5) := Lib.hid (by rw [hw5]; simpa using B6)
              clear B6 B5 B4 S0 hw5
              go_wp2
              go_ret
              exact ⟨ret_int (by simp [HZ.out]), HB6.out⟩
            · have HZ : Hid (progC rs = 0) := Lib.hid (by rw [HP.out, if_neg (by simp [hc])])
              clear HP hc
              go_wp2_with fail
              refine (errorsAs_nil _ _).mono ?_
              rintro e w5 ⟨rfl, rfl⟩
              go_wp2
              go_ret
              exact ⟨ret_int (by simp [HZ.out]), B4.alloc B4.size _⟩
      · have hf1 : (8 : Int) < (rs.length : Int) := by omega
        have HZ : Hid (progC rs = 2) := Lib.hid (by unfold progC; rw [if_neg (by simp [hok]), if_pos (by omega)])
        clear hok hf C1 C2 C3
        go_wp2
        go_ret
        exact ⟨ret_int (by simp [HZ.out]), hb⟩

end Go.Proofs.YtbcepahpehadeaaGreatDoor
