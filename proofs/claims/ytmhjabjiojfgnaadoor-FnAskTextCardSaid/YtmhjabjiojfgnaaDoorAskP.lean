/- The walks of l5Text and of AskPut, the program's and the reference's. -/
import Derived.WalkKit
import Derived.Lib.Hide
import Derived.WalkSpells
import Derived.WalkLawsBesides
import Derived.BigQuiet
import Derived.Test.YtmhjabjiojfgnaaDoorProg
import Derived.Test.YtmhjabjiojfgnaaDoorRPut2
import Derived.Test.YtmhjabjiojfgnaaDoorAskS
import Derived.Test.YtmhjabjiojfgnaaDoorBound
namespace Go.Proofs.YtmhjabjiojfgnaaDoor
open Go.RowKit D
set_option linter.unusedVariables false
attribute [local go_sem ↓] Go.wp_at_zero Go.wp_at_succ

def D.askPutS (ps : List Pt) : ByteArray := if askOk ps = true then ⟨(bodyL ps).toArray⟩ else ⟨#[]⟩

set_option maxHeartbeats 1000000 in
theorem l5Text_any (ps : List Pt) (v : Value) (bs : List Nat) (w : World) (h : partsK w [v] ps bs) (hn : bulkPts ps ≤ 16777216) :
    Calls Tryd.prog 72 #[v] w fun e w' => e = .returned (.string ⟨(bodyL ps).toArray⟩) ∧ Below w.heap.size w w' := by
  obtain ⟨Ad, cap, rfl, hl, hm⟩ := sliceK_form h
  have hlm := nat_ge_max (Nat.le_trans hl hm)
  clear hl hm
  go_enter Tryd.func72, Tryd.ntmps72
  go_wp2
  go_loopw [3, 4] (fun v i wr => ∃ (k : Nat) (s : ByteArray), k ≤ ps.length ∧ i = .int .i64 k ∧ v = .string s ∧ s.data.toList = bodyL (ps.take k) ∧ Below w.heap.size w wr) (fun _ i _ => ps.length - (intOf i).toNat)
  case atStart => exact ⟨0, _, Nat.zero_le _, rfl, rfl, rfl, Below.refl _ _⟩
  case round =>
    obtain ⟨k, s, hk, rfl, rfl, hs, hb⟩ := hrel
    have hsz : s.size ≤ 200000000 := by
      have h1 := congrArg List.length hs
      have h2 := bodyL_take_le ps k
      have h5 : s.data.toList.length = s.size := Array.length_toList
      omega
    have HS := Lib.hid hs
    clear hs
    by_cases hlt : k < ps.length
    · obtain ⟨bb, o, Af, cf, bk, rfl, _, d0, d1, d2, hel, _⟩ := parts_el (partsK_good.below h hb) hlt
      have hbk : bulkPt ps[k] ≤ 16777216 := Nat.le_trans (bulkPts_at ps k hlt) hn
      have hple := partL_le ps[k]
      have HT := Lib.hid (bodyL_snoc ps k hlt)
      have hk0 : (0 : Int) ≤ (k : Int) := by omega
      have hk9 : (k : Int) < (ps.length : Int) := by omega
      have HLT := Lib.hid hlt
      clear h
      generalize ps[k] = p at *
      have hsz2 : (⟨(partL p).toArray⟩ : ByteArray).size ≤ 16777222 := by rw [size_of]; omega
      have hsz3 : (partL p).length ≤ 16777222 := by omega
      have HB := Lib.hid hb
      by_cases hkz : k = 0
      · have HK := Lib.hid hkz
        have hk1 : ¬ (0 : Int) < (k : Int) := by omega
        clear hkz hlt hk hb
        go_wp2_with fail
        refine (l1Part_any p _ _ _ bk _ hel hbk).mono ?_
        rintro e w' ⟨rfl, hb'⟩
        have HB1 := Lib.hid (HB.out.trans (hb'.mono HB.out.size))
        clear hel hb' d0 d1 d2
        go_wp2
        go_roundw
        case rel => exact ⟨k + 1, _, HLT.out, by go_num, rfl, by rw [HT.out]; simp [ByteArray.data_append, HS.out, HK.out, bodyL, sepL_nil], HB1.out⟩
        case measure => have := HLT.out; simp [intOf]; omega
      · have HK := Lib.hid hkz
        have hk1 : (0 : Int) < (k : Int) := by omega
        clear hkz hlt hk hb
        go_wp2_with fail
        refine (l1Part_any p _ _ _ bk _ hel hbk).mono ?_
        rintro e w' ⟨rfl, hb'⟩
        have HB1 := Lib.hid (HB.out.trans (hb'.mono HB.out.size))
        clear hel hb' d0 d1 d2
        go_wp2
        go_roundw
        case rel => exact ⟨k + 1, _, HLT.out, by go_num, rfl, by rw [HT.out]; simp [ByteArray.data_append, HS.out, HK.out, andL], HB1.out⟩
        case measure => have := HLT.out; simp [intOf]; omega
    · have he := Lib.hid (show k = ps.length by omega)
      have hk1 : ¬ (k : Int) < (ps.length : Int) := by omega
      have HX : Hid (s = ⟨(bodyL ps).toArray⟩) := Lib.hid (by
        have := HS.out
        rw [he.out, List.take_of_length_le (Nat.le_refl _)] at this
        obtain ⟨⟨l⟩⟩ := s
        simp at this
        rw [this])
      have HB := Lib.hid hb
      clear h hb
      go_wp2
      go_ret
      exact ⟨ret_str HX.out, HB.out⟩

set_option maxHeartbeats 1000000 in
theorem askPut_spec (ps : List Pt) (v : Value) (bs : List Nat) (w : World) (h : partsK w [v] ps bs) (hn : bulkPts ps ≤ 16777216) :
    Calls Tryd.prog 34 #[v] w fun e w' => e = .returned (.string (askPutS ps)) ∧ Below w.heap.size w w' := by
  obtain ⟨Ad, cap, rfl, _, _⟩ := sliceK_form h
  have q1 := askOk_spec ps _ bs w h
  have q2 := fun w' (hb : Below w.heap.size w w') => l5Text_any ps _ bs w' (partsK_good.below h hb) hn
  have HG : Hid (askPutS ps = if askOk ps = true then ⟨(bodyL ps).toArray⟩ else ⟨#[]⟩) := Lib.hid rfl
  clear h
  generalize askPutS ps = G at *
  generalize askOk ps = x at *
  go_enter Tryd.func34, Tryd.ntmps34
  go_wp2_with fail
  refine q1.mono ?_
  rintro e w1 ⟨rfl, hb1⟩
  clear q1
  cases x
  · have HB := Lib.hid hb1
    clear q2 hb1
    go_wp2
    go_ret
    exact ⟨ret_str (by rw [HG.out]; rfl), HB.out⟩
  · have q3 := q2 _ hb1
    clear q2
    go_wp2_with fail
    refine q3.mono ?_
    rintro e w2 ⟨rfl, hb2⟩
    have HB := Lib.hid (hb1.trans (hb2.mono hb1.size))
    clear q3 hb1 hb2
    go_wp2
    go_ret
    exact ⟨ret_str (by rw [HG.out]; rfl), HB.out⟩

set_option maxHeartbeats 1000000 in
theorem askPut_impl (ps : List Pt) (v : Value) (bs : List Nat) (w : World) (h : partsK w [v] ps bs) (hn : bulkPts ps ≤ 16777216) :
    Calls Tryd.prog 33 #[v] w fun e w' => e = .returned (.string (askPutS ps)) ∧ Below w.heap.size w w' := by
  obtain ⟨Ad, cap, rfl, _, _⟩ := sliceK_form h
  have q1 := askOk_impl ps _ bs w h
  have q2 := fun w' (hb : Below w.heap.size w w') => bodyText_any ps _ bs w' (partsK_good.below h hb) hn
  have HG : Hid (askPutS ps = if askOk ps = true then ⟨(bodyL ps).toArray⟩ else ⟨#[]⟩) := Lib.hid rfl
  clear h
  generalize askPutS ps = G at *
  generalize askOk ps = x at *
  go_enter Tryd.func33, Tryd.ntmps33
  go_wp2_with fail
  refine q1.mono ?_
  rintro e w1 ⟨rfl, hb1⟩
  clear q1
  cases x
  · have HB := Lib.hid hb1
    clear q2 hb1
    go_wp2
    go_ret
    exact ⟨ret_str (by rw [HG.out]; rfl), HB.out⟩
  · have q3 := q2 _ hb1
    clear q2
    go_wp2_with fail
    refine q3.mono ?_
    rintro e w2 ⟨rfl, hb2⟩
    have HB := Lib.hid (hb1.trans (hb2.mono hb1.size))
    clear q3 hb1 hb2
    go_wp2
    go_ret
    exact ⟨ret_str (by rw [HG.out]; rfl), HB.out⟩

end Go.Proofs.YtmhjabjiojfgnaaDoor
