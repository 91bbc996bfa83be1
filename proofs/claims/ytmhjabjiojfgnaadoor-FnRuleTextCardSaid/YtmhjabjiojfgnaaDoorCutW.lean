/- The walks of l1Cut, l1Arg. -/
import Derived.WalkKit
import Derived.Lib.Hide
import Derived.WalkSpells
import Derived.WalkLawsBesides
import Derived.BigQuiet
import Derived.Deep.RegionHeld3
import Derived.Deep.RegionWith
import Derived.Deep.DrawnRows
import Derived.Deep.AppendLies
import Derived.Test.YtmhjabjiojfgnaaDoorProg
import Derived.Test.YtmhjabjiojfgnaaDoorAGetP
namespace Go.Proofs.YtmhjabjiojfgnaaDoor
open Go.RowKit D
set_option linter.unusedVariables false
attribute [local go_sem ↓] Go.wp_at_zero Go.wp_at_succ

/-- Texts in new memory: read. -/
def D.ReadsNew (xs : List ByteArray) (B : Nat) (w : World) (e : Ending) (w' : World) : Prop := Below B w w' ∧ ∃ v bs, e = .returned v ∧ strsK w' [v] xs bs ∧ ∀ b ∈ bs, w.heap.size ≤ b
theorem infoStrC : (Tryd.prog.info? 9).map (fun i => (i.zero, i.size, i.bytes)) = some (some (.string ⟨#[]⟩), 1, 16) := by kernel_rfl
theorem D.cut_step {c : UInt8} {l : List UInt8} {done : List (List UInt8)} {f i : Nat} (h : splitL c l = done ++ splitL c (l.drop f)) (hfi : f ≤ i) (hi : i < l.length) (hn : c ∉ (l.drop f).take (i - f)) (he : l[i] = c) :
    splitL c l = (done ++ [(l.drop f).take (i - f)]) ++ splitL c (l.drop (i + 1)) := by
  have h1 : l.drop f = (l.drop f).take (i - f) ++ c :: l.drop (i + 1) := by
    conv => lhs; rw [← List.take_append_drop (i - f) (l.drop f)]
    rw [List.drop_drop, show f + (i - f) = i by omega, List.drop_eq_getElem_cons hi, he]
  have h2 := splitL_hit (l.drop (i + 1)) hn
  rw [← h1] at h2
  rw [h, h2, List.append_assoc]
  rfl
theorem D.not_step {c : UInt8} {l : List UInt8} {f i : Nat} (hfi : f ≤ i) (hi : i < l.length) (hn : c ∉ (l.drop f).take (i - f)) (he : l[i] ≠ c) : c ∉ (l.drop f).take (i + 1 - f) := by
  rw [show i + 1 - f = (i - f) + 1 by omega, List.take_succ_eq_append_getElem (by simp; omega)]
  intro hm
  rcases List.mem_append.1 hm with hm | hm
  · exact hn hm
  · have e := List.mem_singleton.1 hm
    rw [List.getElem_drop] at e
    have : f + (i - f) = i := by omega
    simp only [this] at e
    exact he e.symm

set_option maxRecDepth 100000 in
set_option maxHeartbeats 1000000 in
theorem l1Cut_any (s : ByteArray) (c : UInt8) (w : World) (hs : s.size ≤ 16777216) :
    Calls Tryd.prog 54 #[.string s, .int .u8 c.toNat] w (ReadsNew ((splitL c s.data.toList).map toB) w.heap.size w) := by
  obtain ⟨i0, hi, hz0, hz1, hz2⟩ := info_parts infoStrC
  have hlen : s.data.toList.length = s.size := Array.length_toList
  have hA : Below w.heap.size w (w.alloc (.cells #[] 9)) := (Below.refl _ _).alloc (Nat.le_refl _) _
  have HST := Lib.hid (And.intro hA (Coll.empty (n := 1) (R := strK) (e := 9) (heap_alloc_new w (.cells #[] 9)) (Nat.le_refl w.heap.size)))
  have HLN := Lib.hid hlen
  have HSZ := Lib.hid hs
  clear hA hlen
  go_enter Tryd.func54, Tryd.ntmps54
  go_wp2
  go_loopw [5, 6, 7] (fun v fr i wr => ∃ (k f m : Nat) (Av : Option Addr) (cp : Nat) (L : List Value) (done : List (List UInt8)), k ≤ s.size ∧ i = .int .i64 k ∧ fr = .int .i64 f ∧ f ≤ k ∧ v = .slice Av m cp ∧ m = done.length ∧ m ≤ k ∧ Coll 1 strK w.heap.size 9 wr (.slice Av m cp) L (done.map toB) [] ∧ splitL c s.data.toList = done ++ splitL c (s.data.toList.drop f) ∧ c ∉ (s.data.toList.drop f).take (k - f) ∧ Below w.heap.size w wr) (fun _ _ i _ => s.size - (intOf i).toNat)
  case atStart => exact ⟨0, 0, 0, _, _, _, [], Nat.zero_le _, rfl, rfl, Nat.le_refl _, rfl, rfl, Nat.le_refl _, HST.out.2, rfl, by simp, HST.out.1⟩
  case round =>
    obtain ⟨k, f, m, Av, cp, L, done, hk, rfl, rfl, hf, rfl, hme, hmk, hC, hsp, hn, hb⟩ := hrel
    clear HST
    have HM := Lib.hid hme
    have HC := Lib.hid hC
    have HB := Lib.hid hb
    have HS := Lib.hid (And.intro hsp hn)
    have HF := Lib.hid (And.intro hf hmk)
    have HKS := Lib.hid hk
    clear hme hC hb hsp hn
    by_cases hlt : k < s.size
    · have hk0 : (0 : Int) ≤ (k : Int) := by omega
      have hk1 : (k : Int) < (s.size : Int) := by omega
      have hk9 : (k : Int) ≤ 16777216 := by omega
      have hf0 : (0 : Int) ≤ (f : Int) := by omega
      have hf1 : (f : Int) ≤ (k : Int) := by omega
      have HLT := Lib.hid hlt
      have hlk : k < s.data.toList.length := by rw [HLN.out]; exact hlt
      have hget : s[k] = s.data.toList[k] := rfl
      by_cases he : s.data.toList[k] = c
      · have hq : ((s[k].toNat : Int) == (c.toNat : Int)) = true := by rw [hget, he]; simp
        have HS2 := Lib.hid (cut_step HS.out.1 hf hlk HS.out.2 he)
        have hex : Hid (s.extract f k = toB ((s.data.toList.drop f).take (k - f))) := Lib.hid (by
          rw [← toB_of (s.extract f k), ByteArray.data_extract, Array.toList_extract, List.extract_eq_take_drop])
        have hnm : (s.extract f k).size ≤ maxLen := by
          have h1 : (s.extract f k).size ≤ s.size := by rw [ByteArray.size_extract]; omega
          unfold maxLen; omega
        have hA2 : Below wr.heap.size wr (wr.alloc (.cells #[.string (s.extract f k)] 9)) := (Below.refl _ _).alloc (Nat.le_refl _) _
        have HC2 := Lib.hid (HC.out.below strK_good hA2)
        have HB2 := Lib.hid (HB.out.trans (hA2.mono HB.out.size))
        have HR2 : Hid (Rowed 1 strK (wr.alloc (.cells #[.string (s.extract f k)] 9)) [.string (s.extract f k)] [s.extract f k] []) := Lib.hid (Rowed.one_el strK_ones ⟨rfl, hnm, rfl⟩)
        have HL2 := Lib.hid (lies_block (heap_alloc_new wr (.cells #[.string (s.extract f k)] 9)))
        have HM2 : Hid ((done.map toB).length = m) := Lib.hid (by rw [List.length_map]; exact HM.out.symm)
        have HK2 : Hid (m + 1 ≤ maxLen ∧ (m + 1) * 16 ≤ 140737488355328) := Lib.hid (by have := HF.out.2; have := HSZ.out; have := HKS.out; unfold maxLen; omega)
        clear hA2 hnm
        go_wp2_with (at_builtin; refine wpList_coll rfl _ _ _ rfl w.heap.size 9 i0 (.string ⟨#[]⟩) 1 16 Tryd.underlying58 hi hz0 hz1 hz2 rfl (by omega) strK_good (.slice Av m cp) m _ _ _ rfl HC2.out HM2.out (some ⟨wr.heap.size, 0, none⟩) 1 1 _ [s.extract f k] _ rfl HR2.out rfl HL2.out (fun b hb => by simp at hb) HK2.out.1 HK2.out.2 w w.heap.size HB2.out (Nat.le_refl _) HB2.out.size ?_; intro A2 cp2 w2 hC3 hB3 hS3 _)
        have HC3 := Lib.hid hC3
        have HB3 := Lib.hid hB3
        clear hC3 hB3 hS3
        go_wp2
        go_roundw
        case rel => exact ⟨k + 1, k + 1, m + 1, A2, cp2, _, done ++ [(s.data.toList.drop f).take (k - f)], HLT.out, by go_num, by go_num, Nat.le_refl _, rfl, by have := HM.out; simp; omega, by have := HF.out.2; omega, by rw [List.map_append]; show Coll 1 strK _ _ _ _ _ (done.map toB ++ [toB _]) []; rw [← hex.out]; exact HC3.out, HS2.out, by simp, HB3.out⟩
        case measure => have := HLT.out; simp [intOf]; omega
      · have hq : ((s[k].toNat : Int) == (c.toNat : Int)) = false := by
          rw [beq_eq_false_iff_ne, hget]
          intro e
          apply he
          rw [← UInt8.toNat_inj]
          omega
        have HS2 := Lib.hid (not_step hf hlk HS.out.2 he)
        clear he hget
        go_wp2
        go_roundw
        case rel => exact ⟨k + 1, f, m, Av, cp, L, done, HLT.out, by go_num, rfl, by have := HF.out.1; omega, rfl, HM.out, by have := HF.out.2; omega, HC.out, HS.out.1, HS2.out, HB.out⟩
        case measure => have := HLT.out; simp [intOf]; omega
    · have he : k = s.size := by omega
      have hk1 : ¬ (k : Int) < (s.size : Int) := by omega
      have hf0 : (0 : Int) ≤ (f : Int) := by omega
      have hf1 : (f : Int) ≤ (s.size : Int) := by omega
      have HX : Hid ((splitL c s.data.toList).map toB = done.map toB ++ [s.extract f s.size]) := Lib.hid (by
        have hn := HS.out.2
        rw [List.take_of_length_le (by rw [List.length_drop, HLN.out]; omega)] at hn
        have h2 := HS.out.1
        rw [splitL_miss hn] at h2
        rw [h2, List.map_append]
        congr 1
        show [toB _] = [_]
        rw [← toB_of (s.extract f s.size), extract_drop])
      have hnm : (s.extract f s.size).size ≤ maxLen := by
        have h1 : (s.extract f s.size).size ≤ s.size := by rw [ByteArray.size_extract]; omega
        unfold maxLen; omega
      clear he hk hf hmk
      have hA2 : Below wr.heap.size wr (wr.alloc (.cells #[.string (s.extract f s.size)] 9)) := (Below.refl _ _).alloc (Nat.le_refl _) _
      have HC2 := Lib.hid (HC.out.below strK_good hA2)
      have HB2 := Lib.hid (HB.out.trans (hA2.mono HB.out.size))
      have HR2 : Hid (Rowed 1 strK (wr.alloc (.cells #[.string (s.extract f s.size)] 9)) [.string (s.extract f s.size)] [s.extract f s.size] []) := Lib.hid (Rowed.one_el strK_ones ⟨rfl, hnm, rfl⟩)
      have HL2 := Lib.hid (lies_block (heap_alloc_new wr (.cells #[.string (s.extract f s.size)] 9)))
      have HM2 : Hid ((done.map toB).length = m) := Lib.hid (by rw [List.length_map]; exact HM.out.symm)
      have HK2 : Hid (m + 1 ≤ maxLen ∧ (m + 1) * 16 ≤ 140737488355328) := Lib.hid (by have := HF.out.2; have := HSZ.out; have := HKS.out; unfold maxLen; omega)
      clear hA2 hnm
      go_wp2_with (at_builtin; refine wpList_coll rfl _ _ _ rfl w.heap.size 9 i0 (.string ⟨#[]⟩) 1 16 Tryd.underlying58 hi hz0 hz1 hz2 rfl (by omega) strK_good (.slice Av m cp) m _ _ _ rfl HC2.out HM2.out (some ⟨wr.heap.size, 0, none⟩) 1 1 _ [s.extract f s.size] _ rfl HR2.out rfl HL2.out (fun b hb => by simp at hb) HK2.out.1 HK2.out.2 w w.heap.size HB2.out (Nat.le_refl _) HB2.out.size ?_; intro A2 cp2 w2 hC3 hB3 hS3 _)
      have HC3 := Lib.hid hC3
      have HB3 := Lib.hid hB3
      clear hC3 hB3 hS3
      go_wp2
      obtain ⟨b9, hs9, hf9⟩ := HC3.out.slice
      have HS9 := Lib.hid (And.intro hs9 hf9)
      clear hs9 hf9
      go_ret
      exact ⟨HB3.out, _, b9, rfl, by rw [HX.out]; exact HS9.out.1, fun b hb => (HS9.out.2 b hb).resolve_right (by simp)⟩

set_option maxHeartbeats 400000 in
theorem l1Arg_any (s : ByteArray) (w : World) :
    Calls Tryd.prog 55 #[.string s] w fun e w' => e = .returned (.agg #[.bool (capB s), .string s]) ∧ Below w.heap.size w w' := by
  by_cases h0 : 0 < s.size
  · have h0i : (0 : Int) < (s.size : Int) := by omega
    have hc : capB s = big s[0] := by unfold capB; rw [headD_at s h0, decide_eq_true h0]; rfl
    have hb := big_int s[0]
    cases hbg : big s[0]
    · rw [hbg] at hc hb
      have HC := Lib.hid hc
      have hno : ¬ (65 ≤ (s[0].toNat : Int) ∧ (s[0].toNat : Int) ≤ 90) := fun e => by simpa using hb.2 e
      by_cases h1 : 65 ≤ (s[0].toNat : Int)
      · have h2 : ¬ (s[0].toNat : Int) ≤ 90 := fun e => hno ⟨h1, e⟩
        clear hc hb hno hbg
        go_enter Tryd.func55, Tryd.ntmps55
        go_wp2
        refine bodyPost_ret (v := .agg #[.bool false, .string s]) (by simp [results, Tryd.results55, go_sem]) rfl ⟨by rw [HC.out], (Below.refl _ _).alloc (Nat.le_refl _) _⟩
      · clear hc hb hno hbg
        go_enter Tryd.func55, Tryd.ntmps55
        go_wp2
        refine bodyPost_ret (v := .agg #[.bool false, .string s]) (by simp [results, Tryd.results55, go_sem]) rfl ⟨by rw [HC.out], (Below.refl _ _).alloc (Nat.le_refl _) _⟩
    · rw [hbg] at hc hb
      have HC := Lib.hid hc
      have h12 := hb.1 rfl
      have h1 := h12.1
      have h2 := h12.2
      clear hc hb hbg h12
      go_enter Tryd.func55, Tryd.ntmps55
      go_wp2
      refine bodyPost_ret (v := .agg #[.bool true, .string s]) (by simp [results, Tryd.results55, go_sem]) rfl ⟨by rw [HC.out], (Below.refl _ _).alloc (Nat.le_refl _) _⟩
  · have h0i : ¬ (0 : Int) < (s.size : Int) := by omega
    have HC : Hid (capB s = false) := Lib.hid (by unfold capB; rw [decide_eq_false h0]; rfl)
    clear h0
    go_enter Tryd.func55, Tryd.ntmps55
    go_wp2
    refine bodyPost_ret (v := .agg #[.bool false, .string s]) (by simp [results, Tryd.results55, go_sem]) rfl ⟨by rw [HC.out], (Below.refl _ _).alloc (Nat.le_refl _) _⟩

end Go.Proofs.YtmhjabjiojfgnaaDoor
