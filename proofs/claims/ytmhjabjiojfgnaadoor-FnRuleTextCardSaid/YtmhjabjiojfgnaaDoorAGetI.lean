/- The walks of CutSuffix and of impl.AtomGet. -/
import Derived.WalkKit
import Derived.Lib.Hide
import Derived.WalkSpells
import Derived.WalkLawsBesides
import Derived.BigQuiet
import Derived.Deep.RegionHeld3
import Derived.Deep.RegionWith
import Derived.Deep.RegionLaw
import Derived.Deep.DrawnRows
import Derived.Deep.AppendLies
import Derived.Test.YtmhjabjiojfgnaaDoorProg
import Derived.Test.YtmhjabjiojfgnaaDoorAGetW
import Derived.Test.YtmhjabjiojfgnaaDoorAtom
import Derived.Test.YtmhjabjiojfgnaaDoorShelf
namespace Go.Proofs.YtmhjabjiojfgnaaDoor
open Go.RowKit D
set_option linter.unusedVariables false
attribute [local go_sem ↓] Go.wp_at_zero Go.wp_at_succ

def D.lastB (s : ByteArray) : Bool := decide (s.data.toList.getLast? = some 41)
theorem D.lastB_pos {s : ByteArray} (h : 0 < s.size) : ((s.extract (s.size - 1) s.size).toList == [41]) = lastB s := by
  unfold lastB
  rw [ByteArray.toList_eq, extract_drop]
  have hl : s.data.toList.length = s.size := Array.length_toList
  generalize s.data.toList = l at *
  have hne : l ≠ [] := by intro e; subst e; simp at hl; omega
  have e := List.dropLast_concat_getLast hne
  have hd : l.drop (s.size - 1) = [l.getLast hne] := by
    rw [← hl]
    conv => lhs; rw [← e]
    rw [List.drop_append_of_le_length (by simp)]
    simp
  rw [hd, List.getLast?_eq_some_getLast hne, Bool.eq_iff_iff]
  simp
set_option maxHeartbeats 400000 in
theorem hasSuffix_any (s : ByteArray) (w : World) (hs : s.size ≤ 16777216) :
    Calls Tryd.prog 100 #[.string s, .string ⟨#[41]⟩] w fun e w' => e = .returned (.bool (lastB s)) ∧ w' = w := by
  by_cases h0 : 0 < s.size
  · have h1 : (1 : Int) ≤ (s.size : Int) := by omega
    have hw : IntKind.i64.wrap ((s.size : Int) - 1) = ((s.size - 1 : Nat) : Int) := by
      simp only [IntKind.wrap, IntKind.bits, IntKind.signed]; simp; omega
    have hg0 : (0 : Int) ≤ ((s.size - 1 : Nat) : Int) := by omega
    have hg1 : ((s.size - 1 : Nat) : Int) ≤ (s.size : Int) := by omega
    have hw2 : wrap64 ((s.size : Int) - 1) = ((s.size - 1 : Nat) : Int) := by unfold wrap64; omega
    have HB := Lib.hid (lastB_pos h0)
    generalize hb : ((s.extract (s.size - 1) s.size).toList == [41]) = b at *
    obtain rfl := HB.out
    clear h0
    go_enter Tryd.func100, Tryd.ntmps100
    go_wp2
    go_ret
    exact ⟨rfl, rfl⟩
  · have h1 : ¬ (1 : Int) ≤ (s.size : Int) := by omega
    have HB : Hid (lastB s = false) := Lib.hid (by
      have hl : s.data.toList.length = s.size := Array.length_toList
      have : s.data.toList = [] := List.length_eq_zero_iff.1 (by omega)
      unfold lastB; rw [this]; rfl)
    clear h0
    go_enter Tryd.func100, Tryd.ntmps100
    go_wp2
    go_ret
    exact ⟨ret_bool HB.out.symm, rfl⟩
set_option maxHeartbeats 400000 in
theorem cutSuffixL_any (s : ByteArray) (w : World) (hs : s.size ≤ 16777216) :
    Calls Tryd.prog 81 #[.string s, .string ⟨#[41]⟩] w fun e w' => e = .returned (.tuple #[.string (if lastB s then s.extract 0 (s.size - 1) else s), .bool (lastB s)]) ∧ w' = w := by
  have hk := hasSuffix_any s w hs
  have HP : Hid (lastB s = true → 0 < s.size) := Lib.hid (fun h => by
    have hl : s.data.toList.length = s.size := Array.length_toList
    cases hs0 : s.data.toList with
    | nil => unfold lastB at h; rw [hs0] at h; simp at h
    | cons x xs => rw [hs0] at hl; simp at hl; omega)
  generalize lastB s = b at *
  cases b
  · go_enter Tryd.func81, Tryd.ntmps81
    go_wp2_with fail
    refine hk.mono ?_
    rintro e w1 ⟨rfl, rfl⟩
    clear hk HP
    go_wp2
    go_ret2
    exact ⟨rfl, rfl⟩
  · have h0 := HP.out rfl
    have hw2 : wrap64 ((s.size : Int) - 1) = ((s.size - 1 : Nat) : Int) := by unfold wrap64; omega
    have hw : IntKind.i64.wrap ((s.size : Int) - 1) = ((s.size - 1 : Nat) : Int) := by
      simp only [IntKind.wrap, IntKind.bits, IntKind.signed]; simp; omega
    have hg0 : (0 : Int) ≤ ((s.size - 1 : Nat) : Int) := by omega
    have hg1 : ((s.size - 1 : Nat) : Int) ≤ (s.size : Int) := by omega
    clear HP
    go_enter Tryd.func81, Tryd.ntmps81
    go_wp2_with fail
    refine hk.mono ?_
    rintro e w1 ⟨rfl, rfl⟩
    clear hk
    go_wp2
    go_ret2
    exact ⟨rfl, rfl⟩
set_option maxHeartbeats 400000 in
theorem cutSuffix_any (s : ByteArray) (w : World) (hs : s.size ≤ 16777216) :
    Calls Tryd.prog 43 #[.string s, .string ⟨#[41]⟩] w fun e w' => e = .returned (.tuple #[.string (if lastB s then s.extract 0 (s.size - 1) else s), .bool (lastB s)]) ∧ w' = w := by
  have hk := cutSuffixL_any s w hs
  generalize (if lastB s then s.extract 0 (s.size - 1) else s) = r at *
  go_enter Tryd.func43, Tryd.ntmps43
  go_wp2_with fail
  refine hk.mono ?_
  rintro e w1 ⟨rfl, rfl⟩
  clear hk
  go_wp2
  go_ret2
  exact ⟨rfl, rfl⟩

theorem D.join_mem {c : UInt8} : ∀ {ps : List (List UInt8)} {p : List UInt8}, p ∈ ps → p.length ≤ (joinL c ps).length
  | [q], p, h => by rw [List.mem_singleton.1 h]; exact Nat.le_refl _
  | q :: r :: s, p, h => by
    show p.length ≤ (q ++ c :: joinL c (r :: s)).length
    rw [List.length_append, List.length_cons]
    rcases List.mem_cons.1 h with rfl | h
    · omega
    · have := join_mem (c := c) h; omega
theorem D.splitL_len' (c : UInt8) : ∀ l : List UInt8, (splitL c l).length ≤ l.length + 1
  | [] => by simp [splitL]
  | x :: xs => by
    have ih := splitL_len' c xs
    unfold splitL
    split
    · simp; exact ih
    · split
      · simp
      · rename_i he; rw [he] at ih; simp at ih ⊢; omega
theorem D.get_zero0 {w W : World} {b : Bool} (hb : Below w.heap.size w W) : MakesAB (zeroA, b) w.heap.size w (.returned (.tuple #[.agg #[.string ⟨#[]⟩, .slice none 0 0], .bool b])) W :=
  ⟨hb, _, [], rfl, ⟨_, rfl, Nat.zero_le _, ⟨none, 0, rfl, Nat.le_refl _, Nat.zero_le _, fun _ => rfl, fun h => absurd rfl h⟩⟩, New.nil _ _⟩
set_option maxHeartbeats 400000 in
theorem split_any (s : ByteArray) (m : Int) (w : World) (hs : s.size ≤ 16777216) (hm : w.cell? ⟨0, 0, none⟩ = some (.int .i64 m)) :
    Calls Tryd.prog 44 #[.string s, .string ⟨#[44]⟩] w (ReadsNew ((splitL 44 s.data.toList).map toB) w.heap.size w) := by
  have hk := Tryd.strings_Split s ⟨#[44]⟩ m w (by omega) hm (by decide)
  have e1 : Lib.splitB ⟨#[44]⟩ 0 (Lib.countB s ⟨#[44]⟩) s = (splitL 44 s.data.toList).map toB := splitB_is s.size s 44 (Nat.le_refl _)
  have e2 : ((splitL 44 s.data.toList).map toB).length = Lib.countB s ⟨#[44]⟩ + 1 := by rw [← e1]; exact Lib.splitB_all ⟨#[44]⟩ (by decide) 0 _ s rfl
  rw [e1, ← e2] at hk
  have hlen : s.data.toList.length = s.size := Array.length_toList
  have hsp : ∀ c ∈ (splitL 44 s.data.toList).map toB, c.size ≤ maxLen := fun c hc => by
    obtain ⟨p, hp, rfl⟩ := List.mem_map.1 hc
    have h1 : p.length ≤ (joinL 44 (splitL 44 s.data.toList)).length := join_mem hp
    rw [joinL_split] at h1
    have h2 : (toB p).size = p.length := List.size_toArray
    unfold maxLen; omega
  have hl2 : ((splitL 44 s.data.toList).map toB).length ≤ maxLen := by
    rw [List.length_map]
    have h1 := splitL_len' 44 s.data.toList
    unfold maxLen; omega
  refine hk.mono ?_
  rintro e w' ⟨rfl, rfl⟩
  have hA := (Below.refl w.heap.size w).alloc (Nat.le_refl _) (.cells ((((splitL 44 s.data.toList).map toB).map Value.string).toArray) 9)
  exact ⟨hA, _, _, rfl, strs_of_block (heap_alloc_new w _) (Nat.le_refl _) hl2 hsp, fun b hb => by
    split at hb
    · simp at hb
    · rw [List.mem_singleton.1 hb]; exact Nat.le_refl _⟩

set_option maxRecDepth 100000 in
set_option maxHeartbeats 2000000 in
theorem atomGet_impl (s : ByteArray) (m : Int) (w : World) (hs : s.size ≤ 1048576) (hm : w.cell? ⟨0, 0, none⟩ = some (.int .i64 m)) :
    Calls Tryd.prog 10 #[.string s] w (MakesAB (getI s.data.toList) w.heap.size w) := by
  obtain ⟨i0, hi, hz0, hz1, hz2⟩ := info_parts infoTermG
  have hlen : s.data.toList.length = s.size := Array.length_toList
  have hA : Below w.heap.size w (w.alloc (.cells #[.string ⟨#[]⟩, .slice none 0 0] 25)) := (Below.refl _ _).alloc (Nat.le_refl _) _
  have HZ := Lib.hid (heap_alloc_new w (.cells #[.string ⟨#[]⟩, .slice none 0 0] 25))
  have hm1 := cell_later hA hm
  have hcut : Calls Tryd.prog 42 #[.string s, .string ⟨#[40]⟩] (w.alloc (.cells #[.string ⟨#[]⟩, .slice none 0 0] 25)) fun e w' => e = .returned (.tuple #[.string (toB (Lib.cut s.data.toList [40]).1), .string (toB (Lib.cut s.data.toList [40]).2.1), .bool (Lib.cut s.data.toList [40]).2.2]) ∧ ∃ n, w' = (w.alloc (.cells #[.string ⟨#[]⟩, .slice none 0 0] 25)).drewN n := Tryd.strings_Cut s ⟨#[40]⟩ m _ (by omega) hm1
  have HA := Lib.hid hA
  have HSZ := Lib.hid (And.intro hs hlen)
  have HM := Lib.hid hm1
  have HG : Hid (getI s.data.toList = if 1500 < s.data.toList.length then (zeroA, false) else
    if (Lib.cut s.data.toList [40]).2.2 = true ∧ (Lib.cut s.data.toList [40]).2.1.getLast? = some 41 then (if atomOk (atomOf (Lib.cut s.data.toList [40]).1 (Lib.cut s.data.toList [40]).2.1.dropLast) then (atomOf (Lib.cut s.data.toList [40]).1 (Lib.cut s.data.toList [40]).2.1.dropLast, true) else (zeroA, false)) else (zeroA, false)) := Lib.hid rfl
  have HLL : Hid ((Lib.cut s.data.toList [40]).1.length ≤ s.size ∧ (Lib.cut s.data.toList [40]).2.1.length ≤ s.size) := Lib.hid (by
    rcases cut_is s.data.toList 40 with ⟨_, h2⟩ | ⟨a, b, h1, _, h3⟩
    · rw [h2]; exact ⟨Nat.le_of_eq hlen, Nat.zero_le _⟩
    · rw [h3, ← hlen, h1]; simp; omega)
  generalize getI s.data.toList = G at *
  generalize Lib.cut s.data.toList [40] = C at *
  obtain ⟨nm, rest, op⟩ := C
  dsimp only at *
  clear hA hlen hm hm1
  by_cases ht : 1500 < s.size
  · have hti : (1500 : Int) < (s.size : Int) := by omega
    have HGZ : Hid (G = (zeroA, false)) := Lib.hid (by rw [HG.out, if_pos (by rw [HSZ.out.2]; exact ht)])
    clear ht hcut
    go_enter Tryd.func10, Tryd.ntmps10
    go_wp2
    refine bodyPost_ret (v := .tuple #[.agg #[.string ⟨#[]⟩, .slice none 0 0], .bool false]) (by simp [results, Tryd.results10, go_sem]) rfl (by rw [HGZ.out]; exact get_zero0 HA.out)
  · have hti : ¬ (1500 : Int) < (s.size : Int) := by omega
    have HG2 : Hid (G = if op = true ∧ rest.getLast? = some 41 then (if atomOk (atomOf nm rest.dropLast) then (atomOf nm rest.dropLast, true) else (zeroA, false)) else (zeroA, false)) := Lib.hid (by rw [HG.out, if_neg (by rw [HSZ.out.2]; exact ht)])
    have hrz : (toB rest).size ≤ 1048576 := by have h1 : (toB rest).size = rest.length := List.size_toArray; have := HLL.out.2; omega
    have HNB : Hid ((toB nm).size ≤ maxLen) := Lib.hid (by have h1 : (toB nm).size = nm.length := List.size_toArray; have := HLL.out.1; unfold maxLen; omega)
    have HLB : Hid (lastB (toB rest) = decide (rest.getLast? = some 41)) := Lib.hid rfl
    have hsuf := fun w' => cutSuffix_any (toB rest) w' (by omega)
    have HEX : Hid (((toB rest).extract 0 ((toB rest).size - 1)).data.toList = rest.dropLast ∧ ((toB rest).extract 0 ((toB rest).size - 1)).size ≤ 1048576) := Lib.hid ⟨by rw [extract_take, toB_data, List.dropLast_eq_take]; have h1 : (toB rest).size = rest.length := List.size_toArray; rw [h1], by rw [ByteArray.size_extract]; omega⟩
    have HLB2 := Lib.hid HLB.out
    generalize lastB (toB rest) = lb at *
    clear ht hrz
    go_enter Tryd.func10, Tryd.ntmps10
    go_wp2_with fail
    refine hcut.mono ?_
    rintro e w1 ⟨rfl, nd, hw1⟩
    have HB1 : Hid (Below w.heap.size w w1) := Lib.hid (by rw [hw1]; exact below_dQ HA.out _)
    replace HZ : Hid (w1.heap[w.heap.size]? = some (.cells #[.string ⟨#[]⟩, .slice none 0 0] 25 (0, 0))) := Lib.hid (by rw [hw1]; exact HZ.out)
    replace HM : Hid (w1.cell? ⟨0, 0, none⟩ = some (.int .i64 m)) := Lib.hid (by rw [hw1]; exact HM.out)
    clear hw1 hcut
    have hsuf1 := hsuf w1
    clear hsuf
    go_wp2_with fail
    refine hsuf1.mono ?_
    rintro e w2 ⟨rfl, hww⟩
    obtain rfl : w1 = w2 := hww.symm
    clear hsuf1 hww
    cases op
    · have HGZ : Hid (G = (zeroA, false)) := Lib.hid (by rw [HG2.out, if_neg (by simp)])
      cases lb
      all_goals
        have z0 : w1.cell? ⟨w.heap.size, 0, none⟩ = some (.string ⟨#[]⟩) := cell_of_blk HZ.out
        have z1 : w1.cell? ⟨w.heap.size, 1, none⟩ = some (.slice none 0 0) := cell_of_blk HZ.out
        have f0 : w1.frozen? ⟨w.heap.size, 0, none⟩ = false := frozen_of_blk HZ.out
        have f1 : w1.frozen? ⟨w.heap.size, 1, none⟩ = false := frozen_of_blk HZ.out
        have HD := Lib.hid (get_zero (b := false) HZ.out HB1.out (Nat.le_refl _))
        go_wp2
        refine bodyPost_ret (v := .tuple #[.agg #[.string ⟨#[]⟩, .slice none 0 0], .bool false]) (by simp [results, Tryd.results10, go_sem, z0, z1]) rfl (by rw [HGZ.out]; exact HD.out)
    · cases lb
      · have HGZ : Hid (G = (zeroA, false)) := Lib.hid (by rw [HG2.out, if_neg (fun h => by have := HLB2.out; rw [decide_eq_true h.2] at this; cases this)])
        have z0 : w1.cell? ⟨w.heap.size, 0, none⟩ = some (.string ⟨#[]⟩) := cell_of_blk HZ.out
        have z1 : w1.cell? ⟨w.heap.size, 1, none⟩ = some (.slice none 0 0) := cell_of_blk HZ.out
        have f0 : w1.frozen? ⟨w.heap.size, 0, none⟩ = false := frozen_of_blk HZ.out
        have f1 : w1.frozen? ⟨w.heap.size, 1, none⟩ = false := frozen_of_blk HZ.out
        have HD := Lib.hid (get_zero (b := false) HZ.out HB1.out (Nat.le_refl _))
        go_wp2
        refine bodyPost_ret (v := .tuple #[.agg #[.string ⟨#[]⟩, .slice none 0 0], .bool false]) (by simp [results, Tryd.results10, go_sem, z0, z1]) rfl (by rw [HGZ.out]; exact HD.out)
      · have HG3 : Hid (G = if atomOk (atomOf nm rest.dropLast) then (atomOf nm rest.dropLast, true) else (zeroA, false)) := Lib.hid (by rw [HG2.out, if_pos ⟨rfl, by have := HLB2.out; exact of_decide_eq_true this.symm⟩])
        have hA1 : Below w1.heap.size w1 (w1.alloc (.cells #[.string (toB nm), .slice none 0 0] 25)) := (Below.refl _ _).alloc (Nat.le_refl _) _
        have HI0 : Hid (PInv w w.heap.size w1.heap.size (w1.heap.size + 1) (toB nm) (.slice none 0 0) [] [] (w1.alloc (.cells #[.string (toB nm), .slice none 0 0] 25))) := Lib.hid ⟨(hA1.block _ (lt_of_block HZ.out)).trans HZ.out, heap_alloc_new w1 _, Nat.le_refl _, HB1.out.size, Nat.ne_of_lt (lt_of_block HZ.out), by have := HB1.out.size; omega, Coll.nil _, HB1.out.trans (hA1.mono HB1.out.size), by simp⟩
        have hc2 := split_any ((toB rest).extract 0 ((toB rest).size - 1)) m (w1.alloc (.cells #[.string (toB nm), .slice none 0 0] 25)) (by have := HEX.out.2; omega) (cell_later hA1 HM.out)
        have HAO : Hid (atomOf nm rest.dropLast = ⟨toB nm, if ((toB rest).extract 0 ((toB rest).size - 1)).data.toList = [] then [] else (splitL 44 ((toB rest).extract 0 ((toB rest).size - 1)).data.toList).map fun w => argT (toB w)⟩) := Lib.hid (by rw [HEX.out.1]; rfl)
        have HIZ := Lib.hid HEX.out.2
        have HNW : Hid (w.heap.size < w1.heap.size) := Lib.hid (lt_of_block HZ.out)
        clear hA1 HZ HM HEX
        generalize (toB rest).extract 0 ((toB rest).size - 1) = inn at *
        have hsim : (if true = true then inn else toB rest) = inn := rfl
        by_cases hie : inn.data.toList = []
        · have hem : inn.toList.isEmpty = true := by rw [ByteArray.toList_eq, hie]; rfl
          have HAE : Hid (atomOf nm rest.dropLast = ⟨toB nm, []⟩) := Lib.hid (by rw [HAO.out, if_pos hie])
          clear hie hc2
          have hI := HI0.out
          clear HI0
          obtain ⟨b8, hs8, _⟩ := hI.coll.slice
          have hat : atomK (w1.alloc (.cells #[.string (toB nm), .slice none 0 0] 25)) [.string (toB nm), .slice none 0 0] (atomOf nm rest.dropLast) b8 := by rw [HAE.out]; exact ⟨_, rfl, HNB.out, hs8⟩
          have hok := atomOk_impl (atomOf nm rest.dropLast) _ _ b8 (w1.alloc (.cells #[.string (toB nm), .slice none 0 0] 25)) hat
          have y0 : (w1.alloc (.cells #[.string (toB nm), .slice none 0 0] 25)).cell? ⟨w1.heap.size, 0, none⟩ = some (.string (toB nm)) := cell_of_blk hI.r1
          have y1 : (w1.alloc (.cells #[.string (toB nm), .slice none 0 0] 25)).cell? ⟨w1.heap.size, 1, none⟩ = some (.slice none 0 0) := cell_of_blk hI.r1
          have HI8 := Lib.hid hI
          clear hat hs8 hI
          generalize atomOk (atomOf nm rest.dropLast) = ok at *
          go_wp2_with fail
          refine hok.mono ?_
          rintro e w5 ⟨rfl, hb5⟩
          have HI9 := Lib.hid (HI8.out.later hb5)
          replace y0 := cell_later hb5 y0
          replace y1 := cell_later hb5 y1
          have z0 : w5.cell? ⟨w.heap.size, 0, none⟩ = some (.string ⟨#[]⟩) := cell_of_blk HI9.out.r0
          have z1 : w5.cell? ⟨w.heap.size, 1, none⟩ = some (.slice none 0 0) := cell_of_blk HI9.out.r0
          have f0 : w5.frozen? ⟨w.heap.size, 0, none⟩ = false := frozen_of_blk HI9.out.r0
          have f1 : w5.frozen? ⟨w.heap.size, 1, none⟩ = false := frozen_of_blk HI9.out.r0
          clear hok hb5
          cases ok
          · have HGE : Hid (G = (zeroA, false)) := Lib.hid (by rw [HG3.out]; rfl)
            have HD := Lib.hid (get_zero (b := false) HI9.out.r0 HI9.out.bel (Nat.le_refl _))
            go_wp2
            refine bodyPost_ret (v := .tuple #[.agg #[.string ⟨#[]⟩, .slice none 0 0], .bool false]) (by simp [results, Tryd.results10, go_sem, z0, z1]) rfl (by rw [HGE.out]; exact HD.out)
          · have HGE : Hid (G = (atomOf nm rest.dropLast, true)) := Lib.hid (by rw [HG3.out]; rfl)
            have HD := Lib.hid (HI9.out.done HNB.out)
            go_wp2
            refine bodyPost_ret (v := .tuple #[.agg #[.string (toB nm), .slice none 0 0], .bool true]) (by simp [results, Tryd.results10, go_sem, z0, z1]) rfl (by rw [HGE.out, HAE.out]; exact HD.out)
        · have hem : inn.toList.isEmpty = false := by rw [ByteArray.toList_eq]; simpa using hie
          have HAE0 : Hid (atomOf nm rest.dropLast = ⟨toB nm, argsOf (splitL 44 inn.data.toList)⟩) := Lib.hid (by rw [HAO.out, if_neg hie]; rfl)
          have HWS : Hid (∀ k (h : k < (splitL 44 inn.data.toList).length) h2, ((splitL 44 inn.data.toList).map toB)[k]'h2 = toB (splitL 44 inn.data.toList)[k]) := Lib.hid (fun k h h2 => by simp)
          have hwl : Hid ((splitL 44 inn.data.toList).length ≤ 1048577) := Lib.hid (by have h1 := splitL_len' 44 inn.data.toList; have h2 : inn.data.toList.length = inn.size := Array.length_toList; have := HIZ.out; omega)
          clear hie HAO
          generalize splitL 44 inn.data.toList = ws at *
          go_wp2_with fail
          refine hc2.mono ?_
          rintro e w2 ⟨hb2, v2, b2, rfl, hR2, hf2⟩
          obtain ⟨A2, c2, rfl, hl2, hm2⟩ := sliceK_form hR2
          rw [List.length_map]
          have hlw := nat_ge_max (Nat.le_trans hl2 hm2)
          rw [List.length_map] at hlw
          have hI2 := HI0.out.later hb2
          have hF2 : Hid ((∀ c ∈ b2, c < w2.heap.size) ∧ w1.heap.size ∉ b2 ∧ w1.heap.size < w2.heap.size ∧ w.heap.size < w2.heap.size) := Lib.hid ⟨strsK_good.lt hR2, fun hc => by have h8 := hf2 _ hc; have h9 : (w1.alloc (.cells #[.string (toB nm), .slice none 0 0] 25)).heap.size = w1.heap.size + 1 := (by simp); change (w1.alloc (.cells #[.string (toB nm), .slice none 0 0] 25)).heap.size ≤ _ at h8; omega, lt_of_block hI2.r1, lt_of_block hI2.r0⟩
          have HI2 : Hid (PInv w w.heap.size w1.heap.size w2.heap.size (toB nm) (.slice none 0 0) [] [] w2) := Lib.hid (hI2.base hI2.bel.size (Nat.le_refl _))
          have HR2 := Lib.hid hR2
          clear hc2 hb2 hR2 hf2 hI2 HI0 hl2 hm2
          go_wp2
          go_loopw [11, 41] (fun _ i wr => ∃ (k : Nat) (Av : Option Addr) (cv : Nat) (L : List Value), k ≤ ws.length ∧ i = .int .i64 k ∧ PInv w w.heap.size w1.heap.size w2.heap.size (toB nm) (.slice Av k cv) L (argsOf (ws.take k)) wr ∧ strsK wr [.slice A2 ws.length c2] (ws.map toB) b2) (fun _ i _ => ws.length - (intOf i).toNat)
          case atStart => exact ⟨0, none, 0, [], Nat.zero_le _, rfl, HI2.out, by have := HR2.out; simpa using this⟩
          case round =>
            obtain ⟨k, Av, cv, L, hk, rfl, hI, hR⟩ := hrel
            clear HI2 HR2
            by_cases hlt : k < ws.length
            · obtain ⟨b, o, rfl, _, e0, hsz⟩ := strs_at hR (k := k) (by rw [List.length_map]; exact hlt)
              rw [HWS.out k hlt] at e0 hsz
              have hk0 : (0 : Int) ≤ (k : Int) := by omega
              have hk1 : (k : Int) < (ws.length : Int) := by omega
              have hk9 : (k : Int) ≤ 1048577 := by have := hwl.out; omega
              have HLT := Lib.hid hlt
              have HT : Hid (argsOf (ws.take (k + 1)) = argsOf (ws.take k) ++ [⟨capB (toB ws[k]), toB ws[k]⟩]) := Lib.hid (args_snoc ws k hlt)
              have HI := Lib.hid (hI.later (Below.refl wr.heap.size wr).drew)
              have HR := Lib.hid (strsK_good.below hR (Below.refl wr.heap.size wr).drew)
              have q1 : wr.cell? ⟨w1.heap.size, 1, none⟩ = some (.slice Av k cv) := cell_of_blk hI.r1
              have q2 : wr.frozen? ⟨w1.heap.size, 1, none⟩ = false := frozen_of_blk hI.r1
              have q3 : w1.heap.size < wr.heap.size := lt_of_cell q1
              have H63 : Hid (k + 1 ≤ maxLen ∧ (k + 1) * 24 ≤ 140737488355328) := Lib.hid (by unfold maxLen; omega)
              have hlm : (argsOf (ws.take k)).length = k := by unfold argsOf; simp; omega
              have HLM := Lib.hid hlm
              have HSZ2 := Lib.hid hsz
              have hA9 := fun w' => capital_any (toB ws[k]) w' hsz
              have HA9 := Lib.hid hA9
              generalize toB ws[k] = pc at *
              clear hI hR hlt hk hlm hA9 hsz
              go_wp2
              go_region_law
                (first
                  | (go_simp; go_at_call 45; refine (HA9.out _).mono ?_; rintro e w3 ⟨rfl, rfl⟩; have HL := Lib.hid (HI.out.lit (capB pc) pc HSZ2.out))
                  | (refine step_coll (by rfl) (.tmp 46) (.tmp 51) _ (by rfl) w2.heap.size 61 i0 (.agg #[.bool false, .string ⟨#[]⟩]) 2 24 Tryd.underlying23 hi hz0 hz1 hz2 rfl (Nat.zero_lt_succ 1) termK_good (.slice Av k cv) k L _ [] (by rfl) HL.out.1 HLM.out (some ⟨wr.heap.size, 0, none⟩) 1 1 _ [⟨capB pc, pc⟩] _ (by rfl) HL.out.2.1 rfl HL.out.2.2.1 (fun b hb => by simp at hb) H63.out.1 H63.out.2 wr.drew w2.heap.size HL.out.2.2.2.1 (Nat.le_refl _) HL.out.2.2.2.2 ?_; intro A3 c3 w4 hC3 hB3 hS3 hG3; have HZ := Lib.hid (HI.out.app hC3 hB3 HR.out hF2.out.1 hF2.out.2.1 hF2.out.2.2.1 hF2.out.2.2.2); replace q1 := HZ.out.1; replace q2 := HZ.out.2.1; clear hC3 hB3 hS3 hG3))
              all_goals
                have HI9 := Lib.hid HZ.out.2.2
                clear HI HL HZ q1 q2 q3 e0
                go_wp2
                go_roundw
                case rel => exact ⟨k + 1, A3, c3, _, HLT.out, by go_num, by rw [HT.out]; exact HI9.out.1, HI9.out.2⟩
                case measure => have := HLT.out; simp [intOf]; omega
            · have he : k = ws.length := by omega
              have hk1 : ¬ (k : Int) < (ws.length : Int) := by omega
              have HAE : Hid (atomOf nm rest.dropLast = ⟨toB nm, argsOf (ws.take k)⟩) := Lib.hid (by rw [he, List.take_of_length_le (Nat.le_refl _)]; exact HAE0.out)
              have hlm : (argsOf (ws.take k)).length = k := by unfold argsOf; simp; omega
              rw [← he] at hk1
              clear hR he hk
              obtain ⟨b8, hs8, _⟩ := hI.coll.slice
              have hat : atomK wr [.string (toB nm), .slice Av k cv] (atomOf nm rest.dropLast) b8 := by rw [HAE.out]; exact ⟨_, rfl, HNB.out, hs8⟩
              have hok := atomOk_impl (atomOf nm rest.dropLast) _ _ b8 wr hat
              have y0 : wr.cell? ⟨w1.heap.size, 0, none⟩ = some (.string (toB nm)) := cell_of_blk hI.r1
              have y1 : wr.cell? ⟨w1.heap.size, 1, none⟩ = some (.slice Av k cv) := cell_of_blk hI.r1
              have HI8 := Lib.hid hI
              clear hat hs8 hI
              generalize atomOk (atomOf nm rest.dropLast) = ok at *
              go_wp2_with fail
              refine hok.mono ?_
              rintro e w5 ⟨rfl, hb5⟩
              have HI9 := Lib.hid (HI8.out.later hb5)
              replace y0 := cell_later hb5 y0
              replace y1 := cell_later hb5 y1
              have z0 : w5.cell? ⟨w.heap.size, 0, none⟩ = some (.string ⟨#[]⟩) := cell_of_blk HI9.out.r0
              have z1 : w5.cell? ⟨w.heap.size, 1, none⟩ = some (.slice none 0 0) := cell_of_blk HI9.out.r0
              have f0 : w5.frozen? ⟨w.heap.size, 0, none⟩ = false := frozen_of_blk HI9.out.r0
              have f1 : w5.frozen? ⟨w.heap.size, 1, none⟩ = false := frozen_of_blk HI9.out.r0
              clear hok hb5
              cases ok
              · have HGE : Hid (G = (zeroA, false)) := Lib.hid (by rw [HG3.out]; rfl)
                have HD := Lib.hid (get_zero (b := false) HI9.out.r0 HI9.out.bel (Nat.le_refl _))
                go_wp2
                refine bodyPost_ret (v := .tuple #[.agg #[.string ⟨#[]⟩, .slice none 0 0], .bool false]) (by simp [results, Tryd.results10, go_sem, z0, z1]) rfl (by rw [HGE.out]; exact HD.out)
              · have HGE : Hid (G = (atomOf nm rest.dropLast, true)) := Lib.hid (by rw [HG3.out]; rfl)
                have HD := Lib.hid (HI9.out.done HNB.out)
                go_wp2
                refine bodyPost_ret (v := .tuple #[.agg #[.string (toB nm), .slice Av k cv], .bool true]) (by simp [results, Tryd.results10, go_sem, z0, z1]) rfl (by rw [HGE.out, HAE.out]; exact HD.out)

end Go.Proofs.YtmhjabjiojfgnaaDoor
