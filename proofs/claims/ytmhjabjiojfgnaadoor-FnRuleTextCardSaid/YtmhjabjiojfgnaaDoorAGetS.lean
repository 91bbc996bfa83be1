/- The walk of spec.AtomGet. -/
import Derived.WalkKit
import Derived.Lib.Hide
import Derived.WalkSpells
import Derived.WalkLawsBesides
import Derived.BigQuiet
import Derived.Deep.RegionHeld3
import Derived.Deep.RegionWith
import Derived.Deep.RegionLaw
import Derived.Deep.DrawnRows
import Derived.Deep.AppendLies
import Derived.Test.YtmhjabjiojfgnaaDoorProg
import Derived.Test.YtmhjabjiojfgnaaDoorAGetW
namespace Go.Proofs.YtmhjabjiojfgnaaDoor
open Go.RowKit D
set_option linter.unusedVariables false
attribute [local go_sem ↓] Go.wp_at_zero Go.wp_at_succ

theorem D.toB_size (l : List UInt8) : (toB l).size = l.length := List.size_toArray
theorem D.bulk_words : ∀ (ws : List (List UInt8)), bulkTs (ws.map fun w => argT (toB w)) ≤ (joinL 44 ws).length
  | [] => by simp [bulkTs]
  | [p] => by
    have e : bulkTs ([p].map fun w => argT (toB w)) = (toB p).size := by simp [bulkTs, argT]
    rw [e, toB_size]; exact Nat.le_refl _
  | p :: q :: r => by
    have ih := bulk_words (q :: r)
    have e : bulkTs ((p :: q :: r).map fun w => argT (toB w)) = p.length + bulkTs ((q :: r).map fun w => argT (toB w)) := by
      simp only [bulkTs, List.map_cons, List.sum_cons]
      rw [show (argT (toB p)).name.size = p.length from toB_size p]
    have e2 : (joinL 44 (p :: q :: r)).length = p.length + ((joinL 44 (q :: r)).length + 1) := by show (p ++ 44 :: joinL 44 (q :: r)).length = _; simp
    omega
theorem D.splitL_len (c : UInt8) : ∀ l : List UInt8, (splitL c l).length ≤ l.length + 1
  | [] => by simp [splitL]
  | x :: xs => by
    have ih := splitL_len c xs
    unfold splitL
    split
    · simp; exact ih
    · split
      · simp
      · rename_i he; rw [he] at ih; simp at ih ⊢; omega
theorem D.atomOf_bulk (nm inner : List UInt8) : bulkA (atomOf nm inner) ≤ nm.length + 2 * inner.length + 1 := by
  unfold bulkA
  have hn : (atomOf nm inner).name.size = nm.length := by show (toB nm).size = _; exact List.size_toArray
  rw [hn]
  by_cases h : inner = []
  · have e : (atomOf nm inner).args = [] := by unfold atomOf; rw [if_pos h]
    rw [e]; simp [bulkTs]; omega
  · have e : (atomOf nm inner).args = (splitL 44 inner).map fun w => argT (toB w) := by unfold atomOf; rw [if_neg h]
    rw [e, List.length_map]
    have h1 := bulk_words (splitL 44 inner)
    rw [joinL_split] at h1
    have h2 := splitL_len 44 inner
    omega

set_option maxRecDepth 100000 in
set_option maxHeartbeats 2000000 in
theorem atomGet_specM (s : ByteArray) (w : World) (hs : s.size ≤ 1048576) :
    Calls Tryd.prog 16 #[.string s] w (MakesAB (getS s.data.toList) w.heap.size w) := by
  obtain ⟨i0, hi, hz0, hz1, hz2⟩ := info_parts infoTermG
  have hlen : s.data.toList.length = s.size := Array.length_toList
  have hA : Below w.heap.size w (w.alloc (.cells #[.string ⟨#[]⟩, .slice none 0 0] 25)) := (Below.refl _ _).alloc (Nat.le_refl _) _
  have HZ := Lib.hid (heap_alloc_new w (.cells #[.string ⟨#[]⟩, .slice none 0 0] 25))
  have hc1 := l1Cut_any s 40 (w.alloc (.cells #[.string ⟨#[]⟩, .slice none 0 0] 25)) (by omega)
  have HA := Lib.hid hA
  have HSZ := Lib.hid (And.intro hs hlen)
  have hG : Hid (getS s.data.toList = match splitL 40 s.data.toList with
    | [nm, rest] => if s.data.toList.length ≤ 1500 ∧ rest ≠ [] then (if (if atomOk (atomOf nm rest.dropLast) then putL (atomOf nm rest.dropLast) else []) = s.data.toList then (atomOf nm rest.dropLast, true) else (zeroA, false)) else (zeroA, false)
    | _ => (zeroA, false)) := Lib.hid rfl
  have HJ := Lib.hid (joinL_split 40 s.data.toList)
  generalize getS s.data.toList = G at *
  clear hA hs hlen
  go_enter Tryd.func16, Tryd.ntmps16
  go_wp2_with fail
  refine hc1.mono ?_
  rintro e w1 ⟨hb1, v1, b1, rfl, hR1, hf1⟩
  obtain ⟨A1, c1, rfl, _, _⟩ := sliceK_form hR1
  rw [List.length_map]
  have HB1 := Lib.hid (HA.out.trans (hb1.mono HA.out.size))
  replace HZ := Lib.hid ((hb1.block _ (lt_of_block HZ.out)).trans HZ.out)
  clear hc1 hb1 hf1
  generalize splitL 40 s.data.toList = P at *
  by_cases hp : P.length = 2
  · obtain ⟨nm, rest, rfl⟩ : ∃ nm rest, P = [nm, rest] := by
      match P, hp with
      | [a, b], _ => exact ⟨a, b, rfl⟩
    clear hp
    simp only [List.length_cons, List.length_nil, List.map_cons, List.map_nil] at hR1 ⊢
    obtain ⟨b0, o0, he0, hbm, e0, _⟩ := strs_at hR1 (k := 0) (by simp)
    obtain ⟨b0', o0', he1, _, e1, _⟩ := strs_at hR1 (k := 1) (by simp)
    subst he0
    obtain ⟨rfl, rfl⟩ : b0 = b0' ∧ o0 = o0' := by simpa using he1
    simp only [List.getElem_cons_zero, List.getElem_cons_succ, Nat.add_zero] at e0 e1
    have HL : Hid (nm ++ 40 :: rest = s.data.toList) := Lib.hid HJ.out
    have HLL : Hid (nm.length + rest.length + 1 = s.size) := Lib.hid (by have h := congrArg List.length HL.out; rw [HSZ.out.2] at h; simp at h; omega)
    have HG2 : Hid (G = if s.data.toList.length ≤ 1500 ∧ rest ≠ [] then (if (if atomOk (atomOf nm rest.dropLast) then putL (atomOf nm rest.dropLast) else []) = s.data.toList then (atomOf nm rest.dropLast, true) else (zeroA, false)) else (zeroA, false)) := Lib.hid hG.out
    have hrb := toB_data rest
    have hrs := toB_size rest
    have hns := toB_size nm
    have hn9 : (toB nm).size ≤ maxLen := by rw [hns]; have := HLL.out; have := HSZ.out.1; unfold maxLen; omega
    have HR1 := Lib.hid hR1
    have HNB : Hid ((toB nm).size ≤ maxLen ∧ rest.length ≤ 1048576 ∧ nm.length ≤ 1048576) := Lib.hid ⟨hn9, by have := HLL.out; have := HSZ.out.1; omega, by have := HLL.out; have := HSZ.out.1; omega⟩
    have HRB := Lib.hid hrb
    have hrs2 : (toB rest).size ≤ 1048576 := by rw [hrs]; exact HNB.out.2.1
    clear hR1 hG HJ he1 hbm hns hn9 hrb
    by_cases ht : 1500 < s.size
    · have hti : (1500 : Int) < (s.size : Int) := by omega
      have hgz : G = (zeroA, false) := by rw [HG2.out, if_neg (fun h => by have h1 := h.1; rw [HSZ.out.2] at h1; omega)]
      have HGZ := Lib.hid hgz
      clear ht hgz hrs hrs2
      have z0 : w1.cell? ⟨w.heap.size, 0, none⟩ = some (.string ⟨#[]⟩) := cell_of_blk HZ.out
      have z1 : w1.cell? ⟨w.heap.size, 1, none⟩ = some (.slice none 0 0) := cell_of_blk HZ.out
      have f0 : w1.frozen? ⟨w.heap.size, 0, none⟩ = false := frozen_of_blk HZ.out
      have f1 : w1.frozen? ⟨w.heap.size, 1, none⟩ = false := frozen_of_blk HZ.out
      have HD := Lib.hid (get_zero (b := false) HZ.out HB1.out (Nat.le_refl _))
      go_wp2
      refine bodyPost_ret (v := .tuple #[.agg #[.string ⟨#[]⟩, .slice none 0 0], .bool false]) (by simp [results, Tryd.results16, go_sem, z0, z1]) rfl (by rw [HGZ.out]; exact HD.out)
    · have hti : ¬ (1500 : Int) < (s.size : Int) := by omega
      by_cases hr0 : rest = []
      · have hsz : ((toB rest).size : Int) = 0 := by rw [hrs, hr0]; rfl
        have hgz : G = (zeroA, false) := by rw [HG2.out, if_neg (fun h => h.2 hr0)]
        have HGZ := Lib.hid hgz
        clear ht hgz hrs hrs2 hr0
        have z0 : w1.cell? ⟨w.heap.size, 0, none⟩ = some (.string ⟨#[]⟩) := cell_of_blk HZ.out
        have z1 : w1.cell? ⟨w.heap.size, 1, none⟩ = some (.slice none 0 0) := cell_of_blk HZ.out
        have f0 : w1.frozen? ⟨w.heap.size, 0, none⟩ = false := frozen_of_blk HZ.out
        have f1 : w1.frozen? ⟨w.heap.size, 1, none⟩ = false := frozen_of_blk HZ.out
        have HD := Lib.hid (get_zero (b := false) HZ.out HB1.out (Nat.le_refl _))
        go_wp2
        refine bodyPost_ret (v := .tuple #[.agg #[.string ⟨#[]⟩, .slice none 0 0], .bool false]) (by simp [results, Tryd.results16, go_sem, z0, z1]) rfl (by rw [HGZ.out]; exact HD.out)
      · have hpos : 0 < (toB rest).size := by rw [hrs]; exact List.length_pos_iff.2 hr0
        have hsz : ¬ ((toB rest).size : Int) = 0 := by omega
        have HG3 : Hid (G = if (if atomOk (atomOf nm rest.dropLast) then putL (atomOf nm rest.dropLast) else []) = s.data.toList then (atomOf nm rest.dropLast, true) else (zeroA, false)) := Lib.hid (by rw [HG2.out, if_pos ⟨by rw [HSZ.out.2]; omega, hr0⟩])
        have hin : ((toB rest).extract 0 ((toB rest).size - 1)).data.toList = rest.dropLast := by rw [extract_take, HRB.out, hrs, List.dropLast_eq_take]
        have hinz : ((toB rest).extract 0 ((toB rest).size - 1)).size ≤ 1048576 := by rw [ByteArray.size_extract]; omega
        have HIN := Lib.hid (And.intro hin hinz)
        have hw : IntKind.i64.wrap (((toB rest).size : Int) - 1) = (((toB rest).size - 1 : Nat) : Int) := by
          simp only [IntKind.wrap, IntKind.bits, IntKind.signed]; simp; omega
        have hg0 : (0 : Int) ≤ (((toB rest).size - 1 : Nat) : Int) := by omega
        have hg1 : (((toB rest).size - 1 : Nat) : Int) ≤ ((toB rest).size : Int) := by omega
        clear ht hrs hr0 hin hinz HG2 HRB
        generalize toB rest = rb at *
        have hbw : b0 < w1.heap.size := lt_of_cell e1
        have hA1 : Below w1.heap.size w1 (w1.alloc (.cells #[.string (toB nm), .slice none 0 0] 25)) := (Below.refl _ _).alloc (Nat.le_refl _) _
        have HI0 : Hid (PInv w w.heap.size w1.heap.size (w1.heap.size + 1) (toB nm) (.slice none 0 0) [] [] (w1.alloc (.cells #[.string (toB nm), .slice none 0 0] 25))) := Lib.hid ⟨(hA1.block _ (lt_of_block HZ.out)).trans HZ.out, heap_alloc_new w1 _, Nat.le_refl _, HB1.out.size, Nat.ne_of_lt (lt_of_block HZ.out), by have := HB1.out.size; omega, Coll.nil _, HB1.out.trans (hA1.mono HB1.out.size), by simp⟩
        have HNW : Hid (w.heap.size < w1.heap.size) := Lib.hid (lt_of_block HZ.out)
        clear hA1
        go_wp2
        go_quiet (fail)
        have hc2 := fun n => l1Cut_any (rb.extract 0 (rb.size - 1)) 44 ((w1.alloc (.cells #[.string (toB nm), .slice none 0 0] 25)).drewN n) (by have := HIN.out.2; omega)
        generalize rb.extract 0 (rb.size - 1) = inn at *
        clear hw hg0 hg1 hbw e0 e1 HZ
        go_wp2_with fail
        refine (hc2 _).mono ?_
        rintro e w2 ⟨hb2, v2, b2, rfl, hR2, hf2⟩
        obtain ⟨A2, c2, rfl, hl2, hm2⟩ := sliceK_form hR2
        rw [List.length_map]
        have hlw := nat_ge_max (Nat.le_trans hl2 hm2)
        rw [List.length_map] at hlw
        have hI2 := HI0.out.later ((below_dQ (Below.refl _ _) _).trans hb2)
        have hF2 : Hid ((∀ c ∈ b2, c < w2.heap.size) ∧ w1.heap.size ∉ b2 ∧ w1.heap.size < w2.heap.size ∧ w.heap.size < w2.heap.size) := Lib.hid ⟨strsK_good.lt hR2, fun hc => by have h8 := hf2 _ hc; have h9 : (w1.alloc (.cells #[.string (toB nm), .slice none 0 0] 25)).heap.size = w1.heap.size + 1   := (by simp); change (w1.alloc (.cells #[.string (toB nm), .slice none 0 0] 25)).heap.size ≤ _ at h8; omega, lt_of_block hI2.r1, lt_of_block hI2.r0⟩
        have HI2 : Hid (PInv w w.heap.size w1.heap.size w2.heap.size (toB nm) (.slice none 0 0) [] [] w2) := Lib.hid (hI2.base hI2.bel.size (Nat.le_refl _))
        have HR2 := Lib.hid hR2
        have HIN1 := Lib.hid HIN.out.1
        clear hc2 hb2 hR2 hf2 hI2 HI0 hl2 hm2
        have hwl : Hid ((splitL 44 inn.data.toList).length ≤ 1048577 ∧ ∀ p ∈ splitL 44 inn.data.toList, True) := Lib.hid ⟨by have h1 := splitL_len 44 inn.data.toList; have h2 : inn.data.toList.length = inn.size := Array.length_toList; have := HIN.out.2; omega, fun _ _ => trivial⟩
        have HAO : Hid (atomOf nm rest.dropLast = ⟨toB nm, if inn.data.toList = [] then [] else (splitL 44 inn.data.toList).map fun w => argT (toB w)⟩) := Lib.hid (by rw [HIN1.out]; rfl)
        have HBK : Hid (bulkA (atomOf nm rest.dropLast) ≤ 16777216) := Lib.hid (by
          have h1 := atomOf_bulk nm rest.dropLast
          have h2 : rest.dropLast.length ≤ rest.length := by rw [List.length_dropLast]; omega
          have := HNB.out
          omega)
        have HPA : Hid (putA (atomOf nm rest.dropLast) = toB (if atomOk (atomOf nm rest.dropLast) then putL (atomOf nm rest.dropLast) else [])) := Lib.hid (by unfold putA; split <;> rfl)
        by_cases hie : inn.data.toList = []
        · have hem : inn.toList.isEmpty = true := by rw [ByteArray.toList_eq, hie]; rfl
          have HAE : Hid (atomOf nm rest.dropLast = ⟨toB nm, []⟩) := Lib.hid (by rw [HAO.out, if_pos hie])
          go_wp2
          go_loopw [8] (fun i wr => i = .int .i64 0 ∧ wr = w2) (fun _ _ => 0)
          case atStart => exact ⟨rfl, rfl⟩
          case round =>
            obtain ⟨rfl, rfl⟩ := hrel
            have hI := HI2.out
            clear HI2
            obtain ⟨b8, hs8, _⟩ := hI.coll.slice
            have hat : atomK wr [.string (toB nm), .slice none 0 0] (atomOf nm rest.dropLast) b8 := by rw [HAE.out]; exact ⟨_, rfl, HNB.out.1, hs8⟩
            have hput := atomPut_spec (atomOf nm rest.dropLast) _ _ b8 wr hat HBK.out
            have y0 : wr.cell? ⟨w1.heap.size, 0, none⟩ = some (.string (toB nm)) := cell_of_blk hI.r1
            have y1 : wr.cell? ⟨w1.heap.size, 1, none⟩ = some (.slice none 0 0) := cell_of_blk hI.r1
            have HI8 := Lib.hid hI
            have hXE : Hid (∀ X : List UInt8, ((toB X).toList == s.toList) = decide (X = s.data.toList)) := Lib.hid (fun X => by rw [ByteArray.toList_eq, ByteArray.toList_eq]; show (X == s.data.toList) = _; rw [Bool.eq_iff_iff]; simp)
            rw [HPA.out] at hput
            clear hat hs8 hI
            generalize (if atomOk (atomOf nm rest.dropLast) then putL (atomOf nm rest.dropLast) else []) = X at *
            go_wp2_with fail
            refine hput.mono ?_
            rintro e w5 ⟨rfl, hb5⟩
            have HI9 := Lib.hid (HI8.out.later hb5)
            replace y0 := cell_later hb5 y0
            replace y1 := cell_later hb5 y1
            have z0 : w5.cell? ⟨w.heap.size, 0, none⟩ = some (.string ⟨#[]⟩) := cell_of_blk HI9.out.r0
            have z1 : w5.cell? ⟨w.heap.size, 1, none⟩ = some (.slice none 0 0) := cell_of_blk HI9.out.r0
            have f0 : w5.frozen? ⟨w.heap.size, 0, none⟩ = false := frozen_of_blk HI9.out.r0
            have f1 : w5.frozen? ⟨w.heap.size, 1, none⟩ = false := frozen_of_blk HI9.out.r0
            clear hput hb5
            by_cases hx : X = s.data.toList
            · have hq : ((toB X).toList == s.toList) = true := by rw [hXE.out]; exact decide_eq_true hx
              have HGE : Hid (G = (atomOf nm rest.dropLast, true)) := Lib.hid (by rw [HG3.out, if_pos hx])
              have HD := Lib.hid (HI9.out.done HNB.out.1)
              clear hx
              generalize toB X = PX at *
              go_wp2
              refine bodyPost_ret (v := .tuple #[.agg #[.string (toB nm), .slice none 0 0], .bool true]) (by simp [results, Tryd.results16, go_sem, z0, z1]) rfl (by rw [HGE.out, HAE.out]; exact HD.out)
            · have hq : ((toB X).toList == s.toList) = false := by rw [hXE.out]; exact decide_eq_false hx
              have HGE : Hid (G = (zeroA, false)) := Lib.hid (by rw [HG3.out, if_neg hx])
              have HD := Lib.hid (get_zero (b := false) HI9.out.r0 HI9.out.bel (Nat.le_refl _))
              clear hx
              generalize toB X = PX at *
              go_wp2
              refine bodyPost_ret (v := .tuple #[.agg #[.string ⟨#[]⟩, .slice none 0 0], .bool false]) (by simp [results, Tryd.results16, go_sem, z0, z1]) rfl (by rw [HGE.out]; exact HD.out)
        · have hem : inn.toList.isEmpty = false := by rw [ByteArray.toList_eq]; simpa using hie
          have HAE0 : Hid (atomOf nm rest.dropLast = ⟨toB nm, argsOf (splitL 44 inn.data.toList)⟩) := Lib.hid (by rw [HAO.out, if_neg hie]; rfl)
          have HWS : Hid (∀ k (h : k < (splitL 44 inn.data.toList).length) h2, ((splitL 44 inn.data.toList).map toB)[k]'h2 = toB (splitL 44 inn.data.toList)[k]) := Lib.hid (fun k h h2 => by simp)
          clear hie HAO
          generalize splitL 44 inn.data.toList = ws at *
          go_wp2
          go_loopw [8] (fun i wr => ∃ (k : Nat) (Av : Option Addr) (cv : Nat) (L : List Value), k ≤ ws.length ∧ i = .int .i64 k ∧ PInv w w.heap.size w1.heap.size w2.heap.size (toB nm) (.slice Av k cv) L (argsOf (ws.take k)) wr ∧ strsK wr [.slice A2 ws.length c2] (ws.map toB) b2) (fun i _ => ws.length - (intOf i).toNat)
          case atStart => exact ⟨0, none, 0, [], Nat.zero_le _, rfl, HI2.out, by have := HR2.out; simpa using this⟩
          case round =>
            obtain ⟨k, Av, cv, L, hk, rfl, hI, hR⟩ := hrel
            clear HI2 HR2
            by_cases hlt : k < ws.length
            · obtain ⟨b, o, rfl, _, e0, hsz⟩ := strs_at hR (k := k) (by rw [List.length_map]; exact hlt)
              rw [HWS.out k hlt] at e0 hsz
              have hk0 : (0 : Int) ≤ (k : Int) := by omega
              have hk1 : (k : Int) < (ws.length : Int) := by omega
              have hk9 : (k : Int) ≤ 1048577 := by have := hwl.out.1; omega
              have HLT := Lib.hid hlt
              have HT : Hid (argsOf (ws.take (k + 1)) = argsOf (ws.take k) ++ [⟨capB (toB ws[k]), toB ws[k]⟩]) := Lib.hid (args_snoc ws k hlt)
              have HI := Lib.hid (hI.later (Below.refl wr.heap.size wr).drew)
              have HR := Lib.hid (strsK_good.below hR (Below.refl wr.heap.size wr).drew)
              have q1 : wr.cell? ⟨w1.heap.size, 1, none⟩ = some (.slice Av k cv) := cell_of_blk hI.r1
              have q2 : wr.frozen? ⟨w1.heap.size, 1, none⟩ = false := frozen_of_blk hI.r1
              have q3 : w1.heap.size < wr.heap.size := lt_of_cell q1
              have q4 : b < wr.heap.size := lt_of_cell e0
              have H63 : Hid (k + 1 ≤ maxLen ∧ (k + 1) * 24 ≤ 140737488355328) := Lib.hid (by unfold maxLen; omega)
              have hlm : (argsOf (ws.take k)).length = k := by unfold argsOf; simp; omega
              have HLM := Lib.hid hlm
              have HSZ2 := Lib.hid hsz
              have hA9 := fun w' => l1Arg_any (toB ws[k]) w'
              have HA9 := Lib.hid hA9
              generalize toB ws[k] = pc at *
              clear hI hR hlt hk hlm hA9 hsz
              go_wp2
              go_region_law
                (first
                  | (go_simp; go_at_call 55; refine (HA9.out _).mono ?_; rintro e w3 ⟨rfl, hb3⟩; replace HI := Lib.hid (HI.out.later hb3); replace HR := Lib.hid (strsK_good.below HR.out hb3); replace q1 : w3.cell? ⟨w1.heap.size, 1, none⟩ = some (.slice Av k cv) := cell_of_blk HI.out.r1; replace q2 : w3.frozen? ⟨w1.heap.size, 1, none⟩ = false := frozen_of_blk HI.out.r1; replace q3 : w1.heap.size < w3.heap.size := lt_of_cell q1; have HL := Lib.hid (HI.out.lit (capB pc) pc HSZ2.out); clear hb3)
                  | (refine step_coll (by rfl) (.tmp 53) (.tmp 59) _ (by rfl) w2.heap.size 61 i0 (.agg #[.bool false, .string ⟨#[]⟩]) 2 24 Tryd.underlying23 hi hz0 hz1 hz2 rfl (Nat.zero_lt_succ 1) termK_good (.slice Av k cv) k L _ [] (by rfl) HL.out.1 HLM.out (some ⟨w3.heap.size, 0, none⟩) 1 1 _ [⟨capB pc, pc⟩] _ (by rfl) HL.out.2.1 rfl HL.out.2.2.1 (fun b hb => by simp at hb) H63.out.1 H63.out.2 w3 w2.heap.size HL.out.2.2.2.1 (Nat.le_refl _) HL.out.2.2.2.2 ?_; intro A3 c3 w4 hC3 hB3 hS3 hG3; have HZ := Lib.hid (HI.out.app hC3 hB3 HR.out hF2.out.1 hF2.out.2.1 hF2.out.2.2.1 hF2.out.2.2.2); replace q1 := HZ.out.1; replace q2 := HZ.out.2.1; clear hC3 hB3 hS3 hG3))
              all_goals
                have HI9 := Lib.hid HZ.out.2.2
                clear HI HL HZ q1 q2 q3 q4 e0
                go_wp2
                go_roundw
                case rel => exact ⟨k + 1, A3, c3, _, HLT.out, by go_num, by rw [HT.out]; exact HI9.out.1, HI9.out.2⟩
                case measure => have := HLT.out; simp [intOf]; omega
            · have he : k = ws.length := by omega
              have hk1 : ¬ (k : Int) < (ws.length : Int) := by omega
              have HAE : Hid (atomOf nm rest.dropLast = ⟨toB nm, argsOf (ws.take k)⟩) := Lib.hid (by rw [he, List.take_of_length_le (Nat.le_refl _)]; exact HAE0.out)
              have hlm : (argsOf (ws.take k)).length = k := by unfold argsOf; simp; omega
              rw [← he] at hk1
              clear hR he hk
              obtain ⟨b8, hs8, _⟩ := hI.coll.slice
              have hat : atomK wr [.string (toB nm), .slice Av k cv] (atomOf nm rest.dropLast) b8 := by rw [HAE.out]; exact ⟨_, rfl, HNB.out.1, hs8⟩
              have hput := atomPut_spec (atomOf nm rest.dropLast) _ _ b8 wr hat HBK.out
              have y0 : wr.cell? ⟨w1.heap.size, 0, none⟩ = some (.string (toB nm)) := cell_of_blk hI.r1
              have y1 : wr.cell? ⟨w1.heap.size, 1, none⟩ = some (.slice Av k cv) := cell_of_blk hI.r1
              have HI8 := Lib.hid hI
              have hXE : Hid (∀ X : List UInt8, ((toB X).toList == s.toList) = decide (X = s.data.toList)) := Lib.hid (fun X => by rw [ByteArray.toList_eq, ByteArray.toList_eq]; show (X == s.data.toList) = _; rw [Bool.eq_iff_iff]; simp)
              rw [HPA.out] at hput
              clear hat hs8 hI
              generalize (if atomOk (atomOf nm rest.dropLast) then putL (atomOf nm rest.dropLast) else []) = X at *
              go_wp2_with fail
              refine hput.mono ?_
              rintro e w5 ⟨rfl, hb5⟩
              have HI9 := Lib.hid (HI8.out.later hb5)
              replace y0 := cell_later hb5 y0
              replace y1 := cell_later hb5 y1
              have z0 : w5.cell? ⟨w.heap.size, 0, none⟩ = some (.string ⟨#[]⟩) := cell_of_blk HI9.out.r0
              have z1 : w5.cell? ⟨w.heap.size, 1, none⟩ = some (.slice none 0 0) := cell_of_blk HI9.out.r0
              have f0 : w5.frozen? ⟨w.heap.size, 0, none⟩ = false := frozen_of_blk HI9.out.r0
              have f1 : w5.frozen? ⟨w.heap.size, 1, none⟩ = false := frozen_of_blk HI9.out.r0
              clear hput hb5
              by_cases hx : X = s.data.toList
              · have hq : ((toB X).toList == s.toList) = true := by rw [hXE.out]; exact decide_eq_true hx
                have HGE : Hid (G = (atomOf nm rest.dropLast, true)) := Lib.hid (by rw [HG3.out, if_pos hx])
                have HD := Lib.hid (HI9.out.done HNB.out.1)
                clear hx
                generalize toB X = PX at *
                go_wp2
                refine bodyPost_ret (v := .tuple #[.agg #[.string (toB nm), .slice Av k cv], .bool true]) (by simp [results, Tryd.results16, go_sem, z0, z1]) rfl (by rw [HGE.out, HAE.out]; exact HD.out)
              · have hq : ((toB X).toList == s.toList) = false := by rw [hXE.out]; exact decide_eq_false hx
                have HGE : Hid (G = (zeroA, false)) := Lib.hid (by rw [HG3.out, if_neg hx])
                have HD := Lib.hid (get_zero (b := false) HI9.out.r0 HI9.out.bel (Nat.le_refl _))
                clear hx
                generalize toB X = PX at *
                go_wp2
                refine bodyPost_ret (v := .tuple #[.agg #[.string ⟨#[]⟩, .slice none 0 0], .bool false]) (by simp [results, Tryd.results16, go_sem, z0, z1]) rfl (by rw [HGE.out]; exact HD.out)
  · have hpi : ¬ ((P.length : Int) = 2) := by omega
    have HGZ : Hid (G = (zeroA, false)) := Lib.hid (by
      rw [hG.out]
      split
      · rename_i a b; exact absurd rfl hp
      · rfl)
    clear hp hR1
    have z0 : w1.cell? ⟨w.heap.size, 0, none⟩ = some (.string ⟨#[]⟩) := cell_of_blk HZ.out
    have z1 : w1.cell? ⟨w.heap.size, 1, none⟩ = some (.slice none 0 0) := cell_of_blk HZ.out
    have f0 : w1.frozen? ⟨w.heap.size, 0, none⟩ = false := frozen_of_blk HZ.out
    have f1 : w1.frozen? ⟨w.heap.size, 1, none⟩ = false := frozen_of_blk HZ.out
    have HD := Lib.hid (get_zero (b := false) HZ.out HB1.out (Nat.le_refl _))
    go_wp2
    refine bodyPost_ret (v := .tuple #[.agg #[.string ⟨#[]⟩, .slice none 0 0], .bool false]) (by simp [results, Tryd.results16, go_sem, z0, z1]) rfl (by rw [HGZ.out]; exact HD.out)

theorem atomGet_spec (s : ByteArray) (w : World) (hs : s.size ≤ 1048576) :
    Calls Tryd.prog 16 #[.string s] w (ReadsAB (getS s.data.toList) w.heap.size w) := (atomGet_specM s w hs).mono fun _ _ h => makesAB_reads h

end Go.Proofs.YtmhjabjiojfgnaaDoor
