/- The walk of impl.headPlaces. -/
import Derived.WalkKit
import Derived.Lib.Hide
import Derived.WalkSpells
import Derived.WalkLawsBesides
import Derived.BigQuiet
import Derived.Deep.RegionHeld3
import Derived.Deep.RegionWith
import Derived.Deep.DrawnRows
import Derived.Test.YtbcepahpehadeaaGreatDoorProg
import Derived.Test.YtbcepahpehadeaaGreatDoorMapF
import Derived.Test.YtbcepahpehadeaaGreatDoorProgP
namespace Go.Proofs.YtbcepahpehadeaaGreatDoor
open Go.RowKit D
set_option linter.unusedVariables false
attribute [local go_sem ↓] Go.wp_at_zero Go.wp_at_succ

def D.idxI (L : List ByteArray) (s : ByteArray) : Int := (L.idxOf s : Nat)
theorem D.places_snoc (rs : List Ru) (k : Nat) (h : k < rs.length) : placesL (rs.take (k + 1)) = putNew (placesL (rs.take k)) rs[k].head.name := by
  unfold placesL headNames
  rw [List.take_succ_eq_append_getElem h, List.map_append, List.foldl_append]
  rfl
theorem D.idx_put {L : List ByteArray} {s : ByteArray} (h : s ∉ L) : ∀ t ∈ putNew L s, (if t = s then (L.length : Int) else idxI L t) = idxI (putNew L s) t := fun t ht => by
  unfold idxI putNew at *
  rw [if_neg h] at *
  by_cases e : t = s
  · subst e
    rw [if_pos rfl, List.idxOf_append, if_neg h]
    simp
  · rw [if_neg e]
    have : t ∈ L := by simpa [e] using ht
    rw [List.idxOf_append, if_pos this]

set_option maxRecDepth 100000 in
set_option maxHeartbeats 1000000 in
theorem headPlaces_any (rs : List Ru) (v : Value) (bs : List Nat) (w : World) (h : rulesK w [v] rs bs) (hf : rs.length ≤ 1000000) :
    Calls Tryz.prog 49 #[v] w fun e w' => e = .returned (.map (some w.heap.size)) ∧ (∃ n, MapF w.heap.size n (placesL rs) (idxI (placesL rs)) w') ∧ Below w.heap.size w w' := by
  obtain ⟨Ad, cap, rfl, hl, hm⟩ := sliceK_form h
  have hlm := nat_ge_max (Nat.le_trans hl hm)
  have hmm := @run_makeMap Tryz.prog
  have HM0 := Lib.hid (MapF.made w (idxI []))
  have hA0 : Below w.heap.size w (w.alloc (.map #[] 0)) := (Below.refl _ _).alloc (Nat.le_refl _) _
  have HB0 := Lib.hid hA0
  clear hl hm hA0
  go_enter Tryz.func49, Tryz.ntmps49
  go_wp2
  generalize w.alloc (.map #[] 0) = w0 at *
  go_loopw [11] (fun i wr => ∃ k : Nat, k ≤ rs.length ∧ i = .int .i64 k ∧ MapF w.heap.size k (placesL (rs.take k)) (idxI (placesL (rs.take k))) wr ∧ Below w.heap.size w wr) (fun i _ => rs.length - (intOf i).toNat)
  case atStart => exact ⟨0, Nat.zero_le _, rfl, HM0.out, HB0.out⟩
  case round =>
    obtain ⟨k, hk, rfl, hM, hB⟩ := hrel
    clear HM0 HB0 hmm
    by_cases hlt : k < rs.length
    · obtain ⟨b, o, Ae, ce, Af, cf, bk, rfl, _, d0, d1, d2, hel, _⟩ := rules_el h hlt
      replace d0 := cell_later hB d0
      replace d1 := cell_later hB d1
      replace d2 := cell_later hB d2
      have hk0 : (0 : Int) ≤ (k : Int) := by omega
      have hk1 : (k : Int) < (rs.length : Int) := by omega
      have hA : Below wr.heap.size wr (wr.alloc (.cells #[.string rs[k].head.name, .slice Ae rs[k].head.args.length ce, .slice Af rs[k].body.length cf] 51)) := (Below.refl _ _).alloc (Nat.le_refl _) _
      have HLT := Lib.hid hlt
      have HSN := Lib.hid (places_snoc rs k hlt)
      have HSZ : Hid (rs[k].head.name.size ≤ maxLen) := Lib.hid (by obtain ⟨_, _, _, _, _, hs, _⟩ := hel; exact hs)
      have HM := Lib.hid (hM.below hA hM.lt)
      have HB := Lib.hid (hB.trans (hA.mono hB.size))
      have HLE : Hid ((placesL (rs.take k)).length ≤ 1000000) := Lib.hid (by have := hM.len_le; omega)
      have hkn : k < maxLen := by unfold maxLen; omega
      clear h hel hA hM hB
      generalize rs[k] = r at *
      generalize placesL (rs.take k) = L at *
      clear hlt
      obtain ⟨⟨nm, args⟩, body⟩ := r
      dsimp only at *
      by_cases hL : nm ∈ L
      · have HD : Hid (decide (nm ∈ L) = true) := Lib.hid (decide_eq_true hL)
        have HV : Hid ((if nm ∈ L then idxI L nm else 0) = idxI L nm) := Lib.hid (if_pos hL)
        have HP : Hid (placesL (rs.take (k + 1)) = L) := Lib.hid (by rw [HSN.out]; unfold putNew; rw [if_pos hL])
        clear hL HSN
        go_wp2_with (first | (at_lookup; refine wpList_mapf_ok _ rfl _ _ _ rfl Tryz.underlying69 _ _ L _ rfl HM.out nm rfl HSZ.out true HD.out _ HV.out ?_) | go_in)
        go_roundw
        case rel => exact ⟨k + 1, HLT.out, by go_num, by rw [HP.out]; exact HM.out.mono (Nat.le_succ k), HB.out⟩
        case measure => have := HLT.out; simp [intOf]; omega
      · have HD : Hid (decide (nm ∈ L) = false) := Lib.hid (decide_eq_false hL)
        have HV : Hid ((if nm ∈ L then idxI L nm else 0) = 0) := Lib.hid (if_neg hL)
        have HI := Lib.hid (idx_put hL)
        have hle := HLE.out
        clear hL
        go_wp2_with (first | (at_lookup; refine wpList_mapf_ok _ rfl _ _ _ rfl Tryz.underlying69 _ _ L _ rfl HM.out nm rfl HSZ.out false HD.out _ HV.out ?_) | (at_len; refine wpList_mapf_len _ rfl _ _ rfl Tryz.underlying69 _ _ L _ rfl HM.out ?_) | (at_mapUpdate; refine wpList_mapf_put _ rfl _ _ _ _ rfl Tryz.underlying69 _ _ L _ rfl HM.out nm rfl HSZ.out _ rfl hkn (by omega) ?_; intro w1 hM1 hg1) | go_in)
        have HM1 := Lib.hid (hM1.congr HI.out)
        have HB1 := Lib.hid (HB.out.grown hg1 (by have := HB.out.size; exact this) fun j hj => by cases hj; exact Nat.le_refl _)
        clear hM1 hg1
        go_roundw
        case rel => exact ⟨k + 1, HLT.out, by go_num, by rw [HSN.out]; exact HM1.out, HB1.out⟩
        case measure => have := HLT.out; simp [intOf]; omega
    · have he : k = rs.length := by omega
      have hk1 : ¬ (k : Int) < (rs.length : Int) := by omega
      subst he
      rw [List.take_of_length_le (Nat.le_refl _)] at hM
      have HM := Lib.hid hM
      clear hM h
      go_wp2
      go_ret
      exact ⟨rfl, ⟨_, HM.out⟩, hB⟩

end Go.Proofs.YtbcepahpehadeaaGreatDoor
