/- Of the proof of FnExactOnce: CmpD, SortS, Atom. -/
import Derived.Sort.Grow
import Derived.Test.YtjjfafgaphloaaaGreatDoorM08
import Derived.Deep.RegionHeld3
import Derived.Deep.RegionWith
import Derived.BigQuiet
import Derived.Deep.DrawnRows
import Derived.WalkKit
import Derived.WalkSpells
import Derived.WalkLawsBesides
import Derived.Lib.Hide
import Derived.Lib.IndexBytes
import Derived.Deep.Slices
import Derived.Deep.Fields
import Derived.ChangeSame
import Derived.Deep.Draws
import Derived.Lib.Bytealg
import Derived.Lib.OwnBridge
import Derived.Sort.OwnSorted
import Derived.Shelf.Slices.In.SortNone
import Derived.Test.YtjjfafgaphloaaaGreatDoorProg
import Derived.Test.YtjjfafgaphloaaaGreatDoorM02
import Derived.Test.YtjjfafgaphloaaaGreatDoorM07
import Derived.Test.YtjjfafgaphloaaaGreatDoorM05
namespace Go.Proofs.YtjjfafgaphloaaaGreatDoor
open Go.RowKit D
set_option linter.unusedVariables false
attribute [local go_sem ↓] Go.wp_at_zero Go.wp_at_succ
/-- What lay, some draws on, and new blocks. -/
structure D.Grew (w w' : World) : Prop where
  bel : Below w.heap.size w w'
  dr : w.drawn ≤ w'.drawn

theorem D.Grew.refl (w : World) : Grew w w := ⟨Below.refl _ _, Nat.le_refl _⟩

theorem D.Grew.trans {a b c : World} (h : Grew a b) (k : Grew b c) : Grew a c := ⟨h.bel.trans (k.bel.mono h.bel.size), Nat.le_trans h.dr k.dr⟩

theorem D.Grew.alloc {w w' : World} (h : Grew w w') (o : Obj) : Grew w (w'.alloc o) := ⟨h.bel.alloc h.bel.size _, h.dr⟩

theorem D.Grew.is {w w' : World} (h : Grew w w') : ∃ q os', w' = Go.Sort.grow (w.drewN q) os' := by
  refine ⟨w'.drawn - w.drawn, w'.heap.extract w.heap.size w'.heap.size, ?_⟩
  have e1 := h.bel.os
  have e2 := h.bel.tape
  have e3 := h.bel.output
  have e4 : w'.drawn = w.drawn + (w'.drawn - w.drawn) := by have := h.dr; omega
  have e5 : w'.heap = w.heap ++ w'.heap.extract w.heap.size w'.heap.size := by
    have hs := h.bel.size
    apply Array.ext
    · simp; omega
    · intro i h1 h2
      by_cases hi : i < w.heap.size
      · rw [Array.getElem_append_left hi]
        have := h.bel.block i hi
        rw [Array.getElem?_eq_getElem h1, Array.getElem?_eq_getElem hi] at this
        exact Option.some.inj this
      · rw [Array.getElem_append_right (by omega)]
        simp
        congr 1
        omega
  obtain ⟨hp, tp, dn, os, out⟩ := w
  obtain ⟨hp', tp', dn', os', out'⟩ := w'
  simp only [Go.Sort.grow, World.drewN] at *
  subst e1 e2 e3
  rw [← e4, ← e5]

set_option maxHeartbeats 400000 in
theorem order1_grew (t u : T) (w : World) :
    Calls Tryz.prog 70 #[.agg #[.bool t.var, .string t.name], .agg #[.bool u.var, .string u.name]] w fun e w' => e = .returned (.int .i64 (cmpS t.name u.name)) ∧ Grew w w' := by
  go_enter Tryz.func70, Tryz.ntmps70
  go_wp2_with (go_at_call 68; refine (compare_any _ _ _).mono ?_; rintro e w' ⟨rfl, rfl⟩)
  go_ret
  exact ⟨rfl, ((Grew.refl _).alloc _).alloc _⟩

set_option maxHeartbeats 400000 in
theorem compareFunc_grew (ts us : List T) (v1 v2 : Value) (b1 b2 : List Nat) (w : World) (h1 : termsK w [v1] ts b1) (h2 : termsK w [v2] us b2) :
    Calls Tryz.prog 69 #[v1, v2, .func (.func 70) #[] #[]] w
      fun e w' => e = .returned (.int .i64 (cmpTs ts us)) ∧ Grew w w' := by
  obtain ⟨Ad, cap, rfl, hl, hm⟩ := sliceK_form h1
  obtain ⟨Ad2, cap2, rfl, hl2, hm2⟩ := sliceK_form h2
  have hlm := nat_ge_max (Nat.le_trans hl hm)
  have hlm2 := nat_ge_max (Nat.le_trans hl2 hm2)
  clear hm hm2
  go_enter Tryz.func69, Tryz.ntmps69
  go_wp2
  go_loopw [13] (fun i wr => ∃ k : Nat, k ≤ ts.length ∧ k ≤ us.length ∧ i = .int .i64 k ∧ cmpTs ts us = cmpTs (ts.drop k) (us.drop k) ∧ Grew w wr) (fun i _ => ts.length - (intOf i).toNat)
  case atStart => exact ⟨0, Nat.zero_le _, Nat.zero_le _, rfl, rfl, Grew.refl _⟩
  case round =>
    obtain ⟨k, hk, hk2, rfl, hc, hb⟩ := hrel
    have HC := Lib.hid hc
    clear hc
    by_cases hlt : k < ts.length
    · obtain ⟨b, o, rfl, _, c0, c1, _⟩ := terms_at (termsK_good.below h1 hb.bel) hlt
      have hA : Grew wr (wr.alloc (.cells #[.bool ts[k].var, .string ts[k].name] 127)) := (Grew.refl _).alloc _
      by_cases hlt2 : k < us.length
      · obtain ⟨b', o', rfl, _, d0, d1, _⟩ := terms_at (termsK_good.below h2 (hb.trans hA).bel) hlt2
        have HS := Lib.hid (cmpTs_step hlt hlt2)
        clear h1 h2
        go_wp2_with fail
        refine (order1_grew ts[k] us[k] _).mono ?_
        rintro e w' ⟨rfl, hb'⟩
        have B' : Grew w w' := ((hb.alloc _).alloc _).trans hb'
        by_cases hz : cmpS ts[k].name us[k].name = 0
        · have hz' : (cmpS ts[k].name us[k].name == 0) = true := by simp [hz]
          have HZ := Lib.hid hz
          clear hz hA
          go_wp2
          go_roundw
          case rel => exact ⟨k + 1, by omega, by omega, by go_num, by rw [HC.out, HS.out, if_pos HZ.out], B'⟩
          case measure => simp [intOf]; omega
        · have hz' : (cmpS ts[k].name us[k].name == 0) = false := by simp [hz]
          have HZ := Lib.hid hz
          clear hz hA
          go_wp2
          go_ret
          exact ⟨ret_int (by rw [HC.out, HS.out, if_neg HZ.out]), B'⟩
      · clear h1 h2
        have HS := Lib.hid (cmpTs_end1 hlt (Nat.le_of_not_lt hlt2))
        go_wp2
        go_ret
        exact ⟨ret_int (by rw [HC.out, HS.out]), hb.trans hA⟩
    · have he : ts.length ≤ k := by omega
      by_cases hlt2 : k < us.length
      · have HS := Lib.hid (cmpTs_end2 he hlt2)
        have hx : ts.length < us.length := by omega
        go_wp2
        go_ret
        exact ⟨ret_int (by rw [HC.out, HS.out]), hb⟩
      · have HS := Lib.hid (cmpTs_end3 he (Nat.le_of_not_lt hlt2))
        have hx : ¬ ts.length < us.length := by omega
        go_wp2
        go_ret
        exact ⟨ret_int (by rw [HC.out, HS.out]), hb⟩

set_option maxHeartbeats 400000 in
theorem atomOrder_grew (a b : A) (c0 c1 d0 d1 : Value) (b1 b2 : List Nat) (w : World) (h1 : atomK w [c0, c1] a b1) (h2 : atomK w [d0, d1] b b2) :
    Calls Tryz.prog 29 #[.agg #[c0, c1], .agg #[d0, d1]] w fun e w' => e = .returned (.int .i64 (cmpA a b)) ∧ Grew w w' := by
  obtain ⟨Ad, cap, rfl, rfl⟩ := atom_cells2 h1
  obtain ⟨Ae, cape, rfl, rfl⟩ := atom_cells2 h2
  have hq := fun w' (hb : Grew w w') => compareFunc_grew a.args b.args (.slice Ad a.args.length cap) (.slice Ae b.args.length cape) b1 b2 w' (atom_args (atomK_good.below h1 hb.bel)) (atom_args (atomK_good.below h2 hb.bel))
  have hc : cmpA a b = if cmpS a.name b.name = 0 then cmpTs a.args b.args else cmpS a.name b.name := rfl
  have HC := Lib.hid hc
  clear h1 h2 hc
  have hA := ((Grew.refl w).alloc (.cells #[.string a.name, .slice Ad a.args.length cap] 33)).alloc (.cells #[.string b.name, .slice Ae b.args.length cape] 33)
  by_cases hz : cmpS a.name b.name = 0
  · have hz' : (cmpS a.name b.name != 0) = false := by simp [hz]
    have HZ := Lib.hid hz
    clear hz
    go_enter Tryz.func29, Tryz.ntmps29
    go_wp2_with (go_at_call 68; refine (compare_any _ _ _).mono ?_; rintro e w' ⟨rfl, rfl⟩)
    refine (hq _ hA).mono ?_
    rintro e w' ⟨rfl, hb'⟩
    go_wp2
    go_ret
    exact ⟨ret_int (by rw [HC.out, if_pos HZ.out]), hA.trans hb'⟩
  · have hz' : (cmpS a.name b.name != 0) = true := by simp [hz]
    have HZ := Lib.hid hz
    clear hz
    go_enter Tryz.func29, Tryz.ntmps29
    go_wp2_with (go_at_call 68; refine (compare_any _ _ _).mono ?_; rintro e w' ⟨rfl, rfl⟩)
    go_ret
    exact ⟨ret_int (by rw [HC.out, if_neg HZ.out]), hA⟩

end Go.Proofs.YtjjfafgaphloaaaGreatDoor

namespace Go.Proofs.YtjjfafgaphloaaaGreatDoor
open Go.RowKit Go.Sort D
set_option linter.unusedVariables false
theorem D.coll_strs {base e : Nat} {w : World} {v : Value} {L : List Value} {xs : List ByteArray} {bs : List Nat} (h : Coll 1 strK base e w v L xs bs) : L = xs.map Value.string ∧ (∀ s ∈ xs, s.size ≤ maxLen) ∧ bs = [] := by
  obtain ⟨_, ⟨hl, _, G, rfl, hat⟩, _⟩ := h
  rw [Nat.mul_one] at hl
  have h1 : ∀ j (hj : j < xs.length), L[j]? = some (.string xs[j]) ∧ xs[j].size ≤ maxLen ∧ G j = [] := fun j hj => by
    obtain ⟨a, b, c⟩ := hat j hj
    refine ⟨?_, b, c⟩
    rw [Nat.mul_one] at a
    have := congrArg (fun l : List Value => l[0]?) a
    simpa [List.getElem?_take, List.getElem?_drop] using this
  refine ⟨List.ext_getElem? fun j => ?_, fun s hs => ?_, ?_⟩
  · by_cases hj : j < xs.length
    · rw [(h1 j hj).1]; simp [hj]
    · rw [List.getElem?_eq_none (by omega), List.getElem?_eq_none (by simp; omega)]
  · obtain ⟨j, hj, rfl⟩ := List.mem_iff_getElem.1 hs
    exact (h1 j hj).2.1
  · exact List.flatMap_eq_nil_iff.2 fun j hj => (h1 j (List.mem_range.1 hj)).2.2

theorem D.coll_of_strs {base e : Nat} {w : World} {v : Value} {ys : List ByteArray} (h : w.ownsRow base e 1 v ys.length (ys.map Value.string)) (hs : ∀ s ∈ ys, s.size ≤ maxLen) : Coll 1 strK base e w v (ys.map Value.string) ys [] := by
  refine ⟨h, ⟨by simp, fun u hu => ?_, fun _ => [], by simp, fun j hj => ⟨?_, hs _ (List.getElem_mem hj), rfl⟩⟩, fun b hb => by simp at hb⟩
  · obtain ⟨s, _, rfl⟩ := List.mem_map.1 hu
    rfl
  · rw [Nat.mul_one]
    refine List.ext_getElem? fun i => ?_
    rcases i with _ | i
    · simp [List.getElem?_drop, hj]
    · simp; omega

def D.toBs (l : List (List UInt8)) : List ByteArray := l.map fun b => ⟨b.toArray⟩

theorem D.toBs_bytes (l : List (List UInt8)) : (toBs l).map (·.data.toList) = l := by
  unfold toBs; rw [List.map_map]
  refine (List.map_congr_left (g := id) fun b _ => ?_).trans (List.map_id l)
  show b.toArray.toList = b
  rfl

theorem D.toBs_enc (l : List (List UInt8)) : (toBs l).map Value.string = l.map encStr := by
  unfold toBs; rw [List.map_map]; rfl

theorem D.toBs_size {l : List (List UInt8)} {n : Nat} (h : ∀ b ∈ l, b.length ≤ n) : ∀ s ∈ toBs l, s.size ≤ n := fun s hs => by
  obtain ⟨b, hb, rfl⟩ := List.mem_map.1 hs
  exact h b hb

theorem D.bytes_size {xs : List ByteArray} {n : Nat} (h : ∀ s ∈ xs, s.size ≤ n) : ∀ b ∈ xs.map (·.data.toList), b.length ≤ n := fun b hb => by
  obtain ⟨s, hs, rfl⟩ := List.mem_map.1 hb
  exact h s hs

/-- Sorted: the same slice holds the sorted texts. -/
theorem sortS_any (xs : List ByteArray) (v : Value) (L : List Value) (base : Nat) (w : World) (hC : Coll 1 strK base 9 w v L xs []) (hl : xs.length ≤ 16777216) :
    Calls Tryz.prog 137 #[v] w fun e w' => e = .returned (.tuple #[]) ∧ ∃ ys : List ByteArray, ys.map (·.data.toList) = (xs.map (·.data.toList)).mergeSort leB ∧ ys.length = xs.length ∧ Coll 1 strK base 9 w' v (ys.map Value.string) ys [] ∧ w.grownBy w' v.ownBlock := by
  obtain ⟨rfl, hs, _⟩ := coll_strs hC
  have hrow := hC.own
  rcases hrow.2 with ⟨rfl, hx⟩ | ⟨g, cap, cur, rfl, hbase, hb, h1, h2, h3, h4⟩
  · have hx0 : xs = [] := by simpa using hx
    subst hx0
    have cn : Calls Tryz.prog 137 #[.slice none 0 0] w (fun e w2 => e = .returned (.tuple #[]) ∧ w2 = w) := Any.slices_Sort_string_none Tryz.lays190 none 0 w
    refine cn.mono ?_
    rintro e w' ⟨rfl, rfl⟩
    exact ⟨rfl, [], by simp, rfl, Coll.nil _, World.grownBy.refl _ _⟩
  · have hcl : (xs.map (·.data.toList)).length = xs.length := by simp
    have hH : Holds encStr w g 0 (xs.map (·.data.toList)).toArray := holds_of_block hb (by rw [hcl, Lib.map_encStr]; simpa using h4)
    have hg : g < w.heap.size := lt_of_block hb
    have c := Tryz.slices_Sort_string g 0 cap (xs.map (·.data.toList)) w hH hg (by omega)
    rw [hcl] at c
    refine c.mono ?_
    rintro e w' ⟨rfl, n, os, rfl⟩
    have hls : ((xs.map (·.data.toList)).mergeSort leB).length = (xs.map (·.data.toList)).length := List.length_mergeSort _
    have hown := ownsRow_sorted (base := base) (cap := cap) (n := n) (os := os) hls hbase hb (by rw [hcl]; exact h1) h2 h3
    rw [hcl] at hown hls
    have hlt : (toBs ((xs.map (·.data.toList)).mergeSort leB)).length = xs.length := by unfold toBs; rw [List.length_map]; exact hls
    refine ⟨rfl, toBs ((xs.map (·.data.toList)).mergeSort leB), toBs_bytes _, hlt, ?_, grownBy_sorted _⟩
    rw [← toBs_enc, ← hlt] at hown
    have := coll_of_strs hown (toBs_size fun b hb => bytes_size hs b ((List.mergeSort_perm _ _).mem_iff.1 hb))
    rw [hlt] at this
    exact this

end Go.Proofs.YtjjfafgaphloaaaGreatDoor

namespace Go.Proofs.YtjjfafgaphloaaaGreatDoor
open Go.RowKit D
set_option linter.unusedVariables false
set_option maxHeartbeats 400000 in
theorem atomOk_spec (a : A) (c0 c1 : Value) (bs : List Nat) (w : World) (h : atomK w [c0, c1] a bs) :
    Calls Tryz.prog 123 #[.agg #[c0, c1]] w fun e w' => e = .returned (.bool (atomOk a)) ∧ Below w.heap.size w w' := by
  obtain ⟨s, hcs, hnm, ht⟩ := h
  simp only [List.cons.injEq, and_true] at hcs
  obtain ⟨rfl, rfl⟩ := hcs
  obtain ⟨Ad, cap, rfl, hl, hm⟩ := sliceK_form ht
  have hlm := nat_ge_max (Nat.le_trans hl hm)
  clear hm
  have hn := fun w => nameOk_spec a.name w hnm
  unfold atomOk
  obtain ⟨nm, ts⟩ := a
  dsimp only at *
  generalize nameOk nm = b at *
  go_enter Tryz.func123, Tryz.ntmps123
  go_wp2
  go_loopw [3] (fun i wr => ∃ k : Nat, k ≤ ts.length ∧ i = .int .i64 k ∧ (ts.take k).all termOk = true ∧ Below w.heap.size w wr ∧ wr.cell? ⟨w.heap.size, 0, none⟩ = some (.string nm) ∧ wr.cell? ⟨w.heap.size, 1, none⟩ = some (.slice Ad ts.length cap) ∧ w.heap.size < wr.heap.size) (fun i _ => ts.length - (intOf i).toNat)
  case atStart => exact ⟨0, Nat.zero_le _, rfl, rfl, (Below.refl _ _).alloc (Nat.le_refl _) _, by simp, by simp, by simp⟩
  case round =>
    obtain ⟨k, hk, rfl, hall, hb, hc0, hc1, hsz⟩ := hrel
    have HA := Lib.hid hall
    clear hall
    by_cases hlt : k < ts.length
    · have hw := termsK_good.below ht hb
      obtain ⟨b0, o, rfl, _, d0, d1, hnm⟩ := terms_at hw hlt
      have HT := Lib.hid ht
      clear ht hw
      go_wp2_with (go_at_call 171; refine (l1Term_any _ _ hnm).mono ?_; rintro e w' ⟨rfl, hb'⟩)
      · have hx : (!termOk ts[k]) = true := by assumption
        go_ret
        exact ⟨ret_bool (by rw [all_bad ts k hlt (by simpa using hx)]; simp), hb.trans (hb'.mono (by omega))⟩
      · have hx : (!termOk ts[k]) = false := by assumption
        go_roundw
        case rel => exact ⟨k + 1, by omega, by go_num, by rw [all_take_snoc ts k hlt, HA.out]; simpa using hx, hb.trans (hb'.mono (by omega)), cell_later hb' hc0, cell_later hb' hc1, by have := hb'.size; omega⟩
        case measure => simp [intOf]; omega
    · have he : k = ts.length := by omega
      subst he
      have ha : ts.all termOk = true := by have := HA.out; rwa [List.take_of_length_le (Nat.le_refl _)] at this
      have HA2 := Lib.hid ha
      clear ha
      cases b
      all_goals
        go_wp2_with (go_at_call 172; refine (hn _).mono ?_; rintro e w3 ⟨rfl, rfl⟩)
        go_ret
        exact ⟨ret_bool (by rw [HA2.out]; first | (simp; done) | (rw [Bool.eq_iff_iff]; simp; omega)), hb⟩

set_option maxHeartbeats 400000 in
theorem atomOk_impl (a : A) (c0 c1 : Value) (bs : List Nat) (w : World) (h : atomK w [c0, c1] a bs) :
    Calls Tryz.prog 116 #[.agg #[c0, c1]] w fun e w' => e = .returned (.bool (atomOk a)) ∧ Below w.heap.size w w' := by
  obtain ⟨s, hcs, hnm, ht⟩ := h
  simp only [List.cons.injEq, and_true] at hcs
  obtain ⟨rfl, rfl⟩ := hcs
  obtain ⟨Ad, cap, rfl, hl, hm⟩ := sliceK_form ht
  have hlm := nat_ge_max (Nat.le_trans hl hm)
  clear hm
  have hn := fun w => nameOk_impl a.name w hnm
  unfold atomOk
  obtain ⟨nm, ts⟩ := a
  dsimp only at *
  generalize nameOk nm = b at *
  by_cases h3 : ts.length ≤ 3
  all_goals cases b
  case pos.true =>
    go_enter Tryz.func116, Tryz.ntmps116
    go_wp2_with (go_at_call 160; refine (hn _).mono ?_; rintro e w3 ⟨rfl, rfl⟩)
    go_loopw [18] (fun i wr => ∃ k : Nat, k ≤ ts.length ∧ i = .int .i64 k ∧ (ts.take k).all termOk = true ∧ Below w.heap.size w wr) (fun i _ => ts.length - (intOf i).toNat)
    case atStart => exact ⟨0, Nat.zero_le _, rfl, rfl, (Below.refl _ _).alloc (Nat.le_refl _) _⟩
    case round =>
      obtain ⟨k, hk, rfl, hall, hb⟩ := hrel
      have HA := Lib.hid hall
      clear hall
      by_cases hlt : k < ts.length
      · have hw := termsK_good.below ht hb
        obtain ⟨b0, o, rfl, _, d0, d1, hnm⟩ := terms_at hw hlt
        have HT := Lib.hid ht
        clear ht hw
        go_wp2_with (go_at_call 161; refine (termOk_any _ _ hnm).mono ?_; rintro e w' ⟨rfl, hb'⟩)
        · have hx : (!termOk ts[k]) = true := by assumption
          go_ret
          exact ⟨ret_bool (by rw [all_bad ts k hlt (by simpa using hx)]; simp), (hb.alloc hb.size _).trans (hb'.mono (by have := hb.size; simp; omega))⟩
        · have hx : (!termOk ts[k]) = false := by assumption
          go_roundw
          case rel => exact ⟨k + 1, by omega, by go_num, by rw [all_take_snoc ts k hlt, HA.out]; simpa using hx, (hb.alloc hb.size _).trans (hb'.mono (by have := hb.size; simp; omega))⟩
          case measure => simp [intOf]; omega
      · have he : k = ts.length := by omega
        subst he
        have ha : ts.all termOk = true := by have := HA.out; rwa [List.take_of_length_le (Nat.le_refl _)] at this
        have HA2 := Lib.hid ha
        clear ha
        go_wp2
        go_ret
        exact ⟨ret_bool (by rw [HA2.out]; simp; omega), hb⟩
  all_goals
    go_enter Tryz.func116, Tryz.ntmps116
    go_wp2_with (go_at_call 160; refine (hn _).mono ?_; rintro e w3 ⟨rfl, rfl⟩)
    all_goals (go_ret; exact ⟨ret_bool (by first | (simp; done) | (simp; omega)), (Below.refl _ _).alloc (Nat.le_refl _) _⟩)

end Go.Proofs.YtjjfafgaphloaaaGreatDoor
