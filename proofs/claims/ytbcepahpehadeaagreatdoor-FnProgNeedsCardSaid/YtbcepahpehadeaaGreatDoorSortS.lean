/- slices.Sort at texts. -/
import Derived.WalkKit
import Derived.Lib.Hide
import Derived.Lib.OwnBridge
import Derived.Sort.OwnSorted
import Derived.Shelf.Slices.In.SortNone
import Derived.Test.YtbcepahpehadeaaGreatDoorProg
import Derived.Test.YtbcepahpehadeaaGreatDoorShelf
import Derived.Test.YtbcepahpehadeaaGreatDoorSortP
namespace Go.Proofs.YtbcepahpehadeaaGreatDoor
open Go.RowKit Go.Sort D
set_option linter.unusedVariables false

theorem D.coll_strs {base e : Nat} {w : World} {v : Value} {L : List Value} {xs : List ByteArray} {bs : List Nat} (h : Coll 1 strK base e w v L xs bs) : L = xs.map Value.string ∧ (∀ s ∈ xs, s.size ≤ maxLen) ∧ bs = [] := by
  obtain ⟨_, ⟨hl, _, G, rfl, hat⟩, _⟩ := h
  rw [Nat.mul_one] at hl
  have h1 : ∀ j (hj : j < xs.length), L[j]? = some (.string xs[j]) ∧ xs[j].size ≤ maxLen ∧ G j = [] := fun j hj => by
    obtain ⟨a, b, c⟩ := hat j hj
    refine ⟨?_, b, c⟩
    rw [Nat.mul_one] at a
    have := congrArg (fun l : List Value => l[0]?) a
    simpa [List.getElem?_take, List.getElem?_drop] using this
  refine ⟨List.ext_getElem? fun j => ?_, fun s hs => ?_, ?_⟩
  · by_cases hj : j < xs.length
    · rw [(h1 j hj).1]; simp [hj]
    · rw [List.getElem?_eq_none (by omega), List.getElem?_eq_none (by simp; omega)]
  · obtain ⟨j, hj, rfl⟩ := List.mem_iff_getElem.1 hs
    exact (h1 j hj).2.1
  · exact List.flatMap_eq_nil_iff.2 fun j hj => (h1 j (List.mem_range.1 hj)).2.2

theorem D.coll_of_strs {base e : Nat} {w : World} {v : Value} {ys : List ByteArray} (h : w.ownsRow base e 1 v ys.length (ys.map Value.string)) (hs : ∀ s ∈ ys, s.size ≤ maxLen) : Coll 1 strK base e w v (ys.map Value.string) ys [] := by
  refine ⟨h, ⟨by simp, fun u hu => ?_, fun _ => [], by simp, fun j hj => ⟨?_, hs _ (List.getElem_mem hj), rfl⟩⟩, fun b hb => by simp at hb⟩
  · obtain ⟨s, _, rfl⟩ := List.mem_map.1 hu
    rfl
  · rw [Nat.mul_one]
    refine List.ext_getElem? fun i => ?_
    rcases i with _ | i
    · simp [List.getElem?_drop, hj]
    · simp; omega

def D.toBs (l : List (List UInt8)) : List ByteArray := l.map fun b => ⟨b.toArray⟩
theorem D.toBs_bytes (l : List (List UInt8)) : (toBs l).map (·.data.toList) = l := by
  unfold toBs; rw [List.map_map]
  refine (List.map_congr_left (g := id) fun b _ => ?_).trans (List.map_id l)
  show b.toArray.toList = b
  rfl
theorem D.toBs_enc (l : List (List UInt8)) : (toBs l).map Value.string = l.map encStr := by
  unfold toBs; rw [List.map_map]; rfl
theorem D.toBs_size {l : List (List UInt8)} {n : Nat} (h : ∀ b ∈ l, b.length ≤ n) : ∀ s ∈ toBs l, s.size ≤ n := fun s hs => by
  obtain ⟨b, hb, rfl⟩ := List.mem_map.1 hs
  exact h b hb
theorem D.bytes_size {xs : List ByteArray} {n : Nat} (h : ∀ s ∈ xs, s.size ≤ n) : ∀ b ∈ xs.map (·.data.toList), b.length ≤ n := fun b hb => by
  obtain ⟨s, hs, rfl⟩ := List.mem_map.1 hb
  exact h s hs

/-- Sorted: the same slice holds the sorted texts. -/
theorem sortS_any (xs : List ByteArray) (v : Value) (L : List Value) (base : Nat) (w : World) (hC : Coll 1 strK base 9 w v L xs []) (hl : xs.length ≤ 16777216) :
    Calls Tryz.prog 69 #[v] w fun e w' => e = .returned (.tuple #[]) ∧ ∃ ys : List ByteArray, ys.map (·.data.toList) = (xs.map (·.data.toList)).mergeSort leB ∧ ys.length = xs.length ∧ Coll 1 strK base 9 w' v (ys.map Value.string) ys [] ∧ w.grownBy w' v.ownBlock := by
  obtain ⟨rfl, hs, _⟩ := coll_strs hC
  have hrow := hC.own
  rcases hrow.2 with ⟨rfl, hx⟩ | ⟨g, cap, cur, rfl, hbase, hb, h1, h2, h3, h4⟩
  · have hx0 : xs = [] := by simpa using hx
    subst hx0
    have cn : Calls Tryz.prog 69 #[.slice none 0 0] w (fun e w2 => e = .returned (.tuple #[]) ∧ w2 = w) := Any.slices_Sort_string_none Tryz.lays190 none 0 w
    refine cn.mono ?_
    rintro e w' ⟨rfl, rfl⟩
    exact ⟨rfl, [], by simp, rfl, Coll.nil _, World.grownBy.refl _ _⟩
  · have hcl : (xs.map (·.data.toList)).length = xs.length := by simp
    have hH : Holds encStr w g 0 (xs.map (·.data.toList)).toArray := holds_of_block hb (by rw [hcl, Lib.map_encStr]; simpa using h4)
    have hg : g < w.heap.size := lt_of_block hb
    have c := Tryz.slices_Sort_string g 0 cap (xs.map (·.data.toList)) w hH hg (by omega)
    rw [hcl] at c
    refine c.mono ?_
    rintro e w' ⟨rfl, n, os, rfl⟩
    have hls : ((xs.map (·.data.toList)).mergeSort leB).length = (xs.map (·.data.toList)).length := List.length_mergeSort _
    have hown := ownsRow_sorted (base := base) (cap := cap) (n := n) (os := os) hls hbase hb (by rw [hcl]; exact h1) h2 h3
    rw [hcl] at hown hls
    have hlt : (toBs ((xs.map (·.data.toList)).mergeSort leB)).length = xs.length := by unfold toBs; rw [List.length_map]; exact hls
    refine ⟨rfl, toBs ((xs.map (·.data.toList)).mergeSort leB), toBs_bytes _, hlt, ?_, grownBy_sorted _⟩
    rw [← toBs_enc, ← hlt] at hown
    have := coll_of_strs hown (toBs_size fun b hb => bytes_size hs b ((List.mergeSort_perm _ _).mem_iff.1 hb))
    rw [hlt] at this
    exact this

end Go.Proofs.YtbcepahpehadeaaGreatDoor
