/- Levels of names, as the program reckons them: plain. -/
import Derived.Test.YtbcepahpehadeaaGreatDoorLevP
import Derived.Test.YtbcepahpehadeaaGreatDoorProgP
namespace Go.Proofs.YtbcepahpehadeaaGreatDoor.D
open Go.RowKit
set_option linter.unusedVariables false

/-- Numbers as cells. -/
def ofL (out : List Nat) : Array Value := (out.map fun n : Nat => Value.int .i64 (n : Int)).toArray
theorem ofL_at {out : List Nat} {i : Nat} (h : i < out.length) : (ofL out)[i]? = some (.int .i64 (atL out i : Nat)) := by
  unfold ofL atL
  simp [List.getElem?_eq_getElem h]
theorem ofL_set (out : List Nat) (i v : Nat) : (ofL out).setIfInBounds i (.int .i64 (v : Nat)) = ofL (out.set i v) := by
  unfold ofL
  simp [List.map_set]
theorem ofL_zero (n : Nat) : madeCells #[Value.int .i64 0] n = ofL (List.replicate n 0) := by
  unfold madeCells ofL
  refine Array.ext (by simp) fun i h1 h2 => ?_
  simp [Nat.mod_one]
theorem ofL_size (out : List Nat) : (ofL out).size = out.length := by unfold ofL; simp
def numOf : Option Value → Nat
  | some (.int _ z) => z.toNat
  | _ => 0
def levSum (w : World) (g n : Nat) : Nat := ((List.range n).map fun i => numOf (w.cell? ⟨g, i, none⟩)).sum
theorem levSum_is {w : World} {g : Nat} {out : List Nat} {t : TypeId} (h : w.heap[g]? = some (.cells (ofL out) t (0, 0))) : levSum w g out.length = out.sum := by
  unfold levSum
  have : ((List.range out.length).map fun i => numOf (w.cell? ⟨g, i, none⟩)) = out := by
    refine List.ext_getElem (by simp) fun i h1 h2 => ?_
    simp only [List.getElem_map, List.getElem_range]
    rw [cell_of_blk h, ofL_at h2]
    unfold numOf atL
    simp [List.getElem?_eq_getElem h2]
  rw [this]

def nlev (rs : List Ru) (out : List Nat) (s : ByteArray) : Nat := atL out ((placesL rs).idxOf s)
structure LvB (rs : List Ru) (out : List Nat) : Prop where
  len : out.length = (placesL rs).length
  bel : ∀ T, Sol rs T → ∀ n ∈ headNames rs, nlev rs out n ≤ T n
  lo : ∀ i, i < out.length → atL out i < out.length
theorem atL_zero (n i : Nat) : atL (List.replicate n 0) i = 0 := by
  unfold atL; rw [List.getD_eq_getElem?_getD, List.getElem?_replicate]; split <;> rfl
theorem LvB.zero (rs : List Ru) : LvB rs (List.replicate (placesL rs).length 0) :=
  ⟨by simp, fun T _ n _ => by unfold nlev; rw [atL_zero]; exact Nat.zero_le _, fun i h => by rw [atL_zero]; omega⟩
theorem LvB.sum_le {rs : List Ru} {out : List Nat} (h : LvB rs out) : out.sum ≤ (placesL rs).length * (placesL rs).length := by
  have := sum_bound (out := out) (n := out.length) fun i hi => Nat.le_of_lt (h.lo i hi)
  rw [h.len] at this
  exact this
theorem idx_lt {rs : List Ru} {n : ByteArray} (h : n ∈ headNames rs) : (placesL rs).idxOf n < (placesL rs).length := List.idxOf_lt_length_of_mem (places_mem.2 h)
theorem LvB.step {rs : List Ru} {out : List Nat} (h : LvB rs out) {r : Ru} (hr : r ∈ rs) {p : Pt} (hp : p ∈ r.body) (hh : p.atom.name ∈ headNames rs) {l : Nat} (hl : l = nlev rs out p.atom.name + noN p)
    (hlt : nlev rs out r.head.name < l) (hN : l < (placesL rs).length) : LvB rs (out.set ((placesL rs).idxOf r.head.name) l) ∧ out.sum < (out.set ((placesL rs).idxOf r.head.name) l).sum := by
  have hi := idx_lt (head_mem hr)
  have hi' : (placesL rs).idxOf r.head.name < out.length := by rw [h.len]; exact hi
  refine ⟨⟨by simp [h.len], fun T hT n hn => ?_, fun i hi2 => ?_⟩, ?_⟩
  · unfold nlev
    rw [atL_set hi']
    split
    · rename_i e
      have e2 : n = r.head.name := by
        have h1 := List.getElem_idxOf hi
        have h2 := List.getElem_idxOf (idx_lt hn)
        rw [← h2, ← h1]
        congr 1
        exact e.symm
      have h3 := hT r hr p hp hh
      have h4 := h.bel T hT _ hh
      rw [e2, hl]; omega
    · exact h.bel T hT n hn
  · rw [List.length_set] at hi2 ⊢
    rw [atL_set hi']
    split
    · rw [h.len]; exact hN
    · exact h.lo i hi2
  · refine sum_up (up_set (Nat.le_of_lt hlt)) fun e => ?_
    have h5 := set_still hi' e
    unfold nlev at hlt
    omega
theorem LvB.err {rs : List Ru} {out : List Nat} (h : LvB rs out) {r : Ru} (hr : r ∈ rs) {p : Pt} (hp : p ∈ r.body) (hh : p.atom.name ∈ headNames rs) {l : Nat} (hl : l = nlev rs out p.atom.name + noN p)
    (hN : (placesL rs).length ≤ l) : cycB rs = true := by
  refine cyc_of_no fun S hS => ?_
  obtain ⟨T, hT, hs⟩ := sol_small hS
  have h1 := hT r hr p hp hh
  have h2 := hs _ (head_mem hr)
  have h3 := h.bel T hT _ hh
  omega
def SatP (rs : List Ru) (out : List Nat) (r : Ru) (p : Pt) : Prop := p.atom.name ∈ headNames rs → nlev rs out p.atom.name + noN p ≤ nlev rs out r.head.name
def SatK (rs : List Ru) (out : List Nat) (k : Nat) : Prop := ∀ r ∈ rs.take k, ∀ p ∈ r.body, SatP rs out r p
theorem LvB.done {rs : List Ru} {out : List Nat} (h : LvB rs out) (hs : SatK rs out rs.length) : cycB rs = false ∧ ∀ i, i < rs.length → nlev rs out (ruleAt rs i).head.name = atL (levelsL rs) i := by
  have h1 : Sol rs (nlev rs out) := fun r hr p hp hh => hs r (by rw [List.take_of_length_le (Nat.le_refl _)]; exact hr) p hp hh
  exact ⟨no_cyc_of h1, least_eq h1 h.bel⟩
theorem SatK.zero (rs : List Ru) (out : List Nat) : SatK rs out 0 := fun r hr => by simp at hr
theorem SatK.snoc {rs : List Ru} {out : List Nat} {k : Nat} (h : k < rs.length) (h1 : SatK rs out k) (h2 : ∀ p ∈ rs[k].body, SatP rs out rs[k] p) : SatK rs out (k + 1) := fun r hr => by
  rw [List.take_succ_eq_append_getElem h] at hr
  rcases List.mem_append.1 hr with hr | hr
  · exact h1 r hr
  · rw [List.mem_singleton.1 hr]; exact h2
def SatJ (rs : List Ru) (out : List Nat) (r : Ru) (j : Nat) : Prop := ∀ p ∈ r.body.take j, SatP rs out r p
theorem SatJ.zero (rs : List Ru) (out : List Nat) (r : Ru) : SatJ rs out r 0 := fun p hp => by simp at hp
theorem SatJ.snoc {rs : List Ru} {out : List Nat} {r : Ru} {j : Nat} (h : j < r.body.length) (h1 : SatJ rs out r j) (h2 : SatP rs out r r.body[j]) : SatJ rs out r (j + 1) := fun p hp => by
  rw [List.take_succ_eq_append_getElem h] at hp
  rcases List.mem_append.1 hp with hp | hp
  · exact h1 p hp
  · rw [List.mem_singleton.1 hp]; exact h2

end Go.Proofs.YtbcepahpehadeaaGreatDoor.D
