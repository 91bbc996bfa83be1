/- Rows that are made by appends of elements that lie elsewhere: plain. -/
import Derived.WalkKit
import Derived.Lib.Hide
import Derived.Deep.Slices
import Derived.Test.YtbppnelbjklpeaaEl
namespace Go.Proofs.Ytbppnelbjklpeaa
open Go.RowKit D
set_option linter.unusedVariables false

namespace D
/-- Every cell of a datum is one cell. -/
def Ones {α : Type} (n : Nat) (R : Rel α) : Prop := ∀ {w cs x bs}, R w cs x bs → cs.length = n ∧ ∀ u ∈ cs, Value.oneCell' u = true
theorem termK_ones : Ones 2 termK := fun h => by obtain ⟨rfl, _⟩ := h; simp [Value.oneCell']
theorem atomK_ones : Ones 2 atomK := fun h => by
  obtain ⟨s, rfl, _, ht⟩ := h
  obtain ⟨Ad, cap, rfl, _⟩ := sliceK_form ht
  simp [Value.oneCell']
theorem partK_ones : Ones 3 partK := fun h => by
  obtain ⟨s, rfl, _, ht⟩ := h
  obtain ⟨Ad, cap, rfl, _⟩ := sliceK_form ht
  simp [Value.oneCell']
theorem ruleK_ones : Ones 3 ruleK := fun h => by
  obtain ⟨s, b, _, _, rfl, _, _, ht, hp⟩ := h
  obtain ⟨Ad, cap, rfl, _⟩ := sliceK_form ht
  obtain ⟨Ae, cape, rfl, _⟩ := sliceK_form hp
  simp [Value.oneCell']
theorem strK_ones : Ones 1 strK := fun h => by obtain ⟨rfl, _⟩ := h; simp [Value.oneCell']

/-- The cells L are the elements xs, n cells each. -/
structure Rowed {α : Type} (n : Nat) (R : Rel α) (w : World) (L : List Value) (xs : List α) (bs : List Nat) : Prop where
  len : L.length = xs.length * n
  one : ∀ u ∈ L, Value.oneCell' u = true
  at_ : ∃ G : Nat → List Nat, bs = (List.range xs.length).flatMap G ∧ ∀ j (h : j < xs.length), R w ((L.drop (j * n)).take n) xs[j] (G j)
theorem Rowed.nil {α : Type} {n : Nat} {R : Rel α} {w : World} : Rowed n R w [] [] [] := ⟨by simp, fun u hu => by simp at hu, fun _ => [], rfl, fun j h => absurd h (Nat.not_lt_zero _)⟩
theorem Rowed.keep {α : Type} {n : Nat} {R : Rel α} (g : Good R) {w w' : World} {L : List Value} {xs : List α} {bs : List Nat} (h : Rowed n R w L xs bs) (hk : ∀ b ∈ bs, w'.heap[b]? = w.heap[b]?) : Rowed n R w' L xs bs := by
  obtain ⟨h1, h2, G, rfl, h3⟩ := h
  exact ⟨h1, h2, G, rfl, fun j hj => g.keep (h3 j hj) fun b hb => hk b (List.mem_flatMap.2 ⟨j, List.mem_range.2 hj, hb⟩)⟩
theorem Rowed.lt {α : Type} {n : Nat} {R : Rel α} (g : Good R) {w : World} {L : List Value} {xs : List α} {bs : List Nat} (h : Rowed n R w L xs bs) : ∀ b ∈ bs, b < w.heap.size := by
  obtain ⟨h1, h2, G, rfl, h3⟩ := h
  intro b hb
  obtain ⟨j, hj, hb⟩ := List.mem_flatMap.1 hb
  exact g.lt (h3 j (List.mem_range.1 hj)) b hb
theorem Rowed.below {α : Type} {n : Nat} {R : Rel α} (g : Good R) {w w' : World} {L : List Value} {xs : List α} {bs : List Nat} (h : Rowed n R w L xs bs) (hb : Below w.heap.size w w') : Rowed n R w' L xs bs :=
  h.keep g fun b hbs => hb.block b (h.lt g b hbs)
theorem Rowed.one_el {α : Type} {n : Nat} {R : Rel α} (o : Ones n R) {w : World} {cs : List Value} {x : α} {bs : List Nat} (h : R w cs x bs) : Rowed n R w cs [x] bs := by
  refine ⟨by rw [(o h).1]; simp, (o h).2, fun _ => bs, by simp, fun j hj => ?_⟩
  obtain rfl : j = 0 := by simpa using hj
  simp only [Nat.zero_mul, List.drop_zero, List.getElem_cons_zero]
  rw [List.take_of_length_le (by rw [(o h).1]; omega)]
  exact h
theorem Rowed.append {α : Type} {n : Nat} {R : Rel α} {w : World} {L M : List Value} {xs ys : List α} {b1 b2 : List Nat} (h : Rowed n R w L xs b1) (k : Rowed n R w M ys b2) : Rowed n R w (L ++ M) (xs ++ ys) (b1 ++ b2) := by
  obtain ⟨h1, h2, G, rfl, h3⟩ := h
  obtain ⟨k1, k2, H, rfl, k3⟩ := k
  refine ⟨by rw [List.length_append, List.length_append, h1, k1, Nat.add_mul], fun u hu => (List.mem_append.1 hu).elim (h2 u) (k2 u), fun j => if j < xs.length then G j else H (j - xs.length), ?_, fun j hj => ?_⟩
  · rw [List.length_append, List.range_add, List.flatMap_append]
    congr 1
    · rw [List.flatMap_def, List.flatMap_def]; congr 1
      exact List.map_congr_left fun j hj => by rw [if_pos (List.mem_range.1 hj)]
    · rw [List.flatMap_map, List.flatMap_def, List.flatMap_def]; congr 1
      exact List.map_congr_left fun j hj => by
        show H j = if xs.length + j < xs.length then G (xs.length + j) else H (xs.length + j - xs.length)
        rw [if_neg (by omega), Nat.add_sub_cancel_left]
  · rw [List.length_append] at hj
    by_cases hlt : j < xs.length
    · simp only [if_pos hlt]
      have hm : j * n + n ≤ xs.length * n := by
        have := Nat.mul_le_mul_right n (show j + 1 ≤ xs.length by omega)
        rw [Nat.add_mul, Nat.one_mul] at this; exact this
      rw [List.drop_append_of_le_length (by omega), List.take_append_of_le_length (by rw [List.length_drop]; omega), List.getElem_append_left hlt]
      exact h3 j hlt
    · simp only [if_neg hlt]
      have hm : xs.length * n ≤ j * n := Nat.mul_le_mul_right n (by omega)
      rw [List.getElem_append_right (by omega), List.drop_append, List.drop_of_length_le (by omega), List.nil_append, h1, ← Nat.sub_mul]
      exact k3 (j - xs.length) (by omega)
theorem Rowed.snoc {α : Type} {n : Nat} {R : Rel α} (o : Ones n R) {w : World} {L : List Value} {xs : List α} {b1 : List Nat} (h : Rowed n R w L xs b1) {cs : List Value} {x : α} {bs : List Nat} (k : R w cs x bs) : Rowed n R w (L ++ cs) (xs ++ [x]) (b1 ++ bs) :=
  h.append (Rowed.one_el o k)
theorem Rowed.take {α : Type} {n : Nat} {R : Rel α} {w : World} {L : List Value} {xs : List α} {bs : List Nat} (h : Rowed n R w L xs bs) {k : Nat} (hk : k ≤ xs.length) : ∃ b2, Rowed n R w (L.take (k * n)) (xs.take k) b2 ∧ ∀ b ∈ b2, b ∈ bs := by
  obtain ⟨h1, h2, G, rfl, h3⟩ := h
  have hkn : k * n ≤ xs.length * n := Nat.mul_le_mul_right n hk
  refine ⟨_, ⟨by simp only [List.length_take]; rw [h1, Nat.min_eq_left hkn, Nat.min_eq_left hk], fun u hu => h2 u (List.mem_of_mem_take hu), G, rfl, fun j hj => ?_⟩, fun b hb => ?_⟩
  · have hj' : j < k := by simp at hj; omega
    have hm : j * n + n ≤ k * n := by
      have := Nat.mul_le_mul_right n (show j + 1 ≤ k by omega)
      rw [Nat.add_mul, Nat.one_mul] at this; exact this
    rw [List.drop_take, List.take_take, Nat.min_eq_left (by omega), List.getElem_take]
    exact h3 j (by omega)
  · obtain ⟨j, hj, hb⟩ := List.mem_flatMap.1 hb
    have := List.mem_range.1 hj
    exact List.mem_flatMap.2 ⟨j, List.mem_range.2 (by simp at this; omega), hb⟩
theorem Rowed.drop {α : Type} {n : Nat} {R : Rel α} {w : World} {L : List Value} {xs : List α} {bs : List Nat} (h : Rowed n R w L xs bs) {k : Nat} (hk : k ≤ xs.length) : ∃ b2, Rowed n R w (L.drop (k * n)) (xs.drop k) b2 ∧ ∀ b ∈ b2, b ∈ bs := by
  obtain ⟨h1, h2, G, rfl, h3⟩ := h
  refine ⟨_, ⟨by simp only [List.length_drop]; rw [h1, Nat.sub_mul], fun u hu => h2 u (List.mem_of_mem_drop hu), fun j => G (k + j), rfl, fun j hj => ?_⟩, fun b hb => ?_⟩
  · rw [List.drop_drop, ← Nat.add_mul, List.getElem_drop]
    exact h3 (k + j) (by simp at hj; omega)
  · obtain ⟨j, hj, hb⟩ := List.mem_flatMap.1 hb
    have := List.mem_range.1 hj
    exact List.mem_flatMap.2 ⟨k + j, List.mem_range.2 (by simp at this; omega), hb⟩

theorem flat_at {n : Nat} {F : Nat → List Value} : ∀ {m : Nat}, (∀ k, k < m → (F k).length = n) → ((List.range m).flatMap F).length = m * n ∧ ∀ k i, k < m → i < n → ((List.range m).flatMap F)[k * n + i]? = (F k)[i]?
  | 0, _ => ⟨by simp, fun k i hk => absurd hk (Nat.not_lt_zero _)⟩
  | m + 1, h => by
    obtain ⟨h1, h2⟩ := flat_at (m := m) fun k hk => h k (by omega)
    rw [List.range_succ, List.flatMap_append]
    simp only [List.flatMap_cons, List.flatMap_nil, List.append_nil]
    refine ⟨by rw [List.length_append, h1, h m (by omega), Nat.add_mul, Nat.one_mul], fun k i hk hi => ?_⟩
    by_cases e : k = m
    · subst e
      rw [List.getElem?_append_right (by omega), h1, Nat.add_sub_cancel_left]
    · have hm : k * n + n ≤ m * n := by
        have := Nat.mul_le_mul_right n (show k + 1 ≤ m by omega)
        rw [Nat.add_mul, Nat.one_mul] at this; exact this
      rw [List.getElem?_append_left (by omega)]
      exact h2 k i (by omega) hi
/-- A slice as a row of cells. -/
theorem sliceK_row {α : Type} {n : Nat} {R : Rel α} (o : Ones n R) (hn : 0 < n) {w : World} {Ad : Option Addr} {len cap : Nat} {xs : List α} {bs : List Nat} (h : sliceK n R w [.slice Ad len cap] xs bs) :
    ∃ L b2, Rowed n R w L xs b2 ∧ (∀ b ∈ b2, b ∈ bs) ∧ (xs ≠ [] → ∃ b o, Ad = some ⟨b, o, none⟩ ∧ b ∈ bs ∧ ∀ j u, L[j]? = some u → w.cell? ⟨b, o + j, none⟩ = some u) := by
  obtain ⟨Ad', cap', hcs, hl, hm, h0, h1⟩ := h
  by_cases hne : xs = []
  · subst hne
    exact ⟨[], [], Rowed.nil, fun b hb => by simp at hb, fun h => absurd rfl h⟩
  · simp only [List.cons.injEq, Value.slice.injEq, and_true] at hcs
    obtain ⟨rfl, rfl, rfl⟩ := hcs
    obtain ⟨b, o', rfl, F, G, rfl, hF⟩ := h1 hne
    have hlen : ∀ k, k < xs.length → (F k).length = n := fun k hk => (hF k _ (List.getElem?_eq_getElem hk)).1
    obtain ⟨f1, f2⟩ := flat_at hlen
    have hpart : ∀ k, k < xs.length → (((List.range xs.length).flatMap F).drop (k * n)).take n = F k := by
      intro k hk
      refine List.ext_getElem? fun i => ?_
      by_cases hi : i < n
      · rw [List.getElem?_take_of_lt hi, List.getElem?_drop]; exact f2 k i hk hi
      · rw [List.getElem?_eq_none (by rw [List.length_take]; omega), List.getElem?_eq_none (by rw [hlen k hk]; omega)]
    refine ⟨(List.range xs.length).flatMap F, (List.range xs.length).flatMap G, ⟨f1, fun u hu => ?_, G, rfl, fun j hj => ?_⟩, fun c hc => List.mem_cons_of_mem _ hc, fun _ => ⟨b, o', rfl, by simp, fun j u hu => ?_⟩⟩
    · obtain ⟨k, hk, hu⟩ := List.mem_flatMap.1 hu
      exact (o (hF k _ (List.getElem?_eq_getElem (List.mem_range.1 hk))).2.2).2 u hu
    · rw [hpart j hj]; exact (hF j _ (List.getElem?_eq_getElem hj)).2.2
    · have hjl := (List.getElem?_eq_some_iff.1 hu).1
      rw [f1] at hjl
      have hk : j / n < xs.length := (Nat.div_lt_iff_lt_mul hn).2 hjl
      have hi := Nat.mod_lt j hn
      have e : j / n * n + j % n = j := by rw [Nat.mul_comm]; exact Nat.div_add_mod j n
      rw [← e, f2 _ _ hk hi] at hu
      have := (hF (j / n) _ (List.getElem?_eq_getElem hk)).2.1 (j % n) u hu
      rw [e] at this; exact this
/-- An owned row of elements is a slice of them. -/
theorem Rowed.slice {α : Type} {n : Nat} {R : Rel α} {w : World} {L : List Value} {xs : List α} {bs : List Nat} (h : Rowed n R w L xs bs) {base e : Nat} {v : Value} (hown : w.ownsRow base e n v xs.length L) :
    ∃ b2, sliceK n R w [v] xs b2 ∧ ∀ b ∈ b2, base ≤ b ∨ b ∈ bs := by
  obtain ⟨h1, _, G, rfl, h3⟩ := h
  rcases hown.2 with ⟨rfl, hL⟩ | ⟨g, cap, cur, rfl, hg, hh, hc1, hc2, hc3⟩
  · have hx : xs = [] := by
      by_cases hne : xs = []
      · exact hne
      · exfalso
        have hpos : 0 < xs.length := List.length_pos_iff.2 hne
        first
          | (rw [hL] at hpos; omega)
          | omega
    subst hx
    exact ⟨[], ⟨none, 0, rfl, Nat.zero_le _, Nat.zero_le _, fun _ => rfl, fun h => absurd rfl h⟩, fun b hb => by simp at hb⟩
  · by_cases hne : xs = []
    · subst hne
      exact ⟨[], ⟨_, cap, rfl, hc1, hc2, fun _ => rfl, fun h => absurd rfl h⟩, fun b hb => by simp at hb⟩
    · refine ⟨g :: (List.range xs.length).flatMap G, ⟨_, cap, rfl, hc1, hc2, fun h => absurd h hne, fun _ => ⟨g, 0, rfl, fun k => (L.drop (k * n)).take n, G, rfl, fun k x hx => ?_⟩⟩, fun b hb => ?_⟩
      · obtain ⟨hkl, rfl⟩ := List.getElem?_eq_some_iff.1 hx
        have hmul : k * n + n ≤ xs.length * n := by
          have := Nat.mul_le_mul_right n (show k + 1 ≤ xs.length by omega)
          rw [Nat.add_mul, Nat.one_mul] at this; exact this
        refine ⟨by simp; omega, fun j v hv => ?_, h3 k hkl⟩
        have hjn : j < n := by
          have := (List.getElem?_eq_some_iff.1 hv).1
          simp at this; omega
        rw [List.getElem?_take_of_lt hjn, List.getElem?_drop] at hv
        rw [Nat.zero_add, hown.cellAt (k * n + j) (by omega)]
        exact hv
      · rcases List.mem_cons.1 hb with rfl | hb
        · exact .inl hg
        · exact .inr hb
end D

end Go.Proofs.Ytbppnelbjklpeaa
