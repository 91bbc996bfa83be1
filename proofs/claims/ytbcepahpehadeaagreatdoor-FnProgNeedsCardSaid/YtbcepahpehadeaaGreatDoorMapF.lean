/- A map of texts to numbers, told by the list of its keys and what each holds: laws for the walk. -/
import Derived.WalkKit
import Derived.WalkSpells
import Derived.Maps.OwnSet
import Derived.StringKeys
import Derived.Test.YtbcepahpehadeaaGreatDoorProg
import Derived.Test.YtbcepahpehadeaaGreatDoorLevP
import Derived.Test.YtbcepahpehadeaaGreatDoorSortP
namespace Go.Proofs.YtbcepahpehadeaaGreatDoor
open Go.RowKit Go.Maps D
set_option linter.unusedVariables false

theorem D.lawS : Keyed Tryz.prog 9 := string_keyed Tryz.underlying9
theorem D.zeroI (w : World) : (zeroValue 3).run Tryz.prog w = .ok (.int .i64 0) w := by kernel_rfl
def D.keyL (s : ByteArray) : Lit := .string s.data.toList
theorem D.keyOf_s {s : ByteArray} (h : s.size ≤ maxLen) : keyOf Tryz.prog 9 (.string s) = some (keyL s) := Go.WideMaps.keyOf_string_mk Tryz.underlying9 h
theorem D.keyL_inj {s t : ByteArray} (h : keyL s = keyL t) : s = t := by
  unfold keyL at h
  injection h with h
  exact bytes_inj h
theorem D.lit_eq {H : Type} {x y : Int} (h : (DataW.lit (.int .i64 x) : DataW H) = .lit (.int .i64 y)) : x = y := by simpa using h
theorem D.wf_any {q : IntKind} {v : Int} (h : 0 ≤ v ∧ v ≤ 1000000) : (Lit.int .i64 v).wf = true := WalkArith.wf_i64 (by omega)

/-- Block b is a map of at most n entries; its keys are L's, and each holds what f says. -/
structure D.MapF (b n : Nat) (L : List ByteArray) (f : ByteArray → Int) (w : World) : Prop where
  own : ∃ M : DataW Unit, w.ownsMap Tryz.prog 9 (plainElem Tryz.prog 3) b n M ∧ Maps.size M = L.length ∧ (∀ s, has M (keyL s) = decide (s ∈ L)) ∧ ∀ s ∈ L, M.atKey (keyL s) (.lit (.int .i64 0)) = .lit (.int .i64 (f s))
  nd : L.Nodup
  sz : ∀ s ∈ L, s.size ≤ maxLen

theorem D.MapF.made (w : World) (f : ByteArray → Int) : MapF w.heap.size 0 [] f (w.alloc (.map #[] 0)) :=
  ⟨⟨.map [], World.ownsMap_made _ _ _ _, rfl, fun s => by simp [has], fun s h => by simp at h⟩, List.nodup_nil, fun s h => by simp at h⟩
theorem D.MapF.same {b n : Nat} {L : List ByteArray} {f : ByteArray → Int} {w w' : World} (h : MapF b n L f w) (e : w'.heap[b]? = w.heap[b]?) : MapF b n L f w' := by
  obtain ⟨⟨M, ⟨es, c, h1, h2⟩, h3⟩, h4, h5⟩ := h
  exact ⟨⟨M, ⟨es, c, e.trans h1, h2⟩, h3⟩, h4, h5⟩
theorem D.MapF.mono {b n n' : Nat} {L : List ByteArray} {f : ByteArray → Int} {w : World} (h : MapF b n L f w) (hn : n ≤ n') : MapF b n' L f w := by
  obtain ⟨⟨M, h1, h2⟩, h4, h5⟩ := h
  exact ⟨⟨M, h1.mono hn, h2⟩, h4, h5⟩
theorem D.MapF.lt {b n : Nat} {L : List ByteArray} {f : ByteArray → Int} {w : World} (h : MapF b n L f w) : b < w.heap.size := by
  obtain ⟨⟨M, h1, _⟩, _⟩ := h
  exact h1.lt
theorem D.MapF.below {b n : Nat} {L : List ByteArray} {f : ByteArray → Int} {w w' : World} {B : Nat} (h : MapF b n L f w) (hb : Below B w w') (hB : b < B) : MapF b n L f w' := h.same (hb.block b hB)
theorem D.MapF.setCell {b n : Nat} {L : List ByteArray} {f : ByteArray → Int} {w : World} (h : MapF b n L f w) {a : Addr} (ha : b ≠ a.block) (u : Value) : MapF b n L f (w.setCell a u) :=
  h.same (Below.heap_setCell _ _ _ _ ha)
theorem D.MapF.grown {b n : Nat} {L : List ByteArray} {f : ByteArray → Int} {w w' : World} {row : Option Nat} (h : MapF b n L f w) (hg : w.grownBy w' row) (hne : some b ≠ row) : MapF b n L f w' :=
  h.same (hg.block b h.lt hne)
theorem D.MapF.len_le {b n : Nat} {L : List ByteArray} {f : ByteArray → Int} {w : World} (h : MapF b n L f w) : L.length ≤ n := by
  obtain ⟨⟨M, h1, h2, _⟩, _⟩ := h
  have := h1.size_le
  omega
theorem D.MapF.congr {b n : Nat} {L : List ByteArray} {f g : ByteArray → Int} {w : World} (h : MapF b n L f w) (e : ∀ s ∈ L, f s = g s) : MapF b n L g w := by
  obtain ⟨⟨M, h1, h2, h3, h4⟩, h5, h6⟩ := h
  exact ⟨⟨M, h1, h2, h3, fun s hs => by rw [h4 s hs, e s hs]⟩, h5, h6⟩

section
variable {ops : Array Oper} {rest : List Oper} {o : Oper} {a : Act} {Q : Exit → Act → World → Prop}

/-- 'v, ok := m[k]'. -/
theorem wpList_mapf_ok (w : World) (hg : o.guard = none) (m x : Operand) (t : TypeId) (hop : o.op = Op.lookup t m x true) (ht : Tryz.prog.underlying t = some (.map 9 3))
    (b n : Nat) (L : List ByteArray) (f : ByteArray → Int) (hm : a.eval m = .map (some b)) (h : MapF b n L f w) (s : ByteArray) (hx : a.eval x = .string s) (hs : s.size ≤ maxLen)
    (c : Bool) (hc : decide (s ∈ L) = c) (v : Int) (hv : (if s ∈ L then f s else 0) = v)
    (hK : wpList Tryz.prog ops Q rest (a.put o.dst (.tuple #[.int .i64 v, .bool c])) w) : wpList Tryz.prog ops Q (o :: rest) a w := by
  obtain ⟨⟨M, h1, h2, h3, h4⟩, h5, h6⟩ := h
  refine wpList_lookup_own_ok_int w hg m x t hop _ _ .i64 lawS ht Tryz.underlying3 (zeroI w) b n M hm h1 (.string s) (keyL s) hx (keyOf_s hs) fun d hd hw => ?_
  rw [h3 s, hc]
  have : d = v := by
    rw [← hv]
    split
    · rename_i hmem
      have := h4 s hmem
      rw [this] at hd
      exact lit_eq hd.symm
    · rename_i hmem
      have h7 : has M (keyL s) = false := by rw [h3 s]; simpa using hmem
      rw [atKey_of_not_has h7] at hd
      exact lit_eq hd.symm
  rw [this]
  exact hK

/-- 'm[k]'. -/
theorem wpList_mapf (w : World) (hg : o.guard = none) (m x : Operand) (t : TypeId) (hop : o.op = Op.lookup t m x false) (ht : Tryz.prog.underlying t = some (.map 9 3))
    (b n : Nat) (L : List ByteArray) (f : ByteArray → Int) (hm : a.eval m = .map (some b)) (h : MapF b n L f w) (s : ByteArray) (hx : a.eval x = .string s) (hs : s.size ≤ maxLen)
    (v : Int) (hv : (if s ∈ L then f s else 0) = v)
    (hK : wpList Tryz.prog ops Q rest (a.put o.dst (.int .i64 v)) w) : wpList Tryz.prog ops Q (o :: rest) a w := by
  obtain ⟨⟨M, h1, h2, h3, h4⟩, h5, h6⟩ := h
  refine wpList_lookup_own_int w hg m x t hop _ _ .i64 lawS ht Tryz.underlying3 (zeroI w) b n M hm h1 (.string s) (keyL s) hx (keyOf_s hs) fun d hd hw => ?_
  have : d = v := by
    rw [← hv]
    split
    · rename_i hmem
      have := h4 s hmem
      rw [this] at hd
      exact lit_eq hd.symm
    · rename_i hmem
      have h7 : has M (keyL s) = false := by rw [h3 s]; simpa using hmem
      rw [atKey_of_not_has h7] at hd
      exact lit_eq hd.symm
  rw [this]
  exact hK

/-- 'len(m)'. -/
theorem wpList_mapf_len (w : World) (hg : o.guard = none) (m : Operand) (t : TypeId) (hop : o.op = Op.call { callee := Callee.builtin Builtin.len, args := #[m], argTypes := #[t] }) (ht : Tryz.prog.underlying t = some (.map 9 3))
    (b n : Nat) (L : List ByteArray) (f : ByteArray → Int) (hm : a.eval m = .map (some b)) (h : MapF b n L f w)
    (hK : wpList Tryz.prog ops Q rest (a.put o.dst (.int .i64 L.length)) w) : wpList Tryz.prog ops Q (o :: rest) a w := by
  obtain ⟨⟨M, h1, h2, h3, h4⟩, h5, h6⟩ := h
  refine wpList_len_own w hg m t hop _ _ ht _ b n M hm h1 ?_
  rw [h2]
  exact hK

theorem D.putNew_nodup {L : List ByteArray} (h : L.Nodup) (s : ByteArray) : (putNew L s).Nodup := (places_fold [s] L h).1
/-- 'm[k] = v'. -/
theorem wpList_mapf_put (w : World) (hg : o.guard = none) (m x v : Operand) (t : TypeId) (hop : o.op = Op.mapUpdate t m x v) (ht : Tryz.prog.underlying t = some (.map 9 3))
    (b n : Nat) (L : List ByteArray) (f : ByteArray → Int) (hm : a.eval m = .map (some b)) (h : MapF b n L f w) (s : ByteArray) (hx : a.eval x = .string s) (hs : s.size ≤ maxLen) (z : Int) (hv : a.eval v = .int .i64 z) (hn : n < maxLen) (hz : 0 ≤ z ∧ z ≤ 1000000)
    (hK : ∀ w', MapF b (n + 1) (putNew L s) (fun t => if t = s then z else f t) w' → w.grownBy w' (some b) → wpList Tryz.prog ops Q rest (a.put o.dst undef) w') : wpList Tryz.prog ops Q (o :: rest) a w := by
  obtain ⟨⟨M, h1, h2, h3, h4⟩, h5, h6⟩ := h
  refine wpList_mapUpdate_own w hg m x v t hop _ _ lawS ht _ b n M hm h1 hn (.string s) (.int .i64 z) (keyL s) hx hv (keyOf_s hs) (.lit (.int .i64 z)) [] (plainElem_int Tryz.underlying3 (WalkArith.wf_i64 (by omega))) fun w' h7 hgr => ?_
  refine hK w' ⟨⟨_, h7, ?_, fun t => ?_, fun t ht => ?_⟩, putNew_nodup h5 s, fun t ht => ?_⟩ hgr
  · rw [size_put (h1.tidy lawS), h3 s]
    unfold putNew
    by_cases hm : s ∈ L
    · simp [hm, h2]
    · simp [hm, h2]
  · by_cases e : t = s
    · subst e
      rw [has_put_same h1.isMap (lawS.key (keyOf_s hs))]
      exact (decide_eq_true (putNew_mem.2 (.inr rfl))).symm
    · rw [has_put_other (fun h => e (keyL_inj h)), h3 t]
      by_cases hm : t ∈ L
      · simp [hm, putNew_mem]
      · simp [hm, putNew_mem, e]
  · by_cases e : t = s
    · subst e
      rw [atKey_put_same h1.isMap (lawS.key (keyOf_s hs)), if_pos rfl]
    · rw [atKey_put_other (fun h => e (keyL_inj h)), if_neg e]
      exact h4 t ((putNew_mem.1 ht).resolve_right e)
  · rcases putNew_mem.1 ht with h | rfl
    · exact h6 t h
    · exact hs
end

open Go.WideElems (rg) in
theorem D.MapF.tight {b n : Nat} {L : List ByteArray} {f : ByteArray → Int} {w : World} (h : MapF b n L f w) : MapF b L.length L f w := by
  obtain ⟨⟨M, ⟨es, c, h1, h2, h3, h4⟩, h5, h6⟩, h7, h8⟩ := h
  refine ⟨⟨M, ⟨es, c, h1, h2, ?_, h4⟩, h5, h6⟩, h7, h8⟩
  rw [← h5, h4]
  simp [Maps.size, length_sorted]

section
variable {ops : Array Oper} {rest : List Oper} {o : Oper} {a : Act} {Q : Exit → Act → World → Prop}
/-- An entry of a literal. -/
theorem wpList_mapf_insert (w : World) (hg : o.guard = none) (m x v : Operand) (t : TypeId) (hop : o.op = Op.insert t m x v) (ht : Tryz.prog.underlying t = some (.map 9 3))
    (b n : Nat) (L : List ByteArray) (f : ByteArray → Int) (hm : a.eval m = .map (some b)) (h : MapF b n L f w) (s : ByteArray) (hx : a.eval x = .string s) (hs : s.size ≤ maxLen) (z : Int) (hv : a.eval v = .int .i64 z) (hn : n < maxLen) (hz : 0 ≤ z ∧ z ≤ 1000000)
    (hK : ∀ w', MapF b (n + 1) (putNew L s) (fun t => if t = s then z else f t) w' → w.grownBy w' (some b) → wpList Tryz.prog ops Q rest (a.put o.dst undef) w') : wpList Tryz.prog ops Q (o :: rest) a w := by
  obtain ⟨⟨M, h1, h2, h3, h4⟩, h5, h6⟩ := h
  refine wpList_plain hg fun K' hK' => ?_
  obtain ⟨w', hrun, h7, hgr⟩ := h1.update lawS ht hn (keyOf_s hs) (plainElem_int Tryz.underlying3 (WalkArith.wf_i64 (show _ from (by omega : -9223372036854775808 ≤ z ∧ z ≤ 9223372036854775807))))
  have hK2 := hK w' ⟨⟨_, h7, ?_, fun t => ?_, fun t ht => ?_⟩, putNew_nodup h5 s, fun t ht => ?_⟩ hgr
  · unfold Oper.wp
    simp [execOp, hop, hm, hx, hv, hrun, Result.andThen]
    exact hK' _ _ hK2
  · rw [size_put (h1.tidy lawS), h3 s]
    unfold putNew
    by_cases hm : s ∈ L
    · simp [hm, h2]
    · simp [hm, h2]
  · by_cases e : t = s
    · subst e
      rw [has_put_same h1.isMap (lawS.key (keyOf_s hs))]
      exact (decide_eq_true (putNew_mem.2 (.inr rfl))).symm
    · rw [has_put_other (fun h => e (keyL_inj h)), h3 t]
      by_cases hm : t ∈ L
      · simp [hm, putNew_mem]
      · simp [hm, putNew_mem, e]
  · by_cases e : t = s
    · subst e
      rw [atKey_put_same h1.isMap (lawS.key (keyOf_s hs)), if_pos rfl]
    · rw [atKey_put_other (fun h => e (keyL_inj h)), if_neg e]
      exact h4 t ((putNew_mem.1 ht).resolve_right e)
  · rcases putNew_mem.1 ht with h | rfl
    · exact h6 t h
    · exact hs
end


end Go.Proofs.YtbcepahpehadeaaGreatDoor
