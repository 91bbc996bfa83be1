/- Of the proof of FnOnce: MapF, KeyV, LevI, AtTxP. -/
import Derived.Test.YtjjfafgaphloaaaGreatDoorM07
namespace Go.Proofs.YtjjfafgaphloaaaGreatDoor
open Go.RowKit Go.Maps D
set_option linter.unusedVariables false
theorem D.lawS : Keyed Tryz.prog 9 := string_keyed Tryz.underlying9

theorem D.zeroI (w : World) : (zeroValue 3).run Tryz.prog w = .ok (.int .i64 0) w := by kernel_rfl

def D.keyL (s : ByteArray) : Lit := .string s.data.toList

theorem D.keyOf_s {s : ByteArray} (h : s.size ≤ maxLen) : keyOf Tryz.prog 9 (.string s) = some (keyL s) := Go.WideMaps.keyOf_string_mk Tryz.underlying9 h

theorem D.keyL_inj {s t : ByteArray} (h : keyL s = keyL t) : s = t := by
  unfold keyL at h
  injection h with h
  exact bytes_inj h

theorem D.lit_eq {H : Type} {x y : Int} (h : (DataW.lit (.int .i64 x) : DataW H) = .lit (.int .i64 y)) : x = y := by simpa using h

/-- Block b is a map of at most n entries; its keys are L's, and each holds what f says. -/
structure D.MapF (b n : Nat) (L : List ByteArray) (f : ByteArray → Int) (w : World) : Prop where
  own : ∃ M : DataW Unit, w.ownsMap Tryz.prog 9 (plainElem Tryz.prog 3) b n M ∧ Maps.size M = L.length ∧ (∀ s, has M (keyL s) = decide (s ∈ L)) ∧ ∀ s ∈ L, M.atKey (keyL s) (.lit (.int .i64 0)) = .lit (.int .i64 (f s))
  nd : L.Nodup
  sz : ∀ s ∈ L, s.size ≤ maxLen

theorem D.MapF.made (w : World) (f : ByteArray → Int) : MapF w.heap.size 0 [] f (w.alloc (.map #[] 0)) :=
  ⟨⟨.map [], World.ownsMap_made _ _ _ _, rfl, fun s => by simp [has], fun s h => by simp at h⟩, List.nodup_nil, fun s h => by simp at h⟩

theorem D.MapF.same {b n : Nat} {L : List ByteArray} {f : ByteArray → Int} {w w' : World} (h : MapF b n L f w) (e : w'.heap[b]? = w.heap[b]?) : MapF b n L f w' := by
  obtain ⟨⟨M, ⟨es, c, h1, h2⟩, h3⟩, h4, h5⟩ := h
  exact ⟨⟨M, ⟨es, c, e.trans h1, h2⟩, h3⟩, h4, h5⟩

theorem D.MapF.mono {b n n' : Nat} {L : List ByteArray} {f : ByteArray → Int} {w : World} (h : MapF b n L f w) (hn : n ≤ n') : MapF b n' L f w := by
  obtain ⟨⟨M, h1, h2⟩, h4, h5⟩ := h
  exact ⟨⟨M, h1.mono hn, h2⟩, h4, h5⟩

theorem D.MapF.lt {b n : Nat} {L : List ByteArray} {f : ByteArray → Int} {w : World} (h : MapF b n L f w) : b < w.heap.size := by
  obtain ⟨⟨M, h1, _⟩, _⟩ := h
  exact h1.lt

theorem D.MapF.below {b n : Nat} {L : List ByteArray} {f : ByteArray → Int} {w w' : World} {B : Nat} (h : MapF b n L f w) (hb : Below B w w') (hB : b < B) : MapF b n L f w' := h.same (hb.block b hB)

theorem D.MapF.setCell {b n : Nat} {L : List ByteArray} {f : ByteArray → Int} {w : World} (h : MapF b n L f w) {a : Addr} (ha : b ≠ a.block) (u : Value) : MapF b n L f (w.setCell a u) :=
  h.same (Below.heap_setCell _ _ _ _ ha)

theorem D.MapF.len_le {b n : Nat} {L : List ByteArray} {f : ByteArray → Int} {w : World} (h : MapF b n L f w) : L.length ≤ n := by
  obtain ⟨⟨M, h1, h2, _⟩, _⟩ := h
  have := h1.size_le
  omega

theorem D.MapF.congr {b n : Nat} {L : List ByteArray} {f g : ByteArray → Int} {w : World} (h : MapF b n L f w) (e : ∀ s ∈ L, f s = g s) : MapF b n L g w := by
  obtain ⟨⟨M, h1, h2, h3, h4⟩, h5, h6⟩ := h
  exact ⟨⟨M, h1, h2, h3, fun s hs => by rw [h4 s hs, e s hs]⟩, h5, h6⟩

section
variable {ops : Array Oper} {rest : List Oper} {o : Oper} {a : Act} {Q : Exit → Act → World → Prop}
/-- 'v, ok := m[k]'. -/
theorem wpList_mapf_ok (w : World) (hg : o.guard = none) (m x : Operand) (t : TypeId) (hop : o.op = Op.lookup t m x true) (ht : Tryz.prog.underlying t = some (.map 9 3))
    (b n : Nat) (L : List ByteArray) (f : ByteArray → Int) (hm : a.eval m = .map (some b)) (h : MapF b n L f w) (s : ByteArray) (hx : a.eval x = .string s) (hs : s.size ≤ maxLen)
    (c : Bool) (hc : decide (s ∈ L) = c) (v : Int) (hv : (if s ∈ L then f s else 0) = v)
    (hK : wpList Tryz.prog ops Q rest (a.put o.dst (.tuple #[.int .i64 v, .bool c])) w) : wpList Tryz.prog ops Q (o :: rest) a w := by
  obtain ⟨⟨M, h1, h2, h3, h4⟩, h5, h6⟩ := h
  refine wpList_lookup_own_ok_int w hg m x t hop _ _ .i64 lawS ht Tryz.underlying3 (zeroI w) b n M hm h1 (.string s) (keyL s) hx (keyOf_s hs) fun d hd hw => ?_
  rw [h3 s, hc]
  have : d = v := by
    rw [← hv]
    split
    · rename_i hmem
      have := h4 s hmem
      rw [this] at hd
      exact lit_eq hd.symm
    · rename_i hmem
      have h7 : has M (keyL s) = false := by rw [h3 s]; simpa using hmem
      rw [atKey_of_not_has h7] at hd
      exact lit_eq hd.symm
  rw [this]
  exact hK

/-- 'm[k]'. -/
theorem wpList_mapf (w : World) (hg : o.guard = none) (m x : Operand) (t : TypeId) (hop : o.op = Op.lookup t m x false) (ht : Tryz.prog.underlying t = some (.map 9 3))
    (b n : Nat) (L : List ByteArray) (f : ByteArray → Int) (hm : a.eval m = .map (some b)) (h : MapF b n L f w) (s : ByteArray) (hx : a.eval x = .string s) (hs : s.size ≤ maxLen)
    (v : Int) (hv : (if s ∈ L then f s else 0) = v)
    (hK : wpList Tryz.prog ops Q rest (a.put o.dst (.int .i64 v)) w) : wpList Tryz.prog ops Q (o :: rest) a w := by
  obtain ⟨⟨M, h1, h2, h3, h4⟩, h5, h6⟩ := h
  refine wpList_lookup_own_int w hg m x t hop _ _ .i64 lawS ht Tryz.underlying3 (zeroI w) b n M hm h1 (.string s) (keyL s) hx (keyOf_s hs) fun d hd hw => ?_
  have : d = v := by
    rw [← hv]
    split
    · rename_i hmem
      have := h4 s hmem
      rw [this] at hd
      exact lit_eq hd.symm
    · rename_i hmem
      have h7 : has M (keyL s) = false := by rw [h3 s]; simpa using hmem
      rw [atKey_of_not_has h7] at hd
      exact lit_eq hd.symm
  rw [this]
  exact hK

/-- 'len(m)'. -/
theorem wpList_mapf_len (w : World) (hg : o.guard = none) (m : Operand) (t : TypeId) (hop : o.op = Op.call { callee := Callee.builtin Builtin.len, args := #[m], argTypes := #[t] }) (ht : Tryz.prog.underlying t = some (.map 9 3))
    (b n : Nat) (L : List ByteArray) (f : ByteArray → Int) (hm : a.eval m = .map (some b)) (h : MapF b n L f w)
    (hK : wpList Tryz.prog ops Q rest (a.put o.dst (.int .i64 L.length)) w) : wpList Tryz.prog ops Q (o :: rest) a w := by
  obtain ⟨⟨M, h1, h2, h3, h4⟩, h5, h6⟩ := h
  refine wpList_len_own w hg m t hop _ _ ht _ b n M hm h1 ?_
  rw [h2]
  exact hK

theorem D.putNew_nodup {L : List ByteArray} (h : L.Nodup) (s : ByteArray) : (putNew L s).Nodup := (places_fold [s] L h).1

/-- 'm[k] = v'. -/
theorem wpList_mapf_put (w : World) (hg : o.guard = none) (m x v : Operand) (t : TypeId) (hop : o.op = Op.mapUpdate t m x v) (ht : Tryz.prog.underlying t = some (.map 9 3))
    (b n : Nat) (L : List ByteArray) (f : ByteArray → Int) (hm : a.eval m = .map (some b)) (h : MapF b n L f w) (s : ByteArray) (hx : a.eval x = .string s) (hs : s.size ≤ maxLen) (z : Int) (hv : a.eval v = .int .i64 z) (hn : n < maxLen) (hz : 0 ≤ z ∧ z ≤ 1000000)
    (hK : ∀ w', MapF b (n + 1) (putNew L s) (fun t => if t = s then z else f t) w' → w.grownBy w' (some b) → wpList Tryz.prog ops Q rest (a.put o.dst undef) w') : wpList Tryz.prog ops Q (o :: rest) a w := by
  obtain ⟨⟨M, h1, h2, h3, h4⟩, h5, h6⟩ := h
  refine wpList_mapUpdate_own w hg m x v t hop _ _ lawS ht _ b n M hm h1 hn (.string s) (.int .i64 z) (keyL s) hx hv (keyOf_s hs) (.lit (.int .i64 z)) [] (plainElem_int Tryz.underlying3 (WalkArith.wf_i64 (by omega))) fun w' h7 hgr => ?_
  refine hK w' ⟨⟨_, h7, ?_, fun t => ?_, fun t ht => ?_⟩, putNew_nodup h5 s, fun t ht => ?_⟩ hgr
  · rw [size_put (h1.tidy lawS), h3 s]
    unfold putNew
    by_cases hm : s ∈ L
    · simp [hm, h2]
    · simp [hm, h2]
  · by_cases e : t = s
    · subst e
      rw [has_put_same h1.isMap (lawS.key (keyOf_s hs))]
      exact (decide_eq_true (putNew_mem.2 (.inr rfl))).symm
    · rw [has_put_other (fun h => e (keyL_inj h)), h3 t]
      by_cases hm : t ∈ L
      · simp [hm, putNew_mem]
      · simp [hm, putNew_mem, e]
  · by_cases e : t = s
    · subst e
      rw [atKey_put_same h1.isMap (lawS.key (keyOf_s hs)), if_pos rfl]
    · rw [atKey_put_other (fun h => e (keyL_inj h)), if_neg e]
      exact h4 t ((putNew_mem.1 ht).resolve_right e)
  · rcases putNew_mem.1 ht with h | rfl
    · exact h6 t h
    · exact hs

end
section
variable {ops : Array Oper} {rest : List Oper} {o : Oper} {a : Act} {Q : Exit → Act → World → Prop}
end
end Go.Proofs.YtjjfafgaphloaaaGreatDoor
namespace Go.Proofs.YtjjfafgaphloaaaGreatDoor
open Go.RowKit Go.ChangeMaps Go.MapKept D
set_option linter.unusedVariables false
def D.isStr (v : Value) : Prop := ∃ s : ByteArray, v = .string s ∧ s.size ≤ maxLen

theorem D.keyV_str : KeyV Tryz.prog 9 (fun _ => True) isStr := by
  have K := Go.WideMaps.string_law (P := Tryz.prog) Tryz.underlying9
  have hk : ∀ {s : ByteArray}, s.size ≤ maxLen → keyOf Tryz.prog 9 (.string s) = some (.string s.data.toList) := fun h => Go.WideMaps.keyOf_string_mk Tryz.underlying9 h
  refine ⟨?_, ?_, ?_⟩
  · rintro w em v ⟨s, rfl, hs⟩
    exact K.check w em (hk hs)
  · rintro w _ k ⟨s, rfl, hs⟩ es hes
    exact K.find w (hk hs) es fun e he => by
      obtain ⟨s', h1, h2⟩ := hes e he
      exact ⟨_, by rw [h1]; exact hk h2⟩
  · rintro v ⟨s, rfl, _⟩
    simp [Instr.sameBits]

/-- What facts stand under. -/
structure D.WK where
  name : ByteArray
  size : Nat
  place : Int
  word : ByteArray
deriving DecidableEq

def D.wkV (k : WK) : Value := .agg #[.string k.name, .int .i64 k.size, .int .i64 k.place, .string k.word]

def D.isWK (v : Value) : Prop := ∃ k : WK, v = wkV k

theorem D.wkV_inj {k l : WK} (h : wkV k = wkV l) : k = l := by
  obtain ⟨a, b, c, d⟩ := k
  obtain ⟨a', b', c', d'⟩ := l
  simp [wkV] at h
  obtain ⟨rfl, h2, rfl, rfl⟩ := h
  have : b = b' := by omega
  rw [this]

theorem wkFields : Tryz.prog.underlying 164 = some (.struct (Tryz.prog.fieldsOf 164)) := by kernel_rfl

theorem wkHeld : Tryz.prog.stoodInHeld 164 = false := by kernel_rfl

theorem wkList : (Tryz.prog.fieldsOf 164).toList.map (fun f => (f.name, f.type, f.offset)) = [("name", 9, 0), ("size", 3, 1), ("at", 3, 2), ("word", 9, 3)] := by kernel_rfl

theorem D.wk_fields : ∃ f0 f1 f2 f3, (Tryz.prog.fieldsOf 164).toList = [f0, f1, f2, f3] ∧ (f0.name ≠ "_" ∧ f0.type = 9 ∧ f0.offset = 0) ∧ (f1.name ≠ "_" ∧ f1.type = 3 ∧ f1.offset = 1) ∧
    (f2.name ≠ "_" ∧ f2.type = 3 ∧ f2.offset = 2) ∧ (f3.name ≠ "_" ∧ f3.type = 9 ∧ f3.offset = 3) := by
  have h := wkList
  generalize (Tryz.prog.fieldsOf 164).toList = L at h
  have hl : L.length = 4 := by have := congrArg List.length h; simpa using this
  match L, hl, h with
  | [f0, f1, f2, f3], _, h =>
    simp at h
    obtain ⟨⟨a1, a2, a3⟩, ⟨b1, b2, b3⟩, ⟨c1, c2, c3⟩, d1, d2, d3⟩ := h
    exact ⟨f0, f1, f2, f3, rfl, ⟨by rw [a1]; decide, a2, a3⟩, ⟨by rw [b1]; decide, b2, b3⟩, ⟨by rw [c1]; decide, c2, c3⟩, by rw [d1]; decide, d2, d3⟩

theorem D.eq_str (d : Nat) (a b : ByteArray) (w : World) : (Op.equalIn (d + 1) 9 (.string a) (.string b)).run Tryz.prog w = .ok (a == b) w := by
  simp [Op.equalIn, run_underlying Tryz.underlying9, Result.andThen]

theorem D.eq_int (d : Nat) (a b : Int) (w : World) : (Op.equalIn (d + 1) 3 (.int .i64 a) (.int .i64 b)).run Tryz.prog w = .ok (a == b) w := by
  simp [Op.equalIn, run_underlying Tryz.underlying3, Result.andThen]

theorem D.part_str {cs : Array Value} {o : Nat} {v : Value} (h : cs[o]? = some v) (w : World) : (part 9 cs o).run Tryz.prog w = .ok v w := by
  simp [part, isAgg, run_underlying Tryz.underlying9, h, Result.andThen]

theorem D.part_int {cs : Array Value} {o : Nat} {v : Value} (h : cs[o]? = some v) (w : World) : (part 3 cs o).run Tryz.prog w = .ok v w := by
  simp [part, isAgg, run_underlying Tryz.underlying3, h, Result.andThen]

theorem D.keyA_wk : KeyA Tryz.prog 164 (fun _ => True) isWK := by
  refine ⟨⟨_, wkFields, ?_⟩, ?_⟩
  · rintro a b ⟨k, rfl⟩ ⟨l, rfl⟩
    rfl
  · rintro w a b _ ⟨k, rfl⟩ ⟨l, rfl⟩
    obtain ⟨f0, f1, f2, f3, hf, ⟨a1, a2, a3⟩, ⟨b1, b2, b3⟩, ⟨c1, c2, c3⟩, d1, d2, d3⟩ := wk_fields
    have hrun := run_equalIn_struct (P := Tryz.prog) (w := w) 9999 164 #[.string k.name, .int .i64 k.size, .int .i64 k.place, .string k.word] #[.string l.name, .int .i64 l.size, .int .i64 l.place, .string l.word] wkFields wkHeld
    refine ⟨k.name == l.name && ((k.size : Int) == (l.size : Int) && (k.place == l.place && k.word == l.word)), ?_, ?_⟩
    · show (Op.equalIn 10000 _ _ _).run _ _ = _
      unfold wkV
      rw [hrun, hf]
      simp [Op.eqFields, a1, a2, a3, b1, b2, b3, c1, c2, c3, d1, d2, d3, part_str, part_int, eq_str, eq_int, Result.andThen]
      by_cases h1 : k.name = l.name <;> by_cases h2 : (k.size : Int) = (l.size : Int) <;> by_cases h3 : k.place = l.place <;> by_cases h4 : k.word = l.word <;> simp [h1, h2, h3, h4]
    · constructor
      · intro h
        simp at h
        obtain ⟨h1, h2, h3, h4⟩ := h
        obtain ⟨a, b, c, d⟩ := k
        obtain ⟨a', b', c', d'⟩ := l
        simp only at h1 h2 h3 h4
        rw [h1, h3, h4, show b = b' by omega]
      · intro h
        rw [wkV_inj h]
        simp

theorem D.check_str (em : Bool) (v : ByteArray) (w : World) : (Instr.checkKey em 9999 9 (.string v)).run Tryz.prog w = .ok () w := by
  show (Instr.checkKey em (9998 + 1) _ _).run _ _ = _
  rw [Instr.checkKey]
  simp [run_underlying Tryz.underlying9, Result.andThen]

theorem D.check_int (em : Bool) (v : Int) (w : World) : (Instr.checkKey em 9999 3 (.int .i64 v)).run Tryz.prog w = .ok () w := by
  show (Instr.checkKey em (9998 + 1) _ _).run _ _ = _
  rw [Instr.checkKey]
  simp [run_underlying Tryz.underlying3, Result.andThen]

theorem D.keyV_wk : KeyV Tryz.prog 164 (fun _ => True) isWK := by
  refine ⟨?_, fun hW k hk es hs => findKey_a keyA_wk hW hk es hs, ?_⟩
  · rintro w em v ⟨k, rfl⟩
    obtain ⟨f0, f1, f2, f3, hf, ⟨a1, a2, a3⟩, ⟨b1, b2, b3⟩, ⟨c1, c2, c3⟩, d1, d2, d3⟩ := wk_fields
    show (Instr.checkKey em (9999 + 1) _ _).run _ _ = _
    rw [Instr.checkKey]
    unfold wkV
    simp only [Sem.run_bind, run_underlying wkFields, Result.andThen_ok]
    rw [← Array.forIn_toList, hf]
    simp [a1, a2, a3, b1, b2, b3, c1, c2, c3, d1, d2, d3, part_str, part_int, check_str, check_int, Result.andThen]
  · rintro v ⟨k, rfl⟩
    simp [Instr.sameBits, wkV]

end Go.Proofs.YtjjfafgaphloaaaGreatDoor
namespace Go.Proofs.YtjjfafgaphloaaaGreatDoor.D
open Go.RowKit
set_option linter.unusedVariables false
/-- Numbers as cells. -/
def ofL (out : List Nat) : Array Value := (out.map fun n : Nat => Value.int .i64 (n : Int)).toArray

theorem ofL_at {out : List Nat} {i : Nat} (h : i < out.length) : (ofL out)[i]? = some (.int .i64 (atL out i : Nat)) := by
  unfold ofL atL
  simp [List.getElem?_eq_getElem h]

theorem ofL_set (out : List Nat) (i v : Nat) : (ofL out).setIfInBounds i (.int .i64 (v : Nat)) = ofL (out.set i v) := by
  unfold ofL
  simp [List.map_set]

theorem ofL_zero (n : Nat) : madeCells #[Value.int .i64 0] n = ofL (List.replicate n 0) := by
  unfold madeCells ofL
  refine Array.ext (by simp) fun i h1 h2 => ?_
  simp [Nat.mod_one]

def numOf : Option Value → Nat
  | some (.int _ z) => z.toNat
  | _ => 0

def levSum (w : World) (g n : Nat) : Nat := ((List.range n).map fun i => numOf (w.cell? ⟨g, i, none⟩)).sum

theorem levSum_is {w : World} {g : Nat} {out : List Nat} {t : TypeId} (h : w.heap[g]? = some (.cells (ofL out) t (0, 0))) : levSum w g out.length = out.sum := by
  unfold levSum
  have : ((List.range out.length).map fun i => numOf (w.cell? ⟨g, i, none⟩)) = out := by
    refine List.ext_getElem (by simp) fun i h1 h2 => ?_
    simp only [List.getElem_map, List.getElem_range]
    rw [cell_of_blk h, ofL_at h2]
    unfold numOf atL
    simp [List.getElem?_eq_getElem h2]
  rw [this]

def nlev (rs : List Ru) (out : List Nat) (s : ByteArray) : Nat := atL out ((placesL rs).idxOf s)

structure LvB (rs : List Ru) (out : List Nat) : Prop where
  len : out.length = (placesL rs).length
  bel : ∀ T, Sol rs T → ∀ n ∈ headNames rs, nlev rs out n ≤ T n
  lo : ∀ i, i < out.length → atL out i < out.length

theorem atL_zero (n i : Nat) : atL (List.replicate n 0) i = 0 := by
  unfold atL; rw [List.getD_eq_getElem?_getD, List.getElem?_replicate]; split <;> rfl

theorem LvB.zero (rs : List Ru) : LvB rs (List.replicate (placesL rs).length 0) :=
  ⟨by simp, fun T _ n _ => by unfold nlev; rw [atL_zero]; exact Nat.zero_le _, fun i h => by rw [atL_zero]; omega⟩

theorem LvB.sum_le {rs : List Ru} {out : List Nat} (h : LvB rs out) : out.sum ≤ (placesL rs).length * (placesL rs).length := by
  have := sum_bound (out := out) (n := out.length) fun i hi => Nat.le_of_lt (h.lo i hi)
  rw [h.len] at this
  exact this

theorem idx_lt {rs : List Ru} {n : ByteArray} (h : n ∈ headNames rs) : (placesL rs).idxOf n < (placesL rs).length := List.idxOf_lt_length_of_mem (places_mem.2 h)

theorem LvB.step {rs : List Ru} {out : List Nat} (h : LvB rs out) {r : Ru} (hr : r ∈ rs) {p : Pt} (hp : p ∈ r.body) (hh : p.atom.name ∈ headNames rs) {l : Nat} (hl : l = nlev rs out p.atom.name + noN p)
    (hlt : nlev rs out r.head.name < l) (hN : l < (placesL rs).length) : LvB rs (out.set ((placesL rs).idxOf r.head.name) l) ∧ out.sum < (out.set ((placesL rs).idxOf r.head.name) l).sum := by
  have hi := idx_lt (head_mem hr)
  have hi' : (placesL rs).idxOf r.head.name < out.length := by rw [h.len]; exact hi
  refine ⟨⟨by simp [h.len], fun T hT n hn => ?_, fun i hi2 => ?_⟩, ?_⟩
  · unfold nlev
    rw [atL_set hi']
    split
    · rename_i e
      have e2 : n = r.head.name := by
        have h1 := List.getElem_idxOf hi
        have h2 := List.getElem_idxOf (idx_lt hn)
        rw [← h2, ← h1]
        congr 1
        exact e.symm
      have h3 := hT r hr p hp hh
      have h4 := h.bel T hT _ hh
      rw [e2, hl]; omega
    · exact h.bel T hT n hn
  · rw [List.length_set] at hi2 ⊢
    rw [atL_set hi']
    split
    · rw [h.len]; exact hN
    · exact h.lo i hi2
  · refine sum_up (up_set (Nat.le_of_lt hlt)) fun e => ?_
    have h5 := set_still hi' e
    unfold nlev at hlt
    omega

theorem LvB.err {rs : List Ru} {out : List Nat} (h : LvB rs out) {r : Ru} (hr : r ∈ rs) {p : Pt} (hp : p ∈ r.body) (hh : p.atom.name ∈ headNames rs) {l : Nat} (hl : l = nlev rs out p.atom.name + noN p)
    (hN : (placesL rs).length ≤ l) : cycB rs = true := by
  refine cyc_of_no fun S hS => ?_
  obtain ⟨T, hT, hs⟩ := sol_small hS
  have h1 := hT r hr p hp hh
  have h2 := hs _ (head_mem hr)
  have h3 := h.bel T hT _ hh
  omega

def SatP (rs : List Ru) (out : List Nat) (r : Ru) (p : Pt) : Prop := p.atom.name ∈ headNames rs → nlev rs out p.atom.name + noN p ≤ nlev rs out r.head.name

def SatK (rs : List Ru) (out : List Nat) (k : Nat) : Prop := ∀ r ∈ rs.take k, ∀ p ∈ r.body, SatP rs out r p

theorem LvB.done {rs : List Ru} {out : List Nat} (h : LvB rs out) (hs : SatK rs out rs.length) : cycB rs = false ∧ ∀ i, i < rs.length → nlev rs out (ruleAt rs i).head.name = atL (levelsL rs) i := by
  have h1 : Sol rs (nlev rs out) := fun r hr p hp hh => hs r (by rw [List.take_of_length_le (Nat.le_refl _)]; exact hr) p hp hh
  exact ⟨no_cyc_of h1, least_eq h1 h.bel⟩

theorem SatK.zero (rs : List Ru) (out : List Nat) : SatK rs out 0 := fun r hr => by simp at hr

theorem SatK.snoc {rs : List Ru} {out : List Nat} {k : Nat} (h : k < rs.length) (h1 : SatK rs out k) (h2 : ∀ p ∈ rs[k].body, SatP rs out rs[k] p) : SatK rs out (k + 1) := fun r hr => by
  rw [List.take_succ_eq_append_getElem h] at hr
  rcases List.mem_append.1 hr with hr | hr
  · exact h1 r hr
  · rw [List.mem_singleton.1 hr]; exact h2

def SatJ (rs : List Ru) (out : List Nat) (r : Ru) (j : Nat) : Prop := ∀ p ∈ r.body.take j, SatP rs out r p

theorem SatJ.zero (rs : List Ru) (out : List Nat) (r : Ru) : SatJ rs out r 0 := fun p hp => by simp at hp

theorem SatJ.snoc {rs : List Ru} {out : List Nat} {r : Ru} {j : Nat} (h : j < r.body.length) (h1 : SatJ rs out r j) (h2 : SatP rs out r r.body[j]) : SatJ rs out r (j + 1) := fun p hp => by
  rw [List.take_succ_eq_append_getElem h] at hp
  rcases List.mem_append.1 hp with hp | hp
  · exact h1 p hp
  · rw [List.mem_singleton.1 hp]; exact h2

end Go.Proofs.YtjjfafgaphloaaaGreatDoor.D
namespace Go.Proofs.YtjjfafgaphloaaaGreatDoor.D
open Go.RowKit Go.Lib
set_option linter.unusedVariables false
theorem low_big {c : UInt8} (h : low c = true) : big c = false := by
  cases hb : big c
  · rfl
  · exfalso
    have h1 := (big_int c).1 hb
    have : low c = false := (low_int c).2 (by omega)
    rw [this] at h; cases h

theorem name_cap {s : ByteArray} (h : nameOk s = true) : capB s = false := by
  unfold nameOk lows at h
  simp only [Bool.and_eq_true] at h
  unfold capB
  cases hs : s.data.toList with
  | nil => simp [big]
  | cons x xs =>
    have := List.all_eq_true.1 h.1.2 x (by rw [hs]; exact List.mem_cons_self ..)
    simp [low_big this]

theorem term_arg {t : T} (h : termOk t = true) : argT t.name = t := by
  unfold argT
  unfold termOk at h
  obtain ⟨v, s⟩ := t
  cases v
  · have := name_cap (s := s) (by simpa using h)
    show (⟨capB s, s⟩ : T) = ⟨false, s⟩
    rw [this]
  · have h1 : varOk s = true := by simpa using h
    unfold varOk at h1
    simp only [Bool.and_eq_true] at h1
    show (⟨capB s, s⟩ : T) = ⟨true, s⟩
    rw [h1.1.2]

theorem term_no44 {t : T} (h : termOk t = true) : (44 : UInt8) ∉ t.name.data.toList ∧ t.name.data.toList ≠ [] ∧ t.name.data.toList.length ≤ 8 := by
  have hz : t.name.data.toList.length = t.name.size := Array.length_toList
  unfold termOk at h
  split at h
  · unfold varOk at h
    simp only [Bool.and_eq_true, decide_eq_true_eq] at h
    have h1 := h.1.2
    unfold capB at h1
    simp only [Bool.and_eq_true, decide_eq_true_eq] at h1
    refine ⟨?_, by intro e; rw [e] at hz; simp at hz; omega, by omega⟩
    intro hm
    cases hs : t.name.data.toList with
    | nil => rw [hs] at hm; simp at hm
    | cons x xs =>
      rw [hs] at hm h1 h
      rcases List.mem_cons.1 hm with e | hm
      · have h2 := h1.2
        rw [← e] at h2
        exact absurd (show big 44 = true from h2) (by decide)
      · exact (low_not _ (List.all_eq_true.1 h.2 _ hm)).2.2.1 rfl
  · unfold nameOk at h
    simp only [Bool.and_eq_true, decide_eq_true_eq] at h
    refine ⟨?_, by intro e; rw [e] at hz; simp at hz; omega, by omega⟩
    intro hm
    exact (low_not _ (List.all_eq_true.1 h.1.2 _ hm)).2.2.1 rfl

theorem atom_of {a : A} (h : atomOk a = true) : atomOf a.name.data.toList (argsL a.args) = a := by
  unfold atomOk at h
  simp only [Bool.and_eq_true] at h
  have hall := List.all_eq_true.1 h.2
  have e : a.args = (a.args.map fun t => t.name.data.toList).map fun w => argT (toB w) := by
    rw [List.map_map]
    conv => lhs; rw [← List.map_id a.args]
    refine List.map_congr_left fun t ht => ?_
    show t = argT (toB t.name.data.toList)
    rw [toB_of, term_arg (hall t ht)]
  have ej : argsL a.args = joinL 44 (a.args.map fun t => t.name.data.toList) := by
    conv => lhs; rw [e]
    rw [argsL_join]
  unfold atomOf
  obtain ⟨nm, args⟩ := a
  dsimp only at *
  rw [toB_of]
  cases args with
  | nil => rw [ej]; rfl
  | cons t r =>
    have hne : joinL 44 ((t :: r).map fun t => t.name.data.toList) ≠ [] := by
      have ht := (term_no44 (hall t (List.mem_cons_self ..))).2.1
      cases r with
      | nil => exact ht
      | cons u r => exact List.append_ne_nil_of_left_ne_nil ht _
    rw [if_neg (by rw [ej]; exact hne), ej, splitL_join]
    · rw [← e]
    · simp
    · intro p hp
      obtain ⟨u, hu, rfl⟩ := List.mem_map.1 hp
      exact (term_no44 (hall u hu)).1

theorem join_le : ∀ (ps : List (List UInt8)), (∀ p ∈ ps, p.length ≤ 8) → (joinL 44 ps).length ≤ 9 * ps.length
  | [], _ => by simp [joinL]
  | [p], h => by have := h p (List.mem_cons_self ..); simp [joinL]; omega
  | p :: q :: r, h => by
    have h1 := h p (List.mem_cons_self ..)
    have h2 := join_le (q :: r) fun x hx => h x (List.mem_cons_of_mem _ hx)
    show (p ++ 44 :: joinL 44 (q :: r)).length ≤ _
    rw [List.length_append, List.length_cons]
    simp only [List.length_cons] at *
    omega

theorem args_le {a : A} (h : atomOk a = true) : (argsL a.args).length ≤ 27 := by
  have h0 := h
  unfold atomOk at h
  simp only [Bool.and_eq_true, decide_eq_true_eq] at h
  have hall := List.all_eq_true.1 h.2
  have := atom_of h0
  have e : a.args = (a.args.map fun t => t.name.data.toList).map fun w => argT (toB w) := by
    rw [List.map_map]
    conv => lhs; rw [← List.map_id a.args]
    refine List.map_congr_left fun t ht => ?_
    show t = argT (toB t.name.data.toList)
    rw [toB_of, term_arg (hall t ht)]
  rw [e, argsL_join]
  have := join_le (a.args.map fun t => t.name.data.toList) fun p hp => by
    obtain ⟨u, hu, rfl⟩ := List.mem_map.1 hp
    exact (term_no44 (hall u hu)).2.2
  rw [List.length_map] at this
  omega

theorem name_len {s : ByteArray} (h : nameOk s = true) : s.data.toList.length ≤ 8 ∧ 1 ≤ s.data.toList.length := by
  have hz : s.data.toList.length = s.size := Array.length_toList
  unfold nameOk at h
  simp only [Bool.and_eq_true, decide_eq_true_eq] at h
  omega

theorem putL_le37 {a : A} (h : atomOk a = true) : (putL a).length ≤ 37 := by
  have h1 := args_le h
  unfold atomOk at h
  simp only [Bool.and_eq_true] at h
  have h2 := name_len h.1.1
  unfold putL
  simp only [List.length_append, List.length_singleton]
  omega

theorem getI_putL {a : A} (h : atomOk a = true) : getI (putL a) = (a, true) := by
  have hl := putL_le37 h
  have hc : cut (putL a) [40] = (a.name.data.toList, argsL a.args ++ [41], true) := by
    have hn : (40 : UInt8) ∉ a.name.data.toList := by
      unfold atomOk at h
      simp only [Bool.and_eq_true] at h
      exact name_not h.1.1
    rcases cut_is (putL a) 40 with ⟨h1, _⟩ | ⟨x, y, h1, h2, h3⟩
    · exact absurd (by unfold putL; simp) h1
    · have e : a.name.data.toList ++ 40 :: (argsL a.args ++ [41]) = x ++ 40 :: y := by rw [← h1]; unfold putL; simp
      have hs1 := splitL_hit (argsL a.args ++ [41]) hn
      rw [e, splitL_hit y h2] at hs1
      injection hs1 with e1 _
      rw [h3]
      subst e1
      rw [List.append_cancel_left_eq] at e
      injection e with _ e
      rw [e]
  unfold getI
  rw [if_neg (by omega), hc]
  show (if true = true ∧ (argsL a.args ++ [41]).getLast? = some 41 then _ else _) = _
  rw [if_pos ⟨rfl, by simp⟩]
  show (if atomOk (atomOf a.name.data.toList (argsL a.args ++ [41]).dropLast) = true then _ else _) = _
  rw [List.dropLast_concat, atom_of h, if_pos h]

end Go.Proofs.YtjjfafgaphloaaaGreatDoor.D
