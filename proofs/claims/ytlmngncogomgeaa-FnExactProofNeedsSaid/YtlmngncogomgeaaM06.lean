/- Of the proof of FnExactProofNeeds: MapV. -/
import Derived.Test.YtlmngncogomgeaaProg
import Derived.Test.YtlmngncogomgeaaM02
namespace Go.Proofs.Ytlmngncogomgeaa
open Go.RowKit Go.ChangeMaps Go.MapKept D
set_option linter.unusedVariables false
/-- What the laws want of a key's type: a key is found just where it is. -/
structure D.KeyV (P : Program) (kt : TypeId) (W : World → Prop) (S : Value → Prop) : Prop where
  check : ∀ (w : World) (em : Bool) {v : Value}, S v → (Instr.checkKey em 10000 kt v).run P w = .ok () w
  find : ∀ {w : World}, W w → ∀ {k : Value}, S k → ∀ (es : List MapEntry), (∀ e ∈ es, S e.key) →
    ((Instr.findKey kt k es).run P w = .ok none w ∧ ∀ e ∈ es, e.key ≠ k) ∨ ∃ i e, (Instr.findKey kt k es).run P w = .ok (some (i, e.val)) w ∧ es[i]? = some e ∧ e.key = k
  same : ∀ {v : Value}, S v → Instr.sameBits 10000 v v = true

/-- Keys that are compared by asking, and that is sameness. -/
structure D.KeyA (P : Program) (kt : TypeId) (W : World → Prop) (S : Value → Prop) : Prop where
  now : ∃ d, P.underlying kt = some d ∧ ∀ a b, S a → S b → Instr.sameNow d a b = none
  eq : ∀ {w : World} {a b : Value}, W w → S a → S b → ∃ r : Bool, (Op.equal kt a b).run P w = .ok r w ∧ (r = true ↔ a = b)

/-- Block b is a map of these entries, each key once. -/
structure D.MapV (S : Value → Prop) (b : Nat) (L : List (Value × Value)) (w : World) : Prop where
  blk : ∃ es clock, w.heap[b]? = some (.map es clock) ∧ es.toList.map (fun e => (e.key, e.val)) = L
  keys : ∀ p ∈ L, S p.1
  once : L.Pairwise fun p q => p.1 ≠ q.1

section
variable {P : Program} {kt : TypeId} {W : World → Prop} {S : Value → Prop}
theorem findAsking_v (hK : KeyA P kt W S) {w : World} (hW : W w) {k : Value} (hk : S k) : ∀ (es : List MapEntry) (i0 : Nat), (∀ e ∈ es, S e.key) →
    ((Instr.findAsking kt k es i0).run P w = .ok none w ∧ ∀ e ∈ es, e.key ≠ k) ∨ ∃ i e, (Instr.findAsking kt k es i0).run P w = .ok (some (i0 + i, e.val)) w ∧ es[i]? = some e ∧ e.key = k
  | [], i0, _ => .inl ⟨rfl, fun e he => by simp at he⟩
  | e :: es, i0, hs => by
    obtain ⟨r, hr, hre⟩ := hK.eq hW hk (hs e (List.mem_cons_self ..))
    cases r with
    | true =>
      refine .inr ⟨0, e, ?_, rfl, (hre.1 rfl).symm⟩
      unfold Instr.findAsking
      simp [go_sem, hr]
    | false =>
      have hne : e.key ≠ k := fun h => by have := hre.2 h.symm; simp at this
      rcases findAsking_v hK hW hk es (i0 + 1) (fun x hx => hs x (List.mem_cons_of_mem _ hx)) with ⟨h1, h2⟩ | ⟨i, e', h1, h2, h3⟩
      · refine .inl ⟨?_, fun x hx => ?_⟩
        · unfold Instr.findAsking
          simp [go_sem, hr, h1]
        · rcases List.mem_cons.1 hx with rfl | hx
          · exact hne
          · exact h2 x hx
      · refine .inr ⟨i + 1, e', ?_, by simpa using h2, h3⟩
        have : i0 + 1 + i = i0 + (i + 1) := by omega
        rw [this] at h1
        unfold Instr.findAsking
        simp [go_sem, hr, h1]

theorem findKey_a (hK : KeyA P kt W S) {w : World} (hW : W w) {k : Value} (hk : S k) (es : List MapEntry) (hs : ∀ e ∈ es, S e.key) :
    ((Instr.findKey kt k es).run P w = .ok none w ∧ ∀ e ∈ es, e.key ≠ k) ∨ ∃ i e, (Instr.findKey kt k es).run P w = .ok (some (i, e.val)) w ∧ es[i]? = some e ∧ e.key = k := by
  obtain ⟨d, hd, hn⟩ := hK.now
  cases es with
  | nil => exact .inl ⟨by simp [Instr.findKey, Instr.findNow, run_underlying hd, Result.andThen], fun e he => by simp at he⟩
  | cons e es =>
    have h0 : Instr.findNow d k (e :: es) 0 = none := by
      unfold Instr.findNow
      rw [hn _ _ hk (hs e (List.mem_cons_self ..))]
    have hf : (Instr.findKey kt k (e :: es)).run P w = (Instr.findAsking kt k (e :: es)).run P w := by simp [Instr.findKey, run_underlying hd, h0, Result.andThen]
    rw [hf]
    rcases findAsking_v hK hW hk (e :: es) 0 hs with h | ⟨i, e', h1, h2, h3⟩
    · exact .inl h
    · exact .inr ⟨i, e', by simpa using h1, h2, h3⟩

theorem findKey_v (hK : KeyV P kt W S) {w : World} (hW : W w) {k : Value} (hk : S k) (es : List MapEntry) (hs : ∀ e ∈ es, S e.key) :
    ((Instr.findKey kt k es).run P w = .ok none w ∧ ∀ e ∈ es, e.key ≠ k) ∨ ∃ i e, (Instr.findKey kt k es).run P w = .ok (some (i, e.val)) w ∧ es[i]? = some e ∧ e.key = k := hK.find hW hk es hs

theorem D.once_at {L : List (Value × Value)} (h : L.Pairwise fun p q => p.1 ≠ q.1) {i j : Nat} {p q : Value × Value} (hi : L[i]? = some p) (hj : L[j]? = some q) (e : p.1 = q.1) : i = j := by
  obtain ⟨hi1, rfl⟩ := List.getElem?_eq_some_iff.1 hi
  obtain ⟨hj1, rfl⟩ := List.getElem?_eq_some_iff.1 hj
  rcases Nat.lt_trichotomy i j with h1 | h1 | h1
  · exact absurd e (List.pairwise_iff_getElem.1 h i j hi1 hj1 h1)
  · exact h1
  · exact absurd e.symm (List.pairwise_iff_getElem.1 h j i hj1 hi1 h1)

theorem D.MapV.same {b : Nat} {L : List (Value × Value)} {w w' : World} (h : MapV S b L w) (e : w'.heap[b]? = w.heap[b]?) : MapV S b L w' := by
  obtain ⟨⟨es, c, h1, h2⟩, h3, h4⟩ := h
  exact ⟨⟨es, c, e.trans h1, h2⟩, h3, h4⟩

theorem D.MapV.lt {b : Nat} {L : List (Value × Value)} {w : World} (h : MapV S b L w) : b < w.heap.size := by
  obtain ⟨⟨es, c, h1, h2⟩, h3, h4⟩ := h
  exact (Array.getElem?_eq_some_iff.1 h1).1

theorem D.MapV.setCell {b : Nat} {L : List (Value × Value)} {w : World} (h : MapV S b L w) {a : Addr} (ha : b ≠ a.block) (u : Value) : MapV S b L (w.setCell a u) :=
  h.same (Below.heap_setCell _ _ _ _ ha)

theorem D.MapV.made (w : World) : MapV S w.heap.size [] (w.alloc (.map #[] 0)) :=
  ⟨⟨#[], 0, (MapKept.heap_alloc w _).1, rfl⟩, fun p h => by simp at h, List.Pairwise.nil⟩

section
variable {ops : Array Oper} {rest : List Oper} {o : Oper} {a : Act} {Q : Exit → Act → World → Prop}
/-- 'm[k]' and 'v, ok := m[k]' at a key that is there. -/
theorem run_mapv_hit (hK : KeyV P kt W S) {w : World} (hW : W w) (c : Bool) {t e : TypeId} (ht : P.underlying t = some (.map kt e))
    {b : Nat} {L : List (Value × Value)} (h : MapV S b L w) {k v : Value} (hk : (k, v) ∈ L) : (Instr.lookup t (.map (some b)) k c).run P w = .ok (if c then .tuple #[v, .bool true] else v) w := by
  obtain ⟨⟨es, ck, hb, rfl⟩, h2, h3⟩ := h
  have hS : S k := h2 _ hk
  have hSs : ∀ e ∈ es.toList, S e.key := fun e he => h2 (e.key, e.val) (List.mem_map.2 ⟨e, he, rfl⟩)
  obtain ⟨e0, he0, hee⟩ := List.mem_map.1 hk
  simp only [Prod.mk.injEq] at hee
  rcases findKey_v hK hW hS es.toList hSs with ⟨h5, h6⟩ | ⟨i, e1, h5, h6, h7⟩
  · exact absurd hee.1 (h6 e0 he0)
  · obtain ⟨j, hj, ej⟩ := List.getElem_of_mem he0
    have hji : j = i := once_at h3 (p := (e0.key, e0.val)) (q := (e1.key, e1.val)) (by simp [List.getElem?_eq_getElem hj, ej]) (by simp [h6]) (by simp [hee.1, h7])
    have hev : e1.val = v := by
      rw [← hji, List.getElem?_eq_getElem hj, ej] at h6
      rw [← hee.2, Option.some.inj h6]
    simp [Instr.lookup, run_underlying ht, MapKept.run_getObj_map hb, hK.check w _ hS, h5, hev, Result.andThen]

theorem wpList_mapv_hit (hK : KeyV P kt W S) {w : World} (hW : W w) (c : Bool) (hg : o.guard = none) (m x : Operand) (t e : TypeId) (hop : o.op = Op.lookup t m x c) (ht : P.underlying t = some (.map kt e))
    (b : Nat) (L : List (Value × Value)) (hm : a.eval m = .map (some b)) (h : MapV S b L w) (k v : Value) (hx : a.eval x = k) (hk : (k, v) ∈ L)
    (hK' : wpList P ops Q rest (a.put o.dst (if c then .tuple #[v, .bool true] else v)) w) : wpList P ops Q (o :: rest) a w := by
  refine wpList_plain hg fun K hKK => ?_
  have hrun := run_mapv_hit hK hW c ht h hk
  unfold Oper.wp
  simp [execOp, hop, hm, hx, hrun, Result.andThen]
  exact hKK _ _ hK'

/-- .. at a key that is not there. -/
theorem wpList_mapv_miss (hK : KeyV P kt W S) {w : World} (hW : W w) (c : Bool) (hg : o.guard = none) (m x : Operand) (t e : TypeId) (hop : o.op = Op.lookup t m x c) (ht : P.underlying t = some (.map kt e))
    (b : Nat) (L : List (Value × Value)) (hm : a.eval m = .map (some b)) (h : MapV S b L w) (k z : Value) (hz : (zeroValue e).run P w = .ok z w) (hx : a.eval x = k) (hS : S k) (hk : ∀ p ∈ L, p.1 ≠ k)
    (hK' : wpList P ops Q rest (a.put o.dst (if c then .tuple #[z, .bool false] else z)) w) : wpList P ops Q (o :: rest) a w := by
  obtain ⟨⟨es, ck, hb, rfl⟩, h2, h3⟩ := h
  refine wpList_plain hg fun K hKK => ?_
  have hSs : ∀ e ∈ es.toList, S e.key := fun e he => h2 (e.key, e.val) (List.mem_map.2 ⟨e, he, rfl⟩)
  rcases findKey_v hK hW hS es.toList hSs with ⟨h5, h6⟩ | ⟨i, e1, h5, h6, h7⟩
  · have hrun : (Instr.lookup t (.map (some b)) k c).run P w = .ok (if c then .tuple #[z, .bool false] else z) w := by
      simp [Instr.lookup, run_underlying ht, MapKept.run_getObj_map hb, hK.check w _ hS, h5, hz, Result.andThen]
    unfold Oper.wp
    simp [execOp, hop, hm, hx, hrun, Result.andThen]
    exact hKK _ _ hK'
  · exact absurd h7 (hk (e1.key, e1.val) (List.mem_map.2 ⟨e1, List.mem_of_getElem? h6, rfl⟩))

theorem D.grown_setBlock {w : World} {b : Nat} {es : Array MapEntry} {c : Nat} (hb : w.heap[b]? = some (.map es c)) (o : Obj) : w.grownBy (setBlock w b o) (some b) :=
  ⟨rfl, rfl, rfl, by simp [setBlock], fun i _ hi => heap_setBlock_other hb _ (fun e => hi (by rw [e]))⟩

/-- 'm[k] = v' at a key that is not there. -/
theorem wpList_mapv_new (hK : KeyV P kt W S) {w : World} (hW : W w) (hg : o.guard = none) (m x y : Operand) (t e : TypeId) (hop : o.op = Op.mapUpdate t m x y) (ht : P.underlying t = some (.map kt e))
    (b : Nat) (L : List (Value × Value)) (hm : a.eval m = .map (some b)) (h : MapV S b L w) (k v : Value) (hx : a.eval x = k) (hy : a.eval y = v) (hS : S k) (hk : ∀ p ∈ L, p.1 ≠ k)
    (hK' : ∀ w', MapV S b (L ++ [(k, v)]) w' → w.grownBy w' (some b) → wpList P ops Q rest (a.put o.dst undef) w') : wpList P ops Q (o :: rest) a w := by
  obtain ⟨⟨es, ck, hb, rfl⟩, h2, h3⟩ := h
  refine wpList_plain hg fun K hKK => ?_
  have hSs : ∀ e ∈ es.toList, S e.key := fun e he => h2 (e.key, e.val) (List.mem_map.2 ⟨e, he, rfl⟩)
  rcases findKey_v hK hW hS es.toList hSs with ⟨h5, h6⟩ | ⟨i, e1, h5, h6, h7⟩
  · have hrun : (Instr.mapUpdate t (.map (some b)) k v).run P w = .ok () (setBlock w b (.map (es.push ⟨k, v, ck⟩) (ck + 1))) := by
      simp [Instr.mapUpdate, run_underlying ht, MapKept.run_getObj_map hb, hK.check w false hS, h5, MapKept.run_setObj_map _ hb, Result.andThen, setBlock]
    unfold Oper.wp
    simp [execOp, hop, hm, hx, hy, hrun, Result.andThen]
    refine hKK _ _ (hK' _ ⟨⟨_, _, heap_setBlock_same hb _, by simp⟩, ?_, ?_⟩ (grown_setBlock hb _))
    · intro p hp
      rcases List.mem_append.1 hp with hp | hp
      · exact h2 p hp
      · rw [List.mem_singleton.1 hp]
        exact hS
    · refine List.pairwise_append.2 ⟨h3, List.pairwise_singleton _ _, fun p hp q hq => ?_⟩
      rw [List.mem_singleton.1 hq]
      exact hk p hp
  · exact absurd h7 (hk (e1.key, e1.val) (List.mem_map.2 ⟨e1, List.mem_of_getElem? h6, rfl⟩))

theorem D.split_at {α : Type} {A B : List α} {p : α} : (A ++ p :: B)[A.length]? = some p := by simp

/-- 'm[k] = v' at a key that is there. -/
theorem run_mapv_put (hK : KeyV P kt W S) {w : World} (hW : W w) {t e : TypeId} (ht : P.underlying t = some (.map kt e))
    {b : Nat} {A B : List (Value × Value)} {k u : Value} (v : Value) (h : MapV S b (A ++ (k, u) :: B) w) : ∃ w', (Instr.mapUpdate t (.map (some b)) k v).run P w = .ok () w' ∧ MapV S b (A ++ (k, v) :: B) w' ∧ w.grownBy w' (some b) := by
  obtain ⟨⟨es, ck, hb, hL⟩, h2, h3⟩ := h
  have hS : S k := h2 (k, u) (by simp)
  have hSs : ∀ e ∈ es.toList, S e.key := fun e he => h2 (e.key, e.val) (hL ▸ List.mem_map.2 ⟨e, he, rfl⟩)
  rcases findKey_v hK hW hS es.toList hSs with ⟨h5, h6⟩ | ⟨i, e1, h5, h6, h7⟩
  · have : (k, u) ∈ es.toList.map (fun e => (e.key, e.val)) := by rw [hL]; simp
    obtain ⟨e0, he0, hee⟩ := List.mem_map.1 this
    simp only [Prod.mk.injEq] at hee
    exact absurd hee.1 (h6 e0 he0)
  · have hi1 : (A ++ (k, u) :: B)[i]? = some (e1.key, e1.val) := by rw [← hL]; simp [h6]
    have hiA : i = A.length := once_at h3 hi1 split_at (by simp [h7])
    subst hiA
    have hj : es[A.length]? = some e1 := by simpa using h6
    have hst : ∀ w, (Instr.keyThatStays e1.key k).run P w = .ok k w := fun w => by simp [Instr.keyThatStays, h7, hK.same hS]
    have hrun : (Instr.mapUpdate t (.map (some b)) k v).run P w = .ok () (setBlock w b (.map (es.modify A.length fun e => { e with key := k, val := v }) ck)) := by
      have hst' := hst w
      rw [h7] at hst'
      simp [Instr.mapUpdate, run_underlying ht, MapKept.run_getObj_map hb, hK.check w false hS, h5, hj, h7, hst', MapKept.run_setObj_map _ hb, Result.andThen, setBlock]
    have hlist : ((es.modify A.length (fun e => { e with key := k, val := v })).toList.map fun e => (e.key, e.val)) = A ++ (k, v) :: B := by
      rw [Array.toList_modify, ChangeMaps.modify_eq_set _ _ _ _ h6, List.map_set, hL]
      simp
    refine ⟨_, hrun, ⟨⟨_, _, heap_setBlock_same hb _, hlist⟩, ?_, ?_⟩, grown_setBlock hb _⟩
    · intro p hp
      rcases List.mem_append.1 hp with hp | hp
      · exact h2 p (by simp [hp])
      · rcases List.mem_cons.1 hp with rfl | hp
        · exact hS
        · exact h2 p (by simp [hp])
    · have := List.pairwise_append.1 h3
      have h9 := List.pairwise_cons.1 this.2.1
      refine List.pairwise_append.2 ⟨this.1, List.pairwise_cons.2 ⟨fun q hq => h9.1 q hq, h9.2⟩, fun p hp q hq => ?_⟩
      rcases List.mem_cons.1 hq with rfl | hq
      · exact this.2.2 p hp (k, u) (by simp)
      · exact this.2.2 p hp q (by simp [hq])

/-- 'delete(m, k)' at a key that is there. -/
theorem run_mapv_del (hK : KeyV P kt W S) {w : World} (hW : W w) {t e : TypeId} (ht : P.underlying t = some (.map kt e)) (ty : TypeId)
    {b : Nat} {A B : List (Value × Value)} {k u : Value} (h : MapV S b (A ++ (k, u) :: B) w) : ∃ w', (Builtin.delete_ #[t, kt] ty #[.map (some b), k]).run P w = .ok (.tuple #[]) w' ∧ MapV S b (A ++ B) w' ∧ w.grownBy w' (some b) := by
  obtain ⟨⟨es, ck, hb, hL⟩, h2, h3⟩ := h
  have hS : S k := h2 (k, u) (by simp)
  have hSs : ∀ e ∈ es.toList, S e.key := fun e he => h2 (e.key, e.val) (hL ▸ List.mem_map.2 ⟨e, he, rfl⟩)
  rcases findKey_v hK hW hS es.toList hSs with ⟨h5, h6⟩ | ⟨i, e1, h5, h6, h7⟩
  · have : (k, u) ∈ es.toList.map (fun e => (e.key, e.val)) := by rw [hL]; simp
    obtain ⟨e0, he0, hee⟩ := List.mem_map.1 this
    simp only [Prod.mk.injEq] at hee
    exact absurd hee.1 (h6 e0 he0)
  · have hi1 : (A ++ (k, u) :: B)[i]? = some (e1.key, e1.val) := by rw [← hL]; simp [h6]
    have hiA : i = A.length := once_at h3 hi1 split_at (by simp [h7])
    subst hiA
    have hrun : (Builtin.delete_ #[t, kt] ty #[.map (some b), k]).run P w = .ok (.tuple #[]) (setBlock w b (.map (es.eraseIdxIfInBounds A.length) ck)) := by
      simp [Builtin.delete_, run_underlying ht, MapKept.run_getObj_map hb, hK.check w _ hS, h5, MapKept.run_setObj_map _ hb, Result.andThen, setBlock]
    have hjs : A.length < es.size := by simpa using (List.getElem?_eq_some_iff.1 h6).1
    have hlist : ((es.eraseIdxIfInBounds A.length).toList.map fun e => (e.key, e.val)) = A ++ B := by
      have hsub : (es.eraseIdxIfInBounds A.length).toList = es.toList.eraseIdx A.length := by
        unfold Array.eraseIdxIfInBounds
        rw [dif_pos hjs]
        simp
      rw [hsub, ChangeMaps.map_eraseIdx, hL, List.eraseIdx_append_of_length_le (Nat.le_refl _)]
      simp
    refine ⟨_, hrun, ⟨⟨_, _, heap_setBlock_same hb _, hlist⟩, ?_, ?_⟩, grown_setBlock hb _⟩
    · intro p hp
      rcases List.mem_append.1 hp with hp | hp
      · exact h2 p (by simp [hp])
      · exact h2 p (by simp [hp])
    · have := List.pairwise_append.1 h3
      have h9 := List.pairwise_cons.1 this.2.1
      exact List.pairwise_append.2 ⟨this.1, h9.2, fun p hp q hq => this.2.2 p hp q (by simp [hq])⟩

end
end
theorem D.run_equalIn_ptr {P : Program} {kt e : TypeId} {i : TypeInfo} (hk : P.underlying kt = some (.pointer e)) (hi : P.info? e = some i) (hz : i.size ≠ 0) {w : World} {a b : Addr} {ca cb : Array Value} {ta tb : TypeId}
    (h1 : w.heap[a.block]? = some (.cells ca ta (0, 0))) (h2 : w.heap[b.block]? = some (.cells cb tb (0, 0))) (d : Nat) : (Op.equalIn (d + 1) kt (.pointer (some a)) (.pointer (some b))).run P w = .ok (decide (a = b)) w := by
  by_cases hab : a = b
  · subst hab
    simp [Op.equalIn, run_underlying hk, typeInfo, hi, sizeOf, run_sameAddr_same]
  · simp [Op.equalIn, run_underlying hk, typeInfo, hi, sizeOf, run_sameAddr_other w hab h1 h2, hz, hab]

/-- Keys that are pointers into these blocks. -/
theorem D.keyV_ptr {P : Program} {kt e : TypeId} {i : TypeInfo} (hk : P.underlying kt = some (.pointer e)) (hi : P.info? e = some i) (hz : i.size ≠ 0) (bs : List Nat) :
    KeyV P kt (fun w => ∀ b ∈ bs, ∃ cs t, w.heap[b]? = some (.cells cs t (0, 0))) (fun v => ∃ a : Addr, v = .pointer (some a) ∧ a.block ∈ bs) := by
  have hA : KeyA P kt (fun w => ∀ b ∈ bs, ∃ cs t, w.heap[b]? = some (.cells cs t (0, 0))) (fun v => ∃ a : Addr, v = .pointer (some a) ∧ a.block ∈ bs) := by
    refine ⟨⟨_, hk, ?_⟩, ?_⟩
    · rintro a b ⟨a, rfl, _⟩ ⟨b, rfl, _⟩
      rfl
    · rintro w a b hW ⟨a, rfl, ha⟩ ⟨b, rfl, hb⟩
      refine ⟨decide (a = b), ?_, by simp⟩
      obtain ⟨ca, ta, h1⟩ := hW _ ha
      obtain ⟨cb, tb, h2⟩ := hW _ hb
      exact run_equalIn_ptr hk hi hz h1 h2 9999
  refine ⟨?_, fun hW k hk es hs => findKey_a hA hW hk es hs, ?_⟩
  · rintro w em v ⟨a, rfl, _⟩
    unfold Instr.checkKey
    simp [run_underlying hk, Result.andThen]
  · rintro v ⟨a, rfl, _⟩
    simp [Instr.sameBits]

end Go.Proofs.Ytlmngncogomgeaa
