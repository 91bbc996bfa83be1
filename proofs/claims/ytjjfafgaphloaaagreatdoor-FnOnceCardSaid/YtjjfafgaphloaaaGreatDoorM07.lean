/- Of the proof of FnOnce: SortP, MapE, ProgP, AGetP, AllP. -/
import Derived.Lib.SlicesCompact
import Derived.Sort.KeysCollected
import Derived.Test.YtjjfafgaphloaaaGreatDoorM04
import Derived.WideKeyEntry
import Derived.Test.YtjjfafgaphloaaaGreatDoorM03
namespace Go.Proofs.YtjjfafgaphloaaaGreatDoor.D
open Go.RowKit
set_option linter.unusedVariables false
theorem ltU_iff : ∀ (l m : List UInt8), l < m ↔ lexL cmpU l m < 0
  | [], [] => by simp [lexL]
  | [], b :: m => by simp [lexL]
  | a :: l, [] => by simp [lexL]
  | a :: l, b :: m => by
    have e : lexL cmpU (a :: l) (b :: m) = if cmpU a b = 0 then lexL cmpU l m else cmpU a b := rfl
    rw [List.cons_lt_cons_iff, ltU_iff l m, e]
    by_cases h : a = b
    · subst h
      have h0 : cmpU a a = 0 := cmpU_is.refl a
      rw [if_pos h0]
      simp
    · have hn : ¬ cmpU a b = 0 := fun e => h ((cmpU_is.eq a b).1 e)
      rw [if_neg hn]
      have h1 : a < b ↔ cmpU a b < 0 := by
        unfold cmpU
        by_cases hab : a < b
        · simp [hab]
        · rw [if_neg hab]
          constructor
          · exact fun h2 => absurd h2 hab
          · intro h2; split at h2 <;> omega
      rw [h1]
      constructor
      · rintro (h2 | ⟨h2, _⟩)
        · exact h2
        · exact absurd h2 h
      · exact .inl

theorem leB_le {x y : List UInt8} : leB x y = true ↔ x ≤ y := by simp [leB]

theorem sorted_sort (ss : List (List UInt8)) : (ss.mergeSort leB).Pairwise (fun a b => a ≤ b) := by
  have tr : ∀ a b c : List UInt8, leB a b = true → leB b c = true → leB a c = true := fun a b c h1 h2 => by simp only [leB, decide_eq_true_eq] at *; exact List.le_trans h1 h2
  have to : ∀ a b : List UInt8, (leB a b || leB b a) = true := fun a b => by simp only [leB, Bool.or_eq_true, decide_eq_true_eq]; exact List.le_total a b
  exact (List.pairwise_mergeSort tr to ss).imp fun h => leB_le.1 h

/-- The list sorted, of equal neighbours one: ascending. -/
theorem compact_asc {s : List (List UInt8)} (h : s.Pairwise (fun a b => a ≤ b)) : (Lib.compact s).Pairwise (fun a b => a < b) := by
  unfold Lib.compact Lib.compactUpTo
  have hat : ∀ i, i < s.length → s.toArray[i]! = s[i]! := fun i hi => by simp
  refine List.pairwise_map.2 ?_
  refine ((List.pairwise_lt_range (n := s.length)).filter _).imp_of_mem ?_
  intro i j hi hj hij
  have hj' := List.mem_filter.1 hj
  have hjl : j < s.length := List.mem_range.1 hj'.1
  have hk : j = 0 ∨ s.toArray[j]! ≠ s.toArray[j - 1]! := by simpa [Lib.keeps] using hj'.2
  have hne : s.toArray[j]! ≠ s.toArray[j - 1]! := hk.resolve_left (by omega)
  have hw := List.pairwise_iff_getElem.1 h
  have e1 : s.toArray[i]! = s[i]'(by omega) := by rw [getElem!_pos _ _ (by simp; omega)]; simp
  have e2 : s.toArray[j]! = s[j]'hjl := by rw [getElem!_pos _ _ (by simp; omega)]; simp
  have e3 : s.toArray[j - 1]! = s[j - 1]'(by omega) := by rw [getElem!_pos _ _ (by simp; omega)]; simp
  rw [e1, e2]
  rw [e2, e3] at hne
  have h1 : s[i]'(by omega) ≤ s[j - 1]'(by omega) := by
    by_cases e : i = j - 1
    · subst e; exact List.le_refl _
    · exact hw i (j - 1) (by omega) (by omega) (by omega)
  have h2 : s[j - 1]'(by omega) ≤ s[j]'hjl := hw (j - 1) j (by omega) hjl (by omega)
  have h3 : s[i]'(by omega) ≤ s[j]'hjl := List.le_trans h1 h2
  rw [← List.not_le]
  intro h4
  exact hne (List.le_antisymm (List.le_trans h4 h1) h2)

theorem compact_mem (s : List (List UInt8)) (x : List UInt8) : x ∈ Lib.compact s ↔ x ∈ s := by
  unfold Lib.compact Lib.compactUpTo
  constructor
  · intro h
    obtain ⟨j, hj, rfl⟩ := List.mem_map.1 h
    have hjl : j < s.length := List.mem_range.1 (List.mem_filter.1 hj).1
    rw [getElem!_pos _ _ (by simpa using hjl)]
    simp
  · intro h
    obtain ⟨j, hj, rfl⟩ := List.mem_iff_getElem.1 h
    have key : ∀ (j : Nat) (hj : j < s.length), ∃ i ∈ (List.range s.length).filter (Lib.keeps s.toArray), s.toArray[i]! = s.toArray[j]! := by
      intro j
      induction j with
      | zero => intro hj; exact ⟨0, List.mem_filter.2 ⟨List.mem_range.2 hj, by simp [Lib.keeps]⟩, rfl⟩
      | succ j ih =>
        intro hj
        by_cases e : s.toArray[j + 1]! = s.toArray[j]!
        · obtain ⟨i, hi, he⟩ := ih (by omega)
          exact ⟨i, hi, by rw [he, e]⟩
        · exact ⟨j + 1, List.mem_filter.2 ⟨List.mem_range.2 hj, by simp only [Lib.keeps, decide_eq_true_eq]; exact .inr e⟩, rfl⟩
    obtain ⟨i, hi, he⟩ := key j hj
    refine List.mem_map.2 ⟨i, hi, ?_⟩
    rw [he, getElem!_pos _ _ (by simpa using hj)]
    simp

theorem compact_le (s : List (List UInt8)) : (Lib.compact s).length ≤ s.length := by
  unfold Lib.compact Lib.compactUpTo
  rw [List.length_map]
  exact Nat.le_trans (List.length_filter_le _ _) (by simp)

theorem bytes_inj {a b : ByteArray} (h : a.data.toList = b.data.toList) : a = b := by
  cases a; cases b; simp at h; rw [h]

/-- Two ascending lists of the same members are one. -/
theorem asc_one {xs ys : List (List UInt8)} (hx : xs.Pairwise (fun a b => a < b)) (hy : ys.Pairwise (fun a b => a < b)) (hm : ∀ x, x ∈ xs ↔ x ∈ ys) : xs = ys := by
  have n1 : xs.Nodup := hx.imp fun {a b} h e => by subst e; exact List.lt_irrefl _ h
  have n2 : ys.Nodup := hy.imp fun {a b} h e => by subst e; exact List.lt_irrefl _ h
  refine List.Perm.eq_of_pairwise (le := fun a b => a < b) (fun a b _ _ h1 h2 => absurd (List.lt_trans h1 h2) (List.lt_irrefl _)) hx hy ((List.perm_ext_iff_of_nodup n1 n2).2 hm)

theorem compact_sorted {ss : List (List UInt8)} {xs : List ByteArray} (hx : ascS xs) (hm : ∀ b, b ∈ ss ↔ ∃ x ∈ xs, x.data.toList = b) : Lib.compact (ss.mergeSort fun x y => decide (x ≤ y)) = xs.map (·.data.toList) := by
  refine asc_one (compact_asc (sorted_sort ss)) ?_ ?_
  · exact List.pairwise_map.2 (hx.imp fun {a b} h => (ltU_iff _ _).2 h)
  · intro b
    rw [compact_mem, (List.mergeSort_perm ss leB).mem_iff, hm]
    simp

/-- The names of the variables, as they come. -/
def namesTs (ts : List T) : List ByteArray := (ts.filter (·.var)).map (·.name)

def namesPs (ps : List Pt) : List ByteArray := ps.flatMap fun p => namesTs p.atom.args

theorem namesTs_snoc (ts : List T) (k : Nat) (h : k < ts.length) : namesTs (ts.take (k + 1)) = namesTs (ts.take k) ++ (if ts[k].var then [ts[k].name] else []) := by
  unfold namesTs
  rw [List.take_succ_eq_append_getElem h, List.filter_append, List.map_append]
  congr 1
  cases hv : ts[k].var <;> simp [hv]

theorem namesPs_snoc (ps : List Pt) (k : Nat) (h : k < ps.length) : namesPs (ps.take (k + 1)) = namesPs (ps.take k) ++ namesTs ps[k].atom.args := by
  unfold namesPs
  rw [List.take_succ_eq_append_getElem h, List.flatMap_append]
  simp

theorem namesTs_mem (ts : List T) (x : ByteArray) : x ∈ namesTs ts ↔ varIn x ts := by
  unfold namesTs varIn
  simp only [List.mem_map, List.mem_filter]
  constructor
  · rintro ⟨t, ⟨h1, h2⟩, h3⟩; exact ⟨t, h1, h2, h3⟩
  · rintro ⟨t, h1, h2, h3⟩; exact ⟨t, ⟨h1, h2⟩, h3⟩

theorem namesPs_mem (ps : List Pt) (x : ByteArray) : x ∈ namesPs ps ↔ ∃ p ∈ ps, varIn x p.atom.args := by
  unfold namesPs
  simp only [List.mem_flatMap, namesTs_mem]

theorem namesTs_len (ts : List T) : (namesTs ts).length ≤ ts.length := by
  unfold namesTs; rw [List.length_map]; exact List.length_filter_le _ _

theorem namesPs_len : ∀ (ps : List Pt), (namesPs ps).length ≤ sumL (fun p => p.atom.args.length) ps
  | [] => by simp [namesPs]
  | p :: ps => by
    have h1 := namesPs_len ps
    have h2 := namesTs_len p.atom.args
    simp only [namesPs, sumL, List.flatMap_cons, List.length_append, List.map_cons, List.sum_cons] at *
    omega

theorem sorted_names (ps : List Pt) : Lib.compact (((namesPs ps).map (·.data.toList)).mergeSort fun x y => decide (x ≤ y)) = (bodyVars ps).map (·.data.toList) := by
  refine compact_sorted (varsPs_asc ps ascS_nil) fun b => ?_
  simp only [List.mem_map, namesPs_mem]
  constructor
  · rintro ⟨x, h, rfl⟩; exact ⟨x, (varsPs_mem ps [] x).2 (.inr h), rfl⟩
  · rintro ⟨x, h, rfl⟩
    refine ⟨x, ?_, rfl⟩
    rcases (varsPs_mem ps [] x).1 h with h | h
    · simp at h
    · exact h

end Go.Proofs.YtjjfafgaphloaaaGreatDoor.D
namespace Go.Proofs.YtjjfafgaphloaaaGreatDoor
open Go.RowKit Go.ChangeMaps Go.MapKept D
set_option linter.unusedVariables false
/-- Block b is a map of these entries (key, value, stamp), each key once, and what is to be the next stamp. -/
structure D.MapE (S : Value → Prop) (b : Nat) (L : List (Value × Value × Nat)) (c : Nat) (w : World) : Prop where
  blk : ∃ es, w.heap[b]? = some (.map es c) ∧ es.toList.map (fun e => (e.key, e.val, e.born)) = L
  keys : ∀ p ∈ L, S p.1
  once : L.Pairwise fun p q => p.1 ≠ q.1
  nums : (L.map fun p => p.2.2).Nodup
  less : ∀ p ∈ L, p.2.2 < c

section
variable {P : Program} {kt : TypeId} {W : World → Prop} {S : Value → Prop}
theorem D.MapE.same {b c : Nat} {L : List (Value × Value × Nat)} {w w' : World} (h : MapE S b L c w) (e : w'.heap[b]? = w.heap[b]?) : MapE S b L c w' := by
  obtain ⟨⟨es, h1, h2⟩, h3, h4, h5, h6⟩ := h
  exact ⟨⟨es, e.trans h1, h2⟩, h3, h4, h5, h6⟩

theorem D.MapE.lt {b c : Nat} {L : List (Value × Value × Nat)} {w : World} (h : MapE S b L c w) : b < w.heap.size := by
  obtain ⟨⟨es, h1, h2⟩, h3, h4, h5, h6⟩ := h
  exact (Array.getElem?_eq_some_iff.1 h1).1

theorem D.MapE.mapV {b c : Nat} {L : List (Value × Value × Nat)} {w : World} (h : MapE S b L c w) : MapV S b (L.map fun p => (p.1, p.2.1)) w := by
  obtain ⟨⟨es, h1, h2⟩, h3, h4, h5, h6⟩ := h
  refine ⟨⟨es, c, h1, ?_⟩, ?_, ?_⟩
  · rw [← h2, List.map_map]; rfl
  · intro p hp
    obtain ⟨q, hq, rfl⟩ := List.mem_map.1 hp
    exact h3 q hq
  · exact List.pairwise_map.2 h4

theorem D.MapE.made (w : World) : MapE S w.heap.size [] 0 (w.alloc (.map #[] 0)) :=
  ⟨⟨#[], (MapKept.heap_alloc w _).1, rfl⟩, fun p h => by simp at h, List.Pairwise.nil, List.nodup_nil, fun p h => by simp at h⟩

theorem D.split_ate {α : Type} {A B : List α} {p : α} : (A ++ p :: B)[A.length]? = some p := by simp

/-- The entry at a key that is not there: a new one. -/
theorem run_mape_new (hK : KeyV P kt W S) {w : World} (hW : W w) {t e : TypeId} (ht : P.underlying t = some (.map kt e)) {b c : Nat} {L : List (Value × Value × Nat)} {k z : Value} (h : MapE S b L c w)
    (hz : (zeroValue e).run P w = .ok z w) (hS : S k) (hk : ∀ p ∈ L, p.1 ≠ k) :
    ∃ w', (Instr.mapEntry t (.map (some b)) k).run P w = .ok (.tuple #[z, goInt c]) w' ∧ MapE S b (L ++ [(k, z, c)]) (c + 1) w' ∧ w.grownBy w' (some b) := by
  obtain ⟨⟨es, hb, rfl⟩, h2, h3, h4, h5⟩ := h
  have hSs : ∀ e ∈ es.toList, S e.key := fun e he => h2 (e.key, e.val, e.born) (List.mem_map.2 ⟨e, he, rfl⟩)
  rcases findKey_v hK hW hS es.toList hSs with ⟨h6, h7⟩ | ⟨i, e1, h6, h7, h8⟩
  · refine ⟨setBlock w b (.map (es.push ⟨k, z, c⟩) (c + 1)), ?_, ⟨⟨_, heap_setBlock_same hb _, by simp⟩, ?_, ?_, ?_, ?_⟩, grown_setBlock hb _⟩
    · simp [Instr.mapEntry, run_underlying ht, MapKept.run_getObj_map hb, hK.check w false hS, h6, hz, MapKept.run_setObj_map _ hb, Result.andThen, setBlock]
    · intro p hp
      rcases List.mem_append.1 hp with hp | hp
      · exact h2 p hp
      · rw [List.mem_singleton.1 hp]; exact hS
    · refine List.pairwise_append.2 ⟨h3, List.pairwise_singleton _ _, fun p hp q hq => ?_⟩
      rw [List.mem_singleton.1 hq]
      exact hk p hp
    · rw [List.map_append]
      refine List.nodup_append.2 ⟨h4, by simp, fun x hx y hy => ?_⟩
      obtain ⟨p, hp, rfl⟩ := List.mem_map.1 hx
      have := h5 p hp
      simp at hy
      omega
    · intro p hp
      rcases List.mem_append.1 hp with hp | hp
      · exact Nat.lt_succ_of_lt (h5 p hp)
      · rw [List.mem_singleton.1 hp]; exact Nat.lt_succ_self _
  · exact absurd h8 (hk (e1.key, e1.val, e1.born) (List.mem_map.2 ⟨e1, List.mem_of_getElem? h7, rfl⟩))

/-- The entry at a key that is there. -/
theorem run_mape_old (hK : KeyV P kt W S) {w : World} (hW : W w) {t e : TypeId} (ht : P.underlying t = some (.map kt e)) {b c n : Nat} {A B : List (Value × Value × Nat)} {k u : Value} (h : MapE S b (A ++ (k, u, n) :: B) c w) :
    ∃ w', (Instr.mapEntry t (.map (some b)) k).run P w = .ok (.tuple #[u, goInt n]) w' ∧ MapE S b (A ++ (k, u, n) :: B) c w' ∧ w.grownBy w' (some b) := by
  obtain ⟨⟨es, hb, hL⟩, h2, h3, h4, h5⟩ := h
  have hS : S k := h2 (k, u, n) (by simp)
  have hSs : ∀ e ∈ es.toList, S e.key := fun e he => h2 (e.key, e.val, e.born) (hL ▸ List.mem_map.2 ⟨e, he, rfl⟩)
  rcases findKey_v hK hW hS es.toList hSs with ⟨h6, h7⟩ | ⟨i, e1, h6, h7, h8⟩
  · have : (k, u, n) ∈ es.toList.map (fun e => (e.key, e.val, e.born)) := by rw [hL]; simp
    obtain ⟨e0, he0, hee⟩ := List.mem_map.1 this
    simp only [Prod.mk.injEq] at hee
    exact absurd hee.1 (h7 e0 he0)
  · have hi1 : (A ++ (k, u, n) :: B)[i]? = some (e1.key, e1.val, e1.born) := by rw [← hL]; simp [h7]
    have hiA : i = A.length := by
      obtain ⟨hi2, hi3⟩ := List.getElem?_eq_some_iff.1 hi1
      rcases Nat.lt_trichotomy i A.length with hh | hh | hh
      · exact absurd (by rw [hi3]; simp [h8]) (List.pairwise_iff_getElem.1 h3 i A.length hi2 (by simp) hh)
      · exact hh
      · exact absurd (by rw [hi3]; simp [h8]) (List.pairwise_iff_getElem.1 h3 A.length i (by simp) hi2 hh)
    subst hiA
    rw [split_ate] at hi1
    simp only [Option.some.injEq, Prod.mk.injEq] at hi1
    obtain ⟨g1, g2, g3⟩ := hi1
    have hj : es[A.length]? = some e1 := by simpa using h7
    have hst : (Instr.keyThatStays k k).run P w = .ok k w := by simp [Instr.keyThatStays, hK.same hS]
    have hsame : es.modify A.length (fun e => { e with key := k }) = es := by
      apply Array.ext'
      rw [Array.toList_modify, modify_eq_set _ _ _ _ h7]
      have : ({ e1 with key := k } : MapEntry) = e1 := by rw [← h8]
      rw [this]
      exact WideElems.set_self _ _ _ h7
    refine ⟨setBlock w b (.map es c), ?_, ⟨⟨_, heap_setBlock_same hb _, hL⟩, h2, h3, h4, h5⟩, grown_setBlock hb _⟩
    simp [Instr.mapEntry, run_underlying ht, MapKept.run_getObj_map hb, hK.check w false hS, h6, hj, h8, hst, hsame, g2, g3, MapKept.run_setObj_map _ hb, Result.andThen, setBlock]

/-- The store behind. -/
theorem run_mape_store {w : World} {t : TypeId} {b c n : Nat} {A B : List (Value × Value × Nat)} {k u : Value} (v : Value) (h : MapE S b (A ++ (k, u, n) :: B) c w) :
    ∃ w', (Instr.entryStore t (.map (some b)) (goInt n) v).run P w = .ok () w' ∧ MapE S b (A ++ (k, v, n) :: B) c w' ∧ w.grownBy w' (some b) := by
  obtain ⟨⟨es, hb, hL⟩, h2, h3, h4, h5⟩ := h
  obtain ⟨e1, he1, g⟩ : ∃ e1, es.toList[A.length]? = some e1 ∧ (e1.key, e1.val, e1.born) = (k, u, n) := by
    have : (es.toList.map fun e => (e.key, e.val, e.born))[A.length]? = some (k, u, n) := by rw [hL]; exact split_ate
    rw [List.getElem?_map] at this
    exact Option.map_eq_some_iff.1 this
  simp only [Prod.mk.injEq] at g
  obtain ⟨g1, g2, g3⟩ := g
  have hnd : (es.toList.map (·.born)).Nodup := by
    have e0 : es.toList.map (·.born) = (es.toList.map fun e => (e.key, e.val, e.born)).map fun p => p.2.2 := by rw [List.map_map]; rfl
    rw [e0, hL]
    exact h4
  have hidx : es.findIdx? (fun e => ((e.born : Nat) : Int) == ((n : Nat) : Int)) = some A.length := by
    rw [WideElems.findIdx_arr, ← g3]
    exact WideElems.findIdx_born hnd he1
  have hlist : ((es.modify A.length (fun e => { e with val := v })).toList.map fun e => (e.key, e.val, e.born)) = A ++ (k, v, n) :: B := by
    rw [Array.toList_modify, modify_eq_set _ _ _ _ he1, List.map_set, hL, g1, g3]
    simp
  refine ⟨setBlock w b (.map (es.modify A.length fun e => { e with val := v }) c), ?_, ⟨⟨_, heap_setBlock_same hb _, hlist⟩, ?_, ?_, ?_, ?_⟩, grown_setBlock hb _⟩
  · simp [Instr.entryStore, MapKept.run_getObj_map hb, asInt, asIntOf, goInt, hidx, MapKept.run_setObj_map _ hb, Result.andThen, setBlock]
  · intro p hp
    rcases List.mem_append.1 hp with hp | hp
    · exact h2 p (by simp [hp])
    · rcases List.mem_cons.1 hp with rfl | hp
      · exact h2 (k, u, n) (by simp)
      · exact h2 p (by simp [hp])
  · have := List.pairwise_append.1 h3
    have h9 := List.pairwise_cons.1 this.2.1
    refine List.pairwise_append.2 ⟨this.1, List.pairwise_cons.2 ⟨fun q hq => h9.1 q hq, h9.2⟩, fun p hp q hq => ?_⟩
    rcases List.mem_cons.1 hq with rfl | hq
    · exact this.2.2 p hp (k, u, n) (by simp)
    · exact this.2.2 p hp q (by simp [hq])
  · simpa using h4
  · intro p hp
    rcases List.mem_append.1 hp with hp | hp
    · exact h5 p (by simp [hp])
    · rcases List.mem_cons.1 hp with rfl | hp
      · exact h5 (k, u, n) (by simp)
      · exact h5 p (by simp [hp])

section
variable {ops : Array Oper} {rest : List Oper} {o : Oper} {a : Act} {Q : Exit → Act → World → Prop}
end
end
end Go.Proofs.YtjjfafgaphloaaaGreatDoor
namespace Go.Proofs.YtjjfafgaphloaaaGreatDoor.D
open Go.RowKit
set_option linter.unusedVariables false
def ruleAtoms (r : Ru) : List A := r.head :: r.body.map (·.atom)

def allAtoms (rs : List Ru) : List A := rs.flatMap ruleAtoms

def partAtoms (ps : List Pt) : List A := ps.map (·.atom)

theorem allAtoms_snoc (rs : List Ru) (k : Nat) (h : k < rs.length) : allAtoms (rs.take (k + 1)) = allAtoms (rs.take k) ++ [rs[k].head] ++ partAtoms rs[k].body := by
  rw [List.take_succ_eq_append_getElem h]; unfold allAtoms ruleAtoms partAtoms; simp only [List.flatMap_append, List.flatMap_cons, List.flatMap_nil, List.append_nil, List.append_assoc, List.cons_append, List.nil_append]

theorem partAtoms_snoc (ps : List Pt) (k : Nat) (h : k < ps.length) : partAtoms (ps.take (k + 1)) = partAtoms (ps.take k) ++ [ps[k].atom] := by
  rw [List.take_succ_eq_append_getElem h]; unfold partAtoms; simp only [List.map_append, List.map_cons, List.map_nil]

theorem partAtoms_len (ps : List Pt) : (partAtoms ps).length = ps.length := by unfold partAtoms; simp

/-! One number of terms for each name. -/

def argStep (st : List ByteArray × (ByteArray → Int) × Bool) (a : A) : List ByteArray × (ByteArray → Int) × Bool :=
  if a.name ∈ st.1 ∧ st.2.1 a.name ≠ a.args.length then (st.1, st.2.1, false) else (putNew st.1 a.name, fun t => if t = a.name then a.args.length else st.2.1 t, st.2.2)

def argSt (xs : List A) : List ByteArray × (ByteArray → Int) × Bool := xs.foldl argStep ([], fun _ => 0, true)

theorem argSt_snoc (xs : List A) (a : A) : argSt (xs ++ [a]) = argStep (argSt xs) a := by unfold argSt; rw [List.foldl_append]; rfl

def alikeB (xs : List A) : Bool := xs.all fun a => xs.all fun b => decide (a.name = b.name → a.args.length = b.args.length)

theorem argSt_is (xs : List A) : (∀ s, s ∈ (argSt xs).1 ↔ ∃ a ∈ xs, a.name = s) ∧ (argSt xs).1.length ≤ xs.length ∧ (∀ s ∈ (argSt xs).1, ∃ a ∈ xs, a.name = s ∧ (argSt xs).2.1 s = a.args.length) ∧
    ((argSt xs).2.2 = true ↔ ∀ a ∈ xs, (argSt xs).2.1 a.name = a.args.length) := by
  have key : ∀ (n : Nat) (xs : List A), xs.length = n → (∀ s, s ∈ (argSt xs).1 ↔ ∃ a ∈ xs, a.name = s) ∧ (argSt xs).1.length ≤ xs.length ∧ (∀ s ∈ (argSt xs).1, ∃ a ∈ xs, a.name = s ∧ (argSt xs).2.1 s = a.args.length) ∧
      ((argSt xs).2.2 = true ↔ ∀ a ∈ xs, (argSt xs).2.1 a.name = a.args.length) := by
    intro n
    induction n with
    | zero =>
      intro xs hx
      obtain rfl := List.length_eq_zero_iff.1 hx
      exact ⟨fun s => by simp [argSt], Nat.le_refl _, fun s h => by simp [argSt] at h, by simp [argSt]⟩
    | succ n ih =>
      intro xs hx
      obtain ⟨ys, a, rfl⟩ : ∃ ys a, xs = ys ++ [a] := by
        rcases List.eq_nil_or_concat xs with rfl | ⟨ys, a, rfl⟩
        · simp at hx
        · exact ⟨ys, a, by simp⟩
      obtain ⟨i1, i0, i2, i3⟩ := ih ys (by simpa using hx)
      rw [argSt_snoc]
      by_cases hc : a.name ∈ (argSt ys).1 ∧ (argSt ys).2.1 a.name ≠ a.args.length
      · have e : argStep (argSt ys) a = ((argSt ys).1, (argSt ys).2.1, false) := by unfold argStep; rw [if_pos hc]
        rw [e]
        refine ⟨fun s => ⟨fun h => ?_, fun h => ?_⟩, by simp; omega, fun s h => ?_, ⟨fun h => by simp at h, fun h => absurd (h a (by simp)) hc.2⟩⟩
        · obtain ⟨b, hb, e⟩ := (i1 s).1 h
          exact ⟨b, by simp [hb], e⟩
        · obtain ⟨b, hb, e⟩ := h
          rcases List.mem_append.1 hb with hb | hb
          · exact (i1 s).2 ⟨b, hb, e⟩
          · rw [List.mem_singleton.1 hb] at e
            rw [← e]; exact hc.1
        · obtain ⟨b, hb, e⟩ := i2 s h
          exact ⟨b, by simp [hb], e⟩
      · have e : argStep (argSt ys) a = (putNew (argSt ys).1 a.name, fun t => if t = a.name then (a.args.length : Int) else (argSt ys).2.1 t, (argSt ys).2.2) := by unfold argStep; rw [if_neg hc]
        rw [e]
        refine ⟨fun s => ?_, ?_, fun s h => ?_, ?_⟩
        · rw [putNew_mem, i1 s]
          simp only [List.mem_append, List.mem_singleton]
          constructor
          · rintro (⟨b, hb, e⟩ | rfl)
            · exact ⟨b, .inl hb, e⟩
            · exact ⟨a, .inr rfl, rfl⟩
          · rintro ⟨b, hb | rfl, e'⟩
            · exact .inl ⟨b, hb, e'⟩
            · exact .inr e'.symm
        · have : (putNew (argSt ys).1 a.name).length ≤ (argSt ys).1.length + 1 := by unfold putNew; split <;> simp
          simp; omega
        · dsimp only
          by_cases es : s = a.name
          · exact ⟨a, by simp, es.symm, by rw [if_pos es]⟩
          · rw [if_neg es]
            obtain ⟨b, hb, e⟩ := i2 s ((putNew_mem.1 h).resolve_right es)
            exact ⟨b, by simp [hb], e⟩
        · dsimp only
          rw [i3]
          constructor
          · intro h b hb
            by_cases eb : b.name = a.name
            · rw [if_pos eb]
              rcases List.mem_append.1 hb with hb | hb
              · have h1 : a.name ∈ (argSt ys).1 := (i1 _).2 ⟨b, hb, eb⟩
                have h2 : (argSt ys).2.1 a.name = a.args.length := Classical.byContradiction fun h => hc ⟨h1, h⟩
                have h3 := h b hb
                rw [eb] at h3
                rw [← h2, h3]
              · rw [List.mem_singleton.1 hb]
            · rw [if_neg eb]
              rcases List.mem_append.1 hb with hb | hb
              · exact h b hb
              · rw [List.mem_singleton.1 hb] at eb; exact absurd rfl eb
          · intro h b hb
            have h0 := h b (by simp [hb])
            by_cases eb : b.name = a.name
            · have h1 : a.name ∈ (argSt ys).1 := (i1 _).2 ⟨b, hb, eb⟩
              have h2 : (argSt ys).2.1 a.name = a.args.length := Classical.byContradiction fun h => hc ⟨h1, h⟩
              rw [if_pos eb] at h0
              rw [eb, h2, h0]
            · rw [if_neg eb] at h0
              exact h0
  exact key _ xs rfl

theorem argSt_alike (xs : List A) : (argSt xs).2.2 = alikeB xs := by
  obtain ⟨i1, _, i2, i3⟩ := argSt_is xs
  refine Bool.eq_iff_iff.2 (i3.trans ?_)
  unfold alikeB
  simp only [List.all_eq_true, decide_eq_true_eq]
  constructor
  · intro h a ha b hb e
    have h1 := h a ha
    have h2 := h b hb
    rw [e, h2] at h1
    exact_mod_cast h1.symm
  · intro h a ha
    obtain ⟨b, hb, e, h2⟩ := i2 a.name ((i1 _).2 ⟨a, ha, rfl⟩)
    rw [h2, h b hb a ha e]

theorem argSt_at {xs : List A} (h : alikeB xs = true) {a : A} (ha : a ∈ xs) : (argSt xs).2.1 a.name = a.args.length := (argSt_is xs).2.2.2.1 (by rw [argSt_alike]; exact h) a ha

theorem argSt_range {xs : List A} {m : Nat} (h : ∀ a ∈ xs, a.args.length ≤ m) {s : ByteArray} (hs : s ∈ (argSt xs).1) : 0 ≤ (argSt xs).2.1 s ∧ (argSt xs).2.1 s ≤ m := by
  obtain ⟨a, ha, _, e⟩ := (argSt_is xs).2.2.1 s hs
  have := h a ha
  omega

/-- The reference goes through pairs. -/
def clash (a b : A) : Bool := decide (a.name = b.name) && decide (a.args.length ≠ b.args.length)

theorem alike_pairs (xs : List A) : alikeB xs = !(xs.any fun a => xs.any fun b => clash a b) := by
  unfold alikeB clash
  simp only [List.all_eq_not_any_not]
  congr 2
  funext a
  simp only [Bool.not_not]
  congr 1
  funext b
  by_cases h1 : a.name = b.name <;> by_cases h2 : a.args.length = b.args.length <;> simp [h1, h2]

theorem clash_comm (a b : A) : clash a b = clash b a := by
  unfold clash
  rw [decide_eq_decide.2 (eq_comm : a.name = b.name ↔ b.name = a.name), decide_eq_decide.2 (ne_comm : a.args.length ≠ b.args.length ↔ b.args.length ≠ a.args.length)]

theorem clash_self (a : A) : clash a a = false := by simp [clash]

theorem alike_yes {xs : List A} (h : ∀ i, (hi : i < xs.length) → ∀ k, (hk : k < i) → clash xs[i] (xs[k]'(by omega)) = false) : alikeB xs = true := by
  rw [alike_pairs]
  simp only [Bool.not_eq_true', List.any_eq_false, Bool.not_eq_true]
  intro a ha b hb
  obtain ⟨i, hi, rfl⟩ := List.mem_iff_getElem.1 ha
  obtain ⟨k, hk, rfl⟩ := List.mem_iff_getElem.1 hb
  rcases Nat.lt_trichotomy i k with h1 | h1 | h1
  · rw [clash_comm]; exact h k hk i h1
  · subst h1; exact clash_self _
  · exact h i hi k h1

theorem alike_no {xs : List A} {i k : Nat} (hi : i < xs.length) (hk : k < xs.length) (h : clash xs[i] xs[k] = true) : alikeB xs = false := by
  rw [alike_pairs]
  simp only [Bool.not_eq_false', List.any_eq_true]
  exact ⟨_, List.getElem_mem hi, _, List.getElem_mem hk, h⟩

/-! What is wrong. -/

def progC (rs : List Ru) : Nat :=
  if rs.all ruleOk = false then 1 else if 8 < rs.length then 2 else if alikeB (allAtoms rs) = false then 3 else if (rs.all fun r => tightB r.head r.body) = false then 4 else if cycB rs = true then 5 else 0

theorem progC_le (rs : List Ru) : progC rs ≤ 5 := by unfold progC; repeat (first | omega | split)

structure Fine (rs : List Ru) : Prop where
  ok : rs.all ruleOk = true
  few : rs.length ≤ 8
  alike : alikeB (allAtoms rs) = true
  tight : (rs.all fun r => tightB r.head r.body) = true
  no : cycB rs = false

theorem fine_iff (rs : List Ru) : progC rs = 0 ↔ Fine rs := by
  unfold progC
  constructor
  · intro h
    split at h
    · omega
    · rename_i h1
      split at h
      · omega
      · rename_i h2
        split at h
        · omega
        · rename_i h3
          split at h
          · omega
          · rename_i h4
            split at h
            · omega
            · rename_i h5
              exact ⟨by simpa using h1, by omega, by simpa using h3, by simpa using h4, by simpa using h5⟩
  · rintro ⟨h1, h2, h3, h4, h5⟩
    rw [if_neg (by simp [h1]), if_neg (by omega), if_neg (by simp [h3]), if_neg (by simp [h4]), if_neg (by simp [h5])]

theorem ruleOk_args {r : Ru} (h : ruleOk r = true) : r.body.length ≤ 4 ∧ (∀ a ∈ ruleAtoms r, atomOk a = true) ∧ ∀ a ∈ ruleAtoms r, a.args.length ≤ 3 := by
  unfold ruleOk bodyOkB at h
  simp only [Bool.and_eq_true, decide_eq_true_eq, List.all_eq_true] at h
  have h1 : ∀ a ∈ ruleAtoms r, atomOk a = true := fun a ha => by
    unfold ruleAtoms at ha
    rcases List.mem_cons.1 ha with rfl | ha
    · exact h.2
    · obtain ⟨p, hp, rfl⟩ := List.mem_map.1 ha
      exact h.1.2 p hp
  exact ⟨h.1.1, h1, fun a ha => by
    have := h1 a ha
    unfold atomOk at this
    simp only [Bool.and_eq_true, decide_eq_true_eq] at this
    exact this.1.2⟩

theorem allAtoms_mem {rs : List Ru} {a : A} (h : a ∈ allAtoms rs) : ∃ r ∈ rs, a ∈ ruleAtoms r := by
  obtain ⟨r, hr, ha⟩ := List.mem_flatMap.1 h
  exact ⟨r, hr, ha⟩

theorem allAtoms_few {rs : List Ru} (h : rs.all ruleOk = true) : (∀ a ∈ allAtoms rs, a.args.length ≤ 3) ∧ (allAtoms rs).length ≤ 5 * rs.length := by
  refine ⟨fun a ha => ?_, ?_⟩
  · obtain ⟨r, hr, ha⟩ := allAtoms_mem ha
    exact (ruleOk_args (List.all_eq_true.1 h r hr)).2.2 a ha
  · unfold allAtoms
    induction rs with
    | nil => simp
    | cons r rs ih =>
      simp only [List.all_cons, Bool.and_eq_true] at h
      have h1 := (ruleOk_args h.1).1
      have h2 := ih h.2
      simp only [List.flatMap_cons, List.length_append, List.length_cons, ruleAtoms, List.length_map] at *
      omega

end Go.Proofs.YtjjfafgaphloaaaGreatDoor.D
namespace Go.Proofs.YtjjfafgaphloaaaGreatDoor.D
open Go.RowKit Go.Lib
set_option linter.unusedVariables false
def argT (s : ByteArray) : T := ⟨capB s, s⟩

def zeroA : A := ⟨⟨#[]⟩, []⟩

def atomOf (nm inner : List UInt8) : A := ⟨toB nm, if inner = [] then [] else (splitL 44 inner).map fun w => argT (toB w)⟩

/-- As the program reads it. -/
def getI (t : List UInt8) : A × Bool := if 1500 < t.length then (zeroA, false) else
  if (cut t [40]).2.2 = true ∧ (cut t [40]).2.1.getLast? = some 41 then (if atomOk (atomOf (cut t [40]).1 (cut t [40]).2.1.dropLast) then (atomOf (cut t [40]).1 (cut t [40]).2.1.dropLast, true) else (zeroA, false)) else (zeroA, false)

theorem argsL_join : ∀ (ws : List (List UInt8)), argsL (ws.map fun w => argT (toB w)) = joinL 44 ws := by
  have key : ∀ (ws : List (List UInt8)) (n : Nat), ((ws.map fun w => argT (toB w)).zipIdx n).flatMap (fun x => (if x.2 = 0 then [] else [44]) ++ x.1.name.data.toList) = (if n = 0 then joinL 44 ws else if ws = [] then [] else 44 :: joinL 44 ws) := by
    intro ws
    induction ws with
    | nil => intro n; split <;> rfl
    | cons p ps ih =>
      intro n
      rw [List.map_cons, List.zipIdx_cons, List.flatMap_cons, ih (n + 1), if_neg (Nat.succ_ne_zero n)]
      cases ps with
      | nil =>
        by_cases hn : n = 0
        · subst hn; simp [joinL, argT, toB]
        · simp [hn, joinL, argT, toB]
      | cons q r =>
        by_cases hn : n = 0
        · subst hn; simp [joinL, argT, toB]
        · simp [hn, joinL, argT, toB]
  intro ws
  have := key ws 0
  simpa [argsL] using this

theorem low_not (c : UInt8) (h : low c = true) : c ≠ 40 ∧ c ≠ 41 ∧ c ≠ 44 ∧ c ≠ 32 := by
  refine ⟨?_, ?_, ?_, ?_⟩ <;> (intro e; subst e; exact absurd h (by decide))

theorem name_not {s : ByteArray} (h : nameOk s = true) : (40 : UInt8) ∉ s.data.toList := by
  unfold nameOk at h
  simp only [Bool.and_eq_true] at h
  intro hm
  exact (low_not _ (List.all_eq_true.1 h.1.2 _ hm)).1 rfl

end Go.Proofs.YtjjfafgaphloaaaGreatDoor.D
namespace Go.Proofs.YtjjfafgaphloaaaGreatDoor.D
open Go.RowKit
set_option linter.unusedVariables false
/-- The bindings that an atom makes of a binding, over facts. -/
def fits1 (list : List A) (a : A) (b : Bd) : List Bd := list.filterMap fun f => if (matchB a f b).2 then some (matchB a f b).1 else none

def stepB (list : List A) (p : Pt) (out : List Bd) : List Bd := if p.no then out else out.flatMap (fits1 list p.atom)

def rawB (list : List A) (body : List Pt) : List Bd := body.foldl (fun out p => stepB list p out) [[]]

theorem rawB_snoc (list : List A) (body : List Pt) (k : Nat) (h : k < body.length) : rawB list (body.take (k + 1)) = stepB list body[k] (rawB list (body.take k)) := by
  unfold rawB
  rw [List.take_succ_eq_append_getElem h, List.foldl_append]
  rfl

theorem fits1_snoc (list : List A) (a : A) (b : Bd) (j : Nat) (h : j < list.length) : fits1 (list.take (j + 1)) a b = fits1 (list.take j) a b ++ (if (matchB a list[j] b).2 then [(matchB a list[j] b).1] else []) := by
  unfold fits1
  rw [List.take_succ_eq_append_getElem h, List.filterMap_append]
  congr 1
  by_cases hm : (matchB a list[j] b).2 = true
  · simp [hm]
  · simp [hm]

theorem fits1_len (list : List A) (a : A) (b : Bd) : (fits1 list a b).length ≤ list.length := List.length_filterMap_le _ _

theorem flat_len {list : List A} {a : A} : ∀ (out : List Bd), (out.flatMap (fits1 list a)).length ≤ out.length * list.length := by
  intro out
  induction out with
  | nil => simp
  | cons b out ih =>
    rw [List.flatMap_cons, List.length_append, List.length_cons, Nat.add_mul, Nat.one_mul]
    have := fits1_len list a b
    omega

theorem flat_snoc (list : List A) (a : A) (out : List Bd) (k : Nat) (h : k < out.length) : (out.take (k + 1)).flatMap (fits1 list a) = (out.take k).flatMap (fits1 list a) ++ fits1 list a out[k] := by
  rw [List.take_succ_eq_append_getElem h, List.flatMap_append]
  simp

theorem stepB_len {list : List A} {p : Pt} {out : List Bd} {n : Nat} (hl : list.length ≤ 300) (h : out.length ≤ 300 ^ n) : (stepB list p out).length ≤ 300 ^ (n + 1) := by
  unfold stepB
  split
  · exact Nat.le_trans h (Nat.pow_le_pow_right (by omega) (by omega))
  · refine Nat.le_trans (flat_len out) ?_
    rw [Nat.pow_succ]
    exact Nat.mul_le_mul h hl

theorem matchT_len : ∀ (ts fs : List T) (b : Bd), (matchT ts fs b).1.length ≤ b.length + ts.length
  | [], fs, b => by cases fs <;> simp [matchT]
  | t :: ts, [], b => by simp [matchT]
  | t :: ts, f :: fs, b => by
    rw [matchT]
    split
    · split
      · split
        · have := matchT_len ts fs b
          simp only [List.length_cons]; omega
        · simp
      · have := matchT_len ts fs (b ++ [(t.name, f.name)])
        simp only [List.length_append, List.length_cons, List.length_nil] at this ⊢; omega
    · split
      · have := matchT_len ts fs b
        simp only [List.length_cons]; omega
      · simp

theorem matchB_len (a f : A) (b : Bd) : (matchB a f b).1.length ≤ b.length + a.args.length := by
  unfold matchB
  split
  · exact matchT_len _ _ _
  · simp

theorem fits1_each {list : List A} {a : A} {b b' : Bd} (h : b' ∈ fits1 list a b) : b'.length ≤ b.length + a.args.length := by
  unfold fits1 at h
  obtain ⟨f, _, hf⟩ := List.mem_filterMap.1 h
  split at hf
  · cases hf
    exact matchB_len a f b
  · cases hf

/-- Bindings for which nothing is that must not be. -/
def freeB (list : List A) (body : List Pt) (b : Bd) : Bool := body.all fun p => !p.no || !hasB list (fillB p.atom b)

def allB (list : List A) (body : List Pt) : List Bd := (rawB list body).filter (freeB list body)

end Go.Proofs.YtjjfafgaphloaaaGreatDoor.D
