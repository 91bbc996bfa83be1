/- Of the proof of FnExactOnce: KeyV, LevI, AtTxP, FolP. -/
import Derived.WalkKit
import Derived.WalkSpells
import Derived.WalkLawsBesides
import Derived.StringKeys
import Derived.Laws.StructEq
import Derived.Test.YtjjfafgaphloaaaGreatDoorProg
import Derived.Test.YtjjfafgaphloaaaGreatDoorM07
import Derived.Test.YtjjfafgaphloaaaGreatDoorM03
import Derived.Test.YtjjfafgaphloaaaGreatDoorM08
import Derived.Test.YtjjfafgaphloaaaGreatDoorM04
namespace Go.Proofs.YtjjfafgaphloaaaGreatDoor
open Go.RowKit Go.ChangeMaps Go.MapKept D
set_option linter.unusedVariables false
def D.isStr (v : Value) : Prop := ∃ s : ByteArray, v = .string s ∧ s.size ≤ maxLen

theorem D.keyV_str : KeyV Tryz.prog 9 (fun _ => True) isStr := by
  have K := Go.WideMaps.string_law (P := Tryz.prog) Tryz.underlying9
  have hk : ∀ {s : ByteArray}, s.size ≤ maxLen → keyOf Tryz.prog 9 (.string s) = some (.string s.data.toList) := fun h => Go.WideMaps.keyOf_string_mk Tryz.underlying9 h
  refine ⟨?_, ?_, ?_⟩
  · rintro w em v ⟨s, rfl, hs⟩
    exact K.check w em (hk hs)
  · rintro w _ k ⟨s, rfl, hs⟩ es hes
    exact K.find w (hk hs) es fun e he => by
      obtain ⟨s', h1, h2⟩ := hes e he
      exact ⟨_, by rw [h1]; exact hk h2⟩
  · rintro v ⟨s, rfl, _⟩
    simp [Instr.sameBits]

/-- What facts stand under. -/
structure D.WK where
  name : ByteArray
  size : Nat
  place : Int
  word : ByteArray
deriving DecidableEq

def D.wkV (k : WK) : Value := .agg #[.string k.name, .int .i64 k.size, .int .i64 k.place, .string k.word]

def D.isWK (v : Value) : Prop := ∃ k : WK, v = wkV k

theorem D.wkV_inj {k l : WK} (h : wkV k = wkV l) : k = l := by
  obtain ⟨a, b, c, d⟩ := k
  obtain ⟨a', b', c', d'⟩ := l
  simp [wkV] at h
  obtain ⟨rfl, h2, rfl, rfl⟩ := h
  have : b = b' := by omega
  rw [this]

theorem wkFields : Tryz.prog.underlying 164 = some (.struct (Tryz.prog.fieldsOf 164)) := by kernel_rfl

theorem wkHeld : Tryz.prog.stoodInHeld 164 = false := by kernel_rfl

theorem wkList : (Tryz.prog.fieldsOf 164).toList.map (fun f => (f.name, f.type, f.offset)) = [("name", 9, 0), ("size", 3, 1), ("at", 3, 2), ("word", 9, 3)] := by kernel_rfl

theorem D.wk_fields : ∃ f0 f1 f2 f3, (Tryz.prog.fieldsOf 164).toList = [f0, f1, f2, f3] ∧ (f0.name ≠ "_" ∧ f0.type = 9 ∧ f0.offset = 0) ∧ (f1.name ≠ "_" ∧ f1.type = 3 ∧ f1.offset = 1) ∧
    (f2.name ≠ "_" ∧ f2.type = 3 ∧ f2.offset = 2) ∧ (f3.name ≠ "_" ∧ f3.type = 9 ∧ f3.offset = 3) := by
  have h := wkList
  generalize (Tryz.prog.fieldsOf 164).toList = L at h
  have hl : L.length = 4 := by have := congrArg List.length h; simpa using this
  match L, hl, h with
  | [f0, f1, f2, f3], _, h =>
    simp at h
    obtain ⟨⟨a1, a2, a3⟩, ⟨b1, b2, b3⟩, ⟨c1, c2, c3⟩, d1, d2, d3⟩ := h
    exact ⟨f0, f1, f2, f3, rfl, ⟨by rw [a1]; decide, a2, a3⟩, ⟨by rw [b1]; decide, b2, b3⟩, ⟨by rw [c1]; decide, c2, c3⟩, by rw [d1]; decide, d2, d3⟩

theorem D.eq_str (d : Nat) (a b : ByteArray) (w : World) : (Op.equalIn (d + 1) 9 (.string a) (.string b)).run Tryz.prog w = .ok (a == b) w := by
  simp [Op.equalIn, run_underlying Tryz.underlying9, Result.andThen]

theorem D.eq_int (d : Nat) (a b : Int) (w : World) : (Op.equalIn (d + 1) 3 (.int .i64 a) (.int .i64 b)).run Tryz.prog w = .ok (a == b) w := by
  simp [Op.equalIn, run_underlying Tryz.underlying3, Result.andThen]

theorem D.part_str {cs : Array Value} {o : Nat} {v : Value} (h : cs[o]? = some v) (w : World) : (part 9 cs o).run Tryz.prog w = .ok v w := by
  simp [part, isAgg, run_underlying Tryz.underlying9, h, Result.andThen]

theorem D.part_int {cs : Array Value} {o : Nat} {v : Value} (h : cs[o]? = some v) (w : World) : (part 3 cs o).run Tryz.prog w = .ok v w := by
  simp [part, isAgg, run_underlying Tryz.underlying3, h, Result.andThen]

theorem D.keyA_wk : KeyA Tryz.prog 164 (fun _ => True) isWK := by
  refine ⟨⟨_, wkFields, ?_⟩, ?_⟩
  · rintro a b ⟨k, rfl⟩ ⟨l, rfl⟩
    rfl
  · rintro w a b _ ⟨k, rfl⟩ ⟨l, rfl⟩
    obtain ⟨f0, f1, f2, f3, hf, ⟨a1, a2, a3⟩, ⟨b1, b2, b3⟩, ⟨c1, c2, c3⟩, d1, d2, d3⟩ := wk_fields
    have hrun := run_equalIn_struct (P := Tryz.prog) (w := w) 9999 164 #[.string k.name, .int .i64 k.size, .int .i64 k.place, .string k.word] #[.string l.name, .int .i64 l.size, .int .i64 l.place, .string l.word] wkFields wkHeld
    refine ⟨k.name == l.name && ((k.size : Int) == (l.size : Int) && (k.place == l.place && k.word == l.word)), ?_, ?_⟩
    · show (Op.equalIn 10000 _ _ _).run _ _ = _
      unfold wkV
      rw [hrun, hf]
      simp [Op.eqFields, a1, a2, a3, b1, b2, b3, c1, c2, c3, d1, d2, d3, part_str, part_int, eq_str, eq_int, Result.andThen]
      by_cases h1 : k.name = l.name <;> by_cases h2 : (k.size : Int) = (l.size : Int) <;> by_cases h3 : k.place = l.place <;> by_cases h4 : k.word = l.word <;> simp [h1, h2, h3, h4]
    · constructor
      · intro h
        simp at h
        obtain ⟨h1, h2, h3, h4⟩ := h
        obtain ⟨a, b, c, d⟩ := k
        obtain ⟨a', b', c', d'⟩ := l
        simp only at h1 h2 h3 h4
        rw [h1, h3, h4, show b = b' by omega]
      · intro h
        rw [wkV_inj h]
        simp

theorem D.check_str (em : Bool) (v : ByteArray) (w : World) : (Instr.checkKey em 9999 9 (.string v)).run Tryz.prog w = .ok () w := by
  show (Instr.checkKey em (9998 + 1) _ _).run _ _ = _
  rw [Instr.checkKey]
  simp [run_underlying Tryz.underlying9, Result.andThen]

theorem D.check_int (em : Bool) (v : Int) (w : World) : (Instr.checkKey em 9999 3 (.int .i64 v)).run Tryz.prog w = .ok () w := by
  show (Instr.checkKey em (9998 + 1) _ _).run _ _ = _
  rw [Instr.checkKey]
  simp [run_underlying Tryz.underlying3, Result.andThen]

theorem D.keyV_wk : KeyV Tryz.prog 164 (fun _ => True) isWK := by
  refine ⟨?_, fun hW k hk es hs => findKey_a keyA_wk hW hk es hs, ?_⟩
  · rintro w em v ⟨k, rfl⟩
    obtain ⟨f0, f1, f2, f3, hf, ⟨a1, a2, a3⟩, ⟨b1, b2, b3⟩, ⟨c1, c2, c3⟩, d1, d2, d3⟩ := wk_fields
    show (Instr.checkKey em (9999 + 1) _ _).run _ _ = _
    rw [Instr.checkKey]
    unfold wkV
    simp only [Sem.run_bind, run_underlying wkFields, Result.andThen_ok]
    rw [← Array.forIn_toList, hf]
    simp [a1, a2, a3, b1, b2, b3, c1, c2, c3, d1, d2, d3, part_str, part_int, check_str, check_int, Result.andThen]
  · rintro v ⟨k, rfl⟩
    simp [Instr.sameBits, wkV]

end Go.Proofs.YtjjfafgaphloaaaGreatDoor

namespace Go.Proofs.YtjjfafgaphloaaaGreatDoor.D
open Go.RowKit
set_option linter.unusedVariables false
/-- Numbers as cells. -/
def ofL (out : List Nat) : Array Value := (out.map fun n : Nat => Value.int .i64 (n : Int)).toArray

theorem ofL_at {out : List Nat} {i : Nat} (h : i < out.length) : (ofL out)[i]? = some (.int .i64 (atL out i : Nat)) := by
  unfold ofL atL
  simp [List.getElem?_eq_getElem h]

theorem ofL_set (out : List Nat) (i v : Nat) : (ofL out).setIfInBounds i (.int .i64 (v : Nat)) = ofL (out.set i v) := by
  unfold ofL
  simp [List.map_set]

theorem ofL_zero (n : Nat) : madeCells #[Value.int .i64 0] n = ofL (List.replicate n 0) := by
  unfold madeCells ofL
  refine Array.ext (by simp) fun i h1 h2 => ?_
  simp [Nat.mod_one]

def numOf : Option Value → Nat
  | some (.int _ z) => z.toNat
  | _ => 0

def levSum (w : World) (g n : Nat) : Nat := ((List.range n).map fun i => numOf (w.cell? ⟨g, i, none⟩)).sum

theorem levSum_is {w : World} {g : Nat} {out : List Nat} {t : TypeId} (h : w.heap[g]? = some (.cells (ofL out) t (0, 0))) : levSum w g out.length = out.sum := by
  unfold levSum
  have : ((List.range out.length).map fun i => numOf (w.cell? ⟨g, i, none⟩)) = out := by
    refine List.ext_getElem (by simp) fun i h1 h2 => ?_
    simp only [List.getElem_map, List.getElem_range]
    rw [cell_of_blk h, ofL_at h2]
    unfold numOf atL
    simp [List.getElem?_eq_getElem h2]
  rw [this]

def nlev (rs : List Ru) (out : List Nat) (s : ByteArray) : Nat := atL out ((placesL rs).idxOf s)

structure LvB (rs : List Ru) (out : List Nat) : Prop where
  len : out.length = (placesL rs).length
  bel : ∀ T, Sol rs T → ∀ n ∈ headNames rs, nlev rs out n ≤ T n
  lo : ∀ i, i < out.length → atL out i < out.length

theorem atL_zero (n i : Nat) : atL (List.replicate n 0) i = 0 := by
  unfold atL; rw [List.getD_eq_getElem?_getD, List.getElem?_replicate]; split <;> rfl

theorem LvB.zero (rs : List Ru) : LvB rs (List.replicate (placesL rs).length 0) :=
  ⟨by simp, fun T _ n _ => by unfold nlev; rw [atL_zero]; exact Nat.zero_le _, fun i h => by rw [atL_zero]; omega⟩

theorem LvB.sum_le {rs : List Ru} {out : List Nat} (h : LvB rs out) : out.sum ≤ (placesL rs).length * (placesL rs).length := by
  have := sum_bound (out := out) (n := out.length) fun i hi => Nat.le_of_lt (h.lo i hi)
  rw [h.len] at this
  exact this

theorem idx_lt {rs : List Ru} {n : ByteArray} (h : n ∈ headNames rs) : (placesL rs).idxOf n < (placesL rs).length := List.idxOf_lt_length_of_mem (places_mem.2 h)

theorem LvB.step {rs : List Ru} {out : List Nat} (h : LvB rs out) {r : Ru} (hr : r ∈ rs) {p : Pt} (hp : p ∈ r.body) (hh : p.atom.name ∈ headNames rs) {l : Nat} (hl : l = nlev rs out p.atom.name + noN p)
    (hlt : nlev rs out r.head.name < l) (hN : l < (placesL rs).length) : LvB rs (out.set ((placesL rs).idxOf r.head.name) l) ∧ out.sum < (out.set ((placesL rs).idxOf r.head.name) l).sum := by
  have hi := idx_lt (head_mem hr)
  have hi' : (placesL rs).idxOf r.head.name < out.length := by rw [h.len]; exact hi
  refine ⟨⟨by simp [h.len], fun T hT n hn => ?_, fun i hi2 => ?_⟩, ?_⟩
  · unfold nlev
    rw [atL_set hi']
    split
    · rename_i e
      have e2 : n = r.head.name := by
        have h1 := List.getElem_idxOf hi
        have h2 := List.getElem_idxOf (idx_lt hn)
        rw [← h2, ← h1]
        congr 1
        exact e.symm
      have h3 := hT r hr p hp hh
      have h4 := h.bel T hT _ hh
      rw [e2, hl]; omega
    · exact h.bel T hT n hn
  · rw [List.length_set] at hi2 ⊢
    rw [atL_set hi']
    split
    · rw [h.len]; exact hN
    · exact h.lo i hi2
  · refine sum_up (up_set (Nat.le_of_lt hlt)) fun e => ?_
    have h5 := set_still hi' e
    unfold nlev at hlt
    omega

theorem LvB.err {rs : List Ru} {out : List Nat} (h : LvB rs out) {r : Ru} (hr : r ∈ rs) {p : Pt} (hp : p ∈ r.body) (hh : p.atom.name ∈ headNames rs) {l : Nat} (hl : l = nlev rs out p.atom.name + noN p)
    (hN : (placesL rs).length ≤ l) : cycB rs = true := by
  refine cyc_of_no fun S hS => ?_
  obtain ⟨T, hT, hs⟩ := sol_small hS
  have h1 := hT r hr p hp hh
  have h2 := hs _ (head_mem hr)
  have h3 := h.bel T hT _ hh
  omega

def SatP (rs : List Ru) (out : List Nat) (r : Ru) (p : Pt) : Prop := p.atom.name ∈ headNames rs → nlev rs out p.atom.name + noN p ≤ nlev rs out r.head.name

def SatK (rs : List Ru) (out : List Nat) (k : Nat) : Prop := ∀ r ∈ rs.take k, ∀ p ∈ r.body, SatP rs out r p

theorem LvB.done {rs : List Ru} {out : List Nat} (h : LvB rs out) (hs : SatK rs out rs.length) : cycB rs = false ∧ ∀ i, i < rs.length → nlev rs out (ruleAt rs i).head.name = atL (levelsL rs) i := by
  have h1 : Sol rs (nlev rs out) := fun r hr p hp hh => hs r (by rw [List.take_of_length_le (Nat.le_refl _)]; exact hr) p hp hh
  exact ⟨no_cyc_of h1, least_eq h1 h.bel⟩

theorem SatK.zero (rs : List Ru) (out : List Nat) : SatK rs out 0 := fun r hr => by simp at hr

theorem SatK.snoc {rs : List Ru} {out : List Nat} {k : Nat} (h : k < rs.length) (h1 : SatK rs out k) (h2 : ∀ p ∈ rs[k].body, SatP rs out rs[k] p) : SatK rs out (k + 1) := fun r hr => by
  rw [List.take_succ_eq_append_getElem h] at hr
  rcases List.mem_append.1 hr with hr | hr
  · exact h1 r hr
  · rw [List.mem_singleton.1 hr]; exact h2

def SatJ (rs : List Ru) (out : List Nat) (r : Ru) (j : Nat) : Prop := ∀ p ∈ r.body.take j, SatP rs out r p

theorem SatJ.zero (rs : List Ru) (out : List Nat) (r : Ru) : SatJ rs out r 0 := fun p hp => by simp at hp

theorem SatJ.snoc {rs : List Ru} {out : List Nat} {r : Ru} {j : Nat} (h : j < r.body.length) (h1 : SatJ rs out r j) (h2 : SatP rs out r r.body[j]) : SatJ rs out r (j + 1) := fun p hp => by
  rw [List.take_succ_eq_append_getElem h] at hp
  rcases List.mem_append.1 hp with hp | hp
  · exact h1 p hp
  · rw [List.mem_singleton.1 hp]; exact h2

end Go.Proofs.YtjjfafgaphloaaaGreatDoor.D

namespace Go.Proofs.YtjjfafgaphloaaaGreatDoor.D
open Go.RowKit Go.Lib
set_option linter.unusedVariables false
theorem low_big {c : UInt8} (h : low c = true) : big c = false := by
  cases hb : big c
  · rfl
  · exfalso
    have h1 := (big_int c).1 hb
    have : low c = false := (low_int c).2 (by omega)
    rw [this] at h; cases h

theorem name_cap {s : ByteArray} (h : nameOk s = true) : capB s = false := by
  unfold nameOk lows at h
  simp only [Bool.and_eq_true] at h
  unfold capB
  cases hs : s.data.toList with
  | nil => simp [big]
  | cons x xs =>
    have := List.all_eq_true.1 h.1.2 x (by rw [hs]; exact List.mem_cons_self ..)
    simp [low_big this]

theorem term_arg {t : T} (h : termOk t = true) : argT t.name = t := by
  unfold argT
  unfold termOk at h
  obtain ⟨v, s⟩ := t
  cases v
  · have := name_cap (s := s) (by simpa using h)
    show (⟨capB s, s⟩ : T) = ⟨false, s⟩
    rw [this]
  · have h1 : varOk s = true := by simpa using h
    unfold varOk at h1
    simp only [Bool.and_eq_true] at h1
    show (⟨capB s, s⟩ : T) = ⟨true, s⟩
    rw [h1.1.2]

theorem term_no44 {t : T} (h : termOk t = true) : (44 : UInt8) ∉ t.name.data.toList ∧ t.name.data.toList ≠ [] ∧ t.name.data.toList.length ≤ 8 := by
  have hz : t.name.data.toList.length = t.name.size := Array.length_toList
  unfold termOk at h
  split at h
  · unfold varOk at h
    simp only [Bool.and_eq_true, decide_eq_true_eq] at h
    have h1 := h.1.2
    unfold capB at h1
    simp only [Bool.and_eq_true, decide_eq_true_eq] at h1
    refine ⟨?_, by intro e; rw [e] at hz; simp at hz; omega, by omega⟩
    intro hm
    cases hs : t.name.data.toList with
    | nil => rw [hs] at hm; simp at hm
    | cons x xs =>
      rw [hs] at hm h1 h
      rcases List.mem_cons.1 hm with e | hm
      · have h2 := h1.2
        rw [← e] at h2
        exact absurd (show big 44 = true from h2) (by decide)
      · exact (low_not _ (List.all_eq_true.1 h.2 _ hm)).2.2.1 rfl
  · unfold nameOk at h
    simp only [Bool.and_eq_true, decide_eq_true_eq] at h
    refine ⟨?_, by intro e; rw [e] at hz; simp at hz; omega, by omega⟩
    intro hm
    exact (low_not _ (List.all_eq_true.1 h.1.2 _ hm)).2.2.1 rfl

theorem atom_of {a : A} (h : atomOk a = true) : atomOf a.name.data.toList (argsL a.args) = a := by
  unfold atomOk at h
  simp only [Bool.and_eq_true] at h
  have hall := List.all_eq_true.1 h.2
  have e : a.args = (a.args.map fun t => t.name.data.toList).map fun w => argT (toB w) := by
    rw [List.map_map]
    conv => lhs; rw [← List.map_id a.args]
    refine List.map_congr_left fun t ht => ?_
    show t = argT (toB t.name.data.toList)
    rw [toB_of, term_arg (hall t ht)]
  have ej : argsL a.args = joinL 44 (a.args.map fun t => t.name.data.toList) := by
    conv => lhs; rw [e]
    rw [argsL_join]
  unfold atomOf
  obtain ⟨nm, args⟩ := a
  dsimp only at *
  rw [toB_of]
  cases args with
  | nil => rw [ej]; rfl
  | cons t r =>
    have hne : joinL 44 ((t :: r).map fun t => t.name.data.toList) ≠ [] := by
      have ht := (term_no44 (hall t (List.mem_cons_self ..))).2.1
      cases r with
      | nil => exact ht
      | cons u r => exact List.append_ne_nil_of_left_ne_nil ht _
    rw [if_neg (by rw [ej]; exact hne), ej, splitL_join]
    · rw [← e]
    · simp
    · intro p hp
      obtain ⟨u, hu, rfl⟩ := List.mem_map.1 hp
      exact (term_no44 (hall u hu)).1

theorem join_le : ∀ (ps : List (List UInt8)), (∀ p ∈ ps, p.length ≤ 8) → (joinL 44 ps).length ≤ 9 * ps.length
  | [], _ => by simp [joinL]
  | [p], h => by have := h p (List.mem_cons_self ..); simp [joinL]; omega
  | p :: q :: r, h => by
    have h1 := h p (List.mem_cons_self ..)
    have h2 := join_le (q :: r) fun x hx => h x (List.mem_cons_of_mem _ hx)
    show (p ++ 44 :: joinL 44 (q :: r)).length ≤ _
    rw [List.length_append, List.length_cons]
    simp only [List.length_cons] at *
    omega

theorem args_le {a : A} (h : atomOk a = true) : (argsL a.args).length ≤ 27 := by
  have h0 := h
  unfold atomOk at h
  simp only [Bool.and_eq_true, decide_eq_true_eq] at h
  have hall := List.all_eq_true.1 h.2
  have := atom_of h0
  have e : a.args = (a.args.map fun t => t.name.data.toList).map fun w => argT (toB w) := by
    rw [List.map_map]
    conv => lhs; rw [← List.map_id a.args]
    refine List.map_congr_left fun t ht => ?_
    show t = argT (toB t.name.data.toList)
    rw [toB_of, term_arg (hall t ht)]
  rw [e, argsL_join]
  have := join_le (a.args.map fun t => t.name.data.toList) fun p hp => by
    obtain ⟨u, hu, rfl⟩ := List.mem_map.1 hp
    exact (term_no44 (hall u hu)).2.2
  rw [List.length_map] at this
  omega

theorem name_len {s : ByteArray} (h : nameOk s = true) : s.data.toList.length ≤ 8 ∧ 1 ≤ s.data.toList.length := by
  have hz : s.data.toList.length = s.size := Array.length_toList
  unfold nameOk at h
  simp only [Bool.and_eq_true, decide_eq_true_eq] at h
  omega

theorem putL_le37 {a : A} (h : atomOk a = true) : (putL a).length ≤ 37 := by
  have h1 := args_le h
  unfold atomOk at h
  simp only [Bool.and_eq_true] at h
  have h2 := name_len h.1.1
  unfold putL
  simp only [List.length_append, List.length_singleton]
  omega

theorem getI_putL {a : A} (h : atomOk a = true) : getI (putL a) = (a, true) := by
  have hl := putL_le37 h
  have hc : cut (putL a) [40] = (a.name.data.toList, argsL a.args ++ [41], true) := by
    have hn : (40 : UInt8) ∉ a.name.data.toList := by
      unfold atomOk at h
      simp only [Bool.and_eq_true] at h
      exact name_not h.1.1
    rcases cut_is (putL a) 40 with ⟨h1, _⟩ | ⟨x, y, h1, h2, h3⟩
    · exact absurd (by unfold putL; simp) h1
    · have e : a.name.data.toList ++ 40 :: (argsL a.args ++ [41]) = x ++ 40 :: y := by rw [← h1]; unfold putL; simp
      have hs1 := splitL_hit (argsL a.args ++ [41]) hn
      rw [e, splitL_hit y h2] at hs1
      injection hs1 with e1 _
      rw [h3]
      subst e1
      rw [List.append_cancel_left_eq] at e
      injection e with _ e
      rw [e]
  unfold getI
  rw [if_neg (by omega), hc]
  show (if true = true ∧ (argsL a.args ++ [41]).getLast? = some 41 then _ else _) = _
  rw [if_pos ⟨rfl, by simp⟩]
  show (if atomOk (atomOf a.name.data.toList (argsL a.args ++ [41]).dropLast) = true then _ else _) = _
  rw [List.dropLast_concat, atom_of h, if_pos h]

end Go.Proofs.YtjjfafgaphloaaaGreatDoor.D

namespace Go.Proofs.YtjjfafgaphloaaaGreatDoor.D
open Go.RowKit
set_option linter.unusedVariables false
/-- Words of variables. -/
abbrev Wo := ByteArray → ByteArray

def termW (σ : Wo) (t : T) : T := ⟨false, if t.var then σ t.name else t.name⟩

def fillW (σ : Wo) (a : A) : A := ⟨a.name, a.args.map (termW σ)⟩

/-- What follows at once by a rule of facts. -/
def Fol (list : List A) (r : Ru) (a : A) : Prop := ∃ σ : Wo, a = fillW σ r.head ∧ ∀ p ∈ r.body, hasB list (fillW σ p.atom) = !p.no

/-- Words agree with a binding. -/
def Agr (b : Bd) (σ : Wo) : Prop := ∀ n v, getB b n = some v → σ n = v

/-- Each variable of terms is bound. -/
def Cov (b : Bd) (ts : List T) : Prop := ∀ t ∈ ts, t.var = true → (getB b t.name).isSome = true

def Le (b b' : Bd) : Prop := ∀ n v, getB b n = some v → getB b' n = some v

theorem Le.refl (b : Bd) : Le b b := fun _ _ h => h

theorem Le.trans {a b c : Bd} (h : Le a b) (k : Le b c) : Le a c := fun n v e => k n v (h n v e)

theorem Le.cov {b b' : Bd} (h : Le b b') {ts : List T} (hc : Cov b ts) : Cov b' ts := fun t ht hv => by
  obtain ⟨v, hv⟩ := Option.isSome_iff_exists.1 (hc t ht hv)
  rw [h _ _ hv]; rfl

theorem Agr.of_le {b b' : Bd} {σ : Wo} (h : Agr b' σ) (hl : Le b b') : Agr b σ := fun n v e => h n v (hl n v e)

theorem agr_val (b : Bd) : Agr b (valB b) := fun n v e => by unfold valB; rw [e]; rfl

theorem getB_append (b c : Bd) (n : ByteArray) : getB (b ++ c) n = (getB b n).or (getB c n) := by
  induction b with
  | nil => simp [getB]
  | cons p b ih =>
    simp only [List.cons_append, getB]
    split
    · rfl
    · exact ih

theorem Le.append (b c : Bd) : Le b (b ++ c) := fun n v h => by rw [getB_append, h]; rfl

theorem fill_cov {b : Bd} {σ : Wo} {ts : List T} (hc : Cov b ts) (ha : Agr b σ) : ts.map (fillT b) = ts.map (termW σ) := by
  refine List.map_congr_left fun t ht => ?_
  unfold fillT termW
  cases hv : t.var
  · rfl
  · obtain ⟨v, h⟩ := Option.isSome_iff_exists.1 (hc t ht hv)
    simp only [if_true, valB, h, Option.getD_some, ha _ _ h]

theorem fillB_cov {b : Bd} {σ : Wo} {a : A} (hc : Cov b a.args) (ha : Agr b σ) : fillB a b = fillW σ a := by
  unfold fillB fillW
  rw [fill_cov hc ha]

theorem fillB_le {b b' : Bd} {a : A} (hc : Cov b a.args) (hl : Le b b') : fillB a b' = fillB a b :=
  (fillB_cov (hl.cov hc) (agr_val b')).trans (fillB_cov hc ((agr_val b').of_le hl)).symm

theorem matchT_le : ∀ (ts fs : List T) (b : Bd), Le b (matchT ts fs b).1
  | [], fs, b => by cases fs <;> exact Le.refl b
  | t :: ts, [], b => Le.refl b
  | t :: ts, f :: fs, b => by
    rw [matchT]
    split
    · split
      · split
        · exact matchT_le ts fs b
        · exact Le.refl b
      · exact (Le.append _ _).trans (matchT_le ts fs _)
    · split
      · exact matchT_le ts fs b
      · exact Le.refl b

theorem matchT_fill : ∀ (ts fs : List T) (b : Bd), ts.length = fs.length → (∀ f ∈ fs, f.var = false) → (matchT ts fs b).2 = true → Cov (matchT ts fs b).1 ts ∧ ts.map (fillT (matchT ts fs b).1) = fs
  | [], [], b, _, _, _ => ⟨fun t ht => absurd ht (by simp), rfl⟩
  | [], f :: fs, b, h, _, _ => by simp at h
  | t :: ts, [], b, h, _, _ => by simp at h
  | ⟨tv, tn⟩ :: ts, ⟨fv, fn⟩ :: fs, b, hl, hv, hm => by
    have hf : fv = false := hv _ (List.mem_cons_self ..)
    subst hf
    have hv' : ∀ f ∈ fs, f.var = false := fun f h => hv f (List.mem_cons_of_mem _ h)
    have hl' : ts.length = fs.length := by simpa using hl
    have hstep : ∀ b0 : Bd, (matchT ts fs b0).2 = true → (tv = true → getB b0 tn = some fn) → (tv = false → tn = fn) →
        Cov (matchT ts fs b0).1 (⟨tv, tn⟩ :: ts) ∧ (⟨tv, tn⟩ :: ts).map (fillT (matchT ts fs b0).1) = ⟨false, fn⟩ :: fs := by
      intro b0 hm0 h1 h2
      obtain ⟨i1, i2⟩ := matchT_fill ts fs b0 hl' hv' hm0
      refine ⟨fun t ht htv => ?_, ?_⟩
      · rcases List.mem_cons.1 ht with rfl | ht
        · rw [matchT_le ts fs b0 _ _ (h1 htv)]; rfl
        · exact i1 t ht htv
      · rw [List.map_cons, i2]
        congr 1
        unfold fillT
        cases tv
        · simp [h2 rfl]
        · simp [valB, matchT_le ts fs b0 _ _ (h1 rfl)]
    rw [matchT] at hm ⊢
    dsimp only at hm ⊢
    split at hm
    · rename_i e1
      rw [if_pos e1]
      cases hg : getB b tn with
      | some v =>
        rw [hg] at hm
        dsimp only at hm ⊢
        split at hm
        · rename_i e2
          subst e2
          rw [if_pos rfl]
          exact hstep b hm (fun _ => hg) fun e => by rw [e] at e1; cases e1
        · cases hm
      | none =>
        rw [hg] at hm
        dsimp only at hm ⊢
        exact hstep _ hm (fun _ => by rw [getB_append, hg]; simp [getB]) fun e => by rw [e] at e1; cases e1
    · rename_i e1
      rw [if_neg e1]
      split at hm
      · rename_i e2
        rw [if_pos e2]
        exact hstep b hm (fun e => absurd e e1) fun _ => e2
      · cases hm

theorem matchT_words : ∀ (ts fs : List T) (b : Bd) (σ : Wo), Agr b σ → ts.map (termW σ) = fs → (matchT ts fs b).2 = true ∧ Agr (matchT ts fs b).1 σ
  | [], fs, b, σ, ha, h => by cases fs with
    | nil => exact ⟨rfl, ha⟩
    | cons f fs => simp at h
  | t :: ts, [], b, σ, ha, h => by simp at h
  | ⟨tv, tn⟩ :: ts, f :: fs, b, σ, ha, h => by
    simp only [List.map_cons, List.cons.injEq] at h
    obtain ⟨rfl, h⟩ := h
    rw [matchT]
    cases tv
    · simp only [termW, Bool.false_eq_true, if_false]
      exact matchT_words ts fs b σ ha h
    · simp only [termW, if_true]
      cases hg : getB b tn with
      | some v =>
        dsimp only
        rw [if_pos (ha _ _ hg).symm]
        exact matchT_words ts fs b σ ha h
      | none =>
        dsimp only
        refine matchT_words ts fs _ σ (fun n v e => ?_) h
        rw [getB_append] at e
        cases hn : getB b n with
        | some u => rw [hn] at e; simp at e; rw [← e]; exact ha _ _ hn
        | none =>
          rw [hn] at e
          simp only [Option.none_or, getB] at e
          split at e
          · rename_i e2; subst e2; simpa using e
          · cases e

theorem matchB_le (a f : A) (b : Bd) : Le b (matchB a f b).1 := by
  unfold matchB
  split
  · exact matchT_le _ _ _
  · exact Le.refl b

theorem matchB_fill {a f : A} {b : Bd} (hf : ∀ t ∈ f.args, t.var = false) (h : (matchB a f b).2 = true) : Cov (matchB a f b).1 a.args ∧ fillB a (matchB a f b).1 = f := by
  unfold matchB at h ⊢
  split at h
  · rename_i e
    rw [if_pos e]
    obtain ⟨h1, h2⟩ := matchT_fill a.args f.args b e.2 hf h
    refine ⟨h1, ?_⟩
    unfold fillB
    rw [h2]
    obtain ⟨n, ts⟩ := f
    simp only at e
    rw [e.1]
  · cases h

theorem matchB_words {a f : A} {b : Bd} {σ : Wo} (ha : Agr b σ) (h : fillW σ a = f) : (matchB a f b).2 = true ∧ Agr (matchB a f b).1 σ := by
  subst h
  unfold matchB
  rw [if_pos ⟨rfl, by simp [fillW]⟩]
  exact matchT_words _ _ _ _ ha rfl

/-- Facts: atoms without variables. -/
def Gr (a : A) : Prop := ∀ t ∈ a.args, t.var = false

theorem gr_fill (σ : Wo) (a : A) : Gr (fillW σ a) := fun t ht => by
  obtain ⟨u, _, rfl⟩ := List.mem_map.1 ht
  rfl

theorem gr_eq {a b : A} (ha : Gr a) (hb : Gr b) (h : cmpA a b = 0) : a = b := by
  have := (cmpA_key a b).1 h
  unfold keyA at this
  simp only [List.cons.injEq] at this
  obtain ⟨n, ts⟩ := a
  obtain ⟨m, us⟩ := b
  dsimp only at *
  obtain ⟨rfl, h2⟩ := this
  have e : ts = us := terms_ext ha hb h2
  rw [e]

theorem hasB_gr {xs : List A} (hx : ∀ x ∈ xs, Gr x) {a : A} (ha : Gr a) : hasB xs a = true ↔ a ∈ xs := by
  refine ⟨fun h => ?_, hasB_mem⟩
  obtain ⟨x, hm, hc⟩ := hasB_iff.1 h
  rw [← gr_eq (hx x hm) ha hc]; exact hm

theorem fillB_W (a : A) (b : Bd) : fillB a b = fillW (valB b) a := rfl

theorem rawB_sound {list : List A} (hl : ∀ x ∈ list, Gr x) (body : List Pt) : ∀ k, k ≤ body.length → ∀ b ∈ rawB list (body.take k), ∀ p ∈ body.take k, p.no = false → Cov b p.atom.args ∧ fillB p.atom b ∈ list := by
  intro k
  induction k with
  | zero => intro _ b _ p hp; simp at hp
  | succ k ih =>
    intro hk b hb p hp hno
    rw [rawB_snoc list body k (by omega)] at hb
    rw [List.take_succ_eq_append_getElem (by omega)] at hp
    unfold stepB at hb
    split at hb
    · rename_i hn
      rcases List.mem_append.1 hp with hp | hp
      · exact ih (by omega) b hb p hp hno
      · rw [List.mem_singleton.1 hp] at hno; rw [hno] at hn; cases hn
    · obtain ⟨b0, h0, hb0⟩ := List.mem_flatMap.1 hb
      unfold fits1 at hb0
      obtain ⟨f, hf, e⟩ := List.mem_filterMap.1 hb0
      split at e
      · rename_i hm
        cases e
        rcases List.mem_append.1 hp with hp | hp
        · obtain ⟨h1, h2⟩ := ih (by omega) b0 h0 p hp hno
          refine ⟨(matchB_le _ _ _).cov h1, ?_⟩
          rw [fillB_le h1 (matchB_le _ _ _)]; exact h2
        · rw [List.mem_singleton.1 hp]
          obtain ⟨h1, h2⟩ := matchB_fill (hl f hf) hm
          exact ⟨h1, by rw [h2]; exact hf⟩
      · cases e

theorem rawB_whole {list : List A} {σ : Wo} (body : List Pt) (hp : ∀ p ∈ body, p.no = false → fillW σ p.atom ∈ list) : ∀ k, k ≤ body.length → ∃ b ∈ rawB list (body.take k), Agr b σ := by
  intro k
  induction k with
  | zero => intro _; exact ⟨[], by simp [rawB], fun n v h => by simp [getB] at h⟩
  | succ k ih =>
    intro hk
    obtain ⟨b, hb, ha⟩ := ih (by omega)
    rw [rawB_snoc list body k (by omega)]
    unfold stepB
    split
    · exact ⟨b, hb, ha⟩
    · rename_i hn
      have hin := hp body[k] (List.getElem_mem (by omega)) (by simpa using hn)
      obtain ⟨h1, h2⟩ := matchB_words ha (rfl : fillW σ body[k].atom = _)
      refine ⟨_, List.mem_flatMap.2 ⟨b, hb, ?_⟩, h2⟩
      unfold fits1
      exact List.mem_filterMap.2 ⟨_, hin, by rw [if_pos h1]⟩

/-- A rule whose variables all lie in what must be. -/
def Tight (r : Ru) : Prop := ∀ x, (varIn x r.head.args ∨ ∃ p ∈ r.body, varIn x p.atom.args) → ∃ p ∈ r.body, p.no = false ∧ varIn x p.atom.args

theorem cov_tight {r : Ru} (ht : Tight r) {b : Bd} (hb : ∀ p ∈ r.body, p.no = false → Cov b p.atom.args) : Cov b r.head.args ∧ ∀ p ∈ r.body, Cov b p.atom.args := by
  have h : ∀ x, (varIn x r.head.args ∨ ∃ p ∈ r.body, varIn x p.atom.args) → (getB b x).isSome = true := fun x hx => by
    obtain ⟨p, hp, hn, t, h1, h2, rfl⟩ := ht x hx
    exact hb p hp hn t h1 h2
  exact ⟨fun t h1 h2 => h _ (.inl ⟨t, h1, h2, rfl⟩), fun p hp t h1 h2 => h _ (.inr ⟨p, hp, t, h1, h2, rfl⟩)⟩

theorem allB_fol {list : List A} (hl : ∀ x ∈ list, Gr x) {r : Ru} (ht : Tight r) (a : A) : (∃ b ∈ allB list r.body, fillB r.head b = a) ↔ Fol list r a := by
  constructor
  · rintro ⟨b, hb, rfl⟩
    unfold allB at hb
    obtain ⟨h1, h2⟩ := List.mem_filter.1 hb
    have hs := rawB_sound hl r.body r.body.length (Nat.le_refl _)
    rw [List.take_of_length_le (Nat.le_refl _)] at hs
    have hs := hs b h1
    refine ⟨valB b, fillB_W _ _, fun p hp => ?_⟩
    cases hn : p.no
    · rw [← fillB_W]
      exact hasB_mem (hs p hp hn).2
    · unfold freeB at h2
      have := List.all_eq_true.1 h2 p hp
      rw [hn] at this
      rw [← fillB_W]
      simpa using this
  · rintro ⟨σ, rfl, hp⟩
    have hpos : ∀ p ∈ r.body, p.no = false → fillW σ p.atom ∈ list := fun p h hn => (hasB_gr hl (gr_fill _ _)).1 (by rw [hp p h, hn]; rfl)
    have hw := rawB_whole (list := list) (σ := σ) r.body hpos r.body.length (Nat.le_refl _)
    have hs := rawB_sound hl r.body r.body.length (Nat.le_refl _)
    rw [List.take_of_length_le (Nat.le_refl _)] at hw hs
    obtain ⟨b, hb, ha⟩ := hw
    obtain ⟨hc1, hc2⟩ := cov_tight ht fun p h hn => (hs b hb p h hn).1
    refine ⟨b, ?_, fillB_cov hc1 ha⟩
    unfold allB
    refine List.mem_filter.2 ⟨hb, ?_⟩
    unfold freeB
    refine List.all_eq_true.2 fun p h => ?_
    rw [fillB_cov (hc2 p h) ha, hp p h]
    cases p.no <;> rfl

end Go.Proofs.YtjjfafgaphloaaaGreatDoor.D
