/- What is wrong with rules: plain. -/
import Derived.Test.YtbcepahpehadeaaGreatDoorKind
import Derived.Test.YtbcepahpehadeaaGreatDoorBody
import Derived.Test.YtbcepahpehadeaaGreatDoorVarP
import Derived.Test.YtbcepahpehadeaaGreatDoorLevP
namespace Go.Proofs.YtbcepahpehadeaaGreatDoor.D
open Go.RowKit
set_option linter.unusedVariables false

/-! All atoms of rules. -/
def ruleAtoms (r : Ru) : List A := r.head :: r.body.map (·.atom)
def allAtoms (rs : List Ru) : List A := rs.flatMap ruleAtoms
def partAtoms (ps : List Pt) : List A := ps.map (·.atom)
theorem allAtoms_snoc (rs : List Ru) (k : Nat) (h : k < rs.length) : allAtoms (rs.take (k + 1)) = allAtoms (rs.take k) ++ [rs[k].head] ++ partAtoms rs[k].body := by
  rw [List.take_succ_eq_append_getElem h]; unfold allAtoms ruleAtoms partAtoms; simp only [List.flatMap_append, List.flatMap_cons, List.flatMap_nil, List.append_nil, List.append_assoc, List.cons_append, List.nil_append]
theorem partAtoms_snoc (ps : List Pt) (k : Nat) (h : k < ps.length) : partAtoms (ps.take (k + 1)) = partAtoms (ps.take k) ++ [ps[k].atom] := by
  rw [List.take_succ_eq_append_getElem h]; unfold partAtoms; simp only [List.map_append, List.map_cons, List.map_nil]
theorem partAtoms_len (ps : List Pt) : (partAtoms ps).length = ps.length := by unfold partAtoms; simp

/-! One number of terms for each name. -/
def argStep (st : List ByteArray × (ByteArray → Int) × Bool) (a : A) : List ByteArray × (ByteArray → Int) × Bool :=
  if a.name ∈ st.1 ∧ st.2.1 a.name ≠ a.args.length then (st.1, st.2.1, false) else (putNew st.1 a.name, fun t => if t = a.name then a.args.length else st.2.1 t, st.2.2)
def argSt (xs : List A) : List ByteArray × (ByteArray → Int) × Bool := xs.foldl argStep ([], fun _ => 0, true)
theorem argSt_snoc (xs : List A) (a : A) : argSt (xs ++ [a]) = argStep (argSt xs) a := by unfold argSt; rw [List.foldl_append]; rfl
def alikeB (xs : List A) : Bool := xs.all fun a => xs.all fun b => decide (a.name = b.name → a.args.length = b.args.length)
theorem argSt_is (xs : List A) : (∀ s, s ∈ (argSt xs).1 ↔ ∃ a ∈ xs, a.name = s) ∧ (argSt xs).1.length ≤ xs.length ∧ (∀ s ∈ (argSt xs).1, ∃ a ∈ xs, a.name = s ∧ (argSt xs).2.1 s = a.args.length) ∧
    ((argSt xs).2.2 = true ↔ ∀ a ∈ xs, (argSt xs).2.1 a.name = a.args.length) := by
  have key : ∀ (n : Nat) (xs : List A), xs.length = n → (∀ s, s ∈ (argSt xs).1 ↔ ∃ a ∈ xs, a.name = s) ∧ (argSt xs).1.length ≤ xs.length ∧ (∀ s ∈ (argSt xs).1, ∃ a ∈ xs, a.name = s ∧ (argSt xs).2.1 s = a.args.length) ∧
      ((argSt xs).2.2 = true ↔ ∀ a ∈ xs, (argSt xs).2.1 a.name = a.args.length) := by
    intro n
    induction n with
    | zero =>
      intro xs hx
      obtain rfl := List.length_eq_zero_iff.1 hx
      exact ⟨fun s => by simp [argSt], Nat.le_refl _, fun s h => by simp [argSt] at h, by simp [argSt]⟩
    | succ n ih =>
      intro xs hx
      obtain ⟨ys, a, rfl⟩ : ∃ ys a, xs = ys ++ [a] := by
        rcases List.eq_nil_or_concat xs with rfl | ⟨ys, a, rfl⟩
        · simp at hx
        · exact ⟨ys, a, by simp⟩
      obtain ⟨i1, i0, i2, i3⟩ := ih ys (by simpa using hx)
      rw [argSt_snoc]
      by_cases hc : a.name ∈ (argSt ys).1 ∧ (argSt ys).2.1 a.name ≠ a.args.length
      · have e : argStep (argSt ys) a = ((argSt ys).1, (argSt ys).2.1, false) := by unfold argStep; rw [if_pos hc]
        rw [e]
        refine ⟨fun s => ⟨fun h => ?_, fun h => ?_⟩, by simp; omega, fun s h => ?_, ⟨fun h => by simp at h, fun h => absurd (h a (by simp)) hc.2⟩⟩
        · obtain ⟨b, hb, e⟩ := (i1 s).1 h
          exact ⟨b, by simp [hb], e⟩
        · obtain ⟨b, hb, e⟩ := h
          rcases List.mem_append.1 hb with hb | hb
          · exact (i1 s).2 ⟨b, hb, e⟩
          · rw [List.mem_singleton.1 hb] at e
            rw [← e]; exact hc.1
        · obtain ⟨b, hb, e⟩ := i2 s h
          exact ⟨b, by simp [hb], e⟩
      · have e : argStep (argSt ys) a = (putNew (argSt ys).1 a.name, fun t => if t = a.name then (a.args.length : Int) else (argSt ys).2.1 t, (argSt ys).2.2) := by unfold argStep; rw [if_neg hc]
        rw [e]
        refine ⟨fun s => ?_, ?_, fun s h => ?_, ?_⟩
        · rw [putNew_mem, i1 s]
          simp only [List.mem_append, List.mem_singleton]
          constructor
          · rintro (⟨b, hb, e⟩ | rfl)
            · exact ⟨b, .inl hb, e⟩
            · exact ⟨a, .inr rfl, rfl⟩
          · rintro ⟨b, hb | rfl, e'⟩
            · exact .inl ⟨b, hb, e'⟩
            · exact .inr e'.symm
        · have : (putNew (argSt ys).1 a.name).length ≤ (argSt ys).1.length + 1 := by unfold putNew; split <;> simp
          simp; omega
        · dsimp only
          by_cases es : s = a.name
          · exact ⟨a, by simp, es.symm, by rw [if_pos es]⟩
          · rw [if_neg es]
            obtain ⟨b, hb, e⟩ := i2 s ((putNew_mem.1 h).resolve_right es)
            exact ⟨b, by simp [hb], e⟩
        · dsimp only
          rw [i3]
          constructor
          · intro h b hb
            by_cases eb : b.name = a.name
            · rw [if_pos eb]
              rcases List.mem_append.1 hb with hb | hb
              · have h1 : a.name ∈ (argSt ys).1 := (i1 _).2 ⟨b, hb, eb⟩
                have h2 : (argSt ys).2.1 a.name = a.args.length := Classical.byContradiction fun h => hc ⟨h1, h⟩
                have h3 := h b hb
                rw [eb] at h3
                rw [← h2, h3]
              · rw [List.mem_singleton.1 hb]
            · rw [if_neg eb]
              rcases List.mem_append.1 hb with hb | hb
              · exact h b hb
              · rw [List.mem_singleton.1 hb] at eb; exact absurd rfl eb
          · intro h b hb
            have h0 := h b (by simp [hb])
            by_cases eb : b.name = a.name
            · have h1 : a.name ∈ (argSt ys).1 := (i1 _).2 ⟨b, hb, eb⟩
              have h2 : (argSt ys).2.1 a.name = a.args.length := Classical.byContradiction fun h => hc ⟨h1, h⟩
              rw [if_pos eb] at h0
              rw [eb, h2, h0]
            · rw [if_neg eb] at h0
              exact h0
  exact key _ xs rfl
theorem argSt_alike (xs : List A) : (argSt xs).2.2 = alikeB xs := by
  obtain ⟨i1, _, i2, i3⟩ := argSt_is xs
  refine Bool.eq_iff_iff.2 (i3.trans ?_)
  unfold alikeB
  simp only [List.all_eq_true, decide_eq_true_eq]
  constructor
  · intro h a ha b hb e
    have h1 := h a ha
    have h2 := h b hb
    rw [e, h2] at h1
    exact_mod_cast h1.symm
  · intro h a ha
    obtain ⟨b, hb, e, h2⟩ := i2 a.name ((i1 _).2 ⟨a, ha, rfl⟩)
    rw [h2, h b hb a ha e]
theorem argSt_at {xs : List A} (h : alikeB xs = true) {a : A} (ha : a ∈ xs) : (argSt xs).2.1 a.name = a.args.length := (argSt_is xs).2.2.2.1 (by rw [argSt_alike]; exact h) a ha
theorem argSt_range {xs : List A} {m : Nat} (h : ∀ a ∈ xs, a.args.length ≤ m) {s : ByteArray} (hs : s ∈ (argSt xs).1) : 0 ≤ (argSt xs).2.1 s ∧ (argSt xs).2.1 s ≤ m := by
  obtain ⟨a, ha, _, e⟩ := (argSt_is xs).2.2.1 s hs
  have := h a ha
  omega
/-- The reference goes through pairs. -/
def clash (a b : A) : Bool := decide (a.name = b.name) && decide (a.args.length ≠ b.args.length)
theorem alike_pairs (xs : List A) : alikeB xs = !(xs.any fun a => xs.any fun b => clash a b) := by
  unfold alikeB clash
  simp only [List.all_eq_not_any_not]
  congr 2
  funext a
  simp only [Bool.not_not]
  congr 1
  funext b
  by_cases h1 : a.name = b.name <;> by_cases h2 : a.args.length = b.args.length <;> simp [h1, h2]
theorem clash_comm (a b : A) : clash a b = clash b a := by
  unfold clash
  rw [decide_eq_decide.2 (eq_comm : a.name = b.name ↔ b.name = a.name), decide_eq_decide.2 (ne_comm : a.args.length ≠ b.args.length ↔ b.args.length ≠ a.args.length)]
theorem clash_self (a : A) : clash a a = false := by simp [clash]
theorem alike_yes {xs : List A} (h : ∀ i, (hi : i < xs.length) → ∀ k, (hk : k < i) → clash xs[i] (xs[k]'(by omega)) = false) : alikeB xs = true := by
  rw [alike_pairs]
  simp only [Bool.not_eq_true', List.any_eq_false, Bool.not_eq_true]
  intro a ha b hb
  obtain ⟨i, hi, rfl⟩ := List.mem_iff_getElem.1 ha
  obtain ⟨k, hk, rfl⟩ := List.mem_iff_getElem.1 hb
  rcases Nat.lt_trichotomy i k with h1 | h1 | h1
  · rw [clash_comm]; exact h k hk i h1
  · subst h1; exact clash_self _
  · exact h i hi k h1
theorem alike_no {xs : List A} {i k : Nat} (hi : i < xs.length) (hk : k < xs.length) (h : clash xs[i] xs[k] = true) : alikeB xs = false := by
  rw [alike_pairs]
  simp only [Bool.not_eq_false', List.any_eq_true]
  exact ⟨_, List.getElem_mem hi, _, List.getElem_mem hk, h⟩

/-! What is wrong. -/
def progC (rs : List Ru) : Nat :=
  if rs.all ruleOk = false then 1 else if 8 < rs.length then 2 else if alikeB (allAtoms rs) = false then 3 else if (rs.all fun r => tightB r.head r.body) = false then 4 else if cycB rs = true then 5 else 0
theorem progC_le (rs : List Ru) : progC rs ≤ 5 := by unfold progC; repeat (first | omega | split)
structure Fine (rs : List Ru) : Prop where
  ok : rs.all ruleOk = true
  few : rs.length ≤ 8
  alike : alikeB (allAtoms rs) = true
  tight : (rs.all fun r => tightB r.head r.body) = true
  no : cycB rs = false
theorem fine_iff (rs : List Ru) : progC rs = 0 ↔ Fine rs := by
  unfold progC
  constructor
  · intro h
    split at h
    · omega
    · rename_i h1
      split at h
      · omega
      · rename_i h2
        split at h
        · omega
        · rename_i h3
          split at h
          · omega
          · rename_i h4
            split at h
            · omega
            · rename_i h5
              exact ⟨by simpa using h1, by omega, by simpa using h3, by simpa using h4, by simpa using h5⟩
  · rintro ⟨h1, h2, h3, h4, h5⟩
    rw [if_neg (by simp [h1]), if_neg (by omega), if_neg (by simp [h3]), if_neg (by simp [h4]), if_neg (by simp [h5])]
theorem ruleOk_args {r : Ru} (h : ruleOk r = true) : r.body.length ≤ 4 ∧ (∀ a ∈ ruleAtoms r, atomOk a = true) ∧ ∀ a ∈ ruleAtoms r, a.args.length ≤ 3 := by
  unfold ruleOk bodyOkB at h
  simp only [Bool.and_eq_true, decide_eq_true_eq, List.all_eq_true] at h
  have h1 : ∀ a ∈ ruleAtoms r, atomOk a = true := fun a ha => by
    unfold ruleAtoms at ha
    rcases List.mem_cons.1 ha with rfl | ha
    · exact h.2
    · obtain ⟨p, hp, rfl⟩ := List.mem_map.1 ha
      exact h.1.2 p hp
  exact ⟨h.1.1, h1, fun a ha => by
    have := h1 a ha
    unfold atomOk at this
    simp only [Bool.and_eq_true, decide_eq_true_eq] at this
    exact this.1.2⟩
theorem allAtoms_mem {rs : List Ru} {a : A} (h : a ∈ allAtoms rs) : ∃ r ∈ rs, a ∈ ruleAtoms r := by
  obtain ⟨r, hr, ha⟩ := List.mem_flatMap.1 h
  exact ⟨r, hr, ha⟩
theorem allAtoms_few {rs : List Ru} (h : rs.all ruleOk = true) : (∀ a ∈ allAtoms rs, a.args.length ≤ 3) ∧ (allAtoms rs).length ≤ 5 * rs.length := by
  refine ⟨fun a ha => ?_, ?_⟩
  · obtain ⟨r, hr, ha⟩ := allAtoms_mem ha
    exact (ruleOk_args (List.all_eq_true.1 h r hr)).2.2 a ha
  · unfold allAtoms
    induction rs with
    | nil => simp
    | cons r rs ih =>
      simp only [List.all_cons, Bool.and_eq_true] at h
      have h1 := (ruleOk_args h.1).1
      have h2 := ih h.2
      simp only [List.flatMap_cons, List.length_append, List.length_cons, ruleAtoms, List.length_map] at *
      omega
/-- The levels are small. -/
def low9 (n : Nat) (out : List Nat) (b : Nat) : Prop := out.length = n ∧ ∀ i, atL out i ≤ b

end Go.Proofs.YtbcepahpehadeaaGreatDoor.D
