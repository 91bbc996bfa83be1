/- Lists in order, by what they hold: plain. -/
import Derived.Laws.EntriesVeiled
import Derived.Deep.RegionHeld3
import Derived.Deep.RegionWith
import Derived.BigQuiet
import Derived.Deep.DrawnRows
import Derived.WalkKit
import Derived.WalkSpells
import Derived.WalkLawsBesides
import Derived.Lib.Hide
import Derived.Lib.IndexBytes
import Derived.Deep.Slices
import Derived.Deep.Fields
import Derived.ChangeSame
import Derived.Deep.Draws
import Derived.Lib.Bytealg
import Derived.Test.YtbppnelbjklpeaaMrg
namespace Go.Proofs.Ytbppnelbjklpeaa
open Go.RowKit D
set_option linter.unusedVariables false

namespace D
theorem cmpA_is : IsCmp (lexL cmpS) := lexL_is cmpS_is
theorem cmpA_vals (a b : A) : cmpA a b = -1 ∨ cmpA a b = 0 ∨ cmpA a b = 1 := by rw [cmpA_lex]; exact cmpA_is.vals _ _
theorem cmpA_key (a b : A) : cmpA a b = 0 ↔ keyA a = keyA b := by rw [cmpA_lex]; exact cmpA_is.eq _ _
theorem cmpA_refl (a : A) : cmpA a a = 0 := (cmpA_key a a).2 rfl
theorem cmpA_congr_left {a b : A} (h : cmpA a b = 0) (x : A) : cmpA a x = cmpA b x := by
  rw [cmpA_lex, cmpA_lex, (cmpA_key a b).1 h]
theorem cmpA_congr_right {a b : A} (h : cmpA a b = 0) (x : A) : cmpA x a = cmpA x b := by
  rw [cmpA_lex, cmpA_lex, (cmpA_key a b).1 h]
theorem hasB_congr {xs : List A} {a b : A} (h : cmpA a b = 0) : hasB xs a = hasB xs b := by
  unfold hasB; congr 1; funext x; rw [cmpA_congr_right h]
theorem anyVar_false {ts : List T} (h : anyVar ts = false) : ∀ t ∈ ts, t.var = false := by
  intro t ht
  have := List.any_eq_false.1 h t ht
  simpa using this
theorem terms_ext : ∀ {ts us : List T}, (∀ t ∈ ts, t.var = false) → (∀ t ∈ us, t.var = false) → ts.map (·.name) = us.map (·.name) → ts = us
  | [], [], _, _, _ => rfl
  | [], _ :: _, _, _, h => by simp at h
  | _ :: _, [], _, _, h => by simp at h
  | ⟨v, n⟩ :: ts, ⟨v', n'⟩ :: us, h1, h2, h => by
    simp only [List.map_cons, List.cons.injEq] at h
    have e1 := h1 _ (List.mem_cons_self ..)
    have e2 := h2 _ (List.mem_cons_self ..)
    dsimp only at e1 e2
    obtain ⟨rfl, h⟩ := h
    rw [e1, e2, terms_ext (fun t ht => h1 t (List.mem_cons_of_mem _ ht)) (fun t ht => h2 t (List.mem_cons_of_mem _ ht)) h]
theorem fact_vars {a : A} (h : isFactB a = true) : ∀ t ∈ a.args, t.var = false := by
  unfold isFactB at h
  simp only [Bool.and_eq_true, Bool.not_eq_true'] at h
  exact anyVar_false h.2
theorem fact_eq {a b : A} (ha : isFactB a = true) (hb : isFactB b = true) (h : cmpA a b = 0) : a = b := by
  have := (cmpA_key a b).1 h
  unfold keyA at this
  simp only [List.cons.injEq] at this
  obtain ⟨n, ts⟩ := a
  obtain ⟨m, us⟩ := b
  dsimp only at *
  obtain ⟨rfl, h2⟩ := this
  have e : ts = us := terms_ext (fact_vars ha) (fact_vars hb) h2
  rw [e]
theorem hasB_mem {xs : List A} {a : A} (h : a ∈ xs) : hasB xs a = true := by
  unfold hasB; rw [List.any_eq_true]; exact ⟨a, h, by simp [cmpA_refl]⟩
theorem hasB_iff {xs : List A} {a : A} : hasB xs a = true ↔ ∃ x ∈ xs, cmpA x a = 0 := by
  unfold hasB; simp [List.any_eq_true]
theorem hasB_fact {xs : List A} (hx : ∀ x ∈ xs, isFactB x = true) {a : A} (ha : isFactB a = true) : hasB xs a = true ↔ a ∈ xs := by
  refine ⟨fun h => ?_, hasB_mem⟩
  obtain ⟨x, hm, hc⟩ := hasB_iff.1 h
  rw [← fact_eq (hx x hm) ha hc]; exact hm
theorem hasB_cons (x : A) (xs : List A) (a : A) : hasB (x :: xs) a = (decide (cmpA x a = 0) || hasB xs a) := by simp [hasB]
theorem hasB_append (xs ys : List A) (a : A) : hasB (xs ++ ys) a = (hasB xs a || hasB ys a) := by simp [hasB]
theorem asc_cons {x : A} {xs : List A} (h : ∀ y ∈ xs, cmpA x y < 0) (hs : asc xs = true) : asc (x :: xs) = true := by
  cases xs with
  | nil => rfl
  | cons y ys => simp only [asc, Bool.and_eq_true, decide_eq_true_eq]; exact ⟨h y (List.mem_cons_self ..), hs⟩
theorem asc_append : ∀ {xs ys : List A}, asc xs = true → asc ys = true → (∀ x ∈ xs, ∀ y ∈ ys, cmpA x y < 0) → asc (xs ++ ys) = true
  | [], ys, _, h, _ => h
  | x :: xs, ys, h1, h2, h => by
    refine asc_cons (fun z hz => ?_) (asc_append (asc_tail h1) h2 fun z hz y hy => h z (List.mem_cons_of_mem _ hz) y hy)
    rcases List.mem_append.1 hz with hz | hz
    · exact asc_head h1 z hz
    · exact h x (List.mem_cons_self ..) z hz
theorem asc_filter {p : A → Bool} : ∀ {xs : List A}, asc xs = true → asc (xs.filter p) = true
  | [], _ => rfl
  | x :: xs, h => by
    rw [List.filter_cons]
    split
    · exact asc_cons (fun y hy => asc_head h y (List.mem_filter.1 hy).1) (asc_filter (asc_tail h))
    · exact asc_filter (asc_tail h)
theorem asc_left : ∀ {xs ys : List A}, asc (xs ++ ys) = true → asc xs = true
  | [], _, _ => rfl
  | x :: xs, ys, h => asc_cons (fun y hy => asc_head h y (List.mem_append_left _ hy)) (asc_left (asc_tail h))
theorem asc_right : ∀ {xs ys : List A}, asc (xs ++ ys) = true → asc ys = true
  | [], _, h => h
  | x :: xs, ys, h => asc_right (asc_tail (x := x) (xs := xs ++ ys) h)
theorem asc_sub {xs ys : List A} (h : asc ys = true) (hs : List.Sublist xs ys) : asc xs = true := by
  induction hs with
  | slnil => rfl
  | cons a _ ih => exact ih (asc_tail h)
  | cons_cons a hs ih => exact asc_cons (fun y hy => asc_head h y (hs.subset hy)) (ih (asc_tail h))

/-- Lists in order that hold the same are the same. -/
theorem asc_ext : ∀ {xs ys : List A}, asc xs = true → asc ys = true → (∀ x ∈ xs, isFactB x = true) → (∀ x ∈ ys, isFactB x = true) → (∀ a, hasB xs a = hasB ys a) → xs = ys
  | [], [], _, _, _, _, _ => rfl
  | [], y :: ys, _, _, _, _, h => by have := h y; rw [hasB_mem (List.mem_cons_self ..)] at this; simp [hasB] at this
  | x :: xs, [], _, _, _, _, h => by have := h x; rw [hasB_mem (List.mem_cons_self ..)] at this; simp [hasB] at this
  | x :: xs, y :: ys, hx, hy, fx, fy, h => by
    have h1 : cmpA y x ≤ 0 := by
      obtain ⟨z, hz, hc⟩ := hasB_iff.1 ((h x).symm.trans (hasB_mem (List.mem_cons_self ..)))
      rcases List.mem_cons.1 hz with rfl | hz
      · omega
      · have := asc_head hy z hz
        rw [cmpA_congr_right hc] at this; omega
    have h2 : cmpA x y ≤ 0 := by
      obtain ⟨z, hz, hc⟩ := hasB_iff.1 ((h y).trans (hasB_mem (List.mem_cons_self ..)))
      rcases List.mem_cons.1 hz with rfl | hz
      · omega
      · have := asc_head hx z hz
        rw [cmpA_congr_right hc] at this; omega
    have h3 := cmpA_anti x y
    obtain rfl := fact_eq (fx x (List.mem_cons_self ..)) (fy y (List.mem_cons_self ..)) (by omega)
    rw [asc_ext (asc_tail hx) (asc_tail hy) (fun z hz => fx z (List.mem_cons_of_mem _ hz)) (fun z hz => fy z (List.mem_cons_of_mem _ hz)) fun a => ?_]
    have := h a
    rw [hasB_cons, hasB_cons] at this
    by_cases hc : cmpA x a = 0
    · rw [← hasB_congr hc, ← hasB_congr hc, hasB_not (asc_head hx), hasB_not (asc_head hy)]
    · simpa [hc] using this

/-- One more. -/
def insA (xs : List A) (a : A) : List A := if hasB xs a then xs else xs.take (pl xs a) ++ a :: xs.drop (pl xs a)
/-- One less. -/
def delA (xs : List A) (a : A) : List A := if hasB xs a then xs.take (pl xs a) ++ xs.drop (pl xs a + 1) else xs
/-- What is not among others. -/
def lessL (xs ys : List A) : List A := xs.filter fun x => !hasB ys x

theorem pl_split : ∀ {xs : List A} (hs : asc xs = true) (a : A), (∀ x ∈ xs.take (pl xs a), cmpA x a < 0) ∧ (∀ x ∈ xs.drop (pl xs a), ¬ cmpA x a < 0) ∧ pl xs a ≤ xs.length
  | [], _, a => by simp [pl]
  | x :: xs, hs, a => by
    obtain ⟨h1, h2, h3⟩ := pl_split (asc_tail hs) a
    by_cases hc : cmpA x a < 0
    · have : pl (x :: xs) a = pl xs a + 1 := by unfold pl; rw [List.countP_cons_of_pos (by simpa [lessA] using hc)]
      rw [this]
      refine ⟨fun z hz => ?_, fun z hz => h2 z (by simpa using hz), by simpa using h3⟩
      rw [List.take_succ_cons] at hz
      rcases List.mem_cons.1 hz with rfl | hz
      · exact hc
      · exact h1 z hz
    · have h0 : ∀ z ∈ x :: xs, ¬ cmpA z a < 0 := by
        intro z hz hza
        rcases List.mem_cons.1 hz with rfl | hz
        · exact hc hza
        · exact hc (cmpA_lt_le (asc_head hs z hz) (by omega))
      have : pl (x :: xs) a = 0 := by unfold pl; rw [List.countP_eq_zero]; intro z hz; have := h0 z hz; simp [lessA]; omega
      rw [this]
      exact ⟨fun z hz => by simp at hz, fun z hz => h0 z (by simpa using hz), by simp⟩
theorem hasB_split (xs : List A) (n : Nat) (b : A) : hasB xs b = (hasB (xs.take n) b || hasB (xs.drop n) b) := by
  conv => lhs; rw [← List.take_append_drop n xs]
  exact hasB_append _ _ _
theorem hasB_ins (xs : List A) (a b : A) : hasB (insA xs a) b = (hasB xs b || decide (cmpA a b = 0)) := by
  unfold insA
  split
  · rename_i h
    by_cases hc : cmpA a b = 0
    · rw [← hasB_congr hc, h]; rfl
    · simp [hc]
  · rw [hasB_append, hasB_cons, hasB_split xs (pl xs a) b]
    cases hasB (xs.take (pl xs a)) b <;> cases hasB (xs.drop (pl xs a)) b <;> simp
theorem asc_ins {xs : List A} (hs : asc xs = true) (a : A) : asc (insA xs a) = true := by
  unfold insA
  split
  · exact hs
  · rename_i h
    obtain ⟨h1, h2, _⟩ := pl_split hs a
    have h3 : ∀ x ∈ xs.drop (pl xs a), cmpA a x < 0 := by
      intro x hx
      have g1 := h2 x hx
      have g2 : cmpA x a ≠ 0 := fun e => h (hasB_iff.2 ⟨x, List.mem_of_mem_drop hx, e⟩)
      have := cmpA_anti x a
      have := cmpA_vals x a
      omega
    refine asc_append (asc_sub hs (List.take_sublist _ _)) (asc_cons h3 (asc_sub hs (List.drop_sublist _ _))) fun x hx y hy => ?_
    rcases List.mem_cons.1 hy with rfl | hy
    · exact h1 x hx
    · exact cmpA_lt_le (h1 x hx) (by have := h3 y hy; omega)
theorem mem_ins {xs : List A} {a x : A} (h : x ∈ insA xs a) : x ∈ xs ∨ x = a := by
  unfold insA at h
  split at h
  · exact .inl h
  · rcases List.mem_append.1 h with h | h
    · exact .inl (List.mem_of_mem_take h)
    · rcases List.mem_cons.1 h with rfl | h
      · exact .inr rfl
      · exact .inl (List.mem_of_mem_drop h)
theorem ins_length {xs : List A} {a : A} (h : hasB xs a = false) : (insA xs a).length = xs.length + 1 := by
  unfold insA
  rw [if_neg (by simp [h]), List.length_append, List.length_cons]
  have := congrArg List.length (List.take_append_drop (pl xs a) xs)
  rw [List.length_append] at this
  omega
theorem ins_length_le (xs : List A) (a : A) : (insA xs a).length ≤ xs.length + 1 := by
  cases h : hasB xs a
  · rw [ins_length h]; omega
  · unfold insA; rw [if_pos h]; omega
theorem asc_del {xs : List A} (hs : asc xs = true) (a : A) : asc (delA xs a) = true := by
  unfold delA
  split
  · rw [← List.eraseIdx_eq_take_drop_succ]; exact asc_sub hs (List.eraseIdx_sublist _ _)
  · exact hs
theorem mem_del {xs : List A} {a x : A} (h : x ∈ delA xs a) : x ∈ xs := by
  unfold delA at h
  split at h
  · rw [← List.eraseIdx_eq_take_drop_succ] at h; exact (List.eraseIdx_sublist _ _).subset h
  · exact h
theorem hasB_del {xs : List A} (hs : asc xs = true) (a b : A) : hasB (delA xs a) b = (hasB xs b && !decide (cmpA a b = 0)) := by
  unfold delA
  split
  · rename_i h
    obtain ⟨h1, h2, h3⟩ := pl_split hs a
    obtain ⟨z, hz, hc⟩ := hasB_iff.1 h
    have hlt : pl xs a < xs.length := by
      rcases Nat.lt_or_ge (pl xs a) xs.length with g | g
      · exact g
      · rw [List.take_of_length_le g] at h1
        have := h1 z hz; omega
    have hd := List.drop_eq_getElem_cons hlt
    have ha : cmpA xs[pl xs a] a = 0 := by
      rw [← List.take_append_drop (pl xs a) xs] at hz
      rcases List.mem_append.1 hz with hz | hz
      · have := h1 z hz; omega
      · have hs2 := asc_sub hs (List.drop_sublist (pl xs a) xs)
        rw [hd] at hz hs2
        rcases List.mem_cons.1 hz with rfl | hz
        · exact hc
        · have g1 := asc_head hs2 z hz
          rw [cmpA_congr_right hc] at g1
          exact absurd g1 (h2 _ (by rw [hd]; exact List.mem_cons_self ..))
    have hs3 := hs
    rw [← List.take_append_drop (pl xs a) xs, hd] at hs3
    rw [hasB_append, hasB_split xs (pl xs a) b, hd, hasB_cons, cmpA_congr_left ha]
    by_cases hab : cmpA a b = 0
    · have g1 : hasB (xs.take (pl xs a)) b = false := by
        unfold hasB; rw [List.any_eq_false]; intro x hx hxb
        simp only [decide_eq_true_eq] at hxb
        have := h1 x hx
        rw [cmpA_congr_right hab] at this; omega
      have g2 : hasB (xs.drop (pl xs a + 1)) b = false := by
        have hb0 : cmpA xs[pl xs a] b = 0 := by rw [cmpA_congr_left ha]; exact hab
        rw [← hasB_congr hb0]
        exact hasB_not (asc_head (asc_right hs3))
      simp [g1, g2, hab]
    · simp [hab]
  · rename_i h
    by_cases hc : cmpA a b = 0
    · rw [← hasB_congr hc, Bool.eq_false_iff.2 h]; rfl
    · simp [hc]
theorem del_length {xs : List A} (hs : asc xs = true) {a : A} (h : hasB xs a = true) : (delA xs a).length + 1 = xs.length := by
  obtain ⟨h1, h2, h3⟩ := pl_split hs a
  have hlt : pl xs a < xs.length := by
    rcases Nat.lt_or_ge (pl xs a) xs.length with g | g
    · exact g
    · obtain ⟨z, hz, hc⟩ := hasB_iff.1 h
      rw [List.take_of_length_le g] at h1
      have := h1 z hz; omega
  unfold delA
  rw [if_pos h, ← List.eraseIdx_eq_take_drop_succ, List.length_eraseIdx_of_lt hlt]
  omega
theorem hasB_less (xs ys : List A) (a : A) : hasB (lessL xs ys) a = (hasB xs a && !hasB ys a) := by
  rw [Bool.eq_iff_iff, Bool.and_eq_true, hasB_iff, hasB_iff]
  unfold lessL
  simp only [List.mem_filter, Bool.not_eq_true']
  constructor
  · rintro ⟨x, ⟨h1, h2⟩, h3⟩
    exact ⟨⟨x, h1, h3⟩, by rw [← hasB_congr h3]; exact h2⟩
  · rintro ⟨⟨x, h1, h3⟩, h2⟩
    exact ⟨x, ⟨h1, by rw [hasB_congr h3]; exact h2⟩, h3⟩
theorem mem_less {xs ys : List A} {x : A} (h : x ∈ lessL xs ys) : x ∈ xs := (List.mem_filter.1 h).1
theorem asc_less {xs ys : List A} (h : asc xs = true) : asc (lessL xs ys) = true := asc_filter h

/-- What merge hands out, all of it; and what is in the first alone. -/
def unionL (xs ys : List A) : List A := (mergeL xs ys).map (·.1)
def onlyL (xs ys : List A) : List A := ((mergeL xs ys).filter (fun p => p.2 == 0)).map (·.1)
theorem merge_mem : ∀ (n : Nat) (xs ys : List A), xs.length + ys.length ≤ n → ∀ p ∈ mergeL xs ys, p.1 ∈ xs ∨ p.1 ∈ ys := by
  intro n
  induction n with
  | zero =>
    intro xs ys hn
    obtain rfl : xs = [] := List.length_eq_zero_iff.1 (by omega)
    obtain rfl : ys = [] := List.length_eq_zero_iff.1 (by omega)
    rw [mergeL]; intro p hp; simp at hp
  | succ n ih =>
    intro xs ys hn p
    match xs, ys with
    | [], [] => rw [mergeL]; intro hp; simp at hp
    | [], y :: ys =>
      rw [mergeL]; intro hp
      rcases List.mem_cons.1 hp with rfl | hp
      · exact .inr (List.mem_cons_self ..)
      · exact (ih [] ys (by simp at hn ⊢; omega) p hp).imp id (List.mem_cons_of_mem _)
    | x :: xs, [] =>
      rw [mergeL]; intro hp
      rcases List.mem_cons.1 hp with rfl | hp
      · exact .inl (List.mem_cons_self ..)
      · exact (ih xs [] (by simp at hn ⊢; omega) p hp).imp (List.mem_cons_of_mem _) id
    | x :: xs, y :: ys =>
      by_cases h1 : cmpA x y < 0
      · rw [mergeL_lt h1]; intro hp
        rcases List.mem_cons.1 hp with rfl | hp
        · exact .inl (List.mem_cons_self ..)
        · exact (ih xs (y :: ys) (by simp at hn ⊢; omega) p hp).imp (List.mem_cons_of_mem _) id
      · by_cases h2 : 0 < cmpA x y
        · rw [mergeL_gt h2]; intro hp
          rcases List.mem_cons.1 hp with rfl | hp
          · exact .inr (List.mem_cons_self ..)
          · exact (ih (x :: xs) ys (by simp at hn ⊢; omega) p hp).imp id (List.mem_cons_of_mem _)
        · rw [mergeL_eq h1 h2]; intro hp
          rcases List.mem_cons.1 hp with rfl | hp
          · exact .inl (List.mem_cons_self ..)
          · exact (ih xs ys (by simp at hn ⊢; omega) p hp).imp (List.mem_cons_of_mem _) (List.mem_cons_of_mem _)
theorem union_mem {xs ys : List A} {x : A} (h : x ∈ unionL xs ys) : x ∈ xs ∨ x ∈ ys := by
  obtain ⟨p, hp, rfl⟩ := List.mem_map.1 h
  exact merge_mem _ xs ys (Nat.le_refl _) p hp
theorem merge_length : ∀ (n : Nat) (xs ys : List A), xs.length + ys.length ≤ n → (mergeL xs ys).length ≤ xs.length + ys.length := by
  intro n
  induction n with
  | zero =>
    intro xs ys hn
    obtain rfl : xs = [] := List.length_eq_zero_iff.1 (by omega)
    obtain rfl : ys = [] := List.length_eq_zero_iff.1 (by omega)
    rw [mergeL]; simp
  | succ n ih =>
    intro xs ys hn
    match xs, ys with
    | [], [] => rw [mergeL]; simp
    | [], y :: ys => rw [mergeL]; have := ih [] ys (by simp at hn ⊢; omega); simp at this ⊢; omega
    | x :: xs, [] => rw [mergeL]; have := ih xs [] (by simp at hn ⊢; omega); simp at this ⊢; omega
    | x :: xs, y :: ys =>
      by_cases h1 : cmpA x y < 0
      · rw [mergeL_lt h1]; have := ih xs (y :: ys) (by simp at hn ⊢; omega); simp at this ⊢; omega
      · by_cases h2 : 0 < cmpA x y
        · rw [mergeL_gt h2]; have := ih (x :: xs) ys (by simp at hn ⊢; omega); simp at this ⊢; omega
        · rw [mergeL_eq h1 h2]; have := ih xs ys (by simp at hn ⊢; omega); simp at this ⊢; omega
theorem union_length (xs ys : List A) : (unionL xs ys).length ≤ xs.length + ys.length := by
  unfold unionL; rw [List.length_map]; exact merge_length _ xs ys (Nat.le_refl _)
theorem union_asc : ∀ (n : Nat) (xs ys : List A), xs.length + ys.length ≤ n → asc xs = true → asc ys = true → asc (unionL xs ys) = true := by
  intro n
  induction n with
  | zero =>
    intro xs ys hn _ _
    obtain rfl : xs = [] := List.length_eq_zero_iff.1 (by omega)
    obtain rfl : ys = [] := List.length_eq_zero_iff.1 (by omega)
    unfold unionL; rw [mergeL]; rfl
  | succ n ih =>
    intro xs ys hn hx hy
    match xs, ys with
    | [], [] => unfold unionL; rw [mergeL]; rfl
    | [], y :: ys =>
      have h := ih [] ys (by simp at hn ⊢; omega) rfl (asc_tail hy)
      have e : unionL [] (y :: ys) = y :: unionL [] ys := by unfold unionL; rw [mergeL]; rfl
      rw [e]
      exact asc_cons (fun z hz => (union_mem hz).elim (fun h => by simp at h) (asc_head hy z)) h
    | x :: xs, [] =>
      have h := ih xs [] (by simp at hn ⊢; omega) (asc_tail hx) rfl
      have e : unionL (x :: xs) [] = x :: unionL xs [] := by unfold unionL; rw [mergeL]; rfl
      rw [e]
      exact asc_cons (fun z hz => (union_mem hz).elim (asc_head hx z) (fun h => by simp at h)) h
    | x :: xs, y :: ys =>
      by_cases h1 : cmpA x y < 0
      · have h := ih xs (y :: ys) (by simp at hn ⊢; omega) (asc_tail hx) hy
        have e : unionL (x :: xs) (y :: ys) = x :: unionL xs (y :: ys) := by unfold unionL; rw [mergeL_lt h1]; rfl
        rw [e]
        refine asc_cons (fun z hz => (union_mem hz).elim (asc_head hx z) fun hz => ?_) h
        rcases List.mem_cons.1 hz with rfl | hz
        · exact h1
        · exact cmpA_lt_le h1 (by have := asc_head hy z hz; omega)
      · by_cases h2 : 0 < cmpA x y
        · have h := ih (x :: xs) ys (by simp at hn ⊢; omega) hx (asc_tail hy)
          have hyx : cmpA y x < 0 := by rw [cmpA_anti x y]; omega
          have e : unionL (x :: xs) (y :: ys) = y :: unionL (x :: xs) ys := by unfold unionL; rw [mergeL_gt h2]; rfl
          rw [e]
          refine asc_cons (fun z hz => (union_mem hz).elim (fun hz => ?_) (asc_head hy z)) h
          rcases List.mem_cons.1 hz with rfl | hz
          · exact hyx
          · exact cmpA_lt_le hyx (by have := asc_head hx z hz; omega)
        · have h := ih xs ys (by simp at hn ⊢; omega) (asc_tail hx) (asc_tail hy)
          have hxy : cmpA x y = 0 := by omega
          have e : unionL (x :: xs) (y :: ys) = x :: unionL xs ys := by unfold unionL; rw [mergeL_eq h1 h2]; rfl
          rw [e]
          exact asc_cons (fun z hz => (union_mem hz).elim (asc_head hx z) fun hz => by rw [cmpA_congr_left hxy]; exact asc_head hy z hz) h
theorem asc_union {xs ys : List A} (hx : asc xs = true) (hy : asc ys = true) : asc (unionL xs ys) = true := union_asc _ xs ys (Nat.le_refl _) hx hy
theorem union_has : ∀ (n : Nat) (xs ys : List A), xs.length + ys.length ≤ n → ∀ a, hasB (unionL xs ys) a = (hasB xs a || hasB ys a) := by
  intro n
  induction n with
  | zero =>
    intro xs ys hn
    obtain rfl : xs = [] := List.length_eq_zero_iff.1 (by omega)
    obtain rfl : ys = [] := List.length_eq_zero_iff.1 (by omega)
    unfold unionL; rw [mergeL]; intro a; rfl
  | succ n ih =>
    intro xs ys hn a
    match xs, ys with
    | [], [] => unfold unionL; rw [mergeL]; rfl
    | [], y :: ys =>
      have h := ih [] ys (by simp at hn ⊢; omega) a
      have e : unionL [] (y :: ys) = y :: unionL [] ys := by unfold unionL; rw [mergeL]; rfl
      rw [e, hasB_cons, hasB_cons, h]; cases decide (cmpA y a = 0) <;> simp [hasB]
    | x :: xs, [] =>
      have h := ih xs [] (by simp at hn ⊢; omega) a
      have e : unionL (x :: xs) [] = x :: unionL xs [] := by unfold unionL; rw [mergeL]; rfl
      rw [e, hasB_cons, hasB_cons, h, Bool.or_assoc]
    | x :: xs, y :: ys =>
      by_cases h1 : cmpA x y < 0
      · have h := ih xs (y :: ys) (by simp at hn ⊢; omega) a
        have e : unionL (x :: xs) (y :: ys) = x :: unionL xs (y :: ys) := by unfold unionL; rw [mergeL_lt h1]; rfl
        rw [e, hasB_cons, hasB_cons, h, Bool.or_assoc]
      · by_cases h2 : 0 < cmpA x y
        · have h := ih (x :: xs) ys (by simp at hn ⊢; omega) a
          have e : unionL (x :: xs) (y :: ys) = y :: unionL (x :: xs) ys := by unfold unionL; rw [mergeL_gt h2]; rfl
          rw [e, hasB_cons, h, hasB_cons y ys]
          cases decide (cmpA y a = 0) <;> cases hasB (x :: xs) a <;> rfl
        · have h := ih xs ys (by simp at hn ⊢; omega) a
          have hxy : cmpA x y = 0 := by omega
          have e : unionL (x :: xs) (y :: ys) = x :: unionL xs ys := by unfold unionL; rw [mergeL_eq h1 h2]; rfl
          rw [e, hasB_cons, hasB_cons, hasB_cons, h, cmpA_congr_left hxy]
          cases decide (cmpA y a = 0) <;> cases hasB xs a <;> rfl
theorem hasB_union (xs ys : List A) (a : A) : hasB (unionL xs ys) a = (hasB xs a || hasB ys a) := union_has _ xs ys (Nat.le_refl _) a
theorem only_less : ∀ (n : Nat) (xs ys : List A), xs.length + ys.length ≤ n → asc xs = true → asc ys = true → onlyL xs ys = lessL xs ys := by
  intro n
  induction n with
  | zero =>
    intro xs ys hn _ _
    obtain rfl : xs = [] := List.length_eq_zero_iff.1 (by omega)
    obtain rfl : ys = [] := List.length_eq_zero_iff.1 (by omega)
    unfold onlyL; rw [mergeL]; rfl
  | succ n ih =>
    intro xs ys hn hx hy
    match xs, ys with
    | [], [] => unfold onlyL; rw [mergeL]; rfl
    | [], y :: ys =>
      have h := ih [] ys (by simp at hn ⊢; omega) rfl (asc_tail hy)
      have e : onlyL [] (y :: ys) = onlyL [] ys := by unfold onlyL; rw [mergeL]; rfl
      rw [e, h]; rfl
    | x :: xs, [] =>
      have h := ih xs [] (by simp at hn ⊢; omega) (asc_tail hx) rfl
      have e : onlyL (x :: xs) [] = x :: onlyL xs [] := by unfold onlyL; rw [mergeL]; rfl
      rw [e, h]; simp [lessL, hasB]
    | x :: xs, y :: ys =>
      by_cases h1 : cmpA x y < 0
      · have h := ih xs (y :: ys) (by simp at hn ⊢; omega) (asc_tail hx) hy
        have e : onlyL (x :: xs) (y :: ys) = x :: onlyL xs (y :: ys) := by unfold onlyL; rw [mergeL_lt h1]; rfl
        have hn : hasB (y :: ys) x = false := hasB_not fun z hz => by
          rcases List.mem_cons.1 hz with rfl | hz
          · exact h1
          · exact cmpA_lt_le h1 (by have := asc_head hy z hz; omega)
        rw [e, h]; simp [lessL, hn]
      · by_cases h2 : 0 < cmpA x y
        · have h := ih (x :: xs) ys (by simp at hn ⊢; omega) hx (asc_tail hy)
          have hyx : cmpA y x < 0 := by rw [cmpA_anti x y]; omega
          have e : onlyL (x :: xs) (y :: ys) = onlyL (x :: xs) ys := by unfold onlyL; rw [mergeL_gt h2]; rfl
          rw [e, h]
          unfold lessL
          refine List.filter_congr fun z hz => ?_
          have : cmpA y z < 0 := by
            rcases List.mem_cons.1 hz with rfl | hz
            · exact hyx
            · exact cmpA_lt_le hyx (by have := asc_head hx z hz; omega)
          rw [hasB_cons, decide_eq_false (by omega)]; rfl
        · have h := ih xs ys (by simp at hn ⊢; omega) (asc_tail hx) (asc_tail hy)
          have hxy : cmpA x y = 0 := by omega
          have e : onlyL (x :: xs) (y :: ys) = onlyL xs ys := by unfold onlyL; rw [mergeL_eq h1 h2]; rfl
          have hyx : cmpA y x = 0 := by rw [cmpA_anti x y]; omega
          rw [e, h]
          unfold lessL
          rw [List.filter_cons, hasB_cons, decide_eq_true hyx]
          simp only [Bool.true_or, Bool.not_true, Bool.false_eq_true, if_false]
          refine List.filter_congr fun z hz => ?_
          have : cmpA y z < 0 := by rw [← cmpA_congr_left hxy]; exact asc_head hx z hz
          rw [hasB_cons, decide_eq_false (by omega)]; rfl
theorem onlyL_less {xs ys : List A} (hx : asc xs = true) (hy : asc ys = true) : onlyL xs ys = lessL xs ys := only_less _ xs ys (Nat.le_refl _) hx hy

/-- One after the other put in. -/
def putsA (xs ys : List A) : List A := ys.foldl insA xs
theorem asc_puts : ∀ {ys xs : List A}, asc xs = true → asc (putsA xs ys) = true
  | [], _, h => h
  | y :: ys, xs, h => asc_puts (ys := ys) (asc_ins h y)
theorem hasB_puts : ∀ (ys xs : List A) (a : A), hasB (putsA xs ys) a = (hasB xs a || hasB ys a)
  | [], xs, a => by simp [putsA, hasB]
  | y :: ys, xs, a => by
    show hasB (putsA (insA xs y) ys) a = _
    rw [hasB_puts ys, hasB_ins, hasB_cons, Bool.or_assoc]
theorem mem_puts : ∀ {ys xs : List A} {x : A}, x ∈ putsA xs ys → x ∈ xs ∨ x ∈ ys
  | [], _, _, h => .inl h
  | y :: ys, xs, x, h => by
    rcases mem_puts (ys := ys) (xs := insA xs y) h with h | h
    · rcases mem_ins h with h | rfl
      · exact .inl h
      · exact .inr (List.mem_cons_self ..)
    · exact .inr (List.mem_cons_of_mem _ h)
theorem puts_length : ∀ (ys xs : List A), (putsA xs ys).length ≤ xs.length + ys.length
  | [], xs => by simp [putsA]
  | y :: ys, xs => by
    have h1 := puts_length ys (insA xs y)
    have h2 := ins_length_le xs y
    simp only [List.length_cons]
    show (putsA (insA xs y) ys).length ≤ _
    omega
theorem union_puts {xs ys : List A} (hx : asc xs = true) (hy : asc ys = true) (fx : ∀ x ∈ xs, isFactB x = true) (fy : ∀ x ∈ ys, isFactB x = true) : unionL xs ys = putsA xs ys :=
  asc_ext (asc_union hx hy) (asc_puts hx) (fun z hz => (union_mem hz).elim (fx z) (fy z)) (fun z hz => (mem_puts hz).elim (fx z) (fy z)) fun a => by rw [hasB_union, hasB_puts]
theorem union_comm {xs ys : List A} (hx : asc xs = true) (hy : asc ys = true) (fx : ∀ x ∈ xs, isFactB x = true) (fy : ∀ x ∈ ys, isFactB x = true) : unionL xs ys = putsA ys xs :=
  asc_ext (asc_union hx hy) (asc_puts hy) (fun z hz => (union_mem hz).elim (fx z) (fy z)) (fun z hz => (mem_puts hz).elim (fy z) (fx z)) fun a => by rw [hasB_union, hasB_puts, Bool.or_comm]
theorem less_one {xs : List A} (hs : asc xs = true) (fx : ∀ x ∈ xs, isFactB x = true) (a : A) : lessL xs [a] = delA xs a :=
  asc_ext (asc_less hs) (asc_del hs a) (fun z hz => fx z (mem_less hz)) (fun z hz => fx z (mem_del hz)) fun b => by rw [hasB_less, hasB_del hs]; simp [hasB]
end D

end Go.Proofs.Ytbppnelbjklpeaa
