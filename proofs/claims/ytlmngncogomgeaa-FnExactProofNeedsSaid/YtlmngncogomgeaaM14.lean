/- Of the proof of FnExactProofNeeds: NdsP. -/
import Derived.Test.YtlmngncogomgeaaM09
namespace Go.Proofs.Ytlmngncogomgeaa.D
open Go.RowKit Go.Sort
set_option linter.unusedVariables false
/-- The given facts of a proof, its own ahead. -/
def givL : Pf → List A
  | .mk a r ks => (if r = -1 then [a] else []) ++ (ks.attach.map fun ⟨k, hk⟩ => givL k).flatten
  termination_by p => SizeOf.sizeOf p
  decreasing_by exact Pf.sizeOf_kid hk

theorem givL_eq (p : Pf) : givL p = (if p.rule = -1 then [p.fact] else []) ++ p.kids.flatMap givL := by
  obtain ⟨a, r, ks⟩ := p
  rw [givL, show (ks.attach.map fun ⟨k, hk⟩ => givL k) = ks.map givL from by exact List.attach_map_val (l := ks) (f := givL)]
  simp only [Pf.fact, Pf.kids, Pf.rule, List.flatMap]
  rfl

theorem givL_len : ∀ p : Pf, (givL p).length ≤ sizePf p := Pf.ind fun p ih => by
  have h : ∀ ks : List Pf, (∀ k ∈ ks, (givL k).length ≤ sizePf k) → (ks.flatMap givL).length ≤ sumL sizePf ks := by
    intro ks
    induction ks with
    | nil => intro _; simp [sumL]
    | cons k ks ih =>
      intro hk
      have h1 := hk k (List.mem_cons_self ..)
      have h2 := ih fun x hx => hk x (List.mem_cons_of_mem _ hx)
      simp only [sumL, List.map_cons, List.sum_cons, List.flatMap_cons, List.length_append] at *
      omega
  have := h p.kids ih
  rw [givL_eq, sizePf_eq, List.length_append]
  split
  · rw [List.length_singleton]; omega
  · rw [List.length_nil]; omega

/-- Facts put among others, one by one. -/
def putsI (out xs : List A) : List A := xs.foldl insA out

theorem putsI_append (out xs ys : List A) : putsI out (xs ++ ys) = putsI (putsI out xs) ys := by unfold putsI; rw [List.foldl_append]

theorem putsI_asc {out : List A} (h : asc out = true) (xs : List A) : asc (putsI out xs) = true := by
  induction xs generalizing out with
  | nil => exact h
  | cons x xs ih => exact ih (asc_ins h x)

theorem putsI_len (out xs : List A) : (putsI out xs).length ≤ out.length + xs.length := by
  induction xs generalizing out with
  | nil => simp [putsI]
  | cons x xs ih =>
    have h1 := ih (insA out x)
    have h2 := ins_length_le out x
    simp only [putsI, List.foldl_cons, List.length_cons] at *
    omega

/-- Those with one key. -/
def fk (κ : List ByteArray) (xs : List A) : List A := xs.filter fun x => decide (keyA x = κ)

theorem fk_append (κ : List ByteArray) (xs ys : List A) : fk κ (xs ++ ys) = fk κ xs ++ fk κ ys := List.filter_append ..

theorem fk_cons (κ : List ByteArray) (x : A) (xs : List A) : fk κ (x :: xs) = if keyA x = κ then x :: fk κ xs else fk κ xs := by
  unfold fk
  rw [List.filter_cons]
  by_cases h : keyA x = κ
  · rw [if_pos (by simpa using h), if_pos h]
  · rw [if_neg (by simpa using h), if_neg h]

theorem fk_none {xs : List A} {a : A} (h : hasB xs a = false) : fk (keyA a) xs = [] := by
  unfold fk
  rw [List.filter_eq_nil_iff]
  intro x hx he
  have h1 : hasB xs a = true := hasB_iff.2 ⟨x, hx, (cmpA_key x a).2 (by simpa using he)⟩
  rw [h] at h1; cases h1

theorem fk_some {xs : List A} {a : A} (h : hasB xs a = true) : fk (keyA a) xs ≠ [] := by
  obtain ⟨x, hx, hc⟩ := hasB_iff.1 h
  intro he
  have : x ∈ fk (keyA a) xs := List.mem_filter.2 ⟨hx, by simpa using (cmpA_key x a).1 hc⟩
  rw [he] at this; simp at this

theorem fk_ins {xs : List A} (a : A) (κ : List ByteArray) : fk κ (insA xs a) = if keyA a = κ ∧ fk κ xs = [] then [a] else fk κ xs := by
  unfold insA
  by_cases h : hasB xs a = true
  · rw [if_pos h, if_neg]
    rintro ⟨rfl, h2⟩
    exact fk_some h h2
  · have hf : hasB xs a = false := by simpa using h
    rw [if_neg h, fk_append, fk_cons]
    have e : fk κ (xs.take (pl xs a)) ++ fk κ (xs.drop (pl xs a)) = fk κ xs := by rw [← fk_append, List.take_append_drop]
    by_cases hk : keyA a = κ
    · subst hk
      have h0 := fk_none hf
      rw [h0] at e
      rw [if_pos rfl, if_pos ⟨rfl, h0⟩]
      have := List.append_eq_nil_iff.1 e
      rw [this.1, this.2]; rfl
    · rw [if_neg hk, if_neg (fun h => hk h.1), e]

theorem fk_puts (xs : List A) (out : List A) (κ : List ByteArray) (h : (fk κ out).length ≤ 1) : fk κ (putsI out xs) = (fk κ out ++ fk κ xs).take 1 := by
  induction xs generalizing out with
  | nil =>
    simp only [putsI, List.foldl_nil]
    show fk κ out = (fk κ out ++ fk κ []).take 1
    rw [show fk κ [] = [] from rfl, List.append_nil, List.take_of_length_le h]
  | cons x xs ih =>
    have e := fk_ins (xs := out) x κ
    have h2 : (fk κ (insA out x)).length ≤ 1 := by
      rw [e]; split
      · simp
      · exact h
    have h3 := ih (insA out x) h2
    show fk κ (putsI (insA out x) xs) = _
    rw [h3, e, fk_cons]
    cases ho : fk κ out with
    | nil =>
      by_cases hk : keyA x = κ
      · rw [if_pos ⟨hk, rfl⟩, if_pos hk]; rfl
      · rw [if_neg (fun h => hk h.1), if_neg hk]
    | cons o os =>
      rw [if_neg (by rintro ⟨_, h⟩; cases h)]
      rfl

/-- Ascending ones with the same of each key are one. -/
theorem asc_key : ∀ {xs ys : List A}, asc xs = true → asc ys = true → (∀ κ, fk κ xs = fk κ ys) → xs = ys
  | [], [], _, _, _ => rfl
  | [], y :: ys, _, _, h => by have := h (keyA y); rw [fk_cons, if_pos rfl] at this; cases this
  | x :: xs, [], _, _, h => by have := h (keyA x); rw [fk_cons, if_pos rfl] at this; cases this
  | x :: xs, y :: ys, hx, hy, h => by
    have m1 : x ∈ y :: ys := by
      have : x ∈ fk (keyA x) (y :: ys) := by rw [← h, fk_cons, if_pos rfl]; exact List.mem_cons_self ..
      exact (List.mem_filter.1 this).1
    have m2 : y ∈ x :: xs := by
      have : y ∈ fk (keyA y) (x :: xs) := by rw [h, fk_cons, if_pos rfl]; exact List.mem_cons_self ..
      exact (List.mem_filter.1 this).1
    have e : x = y := by
      rcases List.mem_cons.1 m1 with e | m1
      · exact e
      · rcases List.mem_cons.1 m2 with e | m2
        · exact e.symm
        · have a1 := asc_head hy x m1
          have a2 := asc_head hx y m2
          have := cmpA_anti x y
          omega
    subst e
    rw [asc_key (asc_tail hx) (asc_tail hy) fun κ => ?_]
    have := h κ
    rw [fk_cons, fk_cons] at this
    split at this
    · exact (List.cons.inj this).2
    · exact this

section
variable {α : Type} [Inhabited α] (t : α → A)
/-- What is kept of a row in order: ascending, the first of each key. -/
theorem kept_law {d : Array α} : ∀ m, Srt (fun x y => decide (cmpA (t x) (t y) < 0)) (seg d 0 m) → asc ((kepU (fun x y => decide (cmpA (t x) (t y) = 0)) d m).map t) = true ∧ (∀ x ∈ kepU (fun x y => decide (cmpA (t x) (t y) = 0)) d m, x ∈ seg d 0 m) ∧ ∀ κ, fk κ ((kepU (fun x y => decide (cmpA (t x) (t y) = 0)) d m).map t) = (fk κ ((seg d 0 m).map t)).take 1 := by
  intro m
  induction m with
  | zero => exact fun _ => ⟨rfl, fun x hx => by simp [kepU] at hx, fun κ => rfl⟩
  | succ m ih =>
    intro hs
    have hsg : seg d 0 (m + 1) = seg d 0 m ++ [d[m]!] := by rw [seg_append d (a := 0) (m := m) (b := m + 1) (Nat.zero_le _) (by omega), seg_one]
    obtain ⟨i1, i2, i3⟩ := ih (hs.sub (Nat.le_refl _) (by omega))
    have hle : ∀ i, i < m → ¬ cmpA (t d[m]!) (t d[i]!) < 0 := fun i hi => by
      have := srt_seg.1 hs i m (Nat.zero_le _) hi (by omega)
      simpa using this
    rw [kepU, hsg]
    by_cases hc : 0 < m ∧ decide (cmpA (t d[m]!) (t d[m - 1]!) = 0) = true
    · rw [if_pos hc]
      refine ⟨i1, fun x hx => List.mem_append_left _ (i2 x hx), fun κ => ?_⟩
      rw [i3, List.map_append, fk_append]
      by_cases hk : keyA (t d[m]!) = κ
      · have hk2 : keyA (t d[m - 1]!) = κ := by rw [← hk]; exact ((cmpA_key _ _).1 (by simpa using hc.2)).symm
        have hm : t d[m - 1]! ∈ fk κ ((seg d 0 m).map t) := List.mem_filter.2 ⟨List.mem_map.2 ⟨_, mem_seg.2 ⟨m - 1, Nat.zero_le _, by omega, rfl⟩, rfl⟩, by simpa using hk2⟩
        cases hf : fk κ ((seg d 0 m).map t) with
        | nil => rw [hf] at hm; simp at hm
        | cons a l => rfl
      · rw [show fk κ ([d[m]!].map t) = [] from by rw [List.map_cons, List.map_nil, fk_cons, if_neg hk]; rfl, List.append_nil]
    · rw [if_neg hc]
      have hlt : ∀ x ∈ seg d 0 m, cmpA (t x) (t d[m]!) < 0 := fun x hx => by
        obtain ⟨i, _, i2, rfl⟩ := mem_seg.1 hx
        have hm0 : 0 < m := by omega
        have h1 : cmpA (t d[m]!) (t d[m - 1]!) ≠ 0 := fun e => hc ⟨hm0, by simpa using e⟩
        have h2 := hle (m - 1) (by omega)
        have h3 := cmpA_anti (t d[m - 1]!) (t d[m]!)
        have h5 : ¬ cmpA (t d[m - 1]!) (t d[i]!) < 0 := by
          by_cases e : i = m - 1
          · rw [e, cmpA_refl]; omega
          · have := srt_seg.1 hs i (m - 1) (Nat.zero_le _) (by omega) (by omega)
            simpa using this
        have h6 := cmpA_anti (t d[m - 1]!) (t d[i]!)
        have h7 : cmpA (t d[m - 1]!) (t d[m]!) < 0 := by omega
        by_cases e0 : cmpA (t d[i]!) (t d[m - 1]!) < 0
        · exact cmpA_lt_le e0 (by omega)
        · have e1 : cmpA (t d[i]!) (t d[m - 1]!) = 0 := by omega
          have e2 := (cmpA_key _ _).1 e1
          rw [cmpA_lex, e2, ← cmpA_lex]
          exact h7
      refine ⟨?_, fun x hx => ?_, fun κ => ?_⟩
      · rw [List.map_append]
        refine asc_append i1 rfl fun x hx y hy => ?_
        obtain ⟨z, hz, rfl⟩ := List.mem_map.1 hx
        simp only [List.map_cons, List.map_nil, List.mem_singleton] at hy
        rw [hy]
        exact hlt z (i2 z hz)
      · rcases List.mem_append.1 hx with hx | hx
        · exact List.mem_append_left _ (i2 x hx)
        · exact List.mem_append_right _ hx
      · rw [List.map_append, List.map_append, fk_append, fk_append, i3]
        by_cases hk : keyA (t d[m]!) = κ
        · have h0 : fk κ ((seg d 0 m).map t) = [] := by
            unfold fk
            rw [List.filter_eq_nil_iff]
            intro x hx he
            obtain ⟨z, hz, rfl⟩ := List.mem_map.1 hx
            have h9 := hlt z hz
            have : cmpA (t z) (t d[m]!) = 0 := (cmpA_key _ _).2 ((by simpa using he : keyA (t z) = κ).trans hk.symm)
            omega
          rw [h0, List.map_cons, List.map_nil, fk_cons, if_pos hk]
          rfl
        · rw [show fk κ ([d[m]!].map t) = [] from by rw [List.map_cons, List.map_nil, fk_cons, if_neg hk]; rfl, List.append_nil, List.append_nil]

/-- A stable rearrangement has the same of each key. -/
theorem fk_stb {xs ys : List α} (hO : SWO (fun x y : α => decide (cmpA (t x) (t y) < 0))) (h : Stb (fun x y => decide (cmpA (t x) (t y) < 0)) xs ys) (κ : List ByteArray) : fk κ (ys.map t) = fk κ (xs.map t) := by
  have key : ∀ l : List α, fk κ (l.map t) = (l.filter fun x => decide (keyA (t x) = κ)).map t := fun l => by
    unfold fk
    rw [List.filter_map]; rfl
  rw [key, key]
  by_cases hx : ∃ x ∈ xs, keyA (t x) = κ
  · obtain ⟨x0, _, hk⟩ := hx
    have e : (fun x => decide (keyA (t x) = κ)) = eqv (fun x y => decide (cmpA (t x) (t y) < 0)) x0 := by
      funext x
      rw [Bool.eq_iff_iff, eqv_iff, decide_eq_true_eq, decide_eq_false_iff_not, decide_eq_false_iff_not, ← hk]
      have a1 := cmpA_anti (t x0) (t x)
      have a2 := cmpA_key (t x) (t x0)
      constructor
      · intro h; have := a2.2 h; omega
      · rintro ⟨h1, h2⟩; exact a2.1 (by omega)
    rw [e, h x0]
  · have n1 : xs.filter (fun x => decide (keyA (t x) = κ)) = [] := by
      rw [List.filter_eq_nil_iff]; intro x hx' he; exact hx ⟨x, hx', by simpa using he⟩
    have n2 : ys.filter (fun x => decide (keyA (t x) = κ)) = [] := by
      rw [List.filter_eq_nil_iff]; intro x hx' he; exact hx ⟨x, (h.mem hO).1 hx', by simpa using he⟩
    rw [n1, n2]

/-- Sorted stably and compacted: as put one by one. -/
theorem needs_law {d d' : Array α} {N : Nat} (hO : SWO (fun x y : α => decide (cmpA (t x) (t y) < 0))) (h : Mrg (fun x y => decide (cmpA (t x) (t y) < 0)) 0 N d d') : (kepU (fun x y => decide (cmpA (t x) (t y) = 0)) d' N).map t = putsI [] ((seg d 0 N).map t) := by
  obtain ⟨k1, _, k3⟩ := kept_law t (d := d') N h.srt
  refine asc_key k1 (putsI_asc rfl _) fun κ => ?_
  rw [k3, fk_puts _ _ _ (by simp [fk]), fk_stb t hO h.stb]
  rfl

end
end Go.Proofs.Ytlmngncogomgeaa.D
