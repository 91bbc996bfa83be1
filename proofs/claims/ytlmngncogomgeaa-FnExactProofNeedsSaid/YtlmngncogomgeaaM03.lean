/- Of the proof of FnExactProofNeeds: StbP, Sz. -/
import Derived.Sort.LotA
import Derived.Test.YtlmngncogomgeaaProg
import Derived.Test.YtlmngncogomgeaaM02
namespace Go.Proofs.Ytlmngncogomgeaa.D
open Go.Sort
set_option linter.unusedVariables false
section
variable {α : Type} [Inhabited α] {lt : α → α → Bool}
/-- Neither is less. -/
def eqv (lt : α → α → Bool) (x y : α) : Bool := !lt x y && !lt y x

omit [Inhabited α] in
theorem eqv_iff {x y : α} : eqv lt x y = true ↔ lt x y = false ∧ lt y x = false := by unfold eqv; simp

/-- A rearrangement that keeps alike ones as they stood. -/
def Stb (lt : α → α → Bool) (xs ys : List α) : Prop := ∀ z, ys.filter (eqv lt z) = xs.filter (eqv lt z)

def Srt (lt : α → α → Bool) (xs : List α) : Prop := xs.Pairwise fun x y => lt y x = false

omit [Inhabited α] in
theorem Stb.refl (xs : List α) : Stb lt xs xs := fun _ => rfl

omit [Inhabited α] in
theorem Stb.trans {xs ys zs : List α} (h : Stb lt xs ys) (k : Stb lt ys zs) : Stb lt xs zs := fun z => (k z).trans (h z)

omit [Inhabited α] in
theorem Stb.append {xs ys us vs : List α} (h : Stb lt xs ys) (k : Stb lt us vs) : Stb lt (xs ++ us) (ys ++ vs) := fun z => by
  rw [List.filter_append, List.filter_append, h z, k z]

end
theorem Stb.mem {α : Type} [Inhabited α] {lt : α → α → Bool} (hO : SWO lt) {xs ys : List α} (h : Stb lt xs ys) {x : α} : x ∈ ys ↔ x ∈ xs := by
  have e : eqv lt x x = true := eqv_iff.2 ⟨hO.irrefl x, hO.irrefl x⟩
  have h1 : x ∈ ys.filter (eqv lt x) ↔ x ∈ xs.filter (eqv lt x) := by rw [h x]
  simpa [List.mem_filter, e] using h1

/-- Two blocks change places where all of the second are less. -/
theorem Stb.swap {α : Type} [Inhabited α] {lt : α → α → Bool} (hO : SWO lt) {xs ys : List α} (h : ∀ x ∈ xs, ∀ y ∈ ys, lt y x = true) : Stb lt (xs ++ ys) (ys ++ xs) := fun z => by
  rw [List.filter_append, List.filter_append]
  cases hx : xs.filter (eqv lt z) with
  | nil => simp
  | cons a l =>
    have ha : a ∈ xs.filter (eqv lt z) := by rw [hx]; exact List.mem_cons_self ..
    obtain ⟨ha1, ha2⟩ := List.mem_filter.1 ha
    have hy : ys.filter (eqv lt z) = [] := by
      rw [List.filter_eq_nil_iff]
      intro y hy hyz
      have h1 := (eqv_iff.1 ha2).1
      have h2 := (eqv_iff.1 hyz).2
      have h3 := hO.ntrans _ _ _ h2 h1
      rw [h a ha1 y hy] at h3
      cases h3
    rw [hy]; simp

section
variable {α : Type} [Inhabited α] {lt : α → α → Bool}
omit [Inhabited α] in
theorem Srt.append {xs ys : List α} (h : Srt lt xs) (k : Srt lt ys) (hk : ∀ x ∈ xs, ∀ y ∈ ys, lt y x = false) : Srt lt (xs ++ ys) := List.pairwise_append.2 ⟨h, k, hk⟩

/-- What stands from a up to b. -/
def seg (d : Array α) (a b : Nat) : List α := (List.range' a (b - a)).map fun i => d[i]!

theorem seg_append (d : Array α) {a m b : Nat} (h1 : a ≤ m) (h2 : m ≤ b) : seg d a b = seg d a m ++ seg d m b := by
  unfold seg
  rw [← List.map_append, show b - a = (m - a) + (b - m) by omega, ← List.range'_append, show a + 1 * (m - a) = m by omega]

theorem seg_one (d : Array α) (a : Nat) : seg d a (a + 1) = [d[a]!] := by
  unfold seg
  rw [show a + 1 - a = 1 by omega]; rfl

theorem mem_seg {d : Array α} {a b : Nat} {x : α} : x ∈ seg d a b ↔ ∃ i, a ≤ i ∧ i < b ∧ d[i]! = x := by
  unfold seg
  rw [List.mem_map]
  constructor
  · rintro ⟨i, hi, e⟩
    have := List.mem_range'_1.1 hi
    exact ⟨i, this.1, by omega, e⟩
  · rintro ⟨i, h1, h2, e⟩
    exact ⟨i, List.mem_range'_1.2 ⟨h1, by omega⟩, e⟩

theorem seg_len (d : Array α) (a b : Nat) : (seg d a b).length = b - a := by unfold seg; simp

/-- A part that another row has elsewhere. -/
theorem seg_shift {d d' : Array α} {a b a' b' : Nat} (hl : b' - a' = b - a) (h : ∀ i, i < b - a → d'[a' + i]! = d[a + i]!) : seg d' a' b' = seg d a b := by
  unfold seg
  rw [hl]
  apply List.ext_getElem
  · simp
  · intro i h1 h2
    simp at h1
    simp
    exact h i h1

theorem seg_same {d d' : Array α} {a b : Nat} (h : ∀ i, a ≤ i → i < b → d'[i]! = d[i]!) : seg d' a b = seg d a b := seg_shift rfl fun i hi => h _ (by omega) (by omega)

theorem srt_seg {d : Array α} {a b : Nat} : Srt lt (seg d a b) ↔ ∀ i j, a ≤ i → i < j → j < b → lt d[j]! d[i]! = false := by
  unfold Srt seg
  rw [List.pairwise_map, List.pairwise_iff_getElem]
  constructor
  · intro h i j h1 h2 h3
    have := h (i - a) (j - a) (by simp; omega) (by simp; omega) (by omega)
    simp only [List.getElem_range', Nat.one_mul] at this
    rwa [show a + (i - a) = i by omega, show a + (j - a) = j by omega] at this
  · intro h i j hi hj hij
    simp at hi hj
    simp only [List.getElem_range', Nat.one_mul]
    exact h _ _ (by omega) (by omega) (by omega)

theorem Srt.sub {d : Array α} {a b a' b' : Nat} (h : Srt lt (seg d a b)) (h1 : a ≤ a') (h2 : b' ≤ b) : Srt lt (seg d a' b') :=
  srt_seg.2 fun i j hi hij hj => srt_seg.1 h i j (by omega) hij (by omega)

/-- d' is d but for a stable rearrangement of a up to b. -/
structure Stir (lt : α → α → Bool) (a b : Nat) (d d' : Array α) : Prop where
  size : d'.size = d.size
  out : ∀ i, i < a ∨ b ≤ i → d'[i]! = d[i]!
  stb : Stb lt (seg d a b) (seg d' a b)

theorem Stir.refl (a b : Nat) (d : Array α) : Stir lt a b d d := ⟨rfl, fun _ _ => rfl, Stb.refl _⟩

theorem Stir.trans {a b : Nat} {d d1 d2 : Array α} (h : Stir lt a b d d1) (k : Stir lt a b d1 d2) : Stir lt a b d d2 :=
  ⟨k.size.trans h.size, fun i hi => (k.out i hi).trans (h.out i hi), h.stb.trans k.stb⟩

theorem Stir.mono {a b a' b' : Nat} {d d' : Array α} (h : Stir lt a b d d') (h1 : a' ≤ a) (h2 : a ≤ b) (h3 : b ≤ b') : Stir lt a' b' d d' := by
  refine ⟨h.size, fun i hi => h.out i (by omega), ?_⟩
  rw [seg_append d h1 (Nat.le_trans h2 h3), seg_append d' h1 (Nat.le_trans h2 h3), seg_append d h2 h3, seg_append d' h2 h3, seg_same (d := d) (d' := d') fun i hi hj => h.out i (.inl hj), seg_same (d := d) (d' := d') (a := b) (b := b') fun i hi hj => h.out i (.inr hi)]
  exact (Stb.refl _).append (h.stb.append (Stb.refl _))

/-- Two neighbours change places, the later being less. -/
theorem Stir.swp (hO : SWO lt) {d : Array α} {j : Nat} (hj : j + 1 < d.size) (h : lt d[j + 1]! d[j]! = true) : Stir lt j (j + 2) d (Go.Sort.swp d (j + 1) j) := by
  refine ⟨size_swp _ _ _, fun i hi => swp_other _ _ _ _ (by omega) (by omega), ?_⟩
  rw [seg_append d (m := j + 1) (by omega) (by omega), seg_append (Go.Sort.swp d (j + 1) j) (m := j + 1) (by omega) (by omega), seg_one, seg_one, show j + 2 = (j + 1) + 1 from rfl, seg_one, seg_one, swp_left _ _ _ hj (by omega), swp_right _ _ _ (by omega)]
  exact Stb.swap hO fun x hx y hy => by
    rw [List.mem_singleton] at hx hy
    rw [hx, hy]; exact h

theorem ins_inner (hO : SWO lt) (a : Nat) : ∀ (j : Nat) (d : Array α), j < d.size → Stir lt a (j + 1) d (insInner lt a j d)
  | 0, d, _ => by rw [insInner]; exact Stir.refl _ _ _
  | j + 1, d, hj => by
    rw [insInner]
    split
    · rename_i h
      rw [Bool.and_eq_true, decide_eq_true_eq] at h
      have h1 := (Stir.swp hO hj h.2).mono (a' := a) (b' := j + 1 + 1) (by omega) (by omega) (Nat.le_refl _)
      have h2 := (ins_inner hO a j (Go.Sort.swp d (j + 1) j) (by rw [size_swp]; omega)).mono (a' := a) (b' := j + 1 + 1) (Nat.le_refl _) (by omega) (by omega)
      exact h1.trans h2
    · exact Stir.refl _ _ _

theorem ins_outer (hO : SWO lt) (a b : Nat) : ∀ (k i : Nat) (d : Array α), b - i = k → a < i → b ≤ d.size → Stir lt a b d (insOuter lt a b i d) := by
  intro k
  induction k with
  | zero =>
    intro i d hk hi hb
    rw [insOuter, if_neg (by omega)]
    exact Stir.refl _ _ _
  | succ k ih =>
    intro i d hk hi hb
    rw [insOuter, if_pos (by omega)]
    have h1 := (ins_inner hO a i d (by omega)).mono (a' := a) (b' := b) (Nat.le_refl _) (by omega) (by omega)
    exact h1.trans (ih (i + 1) _ (by omega) (by omega) (by rw [h1.size]; exact hb))

/-- The insertion sort is stable. -/
theorem ins_stir (hO : SWO lt) {d : Array α} {a b : Nat} (hab : a ≤ b) (hb : b ≤ d.size) : Stir lt a b d (insertionSort lt d a b) ∧ Srt lt (seg (insertionSort lt d a b) a b) :=
  ⟨ins_outer hO a b _ (a + 1) d rfl (by omega) hb, srt_seg.2 (insertionSort_holds hO d a b hab hb).2⟩

/-- Merged: stably, and in order. -/
structure Mrg (lt : α → α → Bool) (a b : Nat) (d d' : Array α) : Prop extends Stir lt a b d d' where
  srt : Srt lt (seg d' a b)

/-- An element walks to the right, past lesser ones: k steps of the way are done. -/
def shR (d : Array α) (a k i : Nat) : α := if a ≤ i ∧ i < k then d[i + 1]! else if i = k then d[a]! else d[i]!

theorem mrg_right (hO : SWO lt) {d d' : Array α} {a i b : Nat} (hs : d'.size = d.size) (hai : a < i) (hib : i ≤ b) (hd : ∀ k, d'[k]! = shR d a (i - 1) k) (hr : Srt lt (seg d (a + 1) b)) (h1 : ∀ k, a < k → k < i → lt d[k]! d[a]! = true) (h2 : ∀ k, i ≤ k → k < b → lt d[k]! d[a]! = false) : Mrg lt a b d d' := by
  have e1 : seg d' a (i - 1) = seg d (a + 1) i := seg_shift (by omega) fun k hk => by rw [hd]; unfold shR; rw [if_pos (by omega)]; congr 1; omega
  have e2 : seg d' (i - 1) i = [d[a]!] := by
    have := seg_one d' (i - 1)
    rw [show i - 1 + 1 = i by omega] at this
    rw [this, hd]; unfold shR; rw [if_neg (by omega), if_pos rfl]
  have e3 : seg d' i b = seg d i b := seg_same fun k hk _ => by rw [hd]; unfold shR; rw [if_neg (by omega), if_neg (by omega)]
  have es : seg d' a b = (seg d (a + 1) i ++ [d[a]!]) ++ seg d i b := by rw [seg_append d' (m := i) (by omega) hib, seg_append d' (m := i - 1) (by omega) (by omega), e1, e2, e3]
  have ed : seg d a b = ([d[a]!] ++ seg d (a + 1) i) ++ seg d i b := by rw [seg_append d (m := i) (by omega) hib, seg_append d (m := a + 1) (by omega) (by omega), seg_one]
  have hl : ∀ x ∈ seg d (a + 1) i, lt x d[a]! = true := fun x hx => by
    obtain ⟨k, k1, k2, rfl⟩ := mem_seg.1 hx
    exact h1 k (by omega) k2
  refine ⟨⟨hs, fun k hk => ?_, ?_⟩, ?_⟩
  · rw [hd]; unfold shR; rw [if_neg (by omega), if_neg (by omega)]
  · rw [es, ed]
    exact (Stb.swap hO fun x hx y hy => by rw [List.mem_singleton] at hx; rw [hx]; exact hl y hy).append (Stb.refl _)
  · rw [es]
    have asym : ∀ x y, lt x y = true → lt y x = false := fun x y h => by
      cases h9 : lt y x
      · rfl
      · have := hO.trans _ _ _ h h9; rw [hO.irrefl] at this; cases this
    refine Srt.append (Srt.append (hr.sub (Nat.le_refl _) hib) (List.pairwise_singleton _ _) fun x hx y hy => ?_) (hr.sub (by omega) (Nat.le_refl _)) fun x hx y hy => ?_
    · rw [List.mem_singleton] at hy; rw [hy]; exact asym _ _ (hl x hx)
    · obtain ⟨k, k1, k2, rfl⟩ := mem_seg.1 hy
      rcases List.mem_append.1 hx with hx | hx
      · obtain ⟨m, m1, m2, rfl⟩ := mem_seg.1 hx
        exact srt_seg.1 hr m k m1 (by omega) k2
      · rw [List.mem_singleton] at hx; rw [hx]; exact h2 k k1 k2

/-- An element walks to the left, past greater ones: it stands at k now. -/
def shL (d : Array α) (m k i : Nat) : α := if k < i ∧ i ≤ m then d[i - 1]! else if i = k then d[m]! else d[i]!

theorem mrg_left (hO : SWO lt) {d d' : Array α} {a i m : Nat} (hs : d'.size = d.size) (hai : a ≤ i) (him : i ≤ m) (hd : ∀ k, d'[k]! = shL d m i k) (hr : Srt lt (seg d a m)) (h1 : ∀ k, a ≤ k → k < i → lt d[m]! d[k]! = false) (h2 : ∀ k, i ≤ k → k < m → lt d[m]! d[k]! = true) : Mrg lt a (m + 1) d d' := by
  have e1 : seg d' a i = seg d a i := seg_same fun k hk _ => by rw [hd]; unfold shL; rw [if_neg (by omega), if_neg (by omega)]
  have e2 : seg d' i (i + 1) = [d[m]!] := by rw [seg_one, hd]; unfold shL; rw [if_neg (by omega), if_pos rfl]
  have e3 : seg d' (i + 1) (m + 1) = seg d i m := seg_shift (by omega) fun k hk => by rw [hd]; unfold shL; rw [if_pos (by omega)]; congr 1; omega
  have es : seg d' a (m + 1) = seg d a i ++ ([d[m]!] ++ seg d i m) := by rw [seg_append d' (m := i) hai (by omega), seg_append d' (a := i) (m := i + 1) (by omega) (by omega), e1, e2, e3]
  have ed : seg d a (m + 1) = seg d a i ++ (seg d i m ++ [d[m]!]) := by rw [seg_append d (m := i) hai (by omega), seg_append d (a := i) (m := m) (by omega) (by omega), seg_one]
  have hl : ∀ x ∈ seg d i m, lt d[m]! x = true := fun x hx => by
    obtain ⟨k, k1, k2, rfl⟩ := mem_seg.1 hx
    exact h2 k k1 k2
  refine ⟨⟨hs, fun k hk => ?_, ?_⟩, ?_⟩
  · rw [hd]; unfold shL; rw [if_neg (by omega), if_neg (by omega)]
  · rw [es, ed]
    exact (Stb.refl _).append (Stb.swap hO fun x hx y hy => by rw [List.mem_singleton] at hy; rw [hy]; exact hl x hx)
  · rw [es]
    have asym : ∀ x y, lt x y = true → lt y x = false := fun x y h => by
      cases h9 : lt y x
      · rfl
      · have := hO.trans _ _ _ h h9; rw [hO.irrefl] at this; cases this
    refine Srt.append (hr.sub (Nat.le_refl _) him) (Srt.append (List.pairwise_singleton _ _) (hr.sub hai (Nat.le_refl _)) fun x hx y hy => ?_) fun x hx y hy => ?_
    · rw [List.mem_singleton] at hx; rw [hx]; exact asym _ _ (hl y hy)
    · obtain ⟨k, k1, k2, rfl⟩ := mem_seg.1 hx
      rcases List.mem_append.1 hy with hy | hy
      · rw [List.mem_singleton] at hy; rw [hy]; exact h1 k k1 k2
      · obtain ⟨n, n1, n2, rfl⟩ := mem_seg.1 hy
        exact srt_seg.1 hr k n k1 (by omega) n2

/-- Two neighbouring blocks have changed places. -/
def rix (a m b i : Nat) : Nat := if a ≤ i ∧ i < a + (b - m) then i + (m - a) else if a + (b - m) ≤ i ∧ i < b then i - (b - m) else i

/-- Two blocks of n, from a and from b, have changed places. -/
def six (a b n i : Nat) : Nat := if a ≤ i ∧ i < a + n then i - a + b else if b ≤ i ∧ i < b + n then i - b + a else i

/-- A step of the rotation: i > j. -/
theorem rix_gt {m i j q : Nat} (hi : i ≤ m) (h : j < i) : six (m - i) m j (rix (m - (i - j)) m (m + j) q) = rix (m - i) m (m + j) q := by
  unfold rix six
  repeat' split
  all_goals omega

/-- A step of the rotation: i < j. -/
theorem rix_lt {m i j q : Nat} (hi : i ≤ m) (h : i < j) : six (m - i) (m + j - i) i (rix (m - i) m (m + (j - i)) q) = rix (m - i) m (m + j) q := by
  unfold rix six
  repeat' split
  all_goals omega

/-- The last one. -/
theorem rix_eq {m i q : Nat} (hi : i ≤ m) : six (m - i) m i q = rix (m - i) m (m + i) q := by
  unfold rix six
  repeat' split
  all_goals omega

/-- Behind the rotation, both halves are to be merged. -/
theorem mrg_half (hO : SWO lt) {d d1 : Array α} {a m b start mid : Nat} (hs : d1.size = d.size) (h1 : a ≤ start) (h2 : start ≤ m) (h3 : start ≤ mid) (h4 : m ≤ mid + m - start) (h5 : mid + m - start ≤ b) (hmid : a ≤ mid ∧ mid ≤ b)
    (hd : ∀ i, d1[i]! = d[rix start m (mid + m - start) i]!) (hl : Srt lt (seg d a m)) (hr : Srt lt (seg d m b))
    (f1 : start < m → m < mid + m - start → lt d[mid + m - start - 1]! d[start]! = true) (f2 : a < start → mid + m - start < b → lt d[mid + m - start]! d[start - 1]! = false) :
    Stir lt a b d d1 ∧ Srt lt (seg d1 a start) ∧ Srt lt (seg d1 start mid) ∧ Srt lt (seg d1 mid (mid + m - start)) ∧ Srt lt (seg d1 (mid + m - start) b) ∧ ∀ x ∈ seg d1 a mid, ∀ y ∈ seg d1 mid b, lt y x = false := by
  obtain ⟨e, he⟩ : ∃ e, e = mid + m - start := ⟨_, rfl⟩
  rw [← he] at h4 h5 hd f1 f2 ⊢
  have e1 : seg d1 a start = seg d a start := seg_same fun k hk hk2 => by rw [hd]; unfold rix; rw [if_neg (by omega), if_neg (by omega)]
  have e2 : seg d1 start mid = seg d m e := seg_shift (by omega) fun k hk => by rw [hd]; unfold rix; rw [if_pos (by omega)]; congr 1; omega
  have e3 : seg d1 mid e = seg d start m := seg_shift (by omega) fun k hk => by rw [hd]; unfold rix; rw [if_neg (by omega), if_pos (by omega)]; congr 1; omega
  have e4 : seg d1 e b = seg d e b := seg_same fun k hk hk2 => by rw [hd]; unfold rix; rw [if_neg (by omega), if_neg (by omega)]
  have s1 := hl.sub (a' := a) (b' := start) (Nat.le_refl _) h2
  have s2 := hl.sub (a' := start) (b' := m) h1 (Nat.le_refl _)
  have s3 := hr.sub (a' := m) (b' := e) (Nat.le_refl _) h5
  have s4 := hr.sub (a' := e) (b' := b) h4 (Nat.le_refl _)
  have asym : ∀ x y, lt x y = true → lt y x = false := fun x y h => by
    cases h9 : lt y x
    · rfl
    · have := hO.trans _ _ _ h h9; rw [hO.irrefl] at this; cases this
  have hrl : ∀ x ∈ seg d start m, ∀ y ∈ seg d m e, lt y x = true := fun x hx y hy => by
    obtain ⟨i, i1, i2, rfl⟩ := mem_seg.1 hx
    obtain ⟨j, j1, j2, rfl⟩ := mem_seg.1 hy
    have hf := f1 (by omega) (by omega)
    have a1 : lt d[e - 1]! d[j]! = false := by
      by_cases hj : j = e - 1
      · rw [hj]; exact hO.irrefl _
      · exact srt_seg.1 hr j (e - 1) j1 (by omega) (by omega)
    have a2 : lt d[i]! d[start]! = false := by
      by_cases hi : i = start
      · rw [hi]; exact hO.irrefl _
      · exact srt_seg.1 hl start i h1 (by omega) i2
    cases h9 : lt d[j]! d[i]!
    · have := hO.ntrans _ _ _ (hO.ntrans _ _ _ a1 h9) a2
      rw [hf] at this; cases this
    · rfl
  have hlr : ∀ x ∈ seg d a start, ∀ y ∈ seg d e b, lt y x = false := fun x hx y hy => by
    obtain ⟨i, i1, i2, rfl⟩ := mem_seg.1 hx
    obtain ⟨j, j1, j2, rfl⟩ := mem_seg.1 hy
    have hf := f2 (by omega) (by omega)
    have a1 : lt d[j]! d[e]! = false := by
      by_cases hj : j = e
      · rw [hj]; exact hO.irrefl _
      · exact srt_seg.1 hr e j h4 (by omega) j2
    have a2 : lt d[start - 1]! d[i]! = false := by
      by_cases hi : i = start - 1
      · rw [hi]; exact hO.irrefl _
      · exact srt_seg.1 hl i (start - 1) i1 (by omega) (by omega)
    exact hO.ntrans _ _ _ (hO.ntrans _ _ _ a1 hf) a2
  have x1 : seg d1 a mid = seg d a start ++ seg d m e := by rw [seg_append d1 h1 h3, e1, e2]
  have x2 : seg d1 mid b = seg d start m ++ seg d e b := by rw [seg_append d1 (m := e) (by omega) h5, e3, e4]
  refine ⟨⟨hs, fun i hi => ?_, ?_⟩, by rw [e1]; exact s1, by rw [e2]; exact s3, by rw [e3]; exact s2, by rw [e4]; exact s4, ?_⟩
  · rw [hd]; unfold rix; rw [if_neg (by omega), if_neg (by omega)]
  · rw [seg_append d1 hmid.1 hmid.2, x1, x2, seg_append d (m := m) (by omega) (by omega), seg_append d h1 h2, seg_append d h4 h5]
    have := (Stb.refl (lt := lt) (seg d a start)).append ((Stb.swap hO hrl).append (Stb.refl (seg d e b)))
    simpa [List.append_assoc] using this
  · intro x hx y hy
    rw [x1] at hx
    rw [x2] at hy
    rcases List.mem_append.1 hx with hx | hx
    · rcases List.mem_append.1 hy with hy | hy
      · obtain ⟨i, i1, i2, rfl⟩ := mem_seg.1 hx
        obtain ⟨j, j1, j2, rfl⟩ := mem_seg.1 hy
        exact srt_seg.1 hl i j i1 (by omega) j2
      · exact hlr x hx y hy
    · rcases List.mem_append.1 hy with hy | hy
      · exact asym _ _ (hrl y hy x hx)
      · obtain ⟨i, i1, i2, rfl⟩ := mem_seg.1 hx
        obtain ⟨j, j1, j2, rfl⟩ := mem_seg.1 hy
        exact srt_seg.1 hr i j i1 (by omega) j2

/-- Both halves merged: all is. -/
theorem mrg_both (hO : SWO lt) {d d1 d2 d3 : Array α} {a mid b : Nat} (h0 : Stir lt a b d d1) (hm : a ≤ mid ∧ mid ≤ b) (hx : ∀ x ∈ seg d1 a mid, ∀ y ∈ seg d1 mid b, lt y x = false) (h1 : Mrg lt a mid d1 d2) (h2 : Mrg lt mid b d2 d3) : Mrg lt a b d d3 := by
  have e1 : seg d3 a mid = seg d2 a mid := seg_same fun i hi hi2 => h2.out i (.inl hi2)
  have e2 : seg d2 mid b = seg d1 mid b := seg_same fun i hi hi2 => h1.out i (.inr hi)
  refine ⟨h0.trans ((h1.toStir.mono (Nat.le_refl _) hm.1 hm.2).trans (h2.toStir.mono hm.1 hm.2 (Nat.le_refl _))), ?_⟩
  rw [seg_append d3 hm.1 hm.2, e1]
  refine Srt.append h1.srt h2.srt fun x hx1 y hy1 => hx x ((h1.stb.mem hO).1 hx1) y ?_
  rw [← e2]
  exact (h2.stb.mem hO).1 hy1

/-- A part in order is merged as it stands. -/
theorem Mrg.idle {a b : Nat} {d : Array α} (h : Srt lt (seg d a b)) : Mrg lt a b d d := ⟨Stir.refl _ _ _, h⟩

end
end Go.Proofs.Ytlmngncogomgeaa.D
namespace Go.Proofs.Ytlmngncogomgeaa
open Go.RowKit D
set_option linter.unusedVariables false
set_option maxHeartbeats 400000 in
theorem szTerm_any (t : T) (left : Int) (w : World) (hs : t.name.size ≤ maxLen) (h0 : 0 ≤ left) (h1 : left ≤ 1048576) :
    Calls Try.prog 43 #[.agg #[.bool t.var, .string t.name], .int .i64 left] w (Left left t.name.size w.heap.size w) := by
  unfold maxLen at hs
  go_enter Try.func43, Try.ntmps43
  go_wp2
  all_goals go_ret
  · exact ⟨(Below.refl _ _).alloc (Nat.le_refl _) _, _, rfl, .inl rfl⟩
  · exact ⟨(Below.refl _ _).alloc (Nat.le_refl _) _, _, rfl, .inr ⟨by assumption, by omega⟩⟩

set_option maxHeartbeats 400000 in
theorem szTermS_any (ts : List T) (v : Value) (bs : List Nat) (left : Int) (w : World) (h : termsK w [v] ts bs) (h0 : 0 ≤ left) (h1 : left ≤ 1048576) :
    Calls Try.prog 33 #[v, .int .i64 left] w (Left left (ts.length + bulkTs ts) w.heap.size w) := by
  obtain ⟨Ad, cap, rfl, hl, hm⟩ := sliceK_form h
  have hlm := nat_ge_max (Nat.le_trans hl hm)
  clear hm
  go_enter Try.func33, Try.ntmps33
  go_wp2
  · go_ret
    exact ⟨Below.refl _ _, _, rfl, .inl rfl⟩
  · go_loopw [1, 5] (fun l i wr => ∃ (k : Nat) (m : Int), k ≤ ts.length ∧ i = .int .i64 k ∧ l = .int .i64 m ∧ 0 ≤ m ∧ m ≤ 1048576 ∧ m + ts.length + bulkTs (ts.take k) = left ∧ Below w.heap.size w wr) (fun _ i _ => ts.length - (intOf i).toNat)
    case atStart => exact ⟨0, _, Nat.zero_le _, rfl, rfl, by assumption, by omega, by simp [bulkTs], Below.refl _ _⟩
    case round =>
      obtain ⟨k, m, hk, rfl, rfl, hm0, hm1, hsum, hb⟩ := hrel
      have HS := Lib.hid hsum
      clear hsum
      by_cases hlt : k < ts.length
      · have hw := termsK_good.below h hb
        obtain ⟨b, o, rfl, _, c0, c1, hnm⟩ := terms_at hw hlt
        have HT := Lib.hid (bulkTs_snoc ts k hlt)
        clear h hw
        generalize ts[k] = t at *
        go_wp2_with (go_at_call 43; refine (szTerm_any _ _ _ hnm hm0 hm1).mono ?_; rintro e w' ⟨hb', r, rfl, hr⟩)
        · rcases hr with rfl | ⟨_, _⟩
          · go_ret
            exact ⟨hb.trans (hb'.mono hb.size), _, rfl, .inl rfl⟩
          · exfalso; omega
        · rcases hr with rfl | ⟨hr0, hr1⟩
          · exfalso; omega
          · have := HS.out
            have := HT.out
            go_roundw
            case rel => exact ⟨k + 1, r, by omega, by go_num, rfl, hr0, by omega, by omega, hb.trans (hb'.mono hb.size)⟩
            case measure => simp [intOf]; omega
      · have he : k = ts.length := by omega
        go_wp2
        go_ret
        refine ⟨hb, _, rfl, .inr ⟨hm0, ?_⟩⟩
        have := HS.out
        rw [he, List.take_of_length_le (Nat.le_refl _)] at this
        omega

end Go.Proofs.Ytlmngncogomgeaa
