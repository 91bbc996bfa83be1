/- Of the proof of FnOnce: FolP, CmpD, SortS, Atom. -/
import Derived.Test.YtjjfafgaphloaaaGreatDoorM07
import Derived.Test.YtjjfafgaphloaaaGreatDoorM08
import Derived.Lib.OwnBridge
import Derived.Sort.OwnSorted
namespace Go.Proofs.YtjjfafgaphloaaaGreatDoor.D
open Go.RowKit
set_option linter.unusedVariables false
/-- Words of variables. -/
abbrev Wo := ByteArray → ByteArray

def termW (σ : Wo) (t : T) : T := ⟨false, if t.var then σ t.name else t.name⟩

def fillW (σ : Wo) (a : A) : A := ⟨a.name, a.args.map (termW σ)⟩

/-- What follows at once by a rule of facts. -/
def Fol (list : List A) (r : Ru) (a : A) : Prop := ∃ σ : Wo, a = fillW σ r.head ∧ ∀ p ∈ r.body, hasB list (fillW σ p.atom) = !p.no

/-- Words agree with a binding. -/
def Agr (b : Bd) (σ : Wo) : Prop := ∀ n v, getB b n = some v → σ n = v

/-- Each variable of terms is bound. -/
def Cov (b : Bd) (ts : List T) : Prop := ∀ t ∈ ts, t.var = true → (getB b t.name).isSome = true

def Le (b b' : Bd) : Prop := ∀ n v, getB b n = some v → getB b' n = some v

theorem Le.refl (b : Bd) : Le b b := fun _ _ h => h

theorem Le.trans {a b c : Bd} (h : Le a b) (k : Le b c) : Le a c := fun n v e => k n v (h n v e)

theorem Le.cov {b b' : Bd} (h : Le b b') {ts : List T} (hc : Cov b ts) : Cov b' ts := fun t ht hv => by
  obtain ⟨v, hv⟩ := Option.isSome_iff_exists.1 (hc t ht hv)
  rw [h _ _ hv]; rfl

theorem Agr.of_le {b b' : Bd} {σ : Wo} (h : Agr b' σ) (hl : Le b b') : Agr b σ := fun n v e => h n v (hl n v e)

theorem agr_val (b : Bd) : Agr b (valB b) := fun n v e => by unfold valB; rw [e]; rfl

theorem getB_append (b c : Bd) (n : ByteArray) : getB (b ++ c) n = (getB b n).or (getB c n) := by
  induction b with
  | nil => simp [getB]
  | cons p b ih =>
    simp only [List.cons_append, getB]
    split
    · rfl
    · exact ih

theorem Le.append (b c : Bd) : Le b (b ++ c) := fun n v h => by rw [getB_append, h]; rfl

theorem fill_cov {b : Bd} {σ : Wo} {ts : List T} (hc : Cov b ts) (ha : Agr b σ) : ts.map (fillT b) = ts.map (termW σ) := by
  refine List.map_congr_left fun t ht => ?_
  unfold fillT termW
  cases hv : t.var
  · rfl
  · obtain ⟨v, h⟩ := Option.isSome_iff_exists.1 (hc t ht hv)
    simp only [if_true, valB, h, Option.getD_some, ha _ _ h]

theorem fillB_cov {b : Bd} {σ : Wo} {a : A} (hc : Cov b a.args) (ha : Agr b σ) : fillB a b = fillW σ a := by
  unfold fillB fillW
  rw [fill_cov hc ha]

theorem fillB_le {b b' : Bd} {a : A} (hc : Cov b a.args) (hl : Le b b') : fillB a b' = fillB a b :=
  (fillB_cov (hl.cov hc) (agr_val b')).trans (fillB_cov hc ((agr_val b').of_le hl)).symm

theorem matchT_le : ∀ (ts fs : List T) (b : Bd), Le b (matchT ts fs b).1
  | [], fs, b => by cases fs <;> exact Le.refl b
  | t :: ts, [], b => Le.refl b
  | t :: ts, f :: fs, b => by
    rw [matchT]
    split
    · split
      · split
        · exact matchT_le ts fs b
        · exact Le.refl b
      · exact (Le.append _ _).trans (matchT_le ts fs _)
    · split
      · exact matchT_le ts fs b
      · exact Le.refl b

theorem matchT_fill : ∀ (ts fs : List T) (b : Bd), ts.length = fs.length → (∀ f ∈ fs, f.var = false) → (matchT ts fs b).2 = true → Cov (matchT ts fs b).1 ts ∧ ts.map (fillT (matchT ts fs b).1) = fs
  | [], [], b, _, _, _ => ⟨fun t ht => absurd ht (by simp), rfl⟩
  | [], f :: fs, b, h, _, _ => by simp at h
  | t :: ts, [], b, h, _, _ => by simp at h
  | ⟨tv, tn⟩ :: ts, ⟨fv, fn⟩ :: fs, b, hl, hv, hm => by
    have hf : fv = false := hv _ (List.mem_cons_self ..)
    subst hf
    have hv' : ∀ f ∈ fs, f.var = false := fun f h => hv f (List.mem_cons_of_mem _ h)
    have hl' : ts.length = fs.length := by simpa using hl
    have hstep : ∀ b0 : Bd, (matchT ts fs b0).2 = true → (tv = true → getB b0 tn = some fn) → (tv = false → tn = fn) →
        Cov (matchT ts fs b0).1 (⟨tv, tn⟩ :: ts) ∧ (⟨tv, tn⟩ :: ts).map (fillT (matchT ts fs b0).1) = ⟨false, fn⟩ :: fs := by
      intro b0 hm0 h1 h2
      obtain ⟨i1, i2⟩ := matchT_fill ts fs b0 hl' hv' hm0
      refine ⟨fun t ht htv => ?_, ?_⟩
      · rcases List.mem_cons.1 ht with rfl | ht
        · rw [matchT_le ts fs b0 _ _ (h1 htv)]; rfl
        · exact i1 t ht htv
      · rw [List.map_cons, i2]
        congr 1
        unfold fillT
        cases tv
        · simp [h2 rfl]
        · simp [valB, matchT_le ts fs b0 _ _ (h1 rfl)]
    rw [matchT] at hm ⊢
    dsimp only at hm ⊢
    split at hm
    · rename_i e1
      rw [if_pos e1]
      cases hg : getB b tn with
      | some v =>
        rw [hg] at hm
        dsimp only at hm ⊢
        split at hm
        · rename_i e2
          subst e2
          rw [if_pos rfl]
          exact hstep b hm (fun _ => hg) fun e => by rw [e] at e1; cases e1
        · cases hm
      | none =>
        rw [hg] at hm
        dsimp only at hm ⊢
        exact hstep _ hm (fun _ => by rw [getB_append, hg]; simp [getB]) fun e => by rw [e] at e1; cases e1
    · rename_i e1
      rw [if_neg e1]
      split at hm
      · rename_i e2
        rw [if_pos e2]
        exact hstep b hm (fun e => absurd e e1) fun _ => e2
      · cases hm

theorem matchT_words : ∀ (ts fs : List T) (b : Bd) (σ : Wo), Agr b σ → ts.map (termW σ) = fs → (matchT ts fs b).2 = true ∧ Agr (matchT ts fs b).1 σ
  | [], fs, b, σ, ha, h => by cases fs with
    | nil => exact ⟨rfl, ha⟩
    | cons f fs => simp at h
  | t :: ts, [], b, σ, ha, h => by simp at h
  | ⟨tv, tn⟩ :: ts, f :: fs, b, σ, ha, h => by
    simp only [List.map_cons, List.cons.injEq] at h
    obtain ⟨rfl, h⟩ := h
    rw [matchT]
    cases tv
    · simp only [termW, Bool.false_eq_true, if_false]
      exact matchT_words ts fs b σ ha h
    · simp only [termW, if_true]
      cases hg : getB b tn with
      | some v =>
        dsimp only
        rw [if_pos (ha _ _ hg).symm]
        exact matchT_words ts fs b σ ha h
      | none =>
        dsimp only
        refine matchT_words ts fs _ σ (fun n v e => ?_) h
        rw [getB_append] at e
        cases hn : getB b n with
        | some u => rw [hn] at e; simp at e; rw [← e]; exact ha _ _ hn
        | none =>
          rw [hn] at e
          simp only [Option.none_or, getB] at e
          split at e
          · rename_i e2; subst e2; simpa using e
          · cases e

theorem matchB_le (a f : A) (b : Bd) : Le b (matchB a f b).1 := by
  unfold matchB
  split
  · exact matchT_le _ _ _
  · exact Le.refl b

theorem matchB_fill {a f : A} {b : Bd} (hf : ∀ t ∈ f.args, t.var = false) (h : (matchB a f b).2 = true) : Cov (matchB a f b).1 a.args ∧ fillB a (matchB a f b).1 = f := by
  unfold matchB at h ⊢
  split at h
  · rename_i e
    rw [if_pos e]
    obtain ⟨h1, h2⟩ := matchT_fill a.args f.args b e.2 hf h
    refine ⟨h1, ?_⟩
    unfold fillB
    rw [h2]
    obtain ⟨n, ts⟩ := f
    simp only at e
    rw [e.1]
  · cases h

theorem matchB_words {a f : A} {b : Bd} {σ : Wo} (ha : Agr b σ) (h : fillW σ a = f) : (matchB a f b).2 = true ∧ Agr (matchB a f b).1 σ := by
  subst h
  unfold matchB
  rw [if_pos ⟨rfl, by simp [fillW]⟩]
  exact matchT_words _ _ _ _ ha rfl

/-- Facts: atoms without variables. -/
def Gr (a : A) : Prop := ∀ t ∈ a.args, t.var = false

theorem gr_fill (σ : Wo) (a : A) : Gr (fillW σ a) := fun t ht => by
  obtain ⟨u, _, rfl⟩ := List.mem_map.1 ht
  rfl

theorem gr_eq {a b : A} (ha : Gr a) (hb : Gr b) (h : cmpA a b = 0) : a = b := by
  have := (cmpA_key a b).1 h
  unfold keyA at this
  simp only [List.cons.injEq] at this
  obtain ⟨n, ts⟩ := a
  obtain ⟨m, us⟩ := b
  dsimp only at *
  obtain ⟨rfl, h2⟩ := this
  have e : ts = us := terms_ext ha hb h2
  rw [e]

theorem hasB_gr {xs : List A} (hx : ∀ x ∈ xs, Gr x) {a : A} (ha : Gr a) : hasB xs a = true ↔ a ∈ xs := by
  refine ⟨fun h => ?_, hasB_mem⟩
  obtain ⟨x, hm, hc⟩ := hasB_iff.1 h
  rw [← gr_eq (hx x hm) ha hc]; exact hm

theorem fillB_W (a : A) (b : Bd) : fillB a b = fillW (valB b) a := rfl

theorem rawB_sound {list : List A} (hl : ∀ x ∈ list, Gr x) (body : List Pt) : ∀ k, k ≤ body.length → ∀ b ∈ rawB list (body.take k), ∀ p ∈ body.take k, p.no = false → Cov b p.atom.args ∧ fillB p.atom b ∈ list := by
  intro k
  induction k with
  | zero => intro _ b _ p hp; simp at hp
  | succ k ih =>
    intro hk b hb p hp hno
    rw [rawB_snoc list body k (by omega)] at hb
    rw [List.take_succ_eq_append_getElem (by omega)] at hp
    unfold stepB at hb
    split at hb
    · rename_i hn
      rcases List.mem_append.1 hp with hp | hp
      · exact ih (by omega) b hb p hp hno
      · rw [List.mem_singleton.1 hp] at hno; rw [hno] at hn; cases hn
    · obtain ⟨b0, h0, hb0⟩ := List.mem_flatMap.1 hb
      unfold fits1 at hb0
      obtain ⟨f, hf, e⟩ := List.mem_filterMap.1 hb0
      split at e
      · rename_i hm
        cases e
        rcases List.mem_append.1 hp with hp | hp
        · obtain ⟨h1, h2⟩ := ih (by omega) b0 h0 p hp hno
          refine ⟨(matchB_le _ _ _).cov h1, ?_⟩
          rw [fillB_le h1 (matchB_le _ _ _)]; exact h2
        · rw [List.mem_singleton.1 hp]
          obtain ⟨h1, h2⟩ := matchB_fill (hl f hf) hm
          exact ⟨h1, by rw [h2]; exact hf⟩
      · cases e

theorem rawB_whole {list : List A} {σ : Wo} (body : List Pt) (hp : ∀ p ∈ body, p.no = false → fillW σ p.atom ∈ list) : ∀ k, k ≤ body.length → ∃ b ∈ rawB list (body.take k), Agr b σ := by
  intro k
  induction k with
  | zero => intro _; exact ⟨[], by simp [rawB], fun n v h => by simp [getB] at h⟩
  | succ k ih =>
    intro hk
    obtain ⟨b, hb, ha⟩ := ih (by omega)
    rw [rawB_snoc list body k (by omega)]
    unfold stepB
    split
    · exact ⟨b, hb, ha⟩
    · rename_i hn
      have hin := hp body[k] (List.getElem_mem (by omega)) (by simpa using hn)
      obtain ⟨h1, h2⟩ := matchB_words ha (rfl : fillW σ body[k].atom = _)
      refine ⟨_, List.mem_flatMap.2 ⟨b, hb, ?_⟩, h2⟩
      unfold fits1
      exact List.mem_filterMap.2 ⟨_, hin, by rw [if_pos h1]⟩

/-- A rule whose variables all lie in what must be. -/
def Tight (r : Ru) : Prop := ∀ x, (varIn x r.head.args ∨ ∃ p ∈ r.body, varIn x p.atom.args) → ∃ p ∈ r.body, p.no = false ∧ varIn x p.atom.args

theorem cov_tight {r : Ru} (ht : Tight r) {b : Bd} (hb : ∀ p ∈ r.body, p.no = false → Cov b p.atom.args) : Cov b r.head.args ∧ ∀ p ∈ r.body, Cov b p.atom.args := by
  have h : ∀ x, (varIn x r.head.args ∨ ∃ p ∈ r.body, varIn x p.atom.args) → (getB b x).isSome = true := fun x hx => by
    obtain ⟨p, hp, hn, t, h1, h2, rfl⟩ := ht x hx
    exact hb p hp hn t h1 h2
  exact ⟨fun t h1 h2 => h _ (.inl ⟨t, h1, h2, rfl⟩), fun p hp t h1 h2 => h _ (.inr ⟨p, hp, t, h1, h2, rfl⟩)⟩

theorem allB_fol {list : List A} (hl : ∀ x ∈ list, Gr x) {r : Ru} (ht : Tight r) (a : A) : (∃ b ∈ allB list r.body, fillB r.head b = a) ↔ Fol list r a := by
  constructor
  · rintro ⟨b, hb, rfl⟩
    unfold allB at hb
    obtain ⟨h1, h2⟩ := List.mem_filter.1 hb
    have hs := rawB_sound hl r.body r.body.length (Nat.le_refl _)
    rw [List.take_of_length_le (Nat.le_refl _)] at hs
    have hs := hs b h1
    refine ⟨valB b, fillB_W _ _, fun p hp => ?_⟩
    cases hn : p.no
    · rw [← fillB_W]
      exact hasB_mem (hs p hp hn).2
    · unfold freeB at h2
      have := List.all_eq_true.1 h2 p hp
      rw [hn] at this
      rw [← fillB_W]
      simpa using this
  · rintro ⟨σ, rfl, hp⟩
    have hpos : ∀ p ∈ r.body, p.no = false → fillW σ p.atom ∈ list := fun p h hn => (hasB_gr hl (gr_fill _ _)).1 (by rw [hp p h, hn]; rfl)
    have hw := rawB_whole (list := list) (σ := σ) r.body hpos r.body.length (Nat.le_refl _)
    have hs := rawB_sound hl r.body r.body.length (Nat.le_refl _)
    rw [List.take_of_length_le (Nat.le_refl _)] at hw hs
    obtain ⟨b, hb, ha⟩ := hw
    obtain ⟨hc1, hc2⟩ := cov_tight ht fun p h hn => (hs b hb p h hn).1
    refine ⟨b, ?_, fillB_cov hc1 ha⟩
    unfold allB
    refine List.mem_filter.2 ⟨hb, ?_⟩
    unfold freeB
    refine List.all_eq_true.2 fun p h => ?_
    rw [fillB_cov (hc2 p h) ha, hp p h]
    cases p.no <;> rfl

end Go.Proofs.YtjjfafgaphloaaaGreatDoor.D
namespace Go.Proofs.YtjjfafgaphloaaaGreatDoor
open Go.RowKit D
set_option linter.unusedVariables false
attribute [local go_sem ↓] Go.wp_at_zero Go.wp_at_succ
/-- What lay, some draws on, and new blocks. -/
structure D.Grew (w w' : World) : Prop where
  bel : Below w.heap.size w w'
  dr : w.drawn ≤ w'.drawn

theorem D.Grew.refl (w : World) : Grew w w := ⟨Below.refl _ _, Nat.le_refl _⟩

theorem D.Grew.trans {a b c : World} (h : Grew a b) (k : Grew b c) : Grew a c := ⟨h.bel.trans (k.bel.mono h.bel.size), Nat.le_trans h.dr k.dr⟩

theorem D.Grew.alloc {w w' : World} (h : Grew w w') (o : Obj) : Grew w (w'.alloc o) := ⟨h.bel.alloc h.bel.size _, h.dr⟩

theorem D.Grew.is {w w' : World} (h : Grew w w') : ∃ q os', w' = Go.Sort.grow (w.drewN q) os' := by
  refine ⟨w'.drawn - w.drawn, w'.heap.extract w.heap.size w'.heap.size, ?_⟩
  have e1 := h.bel.os
  have e2 := h.bel.tape
  have e3 := h.bel.output
  have e4 : w'.drawn = w.drawn + (w'.drawn - w.drawn) := by have := h.dr; omega
  have e5 : w'.heap = w.heap ++ w'.heap.extract w.heap.size w'.heap.size := by
    have hs := h.bel.size
    apply Array.ext
    · simp; omega
    · intro i h1 h2
      by_cases hi : i < w.heap.size
      · rw [Array.getElem_append_left hi]
        have := h.bel.block i hi
        rw [Array.getElem?_eq_getElem h1, Array.getElem?_eq_getElem hi] at this
        exact Option.some.inj this
      · rw [Array.getElem_append_right (by omega)]
        simp
        congr 1
        omega
  obtain ⟨hp, tp, dn, os, out⟩ := w
  obtain ⟨hp', tp', dn', os', out'⟩ := w'
  simp only [Go.Sort.grow, World.drewN] at *
  subst e1 e2 e3
  rw [← e4, ← e5]

set_option maxHeartbeats 400000 in
theorem order1_grew (t u : T) (w : World) :
    Calls Tryz.prog 70 #[.agg #[.bool t.var, .string t.name], .agg #[.bool u.var, .string u.name]] w fun e w' => e = .returned (.int .i64 (cmpS t.name u.name)) ∧ Grew w w' := by
  go_enter Tryz.func70, Tryz.ntmps70
  go_wp2_with (go_at_call 68; refine (compare_any _ _ _).mono ?_; rintro e w' ⟨rfl, rfl⟩)
  go_ret
  exact ⟨rfl, ((Grew.refl _).alloc _).alloc _⟩

set_option maxHeartbeats 400000 in
theorem compareFunc_grew (ts us : List T) (v1 v2 : Value) (b1 b2 : List Nat) (w : World) (h1 : termsK w [v1] ts b1) (h2 : termsK w [v2] us b2) :
    Calls Tryz.prog 69 #[v1, v2, .func (.func 70) #[] #[]] w
      fun e w' => e = .returned (.int .i64 (cmpTs ts us)) ∧ Grew w w' := by
  obtain ⟨Ad, cap, rfl, hl, hm⟩ := sliceK_form h1
  obtain ⟨Ad2, cap2, rfl, hl2, hm2⟩ := sliceK_form h2
  have hlm := nat_ge_max (Nat.le_trans hl hm)
  have hlm2 := nat_ge_max (Nat.le_trans hl2 hm2)
  clear hm hm2
  go_enter Tryz.func69, Tryz.ntmps69
  go_wp2
  go_loopw [13] (fun i wr => ∃ k : Nat, k ≤ ts.length ∧ k ≤ us.length ∧ i = .int .i64 k ∧ cmpTs ts us = cmpTs (ts.drop k) (us.drop k) ∧ Grew w wr) (fun i _ => ts.length - (intOf i).toNat)
  case atStart => exact ⟨0, Nat.zero_le _, Nat.zero_le _, rfl, rfl, Grew.refl _⟩
  case round =>
    obtain ⟨k, hk, hk2, rfl, hc, hb⟩ := hrel
    have HC := Lib.hid hc
    clear hc
    by_cases hlt : k < ts.length
    · obtain ⟨b, o, rfl, _, c0, c1, _⟩ := terms_at (termsK_good.below h1 hb.bel) hlt
      have hA : Grew wr (wr.alloc (.cells #[.bool ts[k].var, .string ts[k].name] 127)) := (Grew.refl _).alloc _
      by_cases hlt2 : k < us.length
      · obtain ⟨b', o', rfl, _, d0, d1, _⟩ := terms_at (termsK_good.below h2 (hb.trans hA).bel) hlt2
        have HS := Lib.hid (cmpTs_step hlt hlt2)
        clear h1 h2
        go_wp2_with fail
        refine (order1_grew ts[k] us[k] _).mono ?_
        rintro e w' ⟨rfl, hb'⟩
        have B' : Grew w w' := ((hb.alloc _).alloc _).trans hb'
        by_cases hz : cmpS ts[k].name us[k].name = 0
        · have hz' : (cmpS ts[k].name us[k].name == 0) = true := by simp [hz]
          have HZ := Lib.hid hz
          clear hz hA
          go_wp2
          go_roundw
          case rel => exact ⟨k + 1, by omega, by omega, by go_num, by rw [HC.out, HS.out, if_pos HZ.out], B'⟩
          case measure => simp [intOf]; omega
        · have hz' : (cmpS ts[k].name us[k].name == 0) = false := by simp [hz]
          have HZ := Lib.hid hz
          clear hz hA
          go_wp2
          go_ret
          exact ⟨ret_int (by rw [HC.out, HS.out, if_neg HZ.out]), B'⟩
      · clear h1 h2
        have HS := Lib.hid (cmpTs_end1 hlt (Nat.le_of_not_lt hlt2))
        go_wp2
        go_ret
        exact ⟨ret_int (by rw [HC.out, HS.out]), hb.trans hA⟩
    · have he : ts.length ≤ k := by omega
      by_cases hlt2 : k < us.length
      · have HS := Lib.hid (cmpTs_end2 he hlt2)
        have hx : ts.length < us.length := by omega
        go_wp2
        go_ret
        exact ⟨ret_int (by rw [HC.out, HS.out]), hb⟩
      · have HS := Lib.hid (cmpTs_end3 he (Nat.le_of_not_lt hlt2))
        have hx : ¬ ts.length < us.length := by omega
        go_wp2
        go_ret
        exact ⟨ret_int (by rw [HC.out, HS.out]), hb⟩

set_option maxHeartbeats 400000 in
theorem atomOrder_grew (a b : A) (c0 c1 d0 d1 : Value) (b1 b2 : List Nat) (w : World) (h1 : atomK w [c0, c1] a b1) (h2 : atomK w [d0, d1] b b2) :
    Calls Tryz.prog 29 #[.agg #[c0, c1], .agg #[d0, d1]] w fun e w' => e = .returned (.int .i64 (cmpA a b)) ∧ Grew w w' := by
  obtain ⟨Ad, cap, rfl, rfl⟩ := atom_cells2 h1
  obtain ⟨Ae, cape, rfl, rfl⟩ := atom_cells2 h2
  have hq := fun w' (hb : Grew w w') => compareFunc_grew a.args b.args (.slice Ad a.args.length cap) (.slice Ae b.args.length cape) b1 b2 w' (atom_args (atomK_good.below h1 hb.bel)) (atom_args (atomK_good.below h2 hb.bel))
  have hc : cmpA a b = if cmpS a.name b.name = 0 then cmpTs a.args b.args else cmpS a.name b.name := rfl
  have HC := Lib.hid hc
  clear h1 h2 hc
  have hA := ((Grew.refl w).alloc (.cells #[.string a.name, .slice Ad a.args.length cap] 33)).alloc (.cells #[.string b.name, .slice Ae b.args.length cape] 33)
  by_cases hz : cmpS a.name b.name = 0
  · have hz' : (cmpS a.name b.name != 0) = false := by simp [hz]
    have HZ := Lib.hid hz
    clear hz
    go_enter Tryz.func29, Tryz.ntmps29
    go_wp2_with (go_at_call 68; refine (compare_any _ _ _).mono ?_; rintro e w' ⟨rfl, rfl⟩)
    refine (hq _ hA).mono ?_
    rintro e w' ⟨rfl, hb'⟩
    go_wp2
    go_ret
    exact ⟨ret_int (by rw [HC.out, if_pos HZ.out]), hA.trans hb'⟩
  · have hz' : (cmpS a.name b.name != 0) = true := by simp [hz]
    have HZ := Lib.hid hz
    clear hz
    go_enter Tryz.func29, Tryz.ntmps29
    go_wp2_with (go_at_call 68; refine (compare_any _ _ _).mono ?_; rintro e w' ⟨rfl, rfl⟩)
    go_ret
    exact ⟨ret_int (by rw [HC.out, if_neg HZ.out]), hA⟩

end Go.Proofs.YtjjfafgaphloaaaGreatDoor
namespace Go.Proofs.YtjjfafgaphloaaaGreatDoor
open Go.RowKit Go.Sort D
set_option linter.unusedVariables false
theorem D.coll_strs {base e : Nat} {w : World} {v : Value} {L : List Value} {xs : List ByteArray} {bs : List Nat} (h : Coll 1 strK base e w v L xs bs) : L = xs.map Value.string ∧ (∀ s ∈ xs, s.size ≤ maxLen) ∧ bs = [] := by
  obtain ⟨_, ⟨hl, _, G, rfl, hat⟩, _⟩ := h
  rw [Nat.mul_one] at hl
  have h1 : ∀ j (hj : j < xs.length), L[j]? = some (.string xs[j]) ∧ xs[j].size ≤ maxLen ∧ G j = [] := fun j hj => by
    obtain ⟨a, b, c⟩ := hat j hj
    refine ⟨?_, b, c⟩
    rw [Nat.mul_one] at a
    have := congrArg (fun l : List Value => l[0]?) a
    simpa [List.getElem?_take, List.getElem?_drop] using this
  refine ⟨List.ext_getElem? fun j => ?_, fun s hs => ?_, ?_⟩
  · by_cases hj : j < xs.length
    · rw [(h1 j hj).1]; simp [hj]
    · rw [List.getElem?_eq_none (by omega), List.getElem?_eq_none (by simp; omega)]
  · obtain ⟨j, hj, rfl⟩ := List.mem_iff_getElem.1 hs
    exact (h1 j hj).2.1
  · exact List.flatMap_eq_nil_iff.2 fun j hj => (h1 j (List.mem_range.1 hj)).2.2

theorem D.coll_of_strs {base e : Nat} {w : World} {v : Value} {ys : List ByteArray} (h : w.ownsRow base e 1 v ys.length (ys.map Value.string)) (hs : ∀ s ∈ ys, s.size ≤ maxLen) : Coll 1 strK base e w v (ys.map Value.string) ys [] := by
  refine ⟨h, ⟨by simp, fun u hu => ?_, fun _ => [], by simp, fun j hj => ⟨?_, hs _ (List.getElem_mem hj), rfl⟩⟩, fun b hb => by simp at hb⟩
  · obtain ⟨s, _, rfl⟩ := List.mem_map.1 hu
    rfl
  · rw [Nat.mul_one]
    refine List.ext_getElem? fun i => ?_
    rcases i with _ | i
    · simp [List.getElem?_drop, hj]
    · simp; omega

def D.toBs (l : List (List UInt8)) : List ByteArray := l.map fun b => ⟨b.toArray⟩

theorem D.toBs_bytes (l : List (List UInt8)) : (toBs l).map (·.data.toList) = l := by
  unfold toBs; rw [List.map_map]
  refine (List.map_congr_left (g := id) fun b _ => ?_).trans (List.map_id l)
  show b.toArray.toList = b
  rfl

theorem D.toBs_enc (l : List (List UInt8)) : (toBs l).map Value.string = l.map encStr := by
  unfold toBs; rw [List.map_map]; rfl

theorem D.toBs_size {l : List (List UInt8)} {n : Nat} (h : ∀ b ∈ l, b.length ≤ n) : ∀ s ∈ toBs l, s.size ≤ n := fun s hs => by
  obtain ⟨b, hb, rfl⟩ := List.mem_map.1 hs
  exact h b hb

theorem D.bytes_size {xs : List ByteArray} {n : Nat} (h : ∀ s ∈ xs, s.size ≤ n) : ∀ b ∈ xs.map (·.data.toList), b.length ≤ n := fun b hb => by
  obtain ⟨s, hs, rfl⟩ := List.mem_map.1 hb
  exact h s hs

/-- Sorted: the same slice holds the sorted texts. -/
theorem sortS_any (xs : List ByteArray) (v : Value) (L : List Value) (base : Nat) (w : World) (hC : Coll 1 strK base 9 w v L xs []) (hl : xs.length ≤ 16777216) :
    Calls Tryz.prog 137 #[v] w fun e w' => e = .returned (.tuple #[]) ∧ ∃ ys : List ByteArray, ys.map (·.data.toList) = (xs.map (·.data.toList)).mergeSort leB ∧ ys.length = xs.length ∧ Coll 1 strK base 9 w' v (ys.map Value.string) ys [] ∧ w.grownBy w' v.ownBlock := by
  obtain ⟨rfl, hs, _⟩ := coll_strs hC
  have hrow := hC.own
  rcases hrow.2 with ⟨rfl, hx⟩ | ⟨g, cap, cur, rfl, hbase, hb, h1, h2, h3, h4⟩
  · have hx0 : xs = [] := by simpa using hx
    subst hx0
    have cn : Calls Tryz.prog 137 #[.slice none 0 0] w (fun e w2 => e = .returned (.tuple #[]) ∧ w2 = w) := Any.slices_Sort_string_none Tryz.lays190 none 0 w
    refine cn.mono ?_
    rintro e w' ⟨rfl, rfl⟩
    exact ⟨rfl, [], by simp, rfl, Coll.nil _, World.grownBy.refl _ _⟩
  · have hcl : (xs.map (·.data.toList)).length = xs.length := by simp
    have hH : Holds encStr w g 0 (xs.map (·.data.toList)).toArray := holds_of_block hb (by rw [hcl, Lib.map_encStr]; simpa using h4)
    have hg : g < w.heap.size := lt_of_block hb
    have c := Tryz.slices_Sort_string g 0 cap (xs.map (·.data.toList)) w hH hg (by omega)
    rw [hcl] at c
    refine c.mono ?_
    rintro e w' ⟨rfl, n, os, rfl⟩
    have hls : ((xs.map (·.data.toList)).mergeSort leB).length = (xs.map (·.data.toList)).length := List.length_mergeSort _
    have hown := ownsRow_sorted (base := base) (cap := cap) (n := n) (os := os) hls hbase hb (by rw [hcl]; exact h1) h2 h3
    rw [hcl] at hown hls
    have hlt : (toBs ((xs.map (·.data.toList)).mergeSort leB)).length = xs.length := by unfold toBs; rw [List.length_map]; exact hls
    refine ⟨rfl, toBs ((xs.map (·.data.toList)).mergeSort leB), toBs_bytes _, hlt, ?_, grownBy_sorted _⟩
    rw [← toBs_enc, ← hlt] at hown
    have := coll_of_strs hown (toBs_size fun b hb => bytes_size hs b ((List.mergeSort_perm _ _).mem_iff.1 hb))
    rw [hlt] at this
    exact this

end Go.Proofs.YtjjfafgaphloaaaGreatDoor
namespace Go.Proofs.YtjjfafgaphloaaaGreatDoor
open Go.RowKit D
set_option linter.unusedVariables false
set_option maxHeartbeats 400000 in
theorem atomOk_spec (a : A) (c0 c1 : Value) (bs : List Nat) (w : World) (h : atomK w [c0, c1] a bs) :
    Calls Tryz.prog 123 #[.agg #[c0, c1]] w fun e w' => e = .returned (.bool (atomOk a)) ∧ Below w.heap.size w w' := by
  obtain ⟨s, hcs, hnm, ht⟩ := h
  simp only [List.cons.injEq, and_true] at hcs
  obtain ⟨rfl, rfl⟩ := hcs
  obtain ⟨Ad, cap, rfl, hl, hm⟩ := sliceK_form ht
  have hlm := nat_ge_max (Nat.le_trans hl hm)
  clear hm
  have hn := fun w => nameOk_spec a.name w hnm
  unfold atomOk
  obtain ⟨nm, ts⟩ := a
  dsimp only at *
  generalize nameOk nm = b at *
  go_enter Tryz.func123, Tryz.ntmps123
  go_wp2
  go_loopw [3] (fun i wr => ∃ k : Nat, k ≤ ts.length ∧ i = .int .i64 k ∧ (ts.take k).all termOk = true ∧ Below w.heap.size w wr ∧ wr.cell? ⟨w.heap.size, 0, none⟩ = some (.string nm) ∧ wr.cell? ⟨w.heap.size, 1, none⟩ = some (.slice Ad ts.length cap) ∧ w.heap.size < wr.heap.size) (fun i _ => ts.length - (intOf i).toNat)
  case atStart => exact ⟨0, Nat.zero_le _, rfl, rfl, (Below.refl _ _).alloc (Nat.le_refl _) _, by simp, by simp, by simp⟩
  case round =>
    obtain ⟨k, hk, rfl, hall, hb, hc0, hc1, hsz⟩ := hrel
    have HA := Lib.hid hall
    clear hall
    by_cases hlt : k < ts.length
    · have hw := termsK_good.below ht hb
      obtain ⟨b0, o, rfl, _, d0, d1, hnm⟩ := terms_at hw hlt
      have HT := Lib.hid ht
      clear ht hw
      go_wp2_with (go_at_call 171; refine (l1Term_any _ _ hnm).mono ?_; rintro e w' ⟨rfl, hb'⟩)
      · have hx : (!termOk ts[k]) = true := by assumption
        go_ret
        exact ⟨ret_bool (by rw [all_bad ts k hlt (by simpa using hx)]; simp), hb.trans (hb'.mono (by omega))⟩
      · have hx : (!termOk ts[k]) = false := by assumption
        go_roundw
        case rel => exact ⟨k + 1, by omega, by go_num, by rw [all_take_snoc ts k hlt, HA.out]; simpa using hx, hb.trans (hb'.mono (by omega)), cell_later hb' hc0, cell_later hb' hc1, by have := hb'.size; omega⟩
        case measure => simp [intOf]; omega
    · have he : k = ts.length := by omega
      subst he
      have ha : ts.all termOk = true := by have := HA.out; rwa [List.take_of_length_le (Nat.le_refl _)] at this
      have HA2 := Lib.hid ha
      clear ha
      cases b
      all_goals
        go_wp2_with (go_at_call 172; refine (hn _).mono ?_; rintro e w3 ⟨rfl, rfl⟩)
        go_ret
        exact ⟨ret_bool (by rw [HA2.out]; first | (simp; done) | (rw [Bool.eq_iff_iff]; simp; omega)), hb⟩

set_option maxHeartbeats 400000 in
theorem atomOk_impl (a : A) (c0 c1 : Value) (bs : List Nat) (w : World) (h : atomK w [c0, c1] a bs) :
    Calls Tryz.prog 116 #[.agg #[c0, c1]] w fun e w' => e = .returned (.bool (atomOk a)) ∧ Below w.heap.size w w' := by
  obtain ⟨s, hcs, hnm, ht⟩ := h
  simp only [List.cons.injEq, and_true] at hcs
  obtain ⟨rfl, rfl⟩ := hcs
  obtain ⟨Ad, cap, rfl, hl, hm⟩ := sliceK_form ht
  have hlm := nat_ge_max (Nat.le_trans hl hm)
  clear hm
  have hn := fun w => nameOk_impl a.name w hnm
  unfold atomOk
  obtain ⟨nm, ts⟩ := a
  dsimp only at *
  generalize nameOk nm = b at *
  by_cases h3 : ts.length ≤ 3
  all_goals cases b
  case pos.true =>
    go_enter Tryz.func116, Tryz.ntmps116
    go_wp2_with (go_at_call 160; refine (hn _).mono ?_; rintro e w3 ⟨rfl, rfl⟩)
    go_loopw [18] (fun i wr => ∃ k : Nat, k ≤ ts.length ∧ i = .int .i64 k ∧ (ts.take k).all termOk = true ∧ Below w.heap.size w wr) (fun i _ => ts.length - (intOf i).toNat)
    case atStart => exact ⟨0, Nat.zero_le _, rfl, rfl, (Below.refl _ _).alloc (Nat.le_refl _) _⟩
    case round =>
      obtain ⟨k, hk, rfl, hall, hb⟩ := hrel
      have HA := Lib.hid hall
      clear hall
      by_cases hlt : k < ts.length
      · have hw := termsK_good.below ht hb
        obtain ⟨b0, o, rfl, _, d0, d1, hnm⟩ := terms_at hw hlt
        have HT := Lib.hid ht
        clear ht hw
        go_wp2_with (go_at_call 161; refine (termOk_any _ _ hnm).mono ?_; rintro e w' ⟨rfl, hb'⟩)
        · have hx : (!termOk ts[k]) = true := by assumption
          go_ret
          exact ⟨ret_bool (by rw [all_bad ts k hlt (by simpa using hx)]; simp), (hb.alloc hb.size _).trans (hb'.mono (by have := hb.size; simp; omega))⟩
        · have hx : (!termOk ts[k]) = false := by assumption
          go_roundw
          case rel => exact ⟨k + 1, by omega, by go_num, by rw [all_take_snoc ts k hlt, HA.out]; simpa using hx, (hb.alloc hb.size _).trans (hb'.mono (by have := hb.size; simp; omega))⟩
          case measure => simp [intOf]; omega
      · have he : k = ts.length := by omega
        subst he
        have ha : ts.all termOk = true := by have := HA.out; rwa [List.take_of_length_le (Nat.le_refl _)] at this
        have HA2 := Lib.hid ha
        clear ha
        go_wp2
        go_ret
        exact ⟨ret_bool (by rw [HA2.out]; simp; omega), hb⟩
  all_goals
    go_enter Tryz.func116, Tryz.ntmps116
    go_wp2_with (go_at_call 160; refine (hn _).mono ?_; rintro e w3 ⟨rfl, rfl⟩)
    all_goals (go_ret; exact ⟨ret_bool (by first | (simp; done) | (simp; omega)), (Below.refl _ _).alloc (Nat.le_refl _) _⟩)

end Go.Proofs.YtjjfafgaphloaaaGreatDoor
