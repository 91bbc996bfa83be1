/- A region that draws its order and whose last operations turn what its loads read (x.f = append(x.f, g())): the loads may be taken first, for those operations wait for them. No program is named here. -/
import Derived.OrdersHeld
import Derived.Deep.RegionHeld3
import Derived.RegionTactic
namespace Go.Proofs.Ytbcepahpehadeaa
open Go
set_option linter.unusedVariables false

section
variable {P : Program} {ops : Array Oper} {Q : Exit → Act → World → Prop} {md : Region.Mode} {S : World → Prop} {X : Nat → Bool}

/-- Whichever operation comes up next: behind it S stands, unless X names it. -/
def LateAny (P : Program) (md : Region.Mode) (ops : Array Oper) (Q : Exit → Act → World → Prop) (S : World → Prop) (X : Nat → Bool) : Nat → Array Bool → Act → World → Prop
  | 0, l, a, w => Region.ready md ops l = [] ∧ Q .normal a w
  | n + 1, l, a, w => (Region.ready md ops l = [] → Q .normal a w) ∧ ∀ i ∈ Region.ready md ops l, wpOp P ops Q i (fun b u => (X i = false → S u) ∧ LateAny P md ops Q S X n (l.setIfInBounds i true) b u) a w

theorem late_sound : ∀ (n : Nat) (l : Array Bool) (a : Act) (w : World), LateAny P md ops Q S X n l a w → wpAny P md ops Q n l a w
  | 0, _, _, _, h => h
  | n + 1, l, _, _, h => ⟨h.1, fun i hi => wpOp_mono (fun b u k => late_sound n _ b u k.2) (h.2 i hi)⟩

/-- Each operation that X names waits for operation i. -/
def lateWaits (md : Region.Mode) (ops : Array Oper) (X : Nat → Bool) (i : Nat) : Bool :=
  (List.range ops.size).all fun j => !X j || match ops[j]? with
    | some o => o.after.any (fun e => Region.binds md e && e.on == i)
    | none => true

theorem lateWaits_spec {i j : Nat} {o : Oper} (h : lateWaits md ops X i = true) (hj : ops[j]? = some o) (hn : ∀ e ∈ o.after, Region.binds md e = true → e.on ≠ i) : X j = false := by
  have hl := (Array.getElem?_eq_some_iff.1 hj).1
  have h1 := List.all_eq_true.1 h j (List.mem_range.2 hl)
  simp only [hj, Bool.or_eq_true, Bool.not_eq_true'] at h1
  rcases h1 with h1 | h1
  · exact h1
  · obtain ⟨e, he, hb⟩ := Array.any_eq_true'.1 h1
    simp only [Bool.and_eq_true, beq_iff_eq] at hb
    exact absurd hb.2 (hn e he hb.1)

theorem late_first {i : Nat} {oi : Oper} {v : Value} (hi : ops[i]? = some oi) (hsel : Region.noSelect ops = true) (hw : lateWaits md ops X i = true)
    (hQ : ∀ c a w, Q (.panic c) (a.put oi.dst v) w → Q (.panic c) a w) : ∀ (n : Nat) (l : Array Bool) (a : Act) (w : World),
      (∀ j oj, ops[j]? = some oj → j ≠ i → l.getD j true = false → (∀ e ∈ oj.after, Region.binds md e = true → e.on ≠ i) → oi.apart ops oj = true) →
      i ∈ Region.ready md ops l → YieldsIf P ops S oi v a → S w → LateAny P md ops Q S X n (l.setIfInBounds i true) (a.put oi.dst v) w → LateAny P md ops Q S X (n + 1) l a w := by
  intro n
  induction n with
  | zero =>
    intro l a w _ hr hy hS H
    refine ⟨fun h => absurd hr (by rw [h]; simp), fun j hj => ?_⟩
    rcases Nat.decEq j i with hne | rfl
    · have := ready_mono hj hne
      rw [H.1] at this
      cases this
    · exact hy.wpOp hi hS ⟨fun _ => hS, H⟩
  | succ n ih =>
    intro l a w hfree hr hy hS H
    refine ⟨fun h => absurd hr (by rw [h]; simp), fun j hj => ?_⟩
    rcases Nat.decEq j i with hne | rfl
    · obtain ⟨hun, oj, hoj, hall⟩ := mem_ready.1 hj
      have hno : ∀ e ∈ oj.after, Region.binds md e = true → e.on ≠ i := fun e he hb hei => by
        have h1 := hall e he hb
        have h0 := (mem_ready.1 hr).1
        rw [hei] at h1
        by_cases hil : i < l.size
        · simp only [Array.getD_eq_getD_getElem?, Array.getElem?_eq_getElem hil, Option.getD_some] at h0 h1
          rw [h0] at h1; cases h1
        · simp [Array.getElem?_eq_none (Nat.le_of_not_lt hil)] at h1
      have hX := lateWaits_spec hw hoj hno
      have h2 := wpOp_putIf hoj (hfree j oj hoj hne hun hno) (fun cs b => Region.noSelect_spec hsel i oi cs b hi) (fun cs b => Region.noSelect_spec hsel j oj cs b hoj) hQ hy (H.2 j (ready_mono hj hne))
      refine wpOp_mono (fun b u h3 => ⟨h3.2.1, ih _ b u (fun k ok hk hki hkun hkno => hfree k ok hk hki ?_ hkno) (ready_mono hr (Ne.symm hne)) h3.1 (h3.2.1 hX) ?_⟩) h2
      · by_cases hjk : j = k
        · subst hjk; exact hun
        · rwa [getD_set_ne true hjk] at hkun
      · rw [Array.setIfInBounds_comm _ _ hne]
        exact h3.2.2
    · exact hy.wpOp hi hS ⟨fun _ => hS, H⟩

theorem late_take {i : Nat} {oi : Oper} {v : Value} {n : Nat} {l : Array Bool} {a : Act} {w : World} (hi : ops[i]? = some oi)
    (hs : Region.noSelect ops = true) (hf : Region.free md ops l i = true) (hr : (Region.ready md ops l).contains i = true) (hw : lateWaits md ops X i = true)
    (hQ : ∀ c a w, Q (.panic c) (a.put oi.dst v) w → Q (.panic c) a w) (hy : YieldsIf P ops S oi v a) (hS : S w)
    (h : LateAny P md ops Q S X n (l.setIfInBounds i true) (a.put oi.dst v) w) : LateAny P md ops Q S X (n + 1) l a w :=
  late_first hi hs hw hQ n l a w (Region.free_spec hi hf) (by simpa using hr) hy hS h

/-- Operation i alone may come up, and is carried out: S behind it. -/
theorem late_one {i : Nat} {o : Oper} {n : Nat} {l : Array Bool} {a : Act} {w : World} (hr : Region.ready md ops l = [i]) (ho : ops[i]? = some o)
    (h : ∀ K : Act → World → Prop, Shut (∀ b u, S u → (S u → LateAny P md ops Q S X n (l.setIfInBounds i true) b u) → K b u) → if Region.wanted o (yielded ops a.tmps) = true then Oper.wp P o a w K Q else K (a.put o.dst undef) w) :
    LateAny P md ops Q S X (n + 1) l a w :=
  ⟨(fun h0 => by rw [hr] at h0; cases h0), fun j hj => by
    rw [hr] at hj
    obtain rfl : j = i := by simpa using hj
    exact wpOp_step ho (fun K hK => h K (fun b u hS hL => hK b u ⟨fun _ => hS, hL hS⟩))⟩
/-- Operation i alone may come up, X names it: nothing of S. -/
theorem late_last {i : Nat} {o : Oper} {n : Nat} {l : Array Bool} {a : Act} {w : World} (hr : Region.ready md ops l = [i]) (hX : X i = true) (ho : ops[i]? = some o)
    (h : ∀ K : Act → World → Prop, Shut (∀ b u, LateAny P md ops Q S X n (l.setIfInBounds i true) b u → K b u) → if Region.wanted o (yielded ops a.tmps) = true then Oper.wp P o a w K Q else K (a.put o.dst undef) w) :
    LateAny P md ops Q S X (n + 1) l a w :=
  ⟨(fun h0 => by rw [hr] at h0; cases h0), fun j hj => by
    rw [hr] at hj
    obtain rfl : j = i := by simpa using hj
    exact wpOp_step ho (fun K hK => h K (fun b u hL => hK b u ⟨fun h1 => (by rw [hX] at h1; cases h1), hL⟩))⟩
theorem late_done {l : Array Bool} {a : Act} {w : World} (hr : Region.ready md ops l = []) (h : Q .normal a w) : ∀ n, LateAny P md ops Q S X n l a w
  | 0 => ⟨hr, h⟩
  | _ + 1 => ⟨fun _ => h, (fun j hj => by rw [hr] at hj; cases hj)⟩
theorem late_region (S : World → Prop) (X : Nat → Bool) {id : Nat} {a : Act} {w : World} (hm : P.follows .mixedOrders = true) (hS : S w.drew)
    (h : S w.drew → LateAny P .any ops Q S X ops.size (Array.replicate ops.size false) a w.drew) : (Code.region id ops true).wp P Q a w :=
  wp_region_any hm (late_sound _ _ _ _ (h hS))
end

end Go.Proofs.Ytbcepahpehadeaa
