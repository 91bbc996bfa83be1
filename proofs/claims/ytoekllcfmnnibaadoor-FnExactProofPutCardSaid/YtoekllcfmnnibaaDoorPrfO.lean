/- What comes in as a proof reads as plain data. -/
import Derived.Test.YtoekllcfmnnibaaDoorOpen
import Derived.Test.YtoekllcfmnnibaaDoorPrf
namespace Go.Proofs.YtoekllcfmnnibaaDoor.D
open Go.RowKit Go.Deep Go.ChangeShapes Go.WideShapes
set_option linter.unusedVariables false

/-- The same, up to a fuel. -/
def OpensF {α : Type} (P : Program) (e : TypeId) (m : Nat) (R : Rel α) : Prop :=
  ∀ (H : Type) (enc : TypeId × Value → H) (w : World) (spare : Nat → Bool) (held : Bool) (fuel : Nat) (cs : List Value) (y : DataW H × List MemPlace),
    fuel ≤ m → DataW.trod enc P w 0 spare held fuel e cs = some y → ∃ x bs, R w cs x bs
theorem opensF_slice {α : Type} {P : Program} {t e : TypeId} {n m : Nat} {R : Rel α} (ht : P.underlying t = some (.slice e)) (hC : P.cellsOf e = n) (hn : 0 < n) (hR : OpensF P e m R) : OpensF P t (m + 1) (sliceK n R) := by
  intro H enc w spare held fuel cs y hf0 h
  rcases DataW.trod_slice ht h with ⟨rfl, _⟩ | ⟨a, len, cap, elems, rest, n', hfu, rfl, _, _, hl, hm, hlen, hel, _, _⟩
  · exact ⟨[], [], none, 0, rfl, Nat.le_refl _, by unfold maxLen; omega, fun _ => rfl, fun h => absurd rfl h⟩
  · by_cases h0 : len = 0
    · subst h0
      exact ⟨[], [], some a, cap, rfl, hl, hm, fun _ => rfl, fun h => absurd rfl h⟩
    · have hex : ∀ k, k < len → ∃ p : List Value × α × List Nat, p.1.length = n ∧ (∀ j v, p.1[j]? = some v → w.cell? (a.add (k * n + j)) = some v) ∧ R w p.1 p.2.1 p.2.2 := by
        intro k hk
        have h1 := hel k hk
        rw [List.getElem?_eq_getElem (by omega)] at h1
        obtain ⟨cs', hc, htr⟩ := Option.bind_eq_some_iff.1 h1
        rw [hC] at hc
        obtain ⟨_, hlen', hcell⟩ := World.cells?_some hc
        obtain ⟨x, bs, hx⟩ := hR H enc w spare held n' cs' _ (by omega) htr
        refine ⟨(cs', x, bs), hlen', fun j v hv => ?_, hx⟩
        have hjn : j < n := by
          have := (List.getElem?_eq_some_iff.1 hv).1
          dsimp only at this
          omega
        have := hcell j hjn
        rw [add_add] at this
        rw [this]; exact hv
      obtain ⟨p0, _⟩ := hex 0 (by omega)
      haveI : Inhabited (List Value × α × List Nat) := ⟨p0⟩
      obtain ⟨f, hf⟩ := choose_lt hex
      have hsp : a.spot = none := by
        obtain ⟨q1, q2, _⟩ := hf 0 (by omega)
        obtain ⟨v, hv⟩ : ∃ v, (f 0).1[0]? = some v := ⟨_, List.getElem?_eq_getElem (by omega)⟩
        have h1 := q2 0 v hv
        have h2 : a.add (0 * n + 0) = a := by simp [Addr.add]
        rw [h2] at h1
        exact World.cell?_spot h1
      obtain ⟨b, o, sp⟩ := a
      dsimp only at hsp
      subst hsp
      have hadd : ∀ i, (⟨b, o, none⟩ : Addr).add i = ⟨b, o + i, none⟩ := by
        intro i; unfold Addr.add; split <;> simp_all
      have hlx : ((List.range len).map fun k => (f k).2.1).length = len := by simp
      refine ⟨(List.range len).map fun k => (f k).2.1, b :: (List.range len).flatMap fun k => (f k).2.2, some ⟨b, o, none⟩, cap, by rw [hlx], by rw [hlx]; exact hl, hm, fun h => ?_, fun _ => ⟨b, o, rfl, fun k => (f k).1, fun k => (f k).2.2, by rw [hlx], fun k x hx => ?_⟩⟩
      · have := congrArg List.length h; rw [hlx] at this; exact absurd this h0
      · obtain ⟨hk, rfl⟩ := List.getElem?_eq_some_iff.1 hx
        rw [hlx] at hk
        obtain ⟨q1, q2, q3⟩ := hf k hk
        refine ⟨q1, fun j v hv => ?_, ?_⟩
        · rw [← hadd]; exact q2 j v hv
        · simp only [List.getElem_map, List.getElem_range]; exact q3
theorem opensF_proof {P : Program} {t : TypeId} {f0 f1 f2 : Field} (ht : P.underlying t = some (.struct #[f0, f1, f2])) (hC : P.cellsOf t = 4) (h0 : Opens P f0.type atomK) (h1 : P.underlying f1.type = some (.int .i64)) (h2 : P.underlying f2.type = some (.slice t))
    (c0 : P.cellsOf f0.type = 2) (c1 : P.cellsOf f1.type = 1) (c2 : P.cellsOf f2.type = 1) (o0 : f0.offset = 0) (o1 : f1.offset = 2) (o2 : f2.offset = 3) : ∀ m, OpensF P t m (proofK m) := by
  intro m
  induction m using Nat.strongRecOn with
  | _ m ih =>
  intro H enc w spare held fuel cs y hfu h
  obtain ⟨xs, n, hn, _, hl, hlen, hf⟩ := DataW.trod_struct ht h
  match m, hfu, ih with
  | 0, hfu, _ => omega
  | m + 1, hfu, ih =>
    rw [hC] at hl
    match xs, hlen with
    | [y0, y1, y2], _ =>
      have t0 := hf 0 f0 rfl
      have t1 := hf 1 f1 rfl
      have t2 := hf 2 f2 rfl
      match cs, hl with
      | [a, b, c, d], _ =>
        rw [c0, o0] at t0
        rw [c1, o1] at t1
        rw [c2, o2] at t2
        simp only [List.getElem?_cons_zero, List.getElem?_cons_succ, List.drop_zero, List.drop_succ_cons, List.take_succ_cons, List.take_zero] at t0 t1 t2
        obtain ⟨x0, bs0, hx0⟩ := h0 H enc w spare held n _ _ t0
        obtain ⟨v1, e1, _, hw⟩ := DataW.trod_int h1 t1
        have hK : OpensF P f2.type m (proofsK (m - 1)) := by
          match m, ih with
          | 0, _ =>
            intro H enc w spare held fuel cs y hf h
            obtain rfl : fuel = 0 := by omega
            simp [DataW.trod] at h
          | m + 1, ih => exact opensF_slice h2 hC (by omega) (ih m (by omega))
        obtain ⟨x2, bs2, hx2⟩ := hK H enc w spare held n _ _ (by omega) t2
        obtain ⟨s, e0, hs, hts⟩ := hx0
        simp only [List.cons.injEq, and_true] at e0 e1
        obtain ⟨rfl, rfl⟩ := e0
        subst e1
        simp only [Lit.wf, IntKind.min, IntKind.max, IntKind.signed, IntKind.bits] at hw
        simp at hw
        have hx2' : sliceK 4 (proofK m) w [d] x2 bs2 := by
          match m, hx2 with
          | 0, hx2 => exact hx2
          | m + 1, hx2 => exact sliceK_imp (proofK_up m) hx2
        exact ⟨.mk x0 v1 x2, bs0 ++ bs2, b, d, bs0, bs2, rfl, hs, hw, rfl, hts, hx2'⟩
end Go.Proofs.YtoekllcfmnnibaaDoor.D
