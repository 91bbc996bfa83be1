/- What comes in as a datum of the form reads as plain data: terms, atoms, parts, rules, changes and slices of them. -/
import Derived.Test.YtoekllcfmnnibaaDoorKind
namespace Go.Proofs.YtoekllcfmnnibaaDoor.D
open Go.RowKit Go.Deep Go.ChangeShapes Go.WideShapes

/-- Whatever is read as a datum of type e reads as an x. -/
def Opens {α : Type} (P : Program) (e : TypeId) (R : Rel α) : Prop :=
  ∀ (H : Type) (enc : TypeId × Value → H) (w : World) (spare : Nat → Bool) (held : Bool) (fuel : Nat) (cs : List Value) (y : DataW H × List MemPlace),
    DataW.trod enc P w 0 spare held fuel e cs = some y → ∃ x bs, R w cs x bs

theorem opens_slice {α : Type} {P : Program} {t e : TypeId} {n : Nat} {R : Rel α} (ht : P.underlying t = some (.slice e)) (hC : P.cellsOf e = n) (hn : 0 < n) (hR : Opens P e R) : Opens P t (sliceK n R) := by
  intro H enc w spare held fuel cs y h
  rcases open_slice ht h with ⟨rfl, _⟩ | ⟨a, len, cap, m, n', Dd, Pl, rfl, _, hl, hm, hmm, _, hi⟩
  · exact ⟨[], [], none, 0, rfl, Nat.le_refl _, by unfold maxLen; omega, fun _ => rfl, fun h => absurd rfl h⟩
  · have hlm : len ≤ m := by rw [hmm]; split <;> omega
    by_cases h0 : len = 0
    · subst h0
      exact ⟨[], [], some a, cap, rfl, hl, hm, fun _ => rfl, fun h => absurd rfl h⟩
    · have hex : ∀ k, k < len → ∃ p : List Value × α × List Nat, p.1.length = n ∧ (∀ j v, p.1[j]? = some v → w.cell? (a.add (k * n + j)) = some v) ∧ R w p.1 p.2.1 p.2.2 := by
        intro k hk
        obtain ⟨cs', hc, htr⟩ := hi k (by omega)
        rw [hC] at hc
        obtain ⟨_, hlen, hcell⟩ := World.cells?_some hc
        obtain ⟨x, bs, hx⟩ := hR H enc w spare held n' cs' _ htr
        refine ⟨(cs', x, bs), hlen, fun j v hv => ?_, hx⟩
        have hjn : j < n := by
          have := (List.getElem?_eq_some_iff.1 hv).1
          dsimp only at this
          omega
        have := hcell j hjn
        rw [add_add] at this
        rw [this]; exact hv
      obtain ⟨p0, _⟩ := hex 0 (by omega)
      haveI : Inhabited (List Value × α × List Nat) := ⟨p0⟩
      obtain ⟨f, hf⟩ := choose_lt hex
      have hsp : a.spot = none := by
        obtain ⟨q1, q2, _⟩ := hf 0 (by omega)
        obtain ⟨v, hv⟩ : ∃ v, (f 0).1[0]? = some v := ⟨_, List.getElem?_eq_getElem (by omega)⟩
        have h1 := q2 0 v hv
        have h2 : a.add (0 * n + 0) = a := by simp [Addr.add]
        rw [h2] at h1
        exact World.cell?_spot h1
      obtain ⟨b, o, sp⟩ := a
      dsimp only at hsp
      subst hsp
      have hadd : ∀ i, (⟨b, o, none⟩ : Addr).add i = ⟨b, o + i, none⟩ := by
        intro i; unfold Addr.add; split <;> simp_all
      have hlx : ((List.range len).map fun k => (f k).2.1).length = len := by simp
      refine ⟨(List.range len).map fun k => (f k).2.1, b :: (List.range len).flatMap fun k => (f k).2.2, some ⟨b, o, none⟩, cap, by rw [hlx], by rw [hlx]; exact hl, hm, fun h => ?_, fun _ => ⟨b, o, rfl, fun k => (f k).1, fun k => (f k).2.2, by rw [hlx], fun k x hx => ?_⟩⟩
      · have := congrArg List.length h; rw [hlx] at this; exact absurd this h0
      · obtain ⟨hk, rfl⟩ := List.getElem?_eq_some_iff.1 hx
        rw [hlx] at hk
        obtain ⟨q1, q2, q3⟩ := hf k hk
        refine ⟨q1, fun j v hv => ?_, ?_⟩
        · rw [← hadd]; exact q2 j v hv
        · simp only [List.getElem_map, List.getElem_range]; exact q3

theorem opens_byte {P : Program} {t : TypeId} (ht : P.underlying t = some (.int .u8)) : Opens P t byteK := by
  intro H enc w spare held fuel cs y h
  obtain ⟨n, rfl, _, hw⟩ := DataW.trod_int ht h
  simp only [Lit.wf, IntKind.min, IntKind.max, IntKind.signed, IntKind.bits] at hw
  simp at hw
  exact ⟨UInt8.ofNat n.toNat, [], by simp; omega, rfl⟩

section
variable {P : Program}
theorem opens_term {t : TypeId} {f0 f1 : Field} (ht : P.underlying t = some (.struct #[f0, f1])) (hC : P.cellsOf t = 2) (h0 : P.underlying f0.type = some .bool) (h1 : P.underlying f1.type = some .string)
    (c0 : P.cellsOf f0.type = 1) (c1 : P.cellsOf f1.type = 1) (o0 : f0.offset = 0) (o1 : f1.offset = 1) : Opens P t termK := by
  intro H enc w spare held fuel cs y h
  obtain ⟨y0, y1, n, rfl, hl, t0, t1⟩ := trod_struct2 ht h
  rw [hC] at hl
  match cs, hl with
  | [a, b], _ =>
    rw [c0, o0] at t0
    rw [c1, o1] at t1
    obtain ⟨x0, e0, _⟩ := DataW.trod_bool h0 t0
    obtain ⟨x1, e1, _, hs⟩ := DataW.trod_string h1 t1
    simp at e0 e1
    subst e0 e1
    exact ⟨⟨x0, x1⟩, [], rfl, hs, rfl⟩

theorem opens_atom {t : TypeId} {f0 f1 : Field} (ht : P.underlying t = some (.struct #[f0, f1])) (hC : P.cellsOf t = 2) (h0 : P.underlying f0.type = some .string) (h1 : Opens P f1.type termsK)
    (c0 : P.cellsOf f0.type = 1) (c1 : P.cellsOf f1.type = 1) (o0 : f0.offset = 0) (o1 : f1.offset = 1) : Opens P t atomK := by
  intro H enc w spare held fuel cs y h
  obtain ⟨y0, y1, n, rfl, hl, t0, t1⟩ := trod_struct2 ht h
  rw [hC] at hl
  match cs, hl with
  | [a, b], _ =>
    rw [c0, o0] at t0
    rw [c1, o1] at t1
    obtain ⟨x0, e0, _, hs⟩ := DataW.trod_string h0 t0
    obtain ⟨x1, bs, hx⟩ := h1 H enc w spare held n _ _ t1
    simp at e0
    subst e0
    exact ⟨⟨x0, x1⟩, bs, b, rfl, hs, by simpa using hx⟩

/-- A part's cells are 'not' and its atom's. -/
theorem opens_part {t : TypeId} {f0 f1 : Field} (ht : P.underlying t = some (.struct #[f0, f1])) (hC : P.cellsOf t = 3) (h0 : P.underlying f0.type = some .bool) (h1 : Opens P f1.type atomK)
    (c0 : P.cellsOf f0.type = 1) (c1 : P.cellsOf f1.type = 2) (o0 : f0.offset = 0) (o1 : f1.offset = 1) : Opens P t partK := by
  intro H enc w spare held fuel cs y h
  obtain ⟨y0, y1, n, rfl, hl, t0, t1⟩ := trod_struct2 ht h
  rw [hC] at hl
  match cs, hl with
  | [a, b, c], _ =>
    rw [c0, o0] at t0
    rw [c1, o1] at t1
    obtain ⟨x0, e0, _⟩ := DataW.trod_bool h0 t0
    obtain ⟨x1, bs, s, hcs, hs, hx⟩ := h1 H enc w spare held n _ _ t1
    simp at e0 hcs
    obtain ⟨rfl, rfl⟩ := hcs
    subst e0
    exact ⟨⟨x0, x1⟩, bs, c, rfl, hs, hx⟩

theorem opens_rule {t : TypeId} {f0 f1 : Field} (ht : P.underlying t = some (.struct #[f0, f1])) (hC : P.cellsOf t = 3) (h0 : Opens P f0.type atomK) (h1 : Opens P f1.type partsK)
    (c0 : P.cellsOf f0.type = 2) (c1 : P.cellsOf f1.type = 1) (o0 : f0.offset = 0) (o1 : f1.offset = 2) : Opens P t ruleK := by
  intro H enc w spare held fuel cs y h
  obtain ⟨y0, y1, n, rfl, hl, t0, t1⟩ := trod_struct2 ht h
  rw [hC] at hl
  match cs, hl with
  | [a, b, c], _ =>
    rw [c0, o0] at t0
    rw [c1, o1] at t1
    obtain ⟨x0, bs1, s, hcs, hs, hx0⟩ := h0 H enc w spare held n _ _ t0
    obtain ⟨x1, bs2, hx1⟩ := h1 H enc w spare held n _ _ t1
    simp at hcs
    obtain ⟨rfl, rfl⟩ := hcs
    exact ⟨⟨x0, x1⟩, bs1 ++ bs2, b, c, bs1, bs2, rfl, hs, rfl, hx0, by simpa using hx1⟩

theorem opens_change {t : TypeId} {f0 f1 : Field} (ht : P.underlying t = some (.struct #[f0, f1])) (hC : P.cellsOf t = 2) (h0 : Opens P f0.type atomsK) (h1 : Opens P f1.type atomsK)
    (c0 : P.cellsOf f0.type = 1) (c1 : P.cellsOf f1.type = 1) (o0 : f0.offset = 0) (o1 : f1.offset = 1) : Opens P t changeK := by
  intro H enc w spare held fuel cs y h
  obtain ⟨y0, y1, n, rfl, hl, t0, t1⟩ := trod_struct2 ht h
  rw [hC] at hl
  match cs, hl with
  | [a, b], _ =>
    rw [c0, o0] at t0
    rw [c1, o1] at t1
    obtain ⟨x0, bs1, hx0⟩ := h0 H enc w spare held n _ _ t0
    obtain ⟨x1, bs2, hx1⟩ := h1 H enc w spare held n _ _ t1
    exact ⟨⟨x0, x1⟩, bs1 ++ bs2, a, b, bs1, bs2, rfl, rfl, by simpa using hx0, by simpa using hx1⟩
end

end Go.Proofs.YtoekllcfmnnibaaDoor.D
