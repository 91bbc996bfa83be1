/- Proofs (trees of facts) as plain data, and how they lie in memory. -/
import Derived.WalkKit
import Derived.Test.YtoekllcfmnnibaaDoorKind
namespace Go.Proofs.YtoekllcfmnnibaaDoor.D
open Go.RowKit
set_option linter.unusedVariables false

inductive Pf where
  | mk (fact : A) (rule : Int) (kids : List Pf)
namespace Pf
def fact : Pf → A
  | mk a _ _ => a
def rule : Pf → Int
  | mk _ r _ => r
def kids : Pf → List Pf
  | mk _ _ k => k
end Pf
theorem Pf.eta (p : Pf) : p = .mk p.fact p.rule p.kids := by cases p; rfl

/-- A proof of so many storeys at most, in four cells: its fact's two, the rule, the row of its kids. -/
def proofK : Nat → Rel Pf
  | 0 => fun _ _ _ _ => False
  | n + 1 => fun w cs p bs => ∃ s k b1 b2, cs = [.string p.fact.name, s, .int .i64 p.rule, k] ∧ p.fact.name.size ≤ maxLen ∧ (-9223372036854775808 ≤ p.rule ∧ p.rule ≤ 9223372036854775807) ∧ bs = b1 ++ b2 ∧ termsK w [s] p.fact.args b1 ∧ sliceK 4 (proofK n) w [k] p.kids b2
def proofsK (n : Nat) : Rel (List Pf) := sliceK 4 (proofK n)
theorem proofK_good : ∀ n, Good (proofK n)
  | 0 => ⟨fun h _ => h.elim, fun h => h.elim⟩
  | n + 1 => by
    have g2 : Good (sliceK 4 (proofK n)) := sliceK_good (proofK_good n) (by omega)
    refine ⟨fun {w w' cs p bs} h hk => ?_, fun {w cs p bs} h => ?_⟩
    · obtain ⟨s, k, b1, b2, h1, h2, h3, rfl, h5, h6⟩ := h
      obtain ⟨q1, q2⟩ := pair_good termsK_good g2 h5 h6 hk
      exact ⟨s, k, b1, b2, h1, h2, h3, rfl, q1, q2⟩
    · obtain ⟨s, k, b1, b2, h1, h2, h3, rfl, h5, h6⟩ := h
      exact pair_lt termsK_good g2 h5 h6
theorem proofsK_good (n : Nat) : Good (proofsK n) := sliceK_good (proofK_good n) (by omega)

theorem sliceK_imp {α : Type} {n : Nat} {R S : Rel α} {w : World} {cs : List Value} {xs : List α} {bs : List Nat} (hi : ∀ {cs x bs}, R w cs x bs → S w cs x bs) (h : sliceK n R w cs xs bs) : sliceK n S w cs xs bs := by
  obtain ⟨Ad, cap, h1, h2, h3, h4, h5⟩ := h
  refine ⟨Ad, cap, h1, h2, h3, h4, fun hne => ?_⟩
  obtain ⟨b, o, e, F, G, e2, hF⟩ := h5 hne
  exact ⟨b, o, e, F, G, e2, fun k x hk => ⟨(hF k x hk).1, (hF k x hk).2.1, hi (hF k x hk).2.2⟩⟩
theorem proofK_up : ∀ (n : Nat) {w : World} {cs : List Value} {p : Pf} {bs : List Nat}, proofK n w cs p bs → proofK (n + 1) w cs p bs
  | 0, _, _, _, _, h => h.elim
  | n + 1, w, cs, p, bs, h => by
    obtain ⟨s, k, b1, b2, h1, h2, h3, h4, h5, h6⟩ := h
    exact ⟨s, k, b1, b2, h1, h2, h3, h4, h5, sliceK_imp (proofK_up n) h6⟩
/-- An element of a row of proofs: its cells. -/
theorem proofs_el {n : Nat} {w : World} {Ad : Option Addr} {len cap k : Nat} {xs : List Pf} {bs : List Nat} (h : proofsK n w [.slice Ad len cap] xs bs) (hk : k < xs.length) :
    ∃ b o Ae ce Af cf bk, Ad = some ⟨b, o, none⟩ ∧ b ∈ bs ∧ w.cell? ⟨b, o + k * 4, none⟩ = some (.string xs[k].fact.name) ∧ w.cell? ⟨b, o + k * 4 + 1, none⟩ = some (.slice Ae xs[k].fact.args.length ce) ∧ w.cell? ⟨b, o + k * 4 + 2, none⟩ = some (.int .i64 xs[k].rule) ∧ w.cell? ⟨b, o + k * 4 + 3, none⟩ = some (.slice Af xs[k].kids.length cf) ∧
      proofK n w [.string xs[k].fact.name, .slice Ae xs[k].fact.args.length ce, .int .i64 xs[k].rule, .slice Af xs[k].kids.length cf] xs[k] bk ∧ ∀ c ∈ bk, c ∈ bs := by
  obtain ⟨b, o, cs, bk, rfl, hb, hlen, hcell, hR, hsub⟩ := sliceK_at h hk
  cases n with
  | zero => exact hR.elim
  | succ n =>
    have hR0 := hR
    obtain ⟨s, q, b1, b2, rfl, h2, h3, rfl, h5, h6⟩ := hR0
    obtain ⟨Ae, ce, rfl, _⟩ := sliceK_form h5
    obtain ⟨Af, cf, rfl, _⟩ := sliceK_form h6
    have e := fun j => Nat.add_assoc o (k * 4) j
    exact ⟨b, o, Ae, ce, Af, cf, b1 ++ b2, rfl, hb, by simpa using hcell 0 _ rfl, by rw [e]; exact hcell 1 _ rfl, by rw [e]; exact hcell 2 _ rfl, by rw [e]; exact hcell 3 _ rfl, hR, hsub⟩
theorem proof_parts {n : Nat} {w : World} {c0 c1 c2 c3 : Value} {p : Pf} {bs : List Nat} (h : proofK (n + 1) w [c0, c1, c2, c3] p bs) :
    ∃ Ae ce Af cf b1 b2, c0 = .string p.fact.name ∧ c1 = .slice Ae p.fact.args.length ce ∧ c2 = .int .i64 p.rule ∧ c3 = .slice Af p.kids.length cf ∧ bs = b1 ++ b2 ∧ (-9223372036854775808 ≤ p.rule ∧ p.rule ≤ 9223372036854775807) ∧ atomK w [c0, c1] p.fact b1 ∧ proofsK n w [c3] p.kids b2 := by
  obtain ⟨s, q, b1, b2, e, h2, h3, rfl, h5, h6⟩ := h
  simp only [List.cons.injEq, and_true] at e
  obtain ⟨rfl, rfl, rfl, rfl⟩ := e
  obtain ⟨Ae, ce, e5, _⟩ := sliceK_form h5
  obtain ⟨Af, cf, e6, _⟩ := sliceK_form h6
  exact ⟨Ae, ce, Af, cf, b1, b2, rfl, e5, rfl, e6, rfl, h3, ⟨_, rfl, h2, h5⟩, h6⟩

theorem Pf.sizeOf_kid {a : A} {r : Int} {ks : List Pf} {k : Pf} (h : k ∈ ks) : SizeOf.sizeOf k < SizeOf.sizeOf (Pf.mk a r ks) := by
  have h1 := List.sizeOf_lt_of_mem h
  simp only [Pf.mk.sizeOf_spec]
  omega
theorem Pf.ind {P : Pf → Prop} (h : ∀ p : Pf, (∀ k ∈ p.kids, P k) → P p) : ∀ p, P p
  | .mk a r ks => h (.mk a r ks) fun k hk => Pf.ind h k
  termination_by p => SizeOf.sizeOf p
  decreasing_by exact Pf.sizeOf_kid hk
/-- How great a proof is. -/
def bulkPf : Pf → Nat
  | .mk a r ks => bulkA a + ks.length + (ks.attach.map fun ⟨k, hk⟩ => bulkPf k).sum
  termination_by p => SizeOf.sizeOf p
  decreasing_by exact Pf.sizeOf_kid hk
def sizePf : Pf → Nat
  | .mk a r ks => 1 + (ks.attach.map fun ⟨k, hk⟩ => sizePf k).sum
  termination_by p => SizeOf.sizeOf p
  decreasing_by exact Pf.sizeOf_kid hk
theorem bulkPf_eq (p : Pf) : bulkPf p = bulkA p.fact + (p.kids.length + sumL bulkPf p.kids) := by
  obtain ⟨a, r, ks⟩ := p
  rw [bulkPf, show (ks.attach.map fun ⟨k, hk⟩ => bulkPf k) = ks.map bulkPf from by exact List.attach_map_val (l := ks) (f := bulkPf)]
  simp only [Pf.fact, Pf.kids, sumL]
  omega
theorem sizePf_eq (p : Pf) : sizePf p = 1 + sumL sizePf p.kids := by
  obtain ⟨a, r, ks⟩ := p
  rw [sizePf, show (ks.attach.map fun ⟨k, hk⟩ => sizePf k) = ks.map sizePf from by exact List.attach_map_val (l := ks) (f := sizePf)]
  rfl
theorem sizePf_pos (p : Pf) : 1 ≤ sizePf p := by rw [sizePf_eq]; omega
theorem sizePf_le : ∀ p : Pf, sizePf p ≤ 1 + bulkPf p := Pf.ind fun p ih => by
  have h : ∀ ks : List Pf, (∀ k ∈ ks, sizePf k ≤ 1 + bulkPf k) → sumL sizePf ks ≤ ks.length + sumL bulkPf ks := by
    intro ks
    induction ks with
    | nil => intro _; simp [sumL]
    | cons k ks ih =>
      intro hk
      have h1 := hk k (List.mem_cons_self ..)
      have h2 := ih fun x hx => hk x (List.mem_cons_of_mem _ hx)
      simp only [sumL, List.map_cons, List.sum_cons, List.length_cons] at *
      omega
  rw [sizePf_eq, bulkPf_eq]
  have := h p.kids ih
  omega
theorem Pf.kid_size {p : Pf} {k : Nat} (hk : k < p.kids.length) : sizePf p.kids[k] < sizePf p := by
  rw [sizePf_eq p]
  have : ∀ (ks : List Pf) (k : Nat) (hk : k < ks.length), sizePf ks[k] ≤ sumL sizePf ks := by
    intro ks
    induction ks with
    | nil => intro k hk; simp at hk
    | cons x ks ih =>
      intro k hk
      cases k with
      | zero => simp [sumL]
      | succ k =>
        have := ih k (by simpa using hk)
        simp only [sumL, List.map_cons, List.sum_cons, List.getElem_cons_succ] at *
        omega
  have := this p.kids k hk
  omega
end Go.Proofs.YtoekllcfmnnibaaDoor.D
