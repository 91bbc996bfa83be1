/- The elements of data, how much they hold, what functions leave: no program is named here. -/
import Derived.WalkKit
import Derived.Lib.Hide
import Derived.Deep.Slices
import Derived.Test.YtbppnelbjklpeaaKind
namespace Go.Proofs.Ytbppnelbjklpeaa.D
open Go.RowKit

def sumL {α : Type} (f : α → Nat) (xs : List α) : Nat := (xs.map f).sum
theorem sumL_snoc {α : Type} (f : α → Nat) (xs : List α) (k : Nat) (h : k < xs.length) : sumL f (xs.take (k + 1)) = sumL f (xs.take k) + f xs[k] := by
  unfold sumL; rw [List.take_succ_eq_append_getElem h, List.map_append, List.sum_append]; simp
theorem sumL_take {α : Type} (f : α → Nat) (xs : List α) (k : Nat) : sumL f (xs.take k) ≤ sumL f xs := by
  have h : sumL f xs = sumL f (xs.take k) + sumL f (xs.drop k) := by
    conv => lhs; rw [← List.take_append_drop k xs]
    unfold sumL
    rw [List.map_append, List.sum_append]
  omega
theorem sumL_at {α : Type} (f : α → Nat) (xs : List α) (k : Nat) (h : k < xs.length) : f xs[k] ≤ sumL f xs := by
  have := sumL_snoc f xs k h
  have := sumL_take f xs (k + 1)
  omega
def bulkAs (xs : List A) : Nat := xs.length + sumL bulkA xs
def bulkPt (p : Pt) : Nat := bulkA p.atom
def bulkPts (xs : List Pt) : Nat := xs.length + sumL bulkPt xs
def bulkR (r : Ru) : Nat := bulkA r.head + bulkPts r.body
def bulkRs (xs : List Ru) : Nat := xs.length + sumL bulkR xs
def bulkC (c : Ch) : Nat := bulkAs c.comes + bulkAs c.goes

section
variable {w : World} {Ad : Option Addr} {len cap : Nat} {bs : List Nat} {k : Nat}
theorem atoms_el {xs : List A} (h : atomsK w [.slice Ad len cap] xs bs) (hk : k < xs.length) :
    ∃ b o Ae ce bk, Ad = some ⟨b, o, none⟩ ∧ b ∈ bs ∧ w.cell? ⟨b, o + k * 2, none⟩ = some (.string xs[k].name) ∧ w.cell? ⟨b, o + k * 2 + 1, none⟩ = some (.slice Ae xs[k].args.length ce) ∧
      atomK w [.string xs[k].name, .slice Ae xs[k].args.length ce] xs[k] bk ∧ ∀ c ∈ bk, c ∈ bs := by
  obtain ⟨b, o, s, bk, rfl, hb, h0, h1, hnm, ht, hbk⟩ := atoms_at h hk
  obtain ⟨Ae, ce, rfl, _⟩ := sliceK_form ht
  exact ⟨b, o, Ae, ce, bk, rfl, hb, h0, h1, ⟨_, rfl, hnm, ht⟩, hbk⟩
theorem parts_el {xs : List Pt} (h : partsK w [.slice Ad len cap] xs bs) (hk : k < xs.length) :
    ∃ b o Ae ce bk, Ad = some ⟨b, o, none⟩ ∧ b ∈ bs ∧ w.cell? ⟨b, o + k * 3, none⟩ = some (.bool xs[k].no) ∧ w.cell? ⟨b, o + k * 3 + 1, none⟩ = some (.string xs[k].atom.name) ∧ w.cell? ⟨b, o + k * 3 + 2, none⟩ = some (.slice Ae xs[k].atom.args.length ce) ∧
      partK w [.bool xs[k].no, .string xs[k].atom.name, .slice Ae xs[k].atom.args.length ce] xs[k] bk ∧ ∀ c ∈ bk, c ∈ bs := by
  obtain ⟨b, o, s, bk, rfl, hb, h0, h1, h2, hnm, ht, hbk⟩ := parts_at h hk
  obtain ⟨Ae, ce, rfl, _⟩ := sliceK_form ht
  exact ⟨b, o, Ae, ce, bk, rfl, hb, h0, h1, h2, ⟨_, rfl, hnm, ht⟩, hbk⟩
theorem rules_el {xs : List Ru} (h : rulesK w [.slice Ad len cap] xs bs) (hk : k < xs.length) :
    ∃ b o Ae ce Af cf bk, Ad = some ⟨b, o, none⟩ ∧ b ∈ bs ∧ w.cell? ⟨b, o + k * 3, none⟩ = some (.string xs[k].head.name) ∧ w.cell? ⟨b, o + k * 3 + 1, none⟩ = some (.slice Ae xs[k].head.args.length ce) ∧ w.cell? ⟨b, o + k * 3 + 2, none⟩ = some (.slice Af xs[k].body.length cf) ∧
      ruleK w [.string xs[k].head.name, .slice Ae xs[k].head.args.length ce, .slice Af xs[k].body.length cf] xs[k] bk ∧ ∀ c ∈ bk, c ∈ bs := by
  obtain ⟨b, o, s, q, bk, bq, rfl, hb, h0, h1, h2, hnm, ht, hp, hbk, hbq⟩ := rules_at h hk
  obtain ⟨Ae, ce, rfl, _⟩ := sliceK_form ht
  obtain ⟨Af, cf, rfl, _⟩ := sliceK_form hp
  exact ⟨b, o, Ae, ce, Af, cf, bk ++ bq, rfl, hb, h0, h1, h2, ⟨_, _, bk, bq, rfl, hnm, rfl, ht, hp⟩, fun c hc => (List.mem_append.1 hc).elim (hbk c) (hbq c)⟩
end

theorem part_cells2 {w : World} {c0 c1 c2 : Value} {p : Pt} {bs : List Nat} (h : partK w [c0, c1, c2] p bs) : ∃ Ad cap, c0 = .bool p.no ∧ c1 = .string p.atom.name ∧ c2 = .slice Ad p.atom.args.length cap := by
  obtain ⟨s, hcs, _, ht⟩ := h
  obtain ⟨Ad, cap, rfl, _⟩ := sliceK_form ht
  simp only [List.cons.injEq, and_true] at hcs
  exact ⟨Ad, cap, hcs⟩
theorem part_cells {w : World} {cs : Array Value} {p : Pt} {bs : List Nat} (h : partK w cs.toList p bs) : ∃ Ad cap, cs = #[.bool p.no, .string p.atom.name, .slice Ad p.atom.args.length cap] := by
  obtain ⟨s, hcs, _, ht⟩ := h
  obtain ⟨Ad, cap, rfl, _⟩ := sliceK_form ht
  exact ⟨Ad, cap, Array.toList_inj.1 hcs⟩
theorem part_atom {w : World} {c0 c1 c2 : Value} {p : Pt} {bs : List Nat} (h : partK w [c0, c1, c2] p bs) : atomK w [c1, c2] p.atom bs := by
  obtain ⟨s, hcs, hn, ht⟩ := h
  simp only [List.cons.injEq, and_true] at hcs
  obtain ⟨_, rfl, rfl⟩ := hcs
  exact ⟨_, rfl, hn, ht⟩
theorem rule_cells2 {w : World} {c0 c1 c2 : Value} {r : Ru} {bs : List Nat} (h : ruleK w [c0, c1, c2] r bs) : ∃ Ad cap Ae cape, c0 = .string r.head.name ∧ c1 = .slice Ad r.head.args.length cap ∧ c2 = .slice Ae r.body.length cape := by
  obtain ⟨s, b, _, _, hcs, _, _, ht, hp⟩ := h
  obtain ⟨Ad, cap, rfl, _⟩ := sliceK_form ht
  obtain ⟨Ae, cape, rfl, _⟩ := sliceK_form hp
  simp only [List.cons.injEq, and_true] at hcs
  exact ⟨Ad, cap, Ae, cape, hcs⟩
theorem rule_cells {w : World} {cs : Array Value} {r : Ru} {bs : List Nat} (h : ruleK w cs.toList r bs) : ∃ Ad cap Ae cape, cs = #[.string r.head.name, .slice Ad r.head.args.length cap, .slice Ae r.body.length cape] := by
  obtain ⟨s, b, _, _, hcs, _, _, ht, hp⟩ := h
  obtain ⟨Ad, cap, rfl, _⟩ := sliceK_form ht
  obtain ⟨Ae, cape, rfl, _⟩ := sliceK_form hp
  exact ⟨Ad, cap, Ae, cape, Array.toList_inj.1 hcs⟩
theorem rule_parts {w : World} {c0 c1 c2 : Value} {r : Ru} {bs : List Nat} (h : ruleK w [c0, c1, c2] r bs) : ∃ b1 b2, bs = b1 ++ b2 ∧ atomK w [c0, c1] r.head b1 ∧ partsK w [c2] r.body b2 := by
  obtain ⟨s, b, b1, b2, hcs, hn, rfl, ht, hp⟩ := h
  simp only [List.cons.injEq, and_true] at hcs
  obtain ⟨rfl, rfl, rfl⟩ := hcs
  exact ⟨b1, b2, rfl, ⟨_, rfl, hn, ht⟩, hp⟩
theorem change_cells2 {w : World} {c0 c1 : Value} {c : Ch} {bs : List Nat} (h : changeK w [c0, c1] c bs) : ∃ Ad cap Ae cape, c0 = .slice Ad c.comes.length cap ∧ c1 = .slice Ae c.goes.length cape := by
  obtain ⟨s, b, _, _, hcs, _, ht, hp⟩ := h
  obtain ⟨Ad, cap, rfl, _⟩ := sliceK_form ht
  obtain ⟨Ae, cape, rfl, _⟩ := sliceK_form hp
  simp only [List.cons.injEq, and_true] at hcs
  exact ⟨Ad, cap, Ae, cape, hcs⟩
theorem change_cells {w : World} {cs : Array Value} {c : Ch} {bs : List Nat} (h : changeK w cs.toList c bs) : ∃ Ad cap Ae cape, cs = #[.slice Ad c.comes.length cap, .slice Ae c.goes.length cape] := by
  obtain ⟨s, b, _, _, hcs, _, ht, hp⟩ := h
  obtain ⟨Ad, cap, rfl, _⟩ := sliceK_form ht
  obtain ⟨Ae, cape, rfl, _⟩ := sliceK_form hp
  exact ⟨Ad, cap, Ae, cape, Array.toList_inj.1 hcs⟩
theorem change_parts {w : World} {c0 c1 : Value} {c : Ch} {bs : List Nat} (h : changeK w [c0, c1] c bs) : ∃ b1 b2, bs = b1 ++ b2 ∧ atomsK w [c0] c.comes b1 ∧ atomsK w [c1] c.goes b2 := by
  obtain ⟨s, b, b1, b2, hcs, rfl, ht, hp⟩ := h
  simp only [List.cons.injEq, and_true] at hcs
  obtain ⟨rfl, rfl⟩ := hcs
  exact ⟨b1, b2, rfl, ht, hp⟩

end Go.Proofs.Ytbppnelbjklpeaa.D

namespace Go.Proofs.Ytbppnelbjklpeaa
open Go.RowKit D
set_option linter.unusedVariables false

theorem nat_ge_max {n : Nat} (h : n ≤ maxLen) : (n : Int) ≤ 9223372036854775807 := by unfold maxLen at h; omega
/-- What a measuring function answers: -1, or what is left. -/
def Left (left bulk : Int) (B : Nat) (w : World) (e : Ending) (w' : World) : Prop := Below B w w' ∧ ∃ r : Int, e = .returned (.int .i64 r) ∧ (r = -1 ∨ (0 ≤ r ∧ r + bulk = left))
/-- What a function that makes memory leaves: the value reads as x, in new blocks from B on; below B all is as it was. -/
def Makes {α : Type} (R : Rel α) (x : α) (B : Nat) (w : World) (e : Ending) (w' : World) : Prop := Below B w w' ∧ ∃ v bs, e = .returned v ∧ R w' [v] x bs ∧ New B w' bs
def MakesA {α : Type} (R : Rel α) (x : α) (B : Nat) (w : World) (e : Ending) (w' : World) : Prop := Below B w w' ∧ ∃ cs bs, e = .returned (.agg cs) ∧ R w' cs.toList x bs ∧ New B w' bs
/-- It answers yes, and nothing below B has turned. -/
def Yes (B : Nat) (w : World) (e : Ending) (w' : World) : Prop := e = .returned (.bool true) ∧ Below B w w'

theorem all_take_snoc {α : Type} {p : α → Bool} (xs : List α) (k : Nat) (h : k < xs.length) : (xs.take (k + 1)).all p = ((xs.take k).all p && p xs[k]) := by
  rw [List.take_succ_eq_append_getElem h, List.all_append]; simp
theorem all_bad {α : Type} {p : α → Bool} (xs : List α) (k : Nat) (h : k < xs.length) (hp : p xs[k] = false) : xs.all p = false := by
  rw [List.all_eq_false]; exact ⟨_, List.getElem_mem h, by simp [hp]⟩
theorem atom_cells {w : World} {cs : Array Value} {a : A} {bs : List Nat} (h : atomK w cs.toList a bs) : ∃ Ad cap, cs = #[.string a.name, .slice Ad a.args.length cap] := by
  obtain ⟨s, hcs, _, ht⟩ := h
  obtain ⟨Ad, cap, rfl, _⟩ := sliceK_form ht
  exact ⟨Ad, cap, Array.toList_inj.1 hcs⟩
theorem atom_args {w : World} {c0 c1 : Value} {a : A} {bs : List Nat} (h : atomK w [c0, c1] a bs) : termsK w [c1] a.args bs := by
  obtain ⟨s, hcs, _, ht⟩ := h
  simp only [List.cons.injEq, and_true] at hcs
  rw [hcs.2]; exact ht
theorem atom_cells2 {w : World} {c0 c1 : Value} {a : A} {bs : List Nat} (h : atomK w [c0, c1] a bs) : ∃ Ad cap, c0 = .string a.name ∧ c1 = .slice Ad a.args.length cap := by
  obtain ⟨s, hcs, _, ht⟩ := h
  obtain ⟨Ad, cap, rfl, _⟩ := sliceK_form ht
  simp only [List.cons.injEq, and_true] at hcs
  exact ⟨Ad, cap, hcs⟩


end Go.Proofs.Ytbppnelbjklpeaa
