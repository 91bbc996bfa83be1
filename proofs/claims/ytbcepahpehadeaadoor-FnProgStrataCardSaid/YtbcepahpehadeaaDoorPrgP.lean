/- What the laws of rules want, plain: fine rules without their last are fine; with a round trip they are not; levels. -/
import Derived.Test.YtbcepahpehadeaaDoorProgP
namespace Go.Proofs.YtbcepahpehadeaaDoor.D
open Go.RowKit
set_option linter.unusedVariables false

/-- The rule that goes round: zzz(a) if not zzz(a). -/
def zz : ByteArray := ⟨#[122, 122, 122]⟩
def zzA : A := ⟨zz, [⟨false, ⟨#[97]⟩⟩]⟩
def zzR : Ru := ⟨zzA, [⟨true, zzA⟩]⟩
theorem mem_dropLast {α : Type} {xs : List α} {x : α} {k : Nat} (h : x ∈ xs.take k) : x ∈ xs := List.mem_of_mem_take h
theorem fine_take {rs : List Ru} (h : Fine rs) (k : Nat) : Fine (rs.take k) := by
  obtain ⟨h1, h2, h3, h4, h5⟩ := h
  have hc := (closed_sol (no_cyc h5)).1
  refine ⟨?_, by rw [List.length_take]; omega, ?_, ?_, ?_⟩
  · rw [List.all_eq_true] at h1 ⊢
    exact fun r hr => h1 r (List.mem_of_mem_take hr)
  · unfold alikeB at h3 ⊢
    simp only [List.all_eq_true] at h3 ⊢
    have hs : ∀ a ∈ allAtoms (rs.take k), a ∈ allAtoms rs := fun a ha => by
      obtain ⟨r, hr, ha⟩ := List.mem_flatMap.1 ha
      exact List.mem_flatMap.2 ⟨r, List.mem_of_mem_take hr, ha⟩
    exact fun a ha b hb => h3 a (hs a ha) b (hs b hb)
  · rw [List.all_eq_true] at h4 ⊢
    exact fun r hr => h4 r (List.mem_of_mem_take hr)
  · refine no_cyc_of (S := nameLev rs) fun r hr p hp hh => hc r (List.mem_of_mem_take hr) p hp ?_
    obtain ⟨r2, hr2, e⟩ := List.mem_map.1 hh
    exact List.mem_map.2 ⟨r2, List.mem_of_mem_take hr2, e⟩
theorem zz_bad {rs : List Ru} (h : Fine rs) (hl : rs.length < 8) (hz : ∀ a ∈ allAtoms rs, a.name ≠ zz) : progC (rs ++ [zzR]) = 5 := by
  obtain ⟨h1, h2, h3, h4, h5⟩ := h
  have e1 : (rs ++ [zzR]).all ruleOk = true := by rw [List.all_append, h1]; decide +kernel
  have e4 : ((rs ++ [zzR]).all fun r => tightB r.head r.body) = true := by rw [List.all_append, h4]; decide +kernel
  have ea : allAtoms (rs ++ [zzR]) = allAtoms rs ++ [zzA, zzA] := by unfold allAtoms; rw [List.flatMap_append]; rfl
  have e3 : alikeB (allAtoms (rs ++ [zzR])) = true := by
    rw [ea]
    unfold alikeB at h3 ⊢
    simp only [List.all_eq_true, decide_eq_true_eq] at h3 ⊢
    intro a ha b hb e
    rcases List.mem_append.1 ha with ha | ha <;> rcases List.mem_append.1 hb with hb | hb
    · exact h3 a ha b hb e
    · have : b = zzA := by simpa using hb
      subst this; exact absurd e (hz a ha)
    · have : a = zzA := by simpa using ha
      subst this; exact absurd e.symm (hz b hb)
    · have e1 : a = zzA := by simpa using ha
      have e2 : b = zzA := by simpa using hb
      rw [e1, e2]
  have e5 : cycB (rs ++ [zzR]) = true := cyc_of_no fun S hS => by
    have := hS zzR (by simp) ⟨true, zzA⟩ (by simp [zzR]) (List.mem_map.2 ⟨zzR, by simp, rfl⟩)
    have e : S zz + 1 ≤ S zz := this
    omega
  unfold progC
  rw [if_neg (by simp [e1]), if_neg (by simp; omega), if_neg (by simp [e3]), if_neg (by simp [e4]), if_pos e5]
/-- The levels of fine rules. -/
theorem lev_same {rs : List Ru} (h : Fine rs) {i k : Nat} (hi : i < rs.length) (hk : k < rs.length) (e : rs[i].head.name = rs[k].head.name) : atL (levelsL rs) i = atL (levelsL rs) k := by
  have hc := (closed_sol (no_cyc h.no)).2
  have r1 : ruleAt rs i = rs[i] := by unfold ruleAt; rw [List.getD_eq_getElem?_getD, List.getElem?_eq_getElem hi]; rfl
  have r2 : ruleAt rs k = rs[k] := by unfold ruleAt; rw [List.getD_eq_getElem?_getD, List.getElem?_eq_getElem hk]; rfl
  rw [hc i hi, hc k hk, r1, r2, e]
theorem lev_part {rs : List Ru} (h : Fine rs) {i k j : Nat} (hi : i < rs.length) (hk : k < rs.length) (hj : j < rs[i].body.length) (e : rs[i].body[j].atom.name = rs[k].head.name) : atL (levelsL rs) k + noN rs[i].body[j] ≤ atL (levelsL rs) i := by
  obtain ⟨hs, hc⟩ := closed_sol (no_cyc h.no)
  have r1 : ruleAt rs i = rs[i] := by unfold ruleAt; rw [List.getD_eq_getElem?_getD, List.getElem?_eq_getElem hi]; rfl
  have r2 : ruleAt rs k = rs[k] := by unfold ruleAt; rw [List.getD_eq_getElem?_getD, List.getElem?_eq_getElem hk]; rfl
  have := hs rs[i] (List.getElem_mem hi) rs[i].body[j] (List.getElem_mem hj) (by rw [e]; exact head_mem (List.getElem_mem hk))
  rw [hc i hi, hc k hk, r1, r2]
  rw [e] at this
  exact this
end Go.Proofs.YtbcepahpehadeaaDoor.D
