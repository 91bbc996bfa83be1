/- What is asked, read from its text: plain. -/
import Derived.Test.YtmhjabjiojfgnaaDoorRGetP
import Derived.Test.YtmhjabjiojfgnaaDoorVarP
namespace Go.Proofs.YtmhjabjiojfgnaaDoor.D
open Go.RowKit Go.Lib
set_option linter.unusedVariables false

theorem askOk_body {ps : List Pt} (h : askOk ps = true) : ps ≠ [] ∧ ps.length ≤ 4 ∧ ∀ p ∈ ps, atomOk p.atom = true := by
  unfold askOk at h
  simp only [Bool.and_eq_true, decide_eq_true_eq, List.all_eq_true] at h
  exact ⟨by intro e; rw [e] at h; simp at h, h.1.1.2, h.1.2⟩
/-- As the reference reads it. -/
def askS (t : List UInt8) : Option (List Pt) := match bodyS t with
  | some ps => if (if askOk ps then bodyL ps else []) = t ∧ t ≠ [] then some ps else none
  | none => none
/-- As the program reads it. -/
def askI (t : List UInt8) : Option (List Pt) := match bodyI 4 t with
  | some ps => if askOk ps then some ps else none
  | none => none
theorem askS_sound {t : List UInt8} {ps : List Pt} (h : askS t = some ps) : askOk ps = true ∧ bodyL ps = t := by
  unfold askS at h
  cases hb : bodyS t with
  | none => rw [hb] at h; cases h
  | some qs =>
    rw [hb] at h
    dsimp only at h
    by_cases ho : askOk qs = true
    · rw [if_pos ho] at h
      by_cases he : bodyL qs = t ∧ t ≠ []
      · rw [if_pos he] at h
        injection h with h
        subst h
        exact ⟨ho, he.1⟩
      · rw [if_neg he] at h; cases h
    · rw [if_neg ho, if_neg (fun he => he.2 he.1.symm)] at h; cases h
theorem partL_ne (p : Pt) : partL p ≠ [] := by unfold partL putL; simp
theorem bodyL_ne {ps : List Pt} (h : ps ≠ []) : bodyL ps ≠ [] := by
  rcases ps with _ | ⟨p, _ | ⟨q, r⟩⟩
  · exact absurd rfl h
  · rw [bodyL_one]; exact partL_ne p
  · rw [bodyL_cons]; exact List.append_ne_nil_of_left_ne_nil (partL_ne p) _
theorem askS_full {ps : List Pt} (h : askOk ps = true) : askS (bodyL ps) = some ps := by
  obtain ⟨h1, h2, h3⟩ := askOk_body h
  unfold askS
  rw [bodyS_full h3 h1]
  dsimp only
  rw [if_pos h, if_pos ⟨rfl, bodyL_ne h1⟩]
theorem askI_sound {t : List UInt8} {ps : List Pt} (h : askI t = some ps) : askOk ps = true ∧ bodyL ps = t := by
  unfold askI at h
  split at h
  · rename_i qs hb
    split at h
    · rename_i ho
      injection h with h
      subst h
      exact ⟨ho, (bodyI_sound 4 t _ hb).2.2.2⟩
    · cases h
  · cases h
theorem askI_full {ps : List Pt} (h : askOk ps = true) : askI (bodyL ps) = some ps := by
  obtain ⟨h1, h2, h3⟩ := askOk_body h
  unfold askI
  rw [bodyI_full 4 ps h2 h1 h3]
  dsimp only
  rw [if_pos h]
theorem askS_askI (t : List UInt8) : askS t = askI t := by
  cases hs : askS t with
  | some r =>
    obtain ⟨h1, h2⟩ := askS_sound hs
    rw [← h2, askI_full h1]
  | none =>
    cases hi : askI t with
    | none => rfl
    | some r =>
      obtain ⟨h1, h2⟩ := askI_sound hi
      rw [← h2, askS_full h1] at hs
      cases hs

end Go.Proofs.YtmhjabjiojfgnaaDoor.D
