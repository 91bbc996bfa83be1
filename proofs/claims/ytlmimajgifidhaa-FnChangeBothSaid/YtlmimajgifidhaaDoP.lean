/- Behind a change: plain. -/
import Derived.Test.YtlmimajgifidhaaChP
import Derived.Test.YtlmimajgifidhaaKind
namespace Go.Proofs.Ytlmimajgifidhaa
open Go.RowKit D
set_option linter.unusedVariables false

def D.behind (xs : List A) (c : Ch) : List A := putsA (lessL xs c.goes) c.comes
def D.doL (xs : List A) (c : Ch) : List A := if (factsOk xs && changeOk c) = true then (if (behind xs c).length ≤ 300 then behind xs c else []) else []
theorem D.puts_snoc (L ys : List A) (k : Nat) (h : k < ys.length) : putsA L (ys.take (k + 1)) = insA (putsA L (ys.take k)) ys[k] := by
  unfold putsA; rw [List.take_succ_eq_append_getElem h, List.foldl_append]; rfl
theorem D.change_oks {c : Ch} (h : changeOk c = true) : factsOk c.comes = true ∧ factsOk c.goes = true := by
  unfold changeOk at h; simp only [Bool.and_eq_true] at h; exact ⟨h.1.1, h.1.2⟩
theorem D.behind_asc {xs : List A} (c : Ch) (h : asc xs = true) : asc (behind xs c) = true := asc_puts (asc_less h)
theorem D.behind_mem {xs : List A} {c : Ch} {x : A} (h : x ∈ behind xs c) : x ∈ xs ∨ x ∈ c.comes := (mem_puts h).imp mem_less id
theorem D.behind_len (xs : List A) (c : Ch) : (behind xs c).length ≤ xs.length + c.comes.length := by
  have h1 := puts_length c.comes (lessL xs c.goes)
  have h2 : (lessL xs c.goes).length ≤ xs.length := List.length_filter_le _ _
  unfold behind; omega
theorem D.behind_facts {xs : List A} {c : Ch} (h : factsOk xs = true) (hc : changeOk c = true) : ∀ x ∈ behind xs c, isFactB x = true := fun x hx =>
  (behind_mem hx).elim (factsOk_fact h x) (factsOk_fact (change_oks hc).1 x)
theorem D.behind_ok {xs : List A} {c : Ch} (h : factsOk xs = true) (hc : changeOk c = true) : factsOk (behind xs c) = decide ((behind xs c).length ≤ 300) := by
  rw [factsOk_eq]
  have : okB (behind xs c) = true := by
    unfold okB; rw [Bool.and_eq_true]
    exact ⟨List.all_eq_true.2 (behind_facts h hc), behind_asc c (factsOk_asc h)⟩
  rw [this, Bool.true_and]
theorem D.behind_union {xs : List A} {c : Ch} (h : factsOk xs = true) (hc : changeOk c = true) : unionL (onlyL xs c.goes) c.comes = behind xs c := by
  rw [onlyL_less (factsOk_asc h) (factsOk_asc (change_oks hc).2)]
  exact union_puts (asc_less (factsOk_asc h)) (factsOk_asc (change_oks hc).1) (fun x hx => factsOk_fact h x (mem_less hx)) (factsOk_fact (change_oks hc).1)
theorem D.behind_few {xs : List A} {c : Ch} (h : fewA xs) (hc : fewA c.comes) : (behind xs c).length ≤ 2000000 ∧ ∀ x ∈ behind xs c, x.args.length ≤ 16777216 :=
  ⟨by have := behind_len xs c; have := h.1; have := hc.1; omega, fun x hx => (behind_mem hx).elim (h.2 x) (hc.2 x)⟩
theorem D.doL_bound (xs : List A) (c : Ch) : sumL cntA (doL xs c) ≤ 900000000 := by
  unfold doL
  split
  · rename_i hf
    rw [Bool.and_eq_true] at hf
    split
    · have h1 := cnt_facts (behind xs c) (behind_facts hf.1 hf.2)
      omega
    · simp [sumL]
  · simp [sumL]

end Go.Proofs.Ytlmimajgifidhaa
