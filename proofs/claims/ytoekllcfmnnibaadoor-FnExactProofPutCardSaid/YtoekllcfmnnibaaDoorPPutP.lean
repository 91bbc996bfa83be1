/- A proof in lines, as plain text, and how long it is. -/
import Derived.WalkKit
import Derived.Lib.ItoaNum
import Derived.Lib.ItoaLen
import Derived.Test.YtoekllcfmnnibaaDoorKind
import Derived.Test.YtoekllcfmnnibaaDoorPrf
import Derived.Test.YtoekllcfmnnibaaDoorPut
namespace Go.Proofs.YtoekllcfmnnibaaDoor.D
open Go.RowKit
set_option linter.unusedVariables false

/-- What stands behind a proof's fact: " given" or " by " and the rule; and the line's end. -/
def ruleLn (r : Int) : List UInt8 := if r < 0 then [32, 103, 105, 118, 101, 110, 10] else [32, 98, 121, 32] ++ Lib.itoa r ++ [10]
/-- A proof in lines, n steps in. -/
def putPf : Pf → Nat → List UInt8
  | .mk a r ks, n => List.replicate (2 * n) 32 ++ putL a ++ ruleLn r ++ (ks.attach.flatMap fun ⟨k, hk⟩ => putPf k (n + 1))
  termination_by p _ => SizeOf.sizeOf p
  decreasing_by exact Pf.sizeOf_kid hk
theorem putPf_eq (p : Pf) (n : Nat) : putPf p n = List.replicate (2 * n) 32 ++ putL p.fact ++ ruleLn p.rule ++ p.kids.flatMap fun k => putPf k (n + 1) := by
  obtain ⟨a, r, ks⟩ := p
  rw [putPf, show (ks.attach.flatMap fun ⟨k, hk⟩ => putPf k (n + 1)) = ks.flatMap (fun k => putPf k (n + 1)) from by
    rw [List.flatMap_def, List.flatMap_def]
    exact congrArg List.flatten (List.attach_map_val (l := ks) (f := fun k => putPf k (n + 1)))]
  rfl
theorem putPf_snoc (ks : List Pf) (n k : Nat) (h : k < ks.length) : (ks.take (k + 1)).flatMap (fun p => putPf p n) = (ks.take k).flatMap (fun p => putPf p n) ++ putPf ks[k] n := by
  rw [List.take_succ_eq_append_getElem h, List.flatMap_append]
  simp
theorem putL_le (a : A) : (putL a).length ≤ 2 * bulkA a + 2 := by
  have h := argsL_le a.args
  have h2 : a.name.data.toList.length = a.name.size := by rw [Array.length_toList]; rfl
  unfold putL bulkA
  simp only [List.length_append, List.length_cons, List.length_nil, h2]
  omega
theorem ruleLn_le {r : Int} (h0 : -9223372036854775808 ≤ r) (h1 : r ≤ 9223372036854775807) : (ruleLn r).length ≤ 26 := by
  unfold ruleLn
  split
  · decide
  · have := Lib.itoa_length_le r h0 h1
    simp only [List.length_append, List.length_cons, List.length_nil]
    omega
theorem bulk_kid {p : Pf} {k : Nat} (hk : k < p.kids.length) : bulkPf p.kids[k] ≤ bulkPf p := by
  rw [bulkPf_eq p]
  have := sumL_at bulkPf p.kids k hk
  omega
/-- Every rule's number is an int. -/
inductive Fits : Pf → Prop
  | mk {p : Pf} : (-9223372036854775808 ≤ p.rule ∧ p.rule ≤ 9223372036854775807) → (∀ k ∈ p.kids, Fits k) → Fits p
theorem proofK_fits : ∀ (n : Nat) {w : World} {cs : List Value} {p : Pf} {bs : List Nat}, proofK n w cs p bs → Fits p
  | 0, _, _, _, _, h => h.elim
  | n + 1, w, cs, p, bs, h => by
    obtain ⟨s, k, b1, b2, h1, h2, h3, h4, h5, h6⟩ := h
    refine .mk h3 fun q hq => ?_
    obtain ⟨j, hj, rfl⟩ := List.getElem_of_mem hq
    obtain ⟨Af, cf, rfl, _⟩ := sliceK_form h6
    obtain ⟨_, _, _, _, _, _, _, _, hR, _⟩ := sliceK_at h6 hj
    exact proofK_fits n hR
theorem putPf_le : ∀ (p : Pf), Fits p → ∀ n, (putPf p n).length ≤ sizePf p * (2 * n + 2 * sizePf p + 28) + 2 * bulkPf p := Pf.ind fun p ih hf n => by
  obtain ⟨hr, hk⟩ := hf
  have hS := sizePf_eq p
  have hB := bulkPf_eq p
  have h1 := putL_le p.fact
  have h2 := ruleLn_le hr.1 hr.2
  have h : ∀ ks : List Pf, (∀ k ∈ ks, k ∈ p.kids) → sumL sizePf ks + 1 ≤ sizePf p → (ks.flatMap fun k => putPf k (n + 1)).length ≤ sumL sizePf ks * (2 * n + 2 * sizePf p + 28) + 2 * sumL bulkPf ks := by
    intro ks
    induction ks with
    | nil => intro _ _; simp [sumL]
    | cons k ks ihk =>
      intro hm hs
      have a1 := ih k (hm k (List.mem_cons_self ..)) (hk k (hm k (List.mem_cons_self ..))) (n + 1)
      simp only [sumL, List.map_cons, List.sum_cons] at hs ⊢
      have a2 := ihk (fun q hq => hm q (List.mem_cons_of_mem _ hq)) (by unfold sumL; omega)
      have a3 : sizePf k * (2 * (n + 1) + 2 * sizePf k + 28) ≤ sizePf k * (2 * n + 2 * sizePf p + 28) := Nat.mul_le_mul_left _ (by omega)
      rw [List.flatMap_cons, List.length_append, Nat.add_mul]
      simp only [sumL] at a2
      omega
  have h3 := h p.kids (fun k h => h) (by omega)
  rw [putPf_eq]
  simp only [List.length_append, List.length_replicate]
  rw [hS, Nat.add_mul, ← hS]
  omega

end Go.Proofs.YtoekllcfmnnibaaDoor.D
