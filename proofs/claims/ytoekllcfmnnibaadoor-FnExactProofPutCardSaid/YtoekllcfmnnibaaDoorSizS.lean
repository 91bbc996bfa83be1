/- The walk of spec.ProofSize. -/
import Derived.WalkKit
import Derived.Lib.Hide
import Derived.WalkSpells
import Derived.WalkLawsBesides
import Derived.BigQuiet
import Derived.Test.YtoekllcfmnnibaaDoorProg
import Derived.Test.YtoekllcfmnnibaaDoorKind
import Derived.Test.YtoekllcfmnnibaaDoorPrf
namespace Go.Proofs.YtoekllcfmnnibaaDoor
open Go.RowKit D
set_option linter.unusedVariables false
attribute [local go_sem ↓] Go.wp_at_zero Go.wp_at_succ

theorem D.kids_le (p : Pf) : p.kids.length + 1 ≤ sizePf p := by
  have h : ∀ ks : List Pf, ks.length ≤ sumL sizePf ks := by
    intro ks
    induction ks with
    | nil => exact Nat.le_refl _
    | cons k ks ih =>
      have := sizePf_pos k
      simp only [sumL, List.map_cons, List.sum_cons, List.length_cons] at *
      omega
  rw [sizePf_eq]
  have := h p.kids
  omega

set_option maxHeartbeats 1000000 in
theorem proofSize_spec : ∀ (n : Nat) (p : Pf) (c0 c1 c2 c3 : Value) (bs : List Nat) (w : World) (h : proofK n w [c0, c1, c2, c3] p bs) (hs : sizePf p ≤ 16777216),
    Calls Tryd.prog 11 #[.agg #[c0, c1, c2, c3]] w fun e w' => e = .returned (.int .i64 (sizePf p)) ∧ Below w.heap.size w w' := by
  intro n
  induction n with
  | zero => exact fun p c0 c1 c2 c3 bs w h => h.elim
  | succ n ih =>
    intro p c0 c1 c2 c3 bs w h hs
    obtain ⟨Ad, cap, Ae, cape, b1, b2, rfl, rfl, rfl, rfl, rfl, _, _, hq⟩ := proof_parts h
    have IH := Lib.hid ih
    have HQ := Lib.hid hq
    have HS := Lib.hid (sizePf_eq p)
    have HM := Lib.hid hs
    have hkl : p.kids.length ≤ 16777216 := by have := kids_le p; omega
    have hA := (Below.refl w.heap.size w).alloc (Nat.le_refl _) (.cells #[.string p.fact.name, .slice Ad p.fact.args.length cap, .int .i64 p.rule, .slice Ae p.kids.length cape] 35)
    clear h hq ih hs
    go_enter Tryd.func11, Tryd.ntmps11
    go_wp2_with fail
    go_loopw [3, 4] (fun c i wr => ∃ k : Nat, k ≤ p.kids.length ∧ i = .int .i64 k ∧ c = .int .i64 (1 + sumL sizePf (p.kids.take k) : Nat) ∧ Below w.heap.size w wr ∧ wr.cell? ⟨w.heap.size, 3, none⟩ = some (.slice Ae p.kids.length cape)) (fun _ i _ => p.kids.length - (intOf i).toNat)
    case atStart => exact ⟨0, Nat.zero_le _, rfl, rfl, hA, by go_simp⟩
    case round =>
      obtain ⟨k, hk, rfl, rfl, hb, c3⟩ := hrel
      have HB := Lib.hid hb
      clear hA
      by_cases hlt : k < p.kids.length
      · obtain ⟨b, o, Af, cf, Ag, cg, bk, rfl, _, d0, d1, d2, d3, hel, _⟩ := proofs_el ((proofsK_good n).below HQ.out hb) hlt
        have hsn := sumL_snoc sizePf p.kids k hlt
        have hle : sumL sizePf (p.kids.take k) + sizePf p.kids[k] ≤ 16777216 := by
          have h1 := HS.out
          have h2 := HM.out
          have h3 : sumL sizePf (p.kids.take (k + 1)) ≤ sumL sizePf p.kids := sumL_take _ _ _
          omega
        have HSN := Lib.hid hsn
        have HQK := IH.out p.kids[k] _ _ _ _ bk wr hel (by omega)
        have hki : (k : Int) < (p.kids.length : Int) := by omega
        generalize sumL sizePf (p.kids.take k) = z at *
        generalize sizePf p.kids[k] = y at *
        clear hel hb hsn
        go_wp2_with fail
        refine HQK.mono ?_
        rintro e w1 ⟨rfl, hb1⟩
        have HB1 := Lib.hid (HB.out.trans (hb1.mono HB.out.size))
        have x3 : w1.cell? ⟨w.heap.size, 3, none⟩ = some (.slice (some ⟨b, o, none⟩) p.kids.length cape) := cell_later hb1 c3
        clear HQK hb1
        go_wp2
        go_roundw
        case rel => exact ⟨k + 1, by omega, by go_num, by rw [HSN.out]; go_num, HB1.out, x3⟩
        case measure => simp [intOf]; omega
      · have he : k = p.kids.length := by omega
        have HE : Hid (1 + sumL sizePf (p.kids.take k) = sizePf p) := Lib.hid (by rw [he, List.take_of_length_le (Nat.le_refl _), HS.out])
        have hki : ¬ (k : Int) < (p.kids.length : Int) := by omega
        clear hlt hk he
        go_wp2
        go_ret
        exact ⟨by rw [← HE.out]; rfl, HB.out⟩

end Go.Proofs.YtoekllcfmnnibaaDoor
