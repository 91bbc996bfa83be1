/- The walks of impl.size and impl.ProofSize. -/
import Derived.WalkKit
import Derived.Lib.Hide
import Derived.WalkSpells
import Derived.WalkLawsBesides
import Derived.BigQuiet
import Derived.Maps.OwnSet
import Derived.Deep.LoopGhost
import Derived.Test.YtoekllcfmnnibaaDoorProg
import Derived.Test.YtoekllcfmnnibaaDoorWlkI
namespace Go.Proofs.YtoekllcfmnnibaaDoor
open Go.RowKit Go.ChangeMaps D
set_option linter.unusedVariables false
attribute [local go_sem ↓] Go.wp_at_zero Go.wp_at_succ

/-- How many, but not many more than most. -/
def D.upTo (most n : Int) : Int := if n ≤ most then n else most + 1

/-- The way at its start. -/
theorem D.Wk.start {BS : List Nat} {w : World} (hlow : ∀ b ∈ BS, b < w.heap.size) (hwri : WP BS w) :
    Wk BS w.heap.size (w.heap.size + 1) [] ((w.alloc (.map #[] 0)).alloc (.cells #[.slice none 0 0, .map (some w.heap.size)] 74)) ∧ Below w.heap.size w ((w.alloc (.map #[] 0)).alloc (.cells #[.slice none 0 0, .map (some w.heap.size)] 74)) := by
  have hB : Below w.heap.size w ((w.alloc (.map #[] 0)).alloc (.cells #[.slice none 0 0, .map (some w.heap.size)] 74)) := ((Below.refl _ w).alloc (Nat.le_refl _) _).alloc (by simp) _
  refine ⟨⟨⟨.slice none 0 0, w.heap.size, ?_, World.ownsRow_nil _ _ _ _, ?_, Nat.le_refl _⟩, by omega, Way.nil _ _, hlow, fun b hb => by rw [hB.block b (hlow b hb)]; exact hwri b hb⟩, hB⟩
  · simpa using heap_alloc_new (w.alloc (.map #[] 0)) (.cells #[.slice none 0 0, .map (some w.heap.size)] 74)
  · exact (MapV.made w).same (Below.heap_alloc _ _ _ (by simp))

set_option maxRecDepth 100000 in
set_option maxHeartbeats 4000000 in
theorem size_any (BS : List Nat) (a : Addr) (p : Pf) (most : Int) (w : World) (ha : AtP BS w a p) (hlow : ∀ b ∈ BS, b < w.heap.size) (hwri : WP BS w) (hm : 1 ≤ most) (hm2 : most < 9223372036854775807) (hs : sizePf p ≤ 16777216) :
    Calls Tryd.prog 24 #[.pointer (some a), .int .i64 most] w fun e w' => e = .returned (.int .i64 (upTo most (sizePf p))) ∧ Below w.heap.size w w' := by
  have H0 := Lib.hid (Wk.start hlow hwri)
  have HA := Lib.hid (ha.keep fun b hb => H0.out.2.block b (hlow b hb))
  have HS := Lib.hid hs
  have hmm := @run_makeMap Tryd.prog
  have hnq := fun (x : Option Addr) (w : World) => run_neq_pointer_nil (P := Tryd.prog) w 46 x (by kernel_rfl)
  clear ha hlow hwri
  go_enter Tryd.func24, Tryd.ntmps24
  go_wp2_with fail
  generalize ((w.alloc (.map #[] 0)).alloc (.cells #[.slice none 0 0, .map (some w.heap.size)] 74)) = w0 at *
  clear hmm
  go_loopw [6, 7] (fun c at_ wr => ∃ (k : Nat) (st : List Fr), c = .int .i64 k ∧ (k : Int) ≤ most ∧ Below w.heap.size w wr ∧ ((at_ = .pointer none ∧ k = sizePf p) ∨
    ∃ a' q, at_ = .pointer (some a') ∧ Wk BS w.heap.size (w.heap.size + 1) st wr ∧ AtP BS wr a' q ∧ (∀ f ∈ st, sizePf q < sizePf f.pf) ∧ k + sizePf q + restW st = sizePf p ∧ st.length ≤ k)) (fun c _ _ => sizePf p - (intOf c).toNat)
  case atStart => exact ⟨0, [], rfl, by omega, H0.out.2, .inr ⟨a, p, rfl, H0.out.1, HA.out, fun f hf => by simp at hf, by simp [restW, sumL], Nat.zero_le _⟩⟩
  case round =>
    clear H0 HA
    obtain ⟨k, st, rfl, hkm, hb, h⟩ := hrel
    rcases h with ⟨rfl, hk⟩ | ⟨a', q, rfl, hw, ha, hd, hcnt, hle⟩
    · go_wp2
      go_ret
      refine ⟨?_, hb⟩
      rw [← hk]
      unfold upTo
      rw [if_pos hkm]
      rfl
    · obtain ⟨v, mb, h1, h2, h3, h4⟩ := hw.ex
      have c1 : wr.cell? ⟨w.heap.size + 1, 1, none⟩ = some (.map (some mb)) := by simp [World.cell?, h1]
      have HM := Lib.hid h3
      have HMI := Lib.hid (hw.way.miss ha hd)
      have HSP : Hid (SP BS (.pointer (some a'))) := Lib.hid ⟨a', rfl, ha.block⟩
      have HWP := Lib.hid hw.wri
      have hlen : st.length ≤ 16777216 := by have := HS.out; omega
      have q1 := enter_any BS w.heap.size (w.heap.size + 1) st a' q wr hw ha hd hlen
      have HB := Lib.hid hb
      have hq0 := sizePf_pos q
      have hqn : sizePf q + k ≤ sizePf p := by omega
      have HC := Lib.hid hcnt
      have HLE := Lib.hid hle
      have HK : Hid (k + 1 ≤ 16777216) := Lib.hid (by omega)
      have hkb : (k : Int) ≤ 16777216 := by omega
      clear h1 h2 h3 hw ha hd hcnt hle hb
      by_cases hlast : (k : Int) + 1 ≤ most
      · have hgt : ¬ most < (k : Int) + 1 := by omega
        go_wp2_with (first
          | (at_lookup; refine wpList_mapv_miss (keyP BS) HWP.out false rfl _ _ _ _ rfl Tryd.underlying71 mb _ rfl HM.out (.pointer (some a')) (.int .i64 0) (zeroInt _) rfl HSP.out HMI.out ?_)
          | fail)
        refine q1.mono ?_
        rintro e w1 ⟨rfl, hw1, hb1⟩
        clear q1
        have q2 := next_any BS w.heap.size (w.heap.size + 1) _ w1 hw1 (by have := HLE.out; have := HK.out; simp; omega)
        have HB1 := Lib.hid (HB.out.trans hb1)
        have HR1 : Hid (restW (st ++ [⟨a', q, 0⟩]) + 1 = restW st + sizePf q) := Lib.hid restW_push
        clear hw1 hb1
        go_wp2_with fail
        refine q2.mono ?_
        rintro e w2 ⟨hb2, h⟩
        clear q2
        have HB2 := Lib.hid (HB1.out.trans hb2)
        clear hb2
        rcases h with ⟨rfl, hr0⟩ | ⟨st2, a2, q2, rfl, hw2, ha2, hd2, hl2, hr2⟩
        · have HN : Hid (k + 1 = sizePf p) := Lib.hid (by have := HC.out; have := HR1.out; omega)
          clear hr0
          go_wp2
          go_roundw
          case rel => exact ⟨k + 1, [], by go_num, by omega, HB2.out, .inl ⟨rfl, HN.out⟩⟩
          case measure => have := HN.out; simp [intOf]; omega
        · have HZ : Hid (Wk BS w.heap.size (w.heap.size + 1) st2 w2 ∧ AtP BS w2 a2 q2 ∧ (∀ f ∈ st2, sizePf q2 < sizePf f.pf) ∧ k + 1 + sizePf q2 + restW st2 = sizePf p ∧ st2.length ≤ k + 1) := Lib.hid ⟨hw2, ha2, hd2, by have := HC.out; have := HR1.out; omega, by have := HLE.out; simp at hl2; omega⟩
          clear hw2 ha2 hd2 hl2 hr2
          go_wp2
          go_roundw
          case rel => exact ⟨k + 1, st2, by go_num, by omega, HB2.out, .inr ⟨a2, q2, rfl, HZ.out⟩⟩
          case measure => simp [intOf]; omega
      · have hgt : most < (k : Int) + 1 := by omega
        have HE : Hid (upTo most (sizePf p) = (k : Int) + 1) := Lib.hid (by
          unfold upTo
          rw [if_neg (by omega)]
          omega)
        clear q1
        go_wp2_with (first
          | (at_lookup; refine wpList_mapv_miss (keyP BS) HWP.out false rfl _ _ _ _ rfl Tryd.underlying71 mb _ rfl HM.out (.pointer (some a')) (.int .i64 0) (zeroInt _) rfl HSP.out HMI.out ?_)
          | fail)
        go_ret
        exact ⟨by rw [HE.out]; rfl, HB.out⟩

end Go.Proofs.YtoekllcfmnnibaaDoor
