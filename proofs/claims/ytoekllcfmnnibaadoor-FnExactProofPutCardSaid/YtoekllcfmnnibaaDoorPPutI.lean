/- The walk of impl.putProof. -/
import Derived.WalkKit
import Derived.Lib.Hide
import Derived.WalkSpells
import Derived.WalkLawsBesides
import Derived.BigQuiet
import Derived.Lib.BufferKept
import Derived.Lib.AppendIntMem
import Derived.Test.YtoekllcfmnnibaaDoorProg
import Derived.Test.YtoekllcfmnnibaaDoorShelf
import Derived.Test.YtoekllcfmnnibaaDoorTxt
import Derived.Test.YtoekllcfmnnibaaDoorPPutP
namespace Go.Proofs.YtoekllcfmnnibaaDoor
open Go.RowKit Go.Shelf D
set_option linter.unusedVariables false
attribute [local go_sem ↓] Go.wp_at_zero Go.wp_at_succ

theorem Wrote.same {B b : Nat} {l : List UInt8} {w : World} (h : Bld B b l w) : Wrote B b l w w := ⟨h, Below.refl _ _, Lib.OthersKept.refl _ _ _⟩
theorem Wrote.next {B b : Nat} {l m : List UInt8} {w w1 w2 : World} (h : Wrote B b l w w1) (h2 : Wrote B b m w1 w2) : Wrote B b m w w2 := ⟨h2.bld, h.below.trans h2.below, h.kept.trans h2.kept⟩
theorem Wrote.quiet {B b : Nat} {l : List UInt8} {w w1 w2 : World} (h : Wrote B b l w w1) (hb : Below w1.heap.size w1 w2) (hB : B ≤ w1.heap.size) : Wrote B b l w w2 := ⟨h.bld.below hb, h.below.trans (hb.mono hB), h.kept.below hb⟩
theorem Bld.lt {B b : Nat} {l : List UInt8} {w : World} (h : Bld B b l w) : b < w.heap.size := by
  rcases h with ⟨hB, v, hbk, _⟩ | ⟨hB, v, hbk, _⟩
  · exact lt_of_block hbk
  · exact lt_of_block hbk
abbrev D.P10 (b : Nat) (w : World) : Prop := Lib.TabBelow Tryd.prog b w "internal/strconv.uint64pow10" .u64 Lib.pow10Tab

theorem itoa_any (b : Nat) (r : Int) (h0 : 0 ≤ r) (h1 : r ≤ 9223372036854775807) (w w' : World) (ht : P10 b w) (hb : Below b w w') :
    Calls Tryd.prog 27 #[.int .i64 r] w' fun e w2 => ∃ t : ByteArray, e = .returned (.string t) ∧ Hid (t.data.toList = Lib.itoa r) ∧ t.size ≤ 21 ∧ Below w'.heap.size w' w2 := by
  refine (Tryd.strconv_Itoa r (by omega) h1 w' (ht w' hb)).mono ?_
  rintro e w2 ⟨rfl, k, os, rfl⟩
  refine ⟨_, rfl, Lib.hid rfl, ?_, ?_⟩
  · have := Lib.itoa_length_le r (by omega) h1
    show (Lib.itoa r).toArray.size ≤ _
    rw [List.size_toArray]
    exact this
  · exact Lib.below_grow _ _ (Nat.le_refl _) _ _

theorem wrTxt (b : Nat) (l : List UInt8) (s : ByteArray) (m : List UInt8) (hm : Hid (s.data.toList = m)) (w : World) (h : Bld b b l w) (hlen : l.length ≤ 1073741824) (hs : s.size ≤ 1073741824) :
    Calls Tryd.prog 25 #[.pointer (some ⟨b, 0, none⟩), .string s] w fun e w' => (∃ r, e = .returned r) ∧ Wrote b b (l ++ m) w w' := by
  refine (wStr b b l s w h hlen hs (Nat.le_of_lt h.lt)).mono ?_
  rintro e w' ⟨rfl, h⟩
  rw [hm.out] at h
  exact ⟨⟨_, rfl⟩, h⟩

theorem D.kids_le' (p : Pf) : p.kids.length + 1 ≤ sizePf p := by
  have h : ∀ ks : List Pf, ks.length ≤ sumL sizePf ks := by
    intro ks
    induction ks with
    | nil => exact Nat.le_refl _
    | cons k ks ih =>
      have := sizePf_pos k
      simp only [sumL, List.map_cons, List.sum_cons, List.length_cons] at *
      omega
  rw [sizePf_eq]
  have := h p.kids
  omega
theorem D.putPf_part (p : Pf) (d k : Nat) : (List.replicate (2 * d) 32 ++ putL p.fact ++ ruleLn p.rule ++ (p.kids.take k).flatMap fun q => putPf q (d + 1)).length ≤ (putPf p d).length := by
  rw [putPf_eq]
  have h2 : (p.kids.flatMap fun q => putPf q (d + 1)) = ((p.kids.take k).flatMap fun q => putPf q (d + 1)) ++ ((p.kids.drop k).flatMap fun q => putPf q (d + 1)) := by
    rw [← List.flatMap_append, List.take_append_drop]
  rw [h2]
  simp only [List.length_append]
  omega

set_option maxRecDepth 100000 in
set_option maxHeartbeats 4000000 in
theorem putProof_any : ∀ (n : Nat) (p : Pf) (c0 c1 c2 c3 : Value) (bs : List Nat) (d b : Nat) (l : List UInt8) (w : World) (h : proofK n w [c0, c1, c2, c3] p bs) (hl : ∀ c ∈ bs, c < b) (hB : Bld b b l w) (ht : P10 b w) (hs : sizePf p + d ≤ 60) (hb : bulkPf p ≤ 1048576) (hlen : l.length + (putPf p d).length ≤ 500000000),
    Calls Tryd.prog 16 #[.pointer (some ⟨b, 0, none⟩), .agg #[c0, c1, c2, c3], .int .i64 d] w fun e w' => e = .returned (.tuple #[]) ∧ Wrote b b (l ++ putPf p d) w w' := by
  intro n
  induction n with
  | zero => exact fun p c0 c1 c2 c3 bs d b l w h => h.elim
  | succ n ih =>
    intro p c0 c1 c2 c3 bs d b l w h hl hB ht hs hb hlen
    obtain ⟨Ad, cap, Ae, cape, b1, b2, rfl, rfl, rfl, rfl, rfl, hrl, ha, hq⟩ := proof_parts h
    have hbk := bulkPf_eq p
    have hlt := hB.lt
    have hA := (Below.refl w.heap.size w).alloc (Nat.le_refl _) (.cells #[.string p.fact.name, .slice Ad p.fact.args.length cap, .int .i64 p.rule, .slice Ae p.kids.length cape] 35)
    have hbx := heap_alloc_new w (.cells #[.string p.fact.name, .slice Ad p.fact.args.length cap, .int .i64 p.rule, .slice Ae p.kids.length cape] 35)
    have W0 : Wrote b b l w (w.alloc (.cells #[.string p.fact.name, .slice Ad p.fact.args.length cap, .int .i64 p.rule, .slice Ae p.kids.length cape] 35)) := (Wrote.same hB).quiet hA (Nat.le_of_lt hlt)
    have hat : ∀ w', Below b w w' → Calls Tryd.prog 26 #[.agg #[.string p.fact.name, .slice Ad p.fact.args.length cap]] w' fun e w2 => ∃ t : ByteArray, e = .returned (.string t) ∧ Hid (t.data.toList = putL p.fact) ∧ t.size ≤ 2200000 ∧ Below w'.heap.size w' w2 := fun w' hb' => by
      refine (atomText_any p.fact _ _ b1 w' (atomK_good.belowB ha hb' fun c hc => hl c (List.mem_append_left _ hc)) (by omega)).mono ?_
      rintro e w2 ⟨rfl, h2⟩
      refine ⟨_, rfl, Lib.hid rfl, ?_, h2⟩
      have := putL_le p.fact
      show (putL p.fact).toArray.size ≤ _
      rw [List.size_toArray]
      omega
    have HIT := Lib.hid fun (h0 : 0 ≤ p.rule) w' => itoa_any b p.rule h0 (by omega) w w' ht
    have HAT := Lib.hid hat
    have HQ := Lib.hid hq
    have HL : Hid (∀ c ∈ b2, c < b) := Lib.hid fun c hc => hl c (List.mem_append_right _ hc)
    have IH := Lib.hid ih
    have HS := Lib.hid hs
    have HBB := Lib.hid hb
    have HLEN := Lib.hid hlen
    have HT := Lib.hid ht
    have HKL : Hid (p.kids.length ≤ 60) := Lib.hid (by have := kids_le' p; omega)
    have hd : d ≤ 60 := by omega
    have H0 := Lib.hid W0
    have HBX := Lib.hid hbx
    have HLT := Lib.hid hlt
    have hpc : ∀ k, (List.replicate (2 * d) (32 : UInt8) ++ putL p.fact ++ ruleLn p.rule ++ (p.kids.take k).flatMap fun q => putPf q (d + 1)).length ≤ (putPf p d).length := putPf_part p d
    have HPC := Lib.hid hpc
    clear h ha hq hl hB ht ih hat hbk hs hb hlen W0 hbx hlt hA hpc
    go_enter Tryd.func16, Tryd.ntmps16
    go_wp2_with fail
    generalize (w.alloc (.cells #[.string p.fact.name, .slice Ad p.fact.args.length cap, .int .i64 p.rule, .slice Ae p.kids.length cape] 35)) = w0 at *
    go_loopw [9] (fun i wr => ∃ k : Nat, k ≤ d ∧ i = .int .i64 k ∧ Hid (Wrote b b (l ++ List.replicate (2 * k) 32) w wr) ∧ Hid (wr.heap[w.heap.size]? = some (.cells #[.string p.fact.name, .slice Ad p.fact.args.length cap, .int .i64 p.rule, .slice Ae p.kids.length cape] 35 (0, 0)))) (fun i _ => d - (intOf i).toNat)
    case atStart => exact ⟨0, Nat.zero_le _, rfl, Lib.hid (by simpa using H0.out), HBX⟩
    case round =>
      clear H0 HBX
      obtain ⟨k, hk, rfl, hW, hX⟩ := hrel
      by_cases hlt : k < d
      · have hki : (k : Int) < (d : Int) := by omega
        have q := wrTxt b _ ⟨#[32, 32]⟩ [32, 32] (Lib.hid rfl) wr hW.out.bld (by have := HLEN.out; simp; omega) (by decide)
        go_wp2_with fail
        refine q.mono ?_
        rintro e w1 ⟨⟨r, rfl⟩, h1⟩
        have HW1 : Hid (Wrote b b (l ++ List.replicate (2 * (k + 1)) 32) w w1) := Lib.hid (by
          have := hW.out.next h1
          rw [List.append_assoc] at this
          rw [show 2 * (k + 1) = 2 * k + 2 by omega, ← List.replicate_append_replicate]
          exact this)
        have HX1 := Lib.hid (h1.block hX.out (by have := HLT.out; omega) (by decide))
        clear q h1
        go_wp2
        go_roundw
        case rel => exact ⟨k + 1, hlt, by go_num, HW1, HX1⟩
        case measure => simp [intOf]; omega
      · obtain rfl : d = k := by omega
        have hki : ¬ (d : Int) < (d : Int) := by omega
        have x0 : wr.cell? ⟨w.heap.size, 0, none⟩ = some (.string p.fact.name) := by simp [World.cell?, hX.out]
        have x1 : wr.cell? ⟨w.heap.size, 1, none⟩ = some (.slice Ad p.fact.args.length cap) := by simp [World.cell?, hX.out]
        have q := HAT.out wr hW.out.below
        go_wp2_with fail
        refine q.mono ?_
        rintro e w1 ⟨t, rfl, ht, hts, hb1⟩
        have W1 := Lib.hid (hW.out.quiet hb1 (Nat.le_trans (Nat.le_of_lt HLT.out) hW.out.below.size))
        have X1 : Hid (w1.heap[w.heap.size]? = some (.cells #[.string p.fact.name, .slice Ad p.fact.args.length cap, .int .i64 p.rule, .slice Ae p.kids.length cape] 35 (0, 0))) := Lib.hid (by rw [hb1.block _ (lt_of_block hX.out)]; exact hX.out)
        have q2 := wrTxt b _ t _ ht w1 W1.out.bld (by have := HLEN.out; simp; omega) (by omega)
        clear q x0 x1 hb1 ht
        go_wp2_with fail
        refine q2.mono ?_
        rintro e w2 ⟨⟨r, rfl⟩, h2⟩
        have W2 := Lib.hid (W1.out.next h2)
        have X2 := Lib.hid (h2.block X1.out (by have := HLT.out; omega) (by decide))
        have x2 : w2.cell? ⟨w.heap.size, 2, none⟩ = some (.int .i64 p.rule) := by simp [World.cell?, X2.out]
        have hw2l : (l ++ List.replicate (2 * d) 32 ++ putL p.fact).length ≤ 1073741824 := by
          have h1 := HLEN.out
          have h3 := HPC.out 0
          simp only [List.length_append] at h3 ⊢
          omega
        clear q2 h2 W1 X1 hW hX HAT hts
        by_cases hr : p.rule < 0
        case' pos =>
          have q3 := wrTxt b _ ⟨#[32, 103, 105, 118, 101, 110, 10]⟩ (ruleLn p.rule) (Lib.hid (by unfold ruleLn; rw [if_pos hr])) w2 W2.out.bld hw2l (by decide)
          go_wp2_with fail
        case' neg =>
          have hr0 : 0 ≤ p.rule := by omega
          have hrb : p.rule ≤ 9223372036854775807 := by omega
          have q1 := HIT.out hr0 w2 W2.out.below
          go_wp2_with fail
          refine q1.mono ?_
          rintro e w3 ⟨t3, rfl, ht3, hts3, hb3⟩
          have HRL : Hid (((⟨#[32, 98, 121, 32]⟩ : ByteArray) ++ t3 ++ ⟨#[10]⟩).data.toList = ruleLn p.rule) := Lib.hid (by
            unfold ruleLn
            rw [if_neg (by omega), ByteArray.data_append, ByteArray.data_append, Array.toList_append, Array.toList_append, ht3.out])
          have W3 := Lib.hid (W2.out.quiet hb3 (Nat.le_trans (Nat.le_of_lt HLT.out) W2.out.below.size))
          have X3 : Hid (w3.heap[w.heap.size]? = some (.cells #[.string p.fact.name, .slice Ad p.fact.args.length cap, .int .i64 p.rule, .slice Ae p.kids.length cape] 35 (0, 0))) := Lib.hid (by rw [hb3.block _ (lt_of_block X2.out)]; exact X2.out)
          have q3 := wrTxt b _ _ (ruleLn p.rule) HRL w3 W3.out.bld hw2l (by have e4 : (⟨#[32, 98, 121, 32]⟩ : ByteArray).size = 4 := rfl; have e1 : (⟨#[10]⟩ : ByteArray).size = 1 := rfl; rw [ByteArray.size_append, ByteArray.size_append]; omega)
          clear q1 ht3 hb3 W2 X2 x2
          go_wp2_with fail
        all_goals
          refine q3.mono ?_
          rintro e w4 ⟨⟨r4, rfl⟩, h4⟩
          first
            | have X4 := Lib.hid (h4.block X3.out (by have := HLT.out; omega) (by decide))
            | have X4 := Lib.hid (h4.block X2.out (by have := HLT.out; omega) (by decide))
          first
            | have W4 := Lib.hid (W3.out.next h4)
            | have W4 := Lib.hid (W2.out.next h4)
          have y3 : w4.cell? ⟨w.heap.size, 3, none⟩ = some (.slice Ae p.kids.length cape) := by simp [World.cell?, X4.out]
          clear q3 h4 hr HIT
          go_wp2_with fail
          go_loopw [34] (fun i wr => ∃ k : Nat, k ≤ p.kids.length ∧ i = .int .i64 k ∧ Hid (Wrote b b (l ++ (List.replicate (2 * d) 32 ++ putL p.fact ++ ruleLn p.rule ++ (p.kids.take k).flatMap fun q => putPf q (d + 1))) w wr)) (fun i _ => p.kids.length - (intOf i).toNat)
          case atStart => exact ⟨0, Nat.zero_le _, rfl, Lib.hid (by simpa using W4.out)⟩
          case round =>
            clear W4 X4 y3
            obtain ⟨k, hk, rfl, hW⟩ := hrel
            by_cases hlt : k < p.kids.length
            · have hki : (k : Int) < (p.kids.length : Int) := by omega
              have hkl := HKL.out
              obtain ⟨b3, o, Af, cf, Ag, cg, bk, rfl, _, d0, d1, d2, d3, hel, hsub⟩ := proofs_el ((proofsK_good n).keep HQ.out fun c hc => hW.out.below.block c (HL.out c hc)) hlt
              have hA := (Below.refl wr.heap.size wr).alloc (Nat.le_refl _) (.cells #[.string p.kids[k].fact.name, .slice Af p.kids[k].fact.args.length cf, .int .i64 p.kids[k].rule, .slice Ag p.kids[k].kids.length cg] 35)
              have WA := hW.out.quiet hA (Nat.le_trans (Nat.le_of_lt HLT.out) hW.out.below.size)
              have q5 := IH.out p.kids[k] _ _ _ _ bk (d + 1) b _ _ ((proofK_good n).below hel hA) (fun c hc => HL.out c (hsub c hc)) WA.bld (fun w' hb' => HT.out w' (WA.below.trans hb')) (by have := Pf.kid_size hlt; have := HS.out; omega) (Nat.le_trans (bulk_kid hlt) HBB.out) (by
                have h1 := HLEN.out
                have h2 := HPC.out (k + 1)
                rw [putPf_snoc p.kids (d + 1) k hlt] at h2
                simp only [List.length_append] at h2 ⊢
                omega)
              have e1 : ((d + 1 : Nat) : Int) = (d : Int) + 1 := by omega
              rw [e1] at q5
              have HSN := Lib.hid (putPf_snoc p.kids (d + 1) k hlt)
              have WH := Lib.hid WA
              clear hel hA WA hW e1
              generalize p.kids[k] = q at *
              go_wp2_with fail
              refine q5.mono ?_
              rintro e w5 ⟨rfl, h5⟩
              have W5 : Hid (Wrote b b (l ++ (List.replicate (2 * d) 32 ++ putL p.fact ++ ruleLn p.rule ++ (p.kids.take (k + 1)).flatMap fun q => putPf q (d + 1))) w w5) := Lib.hid (by
                have := WH.out.next h5
                rw [HSN.out]
                simpa only [List.append_assoc] using this)
              clear q5 h5 WH d0 d1 d2 d3
              go_wp2
              go_roundw
              case rel => exact ⟨k + 1, by omega, by go_num, W5⟩
              case measure => simp [intOf]; omega
            · have he : k = p.kids.length := by omega
              have HE : Hid (Wrote b b (l ++ putPf p d) w wr) := Lib.hid (by
                have := hW.out
                rw [he, List.take_of_length_le (Nat.le_refl _)] at this
                rw [putPf_eq]
                exact this)
              have hki : ¬ (k : Int) < (p.kids.length : Int) := by omega
              clear hlt hk he hW
              go_wp2
              go_end0
              exact ⟨rfl, HE.out⟩

end Go.Proofs.YtoekllcfmnnibaaDoor
