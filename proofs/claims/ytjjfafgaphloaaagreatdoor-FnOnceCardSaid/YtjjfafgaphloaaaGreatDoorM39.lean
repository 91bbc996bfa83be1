/- Of the proof of FnOnce: DrawAR, Laid, ChoI. -/
import Derived.Test.YtjjfafgaphloaaaGreatDoorM35
import Derived.Test.YtjjfafgaphloaaaGreatDoorM34
import Derived.LaidHandle
import Derived.Stop.Joined
import Derived.Test.YtjjfafgaphloaaaGreatDoorM37
namespace Go.Proofs.YtjjfafgaphloaaaGreatDoor
open Go.RowKit D
set_option linter.unusedVariables false
attribute [local go_sem ↓] Go.wp_at_zero Go.wp_at_succ
def D.lenRs : Value → Nat
  | .slice _ n _ => n
  | _ => 0

theorem D.terms_noneD {w : World} : termsK w [.slice none 0 0] [] [] := ⟨none, 0, rfl, Nat.le_refl _, by unfold maxLen; omega, fun _ => rfl, fun h => absurd rfl h⟩

theorem D.parts_noneD {w : World} : partsK w [.slice none 0 0] [] [] := ⟨none, 0, rfl, Nat.le_refl _, by unfold maxLen; omega, fun _ => rfl, fun h => absurd rfl h⟩

def D.zR : Ru := ⟨⟨⟨#[122]⟩, []⟩, []⟩

theorem D.zR_rule {w : World} : ruleK w [.string ⟨#[122]⟩, .slice none 0 0, .slice none 0 0] zR [] := ⟨_, _, [], [], rfl, (show (⟨#[122]⟩ : ByteArray).size ≤ maxLen from by decide), rfl, terms_noneD, parts_noneD⟩

theorem D.zR_small : RuS zR := ⟨⟨(show Sm ⟨#[122]⟩ from by decide), by simp [zR], fun t ht => by simp [zR] at ht⟩, by simp [zR], fun x hx => by simp [zR] at hx⟩

def D.pR : Ru := ⟨⟨⟨#[112]⟩, [⟨false, ⟨#[97]⟩⟩, ⟨false, ⟨#[98]⟩⟩]⟩, []⟩

theorem D.pR_small : RuS pR := ⟨⟨(show Sm ⟨#[112]⟩ from by decide), by simp [pR], fun t ht => by
  simp only [pR, List.mem_cons, List.not_mem_nil, or_false] at ht
  rcases ht with rfl | rfl
  · exact (show Sm ⟨#[97]⟩ from by decide)
  · exact (show Sm ⟨#[98]⟩ from by decide)⟩, by simp [pR], fun x hx => by simp [pR] at hx⟩

def D.qR (s : ByteArray) : Ru := ⟨⟨⟨#[113]⟩, [⟨true, ⟨#[88]⟩⟩]⟩, [⟨false, ⟨⟨#[112]⟩, [⟨true, ⟨#[88]⟩⟩]⟩⟩, ⟨true, ⟨s, [⟨true, ⟨#[88]⟩⟩]⟩⟩]⟩

theorem D.qR_small {s : ByteArray} (hs : Sm s) : RuS (qR s) := ⟨⟨(show Sm ⟨#[113]⟩ from by decide), by simp [qR], fun t ht => by simp only [qR, List.mem_cons, List.not_mem_nil, or_false] at ht; subst ht; decide⟩, by simp [qR], fun x hx => by
  simp only [qR, List.mem_cons, List.not_mem_nil, or_false] at hx
  rcases hx with rfl | rfl
  · exact ⟨(show Sm ⟨#[112]⟩ from by decide), by simp, fun t ht => by simp only [List.mem_cons, List.not_mem_nil, or_false] at ht; subst ht; decide⟩
  · exact ⟨hs, by simp, fun t ht => by simp only [List.mem_cons, List.not_mem_nil, or_false] at ht; subst ht; decide⟩⟩

set_option maxRecDepth 100000 in
set_option maxHeartbeats 4000000 in
theorem l10AnyRules_any (g p : Nat) (w : World) (h : Rdr g p w) (hp : p ≤ 400000) :
    Calls Tryz.prog 51 #[.pointer (some ⟨g, 0, none⟩)] w (RulesD 9 g p 150 w) := by
  obtain ⟨i0, hi, hz0, hz1, hz2⟩ := info_parts infoRuleD
  have hrs := l10Rules_any g p w h (by omega)
  have HP := Lib.hid hp
  clear h hp
  go_enter Tryz.func51, Tryz.ntmps51
  go_wp2_with fail
  refine hrs.mono ?_
  rintro e w1 ⟨xs, v1, q1, rfl, hx5, hq1, hF⟩
  obtain ⟨Av, cp, rfl⟩ := hF.shape
  have HF := Lib.hid hF
  have HX : Hid (xs.length ≤ 5 ∧ q1 ≤ p + 100) := Lib.hid ⟨hx5, hq1⟩
  have hpk := pick_any g q1 20 _ HF.out.rdr (by have := HP.out; omega) (by omega) (by omega)
  clear hrs hF hx5 hq1
  go_wp2_with fail
  refine hpk.mono ?_
  rintro e w2 ⟨m, rfl, hm, hR2, hG2⟩
  have HF2 := Lib.hid (HF.out.call hR2 (KeptBut.of_grown hG2))
  have HK9 : Hid (xs.length + 1 ≤ maxLen ∧ (xs.length + 1) * 64 ≤ 140737488355328) := Lib.hid (by have := HX.out; unfold maxLen; omega)
  clear hpk hm hR2 hG2 HF
  by_cases h0 : m = 0
  · subst h0
    have had := l10AnyAtom_s g (q1 + 1) w2 HF2.out.rdr (by have := HP.out; have := HX.out; omega)
    go_wp2_with fail
    refine had.mono ?_
    rintro e w3 ⟨a, v3, L3, q3, rfl, hs3, hl3, hC3, hR3, hq3, hK3, hsm3⟩
    obtain ⟨A3, c3, rfl⟩ := own_shape hC3.own
    have hA3 : Below w3.heap.size w3 (w3.alloc (.cells #[.string ⟨#[101]⟩, .string ⟨#[112]⟩, .string ⟨#[113]⟩] 9)) := (Below.refl _ _).alloc (Nat.le_refl _) _
    obtain ⟨b3, hsl3, hfar3⟩ := (hC3.below termK_good hA3).slice
    have hat3 : atomK (w3.alloc (.cells #[.string ⟨#[101]⟩, .string ⟨#[112]⟩, .string ⟨#[113]⟩] 9)) [.string a.name, .slice A3 a.args.length c3] a b3 := ⟨_, rfl, Sm.max hs3, hsl3⟩
    have HF3 := Lib.hid ((HF2.out.call hR3 hK3).below hA3)
    have HB3 : Hid (∀ b ∈ b3, w2.heap.size ≤ b) := Lib.hid fun b hb => (hfar3 b hb).resolve_right (by simp)
    have hga3 : g ∉ b3 := fun hg => by have := HB3.out g hg; have := HF2.out.glt; have := HF2.out.kept.size; omega
    have HA3 : Hid (AtS a ∧ q3 ≤ q1 + 21) := Lib.hid ⟨⟨hs3, hl3, hsm3⟩, by omega⟩
    have hbo := l10Body_any g q3 [⟨#[101]⟩, ⟨#[112]⟩, ⟨#[113]⟩] 3 w3.heap.size _ (hR3.below hA3) (heap_alloc_new w3 _) (Nat.ne_of_lt hR3.lt) (by have := HP.out; have := HX.out; have := HA3.out.2; omega) rfl (by decide) (by decide) (by decide)
    have HT3 := Lib.hid (And.intro hat3 hga3)
    clear had hs3 hl3 hC3 hR3 hq3 hK3 hsm3 hA3 hsl3 hfar3 hat3 hga3
    go_wp2_with fail
    refine hbo.mono ?_
    rintro e w4 ⟨ys, v4, q4, rfl, hy1, hy3, hq4, hbd⟩
    obtain ⟨A4, c4, rfl⟩ := hbd.shape
    have hat4 : atomK w4 [.string a.name, .slice A3 a.args.length c3] a b3 := Good.kept atomK_good HT3.out.1 hbd.kept (fun b hb => by simp; rintro rfl; exact HT3.out.2 hb)
    obtain ⟨b4, hps4, hfar4⟩ := hbd.parts
    have HF4 := Lib.hid (HF3.out.call hbd.rdr hbd.kept)
    have hru : ruleK w4 [.string a.name, .slice A3 a.args.length c3, .slice A4 ys.length c4] (⟨a, ys⟩ : Ru) (b3 ++ b4) := ⟨_, _, b3, b4, rfl, Sm.max HA3.out.1.1, rfl, atom_args hat4, hps4⟩
    have HRU : Hid (RuS ⟨a, ys⟩ ∧ q4 ≤ q1 + 46) := Lib.hid ⟨⟨HA3.out.1, by have : ys.length ≤ 3 := hy3; show ys.length ≤ 8; omega, hbd.small⟩, by have := HA3.out.2; omega⟩
    obtain ⟨L7, bs7, hC7, hbb7, hR7, hL7, hO7, hB7, hS7⟩ := HF4.out.arm2 (Below.refl _ _) hru (fun b hb => by
      rcases List.mem_append.1 hb with hb | hb
      · exact ⟨Nat.le_trans HF2.out.kept.size (HB3.out b hb), HF2.out.far (HB3.out b hb)⟩
      · exact ⟨Nat.le_trans HF3.out.kept.size (hfar4 b hb), HF3.out.far (hfar4 b hb)⟩)
    have HY := Lib.hid (And.intro hC7 (And.intro hbb7 (And.intro hR7 (And.intro hL7 (And.intro hO7 (And.intro hB7 hS7))))))
    clear hC7 hbb7 hR7 hL7 hO7 hB7 hS7
    clear hbo hy1 hy3 hq4 hbd hat4 hps4 hfar4 hru
    go_wp2_with (at_builtin; refine wpList_coll rfl _ _ _ rfl w.heap.size 53 i0 (.agg #[.string ⟨#[]⟩, .slice none 0 0, .slice none 0 0]) 3 64 Tryz.underlying23 hi hz0 hz1 hz2 rfl (by omega) ruleK_good (.slice Av xs.length cp) xs.length _ xs _ rfl HY.out.1 rfl (some ⟨w4.heap.size, 0, none⟩) 1 1 _ [⟨a, ys⟩] _ rfl HY.out.2.2.1 rfl HY.out.2.2.2.1 HY.out.2.2.2.2.1 HK9.out.1 HK9.out.2 w4 w.heap.size HY.out.2.2.2.2.2.1 (Nat.le_refl _) HY.out.2.2.2.2.2.2 ?_; intro A8 cp8 w8 hC8 hB8 hS8 hG8)
    have HF8 := Lib.hid (HF4.out.app hC8 HY.out.2.1 hB8 HRU.out.1)
    clear hC8 hB8 hS8 hG8 HY
    go_wp2
    go_ret
    exact ⟨xs ++ [⟨a, ys⟩], _, q4, rfl, by have := HX.out; simp; omega, by have := HX.out; have := HRU.out.2; omega, HF8.out⟩
  · have i0' : ¬ (m : Int) = 0 := by omega
    by_cases h1 : m = 1
    · subst h1
      have HL0 : Hid (∃ (ys : List Ru) (A' : Option Addr) (c' q : Nat), Value.slice Av xs.length cp = .slice A' ys.length c' ∧ ys.length ≤ 9 ∧ q ≤ p + 102 + ys.length ∧ RsInv g q w ys (.slice A' ys.length c') w2) := Lib.hid ⟨xs, Av, cp, _, rfl, by have := HX.out; omega, by have := HX.out; omega, HF2.out⟩
      clear HK9
      go_wp2_with fail
      go_loopw [3] (fun v wr => ∃ (ys : List Ru) (A' : Option Addr) (c' q : Nat), v = .slice A' ys.length c' ∧ ys.length ≤ 9 ∧ q ≤ p + 102 + ys.length ∧ RsInv g q w ys (.slice A' ys.length c') wr) (fun v _ => 10 - lenRs v)
      case atStart => exact HL0.out
      case round =>
        clear HF2 HL0 HX
        obtain ⟨ys, A', c', q, rfl, hy9, hq, hI⟩ := hrel
        have HI := Lib.hid hI
        have HYL : Hid (ys.length ≤ 9 ∧ q ≤ p + 102 + ys.length) := Lib.hid ⟨hy9, hq⟩
        have hpk := pick_any g q 2 _ HI.out.rdr (by have := HP.out; have := HYL.out; omega) (by omega) (by omega)
        clear hI hq hy9
        go_wp2_with fail
        refine hpk.mono ?_
        rintro e w3 ⟨j2, rfl, hj2, hR3, hG3⟩
        have HI3 := Lib.hid (HI.out.call hR3 (KeptBut.of_grown hG3))
        have hw8 : IntKind.i64.wrap (8 + (j2 : Int)) = 8 + (j2 : Int) := by simp only [IntKind.wrap, IntKind.bits, IntKind.signed]; simp; omega
        have HJ := Lib.hid hj2
        clear hpk hR3 hG3 HI
        by_cases hlt : ys.length < 8 + j2
        · have hlt' : (ys.length : Int) < 8 + (j2 : Int) := by omega
          have HLT := Lib.hid hlt
          have HK9 : Hid (ys.length + 1 ≤ maxLen ∧ (ys.length + 1) * 64 ≤ 140737488355328) := Lib.hid (by have := HYL.out; unfold maxLen; omega)
          clear hlt
          obtain ⟨L7, bs7, hC7, hbb7, hR7, hL7, hO7, hB7, hS7⟩ := HI3.out.arm2 (Below.refl _ _) zR_rule (fun b hb => by simp at hb)
          have HY := Lib.hid (And.intro hC7 (And.intro hbb7 (And.intro hR7 (And.intro hL7 (And.intro hO7 (And.intro hB7 hS7))))))
          clear hC7 hbb7 hR7 hL7 hO7 hB7 hS7
          go_wp2_with (at_builtin; refine wpList_coll rfl _ _ _ rfl w.heap.size 53 i0 (.agg #[.string ⟨#[]⟩, .slice none 0 0, .slice none 0 0]) 3 64 Tryz.underlying23 hi hz0 hz1 hz2 rfl (by omega) ruleK_good (.slice A' ys.length c') ys.length _ ys _ rfl HY.out.1 rfl (some ⟨w3.heap.size, 0, none⟩) 1 1 _ [zR] _ rfl HY.out.2.2.1 rfl HY.out.2.2.2.1 HY.out.2.2.2.2.1 HK9.out.1 HK9.out.2 w3 w.heap.size HY.out.2.2.2.2.2.1 (Nat.le_refl _) HY.out.2.2.2.2.2.2 ?_; intro A8 cp8 w8 hC8 hB8 hS8 hG8)
          have HF8 := Lib.hid (HI3.out.app hC8 HY.out.2.1 hB8 zR_small)
          clear hC8 hB8 hS8 hG8 HY
          go_wp2
          go_roundw
          case rel => exact ⟨ys ++ [zR], A8, cp8, q + 1, by rw [List.length_append]; rfl, by have := HLT.out; have := HJ.out; simp; omega, by have := HYL.out; simp; omega, by rw [List.length_append]; exact HF8.out⟩
          case measure => have := HYL.out; simp [lenRs]; omega
        · have hlt' : ¬ (ys.length : Int) < 8 + (j2 : Int) := by omega
          go_wp2
          go_ret
          exact ⟨ys, _, q + 1, rfl, HYL.out.1, by have := HYL.out; omega, HI3.out⟩
    · have i1' : ¬ (m : Int) = 1 := by omega
      by_cases h2 : m = 2
      · subst h2
        obtain ⟨w5, hw5⟩ : ∃ w5, w5 = (w2.alloc (.cells #[.bool true, .string ⟨#[88]⟩] 127)).alloc (.cells #[.string ⟨#[113]⟩, .slice (some ⟨w2.heap.size, 0, none⟩) 1 1] 33) := ⟨_, rfl⟩
        have hA5 : Below w2.heap.size w2 w5 := hw5 ▸ ((Below.refl _ _).alloc (Nat.le_refl _) _).alloc (by simp) _
        have hn5 : w5.heap.size = w2.heap.size + 2 := by rw [hw5]; simp
        have ht5 : w5.heap[w2.heap.size]? = some (.cells #[.bool true, .string ⟨#[88]⟩] 127 (0, 0)) := by rw [hw5]; exact (heap_two w2 _ _).1
        have ha5 : w5.heap[w2.heap.size + 1]? = some (.cells #[.string ⟨#[113]⟩, .slice (some ⟨w2.heap.size, 0, none⟩) 1 1] 33 (0, 0)) := by rw [hw5]; exact (heap_two w2 _ _).2
        have HF5 := Lib.hid (HF2.out.below hA5)
        have HB5 := Lib.hid (And.intro ht5 ha5)
        have HN5 := Lib.hid hn5
        have HOF : Hid (Calls Tryz.prog 94 #[.pointer (some ⟨g, 0, none⟩), .slice (some ⟨w5.heap.size, 0, none⟩) 3 3] (w5.alloc (.cells #[.string ⟨#[113]⟩, .string ⟨#[114]⟩, .string ⟨#[115]⟩] 9)).drew (fun e w6 => ∃ (s : ByteArray) (L7 : List Value) (bs7 : List Nat), e = .returned (.string s) ∧ Sm s ∧ w6.cell? ⟨w2.heap.size + 1, 0, none⟩ = some (.string ⟨#[113]⟩) ∧ w6.cell? ⟨w2.heap.size + 1, 1, none⟩ = some (.slice (some ⟨w2.heap.size, 0, none⟩) 1 1) ∧ w6.heap[w2.heap.size + 1]? = some (.cells #[.string ⟨#[113]⟩, .slice (some ⟨w2.heap.size, 0, none⟩) 1 1] 33 (0, 0)) ∧ w2.heap.size + 1 < w6.heap.size ∧ RsInv g (q1 + 1 + 1) w xs (.slice Av xs.length cp) w6 ∧
            Coll 3 ruleK w.heap.size 53 ((w6.alloc (.cells #[.bool false, .string ⟨#[112]⟩, .slice (some ⟨w2.heap.size, 0, none⟩) 1 1, .bool true, .string s, .slice (some ⟨w2.heap.size, 0, none⟩) 1 1] 148)).alloc (.cells #[.string ⟨#[113]⟩, .slice (some ⟨w2.heap.size, 0, none⟩) 1 1, .slice (some ⟨w6.heap.size, 0, none⟩) 2 2] 53)) (.slice Av xs.length cp) L7 xs bs7 ∧ (∀ b ∈ bs7 ++ ([w2.heap.size] ++ (w6.heap.size :: ([w2.heap.size] ++ [w2.heap.size]))), w.heap.size ≤ b) ∧ Rowed 3 ruleK ((w6.alloc (.cells #[.bool false, .string ⟨#[112]⟩, .slice (some ⟨w2.heap.size, 0, none⟩) 1 1, .bool true, .string s, .slice (some ⟨w2.heap.size, 0, none⟩) 1 1] 148)).alloc (.cells #[.string ⟨#[113]⟩, .slice (some ⟨w2.heap.size, 0, none⟩) 1 1, .slice (some ⟨w6.heap.size, 0, none⟩) 2 2] 53)) [.string ⟨#[113]⟩, .slice (some ⟨w2.heap.size, 0, none⟩) 1 1, .slice (some ⟨w6.heap.size, 0, none⟩) 2 2] [qR s] ([w2.heap.size] ++ (w6.heap.size :: ([w2.heap.size] ++ [w2.heap.size]))) ∧
            Lies ((w6.alloc (.cells #[.bool false, .string ⟨#[112]⟩, .slice (some ⟨w2.heap.size, 0, none⟩) 1 1, .bool true, .string s, .slice (some ⟨w2.heap.size, 0, none⟩) 1 1] 148)).alloc (.cells #[.string ⟨#[113]⟩, .slice (some ⟨w2.heap.size, 0, none⟩) 1 1, .slice (some ⟨w6.heap.size, 0, none⟩) 2 2] 53)) (some ⟨w6.heap.size + 1, 0, none⟩) [.string ⟨#[113]⟩, .slice (some ⟨w2.heap.size, 0, none⟩) 1 1, .slice (some ⟨w6.heap.size, 0, none⟩) 2 2] ∧ (∀ b ∈ ([w2.heap.size] ++ (w6.heap.size :: ([w2.heap.size] ++ [w2.heap.size]))), (Value.slice Av xs.length cp).ownBlock ≠ some b) ∧ Below w.heap.size w6 ((w6.alloc (.cells #[.bool false, .string ⟨#[112]⟩, .slice (some ⟨w2.heap.size, 0, none⟩) 1 1, .bool true, .string s, .slice (some ⟨w2.heap.size, 0, none⟩) 1 1] 148)).alloc (.cells #[.string ⟨#[113]⟩, .slice (some ⟨w2.heap.size, 0, none⟩) 1 1, .slice (some ⟨w6.heap.size, 0, none⟩) 2 2] 53)) ∧ w.heap.size ≤ ((w6.alloc (.cells #[.bool false, .string ⟨#[112]⟩, .slice (some ⟨w2.heap.size, 0, none⟩) 1 1, .bool true, .string s, .slice (some ⟨w2.heap.size, 0, none⟩) 1 1] 148)).alloc (.cells #[.string ⟨#[113]⟩, .slice (some ⟨w2.heap.size, 0, none⟩) 1 1, .slice (some ⟨w6.heap.size, 0, none⟩) 2 2] 53)).heap.size)) := by
          refine Lib.hid ((of_lit g (q1 + 1) [⟨#[113]⟩, ⟨#[114]⟩, ⟨#[115]⟩] 3 w5.drew HF5.out.rdr (by have := HP.out; have := HX.out; omega) rfl (by decide) (by decide) (by decide)).mono ?_)
          rintro e w6 ⟨s, rfl, hs, hR6, hK6⟩
          have hgl := HF2.out.glt
          have hws : w.heap.size ≤ w2.heap.size := HF2.out.kept.size
          have ht6 := hK6.blk HB5.out.1 (by simp; omega)
          have ha6 := hK6.blk HB5.out.2 (by simp; omega)
          have HF6 := HF5.out.call hR6 ((KeptBut.refl [g] w5).drew.trans hK6)
          have h56 : w5.heap.size ≤ w6.heap.size := hK6.size
          have hAP : Below w6.heap.size w6 (w6.alloc (.cells #[.bool false, .string ⟨#[112]⟩, .slice (some ⟨w2.heap.size, 0, none⟩) 1 1, .bool true, .string s, .slice (some ⟨w2.heap.size, 0, none⟩) 1 1] 148)) := (Below.refl _ _).alloc (Nat.le_refl _) _
          have tA := termsK_good.below (terms_one ht6 (by decide)) hAP
          have hbd := parts_two (heap_alloc_new w6 (.cells #[.bool false, .string ⟨#[112]⟩, .slice (some ⟨w2.heap.size, 0, none⟩) 1 1, .bool true, .string s, .slice (some ⟨w2.heap.size, 0, none⟩) 1 1] 148)) (show atomK _ [.string ⟨#[112]⟩, _] ⟨⟨#[112]⟩, [⟨true, ⟨#[88]⟩⟩]⟩ _ from ⟨_, rfl, (show (⟨#[112]⟩ : ByteArray).size ≤ maxLen from by decide), tA⟩) (show atomK _ [.string s, _] ⟨s, [⟨true, ⟨#[88]⟩⟩]⟩ _ from ⟨_, rfl, Sm.max hs, tA⟩)
          have hru : ruleK (w6.alloc (.cells #[.bool false, .string ⟨#[112]⟩, .slice (some ⟨w2.heap.size, 0, none⟩) 1 1, .bool true, .string s, .slice (some ⟨w2.heap.size, 0, none⟩) 1 1] 148)) [.string ⟨#[113]⟩, .slice (some ⟨w2.heap.size, 0, none⟩) 1 1, .slice (some ⟨w6.heap.size, 0, none⟩) 2 2] (qR s) ([w2.heap.size] ++ (w6.heap.size :: ([w2.heap.size] ++ [w2.heap.size]))) := ⟨_, _, _, _, rfl, (show (⟨#[113]⟩ : ByteArray).size ≤ maxLen from by decide), rfl, tA, hbd⟩
          obtain ⟨L7, bs7, hC7, hbb7, hR7, hL7, hO7, hB7, hS7⟩ := HF6.arm2 hAP hru (fun b hb => by
            simp only [List.cons_append, List.nil_append, List.mem_cons, List.not_mem_nil, or_false] at hb
            rcases hb with rfl | rfl | rfl | rfl
            · exact ⟨hws, HF2.out.far (Nat.le_refl _)⟩
            · exact ⟨by omega, HF6.far (Nat.le_refl _)⟩
            · exact ⟨hws, HF2.out.far (Nat.le_refl _)⟩
            · exact ⟨hws, HF2.out.far (Nat.le_refl _)⟩)
          exact ⟨s, L7, bs7, rfl, hs, cell_of_blk ha6, cell_of_blk ha6, ha6, by omega, HF6, hC7, hbb7, hR7, by simpa only [World.size_alloc] using hL7, hO7, hB7, hS7⟩
        have q0 := cell_of_blk (o := 0) ha5
        have q1c := cell_of_blk (o := 1) ha5
        simp only [List.getElem?_toArray, List.getElem?_cons_zero, List.getElem?_cons_succ] at q0 q1c
        have hlt5 : w2.heap.size + 1 < w5.heap.size := by omega
        clear hA5 ht5 ha5 hn5
        go_wp2_with fail
        rw [← hw5]
        clear hw5
        go_region_held3 (fun w' => w'.cell? ⟨w2.heap.size + 1, 0, none⟩ = some (.string ⟨#[113]⟩) ∧ w'.cell? ⟨w2.heap.size + 1, 1, none⟩ = some (.slice (some ⟨w2.heap.size, 0, none⟩) 1 1)) (first | exact ⟨q0, q1c⟩ | go_keep)
          (first
            | (go_at_call 94; refine HOF.out.mono ?_; rintro e w6 ⟨s, L7, bs7, rfl, hs, hq0, hq1, hq3, hq2, hF6, hY⟩; have HBX := Lib.hid hq3; have HFAR : Hid (∀ b, w2.heap.size ≤ b → (Value.slice Av xs.length cp).ownBlock ≠ some b) := Lib.hid (fun b hb => HF2.out.far hb); replace q0 := hq0; replace q1c := hq1; replace hlt5 := hq2; have HF6 := Lib.hid hF6; have HY := Lib.hid hY; have HSS := Lib.hid hs; clear hq0 hq1 hq2 hq3 hF6 hY hs HOF)
            | (refine step_coll (by rfl) (.tmp 38) (.tmp 53) _ (by rfl) w.heap.size 53 i0 (.agg #[.string ⟨#[]⟩, .slice none 0 0, .slice none 0 0]) 3 64 Tryz.underlying23 hi hz0 hz1 hz2 rfl (Nat.zero_lt_succ 2) ruleK_good (.slice Av xs.length cp) xs.length L7 xs bs7 (by rfl) HY.out.1 rfl (some ⟨w6.heap.size + 1, 0, none⟩) 1 1 _ [qR s] _ (by rfl) HY.out.2.2.1 rfl HY.out.2.2.2.1 HY.out.2.2.2.2.1 HK9.out.1 HK9.out.2 w6 w.heap.size HY.out.2.2.2.2.2.1 (Nat.le_refl _) HY.out.2.2.2.2.2.2 ?_; intro A8 cp8 w8 hC8 hB8 hS8 hG8; have HF8 := Lib.hid (HF6.out.app hC8 HY.out.2.1 hB8 (qR_small HSS.out)); have hbx8 := (hG8.block (w2.heap.size + 1) (by simp; omega) (fun e => HFAR.out _ (Nat.le_succ _) e.symm)).trans ((Below.heap_alloc _ _ _ (by simp; omega)).trans ((Below.heap_alloc _ _ _ hlt5).trans HBX.out)); replace q0 := cell_of_blk (o := 0) hbx8; replace q1c := cell_of_blk (o := 1) hbx8; simp only [List.getElem?_toArray, List.getElem?_cons_zero, List.getElem?_cons_succ] at q0 q1c; clear hbx8 hC8 hB8 hS8 hG8))
        all_goals
          go_wp2
          go_ret
          exact ⟨xs ++ [qR s], _, q1 + 2, rfl, by have := HX.out; simp; omega, by have := HX.out; omega, HF8.out⟩
      · have i2' : ¬ (m : Int) = 2 := by omega
        by_cases h3 : m = 3
        · subst h3
          have hA3 : Below w2.heap.size w2 (w2.alloc (.cells #[.bool false, .string ⟨#[97]⟩, .bool false, .string ⟨#[98]⟩] 127)) := (Below.refl _ _).alloc (Nat.le_refl _) _
          have hts := terms_two (heap_alloc_new w2 (.cells #[.bool false, .string ⟨#[97]⟩, .bool false, .string ⟨#[98]⟩] 127)) (by decide) (by decide)
          have hru : ruleK (w2.alloc (.cells #[.bool false, .string ⟨#[97]⟩, .bool false, .string ⟨#[98]⟩] 127)) [.string ⟨#[112]⟩, .slice (some ⟨w2.heap.size, 0, none⟩) 2 2, .slice none 0 0] pR ([w2.heap.size] ++ []) := ⟨_, _, _, _, rfl, (show (⟨#[112]⟩ : ByteArray).size ≤ maxLen from by decide), rfl, hts, parts_noneD⟩
          have hFn := HF2.out.kept.size
          obtain ⟨L7, bs7, hC7, hbb7, hR7, hL7, hO7, hB7, hS7⟩ := HF2.out.arm hA3 hru (fun b hb => by simp at hb; omega)
          have HY := Lib.hid (And.intro hC7 (And.intro hbb7 (And.intro hR7 (And.intro hL7 (And.intro hO7 (And.intro hB7 hS7))))))
          clear hC7 hbb7 hR7 hL7 hO7 hB7 hS7
          simp only [World.size_alloc] at HY
          clear hA3 hts hru hFn
          go_wp2_with (at_builtin; refine wpList_coll rfl _ _ _ rfl w.heap.size 53 i0 (.agg #[.string ⟨#[]⟩, .slice none 0 0, .slice none 0 0]) 3 64 Tryz.underlying23 hi hz0 hz1 hz2 rfl (by omega) ruleK_good (.slice Av xs.length cp) xs.length _ xs _ rfl HY.out.1 rfl (some ⟨w2.heap.size + 1, 0, none⟩) 1 1 _ [pR] _ rfl HY.out.2.2.1 rfl HY.out.2.2.2.1 HY.out.2.2.2.2.1 HK9.out.1 HK9.out.2 w2 w.heap.size HY.out.2.2.2.2.2.1 (Nat.le_refl _) (Nat.le_trans HF2.out.kept.size (by simp; omega)) ?_; intro A8 cp8 w8 hC8 hB8 hS8 hG8)
          have HF8 := Lib.hid (HF2.out.app hC8 HY.out.2.1 hB8 pR_small)
          clear hC8 hB8 hS8 hG8 HY
          go_wp2
          go_ret
          exact ⟨xs ++ [pR], _, q1 + 1, rfl, by have := HX.out; simp; omega, by have := HX.out; omega, HF8.out⟩
        · have i3' : ¬ (m : Int) = 3 := by omega
          go_wp2
          go_ret
          exact ⟨xs, _, q1 + 1, rfl, by have := HX.out; omega, by have := HX.out; omega, HF2.out⟩

end Go.Proofs.YtjjfafgaphloaaaGreatDoor
namespace Go.Proofs.YtjjfafgaphloaaaGreatDoor
open Go.ChangeShapes Go.WideShapes Go.RowKit D
theorem laidEt : Tryz.prog.globalNamed "errors.errorType" = some 1 := by kernel_rfl

theorem laidRt : (Tryz.prog.cutTypes.find? (·.1 == "internal/reflectlite.rtype")).map (·.2) = some 261 := by kernel_rfl

theorem laidSize : Tryz.prog.types.size = 316 := by kernel_rfl

theorem laidOneRow : ((List.range 316).filter fun t => Tryz.prog.rowNamed t [101, 114, 114, 111, 114]) = [122] := by kernel_rfl

theorem handle_of_laid {W : World} (h : laidMetH Tryz.prog [("errors.errorType", Rows.laid_errors_errorType)] W) : LaidE W := by
  have h' : laidMet Tryz.prog [] W ∧ handlesMet Tryz.prog [("errors.errorType", Rows.laid_errors_errorType)] W := h
  obtain ⟨name, u, ty, e1, e2, e3, e4, e5⟩ := h'.2 _ (List.mem_singleton.2 rfl)
  have en : name = [101, 114, 114, 111, 114] := (Option.some.inj e1).symm
  subst en
  obtain rfl := Option.some.inj (laidRt.symm.trans e2)
  have hm : ty ∈ (List.range 316).filter fun t => Tryz.prog.rowNamed t [101, 114, 114, 111, 114] := List.mem_filter.2 ⟨List.mem_range.2 (by rw [← laidSize]; exact e3), e4⟩
  rw [laidOneRow] at hm
  obtain rfl := List.mem_singleton.1 hm
  have hh : typeHandle Tryz.prog 122 = .pointer (some ⟨2, 122, none⟩) := by kernel_rfl
  rw [hh] at e5
  unfold LaidE
  simpa using World.var?_cell laidEt e5 0

/-- A world that meets the condition. -/
noncomputable def laidWorld (os : Os) : World :=
  let w0 := World.holding Tryz.prog os ⟨#[], #[], []⟩
  { w0 with heap := w0.heap.modify 1 fun
      | .cells _ t frozen => .cells #[.iface 261 (.agg #[.pointer (some ⟨2, 122, none⟩)])] t frozen
      | o => o }

theorem laidWorld_met (os : Os) (args : Array Value) : laidMetH Tryz.prog [("errors.errorType", Rows.laid_errors_errorType)] ((laidWorld os).forCall (fun _ _ => 0) ⟨#[], args, []⟩).memory :=
  laidMetH_of_parts (laidMet_nil _ _) (by kernel_rfl)

end Go.Proofs.YtjjfafgaphloaaaGreatDoor
namespace Go.Proofs.YtjjfafgaphloaaaGreatDoor
open Go.RowKit D
set_option linter.unusedVariables false
attribute [local go_sem ↓] Go.wp_at_zero Go.wp_at_succ
theorem D.bits_and (l i : Nat) (hl : l < 16) (hi : i < 4) : (bits .and .i64 (l : Int) (wrap64 (2 ^ i)) == 0) = !l.testBit i := by
  have h : ∀ l : Nat, l < 16 → ∀ i : Nat, i < 4 → (bits .and .i64 (l : Int) (wrap64 (2 ^ i)) == 0) = !l.testBit i := by decide +kernel
  exact h l hl i hi

/-- What is chosen: a part that is left, and places of facts among which are all that match it. -/
structure D.Chosen (fs ps : List A) (b : Bd) (bs : List Nat) (left m : Nat) (A9 : Option Addr) (c9 : Nat) (key : WK) (bx : List Nat) (w : World) : Prop where
  lt : m < ps.length
  bit : left.testBit m = true
  row : intsK w [.slice A9 (idxs fs key).length c9] (idxs fs key) bx
  sub : ∀ x ∈ bx, x ∈ bs
  key_ : ∀ p, ps[m]? = some p → ∀ f, Gr f → (matchB p f b).2 = true → key ∈ keysOf f

theorem D.Chosen.below {fs ps : List A} {b : Bd} {bs : List Nat} {left m : Nat} {A9 : Option Addr} {c9 : Nat} {key : WK} {bx : List Nat} {w w' : World} (h : Chosen fs ps b bs left m A9 c9 key bx w) (hb : Below w.heap.size w w') : Chosen fs ps b bs left m A9 c9 key bx w' :=
  ⟨h.lt, h.bit, intsK_good.below h.row hb, h.sub, h.key_⟩

set_option maxRecDepth 100000 in
set_option maxHeartbeats 4000000 in
theorem choose_any (vars : List ByteArray) (hv : VarsOk vars) (b : Bd) (fs : List A) (rn : List Nat) (bs : List Nat) (ps : List A) (Ap : Option Addr) (cp : Nat) (bp : List Nat) (sk sb : Nat) (v2 : Value) (wt : Nat → Bool) (ah : Int) (tell : Value) (left : Nat) (w : World)
    (h : SeaV sk sb (.slice Ap ps.length cp) v2 wt false ah tell w) (hb : BdAt vars b sk 18 w) (hst : StoreV sb fs rn bs w) (hps : patsK vars w [.slice Ap ps.length cp] ps bp) (hin : ∀ p ∈ ps, ∀ t ∈ p.args, t.var = true → t.name ∈ vars) (hal : ∀ p ∈ ps, p.args.length ≤ 1000000) (hn4 : ps.length ≤ 4) (hl16 : left < 16) (hfl : fs.length ≤ 1000000)
    (hsome : ∃ j, j < ps.length ∧ left.testBit j = true) :
    Calls Tryz.prog 143 #[.pointer (some ⟨sk, 0, none⟩), .int .i64 left] w fun e w' => ∃ m A9 c9 key bx, e = .returned (.tuple #[.int .i64 (m : Nat), .slice A9 (idxs fs key).length c9]) ∧ Chosen fs ps b bs left m A9 c9 key bx w' ∧ Below w.heap.size w w' := by
  have hsk := h.lt
  have y0 := h.p1
  have HX := Lib.hid (And.intro h (And.intro hb (And.intro hst (And.intro hps (And.intro hin (And.intro hal hsome))))))
  clear h hb hst hps hin hal hsome
  go_enter Tryz.func143, Tryz.ntmps143
  go_wp2
  go_loopw [6, 7, 17] (fun best list i wr => ∃ (k : Nat), k ≤ ps.length ∧ i = .int .i64 k ∧ Below w.heap.size w wr ∧
    ((best = .int .i64 (-1) ∧ list = .slice none 0 0 ∧ ∀ j, j < k → left.testBit j = false) ∨ ∃ m A9 c9 key bx, best = .int .i64 (m : Nat) ∧ list = .slice A9 (idxs fs key).length c9 ∧ Chosen fs ps b bs left m A9 c9 key bx wr)) (fun _ _ i _ => ps.length - (intOf i).toNat)
  case atStart => exact ⟨0, Nat.zero_le _, rfl, Below.refl _ _, .inl ⟨rfl, rfl, fun j hj => by omega⟩⟩
  case round =>
    obtain ⟨k, hk, rfl, hbel, halt⟩ := hrel
    by_cases hlt : k < ps.length
    · obtain ⟨bq, oq, Ae, ce, bk, rfl, _, f0, f1, ⟨vv, hvv, hnm, hsl⟩, _⟩ := pats_at ((patsK_good vars).below HX.out.2.2.2.1 hbel) hlt
      simp only [List.cons.injEq, and_true, true_and] at hvv
      subst hvv
      have hk0 : (0 : Int) ≤ (k : Int) := by omega
      have hk1 : (k : Int) < (ps.length : Int) := by omega
      have hk4 : (k : Int) < 4 := by omega
      have hba := bits_and left k hl16 (by omega)
      have hA2 : Below wr.heap.size wr (wr.alloc (.cells #[.string ps[k].name, .slice Ae ps[k].args.length ce] 104)) := (Below.refl _ _).alloc (Nat.le_refl _) _
      have hb2 := hbel.trans (hA2.mono hbel.size)
      have HLT := Lib.hid hlt
      have HA2 := Lib.hid hA2
      have HB2 := Lib.hid hb2
      have HALT := Lib.hid halt
      cases htb : left.testBit k
      · rw [htb] at hba
        have HTB := Lib.hid htb
        clear hA2 hb2 hnm hsl hbel htb hk halt
        simp only [Bool.not_false] at hba
        generalize ps[k].name = pn at *
        generalize ps[k].args.length = pl at *
        clear hlt
        go_wp2
        go_roundw
        case rel =>
          refine ⟨k + 1, HLT.out, by go_num, HB2.out, ?_⟩
          rcases HALT.out with ⟨h1, h2, h3⟩ | ⟨m, A9, c9, key, bx, h1, h2, h3⟩
          · refine .inl ⟨h1, h2, fun j hj => ?_⟩
            rcases Nat.lt_succ_iff_lt_or_eq.1 hj with h | rfl
            · exact h3 j h
            · exact HTB.out
          · exact .inr ⟨m, A9, c9, key, bx, h1, h2, h3.below HA2.out⟩
        case measure => have := HLT.out; simp [intOf]; omega
      · rw [htb] at hba
        have hskr : sk < (wr.alloc (.cells #[.string ps[k].name, .slice Ae ps[k].args.length ce] 104)).heap.size := Nat.lt_of_lt_of_le hsk hb2.size
        have HC := Lib.hid (candidates_any vars hv b sb fs rn bs ps[k] Ae ce bk sk 18 (wr.alloc (.cells #[.string ps[k].name, .slice Ae ps[k].args.length ce] 104)).drew (HX.out.2.2.1.below hb2.drew) (HX.out.2.1.keep (hb2.drew.block _ hsk)) ((slotsK_good vars).below hsl hA2.drew) (HX.out.2.2.2.2.1 _ (List.getElem_mem hlt)) (HX.out.2.2.2.2.2.1 _ (List.getElem_mem hlt)) hfl)
        have s0 : (wr.alloc (.cells #[.string ps[k].name, .slice Ae ps[k].args.length ce] 104)).cell? ⟨sk, 0, none⟩ = some (.pointer (some ⟨sb, 0, none⟩)) := (HX.out.1.keep (hb2.block _ hsk)).st
        have z0 : (wr.alloc (.cells #[.string ps[k].name, .slice Ae ps[k].args.length ce] 104)).cell? ⟨wr.heap.size, 0, none⟩ = some (.string ps[k].name) := by go_simp
        have z1 : (wr.alloc (.cells #[.string ps[k].name, .slice Ae ps[k].args.length ce] 104)).cell? ⟨wr.heap.size, 1, none⟩ = some (.slice Ae ps[k].args.length ce) := by go_simp
        have HPK : Hid (∀ p, ps[k]? = some p → p = ps[k]) := Lib.hid fun p hp => by rw [List.getElem?_eq_getElem hlt] at hp; exact (Option.some.inj hp).symm
        have HTB := Lib.hid htb
        clear hA2 hb2 hnm hsl hbel htb hk halt
        simp only [Bool.not_true] at hba
        generalize ps[k] = p at *
        clear hlt
        obtain ⟨pn, pargs⟩ := p
        dsimp only at *
        have HK8 : ∀ (key8 : WK) (bx8 : List Nat) (A8 : Option Addr) (c8 : Nat) (w8 : World), intsK w8 [.slice A8 (idxs fs key8).length c8] (idxs fs key8) bx8 → (∀ x ∈ bx8, x ∈ bs) → (∀ f, Gr f → (matchB ⟨pn, pargs⟩ f b).2 = true → key8 ∈ keysOf f) → Chosen fs ps b bs left k A8 c8 key8 bx8 w8 :=
          fun _ _ _ _ _ h1 h2 h3 => ⟨HLT.out, HTB.out, h1, h2, fun p hp => by rw [HPK.out p hp]; exact h3⟩
        have HK9 := Lib.hid HK8
        clear HK8 HPK
        rcases HALT.out with ⟨rfl, rfl, _⟩ | ⟨m, A9, c9, key, bx, rfl, rfl, h3⟩
        · clear HALT
          go_wp2
          generalize wr.alloc (.cells #[.string pn, .slice Ae pargs.length ce] 104) = W1 at *
          go_region_law
            (first
              | (go_simp; go_at_call 178; refine HC.out.mono ?_; rintro e w2 ⟨A8, c8, key8, bx8, rfl, h81, h82, h83, hb8⟩; have HK2 := Lib.hid ((Below.refl W1.heap.size W1).drew.trans hb8); replace s0 := cell_later HK2.out s0; have H8 := Lib.hid (HK9.out _ _ _ _ _ h81 h82 h83); clear h81 h82 h83 hb8))
          all_goals
            have HB3 := Lib.hid (HB2.out.trans (HK2.out.mono HB2.out.size))
            have q9 := (HX.out.1.keep (HB3.out.block _ hsk)).io
            clear s0 z0 z1 HC HK2
            go_wp2
            go_roundw
            case rel => exact ⟨k + 1, HLT.out, by go_num, HB3.out, .inr ⟨k, A8, c8, key8, bx8, rfl, rfl, H8.out⟩⟩
            case measure => have := HLT.out; simp [intOf]; omega
        · have hm0 : ¬ ((m : Nat) : Int) < 0 := by omega
          have H3 := Lib.hid h3
          clear HALT h3
          go_wp2
          generalize wr.alloc (.cells #[.string pn, .slice Ae pargs.length ce] 104) = W1 at *
          go_region_law
            (first
              | (go_simp; go_at_call 178; refine HC.out.mono ?_; rintro e w2 ⟨A8, c8, key8, bx8, rfl, h81, h82, h83, hb8⟩; have HK2 := Lib.hid ((Below.refl W1.heap.size W1).drew.trans hb8); replace s0 := cell_later HK2.out s0; have H8 := Lib.hid (HK9.out _ _ _ _ _ h81 h82 h83); clear h81 h82 h83 hb8))
          all_goals
            have HB3 := Lib.hid (HB2.out.trans (HK2.out.mono HB2.out.size))
            have q9 := (HX.out.1.keep (HB3.out.block _ hsk)).io
            have H4 := Lib.hid ((H3.out.below HA2.out).below HK2.out)
            have hl1 : (idxs fs key8).length ≤ 1000000 := Nat.le_trans (idxs_len _ _) hfl
            have hl2 : (idxs fs key).length ≤ 1000000 := Nat.le_trans (idxs_len _ _) hfl
            clear s0 z0 z1 HC HK2 H3
            by_cases hc : (idxs fs key8).length < (idxs fs key).length
            · have hc' : ((idxs fs key8).length : Int) < ((idxs fs key).length : Int) := by omega
              go_wp2
              go_roundw
              case rel => exact ⟨k + 1, HLT.out, by go_num, HB3.out, .inr ⟨k, A8, c8, key8, bx8, rfl, rfl, H8.out⟩⟩
              case measure => have := HLT.out; simp [intOf]; omega
            · have hc' : ¬ ((idxs fs key8).length : Int) < ((idxs fs key).length : Int) := by omega
              go_wp2
              go_roundw
              case rel => exact ⟨k + 1, HLT.out, by go_num, HB3.out, .inr ⟨m, A9, c9, key, bx, rfl, rfl, H4.out⟩⟩
              case measure => have := HLT.out; simp [intOf]; omega
    · have he : k = ps.length := by omega
      subst he
      have hk1 : ¬ (ps.length : Int) < (ps.length : Int) := by omega
      rcases halt with ⟨rfl, rfl, h3⟩ | ⟨m, A9, c9, key, bx, rfl, rfl, h3⟩
      · obtain ⟨j, hj1, hj2⟩ := HX.out.2.2.2.2.2.2
        rw [h3 j hj1] at hj2
        cases hj2
      · have HP := Lib.hid (And.intro h3 hbel)
        clear h3 hbel
        go_wp2
        go_ret2
        exact ⟨m, A9, c9, key, rfl, ⟨bx, HP.out.1⟩, HP.out.2⟩

end Go.Proofs.YtjjfafgaphloaaaGreatDoor
