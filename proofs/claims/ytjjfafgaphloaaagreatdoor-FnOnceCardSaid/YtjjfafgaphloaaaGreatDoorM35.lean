/- Of the proof of FnOnce: DrawRs. -/
import Derived.Test.YtjjfafgaphloaaaGreatDoorM31
namespace Go.Proofs.YtjjfafgaphloaaaGreatDoor
open Go.RowKit D
set_option linter.unusedVariables false
attribute [local go_sem ↓] Go.wp_at_zero Go.wp_at_succ
theorem D.ats_edge (n x y : ByteArray) (hn : Sm n) (hx : Sm x) (hy : Sm y) : AtS (edge n x y) := ⟨hn, by simp [edge], fun t ht => by
  simp only [edge, List.mem_cons, List.not_mem_nil, or_false] at ht
  rcases ht with rfl | rfl
  · exact hx
  · exact hy⟩

set_option maxRecDepth 100000 in
set_option maxHeartbeats 4000000 in
theorem l10Rules_any (g p : Nat) (w : World) (h : Rdr g p w) (hp : p ≤ 500000) :
    Calls Tryz.prog 53 #[.pointer (some ⟨g, 0, none⟩)] w (RulesD 5 g p 100 w) := by
  obtain ⟨i0, hi, hz0, hz1, hz2⟩ := info_parts infoRuleD
  have hg := h.lt
  have HF := Lib.hid (RsInv.start hg h)
  have hpk := pick_any g p 2 _ HF.out.rdr (by omega) (by omega) (by omega)
  have HP := Lib.hid hp
  clear h hp
  go_enter Tryz.func53, Tryz.ntmps53
  go_wp2_with fail
  refine hpk.mono ?_
  rintro e w1 ⟨m, rfl, hm, hR1, hG1⟩
  have HF1 := Lib.hid (HF.out.call hR1 (KeptBut.of_grown hG1))
  clear hpk hR1 hG1 HF hm
  go_upto_if 11 with fail
  go_cut [3] from 8 to 102 (fun v wx => ∃ (xs : List Ru) (Av : Option Addr) (cp : Nat), v = .slice Av xs.length cp ∧ xs.length ≤ 2 ∧ RsInv g (p + 1) w xs (.slice Av xs.length cp) wx)
  case first =>
    by_cases hz : m = 0
    · subst hz
      go_wp2_with fail
      refine (l10Edge_any ⟨#[116]⟩ ⟨#[88]⟩ ⟨#[89]⟩ _ (by decide) (by decide) (by decide)).mono ?_
      rintro e w2 ⟨hb2, hs2, b2, rfl, hat2, hbe2⟩
      have hbe2' : w1.heap.size ≤ b2 := by omega
      clear hbe2 hs2
      have T2 : Below w1.heap.size w1 w2 := hb2
      go_wp2_with fail
      refine (l10Edge_any ⟨#[101]⟩ ⟨#[88]⟩ ⟨#[89]⟩ _ (by decide) (by decide) (by decide)).mono ?_
      rintro e w3 ⟨hb3, hs3, b3, rfl, hat3, hbe3⟩
      have hbe3' : w2.heap.size ≤ b3 := by omega
      clear hbe3 hs3
      have T3 : Below w1.heap.size w1 w3 := T2.trans (hb3.mono T2.size)
      replace hat2 := atomK_good.below hat2 hb3
      have hA3 : Below w3.heap.size w3 (w3.alloc (.cells #[.bool false, .string ⟨#[101]⟩, .slice (some ⟨b3, 0, none⟩) 2 2] 148)) := (Below.refl _ _).alloc (Nat.le_refl _) _
      have hbd3 := parts_one (heap_alloc_new w3 (.cells #[.bool false, .string ⟨#[101]⟩, .slice (some ⟨b3, 0, none⟩) 2 2] 148)) (atomK_good.below hat3 hA3)
      have hhd3 := atomK_good.below hat2 hA3
      have hru3 : ruleK (w3.alloc (.cells #[.bool false, .string ⟨#[101]⟩, .slice (some ⟨b3, 0, none⟩) 2 2] 148)) [.string ⟨#[116]⟩, .slice (some ⟨b2, 0, none⟩) 2 2, .slice (some ⟨w3.heap.size, 0, none⟩) 1 1] (⟨edge ⟨#[116]⟩ ⟨#[88]⟩ ⟨#[89]⟩, [⟨false, edge ⟨#[101]⟩ ⟨#[88]⟩ ⟨#[89]⟩⟩]⟩ : Ru) ([b2] ++ (w3.heap.size :: [b3])) := ⟨_, _, _, _, rfl, by decide, rfl, atom_args hhd3, hbd3⟩
      obtain ⟨L3, bs3, hC3, hbb3, hR3, hL3, hO3, hB3, hS3⟩ := HF1.out.arm (T3.trans (hA3.mono T3.size)) hru3 (by
        intro b hb
        have hz := T3.size
        have := T2.size
        have := HF1.out.kept.size
        simp only [List.cons_append, List.nil_append, List.mem_cons, List.not_mem_nil, or_false] at hb
        rcases hb with rfl | rfl | rfl <;> omega)
      rw [World.size_alloc] at hL3
      have HY3 := Lib.hid (And.intro hC3 (And.intro hbb3 (And.intro hR3 (And.intro hL3 (And.intro hO3 (And.intro hB3 hS3))))))
      have HRU3 : Hid (RuS (⟨edge ⟨#[116]⟩ ⟨#[88]⟩ ⟨#[89]⟩, [⟨false, edge ⟨#[101]⟩ ⟨#[88]⟩ ⟨#[89]⟩⟩]⟩ : Ru)) := Lib.hid ⟨ats_edge _ _ _ (by decide) (by decide) (by decide), by simp, fun x hx => by
        simp only [List.mem_cons, List.not_mem_nil, or_false] at hx
        rcases hx with rfl <;> exact ats_edge _ _ _ (by decide) (by decide) (by decide)⟩
      clear hb2 hat2 hbe2' T2 hb3 hat3 hbe3' T3 hA3 hbd3 hhd3 hru3 hC3 hbb3 hR3 hL3 hO3 hB3 hS3
      go_wp2_with (at_builtin; refine wpList_coll rfl _ _ _ rfl w.heap.size 53 i0 (.agg #[.string ⟨#[]⟩, .slice none 0 0, .slice none 0 0]) 3 64 Tryz.underlying23 hi hz0 hz1 hz2 rfl (by omega) ruleK_good (.slice (some ⟨w.heap.size, 0, none⟩) 0 0) 0 _ [] _ rfl HY3.out.1 rfl (some ⟨w3.heap.size + 1, 0, none⟩) 1 1 _ [(⟨edge ⟨#[116]⟩ ⟨#[88]⟩ ⟨#[89]⟩, [⟨false, edge ⟨#[101]⟩ ⟨#[88]⟩ ⟨#[89]⟩⟩]⟩ : Ru)] _ rfl HY3.out.2.2.1 rfl HY3.out.2.2.2.1 HY3.out.2.2.2.2.1 (by unfold maxLen; decide) (by decide) w1 w.heap.size HY3.out.2.2.2.2.2.1 (Nat.le_refl _) HY3.out.2.2.2.2.2.2 ?_; intro A4 cp4 w4 hC4 hB4 hS4 hG4)
      have HF4 := Lib.hid (HF1.out.app hC4 HY3.out.2.1 hB4 HRU3.out)
      clear hC4 hB4 hS4 hG4 HY3
      go_wp2_with fail
      refine (l10Edge_any ⟨#[116]⟩ ⟨#[88]⟩ ⟨#[90]⟩ _ (by decide) (by decide) (by decide)).mono ?_
      rintro e w5 ⟨hb5, hs5, b5, rfl, hat5, hbe5⟩
      have hbe5' : w4.heap.size ≤ b5 := by omega
      clear hbe5 hs5
      have T5 : Below w4.heap.size w4 w5 := hb5
      go_wp2_with fail
      refine (l10Edge_any ⟨#[116]⟩ ⟨#[88]⟩ ⟨#[89]⟩ _ (by decide) (by decide) (by decide)).mono ?_
      rintro e w6 ⟨hb6, hs6, b6, rfl, hat6, hbe6⟩
      have hbe6' : w5.heap.size ≤ b6 := by omega
      clear hbe6 hs6
      have T6 : Below w4.heap.size w4 w6 := T5.trans (hb6.mono T5.size)
      replace hat5 := atomK_good.below hat5 hb6
      go_wp2_with fail
      refine (l10Edge_any ⟨#[101]⟩ ⟨#[89]⟩ ⟨#[90]⟩ _ (by decide) (by decide) (by decide)).mono ?_
      rintro e w7 ⟨hb7, hs7, b7, rfl, hat7, hbe7⟩
      have hbe7' : w6.heap.size ≤ b7 := by omega
      clear hbe7 hs7
      have T7 : Below w4.heap.size w4 w7 := T6.trans (hb7.mono T6.size)
      replace hat5 := atomK_good.below hat5 hb7
      replace hat6 := atomK_good.below hat6 hb7
      have hA7 : Below w7.heap.size w7 (w7.alloc (.cells #[.bool false, .string ⟨#[116]⟩, .slice (some ⟨b6, 0, none⟩) 2 2, .bool false, .string ⟨#[101]⟩, .slice (some ⟨b7, 0, none⟩) 2 2] 148)) := (Below.refl _ _).alloc (Nat.le_refl _) _
      have hbd7 := parts_two (heap_alloc_new w7 (.cells #[.bool false, .string ⟨#[116]⟩, .slice (some ⟨b6, 0, none⟩) 2 2, .bool false, .string ⟨#[101]⟩, .slice (some ⟨b7, 0, none⟩) 2 2] 148)) (atomK_good.below hat6 hA7) (atomK_good.below hat7 hA7)
      have hhd7 := atomK_good.below hat5 hA7
      have hru7 : ruleK (w7.alloc (.cells #[.bool false, .string ⟨#[116]⟩, .slice (some ⟨b6, 0, none⟩) 2 2, .bool false, .string ⟨#[101]⟩, .slice (some ⟨b7, 0, none⟩) 2 2] 148)) [.string ⟨#[116]⟩, .slice (some ⟨b5, 0, none⟩) 2 2, .slice (some ⟨w7.heap.size, 0, none⟩) 2 2] (⟨edge ⟨#[116]⟩ ⟨#[88]⟩ ⟨#[90]⟩, [⟨false, edge ⟨#[116]⟩ ⟨#[88]⟩ ⟨#[89]⟩⟩, ⟨false, edge ⟨#[101]⟩ ⟨#[89]⟩ ⟨#[90]⟩⟩]⟩ : Ru) ([b5] ++ (w7.heap.size :: ([b6] ++ [b7]))) := ⟨_, _, _, _, rfl, by decide, rfl, atom_args hhd7, hbd7⟩
      obtain ⟨L7, bs7, hC7, hbb7, hR7, hL7, hO7, hB7, hS7⟩ := HF4.out.arm (T7.trans (hA7.mono T7.size)) hru7 (by
        intro b hb
        have hz := T7.size
        have := T5.size
        have := T6.size
        have := HF4.out.kept.size
        simp only [List.cons_append, List.nil_append, List.mem_cons, List.not_mem_nil, or_false] at hb
        rcases hb with rfl | rfl | rfl | rfl <;> omega)
      rw [World.size_alloc] at hL7
      have HY7 := Lib.hid (And.intro hC7 (And.intro hbb7 (And.intro hR7 (And.intro hL7 (And.intro hO7 (And.intro hB7 hS7))))))
      have HRU7 : Hid (RuS (⟨edge ⟨#[116]⟩ ⟨#[88]⟩ ⟨#[90]⟩, [⟨false, edge ⟨#[116]⟩ ⟨#[88]⟩ ⟨#[89]⟩⟩, ⟨false, edge ⟨#[101]⟩ ⟨#[89]⟩ ⟨#[90]⟩⟩]⟩ : Ru)) := Lib.hid ⟨ats_edge _ _ _ (by decide) (by decide) (by decide), by simp, fun x hx => by
        simp only [List.mem_cons, List.not_mem_nil, or_false] at hx
        rcases hx with rfl | rfl <;> exact ats_edge _ _ _ (by decide) (by decide) (by decide)⟩
      clear hb5 hat5 hbe5' T5 hb6 hat6 hbe6' T6 hb7 hat7 hbe7' T7 hA7 hbd7 hhd7 hru7 hC7 hbb7 hR7 hL7 hO7 hB7 hS7
      go_wp2_with (at_builtin; refine wpList_coll rfl _ _ _ rfl w.heap.size 53 i0 (.agg #[.string ⟨#[]⟩, .slice none 0 0, .slice none 0 0]) 3 64 Tryz.underlying23 hi hz0 hz1 hz2 rfl (by omega) ruleK_good (.slice A4 1 cp4) 1 _ [(⟨edge ⟨#[116]⟩ ⟨#[88]⟩ ⟨#[89]⟩, [⟨false, edge ⟨#[101]⟩ ⟨#[88]⟩ ⟨#[89]⟩⟩]⟩ : Ru)] _ rfl HY7.out.1 rfl (some ⟨w7.heap.size + 1, 0, none⟩) 1 1 _ [(⟨edge ⟨#[116]⟩ ⟨#[88]⟩ ⟨#[90]⟩, [⟨false, edge ⟨#[116]⟩ ⟨#[88]⟩ ⟨#[89]⟩⟩, ⟨false, edge ⟨#[101]⟩ ⟨#[89]⟩ ⟨#[90]⟩⟩]⟩ : Ru)] _ rfl HY7.out.2.2.1 rfl HY7.out.2.2.2.1 HY7.out.2.2.2.2.1 (by unfold maxLen; decide) (by decide) w4 w.heap.size HY7.out.2.2.2.2.2.1 (Nat.le_refl _) HY7.out.2.2.2.2.2.2 ?_; intro A8 cp8 w8 hC8 hB8 hS8 hG8)
      have HF8 := Lib.hid (HF4.out.app hC8 HY7.out.2.1 hB8 HRU7.out)
      clear hC8 hB8 hS8 hG8 HY7
      go_wp2
      go_meet
      case rel => exact ⟨[(⟨edge ⟨#[116]⟩ ⟨#[88]⟩ ⟨#[89]⟩, [⟨false, edge ⟨#[101]⟩ ⟨#[88]⟩ ⟨#[89]⟩⟩]⟩ : Ru)] ++ [(⟨edge ⟨#[116]⟩ ⟨#[88]⟩ ⟨#[90]⟩, [⟨false, edge ⟨#[116]⟩ ⟨#[88]⟩ ⟨#[89]⟩⟩, ⟨false, edge ⟨#[101]⟩ ⟨#[89]⟩ ⟨#[90]⟩⟩]⟩ : Ru)], A8, cp8, rfl, by simp, HF8.out⟩
    · have hz1 : ¬ (m : Int) = 0 := by omega
      go_wp2
      go_meet
      case rel => exact ⟨[], _, _, rfl, by simp, HF1.out⟩
  case rest =>
    obtain ⟨xs, Av, cp, rfl, hx2, hF⟩ := hcut
    have HF := Lib.hid hF
    have hpk := pick_any g (p + 1) 3 _ HF.out.rdr (by have := HP.out; omega) (by omega) (by omega)
    clear hF
    go_wp2_with fail
    refine hpk.mono ?_
    rintro e w5 ⟨m5, rfl, hm5, hR5, hG5⟩
    have HF5 := Lib.hid (HF.out.call hR5 (KeptBut.of_grown hG5))
    have hx2i : (xs.length : Int) ≤ 2 := by omega
    clear hpk hR5 hG5 HF hm5
    go_upto_if 32 with fail
    go_cut [3] from 8 to 102 (fun v wx => ∃ (xs : List Ru) (Av : Option Addr) (cp q : Nat), v = .slice Av xs.length cp ∧ xs.length ≤ 3 ∧ q ≤ p + 3 ∧ RsInv g q w xs (.slice Av xs.length cp) wx)
    case first =>
      by_cases hz : m5 = 0
      · subst hz
        obtain ⟨wz, hwz⟩ : ∃ wz, wz = w5 := ⟨_, rfl⟩
        have hAB : Below wz.heap.size wz ((wz.alloc (.cells #[.bool true, .string ⟨#[88]⟩] 127)).alloc (.cells #[.bool true, .string ⟨#[88]⟩] 127)) := ((Below.refl _ _).alloc (Nat.le_refl _) _).alloc (by simp) _
        have HFA := Lib.hid ((show RsInv g (p + 1 + 1) w xs (.slice Av xs.length cp) wz from hwz ▸ HF5.out).below hAB)
        have HFZ := Lib.hid (show RsInv g (p + 1 + 1) w xs (.slice Av xs.length cp) wz from hwz ▸ HF5.out)
        have HTA : Hid (((wz.alloc (.cells #[.bool true, .string ⟨#[88]⟩] 127)).alloc (.cells #[.bool true, .string ⟨#[88]⟩] 127)).heap[wz.heap.size]? = some (.cells #[.bool true, .string ⟨#[88]⟩] 127 (0, 0))) := Lib.hid ((Below.heap_alloc _ _ _ (by simp)).trans (heap_alloc_new _ _))
        have HTB : Hid (((wz.alloc (.cells #[.bool true, .string ⟨#[88]⟩] 127)).alloc (.cells #[.bool true, .string ⟨#[88]⟩] 127)).heap[wz.heap.size + 1]? = some (.cells #[.bool true, .string ⟨#[88]⟩] 127 (0, 0))) := Lib.hid (by simpa using heap_alloc_new (wz.alloc (.cells #[.bool true, .string ⟨#[88]⟩] 127)) (.cells #[.bool true, .string ⟨#[88]⟩] 127))
        have hof := of_lit g (p + 1 + 1) [⟨#[113]⟩, ⟨#[115]⟩] 2 ((wz.alloc (.cells #[.bool true, .string ⟨#[88]⟩] 127)).alloc (.cells #[.bool true, .string ⟨#[88]⟩] 127)) HFA.out.rdr (by have := HP.out; omega) rfl (by decide) (by decide) (by decide)
        simp only [World.size_alloc] at hof
        rw [← hwz]
        clear hAB hwz HF5
        go_wp2_with fail
        refine hof.mono ?_
        rintro e w6 ⟨s, rfl, hs, hR6, hK6⟩
        have hgz : g < wz.heap.size := by have := HFZ.out.kept.size; omega
        have hTA := hK6.blk HTA.out (by simp; omega)
        have hTB := hK6.blk HTB.out (by simp; omega)
        have HF6 := Lib.hid (HFA.out.call hR6 hK6)
        have hz6 : wz.heap.size + 2 ≤ w6.heap.size := by have := hK6.size; simpa using this
        have hAC : Below w6.heap.size w6 ((w6.alloc (.cells #[.bool true, .string ⟨#[88]⟩] 127)).alloc (.cells #[.bool false, .string ⟨#[112]⟩, .slice (some ⟨wz.heap.size + 1, 0, none⟩) 1 1, .bool true, .string s, .slice (some ⟨w6.heap.size, 0, none⟩) 1 1] 148)) := ((Below.refl _ _).alloc (Nat.le_refl _) _).alloc (by simp) _
        have hAC1 : Below w6.heap.size w6 (w6.alloc (.cells #[.bool true, .string ⟨#[88]⟩] 127)) := (Below.refl _ _).alloc (Nat.le_refl _) _
        have hAC2 : Below (w6.alloc (.cells #[.bool true, .string ⟨#[88]⟩] 127)).heap.size (w6.alloc (.cells #[.bool true, .string ⟨#[88]⟩] 127)) ((w6.alloc (.cells #[.bool true, .string ⟨#[88]⟩] 127)).alloc (.cells #[.bool false, .string ⟨#[112]⟩, .slice (some ⟨wz.heap.size + 1, 0, none⟩) 1 1, .bool true, .string s, .slice (some ⟨w6.heap.size, 0, none⟩) 1 1] 148)) := (Below.refl _ _).alloc (Nat.le_refl _) _
        have tA := termsK_good.below (terms_one hTA (by decide)) hAC
        have tB := termsK_good.below (terms_one hTB (by decide)) hAC
        have tC := termsK_good.below (terms_one (heap_alloc_new w6 (.cells #[.bool true, .string ⟨#[88]⟩] 127)) (by decide)) hAC2
        have hbd := parts_two (heap_alloc_new (w6.alloc (.cells #[.bool true, .string ⟨#[88]⟩] 127)) (.cells #[.bool false, .string ⟨#[112]⟩, .slice (some ⟨wz.heap.size + 1, 0, none⟩) 1 1, .bool true, .string s, .slice (some ⟨w6.heap.size, 0, none⟩) 1 1] 148)) (show atomK _ [.string ⟨#[112]⟩, _] ⟨⟨#[112]⟩, [⟨true, ⟨#[88]⟩⟩]⟩ _ from ⟨_, rfl, (show (⟨#[112]⟩ : ByteArray).size ≤ maxLen from by decide), tB⟩) (show atomK _ [.string s, _] ⟨s, [⟨true, ⟨#[88]⟩⟩]⟩ _ from ⟨_, rfl, Sm.max hs, tC⟩)
        rw [World.size_alloc] at hbd
        have hru : ruleK ((w6.alloc (.cells #[.bool true, .string ⟨#[88]⟩] 127)).alloc (.cells #[.bool false, .string ⟨#[112]⟩, .slice (some ⟨wz.heap.size + 1, 0, none⟩) 1 1, .bool true, .string s, .slice (some ⟨w6.heap.size, 0, none⟩) 1 1] 148)) [.string ⟨#[114]⟩, .slice (some ⟨wz.heap.size, 0, none⟩) 1 1, .slice (some ⟨w6.heap.size + 1, 0, none⟩) 2 2] (⟨⟨⟨#[114]⟩, [⟨true, ⟨#[88]⟩⟩]⟩, [⟨false, ⟨⟨#[112]⟩, [⟨true, ⟨#[88]⟩⟩]⟩⟩, ⟨true, ⟨s, [⟨true, ⟨#[88]⟩⟩]⟩⟩]⟩ : Ru) ([wz.heap.size] ++ ((w6.heap.size + 1) :: ([wz.heap.size + 1] ++ [w6.heap.size]))) :=
          ⟨_, _, _, _, rfl, (show (⟨#[114]⟩ : ByteArray).size ≤ maxLen from by decide), rfl, tA, hbd⟩
        have hws : w.heap.size ≤ wz.heap.size := HFZ.out.kept.size
        obtain ⟨L7, bs7, hC7, hbb7, hR7, hL7, hO7, hB7, hS7⟩ := HF6.out.arm2 hAC hru (by
          intro b hb
          simp only [List.cons_append, List.nil_append, List.mem_cons, List.not_mem_nil, or_false] at hb
          rcases hb with rfl | rfl | rfl | rfl
          · exact ⟨by omega, HFZ.out.far (Nat.le_refl _)⟩
          · exact ⟨by omega, HF6.out.far (by omega)⟩
          · exact ⟨by omega, HFZ.out.far (by omega)⟩
          · exact ⟨by omega, HF6.out.far (by omega)⟩)
        simp only [World.size_alloc] at hL7
        have HY := Lib.hid (And.intro hC7 (And.intro hbb7 (And.intro hR7 (And.intro hL7 (And.intro hO7 (And.intro hB7 hS7))))))
        have HRU : Hid (RuS (⟨⟨⟨#[114]⟩, [⟨true, ⟨#[88]⟩⟩]⟩, [⟨false, ⟨⟨#[112]⟩, [⟨true, ⟨#[88]⟩⟩]⟩⟩, ⟨true, ⟨s, [⟨true, ⟨#[88]⟩⟩]⟩⟩]⟩ : Ru)) := Lib.hid ⟨⟨(show Sm ⟨#[114]⟩ from by decide), by simp, fun t ht => by
          simp only [List.mem_cons, List.not_mem_nil, or_false] at ht; subst ht; decide⟩, by simp, fun x hx => by
          simp only [List.mem_cons, List.not_mem_nil, or_false] at hx
          rcases hx with rfl | rfl
          · exact ⟨by decide, by simp, fun t ht => by simp only [List.mem_cons, List.not_mem_nil, or_false] at ht; subst ht; decide⟩
          · exact ⟨hs, by simp, fun t ht => by simp only [List.mem_cons, List.not_mem_nil, or_false] at ht; subst ht; decide⟩⟩
        have HK9 : Hid (xs.length + 1 ≤ maxLen ∧ (xs.length + 1) * 64 ≤ 140737488355328) := Lib.hid (by unfold maxLen; omega)
        clear hof hs hR6 hK6 hTA hTB hAC hAC1 hAC2 tA tB tC hbd hru hC7 hbb7 hR7 hL7 hO7 hB7 hS7 HTA HTB HFZ HFA
        go_wp2_with (at_builtin; refine wpList_coll rfl _ _ _ rfl w.heap.size 53 i0 (.agg #[.string ⟨#[]⟩, .slice none 0 0, .slice none 0 0]) 3 64 Tryz.underlying23 hi hz0 hz1 hz2 rfl (by omega) ruleK_good (.slice Av xs.length cp) xs.length _ xs _ rfl HY.out.1 rfl (some ⟨w6.heap.size + 1 + 1, 0, none⟩) 1 1 _ [(⟨⟨⟨#[114]⟩, [⟨true, ⟨#[88]⟩⟩]⟩, [⟨false, ⟨⟨#[112]⟩, [⟨true, ⟨#[88]⟩⟩]⟩⟩, ⟨true, ⟨s, [⟨true, ⟨#[88]⟩⟩]⟩⟩]⟩ : Ru)] _ rfl HY.out.2.2.1 rfl HY.out.2.2.2.1 HY.out.2.2.2.2.1 HK9.out.1 HK9.out.2 w6 w.heap.size HY.out.2.2.2.2.2.1 (Nat.le_refl _) HY.out.2.2.2.2.2.2 ?_; intro A8 cp8 w8 hC8 hB8 hS8 hG8)
        have HF8 := Lib.hid (HF6.out.app hC8 HY.out.2.1 hB8 HRU.out)
        clear hC8 hB8 hS8 hG8 HY
        go_wp2
        go_meet
        case rel => exact ⟨xs ++ [(⟨⟨⟨#[114]⟩, [⟨true, ⟨#[88]⟩⟩]⟩, [⟨false, ⟨⟨#[112]⟩, [⟨true, ⟨#[88]⟩⟩]⟩⟩, ⟨true, ⟨s, [⟨true, ⟨#[88]⟩⟩]⟩⟩]⟩ : Ru)], A8, cp8, p + 1 + 1 + 1, by simp, by simp; omega, by omega, by rw [List.length_append]; exact HF8.out⟩
      · have hz1 : ¬ (m5 : Int) = 0 := by omega
        go_wp2
        go_meet
        case rel => exact ⟨xs, Av, cp, _, rfl, by omega, by omega, HF5.out⟩
    case rest =>
      clear hx2 hx2i HF5
      obtain ⟨xs, Av, cp, q, rfl, hx3, hq, hF⟩ := hcut
      have HF6 := Lib.hid hF
      have hpk := pick_any g q 3 _ HF6.out.rdr (by have := HP.out; omega) (by omega) (by omega)
      clear hF
      go_wp2_with fail
      refine hpk.mono ?_
      rintro e w7 ⟨n0, rfl, hn0, hR7, hG7⟩
      have HF7 := Lib.hid (HF6.out.call hR7 (KeptBut.of_grown hG7))
      have HS7 : Hid (xs.length + n0 ≤ 5 ∧ n0 ≤ 2 ∧ q + 1 + 40 * n0 ≤ p + 90) := Lib.hid (by omega)
      have hn3 : (n0 : Int) < 3 := hn0
      clear hpk hR7 hG7 HF6 hn0 hx3 hq
      go_wp2
      go_loopw [3, 4] (fun v i wr => ∃ (k : Nat) (xs : List Ru) (Av : Option Addr) (cp q : Nat), i = .int .i64 k ∧ v = .slice Av xs.length cp ∧ xs.length + k ≤ 5 ∧ k ≤ 2 ∧ q + 40 * k ≤ p + 90 ∧ RsInv g q w xs (.slice Av xs.length cp) wr) (fun _ i _ => (intOf i).toNat)
      case atStart => exact ⟨n0, xs, _, _, q + 1, rfl, rfl, HS7.out.1, HS7.out.2.1, HS7.out.2.2, HF7.out⟩
      case round =>
        obtain ⟨k, xs, Av, cp, q, rfl, rfl, hx5, hk2, hq, hF⟩ := hrel
        have HF := Lib.hid hF
        have HS : Hid (xs.length + k ≤ 5 ∧ k ≤ 2 ∧ q + 40 * k ≤ p + 90 ∧ q ≤ 600000) := Lib.hid ⟨hx5, hk2, hq, by have := HP.out; omega⟩
        clear hF HF7 HS7 hx5 hk2 hq hn3
        by_cases hk0 : 0 < k
        · have hki : (0 : Int) < (k : Int) := by omega
          have hk3 : (k : Int) ≤ 2 := by have := HS.out.2.1; omega
          have HK := Lib.hid hk0
          have hof := of_lit g q [⟨#[113]⟩, ⟨#[115]⟩, ⟨#[114]⟩, ⟨#[117]⟩, ⟨#[116]⟩] 5 wr HF.out.rdr (by have := HS.out; omega) rfl (by decide) (by decide) (by decide)
          clear hk0
          go_wp2_with fail
          refine hof.mono ?_
          rintro e w1 ⟨s, rfl, hs, hR1, hK1⟩
          have HF1 := Lib.hid (HF.out.call hR1 hK1)
          have hat := l10Atom_s s true g (q + 1) w1 hR1 (by have := HS.out; omega) hs
          clear hof hs hR1 hK1
          go_wp2_with fail
          refine hat.mono ?_
          rintro e w2 ⟨a, v2, L2, q2, rfl, hs2, hl2, hC2, hR2, hq2, hK2, hsm2⟩
          obtain ⟨A2, c2, rfl⟩ := own_shape hC2.own
          have HF2 := Lib.hid (HF1.out.call hR2 hK2)
          have hA2 : Below w2.heap.size w2 (w2.alloc (.cells #[.string ⟨#[101]⟩, .string ⟨#[112]⟩, .string ⟨#[101]⟩, .string ⟨#[116]⟩, .string ⟨#[113]⟩, .string ⟨#[104]⟩, .string ⟨#[122]⟩, .string ⟨#[115]⟩] 9)) := (Below.refl _ _).alloc (Nat.le_refl _) _
          obtain ⟨b2, hsl2, hfar2⟩ := (hC2.below termK_good hA2).slice
          have hat2 : atomK (w2.alloc (.cells #[.string ⟨#[101]⟩, .string ⟨#[112]⟩, .string ⟨#[101]⟩, .string ⟨#[116]⟩, .string ⟨#[113]⟩, .string ⟨#[104]⟩, .string ⟨#[122]⟩, .string ⟨#[115]⟩] 9)) [.string a.name, .slice A2 a.args.length c2] a b2 := ⟨_, rfl, Sm.max hs2, hsl2⟩
          have HB2 : Hid (∀ b ∈ b2, w.heap.size ≤ b) := Lib.hid fun b hb => Nat.le_trans HF1.out.kept.size ((hfar2 b hb).resolve_right (by simp))
          have hga2 : g ∉ b2 := fun hg => by have := HB2.out g hg; have := HF2.out.glt; omega
          have HA2 : Hid (AtS a ∧ q2 ≤ q + 7) := Lib.hid ⟨⟨hs2, by omega, hsm2⟩, by omega⟩
          have hbo := l10Body_any g q2 [⟨#[101]⟩, ⟨#[112]⟩, ⟨#[101]⟩, ⟨#[116]⟩, ⟨#[113]⟩, ⟨#[104]⟩, ⟨#[122]⟩, ⟨#[115]⟩] 8 w2.heap.size _ (hR2.below hA2) (heap_alloc_new w2 _) (Nat.ne_of_lt hR2.lt) (by have := HS.out; have := HA2.out.2; omega) rfl (by decide) (by decide) (by decide)
          have HFb := Lib.hid (HF2.out.below hA2)
          have HBw : Hid (w.heap.size ≤ (w2.alloc (.cells #[.string ⟨#[101]⟩, .string ⟨#[112]⟩, .string ⟨#[101]⟩, .string ⟨#[116]⟩, .string ⟨#[113]⟩, .string ⟨#[104]⟩, .string ⟨#[122]⟩, .string ⟨#[115]⟩] 9)).heap.size) := Lib.hid HFb.out.kept.size
          have HT2 := Lib.hid (And.intro hat2 hga2)
          clear hat hs2 hl2 hC2 hR2 hq2 hK2 hsm2 hA2 hsl2 hfar2 hat2 hga2 HF2 HF1
          go_wp2_with fail
          refine hbo.mono ?_
          rintro e w3 ⟨ys, v3, q3, rfl, hy1, hy3, hq3, hbd⟩
          obtain ⟨A3, c3, rfl⟩ := hbd.shape
          have HX3 := Lib.hid (RxInv.start HT2.out.1 HT2.out.2 hbd)
          have HQ3 : Hid (q3 ≤ q + 32 ∧ ys.length ≤ 3) := Lib.hid ⟨by have := HA2.out.2; omega, hy3⟩
          have hpk := pick_any g q3 8 _ HX3.out.bd.rdr (by have := HS.out; have := HQ3.out; omega) (by omega) (by omega)
          clear hbo hy1 hy3 hq3 hbd HT2
          go_wp2_with fail
          refine hpk.mono ?_
          rintro e w4 ⟨m8, rfl, hm8, hR4, hG4⟩
          have HX4 := Lib.hid (HX3.out.call hR4 (KeptBut.of_grown hG4))
          clear hpk hm8 hR4 hG4 HX3
          generalize (w2.alloc (.cells #[.string ⟨#[101]⟩, .string ⟨#[112]⟩, .string ⟨#[101]⟩, .string ⟨#[116]⟩, .string ⟨#[113]⟩, .string ⟨#[104]⟩, .string ⟨#[122]⟩, .string ⟨#[115]⟩] 9)) = wb at *
          go_upto_if 70 with fail
          go_cut [] from 54 to 101 (fun wx => ∃ (zs : List Pt) (A4 : Option Addr) (c4 : Nat), zs.length ≤ 3 ∧ RxInv g (q3 + 1) w3.heap.size wb a A2 c2 b2 zs A4 c4 wx)
          case first =>
            by_cases hm : m8 = 0
            · subst hm
              have HX5 := Lib.hid HX4.out.bare
              have f2 := HX4.out.froz 2
              have q2 := HX4.out.cell.2.2
              have n4 : w3.heap.size < w4.heap.size := lt_of_block HX4.out.box
              go_wp2
              go_meet
              case rel => exact ⟨[], _, _, by simp, HX5.out⟩
            · have hm1 : ¬ (m8 : Int) = 0 := by omega
              go_wp2
              go_meet
              case rel => exact ⟨ys, _, _, HQ3.out.2, HX4.out⟩
          case rest =>
            clear HX4
            obtain ⟨zs, A4, c4, hz3, hX⟩ := hcut
            have HX := Lib.hid hX
            have HZ3 := Lib.hid hz3
            have zc := hX.cell
            obtain ⟨z0, z1, z2⟩ := zc
            obtain ⟨br, hru, hbr⟩ := hX.rule HB2.out HBw.out
            have hti := l2Tight_any ⟨a, zs⟩ _ _ _ br _ hru (Nat.le_trans (sumL_const _ 4 zs fun x hx => (hX.bd.small x hx).2.1) (by omega)) (Nat.le_trans HA2.out.1.2.1 (by omega))
            clear hX hz3 hru hbr
            go_wp2_with fail
            refine hti.mono ?_
            rintro e w5 ⟨he, hb5⟩
            replace he : e = .returned (.bool (tightB a zs)) := he
            subst he
            have HX5 := Lib.hid (HX.out.below hb5)
            clear hti hb5 z0 z1 z2 HX
            generalize tightB a zs = tb
            go_upto_if 75 with fail
            go_cut [] from 54 to 101 (fun wx => ∃ (zs : List Pt) (A4 : Option Addr) (c4 : Nat), zs.length ≤ 4 ∧ RxInv g (q3 + 1) w3.heap.size wb a A2 c2 b2 zs A4 c4 wx)
            case first =>
              cases tb
              case true =>
                go_wp2
                go_meet
                case rel => exact ⟨zs, _, _, by have := HZ3.out; omega, HX5.out⟩
              case false =>
                obtain ⟨p0, hp, hp0, hp1, hp2⟩ := info_parts infoPartD
                have hT1 : Below w5.heap.size w5 (w5.alloc (.cells #[.bool true, .string ⟨#[88]⟩, .bool true, .string ⟨#[89]⟩, .bool true, .string ⟨#[90]⟩] 127)) := (Below.refl _ _).alloc (Nat.le_refl _) _
                have hX6 := HX5.out.below hT1
                have hta := terms_three (heap_alloc_new w5 (.cells #[.bool true, .string ⟨#[88]⟩, .bool true, .string ⟨#[89]⟩, .bool true, .string ⟨#[90]⟩] 127)) (by decide) (by decide) (by decide)
                obtain ⟨L7, bs7, hC7, hbb7, hR7, hL7, hO7, hB7⟩ := hX6.bd.part (a := (⟨⟨#[104]⟩, [⟨true, ⟨#[88]⟩⟩, ⟨true, ⟨#[89]⟩⟩, ⟨true, ⟨#[90]⟩⟩]⟩ : A)) HX5.out.bd rfl ⟨_, rfl, (show (⟨#[104]⟩ : ByteArray).size ≤ maxLen from by decide), hta⟩ (fun b hb => by simp at hb; omega) false
                have HY := Lib.hid (And.intro hC7 (And.intro hbb7 (And.intro hR7 (And.intro hL7 (And.intro hO7 (And.intro hB7 (Nat.le_trans hX6.bd.kept.size hB7.size)))))))
                simp only [World.size_alloc] at HY
                have hA2b : Below w5.heap.size w5 ((w5.alloc (.cells #[.bool true, .string ⟨#[88]⟩, .bool true, .string ⟨#[89]⟩, .bool true, .string ⟨#[90]⟩] 127)).alloc (.cells #[.bool false, .string ⟨#[104]⟩, .slice (some ⟨w5.heap.size, 0, none⟩) 3 3] 148)) := hT1.trans ((Below.refl _ _).alloc (by simp) _)
                have HAB := Lib.hid hA2b
                have HPY : Hid (PtS ⟨false, (⟨⟨#[104]⟩, [⟨true, ⟨#[88]⟩⟩, ⟨true, ⟨#[89]⟩⟩, ⟨true, ⟨#[90]⟩⟩]⟩ : A)⟩) := Lib.hid ⟨by decide, by simp, fun t ht => by
                  simp only [List.mem_cons, List.not_mem_nil, or_false] at ht
                  rcases ht with rfl | rfl | rfl <;> decide⟩
                have H63 : Hid (zs.length + 1 ≤ maxLen ∧ (zs.length + 1) * 48 ≤ 140737488355328) := Lib.hid (by have := HZ3.out; unfold maxLen; omega)
                have f2 := HX5.out.froz 2
                have q2 := HX5.out.cell.2.2
                have n4 : w3.heap.size < w5.heap.size := lt_of_block HX5.out.box
                clear hT1 hX6 hta hC7 hbb7 hR7 hL7 hO7 hB7 hA2b
                go_wp2_with (at_builtin; refine wpList_coll rfl _ _ _ rfl wb.heap.size 148 p0 (.agg #[.bool false, .string ⟨#[]⟩, .slice none 0 0]) 3 48 Tryz.underlying51 hp hp0 hp1 hp2 rfl (by omega) partK_good (.slice A4 zs.length c4) zs.length L7 zs bs7 rfl HY.out.1 rfl (some ⟨w5.heap.size + 1, 0, none⟩) 1 1 _ [⟨false, (⟨⟨#[104]⟩, [⟨true, ⟨#[88]⟩⟩, ⟨true, ⟨#[89]⟩⟩, ⟨true, ⟨#[90]⟩⟩]⟩ : A)⟩] _ rfl HY.out.2.2.1 rfl HY.out.2.2.2.1 HY.out.2.2.2.2.1 H63.out.1 H63.out.2 w5 wb.heap.size (HAB.out.mono HX5.out.bd.kept.size) (Nat.le_refl _) (Nat.le_trans HX5.out.bd.kept.size HAB.out.size) ?_; intro A8 c8 w8 hC8 hB8 hS8 hG8; have HZ8 := Lib.hid (HX5.out.app HAB.out hC8 HY.out.2.1 hB8 hG8 HPY.out); have hk8 := HX5.out.keep HAB.out hG8; obtain ⟨_, q8, f8, n8⟩ := hk8; clear hC8 hB8 hS8 hG8)
                go_wp2
                go_meet
                case rel => exact ⟨zs ++ [⟨false, (⟨⟨#[104]⟩, [⟨true, ⟨#[88]⟩⟩, ⟨true, ⟨#[89]⟩⟩, ⟨true, ⟨#[90]⟩⟩]⟩ : A)⟩], A8, c8, by have := HZ3.out; simp; omega, HZ8.out⟩
            case rest =>
              clear HX5 HZ3
              obtain ⟨zs, A4, c4, hz4, hX⟩ := hcut
              have HX := Lib.hid hX
              have HZ4 := Lib.hid hz4
              have HFd := Lib.hid (HFb.out.call HX.out.bd.rdr HX.out.bd.kept)
              have HRu : Hid (RuS ⟨a, zs⟩) := Lib.hid ⟨HA2.out.1, Nat.le_trans hz4 (by decide), HX.out.bd.small⟩
              obtain ⟨br, hru, hbr⟩ := HX.out.rule HB2.out HBw.out
              have HBR := Lib.hid (And.intro hru hbr)
              have HL5 : Hid (xs.length ≤ 100) := Lib.hid (by have := HS.out.1; omega)
              have hn3w : w3.heap.size < wc.heap.size := lt_of_block HX.out.box
              have Ha : Hid (Below wc.heap.size wc (wc.alloc (.cells #[] 53)).drew ∧ (wc.alloc (.cells #[] 53)).drew.heap[wc.heap.size]? = some (.cells #[] 53 (0, 0))) := Lib.hid ⟨((Below.refl _ _).alloc (Nat.le_refl _) _).drew, heap_alloc_new wc _⟩
              have Hb : Hid (Below wc.heap.size wc ((wc.alloc (.cells #[] 53)).alloc (.cells #[.string a.name, .slice A2 a.args.length c2, .slice A4 zs.length c4] 53)).drew ∧ ((wc.alloc (.cells #[] 53)).alloc (.cells #[.string a.name, .slice A2 a.args.length c2, .slice A4 zs.length c4] 53)).drew.heap[wc.heap.size]? = some (.cells #[] 53 (0, 0)) ∧ ((wc.alloc (.cells #[] 53)).alloc (.cells #[.string a.name, .slice A2 a.args.length c2, .slice A4 zs.length c4] 53)).drew.heap[wc.heap.size + 1]? = some (.cells #[.string a.name, .slice A2 a.args.length c2, .slice A4 zs.length c4] 53 (0, 0))) := Lib.hid ⟨(((Below.refl _ _).alloc (Nat.le_refl _) _).alloc (by simp) _).drew, (heap_two wc _ _).1, (heap_two wc _ _).2⟩
              have Hc : Hid (Below wc.heap.size wc ((wc.alloc (.cells #[.string a.name, .slice A2 a.args.length c2, .slice A4 zs.length c4] 53)).alloc (.cells #[] 53)).drew ∧ ((wc.alloc (.cells #[.string a.name, .slice A2 a.args.length c2, .slice A4 zs.length c4] 53)).alloc (.cells #[] 53)).drew.heap[wc.heap.size + 1]? = some (.cells #[] 53 (0, 0)) ∧ ((wc.alloc (.cells #[.string a.name, .slice A2 a.args.length c2, .slice A4 zs.length c4] 53)).alloc (.cells #[] 53)).drew.heap[wc.heap.size]? = some (.cells #[.string a.name, .slice A2 a.args.length c2, .slice A4 zs.length c4] 53 (0, 0))) := Lib.hid ⟨(((Below.refl _ _).alloc (Nat.le_refl _) _).alloc (by simp) _).drew, (heap_two wc _ _).2, (heap_two wc _ _).1⟩
              obtain ⟨z0, z1, z2⟩ := HX.out.cell
              clear hX hz4 hru hbr
              go_upto_region 17 with fail
              go_cut [7] from 54 to 101 (fun v7 wx => ∃ (A5 : Option Addr) (c5 : Nat), v7 = .slice A5 (xs.length + 1) c5 ∧ RsInv g (q3 + 1) w (xs ++ [⟨a, zs⟩]) (.slice A5 (xs.length + 1) c5) wx ∧ RsInv g (q3 + 1) w xs (.slice Av xs.length cp) wx)
              case first =>
                go_wp2
                go_region_law
                  (first
                    | (refine step_rs1 hi hz0 hz1 hz2 (by rfl) (.tmp 87) (.tmp 88) (by rfl) wc.heap.size (by rfl) (by with_reducible exact Ha.out.2) (Nat.le_refl _) HFd.out (by rfl) rfl (by with_reducible exact Ha.out.1) HL5.out ?_; intro A9 c9 w9 hC9 hB9 hG9; obtain ⟨L9, bs9, hC9, hbb9⟩ := hC9; have HC9 := Lib.hid (And.intro (hC9.below ruleK_good ((Below.refl _ _).alloc (Nat.le_refl _) (.cells #[.string a.name, .slice A2 a.args.length c2, .slice A4 zs.length c4] 53))) (And.intro (heap_alloc_new w9 (.cells #[.string a.name, .slice A2 a.args.length c2, .slice A4 zs.length c4] 53)) (hB9.alloc hB9.size (.cells #[.string a.name, .slice A2 a.args.length c2, .slice A4 zs.length c4] 53)))); obtain ⟨z0, z1, z2⟩ := (HX.out.below hB9).cell; have HBB := Lib.hid hbb9; clear hC9 hB9 hG9 hbb9 Ha Hb Hc)
                    | (refine step_rs1 hi hz0 hz1 hz2 (by rfl) (.tmp 87) (.tmp 88) (by rfl) wc.heap.size (by rfl) (by with_reducible exact Hb.out.2.1) (Nat.le_refl _) HFd.out (by rfl) rfl (by with_reducible exact Hb.out.1) HL5.out ?_; intro A9 c9 w9 hC9 hB9 hG9; obtain ⟨L9, bs9, hC9, hbb9⟩ := hC9; have HC9 := Lib.hid (And.intro hC9 (And.intro ((hG9.block (wc.heap.size + 1) (by simp) (by simp)).trans Hb.out.2.2) hB9)); obtain ⟨z0, z1, z2⟩ := (HX.out.below hB9).cell; have HBB := Lib.hid hbb9; clear hC9 hB9 hG9 hbb9 Ha Hb Hc)
                    | (refine step_rs1 hi hz0 hz1 hz2 (by rfl) (.tmp 87) (.tmp 88) (by rfl) (wc.heap.size + 1) (by rfl) (by with_reducible exact Hc.out.2.1) (Nat.le_succ _) HFd.out (by rfl) rfl (by with_reducible exact Hc.out.1) HL5.out ?_; intro A9 c9 w9 hC9 hB9 hG9; obtain ⟨L9, bs9, hC9, hbb9⟩ := hC9; have HC9 := Lib.hid (And.intro hC9 (And.intro ((hG9.block wc.heap.size (by simp; omega) (by simp)).trans Hc.out.2.2) hB9)); obtain ⟨z0, z1, z2⟩ := (HX.out.below hB9).cell; have HBB := Lib.hid hbb9; clear hC9 hB9 hG9 hbb9 Ha Hb Hc)
                    | (refine step_rs2 hi hz0 hz1 hz2 (by rfl) (.tmp 89) (.tmp 91) (by rfl) (by rfl) HC9.out.1 HBB.out HFd.out _ (by rfl) HC9.out.2.1 HBR.out.1 HBR.out.2 HRu.out rfl HC9.out.2.2 HL5.out ?_; intro A10 c10 w10 hR10 hB10; have HY := Lib.hid hR10; have HO := Lib.hid (HFd.out.below hB10); clear hR10 hB10 HC9 HBB z0 z1 z2))
                all_goals
                  go_wp2
                  go_meet
                  case rel => exact ⟨_, _, rfl, HY.out, HO.out⟩
              case rest =>
                clear HX HBR HFd HF HFb Ha Hb Hc z0 z1 z2
                obtain ⟨A5, c5, rfl, hY, hO⟩ := hcut
                have HY := Lib.hid hY
                have HO := Lib.hid hO
                obtain ⟨bq, hq, _⟩ := hY.rules
                have hpc := progCheck_spec _ _ bq _ hq
                clear hq hY hO
                generalize progC (xs ++ [⟨a, zs⟩]) = pc at *
                go_wp2_with fail
                refine hpc.mono ?_
                rintro e w11 ⟨rfl, hb11⟩
                have HY1 := Lib.hid (HY.out.below hb11)
                have HO1 := Lib.hid (HO.out.below hb11)
                clear hpc hb11 HY HO
                have HQ5 : Hid (q3 + 2 ≤ q + 40) := Lib.hid (by have := HQ3.out.1; omega)
                by_cases hc : (pc : Int) = 0
                · go_wp2
                  go_roundw
                  case rel => exact ⟨k - 1, xs ++ [⟨a, zs⟩], A5, c5, q3 + 1, by have := HK.out; first | (unfold wrap64; congr 1; omega) | go_num, by rw [List.length_append]; rfl, by rw [List.length_append]; have := HS.out; have := HK.out; simp; omega, by have := HS.out; omega, by have := HS.out; have := HK.out; have := HQ5.out; omega, by rw [List.length_append]; exact HY1.out⟩
                  case measure => have := HK.out; simp [intOf]; omega
                · have hpk := pick_any g (q3 + 1) 24 _ HO1.out.rdr (by have := HS.out; have := HQ3.out; omega) (by omega) (by omega)
                  go_wp2_with fail
                  refine hpk.mono ?_
                  rintro e w12 ⟨m24, rfl, hm24, hR12, hG12⟩
                  have HY2 := Lib.hid (HY1.out.call hR12 (KeptBut.of_grown hG12))
                  have HO2 := Lib.hid (HO1.out.call hR12 (KeptBut.of_grown hG12))
                  clear hpk hm24 hR12 hG12 HY1 HO1
                  by_cases hm : m24 = 0
                  · subst hm
                    go_wp2
                    go_roundw
                    case rel => exact ⟨k - 1, xs ++ [⟨a, zs⟩], A5, c5, q3 + 1 + 1, by have := HK.out; first | (unfold wrap64; congr 1; omega) | go_num, by rw [List.length_append]; rfl, by rw [List.length_append]; have := HS.out; have := HK.out; simp; omega, by have := HS.out; omega, by have := HS.out; have := HK.out; have := HQ5.out; omega, by rw [List.length_append]; exact HY2.out⟩
                    case measure => have := HK.out; simp [intOf]; omega
                  · have hm1 : ((m24 : Int) == 0) = false := by simp; omega
                    have hm2 : ((pc : Int) == 0) = false := by simp; omega
                    clear hc hm
                    go_wp2
                    go_roundw
                    case rel => exact ⟨k - 1, xs, Av, cp, q3 + 1 + 1, by have := HK.out; first | (unfold wrap64; congr 1; omega) | go_num, rfl, by have := HS.out; omega, by have := HS.out; omega, by have := HS.out; have := HK.out; have := HQ5.out; omega, HO2.out⟩
                    case measure => have := HK.out; simp [intOf]; omega
        · obtain rfl : k = 0 := by omega
          clear hk0
          go_wp2
          go_ret
          exact ⟨xs, _, q, rfl, by have := HS.out; omega, by have := HS.out; omega, HF.out⟩

end Go.Proofs.YtjjfafgaphloaaaGreatDoor
