/- Of the proof of FnOnce: Draw5. -/
import Derived.Test.YtjjfafgaphloaaaGreatDoorM32
namespace Go.Proofs.YtjjfafgaphloaaaGreatDoor
open Go.RowKit D
set_option linter.unusedVariables false
attribute [local go_sem ↓] Go.wp_at_zero Go.wp_at_succ
theorem D.asc_last : ∀ {xs : List A} {a : A}, asc (xs ++ [a]) = true → ∀ x ∈ xs, cmpA x a < 0
  | [], _, _, x, hx => by simp at hx
  | y :: ys, a, h, x, hx => by
    rcases List.mem_cons.1 hx with rfl | hx
    · exact asc_head h a (by simp)
    · exact asc_last (xs := ys) (asc_tail h) x hx

theorem D.ins_last {xs : List A} {a : A} (h : asc (xs ++ [a]) = true) : insA xs a = xs ++ [a] := by
  have hl := asc_last h
  have h1 : hasB xs a = false := by
    unfold hasB
    rw [List.any_eq_false]
    intro x hx
    have := hl x hx
    simp; omega
  have h2 : pl xs a = xs.length := by
    unfold pl
    rw [List.countP_eq_length]
    intro x hx
    unfold lessA
    exact decide_eq_true (hl x hx)
  unfold insA
  rw [h1, h2]
  simp

def D.vd (d : Nat) : ByteArray := ⟨#[118, UInt8.ofNat (48 + d)]⟩

def D.eAt (j : Nat) : A := ⟨⟨#[101]⟩, [⟨false, vd (j / 6)⟩, ⟨false, vd (j % 6)⟩]⟩

def D.manyL (n : Nat) : List A := (List.range n).map eAt

theorem D.many_asc : asc (manyL 42) = true := by decide +kernel

theorem D.many_succ (n : Nat) : manyL (n + 1) = manyL n ++ [eAt n] := by unfold manyL; rw [List.range_succ, List.map_append]; rfl

theorem D.many_length (n : Nat) : (manyL n).length = n := by simp [manyL]

theorem D.many_pre : ∀ (d n : Nat), n + d = 42 → asc (manyL n) = true
  | 0, n, h => by have : n = 42 := by omega
                  rw [this]; exact many_asc
  | d + 1, n, h => by
    have := many_pre d (n + 1) (by omega)
    rw [many_succ] at this
    exact asc_left this

theorem D.many_le {n : Nat} (h : n ≤ 42) : asc (manyL n) = true := many_pre (42 - n) n (by omega)

theorem D.many_ins {n : Nat} (h : n < 42) : insA (manyL n) (eAt n) = manyL (n + 1) := by
  rw [many_succ]
  exact ins_last (by rw [← many_succ]; exact many_le h)

theorem D.many_small (n : Nat) : ∀ a ∈ manyL n, a.args.length ≤ 4 := by
  intro a ha
  unfold manyL at ha
  obtain ⟨j, _, rfl⟩ := List.mem_map.1 ha
  simp [eAt]

theorem convOneD (w : World) (n : Int) : (convert 22 9 (.slice (some ⟨w.heap.size, 0, none⟩) 1 1)).run Tryz.prog (w.alloc (.cells #[.int .u8 n] 5)) = .ok (.string (strOfNums [n])) (w.alloc (.cells #[.int .u8 n] 5)) :=
  run_convert_bytes_arg _ 22 5 Tryz.underlying22 Tryz.underlying5 w.heap.size 0 1 1 [n] rfl (fun i hi => by
    obtain rfl : i = 0 := by omega
    simp) 9 Tryz.underlying9

theorem two_lit (w : World) (s1 s2 : ByteArray) (h1 : s1.size ≤ 100) (h2 : s2.size ≤ 100) : ∃ bs, termsK (w.alloc (.cells #[.bool false, .string s1, .bool false, .string s2] 127)) [.slice (some ⟨w.heap.size, 0, none⟩) 2 2] [⟨false, s1⟩, ⟨false, s2⟩] bs ∧ ∀ c ∈ bs, w.heap.size ≤ c := by
  have m1 : s1.size ≤ maxLen := Nat.le_trans h1 (by decide)
  have m2 : s2.size ≤ maxLen := Nat.le_trans h2 (by decide)
  have h := ((Rowed.one_el (n := 2) (R := termK) (w := w.alloc (.cells #[.bool false, .string s1, .bool false, .string s2] 127)) termK_ones (cs := [.bool false, .string s1]) (x := ⟨false, s1⟩) (bs := []) ⟨rfl, m1, rfl⟩).append (Rowed.one_el (n := 2) (R := termK) termK_ones (cs := [.bool false, .string s2]) (x := ⟨false, s2⟩) (bs := []) ⟨rfl, m2, rfl⟩)).slice (World.ownsRow_lit (base := w.heap.size) (e := 127) w #[.bool false, .string s1, .bool false, .string s2] 2 (Nat.le_refl _) (by unfold maxLen; omega) rfl)
  obtain ⟨bs, h, h2⟩ := h
  exact ⟨bs, h, fun c hc => (h2 c hc).elim id (fun hc => by simp at hc)⟩

/-- Any drawn facts. -/
def AnyD (g p q : Nat) (w : World) (e : Ending) (w' : World) : Prop :=
  ∃ (xs : List A) (v : Value) (bs : List Nat) (p' : Nat), e = .returned v ∧ (atomsK w' [v] xs bs ∧ ∀ b ∈ bs, w.heap.size ≤ b) ∧ xs.length ≤ 50 ∧ (∀ a ∈ xs, a.args.length ≤ 4) ∧ Rdr g p' w' ∧ p' ≤ p + q ∧ KeptBut [g] w w'

set_option maxHeartbeats 1000000 in
theorem l1Dec_small (i : Nat) (w : World) (h : i < 7) : Calls Tryz.prog 96 #[.int .i64 i] w fun e w' => e = .returned (.string ⟨#[UInt8.ofNat (48 + i)]⟩) ∧ Below w.heap.size w w' := by
  have kc := convOneD
  have hi : i = 0 ∨ i = 1 ∨ i = 2 ∨ i = 3 ∨ i = 4 ∨ i = 5 ∨ i = 6 := by omega
  rcases hi with rfl | rfl | rfl | rfl | rfl | rfl | rfl
  all_goals
    go_enter Tryz.func96, Tryz.ntmps96
    go_wp2
    go_ret
    exact ⟨rfl, (Below.refl _ _).alloc (Nat.le_refl _) _⟩

set_option maxRecDepth 100000 in
set_option maxHeartbeats 4000000 in
theorem l10AnyFacts_any (g p : Nat) (w : World) (h : Rdr g p w) (hp : p ≤ 600000) :
    Calls Tryz.prog 52 #[.pointer (some ⟨g, 0, none⟩)] w (AnyD g p 200 w) := by
  obtain ⟨i0, hi, hz0, hz1, hz2⟩ := info_parts infoAtomD
  have hf := l10Facts_any g p 9 w h (by omega) (by omega) (by omega)
  have HPP := Lib.hid hp
  clear h hp
  go_enter Tryz.func52, Tryz.ntmps52
  go_wp2_with fail
  refine hf.mono ?_
  rintro e w1 ⟨xs, v, p1, rfl, hs, hx, hsm, hp1, hF⟩
  obtain ⟨Av, cv, rfl⟩ := hF.shape
  have HF := Lib.hid hF
  have HX : Hid (asc xs = true ∧ xs.length ≤ 9 ∧ (∀ a ∈ xs, a.args.length ≤ 3) ∧ p1 ≤ p + 72 ∧ p ≤ 600000) := Lib.hid ⟨hs, hx, hsm, by omega, HPP.out⟩
  have hpk := pick_any g p1 20 w1 hF.rdr (by have := HX.out; omega) (by omega) (by omega)
  have H63 : Hid (xs.length + 1 ≤ maxLen) := Lib.hid (by unfold maxLen; omega)
  have HBY : Hid ((xs.length + 1) * 40 ≤ 140737488355328) := Lib.hid (by omega)
  clear hf hF hs hx hsm hp1
  go_wp2_with fail
  refine hpk.mono ?_
  rintro e w2 ⟨j, rfl, hj, hR2, hG2⟩
  have HF2 := Lib.hid (HF.out.call hR2 (KeptBut.of_grown hG2))
  clear hpk hR2 hG2 HF
  by_cases hj0 : j = 0
  · subst hj0
    have hc := l10AnyAtom_any g (p1 + 1) w2 HF2.out.rdr (by have := HX.out; omega)
    go_wp2_with fail
    refine hc.mono ?_
    rintro e w3 ⟨a, v3, L3, p3, rfl, hs3, hx3, hC3, hR3, hp3, hK3⟩
    obtain ⟨b3, hsl, hfar⟩ := hC3.slice
    obtain ⟨A3, c3, rfl⟩ := own_shape hC3.own
    have HF3 := Lib.hid (HF2.out.call hR3 hK3)
    have HAT : Hid (atomK w3 [.string a.name, .slice A3 a.args.length c3] a b3) := Lib.hid ⟨_, rfl, Sm.max hs3, hsl⟩
    have HA3 : Hid (a.args.length ≤ 4 ∧ p3 ≤ p1 + 1 + 20) := Lib.hid (by omega)
    obtain ⟨LL, bb, hCC, hbb⟩ := HF3.out.coll
    have HBB := Lib.hid hbb
    have HFA : Hid (∀ c ∈ b3, w.heap.size ≤ c) := Lib.hid (fun c hc => Nat.le_trans HF2.out.kept.size ((hfar c hc).resolve_right (by simp)))
    clear hbb
    have HC := Lib.hid hCC
    have hA4 : Below w3.heap.size w3 (w3.alloc (.cells #[.string a.name, .slice A3 a.args.length c3] 33)) := (Below.refl _ _).alloc (Nat.le_refl _) _
    have HC2 := Lib.hid (hCC.below atomK_good hA4)
    have HR2 := Lib.hid (Rowed.one_el (n := 2) (R := atomK) atomK_ones (atomK_good.below HAT.out hA4))
    have HL2 := Lib.hid (lies_block (heap_alloc_new w3 (.cells #[.string a.name, .slice A3 a.args.length c3] 33)))
    have HFF : Hid (∀ c ∈ b3, (Value.slice Av xs.length cv).ownBlock ≠ some c) := Lib.hid (fun c hc => by obtain ⟨_, _, h2, _⟩ := HF2.out.coll; exact own_block_lt h2.own ((hfar c hc).resolve_right (by simp)))
    have HSZ : Hid (w.heap.size ≤ (w3.alloc (.cells #[.string a.name, .slice A3 a.args.length c3] 33)).heap.size) := Lib.hid (Nat.le_trans HF3.out.kept.size hA4.size)
    have HB4 := Lib.hid hA4
    clear hc hC3 hR3 hK3 hsl hs3 hx3 hp3 hCC hA4
    go_wp2_with (at_builtin; refine wpList_coll rfl _ _ _ rfl w.heap.size 33 i0 (.agg #[.string ⟨#[]⟩, .slice none 0 0]) 2 40 Tryz.underlying24 hi hz0 hz1 hz2 rfl (by omega) atomK_good (.slice Av xs.length cv) xs.length LL xs bb rfl HC2.out rfl (some ⟨w3.heap.size, 0, none⟩) 1 1 _ [a] b3 rfl HR2.out rfl HL2.out HFF.out H63.out HBY.out w3 w.heap.size (HB4.out.mono HF3.out.kept.size) (Nat.le_refl _) HSZ.out ?_; intro A4 c4 w4 hC4 hB4 hS4 hG4)
    obtain ⟨b5, hs5, hf5⟩ := hC4.slice
    have HD : Hid (AnyD g p 200 w (.returned (.slice A4 (xs.length + 1) c4)) w4) := Lib.hid ⟨xs ++ [a], _, b5, p3, rfl, ⟨hs5, fun c hc => (hf5 c hc).elim id (fun hc => (List.mem_append.1 hc).elim (HBB.out c) (HFA.out c))⟩, by have := HX.out; simp; omega, fun y hy => by rcases List.mem_append.1 hy with hy | hy; exact Nat.le_succ_of_le (HX.out.2.2.1 y hy); rw [List.mem_singleton.1 hy]; exact HA3.out.1, HF3.out.rdr.belowN hB4 HF3.out.glt, by have := HX.out; have := HA3.out; omega, HF3.out.kept.belowN hB4 (Nat.le_refl _)⟩
    clear hC4 hB4 hS4 hG4 hs5 hf5
    go_wp2
    go_ret
    exact HD.out
  have hj0i : ((j : Int) == 0) = false := beq_eq_false_iff_ne.2 (by omega)
  by_cases hj1 : j = 1
  · subst hj1
    have hc := l10Fact_any g (p1 + 1) w2 HF2.out.rdr (by have := HX.out; omega)
    go_wp2_with fail
    refine hc.mono ?_
    rintro e w3 ⟨a, v3, L3, p3, rfl, hs3, hx3, hC3, hR3, hp3, hK3⟩
    obtain ⟨b3, hsl, hfar⟩ := hC3.slice
    obtain ⟨A3, c3, rfl⟩ := own_shape hC3.own
    have HF3 := Lib.hid (HF2.out.call hR3 hK3)
    have HAT : Hid (atomK w3 [.string a.name, .slice A3 a.args.length c3] a b3) := Lib.hid ⟨_, rfl, Sm.max hs3, hsl⟩
    have HA3 : Hid (a.args.length ≤ 4 ∧ p3 ≤ p1 + 1 + 20) := Lib.hid (by omega)
    obtain ⟨LL, bb, hCC, hbb⟩ := HF3.out.coll
    have HBB := Lib.hid hbb
    have HFA : Hid (∀ c ∈ b3, w.heap.size ≤ c) := Lib.hid (fun c hc => Nat.le_trans HF2.out.kept.size ((hfar c hc).resolve_right (by simp)))
    clear hbb
    have HC := Lib.hid hCC
    have hA4 : Below w3.heap.size w3 (w3.alloc (.cells #[.string a.name, .slice A3 a.args.length c3] 33)) := (Below.refl _ _).alloc (Nat.le_refl _) _
    have HC2 := Lib.hid (hCC.below atomK_good hA4)
    have HR2 := Lib.hid (Rowed.one_el (n := 2) (R := atomK) atomK_ones (atomK_good.below HAT.out hA4))
    have HL2 := Lib.hid (lies_block (heap_alloc_new w3 (.cells #[.string a.name, .slice A3 a.args.length c3] 33)))
    have HFF : Hid (∀ c ∈ b3, (Value.slice Av xs.length cv).ownBlock ≠ some c) := Lib.hid (fun c hc => by obtain ⟨_, _, h2, _⟩ := HF2.out.coll; exact own_block_lt h2.own ((hfar c hc).resolve_right (by simp)))
    have HSZ : Hid (w.heap.size ≤ (w3.alloc (.cells #[.string a.name, .slice A3 a.args.length c3] 33)).heap.size) := Lib.hid (Nat.le_trans HF3.out.kept.size hA4.size)
    have HB4 := Lib.hid hA4
    clear hc hC3 hR3 hK3 hsl hs3 hx3 hp3 hCC hA4
    go_wp2_with (at_builtin; refine wpList_coll rfl _ _ _ rfl w.heap.size 33 i0 (.agg #[.string ⟨#[]⟩, .slice none 0 0]) 2 40 Tryz.underlying24 hi hz0 hz1 hz2 rfl (by omega) atomK_good (.slice Av xs.length cv) xs.length LL xs bb rfl HC2.out rfl (some ⟨w3.heap.size, 0, none⟩) 1 1 _ [a] b3 rfl HR2.out rfl HL2.out HFF.out H63.out HBY.out w3 w.heap.size (HB4.out.mono HF3.out.kept.size) (Nat.le_refl _) HSZ.out ?_; intro A4 c4 w4 hC4 hB4 hS4 hG4)
    obtain ⟨b5, hs5, hf5⟩ := hC4.slice
    have HD : Hid (AnyD g p 200 w (.returned (.slice A4 (xs.length + 1) c4)) w4) := Lib.hid ⟨xs ++ [a], _, b5, p3, rfl, ⟨hs5, fun c hc => (hf5 c hc).elim id (fun hc => (List.mem_append.1 hc).elim (HBB.out c) (HFA.out c))⟩, by have := HX.out; simp; omega, fun y hy => by rcases List.mem_append.1 hy with hy | hy; exact Nat.le_succ_of_le (HX.out.2.2.1 y hy); rw [List.mem_singleton.1 hy]; exact HA3.out.1, HF3.out.rdr.belowN hB4 HF3.out.glt, by have := HX.out; have := HA3.out; omega, HF3.out.kept.belowN hB4 (Nat.le_refl _)⟩
    clear hC4 hB4 hS4 hG4 hs5 hf5
    go_wp2
    go_ret
    exact HD.out
  have hj1i : ((j : Int) == 1) = false := beq_eq_false_iff_ne.2 (by omega)
  have hend : Hid (AnyD g p 200 w (.returned (.slice Av xs.length cv)) w2) := Lib.hid (by
    obtain ⟨b9, h9, h9b⟩ := HF2.out.atoms
    exact ⟨xs, _, b9, p1 + 1, rfl, ⟨h9, h9b⟩, by have := HX.out; omega, fun y hy => Nat.le_succ_of_le (HX.out.2.2.1 y hy), HF2.out.rdr, by have := HX.out; omega, HF2.out.kept⟩)
  by_cases hj2 : j = 2
  · subst hj2
    clear hend
    obtain ⟨bt, ht, htb⟩ := two_lit w2 ⟨#[97]⟩ ⟨#[98]⟩ (by decide) (by decide)
    have HTB : Hid (∀ c ∈ bt, w.heap.size ≤ c) := Lib.hid (fun c hc => Nat.le_trans HF2.out.kept.size (htb c hc))
    clear htb
    have hA3 : Below w2.heap.size w2 (w2.alloc (.cells #[.bool false, .string ⟨#[97]⟩, .bool false, .string ⟨#[98]⟩] 127)) := (Below.refl _ _).alloc (Nat.le_refl _) _
    have HF3 := Lib.hid (HF2.out.below hA3)
    obtain ⟨b3, hxs, hfb⟩ := HF3.out.atoms
    have HFB := Lib.hid hfb
    clear hfb
    have hput := l3Put_own xs ⟨⟨#[112]⟩, [⟨false, ⟨#[97]⟩⟩, ⟨false, ⟨#[98]⟩⟩]⟩ _ _ _ b3 bt _ hxs ⟨_, rfl, by decide, ht⟩ HX.out.1 (by have := HX.out; omega)
    clear hxs ht hA3
    go_wp2_with fail
    refine hput.mono ?_
    rintro e w3 ⟨hb3, v3, b4, rfl, hR3, ho⟩
    have HF4 := Lib.hid (HF3.out.put (xs' := insA xs ⟨⟨#[112]⟩, [⟨false, ⟨#[97]⟩⟩, ⟨false, ⟨#[98]⟩⟩]⟩) hb3 (fun y hy => by rcases mem_ins hy with hy | rfl; exact Nat.le_succ_of_le (HX.out.2.2.1 y hy); decide) ho (fun c hc => (List.mem_append.1 hc).elim (HFB.out c) (HTB.out c)))
    obtain ⟨b8, h8, h8b⟩ := HF4.out.atoms
    have HD : Hid (AnyD g p 200 w (.returned v3) w3) := Lib.hid ⟨_, _, b8, p1 + 1, rfl, ⟨h8, h8b⟩, by have := ins_length_le xs ⟨⟨#[112]⟩, [⟨false, ⟨#[97]⟩⟩, ⟨false, ⟨#[98]⟩⟩]⟩; have := HX.out; omega, HF4.out.small, HF4.out.rdr, by have := HX.out; omega, HF4.out.kept⟩
    obtain ⟨A3, c3, rfl, _, _⟩ := sliceK_form hR3
    clear hput hR3 ho HF3 h8 h8b
    go_wp2
    go_ret
    exact HD.out
  have hj2i : ((j : Int) == 2) = false := beq_eq_false_iff_ne.2 (by omega)
  by_cases hj3 : j = 3
  · subst hj3
    clear hend
    have hA3 : Below w2.heap.size w2 (w2.alloc (.cells #[] 33)) := (Below.refl _ _).alloc (Nat.le_refl _) _
    have HM0 : Hid (FInv g (p1 + 1) w (manyL 0) (.slice (some ⟨w2.heap.size, 0, none⟩) 0 0) (w2.alloc (.cells #[] 33))) := Lib.hid ⟨⟨_, _, Coll.empty (heap_alloc_new w2 _) HF2.out.kept.size, fun b hb => by simp at hb⟩, many_small 0, HF2.out.rdr.below hA3, HF2.out.kept.belowN hA3 HF2.out.kept.size, HF2.out.glt⟩
    clear hA3 HF2 hj
    go_wp2
    go_loopw [4, 5] (fun m i wr => ∃ (n l : Nat) (Am : Option Addr) (cm : Nat), n ≤ 7 ∧ i = .int .i64 n ∧ m = .slice Am l cm ∧ l = 6 * n ∧ FInv g (p1 + 1) w (manyL (6 * n)) (.slice Am l cm) wr) (fun _ i _ => 7 - (intOf i).toNat)
    case atStart => exact ⟨0, 0, _, _, by omega, rfl, rfl, rfl, HM0.out⟩
    case round =>
      obtain ⟨n, l, Am, cm, hn, rfl, rfl, hle, hF⟩ := hrel
      have HM := Lib.hid hF
      have HL := Lib.hid hle
      clear hF hle HM0
      by_cases hn7 : n < 7
      · have hni : (n : Int) < 7 := by omega
        have HN := Lib.hid hn7
        have HM1 : Hid (∃ (k l : Nat) (Am : Option Addr) (cm : Nat), k ≤ 6 ∧ l = 6 * n + k ∧ k = 0 ∧ FInv g (p1 + 1) w (manyL (6 * n + k)) (.slice Am l cm) wr) := Lib.hid ⟨0, l, Am, cm, by omega, HL.out, rfl, HM.out⟩
        clear hn hn7
        go_wp2
        go_loopw [4, 6] (fun m i wr => ∃ (k l : Nat) (Am : Option Addr) (cm : Nat), k ≤ 6 ∧ i = .int .i64 k ∧ m = .slice Am l cm ∧ l = 6 * n + k ∧ FInv g (p1 + 1) w (manyL (6 * n + k)) (.slice Am l cm) wr) (fun _ i _ => 6 - (intOf i).toNat)
        case atStart => exact ⟨0, l, Am, cm, by omega, rfl, rfl, HL.out, HM.out⟩
        case round =>
          obtain ⟨k, l2, Am2, cm2, hk, rfl, rfl, hle2, hF2⟩ := hrel
          have HM2 := Lib.hid hF2
          have HL2 := Lib.hid hle2
          clear hF2 hle2 HM HM1 HL
          by_cases hk6 : k < 6
          · have hki : (k : Int) < 6 := by omega
            have HK := Lib.hid hk6
            clear hk hk6
            have hd1 := fun w' => (l1Dec_small n w' HN.out).mono (R' := fun e w'' => ∃ s : ByteArray, e = .returned (.string s) ∧ Hid (s = ⟨#[UInt8.ofNat (48 + n)]⟩) ∧ s.size = 1 ∧ Below w'.heap.size w' w'') (fun e w'' ⟨h1, h2⟩ => ⟨_, h1, Lib.hid rfl, rfl, h2⟩)
            have hd2 := fun w' => (l1Dec_small k w' (by have := HK.out; omega)).mono (R' := fun e w'' => ∃ s : ByteArray, e = .returned (.string s) ∧ Hid (s = ⟨#[UInt8.ofNat (48 + k)]⟩) ∧ s.size = 1 ∧ Below w'.heap.size w' w'') (fun e w'' ⟨h1, h2⟩ => ⟨_, h1, Lib.hid rfl, rfl, h2⟩)
            go_wp2_with fail
            refine (hd1 _).mono ?_
            rintro e w4 ⟨s1, rfl, hs1, hz1, hb4⟩
            replace HM2 := Lib.hid (HM2.out.below hb4)
            have hq1 : ((⟨#[118]⟩ : ByteArray) ++ s1).size = 2 := by rw [ByteArray.size_append, hz1]; rfl
            clear hd1 hb4
            go_wp2_with fail
            refine (hd2 _).mono ?_
            rintro e w5 ⟨s2, rfl, hs2, hz2, hb5⟩
            replace HM2 := Lib.hid (HM2.out.below hb5)
            have hq2 : ((⟨#[118]⟩ : ByteArray) ++ s2).size = 2 := by rw [ByteArray.size_append, hz2]; rfl
            have HE : Hid (eAt (6 * n + k) = ⟨⟨#[101]⟩, [⟨false, (⟨#[118]⟩ : ByteArray) ++ s1⟩, ⟨false, (⟨#[118]⟩ : ByteArray) ++ s2⟩]⟩) := Lib.hid (by
              have e1 : (6 * n + k) / 6 = n := by have := HK.out; omega
              have e2 : (6 * n + k) % 6 = k := by have := HK.out; omega
              have e3 : (⟨#[118]⟩ : ByteArray) ++ s1 = vd n := by rw [hs1.out]; exact WideShapes.bytes_inj (by rw [ByteArray.data_append, Array.toList_append]; rfl)
              have e4 : (⟨#[118]⟩ : ByteArray) ++ s2 = vd k := by rw [hs2.out]; exact WideShapes.bytes_inj (by rw [ByteArray.data_append, Array.toList_append]; rfl)
              unfold eAt; rw [e1, e2, e3, e4])
            obtain ⟨bt, ht, htb⟩ := two_lit w5 ((⟨#[118]⟩ : ByteArray) ++ s1) ((⟨#[118]⟩ : ByteArray) ++ s2) (by omega) (by omega)
            have hA5 : Below w5.heap.size w5 (w5.alloc (.cells #[.bool false, .string ((⟨#[118]⟩ : ByteArray) ++ s1), .bool false, .string ((⟨#[118]⟩ : ByteArray) ++ s2)] 127)) := (Below.refl _ _).alloc (Nat.le_refl _) _
            have HTB : Hid (∀ c ∈ bt, w.heap.size ≤ c) := Lib.hid (fun c hc => Nat.le_trans HM2.out.kept.size (htb c hc))
            clear htb
            replace HM2 := Lib.hid (HM2.out.below hA5)
            obtain ⟨b6, h6, h6b⟩ := HM2.out.atoms
            have HFB := Lib.hid h6b
            clear h6b
            have hput := l3Put_own (manyL (6 * n + k)) (eAt (6 * n + k)) _ (.string ⟨#[101]⟩) (.slice (some ⟨w5.heap.size, 0, none⟩) 2 2) b6 bt _ h6 (by rw [HE.out]; exact ⟨_, rfl, (show (1 : Nat) ≤ maxLen by decide), ht⟩) (many_le (by have := HK.out; have := HN.out; omega)) (by rw [many_length]; have := HK.out; have := HN.out; omega)
            rw [many_ins (by have := HK.out; have := HN.out; omega)] at hput
            clear hd2 hb5 ht hA5 h6
            go_wp2_with fail
            refine hput.mono ?_
            rintro e w6 ⟨hb6, v6, b7, rfl, hR6, ho⟩
            have HM3 := Lib.hid (HM2.out.put hb6 (many_small _) ho (fun c hc => (List.mem_append.1 hc).elim (HFB.out c) (HTB.out c)))
            obtain ⟨A6, c6, rfl, _, _⟩ := sliceK_form hR6
            clear hput hR6 ho HM2
            go_wp2
            go_roundw
            case rel => exact ⟨k + 1, _, A6, c6, HK.out, by go_num, rfl, by rw [many_length]; omega, HM3.out⟩
            case measure => have := HK.out; simp [intOf]; omega
          · have hki : ¬ (k : Int) < 6 := by omega
            obtain rfl : k = 6 := by omega
            clear hk hk6
            go_wp2
            go_roundw
            case rel => exact ⟨n + 1, l2, Am2, cm2, HN.out, by go_num, rfl, by have := HL2.out; omega, by rw [show 6 * (n + 1) = 6 * n + 6 by omega]; exact HM2.out⟩
            case measure => have := HN.out; simp [intOf]; omega
      · skip
        have hni : ¬ (n : Int) < 7 := by omega
        obtain rfl : n = 7 := by omega
        clear hn hn7
        have hpk := pick_any g (p1 + 1) 2 wr HM.out.rdr (by have := HX.out; omega) (by omega) (by omega)
        go_wp2_with fail
        refine hpk.mono ?_
        rintro e w4 ⟨j2, rfl, hj2, hR4, hG4⟩
        have HM4 := Lib.hid (HM.out.call hR4 (KeptBut.of_grown hG4))
        obtain ⟨b5, h5, h5b⟩ := HM4.out.atoms
        have hle3 := HL.out
        subst hle3
        have hcm : 42 ≤ cm ∧ cm ≤ maxLen := by
          obtain ⟨A', c', e', hl', hm', _⟩ := h5
          simp only [List.cons.injEq, Value.slice.injEq, and_true] at e'
          obtain ⟨_, _, rfl⟩ := e'
          rw [many_length] at hl'
          exact ⟨hl', hm'⟩
        have hcx := nat_ge_max hcm.2
        have hcy := hcm.1
        have hj : j2 = 0 ∨ j2 = 1 := by omega
        have HT : Hid (∀ d, d ≤ 42 → ∃ b6, atomsK w4 [.slice Am d cm] ((manyL 42).take d) b6 ∧ ∀ c ∈ b6, w.heap.size ≤ c) := Lib.hid (fun d hd => by obtain ⟨b6, h6, hs6⟩ := sliceK_take h5 (k := d) (by rw [many_length]; exact hd); exact ⟨b6, h6, fun c hc => h5b c (hs6 c hc)⟩)
        clear hpk hR4 hG4 h5 h5b HM hcm HL hj2
        rcases hj with rfl | rfl
        · have hz : (40 : Int) ≤ (cm : Int) := by omega
          obtain ⟨b6, h6⟩ := HT.out 40 (by omega)
          have HD : Hid (AnyD g p 200 w (.returned (.slice Am 40 cm)) w4) := Lib.hid ⟨_, _, b6, p1 + 1 + 1, rfl, h6, by simp [manyL], fun y hy => many_small 42 y (List.mem_of_mem_take hy), HM4.out.rdr, by have := HX.out; omega, HM4.out.kept⟩
          clear h6 HT
          go_wp2
          go_ret
          exact HD.out
        · have hz : (41 : Int) ≤ (cm : Int) := by omega
          obtain ⟨b6, h6⟩ := HT.out 41 (by omega)
          have HD : Hid (AnyD g p 200 w (.returned (.slice Am 41 cm)) w4) := Lib.hid ⟨_, _, b6, p1 + 1 + 1, rfl, h6, by simp [manyL], fun y hy => many_small 42 y (List.mem_of_mem_take hy), HM4.out.rdr, by have := HX.out; omega, HM4.out.kept⟩
          clear h6 HT
          go_wp2
          go_ret
          exact HD.out
  have hj3i : ((j : Int) == 3) = false := beq_eq_false_iff_ne.2 (by omega)
  go_wp2
  go_ret
  exact hend.out

end Go.Proofs.YtjjfafgaphloaaaGreatDoor
