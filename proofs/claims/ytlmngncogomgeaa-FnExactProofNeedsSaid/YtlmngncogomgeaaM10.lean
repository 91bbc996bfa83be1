/- Of the proof of FnExactProofNeeds: StbM. -/
import Derived.Test.YtlmngncogomgeaaM07
namespace Go.Proofs.Ytlmngncogomgeaa
open Go.Shelf Go.RowKit Go.Lib Go.Sort D
set_option linter.unusedVariables false
theorem D.lt_of {α : Type} [Inhabited α] {lt : α → α → Bool} (hO : SWO lt) {x y z : α} (h1 : lt y z = true) (h2 : lt y x = false) : lt x z = true := by
  cases h : lt x z
  · rw [hO.ntrans _ _ _ h2 h] at h1; cases h1
  · rfl

theorem D.lt_of2 {α : Type} [Inhabited α] {lt : α → α → Bool} (hO : SWO lt) {x y z : α} (h1 : lt x y = true) (h2 : lt z y = false) : lt x z = true := by
  cases h : lt x z
  · rw [hO.ntrans _ _ _ h h2] at h1; cases h1
  · rfl

section
variable {α : Type} [Inhabited α]
theorem D.srt_le {lt : α → α → Bool} (hO : SWO lt) {d : Array α} {a b i j : Nat} (h : Srt lt (seg d a b)) (h1 : a ≤ i) (h2 : i ≤ j) (h3 : j < b) : lt d[j]! d[i]! = false := by
  by_cases e : i = j
  · rw [e]; exact hO.irrefl _
  · exact srt_seg.1 h i j h1 (by omega) h3

theorem D.sym_up {lt : α → α → Bool} (hO : SWO lt) {d : Array α} {a m b lo st c p : Nat} (hL : lt d[p - c]! d[c]! = false) (hl : Srt lt (seg d a m)) (hr : Srt lt (seg d m b)) (h : ∀ c, lo ≤ c → c < st → lt d[p - c]! d[c]! = false) (h1 : a ≤ lo) (h2 : c < m) (h3 : m ≤ p - c) (h4 : p - lo < b) : ∀ x, lo ≤ x → x < c + 1 → lt d[p - x]! d[x]! = false := fun x x1 x2 => by
  have e1 := srt_le hO hl (i := x) (j := c) (by omega) (by omega) h2
  have e2 := srt_le hO hr (i := p - c) (j := p - x) h3 (by omega) (by omega)
  exact hO.ntrans _ _ _ (hO.ntrans _ _ _ e2 hL) e1

theorem D.sym_dn {lt : α → α → Bool} (hO : SWO lt) {d : Array α} {a m b r hi c p : Nat} (hL : lt d[p - c]! d[c]! = true) (hl : Srt lt (seg d a m)) (hr : Srt lt (seg d m b)) (h : ∀ c, r ≤ c → c < hi → lt d[p - c]! d[c]! = true) (h1 : a ≤ c) (h2 : hi ≤ m) (h3 : m ≤ p - (hi - 1)) (h4 : p - c < b) : ∀ x, c ≤ x → x < hi → lt d[p - x]! d[x]! = true := fun x x1 x2 => by
  have e1 := srt_le hO hl (i := c) (j := x) h1 x1 (by omega)
  have e2 := srt_le hO hr (i := p - x) (j := p - c) (by omega) (by omega) h4
  exact lt_of2 hO (lt_of hO hL e2) e1

theorem D.shR_zero (d : Array α) (a i : Nat) : shR d a a i = d[i]! := by
  unfold shR
  rw [if_neg (by omega)]
  split
  · rename_i h; rw [h]
  · rfl

theorem D.shR_step {d dk : Array α} {a n : Nat} (h : ∀ x, dk[x]! = shR d a n x) (ha : a ≤ n) (hn : n + 1 < dk.size) : ∀ x, (swp dk n (n + 1))[x]! = shR d a (n + 1) x := fun x => by
  by_cases h1 : x = n
  · subst h1
    rw [swp_left _ _ _ (by omega) (by omega), h]
    unfold shR
    rw [if_neg (by omega), if_neg (by omega), if_pos (by omega)]
  · by_cases h2 : x = n + 1
    · subst h2
      rw [swp_right _ _ _ hn, h]
      unfold shR
      rw [if_neg (by omega), if_pos rfl, if_neg (by omega), if_pos rfl]
    · rw [swp_other _ _ _ _ h1 h2, h]
      unfold shR
      by_cases h3 : a ≤ x ∧ x < n
      · rw [if_pos h3, if_pos (by omega)]
      · rw [if_neg h3, if_neg h1, if_neg (by omega), if_neg h2]

theorem D.shL_zero (d : Array α) (m i : Nat) : shL d m m i = d[i]! := by
  unfold shL
  rw [if_neg (by omega)]
  split
  · rename_i h; rw [h]
  · rfl

theorem D.shL_step {d dk : Array α} {m n : Nat} (h : ∀ x, dk[x]! = shL d m n x) (h0 : 0 < n) (hm : n ≤ m) (hn : n < dk.size) : ∀ x, (swp dk n (n - 1))[x]! = shL d m (n - 1) x := fun x => by
  by_cases h1 : x = n
  · subst h1
    rw [swp_left _ _ _ hn (by omega), h]
    unfold shL
    rw [if_neg (by omega), if_neg (by omega), if_pos (by omega)]
  · by_cases h2 : x = n - 1
    · subst h2
      rw [swp_right _ _ _ (by omega), h]
      unfold shL
      rw [if_neg (by omega), if_pos rfl, if_neg (by omega), if_pos rfl]
    · rw [swp_other _ _ _ _ h1 h2, h]
      unfold shL
      by_cases h3 : n < x ∧ x ≤ m
      · rw [if_pos h3, if_pos (by omega)]
      · rw [if_neg h3, if_neg h1, if_neg (by omega), if_neg h2]

end
set_option maxHeartbeats 8000000 in
set_option maxRecDepth 1000000 in
theorem symMerge_any {α : Type} [Inhabited α] (k : Nat) (aE : ∀ w, (isAgg 33).run Try.prog w = .ok true w) (zE : ∀ w, (Go.sizeOf 33).run Try.prog w = .ok k w) (enc : α → List Value) (cf : α → α → Int) (hO : SWO (ltOf cf)) (g : Nat) (cb : Array Value) (eg : ∀ args w, (callFunc g args).run Try.prog w = .ok (.enter g args) w) (blk off cap len : Nat) (d0 : Array α) (w0 : World) (R : RowK enc k w0 blk off d0) (hlen : d0.size = len) (hcmp : CmpLays Try.prog g cb enc k cf blk off len w0) (hsz : len < 4611686018427387904) :
    ∀ (n a m b : Nat) (d : Array α) (w : World), b - a ≤ n → d.size = len → SWK enc k w0 blk off d w → a < m → m < b → b ≤ len → Srt (ltOf cf) (seg d a m) → Srt (ltOf cf) (seg d m b) →
    Calls Try.prog 47 #[.slice (some ⟨blk, off, none⟩) len cap, .int .i64 a, .int .i64 m, .int .i64 b, .func (.func g) #[] cb] w fun e w' => e = .returned (.tuple #[]) ∧ ∃ d' : Array α, Mrg (ltOf cf) a b d d' ∧ SWK enc k w0 blk off d' w' := by
  intro n
  induction n with
  | zero => intro a m b d w hn _ _ h1 h2; omega
  | succ n ih =>
    intro a m b d w hn hds S ham hmb hb hl hr
    have mixed : Try.prog.follows .mixedOrders = true := by kernel_rfl
    have HC : Aside _ := hcmp
    have S0 : Aside (SWK enc k w0 blk off d w) := S
    have HL := Lib.hid hl
    have HR := Lib.hid hr
    have IH := Lib.hid ih
    clear hcmp S hl hr ih
    have rw1 : IntKind.i64.wrap ((m : Int) - (a : Int)) = (m : Int) - (a : Int) := by rw [IntKind.wrap_i64]; omega
    have rw2 : IntKind.i64.wrap ((b : Int) - (m : Int)) = (b : Int) - (m : Int) := by rw [IntKind.wrap_i64]; omega
    go_enter Try.func47, Try.ntmps47
    by_cases hone : m = a + 1
    · have honez : (m : Int) - (a : Int) = 1 := by omega
      have honeb : ((m : Int) - (a : Int) == 1) = true := by rw [beq_iff_eq]; omega
      have HONE := Lib.hid hone
      clear hone
      go_wp2_with fail
      go_loopg [10, 11, 12] (b - m) (fun kx s10 s11 s12 wr => ∃ (i j : Nat), s10 = .int .i64 i ∧ s11 = .int .i64 j ∧ m ≤ i ∧ i ≤ j ∧ j ≤ b ∧ j - i ≤ kx ∧ Hid (∀ h, a < h → h < i → ltOf cf d[h]! d[a]! = true) ∧ Hid (∀ h, j ≤ h → h < b → ltOf cf d[h]! d[a]! = false) ∧ Aside (SWK enc k w0 blk off d wr))
      case atStart => exact ⟨m, b, rfl, rfl, Nat.le_refl _, by omega, Nat.le_refl _, Nat.le_refl _, Lib.hid fun h h1 h2 => by have := HONE.out; omega, Lib.hid fun h h1 h2 => by omega, S0⟩
      case round =>
        clear S0
        obtain ⟨i, j, rfl, rfl, hi, hij, hj, hkx, HA1, HA2, S2⟩ := hrel
        by_cases hlt : i < j
        · have hlz : (i : Int) < (j : Int) := by omega
          obtain ⟨h, hh0⟩ : ∃ h, h = (i + j) / 2 := ⟨_, rfl⟩
          have hq : ((i : Int) + (j : Int)) / 2 = (h : Int) := by omega
          have c1 : i ≤ h := by omega
          have c2 : h < j := by omega
          clear hh0
          cases hL : ltOf cf d[h]! d[a]!
          · have ea3 : ((h : Int)).toNat = h := by omega
            have pa3 : (0 : Int) ≤ (h : Int) := by omega
            have ba3 : (h : Int) < (len : Int) := by omega
            have ra3 : IntKind.i64.wrap ((h : Int)) = (h : Int) := by rw [IntKind.wrap_i64]; omega
            have ec3 : ((a : Int)).toNat = a := by omega
            have pc3 : (0 : Int) ≤ (a : Int) := by omega
            have bc3 : (a : Int) < (len : Int) := by omega
            have rc3 : IntKind.i64.wrap ((a : Int)) = (a : Int) := by rw [IntKind.wrap_i64]; omega
            obtain ⟨x3, hx3⟩ : ∃ x, x = d[h]! := ⟨_, rfl⟩
            obtain ⟨y3, hy3⟩ : ∃ x, x = d[a]! := ⟨_, rfl⟩
            have l3a := S2.out.ld R (by omega) Try.prog (h) (by omega)
            have l3b := S2.out.ld R (by omega) Try.prog (a) (by omega)
            rw [← hx3] at l3a
            rw [← hy3] at l3b
            have hc3 := S2.out.cmp HC.out (by omega) x3 y3
            have hv3 : ¬ cf x3 y3 < 0 := by rw [hx3, hy3]; exact of_decide_eq_false hL
            have hd3 : decide (cf x3 y3 < 0) = false := decide_eq_false hv3
            clear hx3 hy3
            go_wp2_with fail
            go_quiet_grown (first | (go_at_fn g; refine Calls.grown_of (hc3 _ _)))
            have S3 : Aside (SWK enc k w0 blk off d (grow (wr.drewN nq) osq)) := S2.out.grown nq osq
            clear l3a l3b hc3 S2
            generalize grow (wr.drewN nq) osq = w2 at S3 ⊢
            clear nq osq
            go_wp2_with fail
            go_roundg (h - i)
            case measure => omega
            case rel => exact ⟨i, h, rfl, rfl, hi, c1, by omega, Nat.le_refl _, HA1, Lib.hid fun x x1 x2 => hO.ntrans _ _ _ (srt_le hO HR.out (by omega) x1 (by omega)) hL, S3⟩
          · have ea3 : ((h : Int)).toNat = h := by omega
            have pa3 : (0 : Int) ≤ (h : Int) := by omega
            have ba3 : (h : Int) < (len : Int) := by omega
            have ra3 : IntKind.i64.wrap ((h : Int)) = (h : Int) := by rw [IntKind.wrap_i64]; omega
            have ec3 : ((a : Int)).toNat = a := by omega
            have pc3 : (0 : Int) ≤ (a : Int) := by omega
            have bc3 : (a : Int) < (len : Int) := by omega
            have rc3 : IntKind.i64.wrap ((a : Int)) = (a : Int) := by rw [IntKind.wrap_i64]; omega
            obtain ⟨x3, hx3⟩ : ∃ x, x = d[h]! := ⟨_, rfl⟩
            obtain ⟨y3, hy3⟩ : ∃ x, x = d[a]! := ⟨_, rfl⟩
            have l3a := S2.out.ld R (by omega) Try.prog (h) (by omega)
            have l3b := S2.out.ld R (by omega) Try.prog (a) (by omega)
            rw [← hx3] at l3a
            rw [← hy3] at l3b
            have hc3 := S2.out.cmp HC.out (by omega) x3 y3
            have hv3 : cf x3 y3 < 0 := by rw [hx3, hy3]; exact of_decide_eq_true hL
            have hd3 : decide (cf x3 y3 < 0) = true := decide_eq_true hv3
            clear hx3 hy3
            go_wp2_with fail
            go_quiet_grown (first | (go_at_fn g; refine Calls.grown_of (hc3 _ _)))
            have S3 : Aside (SWK enc k w0 blk off d (grow (wr.drewN nq) osq)) := S2.out.grown nq osq
            clear l3a l3b hc3 S2
            generalize grow (wr.drewN nq) osq = w2 at S3 ⊢
            clear nq osq
            go_wp2_with fail
            go_roundg (j - (h + 1))
            case measure => omega
            case rel => exact ⟨h + 1, j, by simp, rfl, by omega, by omega, hj, Nat.le_refl _, Lib.hid fun x x1 x2 => lt_of hO hL (srt_le hO HR.out (by have := HONE.out; omega) (by omega) (by omega)), HA2, S3⟩
        · obtain rfl : i = j := by omega
          have hlz : ¬ (i : Int) < (i : Int) := by omega
          have rw3 : IntKind.i64.wrap ((i : Int) - 1) = (i : Int) - 1 := by rw [IntKind.wrap_i64]; omega
          clear hlt
          go_wp2_with fail
          go_loopg [13] (i - 1 - a) (fun kx s13 wr => ∃ (q : Nat) (dk : Array α), s13 = .int .i64 q ∧ a ≤ q ∧ q ≤ i - 1 ∧ i - 1 - q ≤ kx ∧ dk.size = len ∧ Aside (SWK enc k w0 blk off dk wr) ∧ Hid (∀ x, dk[x]! = shR d a q x))
          case atStart => exact ⟨a, d, rfl, Nat.le_refl _, by omega, Nat.le_refl _, hds, S2, Lib.hid fun x => (shR_zero d a x).symm⟩
          case round =>
            clear S2
            obtain ⟨q, dk, rfl, hq1, hq2, hkx2, hdk, S4, HE⟩ := hrel
            by_cases hlt : (q : Int) < (i : Int) - 1
            · go_wp2_with fail
              have ea4 : ((q : Int)).toNat = q := by omega
              have pa4 : (0 : Int) ≤ (q : Int) := by omega
              have ba4 : (q : Int) < (len : Int) := by omega
              have ra4 : IntKind.i64.wrap ((q : Int)) = (q : Int) := by rw [IntKind.wrap_i64]; omega
              have ec4 : ((q : Int) + 1).toNat = q + 1 := by omega
              have pc4 : (0 : Int) ≤ (q : Int) + 1 := by omega
              have bc4 : (q : Int) + 1 < (len : Int) := by omega
              have rc4 : IntKind.i64.wrap ((q : Int) + 1) = (q : Int) + 1 := by rw [IntKind.wrap_i64]; omega
              have S5 : Aside (SWK enc k w0 blk off (swp dk (q) (q + 1)) ((wr.drew.setCells blk (off + (q) * k) (enc dk[q + 1]!)).setCells blk (off + (q + 1) * k) (enc dk[q]!))) := S4.out.swapped R (q) (q + 1) (by omega) (by omega)
              have l4a := S4.out.ld1 R (by omega) Try.prog (q) (by omega)
              have l4b := S4.out.ld1 R (by omega) Try.prog (q + 1) (by omega)
              have s4a := S4.out.st1 R (by omega) Try.prog (q) (by omega) dk[q + 1]!
              have s4b := S4.out.st2 R (by omega) Try.prog (q) (q + 1) (by omega) (by omega) dk[q + 1]! dk[q]!
              have n4a : (enc dk[q]!).length = k := R.hk _
              have n4b : (enc dk[q + 1]!).length = k := R.hk _
              generalize enc dk[q]! = cI4 at S5 l4a s4b n4a
              generalize enc dk[q + 1]! = cJ4 at S5 l4b s4a s4b n4b
              clear S4
              go_wp2_with fail
              go_big_region_o
              clear l4a l4b s4a s4b
              generalize (wr.drew.setCells blk (off + (q) * k) cJ4).setCells blk (off + (q + 1) * k) cI4 = w2 at S5 ⊢
              go_wp2
              go_roundg (i - 1 - (q + 1))
              case measure => omega
              case rel => exact ⟨q + 1, swp dk q (q + 1), by simp, by omega, by omega, Nat.le_refl _, by rw [size_swp]; exact hdk, S5, Lib.hid (shR_step HE.out hq1 (by omega))⟩
            · go_wp2
              first | go_end0 | refine bodyPost_ret (results_none rfl _ _ _) rfl ?_
              obtain rfl : q = i - 1 := by omega
              exact ⟨rfl, dk, mrg_right hO (by omega) (by omega) hj HE.out (by rw [← HONE.out]; exact HR.out) HA1.out HA2.out, S4.out⟩
    · have hne1 : ((m : Int) - (a : Int) == 1) = false := by rw [beq_eq_false_iff_ne]; omega
      have hne1p : ¬ (m : Int) - (a : Int) = 1 := by omega
      by_cases hbm : b = m + 1
      · have hbmz : (b : Int) - (m : Int) = 1 := by omega
        have hbmb : ((b : Int) - (m : Int) == 1) = true := by rw [beq_iff_eq]; omega
        have HBM := Lib.hid hbm
        clear hbm
        go_wp2_with fail
        go_loopg [14, 15, 16] (m - a) (fun kx s14 s15 s16 wr => ∃ (i j : Nat), s14 = .int .i64 i ∧ s15 = .int .i64 j ∧ a ≤ i ∧ i ≤ j ∧ j ≤ m ∧ j - i ≤ kx ∧ Hid (∀ h, a ≤ h → h < i → ltOf cf d[m]! d[h]! = false) ∧ Hid (∀ h, j ≤ h → h < m → ltOf cf d[m]! d[h]! = true) ∧ Aside (SWK enc k w0 blk off d wr))
        case atStart => exact ⟨a, m, rfl, rfl, Nat.le_refl _, by omega, Nat.le_refl _, Nat.le_refl _, Lib.hid fun h h1 h2 => by omega, Lib.hid fun h h1 h2 => by omega, S0⟩
        case round =>
          clear S0
          obtain ⟨i, j, rfl, rfl, hi, hij, hj, hkx, HA1, HA2, S2⟩ := hrel
          by_cases hlt : i < j
          · have hlz : (i : Int) < (j : Int) := by omega
            obtain ⟨h, hh0⟩ : ∃ h, h = (i + j) / 2 := ⟨_, rfl⟩
            have hq : ((i : Int) + (j : Int)) / 2 = (h : Int) := by omega
            have c1 : i ≤ h := by omega
            have c2 : h < j := by omega
            clear hh0
            cases hL : ltOf cf d[m]! d[h]!
            · have ea3 : ((m : Int)).toNat = m := by omega
              have pa3 : (0 : Int) ≤ (m : Int) := by omega
              have ba3 : (m : Int) < (len : Int) := by omega
              have ra3 : IntKind.i64.wrap ((m : Int)) = (m : Int) := by rw [IntKind.wrap_i64]; omega
              have ec3 : ((h : Int)).toNat = h := by omega
              have pc3 : (0 : Int) ≤ (h : Int) := by omega
              have bc3 : (h : Int) < (len : Int) := by omega
              have rc3 : IntKind.i64.wrap ((h : Int)) = (h : Int) := by rw [IntKind.wrap_i64]; omega
              obtain ⟨x3, hx3⟩ : ∃ x, x = d[m]! := ⟨_, rfl⟩
              obtain ⟨y3, hy3⟩ : ∃ x, x = d[h]! := ⟨_, rfl⟩
              have l3a := S2.out.ld R (by omega) Try.prog (m) (by omega)
              have l3b := S2.out.ld R (by omega) Try.prog (h) (by omega)
              rw [← hx3] at l3a
              rw [← hy3] at l3b
              have hc3 := S2.out.cmp HC.out (by omega) x3 y3
              have hv3 : ¬ cf x3 y3 < 0 := by rw [hx3, hy3]; exact of_decide_eq_false hL
              have hd3 : decide (cf x3 y3 < 0) = false := decide_eq_false hv3
              clear hx3 hy3
              go_wp2_with fail
              go_quiet_grown (first | (go_at_fn g; refine Calls.grown_of (hc3 _ _)))
              have S3 : Aside (SWK enc k w0 blk off d (grow (wr.drewN nq) osq)) := S2.out.grown nq osq
              clear l3a l3b hc3 S2
              generalize grow (wr.drewN nq) osq = w2 at S3 ⊢
              clear nq osq
              go_wp2_with fail
              go_roundg (j - (h + 1))
              case measure => omega
              case rel => exact ⟨h + 1, j, by simp, rfl, by omega, by omega, hj, Nat.le_refl _, Lib.hid fun x x1 x2 => hO.ntrans _ _ _ hL (srt_le hO HL.out (by omega) (by omega) (by omega)), HA2, S3⟩
            · have ea3 : ((m : Int)).toNat = m := by omega
              have pa3 : (0 : Int) ≤ (m : Int) := by omega
              have ba3 : (m : Int) < (len : Int) := by omega
              have ra3 : IntKind.i64.wrap ((m : Int)) = (m : Int) := by rw [IntKind.wrap_i64]; omega
              have ec3 : ((h : Int)).toNat = h := by omega
              have pc3 : (0 : Int) ≤ (h : Int) := by omega
              have bc3 : (h : Int) < (len : Int) := by omega
              have rc3 : IntKind.i64.wrap ((h : Int)) = (h : Int) := by rw [IntKind.wrap_i64]; omega
              obtain ⟨x3, hx3⟩ : ∃ x, x = d[m]! := ⟨_, rfl⟩
              obtain ⟨y3, hy3⟩ : ∃ x, x = d[h]! := ⟨_, rfl⟩
              have l3a := S2.out.ld R (by omega) Try.prog (m) (by omega)
              have l3b := S2.out.ld R (by omega) Try.prog (h) (by omega)
              rw [← hx3] at l3a
              rw [← hy3] at l3b
              have hc3 := S2.out.cmp HC.out (by omega) x3 y3
              have hv3 : cf x3 y3 < 0 := by rw [hx3, hy3]; exact of_decide_eq_true hL
              have hd3 : decide (cf x3 y3 < 0) = true := decide_eq_true hv3
              clear hx3 hy3
              go_wp2_with fail
              go_quiet_grown (first | (go_at_fn g; refine Calls.grown_of (hc3 _ _)))
              have S3 : Aside (SWK enc k w0 blk off d (grow (wr.drewN nq) osq)) := S2.out.grown nq osq
              clear l3a l3b hc3 S2
              generalize grow (wr.drewN nq) osq = w2 at S3 ⊢
              clear nq osq
              go_wp2_with fail
              go_roundg (h - i)
              case measure => omega
              case rel => exact ⟨i, h, rfl, rfl, hi, c1, by omega, Nat.le_refl _, HA1, Lib.hid fun x x1 x2 => lt_of2 hO hL (srt_le hO HL.out (by omega) x1 (by omega)), S3⟩
          · obtain rfl : i = j := by omega
            have hlz : ¬ (i : Int) < (i : Int) := by omega
            clear hlt
            go_wp2_with fail
            go_loopg [17] (m - i) (fun kx s17 wr => ∃ (q : Nat) (dk : Array α), s17 = .int .i64 q ∧ i ≤ q ∧ q ≤ m ∧ q - i ≤ kx ∧ dk.size = len ∧ Aside (SWK enc k w0 blk off dk wr) ∧ Hid (∀ x, dk[x]! = shL d m q x))
            case atStart => exact ⟨m, d, rfl, by omega, Nat.le_refl _, Nat.le_refl _, hds, S2, Lib.hid fun x => (shL_zero d m x).symm⟩
            case round =>
              clear S2
              obtain ⟨q, dk, rfl, hq1, hq2, hkx2, hdk, S4, HE⟩ := hrel
              by_cases hlt : (i : Int) < (q : Int)
              · go_wp2_with fail
                have ea4 : ((q : Int)).toNat = q := by omega
                have pa4 : (0 : Int) ≤ (q : Int) := by omega
                have ba4 : (q : Int) < (len : Int) := by omega
                have ra4 : IntKind.i64.wrap ((q : Int)) = (q : Int) := by rw [IntKind.wrap_i64]; omega
                have ec4 : ((q : Int) - 1).toNat = q - 1 := by omega
                have pc4 : (0 : Int) ≤ (q : Int) - 1 := by omega
                have bc4 : (q : Int) - 1 < (len : Int) := by omega
                have rc4 : IntKind.i64.wrap ((q : Int) - 1) = (q : Int) - 1 := by rw [IntKind.wrap_i64]; omega
                have S5 : Aside (SWK enc k w0 blk off (swp dk (q) (q - 1)) ((wr.drew.setCells blk (off + (q) * k) (enc dk[q - 1]!)).setCells blk (off + (q - 1) * k) (enc dk[q]!))) := S4.out.swapped R (q) (q - 1) (by omega) (by omega)
                have l4a := S4.out.ld1 R (by omega) Try.prog (q) (by omega)
                have l4b := S4.out.ld1 R (by omega) Try.prog (q - 1) (by omega)
                have s4a := S4.out.st1 R (by omega) Try.prog (q) (by omega) dk[q - 1]!
                have s4b := S4.out.st2 R (by omega) Try.prog (q) (q - 1) (by omega) (by omega) dk[q - 1]! dk[q]!
                have n4a : (enc dk[q]!).length = k := R.hk _
                have n4b : (enc dk[q - 1]!).length = k := R.hk _
                generalize enc dk[q]! = cI4 at S5 l4a s4b n4a
                generalize enc dk[q - 1]! = cJ4 at S5 l4b s4a s4b n4b
                clear S4
                go_wp2_with fail
                go_big_region_o
                clear l4a l4b s4a s4b
                generalize (wr.drew.setCells blk (off + (q) * k) cJ4).setCells blk (off + (q - 1) * k) cI4 = w2 at S5 ⊢
                go_wp2
                go_roundg (q - 1 - i)
                case measure => omega
                case rel => exact ⟨q - 1, swp dk q (q - 1), by congr 1; omega, by omega, by omega, Nat.le_refl _, by rw [size_swp]; exact hdk, S5, Lib.hid (shL_step HE.out (by omega) hq2 (by omega))⟩
              · go_wp2
                first | go_end0 | refine bodyPost_ret (results_none rfl _ _ _) rfl ?_
                obtain rfl : q = i := by omega
                exact ⟨rfl, dk, HBM.out ▸ mrg_left hO (by omega) hi hj HE.out HL.out HA1.out HA2.out, S4.out⟩
      · have hne2 : ((b : Int) - (m : Int) == 1) = false := by rw [beq_eq_false_iff_ne]; omega
        have hne2p : ¬ (b : Int) - (m : Int) = 1 := by omega
        obtain ⟨mid, hmid⟩ : ∃ mid, mid = (a + b) / 2 := ⟨_, rfl⟩
        have hqm : ((a : Int) + (b : Int)) / 2 = (mid : Int) := by omega
        have hm1 : a < mid := by omega
        have hm2 : mid < b := by omega
        have hm3 : 2 * mid ≤ a + b := by omega
        have hm4 : a + b ≤ 2 * mid + 1 := by omega
        clear hmid
        by_cases hmm : mid < m
        · have hmz : (mid : Int) < (m : Int) := by omega
          have rwn : IntKind.i64.wrap ((mid : Int) + (m : Int) - (b : Int)) = ((mid + m - b : Nat) : Int) := by rw [IntKind.wrap_i64]; omega
          go_wp2_with fail
          go_loopg [20, 21, 23] (mid - (mid + m - b)) (fun kx s20 s21 s23 wr => ∃ (st r : Nat), s20 = .int .i64 st ∧ s21 = .int .i64 r ∧ (mid + m - b) ≤ st ∧ st ≤ r ∧ r ≤ mid ∧ r - st ≤ kx ∧ Hid (∀ c, (mid + m - b) ≤ c → c < st → ltOf cf d[mid + m - 1 - c]! d[c]! = false) ∧ Hid (∀ c, r ≤ c → c < mid → ltOf cf d[mid + m - 1 - c]! d[c]! = true) ∧ Aside (SWK enc k w0 blk off d wr))
          case atStart => exact ⟨(mid + m - b), mid, rfl, rfl, Nat.le_refl _, by omega, Nat.le_refl _, Nat.le_refl _, Lib.hid fun c h1 h2 => by omega, Lib.hid fun c h1 h2 => by omega, S0⟩
          case round =>
            clear S0
            obtain ⟨st, r, rfl, rfl, hst, hsr, hr, hkx, HA1, HA2, S2⟩ := hrel
            by_cases hlt : st < r
            · have hlz : (st : Int) < (r : Int) := by omega
              obtain ⟨c, hc0⟩ : ∃ c, c = (st + r) / 2 := ⟨_, rfl⟩
              have hq : ((st : Int) + (r : Int)) / 2 = (c : Int) := by omega
              have c1 : st ≤ c := by omega
              have c2 : c < r := by omega
              have hpx : (c : Int) ≤ (mid : Int) + (m : Int) - 1 := by omega
              clear hc0
              cases hL : ltOf cf d[mid + m - 1 - c]! d[c]!
              · have ea5 : ((mid : Int) + (m : Int) - 1 - (c : Int)).toNat = mid + m - 1 - c := by omega
                have pa5 : (0 : Int) ≤ (mid : Int) + (m : Int) - 1 - (c : Int) := by omega
                have ba5 : (mid : Int) + (m : Int) - 1 - (c : Int) < (len : Int) := by omega
                have ra5 : IntKind.i64.wrap ((mid : Int) + (m : Int) - 1 - (c : Int)) = (mid : Int) + (m : Int) - 1 - (c : Int) := by rw [IntKind.wrap_i64]; omega
                have ec5 : ((c : Int)).toNat = c := by omega
                have pc5 : (0 : Int) ≤ (c : Int) := by omega
                have bc5 : (c : Int) < (len : Int) := by omega
                have rc5 : IntKind.i64.wrap ((c : Int)) = (c : Int) := by rw [IntKind.wrap_i64]; omega
                obtain ⟨x5, hx5⟩ : ∃ x, x = d[mid + m - 1 - c]! := ⟨_, rfl⟩
                obtain ⟨y5, hy5⟩ : ∃ x, x = d[c]! := ⟨_, rfl⟩
                have l5a := S2.out.ld R (by omega) Try.prog (mid + m - 1 - c) (by omega)
                have l5b := S2.out.ld R (by omega) Try.prog (c) (by omega)
                rw [← hx5] at l5a
                rw [← hy5] at l5b
                have hc5 := S2.out.cmp HC.out (by omega) x5 y5
                have hv5 : ¬ cf x5 y5 < 0 := by rw [hx5, hy5]; exact of_decide_eq_false hL
                have hd5 : decide (cf x5 y5 < 0) = false := decide_eq_false hv5
                clear hx5 hy5
                go_wp2_with fail
                go_quiet_grown (first | (go_at_fn g; refine Calls.grown_of (hc5 _ _)))
                have S3 : Aside (SWK enc k w0 blk off d (grow (wr.drewN nq) osq)) := S2.out.grown nq osq
                clear l5a l5b hc5 S2
                generalize grow (wr.drewN nq) osq = w2 at S3 ⊢
                clear nq osq
                go_wp2_with fail
                go_roundg (r - (c + 1))
                case measure => omega
                case rel => exact ⟨c + 1, r, by simp, rfl, by omega, by omega, hr, Nat.le_refl _, Lib.hid (sym_up hO hL HL.out HR.out HA1.out (by omega) (by omega) (by omega) (by omega)), HA2, S3⟩
              · have ea5 : ((mid : Int) + (m : Int) - 1 - (c : Int)).toNat = mid + m - 1 - c := by omega
                have pa5 : (0 : Int) ≤ (mid : Int) + (m : Int) - 1 - (c : Int) := by omega
                have ba5 : (mid : Int) + (m : Int) - 1 - (c : Int) < (len : Int) := by omega
                have ra5 : IntKind.i64.wrap ((mid : Int) + (m : Int) - 1 - (c : Int)) = (mid : Int) + (m : Int) - 1 - (c : Int) := by rw [IntKind.wrap_i64]; omega
                have ec5 : ((c : Int)).toNat = c := by omega
                have pc5 : (0 : Int) ≤ (c : Int) := by omega
                have bc5 : (c : Int) < (len : Int) := by omega
                have rc5 : IntKind.i64.wrap ((c : Int)) = (c : Int) := by rw [IntKind.wrap_i64]; omega
                obtain ⟨x5, hx5⟩ : ∃ x, x = d[mid + m - 1 - c]! := ⟨_, rfl⟩
                obtain ⟨y5, hy5⟩ : ∃ x, x = d[c]! := ⟨_, rfl⟩
                have l5a := S2.out.ld R (by omega) Try.prog (mid + m - 1 - c) (by omega)
                have l5b := S2.out.ld R (by omega) Try.prog (c) (by omega)
                rw [← hx5] at l5a
                rw [← hy5] at l5b
                have hc5 := S2.out.cmp HC.out (by omega) x5 y5
                have hv5 : cf x5 y5 < 0 := by rw [hx5, hy5]; exact of_decide_eq_true hL
                have hd5 : decide (cf x5 y5 < 0) = true := decide_eq_true hv5
                clear hx5 hy5
                go_wp2_with fail
                go_quiet_grown (first | (go_at_fn g; refine Calls.grown_of (hc5 _ _)))
                have S3 : Aside (SWK enc k w0 blk off d (grow (wr.drewN nq) osq)) := S2.out.grown nq osq
                clear l5a l5b hc5 S2
                generalize grow (wr.drewN nq) osq = w2 at S3 ⊢
                clear nq osq
                go_wp2_with fail
                go_roundg (c - st)
                case measure => omega
                case rel => exact ⟨st, c, rfl, rfl, hst, c1, by omega, Nat.le_refl _, HA1, Lib.hid (sym_dn hO hL HL.out HR.out HA2.out (by omega) (by omega) (by omega) (by omega)), S3⟩
            · obtain rfl : st = r := by omega
              have hlz : ¬ (st : Int) < (st : Int) := by omega
              have rwe : IntKind.i64.wrap ((mid : Int) + (m : Int) - (st : Int)) = ((mid + m - st : Nat) : Int) := by rw [IntKind.wrap_i64]; omega
              have HMH := Lib.hid (fun (d1 : Array α) (e1 : d1.size = d.size) (e2 : ∀ i, d1[i]! = d[rix st m (mid + m - st) i]!) => mrg_half hO e1 (a := a) (b := b) (mid := mid) (by omega) (by omega) (by omega) (by omega) (by omega) ⟨by omega, by omega⟩ e2 HL.out HR.out (fun q1 q2 => by have := HA2.out st (Nat.le_refl _) (by omega); rwa [show mid + m - 1 - st = mid + m - st - 1 by omega] at this) (fun q1 q2 => by have := HA1.out (st - 1) (by omega) (by omega); rwa [show mid + m - 1 - (st - 1) = mid + m - st by omega] at this))
              have HIX : Hid (¬ (st < m ∧ m < mid + m - st) → ∀ i, d[i]! = d[rix st m (mid + m - st) i]!) := Lib.hid fun q i => by
                congr 1
                unfold rix
                repeat' split
                all_goals omega
              have hROT := rotate_any k aE zE enc (.func (.func g) #[] cb) blk off cap st m (mid + m - st) d0 d w0 wr R (by omega) S2.out
              by_cases r1 : st < m
              · by_cases r2 : m < mid + m - st
                · have hc := hROT r1 r2 (by omega) (by omega)
                  rw [hds] at hc
                  clear hROT
                  go_wp2_with fail
                  refine hc.mono ?_
                  rintro e w1 ⟨rfl, d1, hd1, hx1, S3⟩
                  have S8 : Aside _ := S3
                  clear S3 hc S2
                  obtain ⟨T1, T2, T3, T4, T5, T6⟩ := HMH.out d1 (by omega) hx1
                  by_cases p1 : a < st
                  · by_cases p2 : st < mid
                    · have hc2 := IH.out a st mid d1 w1 (by omega) (by omega) S8.out p1 p2 (by omega) T2 T3
                      go_wp2_with fail
                      refine hc2.mono ?_
                      rintro e w3 ⟨rfl, d2, hM1, S4⟩
                      have S5 : Aside _ := S4
                      clear S4 hc2
                      have U1 : Srt (ltOf cf) (seg d2 mid (mid + m - st)) := by rw [seg_same (d := d1) fun i i1 i2 => hM1.out i (.inr i1)]; exact T4
                      have U2 : Srt (ltOf cf) (seg d2 (mid + m - st) b) := by rw [seg_same (d := d1) fun i i1 i2 => hM1.out i (.inr (by omega))]; exact T5
                      by_cases q1 : mid < mid + m - st
                      · by_cases q2 : mid + m - st < b
                        · have hc3 := IH.out mid (mid + m - st) b d2 w3 (by omega) (by have := hM1.size; omega) S5.out q1 q2 (by omega) U1 U2
                          go_wp2_with fail
                          refine hc3.mono ?_
                          rintro e w4 ⟨rfl, d3, hM2, S6⟩
                          have S7 : Aside _ := S6
                          clear S6 hc3
                          go_wp2_with fail
                          first | go_end0 | refine bodyPost_ret (results_none rfl _ _ _) rfl ?_
                          exact ⟨rfl, d3, mrg_both hO T1 ⟨by omega, by omega⟩ T6 hM1 hM2, S7.out⟩
                        · have hM2 : Mrg (ltOf cf) mid b d2 d2 := Mrg.idle (by rw [show b = mid + m - st by omega]; exact U1)
                          go_wp2_with fail
                          first | go_end0 | refine bodyPost_ret (results_none rfl _ _ _) rfl ?_
                          exact ⟨rfl, d2, mrg_both hO T1 ⟨by omega, by omega⟩ T6 hM1 hM2, S5.out⟩
                      · have hM2 : Mrg (ltOf cf) mid b d2 d2 := Mrg.idle (by rw [show mid = mid + m - st by omega]; exact U2)
                        go_wp2_with fail
                        first | go_end0 | refine bodyPost_ret (results_none rfl _ _ _) rfl ?_
                        exact ⟨rfl, d2, mrg_both hO T1 ⟨by omega, by omega⟩ T6 hM1 hM2, S5.out⟩
                    · have hM1 : Mrg (ltOf cf) a mid d1 d1 := Mrg.idle (by rw [show mid = st by omega]; exact T2)
                      have U1 : Srt (ltOf cf) (seg d1 mid (mid + m - st)) := by rw [seg_same (d := d1) fun i i1 i2 => hM1.out i (.inr i1)]; exact T4
                      have U2 : Srt (ltOf cf) (seg d1 (mid + m - st) b) := by rw [seg_same (d := d1) fun i i1 i2 => hM1.out i (.inr (by omega))]; exact T5
                      by_cases q1 : mid < mid + m - st
                      · by_cases q2 : mid + m - st < b
                        · have hc3 := IH.out mid (mid + m - st) b d1 w1 (by omega) (by have := hM1.size; omega) S8.out q1 q2 (by omega) U1 U2
                          go_wp2_with fail
                          refine hc3.mono ?_
                          rintro e w4 ⟨rfl, d3, hM2, S6⟩
                          have S7 : Aside _ := S6
                          clear S6 hc3
                          go_wp2_with fail
                          first | go_end0 | refine bodyPost_ret (results_none rfl _ _ _) rfl ?_
                          exact ⟨rfl, d3, mrg_both hO T1 ⟨by omega, by omega⟩ T6 hM1 hM2, S7.out⟩
                        · have hM2 : Mrg (ltOf cf) mid b d1 d1 := Mrg.idle (by rw [show b = mid + m - st by omega]; exact U1)
                          go_wp2_with fail
                          first | go_end0 | refine bodyPost_ret (results_none rfl _ _ _) rfl ?_
                          exact ⟨rfl, d1, mrg_both hO T1 ⟨by omega, by omega⟩ T6 hM1 hM2, S8.out⟩
                      · have hM2 : Mrg (ltOf cf) mid b d1 d1 := Mrg.idle (by rw [show mid = mid + m - st by omega]; exact U2)
                        go_wp2_with fail
                        first | go_end0 | refine bodyPost_ret (results_none rfl _ _ _) rfl ?_
                        exact ⟨rfl, d1, mrg_both hO T1 ⟨by omega, by omega⟩ T6 hM1 hM2, S8.out⟩
                  · have hM1 : Mrg (ltOf cf) a mid d1 d1 := Mrg.idle (by rw [show a = st by omega]; exact T3)
                    have U1 : Srt (ltOf cf) (seg d1 mid (mid + m - st)) := by rw [seg_same (d := d1) fun i i1 i2 => hM1.out i (.inr i1)]; exact T4
                    have U2 : Srt (ltOf cf) (seg d1 (mid + m - st) b) := by rw [seg_same (d := d1) fun i i1 i2 => hM1.out i (.inr (by omega))]; exact T5
                    by_cases q1 : mid < mid + m - st
                    · by_cases q2 : mid + m - st < b
                      · have hc3 := IH.out mid (mid + m - st) b d1 w1 (by omega) (by have := hM1.size; omega) S8.out q1 q2 (by omega) U1 U2
                        go_wp2_with fail
                        refine hc3.mono ?_
                        rintro e w4 ⟨rfl, d3, hM2, S6⟩
                        have S7 : Aside _ := S6
                        clear S6 hc3
                        go_wp2_with fail
                        first | go_end0 | refine bodyPost_ret (results_none rfl _ _ _) rfl ?_
                        exact ⟨rfl, d3, mrg_both hO T1 ⟨by omega, by omega⟩ T6 hM1 hM2, S7.out⟩
                      · have hM2 : Mrg (ltOf cf) mid b d1 d1 := Mrg.idle (by rw [show b = mid + m - st by omega]; exact U1)
                        go_wp2_with fail
                        first | go_end0 | refine bodyPost_ret (results_none rfl _ _ _) rfl ?_
                        exact ⟨rfl, d1, mrg_both hO T1 ⟨by omega, by omega⟩ T6 hM1 hM2, S8.out⟩
                    · have hM2 : Mrg (ltOf cf) mid b d1 d1 := Mrg.idle (by rw [show mid = mid + m - st by omega]; exact U2)
                      go_wp2_with fail
                      first | go_end0 | refine bodyPost_ret (results_none rfl _ _ _) rfl ?_
                      exact ⟨rfl, d1, mrg_both hO T1 ⟨by omega, by omega⟩ T6 hM1 hM2, S8.out⟩
                · have hx1 := HIX.out (fun h => r2 h.2)
                  clear hROT
                  obtain ⟨T1, T2, T3, T4, T5, T6⟩ := HMH.out d (by omega) hx1
                  by_cases p1 : a < st
                  · by_cases p2 : st < mid
                    · have hc2 := IH.out a st mid d wr (by omega) (by omega) S2.out p1 p2 (by omega) T2 T3
                      go_wp2_with fail
                      refine hc2.mono ?_
                      rintro e w3 ⟨rfl, d2, hM1, S4⟩
                      have S5 : Aside _ := S4
                      clear S4 hc2
                      have U1 : Srt (ltOf cf) (seg d2 mid (mid + m - st)) := by rw [seg_same (d := d) fun i i1 i2 => hM1.out i (.inr i1)]; exact T4
                      have U2 : Srt (ltOf cf) (seg d2 (mid + m - st) b) := by rw [seg_same (d := d) fun i i1 i2 => hM1.out i (.inr (by omega))]; exact T5
                      by_cases q1 : mid < mid + m - st
                      · by_cases q2 : mid + m - st < b
                        · have hc3 := IH.out mid (mid + m - st) b d2 w3 (by omega) (by have := hM1.size; omega) S5.out q1 q2 (by omega) U1 U2
                          go_wp2_with fail
                          refine hc3.mono ?_
                          rintro e w4 ⟨rfl, d3, hM2, S6⟩
                          have S7 : Aside _ := S6
                          clear S6 hc3
                          go_wp2_with fail
                          first | go_end0 | refine bodyPost_ret (results_none rfl _ _ _) rfl ?_
                          exact ⟨rfl, d3, mrg_both hO T1 ⟨by omega, by omega⟩ T6 hM1 hM2, S7.out⟩
                        · have hM2 : Mrg (ltOf cf) mid b d2 d2 := Mrg.idle (by rw [show b = mid + m - st by omega]; exact U1)
                          go_wp2_with fail
                          first | go_end0 | refine bodyPost_ret (results_none rfl _ _ _) rfl ?_
                          exact ⟨rfl, d2, mrg_both hO T1 ⟨by omega, by omega⟩ T6 hM1 hM2, S5.out⟩
                      · have hM2 : Mrg (ltOf cf) mid b d2 d2 := Mrg.idle (by rw [show mid = mid + m - st by omega]; exact U2)
                        go_wp2_with fail
                        first | go_end0 | refine bodyPost_ret (results_none rfl _ _ _) rfl ?_
                        exact ⟨rfl, d2, mrg_both hO T1 ⟨by omega, by omega⟩ T6 hM1 hM2, S5.out⟩
                    · have hM1 : Mrg (ltOf cf) a mid d d := Mrg.idle (by rw [show mid = st by omega]; exact T2)
                      have U1 : Srt (ltOf cf) (seg d mid (mid + m - st)) := by rw [seg_same (d := d) fun i i1 i2 => hM1.out i (.inr i1)]; exact T4
                      have U2 : Srt (ltOf cf) (seg d (mid + m - st) b) := by rw [seg_same (d := d) fun i i1 i2 => hM1.out i (.inr (by omega))]; exact T5
                      by_cases q1 : mid < mid + m - st
                      · by_cases q2 : mid + m - st < b
                        · have hc3 := IH.out mid (mid + m - st) b d wr (by omega) (by have := hM1.size; omega) S2.out q1 q2 (by omega) U1 U2
                          go_wp2_with fail
                          refine hc3.mono ?_
                          rintro e w4 ⟨rfl, d3, hM2, S6⟩
                          have S7 : Aside _ := S6
                          clear S6 hc3
                          go_wp2_with fail
                          first | go_end0 | refine bodyPost_ret (results_none rfl _ _ _) rfl ?_
                          exact ⟨rfl, d3, mrg_both hO T1 ⟨by omega, by omega⟩ T6 hM1 hM2, S7.out⟩
                        · have hM2 : Mrg (ltOf cf) mid b d d := Mrg.idle (by rw [show b = mid + m - st by omega]; exact U1)
                          go_wp2_with fail
                          first | go_end0 | refine bodyPost_ret (results_none rfl _ _ _) rfl ?_
                          exact ⟨rfl, d, mrg_both hO T1 ⟨by omega, by omega⟩ T6 hM1 hM2, S2.out⟩
                      · have hM2 : Mrg (ltOf cf) mid b d d := Mrg.idle (by rw [show mid = mid + m - st by omega]; exact U2)
                        go_wp2_with fail
                        first | go_end0 | refine bodyPost_ret (results_none rfl _ _ _) rfl ?_
                        exact ⟨rfl, d, mrg_both hO T1 ⟨by omega, by omega⟩ T6 hM1 hM2, S2.out⟩
                  · have hM1 : Mrg (ltOf cf) a mid d d := Mrg.idle (by rw [show a = st by omega]; exact T3)
                    have U1 : Srt (ltOf cf) (seg d mid (mid + m - st)) := by rw [seg_same (d := d) fun i i1 i2 => hM1.out i (.inr i1)]; exact T4
                    have U2 : Srt (ltOf cf) (seg d (mid + m - st) b) := by rw [seg_same (d := d) fun i i1 i2 => hM1.out i (.inr (by omega))]; exact T5
                    by_cases q1 : mid < mid + m - st
                    · by_cases q2 : mid + m - st < b
                      · have hc3 := IH.out mid (mid + m - st) b d wr (by omega) (by have := hM1.size; omega) S2.out q1 q2 (by omega) U1 U2
                        go_wp2_with fail
                        refine hc3.mono ?_
                        rintro e w4 ⟨rfl, d3, hM2, S6⟩
                        have S7 : Aside _ := S6
                        clear S6 hc3
                        go_wp2_with fail
                        first | go_end0 | refine bodyPost_ret (results_none rfl _ _ _) rfl ?_
                        exact ⟨rfl, d3, mrg_both hO T1 ⟨by omega, by omega⟩ T6 hM1 hM2, S7.out⟩
                      · have hM2 : Mrg (ltOf cf) mid b d d := Mrg.idle (by rw [show b = mid + m - st by omega]; exact U1)
                        go_wp2_with fail
                        first | go_end0 | refine bodyPost_ret (results_none rfl _ _ _) rfl ?_
                        exact ⟨rfl, d, mrg_both hO T1 ⟨by omega, by omega⟩ T6 hM1 hM2, S2.out⟩
                    · have hM2 : Mrg (ltOf cf) mid b d d := Mrg.idle (by rw [show mid = mid + m - st by omega]; exact U2)
                      go_wp2_with fail
                      first | go_end0 | refine bodyPost_ret (results_none rfl _ _ _) rfl ?_
                      exact ⟨rfl, d, mrg_both hO T1 ⟨by omega, by omega⟩ T6 hM1 hM2, S2.out⟩
              · have hx1 := HIX.out (fun h => r1 h.1)
                clear hROT
                obtain ⟨T1, T2, T3, T4, T5, T6⟩ := HMH.out d (by omega) hx1
                by_cases p1 : a < st
                · by_cases p2 : st < mid
                  · have hc2 := IH.out a st mid d wr (by omega) (by omega) S2.out p1 p2 (by omega) T2 T3
                    go_wp2_with fail
                    refine hc2.mono ?_
                    rintro e w3 ⟨rfl, d2, hM1, S4⟩
                    have S5 : Aside _ := S4
                    clear S4 hc2
                    have U1 : Srt (ltOf cf) (seg d2 mid (mid + m - st)) := by rw [seg_same (d := d) fun i i1 i2 => hM1.out i (.inr i1)]; exact T4
                    have U2 : Srt (ltOf cf) (seg d2 (mid + m - st) b) := by rw [seg_same (d := d) fun i i1 i2 => hM1.out i (.inr (by omega))]; exact T5
                    by_cases q1 : mid < mid + m - st
                    · by_cases q2 : mid + m - st < b
                      · have hc3 := IH.out mid (mid + m - st) b d2 w3 (by omega) (by have := hM1.size; omega) S5.out q1 q2 (by omega) U1 U2
                        go_wp2_with fail
                        refine hc3.mono ?_
                        rintro e w4 ⟨rfl, d3, hM2, S6⟩
                        have S7 : Aside _ := S6
                        clear S6 hc3
                        go_wp2_with fail
                        first | go_end0 | refine bodyPost_ret (results_none rfl _ _ _) rfl ?_
                        exact ⟨rfl, d3, mrg_both hO T1 ⟨by omega, by omega⟩ T6 hM1 hM2, S7.out⟩
                      · have hM2 : Mrg (ltOf cf) mid b d2 d2 := Mrg.idle (by rw [show b = mid + m - st by omega]; exact U1)
                        go_wp2_with fail
                        first | go_end0 | refine bodyPost_ret (results_none rfl _ _ _) rfl ?_
                        exact ⟨rfl, d2, mrg_both hO T1 ⟨by omega, by omega⟩ T6 hM1 hM2, S5.out⟩
                    · have hM2 : Mrg (ltOf cf) mid b d2 d2 := Mrg.idle (by rw [show mid = mid + m - st by omega]; exact U2)
                      go_wp2_with fail
                      first | go_end0 | refine bodyPost_ret (results_none rfl _ _ _) rfl ?_
                      exact ⟨rfl, d2, mrg_both hO T1 ⟨by omega, by omega⟩ T6 hM1 hM2, S5.out⟩
                  · have hM1 : Mrg (ltOf cf) a mid d d := Mrg.idle (by rw [show mid = st by omega]; exact T2)
                    have U1 : Srt (ltOf cf) (seg d mid (mid + m - st)) := by rw [seg_same (d := d) fun i i1 i2 => hM1.out i (.inr i1)]; exact T4
                    have U2 : Srt (ltOf cf) (seg d (mid + m - st) b) := by rw [seg_same (d := d) fun i i1 i2 => hM1.out i (.inr (by omega))]; exact T5
                    by_cases q1 : mid < mid + m - st
                    · by_cases q2 : mid + m - st < b
                      · have hc3 := IH.out mid (mid + m - st) b d wr (by omega) (by have := hM1.size; omega) S2.out q1 q2 (by omega) U1 U2
                        go_wp2_with fail
                        refine hc3.mono ?_
                        rintro e w4 ⟨rfl, d3, hM2, S6⟩
                        have S7 : Aside _ := S6
                        clear S6 hc3
                        go_wp2_with fail
                        first | go_end0 | refine bodyPost_ret (results_none rfl _ _ _) rfl ?_
                        exact ⟨rfl, d3, mrg_both hO T1 ⟨by omega, by omega⟩ T6 hM1 hM2, S7.out⟩
                      · have hM2 : Mrg (ltOf cf) mid b d d := Mrg.idle (by rw [show b = mid + m - st by omega]; exact U1)
                        go_wp2_with fail
                        first | go_end0 | refine bodyPost_ret (results_none rfl _ _ _) rfl ?_
                        exact ⟨rfl, d, mrg_both hO T1 ⟨by omega, by omega⟩ T6 hM1 hM2, S2.out⟩
                    · have hM2 : Mrg (ltOf cf) mid b d d := Mrg.idle (by rw [show mid = mid + m - st by omega]; exact U2)
                      go_wp2_with fail
                      first | go_end0 | refine bodyPost_ret (results_none rfl _ _ _) rfl ?_
                      exact ⟨rfl, d, mrg_both hO T1 ⟨by omega, by omega⟩ T6 hM1 hM2, S2.out⟩
                · have hM1 : Mrg (ltOf cf) a mid d d := Mrg.idle (by rw [show a = st by omega]; exact T3)
                  have U1 : Srt (ltOf cf) (seg d mid (mid + m - st)) := by rw [seg_same (d := d) fun i i1 i2 => hM1.out i (.inr i1)]; exact T4
                  have U2 : Srt (ltOf cf) (seg d (mid + m - st) b) := by rw [seg_same (d := d) fun i i1 i2 => hM1.out i (.inr (by omega))]; exact T5
                  by_cases q1 : mid < mid + m - st
                  · by_cases q2 : mid + m - st < b
                    · have hc3 := IH.out mid (mid + m - st) b d wr (by omega) (by have := hM1.size; omega) S2.out q1 q2 (by omega) U1 U2
                      go_wp2_with fail
                      refine hc3.mono ?_
                      rintro e w4 ⟨rfl, d3, hM2, S6⟩
                      have S7 : Aside _ := S6
                      clear S6 hc3
                      go_wp2_with fail
                      first | go_end0 | refine bodyPost_ret (results_none rfl _ _ _) rfl ?_
                      exact ⟨rfl, d3, mrg_both hO T1 ⟨by omega, by omega⟩ T6 hM1 hM2, S7.out⟩
                    · have hM2 : Mrg (ltOf cf) mid b d d := Mrg.idle (by rw [show b = mid + m - st by omega]; exact U1)
                      go_wp2_with fail
                      first | go_end0 | refine bodyPost_ret (results_none rfl _ _ _) rfl ?_
                      exact ⟨rfl, d, mrg_both hO T1 ⟨by omega, by omega⟩ T6 hM1 hM2, S2.out⟩
                  · have hM2 : Mrg (ltOf cf) mid b d d := Mrg.idle (by rw [show mid = mid + m - st by omega]; exact U2)
                    go_wp2_with fail
                    first | go_end0 | refine bodyPost_ret (results_none rfl _ _ _) rfl ?_
                    exact ⟨rfl, d, mrg_both hO T1 ⟨by omega, by omega⟩ T6 hM1 hM2, S2.out⟩
        · have hmz : ¬ (mid : Int) < (m : Int) := by omega
          go_wp2_with fail
          go_loopg [20, 21, 23] (m - a) (fun kx s20 s21 s23 wr => ∃ (st r : Nat), s20 = .int .i64 st ∧ s21 = .int .i64 r ∧ a ≤ st ∧ st ≤ r ∧ r ≤ m ∧ r - st ≤ kx ∧ Hid (∀ c, a ≤ c → c < st → ltOf cf d[mid + m - 1 - c]! d[c]! = false) ∧ Hid (∀ c, r ≤ c → c < m → ltOf cf d[mid + m - 1 - c]! d[c]! = true) ∧ Aside (SWK enc k w0 blk off d wr))
          case atStart => exact ⟨a, m, rfl, rfl, Nat.le_refl _, by omega, Nat.le_refl _, Nat.le_refl _, Lib.hid fun c h1 h2 => by omega, Lib.hid fun c h1 h2 => by omega, S0⟩
          case round =>
            clear S0
            obtain ⟨st, r, rfl, rfl, hst, hsr, hr, hkx, HA1, HA2, S2⟩ := hrel
            by_cases hlt : st < r
            · have hlz : (st : Int) < (r : Int) := by omega
              obtain ⟨c, hc0⟩ : ∃ c, c = (st + r) / 2 := ⟨_, rfl⟩
              have hq : ((st : Int) + (r : Int)) / 2 = (c : Int) := by omega
              have c1 : st ≤ c := by omega
              have c2 : c < r := by omega
              have hpx : (c : Int) ≤ (mid : Int) + (m : Int) - 1 := by omega
              clear hc0
              cases hL : ltOf cf d[mid + m - 1 - c]! d[c]!
              · have ea5 : ((mid : Int) + (m : Int) - 1 - (c : Int)).toNat = mid + m - 1 - c := by omega
                have pa5 : (0 : Int) ≤ (mid : Int) + (m : Int) - 1 - (c : Int) := by omega
                have ba5 : (mid : Int) + (m : Int) - 1 - (c : Int) < (len : Int) := by omega
                have ra5 : IntKind.i64.wrap ((mid : Int) + (m : Int) - 1 - (c : Int)) = (mid : Int) + (m : Int) - 1 - (c : Int) := by rw [IntKind.wrap_i64]; omega
                have ec5 : ((c : Int)).toNat = c := by omega
                have pc5 : (0 : Int) ≤ (c : Int) := by omega
                have bc5 : (c : Int) < (len : Int) := by omega
                have rc5 : IntKind.i64.wrap ((c : Int)) = (c : Int) := by rw [IntKind.wrap_i64]; omega
                obtain ⟨x5, hx5⟩ : ∃ x, x = d[mid + m - 1 - c]! := ⟨_, rfl⟩
                obtain ⟨y5, hy5⟩ : ∃ x, x = d[c]! := ⟨_, rfl⟩
                have l5a := S2.out.ld R (by omega) Try.prog (mid + m - 1 - c) (by omega)
                have l5b := S2.out.ld R (by omega) Try.prog (c) (by omega)
                rw [← hx5] at l5a
                rw [← hy5] at l5b
                have hc5 := S2.out.cmp HC.out (by omega) x5 y5
                have hv5 : ¬ cf x5 y5 < 0 := by rw [hx5, hy5]; exact of_decide_eq_false hL
                have hd5 : decide (cf x5 y5 < 0) = false := decide_eq_false hv5
                clear hx5 hy5
                go_wp2_with fail
                go_quiet_grown (first | (go_at_fn g; refine Calls.grown_of (hc5 _ _)))
                have S3 : Aside (SWK enc k w0 blk off d (grow (wr.drewN nq) osq)) := S2.out.grown nq osq
                clear l5a l5b hc5 S2
                generalize grow (wr.drewN nq) osq = w2 at S3 ⊢
                clear nq osq
                go_wp2_with fail
                go_roundg (r - (c + 1))
                case measure => omega
                case rel => exact ⟨c + 1, r, by simp, rfl, by omega, by omega, hr, Nat.le_refl _, Lib.hid (sym_up hO hL HL.out HR.out HA1.out (by omega) (by omega) (by omega) (by omega)), HA2, S3⟩
              · have ea5 : ((mid : Int) + (m : Int) - 1 - (c : Int)).toNat = mid + m - 1 - c := by omega
                have pa5 : (0 : Int) ≤ (mid : Int) + (m : Int) - 1 - (c : Int) := by omega
                have ba5 : (mid : Int) + (m : Int) - 1 - (c : Int) < (len : Int) := by omega
                have ra5 : IntKind.i64.wrap ((mid : Int) + (m : Int) - 1 - (c : Int)) = (mid : Int) + (m : Int) - 1 - (c : Int) := by rw [IntKind.wrap_i64]; omega
                have ec5 : ((c : Int)).toNat = c := by omega
                have pc5 : (0 : Int) ≤ (c : Int) := by omega
                have bc5 : (c : Int) < (len : Int) := by omega
                have rc5 : IntKind.i64.wrap ((c : Int)) = (c : Int) := by rw [IntKind.wrap_i64]; omega
                obtain ⟨x5, hx5⟩ : ∃ x, x = d[mid + m - 1 - c]! := ⟨_, rfl⟩
                obtain ⟨y5, hy5⟩ : ∃ x, x = d[c]! := ⟨_, rfl⟩
                have l5a := S2.out.ld R (by omega) Try.prog (mid + m - 1 - c) (by omega)
                have l5b := S2.out.ld R (by omega) Try.prog (c) (by omega)
                rw [← hx5] at l5a
                rw [← hy5] at l5b
                have hc5 := S2.out.cmp HC.out (by omega) x5 y5
                have hv5 : cf x5 y5 < 0 := by rw [hx5, hy5]; exact of_decide_eq_true hL
                have hd5 : decide (cf x5 y5 < 0) = true := decide_eq_true hv5
                clear hx5 hy5
                go_wp2_with fail
                go_quiet_grown (first | (go_at_fn g; refine Calls.grown_of (hc5 _ _)))
                have S3 : Aside (SWK enc k w0 blk off d (grow (wr.drewN nq) osq)) := S2.out.grown nq osq
                clear l5a l5b hc5 S2
                generalize grow (wr.drewN nq) osq = w2 at S3 ⊢
                clear nq osq
                go_wp2_with fail
                go_roundg (c - st)
                case measure => omega
                case rel => exact ⟨st, c, rfl, rfl, hst, c1, by omega, Nat.le_refl _, HA1, Lib.hid (sym_dn hO hL HL.out HR.out HA2.out (by omega) (by omega) (by omega) (by omega)), S3⟩
            · obtain rfl : st = r := by omega
              have hlz : ¬ (st : Int) < (st : Int) := by omega
              have rwe : IntKind.i64.wrap ((mid : Int) + (m : Int) - (st : Int)) = ((mid + m - st : Nat) : Int) := by rw [IntKind.wrap_i64]; omega
              have HMH := Lib.hid (fun (d1 : Array α) (e1 : d1.size = d.size) (e2 : ∀ i, d1[i]! = d[rix st m (mid + m - st) i]!) => mrg_half hO e1 (a := a) (b := b) (mid := mid) (by omega) (by omega) (by omega) (by omega) (by omega) ⟨by omega, by omega⟩ e2 HL.out HR.out (fun q1 q2 => by have := HA2.out st (Nat.le_refl _) (by omega); rwa [show mid + m - 1 - st = mid + m - st - 1 by omega] at this) (fun q1 q2 => by have := HA1.out (st - 1) (by omega) (by omega); rwa [show mid + m - 1 - (st - 1) = mid + m - st by omega] at this))
              have HIX : Hid (¬ (st < m ∧ m < mid + m - st) → ∀ i, d[i]! = d[rix st m (mid + m - st) i]!) := Lib.hid fun q i => by
                congr 1
                unfold rix
                repeat' split
                all_goals omega
              have hROT := rotate_any k aE zE enc (.func (.func g) #[] cb) blk off cap st m (mid + m - st) d0 d w0 wr R (by omega) S2.out
              by_cases r1 : st < m
              · by_cases r2 : m < mid + m - st
                · have hc := hROT r1 r2 (by omega) (by omega)
                  rw [hds] at hc
                  clear hROT
                  go_wp2_with fail
                  refine hc.mono ?_
                  rintro e w1 ⟨rfl, d1, hd1, hx1, S3⟩
                  have S8 : Aside _ := S3
                  clear S3 hc S2
                  obtain ⟨T1, T2, T3, T4, T5, T6⟩ := HMH.out d1 (by omega) hx1
                  by_cases p1 : a < st
                  · by_cases p2 : st < mid
                    · have hc2 := IH.out a st mid d1 w1 (by omega) (by omega) S8.out p1 p2 (by omega) T2 T3
                      go_wp2_with fail
                      refine hc2.mono ?_
                      rintro e w3 ⟨rfl, d2, hM1, S4⟩
                      have S5 : Aside _ := S4
                      clear S4 hc2
                      have U1 : Srt (ltOf cf) (seg d2 mid (mid + m - st)) := by rw [seg_same (d := d1) fun i i1 i2 => hM1.out i (.inr i1)]; exact T4
                      have U2 : Srt (ltOf cf) (seg d2 (mid + m - st) b) := by rw [seg_same (d := d1) fun i i1 i2 => hM1.out i (.inr (by omega))]; exact T5
                      by_cases q1 : mid < mid + m - st
                      · by_cases q2 : mid + m - st < b
                        · have hc3 := IH.out mid (mid + m - st) b d2 w3 (by omega) (by have := hM1.size; omega) S5.out q1 q2 (by omega) U1 U2
                          go_wp2_with fail
                          refine hc3.mono ?_
                          rintro e w4 ⟨rfl, d3, hM2, S6⟩
                          have S7 : Aside _ := S6
                          clear S6 hc3
                          go_wp2_with fail
                          first | go_end0 | refine bodyPost_ret (results_none rfl _ _ _) rfl ?_
                          exact ⟨rfl, d3, mrg_both hO T1 ⟨by omega, by omega⟩ T6 hM1 hM2, S7.out⟩
                        · have hM2 : Mrg (ltOf cf) mid b d2 d2 := Mrg.idle (by rw [show b = mid + m - st by omega]; exact U1)
                          go_wp2_with fail
                          first | go_end0 | refine bodyPost_ret (results_none rfl _ _ _) rfl ?_
                          exact ⟨rfl, d2, mrg_both hO T1 ⟨by omega, by omega⟩ T6 hM1 hM2, S5.out⟩
                      · have hM2 : Mrg (ltOf cf) mid b d2 d2 := Mrg.idle (by rw [show mid = mid + m - st by omega]; exact U2)
                        go_wp2_with fail
                        first | go_end0 | refine bodyPost_ret (results_none rfl _ _ _) rfl ?_
                        exact ⟨rfl, d2, mrg_both hO T1 ⟨by omega, by omega⟩ T6 hM1 hM2, S5.out⟩
                    · have hM1 : Mrg (ltOf cf) a mid d1 d1 := Mrg.idle (by rw [show mid = st by omega]; exact T2)
                      have U1 : Srt (ltOf cf) (seg d1 mid (mid + m - st)) := by rw [seg_same (d := d1) fun i i1 i2 => hM1.out i (.inr i1)]; exact T4
                      have U2 : Srt (ltOf cf) (seg d1 (mid + m - st) b) := by rw [seg_same (d := d1) fun i i1 i2 => hM1.out i (.inr (by omega))]; exact T5
                      by_cases q1 : mid < mid + m - st
                      · by_cases q2 : mid + m - st < b
                        · have hc3 := IH.out mid (mid + m - st) b d1 w1 (by omega) (by have := hM1.size; omega) S8.out q1 q2 (by omega) U1 U2
                          go_wp2_with fail
                          refine hc3.mono ?_
                          rintro e w4 ⟨rfl, d3, hM2, S6⟩
                          have S7 : Aside _ := S6
                          clear S6 hc3
                          go_wp2_with fail
                          first | go_end0 | refine bodyPost_ret (results_none rfl _ _ _) rfl ?_
                          exact ⟨rfl, d3, mrg_both hO T1 ⟨by omega, by omega⟩ T6 hM1 hM2, S7.out⟩
                        · have hM2 : Mrg (ltOf cf) mid b d1 d1 := Mrg.idle (by rw [show b = mid + m - st by omega]; exact U1)
                          go_wp2_with fail
                          first | go_end0 | refine bodyPost_ret (results_none rfl _ _ _) rfl ?_
                          exact ⟨rfl, d1, mrg_both hO T1 ⟨by omega, by omega⟩ T6 hM1 hM2, S8.out⟩
                      · have hM2 : Mrg (ltOf cf) mid b d1 d1 := Mrg.idle (by rw [show mid = mid + m - st by omega]; exact U2)
                        go_wp2_with fail
                        first | go_end0 | refine bodyPost_ret (results_none rfl _ _ _) rfl ?_
                        exact ⟨rfl, d1, mrg_both hO T1 ⟨by omega, by omega⟩ T6 hM1 hM2, S8.out⟩
                  · have hM1 : Mrg (ltOf cf) a mid d1 d1 := Mrg.idle (by rw [show a = st by omega]; exact T3)
                    have U1 : Srt (ltOf cf) (seg d1 mid (mid + m - st)) := by rw [seg_same (d := d1) fun i i1 i2 => hM1.out i (.inr i1)]; exact T4
                    have U2 : Srt (ltOf cf) (seg d1 (mid + m - st) b) := by rw [seg_same (d := d1) fun i i1 i2 => hM1.out i (.inr (by omega))]; exact T5
                    by_cases q1 : mid < mid + m - st
                    · by_cases q2 : mid + m - st < b
                      · have hc3 := IH.out mid (mid + m - st) b d1 w1 (by omega) (by have := hM1.size; omega) S8.out q1 q2 (by omega) U1 U2
                        go_wp2_with fail
                        refine hc3.mono ?_
                        rintro e w4 ⟨rfl, d3, hM2, S6⟩
                        have S7 : Aside _ := S6
                        clear S6 hc3
                        go_wp2_with fail
                        first | go_end0 | refine bodyPost_ret (results_none rfl _ _ _) rfl ?_
                        exact ⟨rfl, d3, mrg_both hO T1 ⟨by omega, by omega⟩ T6 hM1 hM2, S7.out⟩
                      · have hM2 : Mrg (ltOf cf) mid b d1 d1 := Mrg.idle (by rw [show b = mid + m - st by omega]; exact U1)
                        go_wp2_with fail
                        first | go_end0 | refine bodyPost_ret (results_none rfl _ _ _) rfl ?_
                        exact ⟨rfl, d1, mrg_both hO T1 ⟨by omega, by omega⟩ T6 hM1 hM2, S8.out⟩
                    · have hM2 : Mrg (ltOf cf) mid b d1 d1 := Mrg.idle (by rw [show mid = mid + m - st by omega]; exact U2)
                      go_wp2_with fail
                      first | go_end0 | refine bodyPost_ret (results_none rfl _ _ _) rfl ?_
                      exact ⟨rfl, d1, mrg_both hO T1 ⟨by omega, by omega⟩ T6 hM1 hM2, S8.out⟩
                · have hx1 := HIX.out (fun h => r2 h.2)
                  clear hROT
                  obtain ⟨T1, T2, T3, T4, T5, T6⟩ := HMH.out d (by omega) hx1
                  by_cases p1 : a < st
                  · by_cases p2 : st < mid
                    · have hc2 := IH.out a st mid d wr (by omega) (by omega) S2.out p1 p2 (by omega) T2 T3
                      go_wp2_with fail
                      refine hc2.mono ?_
                      rintro e w3 ⟨rfl, d2, hM1, S4⟩
                      have S5 : Aside _ := S4
                      clear S4 hc2
                      have U1 : Srt (ltOf cf) (seg d2 mid (mid + m - st)) := by rw [seg_same (d := d) fun i i1 i2 => hM1.out i (.inr i1)]; exact T4
                      have U2 : Srt (ltOf cf) (seg d2 (mid + m - st) b) := by rw [seg_same (d := d) fun i i1 i2 => hM1.out i (.inr (by omega))]; exact T5
                      by_cases q1 : mid < mid + m - st
                      · by_cases q2 : mid + m - st < b
                        · have hc3 := IH.out mid (mid + m - st) b d2 w3 (by omega) (by have := hM1.size; omega) S5.out q1 q2 (by omega) U1 U2
                          go_wp2_with fail
                          refine hc3.mono ?_
                          rintro e w4 ⟨rfl, d3, hM2, S6⟩
                          have S7 : Aside _ := S6
                          clear S6 hc3
                          go_wp2_with fail
                          first | go_end0 | refine bodyPost_ret (results_none rfl _ _ _) rfl ?_
                          exact ⟨rfl, d3, mrg_both hO T1 ⟨by omega, by omega⟩ T6 hM1 hM2, S7.out⟩
                        · have hM2 : Mrg (ltOf cf) mid b d2 d2 := Mrg.idle (by rw [show b = mid + m - st by omega]; exact U1)
                          go_wp2_with fail
                          first | go_end0 | refine bodyPost_ret (results_none rfl _ _ _) rfl ?_
                          exact ⟨rfl, d2, mrg_both hO T1 ⟨by omega, by omega⟩ T6 hM1 hM2, S5.out⟩
                      · have hM2 : Mrg (ltOf cf) mid b d2 d2 := Mrg.idle (by rw [show mid = mid + m - st by omega]; exact U2)
                        go_wp2_with fail
                        first | go_end0 | refine bodyPost_ret (results_none rfl _ _ _) rfl ?_
                        exact ⟨rfl, d2, mrg_both hO T1 ⟨by omega, by omega⟩ T6 hM1 hM2, S5.out⟩
                    · have hM1 : Mrg (ltOf cf) a mid d d := Mrg.idle (by rw [show mid = st by omega]; exact T2)
                      have U1 : Srt (ltOf cf) (seg d mid (mid + m - st)) := by rw [seg_same (d := d) fun i i1 i2 => hM1.out i (.inr i1)]; exact T4
                      have U2 : Srt (ltOf cf) (seg d (mid + m - st) b) := by rw [seg_same (d := d) fun i i1 i2 => hM1.out i (.inr (by omega))]; exact T5
                      by_cases q1 : mid < mid + m - st
                      · by_cases q2 : mid + m - st < b
                        · have hc3 := IH.out mid (mid + m - st) b d wr (by omega) (by have := hM1.size; omega) S2.out q1 q2 (by omega) U1 U2
                          go_wp2_with fail
                          refine hc3.mono ?_
                          rintro e w4 ⟨rfl, d3, hM2, S6⟩
                          have S7 : Aside _ := S6
                          clear S6 hc3
                          go_wp2_with fail
                          first | go_end0 | refine bodyPost_ret (results_none rfl _ _ _) rfl ?_
                          exact ⟨rfl, d3, mrg_both hO T1 ⟨by omega, by omega⟩ T6 hM1 hM2, S7.out⟩
                        · have hM2 : Mrg (ltOf cf) mid b d d := Mrg.idle (by rw [show b = mid + m - st by omega]; exact U1)
                          go_wp2_with fail
                          first | go_end0 | refine bodyPost_ret (results_none rfl _ _ _) rfl ?_
                          exact ⟨rfl, d, mrg_both hO T1 ⟨by omega, by omega⟩ T6 hM1 hM2, S2.out⟩
                      · have hM2 : Mrg (ltOf cf) mid b d d := Mrg.idle (by rw [show mid = mid + m - st by omega]; exact U2)
                        go_wp2_with fail
                        first | go_end0 | refine bodyPost_ret (results_none rfl _ _ _) rfl ?_
                        exact ⟨rfl, d, mrg_both hO T1 ⟨by omega, by omega⟩ T6 hM1 hM2, S2.out⟩
                  · have hM1 : Mrg (ltOf cf) a mid d d := Mrg.idle (by rw [show a = st by omega]; exact T3)
                    have U1 : Srt (ltOf cf) (seg d mid (mid + m - st)) := by rw [seg_same (d := d) fun i i1 i2 => hM1.out i (.inr i1)]; exact T4
                    have U2 : Srt (ltOf cf) (seg d (mid + m - st) b) := by rw [seg_same (d := d) fun i i1 i2 => hM1.out i (.inr (by omega))]; exact T5
                    by_cases q1 : mid < mid + m - st
                    · by_cases q2 : mid + m - st < b
                      · have hc3 := IH.out mid (mid + m - st) b d wr (by omega) (by have := hM1.size; omega) S2.out q1 q2 (by omega) U1 U2
                        go_wp2_with fail
                        refine hc3.mono ?_
                        rintro e w4 ⟨rfl, d3, hM2, S6⟩
                        have S7 : Aside _ := S6
                        clear S6 hc3
                        go_wp2_with fail
                        first | go_end0 | refine bodyPost_ret (results_none rfl _ _ _) rfl ?_
                        exact ⟨rfl, d3, mrg_both hO T1 ⟨by omega, by omega⟩ T6 hM1 hM2, S7.out⟩
                      · have hM2 : Mrg (ltOf cf) mid b d d := Mrg.idle (by rw [show b = mid + m - st by omega]; exact U1)
                        go_wp2_with fail
                        first | go_end0 | refine bodyPost_ret (results_none rfl _ _ _) rfl ?_
                        exact ⟨rfl, d, mrg_both hO T1 ⟨by omega, by omega⟩ T6 hM1 hM2, S2.out⟩
                    · have hM2 : Mrg (ltOf cf) mid b d d := Mrg.idle (by rw [show mid = mid + m - st by omega]; exact U2)
                      go_wp2_with fail
                      first | go_end0 | refine bodyPost_ret (results_none rfl _ _ _) rfl ?_
                      exact ⟨rfl, d, mrg_both hO T1 ⟨by omega, by omega⟩ T6 hM1 hM2, S2.out⟩
              · have hx1 := HIX.out (fun h => r1 h.1)
                clear hROT
                obtain ⟨T1, T2, T3, T4, T5, T6⟩ := HMH.out d (by omega) hx1
                by_cases p1 : a < st
                · by_cases p2 : st < mid
                  · have hc2 := IH.out a st mid d wr (by omega) (by omega) S2.out p1 p2 (by omega) T2 T3
                    go_wp2_with fail
                    refine hc2.mono ?_
                    rintro e w3 ⟨rfl, d2, hM1, S4⟩
                    have S5 : Aside _ := S4
                    clear S4 hc2
                    have U1 : Srt (ltOf cf) (seg d2 mid (mid + m - st)) := by rw [seg_same (d := d) fun i i1 i2 => hM1.out i (.inr i1)]; exact T4
                    have U2 : Srt (ltOf cf) (seg d2 (mid + m - st) b) := by rw [seg_same (d := d) fun i i1 i2 => hM1.out i (.inr (by omega))]; exact T5
                    by_cases q1 : mid < mid + m - st
                    · by_cases q2 : mid + m - st < b
                      · have hc3 := IH.out mid (mid + m - st) b d2 w3 (by omega) (by have := hM1.size; omega) S5.out q1 q2 (by omega) U1 U2
                        go_wp2_with fail
                        refine hc3.mono ?_
                        rintro e w4 ⟨rfl, d3, hM2, S6⟩
                        have S7 : Aside _ := S6
                        clear S6 hc3
                        go_wp2_with fail
                        first | go_end0 | refine bodyPost_ret (results_none rfl _ _ _) rfl ?_
                        exact ⟨rfl, d3, mrg_both hO T1 ⟨by omega, by omega⟩ T6 hM1 hM2, S7.out⟩
                      · have hM2 : Mrg (ltOf cf) mid b d2 d2 := Mrg.idle (by rw [show b = mid + m - st by omega]; exact U1)
                        go_wp2_with fail
                        first | go_end0 | refine bodyPost_ret (results_none rfl _ _ _) rfl ?_
                        exact ⟨rfl, d2, mrg_both hO T1 ⟨by omega, by omega⟩ T6 hM1 hM2, S5.out⟩
                    · have hM2 : Mrg (ltOf cf) mid b d2 d2 := Mrg.idle (by rw [show mid = mid + m - st by omega]; exact U2)
                      go_wp2_with fail
                      first | go_end0 | refine bodyPost_ret (results_none rfl _ _ _) rfl ?_
                      exact ⟨rfl, d2, mrg_both hO T1 ⟨by omega, by omega⟩ T6 hM1 hM2, S5.out⟩
                  · have hM1 : Mrg (ltOf cf) a mid d d := Mrg.idle (by rw [show mid = st by omega]; exact T2)
                    have U1 : Srt (ltOf cf) (seg d mid (mid + m - st)) := by rw [seg_same (d := d) fun i i1 i2 => hM1.out i (.inr i1)]; exact T4
                    have U2 : Srt (ltOf cf) (seg d (mid + m - st) b) := by rw [seg_same (d := d) fun i i1 i2 => hM1.out i (.inr (by omega))]; exact T5
                    by_cases q1 : mid < mid + m - st
                    · by_cases q2 : mid + m - st < b
                      · have hc3 := IH.out mid (mid + m - st) b d wr (by omega) (by have := hM1.size; omega) S2.out q1 q2 (by omega) U1 U2
                        go_wp2_with fail
                        refine hc3.mono ?_
                        rintro e w4 ⟨rfl, d3, hM2, S6⟩
                        have S7 : Aside _ := S6
                        clear S6 hc3
                        go_wp2_with fail
                        first | go_end0 | refine bodyPost_ret (results_none rfl _ _ _) rfl ?_
                        exact ⟨rfl, d3, mrg_both hO T1 ⟨by omega, by omega⟩ T6 hM1 hM2, S7.out⟩
                      · have hM2 : Mrg (ltOf cf) mid b d d := Mrg.idle (by rw [show b = mid + m - st by omega]; exact U1)
                        go_wp2_with fail
                        first | go_end0 | refine bodyPost_ret (results_none rfl _ _ _) rfl ?_
                        exact ⟨rfl, d, mrg_both hO T1 ⟨by omega, by omega⟩ T6 hM1 hM2, S2.out⟩
                    · have hM2 : Mrg (ltOf cf) mid b d d := Mrg.idle (by rw [show mid = mid + m - st by omega]; exact U2)
                      go_wp2_with fail
                      first | go_end0 | refine bodyPost_ret (results_none rfl _ _ _) rfl ?_
                      exact ⟨rfl, d, mrg_both hO T1 ⟨by omega, by omega⟩ T6 hM1 hM2, S2.out⟩
                · have hM1 : Mrg (ltOf cf) a mid d d := Mrg.idle (by rw [show a = st by omega]; exact T3)
                  have U1 : Srt (ltOf cf) (seg d mid (mid + m - st)) := by rw [seg_same (d := d) fun i i1 i2 => hM1.out i (.inr i1)]; exact T4
                  have U2 : Srt (ltOf cf) (seg d (mid + m - st) b) := by rw [seg_same (d := d) fun i i1 i2 => hM1.out i (.inr (by omega))]; exact T5
                  by_cases q1 : mid < mid + m - st
                  · by_cases q2 : mid + m - st < b
                    · have hc3 := IH.out mid (mid + m - st) b d wr (by omega) (by have := hM1.size; omega) S2.out q1 q2 (by omega) U1 U2
                      go_wp2_with fail
                      refine hc3.mono ?_
                      rintro e w4 ⟨rfl, d3, hM2, S6⟩
                      have S7 : Aside _ := S6
                      clear S6 hc3
                      go_wp2_with fail
                      first | go_end0 | refine bodyPost_ret (results_none rfl _ _ _) rfl ?_
                      exact ⟨rfl, d3, mrg_both hO T1 ⟨by omega, by omega⟩ T6 hM1 hM2, S7.out⟩
                    · have hM2 : Mrg (ltOf cf) mid b d d := Mrg.idle (by rw [show b = mid + m - st by omega]; exact U1)
                      go_wp2_with fail
                      first | go_end0 | refine bodyPost_ret (results_none rfl _ _ _) rfl ?_
                      exact ⟨rfl, d, mrg_both hO T1 ⟨by omega, by omega⟩ T6 hM1 hM2, S2.out⟩
                  · have hM2 : Mrg (ltOf cf) mid b d d := Mrg.idle (by rw [show mid = mid + m - st by omega]; exact U2)
                    go_wp2_with fail
                    first | go_end0 | refine bodyPost_ret (results_none rfl _ _ _) rfl ?_
                    exact ⟨rfl, d, mrg_both hO T1 ⟨by omega, by omega⟩ T6 hM1 hM2, S2.out⟩

end Go.Proofs.Ytlmngncogomgeaa
