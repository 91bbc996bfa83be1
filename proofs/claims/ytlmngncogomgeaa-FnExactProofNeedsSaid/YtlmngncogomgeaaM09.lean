/- Of the proof of FnExactProofNeeds: Args, CmpF. -/
import Derived.Test.YtlmngncogomgeaaRows
import Derived.Test.YtlmngncogomgeaaM07
import Derived.ProofKit
import Derived.OpenShut
import Derived.ShutString
namespace Go.Proofs.Ytlmngncogomgeaa
open Go.RowKit D Go.ChangeShapes Go.WideShapes
set_option linter.unusedVariables false
theorem own : ownKnob Try.prog.godebug = none := by kernel_rfl

theorem laidOut : laidOutB Try.prog = true := by kernel_rfl

theorem open_in {α : Type} {P : Program} {t : TypeId} {R : Rel α} (hO : Opens P t R) {H : Type} {enc : TypeId × Value → H} {w : World} {spare : Nat → Bool} {held : Bool} {v : Value} {d : DataW H} {ps : List MemPlace}
    (h : DataW.Trod enc P w 0 spare held t v d ps) : ∃ x bs, R w v.cells.toList x bs := by
  obtain ⟨fuel, hf⟩ := h
  exact hO H enc w spare held fuel _ _ hf

theorem agg4 {cs : Array Value} {n : Nat} (h : cs.size = n) (hn : n = 4) : ∃ a b c d, cs = #[a, b, c, d] := by
  obtain ⟨l⟩ := cs
  subst hn
  match l, h with
  | [a, b, c, d], _ => exact ⟨a, b, c, d, rfl⟩

theorem opTerm : Opens Try.prog 83 termK := opens_term Try.underlying83 (by kernel_rfl) Try.underlying4 Try.underlying9 (by kernel_rfl) (by kernel_rfl) rfl rfl

theorem opTerms : Opens Try.prog 22 termsK := opens_slice Try.underlying22 (by kernel_rfl) (by omega) opTerm

theorem opAtom : Opens Try.prog 24 atomK := opens_atom Try.underlying24 (by kernel_rfl) Try.underlying9 opTerms (by kernel_rfl) (by kernel_rfl) rfl rfl

end Go.Proofs.Ytlmngncogomgeaa
namespace Go.Proofs.Ytlmngncogomgeaa
open Go.Shelf Go.RowKit Go.Lib Go.Sort D
set_option linter.unusedVariables false
section
variable {α : Type} [Inhabited α]
/-- What is kept of the first m: not what is alike to its forerunner. -/
def D.kepU (eq : α → α → Bool) (d : Array α) : Nat → List α
  | 0 => []
  | m + 1 => if 0 < m ∧ eq d[m]! d[m - 1]! = true then kepU eq d m else kepU eq d m ++ [d[m]!]

theorem D.kepU_len (eq : α → α → Bool) (d : Array α) (m : Nat) : (kepU eq d m).length ≤ m := by
  induction m with
  | zero => simp [kepU]
  | succ m ih =>
    rw [kepU]
    split
    · omega
    · simp; omega

theorem D.kepU_all {eq : α → α → Bool} {d : Array α} {m : Nat} (h : ∀ j, 0 < j → j < m → eq d[j]! d[j - 1]! = false) : kepU eq d m = seg d 0 m := by
  induction m with
  | zero => rfl
  | succ m ih =>
    rw [kepU, if_neg, ih (fun j h1 h2 => h j h1 (by omega)), seg_append d (a := 0) (m := m) (b := m + 1) (Nat.zero_le _) (by omega), seg_one]
    rintro ⟨h1, h2⟩
    rw [h m h1 (by omega)] at h2
    cases h2

theorem D.seg_get (d : Array α) (m i : Nat) (h : i < m) : (seg d 0 m)[i]! = d[i]! := by
  unfold seg
  rw [getElem!_pos _ i (by simpa using h)]
  simp

/-- A row of which the first places hold what is kept so far. -/
structure D.CInv (eq : α → α → Bool) (d : Array α) (m kk : Nat) (dk : Array α) : Prop where
  size : dk.size = d.size
  len : (kepU eq d m).length = kk
  low : ∀ i, i < kk → dk[i]! = (kepU eq d m)[i]!
  high : ∀ i, kk ≤ i → dk[i]! = d[i]!
  lt : kk < m

theorem D.CInv.start {eq : α → α → Bool} {d : Array α} {k : Nat} (h0 : 0 < k) (h : ∀ j, 0 < j → j < k → eq d[j]! d[j - 1]! = false) (he : eq d[k]! d[k - 1]! = true) : CInv eq d (k + 1) k d := by
  have e : kepU eq d (k + 1) = seg d 0 k := by rw [kepU, if_pos ⟨h0, he⟩, kepU_all h]
  refine ⟨rfl, by rw [e, seg_len]; omega, fun i hi => ?_, fun _ _ => rfl, by omega⟩
  rw [e, seg_get d k i hi]

theorem D.CInv.skip {eq : α → α → Bool} {d dk : Array α} {m kk : Nat} (h : CInv eq d m kk dk) (he : eq d[m]! d[m - 1]! = true) : CInv eq d (m + 1) kk dk := by
  have e : kepU eq d (m + 1) = kepU eq d m := by rw [kepU, if_pos ⟨by have := h.lt; omega, he⟩]
  exact ⟨h.size, by rw [e]; exact h.len, fun i hi => by rw [e]; exact h.low i hi, h.high, by have := h.lt; omega⟩

theorem D.set_get! (d : Array α) (i : Nat) (x : α) (hi : i < d.size) (j : Nat) : (d.setIfInBounds i x)[j]! = if j = i then x else d[j]! := by
  by_cases hj : j < d.size
  · rw [getElem!_pos _ j (by simpa using hj), Array.getElem_setIfInBounds]
    by_cases h : i = j
    · rw [if_pos h, if_pos h.symm]
    · rw [if_neg h, if_neg (Ne.symm h), getElem!_pos d j hj]
  · rw [getElem!_neg _ j (by simpa using hj), if_neg (by omega), getElem!_neg _ j hj]

theorem D.CInv.keep {eq : α → α → Bool} {d dk : Array α} {m kk : Nat} (h : CInv eq d m kk dk) (hm : m < d.size) (he : eq d[m]! d[m - 1]! = false) : CInv eq d (m + 1) (kk + 1) (dk.setIfInBounds kk d[m]!) := by
  have e : kepU eq d (m + 1) = kepU eq d m ++ [d[m]!] := by
    rw [kepU, if_neg]
    rintro ⟨_, h2⟩
    rw [he] at h2; cases h2
  have hl := h.len
  have hlt := h.lt
  have hs := h.size
  refine ⟨by rw [Array.size_setIfInBounds]; exact hs, by rw [e, List.length_append, hl]; rfl, fun i hi => ?_, fun i hi => ?_, by omega⟩
  · rw [set_get! _ _ _ (by omega), e]
    by_cases h1 : i = kk
    · rw [if_pos h1, h1, getElem!_pos _ kk (by rw [List.length_append, hl]; simp), List.getElem_append_right (by omega)]
      simp [hl]
    · rw [if_neg h1, h.low i (by omega), getElem!_pos _ i (by omega), getElem!_pos _ i (by rw [List.length_append]; omega), List.getElem_append_left]
  · rw [set_get! _ _ _ (by omega), if_neg (by omega)]
    exact h.high i (by omega)

theorem D.setMany_set (enc : α → List Value) (k : Nat) (hk : ∀ x, (enc x).length = k) (d : Array α) (i : Nat) (hi : i < d.size) (x : α) : setMany (flatK enc k d) (i * k) (enc x) = flatK enc k (d.setIfInBounds i x) := by
  refine ext_get! (by simp) fun t ht => ?_
  have ht' : t < d.size * k := by simpa using ht
  have k0 : 0 < k := by
    rcases Nat.eq_zero_or_pos k with h | h
    · subst h; simp at ht'
    · exact h
  rw [get_setMany _ _ _ t (by simpa using ht'), get_flatK _ _ _ t ht', get_flatK _ _ _ t (by simpa using ht'), hk, set_get! _ _ _ hi]
  have m : ∀ q, t / k = q → t - q * k = t % k := fun q h => by subst h; rw [Nat.mod_eq_sub_div_mul]
  by_cases a : t / k = i
  · rw [if_pos ((blk_iff k i t k0).2 a), m i a, if_pos a]
  · rw [if_neg (fun h => a ((blk_iff k i t k0).1 h)), if_neg a]

theorem D.swk_set {enc : α → List Value} {k : Nat} {w0 W : World} {blk off : Nat} {dk : Array α} (h : SWK enc k w0 blk off dk W) (hk : ∀ x, (enc x).length = k) (hblk : blk < w0.heap.size) (i : Nat) (hi : i < dk.size) (x : α) :
    SWK enc k w0 blk off (dk.setIfInBounds i x) (W.setCells blk (off + i * k) (enc x)) := by
  obtain ⟨n, os, rfl⟩ := h
  refine ⟨n, os, ?_⟩
  unfold sortWorldK
  have b : i * k + k ≤ dk.size * k := by
    have := Nat.mul_le_mul_right k (show i + 1 ≤ dk.size from hi); rwa [Nat.add_mul, Nat.one_mul] at this
  rw [← putRowK_grow enc k (Sort.ahead w0 n) os blk off dk hblk, ← putRowK_grow enc k (Sort.ahead w0 n) os blk off _ hblk]
  unfold putRowK
  rw [setCells_putRow _ _ _ _ _ _ (by rw [hk, size_flatK]; exact b), setMany_set enc k hk dk i hi]

/-- What the comparison answers, in each world of the row. -/
def D.EqLays (P : Program) (g : Nat) (cb : Array Value) (enc : α → List Value) (k : Nat) (eq : α → α → Bool) (blk off size : Nat) (w0 : World) : Prop :=
  ∀ (m : Nat) (os : Array Obj) (dk : Array α), dk.size = size → ∀ x y : α, Calls P g (#[.agg (enc x).toArray, .agg (enc y).toArray] ++ cb) (sortWorldK enc k w0 blk off m dk os) fun e w' => e = .returned (.bool (eq x y)) ∧ ∃ q os', w' = grow ((sortWorldK enc k w0 blk off m dk os).drewN q) os'

theorem D.swk_eq {P : Program} {enc : α → List Value} {k : Nat} {w0 W : World} {blk off : Nat} {dk : Array α} {g : Nat} {cb : Array Value} {eq : α → α → Bool} {size : Nat} (h : SWK enc k w0 blk off dk W) (hC : EqLays P g cb enc k eq blk off size w0) (hs : dk.size = size) (x y : α) (n : Nat) (os : Array Obj) :
    Calls P g (#[.agg (enc x).toArray, .agg (enc y).toArray] ++ cb) (grow (W.drewN n) os) fun e w' => e = .returned (.bool (eq x y)) ∧ ∃ q os', w' = grow ((grow (W.drewN n) os).drewN q) os' := by
  obtain ⟨m, os0, hw⟩ := h.grown n os
  rw [hw]
  exact hC m os0 dk hs x y

theorem D.swk_st0 {P : Program} {enc : α → List Value} {k : Nat} {w0 W : World} {blk off : Nat} {dk d0 : Array α} (h : SWK enc k w0 blk off dk W) (R : RowK enc k w0 blk off d0) (hs : dk.size = d0.size) (i : Nat) (hi : i < dk.size) (y : α) :
    Sem.run P (storeCells ⟨blk, off + i * k, none⟩ (enc y) 0) W = .ok () (W.setCells blk (off + i * k) (enc y)) :=
  stores_of_holds P (h.holds R.hblk R.hH hs) (i * k) _ (by rw [R.hk, size_flatK]; exact rowK_bnd dk k i hi) (R.h1 _)

end
theorem D.zero_mem (zc : Array Value) (n : Nat) : ∀ v ∈ (Builtin.zeroCells zc n).toList, v ∈ zc.toList := by
  intro v hv
  unfold Builtin.zeroCells at hv
  simp only [Array.toList_map, Array.toList_range, List.mem_map, List.mem_range] at hv
  obtain ⟨i, hi, rfl⟩ := hv
  have h0 : 0 < zc.size := by
    rcases Nat.eq_zero_or_pos zc.size with h | h
    · rw [h, Nat.mul_zero] at hi; omega
    · exact h
  rw [getElem!_pos zc _ (Nat.mod_lt _ h0)]
  exact Array.mem_toList_iff.2 (Array.getElem_mem _)

theorem D.zero_size (zc : Array Value) (n : Nat) : (Builtin.zeroCells zc n).toList.length = n * zc.size := by
  unfold Builtin.zeroCells
  simp

theorem D.run_clear_k {P : Program} (w : World) (t e ty : TypeId) (z : Value) (ht : P.underlying t = some (.slice e)) (hv : ∀ w, (zeroValue e).run P w = .ok z w) (h1 : ∀ v ∈ z.cells.toList, v.oneCell' = true) (b o n c : Nat) (hn : 0 < n)
    (hc : ∀ j, j < n * z.cells.size → (w.cell? ⟨b, o + j, none⟩).isSome = true) (hf : ∀ j, j < n * z.cells.size → w.frozen? ⟨b, o + j, none⟩ = false) :
    (Builtin.clear_ #[t] ty #[.slice (some ⟨b, o, none⟩) n c]).run P w = .ok (.tuple #[]) (w.setCells b o (Builtin.zeroCells z.cells n).toList) := by
  have hst := run_storeCells_cells (P := P) b o (Builtin.zeroCells z.cells n).toList 0 w (by rw [zero_size]; simpa using hc) (by rw [zero_size]; simpa using hf) (fun v hv => h1 v (zero_mem _ _ v hv))
  simp only [Nat.add_zero] at hst
  obtain ⟨m, rfl⟩ : ∃ m, n = m + 1 := ⟨n - 1, by omega⟩
  simp [Builtin.clear_, run_underlying ht, hv, hst]

set_option maxHeartbeats 1000000 in
/-- A row of none or one comes back as it is. -/
theorem compact_few (p : Option Addr) (n cap : Nat) (hn : n < 2) (fv : Value) (w : World) : Calls Try.prog 23 #[.slice p n cap, fv] w fun e w' => e = .returned (.slice p n cap) ∧ w' = w := by
  have h2 : (n : Int) < 2 := by omega
  go_enter Try.func23, Try.ntmps23
  go_wp2
  go_ret
  exact ⟨rfl, rfl⟩

/-- What compacting leaves: the kept ones ahead, behind them what it may be. -/
def D.CompPost {α : Type} [Inhabited α] (enc : α → List Value) (k : Nat) (w0 : World) (blk off cap N : Nat) (eq : α → α → Bool) (d : Array α) (e : Ending) (w' : World) : Prop :=
  e = .returned (.slice (some ⟨blk, off, none⟩) (kepU eq d N).length cap) ∧ ∃ (dk : Array α) (W : World) (vs : List Value), dk.size = N ∧ (∀ i, i < (kepU eq d N).length → dk[i]! = (kepU eq d N)[i]!) ∧ SWK enc k w0 blk off dk W ∧ w' = W.setCells blk (off + (kepU eq d N).length * k) vs

set_option maxHeartbeats 8000000 in
set_option maxRecDepth 1000000 in
theorem compactFunc_any {α : Type} [Inhabited α] (k : Nat) (aE : ∀ w, (isAgg 33).run Try.prog w = .ok true w) (zE : ∀ w, (Go.sizeOf 33).run Try.prog w = .ok k w) (enc : α → List Value) (eq : α → α → Bool) (g : Nat) (cb : Array Value) (eg : ∀ args w, (callFunc g args).run Try.prog w = .ok (.enter g args) w) (zc : Array Value) (hz : ∀ w, (zeroValue 33).run Try.prog w = .ok (.agg zc) w) (hzs : zc.size = k) (hz1 : ∀ v ∈ zc.toList, v.oneCell' = true) (blk off cap N : Nat) (d0 d : Array α) (w0 w : World) (R : RowK enc k w0 blk off d0) (hlen : d0.size = N) (heq : EqLays Try.prog g cb enc k eq blk off N w0) (hsz : N ≤ 1099511627776) (hds : d.size = N) (hcap : N ≤ cap) (hcm : cap ≤ maxLen) (hN : 2 ≤ N) (S : SWK enc k w0 blk off d w) :
    Calls Try.prog 23 #[.slice (some ⟨blk, off, none⟩) N cap, .func (.func g) #[] cb] w (CompPost enc k w0 blk off cap N eq d) := by
  have mixed : Try.prog.follows .mixedOrders = true := by kernel_rfl
  have HC : Aside _ := heq
  have S0 : Aside (SWK enc k w0 blk off d w) := S
  clear heq S
  have h2 : ¬ (N : Int) < 2 := by omega
  go_enter Try.func23, Try.ntmps23
  go_wp2
  go_loopg [5] N (fun kx s5 wr => ∃ q : Nat, s5 = .int .i64 q ∧ 1 ≤ q ∧ q ≤ N ∧ N - q ≤ kx ∧ Hid (∀ j, 0 < j → j < q → eq d[j]! d[j - 1]! = false) ∧ Aside (SWK enc k w0 blk off d wr))
  case atStart => exact ⟨1, rfl, Nat.le_refl _, by omega, by omega, Lib.hid fun j h1 h2 => by omega, S0⟩
  case round =>
    clear S0
    obtain ⟨q, rfl, hq1, hq2, hkx, HA, S1⟩ := hrel
    by_cases hlt : q < N
    · have hlz : (q : Int) < (N : Int) := by omega
      have hpx : (1 : Int) ≤ (q : Int) := by omega
      cases hE : eq d[q]! d[q - 1]!
      · have ea1 : ((q : Int)).toNat = q := by omega
        have pa1 : (0 : Int) ≤ (q : Int) := by omega
        have ba1 : (q : Int) < (N : Int) := by omega
        have ra1 : IntKind.i64.wrap ((q : Int)) = (q : Int) := by rw [IntKind.wrap_i64]; omega
        have ec1 : ((q : Int) - 1).toNat = q - 1 := by omega
        have pc1 : (0 : Int) ≤ (q : Int) - 1 := by omega
        have bc1 : (q : Int) - 1 < (N : Int) := by omega
        have rc1 : IntKind.i64.wrap ((q : Int) - 1) = (q : Int) - 1 := by rw [IntKind.wrap_i64]; omega
        obtain ⟨x1, hx1⟩ : ∃ x, x = d[q]! := ⟨_, rfl⟩
        obtain ⟨y1, hy1⟩ : ∃ x, x = d[q - 1]! := ⟨_, rfl⟩
        have l1a := S1.out.ld R (by omega) Try.prog (q) (by omega)
        have l1b := S1.out.ld R (by omega) Try.prog (q - 1) (by omega)
        rw [← hx1] at l1a
        rw [← hy1] at l1b
        have hc1 := swk_eq S1.out HC.out (by omega) x1 y1
        have hd1 : eq x1 y1 = false := by rw [hx1, hy1]; exact hE
        rw [hd1] at hc1
        clear hx1 hy1 hd1
        go_wp2_with fail
        go_quiet_grown (first | (go_at_fn g; refine Calls.grown_of (hc1 _ _)))
        have S2 : Aside (SWK enc k w0 blk off d (grow (wr.drewN nq) osq)) := S1.out.grown nq osq
        clear l1a l1b hc1 S1
        generalize grow (wr.drewN nq) osq = w2 at S2 ⊢
        clear nq osq
        go_wp2_with fail
        go_roundg (N - (q + 1))
        case measure => omega
        case rel => exact ⟨q + 1, by simp, by omega, by omega, Nat.le_refl _, Lib.hid fun j h1 h2 => by
          by_cases e : j = q
          · rw [e]; exact hE
          · exact HA.out j h1 (by omega), S2⟩
      · have ea1 : ((q : Int)).toNat = q := by omega
        have pa1 : (0 : Int) ≤ (q : Int) := by omega
        have ba1 : (q : Int) < (N : Int) := by omega
        have ra1 : IntKind.i64.wrap ((q : Int)) = (q : Int) := by rw [IntKind.wrap_i64]; omega
        have ec1 : ((q : Int) - 1).toNat = q - 1 := by omega
        have pc1 : (0 : Int) ≤ (q : Int) - 1 := by omega
        have bc1 : (q : Int) - 1 < (N : Int) := by omega
        have rc1 : IntKind.i64.wrap ((q : Int) - 1) = (q : Int) - 1 := by rw [IntKind.wrap_i64]; omega
        obtain ⟨x1, hx1⟩ : ∃ x, x = d[q]! := ⟨_, rfl⟩
        obtain ⟨y1, hy1⟩ : ∃ x, x = d[q - 1]! := ⟨_, rfl⟩
        have l1a := S1.out.ld R (by omega) Try.prog (q) (by omega)
        have l1b := S1.out.ld R (by omega) Try.prog (q - 1) (by omega)
        rw [← hx1] at l1a
        rw [← hy1] at l1b
        have hc1 := swk_eq S1.out HC.out (by omega) x1 y1
        have hd1 : eq x1 y1 = true := by rw [hx1, hy1]; exact hE
        rw [hd1] at hc1
        clear hx1 hy1 hd1
        go_wp2_with fail
        go_quiet_grown (first | (go_at_fn g; refine Calls.grown_of (hc1 _ _)))
        have S2 : Aside (SWK enc k w0 blk off d (grow (wr.drewN nq) osq)) := S1.out.grown nq osq
        clear l1a l1b hc1 S1
        generalize grow (wr.drewN nq) osq = w2 at S2 ⊢
        clear nq osq
        go_wp2_with fail
        have hCI : Hid (CInv eq d (q + 1) q d) := Lib.hid (CInv.start (by omega) HA.out hE)
        clear hE HA hkx
        go_loopg [5, 7] N (fun ky s5 s7 wr => ∃ (kk k2 : Nat) (dk : Array α), s5 = .int .i64 kk ∧ s7 = .int .i64 k2 ∧ 1 ≤ k2 ∧ q + k2 ≤ N ∧ N - (q + k2) ≤ ky ∧ Hid (CInv eq d (q + k2) kk dk) ∧ Aside (SWK enc k w0 blk off dk wr))
        case atStart => exact ⟨q, 1, d, rfl, rfl, Nat.le_refl _, by omega, by omega, hCI, S2⟩
        case round =>
          clear S2 hCI
          obtain ⟨kk, k2, dk, rfl, rfl, hk1, hk2, hky, HI, S3⟩ := hrel
          have hkk := HI.out.lt
          have hdk := HI.out.size
          by_cases hl2 : q + k2 < N
          · have hlz2 : (k2 : Int) < ((N - q : Nat) : Int) := by omega
            have hlz3 : k2 < N - q := by omega
            have hpy : (1 : Int) ≤ (k2 : Int) := by omega
            have hA1 : off + (q + k2) * k = off + q * k + k2 * k := by rw [Nat.add_mul]; omega
            have hA2 : off + (q + k2 - 1) * k = off + q * k + (k2 - 1) * k := by rw [show q + k2 - 1 = q + (k2 - 1) by omega, Nat.add_mul]; omega
            cases hE2 : eq d[q + k2]! d[q + k2 - 1]!
            · have ea2 : ((k2 : Int)).toNat = k2 := by omega
              have pa2 : (0 : Int) ≤ (k2 : Int) := by omega
              have ba2 : (k2 : Int) < ((N - q : Nat) : Int) := by omega
              have ra2 : IntKind.i64.wrap ((k2 : Int)) = (k2 : Int) := by rw [IntKind.wrap_i64]; omega
              have ec2 : ((k2 : Int) - 1).toNat = k2 - 1 := by omega
              have pc2 : (0 : Int) ≤ (k2 : Int) - 1 := by omega
              have bc2 : (k2 : Int) - 1 < ((N - q : Nat) : Int) := by omega
              have rc2 : IntKind.i64.wrap ((k2 : Int) - 1) = (k2 : Int) - 1 := by rw [IntKind.wrap_i64]; omega
              obtain ⟨x2, hx2⟩ : ∃ x, x = d[q + k2]! := ⟨_, rfl⟩
              obtain ⟨y2, hy2⟩ : ∃ x, x = d[q + k2 - 1]! := ⟨_, rfl⟩
              have l2a := S3.out.ld R (by omega) Try.prog (q + k2) (by omega)
              have l2b := S3.out.ld R (by omega) Try.prog (q + k2 - 1) (by omega)
              rw [HI.out.high _ (by omega), ← hx2, hA1] at l2a
              rw [HI.out.high _ (by omega), ← hy2, hA2] at l2b
              have hc2 := swk_eq S3.out HC.out (by omega) x2 y2
              have hd2 : eq x2 y2 = false := by rw [hx2, hy2]; exact hE2
              rw [hd2] at hc2
              clear hx2 hy2 hd2
              go_wp2_with fail
              go_quiet_grown (first | (go_at_fn g; refine Calls.grown_of (hc2 _ _)))
              have S4 : Aside (SWK enc k w0 blk off dk (grow (wr.drewN nq) osq)) := S3.out.grown nq osq
              clear l2a l2b hc2 S3
              generalize grow (wr.drewN nq) osq = w2 at S4 ⊢
              clear nq osq
              have hdx : dk[q + k2]! = d[q + k2]! := HI.out.high _ (by omega)
              have S5 := Lib.hid (swk_set S4.out R.hk R.hblk kk (by omega) d[q + k2]!)
              have st0 := swk_st0 (P := Try.prog) S4.out R (by omega) kk (by omega) d[q + k2]!
              have ld0 := S4.out.load R (by omega) Try.prog (q + k2) (by omega)
              rw [hdx, hA1] at ld0
              have ef : ((kk : Nat) : Int).toNat = kk := by omega
              have hfz : (kk : Int) < (N : Int) := by omega
              have hfp : (0 : Int) ≤ (kk : Int) := by omega
              have hen : (enc d[q + k2]!).length = k := R.hk _
              have HD := Lib.hid hE2
              have HK := Lib.hid (HI.out.keep (by omega) hE2)
              clear hE2 hdx
              generalize d[q + k2]! = X at S5 st0 ld0 hen HK
              generalize enc X = cX at S5 st0 ld0 hen
              clear S4
              go_wp2_with fail
              generalize w2.setCells blk (off + kk * k) cX = w3 at S5 ⊢
              go_roundg (N - (q + (k2 + 1)))
              case measure => omega
              case rel => exact ⟨kk + 1, k2 + 1, dk.setIfInBounds kk X, by simp, by simp, by omega, by omega, Nat.le_refl _, HK, S5⟩
            · have ea2 : ((k2 : Int)).toNat = k2 := by omega
              have pa2 : (0 : Int) ≤ (k2 : Int) := by omega
              have ba2 : (k2 : Int) < ((N - q : Nat) : Int) := by omega
              have ra2 : IntKind.i64.wrap ((k2 : Int)) = (k2 : Int) := by rw [IntKind.wrap_i64]; omega
              have ec2 : ((k2 : Int) - 1).toNat = k2 - 1 := by omega
              have pc2 : (0 : Int) ≤ (k2 : Int) - 1 := by omega
              have bc2 : (k2 : Int) - 1 < ((N - q : Nat) : Int) := by omega
              have rc2 : IntKind.i64.wrap ((k2 : Int) - 1) = (k2 : Int) - 1 := by rw [IntKind.wrap_i64]; omega
              obtain ⟨x2, hx2⟩ : ∃ x, x = d[q + k2]! := ⟨_, rfl⟩
              obtain ⟨y2, hy2⟩ : ∃ x, x = d[q + k2 - 1]! := ⟨_, rfl⟩
              have l2a := S3.out.ld R (by omega) Try.prog (q + k2) (by omega)
              have l2b := S3.out.ld R (by omega) Try.prog (q + k2 - 1) (by omega)
              rw [HI.out.high _ (by omega), ← hx2, hA1] at l2a
              rw [HI.out.high _ (by omega), ← hy2, hA2] at l2b
              have hc2 := swk_eq S3.out HC.out (by omega) x2 y2
              have hd2 : eq x2 y2 = true := by rw [hx2, hy2]; exact hE2
              rw [hd2] at hc2
              clear hx2 hy2 hd2
              go_wp2_with fail
              go_quiet_grown (first | (go_at_fn g; refine Calls.grown_of (hc2 _ _)))
              have S4 : Aside (SWK enc k w0 blk off dk (grow (wr.drewN nq) osq)) := S3.out.grown nq osq
              clear l2a l2b hc2 S3
              generalize grow (wr.drewN nq) osq = w2 at S4 ⊢
              clear nq osq
              go_wp2_with fail
              go_roundg (N - (q + (k2 + 1)))
              case measure => omega
              case rel => exact ⟨kk, k2 + 1, dk, rfl, by simp, by omega, by omega, Nat.le_refl _, Lib.hid (HI.out.skip hE2), S4⟩
          · have hlz2 : ¬ (k2 : Int) < ((N - q : Nat) : Int) := by omega
            have hlz3 : ¬ k2 < N - q := by omega
            have hend : q + k2 = N := by omega
            have hH := S3.out.holds R.hblk R.hH (by omega)
            have hfl : ∀ j, j < (N - kk) * zc.size → kk * k + j < (flatK enc k dk).size := fun j hj => by
              rw [size_flatK, hzs] at *
              have h8 : kk * k + (N - kk) * k = N * k := by rw [← Nat.add_mul]; congr 1; omega
              rw [hdk, hds]
              omega
            have hcl : ∀ ty, (Builtin.clear_ #[29] ty #[.slice (some ⟨blk, off + kk * k, none⟩) (N - kk) (cap - kk)]).run Try.prog wr = .ok (.tuple #[]) (wr.setCells blk (off + kk * k) (Builtin.zeroCells zc (N - kk)).toList) :=
              fun ty => run_clear_k wr _ _ ty (.agg zc) Try.underlying29 hz hz1 blk (off + kk * k) (N - kk) (cap - kk) (by omega) (fun j hj => by rw [show off + kk * k + j = off + (kk * k + j) by omega, (hH (kk * k + j) (hfl j hj)).1]; rfl) (fun j hj => by rw [show off + kk * k + j = off + (kk * k + j) by omega]; exact (hH (kk * k + j) (hfl j hj)).2)
            have HI2 : Hid (CInv eq d N kk dk) := Lib.hid (by rw [← hend]; exact HI.out)
            have hNk : kk ≤ N := by omega
            have hCk : kk ≤ cap := by omega
            clear hH hfl hend
            go_wp2_with fail
            go_ret
            have hL := HI2.out.len
            refine ⟨by rw [hL]; rfl, dk, _, _, by omega, fun i hi => HI2.out.low i (by omega), S3.out, by rw [hL]⟩
    · have hlz : ¬ (q : Int) < (N : Int) := by omega
      obtain rfl : q = N := by omega
      go_wp2_with fail
      go_ret
      have e9 : kepU eq d q = seg d 0 q := kepU_all HA.out
      refine ⟨by rw [e9, seg_len]; rfl, d, _, [], hds, fun i hi => ?_, S1.out, rfl⟩
      rw [e9] at hi ⊢
      rw [seg_len] at hi
      rw [seg_get d q i (by omega)]

end Go.Proofs.Ytlmngncogomgeaa
