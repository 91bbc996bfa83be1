/- Of the proof of FnExactProofNeeds: StbI, Cnt, Prf, Open. -/
import Derived.Shelf.SlSortCmp.PdqK
import Derived.Test.YtlmngncogomgeaaM03
namespace Go.Proofs.Ytlmngncogomgeaa
open Go.Shelf Go.RowKit Go.Lib Go.Sort D
set_option linter.unusedVariables false
theorem D.six_zero (a b i : Nat) : six a b 0 i = i := by unfold six; rw [if_neg (by omega), if_neg (by omega)]

theorem D.six_step {α : Type} [Inhabited α] {d dk : Array α} {a b i : Nat} (h : ∀ x, dk[x]! = d[six a b i x]!) (hi : a + i < b) (hb : b + i < dk.size) : ∀ x, (swp dk (a + i) (b + i))[x]! = d[six a b (i + 1) x]! := fun x => by
  by_cases h1 : x = a + i
  · subst h1
    rw [swp_left _ _ _ (by omega) (by omega), h]
    congr 1
    unfold six
    rw [if_neg (by omega), if_neg (by omega), if_pos (by omega)]
    omega
  · by_cases h2 : x = b + i
    · subst h2
      rw [swp_right _ _ _ hb, h]
      congr 1
      unfold six
      rw [if_neg (by omega), if_neg (by omega), if_neg (by omega), if_pos (by omega)]
      omega
    · rw [swp_other _ _ _ _ h1 h2, h]
      congr 1
      unfold six
      repeat' split
      all_goals omega

set_option maxHeartbeats 4000000 in
set_option maxRecDepth 1000000 in
theorem swapRange_any {α : Type} [Inhabited α] (k : Nat) (aE : ∀ w, (isAgg 33).run Try.prog w = .ok true w) (zE : ∀ w, (Go.sizeOf 33).run Try.prog w = .ok k w) (enc : α → List Value) (fv : Value) (blk off cap a b n : Nat) (d0 d : Array α) (w0 w : World) (R : RowK enc k w0 blk off d0) (hs : d0.size = d.size) (S : SWK enc k w0 blk off d w) (hab : a + n ≤ b) (hb : b + n ≤ d.size) (hsz : d.size < 4611686018427387904) :
    Calls Try.prog 54 #[.slice (some ⟨blk, off, none⟩) d.size cap, .int .i64 a, .int .i64 b, .int .i64 n, fv] w fun e w' => e = .returned (.tuple #[]) ∧ ∃ d' : Array α, d'.size = d.size ∧ (∀ i, d'[i]! = d[six a b n i]!) ∧ SWK enc k w0 blk off d' w' := by
  have mixed : Try.prog.follows .mixedOrders = true := by kernel_rfl
  have S0 : Aside (SWK enc k w0 blk off d w) := S
  clear S
  go_enter Try.func54, Try.ntmps54
  go_wp2
  go_loopg [10] n (fun kx s10 wr => ∃ (i : Nat) (dk : Array α), s10 = .int .i64 i ∧ i ≤ n ∧ n - i ≤ kx ∧ dk.size = d.size ∧ Aside (SWK enc k w0 blk off dk wr) ∧ Hid (∀ x, dk[x]! = d[six a b i x]!))
  case atStart => exact ⟨0, d, rfl, Nat.zero_le _, Nat.le_refl _, rfl, S0, Lib.hid fun x => by rw [six_zero]⟩
  case round =>
    clear S0
    obtain ⟨i, dk, rfl, hin, hkx, hds, S1, HE⟩ := hrel
    by_cases hlt : (i : Int) < (n : Int)
    · go_wp2_with fail
      have ea1 : ((a : Int) + (i : Int)).toNat = a + i := by omega
      have pa1 : (0 : Int) ≤ (a : Int) + (i : Int) := by omega
      have ba1 : (a : Int) + (i : Int) < (d.size : Int) := by omega
      have ra1 : IntKind.i64.wrap ((a : Int) + (i : Int)) = (a : Int) + (i : Int) := by rw [IntKind.wrap_i64]; omega
      have ec1 : ((b : Int) + (i : Int)).toNat = b + i := by omega
      have pc1 : (0 : Int) ≤ (b : Int) + (i : Int) := by omega
      have bc1 : (b : Int) + (i : Int) < (d.size : Int) := by omega
      have rc1 : IntKind.i64.wrap ((b : Int) + (i : Int)) = (b : Int) + (i : Int) := by rw [IntKind.wrap_i64]; omega
      have S2 : Aside (SWK enc k w0 blk off (swp dk (a + i) (b + i)) ((wr.drew.setCells blk (off + (a + i) * k) (enc dk[b + i]!)).setCells blk (off + (b + i) * k) (enc dk[a + i]!))) := S1.out.swapped R (a + i) (b + i) (by omega) (by omega)
      have l1a := S1.out.ld1 R (by omega) Try.prog (a + i) (by omega)
      have l1b := S1.out.ld1 R (by omega) Try.prog (b + i) (by omega)
      have s1a := S1.out.st1 R (by omega) Try.prog (a + i) (by omega) dk[b + i]!
      have s1b := S1.out.st2 R (by omega) Try.prog (a + i) (b + i) (by omega) (by omega) dk[b + i]! dk[a + i]!
      have n1a : (enc dk[a + i]!).length = k := R.hk _
      have n1b : (enc dk[b + i]!).length = k := R.hk _
      generalize enc dk[a + i]! = cI1 at S2 l1a s1b n1a
      generalize enc dk[b + i]! = cJ1 at S2 l1b s1a s1b n1b
      clear S1
      go_wp2_with fail
      go_big_region_o
      clear l1a l1b s1a s1b
      generalize (wr.drew.setCells blk (off + (a + i) * k) cJ1).setCells blk (off + (b + i) * k) cI1 = w2 at S2 ⊢
      go_wp2
      go_roundg (n - (i + 1))
      case measure => omega
      case rel => exact ⟨i + 1, swp dk (a + i) (b + i), by simp, by omega, Nat.le_refl _, by rw [size_swp]; exact hds, S2, Lib.hid (six_step HE.out (by omega) (by omega))⟩
    · go_wp2
      go_end0
      obtain rfl : i = n := by omega
      exact ⟨rfl, dk, hds, HE.out, S1.out⟩

set_option maxHeartbeats 4000000 in
set_option maxRecDepth 1000000 in
theorem rotate_any {α : Type} [Inhabited α] (k : Nat) (aE : ∀ w, (isAgg 33).run Try.prog w = .ok true w) (zE : ∀ w, (Go.sizeOf 33).run Try.prog w = .ok k w) (enc : α → List Value) (fv : Value) (blk off cap a m b : Nat) (d0 d : Array α) (w0 w : World) (R : RowK enc k w0 blk off d0) (hs : d0.size = d.size) (S : SWK enc k w0 blk off d w) (ham : a < m) (hmb : m < b) (hb : b ≤ d.size) (hsz : d.size < 4611686018427387904) :
    Calls Try.prog 51 #[.slice (some ⟨blk, off, none⟩) d.size cap, .int .i64 a, .int .i64 m, .int .i64 b, fv] w fun e w' => e = .returned (.tuple #[]) ∧ ∃ d' : Array α, d'.size = d.size ∧ (∀ i, d'[i]! = d[rix a m b i]!) ∧ SWK enc k w0 blk off d' w' := by
  have mixed : Try.prog.follows .mixedOrders = true := by kernel_rfl
  have S0 : Aside (SWK enc k w0 blk off d w) := S
  clear S
  have rw1 : IntKind.i64.wrap ((m : Int) - (a : Int)) = (m : Int) - (a : Int) := by rw [IntKind.wrap_i64]; omega
  have rw2 : IntKind.i64.wrap ((b : Int) - (m : Int)) = (b : Int) - (m : Int) := by rw [IntKind.wrap_i64]; omega
  go_enter Try.func51, Try.ntmps51
  go_wp2
  go_loopg [10, 11] (m - a + (b - m)) (fun kx s10 s11 wr => ∃ (i j : Nat) (dk : Array α), s10 = .int .i64 i ∧ s11 = .int .i64 j ∧ 1 ≤ i ∧ 1 ≤ j ∧ i ≤ m ∧ m + j ≤ d.size ∧ i + j ≤ kx ∧ dk.size = d.size ∧ Aside (SWK enc k w0 blk off dk wr) ∧ Hid (∀ x, dk[rix (m - i) m (m + j) x]! = d[rix a m b x]!))
  case atStart => exact ⟨m - a, b - m, d, by congr 1; omega, by congr 1; omega, by omega, by omega, by omega, by omega, Nat.le_refl _, rfl, S0, Lib.hid fun x => by rw [show m - (m - a) = a by omega, show m + (b - m) = b by omega]⟩
  case round =>
    clear S0
    obtain ⟨i, j, dk, rfl, rfl, hi1, hj1, him, hmj, hkx, hds, S1, HE⟩ := hrel
    have rw3 : IntKind.i64.wrap ((m : Int) - (i : Int)) = ((m - i : Nat) : Int) := by rw [IntKind.wrap_i64]; omega
    by_cases heq : i = j
    · subst heq
      have hc := swapRange_any k aE zE enc fv blk off cap (m - i) m i d0 dk w0 wr R (by omega) S1.out (by omega) (by omega) (by omega)
      rw [hds] at hc
      go_wp2_with fail
      refine hc.mono ?_
      rintro e w1 ⟨rfl, d', hd', hx, S2⟩
      have S3 : Aside _ := S2
      clear hc S2 S1
      go_wp2_with fail
      go_end0
      exact ⟨rfl, d', by omega, fun x => by rw [hx, rix_eq him, HE.out], S3.out⟩
    · have hne : ((i : Int) != (j : Int)) = true := by rw [bne_iff_ne]; omega
      by_cases hgt : j < i
      · have hgz : (j : Int) < (i : Int) := by omega
        have rw4 : IntKind.i64.wrap ((i : Int) - (j : Int)) = ((i - j : Nat) : Int) := by rw [IntKind.wrap_i64]; omega
        have hc := swapRange_any k aE zE enc fv blk off cap (m - i) m j d0 dk w0 wr R (by omega) S1.out (by omega) (by omega) (by omega)
        rw [hds] at hc
        go_wp2_with fail
        refine hc.mono ?_
        rintro e w1 ⟨rfl, d', hd', hx, S2⟩
        have S3 : Aside _ := S2
        have HX := Lib.hid hx
        clear hc S2 S1 hx
        go_wp2_with fail
        go_roundg (i - j + j)
        case measure => omega
        case rel => exact ⟨i - j, j, d', rfl, rfl, by omega, hj1, by omega, hmj, Nat.le_refl _, by omega, S3, Lib.hid fun x => by rw [HX.out, rix_gt him hgt, HE.out]⟩
      · have hgz : ¬ (j : Int) < (i : Int) := by omega
        have hlt : i < j := by omega
        have rw4 : IntKind.i64.wrap ((j : Int) - (i : Int)) = ((j - i : Nat) : Int) := by rw [IntKind.wrap_i64]; omega
        have rw5 : IntKind.i64.wrap ((m : Int) + (j : Int)) = (m : Int) + (j : Int) := by rw [IntKind.wrap_i64]; omega
        have rw6 : IntKind.i64.wrap ((m : Int) + (j : Int) - (i : Int)) = ((m + j - i : Nat) : Int) := by rw [IntKind.wrap_i64]; omega
        have hc := swapRange_any k aE zE enc fv blk off cap (m - i) (m + j - i) i d0 dk w0 wr R (by omega) S1.out (by omega) (by omega) (by omega)
        rw [hds] at hc
        go_wp2_with fail
        refine hc.mono ?_
        rintro e w1 ⟨rfl, d', hd', hx, S2⟩
        have S3 : Aside _ := S2
        have HX := Lib.hid hx
        clear hc S2 S1 hx
        go_wp2_with fail
        go_roundg (i + (j - i))
        case measure => omega
        case rel => exact ⟨i, j - i, d', rfl, rfl, hi1, by omega, him, by omega, Nat.le_refl _, by omega, S3, Lib.hid fun x => by rw [HX.out, rix_lt him hlt, HE.out]⟩

end Go.Proofs.Ytlmngncogomgeaa
namespace Go.Proofs.Ytlmngncogomgeaa.D
open Go.RowKit
end Go.Proofs.Ytlmngncogomgeaa.D
namespace Go.Proofs.Ytlmngncogomgeaa.D
open Go.RowKit
set_option linter.unusedVariables false
inductive Pf where
  | mk (fact : A) (rule : Int) (kids : List Pf)

namespace Pf
def fact : Pf → A
  | mk a _ _ => a

def rule : Pf → Int
  | mk _ r _ => r

def kids : Pf → List Pf
  | mk _ _ k => k

end Pf
/-- A proof of so many storeys at most, in four cells: its fact's two, the rule, the row of its kids. -/
def proofK : Nat → Rel Pf
  | 0 => fun _ _ _ _ => False
  | n + 1 => fun w cs p bs => ∃ s k b1 b2, cs = [.string p.fact.name, s, .int .i64 p.rule, k] ∧ p.fact.name.size ≤ maxLen ∧ (-9223372036854775808 ≤ p.rule ∧ p.rule ≤ 9223372036854775807) ∧ bs = b1 ++ b2 ∧ termsK w [s] p.fact.args b1 ∧ sliceK 4 (proofK n) w [k] p.kids b2

def proofsK (n : Nat) : Rel (List Pf) := sliceK 4 (proofK n)

theorem proofK_good : ∀ n, Good (proofK n)
  | 0 => ⟨fun h _ => h.elim, fun h => h.elim⟩
  | n + 1 => by
    have g2 : Good (sliceK 4 (proofK n)) := sliceK_good (proofK_good n) (by omega)
    refine ⟨fun {w w' cs p bs} h hk => ?_, fun {w cs p bs} h => ?_⟩
    · obtain ⟨s, k, b1, b2, h1, h2, h3, rfl, h5, h6⟩ := h
      obtain ⟨q1, q2⟩ := pair_good termsK_good g2 h5 h6 hk
      exact ⟨s, k, b1, b2, h1, h2, h3, rfl, q1, q2⟩
    · obtain ⟨s, k, b1, b2, h1, h2, h3, rfl, h5, h6⟩ := h
      exact pair_lt termsK_good g2 h5 h6

theorem proofsK_good (n : Nat) : Good (proofsK n) := sliceK_good (proofK_good n) (by omega)

theorem sliceK_imp {α : Type} {n : Nat} {R S : Rel α} {w : World} {cs : List Value} {xs : List α} {bs : List Nat} (hi : ∀ {cs x bs}, R w cs x bs → S w cs x bs) (h : sliceK n R w cs xs bs) : sliceK n S w cs xs bs := by
  obtain ⟨Ad, cap, h1, h2, h3, h4, h5⟩ := h
  refine ⟨Ad, cap, h1, h2, h3, h4, fun hne => ?_⟩
  obtain ⟨b, o, e, F, G, e2, hF⟩ := h5 hne
  exact ⟨b, o, e, F, G, e2, fun k x hk => ⟨(hF k x hk).1, (hF k x hk).2.1, hi (hF k x hk).2.2⟩⟩

theorem proofK_up : ∀ (n : Nat) {w : World} {cs : List Value} {p : Pf} {bs : List Nat}, proofK n w cs p bs → proofK (n + 1) w cs p bs
  | 0, _, _, _, _, h => h.elim
  | n + 1, w, cs, p, bs, h => by
    obtain ⟨s, k, b1, b2, h1, h2, h3, h4, h5, h6⟩ := h
    exact ⟨s, k, b1, b2, h1, h2, h3, h4, h5, sliceK_imp (proofK_up n) h6⟩

/-- An element of a row of proofs: its cells. -/
theorem proofs_el {n : Nat} {w : World} {Ad : Option Addr} {len cap k : Nat} {xs : List Pf} {bs : List Nat} (h : proofsK n w [.slice Ad len cap] xs bs) (hk : k < xs.length) :
    ∃ b o Ae ce Af cf bk, Ad = some ⟨b, o, none⟩ ∧ b ∈ bs ∧ w.cell? ⟨b, o + k * 4, none⟩ = some (.string xs[k].fact.name) ∧ w.cell? ⟨b, o + k * 4 + 1, none⟩ = some (.slice Ae xs[k].fact.args.length ce) ∧ w.cell? ⟨b, o + k * 4 + 2, none⟩ = some (.int .i64 xs[k].rule) ∧ w.cell? ⟨b, o + k * 4 + 3, none⟩ = some (.slice Af xs[k].kids.length cf) ∧
      proofK n w [.string xs[k].fact.name, .slice Ae xs[k].fact.args.length ce, .int .i64 xs[k].rule, .slice Af xs[k].kids.length cf] xs[k] bk ∧ ∀ c ∈ bk, c ∈ bs := by
  obtain ⟨b, o, cs, bk, rfl, hb, hlen, hcell, hR, hsub⟩ := sliceK_at h hk
  cases n with
  | zero => exact hR.elim
  | succ n =>
    have hR0 := hR
    obtain ⟨s, q, b1, b2, rfl, h2, h3, rfl, h5, h6⟩ := hR0
    obtain ⟨Ae, ce, rfl, _⟩ := sliceK_form h5
    obtain ⟨Af, cf, rfl, _⟩ := sliceK_form h6
    have e := fun j => Nat.add_assoc o (k * 4) j
    exact ⟨b, o, Ae, ce, Af, cf, b1 ++ b2, rfl, hb, by simpa using hcell 0 _ rfl, by rw [e]; exact hcell 1 _ rfl, by rw [e]; exact hcell 2 _ rfl, by rw [e]; exact hcell 3 _ rfl, hR, hsub⟩

theorem proof_parts {n : Nat} {w : World} {c0 c1 c2 c3 : Value} {p : Pf} {bs : List Nat} (h : proofK (n + 1) w [c0, c1, c2, c3] p bs) :
    ∃ Ae ce Af cf b1 b2, c0 = .string p.fact.name ∧ c1 = .slice Ae p.fact.args.length ce ∧ c2 = .int .i64 p.rule ∧ c3 = .slice Af p.kids.length cf ∧ bs = b1 ++ b2 ∧ (-9223372036854775808 ≤ p.rule ∧ p.rule ≤ 9223372036854775807) ∧ atomK w [c0, c1] p.fact b1 ∧ proofsK n w [c3] p.kids b2 := by
  obtain ⟨s, q, b1, b2, e, h2, h3, rfl, h5, h6⟩ := h
  simp only [List.cons.injEq, and_true] at e
  obtain ⟨rfl, rfl, rfl, rfl⟩ := e
  obtain ⟨Ae, ce, e5, _⟩ := sliceK_form h5
  obtain ⟨Af, cf, e6, _⟩ := sliceK_form h6
  exact ⟨Ae, ce, Af, cf, b1, b2, rfl, e5, rfl, e6, rfl, h3, ⟨_, rfl, h2, h5⟩, h6⟩

theorem Pf.sizeOf_kid {a : A} {r : Int} {ks : List Pf} {k : Pf} (h : k ∈ ks) : SizeOf.sizeOf k < SizeOf.sizeOf (Pf.mk a r ks) := by
  have h1 := List.sizeOf_lt_of_mem h
  simp only [Pf.mk.sizeOf_spec]
  omega

theorem Pf.ind {P : Pf → Prop} (h : ∀ p : Pf, (∀ k ∈ p.kids, P k) → P p) : ∀ p, P p
  | .mk a r ks => h (.mk a r ks) fun k hk => Pf.ind h k
  termination_by p => SizeOf.sizeOf p
  decreasing_by exact Pf.sizeOf_kid hk

/-- How great a proof is. -/
def bulkPf : Pf → Nat
  | .mk a r ks => bulkA a + ks.length + (ks.attach.map fun ⟨k, hk⟩ => bulkPf k).sum
  termination_by p => SizeOf.sizeOf p
  decreasing_by exact Pf.sizeOf_kid hk

def sizePf : Pf → Nat
  | .mk a r ks => 1 + (ks.attach.map fun ⟨k, hk⟩ => sizePf k).sum
  termination_by p => SizeOf.sizeOf p
  decreasing_by exact Pf.sizeOf_kid hk

theorem bulkPf_eq (p : Pf) : bulkPf p = bulkA p.fact + (p.kids.length + sumL bulkPf p.kids) := by
  obtain ⟨a, r, ks⟩ := p
  rw [bulkPf, show (ks.attach.map fun ⟨k, hk⟩ => bulkPf k) = ks.map bulkPf from by exact List.attach_map_val (l := ks) (f := bulkPf)]
  simp only [Pf.fact, Pf.kids, sumL]
  omega

theorem sizePf_eq (p : Pf) : sizePf p = 1 + sumL sizePf p.kids := by
  obtain ⟨a, r, ks⟩ := p
  rw [sizePf, show (ks.attach.map fun ⟨k, hk⟩ => sizePf k) = ks.map sizePf from by exact List.attach_map_val (l := ks) (f := sizePf)]
  rfl

theorem sizePf_pos (p : Pf) : 1 ≤ sizePf p := by rw [sizePf_eq]; omega

theorem sizePf_le : ∀ p : Pf, sizePf p ≤ 1 + bulkPf p := Pf.ind fun p ih => by
  have h : ∀ ks : List Pf, (∀ k ∈ ks, sizePf k ≤ 1 + bulkPf k) → sumL sizePf ks ≤ ks.length + sumL bulkPf ks := by
    intro ks
    induction ks with
    | nil => intro _; simp [sumL]
    | cons k ks ih =>
      intro hk
      have h1 := hk k (List.mem_cons_self ..)
      have h2 := ih fun x hx => hk x (List.mem_cons_of_mem _ hx)
      simp only [sumL, List.map_cons, List.sum_cons, List.length_cons] at *
      omega
  rw [sizePf_eq, bulkPf_eq]
  have := h p.kids ih
  omega

theorem Pf.kid_size {p : Pf} {k : Nat} (hk : k < p.kids.length) : sizePf p.kids[k] < sizePf p := by
  rw [sizePf_eq p]
  have : ∀ (ks : List Pf) (k : Nat) (hk : k < ks.length), sizePf ks[k] ≤ sumL sizePf ks := by
    intro ks
    induction ks with
    | nil => intro k hk; simp at hk
    | cons x ks ih =>
      intro k hk
      cases k with
      | zero => simp [sumL]
      | succ k =>
        have := ih k (by simpa using hk)
        simp only [sumL, List.map_cons, List.sum_cons, List.getElem_cons_succ] at *
        omega
  have := this p.kids k hk
  omega

end Go.Proofs.Ytlmngncogomgeaa.D
namespace Go.Proofs.Ytlmngncogomgeaa.D
open Go.RowKit Go.Deep Go.ChangeShapes Go.WideShapes
/-- Whatever is read as a datum of type e reads as an x. -/
def Opens {α : Type} (P : Program) (e : TypeId) (R : Rel α) : Prop :=
  ∀ (H : Type) (enc : TypeId × Value → H) (w : World) (spare : Nat → Bool) (held : Bool) (fuel : Nat) (cs : List Value) (y : DataW H × List MemPlace),
    DataW.trod enc P w 0 spare held fuel e cs = some y → ∃ x bs, R w cs x bs

theorem opens_slice {α : Type} {P : Program} {t e : TypeId} {n : Nat} {R : Rel α} (ht : P.underlying t = some (.slice e)) (hC : P.cellsOf e = n) (hn : 0 < n) (hR : Opens P e R) : Opens P t (sliceK n R) := by
  intro H enc w spare held fuel cs y h
  rcases open_slice ht h with ⟨rfl, _⟩ | ⟨a, len, cap, m, n', Dd, Pl, rfl, _, hl, hm, hmm, _, hi⟩
  · exact ⟨[], [], none, 0, rfl, Nat.le_refl _, by unfold maxLen; omega, fun _ => rfl, fun h => absurd rfl h⟩
  · have hlm : len ≤ m := by rw [hmm]; split <;> omega
    by_cases h0 : len = 0
    · subst h0
      exact ⟨[], [], some a, cap, rfl, hl, hm, fun _ => rfl, fun h => absurd rfl h⟩
    · have hex : ∀ k, k < len → ∃ p : List Value × α × List Nat, p.1.length = n ∧ (∀ j v, p.1[j]? = some v → w.cell? (a.add (k * n + j)) = some v) ∧ R w p.1 p.2.1 p.2.2 := by
        intro k hk
        obtain ⟨cs', hc, htr⟩ := hi k (by omega)
        rw [hC] at hc
        obtain ⟨_, hlen, hcell⟩ := World.cells?_some hc
        obtain ⟨x, bs, hx⟩ := hR H enc w spare held n' cs' _ htr
        refine ⟨(cs', x, bs), hlen, fun j v hv => ?_, hx⟩
        have hjn : j < n := by
          have := (List.getElem?_eq_some_iff.1 hv).1
          dsimp only at this
          omega
        have := hcell j hjn
        rw [add_add] at this
        rw [this]; exact hv
      obtain ⟨p0, _⟩ := hex 0 (by omega)
      haveI : Inhabited (List Value × α × List Nat) := ⟨p0⟩
      obtain ⟨f, hf⟩ := choose_lt hex
      have hsp : a.spot = none := by
        obtain ⟨q1, q2, _⟩ := hf 0 (by omega)
        obtain ⟨v, hv⟩ : ∃ v, (f 0).1[0]? = some v := ⟨_, List.getElem?_eq_getElem (by omega)⟩
        have h1 := q2 0 v hv
        have h2 : a.add (0 * n + 0) = a := by simp [Addr.add]
        rw [h2] at h1
        exact World.cell?_spot h1
      obtain ⟨b, o, sp⟩ := a
      dsimp only at hsp
      subst hsp
      have hadd : ∀ i, (⟨b, o, none⟩ : Addr).add i = ⟨b, o + i, none⟩ := by
        intro i; unfold Addr.add; split <;> simp_all
      have hlx : ((List.range len).map fun k => (f k).2.1).length = len := by simp
      refine ⟨(List.range len).map fun k => (f k).2.1, b :: (List.range len).flatMap fun k => (f k).2.2, some ⟨b, o, none⟩, cap, by rw [hlx], by rw [hlx]; exact hl, hm, fun h => ?_, fun _ => ⟨b, o, rfl, fun k => (f k).1, fun k => (f k).2.2, by rw [hlx], fun k x hx => ?_⟩⟩
      · have := congrArg List.length h; rw [hlx] at this; exact absurd this h0
      · obtain ⟨hk, rfl⟩ := List.getElem?_eq_some_iff.1 hx
        rw [hlx] at hk
        obtain ⟨q1, q2, q3⟩ := hf k hk
        refine ⟨q1, fun j v hv => ?_, ?_⟩
        · rw [← hadd]; exact q2 j v hv
        · simp only [List.getElem_map, List.getElem_range]; exact q3

theorem opens_byte {P : Program} {t : TypeId} (ht : P.underlying t = some (.int .u8)) : Opens P t byteK := by
  intro H enc w spare held fuel cs y h
  obtain ⟨n, rfl, _, hw⟩ := DataW.trod_int ht h
  simp only [Lit.wf, IntKind.min, IntKind.max, IntKind.signed, IntKind.bits] at hw
  simp at hw
  exact ⟨UInt8.ofNat n.toNat, [], by simp; omega, rfl⟩

section
variable {P : Program}
theorem opens_term {t : TypeId} {f0 f1 : Field} (ht : P.underlying t = some (.struct #[f0, f1])) (hC : P.cellsOf t = 2) (h0 : P.underlying f0.type = some .bool) (h1 : P.underlying f1.type = some .string)
    (c0 : P.cellsOf f0.type = 1) (c1 : P.cellsOf f1.type = 1) (o0 : f0.offset = 0) (o1 : f1.offset = 1) : Opens P t termK := by
  intro H enc w spare held fuel cs y h
  obtain ⟨y0, y1, n, rfl, hl, t0, t1⟩ := trod_struct2 ht h
  rw [hC] at hl
  match cs, hl with
  | [a, b], _ =>
    rw [c0, o0] at t0
    rw [c1, o1] at t1
    obtain ⟨x0, e0, _⟩ := DataW.trod_bool h0 t0
    obtain ⟨x1, e1, _, hs⟩ := DataW.trod_string h1 t1
    simp at e0 e1
    subst e0 e1
    exact ⟨⟨x0, x1⟩, [], rfl, hs, rfl⟩

theorem opens_atom {t : TypeId} {f0 f1 : Field} (ht : P.underlying t = some (.struct #[f0, f1])) (hC : P.cellsOf t = 2) (h0 : P.underlying f0.type = some .string) (h1 : Opens P f1.type termsK)
    (c0 : P.cellsOf f0.type = 1) (c1 : P.cellsOf f1.type = 1) (o0 : f0.offset = 0) (o1 : f1.offset = 1) : Opens P t atomK := by
  intro H enc w spare held fuel cs y h
  obtain ⟨y0, y1, n, rfl, hl, t0, t1⟩ := trod_struct2 ht h
  rw [hC] at hl
  match cs, hl with
  | [a, b], _ =>
    rw [c0, o0] at t0
    rw [c1, o1] at t1
    obtain ⟨x0, e0, _, hs⟩ := DataW.trod_string h0 t0
    obtain ⟨x1, bs, hx⟩ := h1 H enc w spare held n _ _ t1
    simp at e0
    subst e0
    exact ⟨⟨x0, x1⟩, bs, b, rfl, hs, by simpa using hx⟩

/-- A part's cells are 'not' and its atom's. -/
theorem opens_part {t : TypeId} {f0 f1 : Field} (ht : P.underlying t = some (.struct #[f0, f1])) (hC : P.cellsOf t = 3) (h0 : P.underlying f0.type = some .bool) (h1 : Opens P f1.type atomK)
    (c0 : P.cellsOf f0.type = 1) (c1 : P.cellsOf f1.type = 2) (o0 : f0.offset = 0) (o1 : f1.offset = 1) : Opens P t partK := by
  intro H enc w spare held fuel cs y h
  obtain ⟨y0, y1, n, rfl, hl, t0, t1⟩ := trod_struct2 ht h
  rw [hC] at hl
  match cs, hl with
  | [a, b, c], _ =>
    rw [c0, o0] at t0
    rw [c1, o1] at t1
    obtain ⟨x0, e0, _⟩ := DataW.trod_bool h0 t0
    obtain ⟨x1, bs, s, hcs, hs, hx⟩ := h1 H enc w spare held n _ _ t1
    simp at e0 hcs
    obtain ⟨rfl, rfl⟩ := hcs
    subst e0
    exact ⟨⟨x0, x1⟩, bs, c, rfl, hs, hx⟩

theorem opens_rule {t : TypeId} {f0 f1 : Field} (ht : P.underlying t = some (.struct #[f0, f1])) (hC : P.cellsOf t = 3) (h0 : Opens P f0.type atomK) (h1 : Opens P f1.type partsK)
    (c0 : P.cellsOf f0.type = 2) (c1 : P.cellsOf f1.type = 1) (o0 : f0.offset = 0) (o1 : f1.offset = 2) : Opens P t ruleK := by
  intro H enc w spare held fuel cs y h
  obtain ⟨y0, y1, n, rfl, hl, t0, t1⟩ := trod_struct2 ht h
  rw [hC] at hl
  match cs, hl with
  | [a, b, c], _ =>
    rw [c0, o0] at t0
    rw [c1, o1] at t1
    obtain ⟨x0, bs1, s, hcs, hs, hx0⟩ := h0 H enc w spare held n _ _ t0
    obtain ⟨x1, bs2, hx1⟩ := h1 H enc w spare held n _ _ t1
    simp at hcs
    obtain ⟨rfl, rfl⟩ := hcs
    exact ⟨⟨x0, x1⟩, bs1 ++ bs2, b, c, bs1, bs2, rfl, hs, rfl, hx0, by simpa using hx1⟩

theorem opens_change {t : TypeId} {f0 f1 : Field} (ht : P.underlying t = some (.struct #[f0, f1])) (hC : P.cellsOf t = 2) (h0 : Opens P f0.type atomsK) (h1 : Opens P f1.type atomsK)
    (c0 : P.cellsOf f0.type = 1) (c1 : P.cellsOf f1.type = 1) (o0 : f0.offset = 0) (o1 : f1.offset = 1) : Opens P t changeK := by
  intro H enc w spare held fuel cs y h
  obtain ⟨y0, y1, n, rfl, hl, t0, t1⟩ := trod_struct2 ht h
  rw [hC] at hl
  match cs, hl with
  | [a, b], _ =>
    rw [c0, o0] at t0
    rw [c1, o1] at t1
    obtain ⟨x0, bs1, hx0⟩ := h0 H enc w spare held n _ _ t0
    obtain ⟨x1, bs2, hx1⟩ := h1 H enc w spare held n _ _ t1
    exact ⟨⟨x0, x1⟩, bs1 ++ bs2, a, b, bs1, bs2, rfl, rfl, by simpa using hx0, by simpa using hx1⟩

end
end Go.Proofs.Ytlmngncogomgeaa.D
