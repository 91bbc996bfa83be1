/- Of the proof of FnOnce: Chn, CopyB, Pick, Edge, Take, FsA, Args. -/
import Derived.Test.YtjjfafgaphloaaaGreatDoorRows
import Derived.Test.YtjjfafgaphloaaaGreatDoorM02
import Derived.ProofKit
import Derived.OpenShut
import Derived.ShutString
namespace Go.Proofs.YtjjfafgaphloaaaGreatDoor.D
open Go Go.RowKit
set_option linter.unusedVariables false
def RowIs (base e : Nat) (w : World) (v : Value) (n : Nat) (L : List Value) (o : Option Nat) : Prop := (∃ A cap, v = .slice A n cap) ∧ w.ownsRow base e 1 v n L ∧ (∀ b, v.ownBlock = some b → o = some b)

def OneIs (e : Nat) (w : World) (v x : Value) (o : Option Nat) : Prop := ∃ l, v = .slice (some ⟨l, 0, none⟩) 1 1 ∧ w.heap[l]? = some (.cells #[x] e (0, 0)) ∧ o = some l

def Inn (base : Nat) (w : World) (o : Option Nat) : Prop := ∀ b, o = some b → base ≤ b ∧ b < w.heap.size

def Aprt (o p : Option Nat) : Prop := ∀ b, o = some b → p ≠ some b

theorem own_same {w w' : World} {base e size n : Nat} {v : Value} {L : List Value} (h : w.ownsRow base e size v n L) (hk : ∀ b, v.ownBlock = some b → w'.heap[b]? = w.heap[b]?) : w'.ownsRow base e size v n L := by
  refine ⟨h.1, h.2.imp id ?_⟩
  rintro ⟨g, cap, cur, hv, hg, hh, r⟩
  exact ⟨g, cap, cur, hv, hg, by rw [hk g (by rw [hv]; rfl)]; exact hh, r⟩

theorem RowIs.keep {base e : Nat} {w w' : World} {v : Value} {n : Nat} {L : List Value} {o : Option Nat} (h : RowIs base e w v n L o) (hk : ∀ b, o = some b → w'.heap[b]? = w.heap[b]?) : RowIs base e w' v n L o :=
  ⟨h.1, own_same h.2.1 fun b hb => hk b (h.2.2 b hb), h.2.2⟩

theorem OneIs.keep {e : Nat} {w w' : World} {v x : Value} {o : Option Nat} (h : OneIs e w v x o) (hk : ∀ b, o = some b → w'.heap[b]? = w.heap[b]?) : OneIs e w' v x o := by
  obtain ⟨l, h1, h2, rfl⟩ := h
  exact ⟨l, h1, by rw [hk l rfl]; exact h2, rfl⟩

theorem Inn.keep {base : Nat} {w w' : World} {o : Option Nat} (h : Inn base w o) (hs : w.heap.size ≤ w'.heap.size) : Inn base w' o := fun b hb => ⟨(h b hb).1, Nat.lt_of_lt_of_le (h b hb).2 hs⟩

theorem Aprt.new {base : Nat} {w : World} {o : Option Nat} (h : Inn base w o) : Aprt o (some w.heap.size) := fun b hb e => by have := (h b hb).2; simp at e; omega

theorem Aprt.symm {o p : Option Nat} (h : Aprt o p) : Aprt p o := fun b hb e => h b e hb

/-- Where the chain stands: the empty slice made, the row appended, the slice of one made, that appended. -/
structure Chn (base e n : Nat) (L : List Value) (x : Value) (be br bs bf : Bool) (ve vr vs vf : Value) (o1 o2 : Option Nat) (w : World) : Prop where
  e_ : be = true → br = false → RowIs base e w ve 0 [] o1
  r_ : br = true → bf = false → RowIs base e w vr n L o1
  s_ : bs = true → bf = false → OneIs e w vs x o2
  f_ : bf = true → RowIs base e w vf (n + 1) (L ++ [x]) o1
  i1 : Inn base w o1
  i2 : Inn base w o2
  d : Aprt o1 o2
  hr : br = true → be = true
  hf : bf = true → br = true ∧ bs = true

section
variable {base e n : Nat} {L : List Value} {x : Value} {be br bs bf : Bool} {ve vr vs vf : Value} {o1 o2 : Option Nat} {w w' : World}
theorem Chn.start : Chn base e n L x false false false false ve vr vs vf none none w :=
  ⟨(fun h => by cases h), (fun h => by cases h), (fun h => by cases h), (fun h => by cases h), ((fun b h => by cases h)), ((fun b h => by cases h)), ((fun b h => by cases h)), (fun h => by cases h), (fun h => by cases h)⟩

theorem Chn.keep (h : Chn base e n L x be br bs bf ve vr vs vf o1 o2 w) (hs : w.heap.size ≤ w'.heap.size) (h1 : ∀ b, o1 = some b → w'.heap[b]? = w.heap[b]?) (h2 : ∀ b, o2 = some b → w'.heap[b]? = w.heap[b]?) :
    Chn base e n L x be br bs bf ve vr vs vf o1 o2 w' :=
  ⟨fun a b => (h.e_ a b).keep h1, fun a b => (h.r_ a b).keep h1, fun a b => (h.s_ a b).keep h2, fun a => (h.f_ a).keep h1, h.i1.keep hs, h.i2.keep hs, h.d, h.hr, h.hf⟩

theorem Chn.below (h : Chn base e n L x be br bs bf ve vr vs vf o1 o2 w) (hb : Below w.heap.size w w') : Chn base e n L x be br bs bf ve vr vs vf o1 o2 w' :=
  h.keep hb.size (fun b hb1 => hb.block b (h.i1 b hb1).2) fun b hb2 => hb.block b (h.i2 b hb2).2

/-- Another row grows beside it. -/
theorem Chn.beside (h : Chn base e n L x be br bs bf ve vr vs vf o1 o2 w) {o : Option Nat} (hg : w.grownBy w' o) (hs : w.heap.size ≤ w'.heap.size) (h1 : Aprt o o1) (h2 : Aprt o o2) : Chn base e n L x be br bs bf ve vr vs vf o1 o2 w' :=
  h.keep hs (fun b hb => hg.block b (h.i1 b hb).2 fun e' => h1 b e'.symm hb) fun b hb => hg.block b (h.i2 b hb).2 fun e' => h2 b e'.symm hb

theorem Chn.stepE (h : Chn base e n L x false br bs bf ve vr vs vf o1 o2 w) (hb : base ≤ w.heap.size) : Chn base e n L x true br bs bf (.slice (some ⟨w.heap.size, 0, none⟩) 0 0) vr vs vf (some w.heap.size) o2 (w.alloc (.cells #[] e)) := by
  have hA : Below w.heap.size w (w.alloc (.cells #[] e)) := (Below.refl _ _).alloc (Nat.le_refl _) _
  have hbr : br = false := by cases br with
    | false => rfl
    | true => exact absurd (h.hr rfl) (by simp)
  have hbf : bf = false := by cases bf with
    | false => rfl
    | true => rw [hbr] at h; exact absurd (h.hf rfl).1 (by simp)
  subst hbr hbf
  refine ⟨fun _ _ => ⟨⟨_, _, rfl⟩, own_empty (heap_alloc_new w _) hb, fun b hb => by simpa [Value.ownBlock] using hb⟩, (fun h => by cases h), fun a b => (h.s_ a b).keep fun b hb => hA.block b (h.i2 b hb).2, (fun h => by cases h), fun b hb => ?_, h.i2.keep hA.size, (Aprt.new h.i2).symm, fun _ => rfl, (fun h => by cases h)⟩
  simp at hb
  subst hb
  simp
  exact hb

theorem Chn.stepS (h : Chn base e n L x be br false bf ve vr vs vf o1 o2 w) (hb : base ≤ w.heap.size) : Chn base e n L x be br true bf ve vr (.slice (some ⟨w.heap.size, 0, none⟩) 1 1) vf o1 (some w.heap.size) (w.alloc (.cells #[x] e)) := by
  have hA : Below w.heap.size w (w.alloc (.cells #[x] e)) := (Below.refl _ _).alloc (Nat.le_refl _) _
  have hk := fun b hb => hA.block b (h.i1 b hb).2
  have hbf : bf = false := by cases bf with
    | false => rfl
    | true => exact absurd (h.hf rfl).2 (by simp)
  subst hbf
  refine ⟨fun a b => (h.e_ a b).keep hk, fun a b => (h.r_ a b).keep hk, fun _ _ => ⟨_, rfl, heap_alloc_new w _, rfl⟩, (fun h => by cases h), h.i1.keep hA.size, fun b hb => ?_, Aprt.new h.i1, h.hr, (fun h => by cases h)⟩
  simp at hb
  subst hb
  simp
  exact hb

theorem Chn.stepR (h : Chn base e n L x true false bs bf ve vr vs vf o1 o2 w) (hb : base ≤ w.heap.size) {A : Option Addr} {cap : Nat} (hown : w'.ownsRow base e 1 (.slice A n cap) n L) (hg : w.grownBy w' ve.ownBlock) (hs : w.heap.size ≤ w'.heap.size)
    (hloc : (Value.slice A n cap).ownBlock = ve.ownBlock ∨ (Value.slice A n cap).ownBlock = some w.heap.size) (hin : Inn base w' (Value.slice A n cap).ownBlock) :
    Chn base e n L x true true bs bf ve (.slice A n cap) vs vf (Value.slice A n cap).ownBlock o2 w' := by
  have hbf : bf = false := by cases bf with
    | false => rfl
    | true => exact absurd (h.hf rfl).1 (by simp)
  subst hbf
  have hE := h.e_ rfl rfl
  have hk2 : ∀ b, o2 = some b → w'.heap[b]? = w.heap[b]? := fun b hb => hg.block b (h.i2 b hb).2 fun e' => h.d b (hE.2.2 b e'.symm) hb
  refine ⟨(fun _ h => by cases h), fun _ _ => ⟨⟨_, _, rfl⟩, hown, fun b hb => hb⟩, fun a b => (h.s_ a b).keep hk2, (fun h => by cases h), hin, h.i2.keep hs, fun b hb hb2 => ?_, fun _ => rfl, (fun h => by cases h)⟩
  rcases hloc with hl | hl
  · rw [hl] at hb
    exact h.d b (hE.2.2 b hb) hb2
  · rw [hl] at hb
    have := (h.i2 b hb2).2
    simp at hb
    omega

theorem Chn.stepF (h : Chn base e n L x true true true false ve vr vs vf o1 o2 w) (hb : base ≤ w.heap.size) {A : Option Addr} {cap : Nat} (hown : w'.ownsRow base e 1 (.slice A (n + 1) cap) (n + 1) (L ++ [x])) (hg : w.grownBy w' vr.ownBlock) (hs : w.heap.size ≤ w'.heap.size)
    (hloc : (Value.slice A (n + 1) cap).ownBlock = vr.ownBlock ∨ (Value.slice A (n + 1) cap).ownBlock = some w.heap.size) (hin : Inn base w' (Value.slice A (n + 1) cap).ownBlock) :
    Chn base e n L x true true true true ve vr vs (.slice A (n + 1) cap) (Value.slice A (n + 1) cap).ownBlock o2 w' := by
  have hE := h.r_ rfl rfl
  refine ⟨(fun _ h => by cases h), (fun _ h => by cases h), (fun _ h => by cases h), fun _ => ⟨⟨_, _, rfl⟩, hown, fun b hb => hb⟩, hin, h.i2.keep hs, fun b hb hb2 => ?_, fun _ => rfl, fun _ => ⟨rfl, rfl⟩⟩
  rcases hloc with hl | hl
  · rw [hl] at hb
    exact h.d b (hE.2.2 b hb) hb2
  · rw [hl] at hb
    have := (h.i2 b hb2).2
    simp at hb
    omega

end
theorem own_inn {base e size n : Nat} {w : World} {v : Value} {L : List Value} (h : w.ownsRow base e size v n L) : Inn base w v.ownBlock := fun b hb => by
  rcases h.2 with ⟨rfl, _⟩ | ⟨g, cap, cur, rfl, hg, hh, _⟩
  · simp [Value.ownBlock] at hb
  · have : g = b := by simpa [Value.ownBlock] using hb
    subst this
    exact ⟨hg, lt_of_block hh⟩

end Go.Proofs.YtjjfafgaphloaaaGreatDoor.D
namespace Go.Proofs.YtjjfafgaphloaaaGreatDoor
open Go.RowKit D
set_option linter.unusedVariables false
theorem infoTerm3 : (Tryz.prog.info? 127).map (fun i => (i.zero, i.size, i.bytes)) = some (some (.agg #[.bool false, .string ⟨#[]⟩]), 2, 24) := by kernel_rfl

theorem infoAtom3 : (Tryz.prog.info? 33).map (fun i => (i.zero, i.size, i.bytes)) = some (some (.agg #[.string ⟨#[]⟩, .slice none 0 0]), 2, 40) := by kernel_rfl

theorem D.terms_none (w : World) : termsK w [.slice none 0 0] [] [] := ⟨none, 0, rfl, Nat.le_refl _, Nat.zero_le _, fun _ => rfl, fun h => absurd rfl h⟩

theorem D.termRow {w : World} {L : List Value} {xs : List T} {bs : List Nat} (h : Rowed 2 termK w L xs bs) : bs = [] := by
  obtain ⟨_, _, G, rfl, hG⟩ := h
  rw [List.flatMap_eq_nil_iff]
  intro j hj
  obtain ⟨_, _, h⟩ := hG j (List.mem_range.1 hj)
  exact h

/-- A row of terms of the call's own, as a slice. -/
theorem D.terms_own {w w2 : World} {base e : Nat} {A : Option Addr} {cap : Nat} {L : List Value} {xs : List T} {bs : List Nat} (h : Rowed 2 termK w L xs bs) (hown : w2.ownsRow base e 2 (.slice A xs.length cap) xs.length L) :
    ∃ b2, termsK w2 [.slice A xs.length cap] xs b2 ∧ New base w2 b2 := by
  obtain rfl := termRow h
  have h2 : Rowed 2 termK w2 L xs [] := h.keep termK_good fun b hb => by simp at hb
  rcases hown.2 with ⟨hv, hx⟩ | ⟨g, cap', cur, hv, hg, hh, hc1, hc2, hc3, hc4⟩
  · have hx0 : xs = [] := List.length_eq_zero_iff.1 hx
    subst hx0
    simp only [Value.slice.injEq, List.length_nil] at hv
    obtain ⟨rfl, -, rfl⟩ := hv
    exact ⟨[], terms_none w2, New.nil _ _⟩
  · obtain ⟨b2, hs, hb⟩ := h2.slice hown
    simp only [Value.slice.injEq] at hv
    obtain ⟨rfl, -, rfl⟩ := hv
    by_cases hne : xs = []
    · subst hne
      exact ⟨[], ⟨_, cap, rfl, hc1, hc2, fun _ => rfl, fun h => absurd rfl h⟩, New.nil _ _⟩
    · obtain ⟨Ad', cap'', hcs, _, _, _, h1⟩ := id hs
      obtain ⟨b, o, hAd, F, G, rfl, hF⟩ := h1 hne
      have hG : (List.range xs.length).flatMap G = [] := by
        rw [List.flatMap_eq_nil_iff]
        intro j hj
        obtain ⟨_, _, _, _, h⟩ := hF j _ (List.getElem?_eq_getElem (List.mem_range.1 hj))
        exact h
      rw [hG] at hs
      simp only [List.cons.injEq, Value.slice.injEq, and_true] at hcs
      have hb' : b = g := by
        have := hcs.1.symm.trans rfl
        rw [hAd] at this
        simp at this
        exact this.1
      subst hb'
      exact ⟨[b], hs, ⟨by simp, fun c hc => by
        obtain rfl : c = b := by simpa using hc
        exact ⟨hg, cur, e, hh⟩⟩⟩

theorem i64_xor_nat (a b : Nat) (ha : a < 4611686018427387904) (hb : b < 4611686018427387904) : bits .xor .i64 (a : Int) (b : Int) = ((a ^^^ b : Nat) : Int) := by
  have hx : a ^^^ b < 2 ^ 62 := Nat.xor_lt_two_pow (by omega) (by omega)
  show IntKind.i64.wrap ((BitVec.ofInt 64 (a : Int) ^^^ BitVec.ofInt 64 (b : Int)).toNat : Int) = _
  rw [BitVec.toNat_xor, ofInt_u64 a (by omega), ofInt_u64 b (by omega), IntKind.wrap_i64]
  omega

theorem i64_xor_pos (a b : Int) (h1 : 0 ≤ a) (h2 : a < 4611686018427387904) (h3 : 0 ≤ b) (h4 : b < 4611686018427387904) : 0 ≤ bits .xor .i64 a b := by
  obtain ⟨x, rfl⟩ := Int.eq_ofNat_of_zero_le h1
  obtain ⟨y, rfl⟩ := Int.eq_ofNat_of_zero_le h3
  rw [i64_xor_nat x y (by omega) (by omega)]
  omega

/-- Block g is a reader that has been asked p times; its bytes lie in other blocks. -/
def Rdr (g : Nat) (p : Nat) (w : World) : Prop :=
  ∃ (Ad : Option Addr) (n cap : Nat), w.heap[g]? = some (.cells #[.slice Ad n cap, .int .i64 p] 92 (0, 0)) ∧ n ≤ 2000 ∧
    ∀ k, k < n → ∃ b o c, Ad = some ⟨b, o, none⟩ ∧ b < g ∧ w.cell? ⟨b, o + k, none⟩ = some (.int .u8 c) ∧ 0 ≤ c ∧ c ≤ 255

theorem Rdr.lt {g p : Nat} {w : World} (h : Rdr g p w) : g < w.heap.size := by
  obtain ⟨_, _, _, h, _⟩ := h; exact lt_of_block h

theorem Rdr.drew {g p : Nat} {w : World} (h : Rdr g p w) : Rdr g p w.drew := h

theorem grown_setCell (w : World) (g o : Nat) (v : Value) : w.grownBy (w.setCell ⟨g, o, none⟩ v) (some g) :=
  ⟨rfl, rfl, rfl, by simp [World.setCell], fun k _ hk => Below.heap_setCell _ _ _ _ (fun e => hk (by rw [e]))⟩

theorem grown_drewN {w w' : World} {r : Option Nat} (h : w.grownBy w' r) (n : Nat) : w.grownBy (w'.drewN n) r := ⟨h.os, h.tape, h.output, h.size, h.block⟩

theorem Rdr.step {g p m cap : Nat} {Ad : Option Addr} {w : World} (hg : w.heap[g]? = some (.cells #[.slice Ad m cap, .int .i64 p] 92 (0, 0))) (hm : m ≤ 2000)
    (hc : ∀ k, k < m → ∃ b o c, Ad = some ⟨b, o, none⟩ ∧ b < g ∧ w.cell? ⟨b, o + k, none⟩ = some (.int .u8 c) ∧ 0 ≤ c ∧ c ≤ 255) : Rdr g (p + 1) (w.setCell ⟨g, 1, none⟩ (.int .i64 ((p : Int) + 1))) := by
  refine ⟨Ad, m, cap, ?_, hm, fun k hk => ?_⟩
  · have hlt := lt_of_block hg
    have h' : w.heap[g] = .cells #[.slice Ad m cap, .int .i64 p] 92 (0, 0) := by simpa [Array.getElem?_eq_getElem hlt] using hg
    show (w.heap.modify g _)[g]? = _
    rw [Array.getElem?_eq_getElem (by simpa using hlt), Array.getElem_modify_self, h']
    rfl
  · obtain ⟨b, o, c, h1, h2, h3, h4⟩ := hc k hk
    exact ⟨b, o, c, h1, h2, by rw [World.cell?_of_block (w := w) (Below.heap_setCell _ _ _ _ (Nat.ne_of_lt h2))]; exact h3, h4⟩

theorem Rdr.keep {g p : Nat} {w w' : World} (h : Rdr g p w) (hk : ∀ b, b < w.heap.size → w'.heap[b]? = w.heap[b]?) : Rdr g p w' := by
  obtain ⟨Ad, n, cap, hg, hn, hc⟩ := h
  refine ⟨Ad, n, cap, by rw [hk g (lt_of_block hg)]; exact hg, hn, fun k hkn => ?_⟩
  obtain ⟨b, o, c, h1, h2, h3, h4⟩ := hc k hkn
  exact ⟨b, o, c, h1, h2, by rw [World.cell?_of_block (w := w) (hk b (lt_of_cell h3))]; exact h3, h4⟩

theorem Rdr.below {g p : Nat} {w w' : World} (h : Rdr g p w) (hb : Below w.heap.size w w') : Rdr g p w' := h.keep hb.block

/-- What pick leaves. -/
def Picked (g p : Nat) (n : Int) (w : World) (e : Ending) (w' : World) : Prop := ∃ i : Nat, e = .returned (.int .i64 i) ∧ (i : Int) < n ∧ Rdr g (p + 1) w' ∧ w.grownBy w' (some g)

theorem Picked.mk {g p : Nat} {n i : Int} {w w' : World} (h0 : 0 ≤ i) (hi : i < n) (hR : Rdr g (p + 1) w') (hg : w.grownBy w' (some g)) : Picked g p n w (.returned (.int .i64 i)) w' := by
  obtain ⟨x, rfl⟩ := Int.eq_ofNat_of_zero_le h0
  exact ⟨x, rfl, hi, hR, hg⟩

set_option maxHeartbeats 1000000 in
theorem pick_any (g p : Nat) (n : Int) (w : World) (h : Rdr g p w) (hp : p ≤ 1000000) (hn : 1 ≤ n) (hn2 : n ≤ 1000000) :
    Calls Tryz.prog 50 #[.pointer (some ⟨g, 0, none⟩), .int .i64 n] w (Picked g p n w) := by
  obtain ⟨Ad, m, cap, hg, hm, hc⟩ := h
  have c0 : w.cell? ⟨g, 0, none⟩ = some (.slice Ad m cap) := by simp [World.cell?, hg]
  have c1 : w.cell? ⟨g, 1, none⟩ = some (.int .i64 p) := by simp [World.cell?, hg]
  have f1 : w.frozen? ⟨g, 1, none⟩ = false := by simp [World.frozen?, hg]
  have HR := Lib.hid (Rdr.step hg hm hc)
  have HW := Lib.hid (grown_setCell w g 1 (.int .i64 ((p : Int) + 1)))
  have k0 : ∀ k, k < m → ∃ b o c, Ad = some ⟨b, o, none⟩ ∧ (w.setCell ⟨g, 1, none⟩ (.int .i64 ((p : Int) + 1))).cell? ⟨b, o + k, none⟩ = some (.int .u8 c) ∧ 0 ≤ c ∧ c ≤ 255 := by
    obtain ⟨Ad', m', cap', hg', _, hc'⟩ := HR.out
    intro k hk
    obtain ⟨b, o, c, h1, h2, h3, h4⟩ := hc k hk
    exact ⟨b, o, c, h1, by rw [World.cell?_of_block (w := w) (Below.heap_setCell _ _ _ _ (Nat.ne_of_lt h2))]; exact h3, h4⟩
  have HC := Lib.hid k0
  clear hg hc k0
  by_cases h0 : m = 0
  · subst h0
    go_enter Tryz.func50, Tryz.ntmps50
    go_wp2
    go_ret
    exact Picked.mk (by omega) (by omega) HR.out HW.out
  · by_cases hk : p < m
    · obtain ⟨b, o, c, rfl, d0, d1, d2⟩ := HC.out p hk
      have h0' : ((m : Int) == 0) = false := beq_eq_false_iff_ne.2 (by omega)
      go_enter Tryz.func50, Tryz.ntmps50
      go_wp2
      go_ret
      exact Picked.mk (Int.emod_nonneg _ (by omega)) (Int.emod_lt_of_pos _ (by omega)) HR.out HW.out
    · have m1 := Nat.mod_lt p (show 0 < m by omega)
      have m2 := Nat.mod_lt (p * 7 + 3) (show 0 < m by omega)
      obtain ⟨b, o, x1, rfl, d0, d1, d2⟩ := HC.out (p % m) m1
      obtain ⟨b', o', x2, he, e0, e1, e2⟩ := HC.out ((p * 7 + 3) % m) m2
      simp only [Option.some.injEq, Addr.mk.injEq, and_true] at he
      obtain ⟨rfl, rfl⟩ := he
      have h0' : ((m : Int) == 0) = false := beq_eq_false_iff_ne.2 (by omega)
      have b1 : (0 : Int) ≤ (p : Int) % (m : Int) := Int.emod_nonneg _ (by omega)
      have b2 : (p : Int) % (m : Int) < (m : Int) := Int.emod_lt_of_pos _ (by omega)
      have b3 : (0 : Int) ≤ ((p : Int) * 7 + 3) % (m : Int) := Int.emod_nonneg _ (by omega)
      have b4 : ((p : Int) * 7 + 3) % (m : Int) < (m : Int) := Int.emod_lt_of_pos _ (by omega)
      have b5 : (0 : Int) ≤ (p : Int) / (m : Int) := Int.ediv_nonneg (by omega) (by omega)
      have b6 : (p : Int) / (m : Int) ≤ (p : Int) := Int.ediv_le_self _ (by omega)
      have hmm : (1 : Int) ≤ (m : Int) := by omega
      go_enter Tryz.func50, Tryz.ntmps50
      go_wp2
      go_quiet (fail)
      clear d0 e0
      go_wp2
      go_ret
      have hx := i64_xor_pos (x1 * 131 + x2 * 1117 + (p : Int) * 29 + (p : Int) / (m : Int) * 53) ((x1 * 131 + x2 * 1117 + (p : Int) * 29 + (p : Int) / (m : Int) * 53) / 64) (by omega) (by omega) (by omega) (by omega)
      exact Picked.mk (Int.tmod_nonneg _ hx) (Int.tmod_lt_of_pos _ (by omega)) HR.out (grown_drewN HW.out _)

/-- What 'of' leaves: one of the texts. -/
def OneOf (xs : List ByteArray) (g p : Nat) (w : World) (e : Ending) (w' : World) : Prop := ∃ s, e = .returned (.string s) ∧ s ∈ xs ∧ Rdr g (p + 1) w' ∧ w.grownBy w' (some g)

set_option maxHeartbeats 400000 in
theorem of_any (g p : Nat) (v : Value) (xs : List ByteArray) (bs : List Nat) (w : World) (h : Rdr g p w) (hx : strsK w [v] xs bs) (hp : p ≤ 1000000) (hn : 1 ≤ xs.length) (hn2 : xs.length ≤ 1000000) (hg : g ∉ bs) :
    Calls Tryz.prog 94 #[.pointer (some ⟨g, 0, none⟩), v] w (OneOf xs g p w) := by
  obtain ⟨Ad, cap, rfl, hl, hm⟩ := sliceK_form hx
  have hpk := pick_any g p xs.length w h hp (by omega) (by omega)
  clear hm
  go_enter Tryz.func94, Tryz.ntmps94
  go_wp2_with fail
  refine hpk.mono ?_
  rintro e w1 ⟨i, rfl, hi, hR, hG⟩
  have hi' : i < xs.length := by omega
  have hi0 : (0 : Int) ≤ (i : Int) := by omega
  obtain ⟨b, o, rfl, hb, c0, hsz⟩ := strs_at (strsK_good.keep hx (w' := w1) (fun b hb => hG.block b (strsK_good.lt hx b hb) (fun e => hg (by injection e with e; rw [← e]; exact hb)))) hi'
  have hmem : xs[i] ∈ xs := List.getElem_mem _
  have HM := Lib.hid hmem
  have HG := Lib.hid hG
  clear hmem hx h hG
  go_wp2
  go_ret
  exact ⟨_, rfl, HM.out, hR, HG.out⟩

/-- What l1Open leaves: a reader in the one new block. -/
def Opened (w : World) (e : Ending) (w' : World) : Prop := e = .returned (.pointer (some ⟨w.heap.size, 0, none⟩)) ∧ Rdr w.heap.size 0 w' ∧ Below w.heap.size w w'

theorem opened_mk {w : World} {Ad : Option Addr} {n m cap : Nat} {xs : List UInt8} {bs : List Nat} (h : bytesK w [.slice Ad xs.length cap] xs bs) (hm : m ≤ xs.length) (h2 : m ≤ 2000) :
    Rdr w.heap.size 0 (w.alloc (.cells #[.slice Ad m n, .int .i64 0] 92)) := by
  refine ⟨Ad, m, n, heap_alloc_new w _, h2, fun k hk => ?_⟩
  obtain ⟨b, o, rfl, hb, hc⟩ := bytes_at h (show k < xs.length by omega)
  have hlt := bytesK_good.lt h b hb
  exact ⟨b, o, _, rfl, by omega, by rw [World.cell?_alloc_lt w _ _ hlt]; exact hc, by omega, by have := xs[k].toNat_lt; omega⟩

set_option maxHeartbeats 400000 in
theorem open_any (v : Value) (xs : List UInt8) (bs : List Nat) (w : World) (h : bytesK w [v] xs bs) (hn : xs.length ≤ 1048576) :
    Calls Tryz.prog 22 #[v] w (Opened w) := by
  obtain ⟨Ad, cap, rfl, hl, hm⟩ := sliceK_form h
  have hlm := nat_ge_max hm
  clear hm
  by_cases h2 : 2000 < xs.length
  · have hR := Lib.hid (fun n => opened_mk (n := n) (m := 2000) h (by omega) (by omega))
    clear h
    have hlc : (2000 : Int) ≤ (cap : Int) := by omega
    go_enter Tryz.func22, Tryz.ntmps22
    go_wp2
    go_ret
    exact ⟨rfl, hR.out _, (Below.refl _ _).alloc (Nat.le_refl _) _⟩
  · have hR := Lib.hid (opened_mk (n := cap) (m := xs.length) h (by omega) (by omega))
    clear h
    go_enter Tryz.func22, Tryz.ntmps22
    go_wp2
    go_ret
    exact ⟨rfl, hR.out, (Below.refl _ _).alloc (Nat.le_refl _) _⟩

end Go.Proofs.YtjjfafgaphloaaaGreatDoor
namespace Go.Proofs.YtjjfafgaphloaaaGreatDoor
open Go.RowKit D
set_option linter.unusedVariables false
attribute [local go_sem ↓] Go.wp_at_zero Go.wp_at_succ
def D.edge (n x y : ByteArray) : A := ⟨n, [⟨true, x⟩, ⟨true, y⟩]⟩

theorem D.terms_two {w : World} {b : Nat} {x y : ByteArray} {cx cy : Bool} (h : w.heap[b]? = some (.cells #[.bool cx, .string x, .bool cy, .string y] 127 (0, 0))) (hx : x.size ≤ maxLen) (hy : y.size ≤ maxLen) :
    termsK w [.slice (some ⟨b, 0, none⟩) 2 2] [⟨cx, x⟩, ⟨cy, y⟩] [b] := by
  refine ⟨_, 2, rfl, Nat.le_refl _, by unfold maxLen; omega, fun h => by simp at h, fun _ => ⟨b, 0, rfl, fun k => if k = 0 then [.bool cx, .string x] else [.bool cy, .string y], fun _ => [], by simp, fun k t hk => ?_⟩⟩
  match k, hk with
  | 0, hk =>
    simp only [List.getElem?_cons_zero, Option.some.injEq] at hk
    subst hk
    refine ⟨rfl, fun j v hj => ?_, rfl, hx, rfl⟩
    match j, hj with
    | 0, hj => rw [cell_of_blk h]; simpa using hj
    | 1, hj => rw [cell_of_blk h]; simpa using hj
    | j + 2, hj => simp at hj
  | 1, hk =>
    simp only [List.getElem?_cons_succ, List.getElem?_cons_zero, Option.some.injEq] at hk
    subst hk
    refine ⟨rfl, fun j v hj => ?_, rfl, hy, rfl⟩
    match j, hj with
    | 0, hj => rw [cell_of_blk h]; simpa using hj
    | 1, hj => rw [cell_of_blk h]; simpa using hj
    | j + 2, hj => simp at hj
  | k + 2, hk => simp at hk

set_option maxHeartbeats 1000000 in
theorem l10Edge_any (n x y : ByteArray) (w : World) (hn : n.size ≤ maxLen) (hx : x.size ≤ maxLen) (hy : y.size ≤ maxLen) :
    Calls Tryz.prog 97 #[.string n, .string x, .string y] w fun e w' => Below w.heap.size w w' ∧ w'.heap.size = w.heap.size + 2 ∧ ∃ b, e = .returned (.agg #[.string n, .slice (some ⟨b, 0, none⟩) 2 2]) ∧ atomK w' [.string n, .slice (some ⟨b, 0, none⟩) 2 2] (edge n x y) [b] ∧ b = w.heap.size + 1 := by
  go_enter Tryz.func97, Tryz.ntmps97
  go_wp2
  have hblk : ((w.alloc (.cells #[.string n, .slice (some ⟨w.heap.size + 1, 0, none⟩) 2 2] 33)).alloc (.cells #[.bool true, .string x, .bool true, .string y] 127)).heap[w.heap.size + 1]? = some (.cells #[.bool true, .string x, .bool true, .string y] 127 (0, 0)) := by
    simpa using heap_alloc_new (w.alloc (.cells #[.string n, .slice (some ⟨w.heap.size + 1, 0, none⟩) 2 2] 33)) (.cells #[.bool true, .string x, .bool true, .string y] 127)
  have z0 : ((w.alloc (.cells #[.string n, .slice (some ⟨w.heap.size + 1, 0, none⟩) 2 2] 33)).alloc (.cells #[.bool true, .string x, .bool true, .string y] 127)).cell? ⟨w.heap.size, 0, none⟩ = some (.string n) := by go_simp
  have z1 : ((w.alloc (.cells #[.string n, .slice (some ⟨w.heap.size + 1, 0, none⟩) 2 2] 33)).alloc (.cells #[.bool true, .string x, .bool true, .string y] 127)).cell? ⟨w.heap.size, 1, none⟩ = some (.slice (some ⟨w.heap.size + 1, 0, none⟩) 2 2) := by go_simp
  refine bodyPost_ret (v := .agg #[.string n, .slice (some ⟨w.heap.size + 1, 0, none⟩) 2 2]) (by simp [results, Tryz.results97, go_sem, z0, z1]) rfl ?_
  exact ⟨((Below.refl _ _).alloc (Nat.le_refl _) _).alloc (by simp) _, by simp, _, rfl, ⟨_, rfl, hn, terms_two hblk hx hy⟩, rfl⟩

end Go.Proofs.YtjjfafgaphloaaaGreatDoor
namespace Go.Proofs.YtjjfafgaphloaaaGreatDoor
open Go.RowKit D
set_option linter.unusedVariables false
theorem D.sliceK_take {α : Type} {n : Nat} {R : Rel α} {w : World} {A : Option Addr} {l cap k : Nat} {xs : List α} {bs : List Nat} (h : sliceK n R w [.slice A l cap] xs bs) (hk : k ≤ xs.length) : ∃ b2, sliceK n R w [.slice A k cap] (xs.take k) b2 ∧ ∀ c ∈ b2, c ∈ bs := by
  obtain ⟨Ad', cap', hcs, hl, hm, h0, h1⟩ := h
  simp only [List.cons.injEq, Value.slice.injEq, and_true] at hcs
  obtain ⟨rfl, rfl, rfl⟩ := hcs
  have hlen : (xs.take k).length = k := by rw [List.length_take]; omega
  by_cases hx : xs.take k = []
  · have : k = 0 := by rw [hx] at hlen; simpa using hlen.symm
    subst this
    exact ⟨[], ⟨A, cap, by simp, by simp, hm, fun _ => rfl, fun hne => absurd (by simp) hne⟩, fun c hc => by simp at hc⟩
  · have hne : xs ≠ [] := fun e => hx (by rw [e]; simp)
    obtain ⟨b, o, rfl, F, G, rfl, hF⟩ := h1 hne
    refine ⟨b :: (List.range (xs.take k).length).flatMap G, ⟨_, cap, by rw [hlen], by omega, hm, fun e => absurd e hx, fun _ => ⟨b, o, rfl, F, G, rfl, fun j x hj => hF j x ?_⟩⟩, fun c hc => ?_⟩
    rotate_left
    · rcases List.mem_cons.1 hc with rfl | hc
      · exact List.mem_cons_self ..
      · obtain ⟨j, hj, hc⟩ := List.mem_flatMap.1 hc
        exact List.mem_cons_of_mem _ (List.mem_flatMap.2 ⟨j, List.mem_range.2 (by have := List.mem_range.1 hj; omega), hc⟩)
    have hjk : j < (xs.take k).length := (List.getElem?_eq_some_iff.1 hj).1
    rw [List.getElem?_take_of_lt (by omega)] at hj
    exact hj

end Go.Proofs.YtjjfafgaphloaaaGreatDoor
namespace Go.Proofs.YtjjfafgaphloaaaGreatDoor
open Go.RowKit D
set_option linter.unusedVariables false
attribute [local go_sem ↓] Go.wp_at_zero Go.wp_at_succ
/-- A yes just if P. -/
def D.Truth (P : Prop) (w : World) (e : Ending) (w' : World) : Prop := ∃ r : Bool, e = .returned (.bool r) ∧ (r = true ↔ P) ∧ Below w.heap.size w w'

theorem D.bytes_eq {a b : ByteArray} : (a.toList == b.toList) = true ↔ a = b := by
  rw [beq_iff_eq, ByteArray.toList_eq, ByteArray.toList_eq]
  constructor
  · intro h; cases a; cases b; simp only [ByteArray.mk.injEq]; exact Array.toList_inj.1 h
  · rintro rfl; rfl

theorem D.bytes_ne {a b : ByteArray} : (a.toList == b.toList) = false ↔ a ≠ b := by
  rw [← Bool.not_eq_true, bytes_eq]

theorem D.term_eq {t u : T} : t = u ↔ t.var = u.var ∧ t.name = u.name := by cases t; cases u; simp

theorem D.atom_eq {a b : A} : a = b ↔ a.name = b.name ∧ a.args = b.args := by cases a; cases b; simp

set_option maxHeartbeats 1000000 in
theorem fsAtom_any (a b : A) (c0 c1 d0 d1 : Value) (b1 b2 : List Nat) (w : World) (h : atomK w [c0, c1] a b1) (h2 : atomK w [d0, d1] b b2) :
    Calls Tryz.prog 30 #[.agg #[c0, c1], .agg #[d0, d1]] w (Truth (a = b) w) := by
  have t1 := atom_args h
  have t2 := atom_args h2
  obtain ⟨Ad, cap, rfl, rfl⟩ := atom_cells2 h
  obtain ⟨Ae, cape, rfl, rfl⟩ := atom_cells2 h2
  obtain ⟨_, _, _, hl, hm⟩ := sliceK_form t1
  have hA0 : Below w.heap.size w ((w.alloc (.cells #[.string a.name, .slice Ad a.args.length cap] 33)).alloc (.cells #[.string b.name, .slice Ae b.args.length cape] 33)) := ((Below.refl _ _).alloc (Nat.le_refl _) _).alloc (by simp) _
  have hlm := nat_ge_max (Nat.le_trans hl hm)
  clear h h2 hl hm
  cases hn : (a.name.toList == b.name.toList)
  · have HE : Hid (¬ a = b) := Lib.hid (fun e => bytes_ne.1 hn (by rw [e]))
    clear t1 t2
    go_enter Tryz.func30, Tryz.ntmps30
    go_wp2
    go_ret
    exact ⟨false, rfl, by simpa using HE.out, hA0⟩
  · by_cases hl : a.args.length = b.args.length
    · have HN := Lib.hid (bytes_eq.1 hn)
      have x1 : ((w.alloc (.cells #[.string a.name, .slice Ad a.args.length cap] 33)).alloc (.cells #[.string b.name, .slice Ae b.args.length cape] 33)).cell? ⟨w.heap.size, 1, none⟩ = some (.slice Ad a.args.length cap) := by go_simp
      have y1 : ((w.alloc (.cells #[.string a.name, .slice Ad a.args.length cap] 33)).alloc (.cells #[.string b.name, .slice Ae b.args.length cape] 33)).cell? ⟨w.heap.size + 1, 1, none⟩ = some (.slice Ae b.args.length cape) := by go_simp
      have hq : ((a.args.length : Int) == (b.args.length : Int)) = true := by simp [hl]
      have HL := Lib.hid hl
      clear hl
      have hst := Lib.hid (And.intro hA0 (And.intro x1 y1))
      clear hA0 x1 y1
      go_enter Tryz.func30, Tryz.ntmps30
      go_wp2
      go_loopw [5] (fun i wr => ∃ k : Nat, k ≤ a.args.length ∧ i = .int .i64 k ∧ (∀ j (h1 : j < a.args.length) (h2 : j < b.args.length), j < k → a.args[j] = b.args[j]) ∧ Below w.heap.size w wr ∧ wr.cell? ⟨w.heap.size, 1, none⟩ = some (.slice Ad a.args.length cap) ∧ wr.cell? ⟨w.heap.size + 1, 1, none⟩ = some (.slice Ae b.args.length cape)) (fun i _ => a.args.length - (intOf i).toNat)
      case atStart => exact ⟨0, Nat.zero_le _, rfl, fun j _ _ h => by omega, hst.out.1, hst.out.2.1, hst.out.2.2⟩
      case round =>
        obtain ⟨k, hk, rfl, hall, hb, x1, y1⟩ := hrel
        have HA := Lib.hid hall
        clear hall hst
        by_cases hlt : k < a.args.length
        · have hlt2 : k < b.args.length := by have := HL.out; omega
          obtain ⟨bb, o, rfl, _, e0, e1, _⟩ := terms_at (termsK_good.below t1 hb) hlt
          obtain ⟨bc, o', rfl, _, g0, g1, _⟩ := terms_at (termsK_good.below t2 hb) hlt2
          have hk0 : (0 : Int) ≤ (k : Int) := by omega
          have hk1 : (k : Int) < (a.args.length : Int) := by omega
          have hk2 : (k : Int) < (b.args.length : Int) := by omega
          have HLT := Lib.hid (And.intro hlt hlt2)
          have HU : Hid (a.args[k] = b.args[k] → ∀ j (h1 : j < a.args.length) (h2 : j < b.args.length), j < k + 1 → a.args[j] = b.args[j]) := Lib.hid (fun e j h1 h2 hj => by
            by_cases hjk : j = k
            · subst hjk; exact e
            · exact HA.out j h1 h2 (by omega))
          have HV : Hid (a.args[k] ≠ b.args[k] → ¬ a = b) := Lib.hid (fun hne e => hne (by subst e; rfl))
          have HT : Hid (a.args[k] = b.args[k] ↔ a.args[k].var = b.args[k].var ∧ a.args[k].name = b.args[k].name) := Lib.hid term_eq
          generalize a.args[k] = t at *
          generalize b.args[k] = u at *
          clear t1 t2 hlt hlt2
          cases hv : (t.var == u.var)
          · have hne : t ≠ u := fun e => by subst e; simp at hv
            have HW := Lib.hid (HV.out hne)
            cases hz : (t.name.toList == u.name.toList) <;>
            · go_wp2
              go_quiet (fail)
              go_wp2
              go_ret
              exact ⟨false, rfl, by simpa using HW.out, by first | exact hb | exact below_drewN hb _⟩
          · cases hz : (t.name.toList == u.name.toList)
            · have hne : t ≠ u := fun e => by subst e; exact (bytes_ne.1 hz) rfl
              have HW := Lib.hid (HV.out hne)
              go_wp2
              go_quiet (fail)
              go_wp2
              go_ret
              exact ⟨false, rfl, by simpa using HW.out, by first | exact hb | exact below_drewN hb _⟩
            · have HW := Lib.hid (HU.out (HT.out.2 ⟨by simpa using hv, bytes_eq.1 hz⟩))
              go_wp2
              go_quiet (fail)
              go_wp2
              go_roundw
              case rel => exact ⟨k + 1, HLT.out.1, by go_num, HW.out, by first | exact hb | exact below_drewN hb _, by first | exact x1 | (go_simp; done), by first | exact y1 | (go_simp; done)⟩
              case measure => have := HLT.out.1; simp [intOf]; omega
        · have he : k = a.args.length := by omega
          have HW : Hid (a = b) := Lib.hid (atom_eq.2 ⟨HN.out, List.ext_getElem HL.out fun j h1 h2 => HA.out j h1 h2 (by omega)⟩)
          subst he
          clear t1 t2
          go_wp2
          go_ret
          exact ⟨true, rfl, by simpa using HW.out, hb⟩
    · have hq : ((a.args.length : Int) == (b.args.length : Int)) = false := beq_eq_false_iff_ne.2 (by omega)
      have HE : Hid (¬ a = b) := Lib.hid (fun e => hl (by rw [e]))
      clear t1 t2 hl
      go_enter Tryz.func30, Tryz.ntmps30
      go_wp2
      go_ret
      exact ⟨false, rfl, by simpa using HE.out, hA0⟩

end Go.Proofs.YtjjfafgaphloaaaGreatDoor
namespace Go.Proofs.YtjjfafgaphloaaaGreatDoor
open Go.RowKit D Go.ChangeShapes Go.WideShapes
set_option linter.unusedVariables false
theorem own : ownKnob Tryz.prog.godebug = none := by kernel_rfl

theorem laidOut : laidOutB Tryz.prog = true := by kernel_rfl

theorem open_in {α : Type} {P : Program} {t : TypeId} {R : Rel α} (hO : Opens P t R) {H : Type} {enc : TypeId × Value → H} {w : World} {spare : Nat → Bool} {held : Bool} {v : Value} {d : DataW H} {ps : List MemPlace}
    (h : DataW.Trod enc P w 0 spare held t v d ps) : ∃ x bs, R w v.cells.toList x bs := by
  obtain ⟨fuel, hf⟩ := h
  exact hO H enc w spare held fuel _ _ hf

theorem opBytes : Opens Tryz.prog 22 bytesK := opens_slice Tryz.underlying22 (by kernel_rfl) (by omega) (opens_byte Tryz.underlying5)

end Go.Proofs.YtjjfafgaphloaaaGreatDoor
