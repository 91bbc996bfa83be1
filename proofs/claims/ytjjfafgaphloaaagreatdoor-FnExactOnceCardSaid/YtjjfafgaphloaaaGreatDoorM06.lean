/- Of the proof of FnExactOnce: Chn, CopyB, MarkTs, Cnt, EqA, Sz, To, Args. -/
import Derived.WalkKit
import Derived.Test.YtjjfafgaphloaaaGreatDoorM01
import Derived.Lib.Hide
import Derived.WalkSpells
import Derived.WalkLawsBesides
import Derived.Deep.AppendLies
import Derived.Test.YtjjfafgaphloaaaGreatDoorProg
import Derived.Laws.BytesArg
import Derived.ShutString
import Derived.BigQuiet
import Derived.Deep.RegionHeld3
import Derived.Deep.RegionWith
import Derived.Deep.DrawnRows
import Derived.Lib.IndexBytes
import Derived.Deep.Slices
import Derived.Deep.Fields
import Derived.ChangeSame
import Derived.Deep.Draws
import Derived.Test.YtjjfafgaphloaaaGreatDoorRows
import Derived.Test.YtjjfafgaphloaaaGreatDoorM03
import Derived.ProofKit
import Derived.OpenShut
import Derived.ChangeOld
namespace Go.Proofs.YtjjfafgaphloaaaGreatDoor.D
open Go Go.RowKit
set_option linter.unusedVariables false
def RowIs (base e : Nat) (w : World) (v : Value) (n : Nat) (L : List Value) (o : Option Nat) : Prop := (∃ A cap, v = .slice A n cap) ∧ w.ownsRow base e 1 v n L ∧ (∀ b, v.ownBlock = some b → o = some b)

def OneIs (e : Nat) (w : World) (v x : Value) (o : Option Nat) : Prop := ∃ l, v = .slice (some ⟨l, 0, none⟩) 1 1 ∧ w.heap[l]? = some (.cells #[x] e (0, 0)) ∧ o = some l

def Inn (base : Nat) (w : World) (o : Option Nat) : Prop := ∀ b, o = some b → base ≤ b ∧ b < w.heap.size

def Aprt (o p : Option Nat) : Prop := ∀ b, o = some b → p ≠ some b

theorem own_same {w w' : World} {base e size n : Nat} {v : Value} {L : List Value} (h : w.ownsRow base e size v n L) (hk : ∀ b, v.ownBlock = some b → w'.heap[b]? = w.heap[b]?) : w'.ownsRow base e size v n L := by
  refine ⟨h.1, h.2.imp id ?_⟩
  rintro ⟨g, cap, cur, hv, hg, hh, r⟩
  exact ⟨g, cap, cur, hv, hg, by rw [hk g (by rw [hv]; rfl)]; exact hh, r⟩

theorem RowIs.keep {base e : Nat} {w w' : World} {v : Value} {n : Nat} {L : List Value} {o : Option Nat} (h : RowIs base e w v n L o) (hk : ∀ b, o = some b → w'.heap[b]? = w.heap[b]?) : RowIs base e w' v n L o :=
  ⟨h.1, own_same h.2.1 fun b hb => hk b (h.2.2 b hb), h.2.2⟩

theorem OneIs.keep {e : Nat} {w w' : World} {v x : Value} {o : Option Nat} (h : OneIs e w v x o) (hk : ∀ b, o = some b → w'.heap[b]? = w.heap[b]?) : OneIs e w' v x o := by
  obtain ⟨l, h1, h2, rfl⟩ := h
  exact ⟨l, h1, by rw [hk l rfl]; exact h2, rfl⟩

theorem Inn.keep {base : Nat} {w w' : World} {o : Option Nat} (h : Inn base w o) (hs : w.heap.size ≤ w'.heap.size) : Inn base w' o := fun b hb => ⟨(h b hb).1, Nat.lt_of_lt_of_le (h b hb).2 hs⟩

theorem Aprt.new {base : Nat} {w : World} {o : Option Nat} (h : Inn base w o) : Aprt o (some w.heap.size) := fun b hb e => by have := (h b hb).2; simp at e; omega

theorem Aprt.symm {o p : Option Nat} (h : Aprt o p) : Aprt p o := fun b hb e => h b e hb

/-- Where the chain stands: the empty slice made, the row appended, the slice of one made, that appended. -/
structure Chn (base e n : Nat) (L : List Value) (x : Value) (be br bs bf : Bool) (ve vr vs vf : Value) (o1 o2 : Option Nat) (w : World) : Prop where
  e_ : be = true → br = false → RowIs base e w ve 0 [] o1
  r_ : br = true → bf = false → RowIs base e w vr n L o1
  s_ : bs = true → bf = false → OneIs e w vs x o2
  f_ : bf = true → RowIs base e w vf (n + 1) (L ++ [x]) o1
  i1 : Inn base w o1
  i2 : Inn base w o2
  d : Aprt o1 o2
  hr : br = true → be = true
  hf : bf = true → br = true ∧ bs = true

section
variable {base e n : Nat} {L : List Value} {x : Value} {be br bs bf : Bool} {ve vr vs vf : Value} {o1 o2 : Option Nat} {w w' : World}
theorem Chn.start : Chn base e n L x false false false false ve vr vs vf none none w :=
  ⟨(fun h => by cases h), (fun h => by cases h), (fun h => by cases h), (fun h => by cases h), ((fun b h => by cases h)), ((fun b h => by cases h)), ((fun b h => by cases h)), (fun h => by cases h), (fun h => by cases h)⟩

theorem Chn.keep (h : Chn base e n L x be br bs bf ve vr vs vf o1 o2 w) (hs : w.heap.size ≤ w'.heap.size) (h1 : ∀ b, o1 = some b → w'.heap[b]? = w.heap[b]?) (h2 : ∀ b, o2 = some b → w'.heap[b]? = w.heap[b]?) :
    Chn base e n L x be br bs bf ve vr vs vf o1 o2 w' :=
  ⟨fun a b => (h.e_ a b).keep h1, fun a b => (h.r_ a b).keep h1, fun a b => (h.s_ a b).keep h2, fun a => (h.f_ a).keep h1, h.i1.keep hs, h.i2.keep hs, h.d, h.hr, h.hf⟩

theorem Chn.below (h : Chn base e n L x be br bs bf ve vr vs vf o1 o2 w) (hb : Below w.heap.size w w') : Chn base e n L x be br bs bf ve vr vs vf o1 o2 w' :=
  h.keep hb.size (fun b hb1 => hb.block b (h.i1 b hb1).2) fun b hb2 => hb.block b (h.i2 b hb2).2

/-- Another row grows beside it. -/
theorem Chn.beside (h : Chn base e n L x be br bs bf ve vr vs vf o1 o2 w) {o : Option Nat} (hg : w.grownBy w' o) (hs : w.heap.size ≤ w'.heap.size) (h1 : Aprt o o1) (h2 : Aprt o o2) : Chn base e n L x be br bs bf ve vr vs vf o1 o2 w' :=
  h.keep hs (fun b hb => hg.block b (h.i1 b hb).2 fun e' => h1 b e'.symm hb) fun b hb => hg.block b (h.i2 b hb).2 fun e' => h2 b e'.symm hb

theorem Chn.stepE (h : Chn base e n L x false br bs bf ve vr vs vf o1 o2 w) (hb : base ≤ w.heap.size) : Chn base e n L x true br bs bf (.slice (some ⟨w.heap.size, 0, none⟩) 0 0) vr vs vf (some w.heap.size) o2 (w.alloc (.cells #[] e)) := by
  have hA : Below w.heap.size w (w.alloc (.cells #[] e)) := (Below.refl _ _).alloc (Nat.le_refl _) _
  have hbr : br = false := by cases br with
    | false => rfl
    | true => exact absurd (h.hr rfl) (by simp)
  have hbf : bf = false := by cases bf with
    | false => rfl
    | true => rw [hbr] at h; exact absurd (h.hf rfl).1 (by simp)
  subst hbr hbf
  refine ⟨fun _ _ => ⟨⟨_, _, rfl⟩, own_empty (heap_alloc_new w _) hb, fun b hb => by simpa [Value.ownBlock] using hb⟩, (fun h => by cases h), fun a b => (h.s_ a b).keep fun b hb => hA.block b (h.i2 b hb).2, (fun h => by cases h), fun b hb => ?_, h.i2.keep hA.size, (Aprt.new h.i2).symm, fun _ => rfl, (fun h => by cases h)⟩
  simp at hb
  subst hb
  simp
  exact hb

theorem Chn.stepS (h : Chn base e n L x be br false bf ve vr vs vf o1 o2 w) (hb : base ≤ w.heap.size) : Chn base e n L x be br true bf ve vr (.slice (some ⟨w.heap.size, 0, none⟩) 1 1) vf o1 (some w.heap.size) (w.alloc (.cells #[x] e)) := by
  have hA : Below w.heap.size w (w.alloc (.cells #[x] e)) := (Below.refl _ _).alloc (Nat.le_refl _) _
  have hk := fun b hb => hA.block b (h.i1 b hb).2
  have hbf : bf = false := by cases bf with
    | false => rfl
    | true => exact absurd (h.hf rfl).2 (by simp)
  subst hbf
  refine ⟨fun a b => (h.e_ a b).keep hk, fun a b => (h.r_ a b).keep hk, fun _ _ => ⟨_, rfl, heap_alloc_new w _, rfl⟩, (fun h => by cases h), h.i1.keep hA.size, fun b hb => ?_, Aprt.new h.i1, h.hr, (fun h => by cases h)⟩
  simp at hb
  subst hb
  simp
  exact hb

theorem Chn.stepR (h : Chn base e n L x true false bs bf ve vr vs vf o1 o2 w) (hb : base ≤ w.heap.size) {A : Option Addr} {cap : Nat} (hown : w'.ownsRow base e 1 (.slice A n cap) n L) (hg : w.grownBy w' ve.ownBlock) (hs : w.heap.size ≤ w'.heap.size)
    (hloc : (Value.slice A n cap).ownBlock = ve.ownBlock ∨ (Value.slice A n cap).ownBlock = some w.heap.size) (hin : Inn base w' (Value.slice A n cap).ownBlock) :
    Chn base e n L x true true bs bf ve (.slice A n cap) vs vf (Value.slice A n cap).ownBlock o2 w' := by
  have hbf : bf = false := by cases bf with
    | false => rfl
    | true => exact absurd (h.hf rfl).1 (by simp)
  subst hbf
  have hE := h.e_ rfl rfl
  have hk2 : ∀ b, o2 = some b → w'.heap[b]? = w.heap[b]? := fun b hb => hg.block b (h.i2 b hb).2 fun e' => h.d b (hE.2.2 b e'.symm) hb
  refine ⟨(fun _ h => by cases h), fun _ _ => ⟨⟨_, _, rfl⟩, hown, fun b hb => hb⟩, fun a b => (h.s_ a b).keep hk2, (fun h => by cases h), hin, h.i2.keep hs, fun b hb hb2 => ?_, fun _ => rfl, (fun h => by cases h)⟩
  rcases hloc with hl | hl
  · rw [hl] at hb
    exact h.d b (hE.2.2 b hb) hb2
  · rw [hl] at hb
    have := (h.i2 b hb2).2
    simp at hb
    omega

theorem Chn.stepF (h : Chn base e n L x true true true false ve vr vs vf o1 o2 w) (hb : base ≤ w.heap.size) {A : Option Addr} {cap : Nat} (hown : w'.ownsRow base e 1 (.slice A (n + 1) cap) (n + 1) (L ++ [x])) (hg : w.grownBy w' vr.ownBlock) (hs : w.heap.size ≤ w'.heap.size)
    (hloc : (Value.slice A (n + 1) cap).ownBlock = vr.ownBlock ∨ (Value.slice A (n + 1) cap).ownBlock = some w.heap.size) (hin : Inn base w' (Value.slice A (n + 1) cap).ownBlock) :
    Chn base e n L x true true true true ve vr vs (.slice A (n + 1) cap) (Value.slice A (n + 1) cap).ownBlock o2 w' := by
  have hE := h.r_ rfl rfl
  refine ⟨(fun _ h => by cases h), (fun _ h => by cases h), (fun _ h => by cases h), fun _ => ⟨⟨_, _, rfl⟩, hown, fun b hb => hb⟩, hin, h.i2.keep hs, fun b hb hb2 => ?_, fun _ => rfl, fun _ => ⟨rfl, rfl⟩⟩
  rcases hloc with hl | hl
  · rw [hl] at hb
    exact h.d b (hE.2.2 b hb) hb2
  · rw [hl] at hb
    have := (h.i2 b hb2).2
    simp at hb
    omega

end
theorem own_inn {base e size n : Nat} {w : World} {v : Value} {L : List Value} (h : w.ownsRow base e size v n L) : Inn base w v.ownBlock := fun b hb => by
  rcases h.2 with ⟨rfl, _⟩ | ⟨g, cap, cur, rfl, hg, hh, _⟩
  · simp [Value.ownBlock] at hb
  · have : g = b := by simpa [Value.ownBlock] using hb
    subst this
    exact ⟨hg, lt_of_block hh⟩

end Go.Proofs.YtjjfafgaphloaaaGreatDoor.D

namespace Go.Proofs.YtjjfafgaphloaaaGreatDoor
open Go.RowKit D
set_option linter.unusedVariables false
theorem infoTerm3 : (Tryz.prog.info? 127).map (fun i => (i.zero, i.size, i.bytes)) = some (some (.agg #[.bool false, .string ⟨#[]⟩]), 2, 24) := by kernel_rfl

theorem infoAtom3 : (Tryz.prog.info? 33).map (fun i => (i.zero, i.size, i.bytes)) = some (some (.agg #[.string ⟨#[]⟩, .slice none 0 0]), 2, 40) := by kernel_rfl

theorem D.terms_none (w : World) : termsK w [.slice none 0 0] [] [] := ⟨none, 0, rfl, Nat.le_refl _, Nat.zero_le _, fun _ => rfl, fun h => absurd rfl h⟩

theorem D.termRow {w : World} {L : List Value} {xs : List T} {bs : List Nat} (h : Rowed 2 termK w L xs bs) : bs = [] := by
  obtain ⟨_, _, G, rfl, hG⟩ := h
  rw [List.flatMap_eq_nil_iff]
  intro j hj
  obtain ⟨_, _, h⟩ := hG j (List.mem_range.1 hj)
  exact h

/-- A row of terms of the call's own, as a slice. -/
theorem D.terms_own {w w2 : World} {base e : Nat} {A : Option Addr} {cap : Nat} {L : List Value} {xs : List T} {bs : List Nat} (h : Rowed 2 termK w L xs bs) (hown : w2.ownsRow base e 2 (.slice A xs.length cap) xs.length L) :
    ∃ b2, termsK w2 [.slice A xs.length cap] xs b2 ∧ New base w2 b2 := by
  obtain rfl := termRow h
  have h2 : Rowed 2 termK w2 L xs [] := h.keep termK_good fun b hb => by simp at hb
  rcases hown.2 with ⟨hv, hx⟩ | ⟨g, cap', cur, hv, hg, hh, hc1, hc2, hc3, hc4⟩
  · have hx0 : xs = [] := List.length_eq_zero_iff.1 hx
    subst hx0
    simp only [Value.slice.injEq, List.length_nil] at hv
    obtain ⟨rfl, -, rfl⟩ := hv
    exact ⟨[], terms_none w2, New.nil _ _⟩
  · obtain ⟨b2, hs, hb⟩ := h2.slice hown
    simp only [Value.slice.injEq] at hv
    obtain ⟨rfl, -, rfl⟩ := hv
    by_cases hne : xs = []
    · subst hne
      exact ⟨[], ⟨_, cap, rfl, hc1, hc2, fun _ => rfl, fun h => absurd rfl h⟩, New.nil _ _⟩
    · obtain ⟨Ad', cap'', hcs, _, _, _, h1⟩ := id hs
      obtain ⟨b, o, hAd, F, G, rfl, hF⟩ := h1 hne
      have hG : (List.range xs.length).flatMap G = [] := by
        rw [List.flatMap_eq_nil_iff]
        intro j hj
        obtain ⟨_, _, _, _, h⟩ := hF j _ (List.getElem?_eq_getElem (List.mem_range.1 hj))
        exact h
      rw [hG] at hs
      simp only [List.cons.injEq, Value.slice.injEq, and_true] at hcs
      have hb' : b = g := by
        have := hcs.1.symm.trans rfl
        rw [hAd] at this
        simp at this
        exact this.1
      subst hb'
      exact ⟨[b], hs, ⟨by simp, fun c hc => by
        obtain rfl : c = b := by simpa using hc
        exact ⟨hg, cur, e, hh⟩⟩⟩

end Go.Proofs.YtjjfafgaphloaaaGreatDoor

namespace Go.Proofs.YtjjfafgaphloaaaGreatDoor
open Go.RowKit D
set_option linter.unusedVariables false
attribute [local go_sem ↓] Go.wp_at_zero Go.wp_at_succ
theorem convOne (w : World) (n : Int) : (convert 22 9 (.slice (some ⟨w.heap.size, 0, none⟩) 1 1)).run Tryz.prog (w.alloc (.cells #[.int .u8 n] 5)) = .ok (.string (strOfNums [n])) (w.alloc (.cells #[.int .u8 n] 5)) :=
  run_convert_bytes_arg _ 22 5 Tryz.underlying22 Tryz.underlying5 w.heap.size 0 1 1 [n] rfl (fun i hi => by
    obtain rfl : i = 0 := by omega
    simp) 9 Tryz.underlying9

theorem D.str_one (n : Nat) : (strOfNums [((48 + n % 10 : Nat) : Int)]).data.toList = [UInt8.ofNat (48 + n % 10)] := rfl

set_option maxHeartbeats 400000 in
theorem markText_any (k : Nat) (w : World) (hk : k ≤ 1000000000000) :
    Calls Tryz.prog 46 #[.int .i64 k] w fun e w' => e = .returned (.string (markText k)) ∧ Below w.heap.size w w' := by
  by_cases h0 : k = 0
  · subst h0
    go_enter Tryz.func46, Tryz.ntmps46
    go_wp2
    go_ret
    exact ⟨rfl, Below.refl _ _⟩
  · have hlen := decL_len 18 k (by omega)
    have hmt : markText k = ⟨(109 :: decL k k).toArray⟩ := by unfold markText; rw [if_neg h0]
    have HM := Lib.hid hmt
    have hneg : ¬ (k : Int) ≤ 0 := by omega
    have kc := convOne
    clear hmt h0
    go_enter Tryz.func46, Tryz.ntmps46
    go_wp2
    go_loopw [0, 3] (fun i v wr => ∃ (m : Nat) (s : ByteArray), m ≤ k ∧ i = .int .i64 m ∧ v = .string s ∧ decL k k = decL m m ++ s.data.toList ∧ Below w.heap.size w wr) (fun i _ _ => (intOf i).toNat)
    case atStart => exact ⟨k, _, Nat.le_refl _, rfl, rfl, by simp, Below.refl _ _⟩
    case round =>
      obtain ⟨m, s, hm, rfl, rfl, hs, hb⟩ := hrel
      have hsz : s.size ≤ 18 := by
        have h1 := congrArg List.length hs
        have h5 : s.data.toList.length = s.size := Array.length_toList
        rw [List.length_append] at h1
        omega
      by_cases hm0 : m = 0
      · subst hm0
        have HS := Lib.hid hs
        clear hs
        go_wp2
        go_ret
        exact ⟨ret_str (WideShapes.bytes_inj (by rw [HM.out, ByteArray.data_append, Array.toList_append, HS.out]; simp [decL])), hb⟩
      · have HS := Lib.hid (hs.trans (by rw [decL_step hm0, List.append_assoc]))
        have hpos : (0 : Int) < (m : Int) := by omega
        have d0 : 0 ≤ (m : Int) % 10 := by omega
        have d1 : (m : Int) % 10 < 10 := by omega
        have h1 := strOfNums_size [48 + (m : Int) % 10]
        simp only [List.length_cons, List.length_nil] at h1
        have h1' : (strOfNums [48 + (m : Int) % 10]).size ≤ 1 := by omega
        have HE := Lib.hid (show (strOfNums [48 + (m : Int) % 10]).data.toList = [UInt8.ofNat (48 + m % 10)] from str_one m)
        clear hs hm0 h1
        go_wp2
        go_roundw
        case rel => exact ⟨m / 10, _, by omega, by go_num, rfl, by rw [HS.out, ByteArray.data_append, Array.toList_append, HE.out], hb.alloc hb.size _⟩
        case measure => simp [intOf]; omega

set_option maxHeartbeats 1000000 in
theorem markTermS_any (ts : List T) (v : Value) (bs : List Nat) (k B : Nat) (w : World) (h : termsK w [v] ts bs) (hN : New B w bs) (hk : k + 2 * ts.length ≤ 1000000000000) :
    Calls Tryz.prog 47 #[v, .int .i64 k] w (Marked termsK [v] (markTs ts k) bs (k + 2 * ts.length) B w) := by
  obtain ⟨Ad, cap, rfl, hl, hm⟩ := sliceK_form h
  clear hm
  go_enter Tryz.func47, Tryz.ntmps47
  go_wp2
  go_loopw [1, 5] (fun q j wr => ∃ (i : Nat) (ys : List T), i ≤ ts.length ∧ j = .int .i64 i ∧ q = .int .i64 (k + 2 * i : Nat) ∧ ys = markTo mkT (fun _ => 2) ts k i ∧ termsK wr [.slice Ad ts.length cap] ys bs ∧ New B wr bs ∧ KeptBut bs w wr) (fun _ j _ => ts.length - (intOf j).toNat)
  case atStart => exact ⟨0, ts, Nat.zero_le _, rfl, rfl, rfl, h, hN, KeptBut.refl _ _⟩
  case round =>
    obtain ⟨i, ys, hi, rfl, rfl, hy, hT, hNr, hK⟩ := hrel
    clear h hN
    by_cases hlt : i < ts.length
    · have hle : ys.length = ts.length := by rw [hy, markTo_length]
      have hey : ys[i]'(by omega) = ts[i] := by subst hy; exact markTo_at hlt
      have HS := Lib.hid (markTo_step (mk := mkT) (cnt := fun _ => 2) (k := k) hlt)
      have HY := Lib.hid hy
      clear hy
      obtain ⟨b, o, cs, bk, rfl, hb, hbk, hnd, hsub, hcs, hcell, ⟨rfl, hnm, rfl⟩, hput⟩ := sliceK_open termK_good hT hNr.nodup (k := i) (by omega)
      obtain ⟨u0, c0⟩ : ∃ u, wr.cell? ⟨b, o + i * 2, none⟩ = some u := ⟨_, hcell 0 _ rfl⟩
      obtain ⟨u1, c1⟩ : ∃ u, wr.cell? ⟨b, o + i * 2 + 1, none⟩ = some u := ⟨_, by have := hcell 1 _ rfl; rwa [← Nat.add_assoc] at this⟩
      have HP := Lib.hid hput
      have HW := Lib.hid (hNr.wri b hb)
      have f0 := HW.out.frozen (o + i * 2)
      have f1 := HW.out.frozen (o + i * 2 + 1)
      have hbl := hNr.lt hb
      have HL := Lib.hid hle
      have HN := Lib.hid hNr
      clear hcell hput hT hnd hsub hcs hle hNr hnm hey
      obtain ⟨q, hq⟩ : ∃ q, q = k + 2 * i := ⟨_, rfl⟩
      rw [← hq]
      have hq9 : q ≤ 1000000000000 := by omega
      have hq1 : q + 1 ≤ 1000000000000 := by omega
      have HQ := Lib.hid hq
      clear hq
      have HT : Hid ((markTo mkT (fun _ => 2) ts k i).set i (mkT ts[i] q) = markTo mkT (fun _ => 2) ts k (i + 1)) := Lib.hid (by
        have := HS.out
        rw [sumL_two, List.length_take, Nat.min_eq_left (by omega)] at this
        rw [HQ.out]; exact this)
      clear HS
      go_wp2_with fail
      refine (markText_any (q + 1) _ (by omega)).mono ?_
      rintro e w2 ⟨rfl, hb2⟩
      have g1 : w2.cell? ⟨b, o + i * 2 + 1, none⟩ = some u1 := cell_later hb2 (setCell_other c1 (by omega))
      have g0 := cell_later hb2 (World.cell?_setCell_same' wr ⟨b, o + i * 2, none⟩ _ (by rw [c0]; rfl))
      have f2 : w2.frozen? ⟨b, o + i * 2 + 1, none⟩ = false := (hb2.frozen (p := ⟨b, o + i * 2 + 1, none⟩) (by simpa using hbl)).trans (by rw [World.frozen?_setCell]; exact f1)
      have R := HP.out (w2.setCell ⟨b, o + i * 2 + 1, none⟩ (.string (markText (q + 1)))) [.bool (decide (q % 3 = 0)), .string (markText (q + 1))] (mkT ts[i] q) rfl
        (fun j v hv => by
          match j, hv with
          | 0, hv =>
            simp only [List.getElem?_cons_zero, Option.some.injEq] at hv
            subst hv
            refine setCell_other ?_ (by omega)
            rw [Nat.add_zero, g0]
            congr 2
            rw [Bool.eq_iff_iff, beq_iff_eq, decide_eq_true_eq]; omega
          | 1, hv =>
            simp only [List.getElem?_cons_succ, List.getElem?_cons_zero, Option.some.injEq] at hv
            subst hv
            rw [← Nat.add_assoc]
            exact World.cell?_setCell_same' _ _ _ (by rw [g1]; rfl)
          | j + 2, hv => simp at hv)
        (fun p v hv hp => setCell_other (cell_later hb2 (setCell_other hv (by omega))) (by omega))
        (fun c hc hne _ => by
          have hcl := HN.out.lt hc
          rw [Below.heap_setCell _ _ _ _ hne, hb2.block c (by simpa using hcl), Below.heap_setCell _ _ _ _ hne])
        ⟨rfl, markText_size (k := q + 1) (by omega), rfl⟩
      rw [HY.out, HT.out] at R
      have hN3 : New B (w2.setCell ⟨b, o + i * 2 + 1, none⟩ (.string (markText (q + 1)))) bs := ⟨HN.out.nodup, fun c hc => ⟨(HN.out.own c hc).1, by
        refine Wri.setCell (Wri.keep (Wri.setCell ((HN.out.wri c hc)) ⟨b, o + i * 2, none⟩ _) (hb2.block c (by have := HN.out.lt hc; simpa using this))) _ _⟩⟩
      have hK3 : KeptBut bs w (w2.setCell ⟨b, o + i * 2 + 1, none⟩ (.string (markText (q + 1)))) := ((hK.setCell (p := ⟨b, o + i * 2, none⟩) hb _).trans (KeptBut.of_below hb2)).setCell hb _
      clear HP HN HW c0 c1 f0 f1 g0
      go_wp2_with fail
      go_roundw
      case rel => exact ⟨i + 1, _, by omega, by go_num, by have := HQ.out; go_num, rfl, R, hN3, hK3⟩
      case measure => simp [intOf]; omega
    · have he : i = ts.length := by omega
      subst he
      have HY : Hid (ys = markTs ts k) := Lib.hid (by rw [hy, markTo_all]; rfl)
      clear hy
      go_wp2
      go_ret
      exact ⟨rfl, by rw [← HY.out]; exact hT, hNr, hK⟩

end Go.Proofs.YtjjfafgaphloaaaGreatDoor

namespace Go.Proofs.YtjjfafgaphloaaaGreatDoor.D
open Go.RowKit
theorem cntPs_le (xs : List Pt) : sumL cntP xs ≤ 3 * bulkPts xs := by
  unfold bulkPts
  induction xs with
  | nil => simp [sumL]
  | cons x xs ih =>
    have h1 : cntP x ≤ 3 + 3 * bulkPt x := by unfold cntP bulkPt bulkA; omega
    simp only [sumL, List.map_cons, List.sum_cons, List.length_cons] at *
    omega

end Go.Proofs.YtjjfafgaphloaaaGreatDoor.D

namespace Go.Proofs.YtjjfafgaphloaaaGreatDoor
open Go.RowKit D
set_option linter.unusedVariables false
attribute [local go_sem ↓] Go.wp_at_zero Go.wp_at_succ
set_option maxHeartbeats 400000 in
theorem eqTerm_same (t : T) (w : World) :
    Calls Tryz.prog 132 #[.agg #[.bool t.var, .string t.name], .agg #[.bool t.var, .string t.name]] w (Yes w.heap.size w) := by
  obtain ⟨b, nm⟩ := t
  cases b
  all_goals
    go_enter Tryz.func132, Tryz.ntmps132
    go_wp2
    go_ret
    exact ⟨rfl, ((Below.refl _ _).alloc (Nat.le_refl _) _).alloc (by simp) _⟩

set_option maxHeartbeats 400000 in
theorem eqTermS_same (ts : List T) (v1 v2 : Value) (b1 b2 : List Nat) (w : World) (h1 : termsK w [v1] ts b1) (h2 : termsK w [v2] ts b2) :
    Calls Tryz.prog 90 #[v1, v2] w (Yes w.heap.size w) := by
  obtain ⟨Ad, cap, rfl, hl, hm⟩ := sliceK_form h1
  obtain ⟨Ad2, cap2, rfl, hl2, hm2⟩ := sliceK_form h2
  have hlm := nat_ge_max (Nat.le_trans hl hm)
  clear hm hm2
  go_enter Tryz.func90, Tryz.ntmps90
  go_wp2
  go_loopw [5] (fun i wr => ∃ k : Nat, k ≤ ts.length ∧ i = .int .i64 k ∧ Below w.heap.size w wr) (fun i _ => ts.length - (intOf i).toNat)
  case atStart => exact ⟨0, Nat.zero_le _, rfl, Below.refl _ _⟩
  case round =>
    obtain ⟨k, hk, rfl, hb⟩ := hrel
    by_cases hlt : k < ts.length
    · obtain ⟨b, o, rfl, _, c0, c1, hnm⟩ := terms_at (termsK_good.below h1 hb) hlt
      obtain ⟨b', o', rfl, _, d0, d1, _⟩ := terms_at (termsK_good.below h2 hb) hlt
      clear h1 h2
      have hlt' : (k : Int) < (ts.length : Int) := by omega
      have hk0 : (0 : Int) ≤ (k : Int) := by omega
      go_wp2
      go_region_held3 (fun w' => w'.cell? ⟨b, o + k * 2, none⟩ = some (.bool ts[k].var) ∧ w'.cell? ⟨b, o + k * 2 + 1, none⟩ = some (.string ts[k].name) ∧ w'.cell? ⟨b', o' + k * 2, none⟩ = some (.bool ts[k].var) ∧ w'.cell? ⟨b', o' + k * 2 + 1, none⟩ = some (.string ts[k].name)) (first | go_keep | exact ⟨cell_later hb' c0, cell_later hb' c1, cell_later hb' d0, cell_later hb' d1⟩)
        (first | (go_at_call 132; refine (eqTerm_same _ _).mono ?_; rintro e w' ⟨rfl, hb'⟩))
      go_wp2
      go_roundw
      case rel => exact ⟨k + 1, by omega, by go_num, hb.trans ((Below.drew (Below.refl _ _)).trans (hb'.mono hb.size))⟩
      case measure => simp [intOf]; omega
    · have he : k = ts.length := by omega
      subst he
      go_wp2
      go_ret
      exact ⟨rfl, hb⟩

set_option maxHeartbeats 400000 in
theorem eqAtom_same (a : A) (c0 c1 d0 d1 : Value) (b1 b2 : List Nat) (w : World) (h1 : atomK w [c0, c1] a b1) (h2 : atomK w [d0, d1] a b2) :
    Calls Tryz.prog 44 #[.agg #[c0, c1], .agg #[d0, d1]] w (Yes w.heap.size w) := by
  obtain ⟨s1, hcs, hnm, ht1⟩ := h1
  obtain ⟨s2, hcs2, _, ht2⟩ := h2
  simp only [List.cons.injEq, and_true] at hcs hcs2
  obtain ⟨rfl, rfl⟩ := hcs
  obtain ⟨rfl, rfl⟩ := hcs2
  have hq := fun w' (hb : Below w.heap.size w w') => eqTermS_same a.args c1 d1 b1 b2 w' (termsK_good.below ht1 hb) (termsK_good.below ht2 hb)
  clear ht1 ht2
  go_enter Tryz.func44, Tryz.ntmps44
  go_wp2_with (go_at_call 90; refine (hq _ (((Below.refl _ _).alloc (Nat.le_refl _) _).alloc (by simp) _)).mono ?_; rintro e w' ⟨rfl, hb'⟩)
  go_ret
  exact ⟨rfl, (((Below.refl _ _).alloc (Nat.le_refl _) _).alloc (by simp) _).trans (hb'.mono (by simp; omega))⟩

end Go.Proofs.YtjjfafgaphloaaaGreatDoor

namespace Go.Proofs.YtjjfafgaphloaaaGreatDoor
open Go.RowKit D
set_option linter.unusedVariables false
set_option maxHeartbeats 400000 in
theorem szTerm_any (t : T) (left : Int) (w : World) (hs : t.name.size ≤ maxLen) (h0 : 0 ≤ left) (h1 : left ≤ 1048576) :
    Calls Tryz.prog 129 #[.agg #[.bool t.var, .string t.name], .int .i64 left] w (Left left t.name.size w.heap.size w) := by
  unfold maxLen at hs
  go_enter Tryz.func129, Tryz.ntmps129
  go_wp2
  all_goals go_ret
  · exact ⟨(Below.refl _ _).alloc (Nat.le_refl _) _, _, rfl, .inl rfl⟩
  · exact ⟨(Below.refl _ _).alloc (Nat.le_refl _) _, _, rfl, .inr ⟨by assumption, by omega⟩⟩

set_option maxHeartbeats 400000 in
theorem szTermS_any (ts : List T) (v : Value) (bs : List Nat) (left : Int) (w : World) (h : termsK w [v] ts bs) (h0 : 0 ≤ left) (h1 : left ≤ 1048576) :
    Calls Tryz.prog 87 #[v, .int .i64 left] w (Left left (ts.length + bulkTs ts) w.heap.size w) := by
  obtain ⟨Ad, cap, rfl, hl, hm⟩ := sliceK_form h
  have hlm := nat_ge_max (Nat.le_trans hl hm)
  clear hm
  go_enter Tryz.func87, Tryz.ntmps87
  go_wp2
  · go_ret
    exact ⟨Below.refl _ _, _, rfl, .inl rfl⟩
  · go_loopw [1, 5] (fun l i wr => ∃ (k : Nat) (m : Int), k ≤ ts.length ∧ i = .int .i64 k ∧ l = .int .i64 m ∧ 0 ≤ m ∧ m ≤ 1048576 ∧ m + ts.length + bulkTs (ts.take k) = left ∧ Below w.heap.size w wr) (fun _ i _ => ts.length - (intOf i).toNat)
    case atStart => exact ⟨0, _, Nat.zero_le _, rfl, rfl, by assumption, by omega, by simp [bulkTs], Below.refl _ _⟩
    case round =>
      obtain ⟨k, m, hk, rfl, rfl, hm0, hm1, hsum, hb⟩ := hrel
      have HS := Lib.hid hsum
      clear hsum
      by_cases hlt : k < ts.length
      · have hw := termsK_good.below h hb
        obtain ⟨b, o, rfl, _, c0, c1, hnm⟩ := terms_at hw hlt
        have HT := Lib.hid (bulkTs_snoc ts k hlt)
        clear h hw
        generalize ts[k] = t at *
        go_wp2_with (go_at_call 129; refine (szTerm_any _ _ _ hnm hm0 hm1).mono ?_; rintro e w' ⟨hb', r, rfl, hr⟩)
        · rcases hr with rfl | ⟨_, _⟩
          · go_ret
            exact ⟨hb.trans (hb'.mono hb.size), _, rfl, .inl rfl⟩
          · exfalso; omega
        · rcases hr with rfl | ⟨hr0, hr1⟩
          · exfalso; omega
          · have := HS.out
            have := HT.out
            go_roundw
            case rel => exact ⟨k + 1, r, by omega, by go_num, rfl, hr0, by omega, by omega, hb.trans (hb'.mono hb.size)⟩
            case measure => simp [intOf]; omega
      · have he : k = ts.length := by omega
        go_wp2
        go_ret
        refine ⟨hb, _, rfl, .inr ⟨hm0, ?_⟩⟩
        have := HS.out
        rw [he, List.take_of_length_le (Nat.le_refl _)] at this
        omega

end Go.Proofs.YtjjfafgaphloaaaGreatDoor

namespace Go.Proofs.YtjjfafgaphloaaaGreatDoor
open Go.RowKit D
set_option linter.unusedVariables false
theorem infoTerm : (Tryz.prog.info? 127).map (fun i => (i.zero, i.size, i.bytes)) = some (some (.agg #[.bool false, .string ⟨#[]⟩]), 2, 24) := by kernel_rfl

set_option maxHeartbeats 400000 in
theorem toTerm_any (t : T) (w : World) :
    Calls Tryz.prog 131 #[.agg #[.bool t.var, .string t.name]] w fun e w' => e = .returned (.agg #[.bool t.var, .string t.name]) ∧ Below w.heap.size w w' := by
  go_enter Tryz.func131, Tryz.ntmps131
  go_wp2
  exact bodyPost_ret (v := .agg #[.bool t.var, .string t.name]) (by simp [results, Tryz.results131, go_sem]) rfl ⟨rfl, by repeat (first | exact Below.refl _ _ | (refine Below.setCell ?_ (by first | (simp; done) | (simp; omega)) _) | (refine Below.alloc ?_ (by first | (simp; done) | (simp; omega)) _))⟩

set_option maxHeartbeats 400000 in
theorem toTermS_any (ts : List T) (v : Value) (bs : List Nat) (w : World) (h : termsK w [v] ts bs) (hn : ts.length ≤ 1048576) :
    Calls Tryz.prog 89 #[v] w (Makes termsK ts w.heap.size w) := by
  obtain ⟨Ad, cap, rfl, hl, hm⟩ := sliceK_form h
  obtain ⟨i0, hi, hz0, hz1, hz2⟩ := info_parts infoTerm
  clear hm
  go_enter Tryz.func89, Tryz.ntmps89
  go_wp2_with (refine wpList_make_full _ rfl _ _ _ rfl w.heap.size 127 i0 _ 2 Tryz.underlying31 hi hz0 hz1 _ _ _ _ ts.length rfl rfl rfl rfl (by rw [hz2]; omega) (by unfold maxLen; omega) (Nat.le_refl _) ?_; intro w1 hown hgrow)
  have hb1 : Below w.heap.size w w1 := (Below.refl _ _).grown hgrow (Nat.le_refl _) (fun _ e => by cases e)
  have hg1 : w.heap.size < w1.heap.size := (hown.lt _ rfl).2
  clear hgrow
  go_loopw [4] (fun i wr => ∃ (k : Nat) (L : List Value) (bs' : List Nat), k ≤ ts.length ∧ i = .int .i64 k ∧ wr.ownsRow w.heap.size 127 2 (.slice (some ⟨w.heap.size, 0, none⟩) ts.length ts.length) ts.length L ∧
      Filled 2 termK w1.heap.size wr L ts k bs' ∧ Below w.heap.size w wr ∧ w1.heap.size ≤ wr.heap.size) (fun i _ => ts.length - (intOf i).toNat)
  case atStart => exact ⟨0, _, _, Nat.zero_le _, rfl, hown, Filled.start, hb1, Nat.le_refl _⟩
  case round =>
    obtain ⟨k, L, bs', hk, rfl, how, hF, hb, hsz⟩ := hrel
    clear hown hb1
    by_cases hlt : k < ts.length
    · have hw := termsK_good.below h hb
      obtain ⟨b, o, rfl, _, c0, c1, hnm⟩ := terms_at hw hlt
      have HK := Lib.hid hF
      clear h hw hF
      have hL := Lib.hid how.1
      go_wp2_with (go_at_call 131; refine (toTerm_any _ _).mono ?_; rintro e w' ⟨rfl, hb'⟩; have how' := own_below how hb'; obtain ⟨⟨u0, hu0⟩, hf0⟩ := own_slot how' (j := k * 2) (by omega); obtain ⟨⟨u1, hu1⟩, hf1⟩ := own_slot how' (j := k * 2 + 1) (by omega))
      obtain ⟨R1, R2, R3, R4⟩ := fill2 termK_good how HK.out hlt hb hb' hg1 (Nat.le_refl _) hsz (a := .bool ts[k].var) (b := .string ts[k].name) (b2 := []) ⟨rfl, hnm, rfl⟩ (New.nil _ _)
      go_roundw
      case rel => exact ⟨k + 1, _, _, by omega, by go_num, R1, R2, R3, R4⟩
      case measure => simp [intOf]; omega
    · have he : k = ts.length := by omega
      subst he
      have HF := Lib.hid hF
      clear hF
      go_wp2
      go_ret
      obtain ⟨b2, r1, r2, r3, r4⟩ := HF.out.slice how (fun hm => by have := (HF.out.new.own _ hm).1; omega)
      refine ⟨hb, _, b2, rfl, r1, r2, fun b hb' => ⟨?_, r4 b hb'⟩⟩
      rcases r3 b hb' with ⟨rfl, h⟩ | h
      · exact h
      · have := (HF.out.new.own b h).1; omega

end Go.Proofs.YtjjfafgaphloaaaGreatDoor

namespace Go.Proofs.YtjjfafgaphloaaaGreatDoor
open Go.RowKit D Go.ChangeShapes Go.WideShapes
set_option linter.unusedVariables false
theorem own : ownKnob Tryz.prog.godebug = none := by kernel_rfl

theorem laidOut : laidOutB Tryz.prog = true := by kernel_rfl

theorem open_in {α : Type} {P : Program} {t : TypeId} {R : Rel α} (hO : Opens P t R) {H : Type} {enc : TypeId × Value → H} {w : World} {spare : Nat → Bool} {held : Bool} {v : Value} {d : DataW H} {ps : List MemPlace}
    (h : DataW.Trod enc P w 0 spare held t v d ps) : ∃ x bs, R w v.cells.toList x bs := by
  obtain ⟨fuel, hf⟩ := h
  exact hO H enc w spare held fuel _ _ hf

theorem opTerm : Opens Tryz.prog 203 termK := opens_term Tryz.underlying203 (by kernel_rfl) Tryz.underlying4 Tryz.underlying9 (by kernel_rfl) (by kernel_rfl) rfl rfl

theorem opTerms : Opens Tryz.prog 74 termsK := opens_slice Tryz.underlying74 (by kernel_rfl) (by omega) opTerm

theorem opAtom : Opens Tryz.prog 76 atomK := opens_atom Tryz.underlying76 (by kernel_rfl) Tryz.underlying9 opTerms (by kernel_rfl) (by kernel_rfl) rfl rfl

theorem opAtoms : Opens Tryz.prog 36 atomsK := opens_slice Tryz.underlying36 (by kernel_rfl) (by omega) opAtom

theorem opPart : Opens Tryz.prog 201 partK := opens_part Tryz.underlying201 (by kernel_rfl) Tryz.underlying4 opAtom (by kernel_rfl) (by kernel_rfl) rfl rfl

theorem opParts : Opens Tryz.prog 77 partsK := opens_slice Tryz.underlying77 (by kernel_rfl) (by omega) opPart

theorem opRule : Opens Tryz.prog 79 ruleK := opens_rule Tryz.underlying79 (by kernel_rfl) opAtom opParts (by kernel_rfl) (by kernel_rfl) rfl rfl

theorem opRules : Opens Tryz.prog 35 rulesK := opens_slice Tryz.underlying35 (by kernel_rfl) (by omega) opRule

end Go.Proofs.YtjjfafgaphloaaaGreatDoor
