/- Data that are marked in place: plain. -/
import Derived.WalkKit
import Derived.Lib.Hide
import Derived.Deep.Slices
import Derived.Test.YtbppnelbjklpeaaEl
namespace Go.Proofs.Ytbppnelbjklpeaa
open Go.RowKit D
set_option linter.unusedVariables false

namespace D
/-- All but the blocks bs is as it was; new blocks may stand. -/
structure KeptBut (bs : List Nat) (w w' : World) : Prop where
  os : w'.os = w.os
  tape : w'.tape = w.tape
  output : w'.output = w.output
  size : w.heap.size ≤ w'.heap.size
  block : ∀ k, k < w.heap.size → k ∉ bs → w'.heap[k]? = w.heap[k]?
theorem KeptBut.refl (bs : List Nat) (w : World) : KeptBut bs w w := ⟨rfl, rfl, rfl, Nat.le_refl _, fun _ _ _ => rfl⟩
theorem KeptBut.trans {bs : List Nat} {a b c : World} (h : KeptBut bs a b) (k : KeptBut bs b c) : KeptBut bs a c :=
  ⟨k.os.trans h.os, k.tape.trans h.tape, k.output.trans h.output, Nat.le_trans h.size k.size, fun n hn hb => (k.block n (Nat.lt_of_lt_of_le hn h.size) hb).trans (h.block n hn hb)⟩
theorem KeptBut.of_below {bs : List Nat} {w w' : World} (h : Below w.heap.size w w') : KeptBut bs w w' := ⟨h.os, h.tape, h.output, h.size, fun k hk _ => h.block k hk⟩
theorem KeptBut.mono {bs cs : List Nat} {w w' : World} (h : KeptBut bs w w') (hs : ∀ b ∈ bs, b ∈ cs) : KeptBut cs w w' := ⟨h.os, h.tape, h.output, h.size, fun k hk hb => h.block k hk fun h' => hb (hs k h')⟩
theorem KeptBut.setCell {bs : List Nat} {a w : World} (h : KeptBut bs a w) {p : Addr} (hp : p.block ∈ bs) (u : Value) : KeptBut bs a (w.setCell p u) :=
  h.trans ⟨rfl, rfl, rfl, by simp [World.setCell], fun k _ hk => Below.heap_setCell _ _ _ _ fun e => hk (by rw [e]; exact hp)⟩
theorem KeptBut.drew {bs : List Nat} {a w : World} (h : KeptBut bs a w) : KeptBut bs a w.drew := ⟨h.os, h.tape, h.output, h.size, h.block⟩
theorem KeptBut.below {bs : List Nat} {B : Nat} {w w' : World} (h : KeptBut bs w w') (hb : ∀ b ∈ bs, B ≤ b) (hB : B ≤ w.heap.size) : Below B w w' :=
  ⟨h.os, h.tape, h.output, h.size, fun k hk => h.block k (by omega) fun hm => by have := hb k hm; omega⟩
theorem KeptBut.cell {bs : List Nat} {w w' : World} (h : KeptBut bs w w') {p : Addr} {v : Value} (hp : p.block ∉ bs) (hv : w.cell? p = some v) : w'.cell? p = some v := by
  rw [World.cell?_of_block (w := w) (h.block p.block (lt_of_cell hv) hp)]; exact hv
theorem KeptBut.frozen {bs : List Nat} {w w' : World} (h : KeptBut bs w w') {p : Addr} (hp : p.block ∉ bs) (hl : p.block < w.heap.size) : w'.frozen? p = w.frozen? p :=
  World.frozen?_of_block (w := w) (h.block p.block hl hp)
theorem Good.kept {α : Type} {R : Rel α} (g : Good R) {bs cb : List Nat} {w w' : World} {cs : List Value} {x : α} (h : R w cs x cb) (hk : KeptBut bs w w') (hd : ∀ b ∈ cb, b ∉ bs) : R w' cs x cb :=
  g.keep h fun b hb => hk.block b (g.lt h b hb) (hd b hb)
theorem New.kept {B : Nat} {bs cb : List Nat} {w w' : World} (h : New B w cb) (hk : KeptBut bs w w') (hd : ∀ b ∈ cb, b ∉ bs) : New B w' cb :=
  h.keep fun b hb => hk.block b (h.lt hb) (hd b hb)
theorem apart {bs cb : List Nat} {B : Nat} (h1 : ∀ b ∈ bs, b < B) (h2 : ∀ b ∈ cb, B ≤ b) : ∀ b ∈ bs, b ∉ cb := fun b hb hc => by have := h1 b hb; have := h2 b hc; omega
theorem apart' {bs cb : List Nat} {B : Nat} (h1 : ∀ b ∈ bs, b < B) (h2 : ∀ b ∈ cb, B ≤ b) : ∀ b ∈ cb, b ∉ bs := fun b hb hc => by have := h1 b hc; have := h2 b hb; omega
/-- A block of cells, none of them frozen. -/
def Wri (w : World) (b : Nat) : Prop := ∃ cur e, w.heap[b]? = some (.cells cur e (0, 0))
theorem New.wri {B : Nat} {w : World} {bs : List Nat} (h : New B w bs) : ∀ b ∈ bs, Wri w b := fun b hb => (h.own b hb).2
theorem Wri.frozen {w : World} {b : Nat} (h : Wri w b) (o : Nat) : w.frozen? ⟨b, o, none⟩ = false := by obtain ⟨cur, e, h⟩ := h; simp [World.frozen?, h]
theorem Wri.keep {w w' : World} {b : Nat} (h : Wri w b) (hk : w'.heap[b]? = w.heap[b]?) : Wri w' b := by unfold Wri; rw [hk]; exact h
theorem Wri.setCell {w : World} {b : Nat} (h : Wri w b) (p : Addr) (u : Value) : Wri (w.setCell p u) b := by
  obtain ⟨cur, e, h⟩ := h
  by_cases hb : b = p.block
  · obtain ⟨pb, po, pp⟩ := p
    dsimp only at hb
    subst hb
    have hlt := lt_of_block h
    have h' : w.heap[b] = .cells cur e (0, 0) := by simpa [Array.getElem?_eq_getElem hlt] using h
    unfold Wri
    show ∃ cur e, (w.heap.modify b _)[b]? = _
    rw [Array.getElem?_modify, if_pos rfl, h]
    exact ⟨_, _, rfl⟩
  · exact ⟨cur, e, by rw [Below.heap_setCell _ _ _ _ hb]; exact h⟩
theorem setCell_other {w : World} {b o o' : Nat} {u v : Value} (h : w.cell? ⟨b, o', none⟩ = some v) (hne : o' ≠ o) : (w.setCell ⟨b, o, none⟩ u).cell? ⟨b, o', none⟩ = some v := by
  rw [World.cell?_setCell_other _ _ _ _ (by intro e; injection e with _ e; exact hne e.symm)]; exact h

/-- An element opened, and put back with other cells. -/
theorem sliceK_open {α : Type} {n : Nat} {R : Rel α} (g : Good R) {w : World} {Ad : Option Addr} {len cap : Nat} {xs : List α} {bs : List Nat} (h : sliceK n R w [.slice Ad len cap] xs bs) (hnd : bs.Nodup) {k : Nat} (hk : k < xs.length) :
    ∃ b o cs bk, Ad = some ⟨b, o, none⟩ ∧ b ∈ bs ∧ b ∉ bk ∧ bk.Nodup ∧ (∀ c ∈ bk, c ∈ bs) ∧ cs.length = n ∧ (∀ j v, cs[j]? = some v → w.cell? ⟨b, o + (k * n + j), none⟩ = some v) ∧ R w cs xs[k] bk ∧
      ∀ w' cs' x', cs'.length = n → (∀ j v, cs'[j]? = some v → w'.cell? ⟨b, o + (k * n + j), none⟩ = some v) →
        (∀ p v, w.cell? ⟨b, o + p, none⟩ = some v → (p < k * n ∨ k * n + n ≤ p) → w'.cell? ⟨b, o + p, none⟩ = some v) →
        (∀ c ∈ bs, c ≠ b → c ∉ bk → w'.heap[c]? = w.heap[c]?) → R w' cs' x' bk → sliceK n R w' [.slice Ad len cap] (xs.set k x') bs := by
  obtain ⟨Ad', cap', hcs, hl, hm, h0, h1⟩ := h
  simp only [List.cons.injEq, Value.slice.injEq, and_true] at hcs
  obtain ⟨rfl, rfl, rfl⟩ := hcs
  have hne : xs ≠ [] := by intro e; subst e; simp at hk
  obtain ⟨b, o, rfl, F, G, rfl, hF⟩ := h1 hne
  obtain ⟨a1, a2, a3⟩ := hF k _ (List.getElem?_eq_getElem hk)
  have hnd' := List.nodup_cons.1 hnd
  have hmem : ∀ j c, j < xs.length → c ∈ G j → c ∈ (List.range xs.length).flatMap G := fun j c hj hc => List.mem_flatMap.2 ⟨j, List.mem_range.2 hj, hc⟩
  have hdis : ∀ i j, i < xs.length → j < xs.length → i ≠ j → ∀ c ∈ G i, c ∉ G j := by
    intro i j hi hj hij c hc hc'
    have hp := (List.pairwise_flatMap.1 hnd'.2).2
    rcases Nat.lt_or_gt_of_ne hij with h | h
    · have := List.pairwise_iff_getElem.1 hp i j (by simpa using hi) (by simpa using hj) h
      simp only [List.getElem_range] at this
      exact this c hc c hc' rfl
    · have := List.pairwise_iff_getElem.1 hp j i (by simpa using hj) (by simpa using hi) h
      simp only [List.getElem_range] at this
      exact this c hc' c hc rfl
  refine ⟨b, o, F k, G k, rfl, by simp, fun hb => hnd'.1 (hmem k b hk hb), (List.pairwise_flatMap.1 hnd'.2).1 k (List.mem_range.2 hk), fun c hc => List.mem_cons_of_mem _ (hmem k c hk hc), a1, a2, a3, ?_⟩
  intro w' cs' x' hlen hcells hrest hblk hR
  refine ⟨_, cap, by rw [List.length_set], by rw [List.length_set]; exact hl, hm, fun e => absurd e (by intro e; have := congrArg List.length e; simp at this; exact hne this), fun _ => ⟨b, o, rfl, fun j => if j = k then cs' else F j, G, by rw [List.length_set], fun j x hx => ?_⟩⟩
  obtain ⟨hjl, hxe⟩ := List.getElem?_eq_some_iff.1 hx
  rw [List.length_set] at hjl
  by_cases e : j = k
  · subst e
    simp only [if_true]
    rw [List.getElem_set_self] at hxe
    subst hxe
    exact ⟨hlen, hcells, hR⟩
  · simp only [if_neg e]
    rw [List.getElem_set_ne (Ne.symm e)] at hxe
    obtain ⟨f1, f2, f3⟩ := hF j x (by rw [List.getElem?_eq_getElem hjl, hxe])
    refine ⟨f1, fun i v hv => ?_, g.keep f3 fun c hc => ?_⟩
    · have hi : i < n := by have := (List.getElem?_eq_some_iff.1 hv).1; omega
      refine hrest _ v (f2 i v hv) ?_
      rcases Nat.lt_or_gt_of_ne e with h | h
      · left
        have := Nat.mul_le_mul_right n (show j + 1 ≤ k by omega)
        rw [Nat.add_mul, Nat.one_mul] at this; omega
      · right
        have := Nat.mul_le_mul_right n (show k + 1 ≤ j by omega)
        rw [Nat.add_mul, Nat.one_mul] at this; omega
    · exact hblk c (List.mem_cons_of_mem _ (hmem j c hjl hc)) (fun e' => hnd'.1 (by rw [← e']; exact hmem j c hjl hc)) (hdis j k hjl hk e c hc)

/-- Each element marked, one behind the other: mk x k marks at k and takes cnt x numbers. -/
def markL {α : Type} (mk : α → Nat → α) (cnt : α → Nat) : List α → Nat → List α
  | [], _ => []
  | x :: xs, k => mk x k :: markL mk cnt xs (k + cnt x)
def markTo {α : Type} (mk : α → Nat → α) (cnt : α → Nat) (xs : List α) (k i : Nat) : List α := markL mk cnt (xs.take i) k ++ xs.drop i
theorem markL_length {α : Type} {mk : α → Nat → α} {cnt : α → Nat} : ∀ (xs : List α) (k : Nat), (markL mk cnt xs k).length = xs.length
  | [], _ => rfl
  | x :: xs, k => by simp [markL, markL_length xs]
theorem markL_append {α : Type} {mk : α → Nat → α} {cnt : α → Nat} : ∀ (xs ys : List α) (k : Nat), markL mk cnt (xs ++ ys) k = markL mk cnt xs k ++ markL mk cnt ys (k + sumL cnt xs)
  | [], ys, k => by simp [markL, sumL]
  | x :: xs, ys, k => by
    simp only [List.cons_append, markL, markL_append xs]
    congr 3
    simp [sumL]; omega
theorem markTo_zero {α : Type} {mk : α → Nat → α} {cnt : α → Nat} (xs : List α) (k : Nat) : markTo mk cnt xs k 0 = xs := rfl
theorem markTo_all {α : Type} {mk : α → Nat → α} {cnt : α → Nat} (xs : List α) (k : Nat) : markTo mk cnt xs k xs.length = markL mk cnt xs k := by simp [markTo]
theorem markTo_length {α : Type} {mk : α → Nat → α} {cnt : α → Nat} (xs : List α) (k i : Nat) : (markTo mk cnt xs k i).length = xs.length := by
  simp [markTo, markL_length]; omega
theorem markTo_at {α : Type} {mk : α → Nat → α} {cnt : α → Nat} {xs : List α} {k i : Nat} (h : i < xs.length) : (markTo mk cnt xs k i)[i]'(by rw [markTo_length]; exact h) = xs[i] := by
  have hl : (markL mk cnt (xs.take i) k).length = i := by rw [markL_length, List.length_take]; omega
  simp only [markTo]
  rw [List.getElem_append_right (by omega)]
  simp [hl]
theorem markTo_step {α : Type} {mk : α → Nat → α} {cnt : α → Nat} {xs : List α} {k i : Nat} (h : i < xs.length) : (markTo mk cnt xs k i).set i (mk xs[i] (k + sumL cnt (xs.take i))) = markTo mk cnt xs k (i + 1) := by
  have hl : (markL mk cnt (xs.take i) k).length = i := by rw [markL_length, List.length_take]; omega
  unfold markTo
  rw [List.set_append_right _ _ (by omega), hl, Nat.sub_self, List.drop_eq_getElem_cons h, List.set_cons_zero, List.take_succ_eq_append_getElem h, markL_append]
  simp [markL]
theorem markL_at {α : Type} {mk : α → Nat → α} {cnt : α → Nat} {xs : List α} {k i : Nat} (h : i < xs.length) : (markL mk cnt xs k)[i]'(by rw [markL_length]; exact h) = mk xs[i] (k + sumL cnt (xs.take i)) := by
  have hl : (markL mk cnt (xs.take i) k).length = i := by rw [markL_length, List.length_take]; omega
  have e : markL mk cnt xs k = markL mk cnt (xs.take i) k ++ markL mk cnt (xs.drop i) (k + sumL cnt (xs.take i)) := by rw [← markL_append, List.take_append_drop]
  simp only [e]
  rw [List.getElem_append_right (by omega)]
  simp only [hl, Nat.sub_self, List.drop_eq_getElem_cons h, markL, List.getElem_cons_zero]

/-- A number in decimals, the least figure last (nothing for 0). -/
def decL : Nat → Nat → List UInt8
  | 0, _ => []
  | f + 1, k => if k = 0 then [] else decL f (k / 10) ++ [UInt8.ofNat (48 + k % 10)]
def markText (k : Nat) : ByteArray := if k = 0 then ⟨#[109, 48]⟩ else ⟨(109 :: decL k k).toArray⟩
theorem decL_fuel : ∀ (f k : Nat), k ≤ f → decL f k = decL k k := by
  intro f
  induction f using Nat.strongRecOn with
  | ind f ih =>
    intro k hk
    cases f with
    | zero => obtain rfl : k = 0 := by omega
              rfl
    | succ f =>
      by_cases h0 : k = 0
      · subst h0; simp [decL]
      · obtain ⟨m, rfl⟩ : ∃ m, k = m + 1 := ⟨k - 1, by omega⟩
        simp only [decL, if_neg h0]
        rw [ih f (by omega) _ (by omega), ih m (by omega) _ (by omega)]
theorem decL_step {k : Nat} (h : k ≠ 0) : decL k k = decL (k / 10) (k / 10) ++ [UInt8.ofNat (48 + k % 10)] := by
  obtain ⟨m, rfl⟩ : ∃ m, k = m + 1 := ⟨k - 1, by omega⟩
  simp only [decL, if_neg h]
  rw [decL_fuel m _ (by omega)]
theorem decL_len : ∀ (n k : Nat), k < 10 ^ n → (decL k k).length ≤ n := by
  intro n
  induction n with
  | zero => intro k hk; obtain rfl : k = 0 := by simpa using hk
            simp [decL]
  | succ n ih =>
    intro k hk
    by_cases h0 : k = 0
    · subst h0; simp [decL]
    · rw [decL_step h0, List.length_append]
      have := ih (k / 10) (by rw [Nat.div_lt_iff_lt_mul (by omega)]; rw [Nat.pow_succ] at hk; omega)
      simp; omega
theorem markText_size {k : Nat} (h : k < 10 ^ 18) : (markText k).size ≤ maxLen := by
  unfold markText maxLen
  split
  · decide
  · have := decL_len 18 k h
    show (109 :: decL k k).toArray.size ≤ _
    simp; omega

/-- Marks. -/
def mkT (t : T) (k : Nat) : T := ⟨decide (k % 3 = 0), markText (k + 1)⟩
def markTs : List T → Nat → List T := markL mkT (fun _ => 2)
def mkA (a : A) (k : Nat) : A := ⟨markText k, markTs a.args (k + 1)⟩
def cntA (a : A) : Nat := 1 + 2 * a.args.length
def markAs : List A → Nat → List A := markL mkA cntA
theorem sumL_two {α : Type} (xs : List α) : sumL (fun _ => 2) xs = 2 * xs.length := by
  induction xs with
  | nil => rfl
  | cons x xs ih => simp only [sumL, List.map_cons, List.sum_cons, List.length_cons] at *; omega
/-- What a marking function leaves. -/
def Marked {α : Type} (R : Rel α) (cs : List Value) (x' : α) (bs : List Nat) (k' B : Nat) (w : World) (e : Ending) (w' : World) : Prop :=
  e = .returned (.int .i64 k') ∧ R w' cs x' bs ∧ New B w' bs ∧ KeptBut bs w w'
/-- What a function leaves that looks at marks. -/
def Held (k' : Nat) (w : World) (e : Ending) (w' : World) : Prop := e = .returned (.int .i64 k') ∧ Below w.heap.size w w'
end D

end Go.Proofs.Ytbppnelbjklpeaa
