/- A way down a proof: the row of its steps and the map of who is inside, as plain data. -/
import Derived.WalkKit
import Derived.Lib.Hide
import Derived.Test.YtoekllcfmnnibaaDoorKind
import Derived.Test.YtoekllcfmnnibaaDoorPrf
import Derived.Test.YtoekllcfmnnibaaDoorMapV
namespace Go.Proofs.YtoekllcfmnnibaaDoor.D
open Go.RowKit
set_option linter.unusedVariables false

/-- The same cells read as one datum alone. -/
def Same2 {α : Type} (R S : Rel α) : Prop := ∀ (w : World) (cs : List Value) (x y : α) (b1 b2 : List Nat), R w cs x b1 → S w cs y b2 → x = y
theorem sliceK_same {α : Type} {n : Nat} {R S : Rel α} (hRS : Same2 R S) : Same2 (sliceK n R) (sliceK n S) := by
  rintro w cs xs ys b1 b2 ⟨Ad, cap, rfl, _, _, _, h1⟩ ⟨Ad', cap', e, _, _, _, h2⟩
  simp only [List.cons.injEq, Value.slice.injEq, and_true] at e
  obtain ⟨rfl, hlen, rfl⟩ := e
  by_cases hne : xs = []
  · subst hne
    exact (List.length_eq_zero_iff.1 hlen.symm).symm
  · have hne' : ys ≠ [] := fun h => hne (List.length_eq_zero_iff.1 (by rw [hlen, h]; rfl))
    obtain ⟨b, o, rfl, F, G, _, hF⟩ := h1 hne
    obtain ⟨b', o', e, F', G', _, hF'⟩ := h2 hne'
    simp only [Option.some.injEq, Addr.mk.injEq, and_true] at e
    obtain ⟨rfl, rfl⟩ := e
    refine List.ext_getElem hlen fun k hk hk' => ?_
    obtain ⟨p1, p2, p3⟩ := hF k _ (List.getElem?_eq_getElem hk)
    obtain ⟨q1, q2, q3⟩ := hF' k _ (List.getElem?_eq_getElem hk')
    have : F k = F' k := by
      refine List.ext_getElem (p1.trans q1.symm) fun j hj hj' => ?_
      have a1 := p2 j _ (List.getElem?_eq_getElem hj)
      have a2 := q2 j _ (List.getElem?_eq_getElem hj')
      rw [a1] at a2
      exact Option.some.inj a2
    rw [← this] at q3
    exact hRS _ _ _ _ _ _ p3 q3
theorem termK_same : Same2 termK termK := by
  rintro w cs ⟨v, n⟩ ⟨v', n'⟩ b1 b2 ⟨rfl, _⟩ ⟨e, _⟩
  simp only [List.cons.injEq, Value.bool.injEq, Value.string.injEq, and_true] at e
  obtain ⟨rfl, rfl⟩ := e
  rfl
theorem proofK_same (n : Nat) : ∀ m, Same2 (proofK n) (proofK m) := by
  induction n with
  | zero => exact fun m w cs x y b1 b2 h => h.elim
  | succ n ih =>
    intro m w cs x y b1 b2 hx hy
    cases m with
    | zero => exact hy.elim
    | succ m =>
      obtain ⟨⟨nm, ts⟩, r, ks⟩ := x
      obtain ⟨⟨nm', ts'⟩, r', ks'⟩ := y
      obtain ⟨s, k, _, _, rfl, _, _, _, h5, h6⟩ := hx
      obtain ⟨s', k', _, _, e, _, _, _, g5, g6⟩ := hy
      simp only [List.cons.injEq, Value.string.injEq, Value.int.injEq, true_and, and_true] at e
      obtain ⟨e1, rfl, e2, rfl⟩ := e
      have t1 := sliceK_same (n := 2) termK_same _ _ _ _ _ _ h5 g5
      have t2 := sliceK_same (n := 4) (ih m) _ _ _ _ _ _ h6 g6
      simp only [Pf.fact, Pf.kids, Pf.rule] at *
      subst e1 e2 t1 t2
      rfl

/-- A proof lies at an address, within these blocks. -/
def AtP (BS : List Nat) (w : World) (a : Addr) (p : Pf) : Prop :=
  ∃ n b o cs bk, a = ⟨b, o, none⟩ ∧ b ∈ BS ∧ cs.length = 4 ∧ (∀ j v, cs[j]? = some v → w.cell? ⟨b, o + j, none⟩ = some v) ∧ proofK n w cs p bk ∧ ∀ c ∈ bk, c ∈ BS
theorem AtP.keep {BS : List Nat} {w w' : World} {a : Addr} {p : Pf} (h : AtP BS w a p) (hk : ∀ b ∈ BS, w'.heap[b]? = w.heap[b]?) : AtP BS w' a p := by
  obtain ⟨n, b, o, cs, bk, rfl, h1, h2, h3, h4, h5⟩ := h
  exact ⟨n, b, o, cs, bk, rfl, h1, h2, fun j v hv => by rw [World.cell?_of_block (w := w) (hk b h1)]; exact h3 j v hv, (proofK_good n).keep h4 fun c hc => hk c (h5 c hc), h5⟩
theorem AtP.block {BS : List Nat} {w : World} {a : Addr} {p : Pf} (h : AtP BS w a p) : a.block ∈ BS := by
  obtain ⟨n, b, o, cs, bk, rfl, h1, h2⟩ := h
  exact h1
theorem AtP.one {BS : List Nat} {w : World} {a : Addr} {p q : Pf} (h : AtP BS w a p) (h' : AtP BS w a q) : p = q := by
  obtain ⟨n, b, o, cs, bk, rfl, h1, h2, h3, h4, h5⟩ := h
  obtain ⟨m, b', o', cs', bk', e, g1, g2, g3, g4, g5⟩ := h'
  simp only [Addr.mk.injEq, and_true] at e
  obtain ⟨rfl, rfl⟩ := e
  have : cs = cs' := by
    refine List.ext_getElem (h2.trans g2.symm) fun j hj hj' => ?_
    have a1 := h3 j _ (List.getElem?_eq_getElem hj)
    have a2 := g3 j _ (List.getElem?_eq_getElem hj')
    rw [a1] at a2
    exact Option.some.inj a2
  subst this
  exact proofK_same n m _ _ _ _ _ _ h4 g4
/-- Its kids lie in a row. -/
theorem AtP.kids {BS : List Nat} {w : World} {b o : Nat} {p : Pf} (h : AtP BS w ⟨b, o, none⟩ p) :
    ∃ Af cf, w.cell? ⟨b, o + 3, none⟩ = some (.slice Af p.kids.length cf) ∧ p.kids.length ≤ cf ∧ cf ≤ maxLen ∧ ∀ k (hk : k < p.kids.length), ∃ b' o', Af = some ⟨b', o', none⟩ ∧ AtP BS w ⟨b', o' + k * 4, none⟩ p.kids[k] := by
  obtain ⟨n, b', o', cs, bk, e, h1, h2, h3, h4, h5⟩ := h
  simp only [Addr.mk.injEq, and_true] at e
  obtain ⟨rfl, rfl⟩ := e
  cases n with
  | zero => exact h4.elim
  | succ n =>
    obtain ⟨s, k, b1, b2, rfl, _, _, rfl, _, h6⟩ := h4
    obtain ⟨Af, cf, rfl, hle, hmx⟩ := sliceK_form h6
    refine ⟨Af, cf, h3 3 _ rfl, hle, hmx, fun j hj => ?_⟩
    obtain ⟨b3, o3, cs3, bk3, rfl, g1, g2, g3, g4, g5⟩ := sliceK_at h6 hj
    exact ⟨b3, o3, rfl, n, b3, o3 + j * 4, cs3, bk3, rfl, h5 b3 (List.mem_append_right _ g1), g2, fun i v hv => by rw [Nat.add_assoc]; exact g3 i v hv, g4, fun c hc => h5 c (List.mem_append_right _ (g5 c hc))⟩
/-- A step of the way: where the proof lies, the proof, how many of its kids have been entered. -/
structure Fr where
  at_ : Addr
  pf : Pf
  next : Nat
def cellsW (st : List Fr) : List Value := st.flatMap fun f => [.pointer (some f.at_), .int .i64 f.next]
def entsW (st : List Fr) : List (Value × Value) := st.map fun f => (.pointer (some f.at_), .int .i64 1)
def restW (st : List Fr) : Nat := sumL (fun f => sumL sizePf (f.pf.kids.drop f.next)) st
theorem cellsW_len (st : List Fr) : (cellsW st).length = st.length * 2 := by
  induction st with
  | nil => rfl
  | cons f st ih => unfold cellsW at *; simp only [List.flatMap_cons, List.length_append, ih, List.length_cons, List.length_nil]; omega
theorem cellsW_snoc (st : List Fr) (f : Fr) : cellsW (st ++ [f]) = cellsW st ++ [.pointer (some f.at_), .int .i64 f.next] := by
  unfold cellsW; simp
theorem entsW_snoc (st : List Fr) (f : Fr) : entsW (st ++ [f]) = entsW st ++ [(.pointer (some f.at_), .int .i64 1)] := by
  unfold entsW; simp
theorem restW_snoc (st : List Fr) (f : Fr) : restW (st ++ [f]) = restW st + sumL sizePf (f.pf.kids.drop f.next) := by
  unfold restW sumL; simp
/-- The steps are right: each greater than those after it. -/
structure Way (BS : List Nat) (w : World) (st : List Fr) : Prop where
  at_ : ∀ f ∈ st, AtP BS w f.at_ f.pf
  next : ∀ f ∈ st, f.next ≤ f.pf.kids.length
  down : st.Pairwise fun f g => sizePf g.pf < sizePf f.pf
theorem Way.nil (BS : List Nat) (w : World) : Way BS w [] := ⟨fun f h => by simp at h, fun f h => by simp at h, List.Pairwise.nil⟩
theorem Way.keep {BS : List Nat} {w w' : World} {st : List Fr} (h : Way BS w st) (hk : ∀ b ∈ BS, w'.heap[b]? = w.heap[b]?) : Way BS w' st := ⟨fun f hf => (h.at_ f hf).keep hk, h.next, h.down⟩
theorem Way.push {BS : List Nat} {w : World} {st : List Fr} (h : Way BS w st) {a : Addr} {p : Pf} (ha : AtP BS w a p) (hd : ∀ f ∈ st, sizePf p < sizePf f.pf) : Way BS w (st ++ [⟨a, p, 0⟩]) := by
  refine ⟨fun f hf => ?_, fun f hf => ?_, List.pairwise_append.2 ⟨h.down, List.pairwise_singleton _ _, fun f hf g hg => ?_⟩⟩
  · rcases List.mem_append.1 hf with hf | hf
    · exact h.at_ f hf
    · rw [List.mem_singleton.1 hf]; exact ha
  · rcases List.mem_append.1 hf with hf | hf
    · exact h.next f hf
    · rw [List.mem_singleton.1 hf]; exact Nat.zero_le _
  · rw [List.mem_singleton.1 hg]; exact hd f hf
theorem Way.pop {BS : List Nat} {w : World} {st : List Fr} {f : Fr} (h : Way BS w (st ++ [f])) : Way BS w st :=
  ⟨fun g hg => h.at_ g (List.mem_append_left _ hg), fun g hg => h.next g (List.mem_append_left _ hg), (List.pairwise_append.1 h.down).1⟩
theorem Way.step {BS : List Nat} {w : World} {st : List Fr} {f : Fr} (h : Way BS w (st ++ [f])) (hk : f.next < f.pf.kids.length) : Way BS w (st ++ [⟨f.at_, f.pf, f.next + 1⟩]) := by
  refine ⟨fun g hg => ?_, fun g hg => ?_, List.pairwise_append.2 ⟨(List.pairwise_append.1 h.down).1, List.pairwise_singleton _ _, fun g hg g' hg' => ?_⟩⟩
  · rcases List.mem_append.1 hg with hg | hg
    · exact h.at_ g (List.mem_append_left _ hg)
    · rw [List.mem_singleton.1 hg]; exact h.at_ f (by simp)
  · rcases List.mem_append.1 hg with hg | hg
    · exact h.next g (List.mem_append_left _ hg)
    · rw [List.mem_singleton.1 hg]; exact hk
  · rw [List.mem_singleton.1 hg']
    exact (List.pairwise_append.1 h.down).2.2 g hg f (by simp)
theorem Way.kid {BS : List Nat} {w : World} {st : List Fr} {f : Fr} (h : Way BS w (st ++ [f])) (hk : f.next < f.pf.kids.length) : ∀ g ∈ st ++ [⟨f.at_, f.pf, f.next + 1⟩], sizePf f.pf.kids[f.next] < sizePf g.pf := by
  intro g hg
  have h1 := Pf.kid_size hk
  rcases List.mem_append.1 hg with hg | hg
  · have := (List.pairwise_append.1 h.down).2.2 g hg f (by simp)
    omega
  · rw [List.mem_singleton.1 hg]; exact h1
theorem restW_step {st : List Fr} {f : Fr} (hk : f.next < f.pf.kids.length) : restW (st ++ [f]) = restW (st ++ [⟨f.at_, f.pf, f.next + 1⟩]) + sizePf f.pf.kids[f.next] := by
  rw [restW_snoc, restW_snoc, List.drop_eq_getElem_cons hk]
  simp only [sumL, List.map_cons, List.sum_cons]
  omega
theorem restW_last {st : List Fr} {f : Fr} (hk : f.pf.kids.length ≤ f.next) : restW (st ++ [f]) = restW st := by
  rw [restW_snoc, List.drop_eq_nil_of_le hk]
  simp [sumL]
theorem restW_push {st : List Fr} {a : Addr} {p : Pf} : restW (st ++ [⟨a, p, 0⟩]) + 1 = restW st + sizePf p := by
  rw [restW_snoc, sizePf_eq p]
  simp only [List.drop_zero]
  omega
/-- Who stands on the way does not lie where a smaller proof lies. -/
theorem Way.miss {BS : List Nat} {w : World} {st : List Fr} (h : Way BS w st) {a : Addr} {p : Pf} (ha : AtP BS w a p) (hd : ∀ f ∈ st, sizePf p < sizePf f.pf) : ∀ q ∈ entsW st, q.1 ≠ .pointer (some a) := by
  intro q hq e
  unfold entsW at hq
  obtain ⟨f, hf, rfl⟩ := List.mem_map.1 hq
  simp only [Value.pointer.injEq, Option.some.injEq] at e
  have h1 := h.at_ f hf
  rw [e] at h1
  have := h1.one ha
  have h2 := hd f hf
  rw [this] at h2
  omega
theorem own_take {w : World} {base e size n g cap : Nat} {L M : List Value} (h : w.ownsRow base e size (.slice (some ⟨g, 0, none⟩) (n + 1) cap) (n + 1) (L ++ M)) (hl : L.length = n * size) : w.ownsRow base e size (.slice (some ⟨g, 0, none⟩) n cap) n L := by
  rcases h.2 with ⟨h, _⟩ | ⟨g', cap', cur, hv, hb, hh, hc1, hc2, hc3, h4⟩
  · cases h
  · simp only [Value.slice.injEq, Option.some.injEq, Addr.mk.injEq, and_true, true_and] at hv
    obtain ⟨rfl, rfl⟩ := hv
    refine ⟨hl, .inr ⟨g, cap, cur, rfl, hb, hh, by omega, hc2, hc3, ?_⟩⟩
    have h5 : n * size ≤ (n + 1) * size := Nat.mul_le_mul_right _ (by omega)
    have := congrArg (List.take (n * size)) h4
    rw [List.take_take, Nat.min_eq_left h5] at this
    rw [this, ← hl, List.take_left']
    rfl
theorem own_ne_map {S : Value → Prop} {w : World} {base e size n b : Nat} {v : Value} {L : List Value} {E : List (Value × Value)} (h : w.ownsRow base e size v n L) (hM : MapV S b E w) : v.ownBlock ≠ some b := by
  obtain ⟨⟨es, c, hb, _⟩, _, _⟩ := hM
  rcases h.2 with ⟨rfl, _⟩ | ⟨g, cap, cur, rfl, _, hh, _⟩
  · simp [Value.ownBlock]
  · intro e'
    have : g = b := by simpa [Value.ownBlock] using e'
    subst this
    rw [hb] at hh
    cases hh
theorem map_ne_blk {S : Value → Prop} {w : World} {b c : Nat} {cs : Array Value} {t : TypeId} {fr : Nat × Nat} {E : List (Value × Value)} (hM : MapV S b E w) (hc : w.heap[c]? = some (.cells cs t fr)) : b ≠ c := by
  obtain ⟨⟨es, ck, hb, _⟩, _, _⟩ := hM
  rintro rfl
  rw [hb] at hc
  cases hc
theorem heap_setCell_self {w : World} {b : Nat} {cs : Array Value} {t : TypeId} {fr : Nat × Nat} (h : w.heap[b]? = some (.cells cs t fr)) (i : Nat) (v : Value) : (w.setCell ⟨b, i, none⟩ v).heap[b]? = some (.cells (cs.setIfInBounds i v) t fr) := by
  obtain ⟨hlt, hk⟩ := Array.getElem?_eq_some_iff.1 h
  show (w.heap.modify b _)[b]? = _
  rw [Array.getElem?_eq_getElem (by rw [Array.size_modify]; exact hlt), Array.getElem_modify_self, hk]
  rfl

end Go.Proofs.YtoekllcfmnnibaaDoor.D
