/- Of the proof of FnExactProofNeeds: PfW, PrfO, Bulk, Copy. -/
import Derived.Test.YtlmngncogomgeaaM06
import Derived.Test.YtlmngncogomgeaaM08
namespace Go.Proofs.Ytlmngncogomgeaa.D
open Go.RowKit
set_option linter.unusedVariables false
/-- The same cells read as one datum alone. -/
def Same2 {α : Type} (R S : Rel α) : Prop := ∀ (w : World) (cs : List Value) (x y : α) (b1 b2 : List Nat), R w cs x b1 → S w cs y b2 → x = y

theorem sliceK_same {α : Type} {n : Nat} {R S : Rel α} (hRS : Same2 R S) : Same2 (sliceK n R) (sliceK n S) := by
  rintro w cs xs ys b1 b2 ⟨Ad, cap, rfl, _, _, _, h1⟩ ⟨Ad', cap', e, _, _, _, h2⟩
  simp only [List.cons.injEq, Value.slice.injEq, and_true] at e
  obtain ⟨rfl, hlen, rfl⟩ := e
  by_cases hne : xs = []
  · subst hne
    exact (List.length_eq_zero_iff.1 hlen.symm).symm
  · have hne' : ys ≠ [] := fun h => hne (List.length_eq_zero_iff.1 (by rw [hlen, h]; rfl))
    obtain ⟨b, o, rfl, F, G, _, hF⟩ := h1 hne
    obtain ⟨b', o', e, F', G', _, hF'⟩ := h2 hne'
    simp only [Option.some.injEq, Addr.mk.injEq, and_true] at e
    obtain ⟨rfl, rfl⟩ := e
    refine List.ext_getElem hlen fun k hk hk' => ?_
    obtain ⟨p1, p2, p3⟩ := hF k _ (List.getElem?_eq_getElem hk)
    obtain ⟨q1, q2, q3⟩ := hF' k _ (List.getElem?_eq_getElem hk')
    have : F k = F' k := by
      refine List.ext_getElem (p1.trans q1.symm) fun j hj hj' => ?_
      have a1 := p2 j _ (List.getElem?_eq_getElem hj)
      have a2 := q2 j _ (List.getElem?_eq_getElem hj')
      rw [a1] at a2
      exact Option.some.inj a2
    rw [← this] at q3
    exact hRS _ _ _ _ _ _ p3 q3

theorem termK_same : Same2 termK termK := by
  rintro w cs ⟨v, n⟩ ⟨v', n'⟩ b1 b2 ⟨rfl, _⟩ ⟨e, _⟩
  simp only [List.cons.injEq, Value.bool.injEq, Value.string.injEq, and_true] at e
  obtain ⟨rfl, rfl⟩ := e
  rfl

theorem proofK_same (n : Nat) : ∀ m, Same2 (proofK n) (proofK m) := by
  induction n with
  | zero => exact fun m w cs x y b1 b2 h => h.elim
  | succ n ih =>
    intro m w cs x y b1 b2 hx hy
    cases m with
    | zero => exact hy.elim
    | succ m =>
      obtain ⟨⟨nm, ts⟩, r, ks⟩ := x
      obtain ⟨⟨nm', ts'⟩, r', ks'⟩ := y
      obtain ⟨s, k, _, _, rfl, _, _, _, h5, h6⟩ := hx
      obtain ⟨s', k', _, _, e, _, _, _, g5, g6⟩ := hy
      simp only [List.cons.injEq, Value.string.injEq, Value.int.injEq, true_and, and_true] at e
      obtain ⟨e1, rfl, e2, rfl⟩ := e
      have t1 := sliceK_same (n := 2) termK_same _ _ _ _ _ _ h5 g5
      have t2 := sliceK_same (n := 4) (ih m) _ _ _ _ _ _ h6 g6
      simp only [Pf.fact, Pf.kids, Pf.rule] at *
      subst e1 e2 t1 t2
      rfl

/-- A proof lies at an address, within these blocks. -/
def AtP (BS : List Nat) (w : World) (a : Addr) (p : Pf) : Prop :=
  ∃ n b o cs bk, a = ⟨b, o, none⟩ ∧ b ∈ BS ∧ cs.length = 4 ∧ (∀ j v, cs[j]? = some v → w.cell? ⟨b, o + j, none⟩ = some v) ∧ proofK n w cs p bk ∧ ∀ c ∈ bk, c ∈ BS

theorem AtP.keep {BS : List Nat} {w w' : World} {a : Addr} {p : Pf} (h : AtP BS w a p) (hk : ∀ b ∈ BS, w'.heap[b]? = w.heap[b]?) : AtP BS w' a p := by
  obtain ⟨n, b, o, cs, bk, rfl, h1, h2, h3, h4, h5⟩ := h
  exact ⟨n, b, o, cs, bk, rfl, h1, h2, fun j v hv => by rw [World.cell?_of_block (w := w) (hk b h1)]; exact h3 j v hv, (proofK_good n).keep h4 fun c hc => hk c (h5 c hc), h5⟩

theorem AtP.block {BS : List Nat} {w : World} {a : Addr} {p : Pf} (h : AtP BS w a p) : a.block ∈ BS := by
  obtain ⟨n, b, o, cs, bk, rfl, h1, h2⟩ := h
  exact h1

theorem AtP.one {BS : List Nat} {w : World} {a : Addr} {p q : Pf} (h : AtP BS w a p) (h' : AtP BS w a q) : p = q := by
  obtain ⟨n, b, o, cs, bk, rfl, h1, h2, h3, h4, h5⟩ := h
  obtain ⟨m, b', o', cs', bk', e, g1, g2, g3, g4, g5⟩ := h'
  simp only [Addr.mk.injEq, and_true] at e
  obtain ⟨rfl, rfl⟩ := e
  have : cs = cs' := by
    refine List.ext_getElem (h2.trans g2.symm) fun j hj hj' => ?_
    have a1 := h3 j _ (List.getElem?_eq_getElem hj)
    have a2 := g3 j _ (List.getElem?_eq_getElem hj')
    rw [a1] at a2
    exact Option.some.inj a2
  subst this
  exact proofK_same n m _ _ _ _ _ _ h4 g4

/-- Its kids lie in a row. -/
theorem AtP.kids {BS : List Nat} {w : World} {b o : Nat} {p : Pf} (h : AtP BS w ⟨b, o, none⟩ p) :
    ∃ Af cf, w.cell? ⟨b, o + 3, none⟩ = some (.slice Af p.kids.length cf) ∧ p.kids.length ≤ cf ∧ cf ≤ maxLen ∧ ∀ k (hk : k < p.kids.length), ∃ b' o', Af = some ⟨b', o', none⟩ ∧ AtP BS w ⟨b', o' + k * 4, none⟩ p.kids[k] := by
  obtain ⟨n, b', o', cs, bk, e, h1, h2, h3, h4, h5⟩ := h
  simp only [Addr.mk.injEq, and_true] at e
  obtain ⟨rfl, rfl⟩ := e
  cases n with
  | zero => exact h4.elim
  | succ n =>
    obtain ⟨s, k, b1, b2, rfl, _, _, rfl, _, h6⟩ := h4
    obtain ⟨Af, cf, rfl, hle, hmx⟩ := sliceK_form h6
    refine ⟨Af, cf, h3 3 _ rfl, hle, hmx, fun j hj => ?_⟩
    obtain ⟨b3, o3, cs3, bk3, rfl, g1, g2, g3, g4, g5⟩ := sliceK_at h6 hj
    exact ⟨b3, o3, rfl, n, b3, o3 + j * 4, cs3, bk3, rfl, h5 b3 (List.mem_append_right _ g1), g2, fun i v hv => by rw [Nat.add_assoc]; exact g3 i v hv, g4, fun c hc => h5 c (List.mem_append_right _ (g5 c hc))⟩

/-- A step of the way: where the proof lies, the proof, how many of its kids have been entered. -/
structure Fr where
  at_ : Addr
  pf : Pf
  next : Nat

def cellsW (st : List Fr) : List Value := st.flatMap fun f => [.pointer (some f.at_), .int .i64 f.next]

def entsW (st : List Fr) : List (Value × Value) := st.map fun f => (.pointer (some f.at_), .int .i64 1)

def restW (st : List Fr) : Nat := sumL (fun f => sumL sizePf (f.pf.kids.drop f.next)) st

theorem cellsW_len (st : List Fr) : (cellsW st).length = st.length * 2 := by
  induction st with
  | nil => rfl
  | cons f st ih => unfold cellsW at *; simp only [List.flatMap_cons, List.length_append, ih, List.length_cons, List.length_nil]; omega

theorem cellsW_snoc (st : List Fr) (f : Fr) : cellsW (st ++ [f]) = cellsW st ++ [.pointer (some f.at_), .int .i64 f.next] := by
  unfold cellsW; simp

theorem entsW_snoc (st : List Fr) (f : Fr) : entsW (st ++ [f]) = entsW st ++ [(.pointer (some f.at_), .int .i64 1)] := by
  unfold entsW; simp

theorem restW_snoc (st : List Fr) (f : Fr) : restW (st ++ [f]) = restW st + sumL sizePf (f.pf.kids.drop f.next) := by
  unfold restW sumL; simp

/-- The steps are right: each greater than those after it. -/
structure Way (BS : List Nat) (w : World) (st : List Fr) : Prop where
  at_ : ∀ f ∈ st, AtP BS w f.at_ f.pf
  next : ∀ f ∈ st, f.next ≤ f.pf.kids.length
  down : st.Pairwise fun f g => sizePf g.pf < sizePf f.pf

theorem Way.nil (BS : List Nat) (w : World) : Way BS w [] := ⟨fun f h => by simp at h, fun f h => by simp at h, List.Pairwise.nil⟩

theorem Way.keep {BS : List Nat} {w w' : World} {st : List Fr} (h : Way BS w st) (hk : ∀ b ∈ BS, w'.heap[b]? = w.heap[b]?) : Way BS w' st := ⟨fun f hf => (h.at_ f hf).keep hk, h.next, h.down⟩

theorem Way.push {BS : List Nat} {w : World} {st : List Fr} (h : Way BS w st) {a : Addr} {p : Pf} (ha : AtP BS w a p) (hd : ∀ f ∈ st, sizePf p < sizePf f.pf) : Way BS w (st ++ [⟨a, p, 0⟩]) := by
  refine ⟨fun f hf => ?_, fun f hf => ?_, List.pairwise_append.2 ⟨h.down, List.pairwise_singleton _ _, fun f hf g hg => ?_⟩⟩
  · rcases List.mem_append.1 hf with hf | hf
    · exact h.at_ f hf
    · rw [List.mem_singleton.1 hf]; exact ha
  · rcases List.mem_append.1 hf with hf | hf
    · exact h.next f hf
    · rw [List.mem_singleton.1 hf]; exact Nat.zero_le _
  · rw [List.mem_singleton.1 hg]; exact hd f hf

theorem Way.pop {BS : List Nat} {w : World} {st : List Fr} {f : Fr} (h : Way BS w (st ++ [f])) : Way BS w st :=
  ⟨fun g hg => h.at_ g (List.mem_append_left _ hg), fun g hg => h.next g (List.mem_append_left _ hg), (List.pairwise_append.1 h.down).1⟩

theorem Way.step {BS : List Nat} {w : World} {st : List Fr} {f : Fr} (h : Way BS w (st ++ [f])) (hk : f.next < f.pf.kids.length) : Way BS w (st ++ [⟨f.at_, f.pf, f.next + 1⟩]) := by
  refine ⟨fun g hg => ?_, fun g hg => ?_, List.pairwise_append.2 ⟨(List.pairwise_append.1 h.down).1, List.pairwise_singleton _ _, fun g hg g' hg' => ?_⟩⟩
  · rcases List.mem_append.1 hg with hg | hg
    · exact h.at_ g (List.mem_append_left _ hg)
    · rw [List.mem_singleton.1 hg]; exact h.at_ f (by simp)
  · rcases List.mem_append.1 hg with hg | hg
    · exact h.next g (List.mem_append_left _ hg)
    · rw [List.mem_singleton.1 hg]; exact hk
  · rw [List.mem_singleton.1 hg']
    exact (List.pairwise_append.1 h.down).2.2 g hg f (by simp)

theorem restW_step {st : List Fr} {f : Fr} (hk : f.next < f.pf.kids.length) : restW (st ++ [f]) = restW (st ++ [⟨f.at_, f.pf, f.next + 1⟩]) + sizePf f.pf.kids[f.next] := by
  rw [restW_snoc, restW_snoc, List.drop_eq_getElem_cons hk]
  simp only [sumL, List.map_cons, List.sum_cons]
  omega

theorem restW_push {st : List Fr} {a : Addr} {p : Pf} : restW (st ++ [⟨a, p, 0⟩]) + 1 = restW st + sizePf p := by
  rw [restW_snoc, sizePf_eq p]
  simp only [List.drop_zero]
  omega

/-- Who stands on the way does not lie where a smaller proof lies. -/
theorem Way.miss {BS : List Nat} {w : World} {st : List Fr} (h : Way BS w st) {a : Addr} {p : Pf} (ha : AtP BS w a p) (hd : ∀ f ∈ st, sizePf p < sizePf f.pf) : ∀ q ∈ entsW st, q.1 ≠ .pointer (some a) := by
  intro q hq e
  unfold entsW at hq
  obtain ⟨f, hf, rfl⟩ := List.mem_map.1 hq
  simp only [Value.pointer.injEq, Option.some.injEq] at e
  have h1 := h.at_ f hf
  rw [e] at h1
  have := h1.one ha
  have h2 := hd f hf
  rw [this] at h2
  omega

theorem own_take {w : World} {base e size n g cap : Nat} {L M : List Value} (h : w.ownsRow base e size (.slice (some ⟨g, 0, none⟩) (n + 1) cap) (n + 1) (L ++ M)) (hl : L.length = n * size) : w.ownsRow base e size (.slice (some ⟨g, 0, none⟩) n cap) n L := by
  rcases h.2 with ⟨h, _⟩ | ⟨g', cap', cur, hv, hb, hh, hc1, hc2, hc3, h4⟩
  · cases h
  · simp only [Value.slice.injEq, Option.some.injEq, Addr.mk.injEq, and_true, true_and] at hv
    obtain ⟨rfl, rfl⟩ := hv
    refine ⟨hl, .inr ⟨g, cap, cur, rfl, hb, hh, by omega, hc2, hc3, ?_⟩⟩
    have h5 : n * size ≤ (n + 1) * size := Nat.mul_le_mul_right _ (by omega)
    have := congrArg (List.take (n * size)) h4
    rw [List.take_take, Nat.min_eq_left h5] at this
    rw [this, ← hl, List.take_left']
    rfl

theorem own_ne_map {S : Value → Prop} {w : World} {base e size n b : Nat} {v : Value} {L : List Value} {E : List (Value × Value)} (h : w.ownsRow base e size v n L) (hM : MapV S b E w) : v.ownBlock ≠ some b := by
  obtain ⟨⟨es, c, hb, _⟩, _, _⟩ := hM
  rcases h.2 with ⟨rfl, _⟩ | ⟨g, cap, cur, rfl, _, hh, _⟩
  · simp [Value.ownBlock]
  · intro e'
    have : g = b := by simpa [Value.ownBlock] using e'
    subst this
    rw [hb] at hh
    cases hh

theorem map_ne_blk {S : Value → Prop} {w : World} {b c : Nat} {cs : Array Value} {t : TypeId} {fr : Nat × Nat} {E : List (Value × Value)} (hM : MapV S b E w) (hc : w.heap[c]? = some (.cells cs t fr)) : b ≠ c := by
  obtain ⟨⟨es, ck, hb, _⟩, _, _⟩ := hM
  rintro rfl
  rw [hb] at hc
  cases hc

theorem heap_setCell_self {w : World} {b : Nat} {cs : Array Value} {t : TypeId} {fr : Nat × Nat} (h : w.heap[b]? = some (.cells cs t fr)) (i : Nat) (v : Value) : (w.setCell ⟨b, i, none⟩ v).heap[b]? = some (.cells (cs.setIfInBounds i v) t fr) := by
  obtain ⟨hlt, hk⟩ := Array.getElem?_eq_some_iff.1 h
  show (w.heap.modify b _)[b]? = _
  rw [Array.getElem?_eq_getElem (by rw [Array.size_modify]; exact hlt), Array.getElem_modify_self, hk]
  rfl

end Go.Proofs.Ytlmngncogomgeaa.D
namespace Go.Proofs.Ytlmngncogomgeaa.D
open Go.RowKit Go.Deep Go.ChangeShapes Go.WideShapes
set_option linter.unusedVariables false
/-- The same, up to a fuel. -/
def OpensF {α : Type} (P : Program) (e : TypeId) (m : Nat) (R : Rel α) : Prop :=
  ∀ (H : Type) (enc : TypeId × Value → H) (w : World) (spare : Nat → Bool) (held : Bool) (fuel : Nat) (cs : List Value) (y : DataW H × List MemPlace),
    fuel ≤ m → DataW.trod enc P w 0 spare held fuel e cs = some y → ∃ x bs, R w cs x bs

theorem opensF_slice {α : Type} {P : Program} {t e : TypeId} {n m : Nat} {R : Rel α} (ht : P.underlying t = some (.slice e)) (hC : P.cellsOf e = n) (hn : 0 < n) (hR : OpensF P e m R) : OpensF P t (m + 1) (sliceK n R) := by
  intro H enc w spare held fuel cs y hf0 h
  rcases DataW.trod_slice ht h with ⟨rfl, _⟩ | ⟨a, len, cap, elems, rest, n', hfu, rfl, _, _, hl, hm, hlen, hel, _, _⟩
  · exact ⟨[], [], none, 0, rfl, Nat.le_refl _, by unfold maxLen; omega, fun _ => rfl, fun h => absurd rfl h⟩
  · by_cases h0 : len = 0
    · subst h0
      exact ⟨[], [], some a, cap, rfl, hl, hm, fun _ => rfl, fun h => absurd rfl h⟩
    · have hex : ∀ k, k < len → ∃ p : List Value × α × List Nat, p.1.length = n ∧ (∀ j v, p.1[j]? = some v → w.cell? (a.add (k * n + j)) = some v) ∧ R w p.1 p.2.1 p.2.2 := by
        intro k hk
        have h1 := hel k hk
        rw [List.getElem?_eq_getElem (by omega)] at h1
        obtain ⟨cs', hc, htr⟩ := Option.bind_eq_some_iff.1 h1
        rw [hC] at hc
        obtain ⟨_, hlen', hcell⟩ := World.cells?_some hc
        obtain ⟨x, bs, hx⟩ := hR H enc w spare held n' cs' _ (by omega) htr
        refine ⟨(cs', x, bs), hlen', fun j v hv => ?_, hx⟩
        have hjn : j < n := by
          have := (List.getElem?_eq_some_iff.1 hv).1
          dsimp only at this
          omega
        have := hcell j hjn
        rw [add_add] at this
        rw [this]; exact hv
      obtain ⟨p0, _⟩ := hex 0 (by omega)
      haveI : Inhabited (List Value × α × List Nat) := ⟨p0⟩
      obtain ⟨f, hf⟩ := choose_lt hex
      have hsp : a.spot = none := by
        obtain ⟨q1, q2, _⟩ := hf 0 (by omega)
        obtain ⟨v, hv⟩ : ∃ v, (f 0).1[0]? = some v := ⟨_, List.getElem?_eq_getElem (by omega)⟩
        have h1 := q2 0 v hv
        have h2 : a.add (0 * n + 0) = a := by simp [Addr.add]
        rw [h2] at h1
        exact World.cell?_spot h1
      obtain ⟨b, o, sp⟩ := a
      dsimp only at hsp
      subst hsp
      have hadd : ∀ i, (⟨b, o, none⟩ : Addr).add i = ⟨b, o + i, none⟩ := by
        intro i; unfold Addr.add; split <;> simp_all
      have hlx : ((List.range len).map fun k => (f k).2.1).length = len := by simp
      refine ⟨(List.range len).map fun k => (f k).2.1, b :: (List.range len).flatMap fun k => (f k).2.2, some ⟨b, o, none⟩, cap, by rw [hlx], by rw [hlx]; exact hl, hm, fun h => ?_, fun _ => ⟨b, o, rfl, fun k => (f k).1, fun k => (f k).2.2, by rw [hlx], fun k x hx => ?_⟩⟩
      · have := congrArg List.length h; rw [hlx] at this; exact absurd this h0
      · obtain ⟨hk, rfl⟩ := List.getElem?_eq_some_iff.1 hx
        rw [hlx] at hk
        obtain ⟨q1, q2, q3⟩ := hf k hk
        refine ⟨q1, fun j v hv => ?_, ?_⟩
        · rw [← hadd]; exact q2 j v hv
        · simp only [List.getElem_map, List.getElem_range]; exact q3

theorem opensF_proof {P : Program} {t : TypeId} {f0 f1 f2 : Field} (ht : P.underlying t = some (.struct #[f0, f1, f2])) (hC : P.cellsOf t = 4) (h0 : Opens P f0.type atomK) (h1 : P.underlying f1.type = some (.int .i64)) (h2 : P.underlying f2.type = some (.slice t))
    (c0 : P.cellsOf f0.type = 2) (c1 : P.cellsOf f1.type = 1) (c2 : P.cellsOf f2.type = 1) (o0 : f0.offset = 0) (o1 : f1.offset = 2) (o2 : f2.offset = 3) : ∀ m, OpensF P t m (proofK m) := by
  intro m
  induction m using Nat.strongRecOn with
  | _ m ih =>
  intro H enc w spare held fuel cs y hfu h
  obtain ⟨xs, n, hn, _, hl, hlen, hf⟩ := DataW.trod_struct ht h
  match m, hfu, ih with
  | 0, hfu, _ => omega
  | m + 1, hfu, ih =>
    rw [hC] at hl
    match xs, hlen with
    | [y0, y1, y2], _ =>
      have t0 := hf 0 f0 rfl
      have t1 := hf 1 f1 rfl
      have t2 := hf 2 f2 rfl
      match cs, hl with
      | [a, b, c, d], _ =>
        rw [c0, o0] at t0
        rw [c1, o1] at t1
        rw [c2, o2] at t2
        simp only [List.getElem?_cons_zero, List.getElem?_cons_succ, List.drop_zero, List.drop_succ_cons, List.take_succ_cons, List.take_zero] at t0 t1 t2
        obtain ⟨x0, bs0, hx0⟩ := h0 H enc w spare held n _ _ t0
        obtain ⟨v1, e1, _, hw⟩ := DataW.trod_int h1 t1
        have hK : OpensF P f2.type m (proofsK (m - 1)) := by
          match m, ih with
          | 0, _ =>
            intro H enc w spare held fuel cs y hf h
            obtain rfl : fuel = 0 := by omega
            simp [DataW.trod] at h
          | m + 1, ih => exact opensF_slice h2 hC (by omega) (ih m (by omega))
        obtain ⟨x2, bs2, hx2⟩ := hK H enc w spare held n _ _ (by omega) t2
        obtain ⟨s, e0, hs, hts⟩ := hx0
        simp only [List.cons.injEq, and_true] at e0 e1
        obtain ⟨rfl, rfl⟩ := e0
        subst e1
        simp only [Lit.wf, IntKind.min, IntKind.max, IntKind.signed, IntKind.bits] at hw
        simp at hw
        have hx2' : sliceK 4 (proofK m) w [d] x2 bs2 := by
          match m, hx2 with
          | 0, hx2 => exact hx2
          | m + 1, hx2 => exact sliceK_imp (proofK_up m) hx2
        exact ⟨.mk x0 v1 x2, bs0 ++ bs2, b, d, bs0, bs2, rfl, hs, hw, rfl, hts, hx2'⟩

end Go.Proofs.Ytlmngncogomgeaa.D
namespace Go.Proofs.Ytlmngncogomgeaa
open Go.RowKit D
theorem toAtom_b (a : A) (c0 c1 : Value) (bs : List Nat) (w : World) (h : atomK w [c0, c1] a bs) (hn : bulkA a ≤ 1048576) :
    Calls Try.prog 17 #[.agg #[c0, c1]] w (MakesA atomK a w.heap.size w) := toAtom_any a c0 c1 bs w h (by unfold bulkA at hn; omega)

end Go.Proofs.Ytlmngncogomgeaa
namespace Go.Proofs.Ytlmngncogomgeaa
open Go.RowKit D
set_option linter.unusedVariables false
set_option maxHeartbeats 1000000 in
theorem copyAtoms_any (ts : List A) (v : Value) (bs : List Nat) (w : World) (h : atomsK w [v] ts bs) (hn : ts.length ≤ 16777216) (ha : ∀ a ∈ ts, a.args.length ≤ 16777216) :
    Calls Try.prog 25 #[v] w (Makes atomsK ts w.heap.size w) := by
  obtain ⟨Ad, cap, rfl, hl, hm⟩ := sliceK_form h
  obtain ⟨i0, hi, hz0, hz1, hz2⟩ := info_parts infoAtom3
  clear hm
  by_cases h0 : ts.length = 0
  · have hl : ((ts.length : Int) == 0) = true := beq_iff_eq.2 (by omega)
    have hx : ts = [] := List.length_eq_zero_iff.1 h0
    have HX := Lib.hid hx
    clear h h0 hx hi hz0 hz1 hz2 ha
    go_enter Try.func25, Try.ntmps25
    go_wp2
    go_ret
    exact ⟨Below.refl _ _, _, [], rfl, by rw [HX.out]; exact atoms_none _, New.nil _ _⟩
  · have hl0 : ((ts.length : Int) == 0) = false := beq_eq_false_iff_ne.2 (by omega)
    go_enter Try.func25, Try.ntmps25
    go_wp2_with (at_make; refine wpList_make_full _ rfl _ _ _ rfl w.heap.size 33 i0 _ 2 Try.underlying29 hi hz0 hz1 _ _ _ _ ts.length rfl rfl rfl rfl (by rw [hz2]; omega) (by unfold maxLen; omega) (Nat.le_refl _) ?_; intro w1 hown hgrow)
    have hb1 : Below w.heap.size w w1 := (Below.refl _ _).grown hgrow (Nat.le_refl _) (fun _ e => by cases e)
    have hg1 : w.heap.size < w1.heap.size := (hown.lt _ rfl).2
    clear hgrow hl0
    go_loopw [14] (fun i wr => ∃ (k : Nat) (L : List Value) (bs' : List Nat), k ≤ ts.length ∧ i = .int .i64 k ∧ wr.ownsRow w.heap.size 33 2 (.slice (some ⟨w.heap.size, 0, none⟩) ts.length ts.length) ts.length L ∧
        Filled 2 atomK w1.heap.size wr L ts k bs' ∧ Below w.heap.size w wr ∧ w1.heap.size ≤ wr.heap.size) (fun i _ => ts.length - (intOf i).toNat)
    case atStart => exact ⟨0, _, _, Nat.zero_le _, rfl, hown, Filled.start, hb1, Nat.le_refl _⟩
    case round =>
      obtain ⟨k, L, bs', hk, rfl, how, hF, hb, hsz⟩ := hrel
      clear hown hb1
      by_cases hlt : k < ts.length
      · have hw := atomsK_good.below h hb
        obtain ⟨b, o, Ae, ce, bk, rfl, _, c0, c1, hel, _⟩ := atoms_el hw hlt
        have hle : ts[k].args.length ≤ 16777216 := ha _ (List.getElem_mem _)
        have HK := Lib.hid hF
        have hk0 : (0 : Int) ≤ (k : Int) := by omega
        have hk1 : (k : Int) < (ts.length : Int) := by omega
        clear h hw hF ha
        have hL := Lib.hid how.1
        have hA : Below wr.heap.size wr (wr.alloc (.cells #[.string ts[k].name, .slice Ae ts[k].args.length ce] 33)) := (Below.refl _ _).alloc (Nat.le_refl _) _
        have hc := copyAtom_any ts[k] _ _ bk _ (atomK_good.below hel hA) hle
        go_wp2_with fail
        refine hc.mono ?_
        rintro e w' ⟨hb', cs', b2, rfl, hR, hN⟩
        obtain ⟨Ae', ce', rfl⟩ := atom_cells hR
        have hB := hA.trans (hb'.mono hA.size)
        have how' := own_below how hB
        obtain ⟨⟨u0, hu0⟩, hf0⟩ := own_slot how' (j := k * 2) (by omega)
        obtain ⟨⟨u1, hu1⟩, hf1⟩ := own_slot how' (j := k * 2 + 1) (by omega)
        obtain ⟨R1, R2, R3, R4⟩ := fill2 atomK_good how HK.out hlt hb hB hg1 (Nat.le_refl _) hsz hR (hN.mono hA.size)
        clear how' hel hR hN hc
        go_wp2
        go_roundw
        case rel => exact ⟨k + 1, _, _, by omega, by go_num, R1, R2, R3, R4⟩
        case measure => simp [intOf]; omega
      · have he : k = ts.length := by omega
        subst he
        have HF := Lib.hid hF
        clear hF
        go_wp2
        go_ret
        obtain ⟨b2, r1, r2, r3, r4⟩ := HF.out.slice how (fun hm => by have := (HF.out.new.own _ hm).1; omega)
        refine ⟨hb, _, b2, rfl, r1, r2, fun b hb' => ⟨?_, r4 b hb'⟩⟩
        rcases r3 b hb' with ⟨rfl, h⟩ | h
        · exact h
        · have := (HF.out.new.own b h).1; omega

end Go.Proofs.Ytlmngncogomgeaa
