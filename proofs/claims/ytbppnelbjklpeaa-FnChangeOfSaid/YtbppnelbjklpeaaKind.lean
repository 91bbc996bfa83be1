/- Words for data in memory: a term, an atom, a part, a rule, a change, and slices of them; what keeps them. No program is named here. -/
import Derived.WalkKit
import Derived.Deep.Slices
import Derived.Deep.Fields
import Derived.ChangeSame
import Derived.Deep.Draws
import Derived.Lib.IndexBytes
import Derived.Test.YtbppnelbjklpeaaData
namespace Go.Proofs.Ytbppnelbjklpeaa.D
open Go.RowKit

structure T where
  var : Bool
  name : ByteArray
structure A where
  name : ByteArray
  args : List T
structure Pt where
  no : Bool
  atom : A
structure Ru where
  head : A
  body : List Pt
structure Ch where
  comes : List A
  goes : List A

/-- A term is ok. -/
def termOk (t : T) : Bool := if t.var then varOk t.name else nameOk t.name
/-- An atom is ok. -/
def atomOk (a : A) : Bool := nameOk a.name && decide (a.args.length ≤ 3) && a.args.all termOk

/-- How cells read as a datum, and which blocks are met on the way. -/
abbrev Rel (α : Type) := World → List Value → α → List Nat → Prop

/-- A reading hangs on the blocks that it meets alone; these are there. -/
structure Good {α : Type} (R : Rel α) : Prop where
  keep : ∀ {w w' : World} {cs : List Value} {x : α} {bs : List Nat}, R w cs x bs → (∀ b ∈ bs, w'.heap[b]? = w.heap[b]?) → R w' cs x bs
  lt : ∀ {w : World} {cs : List Value} {x : α} {bs : List Nat}, R w cs x bs → ∀ b ∈ bs, b < w.heap.size

theorem Good.below {α : Type} {R : Rel α} (g : Good R) {w w' : World} {cs : List Value} {x : α} {bs : List Nat} (h : R w cs x bs) (hb : Below w.heap.size w w') : R w' cs x bs :=
  g.keep h fun b hbs => hb.block b (g.lt h b hbs)
theorem Good.belowB {α : Type} {R : Rel α} (g : Good R) {B : Nat} {w w' : World} {cs : List Value} {x : α} {bs : List Nat} (h : R w cs x bs) (hb : Below B w w') (hB : ∀ b ∈ bs, b < B) : R w' cs x bs :=
  g.keep h fun b hbs => hb.block b (hB b hbs)

theorem lt_of_cell {w : World} {p : Addr} {v : Value} (h : w.cell? p = some v) : p.block < w.heap.size := by
  rcases Nat.lt_or_ge p.block w.heap.size with h' | h'
  · exact h'
  · simp [World.cell?, Array.getElem?_eq_none h'] at h

def termK : Rel T := fun _ cs t bs => cs = [.bool t.var, .string t.name] ∧ t.name.size ≤ maxLen ∧ bs = []

/-- A slice of elements of n cells each. -/
def sliceK {α : Type} (n : Nat) (R : Rel α) : Rel (List α) := fun w cs xs bs =>
  ∃ Ad cap, cs = [.slice Ad xs.length cap] ∧ xs.length ≤ cap ∧ cap ≤ maxLen ∧ (xs = [] → bs = []) ∧
    (xs ≠ [] → ∃ b o, Ad = some ⟨b, o, none⟩ ∧ ∃ (F : Nat → List Value) (G : Nat → List Nat), bs = b :: (List.range xs.length).flatMap G ∧
      ∀ k x, xs[k]? = some x → (F k).length = n ∧ (∀ j v, (F k)[j]? = some v → w.cell? ⟨b, o + (k * n + j), none⟩ = some v) ∧ R w (F k) x (G k))

theorem termK_good : Good termK := ⟨fun h _ => h, fun h b hb => by obtain ⟨_, _, rfl⟩ := h; simp at hb⟩

theorem sliceK_good {α : Type} {n : Nat} {R : Rel α} (g : Good R) (hn : 0 < n) : Good (sliceK n R) := by
  refine ⟨fun {w w' cs x bs} h hk => ?_, fun {w cs x bs} h c hc => ?_⟩
  · obtain ⟨Ad, cap, rfl, hl, hm, h0, h1⟩ := h
    refine ⟨Ad, cap, rfl, hl, hm, h0, fun hne => ?_⟩
    obtain ⟨b, o, rfl, F, G, rfl, hF⟩ := h1 hne
    refine ⟨b, o, rfl, F, G, rfl, fun k y hy => ?_⟩
    obtain ⟨a1, a2, a3⟩ := hF k y hy
    refine ⟨a1, fun j v hv => ?_, g.keep a3 fun c hc => hk c ?_⟩
    · rw [World.cell?_of_block (w := w) (hk b (by simp))]; exact a2 j v hv
    · have hkl : k < x.length := (List.getElem?_eq_some_iff.1 hy).1
      exact List.mem_cons_of_mem _ (List.mem_flatMap.2 ⟨k, List.mem_range.2 hkl, hc⟩)
  · obtain ⟨Ad, cap, rfl, hl, hm, h0, h1⟩ := h
    by_cases hne : x = []
    · rw [h0 hne] at hc; simp at hc
    · obtain ⟨b, o, rfl, F, G, rfl, hF⟩ := h1 hne
      rcases List.mem_cons.1 hc with rfl | hc
      · match x, hne with
        | y :: r, _ =>
          obtain ⟨a1, a2, _⟩ := hF 0 y rfl
          have : ∃ v, (F 0)[0]? = some v := ⟨_, List.getElem?_eq_getElem (by omega)⟩
          obtain ⟨v, hv⟩ := this
          exact lt_of_cell (a2 0 v hv)
      · obtain ⟨k, hk, hck⟩ := List.mem_flatMap.1 hc
        have hk' := List.mem_range.1 hk
        obtain ⟨_, _, a3⟩ := hF k x[k] (List.getElem?_eq_getElem hk')
        exact g.lt a3 c hck

def termsK : Rel (List T) := sliceK 2 termK
def atomK : Rel A := fun w cs a bs => ∃ s, cs = [.string a.name, s] ∧ a.name.size ≤ maxLen ∧ termsK w [s] a.args bs
def atomsK : Rel (List A) := sliceK 2 atomK
def partK : Rel Pt := fun w cs p bs => ∃ s, cs = [.bool p.no, .string p.atom.name, s] ∧ p.atom.name.size ≤ maxLen ∧ termsK w [s] p.atom.args bs
def partsK : Rel (List Pt) := sliceK 3 partK
def ruleK : Rel Ru := fun w cs r bs => ∃ s b bs1 bs2, cs = [.string r.head.name, s, b] ∧ r.head.name.size ≤ maxLen ∧ bs = bs1 ++ bs2 ∧ termsK w [s] r.head.args bs1 ∧ partsK w [b] r.body bs2
def rulesK : Rel (List Ru) := sliceK 3 ruleK
def changeK : Rel Ch := fun w cs c bs => ∃ s b bs1 bs2, cs = [s, b] ∧ bs = bs1 ++ bs2 ∧ atomsK w [s] c.comes bs1 ∧ atomsK w [b] c.goes bs2

theorem termsK_good : Good termsK := sliceK_good termK_good (by omega)
theorem atomK_good : Good atomK :=
  ⟨fun h hk => by obtain ⟨s, h1, h2, h3⟩ := h; exact ⟨s, h1, h2, termsK_good.keep h3 hk⟩, fun h => by obtain ⟨s, h1, h2, h3⟩ := h; exact termsK_good.lt h3⟩
theorem atomsK_good : Good atomsK := sliceK_good atomK_good (by omega)
theorem partK_good : Good partK :=
  ⟨fun h hk => by obtain ⟨s, h1, h2, h3⟩ := h; exact ⟨s, h1, h2, termsK_good.keep h3 hk⟩, fun h => by obtain ⟨s, h1, h2, h3⟩ := h; exact termsK_good.lt h3⟩
theorem partsK_good : Good partsK := sliceK_good partK_good (by omega)
theorem pair_good {α β : Type} {R : Rel α} {S : Rel β} (gR : Good R) (gS : Good S) {w w' : World} {c d : List Value} {x : α} {y : β} {b1 b2 : List Nat} (h1 : R w c x b1) (h2 : S w d y b2)
    (hk : ∀ b ∈ b1 ++ b2, w'.heap[b]? = w.heap[b]?) : R w' c x b1 ∧ S w' d y b2 :=
  ⟨gR.keep h1 fun b hb => hk b (List.mem_append_left _ hb), gS.keep h2 fun b hb => hk b (List.mem_append_right _ hb)⟩
theorem pair_lt {α β : Type} {R : Rel α} {S : Rel β} (gR : Good R) (gS : Good S) {w : World} {c d : List Value} {x : α} {y : β} {b1 b2 : List Nat} (h1 : R w c x b1) (h2 : S w d y b2) : ∀ b ∈ b1 ++ b2, b < w.heap.size :=
  fun b hb => (List.mem_append.1 hb).elim (gR.lt h1 b) (gS.lt h2 b)
theorem ruleK_good : Good ruleK :=
  ⟨fun h hk => by obtain ⟨s, b, b1, b2, h1, h2, rfl, h3, h4⟩ := h; obtain ⟨h3, h4⟩ := pair_good termsK_good partsK_good h3 h4 hk; exact ⟨s, b, b1, b2, h1, h2, rfl, h3, h4⟩,
   fun h => by obtain ⟨s, b, b1, b2, h1, h2, rfl, h3, h4⟩ := h; exact pair_lt termsK_good partsK_good h3 h4⟩
theorem rulesK_good : Good rulesK := sliceK_good ruleK_good (by omega)
theorem changeK_good : Good changeK :=
  ⟨fun h hk => by obtain ⟨s, b, b1, b2, h1, rfl, h3, h4⟩ := h; obtain ⟨h3, h4⟩ := pair_good atomsK_good atomsK_good h3 h4 hk; exact ⟨s, b, b1, b2, h1, rfl, h3, h4⟩,
   fun h => by obtain ⟨s, b, b1, b2, h1, rfl, h3, h4⟩ := h; exact pair_lt atomsK_good atomsK_good h3 h4⟩

/-- The element at a place. -/
theorem sliceK_at {α : Type} {n : Nat} {R : Rel α} {w : World} {Ad : Option Addr} {len cap : Nat} {xs : List α} {bs : List Nat} (h : sliceK n R w [.slice Ad len cap] xs bs) {k : Nat} (hk : k < xs.length) :
    ∃ b o cs bk, Ad = some ⟨b, o, none⟩ ∧ b ∈ bs ∧ cs.length = n ∧ (∀ j v, cs[j]? = some v → w.cell? ⟨b, o + (k * n + j), none⟩ = some v) ∧ R w cs xs[k] bk ∧ (∀ c ∈ bk, c ∈ bs) := by
  obtain ⟨Ad', cap', hcs, hl, hm, h0, h1⟩ := h
  simp only [List.cons.injEq, Value.slice.injEq, and_true] at hcs
  obtain ⟨rfl, rfl, rfl⟩ := hcs
  obtain ⟨b, o, rfl, F, G, rfl, hF⟩ := h1 (by intro e; subst e; simp at hk)
  obtain ⟨a1, a2, a3⟩ := hF k _ (List.getElem?_eq_getElem hk)
  exact ⟨b, o, F k, G k, rfl, by simp, a1, a2, a3, fun c hc => List.mem_cons_of_mem _ (List.mem_flatMap.2 ⟨k, List.mem_range.2 hk, hc⟩)⟩

theorem sliceK_form {α : Type} {n : Nat} {R : Rel α} {w : World} {v : Value} {xs : List α} {bs : List Nat} (h : sliceK n R w [v] xs bs) :
    ∃ Ad cap, v = .slice Ad xs.length cap ∧ xs.length ≤ cap ∧ cap ≤ maxLen := by
  obtain ⟨Ad, cap, hcs, hl, hm, _⟩ := h
  exact ⟨Ad, cap, by simpa using hcs, hl, hm⟩

/-! The cells of an element, spelled as a walk spells them. -/
section
variable {w : World} {Ad : Option Addr} {len cap : Nat} {bs : List Nat} {k : Nat}
theorem terms_at {xs : List T} (h : termsK w [.slice Ad len cap] xs bs) (hk : k < xs.length) :
    ∃ b o, Ad = some ⟨b, o, none⟩ ∧ b ∈ bs ∧ w.cell? ⟨b, o + k * 2, none⟩ = some (.bool xs[k].var) ∧ w.cell? ⟨b, o + k * 2 + 1, none⟩ = some (.string xs[k].name) ∧ xs[k].name.size ≤ maxLen := by
  obtain ⟨b, o, cs, bk, rfl, hb, hcs, hcell, ⟨rfl, hnm, _⟩, _⟩ := sliceK_at h hk
  exact ⟨b, o, rfl, hb, by simpa using hcell 0 _ rfl, by simpa [Nat.add_assoc] using hcell 1 _ rfl, hnm⟩
theorem atoms_at {xs : List A} (h : atomsK w [.slice Ad len cap] xs bs) (hk : k < xs.length) :
    ∃ b o s bk, Ad = some ⟨b, o, none⟩ ∧ b ∈ bs ∧ w.cell? ⟨b, o + k * 2, none⟩ = some (.string xs[k].name) ∧ w.cell? ⟨b, o + k * 2 + 1, none⟩ = some s ∧ xs[k].name.size ≤ maxLen ∧ termsK w [s] xs[k].args bk ∧ ∀ c ∈ bk, c ∈ bs := by
  obtain ⟨b, o, cs, bk, rfl, hb, hcs, hcell, ⟨s, rfl, hnm, ht⟩, hbk⟩ := sliceK_at h hk
  exact ⟨b, o, s, bk, rfl, hb, by simpa using hcell 0 _ rfl, by simpa [Nat.add_assoc] using hcell 1 _ rfl, hnm, ht, hbk⟩
theorem parts_at {xs : List Pt} (h : partsK w [.slice Ad len cap] xs bs) (hk : k < xs.length) :
    ∃ b o s bk, Ad = some ⟨b, o, none⟩ ∧ b ∈ bs ∧ w.cell? ⟨b, o + k * 3, none⟩ = some (.bool xs[k].no) ∧ w.cell? ⟨b, o + k * 3 + 1, none⟩ = some (.string xs[k].atom.name) ∧ w.cell? ⟨b, o + k * 3 + 2, none⟩ = some s ∧ xs[k].atom.name.size ≤ maxLen ∧
      termsK w [s] xs[k].atom.args bk ∧ ∀ c ∈ bk, c ∈ bs := by
  obtain ⟨b, o, cs, bk, rfl, hb, hcs, hcell, ⟨s, rfl, hnm, ht⟩, hbk⟩ := sliceK_at h hk
  exact ⟨b, o, s, bk, rfl, hb, by simpa using hcell 0 _ rfl, by simpa [Nat.add_assoc] using hcell 1 _ rfl, by simpa [Nat.add_assoc] using hcell 2 _ rfl, hnm, ht, hbk⟩
theorem rules_at {xs : List Ru} (h : rulesK w [.slice Ad len cap] xs bs) (hk : k < xs.length) :
    ∃ b o s q bk bq, Ad = some ⟨b, o, none⟩ ∧ b ∈ bs ∧ w.cell? ⟨b, o + k * 3, none⟩ = some (.string xs[k].head.name) ∧ w.cell? ⟨b, o + k * 3 + 1, none⟩ = some s ∧ w.cell? ⟨b, o + k * 3 + 2, none⟩ = some q ∧ xs[k].head.name.size ≤ maxLen ∧
      termsK w [s] xs[k].head.args bk ∧ partsK w [q] xs[k].body bq ∧ (∀ c ∈ bk, c ∈ bs) ∧ ∀ c ∈ bq, c ∈ bs := by
  obtain ⟨b, o, cs, bkq, rfl, hb, hcs, hcell, ⟨s, q, bk, bq, rfl, hnm, rfl, ht, hp⟩, hbk⟩ := sliceK_at h hk
  exact ⟨b, o, s, q, bk, bq, rfl, hb, by simpa using hcell 0 _ rfl, by simpa [Nat.add_assoc] using hcell 1 _ rfl, by simpa [Nat.add_assoc] using hcell 2 _ rfl, hnm, ht, hp, fun c hc => hbk c (List.mem_append_left _ hc), fun c hc => hbk c (List.mem_append_right _ hc)⟩
end

/-- Slices of texts, and of bytes, that the call made or was handed. -/
def strK : Rel ByteArray := fun _ cs s bs => cs = [.string s] ∧ s.size ≤ maxLen ∧ bs = []
theorem strK_good : Good strK := ⟨fun h _ => h, fun h b hb => by obtain ⟨_, _, rfl⟩ := h; simp at hb⟩
def strsK : Rel (List ByteArray) := sliceK 1 strK
theorem strsK_good : Good strsK := sliceK_good strK_good (by omega)
def byteK : Rel UInt8 := fun _ cs c bs => cs = [.int .u8 c.toNat] ∧ bs = []
theorem byteK_good : Good byteK := ⟨fun h _ => h, fun h b hb => by obtain ⟨_, rfl⟩ := h; simp at hb⟩
def bytesK : Rel (List UInt8) := sliceK 1 byteK
theorem bytesK_good : Good bytesK := sliceK_good byteK_good (by omega)
theorem strs_at {w : World} {Ad : Option Addr} {len cap k : Nat} {bs : List Nat} {xs : List ByteArray} (h : strsK w [.slice Ad len cap] xs bs) (hk : k < xs.length) :
    ∃ b o, Ad = some ⟨b, o, none⟩ ∧ b ∈ bs ∧ w.cell? ⟨b, o + k, none⟩ = some (.string xs[k]) ∧ xs[k].size ≤ maxLen := by
  obtain ⟨b, o, cs, bk, rfl, hb, hcs, hcell, ⟨rfl, hnm, _⟩, _⟩ := sliceK_at h hk
  exact ⟨b, o, rfl, hb, by simpa using hcell 0 _ rfl, hnm⟩
theorem bytes_at {w : World} {Ad : Option Addr} {len cap k : Nat} {bs : List Nat} {xs : List UInt8} (h : bytesK w [.slice Ad len cap] xs bs) (hk : k < xs.length) :
    ∃ b o, Ad = some ⟨b, o, none⟩ ∧ b ∈ bs ∧ w.cell? ⟨b, o + k, none⟩ = some (.int .u8 xs[k].toNat) := by
  obtain ⟨b, o, cs, bk, rfl, hb, hcs, hcell, ⟨rfl, _⟩, _⟩ := sliceK_at h hk
  exact ⟨b, o, rfl, hb, by simpa using hcell 0 _ rfl⟩

theorem strs_of_block {w : World} {g cap : Nat} {e : TypeId} {cs : List ByteArray} (h : w.heap[g]? = some (.cells (cs.map Value.string).toArray e (0, 0))) (hc : cs.length ≤ cap) (hm : cap ≤ maxLen) (hs : ∀ s ∈ cs, s.size ≤ maxLen) :
    strsK w [.slice (some ⟨g, 0, none⟩) cs.length cap] cs (if cs = [] then [] else [g]) := by
  refine ⟨_, cap, rfl, hc, hm, fun h => by simp [h], fun hne => ⟨g, 0, rfl, fun k => [.string (cs.getD k ByteArray.empty)], fun _ => [], by simp [hne], fun k x hx => ⟨rfl, fun j v hv => ?_, ?_⟩⟩⟩
  · obtain ⟨hj, rfl⟩ := List.getElem?_eq_some_iff.1 hv
    have hj0 : j = 0 := by simpa using hj
    subst hj0
    rw [cell_of_row w g _ _ e (0, 0) h]
    simp [hx]
  · obtain ⟨hk, rfl⟩ := List.getElem?_eq_some_iff.1 hx
    exact ⟨by simp [hk], hs _ (List.getElem_mem _), rfl⟩

/-! Data in memory of the call's own. -/
/-- The blocks are all different, from B on, and may be written. -/
structure New (B : Nat) (w : World) (bs : List Nat) : Prop where
  nodup : bs.Nodup
  own : ∀ b ∈ bs, B ≤ b ∧ ∃ cur e, w.heap[b]? = some (.cells cur e (0, 0))
theorem New.nil (B : Nat) (w : World) : New B w [] := ⟨List.nodup_nil, fun b hb => by simp at hb⟩
theorem New.lt {B : Nat} {w : World} {bs : List Nat} (h : New B w bs) {b : Nat} (hb : b ∈ bs) : b < w.heap.size := by
  obtain ⟨_, cur, e, he⟩ := h.own b hb
  exact lt_of_block he
theorem New.keep {B : Nat} {w w' : World} {bs : List Nat} (h : New B w bs) (hk : ∀ b ∈ bs, w'.heap[b]? = w.heap[b]?) : New B w' bs :=
  ⟨h.nodup, fun b hb => ⟨(h.own b hb).1, by rw [hk b hb]; exact (h.own b hb).2⟩⟩
theorem New.below {B : Nat} {w w' : World} {bs : List Nat} (h : New B w bs) (hb : Below w.heap.size w w') : New B w' bs :=
  h.keep fun b hbs => hb.block b (h.lt hbs)
theorem New.mono {B B' : Nat} {w : World} {bs : List Nat} (h : New B w bs) (hB : B' ≤ B) : New B' w bs := ⟨h.nodup, fun b hb => ⟨Nat.le_trans hB (h.own b hb).1, (h.own b hb).2⟩⟩
theorem New.append {B C : Nat} {w : World} {b1 b2 : List Nat} (h1 : New B w b1) (h2 : New C w b2) (hBC : B ≤ C) (hlt : ∀ b ∈ b1, b < C) : New B w (b1 ++ b2) := by
  refine ⟨List.nodup_append.2 ⟨h1.nodup, h2.nodup, fun a ha b hb e => ?_⟩, fun b hb => ?_⟩
  · subst e; have := hlt a ha; have := (h2.own a hb).1; omega
  · rcases List.mem_append.1 hb with hb | hb
    · exact h1.own b hb
    · exact ⟨Nat.le_trans hBC (h2.own b hb).1, (h2.own b hb).2⟩

theorem own_below {w w' : World} {base e size n : Nat} {v : Value} {L : List Value} (h : w.ownsRow base e size v n L) (hb : Below w.heap.size w w') : w'.ownsRow base e size v n L := by
  refine ⟨h.1, h.2.imp id ?_⟩
  rintro ⟨g, cap, cur, hv, hg, hh, r⟩
  exact ⟨g, cap, cur, hv, hg, by rw [hb.block g (lt_of_block hh)]; exact hh, r⟩
theorem own_slot {w : World} {base e size n g cap : Nat} {L : List Value} (h : w.ownsRow base e size (.slice (some ⟨g, 0, none⟩) n cap) n L) {j : Nat} (hj : j < n * size) :
    (∃ u, w.cell? ⟨g, j, none⟩ = some u) ∧ w.frozen? ⟨g, j, none⟩ = false :=
  ⟨⟨_, (h.cellAt j hj).trans (List.getElem?_eq_getElem (by have := h.1; omega))⟩, h.frozenAt j⟩

/-- The row L holds the first k of xs, elements of n cells each; what they lead to lies in new blocks from C on. -/
structure Filled {α : Type} (n : Nat) (R : Rel α) (C : Nat) (w : World) (L : List Value) (xs : List α) (k : Nat) (bs : List Nat) : Prop where
  new : New C w bs
  at_ : ∃ G : Nat → List Nat, bs = (List.range k).flatMap G ∧ ∀ j (h : j < xs.length), j < k → R w ((L.drop (j * n)).take n) xs[j] (G j)

theorem Filled.start {α : Type} {n : Nat} {R : Rel α} {C : Nat} {w : World} {L : List Value} {xs : List α} : Filled n R C w L xs 0 [] :=
  ⟨New.nil _ _, fun _ => [], rfl, fun j _ hj => by omega⟩

theorem Filled.keep {α : Type} {n : Nat} {R : Rel α} (g : Good R) {C : Nat} {w w' : World} {L : List Value} {xs : List α} {k : Nat} {bs : List Nat} (h : Filled n R C w L xs k bs)
    (hk : ∀ b ∈ bs, w'.heap[b]? = w.heap[b]?) : Filled n R C w' L xs k bs := by
  obtain ⟨h1, G, rfl, h2⟩ := h
  exact ⟨h1.keep hk, G, rfl, fun j hj hjk => g.keep (h2 j hj hjk) fun b hb => hk b (List.mem_flatMap.2 ⟨j, List.mem_range.2 hjk, hb⟩)⟩

/-- One element more: the cells of element k are set to cs. -/
theorem Filled.step {α : Type} {n : Nat} {R : Rel α} {C : Nat} {w : World} {L L' : List Value} {xs : List α} {k : Nat} {bs b2 : List Nat} {cs : List Value} (h : Filled n R C w L xs k bs)
    (hL : L'.take (k * n) = L.take (k * n)) (hcs : (L'.drop (k * n)).take n = cs) (hk : k < xs.length) (hR : R w cs xs[k] b2) (hC : ∃ D, C ≤ D ∧ New D w b2 ∧ ∀ b ∈ bs, b < D) : Filled n R C w L' xs (k + 1) (bs ++ b2) := by
  obtain ⟨h1, G, rfl, h2⟩ := h
  obtain ⟨D, hCD, h3, h4⟩ := hC
  refine ⟨h1.append h3 hCD h4, fun j => if j = k then b2 else G j, ?_, fun j hj hjk => ?_⟩
  · rw [List.range_succ, List.flatMap_append]
    simp only [List.flatMap_cons, List.flatMap_nil, if_true, List.append_nil]
    congr 1
    rw [List.flatMap_def, List.flatMap_def]
    congr 1
    exact List.map_congr_left fun j hj => by rw [if_neg (by have := List.mem_range.1 hj; omega)]
  · by_cases e : j = k
    · subst e
      show R w _ _ (if j = j then b2 else G j)
      rw [if_pos rfl, hcs]
      exact hR
    · show R w _ _ (if j = k then b2 else G j)
      rw [if_neg e]
      have hjk' : j < k := by omega
      have hmul : j * n + n ≤ k * n := by
        have := Nat.mul_le_mul_right n (show j + 1 ≤ k by omega)
        rw [Nat.add_mul, Nat.one_mul] at this; exact this
      have key : ∀ M : List Value, (M.drop (j * n)).take n = ((M.take (k * n)).drop (j * n)).take n := by
        intro M
        rw [List.drop_take, List.take_take, Nat.min_eq_left (by omega)]
      rw [key L', hL, ← key L]
      exact h2 j hj hjk'

theorem set2 {L : List Value} {k m : Nat} (hL : L.length = m * 2) (hk : k < m) (a b : Value) :
    (((L.set (k * 2) a).set (k * 2 + 1) b).take (k * 2) = L.take (k * 2)) ∧ (((L.set (k * 2) a).set (k * 2 + 1) b).drop (k * 2)).take 2 = [a, b] := by
  constructor
  · rw [List.take_set_of_le (by omega), List.take_set_of_le (by omega)]
  · refine List.ext_getElem? fun j => ?_
    rcases j with _ | _ | j
    · simp [List.getElem?_set, List.getElem?_drop]; omega
    · simp [List.getElem?_set, List.getElem?_drop]; omega
    · simp; omega
theorem set3 {L : List Value} {k m : Nat} (hL : L.length = m * 3) (hk : k < m) (a b c : Value) :
    ((((L.set (k * 3) a).set (k * 3 + 1) b).set (k * 3 + 2) c).take (k * 3) = L.take (k * 3)) ∧ ((((L.set (k * 3) a).set (k * 3 + 1) b).set (k * 3 + 2) c).drop (k * 3)).take 3 = [a, b, c] := by
  constructor
  · rw [List.take_set_of_le (by omega), List.take_set_of_le (by omega), List.take_set_of_le (by omega)]
  · refine List.ext_getElem? fun j => ?_
    rcases j with _ | _ | _ | j
    · simp [List.getElem?_set, List.getElem?_drop]; omega
    · simp [List.getElem?_set, List.getElem?_drop]; omega
    · simp [List.getElem?_set, List.getElem?_drop]; omega
    · simp; omega

theorem own_store2 {w : World} {base e n g cap k : Nat} {L : List Value} (h : w.ownsRow base e 2 (.slice (some ⟨g, 0, none⟩) n cap) n L) (a b : Value) :
    ((w.setCell ⟨g, k * 2, none⟩ a).setCell ⟨g, k * 2 + 1, none⟩ b).ownsRow base e 2 (.slice (some ⟨g, 0, none⟩) n cap) n ((L.set (k * 2) a).set (k * 2 + 1) b) :=
  ((h.stored _ _).1.stored _ _).1
theorem own_store3 {w : World} {base e n g cap k : Nat} {L : List Value} (h : w.ownsRow base e 3 (.slice (some ⟨g, 0, none⟩) n cap) n L) (a b c : Value) :
    (((w.setCell ⟨g, k * 3, none⟩ a).setCell ⟨g, k * 3 + 1, none⟩ b).setCell ⟨g, k * 3 + 2, none⟩ c).ownsRow base e 3 (.slice (some ⟨g, 0, none⟩) n cap) n (((L.set (k * 3) a).set (k * 3 + 1) b).set (k * 3 + 2) c) :=
  (((h.stored _ _).1.stored _ _).1.stored _ _).1

/-- One round of a filling loop: element k, two cells, is stored into the row g. -/
theorem fill2 {α : Type} {R : Rel α} (gR : Good R) {w0 wr w1 : World} {base B e g cap C k : Nat} {L : List Value} {xs : List α} {bs b2 : List Nat} {a b : Value}
    (how : wr.ownsRow base e 2 (.slice (some ⟨g, 0, none⟩) xs.length cap) xs.length L) (hF : Filled 2 R C wr L xs k bs) (hk : k < xs.length)
    (hb0 : Below B w0 wr) (hb : Below wr.heap.size wr w1) (hgC : g < C) (hBg : B ≤ g) (hC : C ≤ wr.heap.size) (hR : R w1 [a, b] xs[k] b2) (hN : New wr.heap.size w1 b2) :
    ((w1.setCell ⟨g, k * 2, none⟩ a).setCell ⟨g, k * 2 + 1, none⟩ b).ownsRow base e 2 (.slice (some ⟨g, 0, none⟩) xs.length cap) xs.length ((L.set (k * 2) a).set (k * 2 + 1) b) ∧
    Filled 2 R C ((w1.setCell ⟨g, k * 2, none⟩ a).setCell ⟨g, k * 2 + 1, none⟩ b) ((L.set (k * 2) a).set (k * 2 + 1) b) xs (k + 1) (bs ++ b2) ∧
    Below B w0 ((w1.setCell ⟨g, k * 2, none⟩ a).setCell ⟨g, k * 2 + 1, none⟩ b) ∧ C ≤ ((w1.setCell ⟨g, k * 2, none⟩ a).setCell ⟨g, k * 2 + 1, none⟩ b).heap.size := by
  have hlt : ∀ c ∈ bs, c < wr.heap.size := fun c hc => hF.new.lt hc
  have hgs : ∀ c ∈ bs, c ≠ g := fun c hc e => by have := (hF.new.own c hc).1; omega
  have hg2 : ∀ c ∈ b2, c ≠ g := fun c hc e => by have := (hN.own c hc).1; omega
  have hs := set2 how.1 hk a b
  refine ⟨own_store2 (own_below how hb) a b, ?_, ?_, ?_⟩
  · refine Filled.step (hF.keep gR fun c hc => ?_) hs.1 hs.2 hk (gR.keep hR fun c hc => ?_) ⟨wr.heap.size, hC, hN.keep fun c hc => ?_, hlt⟩
    · rw [Below.heap_setCell _ _ _ _ (hgs c hc), Below.heap_setCell _ _ _ _ (hgs c hc), hb.block c (hlt c hc)]
    · rw [Below.heap_setCell _ _ _ _ (hg2 c hc), Below.heap_setCell _ _ _ _ (hg2 c hc)]
    · rw [Below.heap_setCell _ _ _ _ (hg2 c hc), Below.heap_setCell _ _ _ _ (hg2 c hc)]
  · exact ((hb0.trans (hb.mono (by omega))).setCell hBg _).setCell hBg _
  · have := hb.size; simp; omega
theorem fill3 {α : Type} {R : Rel α} (gR : Good R) {w0 wr w1 : World} {base B e g cap C k : Nat} {L : List Value} {xs : List α} {bs b2 : List Nat} {a b c : Value}
    (how : wr.ownsRow base e 3 (.slice (some ⟨g, 0, none⟩) xs.length cap) xs.length L) (hF : Filled 3 R C wr L xs k bs) (hk : k < xs.length)
    (hb0 : Below B w0 wr) (hb : Below wr.heap.size wr w1) (hgC : g < C) (hBg : B ≤ g) (hC : C ≤ wr.heap.size) (hR : R w1 [a, b, c] xs[k] b2) (hN : New wr.heap.size w1 b2) :
    (((w1.setCell ⟨g, k * 3, none⟩ a).setCell ⟨g, k * 3 + 1, none⟩ b).setCell ⟨g, k * 3 + 2, none⟩ c).ownsRow base e 3 (.slice (some ⟨g, 0, none⟩) xs.length cap) xs.length (((L.set (k * 3) a).set (k * 3 + 1) b).set (k * 3 + 2) c) ∧
    Filled 3 R C (((w1.setCell ⟨g, k * 3, none⟩ a).setCell ⟨g, k * 3 + 1, none⟩ b).setCell ⟨g, k * 3 + 2, none⟩ c) (((L.set (k * 3) a).set (k * 3 + 1) b).set (k * 3 + 2) c) xs (k + 1) (bs ++ b2) ∧
    Below B w0 (((w1.setCell ⟨g, k * 3, none⟩ a).setCell ⟨g, k * 3 + 1, none⟩ b).setCell ⟨g, k * 3 + 2, none⟩ c) ∧ C ≤ (((w1.setCell ⟨g, k * 3, none⟩ a).setCell ⟨g, k * 3 + 1, none⟩ b).setCell ⟨g, k * 3 + 2, none⟩ c).heap.size := by
  have hlt : ∀ c ∈ bs, c < wr.heap.size := fun c hc => hF.new.lt hc
  have hgs : ∀ c ∈ bs, c ≠ g := fun c hc e => by have := (hF.new.own c hc).1; omega
  have hg2 : ∀ c ∈ b2, c ≠ g := fun c hc e => by have := (hN.own c hc).1; omega
  have hs := set3 how.1 hk a b c
  refine ⟨own_store3 (own_below how hb) a b c, ?_, ?_, ?_⟩
  · refine Filled.step (hF.keep gR fun c hc => ?_) hs.1 hs.2 hk (gR.keep hR fun c hc => ?_) ⟨wr.heap.size, hC, hN.keep fun c hc => ?_, hlt⟩
    · rw [Below.heap_setCell _ _ _ _ (hgs c hc), Below.heap_setCell _ _ _ _ (hgs c hc), Below.heap_setCell _ _ _ _ (hgs c hc), hb.block c (hlt c hc)]
    · rw [Below.heap_setCell _ _ _ _ (hg2 c hc), Below.heap_setCell _ _ _ _ (hg2 c hc), Below.heap_setCell _ _ _ _ (hg2 c hc)]
    · rw [Below.heap_setCell _ _ _ _ (hg2 c hc), Below.heap_setCell _ _ _ _ (hg2 c hc), Below.heap_setCell _ _ _ _ (hg2 c hc)]
  · exact (((hb0.trans (hb.mono (by omega))).setCell hBg _).setCell hBg _).setCell hBg _
  · have := hb.size; simp; omega

/-- The whole row filled: a slice of the call's own. -/
theorem Filled.slice {α : Type} {n : Nat} {R : Rel α} {C base : Nat} {w : World} {L : List Value} {xs : List α} {bs : List Nat} {e : TypeId} {g cap : Nat} (h : Filled n R C w L xs xs.length bs)
    (hown : w.ownsRow base e n (.slice (some ⟨g, 0, none⟩) xs.length cap) xs.length L) (hg : g ∉ bs) :
    ∃ b2, sliceK n R w [.slice (some ⟨g, 0, none⟩) xs.length cap] xs b2 ∧ b2.Nodup ∧ (∀ b ∈ b2, (b = g ∧ base ≤ g) ∨ b ∈ bs) ∧ (∀ b ∈ b2, ∃ cur e, w.heap[b]? = some (.cells cur e (0, 0))) := by
  obtain ⟨h1, G, hbs, h2⟩ := h
  have hform : base ≤ g ∧ (∃ cur, w.heap[g]? = some (.cells cur e (0, 0))) ∧ xs.length ≤ cap ∧ cap ≤ maxLen := by
    rcases hown.2 with ⟨hv, _⟩ | ⟨g', cap', cur, hv, hb, hh, hc1, hc2, _⟩
    · simp at hv
    · simp only [Value.slice.injEq, Option.some.injEq, Addr.mk.injEq, and_true, true_and] at hv
      obtain ⟨rfl, rfl⟩ := hv
      exact ⟨hb, ⟨cur, hh⟩, hc1, hc2⟩
  obtain ⟨hbase, ⟨cur, hcur⟩, hc1, hc2⟩ := hform
  by_cases hne : xs = []
  · subst hne
    exact ⟨[], ⟨_, cap, rfl, hc1, hc2, fun _ => rfl, fun h => absurd rfl h⟩, List.nodup_nil, fun b hb => by simp at hb, fun b hb => by simp at hb⟩
  · refine ⟨g :: bs, ⟨_, cap, rfl, hc1, hc2, fun h => absurd h hne, fun _ => ⟨g, 0, rfl, fun k => (L.drop (k * n)).take n, G, by rw [hbs], fun k x hx => ?_⟩⟩, List.nodup_cons.2 ⟨hg, h1.nodup⟩, ?_, ?_⟩
    · obtain ⟨hkl, rfl⟩ := List.getElem?_eq_some_iff.1 hx
      have hmul : k * n + n ≤ xs.length * n := by
        have := Nat.mul_le_mul_right n (show k + 1 ≤ xs.length by omega)
        rw [Nat.add_mul, Nat.one_mul] at this; exact this
      have hlen := hown.1
      refine ⟨by simp; omega, fun j v hv => ?_, h2 k hkl hkl⟩
      have hjn : j < n := by
        have := (List.getElem?_eq_some_iff.1 hv).1
        simp at this; omega
      rw [List.getElem?_take_of_lt hjn, List.getElem?_drop] at hv
      rw [Nat.zero_add, hown.cellAt (k * n + j) (by omega)]
      exact hv
    · intro b hb
      rcases List.mem_cons.1 hb with rfl | hb
      · exact .inl ⟨rfl, hbase⟩
      · exact .inr hb
    · intro b hb
      rcases List.mem_cons.1 hb with rfl | hb
      · exact ⟨cur, e, hcur⟩
      · exact (h1.own b hb).2

/-! How much a datum holds. -/
def bulkTs (ts : List T) : Nat := (ts.map (fun t => t.name.size)).sum
def bulkA (a : A) : Nat := a.name.size + a.args.length + bulkTs a.args
theorem bulkTs_snoc (ts : List T) (k : Nat) (h : k < ts.length) : bulkTs (ts.take (k + 1)) = bulkTs (ts.take k) + ts[k].name.size := by
  unfold bulkTs; rw [List.take_succ_eq_append_getElem h, List.map_append, List.sum_append]; simp

end Go.Proofs.Ytbppnelbjklpeaa.D
