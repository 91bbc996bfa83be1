/- Of the proof of FnExactProofNeeds: Kind. -/
import Derived.Deep.AppendLies
import Derived.Lib.IndexBytes
import Derived.Deep.Fields
import Derived.Lib.Hide
import Derived.Laws.EntriesVeiled
import Derived.Deep.RegionHeld3
import Derived.BigQuiet
import Derived.Deep.DrawnRows
import Derived.WalkSpells
import Derived.WalkLawsBesides
import Derived.Laws.CopyOwn
import Derived.OwnWalkIn
namespace Go.Proofs.Ytlmngncogomgeaa.D
open Go.RowKit
/-- A small letter or a figure. -/
def low (c : UInt8) : Bool := (97 ≤ c && c ≤ 122) || (48 ≤ c && c ≤ 57)

def lows (l : List UInt8) : Bool := l.all low

/-- A name is ok. -/
def nameOk (s : ByteArray) : Bool := decide (1 ≤ s.size) && decide (s.size ≤ 8) && lows s.data.toList && !(s.toList == [110, 111, 116])

def big (c : UInt8) : Bool := 65 ≤ c && c ≤ 90

/-- A text begins with a capital letter. -/
def capB (s : ByteArray) : Bool := decide (0 < s.size) && big (s.data.toList.headD 0)

/-- A text is the name of a variable. -/
def varOk (s : ByteArray) : Bool := decide (s.size ≤ 8) && capB s && lows s.data.toList.tail

theorem ret_int {k : IntKind} {a b : Int} (h : a = b) : Ending.returned (.int k a) = .returned (.int k b) := by rw [h]

theorem ret_str {a b : ByteArray} (h : a = b) : Ending.returned (.string a) = .returned (.string b) := by rw [h]

end Go.Proofs.Ytlmngncogomgeaa.D
namespace Go.Proofs.Ytlmngncogomgeaa.D
open Go.RowKit
structure T where
  var : Bool
  name : ByteArray

structure A where
  name : ByteArray
  args : List T

structure Pt where
  no : Bool
  atom : A

structure Ru where
  head : A
  body : List Pt

structure Ch where
  comes : List A
  goes : List A

/-- A term is ok. -/
def termOk (t : T) : Bool := if t.var then varOk t.name else nameOk t.name

/-- An atom is ok. -/
def atomOk (a : A) : Bool := nameOk a.name && decide (a.args.length ≤ 3) && a.args.all termOk

/-- How cells read as a datum, and which blocks are met on the way. -/
abbrev Rel (α : Type) := World → List Value → α → List Nat → Prop

/-- A reading hangs on the blocks that it meets alone; these are there. -/
structure Good {α : Type} (R : Rel α) : Prop where
  keep : ∀ {w w' : World} {cs : List Value} {x : α} {bs : List Nat}, R w cs x bs → (∀ b ∈ bs, w'.heap[b]? = w.heap[b]?) → R w' cs x bs
  lt : ∀ {w : World} {cs : List Value} {x : α} {bs : List Nat}, R w cs x bs → ∀ b ∈ bs, b < w.heap.size

theorem Good.below {α : Type} {R : Rel α} (g : Good R) {w w' : World} {cs : List Value} {x : α} {bs : List Nat} (h : R w cs x bs) (hb : Below w.heap.size w w') : R w' cs x bs :=
  g.keep h fun b hbs => hb.block b (g.lt h b hbs)

theorem lt_of_cell {w : World} {p : Addr} {v : Value} (h : w.cell? p = some v) : p.block < w.heap.size := by
  rcases Nat.lt_or_ge p.block w.heap.size with h' | h'
  · exact h'
  · simp [World.cell?, Array.getElem?_eq_none h'] at h

def termK : Rel T := fun _ cs t bs => cs = [.bool t.var, .string t.name] ∧ t.name.size ≤ maxLen ∧ bs = []

/-- A slice of elements of n cells each. -/
def sliceK {α : Type} (n : Nat) (R : Rel α) : Rel (List α) := fun w cs xs bs =>
  ∃ Ad cap, cs = [.slice Ad xs.length cap] ∧ xs.length ≤ cap ∧ cap ≤ maxLen ∧ (xs = [] → bs = []) ∧
    (xs ≠ [] → ∃ b o, Ad = some ⟨b, o, none⟩ ∧ ∃ (F : Nat → List Value) (G : Nat → List Nat), bs = b :: (List.range xs.length).flatMap G ∧
      ∀ k x, xs[k]? = some x → (F k).length = n ∧ (∀ j v, (F k)[j]? = some v → w.cell? ⟨b, o + (k * n + j), none⟩ = some v) ∧ R w (F k) x (G k))

theorem termK_good : Good termK := ⟨fun h _ => h, fun h b hb => by obtain ⟨_, _, rfl⟩ := h; simp at hb⟩

theorem sliceK_good {α : Type} {n : Nat} {R : Rel α} (g : Good R) (hn : 0 < n) : Good (sliceK n R) := by
  refine ⟨fun {w w' cs x bs} h hk => ?_, fun {w cs x bs} h c hc => ?_⟩
  · obtain ⟨Ad, cap, rfl, hl, hm, h0, h1⟩ := h
    refine ⟨Ad, cap, rfl, hl, hm, h0, fun hne => ?_⟩
    obtain ⟨b, o, rfl, F, G, rfl, hF⟩ := h1 hne
    refine ⟨b, o, rfl, F, G, rfl, fun k y hy => ?_⟩
    obtain ⟨a1, a2, a3⟩ := hF k y hy
    refine ⟨a1, fun j v hv => ?_, g.keep a3 fun c hc => hk c ?_⟩
    · rw [World.cell?_of_block (w := w) (hk b (by simp))]; exact a2 j v hv
    · have hkl : k < x.length := (List.getElem?_eq_some_iff.1 hy).1
      exact List.mem_cons_of_mem _ (List.mem_flatMap.2 ⟨k, List.mem_range.2 hkl, hc⟩)
  · obtain ⟨Ad, cap, rfl, hl, hm, h0, h1⟩ := h
    by_cases hne : x = []
    · rw [h0 hne] at hc; simp at hc
    · obtain ⟨b, o, rfl, F, G, rfl, hF⟩ := h1 hne
      rcases List.mem_cons.1 hc with rfl | hc
      · match x, hne with
        | y :: r, _ =>
          obtain ⟨a1, a2, _⟩ := hF 0 y rfl
          have : ∃ v, (F 0)[0]? = some v := ⟨_, List.getElem?_eq_getElem (by omega)⟩
          obtain ⟨v, hv⟩ := this
          exact lt_of_cell (a2 0 v hv)
      · obtain ⟨k, hk, hck⟩ := List.mem_flatMap.1 hc
        have hk' := List.mem_range.1 hk
        obtain ⟨_, _, a3⟩ := hF k x[k] (List.getElem?_eq_getElem hk')
        exact g.lt a3 c hck

def termsK : Rel (List T) := sliceK 2 termK

def atomK : Rel A := fun w cs a bs => ∃ s, cs = [.string a.name, s] ∧ a.name.size ≤ maxLen ∧ termsK w [s] a.args bs

def atomsK : Rel (List A) := sliceK 2 atomK

def partK : Rel Pt := fun w cs p bs => ∃ s, cs = [.bool p.no, .string p.atom.name, s] ∧ p.atom.name.size ≤ maxLen ∧ termsK w [s] p.atom.args bs

def partsK : Rel (List Pt) := sliceK 3 partK

def ruleK : Rel Ru := fun w cs r bs => ∃ s b bs1 bs2, cs = [.string r.head.name, s, b] ∧ r.head.name.size ≤ maxLen ∧ bs = bs1 ++ bs2 ∧ termsK w [s] r.head.args bs1 ∧ partsK w [b] r.body bs2

def changeK : Rel Ch := fun w cs c bs => ∃ s b bs1 bs2, cs = [s, b] ∧ bs = bs1 ++ bs2 ∧ atomsK w [s] c.comes bs1 ∧ atomsK w [b] c.goes bs2

theorem termsK_good : Good termsK := sliceK_good termK_good (by omega)

theorem atomK_good : Good atomK :=
  ⟨fun h hk => by obtain ⟨s, h1, h2, h3⟩ := h; exact ⟨s, h1, h2, termsK_good.keep h3 hk⟩, fun h => by obtain ⟨s, h1, h2, h3⟩ := h; exact termsK_good.lt h3⟩

theorem atomsK_good : Good atomsK := sliceK_good atomK_good (by omega)

theorem pair_good {α β : Type} {R : Rel α} {S : Rel β} (gR : Good R) (gS : Good S) {w w' : World} {c d : List Value} {x : α} {y : β} {b1 b2 : List Nat} (h1 : R w c x b1) (h2 : S w d y b2)
    (hk : ∀ b ∈ b1 ++ b2, w'.heap[b]? = w.heap[b]?) : R w' c x b1 ∧ S w' d y b2 :=
  ⟨gR.keep h1 fun b hb => hk b (List.mem_append_left _ hb), gS.keep h2 fun b hb => hk b (List.mem_append_right _ hb)⟩

theorem pair_lt {α β : Type} {R : Rel α} {S : Rel β} (gR : Good R) (gS : Good S) {w : World} {c d : List Value} {x : α} {y : β} {b1 b2 : List Nat} (h1 : R w c x b1) (h2 : S w d y b2) : ∀ b ∈ b1 ++ b2, b < w.heap.size :=
  fun b hb => (List.mem_append.1 hb).elim (gR.lt h1 b) (gS.lt h2 b)

/-- The element at a place. -/
theorem sliceK_at {α : Type} {n : Nat} {R : Rel α} {w : World} {Ad : Option Addr} {len cap : Nat} {xs : List α} {bs : List Nat} (h : sliceK n R w [.slice Ad len cap] xs bs) {k : Nat} (hk : k < xs.length) :
    ∃ b o cs bk, Ad = some ⟨b, o, none⟩ ∧ b ∈ bs ∧ cs.length = n ∧ (∀ j v, cs[j]? = some v → w.cell? ⟨b, o + (k * n + j), none⟩ = some v) ∧ R w cs xs[k] bk ∧ (∀ c ∈ bk, c ∈ bs) := by
  obtain ⟨Ad', cap', hcs, hl, hm, h0, h1⟩ := h
  simp only [List.cons.injEq, Value.slice.injEq, and_true] at hcs
  obtain ⟨rfl, rfl, rfl⟩ := hcs
  obtain ⟨b, o, rfl, F, G, rfl, hF⟩ := h1 (by intro e; subst e; simp at hk)
  obtain ⟨a1, a2, a3⟩ := hF k _ (List.getElem?_eq_getElem hk)
  exact ⟨b, o, F k, G k, rfl, by simp, a1, a2, a3, fun c hc => List.mem_cons_of_mem _ (List.mem_flatMap.2 ⟨k, List.mem_range.2 hk, hc⟩)⟩

theorem sliceK_form {α : Type} {n : Nat} {R : Rel α} {w : World} {v : Value} {xs : List α} {bs : List Nat} (h : sliceK n R w [v] xs bs) :
    ∃ Ad cap, v = .slice Ad xs.length cap ∧ xs.length ≤ cap ∧ cap ≤ maxLen := by
  obtain ⟨Ad, cap, hcs, hl, hm, _⟩ := h
  exact ⟨Ad, cap, by simpa using hcs, hl, hm⟩

/-! The cells of an element, spelled as a walk spells them. -/

section
variable {w : World} {Ad : Option Addr} {len cap : Nat} {bs : List Nat} {k : Nat}
theorem terms_at {xs : List T} (h : termsK w [.slice Ad len cap] xs bs) (hk : k < xs.length) :
    ∃ b o, Ad = some ⟨b, o, none⟩ ∧ b ∈ bs ∧ w.cell? ⟨b, o + k * 2, none⟩ = some (.bool xs[k].var) ∧ w.cell? ⟨b, o + k * 2 + 1, none⟩ = some (.string xs[k].name) ∧ xs[k].name.size ≤ maxLen := by
  obtain ⟨b, o, cs, bk, rfl, hb, hcs, hcell, ⟨rfl, hnm, _⟩, _⟩ := sliceK_at h hk
  exact ⟨b, o, rfl, hb, by simpa using hcell 0 _ rfl, by simpa [Nat.add_assoc] using hcell 1 _ rfl, hnm⟩

theorem atoms_at {xs : List A} (h : atomsK w [.slice Ad len cap] xs bs) (hk : k < xs.length) :
    ∃ b o s bk, Ad = some ⟨b, o, none⟩ ∧ b ∈ bs ∧ w.cell? ⟨b, o + k * 2, none⟩ = some (.string xs[k].name) ∧ w.cell? ⟨b, o + k * 2 + 1, none⟩ = some s ∧ xs[k].name.size ≤ maxLen ∧ termsK w [s] xs[k].args bk ∧ ∀ c ∈ bk, c ∈ bs := by
  obtain ⟨b, o, cs, bk, rfl, hb, hcs, hcell, ⟨s, rfl, hnm, ht⟩, hbk⟩ := sliceK_at h hk
  exact ⟨b, o, s, bk, rfl, hb, by simpa using hcell 0 _ rfl, by simpa [Nat.add_assoc] using hcell 1 _ rfl, hnm, ht, hbk⟩

end
def byteK : Rel UInt8 := fun _ cs c bs => cs = [.int .u8 c.toNat] ∧ bs = []

/-- The blocks are all different, from B on, and may be written. -/
structure New (B : Nat) (w : World) (bs : List Nat) : Prop where
  nodup : bs.Nodup
  own : ∀ b ∈ bs, B ≤ b ∧ ∃ cur e, w.heap[b]? = some (.cells cur e (0, 0))

theorem New.nil (B : Nat) (w : World) : New B w [] := ⟨List.nodup_nil, fun b hb => by simp at hb⟩

theorem New.lt {B : Nat} {w : World} {bs : List Nat} (h : New B w bs) {b : Nat} (hb : b ∈ bs) : b < w.heap.size := by
  obtain ⟨_, cur, e, he⟩ := h.own b hb
  exact lt_of_block he

theorem New.keep {B : Nat} {w w' : World} {bs : List Nat} (h : New B w bs) (hk : ∀ b ∈ bs, w'.heap[b]? = w.heap[b]?) : New B w' bs :=
  ⟨h.nodup, fun b hb => ⟨(h.own b hb).1, by rw [hk b hb]; exact (h.own b hb).2⟩⟩

theorem New.below {B : Nat} {w w' : World} {bs : List Nat} (h : New B w bs) (hb : Below w.heap.size w w') : New B w' bs :=
  h.keep fun b hbs => hb.block b (h.lt hbs)

theorem New.mono {B B' : Nat} {w : World} {bs : List Nat} (h : New B w bs) (hB : B' ≤ B) : New B' w bs := ⟨h.nodup, fun b hb => ⟨Nat.le_trans hB (h.own b hb).1, (h.own b hb).2⟩⟩

theorem New.append {B C : Nat} {w : World} {b1 b2 : List Nat} (h1 : New B w b1) (h2 : New C w b2) (hBC : B ≤ C) (hlt : ∀ b ∈ b1, b < C) : New B w (b1 ++ b2) := by
  refine ⟨List.nodup_append.2 ⟨h1.nodup, h2.nodup, fun a ha b hb e => ?_⟩, fun b hb => ?_⟩
  · subst e; have := hlt a ha; have := (h2.own a hb).1; omega
  · rcases List.mem_append.1 hb with hb | hb
    · exact h1.own b hb
    · exact ⟨Nat.le_trans hBC (h2.own b hb).1, (h2.own b hb).2⟩

theorem own_below {w w' : World} {base e size n : Nat} {v : Value} {L : List Value} (h : w.ownsRow base e size v n L) (hb : Below w.heap.size w w') : w'.ownsRow base e size v n L := by
  refine ⟨h.1, h.2.imp id ?_⟩
  rintro ⟨g, cap, cur, hv, hg, hh, r⟩
  exact ⟨g, cap, cur, hv, hg, by rw [hb.block g (lt_of_block hh)]; exact hh, r⟩

theorem own_slot {w : World} {base e size n g cap : Nat} {L : List Value} (h : w.ownsRow base e size (.slice (some ⟨g, 0, none⟩) n cap) n L) {j : Nat} (hj : j < n * size) :
    (∃ u, w.cell? ⟨g, j, none⟩ = some u) ∧ w.frozen? ⟨g, j, none⟩ = false :=
  ⟨⟨_, (h.cellAt j hj).trans (List.getElem?_eq_getElem (by have := h.1; omega))⟩, h.frozenAt j⟩

/-- The row L holds the first k of xs, elements of n cells each; what they lead to lies in new blocks from C on. -/
structure Filled {α : Type} (n : Nat) (R : Rel α) (C : Nat) (w : World) (L : List Value) (xs : List α) (k : Nat) (bs : List Nat) : Prop where
  new : New C w bs
  at_ : ∃ G : Nat → List Nat, bs = (List.range k).flatMap G ∧ ∀ j (h : j < xs.length), j < k → R w ((L.drop (j * n)).take n) xs[j] (G j)

theorem Filled.start {α : Type} {n : Nat} {R : Rel α} {C : Nat} {w : World} {L : List Value} {xs : List α} : Filled n R C w L xs 0 [] :=
  ⟨New.nil _ _, fun _ => [], rfl, fun j _ hj => by omega⟩

theorem Filled.keep {α : Type} {n : Nat} {R : Rel α} (g : Good R) {C : Nat} {w w' : World} {L : List Value} {xs : List α} {k : Nat} {bs : List Nat} (h : Filled n R C w L xs k bs)
    (hk : ∀ b ∈ bs, w'.heap[b]? = w.heap[b]?) : Filled n R C w' L xs k bs := by
  obtain ⟨h1, G, rfl, h2⟩ := h
  exact ⟨h1.keep hk, G, rfl, fun j hj hjk => g.keep (h2 j hj hjk) fun b hb => hk b (List.mem_flatMap.2 ⟨j, List.mem_range.2 hjk, hb⟩)⟩

/-- One element more: the cells of element k are set to cs. -/
theorem Filled.step {α : Type} {n : Nat} {R : Rel α} {C : Nat} {w : World} {L L' : List Value} {xs : List α} {k : Nat} {bs b2 : List Nat} {cs : List Value} (h : Filled n R C w L xs k bs)
    (hL : L'.take (k * n) = L.take (k * n)) (hcs : (L'.drop (k * n)).take n = cs) (hk : k < xs.length) (hR : R w cs xs[k] b2) (hC : ∃ D, C ≤ D ∧ New D w b2 ∧ ∀ b ∈ bs, b < D) : Filled n R C w L' xs (k + 1) (bs ++ b2) := by
  obtain ⟨h1, G, rfl, h2⟩ := h
  obtain ⟨D, hCD, h3, h4⟩ := hC
  refine ⟨h1.append h3 hCD h4, fun j => if j = k then b2 else G j, ?_, fun j hj hjk => ?_⟩
  · rw [List.range_succ, List.flatMap_append]
    simp only [List.flatMap_cons, List.flatMap_nil, if_true, List.append_nil]
    congr 1
    rw [List.flatMap_def, List.flatMap_def]
    congr 1
    exact List.map_congr_left fun j hj => by rw [if_neg (by have := List.mem_range.1 hj; omega)]
  · by_cases e : j = k
    · subst e
      show R w _ _ (if j = j then b2 else G j)
      rw [if_pos rfl, hcs]
      exact hR
    · show R w _ _ (if j = k then b2 else G j)
      rw [if_neg e]
      have hjk' : j < k := by omega
      have hmul : j * n + n ≤ k * n := by
        have := Nat.mul_le_mul_right n (show j + 1 ≤ k by omega)
        rw [Nat.add_mul, Nat.one_mul] at this; exact this
      have key : ∀ M : List Value, (M.drop (j * n)).take n = ((M.take (k * n)).drop (j * n)).take n := by
        intro M
        rw [List.drop_take, List.take_take, Nat.min_eq_left (by omega)]
      rw [key L', hL, ← key L]
      exact h2 j hj hjk'

theorem set2 {L : List Value} {k m : Nat} (hL : L.length = m * 2) (hk : k < m) (a b : Value) :
    (((L.set (k * 2) a).set (k * 2 + 1) b).take (k * 2) = L.take (k * 2)) ∧ (((L.set (k * 2) a).set (k * 2 + 1) b).drop (k * 2)).take 2 = [a, b] := by
  constructor
  · rw [List.take_set_of_le (by omega), List.take_set_of_le (by omega)]
  · refine List.ext_getElem? fun j => ?_
    rcases j with _ | _ | j
    · simp [List.getElem?_set, List.getElem?_drop]; omega
    · simp [List.getElem?_set, List.getElem?_drop]; omega
    · simp; omega

theorem own_store2 {w : World} {base e n g cap k : Nat} {L : List Value} (h : w.ownsRow base e 2 (.slice (some ⟨g, 0, none⟩) n cap) n L) (a b : Value) :
    ((w.setCell ⟨g, k * 2, none⟩ a).setCell ⟨g, k * 2 + 1, none⟩ b).ownsRow base e 2 (.slice (some ⟨g, 0, none⟩) n cap) n ((L.set (k * 2) a).set (k * 2 + 1) b) :=
  ((h.stored _ _).1.stored _ _).1

/-- One round of a filling loop: element k, two cells, is stored into the row g. -/
theorem fill2 {α : Type} {R : Rel α} (gR : Good R) {w0 wr w1 : World} {base B e g cap C k : Nat} {L : List Value} {xs : List α} {bs b2 : List Nat} {a b : Value}
    (how : wr.ownsRow base e 2 (.slice (some ⟨g, 0, none⟩) xs.length cap) xs.length L) (hF : Filled 2 R C wr L xs k bs) (hk : k < xs.length)
    (hb0 : Below B w0 wr) (hb : Below wr.heap.size wr w1) (hgC : g < C) (hBg : B ≤ g) (hC : C ≤ wr.heap.size) (hR : R w1 [a, b] xs[k] b2) (hN : New wr.heap.size w1 b2) :
    ((w1.setCell ⟨g, k * 2, none⟩ a).setCell ⟨g, k * 2 + 1, none⟩ b).ownsRow base e 2 (.slice (some ⟨g, 0, none⟩) xs.length cap) xs.length ((L.set (k * 2) a).set (k * 2 + 1) b) ∧
    Filled 2 R C ((w1.setCell ⟨g, k * 2, none⟩ a).setCell ⟨g, k * 2 + 1, none⟩ b) ((L.set (k * 2) a).set (k * 2 + 1) b) xs (k + 1) (bs ++ b2) ∧
    Below B w0 ((w1.setCell ⟨g, k * 2, none⟩ a).setCell ⟨g, k * 2 + 1, none⟩ b) ∧ C ≤ ((w1.setCell ⟨g, k * 2, none⟩ a).setCell ⟨g, k * 2 + 1, none⟩ b).heap.size := by
  have hlt : ∀ c ∈ bs, c < wr.heap.size := fun c hc => hF.new.lt hc
  have hgs : ∀ c ∈ bs, c ≠ g := fun c hc e => by have := (hF.new.own c hc).1; omega
  have hg2 : ∀ c ∈ b2, c ≠ g := fun c hc e => by have := (hN.own c hc).1; omega
  have hs := set2 how.1 hk a b
  refine ⟨own_store2 (own_below how hb) a b, ?_, ?_, ?_⟩
  · refine Filled.step (hF.keep gR fun c hc => ?_) hs.1 hs.2 hk (gR.keep hR fun c hc => ?_) ⟨wr.heap.size, hC, hN.keep fun c hc => ?_, hlt⟩
    · rw [Below.heap_setCell _ _ _ _ (hgs c hc), Below.heap_setCell _ _ _ _ (hgs c hc), hb.block c (hlt c hc)]
    · rw [Below.heap_setCell _ _ _ _ (hg2 c hc), Below.heap_setCell _ _ _ _ (hg2 c hc)]
    · rw [Below.heap_setCell _ _ _ _ (hg2 c hc), Below.heap_setCell _ _ _ _ (hg2 c hc)]
  · exact ((hb0.trans (hb.mono (by omega))).setCell hBg _).setCell hBg _
  · have := hb.size; simp; omega

/-- The whole row filled: a slice of the call's own. -/
theorem Filled.slice {α : Type} {n : Nat} {R : Rel α} {C base : Nat} {w : World} {L : List Value} {xs : List α} {bs : List Nat} {e : TypeId} {g cap : Nat} (h : Filled n R C w L xs xs.length bs)
    (hown : w.ownsRow base e n (.slice (some ⟨g, 0, none⟩) xs.length cap) xs.length L) (hg : g ∉ bs) :
    ∃ b2, sliceK n R w [.slice (some ⟨g, 0, none⟩) xs.length cap] xs b2 ∧ b2.Nodup ∧ (∀ b ∈ b2, (b = g ∧ base ≤ g) ∨ b ∈ bs) ∧ (∀ b ∈ b2, ∃ cur e, w.heap[b]? = some (.cells cur e (0, 0))) := by
  obtain ⟨h1, G, hbs, h2⟩ := h
  have hform : base ≤ g ∧ (∃ cur, w.heap[g]? = some (.cells cur e (0, 0))) ∧ xs.length ≤ cap ∧ cap ≤ maxLen := by
    rcases hown.2 with ⟨hv, _⟩ | ⟨g', cap', cur, hv, hb, hh, hc1, hc2, _⟩
    · simp at hv
    · simp only [Value.slice.injEq, Option.some.injEq, Addr.mk.injEq, and_true, true_and] at hv
      obtain ⟨rfl, rfl⟩ := hv
      exact ⟨hb, ⟨cur, hh⟩, hc1, hc2⟩
  obtain ⟨hbase, ⟨cur, hcur⟩, hc1, hc2⟩ := hform
  by_cases hne : xs = []
  · subst hne
    exact ⟨[], ⟨_, cap, rfl, hc1, hc2, fun _ => rfl, fun h => absurd rfl h⟩, List.nodup_nil, fun b hb => by simp at hb, fun b hb => by simp at hb⟩
  · refine ⟨g :: bs, ⟨_, cap, rfl, hc1, hc2, fun h => absurd h hne, fun _ => ⟨g, 0, rfl, fun k => (L.drop (k * n)).take n, G, by rw [hbs], fun k x hx => ?_⟩⟩, List.nodup_cons.2 ⟨hg, h1.nodup⟩, ?_, ?_⟩
    · obtain ⟨hkl, rfl⟩ := List.getElem?_eq_some_iff.1 hx
      have hmul : k * n + n ≤ xs.length * n := by
        have := Nat.mul_le_mul_right n (show k + 1 ≤ xs.length by omega)
        rw [Nat.add_mul, Nat.one_mul] at this; exact this
      have hlen := hown.1
      refine ⟨by simp; omega, fun j v hv => ?_, h2 k hkl hkl⟩
      have hjn : j < n := by
        have := (List.getElem?_eq_some_iff.1 hv).1
        simp at this; omega
      rw [List.getElem?_take_of_lt hjn, List.getElem?_drop] at hv
      rw [Nat.zero_add, hown.cellAt (k * n + j) (by omega)]
      exact hv
    · intro b hb
      rcases List.mem_cons.1 hb with rfl | hb
      · exact .inl ⟨rfl, hbase⟩
      · exact .inr hb
    · intro b hb
      rcases List.mem_cons.1 hb with rfl | hb
      · exact ⟨cur, e, hcur⟩
      · exact (h1.own b hb).2

/-! How much a datum holds. -/

def bulkTs (ts : List T) : Nat := (ts.map (fun t => t.name.size)).sum

def bulkA (a : A) : Nat := a.name.size + a.args.length + bulkTs a.args

theorem bulkTs_snoc (ts : List T) (k : Nat) (h : k < ts.length) : bulkTs (ts.take (k + 1)) = bulkTs (ts.take k) + ts[k].name.size := by
  unfold bulkTs; rw [List.take_succ_eq_append_getElem h, List.map_append, List.sum_append]; simp

end Go.Proofs.Ytlmngncogomgeaa.D
namespace Go.Proofs.Ytlmngncogomgeaa.D
open Go.RowKit
def sumL {α : Type} (f : α → Nat) (xs : List α) : Nat := (xs.map f).sum

theorem sumL_snoc {α : Type} (f : α → Nat) (xs : List α) (k : Nat) (h : k < xs.length) : sumL f (xs.take (k + 1)) = sumL f (xs.take k) + f xs[k] := by
  unfold sumL; rw [List.take_succ_eq_append_getElem h, List.map_append, List.sum_append]; simp

theorem sumL_take {α : Type} (f : α → Nat) (xs : List α) (k : Nat) : sumL f (xs.take k) ≤ sumL f xs := by
  have h : sumL f xs = sumL f (xs.take k) + sumL f (xs.drop k) := by
    conv => lhs; rw [← List.take_append_drop k xs]
    unfold sumL
    rw [List.map_append, List.sum_append]
  omega

theorem sumL_at {α : Type} (f : α → Nat) (xs : List α) (k : Nat) (h : k < xs.length) : f xs[k] ≤ sumL f xs := by
  have := sumL_snoc f xs k h
  have := sumL_take f xs (k + 1)
  omega

section
variable {w : World} {Ad : Option Addr} {len cap : Nat} {bs : List Nat} {k : Nat}
theorem atoms_el {xs : List A} (h : atomsK w [.slice Ad len cap] xs bs) (hk : k < xs.length) :
    ∃ b o Ae ce bk, Ad = some ⟨b, o, none⟩ ∧ b ∈ bs ∧ w.cell? ⟨b, o + k * 2, none⟩ = some (.string xs[k].name) ∧ w.cell? ⟨b, o + k * 2 + 1, none⟩ = some (.slice Ae xs[k].args.length ce) ∧
      atomK w [.string xs[k].name, .slice Ae xs[k].args.length ce] xs[k] bk ∧ ∀ c ∈ bk, c ∈ bs := by
  obtain ⟨b, o, s, bk, rfl, hb, h0, h1, hnm, ht, hbk⟩ := atoms_at h hk
  obtain ⟨Ae, ce, rfl, _⟩ := sliceK_form ht
  exact ⟨b, o, Ae, ce, bk, rfl, hb, h0, h1, ⟨_, rfl, hnm, ht⟩, hbk⟩

end
end Go.Proofs.Ytlmngncogomgeaa.D
namespace Go.Proofs.Ytlmngncogomgeaa
open Go.RowKit D
set_option linter.unusedVariables false
theorem nat_ge_max {n : Nat} (h : n ≤ maxLen) : (n : Int) ≤ 9223372036854775807 := by unfold maxLen at h; omega

/-- What a measuring function answers: -1, or what is left. -/
def Left (left bulk : Int) (B : Nat) (w : World) (e : Ending) (w' : World) : Prop := Below B w w' ∧ ∃ r : Int, e = .returned (.int .i64 r) ∧ (r = -1 ∨ (0 ≤ r ∧ r + bulk = left))

/-- What a function that makes memory leaves: the value reads as x, in new blocks from B on; below B all is as it was. -/
def Makes {α : Type} (R : Rel α) (x : α) (B : Nat) (w : World) (e : Ending) (w' : World) : Prop := Below B w w' ∧ ∃ v bs, e = .returned v ∧ R w' [v] x bs ∧ New B w' bs

def MakesA {α : Type} (R : Rel α) (x : α) (B : Nat) (w : World) (e : Ending) (w' : World) : Prop := Below B w w' ∧ ∃ cs bs, e = .returned (.agg cs) ∧ R w' cs.toList x bs ∧ New B w' bs

/-- It answers yes, and nothing below B has turned. -/
def Yes (B : Nat) (w : World) (e : Ending) (w' : World) : Prop := e = .returned (.bool true) ∧ Below B w w'

theorem atom_cells {w : World} {cs : Array Value} {a : A} {bs : List Nat} (h : atomK w cs.toList a bs) : ∃ Ad cap, cs = #[.string a.name, .slice Ad a.args.length cap] := by
  obtain ⟨s, hcs, _, ht⟩ := h
  obtain ⟨Ad, cap, rfl, _⟩ := sliceK_form ht
  exact ⟨Ad, cap, Array.toList_inj.1 hcs⟩

theorem atom_args {w : World} {c0 c1 : Value} {a : A} {bs : List Nat} (h : atomK w [c0, c1] a bs) : termsK w [c1] a.args bs := by
  obtain ⟨s, hcs, _, ht⟩ := h
  simp only [List.cons.injEq, and_true] at hcs
  rw [hcs.2]; exact ht

theorem atom_cells2 {w : World} {c0 c1 : Value} {a : A} {bs : List Nat} (h : atomK w [c0, c1] a bs) : ∃ Ad cap, c0 = .string a.name ∧ c1 = .slice Ad a.args.length cap := by
  obtain ⟨s, hcs, _, ht⟩ := h
  obtain ⟨Ad, cap, rfl, _⟩ := sliceK_form ht
  simp only [List.cons.injEq, and_true] at hcs
  exact ⟨Ad, cap, hcs⟩

end Go.Proofs.Ytlmngncogomgeaa
namespace Go.Proofs.Ytlmngncogomgeaa.D
/-- A way to compare: total, by -1, 0 and 1. -/
structure IsCmp {α : Type} (c : α → α → Int) : Prop where
  eq : ∀ a b, c a b = 0 ↔ a = b
  vals : ∀ a b, c a b = -1 ∨ c a b = 0 ∨ c a b = 1
  anti : ∀ a b, c b a = - c a b
  trans : ∀ a b d, c a b ≤ 0 → c b d ≤ 0 → c a d ≤ 0

theorem IsCmp.lt_of_lt_le {α : Type} {c : α → α → Int} (h : IsCmp c) {a b d : α} (h1 : c a b < 0) (h2 : c b d ≤ 0) : c a d < 0 := by
  have h3 := h.trans a b d (by omega) h2
  rcases Int.lt_or_eq_of_le h3 with h4 | h4
  · exact h4
  · have := (h.eq a d).1 h4
    subst this
    have := h.anti a b
    omega

/-- Item by item, then by how many. -/
def lexL {α : Type} (c : α → α → Int) : List α → List α → Int
  | [], [] => 0
  | [], _ :: _ => -1
  | _ :: _, [] => 1
  | a :: as, b :: bs => if c a b = 0 then lexL c as bs else c a b

theorem lexL_is {α : Type} {c : α → α → Int} (h : IsCmp c) : IsCmp (lexL c) := by
  refine ⟨fun l => ?_, fun l => ?_, fun l => ?_, fun l => ?_⟩
  · induction l with
    | nil => intro m; cases m <;> simp [lexL]
    | cons a as ih =>
      intro m
      cases m with
      | nil => simp [lexL]
      | cons b bs =>
        simp only [lexL]
        by_cases hc : c a b = 0
        · rw [if_pos hc, ih]
          have := (h.eq a b).1 hc
          subst this
          simp
        · rw [if_neg hc]
          have : a ≠ b := fun e => hc ((h.eq a b).2 e)
          simp [hc, this]
  · induction l with
    | nil => intro m; cases m <;> simp [lexL]
    | cons a as ih =>
      intro m
      cases m with
      | nil => simp [lexL]
      | cons b bs =>
        simp only [lexL]
        split
        · exact ih bs
        · exact h.vals a b
  · induction l with
    | nil => intro m; cases m <;> simp [lexL]
    | cons a as ih =>
      intro m
      cases m with
      | nil => simp [lexL]
      | cons b bs =>
        simp only [lexL]
        have ha := h.anti a b
        by_cases hc : c a b = 0
        · rw [if_pos hc, if_pos (by omega)]; exact ih bs
        · rw [if_neg hc, if_neg (by omega)]; exact ha
  · induction l with
    | nil =>
      intro m n h1 h2
      cases n with
      | nil => simp [lexL]
      | cons d ds => simp [lexL]
    | cons a as ih =>
      intro m n h1 h2
      cases m with
      | nil => simp [lexL] at h1
      | cons b bs =>
        cases n with
        | nil => simp [lexL] at h2
        | cons d ds =>
          simp only [lexL] at *
          by_cases hab : c a b = 0
          · have := (h.eq a b).1 hab
            subst this
            rw [if_pos hab] at h1
            by_cases hbd : c a d = 0
            · rw [if_pos hbd] at h2 ⊢
              exact ih bs ds h1 h2
            · rw [if_neg hbd] at h2 ⊢
              exact h2
          · rw [if_neg hab] at h1
            have h2' : c b d ≤ 0 := by
              by_cases hbd : c b d = 0
              · omega
              · rw [if_neg hbd] at h2; exact h2
            have h1' : c a b < 0 := by omega
            have := h.lt_of_lt_le h1' h2'
            rw [if_neg (by omega)]
            omega

def cmpU (a b : UInt8) : Int := if a < b then -1 else if b < a then 1 else 0

theorem cmpU_is : IsCmp cmpU := by
  refine ⟨fun a b => ?_, fun a b => ?_, fun a b => ?_, fun a b d => ?_⟩
  all_goals simp only [cmpU, UInt8.lt_iff_toNat_lt, ← UInt8.toNat_inj]
  · split <;> try split
    all_goals simp; omega
  · split <;> try split
    all_goals simp
  · by_cases h1 : a.toNat < b.toNat
    · simp [h1, show ¬ b.toNat < a.toNat by omega]
    · by_cases h2 : b.toNat < a.toNat
      · simp [h1, h2]
      · simp [h1, h2]
  · intro h1 h2
    have g1 : ¬ b.toNat < a.toNat := by
      intro g
      rw [if_neg (by omega), if_pos g] at h1
      omega
    have g2 : ¬ d.toNat < b.toNat := by
      intro g
      rw [if_neg (by omega), if_pos g] at h2
      omega
    split
    · omega
    · rw [if_neg (by omega)]; omega

theorem compareBytes_lex (l m : List UInt8) : Lib.compareBytes l m = lexL cmpU l m := by
  induction l generalizing m with
  | nil => cases m <;> rfl
  | cons a as ih =>
    cases m with
    | nil => rfl
    | cons b bs =>
      simp only [Lib.compareBytes, lexL, cmpU, ih]
      split
      · simp
      · split <;> simp

theorem less_lex (l m : List UInt8) : Op.bytesLess l m = true ↔ lexL cmpU l m < 0 := by
  induction l generalizing m with
  | nil => cases m <;> simp [Op.bytesLess, lexL]
  | cons a as ih =>
    cases m with
    | nil => simp [Op.bytesLess, lexL]
    | cons b bs =>
      simp only [Op.bytesLess, lexL, Bool.or_eq_true, Bool.and_eq_true, decide_eq_true_eq, beq_iff_eq, ih]
      have hv := cmpU_is.eq a b
      by_cases h0 : cmpU a b = 0
      · have := hv.1 h0
        subst this
        rw [if_pos h0]
        have : ¬ a < a := by rw [UInt8.lt_iff_toNat_lt]; omega
        simp [this]
      · rw [if_neg h0]
        have hne : a ≠ b := fun e => h0 (hv.2 e)
        unfold cmpU
        by_cases hl : a < b
        · simp [hl]
        · simp only [hl, hne, false_and, or_false, if_false, false_iff]
          split <;> omega

/-- How two texts stand to each other. -/
def cmpS (a b : ByteArray) : Int := lexL cmpU a.data.toList b.data.toList

theorem cmpS_is : IsCmp cmpS := by
  have h := lexL_is cmpU_is
  refine ⟨fun a b => ?_, fun a b => h.vals _ _, fun a b => h.anti _ _, fun a b d => h.trans _ _ _⟩
  unfold cmpS
  rw [h.eq]
  exact ⟨fun e => WideShapes.bytes_inj e, fun e => by rw [e]⟩

theorem less_cmpS (a b : ByteArray) : Op.bytesLess a.toList b.toList = decide (cmpS a b < 0) := by
  rw [ByteArray.toList_eq, ByteArray.toList_eq, Bool.eq_iff_iff, less_lex, decide_eq_true_eq]; rfl

theorem eq_cmpS (a b : ByteArray) : (a.toList == b.toList) = decide (cmpS a b = 0) := by
  rw [ByteArray.toList_eq, ByteArray.toList_eq, Bool.eq_iff_iff]
  simp only [beq_iff_eq, decide_eq_true_eq, cmpS_is.eq]
  exact ⟨fun e => WideShapes.bytes_inj e, fun e => by rw [e]⟩

theorem compare_cmpS (a b : ByteArray) : Lib.compareBytes a.data.toList b.data.toList = cmpS a b := compareBytes_lex _ _

/-- How two rows of terms stand to each other: by their names alone. -/
def cmpTs : List T → List T → Int
  | [], [] => 0
  | [], _ :: _ => -1
  | _ :: _, [] => 1
  | a :: as, b :: bs => if cmpS a.name b.name = 0 then cmpTs as bs else cmpS a.name b.name

theorem cmpTs_lex (l m : List T) : cmpTs l m = lexL cmpS (l.map (·.name)) (m.map (·.name)) := by
  induction l generalizing m with
  | nil => cases m <;> rfl
  | cons a as ih => cases m with
    | nil => rfl
    | cons b bs => simp only [cmpTs, List.map_cons, lexL, ih]

/-- How two atoms stand to each other. -/
def cmpA (a b : A) : Int := if cmpS a.name b.name = 0 then cmpTs a.args b.args else cmpS a.name b.name

/-- What the order of atoms looks at. -/
def keyA (a : A) : List ByteArray := a.name :: a.args.map (·.name)

theorem cmpA_lex (a b : A) : cmpA a b = lexL cmpS (keyA a) (keyA b) := by
  unfold cmpA keyA
  simp only [lexL, cmpTs_lex]

end Go.Proofs.Ytlmngncogomgeaa.D
namespace Go.Proofs.Ytlmngncogomgeaa
open Go.RowKit D
set_option linter.unusedVariables false
namespace D
section
def anyVar (ts : List T) : Bool := ts.any (·.var)

def isFactB (a : A) : Bool := atomOk a && !anyVar a.args

def asc : List A → Bool
  | [] => true
  | [_] => true
  | a :: b :: r => decide (cmpA a b < 0) && asc (b :: r)

theorem asc_iff (xs : List A) : asc xs = true ↔ ∀ i (h : i + 1 < xs.length), cmpA xs[i] xs[i + 1] < 0 := by
  induction xs with
  | nil => simp [asc]
  | cons a r ih =>
    cases r with
    | nil => simp [asc]
    | cons b r =>
      simp only [asc, Bool.and_eq_true, decide_eq_true_eq, ih]
      constructor
      · rintro ⟨h1, h2⟩ i hi
        cases i with
        | zero => exact h1
        | succ i => exact h2 i (by simp at hi ⊢; omega)
      · intro h
        exact ⟨h 0 (by simp), fun i hi => h (i + 1) (by simp at hi ⊢; omega)⟩

end
section
def okB (xs : List A) : Bool := xs.all isFactB && asc xs

def facTo (xs : List A) (k : Nat) : Prop := ∀ j (h : j < xs.length), j < k → isFactB xs[j] = true

def ascTo (xs : List A) (k : Nat) : Prop := ∀ j (h : j < xs.length), j < k → ∀ h' : 0 < j, cmpA (xs[j - 1]'(by omega)) xs[j] < 0

theorem okB_iff (xs : List A) : okB xs = true ↔ facTo xs xs.length ∧ ascTo xs xs.length := by
  unfold okB
  rw [Bool.and_eq_true, List.all_eq_true, asc_iff]
  constructor
  · rintro ⟨h1, h2⟩
    refine ⟨fun j hj _ => h1 _ (List.getElem_mem hj), fun j hj _ h0 => ?_⟩
    obtain ⟨i, rfl⟩ : ∃ i, j = i + 1 := ⟨j - 1, by omega⟩
    exact h2 i hj
  · rintro ⟨h1, h2⟩
    refine ⟨fun x hx => ?_, fun i hi => h2 (i + 1) hi hi (by omega)⟩
    obtain ⟨j, hj, rfl⟩ := List.mem_iff_getElem.1 hx
    exact h1 j hj hj

variable {w : World} {Ad : Option Addr} {len cap : Nat} {bs : List Nat} {k : Nat}
end
section
theorem cmpA_lt_le {a b d : A} (h1 : cmpA a b < 0) (h2 : cmpA b d ≤ 0) : cmpA a d < 0 := by
  rw [cmpA_lex] at *
  exact (lexL_is cmpS_is).lt_of_lt_le h1 h2

theorem asc_lt {xs : List A} (hs : asc xs = true) {i j : Nat} (hj : j < xs.length) (hij : i < j) : cmpA (xs[i]'(by omega)) xs[j] < 0 := by
  induction j with
  | zero => omega
  | succ j ih =>
    have h1 := (asc_iff xs).1 hs j hj
    by_cases e : i = j
    · subst e; exact h1
    · exact cmpA_lt_le (ih (by omega) (by omega)) (by omega)

def lessA (a x : A) : Bool := decide (cmpA x a < 0)

def pl (xs : List A) (a : A) : Nat := xs.countP (lessA a)

def hasB (xs : List A) (a : A) : Bool := xs.any (fun x => decide (cmpA x a = 0))

def ltTo (xs : List A) (a : A) (k : Nat) : Prop := ∀ j (h : j < xs.length), j < k → cmpA xs[j] a < 0

theorem ltTo_zero (xs : List A) (a : A) : ltTo xs a 0 := fun _ _ h => absurd h (Nat.not_lt_zero _)

theorem ltTo_step {xs : List A} {a : A} {k : Nat} (H : ltTo xs a k) (hk : k < xs.length) (h : cmpA xs[k] a < 0) : ltTo xs a (k + 1) := fun j hj hjk => by
  by_cases e : j = k
  · subst e; exact h
  · exact H j hj (by omega)

theorem not_lt_from {xs : List A} {a : A} {k : Nat} (hs : asc xs = true) (hk : k < xs.length) (h : ¬ cmpA xs[k] a < 0) {j : Nat} (hj : j < xs.length) (hkj : k ≤ j) : ¬ cmpA xs[j] a < 0 := fun hc => by
  by_cases e : k = j
  · subst e; exact h hc
  · exact h (cmpA_lt_le (asc_lt hs hj (by omega)) (by omega))

theorem place_of {xs : List A} {a : A} {k : Nat} (hs : asc xs = true) (hk : k ≤ xs.length) (h1 : ltTo xs a k) (h2 : ∀ h : k < xs.length, ¬ cmpA xs[k] a < 0) : k = pl xs a := by
  unfold pl
  conv => rhs; rw [← List.take_append_drop k xs]
  rw [List.countP_append, List.countP_eq_length.2, List.countP_eq_zero.2]
  · simp; omega
  · intro y hy
    obtain ⟨j, hj, rfl⟩ := List.mem_iff_getElem.1 hy
    rw [List.length_drop] at hj
    rw [List.getElem_drop]
    have := not_lt_from hs (by omega) (h2 (by omega)) (j := k + j) (by omega) (by omega)
    simp [lessA]; omega
  · intro y hy
    obtain ⟨j, hj, rfl⟩ := List.mem_iff_getElem.1 hy
    rw [List.length_take] at hj
    rw [List.getElem_take]
    simp only [lessA, decide_eq_true_eq]
    exact h1 j (by omega) (by omega)

theorem has_at {xs : List A} {a : A} {k : Nat} (hs : asc xs = true) (hk : k < xs.length) (h1 : ltTo xs a k) (h2 : ¬ cmpA xs[k] a < 0) : hasB xs a = decide (cmpA xs[k] a = 0) := by
  by_cases hc : cmpA xs[k] a = 0
  · rw [decide_eq_true hc]; unfold hasB; rw [List.any_eq_true]; exact ⟨_, List.getElem_mem hk, by simpa using hc⟩
  · rw [decide_eq_false hc]; unfold hasB; rw [List.any_eq_false]
    intro y hy hcy
    obtain ⟨j, hj, rfl⟩ := List.mem_iff_getElem.1 hy
    simp only [decide_eq_true_eq] at hcy
    rcases Nat.lt_trichotomy j k with h | h | h
    · have := h1 j hj h; omega
    · subst h; exact hc hcy
    · exact h2 (cmpA_lt_le (asc_lt hs hj h) (by omega))

theorem has_end {xs : List A} {a : A} (h1 : ltTo xs a xs.length) : hasB xs a = false := by
  unfold hasB; rw [List.any_eq_false]
  intro y hy hcy
  obtain ⟨j, hj, rfl⟩ := List.mem_iff_getElem.1 hy
  simp only [decide_eq_true_eq] at hcy
  have := h1 j hj hj; omega

end
section
end
section
def meets (xs ys : List A) : Bool := xs.any (hasB ys)

end
end D
end Go.Proofs.Ytlmngncogomgeaa
namespace Go.Proofs.Ytlmngncogomgeaa
open Go.RowKit D
set_option linter.unusedVariables false
namespace D
theorem cmpA_anti (a b : A) : cmpA b a = - cmpA a b := by rw [cmpA_lex, cmpA_lex]; exact (lexL_is cmpS_is).anti _ _

theorem asc_head {x : A} {xs : List A} (h : asc (x :: xs) = true) : ∀ y ∈ xs, cmpA x y < 0 := by
  intro y hy
  obtain ⟨j, hj, rfl⟩ := List.mem_iff_getElem.1 hy
  exact asc_lt h (i := 0) (j := j + 1) (by simp; omega) (by omega)

theorem asc_tail {x : A} {xs : List A} (h : asc (x :: xs) = true) : asc xs = true := by
  cases xs with
  | nil => rfl
  | cons y ys => simp only [asc, Bool.and_eq_true] at h; exact h.2

end D
end Go.Proofs.Ytlmngncogomgeaa
namespace Go.Proofs.Ytlmngncogomgeaa
open Go.RowKit D
set_option linter.unusedVariables false
namespace D
theorem cmpA_is : IsCmp (lexL cmpS) := lexL_is cmpS_is

theorem cmpA_vals (a b : A) : cmpA a b = -1 ∨ cmpA a b = 0 ∨ cmpA a b = 1 := by rw [cmpA_lex]; exact cmpA_is.vals _ _

theorem cmpA_key (a b : A) : cmpA a b = 0 ↔ keyA a = keyA b := by rw [cmpA_lex]; exact cmpA_is.eq _ _

theorem cmpA_refl (a : A) : cmpA a a = 0 := (cmpA_key a a).2 rfl

theorem cmpA_congr_right {a b : A} (h : cmpA a b = 0) (x : A) : cmpA x a = cmpA x b := by
  rw [cmpA_lex, cmpA_lex, (cmpA_key a b).1 h]

theorem hasB_congr {xs : List A} {a b : A} (h : cmpA a b = 0) : hasB xs a = hasB xs b := by
  unfold hasB; congr 1; funext x; rw [cmpA_congr_right h]

theorem hasB_iff {xs : List A} {a : A} : hasB xs a = true ↔ ∃ x ∈ xs, cmpA x a = 0 := by
  unfold hasB; simp [List.any_eq_true]

theorem hasB_cons (x : A) (xs : List A) (a : A) : hasB (x :: xs) a = (decide (cmpA x a = 0) || hasB xs a) := by simp [hasB]

theorem hasB_append (xs ys : List A) (a : A) : hasB (xs ++ ys) a = (hasB xs a || hasB ys a) := by simp [hasB]

theorem asc_cons {x : A} {xs : List A} (h : ∀ y ∈ xs, cmpA x y < 0) (hs : asc xs = true) : asc (x :: xs) = true := by
  cases xs with
  | nil => rfl
  | cons y ys => simp only [asc, Bool.and_eq_true, decide_eq_true_eq]; exact ⟨h y (List.mem_cons_self ..), hs⟩

theorem asc_append : ∀ {xs ys : List A}, asc xs = true → asc ys = true → (∀ x ∈ xs, ∀ y ∈ ys, cmpA x y < 0) → asc (xs ++ ys) = true
  | [], ys, _, h, _ => h
  | x :: xs, ys, h1, h2, h => by
    refine asc_cons (fun z hz => ?_) (asc_append (asc_tail h1) h2 fun z hz y hy => h z (List.mem_cons_of_mem _ hz) y hy)
    rcases List.mem_append.1 hz with hz | hz
    · exact asc_head h1 z hz
    · exact h x (List.mem_cons_self ..) z hz

theorem asc_sub {xs ys : List A} (h : asc ys = true) (hs : List.Sublist xs ys) : asc xs = true := by
  induction hs with
  | slnil => rfl
  | cons a _ ih => exact ih (asc_tail h)
  | cons_cons a hs ih => exact asc_cons (fun y hy => asc_head h y (hs.subset hy)) (ih (asc_tail h))

/-- One more. -/
def insA (xs : List A) (a : A) : List A := if hasB xs a then xs else xs.take (pl xs a) ++ a :: xs.drop (pl xs a)

theorem pl_split : ∀ {xs : List A} (hs : asc xs = true) (a : A), (∀ x ∈ xs.take (pl xs a), cmpA x a < 0) ∧ (∀ x ∈ xs.drop (pl xs a), ¬ cmpA x a < 0) ∧ pl xs a ≤ xs.length
  | [], _, a => by simp [pl]
  | x :: xs, hs, a => by
    obtain ⟨h1, h2, h3⟩ := pl_split (asc_tail hs) a
    by_cases hc : cmpA x a < 0
    · have : pl (x :: xs) a = pl xs a + 1 := by unfold pl; rw [List.countP_cons_of_pos (by simpa [lessA] using hc)]
      rw [this]
      refine ⟨fun z hz => ?_, fun z hz => h2 z (by simpa using hz), by simpa using h3⟩
      rw [List.take_succ_cons] at hz
      rcases List.mem_cons.1 hz with rfl | hz
      · exact hc
      · exact h1 z hz
    · have h0 : ∀ z ∈ x :: xs, ¬ cmpA z a < 0 := by
        intro z hz hza
        rcases List.mem_cons.1 hz with rfl | hz
        · exact hc hza
        · exact hc (cmpA_lt_le (asc_head hs z hz) (by omega))
      have : pl (x :: xs) a = 0 := by unfold pl; rw [List.countP_eq_zero]; intro z hz; have := h0 z hz; simp [lessA]; omega
      rw [this]
      exact ⟨fun z hz => by simp at hz, fun z hz => h0 z (by simpa using hz), by simp⟩

theorem hasB_split (xs : List A) (n : Nat) (b : A) : hasB xs b = (hasB (xs.take n) b || hasB (xs.drop n) b) := by
  conv => lhs; rw [← List.take_append_drop n xs]
  exact hasB_append _ _ _

theorem hasB_ins (xs : List A) (a b : A) : hasB (insA xs a) b = (hasB xs b || decide (cmpA a b = 0)) := by
  unfold insA
  split
  · rename_i h
    by_cases hc : cmpA a b = 0
    · rw [← hasB_congr hc, h]; rfl
    · simp [hc]
  · rw [hasB_append, hasB_cons, hasB_split xs (pl xs a) b]
    cases hasB (xs.take (pl xs a)) b <;> cases hasB (xs.drop (pl xs a)) b <;> simp

theorem asc_ins {xs : List A} (hs : asc xs = true) (a : A) : asc (insA xs a) = true := by
  unfold insA
  split
  · exact hs
  · rename_i h
    obtain ⟨h1, h2, _⟩ := pl_split hs a
    have h3 : ∀ x ∈ xs.drop (pl xs a), cmpA a x < 0 := by
      intro x hx
      have g1 := h2 x hx
      have g2 : cmpA x a ≠ 0 := fun e => h (hasB_iff.2 ⟨x, List.mem_of_mem_drop hx, e⟩)
      have := cmpA_anti x a
      have := cmpA_vals x a
      omega
    refine asc_append (asc_sub hs (List.take_sublist _ _)) (asc_cons h3 (asc_sub hs (List.drop_sublist _ _))) fun x hx y hy => ?_
    rcases List.mem_cons.1 hy with rfl | hy
    · exact h1 x hx
    · exact cmpA_lt_le (h1 x hx) (by have := h3 y hy; omega)

theorem mem_ins {xs : List A} {a x : A} (h : x ∈ insA xs a) : x ∈ xs ∨ x = a := by
  unfold insA at h
  split at h
  · exact .inl h
  · rcases List.mem_append.1 h with h | h
    · exact .inl (List.mem_of_mem_take h)
    · rcases List.mem_cons.1 h with rfl | h
      · exact .inr rfl
      · exact .inl (List.mem_of_mem_drop h)

theorem ins_length {xs : List A} {a : A} (h : hasB xs a = false) : (insA xs a).length = xs.length + 1 := by
  unfold insA
  rw [if_neg (by simp [h]), List.length_append, List.length_cons]
  have := congrArg List.length (List.take_append_drop (pl xs a) xs)
  rw [List.length_append] at this
  omega

theorem ins_length_le (xs : List A) (a : A) : (insA xs a).length ≤ xs.length + 1 := by
  cases h : hasB xs a
  · rw [ins_length h]; omega
  · unfold insA; rw [if_pos h]; omega

end D
end Go.Proofs.Ytlmngncogomgeaa
namespace Go.Proofs.Ytlmngncogomgeaa
open Go.RowKit D
set_option linter.unusedVariables false
namespace D
/-- Every cell of a datum is one cell. -/
def Ones {α : Type} (n : Nat) (R : Rel α) : Prop := ∀ {w cs x bs}, R w cs x bs → cs.length = n ∧ ∀ u ∈ cs, Value.oneCell' u = true

theorem termK_ones : Ones 2 termK := fun h => by obtain ⟨rfl, _⟩ := h; simp [Value.oneCell']

theorem atomK_ones : Ones 2 atomK := fun h => by
  obtain ⟨s, rfl, _, ht⟩ := h
  obtain ⟨Ad, cap, rfl, _⟩ := sliceK_form ht
  simp [Value.oneCell']

/-- The cells L are the elements xs, n cells each. -/
structure Rowed {α : Type} (n : Nat) (R : Rel α) (w : World) (L : List Value) (xs : List α) (bs : List Nat) : Prop where
  len : L.length = xs.length * n
  one : ∀ u ∈ L, Value.oneCell' u = true
  at_ : ∃ G : Nat → List Nat, bs = (List.range xs.length).flatMap G ∧ ∀ j (h : j < xs.length), R w ((L.drop (j * n)).take n) xs[j] (G j)

theorem Rowed.nil {α : Type} {n : Nat} {R : Rel α} {w : World} : Rowed n R w [] [] [] := ⟨by simp, fun u hu => by simp at hu, fun _ => [], rfl, fun j h => absurd h (Nat.not_lt_zero _)⟩

theorem Rowed.keep {α : Type} {n : Nat} {R : Rel α} (g : Good R) {w w' : World} {L : List Value} {xs : List α} {bs : List Nat} (h : Rowed n R w L xs bs) (hk : ∀ b ∈ bs, w'.heap[b]? = w.heap[b]?) : Rowed n R w' L xs bs := by
  obtain ⟨h1, h2, G, rfl, h3⟩ := h
  exact ⟨h1, h2, G, rfl, fun j hj => g.keep (h3 j hj) fun b hb => hk b (List.mem_flatMap.2 ⟨j, List.mem_range.2 hj, hb⟩)⟩

theorem Rowed.lt {α : Type} {n : Nat} {R : Rel α} (g : Good R) {w : World} {L : List Value} {xs : List α} {bs : List Nat} (h : Rowed n R w L xs bs) : ∀ b ∈ bs, b < w.heap.size := by
  obtain ⟨h1, h2, G, rfl, h3⟩ := h
  intro b hb
  obtain ⟨j, hj, hb⟩ := List.mem_flatMap.1 hb
  exact g.lt (h3 j (List.mem_range.1 hj)) b hb

theorem Rowed.below {α : Type} {n : Nat} {R : Rel α} (g : Good R) {w w' : World} {L : List Value} {xs : List α} {bs : List Nat} (h : Rowed n R w L xs bs) (hb : Below w.heap.size w w') : Rowed n R w' L xs bs :=
  h.keep g fun b hbs => hb.block b (h.lt g b hbs)

theorem Rowed.one_el {α : Type} {n : Nat} {R : Rel α} (o : Ones n R) {w : World} {cs : List Value} {x : α} {bs : List Nat} (h : R w cs x bs) : Rowed n R w cs [x] bs := by
  refine ⟨by rw [(o h).1]; simp, (o h).2, fun _ => bs, by simp, fun j hj => ?_⟩
  obtain rfl : j = 0 := by simpa using hj
  simp only [Nat.zero_mul, List.drop_zero, List.getElem_cons_zero]
  rw [List.take_of_length_le (by rw [(o h).1]; omega)]
  exact h

theorem Rowed.append {α : Type} {n : Nat} {R : Rel α} {w : World} {L M : List Value} {xs ys : List α} {b1 b2 : List Nat} (h : Rowed n R w L xs b1) (k : Rowed n R w M ys b2) : Rowed n R w (L ++ M) (xs ++ ys) (b1 ++ b2) := by
  obtain ⟨h1, h2, G, rfl, h3⟩ := h
  obtain ⟨k1, k2, H, rfl, k3⟩ := k
  refine ⟨by rw [List.length_append, List.length_append, h1, k1, Nat.add_mul], fun u hu => (List.mem_append.1 hu).elim (h2 u) (k2 u), fun j => if j < xs.length then G j else H (j - xs.length), ?_, fun j hj => ?_⟩
  · rw [List.length_append, List.range_add, List.flatMap_append]
    congr 1
    · rw [List.flatMap_def, List.flatMap_def]; congr 1
      exact List.map_congr_left fun j hj => by rw [if_pos (List.mem_range.1 hj)]
    · rw [List.flatMap_map, List.flatMap_def, List.flatMap_def]; congr 1
      exact List.map_congr_left fun j hj => by
        show H j = if xs.length + j < xs.length then G (xs.length + j) else H (xs.length + j - xs.length)
        rw [if_neg (by omega), Nat.add_sub_cancel_left]
  · rw [List.length_append] at hj
    by_cases hlt : j < xs.length
    · simp only [if_pos hlt]
      have hm : j * n + n ≤ xs.length * n := by
        have := Nat.mul_le_mul_right n (show j + 1 ≤ xs.length by omega)
        rw [Nat.add_mul, Nat.one_mul] at this; exact this
      rw [List.drop_append_of_le_length (by omega), List.take_append_of_le_length (by rw [List.length_drop]; omega), List.getElem_append_left hlt]
      exact h3 j hlt
    · simp only [if_neg hlt]
      have hm : xs.length * n ≤ j * n := Nat.mul_le_mul_right n (by omega)
      rw [List.getElem_append_right (by omega), List.drop_append, List.drop_of_length_le (by omega), List.nil_append, h1, ← Nat.sub_mul]
      exact k3 (j - xs.length) (by omega)

theorem Rowed.take {α : Type} {n : Nat} {R : Rel α} {w : World} {L : List Value} {xs : List α} {bs : List Nat} (h : Rowed n R w L xs bs) {k : Nat} (hk : k ≤ xs.length) : ∃ b2, Rowed n R w (L.take (k * n)) (xs.take k) b2 ∧ ∀ b ∈ b2, b ∈ bs := by
  obtain ⟨h1, h2, G, rfl, h3⟩ := h
  have hkn : k * n ≤ xs.length * n := Nat.mul_le_mul_right n hk
  refine ⟨_, ⟨by simp only [List.length_take]; rw [h1, Nat.min_eq_left hkn, Nat.min_eq_left hk], fun u hu => h2 u (List.mem_of_mem_take hu), G, rfl, fun j hj => ?_⟩, fun b hb => ?_⟩
  · have hj' : j < k := by simp at hj; omega
    have hm : j * n + n ≤ k * n := by
      have := Nat.mul_le_mul_right n (show j + 1 ≤ k by omega)
      rw [Nat.add_mul, Nat.one_mul] at this; exact this
    rw [List.drop_take, List.take_take, Nat.min_eq_left (by omega), List.getElem_take]
    exact h3 j (by omega)
  · obtain ⟨j, hj, hb⟩ := List.mem_flatMap.1 hb
    have := List.mem_range.1 hj
    exact List.mem_flatMap.2 ⟨j, List.mem_range.2 (by simp at this; omega), hb⟩

theorem Rowed.drop {α : Type} {n : Nat} {R : Rel α} {w : World} {L : List Value} {xs : List α} {bs : List Nat} (h : Rowed n R w L xs bs) {k : Nat} (hk : k ≤ xs.length) : ∃ b2, Rowed n R w (L.drop (k * n)) (xs.drop k) b2 ∧ ∀ b ∈ b2, b ∈ bs := by
  obtain ⟨h1, h2, G, rfl, h3⟩ := h
  refine ⟨_, ⟨by simp only [List.length_drop]; rw [h1, Nat.sub_mul], fun u hu => h2 u (List.mem_of_mem_drop hu), fun j => G (k + j), rfl, fun j hj => ?_⟩, fun b hb => ?_⟩
  · rw [List.drop_drop, ← Nat.add_mul, List.getElem_drop]
    exact h3 (k + j) (by simp at hj; omega)
  · obtain ⟨j, hj, hb⟩ := List.mem_flatMap.1 hb
    have := List.mem_range.1 hj
    exact List.mem_flatMap.2 ⟨k + j, List.mem_range.2 (by simp at this; omega), hb⟩

theorem flat_at {n : Nat} {F : Nat → List Value} : ∀ {m : Nat}, (∀ k, k < m → (F k).length = n) → ((List.range m).flatMap F).length = m * n ∧ ∀ k i, k < m → i < n → ((List.range m).flatMap F)[k * n + i]? = (F k)[i]?
  | 0, _ => ⟨by simp, fun k i hk => absurd hk (Nat.not_lt_zero _)⟩
  | m + 1, h => by
    obtain ⟨h1, h2⟩ := flat_at (m := m) fun k hk => h k (by omega)
    rw [List.range_succ, List.flatMap_append]
    simp only [List.flatMap_cons, List.flatMap_nil, List.append_nil]
    refine ⟨by rw [List.length_append, h1, h m (by omega), Nat.add_mul, Nat.one_mul], fun k i hk hi => ?_⟩
    by_cases e : k = m
    · subst e
      rw [List.getElem?_append_right (by omega), h1, Nat.add_sub_cancel_left]
    · have hm : k * n + n ≤ m * n := by
        have := Nat.mul_le_mul_right n (show k + 1 ≤ m by omega)
        rw [Nat.add_mul, Nat.one_mul] at this; exact this
      rw [List.getElem?_append_left (by omega)]
      exact h2 k i (by omega) hi

/-- A slice as a row of cells. -/
theorem sliceK_row {α : Type} {n : Nat} {R : Rel α} (o : Ones n R) (hn : 0 < n) {w : World} {Ad : Option Addr} {len cap : Nat} {xs : List α} {bs : List Nat} (h : sliceK n R w [.slice Ad len cap] xs bs) :
    ∃ L b2, Rowed n R w L xs b2 ∧ (∀ b ∈ b2, b ∈ bs) ∧ (xs ≠ [] → ∃ b o, Ad = some ⟨b, o, none⟩ ∧ b ∈ bs ∧ ∀ j u, L[j]? = some u → w.cell? ⟨b, o + j, none⟩ = some u) := by
  obtain ⟨Ad', cap', hcs, hl, hm, h0, h1⟩ := h
  by_cases hne : xs = []
  · subst hne
    exact ⟨[], [], Rowed.nil, fun b hb => by simp at hb, fun h => absurd rfl h⟩
  · simp only [List.cons.injEq, Value.slice.injEq, and_true] at hcs
    obtain ⟨rfl, rfl, rfl⟩ := hcs
    obtain ⟨b, o', rfl, F, G, rfl, hF⟩ := h1 hne
    have hlen : ∀ k, k < xs.length → (F k).length = n := fun k hk => (hF k _ (List.getElem?_eq_getElem hk)).1
    obtain ⟨f1, f2⟩ := flat_at hlen
    have hpart : ∀ k, k < xs.length → (((List.range xs.length).flatMap F).drop (k * n)).take n = F k := by
      intro k hk
      refine List.ext_getElem? fun i => ?_
      by_cases hi : i < n
      · rw [List.getElem?_take_of_lt hi, List.getElem?_drop]; exact f2 k i hk hi
      · rw [List.getElem?_eq_none (by rw [List.length_take]; omega), List.getElem?_eq_none (by rw [hlen k hk]; omega)]
    refine ⟨(List.range xs.length).flatMap F, (List.range xs.length).flatMap G, ⟨f1, fun u hu => ?_, G, rfl, fun j hj => ?_⟩, fun c hc => List.mem_cons_of_mem _ hc, fun _ => ⟨b, o', rfl, by simp, fun j u hu => ?_⟩⟩
    · obtain ⟨k, hk, hu⟩ := List.mem_flatMap.1 hu
      exact (o (hF k _ (List.getElem?_eq_getElem (List.mem_range.1 hk))).2.2).2 u hu
    · rw [hpart j hj]; exact (hF j _ (List.getElem?_eq_getElem hj)).2.2
    · have hjl := (List.getElem?_eq_some_iff.1 hu).1
      rw [f1] at hjl
      have hk : j / n < xs.length := (Nat.div_lt_iff_lt_mul hn).2 hjl
      have hi := Nat.mod_lt j hn
      have e : j / n * n + j % n = j := by rw [Nat.mul_comm]; exact Nat.div_add_mod j n
      rw [← e, f2 _ _ hk hi] at hu
      have := (hF (j / n) _ (List.getElem?_eq_getElem hk)).2.1 (j % n) u hu
      rw [e] at this; exact this

/-- An owned row of elements is a slice of them. -/
theorem Rowed.slice {α : Type} {n : Nat} {R : Rel α} {w : World} {L : List Value} {xs : List α} {bs : List Nat} (h : Rowed n R w L xs bs) {base e : Nat} {v : Value} (hown : w.ownsRow base e n v xs.length L) :
    ∃ b2, sliceK n R w [v] xs b2 ∧ ∀ b ∈ b2, base ≤ b ∨ b ∈ bs := by
  obtain ⟨h1, _, G, rfl, h3⟩ := h
  rcases hown.2 with ⟨rfl, hL⟩ | ⟨g, cap, cur, rfl, hg, hh, hc1, hc2, hc3⟩
  · have hx : xs = [] := by
      by_cases hne : xs = []
      · exact hne
      · exfalso
        have hpos : 0 < xs.length := List.length_pos_iff.2 hne
        first
          | (rw [hL] at hpos; omega)
          | omega
    subst hx
    exact ⟨[], ⟨none, 0, rfl, Nat.zero_le _, Nat.zero_le _, fun _ => rfl, fun h => absurd rfl h⟩, fun b hb => by simp at hb⟩
  · by_cases hne : xs = []
    · subst hne
      exact ⟨[], ⟨_, cap, rfl, hc1, hc2, fun _ => rfl, fun h => absurd rfl h⟩, fun b hb => by simp at hb⟩
    · refine ⟨g :: (List.range xs.length).flatMap G, ⟨_, cap, rfl, hc1, hc2, fun h => absurd h hne, fun _ => ⟨g, 0, rfl, fun k => (L.drop (k * n)).take n, G, rfl, fun k x hx => ?_⟩⟩, fun b hb => ?_⟩
      · obtain ⟨hkl, rfl⟩ := List.getElem?_eq_some_iff.1 hx
        have hmul : k * n + n ≤ xs.length * n := by
          have := Nat.mul_le_mul_right n (show k + 1 ≤ xs.length by omega)
          rw [Nat.add_mul, Nat.one_mul] at this; exact this
        refine ⟨by simp; omega, fun j v hv => ?_, h3 k hkl⟩
        have hjn : j < n := by
          have := (List.getElem?_eq_some_iff.1 hv).1
          simp at this; omega
        rw [List.getElem?_take_of_lt hjn, List.getElem?_drop] at hv
        rw [Nat.zero_add, hown.cellAt (k * n + j) (by omega)]
        exact hv
      · rcases List.mem_cons.1 hb with rfl | hb
        · exact .inl hg
        · exact .inr hb

end D
end Go.Proofs.Ytlmngncogomgeaa
namespace Go.Proofs.Ytlmngncogomgeaa
open Go.RowKit D
set_option linter.unusedVariables false
namespace D
variable {P : Program}
theorem addr_add (b o j : Nat) : (⟨b, o, none⟩ : Addr).add j = ⟨b, o + j, none⟩ := by unfold Addr.add; split <;> simp_all

theorem own_shape {w : World} {base e size n : Nat} {v : Value} {L : List Value} (h : w.ownsRow base e size v n L) : ∃ A cap, v = .slice A n cap := by
  rcases h.2 with ⟨rfl, rfl⟩ | ⟨g, cap, _, rfl, _⟩
  · exact ⟨none, 0, rfl⟩
  · exact ⟨_, cap, rfl⟩

theorem run_app_nil (w : World) (base : Nat) (t ty e : TypeId) (i : TypeInfo) (size : Nat) (ht : P.underlying t = some (.slice e)) (hi : P.info? e = some i)
    (v : Value) (n : Nat) (xs : List Value) (hown : w.ownsRow base e size v n xs) (c : Nat) : (Builtin.append_ #[t, t] ty #[v, .slice none 0 c]).run P w = .ok v w := by
  rcases hown.2 with ⟨rfl, rfl⟩ | ⟨g, cap, cur, rfl, _, _, hnc, _⟩
  · simp [Builtin.append_, run_underlying ht, sizeOf, typeInfo, hi, Builtin.lenOf, Builtin.firstCells]
  · simp [Builtin.append_, run_underlying ht, sizeOf, typeInfo, hi, Builtin.lenOf, Builtin.firstCells, hnc, storeCells]

/-- The cells that are appended lie where the source's address says. -/
def Lies (w : World) (Ad : Option Addr) (news : List Value) : Prop := ∀ j u, news[j]? = some u → ∃ ad, Ad = some ad ∧ w.cell? (ad.add j) = some u

theorem Lies.nil (w : World) (Ad : Option Addr) : Lies w Ad [] := fun j u h => by simp at h

theorem Lies.mk {w : World} {b o : Nat} {news : List Value} (h : ∀ j u, news[j]? = some u → w.cell? ⟨b, o + j, none⟩ = some u) : Lies w (some ⟨b, o, none⟩) news := fun j u hj => ⟨_, rfl, by rw [addr_add]; exact h j u hj⟩

theorem run_app (w : World) (base : Nat) (t ty e : TypeId) (i : TypeInfo) (z : Value) (size bytes : Nat) (ht : P.underlying t = some (.slice e)) (hi : P.info? e = some i) (hz : i.zero = some z)
    (hsize : i.size = size) (hby : i.bytes = bytes) (hzs : z.cells.size = size) (hsz : 0 < size)
    (v : Value) (n : Nat) (xs : List Value) (hown : w.ownsRow base e size v n xs)
    (Ad : Option Addr) (m c : Nat) (news : List Value) (hl : news.length = m * size) (hnews : Lies w Ad news) (h1 : ∀ u ∈ news, Value.oneCell' u = true)
    (h63 : n + m ≤ maxLen) (hbytes : (n + m) * bytes ≤ 140737488355328) (hbase : base ≤ w.heap.size) :
    ∃ A cap w', (Builtin.append_ #[t, t] ty #[v, .slice Ad m c]).run P w = .ok (.slice A (n + m) cap) w' ∧ w'.ownsRow base e size (.slice A (n + m) cap) (n + m) (xs ++ news) ∧ w.grownBy w' v.ownBlock ∧
      ((Value.slice A (n + m) cap).ownBlock = v.ownBlock ∨ (Value.slice A (n + m) cap).ownBlock = some w.heap.size) := by
  cases Ad with
  | none =>
    have hm : m = 0 := by
      rcases Nat.eq_zero_or_pos m with h | h
      · exact h
      · exfalso
        have hpos : 0 < news.length := by rw [hl]; exact Nat.mul_pos h hsz
        obtain ⟨ad, h, _⟩ := hnews 0 _ (List.getElem?_eq_getElem hpos)
        cases h
    subst hm
    obtain rfl : news = [] := List.length_eq_zero_iff.1 (by rw [hl]; simp)
    obtain ⟨A, cap, rfl⟩ := own_shape hown
    exact ⟨A, cap, w, run_app_nil w base t ty e i size ht hi _ n xs hown c, by rw [List.append_nil]; exact hown, ⟨rfl, rfl, rfl, Nat.le_refl _, fun _ _ _ => rfl⟩, .inl rfl⟩
  | some ad =>
    obtain ⟨v', w', hr, h2, h3, _, h5⟩ := run_append_own_at (P := P) w base t ty e i z size bytes ht hi hz hsize hby hzs hsz v n xs hown ad m c news hl
      (fun j u hj => by obtain ⟨ad', h, h'⟩ := hnews j u hj; cases h; exact h') h1 h63 hbytes hbase
    obtain ⟨A, cap, rfl⟩ := own_shape h2
    exact ⟨A, cap, w', hr, h2, h3, h5⟩

theorem wp_app {w : World} {o : Oper} {a : Act} {K : Act → World → Prop} {Q : Exit → Act → World → Prop} (s x : Operand) (t : TypeId)
    (ho : o.op = .call { callee := .builtin .append, args := #[s, x], argTypes := #[t, t] })
    (base : Nat) (e : TypeId) (i : TypeInfo) (z : Value) (size bytes : Nat) (ht : P.underlying t = some (.slice e)) (hi : P.info? e = some i) (hz : i.zero = some z)
    (hsize : i.size = size) (hby : i.bytes = bytes) (hzs : z.cells.size = size) (hsz : 0 < size)
    (v : Value) (n : Nat) (xs : List Value) (hs : a.eval s = v) (hown : w.ownsRow base e size v n xs)
    (Ad : Option Addr) (m c : Nat) (news : List Value) (hx : a.eval x = .slice Ad m c) (hl : news.length = m * size) (hnews : Lies w Ad news) (h1 : ∀ u ∈ news, Value.oneCell' u = true)
    (h63 : n + m ≤ maxLen) (hbytes : (n + m) * bytes ≤ 140737488355328) (hbase : base ≤ w.heap.size)
    (h : ∀ A cap w', w'.ownsRow base e size (.slice A (n + m) cap) (n + m) (xs ++ news) → w.grownBy w' v.ownBlock → ((Value.slice A (n + m) cap).ownBlock = v.ownBlock ∨ (Value.slice A (n + m) cap).ownBlock = some w.heap.size) → K (a.put o.dst (.slice A (n + m) cap)) w') : o.wp P a w K Q := by
  obtain ⟨A, cap, w', hr, h2, h3, h4⟩ := run_app (P := P) w base t o.type e i z size bytes ht hi hz hsize hby hzs hsz v n xs hown Ad m c news hl hnews h1 h63 hbytes hbase
  unfold Oper.wp execOp
  simp only [ho, resolve, invoke, builtin, Sem.run_bind, Sem.run_pure, Result.andThen_ok, List.map_toArray, List.map_cons, List.map_nil, hs, hx, hr]
  exact h A cap w' h2 h3 h4

theorem wpList_app {w : World} {ops : Array Oper} {rest : List Oper} {o : Oper} {a : Act} {Q : Exit → Act → World → Prop} (hgd : o.guard = none) (s x : Operand) (t : TypeId)
    (ho : o.op = .call { callee := .builtin .append, args := #[s, x], argTypes := #[t, t] })
    (base : Nat) (e : TypeId) (i : TypeInfo) (z : Value) (size bytes : Nat) (ht : P.underlying t = some (.slice e)) (hi : P.info? e = some i) (hz : i.zero = some z)
    (hsize : i.size = size) (hby : i.bytes = bytes) (hzs : z.cells.size = size) (hsz : 0 < size)
    (v : Value) (n : Nat) (xs : List Value) (hs : a.eval s = v) (hown : w.ownsRow base e size v n xs)
    (Ad : Option Addr) (m c : Nat) (news : List Value) (hx : a.eval x = .slice Ad m c) (hl : news.length = m * size) (hnews : Lies w Ad news) (h1 : ∀ u ∈ news, Value.oneCell' u = true)
    (h63 : n + m ≤ maxLen) (hbytes : (n + m) * bytes ≤ 140737488355328) (hbase : base ≤ w.heap.size)
    (h : ∀ A cap w', w'.ownsRow base e size (.slice A (n + m) cap) (n + m) (xs ++ news) → w.grownBy w' v.ownBlock → ((Value.slice A (n + m) cap).ownBlock = v.ownBlock ∨ (Value.slice A (n + m) cap).ownBlock = some w.heap.size) → wpList P ops Q rest (a.put o.dst (.slice A (n + m) cap)) w') : wpList P ops Q (o :: rest) a w :=
  wpList_plain hgd fun _ hK => wp_app s x t ho base e i z size bytes ht hi hz hsize hby hzs hsz v n xs hs hown Ad m c news hx hl hnews h1 h63 hbytes hbase fun A cap w' h2 h3 h4 => hK _ _ (h A cap w' h2 h3 h4)

theorem step_app {w : World} {ops : Array Oper} {o : Oper} {a : Act} {K : Act → World → Prop} {Q : Exit → Act → World → Prop} {E : Prop} (hgd : o.guard = none) (s x : Operand) (t : TypeId)
    (ho : o.op = .call { callee := .builtin .append, args := #[s, x], argTypes := #[t, t] })
    (base : Nat) (e : TypeId) (i : TypeInfo) (z : Value) (size bytes : Nat) (ht : P.underlying t = some (.slice e)) (hi : P.info? e = some i) (hz : i.zero = some z)
    (hsize : i.size = size) (hby : i.bytes = bytes) (hzs : z.cells.size = size) (hsz : 0 < size)
    (v : Value) (n : Nat) (xs : List Value) (hs : a.eval s = v) (hown : w.ownsRow base e size v n xs)
    (Ad : Option Addr) (m c : Nat) (news : List Value) (hx : a.eval x = .slice Ad m c) (hl : news.length = m * size) (hnews : Lies w Ad news) (h1 : ∀ u ∈ news, Value.oneCell' u = true)
    (h63 : n + m ≤ maxLen) (hbytes : (n + m) * bytes ≤ 140737488355328) (hbase : base ≤ w.heap.size)
    (h : ∀ A cap w', w'.ownsRow base e size (.slice A (n + m) cap) (n + m) (xs ++ news) → w.grownBy w' v.ownBlock → ((Value.slice A (n + m) cap).ownBlock = v.ownBlock ∨ (Value.slice A (n + m) cap).ownBlock = some w.heap.size) → K (a.put o.dst (.slice A (n + m) cap)) w') :
    if Region.wanted o (yielded ops a.tmps) = true then Oper.wp P o a w K Q else E := by
  have hw : Region.wanted o (yielded ops a.tmps) = true := by simp [Region.wanted, hgd]
  rw [if_pos hw]
  exact wp_app s x t ho base e i z size bytes ht hi hz hsize hby hzs hsz v n xs hs hown Ad m c news hx hl hnews h1 h63 hbytes hbase h

/-- n elements of size cells each copied over an owned row of n elements. -/
theorem run_copy_n (w : World) (base : Nat) (dT sT ty e : TypeId) (size n dCap : Nat) (hu : P.underlying dT = some (.slice e)) (hs : (P.info? e).map (·.size) = some size) (g : Nat) (L : List Value)
    (hown : w.ownsRow base e size (.slice (some ⟨g, 0, none⟩) n dCap) n L) (ad : Addr) (sCap : Nat) (cs : List Value) (hn : cs.length = n * size)
    (hsrc : ∀ j v, cs[j]? = some v → w.cell? (ad.add j) = some v) (h1 : ∀ v ∈ cs, Value.oneCell' v = true) :
    ∃ w', (Builtin.copy_ #[dT, sT] ty #[.slice (some ⟨g, 0, none⟩) n dCap, .slice (some ad) n sCap]).run P w = .ok (goInt n) w' ∧ w'.ownsRow base e size (.slice (some ⟨g, 0, none⟩) n dCap) n cs ∧ w.grownBy w' (some g) := by
  rcases hown.2 with ⟨h, _⟩ | ⟨g', cap, cur, hv, hb, hh, hc1, hc2, hc3, _⟩
  · cases h
  · simp only [Value.slice.injEq, Option.some.injEq, Addr.mk.injEq, and_true, true_and] at hv
    obtain ⟨rfl, rfl⟩ := hv
    have hle : n * size ≤ dCap * size := Nat.mul_le_mul_right _ hc1
    have hl := run_loadCells_list (P := P) w ad cs hsrc
    have hst := run_storeCells_at P g 0 e cs 0 cur w hh (by omega) h1
    have hh2 := setRow_heap w g cur (cur.toList.take (0 + 0) ++ cs ++ cur.toList.drop (0 + 0 + cs.length)).toArray e (0, 0) hh
    refine ⟨_, ?_, ⟨hn, .inr ⟨g, dCap, _, rfl, hb, hh2, hc1, hc2, ?_, ?_⟩⟩, ⟨rfl, rfl, rfl, by simp [World.setRow], fun k _ hk => setRow_other w g k _ fun e => hk (by rw [e])⟩⟩
    · cases hq : P.info? e with
      | none => simp [hq] at hs
      | some i =>
        have hi : i.size = size := by simpa [hq] using hs
        have hnat : Nat.min n n = n := Nat.min_self n
        simp [Builtin.copy_, run_underlying hu, Builtin.lenOf, Builtin.firstCells, sizeOf, typeInfo, hq, hi, hnat, ← hn, hl, hst]
    · simp; omega
    · simp [← hn]

theorem wpList_copy_n {w : World} {ops : Array Oper} {rest : List Oper} {o : Oper} {a : Act} {Q : Exit → Act → World → Prop} (hgd : o.guard = none) (d s : Operand) (dT sT : TypeId)
    (ho : o.op = .call { callee := .builtin .copy, args := #[d, s], argTypes := #[dT, sT] }) (base : Nat) (e : TypeId) (size n dCap : Nat) (hu : P.underlying dT = some (.slice e)) (hsz : (P.info? e).map (·.size) = some size) (g : Nat) (L : List Value)
    (hown : w.ownsRow base e size (.slice (some ⟨g, 0, none⟩) n dCap) n L) (ad : Addr) (sCap : Nat) (cs : List Value) (hn : cs.length = n * size)
    (hsrc : ∀ j v, cs[j]? = some v → w.cell? (ad.add j) = some v) (h1 : ∀ v ∈ cs, Value.oneCell' v = true)
    (hd : a.eval d = .slice (some ⟨g, 0, none⟩) n dCap) (hs : a.eval s = .slice (some ad) n sCap)
    (h : ∀ w', w'.ownsRow base e size (.slice (some ⟨g, 0, none⟩) n dCap) n cs → w.grownBy w' (some g) → wpList P ops Q rest (a.put o.dst (goInt n)) w') : wpList P ops Q (o :: rest) a w := by
  refine wpList_plain hgd fun K hK => ?_
  obtain ⟨w', hrun, h2, h3⟩ := run_copy_n (P := P) w base dT sT o.type e size n dCap hu hsz g L hown ad sCap cs hn hsrc h1
  unfold Oper.wp
  simp [execOp, ho, resolve, invoke, builtin, hd, hs, hrun, Result.andThen]
  exact hK _ _ (h w' h2 h3)

/-- An empty slice of the call's own that is not nil. -/
theorem own_empty {w : World} {base e size g : Nat} (hh : w.heap[g]? = some (.cells #[] e (0, 0))) (hb : base ≤ g) : w.ownsRow base e size (.slice (some ⟨g, 0, none⟩) 0 0) 0 [] :=
  ⟨by simp, .inr ⟨g, 0, #[], rfl, hb, hh, Nat.le_refl _, Nat.zero_le _, by simp, by simp⟩⟩

/-- A slice of the call's own that collects elements: it owns the cells L, which are the elements xs; what these lead to lies elsewhere. -/
structure Coll {α : Type} (n : Nat) (R : Rel α) (base e : Nat) (w : World) (v : Value) (L : List Value) (xs : List α) (bs : List Nat) : Prop where
  own : w.ownsRow base e n v xs.length L
  row : Rowed n R w L xs bs
  far : ∀ b ∈ bs, v.ownBlock ≠ some b

section
variable {α : Type} {n : Nat} {R : Rel α} {base e : Nat}
theorem Coll.nil (w : World) : Coll n R base e w (.slice none 0 0) [] ([] : List α) [] := ⟨World.ownsRow_nil _ _ _ _, Rowed.nil, fun b hb => by simp at hb⟩

theorem Coll.empty {w : World} {g : Nat} (hh : w.heap[g]? = some (.cells #[] e (0, 0))) (hb : base ≤ g) : Coll n R base e w (.slice (some ⟨g, 0, none⟩) 0 0) [] ([] : List α) [] := ⟨own_empty hh hb, Rowed.nil, fun b hb => by simp at hb⟩

theorem Coll.below {w w' : World} {v : Value} {L : List Value} {xs : List α} {bs : List Nat} (g : Good R) (h : Coll n R base e w v L xs bs) (hb : Below w.heap.size w w') : Coll n R base e w' v L xs bs :=
  ⟨own_below h.own hb, h.row.below g hb, h.far⟩

theorem Coll.slice {w : World} {v : Value} {L : List Value} {xs : List α} {bs : List Nat} (h : Coll n R base e w v L xs bs) : ∃ b2, sliceK n R w [v] xs b2 ∧ ∀ b ∈ b2, base ≤ b ∨ b ∈ bs := h.row.slice h.own

theorem Coll.app {W w2 : World} {v v2 : Value} {L M : List Value} {xs ys : List α} {bs b3 : List Nat} (g : Good R) (h : Coll n R base e W v L xs bs) (k : Rowed n R W M ys b3) (hf : ∀ b ∈ b3, v.ownBlock ≠ some b)
    (hown : w2.ownsRow base e n v2 (xs.length + ys.length) (L ++ M)) (hgrow : W.grownBy w2 v.ownBlock) (hloc : v2.ownBlock = v.ownBlock ∨ v2.ownBlock = some W.heap.size) : Coll n R base e w2 v2 (L ++ M) (xs ++ ys) (bs ++ b3) := by
  have h1 := h.row.append k
  refine ⟨by rw [List.length_append]; exact hown, h1.keep g fun b hb => hgrow.block b (h1.lt g b hb) ?_, fun b hb => ?_⟩
  · rcases List.mem_append.1 hb with hb | hb
    · exact (h.far b hb).symm
    · exact (hf b hb).symm
  · have hne : v.ownBlock ≠ some b := by
      rcases List.mem_append.1 hb with hb | hb
      · exact h.far b hb
      · exact hf b hb
    have hlt := h1.lt g b hb
    rcases hloc with e | e
    · rw [e]; exact hne
    · rw [e]; intro e; injection e; omega

theorem own_block_lt {w : World} {size k : Nat} {v : Value} {L : List Value} (h : w.ownsRow base e size v k L) {b : Nat} (hb : w.heap.size ≤ b) : v.ownBlock ≠ some b := by
  rcases h.2 with ⟨rfl, _⟩ | ⟨g, cap, cur, rfl, _, hh, _⟩
  · simp [Value.ownBlock]
  · intro e'
    have : g = b := by simpa [Value.ownBlock] using e'
    have := lt_of_block hh
    omega

theorem own_block_ge {w : World} {size k : Nat} {v : Value} {L : List Value} (h : w.ownsRow base e size v k L) {b : Nat} (hb : b < base) : v.ownBlock ≠ some b := by
  rcases h.2 with ⟨rfl, _⟩ | ⟨g, cap, cur, rfl, hg, _⟩
  · simp [Value.ownBlock]
  · intro e'
    have : g = b := by simpa [Value.ownBlock] using e'
    omega

theorem own_grown {w0 w w2 : World} {B size k : Nat} {v : Value} {L : List Value} (hb : Below B w0 w) (h : w.ownsRow base e size v k L) (hB : B ≤ base) (hs : B ≤ w.heap.size) (hg : w.grownBy w2 v.ownBlock) : Below B w0 w2 :=
  hb.grown hg hs fun k e' => by
    rcases h.2 with ⟨rfl, _⟩ | ⟨g, cap, cur, rfl, hg', _⟩
    · simp [Value.ownBlock] at e'
    · have : g = k := by simpa [Value.ownBlock] using e'
      omega

end
theorem wpList_coll {α : Type} {R : Rel α} {w : World} {ops : Array Oper} {rest : List Oper} {o : Oper} {a : Act} {Q : Exit → Act → World → Prop} (hgd : o.guard = none) (s x : Operand) (t : TypeId)
    (ho : o.op = .call { callee := .builtin .append, args := #[s, x], argTypes := #[t, t] })
    (base : Nat) (e : TypeId) (i : TypeInfo) (z : Value) (size bytes : Nat) (ht : P.underlying t = some (.slice e)) (hi : P.info? e = some i) (hz : i.zero = some z)
    (hsize : i.size = size) (hby : i.bytes = bytes) (hzs : z.cells.size = size) (hsz : 0 < size) (g : Good R)
    (v : Value) (k : Nat) (L : List Value) (xs : List α) (bs : List Nat) (hs : a.eval s = v) (hC : Coll size R base e w v L xs bs) (hk : xs.length = k)
    (Ad : Option Addr) (m c : Nat) (M : List Value) (ys : List α) (b3 : List Nat) (hx : a.eval x = .slice Ad m c) (hR : Rowed size R w M ys b3) (hm : ys.length = m) (hL : Lies w Ad M) (hf : ∀ b ∈ b3, v.ownBlock ≠ some b)
    (h63 : k + m ≤ maxLen) (hbytes : (k + m) * bytes ≤ 140737488355328) (w0 : World) (B : Nat) (hB : Below B w0 w) (hBb : B ≤ base) (hbase : base ≤ w.heap.size)
    (h : ∀ A cap w', Coll size R base e w' (.slice A (k + m) cap) (L ++ M) (xs ++ ys) (bs ++ b3) → Below B w0 w' → base ≤ w'.heap.size → w.grownBy w' v.ownBlock → wpList P ops Q rest (a.put o.dst (.slice A (k + m) cap)) w') : wpList P ops Q (o :: rest) a w := by
  subst hk hm
  refine wpList_app hgd s x t ho base e i z size bytes ht hi hz hsize hby hzs hsz v xs.length L hs hC.own Ad ys.length c M hx hR.len hL hR.one h63 hbytes hbase fun A cap w' h2 h3 h4 => ?_
  exact h A cap w' (hC.app g hR hf h2 h3 h4) (own_grown hB hC.own hBb (Nat.le_trans hBb hbase) h3) (Nat.le_trans hbase h3.size) h3

theorem step_coll {α : Type} {R : Rel α} {w : World} {ops : Array Oper} {o : Oper} {a : Act} {K : Act → World → Prop} {Q : Exit → Act → World → Prop} {E : Prop} (hgd : o.guard = none) (s x : Operand) (t : TypeId)
    (ho : o.op = .call { callee := .builtin .append, args := #[s, x], argTypes := #[t, t] })
    (base : Nat) (e : TypeId) (i : TypeInfo) (z : Value) (size bytes : Nat) (ht : P.underlying t = some (.slice e)) (hi : P.info? e = some i) (hz : i.zero = some z)
    (hsize : i.size = size) (hby : i.bytes = bytes) (hzs : z.cells.size = size) (hsz : 0 < size) (g : Good R)
    (v : Value) (k : Nat) (L : List Value) (xs : List α) (bs : List Nat) (hs : a.eval s = v) (hC : Coll size R base e w v L xs bs) (hk : xs.length = k)
    (Ad : Option Addr) (m c : Nat) (M : List Value) (ys : List α) (b3 : List Nat) (hx : a.eval x = .slice Ad m c) (hR : Rowed size R w M ys b3) (hm : ys.length = m) (hL : Lies w Ad M) (hf : ∀ b ∈ b3, v.ownBlock ≠ some b)
    (h63 : k + m ≤ maxLen) (hbytes : (k + m) * bytes ≤ 140737488355328) (w0 : World) (B : Nat) (hB : Below B w0 w) (hBb : B ≤ base) (hbase : base ≤ w.heap.size)
    (h : ∀ A cap w', Coll size R base e w' (.slice A (k + m) cap) (L ++ M) (xs ++ ys) (bs ++ b3) → Below B w0 w' → base ≤ w'.heap.size → w.grownBy w' v.ownBlock → K (a.put o.dst (.slice A (k + m) cap)) w') : if Region.wanted o (yielded ops a.tmps) = true then Oper.wp P o a w K Q else E := by
  subst hk hm
  refine step_app hgd s x t ho base e i z size bytes ht hi hz hsize hby hzs hsz v xs.length L hs hC.own Ad ys.length c M hx hR.len hL hR.one h63 hbytes hbase fun A cap w' h2 h3 h4 => ?_
  exact h A cap w' (hC.app g hR hf h2 h3 h4) (own_grown hB hC.own hBb (Nat.le_trans hBb hbase) h3) (Nat.le_trans hbase h3.size) h3

theorem lies_block {w : World} {g : Nat} {cs : Array Value} {t : TypeId} {fr : Nat × Nat} (h : w.heap[g]? = some (.cells cs t fr)) : Lies w (some ⟨g, 0, none⟩) cs.toList :=
  Lies.mk fun j u hj => by
    rw [Nat.zero_add, cell_of_row w g j cs t fr h]
    simpa using hj

/-- What a function leaves whose result reads as x; below B all is as it was. -/
def Reads {α : Type} (R : Rel α) (x : α) (B : Nat) (w : World) (e : Ending) (w' : World) : Prop := Below B w w' ∧ ∃ v bs, e = .returned v ∧ R w' [v] x bs

end D
end Go.Proofs.Ytlmngncogomgeaa
namespace Go.Proofs.Ytlmngncogomgeaa
open Go.RowKit D
set_option linter.unusedVariables false
namespace D
/-- All but the blocks bs is as it was; new blocks may stand. -/
structure KeptBut (bs : List Nat) (w w' : World) : Prop where
  os : w'.os = w.os
  tape : w'.tape = w.tape
  output : w'.output = w.output
  size : w.heap.size ≤ w'.heap.size
  block : ∀ k, k < w.heap.size → k ∉ bs → w'.heap[k]? = w.heap[k]?

theorem KeptBut.refl (bs : List Nat) (w : World) : KeptBut bs w w := ⟨rfl, rfl, rfl, Nat.le_refl _, fun _ _ _ => rfl⟩

theorem KeptBut.trans {bs : List Nat} {a b c : World} (h : KeptBut bs a b) (k : KeptBut bs b c) : KeptBut bs a c :=
  ⟨k.os.trans h.os, k.tape.trans h.tape, k.output.trans h.output, Nat.le_trans h.size k.size, fun n hn hb => (k.block n (Nat.lt_of_lt_of_le hn h.size) hb).trans (h.block n hn hb)⟩

theorem KeptBut.of_below {bs : List Nat} {w w' : World} (h : Below w.heap.size w w') : KeptBut bs w w' := ⟨h.os, h.tape, h.output, h.size, fun k hk _ => h.block k hk⟩

theorem KeptBut.mono {bs cs : List Nat} {w w' : World} (h : KeptBut bs w w') (hs : ∀ b ∈ bs, b ∈ cs) : KeptBut cs w w' := ⟨h.os, h.tape, h.output, h.size, fun k hk hb => h.block k hk fun h' => hb (hs k h')⟩

theorem KeptBut.setCell {bs : List Nat} {a w : World} (h : KeptBut bs a w) {p : Addr} (hp : p.block ∈ bs) (u : Value) : KeptBut bs a (w.setCell p u) :=
  h.trans ⟨rfl, rfl, rfl, by simp [World.setCell], fun k _ hk => Below.heap_setCell _ _ _ _ fun e => hk (by rw [e]; exact hp)⟩

theorem KeptBut.below {bs : List Nat} {B : Nat} {w w' : World} (h : KeptBut bs w w') (hb : ∀ b ∈ bs, B ≤ b) (hB : B ≤ w.heap.size) : Below B w w' :=
  ⟨h.os, h.tape, h.output, h.size, fun k hk => h.block k (by omega) fun hm => by have := hb k hm; omega⟩

theorem KeptBut.cell {bs : List Nat} {w w' : World} (h : KeptBut bs w w') {p : Addr} {v : Value} (hp : p.block ∉ bs) (hv : w.cell? p = some v) : w'.cell? p = some v := by
  rw [World.cell?_of_block (w := w) (h.block p.block (lt_of_cell hv) hp)]; exact hv

theorem Good.kept {α : Type} {R : Rel α} (g : Good R) {bs cb : List Nat} {w w' : World} {cs : List Value} {x : α} (h : R w cs x cb) (hk : KeptBut bs w w') (hd : ∀ b ∈ cb, b ∉ bs) : R w' cs x cb :=
  g.keep h fun b hb => hk.block b (g.lt h b hb) (hd b hb)

theorem New.kept {B : Nat} {bs cb : List Nat} {w w' : World} (h : New B w cb) (hk : KeptBut bs w w') (hd : ∀ b ∈ cb, b ∉ bs) : New B w' cb :=
  h.keep fun b hb => hk.block b (h.lt hb) (hd b hb)

/-- A block of cells, none of them frozen. -/
def Wri (w : World) (b : Nat) : Prop := ∃ cur e, w.heap[b]? = some (.cells cur e (0, 0))

theorem New.wri {B : Nat} {w : World} {bs : List Nat} (h : New B w bs) : ∀ b ∈ bs, Wri w b := fun b hb => (h.own b hb).2

theorem Wri.frozen {w : World} {b : Nat} (h : Wri w b) (o : Nat) : w.frozen? ⟨b, o, none⟩ = false := by obtain ⟨cur, e, h⟩ := h; simp [World.frozen?, h]

theorem Wri.keep {w w' : World} {b : Nat} (h : Wri w b) (hk : w'.heap[b]? = w.heap[b]?) : Wri w' b := by unfold Wri; rw [hk]; exact h

theorem Wri.setCell {w : World} {b : Nat} (h : Wri w b) (p : Addr) (u : Value) : Wri (w.setCell p u) b := by
  obtain ⟨cur, e, h⟩ := h
  by_cases hb : b = p.block
  · obtain ⟨pb, po, pp⟩ := p
    dsimp only at hb
    subst hb
    have hlt := lt_of_block h
    have h' : w.heap[b] = .cells cur e (0, 0) := by simpa [Array.getElem?_eq_getElem hlt] using h
    unfold Wri
    show ∃ cur e, (w.heap.modify b _)[b]? = _
    rw [Array.getElem?_modify, if_pos rfl, h]
    exact ⟨_, _, rfl⟩
  · exact ⟨cur, e, by rw [Below.heap_setCell _ _ _ _ hb]; exact h⟩

theorem setCell_other {w : World} {b o o' : Nat} {u v : Value} (h : w.cell? ⟨b, o', none⟩ = some v) (hne : o' ≠ o) : (w.setCell ⟨b, o, none⟩ u).cell? ⟨b, o', none⟩ = some v := by
  rw [World.cell?_setCell_other _ _ _ _ (by intro e; injection e with _ e; exact hne e.symm)]; exact h

/-- An element opened, and put back with other cells. -/
theorem sliceK_open {α : Type} {n : Nat} {R : Rel α} (g : Good R) {w : World} {Ad : Option Addr} {len cap : Nat} {xs : List α} {bs : List Nat} (h : sliceK n R w [.slice Ad len cap] xs bs) (hnd : bs.Nodup) {k : Nat} (hk : k < xs.length) :
    ∃ b o cs bk, Ad = some ⟨b, o, none⟩ ∧ b ∈ bs ∧ b ∉ bk ∧ bk.Nodup ∧ (∀ c ∈ bk, c ∈ bs) ∧ cs.length = n ∧ (∀ j v, cs[j]? = some v → w.cell? ⟨b, o + (k * n + j), none⟩ = some v) ∧ R w cs xs[k] bk ∧
      ∀ w' cs' x', cs'.length = n → (∀ j v, cs'[j]? = some v → w'.cell? ⟨b, o + (k * n + j), none⟩ = some v) →
        (∀ p v, w.cell? ⟨b, o + p, none⟩ = some v → (p < k * n ∨ k * n + n ≤ p) → w'.cell? ⟨b, o + p, none⟩ = some v) →
        (∀ c ∈ bs, c ≠ b → c ∉ bk → w'.heap[c]? = w.heap[c]?) → R w' cs' x' bk → sliceK n R w' [.slice Ad len cap] (xs.set k x') bs := by
  obtain ⟨Ad', cap', hcs, hl, hm, h0, h1⟩ := h
  simp only [List.cons.injEq, Value.slice.injEq, and_true] at hcs
  obtain ⟨rfl, rfl, rfl⟩ := hcs
  have hne : xs ≠ [] := by intro e; subst e; simp at hk
  obtain ⟨b, o, rfl, F, G, rfl, hF⟩ := h1 hne
  obtain ⟨a1, a2, a3⟩ := hF k _ (List.getElem?_eq_getElem hk)
  have hnd' := List.nodup_cons.1 hnd
  have hmem : ∀ j c, j < xs.length → c ∈ G j → c ∈ (List.range xs.length).flatMap G := fun j c hj hc => List.mem_flatMap.2 ⟨j, List.mem_range.2 hj, hc⟩
  have hdis : ∀ i j, i < xs.length → j < xs.length → i ≠ j → ∀ c ∈ G i, c ∉ G j := by
    intro i j hi hj hij c hc hc'
    have hp := (List.pairwise_flatMap.1 hnd'.2).2
    rcases Nat.lt_or_gt_of_ne hij with h | h
    · have := List.pairwise_iff_getElem.1 hp i j (by simpa using hi) (by simpa using hj) h
      simp only [List.getElem_range] at this
      exact this c hc c hc' rfl
    · have := List.pairwise_iff_getElem.1 hp j i (by simpa using hj) (by simpa using hi) h
      simp only [List.getElem_range] at this
      exact this c hc' c hc rfl
  refine ⟨b, o, F k, G k, rfl, by simp, fun hb => hnd'.1 (hmem k b hk hb), (List.pairwise_flatMap.1 hnd'.2).1 k (List.mem_range.2 hk), fun c hc => List.mem_cons_of_mem _ (hmem k c hk hc), a1, a2, a3, ?_⟩
  intro w' cs' x' hlen hcells hrest hblk hR
  refine ⟨_, cap, by rw [List.length_set], by rw [List.length_set]; exact hl, hm, fun e => absurd e (by intro e; have := congrArg List.length e; simp at this; exact hne this), fun _ => ⟨b, o, rfl, fun j => if j = k then cs' else F j, G, by rw [List.length_set], fun j x hx => ?_⟩⟩
  obtain ⟨hjl, hxe⟩ := List.getElem?_eq_some_iff.1 hx
  rw [List.length_set] at hjl
  by_cases e : j = k
  · subst e
    simp only [if_true]
    rw [List.getElem_set_self] at hxe
    subst hxe
    exact ⟨hlen, hcells, hR⟩
  · simp only [if_neg e]
    rw [List.getElem_set_ne (Ne.symm e)] at hxe
    obtain ⟨f1, f2, f3⟩ := hF j x (by rw [List.getElem?_eq_getElem hjl, hxe])
    refine ⟨f1, fun i v hv => ?_, g.keep f3 fun c hc => ?_⟩
    · have hi : i < n := by have := (List.getElem?_eq_some_iff.1 hv).1; omega
      refine hrest _ v (f2 i v hv) ?_
      rcases Nat.lt_or_gt_of_ne e with h | h
      · left
        have := Nat.mul_le_mul_right n (show j + 1 ≤ k by omega)
        rw [Nat.add_mul, Nat.one_mul] at this; omega
      · right
        have := Nat.mul_le_mul_right n (show k + 1 ≤ j by omega)
        rw [Nat.add_mul, Nat.one_mul] at this; omega
    · exact hblk c (List.mem_cons_of_mem _ (hmem j c hjl hc)) (fun e' => hnd'.1 (by rw [← e']; exact hmem j c hjl hc)) (hdis j k hjl hk e c hc)

/-- Each element marked, one behind the other: mk x k marks at k and takes cnt x numbers. -/
def markL {α : Type} (mk : α → Nat → α) (cnt : α → Nat) : List α → Nat → List α
  | [], _ => []
  | x :: xs, k => mk x k :: markL mk cnt xs (k + cnt x)

def markTo {α : Type} (mk : α → Nat → α) (cnt : α → Nat) (xs : List α) (k i : Nat) : List α := markL mk cnt (xs.take i) k ++ xs.drop i

theorem markL_length {α : Type} {mk : α → Nat → α} {cnt : α → Nat} : ∀ (xs : List α) (k : Nat), (markL mk cnt xs k).length = xs.length
  | [], _ => rfl
  | x :: xs, k => by simp [markL, markL_length xs]

theorem markL_append {α : Type} {mk : α → Nat → α} {cnt : α → Nat} : ∀ (xs ys : List α) (k : Nat), markL mk cnt (xs ++ ys) k = markL mk cnt xs k ++ markL mk cnt ys (k + sumL cnt xs)
  | [], ys, k => by simp [markL, sumL]
  | x :: xs, ys, k => by
    simp only [List.cons_append, markL, markL_append xs]
    congr 3
    simp [sumL]; omega

theorem markTo_all {α : Type} {mk : α → Nat → α} {cnt : α → Nat} (xs : List α) (k : Nat) : markTo mk cnt xs k xs.length = markL mk cnt xs k := by simp [markTo]

theorem markTo_length {α : Type} {mk : α → Nat → α} {cnt : α → Nat} (xs : List α) (k i : Nat) : (markTo mk cnt xs k i).length = xs.length := by
  simp [markTo, markL_length]; omega

theorem markTo_at {α : Type} {mk : α → Nat → α} {cnt : α → Nat} {xs : List α} {k i : Nat} (h : i < xs.length) : (markTo mk cnt xs k i)[i]'(by rw [markTo_length]; exact h) = xs[i] := by
  have hl : (markL mk cnt (xs.take i) k).length = i := by rw [markL_length, List.length_take]; omega
  simp only [markTo]
  rw [List.getElem_append_right (by omega)]
  simp [hl]

theorem markTo_step {α : Type} {mk : α → Nat → α} {cnt : α → Nat} {xs : List α} {k i : Nat} (h : i < xs.length) : (markTo mk cnt xs k i).set i (mk xs[i] (k + sumL cnt (xs.take i))) = markTo mk cnt xs k (i + 1) := by
  have hl : (markL mk cnt (xs.take i) k).length = i := by rw [markL_length, List.length_take]; omega
  unfold markTo
  rw [List.set_append_right _ _ (by omega), hl, Nat.sub_self, List.drop_eq_getElem_cons h, List.set_cons_zero, List.take_succ_eq_append_getElem h, markL_append]
  simp [markL]

theorem markL_at {α : Type} {mk : α → Nat → α} {cnt : α → Nat} {xs : List α} {k i : Nat} (h : i < xs.length) : (markL mk cnt xs k)[i]'(by rw [markL_length]; exact h) = mk xs[i] (k + sumL cnt (xs.take i)) := by
  have hl : (markL mk cnt (xs.take i) k).length = i := by rw [markL_length, List.length_take]; omega
  have e : markL mk cnt xs k = markL mk cnt (xs.take i) k ++ markL mk cnt (xs.drop i) (k + sumL cnt (xs.take i)) := by rw [← markL_append, List.take_append_drop]
  simp only [e]
  rw [List.getElem_append_right (by omega)]
  simp only [hl, Nat.sub_self, List.drop_eq_getElem_cons h, markL, List.getElem_cons_zero]

/-- A number in decimals, the least figure last (nothing for 0). -/
def decL : Nat → Nat → List UInt8
  | 0, _ => []
  | f + 1, k => if k = 0 then [] else decL f (k / 10) ++ [UInt8.ofNat (48 + k % 10)]

def markText (k : Nat) : ByteArray := if k = 0 then ⟨#[109, 48]⟩ else ⟨(109 :: decL k k).toArray⟩

theorem decL_fuel : ∀ (f k : Nat), k ≤ f → decL f k = decL k k := by
  intro f
  induction f using Nat.strongRecOn with
  | ind f ih =>
    intro k hk
    cases f with
    | zero => obtain rfl : k = 0 := by omega
              rfl
    | succ f =>
      by_cases h0 : k = 0
      · subst h0; simp [decL]
      · obtain ⟨m, rfl⟩ : ∃ m, k = m + 1 := ⟨k - 1, by omega⟩
        simp only [decL, if_neg h0]
        rw [ih f (by omega) _ (by omega), ih m (by omega) _ (by omega)]

theorem decL_step {k : Nat} (h : k ≠ 0) : decL k k = decL (k / 10) (k / 10) ++ [UInt8.ofNat (48 + k % 10)] := by
  obtain ⟨m, rfl⟩ : ∃ m, k = m + 1 := ⟨k - 1, by omega⟩
  simp only [decL, if_neg h]
  rw [decL_fuel m _ (by omega)]

theorem decL_len : ∀ (n k : Nat), k < 10 ^ n → (decL k k).length ≤ n := by
  intro n
  induction n with
  | zero => intro k hk; obtain rfl : k = 0 := by simpa using hk
            simp [decL]
  | succ n ih =>
    intro k hk
    by_cases h0 : k = 0
    · subst h0; simp [decL]
    · rw [decL_step h0, List.length_append]
      have := ih (k / 10) (by rw [Nat.div_lt_iff_lt_mul (by omega)]; rw [Nat.pow_succ] at hk; omega)
      simp; omega

theorem markText_size {k : Nat} (h : k < 10 ^ 18) : (markText k).size ≤ maxLen := by
  unfold markText maxLen
  split
  · decide
  · have := decL_len 18 k h
    show (109 :: decL k k).toArray.size ≤ _
    simp; omega

/-- Marks. -/
def mkT (t : T) (k : Nat) : T := ⟨decide (k % 3 = 0), markText (k + 1)⟩

def markTs : List T → Nat → List T := markL mkT (fun _ => 2)

def mkA (a : A) (k : Nat) : A := ⟨markText k, markTs a.args (k + 1)⟩

def cntA (a : A) : Nat := 1 + 2 * a.args.length

def markAs : List A → Nat → List A := markL mkA cntA

theorem sumL_two {α : Type} (xs : List α) : sumL (fun _ => 2) xs = 2 * xs.length := by
  induction xs with
  | nil => rfl
  | cons x xs ih => simp only [sumL, List.map_cons, List.sum_cons, List.length_cons] at *; omega

/-- What a marking function leaves. -/
def Marked {α : Type} (R : Rel α) (cs : List Value) (x' : α) (bs : List Nat) (k' B : Nat) (w : World) (e : Ending) (w' : World) : Prop :=
  e = .returned (.int .i64 k') ∧ R w' cs x' bs ∧ New B w' bs ∧ KeptBut bs w w'

/-- What a function leaves that looks at marks. -/
def Held (k' : Nat) (w : World) (e : Ending) (w' : World) : Prop := e = .returned (.int .i64 k') ∧ Below w.heap.size w w'

end D
end Go.Proofs.Ytlmngncogomgeaa
namespace Go.Proofs.Ytlmngncogomgeaa
open Go.RowKit D
set_option linter.unusedVariables false
end Go.Proofs.Ytlmngncogomgeaa
namespace Go.Proofs.Ytlmngncogomgeaa
open Go.RowKit D
set_option linter.unusedVariables false
theorem own_ne_blk {w : World} {base e size n b : Nat} {v : Value} {L : List Value} {cs : Array Value} {t : TypeId} {fr : Nat × Nat} (h : w.ownsRow base e size v n L) (hb : w.heap[b]? = some (.cells cs t fr)) (ht : t ≠ e) : v.ownBlock ≠ some b := by
  rcases h.2 with ⟨rfl, _⟩ | ⟨g, cap, cur, rfl, _, hh, _⟩
  · simp [Value.ownBlock]
  · intro e'
    have : g = b := by simpa [Value.ownBlock] using e'
    subst this
    rw [hb] at hh; injection hh with hh; injection hh with _ h2; exact ht h2

theorem cell_of_blk {w : World} {b o : Nat} {cs : Array Value} {t : TypeId} (h : w.heap[b]? = some (.cells cs t (0, 0))) : w.cell? ⟨b, o, none⟩ = cs[o]? := by simp [World.cell?, h]

theorem frozen_of_blk {w : World} {b o : Nat} {cs : Array Value} {t : TypeId} (h : w.heap[b]? = some (.cells cs t (0, 0))) : w.frozen? ⟨b, o, none⟩ = false := by simp [World.frozen?, h]

theorem D.row_lies {α : Type} {n : Nat} {R : Rel α} {w w' : World} {Ad : Option Addr} {L : List Value} {xs : List α} {b2 bs : List Nat} (h : Rowed n R w L xs b2) (hn : 0 < n)
    (hs : xs ≠ [] → ∃ b o, Ad = some ⟨b, o, none⟩ ∧ b ∈ bs ∧ ∀ j u, L[j]? = some u → w.cell? ⟨b, o + j, none⟩ = some u) (hlt : ∀ b ∈ bs, b < w.heap.size) (hb : Below w.heap.size w w') : Lies w' Ad L := by
  by_cases hx : xs = []
  · have : L = [] := List.length_eq_zero_iff.1 (by rw [h.len, hx]; simp)
    rw [this]; exact Lies.nil _ _
  · obtain ⟨b, o, rfl, hbb, hc⟩ := hs hx
    exact Lies.mk fun j u hj => (hb.cell (p := ⟨b, o + j, none⟩) (hlt b hbb)).trans (hc j u hj)

theorem D.own_ne {a b o n c : Nat} (h : a ≠ b) : (some a : Option Nat) ≠ (Value.slice (some ⟨b, o, none⟩) n c).ownBlock := fun e => h (by simpa [Value.ownBlock] using e)

theorem D.markTs_at {ts : List T} {k i : Nat} (h : i < ts.length) : (markTs ts k)[i]'(by unfold markTs; rw [markL_length]; exact h) = mkT ts[i] (k + 2 * i) := by
  unfold markTs
  rw [markL_at h, sumL_two, List.length_take, Nat.min_eq_left (by omega)]

theorem D.markTs_length (ts : List T) (k : Nat) : (markTs ts k).length = ts.length := markL_length ts k

theorem D.markAs_length (ts : List A) (k : Nat) : (markAs ts k).length = ts.length := markL_length ts k

theorem D.markAs_at {ts : List A} {k i : Nat} (h : i < ts.length) : (markAs ts k)[i]'(by rw [markAs_length]; exact h) = mkA ts[i] (k + sumL cntA (ts.take i)) := by
  unfold markAs
  rw [markL_at h]

theorem D.len_cnt {α : Type} (f : α → Nat) (hf : ∀ x, 1 ≤ f x) : ∀ (xs : List α), xs.length ≤ sumL f xs
  | [] => by simp [sumL]
  | x :: xs => by
    have h1 := len_cnt f hf xs
    have h2 := hf x
    simp only [sumL, List.map_cons, List.sum_cons, List.length_cons] at *
    omega

theorem D.cntA_pos (a : A) : 1 ≤ cntA a := by unfold cntA; omega

theorem D.sumL_le_of_lt {α : Type} (f : α → Nat) (xs : List α) (k : Nat) (h : k < xs.length) : sumL f (xs.take k) + f xs[k] ≤ sumL f xs := by
  have := sumL_snoc f xs k h
  have := sumL_take f xs (k + 1)
  omega

theorem D.New.sub {B : Nat} {w : World} {bs cs : List Nat} (h : New B w bs) (hn : cs.Nodup) (hs : ∀ c ∈ cs, c ∈ bs) : New B w cs := ⟨hn, fun b hb => h.own b (hs b hb)⟩

theorem D.New.mix {B : Nat} {w w' : World} {bs cs : List Nat} (h : New B w bs) (hc : New B w' cs) (hk : KeptBut cs w w') : New B w' bs :=
  ⟨h.nodup, fun b hb => by
    by_cases hm : b ∈ cs
    · exact hc.own b hm
    · rw [hk.block b (h.lt hb) hm]; exact h.own b hb⟩

theorem D.New.set {B : Nat} {w : World} {bs : List Nat} (h : New B w bs) (p : Addr) (u : Value) : New B (w.setCell p u) bs := ⟨h.nodup, fun b hb => ⟨(h.own b hb).1, Wri.setCell (h.wri b hb) p u⟩⟩

theorem D.New.left {B : Nat} {w : World} {b1 b2 : List Nat} (h : New B w (b1 ++ b2)) : New B w b1 := h.sub (List.nodup_append.1 h.nodup).1 fun c hc => List.mem_append_left _ hc

theorem D.New.right {B : Nat} {w : World} {b1 b2 : List Nat} (h : New B w (b1 ++ b2)) : New B w b2 := h.sub (List.nodup_append.1 h.nodup).2.1 fun c hc => List.mem_append_right _ hc

theorem D.New.parted {B : Nat} {w : World} {b1 b2 : List Nat} (h : New B w (b1 ++ b2)) : (∀ b ∈ b1, b ∉ b2) ∧ (∀ b ∈ b2, b ∉ b1) := by
  have := (List.nodup_append.1 h.nodup).2.2
  exact ⟨fun b hb hc => this b hb b hc rfl, fun b hb hc => this b hc b hb rfl⟩

end Go.Proofs.Ytlmngncogomgeaa
