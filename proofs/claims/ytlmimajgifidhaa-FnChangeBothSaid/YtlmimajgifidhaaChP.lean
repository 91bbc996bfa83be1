/- A change put into a block of its own: plain. -/
import Derived.Test.YtlmimajgifidhaaKind
import Derived.Test.YtlmimajgifidhaaCopy
namespace Go.Proofs.Ytlmimajgifidhaa
open Go.RowKit D
set_option linter.unusedVariables false

/-- A block of slices alone. -/
def D.SlBlk (w : World) (n0 : Nat) : Prop := ∀ o u, w.cell? ⟨n0, o, none⟩ = some u → ∃ A l c, u = .slice A l c
theorem D.sliceK_apart {α : Type} {n : Nat} {R : Rel α} {w : World} {n0 : Nat} (ha : SlBlk w n0) (h1 : ∀ cs x bs, R w cs x bs → ∃ u, cs[0]? = some u ∧ ∀ A l c, u ≠ .slice A l c) (h2 : ∀ cs x bs, R w cs x bs → n0 ∉ bs)
    {v : Value} {xs : List α} {bs : List Nat} (h : sliceK n R w [v] xs bs) : n0 ∉ bs := by
  intro hb
  obtain ⟨Ad, cap, hcs, hl, hm, g0, g1⟩ := h
  by_cases hne : xs = []
  · rw [g0 hne] at hb; simp at hb
  · obtain ⟨b, o, rfl, F, G, rfl, hF⟩ := g1 hne
    rcases List.mem_cons.1 hb with rfl | hb
    · match xs, hne with
      | y :: r, _ =>
        obtain ⟨a1, a2, a3⟩ := hF 0 y rfl
        obtain ⟨u, hu, hns⟩ := h1 _ _ _ a3
        obtain ⟨A, l, c, e⟩ := ha _ _ (a2 0 u hu)
        exact hns A l c e
    · obtain ⟨k, hk, hck⟩ := List.mem_flatMap.1 hb
      have hkl := List.mem_range.1 hk
      obtain ⟨a1, a2, a3⟩ := hF k xs[k] (List.getElem?_eq_getElem hkl)
      exact h2 _ _ _ a3 hck
theorem D.terms_apart {w : World} {n0 : Nat} (ha : SlBlk w n0) {v : Value} {ts : List T} {bs : List Nat} (h : termsK w [v] ts bs) : n0 ∉ bs :=
  sliceK_apart ha (fun cs x bs h => by obtain ⟨rfl, _⟩ := h; exact ⟨_, rfl, fun _ _ _ => by simp⟩) (fun cs x bs h => by obtain ⟨_, _, rfl⟩ := h; simp) h
theorem D.atoms_apart {w : World} {n0 : Nat} (ha : SlBlk w n0) {v : Value} {xs : List A} {bs : List Nat} (h : atomsK w [v] xs bs) : n0 ∉ bs :=
  sliceK_apart ha (fun cs x bs h => by obtain ⟨s, rfl, _⟩ := h; exact ⟨_, rfl, fun _ _ _ => by simp⟩) (fun cs x bs h => by obtain ⟨s, _, _, ht⟩ := h; exact terms_apart ha ht) h
theorem D.blk_later {w w' : World} {b : Nat} {cs : Array Value} {t : TypeId} (hb : Below w.heap.size w w') (h : w.heap[b]? = some (.cells cs t (0, 0))) : w'.heap[b]? = some (.cells cs t (0, 0)) := (hb.block b (lt_of_block h)).trans h
theorem D.blk_cell {w : World} {b o : Nat} {cs : Array Value} {t : TypeId} (h : w.heap[b]? = some (.cells cs t (0, 0))) : w.cell? ⟨b, o, none⟩ = cs[o]? := by simp [World.cell?, h]
theorem D.blk_frozen {w : World} {b o : Nat} {cs : Array Value} {t : TypeId} (h : w.heap[b]? = some (.cells cs t (0, 0))) : w.frozen? ⟨b, o, none⟩ = false := by simp [World.frozen?, h]
theorem D.slBlk_of {w : World} {n0 : Nat} {A B : Option Addr} {l c l' c' : Nat} {t : TypeId} (h : w.heap[n0]? = some (.cells #[.slice A l c, .slice B l' c'] t (0, 0))) : SlBlk w n0 := fun o u hu => by
  rw [blk_cell h] at hu
  match o with
  | 0 => exact ⟨A, l, c, by simpa using hu.symm⟩
  | 1 => exact ⟨B, l', c', by simpa using hu.symm⟩
  | o + 2 => simp at hu
theorem D.change_put {w : World} {n0 : Nat} {t : TypeId} (hb : w.heap[n0]? = some (.cells #[.slice none 0 0, .slice none 0 0] t (0, 0))) {v1 v2 : Value} {c : Ch} {b1 b2 : List Nat} (h1 : atomsK w [v1] c.comes b1) (h2 : atomsK w [v2] c.goes b2) :
    changeK ((w.setCell ⟨n0, 0, none⟩ v1).setCell ⟨n0, 1, none⟩ v2) [v1, v2] c (b1 ++ b2) := by
  have k1 := atoms_apart (slBlk_of hb) h1
  have k2 := atoms_apart (slBlk_of hb) h2
  refine ⟨v1, v2, b1, b2, rfl, rfl, atomsK_good.keep h1 fun b hm => ?_, atomsK_good.keep h2 fun b hm => ?_⟩
  · have : b ≠ n0 := fun e => k1 (e ▸ hm)
    rw [Below.heap_setCell _ _ _ _ this, Below.heap_setCell _ _ _ _ this]
  · have : b ≠ n0 := fun e => k2 (e ▸ hm)
    rw [Below.heap_setCell _ _ _ _ this, Below.heap_setCell _ _ _ _ this]
theorem D.blk_drew {w : World} {b : Nat} {o : Option Obj} (h : w.heap[b]? = o) : w.drew.heap[b]? = o := h
theorem D.New.setc {B : Nat} {w : World} {bs : List Nat} (h : New B w bs) (p : Addr) (u : Value) : New B (w.setCell p u) bs := ⟨h.nodup, fun b hb => ⟨(h.own b hb).1, Wri.setCell (h.wri b hb) p u⟩⟩
theorem D.new_blk (w : World) (o : Obj) : (w.alloc o).heap[w.heap.size]? = some o := heap_alloc_new w o
theorem D.new_two (w : World) (o1 o2 : Obj) : ((w.alloc o1).alloc o2).heap[w.heap.size + 1]? = some o2 := by
  have := heap_alloc_new (w.alloc o1) o2
  simpa using this
/-- A change in new memory. -/
def D.MakesC (c : Ch) (B : Nat) (w : World) (e : Ending) (w' : World) : Prop := Below B w w' ∧ ∃ cs bs, e = .returned (.agg cs) ∧ changeK w' cs.toList c bs ∧ New B w' bs

def D.fewA (xs : List A) : Prop := xs.length ≤ 1000000 ∧ ∀ x ∈ xs, x.args.length ≤ 16777216
def D.ofL (xs ys : List A) : Ch := if (factsOk xs && factsOk ys) = true then ⟨lessL ys xs, lessL xs ys⟩ else ⟨[], []⟩
theorem D.few_facts {xs : List A} (h : factsOk xs = true) : fewA xs :=
  ⟨Nat.le_trans (factsOk_len h) (by omega), fun x hx => Nat.le_trans (fact_args (factsOk_fact h x hx)) (by omega)⟩
theorem D.few_less {xs : List A} (h : fewA xs) (ys : List A) : fewA (lessL xs ys) :=
  ⟨Nat.le_trans (List.length_filter_le _ _) h.1, fun x hx => h.2 x (mem_less hx)⟩
theorem D.few_nil : fewA [] := ⟨by simp, fun x hx => by simp at hx⟩

end Go.Proofs.Ytlmimajgifidhaa
