/- append of whatever slice to a slice of the call's own; copy of elements of more than one cell: laws. No program is named here. -/
import Derived.WalkKit
import Derived.Lib.Hide
import Derived.Maps.AppendAt
import Derived.Laws.OwnMore
import Derived.Laws.CopyRow
import Derived.Laws.CopyOwn
import Derived.RegionTactic
import Derived.OwnWalkIn
import Derived.Test.YtbppnelbjklpeaaRow
namespace Go.Proofs.Ytbppnelbjklpeaa
open Go.RowKit D
set_option linter.unusedVariables false

namespace D
variable {P : Program}

theorem addr_add (b o j : Nat) : (⟨b, o, none⟩ : Addr).add j = ⟨b, o + j, none⟩ := by unfold Addr.add; split <;> simp_all
theorem own_shape {w : World} {base e size n : Nat} {v : Value} {L : List Value} (h : w.ownsRow base e size v n L) : ∃ A cap, v = .slice A n cap := by
  rcases h.2 with ⟨rfl, rfl⟩ | ⟨g, cap, _, rfl, _⟩
  · exact ⟨none, 0, rfl⟩
  · exact ⟨_, cap, rfl⟩
theorem own_below' {w w' : World} {base e size n B : Nat} {v : Value} {L : List Value} (h : w.ownsRow base e size v n L) (hg : w.grownBy w' (some B)) (hne : v.ownBlock ≠ some B) : w'.ownsRow base e size v n L :=
  h.kept hg (.inr hne)

theorem run_app_nil (w : World) (base : Nat) (t ty e : TypeId) (i : TypeInfo) (size : Nat) (ht : P.underlying t = some (.slice e)) (hi : P.info? e = some i)
    (v : Value) (n : Nat) (xs : List Value) (hown : w.ownsRow base e size v n xs) (c : Nat) : (Builtin.append_ #[t, t] ty #[v, .slice none 0 c]).run P w = .ok v w := by
  rcases hown.2 with ⟨rfl, rfl⟩ | ⟨g, cap, cur, rfl, _, _, hnc, _⟩
  · simp [Builtin.append_, run_underlying ht, sizeOf, typeInfo, hi, Builtin.lenOf, Builtin.firstCells]
  · simp [Builtin.append_, run_underlying ht, sizeOf, typeInfo, hi, Builtin.lenOf, Builtin.firstCells, hnc, storeCells]

/-- The cells that are appended lie where the source's address says. -/
def Lies (w : World) (Ad : Option Addr) (news : List Value) : Prop := ∀ j u, news[j]? = some u → ∃ ad, Ad = some ad ∧ w.cell? (ad.add j) = some u
theorem Lies.nil (w : World) (Ad : Option Addr) : Lies w Ad [] := fun j u h => by simp at h
theorem Lies.mk {w : World} {b o : Nat} {news : List Value} (h : ∀ j u, news[j]? = some u → w.cell? ⟨b, o + j, none⟩ = some u) : Lies w (some ⟨b, o, none⟩) news := fun j u hj => ⟨_, rfl, by rw [addr_add]; exact h j u hj⟩

theorem run_app (w : World) (base : Nat) (t ty e : TypeId) (i : TypeInfo) (z : Value) (size bytes : Nat) (ht : P.underlying t = some (.slice e)) (hi : P.info? e = some i) (hz : i.zero = some z)
    (hsize : i.size = size) (hby : i.bytes = bytes) (hzs : z.cells.size = size) (hsz : 0 < size)
    (v : Value) (n : Nat) (xs : List Value) (hown : w.ownsRow base e size v n xs)
    (Ad : Option Addr) (m c : Nat) (news : List Value) (hl : news.length = m * size) (hnews : Lies w Ad news) (h1 : ∀ u ∈ news, Value.oneCell' u = true)
    (h63 : n + m ≤ maxLen) (hbytes : (n + m) * bytes ≤ 140737488355328) (hbase : base ≤ w.heap.size) :
    ∃ A cap w', (Builtin.append_ #[t, t] ty #[v, .slice Ad m c]).run P w = .ok (.slice A (n + m) cap) w' ∧ w'.ownsRow base e size (.slice A (n + m) cap) (n + m) (xs ++ news) ∧ w.grownBy w' v.ownBlock ∧
      ((Value.slice A (n + m) cap).ownBlock = v.ownBlock ∨ (Value.slice A (n + m) cap).ownBlock = some w.heap.size) := by
  cases Ad with
  | none =>
    have hm : m = 0 := by
      rcases Nat.eq_zero_or_pos m with h | h
      · exact h
      · exfalso
        have hpos : 0 < news.length := by rw [hl]; exact Nat.mul_pos h hsz
        obtain ⟨ad, h, _⟩ := hnews 0 _ (List.getElem?_eq_getElem hpos)
        cases h
    subst hm
    obtain rfl : news = [] := List.length_eq_zero_iff.1 (by rw [hl]; simp)
    obtain ⟨A, cap, rfl⟩ := own_shape hown
    exact ⟨A, cap, w, run_app_nil w base t ty e i size ht hi _ n xs hown c, by rw [List.append_nil]; exact hown, ⟨rfl, rfl, rfl, Nat.le_refl _, fun _ _ _ => rfl⟩, .inl rfl⟩
  | some ad =>
    obtain ⟨v', w', hr, h2, h3, _, h5⟩ := run_append_own_at (P := P) w base t ty e i z size bytes ht hi hz hsize hby hzs hsz v n xs hown ad m c news hl
      (fun j u hj => by obtain ⟨ad', h, h'⟩ := hnews j u hj; cases h; exact h') h1 h63 hbytes hbase
    obtain ⟨A, cap, rfl⟩ := own_shape h2
    exact ⟨A, cap, w', hr, h2, h3, h5⟩

theorem wp_app {w : World} {o : Oper} {a : Act} {K : Act → World → Prop} {Q : Exit → Act → World → Prop} (s x : Operand) (t : TypeId)
    (ho : o.op = .call { callee := .builtin .append, args := #[s, x], argTypes := #[t, t] })
    (base : Nat) (e : TypeId) (i : TypeInfo) (z : Value) (size bytes : Nat) (ht : P.underlying t = some (.slice e)) (hi : P.info? e = some i) (hz : i.zero = some z)
    (hsize : i.size = size) (hby : i.bytes = bytes) (hzs : z.cells.size = size) (hsz : 0 < size)
    (v : Value) (n : Nat) (xs : List Value) (hs : a.eval s = v) (hown : w.ownsRow base e size v n xs)
    (Ad : Option Addr) (m c : Nat) (news : List Value) (hx : a.eval x = .slice Ad m c) (hl : news.length = m * size) (hnews : Lies w Ad news) (h1 : ∀ u ∈ news, Value.oneCell' u = true)
    (h63 : n + m ≤ maxLen) (hbytes : (n + m) * bytes ≤ 140737488355328) (hbase : base ≤ w.heap.size)
    (h : ∀ A cap w', w'.ownsRow base e size (.slice A (n + m) cap) (n + m) (xs ++ news) → w.grownBy w' v.ownBlock → ((Value.slice A (n + m) cap).ownBlock = v.ownBlock ∨ (Value.slice A (n + m) cap).ownBlock = some w.heap.size) → K (a.put o.dst (.slice A (n + m) cap)) w') : o.wp P a w K Q := by
  obtain ⟨A, cap, w', hr, h2, h3, h4⟩ := run_app (P := P) w base t o.type e i z size bytes ht hi hz hsize hby hzs hsz v n xs hown Ad m c news hl hnews h1 h63 hbytes hbase
  unfold Oper.wp execOp
  simp only [ho, resolve, invoke, builtin, Sem.run_bind, Sem.run_pure, Result.andThen_ok, List.map_toArray, List.map_cons, List.map_nil, hs, hx, hr]
  exact h A cap w' h2 h3 h4
theorem wpList_app {w : World} {ops : Array Oper} {rest : List Oper} {o : Oper} {a : Act} {Q : Exit → Act → World → Prop} (hgd : o.guard = none) (s x : Operand) (t : TypeId)
    (ho : o.op = .call { callee := .builtin .append, args := #[s, x], argTypes := #[t, t] })
    (base : Nat) (e : TypeId) (i : TypeInfo) (z : Value) (size bytes : Nat) (ht : P.underlying t = some (.slice e)) (hi : P.info? e = some i) (hz : i.zero = some z)
    (hsize : i.size = size) (hby : i.bytes = bytes) (hzs : z.cells.size = size) (hsz : 0 < size)
    (v : Value) (n : Nat) (xs : List Value) (hs : a.eval s = v) (hown : w.ownsRow base e size v n xs)
    (Ad : Option Addr) (m c : Nat) (news : List Value) (hx : a.eval x = .slice Ad m c) (hl : news.length = m * size) (hnews : Lies w Ad news) (h1 : ∀ u ∈ news, Value.oneCell' u = true)
    (h63 : n + m ≤ maxLen) (hbytes : (n + m) * bytes ≤ 140737488355328) (hbase : base ≤ w.heap.size)
    (h : ∀ A cap w', w'.ownsRow base e size (.slice A (n + m) cap) (n + m) (xs ++ news) → w.grownBy w' v.ownBlock → ((Value.slice A (n + m) cap).ownBlock = v.ownBlock ∨ (Value.slice A (n + m) cap).ownBlock = some w.heap.size) → wpList P ops Q rest (a.put o.dst (.slice A (n + m) cap)) w') : wpList P ops Q (o :: rest) a w :=
  wpList_plain hgd fun _ hK => wp_app s x t ho base e i z size bytes ht hi hz hsize hby hzs hsz v n xs hs hown Ad m c news hx hl hnews h1 h63 hbytes hbase fun A cap w' h2 h3 h4 => hK _ _ (h A cap w' h2 h3 h4)
theorem step_app {w : World} {ops : Array Oper} {o : Oper} {a : Act} {K : Act → World → Prop} {Q : Exit → Act → World → Prop} {E : Prop} (hgd : o.guard = none) (s x : Operand) (t : TypeId)
    (ho : o.op = .call { callee := .builtin .append, args := #[s, x], argTypes := #[t, t] })
    (base : Nat) (e : TypeId) (i : TypeInfo) (z : Value) (size bytes : Nat) (ht : P.underlying t = some (.slice e)) (hi : P.info? e = some i) (hz : i.zero = some z)
    (hsize : i.size = size) (hby : i.bytes = bytes) (hzs : z.cells.size = size) (hsz : 0 < size)
    (v : Value) (n : Nat) (xs : List Value) (hs : a.eval s = v) (hown : w.ownsRow base e size v n xs)
    (Ad : Option Addr) (m c : Nat) (news : List Value) (hx : a.eval x = .slice Ad m c) (hl : news.length = m * size) (hnews : Lies w Ad news) (h1 : ∀ u ∈ news, Value.oneCell' u = true)
    (h63 : n + m ≤ maxLen) (hbytes : (n + m) * bytes ≤ 140737488355328) (hbase : base ≤ w.heap.size)
    (h : ∀ A cap w', w'.ownsRow base e size (.slice A (n + m) cap) (n + m) (xs ++ news) → w.grownBy w' v.ownBlock → ((Value.slice A (n + m) cap).ownBlock = v.ownBlock ∨ (Value.slice A (n + m) cap).ownBlock = some w.heap.size) → K (a.put o.dst (.slice A (n + m) cap)) w') :
    if Region.wanted o (yielded ops a.tmps) = true then Oper.wp P o a w K Q else E := by
  have hw : Region.wanted o (yielded ops a.tmps) = true := by simp [Region.wanted, hgd]
  rw [if_pos hw]
  exact wp_app s x t ho base e i z size bytes ht hi hz hsize hby hzs hsz v n xs hs hown Ad m c news hx hl hnews h1 h63 hbytes hbase h

/-- n elements of size cells each copied over an owned row of n elements. -/
theorem run_copy_n (w : World) (base : Nat) (dT sT ty e : TypeId) (size n dCap : Nat) (hu : P.underlying dT = some (.slice e)) (hs : (P.info? e).map (·.size) = some size) (g : Nat) (L : List Value)
    (hown : w.ownsRow base e size (.slice (some ⟨g, 0, none⟩) n dCap) n L) (ad : Addr) (sCap : Nat) (cs : List Value) (hn : cs.length = n * size)
    (hsrc : ∀ j v, cs[j]? = some v → w.cell? (ad.add j) = some v) (h1 : ∀ v ∈ cs, Value.oneCell' v = true) :
    ∃ w', (Builtin.copy_ #[dT, sT] ty #[.slice (some ⟨g, 0, none⟩) n dCap, .slice (some ad) n sCap]).run P w = .ok (goInt n) w' ∧ w'.ownsRow base e size (.slice (some ⟨g, 0, none⟩) n dCap) n cs ∧ w.grownBy w' (some g) := by
  rcases hown.2 with ⟨h, _⟩ | ⟨g', cap, cur, hv, hb, hh, hc1, hc2, hc3, _⟩
  · cases h
  · simp only [Value.slice.injEq, Option.some.injEq, Addr.mk.injEq, and_true, true_and] at hv
    obtain ⟨rfl, rfl⟩ := hv
    have hle : n * size ≤ dCap * size := Nat.mul_le_mul_right _ hc1
    have hl := run_loadCells_list (P := P) w ad cs hsrc
    have hst := run_storeCells_at P g 0 e cs 0 cur w hh (by omega) h1
    have hh2 := setRow_heap w g cur (cur.toList.take (0 + 0) ++ cs ++ cur.toList.drop (0 + 0 + cs.length)).toArray e (0, 0) hh
    refine ⟨_, ?_, ⟨hn, .inr ⟨g, dCap, _, rfl, hb, hh2, hc1, hc2, ?_, ?_⟩⟩, ⟨rfl, rfl, rfl, by simp [World.setRow], fun k _ hk => setRow_other w g k _ fun e => hk (by rw [e])⟩⟩
    · cases hq : P.info? e with
      | none => simp [hq] at hs
      | some i =>
        have hi : i.size = size := by simpa [hq] using hs
        have hnat : Nat.min n n = n := Nat.min_self n
        simp [Builtin.copy_, run_underlying hu, Builtin.lenOf, Builtin.firstCells, sizeOf, typeInfo, hq, hi, hnat, ← hn, hl, hst]
    · simp; omega
    · simp [← hn]
theorem wpList_copy_n {w : World} {ops : Array Oper} {rest : List Oper} {o : Oper} {a : Act} {Q : Exit → Act → World → Prop} (hgd : o.guard = none) (d s : Operand) (dT sT : TypeId)
    (ho : o.op = .call { callee := .builtin .copy, args := #[d, s], argTypes := #[dT, sT] }) (base : Nat) (e : TypeId) (size n dCap : Nat) (hu : P.underlying dT = some (.slice e)) (hsz : (P.info? e).map (·.size) = some size) (g : Nat) (L : List Value)
    (hown : w.ownsRow base e size (.slice (some ⟨g, 0, none⟩) n dCap) n L) (ad : Addr) (sCap : Nat) (cs : List Value) (hn : cs.length = n * size)
    (hsrc : ∀ j v, cs[j]? = some v → w.cell? (ad.add j) = some v) (h1 : ∀ v ∈ cs, Value.oneCell' v = true)
    (hd : a.eval d = .slice (some ⟨g, 0, none⟩) n dCap) (hs : a.eval s = .slice (some ad) n sCap)
    (h : ∀ w', w'.ownsRow base e size (.slice (some ⟨g, 0, none⟩) n dCap) n cs → w.grownBy w' (some g) → wpList P ops Q rest (a.put o.dst (goInt n)) w') : wpList P ops Q (o :: rest) a w := by
  refine wpList_plain hgd fun K hK => ?_
  obtain ⟨w', hrun, h2, h3⟩ := run_copy_n (P := P) w base dT sT o.type e size n dCap hu hsz g L hown ad sCap cs hn hsrc h1
  unfold Oper.wp
  simp [execOp, ho, resolve, invoke, builtin, hd, hs, hrun, Result.andThen]
  exact hK _ _ (h w' h2 h3)

/-- An empty slice of the call's own that is not nil. -/
theorem own_empty {w : World} {base e size g : Nat} (hh : w.heap[g]? = some (.cells #[] e (0, 0))) (hb : base ≤ g) : w.ownsRow base e size (.slice (some ⟨g, 0, none⟩) 0 0) 0 [] :=
  ⟨by simp, .inr ⟨g, 0, #[], rfl, hb, hh, Nat.le_refl _, Nat.zero_le _, by simp, by simp⟩⟩

/-- A slice of the call's own that collects elements: it owns the cells L, which are the elements xs; what these lead to lies elsewhere. -/
structure Coll {α : Type} (n : Nat) (R : Rel α) (base e : Nat) (w : World) (v : Value) (L : List Value) (xs : List α) (bs : List Nat) : Prop where
  own : w.ownsRow base e n v xs.length L
  row : Rowed n R w L xs bs
  far : ∀ b ∈ bs, v.ownBlock ≠ some b
section
variable {α : Type} {n : Nat} {R : Rel α} {base e : Nat}
theorem Coll.nil (w : World) : Coll n R base e w (.slice none 0 0) [] ([] : List α) [] := ⟨World.ownsRow_nil _ _ _ _, Rowed.nil, fun b hb => by simp at hb⟩
theorem Coll.empty {w : World} {g : Nat} (hh : w.heap[g]? = some (.cells #[] e (0, 0))) (hb : base ≤ g) : Coll n R base e w (.slice (some ⟨g, 0, none⟩) 0 0) [] ([] : List α) [] := ⟨own_empty hh hb, Rowed.nil, fun b hb => by simp at hb⟩
theorem Coll.below {w w' : World} {v : Value} {L : List Value} {xs : List α} {bs : List Nat} (g : Good R) (h : Coll n R base e w v L xs bs) (hb : Below w.heap.size w w') : Coll n R base e w' v L xs bs :=
  ⟨own_below h.own hb, h.row.below g hb, h.far⟩
theorem Coll.slice {w : World} {v : Value} {L : List Value} {xs : List α} {bs : List Nat} (h : Coll n R base e w v L xs bs) : ∃ b2, sliceK n R w [v] xs b2 ∧ ∀ b ∈ b2, base ≤ b ∨ b ∈ bs := h.row.slice h.own
theorem Coll.app {W w2 : World} {v v2 : Value} {L M : List Value} {xs ys : List α} {bs b3 : List Nat} (g : Good R) (h : Coll n R base e W v L xs bs) (k : Rowed n R W M ys b3) (hf : ∀ b ∈ b3, v.ownBlock ≠ some b)
    (hown : w2.ownsRow base e n v2 (xs.length + ys.length) (L ++ M)) (hgrow : W.grownBy w2 v.ownBlock) (hloc : v2.ownBlock = v.ownBlock ∨ v2.ownBlock = some W.heap.size) : Coll n R base e w2 v2 (L ++ M) (xs ++ ys) (bs ++ b3) := by
  have h1 := h.row.append k
  refine ⟨by rw [List.length_append]; exact hown, h1.keep g fun b hb => hgrow.block b (h1.lt g b hb) ?_, fun b hb => ?_⟩
  · rcases List.mem_append.1 hb with hb | hb
    · exact (h.far b hb).symm
    · exact (hf b hb).symm
  · have hne : v.ownBlock ≠ some b := by
      rcases List.mem_append.1 hb with hb | hb
      · exact h.far b hb
      · exact hf b hb
    have hlt := h1.lt g b hb
    rcases hloc with e | e
    · rw [e]; exact hne
    · rw [e]; intro e; injection e; omega
theorem own_block_lt {w : World} {size k : Nat} {v : Value} {L : List Value} (h : w.ownsRow base e size v k L) {b : Nat} (hb : w.heap.size ≤ b) : v.ownBlock ≠ some b := by
  rcases h.2 with ⟨rfl, _⟩ | ⟨g, cap, cur, rfl, _, hh, _⟩
  · simp [Value.ownBlock]
  · intro e'
    have : g = b := by simpa [Value.ownBlock] using e'
    have := lt_of_block hh
    omega
theorem own_block_ge {w : World} {size k : Nat} {v : Value} {L : List Value} (h : w.ownsRow base e size v k L) {b : Nat} (hb : b < base) : v.ownBlock ≠ some b := by
  rcases h.2 with ⟨rfl, _⟩ | ⟨g, cap, cur, rfl, hg, _⟩
  · simp [Value.ownBlock]
  · intro e'
    have : g = b := by simpa [Value.ownBlock] using e'
    omega
theorem own_grown {w0 w w2 : World} {B size k : Nat} {v : Value} {L : List Value} (hb : Below B w0 w) (h : w.ownsRow base e size v k L) (hB : B ≤ base) (hs : B ≤ w.heap.size) (hg : w.grownBy w2 v.ownBlock) : Below B w0 w2 :=
  hb.grown hg hs fun k e' => by
    rcases h.2 with ⟨rfl, _⟩ | ⟨g, cap, cur, rfl, hg', _⟩
    · simp [Value.ownBlock] at e'
    · have : g = k := by simpa [Value.ownBlock] using e'
      omega
end
theorem wpList_coll {α : Type} {R : Rel α} {w : World} {ops : Array Oper} {rest : List Oper} {o : Oper} {a : Act} {Q : Exit → Act → World → Prop} (hgd : o.guard = none) (s x : Operand) (t : TypeId)
    (ho : o.op = .call { callee := .builtin .append, args := #[s, x], argTypes := #[t, t] })
    (base : Nat) (e : TypeId) (i : TypeInfo) (z : Value) (size bytes : Nat) (ht : P.underlying t = some (.slice e)) (hi : P.info? e = some i) (hz : i.zero = some z)
    (hsize : i.size = size) (hby : i.bytes = bytes) (hzs : z.cells.size = size) (hsz : 0 < size) (g : Good R)
    (v : Value) (k : Nat) (L : List Value) (xs : List α) (bs : List Nat) (hs : a.eval s = v) (hC : Coll size R base e w v L xs bs) (hk : xs.length = k)
    (Ad : Option Addr) (m c : Nat) (M : List Value) (ys : List α) (b3 : List Nat) (hx : a.eval x = .slice Ad m c) (hR : Rowed size R w M ys b3) (hm : ys.length = m) (hL : Lies w Ad M) (hf : ∀ b ∈ b3, v.ownBlock ≠ some b)
    (h63 : k + m ≤ maxLen) (hbytes : (k + m) * bytes ≤ 140737488355328) (w0 : World) (B : Nat) (hB : Below B w0 w) (hBb : B ≤ base) (hbase : base ≤ w.heap.size)
    (h : ∀ A cap w', Coll size R base e w' (.slice A (k + m) cap) (L ++ M) (xs ++ ys) (bs ++ b3) → Below B w0 w' → base ≤ w'.heap.size → w.grownBy w' v.ownBlock → wpList P ops Q rest (a.put o.dst (.slice A (k + m) cap)) w') : wpList P ops Q (o :: rest) a w := by
  subst hk hm
  refine wpList_app hgd s x t ho base e i z size bytes ht hi hz hsize hby hzs hsz v xs.length L hs hC.own Ad ys.length c M hx hR.len hL hR.one h63 hbytes hbase fun A cap w' h2 h3 h4 => ?_
  exact h A cap w' (hC.app g hR hf h2 h3 h4) (own_grown hB hC.own hBb (Nat.le_trans hBb hbase) h3) (Nat.le_trans hbase h3.size) h3
theorem step_coll {α : Type} {R : Rel α} {w : World} {ops : Array Oper} {o : Oper} {a : Act} {K : Act → World → Prop} {Q : Exit → Act → World → Prop} {E : Prop} (hgd : o.guard = none) (s x : Operand) (t : TypeId)
    (ho : o.op = .call { callee := .builtin .append, args := #[s, x], argTypes := #[t, t] })
    (base : Nat) (e : TypeId) (i : TypeInfo) (z : Value) (size bytes : Nat) (ht : P.underlying t = some (.slice e)) (hi : P.info? e = some i) (hz : i.zero = some z)
    (hsize : i.size = size) (hby : i.bytes = bytes) (hzs : z.cells.size = size) (hsz : 0 < size) (g : Good R)
    (v : Value) (k : Nat) (L : List Value) (xs : List α) (bs : List Nat) (hs : a.eval s = v) (hC : Coll size R base e w v L xs bs) (hk : xs.length = k)
    (Ad : Option Addr) (m c : Nat) (M : List Value) (ys : List α) (b3 : List Nat) (hx : a.eval x = .slice Ad m c) (hR : Rowed size R w M ys b3) (hm : ys.length = m) (hL : Lies w Ad M) (hf : ∀ b ∈ b3, v.ownBlock ≠ some b)
    (h63 : k + m ≤ maxLen) (hbytes : (k + m) * bytes ≤ 140737488355328) (w0 : World) (B : Nat) (hB : Below B w0 w) (hBb : B ≤ base) (hbase : base ≤ w.heap.size)
    (h : ∀ A cap w', Coll size R base e w' (.slice A (k + m) cap) (L ++ M) (xs ++ ys) (bs ++ b3) → Below B w0 w' → base ≤ w'.heap.size → w.grownBy w' v.ownBlock → K (a.put o.dst (.slice A (k + m) cap)) w') : if Region.wanted o (yielded ops a.tmps) = true then Oper.wp P o a w K Q else E := by
  subst hk hm
  refine step_app hgd s x t ho base e i z size bytes ht hi hz hsize hby hzs hsz v xs.length L hs hC.own Ad ys.length c M hx hR.len hL hR.one h63 hbytes hbase fun A cap w' h2 h3 h4 => ?_
  exact h A cap w' (hC.app g hR hf h2 h3 h4) (own_grown hB hC.own hBb (Nat.le_trans hBb hbase) h3) (Nat.le_trans hbase h3.size) h3
theorem lies_block {w : World} {g : Nat} {cs : Array Value} {t : TypeId} {fr : Nat × Nat} (h : w.heap[g]? = some (.cells cs t fr)) : Lies w (some ⟨g, 0, none⟩) cs.toList :=
  Lies.mk fun j u hj => by
    rw [Nat.zero_add, cell_of_row w g j cs t fr h]
    simpa using hj
/-- What a function leaves whose result reads as x; below B all is as it was. -/
def Reads {α : Type} (R : Rel α) (x : α) (B : Nat) (w : World) (e : Ending) (w' : World) : Prop := Below B w w' ∧ ∃ v bs, e = .returned v ∧ R w' [v] x bs
def ReadsA {α : Type} (R : Rel α) (x : α) (B : Nat) (w : World) (e : Ending) (w' : World) : Prop := Below B w w' ∧ ∃ cs bs, e = .returned (.agg cs) ∧ R w' cs.toList x bs
end D

end Go.Proofs.Ytbppnelbjklpeaa
