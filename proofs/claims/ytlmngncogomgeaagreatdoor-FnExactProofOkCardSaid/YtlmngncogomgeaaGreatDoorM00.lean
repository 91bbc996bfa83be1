/- Short names. -/
import Derived.Lib.Hide
import Derived.Below
namespace Go.Proofs.YtlmngncogomgeaaGreatDoor
open Go.RowKit
theorem η {p : Prop} (h : p) : Hid p := h
theorem ζ {w : World} {o : Obj} : Below w.heap.size w (w.alloc o) := (Below.refl _ _).alloc (Nat.le_refl _) _
theorem ϑ {n : Nat} {w : World} : Below n w w := Below.refl _ _
theorem ν {n : Nat} : n ≤ n := Nat.le_refl _
theorem ε {n : Nat} : 0 ≤ n := Nat.zero_le _
theorem τ {a b c : Nat} (h : a ≤ b) (k : b ≤ c) : a ≤ c := Nat.le_trans h k
theorem κ {a b c : Nat} (h : a < b) (k : b ≤ c) : a < c := Nat.lt_of_lt_of_le h k
theorem ι {p q : Prop} (h : p) (k : q) : p ∧ q := And.intro h k
theorem μ {α : Type} {a : α} {s t : List α} : a ∈ s ++ t ↔ a ∈ s ∨ a ∈ t := List.mem_append
theorem ρ {α : Type} {n : Nat} {l : List α} (h : n < l.length) : l.take (n + 1) = l.take n ++ [l[n]] := List.take_succ_eq_append_getElem h
theorem ϕ {α : Type} {n : Nat} {l : List α} (h : l.length ≤ n) : l.take n = l := List.take_of_length_le h
theorem δ {α : Type} {l : List α} {n : Nat} (h : n < l.length) : l[n] ∈ l := List.getElem_mem h
theorem χ {α : Type} {s t : List α} : (s ++ t).length = s.length + t.length := List.length_append
theorem ξ {w wx : World} {a : Addr} {v : Value} (hb : Below w.heap.size w wx) (h : w.cell? a = some v) : wx.cell? a = some v := (hb.cell (World.block_lt_of_cell? _ _ h)).trans h
theorem ω (w : World) (o : Obj) : (w.alloc o).heap[w.heap.size]? = some o := by
 show (w.heap.push o)[w.heap.size]? = some o
 simp
theorem ψ {w : World} {b : Nat} {o : Obj} (h : w.heap[b]? = some o) : b < w.heap.size := by
 rcases Nat.lt_or_ge b w.heap.size with h' | h'
 · exact h'
 · simp [Array.getElem?_eq_none h'] at h
theorem π (w : World) (a : Addr) (u : Value) (k : Nat) (h : k ≠ a.block) : (w.setCell a u).heap[k]? = w.heap[k]? := Below.heap_setCell w a u k h
theorem Γ {α : Type} {a : α} {l : List α} : a ∈ a :: l := List.mem_cons_self ..
theorem Δ {α : Type} (y : α) {a : α} {l : List α} (h : a ∈ l) : a ∈ y :: l := List.mem_cons_of_mem y h
theorem Θ (n : Nat) : 0 < n.succ := Nat.zero_lt_succ n
theorem Φ {α : Type} {a b c : α} {p : Prop} (y : a = b) (hn : ¬ b = c := by decide) (h : a = c) : p := absurd (y.symm.trans h) hn
theorem Ψ {α : Type} {l : List α} {i : Nat} (h : i < l.length) : l[i]? = some l[i] := List.getElem?_eq_getElem h
theorem Ξ {α : Type} {a : α} {s : List α} (t : List α) (h : a ∈ s) : a ∈ s ++ t := List.mem_append_left t h
theorem Ω {α : Type} {a : α} {t : List α} (s : List α) (h : a ∈ t) : a ∈ s ++ t := List.mem_append_right s h
theorem ο (a b : Bool) : ((a && b) = true) = (a = true ∧ b = true) := Bool.and_eq_true a b
theorem ύ {α : Type} {a b : α} {l : List α} : a ∈ b :: l ↔ a = b ∨ a ∈ l := List.mem_cons
theorem ώ {α : Type} {a b : α} : a ∈ [b] ↔ a = b := List.mem_singleton
theorem ό {α : Type} {l : List α} {p : α → Bool} : l.all p = true ↔ ∀ x ∈ l, p x = true := List.all_eq_true
end Go.Proofs.YtlmngncogomgeaaGreatDoor
