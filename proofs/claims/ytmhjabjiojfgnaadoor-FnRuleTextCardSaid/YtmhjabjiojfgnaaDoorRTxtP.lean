/- Rules and bodies as texts: plain facts. -/
import Derived.Deep.RegionHeld3
import Derived.Deep.RegionWith
import Derived.BigQuiet
import Derived.Deep.DrawnRows
import Derived.WalkKit
import Derived.WalkSpells
import Derived.WalkLawsBesides
import Derived.Lib.Hide
import Derived.Lib.IndexBytes
import Derived.Deep.Slices
import Derived.Deep.Fields
import Derived.ChangeSame
import Derived.Deep.Draws
import Derived.Test.YtmhjabjiojfgnaaDoorPut
namespace Go.Proofs.YtmhjabjiojfgnaaDoor.D
open Go.RowKit

/-- Texts one behind the other, with something between. -/
def sepL {α : Type} (sep : List UInt8) (f : α → List UInt8) (xs : List α) : List UInt8 := xs.zipIdx.flatMap fun x => (if x.2 = 0 then [] else sep) ++ f x.1
theorem sepL_nil {α : Type} (sep : List UInt8) (f : α → List UInt8) : sepL sep f [] = [] := rfl
theorem sepL_snoc {α : Type} (sep : List UInt8) (f : α → List UInt8) (xs : List α) (k : Nat) (h : k < xs.length) : sepL sep f (xs.take (k + 1)) = sepL sep f (xs.take k) ++ ((if k = 0 then [] else sep) ++ f xs[k]) := by
  unfold sepL
  rw [List.take_succ_eq_append_getElem h, List.zipIdx_append, List.flatMap_append]
  have : (xs.take k).length = k := by simp; omega
  simp [this]
theorem sepL_le {α : Type} (sep : List UInt8) (f : α → List UInt8) (g : α → Nat) (c : Nat) (hf : ∀ x, (f x).length ≤ g x + c) (xs : List α) : (sepL sep f xs).length ≤ sumL g xs + (c + sep.length) * xs.length := by
  have : ∀ (xs : List α) (n : Nat), ((xs.zipIdx n).flatMap fun x => (if x.2 = 0 then [] else sep) ++ f x.1).length ≤ sumL g xs + (c + sep.length) * xs.length := by
    intro xs
    induction xs with
    | nil => intro n; simp [sumL]
    | cons t r ih =>
      intro n
      have h1 := ih (n + 1)
      have h2 := hf t
      have h3 : sumL g (t :: r) = g t + sumL g r := by simp [sumL]
      have h4 : (if n = 0 then [] else sep).length ≤ sep.length := by split <;> simp
      rw [List.zipIdx_cons, List.flatMap_cons, List.length_append, h3, List.length_cons, Nat.mul_add]
      simp only [List.length_append] at *
      omega
  exact this xs 0
theorem putL_le (a : A) : (putL a).length ≤ bulkA a + 2 := by
  have := argsL_le a.args
  have : a.name.data.toList.length = a.name.size := Array.length_toList
  unfold putL bulkA
  simp only [List.length_append, List.length_cons, List.length_nil]
  omega
def notL : List UInt8 := [110, 111, 116, 32]
def andL : List UInt8 := [32, 97, 110, 100, 32]
def ifL : List UInt8 := [32, 105, 102, 32]
def partL (p : Pt) : List UInt8 := (if p.no then notL else []) ++ putL p.atom
theorem partL_le (p : Pt) : (partL p).length ≤ bulkPt p + 6 := by
  have := putL_le p.atom
  unfold partL bulkPt notL
  split <;> simp <;> omega
def bodyL (ps : List Pt) : List UInt8 := sepL andL partL ps
theorem bodyL_le (ps : List Pt) : (bodyL ps).length ≤ 11 * bulkPts ps := by
  have := sepL_le andL partL bulkPt 6 partL_le ps
  have h : andL.length = 5 := rfl
  rw [h] at this
  unfold bodyL bulkPts
  omega
def ruleL (r : Ru) : List UInt8 := putL r.head ++ (if r.body = [] then [] else ifL ++ bodyL r.body)
def bodyOkB (ps : List Pt) : Bool := decide (ps.length ≤ 4) && ps.all fun p => atomOk p.atom
def ruleOk (r : Ru) : Bool := bodyOkB r.body && atomOk r.head
def putR (r : Ru) : ByteArray := if ruleOk r then ⟨(ruleL r).toArray⟩ else ⟨#[]⟩
theorem size_of (l : List UInt8) : (⟨l.toArray⟩ : ByteArray).size = l.length := List.size_toArray

end Go.Proofs.YtmhjabjiojfgnaaDoor.D
