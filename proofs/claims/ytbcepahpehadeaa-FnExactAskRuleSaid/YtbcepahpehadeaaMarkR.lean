/- The walks of markRule, heldRule. -/
import Derived.WalkKit
import Derived.Lib.Hide
import Derived.WalkSpells
import Derived.WalkLawsBesides
import Derived.BigQuiet
import Derived.Deep.RegionHeld3
import Derived.Deep.RegionWith
import Derived.Deep.DrawnRows
import Derived.Test.YtbcepahpehadeaaProg
import Derived.Test.YtbcepahpehadeaaMarkP
import Derived.Test.YtbcepahpehadeaaHeldA
namespace Go.Proofs.Ytbcepahpehadeaa
open Go.RowKit D
set_option linter.unusedVariables false
attribute [local go_sem ↓] Go.wp_at_zero Go.wp_at_succ

def D.cntR (r : Ru) : Nat := 2 * r.head.args.length + sumL cntP r.body
def D.markR (r : Ru) (k : Nat) : Ru := ⟨⟨r.head.name, markTs r.head.args k⟩, markPs r.body (k + 2 * r.head.args.length)⟩

set_option maxRecDepth 100000 in
set_option maxHeartbeats 1000000 in
theorem markRule_any (r : Ru) (c0 c1 c2 : Value) (bs : List Nat) (k B : Nat) (w : World) (h : ruleK w [c0, c1, c2] r bs) (hN : New B w bs) (hB : B ≤ w.heap.size) (hk : k + cntR r ≤ 1000000000) :
    Calls Try.prog 17 #[.agg #[c0, c1, c2], .int .i64 k] w (Marked ruleK [c0, c1, c2] (markR r k) bs (k + cntR r) B w) := by
  obtain ⟨Ad, cap, Ae, cape, rfl, rfl, rfl⟩ := rule_cells2 h
  obtain ⟨b1, b2, rfl, ht, hp⟩ := rule_parts h
  have hkk : k + 2 * r.head.args.length + sumL cntP r.body ≤ 1000000000 := by unfold cntR at hk; omega
  have hA0 : Below w.heap.size w (w.alloc (.cells #[.string r.head.name, .slice Ad r.head.args.length cap, .slice Ae r.body.length cape] 37)) := (Below.refl _ _).alloc (Nat.le_refl _) _
  have hlt := ruleK_good.lt h
  have hN0 := hN.below hA0
  have hm1 := markAtom_any r.head _ _ b1 k B _ (atomK_good.below ht hA0) hN0.left (Nat.le_trans hB hA0.size) (by omega)
  have hm2 := fun w' (h' : partsK w' [.slice Ae r.body.length cape] r.body b2) (n' : New B w' b2) => markPartS_any r.body _ b2 (k + 2 * r.head.args.length) B w' h' n' hkk
  have HP := Lib.hid (partsK_good.below hp hA0)
  have HN := Lib.hid hN0
  have HL := Lib.hid hlt
  have HC : Hid (k + cntR r = k + 2 * r.head.args.length + sumL cntP r.body) := Lib.hid (by unfold cntR; omega)
  clear h ht hp hN hN0 hlt hk
  go_enter Try.func17, Try.ntmps17
  go_wp2_with fail
  refine hm1.mono ?_
  rintro e w1 ⟨rfl, hR1, hN1, hK1⟩
  have x1 : w1.cell? ⟨w.heap.size, 2, none⟩ = some (.slice Ae r.body.length cape) := hK1.cell (by intro hb; have h1 : w.heap.size ∈ b1 := hb; have := HL.out _ (List.mem_append_left _ h1); omega) (by go_simp)
  have hP2 := Good.kept partsK_good HP.out hK1 HN.out.parted.2
  have hN2 := New.kept HN.out.right hK1 HN.out.parted.2
  have H1 := Lib.hid (And.intro hR1 (And.intro hN1 hK1))
  clear hm1 hR1 hN1 hK1
  have hm3 := hm2 _ hP2 hN2
  clear hm2 hP2 hN2
  go_wp2_with fail
  refine hm3.mono ?_
  rintro e w2 ⟨rfl, hR2, hN3, hK2⟩
  have HR1 := Lib.hid (Good.kept atomK_good H1.out.1 hK2 HN.out.parted.1)
  have HN1 := Lib.hid (New.kept H1.out.2.1 hK2 HN.out.parted.1)
  have H2 := Lib.hid (And.intro hR2 (And.intro hN3 hK2))
  clear hm3 hR2 hN3 hK2
  go_wp2
  go_ret
  refine ⟨by rw [HC.out]; rfl, ?_, ?_, ?_⟩
  · obtain ⟨s, hs, hn, ht⟩ := HR1.out
    simp only [List.cons.injEq, and_true] at hs
    obtain ⟨_, rfl⟩ := hs
    exact ⟨_, _, b1, b2, rfl, hn, rfl, ht, H2.out.1⟩
  · exact ⟨HN.out.nodup, fun b hb => (List.mem_append.1 hb).elim (fun h => HN1.out.own b h) (fun h => H2.out.2.1.own b h)⟩
  · exact ((KeptBut.of_below hA0).trans (H1.out.2.2.mono fun b hb => List.mem_append_left _ hb)).trans (H2.out.2.2.mono fun b hb => List.mem_append_right _ hb)

set_option maxRecDepth 100000 in
set_option maxHeartbeats 1000000 in
theorem heldRule_at (a a' : A) (ys ys' : List Pt) (A1 A2 : Option Addr) (p1 p2 : Nat) (b1 b2 : List Nat) (k n1 n2 : Nat) (w : World) (ht : atomK w [.string a'.name, .slice A1 a'.args.length p1] a' b1) (hp : partsK w [.slice A2 ys'.length p2] ys' b2)
    (e1 : a' = ⟨a.name, markTs a.args k⟩) (e2 : ys' = markPs ys n1) (hn1 : n1 = k + 2 * a.args.length) (hn2 : n2 = n1 + sumL cntP ys) (hk : n2 ≤ 1000000000) :
    Calls Try.prog 18 #[.agg #[.string a'.name, .slice A1 a'.args.length p1, .slice A2 ys'.length p2], .int .i64 k] w (Held n2 w) := by
  have k1 := fun w' (hb : Below w.heap.size w w') => heldAtom_any a (.string a'.name) (.slice A1 a'.args.length p1) b1 k w' (by rw [← e1]; exact atomK_good.below ht hb) (by omega)
  have k2 := fun w' (hb : Below w.heap.size w w') => heldPartS_any ys _ b2 n1 w' (by rw [← e2]; exact partsK_good.below hp hb) (by omega)
  rw [← hn1] at k1
  rw [← hn2] at k2
  generalize a'.args.length = l1 at *
  generalize ys'.length = l2 at *
  generalize a'.name = nm at *
  have p1' : ¬ ((n1 : Int) < 0) := by omega
  have p2' : ¬ ((n2 : Int) < 0) := by omega
  have hA0 : Below w.heap.size w (w.alloc (.cells #[.string nm, .slice A1 l1 p1, .slice A2 l2 p2] 37)) := (Below.refl _ _).alloc (Nat.le_refl _) _
  clear ht hp hk e1 e2 hn1 hn2
  go_enter Try.func18, Try.ntmps18
  go_wp2_with fail
  refine (k1 _ hA0).mono ?_
  rintro e w1 ⟨rfl, hb1⟩
  have B1 := hA0.trans (hb1.mono hA0.size)
  have x1 : w1.cell? ⟨w.heap.size, 2, none⟩ = some (.slice A2 l2 p2) := cell_later hb1 (by go_simp)
  clear k1
  go_wp2_with fail
  refine (k2 _ B1).mono ?_
  rintro e w2 ⟨rfl, hb2⟩
  have HB := Lib.hid (B1.trans (hb2.mono B1.size))
  clear k2 hb2 B1
  go_wp2
  go_ret
  exact ⟨rfl, HB.out⟩
theorem heldRule_any (r : Ru) (c0 c1 c2 : Value) (bs : List Nat) (k : Nat) (w : World) (h : ruleK w [c0, c1, c2] (markR r k) bs) (hk : k + cntR r ≤ 1000000000) :
    Calls Try.prog 18 #[.agg #[c0, c1, c2], .int .i64 k] w (Held (k + cntR r) w) := by
  obtain ⟨b1, b2, rfl, ht, hp⟩ := rule_parts h
  obtain ⟨A1, p1, A2, p2, rfl, rfl, rfl⟩ := rule_cells2 h
  exact heldRule_at r.head (markR r k).head r.body (markR r k).body A1 A2 p1 p2 b1 b2 k (k + 2 * r.head.args.length) (k + cntR r) w ht hp rfl rfl rfl (by unfold cntR; omega) hk

end Go.Proofs.Ytbcepahpehadeaa
