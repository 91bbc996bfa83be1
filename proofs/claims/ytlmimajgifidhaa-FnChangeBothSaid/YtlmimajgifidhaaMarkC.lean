/- The walks of markChange, heldChange. -/
import Derived.WalkKit
import Derived.Lib.Hide
import Derived.WalkSpells
import Derived.WalkLawsBesides
import Derived.Test.YtlmimajgifidhaaProg
import Derived.Test.YtlmimajgifidhaaMarkA
import Derived.Test.YtlmimajgifidhaaBulk
namespace Go.Proofs.Ytlmimajgifidhaa
open Go.RowKit D
set_option linter.unusedVariables false
attribute [local go_sem ↓] Go.wp_at_zero Go.wp_at_succ

def D.cntC (c : Ch) : Nat := sumL cntA c.comes + sumL cntA c.goes
def D.markC (c : Ch) (k : Nat) : Ch := ⟨markAs c.comes k, markAs c.goes (k + sumL cntA c.comes)⟩
theorem D.cntC_le (c : Ch) : cntC c ≤ 3 * bulkC c := by
  have h1 := cntAs_le c.comes
  have h2 := cntAs_le c.goes
  have h3 : bulkC c = bulkAs c.comes + bulkAs c.goes := rfl
  unfold cntC; omega
theorem D.New.left {B : Nat} {w : World} {b1 b2 : List Nat} (h : New B w (b1 ++ b2)) : New B w b1 := h.sub (List.nodup_append.1 h.nodup).1 fun c hc => List.mem_append_left _ hc
theorem D.New.right {B : Nat} {w : World} {b1 b2 : List Nat} (h : New B w (b1 ++ b2)) : New B w b2 := h.sub (List.nodup_append.1 h.nodup).2.1 fun c hc => List.mem_append_right _ hc
theorem D.New.parted {B : Nat} {w : World} {b1 b2 : List Nat} (h : New B w (b1 ++ b2)) : (∀ b ∈ b1, b ∉ b2) ∧ (∀ b ∈ b2, b ∉ b1) := by
  have := (List.nodup_append.1 h.nodup).2.2
  exact ⟨fun b hb hc => this b hb b hc rfl, fun b hb hc => this b hc b hb rfl⟩

set_option maxRecDepth 100000 in
set_option maxHeartbeats 1000000 in
theorem markChange_any (c : Ch) (c0 c1 : Value) (bs : List Nat) (k B : Nat) (w : World) (h : changeK w [c0, c1] c bs) (hN : New B w bs) (hk : k + cntC c ≤ 1000000000) :
    Calls Try.prog 11 #[.agg #[c0, c1], .int .i64 k] w (Marked changeK [c0, c1] (markC c k) bs (k + cntC c) B w) := by
  obtain ⟨Ad, cap, Ae, cape, rfl, rfl⟩ := change_cells2 h
  obtain ⟨b1, b2, rfl, ht, hp⟩ := change_parts h
  have hkk : k + sumL cntA c.comes + sumL cntA c.goes ≤ 1000000000 := by unfold cntC at hk; omega
  have hA0 : Below w.heap.size w (w.alloc (.cells #[.slice Ad c.comes.length cap, .slice Ae c.goes.length cape] 28)) := (Below.refl _ _).alloc (Nat.le_refl _) _
  have hlt := changeK_good.lt h
  have hN0 := hN.below hA0
  have hm1 := markAtomS_any c.comes _ b1 k B _ (atomsK_good.below ht hA0) hN0.left (by omega)
  have hm2 := fun w' (h' : atomsK w' [.slice Ae c.goes.length cape] c.goes b2) (n' : New B w' b2) => markAtomS_any c.goes _ b2 (k + sumL cntA c.comes) B w' h' n' hkk
  have HP := Lib.hid (atomsK_good.below hp hA0)
  have HN := Lib.hid hN0
  have HL := Lib.hid hlt
  have HC : Hid (k + cntC c = k + sumL cntA c.comes + sumL cntA c.goes) := Lib.hid (by unfold cntC; omega)
  clear h ht hp hN hN0 hlt hk
  go_enter Try.func11, Try.ntmps11
  go_wp2_with fail
  refine hm1.mono ?_
  rintro e w1 ⟨rfl, hR1, hN1, hK1⟩
  have x1 : w1.cell? ⟨w.heap.size, 1, none⟩ = some (.slice Ae c.goes.length cape) := hK1.cell (by intro hb; have h1 : w.heap.size ∈ b1 := hb; have := HL.out _ (List.mem_append_left _ h1); omega) (by go_simp)
  have hP2 := Good.kept atomsK_good HP.out hK1 HN.out.parted.2
  have hN2 := New.kept HN.out.right hK1 HN.out.parted.2
  have H1 := Lib.hid (And.intro hR1 (And.intro hN1 hK1))
  clear hm1 hR1 hN1 hK1
  have hm3 := hm2 _ hP2 hN2
  clear hm2 hP2 hN2
  go_wp2_with fail
  refine hm3.mono ?_
  rintro e w2 ⟨rfl, hR2, hN3, hK2⟩
  have HR1 := Lib.hid (Good.kept atomsK_good H1.out.1 hK2 HN.out.parted.1)
  have HN1 := Lib.hid (New.kept H1.out.2.1 hK2 HN.out.parted.1)
  have H2 := Lib.hid (And.intro hR2 (And.intro hN3 hK2))
  clear hm3 hR2 hN3 hK2
  go_wp2
  go_ret
  refine ⟨by rw [HC.out]; rfl, ⟨_, _, b1, b2, rfl, rfl, HR1.out, H2.out.1⟩, ?_, ?_⟩
  · exact ⟨HN.out.nodup, fun b hb => (List.mem_append.1 hb).elim (fun h => HN1.out.own b h) (fun h => H2.out.2.1.own b h)⟩
  · exact ((KeptBut.of_below hA0).trans (H1.out.2.2.mono fun b hb => List.mem_append_left _ hb)).trans (H2.out.2.2.mono fun b hb => List.mem_append_right _ hb)

set_option maxRecDepth 100000 in
set_option maxHeartbeats 1000000 in
theorem heldChange_at (xs ys xs' ys' : List A) (A1 A2 : Option Addr) (p1 p2 : Nat) (b1 b2 : List Nat) (k n1 n2 : Nat) (w : World) (ht : atomsK w [.slice A1 xs'.length p1] xs' b1) (hp : atomsK w [.slice A2 ys'.length p2] ys' b2)
    (e1 : xs' = markAs xs k) (e2 : ys' = markAs ys n1) (hn1 : n1 = k + sumL cntA xs) (hn2 : n2 = n1 + sumL cntA ys) (hk : n2 ≤ 1000000000) :
    Calls Try.prog 12 #[.agg #[.slice A1 xs'.length p1, .slice A2 ys'.length p2], .int .i64 k] w (Held n2 w) := by
  have k1 := fun w' (hb : Below w.heap.size w w') => heldAtomS_any xs _ b1 k w' (by rw [← e1]; exact atomsK_good.below ht hb) (by omega)
  have k2 := fun w' (hb : Below w.heap.size w w') => heldAtomS_any ys _ b2 n1 w' (by rw [← e2]; exact atomsK_good.below hp hb) (by omega)
  rw [← hn1] at k1
  rw [← hn2] at k2
  generalize xs'.length = l1 at *
  generalize ys'.length = l2 at *
  have p1' : ¬ ((n1 : Int) < 0) := by omega
  have p2' : ¬ ((n2 : Int) < 0) := by omega
  have hA0 : Below w.heap.size w (w.alloc (.cells #[.slice A1 l1 p1, .slice A2 l2 p2] 28)) := (Below.refl _ _).alloc (Nat.le_refl _) _
  clear ht hp hk e1 e2 hn1 hn2
  go_enter Try.func12, Try.ntmps12
  go_wp2_with fail
  refine (k1 _ hA0).mono ?_
  rintro e w1 ⟨rfl, hb1⟩
  have B1 := hA0.trans (hb1.mono hA0.size)
  have x1 : w1.cell? ⟨w.heap.size, 1, none⟩ = some (.slice A2 l2 p2) := cell_later hb1 (by go_simp)
  clear k1
  go_wp2_with fail
  refine (k2 _ B1).mono ?_
  rintro e w2 ⟨rfl, hb2⟩
  have HB := Lib.hid (B1.trans (hb2.mono B1.size))
  clear k2 hb2 B1
  go_wp2
  go_ret
  exact ⟨rfl, HB.out⟩
theorem heldChange_any (c : Ch) (c0 c1 : Value) (bs : List Nat) (k : Nat) (w : World) (h : changeK w [c0, c1] (markC c k) bs) (hk : k + cntC c ≤ 1000000000) :
    Calls Try.prog 12 #[.agg #[c0, c1], .int .i64 k] w (Held (k + cntC c) w) := by
  obtain ⟨b1, b2, rfl, ht, hp⟩ := change_parts h
  obtain ⟨A1, p1, rfl, _, _⟩ := sliceK_form ht
  obtain ⟨A2, p2, rfl, _, _⟩ := sliceK_form hp
  exact heldChange_at c.comes c.goes _ _ A1 A2 p1 p2 b1 b2 k (k + sumL cntA c.comes) (k + cntC c) w ht hp rfl rfl rfl (by unfold cntC; omega) hk

end Go.Proofs.Ytlmimajgifidhaa
