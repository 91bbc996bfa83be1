/- The draw of facts and a change (by gen/mkdraw10.py). -/
import Derived.Laws.EntriesVeiled
import Derived.Deep.RegionHeld3
import Derived.Deep.RegionWith
import Derived.BigQuiet
import Derived.Deep.QuietTactic
import Derived.Deep.DrawnRows
import Derived.WalkKit
import Derived.WalkSpells
import Derived.WalkLawsBesides
import Derived.Lib.Hide
import Derived.Test.YtlmimajgifidhaaDraw9
namespace Go.Proofs.Ytlmimajgifidhaa
open Go.RowKit D
set_option linter.unusedVariables false
attribute [local go_sem ↓] Go.wp_at_zero Go.wp_at_succ

/-- Drawn facts, and a change. -/
def ListChD (w : World) (e : Ending) (w' : World) : Prop := ∃ (xs : List A) (c : Ch) (A0 A1 A2 : Option Addr) (c0 c1 c2 : Nat) (b0 b1 b2 : List Nat), e = .returned (.tuple #[.slice A0 xs.length c0, .agg #[.slice A1 c.comes.length c1, .slice A2 c.goes.length c2]]) ∧
  atomsK w' [.slice A0 xs.length c0] xs b0 ∧ atomsK w' [.slice A1 c.comes.length c1] c.comes b1 ∧ atomsK w' [.slice A2 c.goes.length c2] c.goes b2 ∧ xs.length ≤ 50 ∧ (∀ x ∈ xs, x.args.length ≤ 4) ∧ (c.comes.length ≤ 50 ∧ c.goes.length ≤ 6 ∧ (∀ a ∈ c.comes, a.args.length ≤ 4) ∧ ∀ a ∈ c.goes, a.args.length ≤ 4) ∧ Below w.heap.size w w'

set_option maxRecDepth 100000 in
set_option maxHeartbeats 1000000 in
theorem drawChangeDo_any (v : Value) (cs : List UInt8) (bs : List Nat) (w : World) (h : bytesK w [v] cs bs) (hn : cs.length ≤ 1048576) :
    Calls Try.prog 13 #[v] w (ListChD w) := by
  have hA : Below w.heap.size w (w.alloc (.cells #[.slice none 0 0, .slice none 0 0] 28)) := (Below.refl _ _).alloc (Nat.le_refl _) _
  have ho := open_any v cs bs _ (bytesK_good.below h hA) hn
  have HZ := Lib.hid (heap_alloc_new w (.cells #[.slice none 0 0, .slice none 0 0] 28))
  clear h
  go_enter Try.func13, Try.ntmps13
  go_wp2_with fail
  refine ho.mono ?_
  rintro e w1 ⟨rfl, hR, hb⟩
  obtain ⟨g, hg⟩ : ∃ g, g = (w.alloc (.cells #[.slice none 0 0, .slice none 0 0] 28)).heap.size := ⟨_, rfl⟩
  have HGW : Hid (g = w.heap.size + 1) := Lib.hid (by rw [hg]; simp)
  rw [← hg] at hR
  have HB1 := Lib.hid (hA.trans (hb.mono hA.size))
  replace HZ := Lib.hid ((hb.block _ (lt_of_block HZ.out)).trans HZ.out)
  have hd := l10AnyFacts_any g 0 w1 hR (by omega)
  clear ho hR hb hA
  rw [← hg]
  clear hg
  go_wp2_with fail
  refine hd.mono ?_
  rintro e w2 ⟨xs, v2, b0, p2, rfl, ⟨hat, hfar⟩, hx, hsm, hR2, hp2, hK2⟩
  have HAP := Lib.hid (atoms_apartN hR2.noSB hat)
  have hd2 := l10AnyChange_any g p2 w2 hR2 (by omega)
  have HX := Lib.hid (And.intro hat (And.intro hx hsm))
  replace HZ := Lib.hid (hK2.blk HZ.out (by have := HGW.out; simp; omega))
  have HK2 := Lib.hid hK2
  obtain ⟨A0, c0, rfl, _, _⟩ := sliceK_form hat
  clear hd hat hfar hx hsm hR2 hp2 hK2
  go_wp2_with fail
  refine hd2.mono ?_
  rintro e w3 ⟨c, A1, A2, c1, c2, b1, b2, p3, rfl, ha1, ha2, hsz, hR3, hp3, hK3⟩
  replace HZ := Lib.hid (hK3.blk HZ.out (by have := HGW.out; simp; omega))
  have ha0 := Good.kept atomsK_good HX.out.1 hK3 (fun b hb => by simp; intro e; exact HAP.out (e ▸ hb))
  have e0 := atoms_apartN (noSB_pair HZ.out) ha0
  have e1 := atoms_apartN (noSB_pair HZ.out) ha1
  have e2 := atoms_apartN (noSB_pair HZ.out) ha2
  have hB3 : Below w.heap.size w w3 := HB1.out.trans ((HK2.out.trans hK3).below (by have := HGW.out; simp; omega) HB1.out.size)
  have HD : Hid (ListChD w (.returned (.tuple #[.slice A0 xs.length c0, .agg #[.slice A1 c.comes.length c1, .slice A2 c.goes.length c2]])) ((w3.setCell ⟨w.heap.size, 0, none⟩ (.slice A1 c.comes.length c1)).setCell ⟨w.heap.size, 1, none⟩ (.slice A2 c.goes.length c2))) := Lib.hid
    ⟨xs, c, A0, A1, A2, c0, c1, c2, b0, b1, b2, rfl, atoms_set (atoms_set ha0 e0) e0, atoms_set (atoms_set ha1 e1) e1, atoms_set (atoms_set ha2 e2) e2, HX.out.2.1, HX.out.2.2, hsz, (hB3.setCell (p := ⟨w.heap.size, 0, none⟩) (Nat.le_refl _) _).setCell (p := ⟨w.heap.size, 1, none⟩) (Nat.le_refl _) _⟩
  have z0 : w3.cell? ⟨w.heap.size, 0, none⟩ = some (.slice none 0 0) := cell_of_blk HZ.out
  have z1 : w3.cell? ⟨w.heap.size, 1, none⟩ = some (.slice none 0 0) := cell_of_blk HZ.out
  have f0 : w3.frozen? ⟨w.heap.size, 0, none⟩ = false := frozen_of_blk HZ.out
  have f1 : w3.frozen? ⟨w.heap.size, 1, none⟩ = false := frozen_of_blk HZ.out
  clear hd2 ha0 ha1 ha2 e0 e1 e2 hsz hR3 hp3 hK3 hB3
  go_wp2
  refine bodyPost_ret (v := .tuple #[.slice A0 xs.length c0, .agg #[.slice A1 c.comes.length c1, .slice A2 c.goes.length c2]]) (by simp [results, Try.results13, go_sem, z0, z1]) rfl HD.out

end Go.Proofs.Ytlmimajgifidhaa
