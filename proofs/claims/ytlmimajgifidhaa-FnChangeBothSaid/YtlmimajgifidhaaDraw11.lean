/- The draw of two changes (by gen/mkdraw10.py). -/
import Derived.Laws.EntriesVeiled
import Derived.Deep.RegionHeld3
import Derived.Deep.RegionWith
import Derived.BigQuiet
import Derived.Deep.QuietTactic
import Derived.Deep.DrawnRows
import Derived.WalkKit
import Derived.WalkSpells
import Derived.WalkLawsBesides
import Derived.Lib.Hide
import Derived.Test.YtlmimajgifidhaaDraw9
namespace Go.Proofs.Ytlmimajgifidhaa
open Go.RowKit D
set_option linter.unusedVariables false
attribute [local go_sem ↓] Go.wp_at_zero Go.wp_at_succ

/-- Two drawn changes. -/
def TwoChD (w : World) (e : Ending) (w' : World) : Prop := ∃ (c d : Ch) (A1 A2 A3 A4 : Option Addr) (c1 c2 c3 c4 : Nat) (b1 b2 b3 b4 : List Nat), e = .returned (.tuple #[.agg #[.slice A1 c.comes.length c1, .slice A2 c.goes.length c2], .agg #[.slice A3 d.comes.length c3, .slice A4 d.goes.length c4]]) ∧
  atomsK w' [.slice A1 c.comes.length c1] c.comes b1 ∧ atomsK w' [.slice A2 c.goes.length c2] c.goes b2 ∧ atomsK w' [.slice A3 d.comes.length c3] d.comes b3 ∧ atomsK w' [.slice A4 d.goes.length c4] d.goes b4 ∧ (c.comes.length ≤ 50 ∧ c.goes.length ≤ 6 ∧ (∀ a ∈ c.comes, a.args.length ≤ 4) ∧ ∀ a ∈ c.goes, a.args.length ≤ 4) ∧ (d.comes.length ≤ 50 ∧ d.goes.length ≤ 6 ∧ (∀ a ∈ d.comes, a.args.length ≤ 4) ∧ ∀ a ∈ d.goes, a.args.length ≤ 4) ∧ Below w.heap.size w w'

set_option maxRecDepth 100000 in
set_option maxHeartbeats 1000000 in
theorem drawChangeBoth_any (v : Value) (cs : List UInt8) (bs : List Nat) (w : World) (h : bytesK w [v] cs bs) (hn : cs.length ≤ 1048576) :
    Calls Try.prog 22 #[v] w (TwoChD w) := by
  have hA : Below w.heap.size w ((w.alloc (.cells #[.slice none 0 0, .slice none 0 0] 28)).alloc (.cells #[.slice none 0 0, .slice none 0 0] 28)) := ((Below.refl _ _).alloc (Nat.le_refl _) _).alloc (by simp) _
  have ho := open_any v cs bs _ (bytesK_good.below h hA) hn
  have ht := heap_two w (.cells #[.slice none 0 0, .slice none 0 0] 28) (.cells #[.slice none 0 0, .slice none 0 0] 28)
  have HZ := Lib.hid ht.1
  have HY := Lib.hid ht.2
  clear h ht
  go_enter Try.func22, Try.ntmps22
  go_wp2_with fail
  refine ho.mono ?_
  rintro e w1 ⟨rfl, hR, hb⟩
  obtain ⟨g, hg⟩ : ∃ g, g = ((w.alloc (.cells #[.slice none 0 0, .slice none 0 0] 28)).alloc (.cells #[.slice none 0 0, .slice none 0 0] 28)).heap.size := ⟨_, rfl⟩
  have HGW : Hid (g = w.heap.size + 2) := Lib.hid (by rw [hg]; simp)
  rw [← hg] at hR
  have HB1 := Lib.hid (hA.trans (hb.mono hA.size))
  replace HZ := Lib.hid ((hb.block _ (lt_of_block HZ.out)).trans HZ.out)
  replace HY := Lib.hid ((hb.block _ (lt_of_block HY.out)).trans HY.out)
  have hd := l10AnyChange_any g 0 w1 hR (by omega)
  clear ho hR hb hA
  rw [← hg]
  clear hg
  go_wp2_with fail
  refine hd.mono ?_
  rintro e w2 ⟨c, A1, A2, c1, c2, b1, b2, p2, rfl, ha1, ha2, hsz, hR2, hp2, hK2⟩
  have HAP := Lib.hid (And.intro (atoms_apartN hR2.noSB ha1) (atoms_apartN hR2.noSB ha2))
  have hd2 := l10AnyChange_any g p2 w2 hR2 (by omega)
  have HX := Lib.hid (And.intro ha1 (And.intro ha2 hsz))
  replace HZ := Lib.hid (hK2.blk HZ.out (by have := HGW.out; simp; omega))
  replace HY := Lib.hid (hK2.blk HY.out (by have := HGW.out; simp; omega))
  have HK2 := Lib.hid hK2
  clear hd ha1 ha2 hsz hR2 hp2 hK2
  go_wp2_with fail
  refine hd2.mono ?_
  rintro e w3 ⟨d, A3, A4, c3, c4, b3, b4, p3, rfl, ha3, ha4, hsz, hR3, hp3, hK3⟩
  replace HZ := Lib.hid (hK3.blk HZ.out (by have := HGW.out; simp; omega))
  replace HY := Lib.hid (hK3.blk HY.out (by have := HGW.out; simp; omega))
  have ha1 := Good.kept atomsK_good HX.out.1 hK3 (fun b hb => by simp; intro e; exact HAP.out.1 (e ▸ hb))
  have ha2 := Good.kept atomsK_good HX.out.2.1 hK3 (fun b hb => by simp; intro e; exact HAP.out.2 (e ▸ hb))
  have s4 : ∀ {v : Value} {xs : List A} {bs : List Nat}, atomsK w3 [v] xs bs → atomsK ((((w3.setCell ⟨w.heap.size, 0, none⟩ (.slice A1 c.comes.length c1)).setCell ⟨w.heap.size, 1, none⟩ (.slice A2 c.goes.length c2)).setCell ⟨w.heap.size + 1, 0, none⟩ (.slice A3 d.comes.length c3)).setCell ⟨w.heap.size + 1, 1, none⟩ (.slice A4 d.goes.length c4)) [v] xs bs := fun ha => by
    have e0 := atoms_apartN (noSB_pair HZ.out) ha
    have e1 := atoms_apartN (noSB_pair HY.out) ha
    exact atoms_set (atoms_set (atoms_set (atoms_set ha e0) e0) e1) e1
  have hB3 : Below w.heap.size w w3 := HB1.out.trans ((HK2.out.trans hK3).below (by have := HGW.out; simp; omega) HB1.out.size)
  have hB4 := (((hB3.setCell (p := ⟨w.heap.size, 0, none⟩) (Nat.le_refl _) (.slice A1 c.comes.length c1)).setCell (p := ⟨w.heap.size, 1, none⟩) (Nat.le_refl _) (.slice A2 c.goes.length c2)).setCell (p := ⟨w.heap.size + 1, 0, none⟩) (Nat.le_succ _) (.slice A3 d.comes.length c3)).setCell (p := ⟨w.heap.size + 1, 1, none⟩) (Nat.le_succ _) (.slice A4 d.goes.length c4)
  have HD := Lib.hid (And.intro (s4 ha1) (And.intro (s4 ha2) (And.intro (s4 ha3) (And.intro (s4 ha4) (And.intro HX.out.2.2 (And.intro hsz hB4))))))
  have z0 : w3.cell? ⟨w.heap.size, 0, none⟩ = some (.slice none 0 0) := cell_of_blk HZ.out
  have z1 : w3.cell? ⟨w.heap.size, 1, none⟩ = some (.slice none 0 0) := cell_of_blk HZ.out
  have f0 : w3.frozen? ⟨w.heap.size, 0, none⟩ = false := frozen_of_blk HZ.out
  have f1 : w3.frozen? ⟨w.heap.size, 1, none⟩ = false := frozen_of_blk HZ.out
  have y0 : w3.cell? ⟨w.heap.size + 1, 0, none⟩ = some (.slice none 0 0) := cell_of_blk HY.out
  have y1 : w3.cell? ⟨w.heap.size + 1, 1, none⟩ = some (.slice none 0 0) := cell_of_blk HY.out
  have g0 : w3.frozen? ⟨w.heap.size + 1, 0, none⟩ = false := frozen_of_blk HY.out
  have g1 : w3.frozen? ⟨w.heap.size + 1, 1, none⟩ = false := frozen_of_blk HY.out
  clear hd2 ha1 ha2 ha3 ha4 s4 hsz hR3 hp3 hK3 hB3 hB4
  go_wp2
  refine bodyPost_ret (v := .tuple #[.agg #[.slice A1 c.comes.length c1, .slice A2 c.goes.length c2], .agg #[.slice A3 d.comes.length c3, .slice A4 d.goes.length c4]]) (by simp [results, Try.results22, go_sem, z0, z1, y0, y1]) rfl ⟨c, d, A1, A2, A3, A4, c1, c2, c3, c4, b1, b2, b3, b4, rfl, HD.out⟩

end Go.Proofs.Ytlmimajgifidhaa
