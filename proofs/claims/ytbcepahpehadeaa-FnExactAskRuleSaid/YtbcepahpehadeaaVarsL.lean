/- impl.AskVars and spec.AskVars. -/
import Derived.WalkKit
import Derived.Lib.Hide
import Derived.WalkSpells
import Derived.WalkLawsBesides
import Derived.Test.YtbcepahpehadeaaProg
import Derived.Test.YtbcepahpehadeaaVarsI
import Derived.Test.YtbcepahpehadeaaAskS
namespace Go.Proofs.Ytbcepahpehadeaa
open Go.RowKit D
set_option linter.unusedVariables false

def D.varsV (ps : List Pt) : List ByteArray := if askOk ps = true then bodyVars ps else []
theorem D.atom_args3 {a : A} (h : atomOk a = true) : a.args.length ≤ 3 := by
  unfold atomOk at h; simp only [Bool.and_eq_true, decide_eq_true_eq] at h; exact h.1.2
theorem D.ask_sum {ps : List Pt} (h : askOk ps = true) : sumL (fun p => p.atom.args.length) ps ≤ 12 := by
  unfold askOk at h
  simp only [Bool.and_eq_true, decide_eq_true_eq] at h
  obtain ⟨⟨⟨_, h4⟩, hall⟩, _⟩ := h
  have key : ∀ (l : List Pt), (∀ p ∈ l, atomOk p.atom = true) → sumL (fun p => p.atom.args.length) l ≤ 3 * l.length := by
    intro l
    induction l with
    | nil => intro _; simp [sumL]
    | cons p l ih =>
      intro hl
      have h1 := ih fun q hq => hl q (List.mem_cons_of_mem _ hq)
      have h2 := atom_args3 (hl p (List.mem_cons_self ..))
      simp only [sumL, List.map_cons, List.sum_cons, List.length_cons] at *
      omega
  have := key ps (fun p hp => List.all_eq_true.1 hall p hp)
  omega
theorem D.varsV_len (ps : List Pt) : (varsV ps).length ≤ 12 := by
  unfold varsV
  split
  · rename_i h
    have h1 := bodyVars_len ps
    have h2 := namesPs_len ps
    have h3 := ask_sum h
    omega
  · simp

set_option maxHeartbeats 400000 in
theorem askVars_impl (ps : List Pt) (v : Value) (bs : List Nat) (w : World) (h : partsK w [v] ps bs) :
    Calls Try.prog 8 #[v] w (Makes strsK (varsV ps) w.heap.size w) := by
  obtain ⟨Ad, cap, rfl, hl, hm⟩ := sliceK_form h
  have q1 := askOk_impl ps _ bs w h
  have q2 := fun (hx : askOk ps = true) w' (hb : Below w.heap.size w w') => bodyVars_any ps _ bs w' (partsK_good.below h hb) (Nat.le_trans (ask_sum hx) (by omega))
  have HG : Hid (varsV ps = if askOk ps = true then bodyVars ps else []) := Lib.hid rfl
  have HQ := Lib.hid q2
  clear h q2 hl hm
  generalize varsV ps = G at *
  generalize bodyVars ps = V at *
  generalize askOk ps = x at *
  go_enter Try.func8, Try.ntmps8
  go_wp2_with fail
  refine q1.mono ?_
  rintro e w1 ⟨rfl, hb1⟩
  clear q1
  cases x
  · have HB := Lib.hid hb1
    clear HQ hb1
    go_wp2
    go_ret
    exact ⟨HB.out, _, [], rfl, by rw [HG.out]; exact ⟨none, 0, rfl, Nat.zero_le _, Nat.zero_le _, fun _ => rfl, fun h => absurd rfl h⟩, New.nil _ _⟩
  · have q3 := HQ.out rfl _ hb1
    clear HQ
    go_wp2_with fail
    refine q3.mono ?_
    rintro e w2 ⟨hb2, v2, b2, rfl, hR, hN⟩
    have HZ : Hid (Makes strsK G w.heap.size w (.returned v2) w2) := Lib.hid ⟨hb1.trans (hb2.mono hb1.size), _, b2, rfl, by rw [HG.out]; exact hR, hN.mono hb1.size⟩
    clear q3 hb1 hb2 hR hN
    go_wp2
    go_ret
    exact HZ.out

set_option maxHeartbeats 400000 in
theorem askVars_spec (ps : List Pt) (v : Value) (bs : List Nat) (w : World) (h : partsK w [v] ps bs) :
    Calls Try.prog 6 #[v] w (Reads strsK (varsV ps) w.heap.size w) := by
  obtain ⟨Ad, cap, rfl, hl, hm⟩ := sliceK_form h
  have q1 := askOk_spec ps _ bs w h
  have q2 := fun (hx : askOk ps = true) w' (hb : Below w.heap.size w w') => l5Vars_any ps _ bs w' (partsK_good.below h hb) (Nat.le_trans (ask_sum hx) (by omega))
  have HG : Hid (varsV ps = if askOk ps = true then bodyVars ps else []) := Lib.hid rfl
  have HQ := Lib.hid q2
  clear h q2 hl hm
  generalize varsV ps = G at *
  generalize bodyVars ps = V at *
  generalize askOk ps = x at *
  go_enter Try.func6, Try.ntmps6
  go_wp2_with fail
  refine q1.mono ?_
  rintro e w1 ⟨rfl, hb1⟩
  clear q1
  cases x
  · have HB := Lib.hid (hb1.alloc hb1.size (.cells #[] 9))
    clear HQ hb1
    go_wp2
    go_ret
    exact ⟨HB.out, _, [], rfl, by rw [HG.out]; exact strs_empty⟩
  · have q3 := HQ.out rfl _ hb1
    clear HQ
    go_wp2_with fail
    refine q3.mono ?_
    rintro e w2 ⟨hb2, v2, b2, rfl, hR, hN⟩
    have HZ : Hid (Reads strsK G w.heap.size w (.returned v2) w2) := Lib.hid ⟨hb1.trans (hb2.mono hb1.size), _, b2, rfl, by rw [HG.out]; exact hR⟩
    clear q3 hb1 hb2 hR hN
    go_wp2
    go_ret
    exact HZ.out

end Go.Proofs.Ytbcepahpehadeaa
