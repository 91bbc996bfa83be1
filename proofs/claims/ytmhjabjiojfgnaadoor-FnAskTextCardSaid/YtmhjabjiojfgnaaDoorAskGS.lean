/- The walk of spec.AskGet. -/
import Derived.WalkKit
import Derived.Lib.Hide
import Derived.WalkSpells
import Derived.WalkLawsBesides
import Derived.BigQuiet
import Derived.Deep.RegionHeld3
import Derived.Deep.RegionWith
import Derived.Deep.RegionLaw
import Derived.Deep.DrawnRows
import Derived.Test.YtmhjabjiojfgnaaDoorProg
import Derived.Test.YtmhjabjiojfgnaaDoorWordsS
import Derived.Test.YtmhjabjiojfgnaaDoorAskGP
import Derived.Test.YtmhjabjiojfgnaaDoorAskP
namespace Go.Proofs.YtmhjabjiojfgnaaDoor
open Go.RowKit D
set_option linter.unusedVariables false
attribute [local go_sem ↓] Go.wp_at_zero Go.wp_at_succ

theorem D.len_sumA : ∀ ws : List (List UInt8), ws.length ≤ (ws.map fun w => w.length + 1).sum
  | [] => Nat.le_refl _
  | w :: ws => by have := len_sumA ws; simp only [List.map_cons, List.sum_cons, List.length_cons]; omega
theorem D.mem_sumA : ∀ {ws : List (List UInt8)} {p : List UInt8}, p ∈ ws → p.length + 1 ≤ (ws.map fun w => w.length + 1).sum
  | w :: ws, p, h => by
    simp only [List.map_cons, List.sum_cons]
    rcases List.mem_cons.1 h with rfl | h
    · omega
    · have := mem_sumA h; omega
theorem D.aget_none {w W : World} {A : Option Addr} (hb : Below w.heap.size w W) : ReadsPs none w.heap.size w (.returned (.tuple #[.slice A 0 0, .bool false])) W :=
  ⟨hb, _, [], rfl, ⟨A, 0, rfl, Nat.le_refl _, Nat.zero_le _, fun _ => rfl, fun h => absurd rfl h⟩⟩

set_option maxRecDepth 100000 in
set_option maxHeartbeats 4000000 in
theorem askGet_spec (s : ByteArray) (w : World) (hs : s.size ≤ 1048576) :
    Calls Tryd.prog 22 #[.string s] w (ReadsPs (askS s.data.toList) w.heap.size w) := by
  have hlen : s.data.toList.length = s.size := Array.length_toList
  have hc1 := l1Cut_any s 32 w (by omega)
  have hsm := sum_split 32 s.data.toList
  have hw1 := fun v b0 w' h => l1Words_any (splitL 32 s.data.toList) v b0 w' h (fun p hp => by have := mem_sumA hp; omega) (by have := len_sumA (splitL 32 s.data.toList); omega)
  have hbk := fun ps h => words_bulk (splitL 32 s.data.toList).length (splitL 32 s.data.toList) ps (Nat.le_refl _) h
  have HBK : Hid (∀ ps, bodyS s.data.toList = some ps → bulkPts ps ≤ 16777216) := Lib.hid (fun ps h => by have := (hbk ps h).1; omega)
  have HG : Hid (askS s.data.toList = match bodyS s.data.toList with
    | some ps => if (if askOk ps then bodyL ps else []) = s.data.toList ∧ s.data.toList ≠ [] then some ps else none
    | none => none) := Lib.hid rfl
  have HXE : Hid (∀ X : List UInt8, ((toB X).toList == s.toList) = decide (X = s.data.toList)) := Lib.hid (fun X => by rw [ByteArray.toList_eq, ByteArray.toList_eq]; show (X == s.data.toList) = _; rw [Bool.eq_iff_iff]; simp)
  have HXN : Hid (s.toList.isEmpty = decide (s.data.toList = [])) := Lib.hid (by rw [ByteArray.toList_eq, Bool.eq_iff_iff]; simp)
  unfold bodyS at HG HBK
  generalize askS s.data.toList = G at *
  generalize wordsS (splitL 32 s.data.toList) = wo at *
  generalize splitL 32 s.data.toList = P at *
  generalize s.data.toList = S at *
  have HW := Lib.hid hw1
  clear hw1 hbk hs hlen hsm
  go_enter Tryd.func22, Tryd.ntmps22
  go_wp2_with fail
  refine hc1.mono ?_
  rintro e w1 ⟨hb1, v1, b1, rfl, hR1, hf1⟩
  have hc2 := HW.out _ _ _ hR1
  clear HW hc1 hR1 hf1
  go_wp2_with fail
  refine hc2.mono ?_
  rintro e w2 ⟨hb2, A2, n2, c2, rfl, hps⟩
  have HB := Lib.hid (hb1.trans (hb2.mono hb1.size))
  clear hb1 hb2 hc2
  cases wo with
  | none =>
    have HGN : Hid (G = none) := Lib.hid HG.out
    clear hps HG
    go_wp2
    go_ret2
    rw [HGN.out]
    exact aget_none (HB.out.alloc HB.out.size _)
  | some ps =>
    obtain ⟨b4, hp4, _⟩ := hps ps rfl
    obtain ⟨A4, c4, e4, _, _⟩ := sliceK_form hp4
    have HP4 := Lib.hid hp4
    have hput := askPut_spec ps _ b4 w2 hp4 (HBK.out ps rfl)
    have HPS : Hid (askPutS ps = toB (if askOk ps then bodyL ps else [])) := Lib.hid (by unfold askPutS; split <;> rfl)
    have HG2 : Hid (G = if (if askOk ps then bodyL ps else []) = S ∧ S ≠ [] then some ps else none) := Lib.hid HG.out
    rw [HPS.out] at hput
    clear hps hp4 e4 HG HPS HBK
    generalize (if askOk ps then bodyL ps else []) = X at *
    go_wp2_with fail
    refine hput.mono ?_
    rintro e w5 ⟨rfl, hb5⟩
    have HB5 := Lib.hid (HB.out.trans (hb5.mono HB.out.size))
    have HR5 := Lib.hid (partsK_good.below HP4.out hb5)
    clear hput hb5
    by_cases hx : X = S
    · have hq : ((toB X).toList == s.toList) = true := by rw [HXE.out]; exact decide_eq_true hx
      by_cases hn : S = []
      · have he : s.toList.isEmpty = true := by rw [HXN.out]; exact decide_eq_true hn
        have HGN : Hid (G = none) := Lib.hid (by rw [HG2.out, if_neg (fun h => h.2 hn)])
        clear hx hn
        generalize toB X = PX at *
        go_wp2
        go_ret2
        rw [HGN.out]
        exact aget_none (HB5.out.alloc HB5.out.size _)
      · have he : s.toList.isEmpty = false := by rw [HXN.out]; exact decide_eq_false hn
        have HGE : Hid (G = some ps) := Lib.hid (by rw [HG2.out, if_pos ⟨hx, hn⟩])
        clear hx hn
        generalize toB X = PX at *
        go_wp2
        go_ret2
        rw [HGE.out]
        exact ⟨HB5.out, _, b4, rfl, HR5.out⟩
    · have hq : ((toB X).toList == s.toList) = false := by rw [HXE.out]; exact decide_eq_false hx
      have HGN : Hid (G = none) := Lib.hid (by rw [HG2.out, if_neg (fun h => hx h.1)])
      clear hx
      generalize toB X = PX at *
      go_wp2
      go_ret2
      rw [HGN.out]
      exact aget_none (HB5.out.alloc HB5.out.size _)

end Go.Proofs.YtmhjabjiojfgnaaDoor
