/- The walks of impl.progFine and impl.ProgHeads. -/
import Derived.WalkKit
import Derived.Lib.Hide
import Derived.WalkSpells
import Derived.WalkLawsBesides
import Derived.BigQuiet
import Derived.Test.YtbcepahpehadeaaGreatDoorProgC
namespace Go.Proofs.YtbcepahpehadeaaGreatDoor
open Go.RowKit D
set_option linter.unusedVariables false
attribute [local go_sem ↓] Go.wp_at_zero Go.wp_at_succ

def D.headB (rs : List Ru) (s : ByteArray) : Bool := decide (s ∈ headNames rs)
def D.progHeads (rs : List Ru) (s : ByteArray) : Bool := decide (progC rs = 0) && headB rs s

set_option maxHeartbeats 1000000 in
theorem progFine_any (rs : List Ru) (v : Value) (bs : List Nat) (w : World) (h : rulesK w [v] rs bs) (hg : LaidE w) :
    Calls Tryz.prog 35 #[v] w fun e w' => e = .returned (.bool (decide (progC rs = 0))) ∧ Below w.heap.size w w' := by
  have c1 := progCheck_impl rs v bs w h hg
  have hle : (progC rs : Int) ≤ 5 := by have := progC_le rs; omega
  clear h hg
  generalize progC rs = c at *
  by_cases h0 : c = 0
  · subst h0
    go_enter Tryz.func35, Tryz.ntmps35
    go_wp2_with fail
    refine c1.mono ?_
    rintro e w1 ⟨rfl, hb⟩
    go_wp2
    go_ret
    exact ⟨rfl, hb⟩
  · have h1 : ¬ (c : Int) = 0 := by omega
    have HD : Hid (decide (c = 0) = false) := Lib.hid (decide_eq_false h0)
    clear h0
    go_enter Tryz.func35, Tryz.ntmps35
    go_wp2_with fail
    refine c1.mono ?_
    rintro e w1 ⟨rfl, hb⟩
    go_wp2
    go_ret
    exact ⟨ret_bool (by rw [HD.out]; exact beq_eq_false_iff_ne.2 h1), hb⟩

set_option maxHeartbeats 1000000 in
theorem progHeads_impl (rs : List Ru) (s : ByteArray) (v : Value) (bs : List Nat) (w : World) (h : rulesK w [v] rs bs) (hg : LaidE w) (hs : s.size ≤ maxLen) :
    Calls Tryz.prog 25 #[v, .string s] w fun e w' => e = .returned (.bool (progHeads rs s)) ∧ Below w.heap.size w w' := by
  have c1 := progFine_any rs v bs w h hg
  have C2 := Lib.hid fun w' (hb : Below w.heap.size w w') (hf : rs.length ≤ 1000000) => headPlaces_any rs v bs w' (rulesK_good.below h hb) hf
  have HS := Lib.hid hs
  clear h hg hs
  by_cases hp : progC rs = 0
  · have HF : Hid (rs.length ≤ 1000000) := Lib.hid (by have := ((fine_iff rs).1 hp).few; omega)
    have HZ : Hid (progHeads rs s = decide (s ∈ placesL rs)) := Lib.hid (by unfold progHeads headB; rw [decide_eq_true hp, Bool.true_and]; exact decide_eq_decide.2 places_mem.symm)
    rw [decide_eq_true hp] at c1
    clear hp
    go_enter Tryz.func25, Tryz.ntmps25
    go_wp2_with fail
    refine c1.mono ?_
    rintro e w1 ⟨rfl, hb1⟩
    clear c1
    go_wp2_with fail
    refine (C2.out _ hb1 HF.out).mono ?_
    rintro e w2 ⟨rfl, ⟨n, hM⟩, hb2⟩
    have B2 := hb1.trans (hb2.mono hb1.size)
    have HM := Lib.hid hM
    clear hM
    obtain ⟨x, hx⟩ : ∃ x : Int, (if s ∈ placesL rs then idxI (placesL rs) s else 0) = x := ⟨_, rfl⟩
    have HX := Lib.hid hx
    clear hx
    by_cases hL : s ∈ placesL rs
    · have HD : Hid (decide (s ∈ placesL rs) = true) := Lib.hid (decide_eq_true hL)
      clear hL
      go_wp2_with (first | (at_lookup; refine wpList_mapf_ok _ rfl _ _ _ rfl Tryz.underlying69 _ _ _ _ rfl HM.out s rfl HS.out true HD.out x HX.out ?_) | go_in)
      go_ret
      exact ⟨ret_bool (by rw [HZ.out, HD.out]), B2⟩
    · have HD : Hid (decide (s ∈ placesL rs) = false) := Lib.hid (decide_eq_false hL)
      clear hL
      go_wp2_with (first | (at_lookup; refine wpList_mapf_ok _ rfl _ _ _ rfl Tryz.underlying69 _ _ _ _ rfl HM.out s rfl HS.out false HD.out x HX.out ?_) | go_in)
      go_ret
      exact ⟨ret_bool (by rw [HZ.out, HD.out]), B2⟩
  · have HZ : Hid (progHeads rs s = false) := Lib.hid (by unfold progHeads; rw [decide_eq_false hp]; rfl)
    rw [decide_eq_false hp] at c1
    clear hp C2
    go_enter Tryz.func25, Tryz.ntmps25
    go_wp2_with fail
    refine c1.mono ?_
    rintro e w1 ⟨rfl, hb1⟩
    go_wp2
    go_ret
    exact ⟨ret_bool HZ.out.symm, hb1⟩

end Go.Proofs.YtbcepahpehadeaaGreatDoor
