/- The walk of the law FnNameOk, and of the draw before it. -/
import Derived.Test.YtclihmcejbpddaaPick
namespace Go.Proofs.Ytclihmcejbpddaa
open Go.RowKit D
set_option linter.unusedVariables false

def drawNames : List ByteArray := [⟨#[97]⟩, ⟨#[112, 49]⟩, ⟨#[97, 98, 99, 100, 101, 102, 103, 104]⟩, ⟨#[97, 98, 99, 100, 101, 102, 103, 104, 105]⟩, ⟨#[]⟩, ⟨#[110, 111, 116]⟩, ⟨#[65]⟩, ⟨#[110, 111, 116, 97]⟩, ⟨#[120, 95, 121]⟩]
theorem drawNames_size : ∀ s ∈ drawNames, s.size ≤ 16 := by decide

def DrewText (B : Nat) (w : World) (e : Ending) (w' : World) : Prop := ∃ s : ByteArray, e = .returned (.string s) ∧ s.size ≤ 16 ∧ Below B w w'

set_option maxHeartbeats 400000 in
theorem drawNameOk_any (v : Value) (xs : List UInt8) (bs : List Nat) (w : World) (h : bytesK w [v] xs bs) (hn : xs.length ≤ 1048576) :
    Calls Try.prog 9 #[v] w (DrewText w.heap.size w) := by
  have ho := open_any v xs bs w h hn
  clear h
  go_enter Try.func9, Try.ntmps9
  go_wp2_with fail
  refine ho.mono ?_
  rintro e w1 ⟨rfl, hR, hb⟩
  go_wp2_with fail
  have hA : Below w1.heap.size w1 (w1.alloc (.cells (drawNames.map Value.string).toArray 9)) := (Below.refl _ _).alloc (Nat.le_refl _) _
  refine (of_any w.heap.size 0 _ drawNames _ (w1.alloc (.cells (drawNames.map Value.string).toArray 9)) (hR.below hA) (strs_of_block (cap := 9) (heap_alloc_new w1 _) (by decide) (by decide) (fun s hs => Nat.le_trans (drawNames_size s hs) (by decide))) (by decide) (by decide) (by decide) (by have := hR.lt; simp [drawNames]; omega)).mono ?_
  rintro e w2 ⟨s, rfl, hs, hR2, hG⟩
  go_wp2
  go_ret
  exact ⟨s, rfl, drawNames_size s hs, (hb.trans (hA.mono hb.size)).trans (Below.of_grown hG (Nat.le_trans hb.size (by simp)) (Nat.le_refl _))⟩

theorem nameOk_le {s : ByteArray} (h : nameOk s = true) : s.size ≤ 8 := by
  unfold nameOk at h; simp at h; omega
theorem nameOk_byte {s : ByteArray} (h : nameOk s = true) (k : Nat) (hk : k < s.size) : nameOk (s.extract k (k + 1)) = true := by
  have hd : (s.extract k (k + 1)).data.toList = [s[k]] := by
    rw [Lib.extract_data, Nat.add_sub_cancel_left, List.drop_eq_getElem_cons (by simpa using hk)]
    simp; rfl
  have hl : low s[k] = true := by
    unfold nameOk at h
    simp only [Bool.and_eq_true] at h
    have := h.1.2
    unfold lows at this
    rw [List.all_eq_true] at this
    exact this _ (by rw [show s[k] = s.data.toList[k]'(by simpa using hk) from rfl]; exact List.getElem_mem _)
  have hsz : (s.extract k (k + 1)).size = 1 := by simp; omega
  unfold nameOk
  rw [hsz, hd, ByteArray.toList_eq, hd]
  simp [lows, hl]

set_option maxHeartbeats 1000000 in
theorem nameOkLaw_walk (xs : List UInt8) (v : Value) (bs : List Nat) (w : World) (h : bytesK w [v] xs bs) :
    Calls Try.prog 5 #[v] w fun e w' => e = .returned (.bool true) ∧ Below w.heap.size w w' := by
  obtain ⟨Ad, cap, rfl, hl, hm⟩ := sliceK_form h
  have hlm := nat_ge_max (Nat.le_trans hl hm)
  clear hm
  by_cases hn : xs.length ≤ 1048576
  · have hd := drawNameOk_any _ xs bs w h hn
    clear h
    have n1 := fun w => nameOk_impl ⟨#[110, 111, 116]⟩ w (by decide)
    have n2 := fun w => nameOk_impl ⟨#[]⟩ w (by decide)
    rw [show nameOk ⟨#[110, 111, 116]⟩ = false from by decide +kernel] at n1
    rw [show nameOk ⟨#[]⟩ = false from by decide +kernel] at n2
    go_enter Try.func5, Try.ntmps5
    go_wp2_with fail
    refine hd.mono ?_
    rintro e w1 ⟨s, rfl, hs, hb⟩
    have hs' : s.size ≤ maxLen := by unfold maxLen; omega
    have p1 := fun w => nameOk_impl s w hs'
    have p2 := fun w => nameOk_spec s w hs'
    have hle : nameOk s = true → s.size ≤ 8 := nameOk_le
    have hby : nameOk s = true → ∀ k, k < s.size → nameOk (s.extract k (k + 1)) = true := fun h k hk => nameOk_byte h k hk
    have HB := Lib.hid hby
    clear hby hs'
    generalize nameOk s = b at *
    go_wp2_with fail
    refine (p1 _).mono ?_
    rintro e w2 ⟨rfl, rfl⟩
    go_wp2_with fail
    refine (p2 _).mono ?_
    rintro e w2 ⟨rfl, rfl⟩
    cases b
    all_goals
      go_wp2_with fail
      refine (n1 _).mono ?_
      rintro e w2 ⟨rfl, rfl⟩
      go_wp2_with fail
      refine (n2 _).mono ?_
      rintro e w2 ⟨rfl, rfl⟩
      go_wp2_with fail
    · go_loop [5] (fun i => i = .int .i64 0) (fun i => 0)
      case atStart => rfl
      case round =>
        obtain rfl := hrel
        go_wp2
        all_goals (go_ret; exact ⟨rfl, hb⟩)
    · have h8 := hle (by simp)
      clear hle
      go_loop [5] (fun i => ∃ k : Nat, k ≤ s.size ∧ i = .int .i64 k) (fun i => s.size - (intOf i).toNat)
      case atStart => exact ⟨0, Nat.zero_le _, rfl⟩
      case round =>
        obtain ⟨k, hk, rfl⟩ := hrel
        by_cases hlt : k < s.size
        · have hx := HB.out (by simp) k hlt
          have p3 := fun w => nameOk_impl (s.extract k (k + 1)) w (by simp; unfold maxLen; omega)
          rw [hx] at p3
          clear hx
          go_wp2_with (go_at_call 8; refine (p3 _).mono ?_; rintro e w2 ⟨rfl, rfl⟩)
          go_round
          case rel => exact ⟨k + 1, by omega, by go_num⟩
          case measure => simp [intOf]; omega
        · go_wp2
          go_ret
          exact ⟨ret_bool (by simp; omega), hb⟩
  · clear h
    go_enter Try.func5, Try.ntmps5
    go_wp2
    go_ret
    exact ⟨rfl, Below.refl _ _⟩

end Go.Proofs.Ytclihmcejbpddaa
