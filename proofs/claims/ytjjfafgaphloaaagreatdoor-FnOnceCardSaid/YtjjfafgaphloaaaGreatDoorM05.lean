/- Of the proof of FnOnce: Bld, Str, CmpS, Inv. -/
import Derived.Test.YtjjfafgaphloaaaGreatDoorM02
namespace Go.Proofs.YtjjfafgaphloaaaGreatDoor
open Go.RowKit Go.Shelf
set_option linter.unusedVariables false
abbrev bT : TypeId := 120

theorem infoByte : (Tryz.prog.info? 5).map (fun i => (i.zero, i.size, i.bytes)) = some (some (.int .u8 0), 1, 1) := by kernel_rfl

theorem sizeBuilder : (Tryz.prog.info? bT).map (·.size) = some 2 := by kernel_rfl

theorem neB5 : bT ≠ 5 := by decide

theorem liesBuilder : liesAt Tryz.prog Tryz.prog.depth bT (2 / Tryz.prog.cellsOf bT) 0 bT 1 = true := by kernel_rfl

set_option maxHeartbeats 1000000 in
set_option maxRecDepth 100000 in
theorem copyCheck_fresh (b : Nat) (w : World) (h0 : w.cell? ⟨b, 0, none⟩ = some (.pointer none)) (hsh : w.shape? b = some (bT, 2)) (hfz : w.frozen? ⟨b, 0, none⟩ = false) :
    Calls Tryz.prog 106 #[.pointer (some ⟨b, 0, none⟩)] w fun e w' => e = .returned (.tuple #[]) ∧ w' = w.setCell ⟨b, 0, none⟩ (.pointer (some ⟨b, 0, none⟩)) := by
  obtain ⟨j, hj, hjs⟩ := Option.map_eq_some_iff.1 sizeBuilder
  go_enter Tryz.func106, Tryz.ntmps106
  go_wp2
  rw [Lib.run_to_unsafe w ⟨b, 0, none⟩ Tryz.underlying118 Tryz.underlying218 hj (by rw [hjs]; decide) hsh (Nat.zero_lt_succ 1)]
  simp only [Result.andThen]
  rw [Oper.upon_value]
  go_wp2
  rw [run_callFunc_extern Tryz.func146 (by kernel_rfl) (by kernel_rfl) (by kernel_rfl) (e := Extern.AbiNoEscape.same) (by kernel_rfl)]
  rw [Lib.run_noEscape]
  simp only [Result.andThen]
  rw [Oper.upon_value]
  go_wp2
  rw [Lib.run_from_unsafe w ⟨b, 0, none⟩ Tryz.underlying218 Tryz.underlying118 hj hsh liesBuilder]
  simp only [Result.andThen]
  rw [Oper.upon_value]
  go_wp2
  go_end0
  exact ⟨rfl, rfl⟩

set_option maxHeartbeats 1000000 in
set_option maxRecDepth 100000 in
theorem copyCheck_used (b : Nat) (w : World) (h0 : w.cell? ⟨b, 0, none⟩ = some (.pointer (some ⟨b, 0, none⟩))) :
    Calls Tryz.prog 106 #[.pointer (some ⟨b, 0, none⟩)] w fun e w' => e = .returned (.tuple #[]) ∧ w' = w := by
  obtain ⟨j, hj, _⟩ := Option.map_eq_some_iff.1 sizeBuilder
  go_enter Tryz.func106, Tryz.ntmps106
  go_wp2
  rw [Lib.run_neq_ptr_same w _ Tryz.underlying118 hj]
  go_wp2
  go_end0
  exact ⟨rfl, rfl⟩

theorem copyCheck_k (B b : Nat) (bs : List Value) (w : World) (h : Lib.IsBuilderF bT 5 B b bs w) :
    Calls Tryz.prog 106 #[.pointer (some ⟨b, 0, none⟩)] w fun e w' => e = .returned (.tuple #[]) ∧ (Lib.BuilderAtF bT 5 B b (.pointer (some ⟨b, 0, none⟩)) bs w' ∧ Below B w w' ∧ Lib.OthersKept 5 (some b) w w') := by
  rcases h with h | h
  · refine (copyCheck_fresh b w h.cell0 h.shape h.frozen0).mono ?_
    rintro e w' ⟨rfl, rfl⟩
    exact ⟨rfl, h.used _, (Below.refl B w).setCell (p := ⟨b, 0, none⟩) h.1 _, (Lib.OthersKept.refl _ _ w).setCell ⟨b, 0, none⟩ rfl _⟩
  · refine (copyCheck_used b w h.cell0).mono ?_
    rintro e w' ⟨rfl, rfl⟩
    exact ⟨rfl, h, Below.refl B _, Lib.OthersKept.refl _ _ _⟩

set_option maxHeartbeats 2000000 in
set_option maxRecDepth 100000 in
theorem writeByte_k (B b : Nat) (bs : List Value) (c : Int) (w : World) (h : Lib.IsBuilderF bT 5 B b bs w) (hlen : bs.length + 1 ≤ 140737488355328) (hBw : B ≤ w.heap.size) :
    Calls Tryz.prog 63 #[.pointer (some ⟨b, 0, none⟩), .int .u8 c] w fun e w' => e = .returned .nilIface ∧ (Lib.BuilderAtF bT 5 B b (.pointer (some ⟨b, 0, none⟩)) (bs ++ [.int .u8 c]) w' ∧ Below B w w' ∧ Lib.OthersKept 5 (some b) w w') := by
  obtain ⟨i0, hi, hz0, hz1, hz2⟩ := info_parts infoByte
  go_enter Tryz.func63, Tryz.ntmps63
  go_wp2_with (go_at_call 106; refine (copyCheck_k B b bs _ h).mono ?_)
  rintro e w1 ⟨rfl, h1, hb1, hk1⟩
  obtain ⟨hB, v, hbk, hown, hne⟩ := h1
  have c0 : w1.cell? ⟨b, 0, none⟩ = some (.pointer (some ⟨b, 0, none⟩)) := by rw [Lib.cell_of_heap hbk]; rfl
  have c1 : w1.cell? ⟨b, 1, none⟩ = some v := by rw [Lib.cell_of_heap hbk]; rfl
  go_wp2_with (at_builtin; refine wpList_append_ownF _ rfl _ _ 22 rfl B 5 i0 (.int .u8 0) 1 1 Tryz.underlying22 hi hz0 hz1 hz2 rfl (by decide) _ _ _ rfl (hown.alloc _) ⟨w1.heap.size, 0, none⟩ 1 1 [.int .u8 c] rfl rfl ?c1 ?c2 ?c3 ?c4 ?c5 ?_)
  case c1 =>
    intro j u hj
    match j, hj with
    | 0, hj => simp at hj; subst hj; simp [Addr.add]
  case c2 => intro u hu; simp at hu; subst hu; rfl
  case c3 => unfold maxLen; omega
  case c4 => omega
  case c5 => have := hb1.size; simp; omega
  intro v' w2 hown' hgrow _
  have hlt : b < w1.heap.size := by
    rcases Nat.lt_or_ge b w1.heap.size with h' | h'
    · exact h'
    · simp [Array.getElem?_eq_none h'] at hbk
  have hb2 : w2.heap[b]? = some (.cells #[.pointer (some ⟨b, 0, none⟩), v] bT (0, 0)) := by
    rw [hgrow.block b (by simp; omega) (fun e => hne e.symm), Lib.alloc_old w1 _ b hlt]
    exact hbk
  have d0 : w2.cell? ⟨b, 0, none⟩ = some (.pointer (some ⟨b, 0, none⟩)) := by rw [Lib.cell_of_heap hb2]; rfl
  have d1 : w2.cell? ⟨b, 1, none⟩ = some v := by rw [Lib.cell_of_heap hb2]; rfl
  have f1 : w2.frozen? ⟨b, 1, none⟩ = false := Lib.frozen_of_heap hb2 1
  obtain ⟨g, cap, rfl⟩ : ∃ g cap, v' = .slice (some ⟨g, 0, none⟩) (bs.length + 1) cap := by
    rcases hown'.2 with ⟨_, h0⟩ | ⟨g, cap, cur, fz, hv, _⟩
    · omega
    · exact ⟨g, cap, hv⟩
  go_wp2
  go_ret
  refine ⟨rfl, ?_, ?_, ((hk1.alloc _).grown hgrow (Lib.ownsRowF_kind (hown.alloc _))).setCell ⟨b, 1, none⟩ rfl _⟩
  · exact Lib.BuilderAtF.put (T := bT) (e := 5) hB hb2 (bs' := bs ++ [.int .u8 c]) (by simpa using hown') neB5
  · exact ((hb1.alloc (by have := hb1.size; omega) _).grown hgrow (by have := hb1.size; simp; omega) (fun k hk => (hown.lt k hk).1)).setCell (p := ⟨b, 1, none⟩) hB _

set_option maxHeartbeats 2000000 in
set_option maxRecDepth 100000 in
theorem writeString_k (B b : Nat) (bs : List Value) (s : ByteArray) (w : World) (h : Lib.IsBuilderF bT 5 B b bs w) (hlen : bs.length + s.size ≤ 140737488355328) (hBw : B ≤ w.heap.size) :
    Calls Tryz.prog 62 #[.pointer (some ⟨b, 0, none⟩), .string s] w fun e w' => e = .returned (.tuple #[.int .i64 s.size, .nilIface]) ∧ (Lib.BuilderAtF bT 5 B b (.pointer (some ⟨b, 0, none⟩)) (bs ++ Lib.strCells s) w' ∧ Below B w w' ∧ Lib.OthersKept 5 (some b) w w') := by
  obtain ⟨i0, hi, hz0, hz1, hz2⟩ := info_parts infoByte
  go_enter Tryz.func62, Tryz.ntmps62
  go_wp2_with (go_at_call 106; refine (copyCheck_k B b bs _ h).mono ?_)
  rintro e w1 ⟨rfl, h1, hb1, hk1⟩
  obtain ⟨hB, v, hbk, hown, hne⟩ := h1
  have c0 : w1.cell? ⟨b, 0, none⟩ = some (.pointer (some ⟨b, 0, none⟩)) := by rw [Lib.cell_of_heap hbk]; rfl
  have c1 : w1.cell? ⟨b, 1, none⟩ = some v := by rw [Lib.cell_of_heap hbk]; rfl
  go_wp2_with (at_builtin; refine Lib.wpList_append_own_stringF _ rfl _ _ 22 9 rfl B 5 i0 Tryz.underlying22 Tryz.underlying9 hi hz0 hz1 hz2 _ _ _ rfl hown s rfl ?c3 ?c4 ?c5 ?_)
  case c3 => unfold maxLen; omega
  case c4 => omega
  case c5 => have := hb1.size; omega
  intro v' w2 hown' hgrow _
  have hlt : b < w1.heap.size := by
    rcases Nat.lt_or_ge b w1.heap.size with h' | h'
    · exact h'
    · simp [Array.getElem?_eq_none h'] at hbk
  have hb2 : w2.heap[b]? = some (.cells #[.pointer (some ⟨b, 0, none⟩), v] bT (0, 0)) := by
    rw [hgrow.block b hlt (fun e => hne e.symm)]
    exact hbk
  have d0 : w2.cell? ⟨b, 0, none⟩ = some (.pointer (some ⟨b, 0, none⟩)) := by rw [Lib.cell_of_heap hb2]; rfl
  have d1 : w2.cell? ⟨b, 1, none⟩ = some v := by rw [Lib.cell_of_heap hb2]; rfl
  have f1 : w2.frozen? ⟨b, 1, none⟩ = false := Lib.frozen_of_heap hb2 1
  obtain ⟨ao, n', cap, rfl⟩ : ∃ ao n' cap, v' = .slice ao n' cap := by
    rcases hown'.2 with ⟨hv, _⟩ | ⟨g, cap, cur, fz, hv, _⟩
    · exact ⟨_, _, _, hv⟩
    · exact ⟨_, _, _, hv⟩
  go_wp2
  go_ret2
  refine ⟨rfl, ?_, ?_, (hk1.grown hgrow (Lib.ownsRowF_kind hown)).setCell ⟨b, 1, none⟩ rfl _⟩
  · exact Lib.BuilderAtF.put (T := bT) (e := 5) hB hb2 (bs' := bs ++ Lib.strCells s) (by simpa [Lib.strCells_length] using hown') neB5
  · exact (hb1.grown hgrow (by have := hb1.size; omega) (fun k hk => (hown.lt k hk).1)).setCell (p := ⟨b, 1, none⟩) hB _

/-- A builder that holds l. -/
abbrev Bld (B b : Nat) (l : List UInt8) (w : World) : Prop := Lib.IsBuilderF bT 5 B b (Lib.byteCells l) w

structure Wrote (B b : Nat) (l : List UInt8) (w w' : World) : Prop where
  bld : Bld B b l w'
  below : Below B w w'
  kept : Lib.OthersKept 5 (some b) w w'

theorem Wrote.block {B b k : Nat} {l : List UInt8} {w w' : World} (h : Wrote B b l w w') {c : Array Value} {e : TypeId} {fz : Nat × Nat} (hk : w.heap[k]? = some (.cells c e fz)) (hb : k ≠ b) (he : e ≠ 5) : w'.heap[k]? = some (.cells c e fz) :=
  h.kept k _ hk (fun x => hb (by injection x)) (fun c' fz' x => he (by injection x))

theorem dlen (s : ByteArray) : s.data.toList.length = s.size := Array.length_toList

theorem Bld.below {B b : Nat} {l : List UInt8} {w w' : World} (h : Bld B b l w) (hb : Below w.heap.size w w') : Bld B b l w' := by
  have key : ∀ p, Lib.BuilderAtF bT 5 B b p (Lib.byteCells l) w → Lib.BuilderAtF bT 5 B b p (Lib.byteCells l) w' := by
    rintro p ⟨hB, v, hbk, ⟨h1, h2⟩, hne⟩
    refine ⟨hB, v, by rw [hb.block b (lt_of_block hbk)]; exact hbk, ⟨h1, ?_⟩, hne⟩
    rcases h2 with h2 | ⟨g, cap, cur, fz, hv, hg, hh, r⟩
    · exact .inl h2
    · exact .inr ⟨g, cap, cur, fz, hv, hg, by rw [hb.block g (lt_of_block hh)]; exact hh, r⟩
  exact h.imp (key _) (key _)

theorem bld_new (w : World) : Bld w.heap.size w.heap.size [] (w.alloc (.cells #[.pointer none, .slice none 0 0] bT)) := Lib.IsBuilderF.of (Lib.fresh_isBuilder bT 5 w)

theorem wByte (B b : Nat) (l : List UInt8) (c : UInt8) (n : Int) (hc : n = c.toNat) (w : World) (h : Bld B b l w) (hlen : l.length ≤ 1073741824) (hBw : B ≤ w.heap.size) :
    Calls Tryz.prog 63 #[.pointer (some ⟨b, 0, none⟩), .int .u8 n] w fun e w' => e = .returned .nilIface ∧ Wrote B b (l ++ [c]) w w' := by
  refine (writeByte_k B b _ n w h (by rw [Lib.byteCells_length]; omega) hBw).mono fun e w' h => ?_
  obtain ⟨he, h1, h2, h3⟩ := h
  refine ⟨he, ⟨?_, h2, h3⟩⟩
  show Lib.IsBuilderF _ _ _ _ _ _
  rw [Lib.byteCells_append, show Lib.byteCells [c] = [Value.int .u8 n] from by rw [hc]; rfl]
  exact .inr h1

theorem wStr (B b : Nat) (l : List UInt8) (s : ByteArray) (w : World) (h : Bld B b l w) (hlen : l.length ≤ 1073741824) (hs : s.size ≤ 1073741824) (hBw : B ≤ w.heap.size) :
    Calls Tryz.prog 62 #[.pointer (some ⟨b, 0, none⟩), .string s] w fun e w' => e = .returned (.tuple #[.int .i64 s.size, .nilIface]) ∧ Wrote B b (l ++ s.data.toList) w w' := by
  refine (writeString_k B b _ s w h (by rw [Lib.byteCells_length]; omega) hBw).mono fun e w' h => ?_
  obtain ⟨he, h1, h2, h3⟩ := h
  refine ⟨he, ⟨?_, h2, h3⟩⟩
  show Lib.IsBuilderF _ _ _ _ _ _
  rw [Lib.byteCells_append]
  exact .inr h1

theorem wEnd (B b : Nat) (l : List UInt8) (w : World) (h : Bld B b l w) (hBw : B ≤ w.heap.size) :
    Calls Tryz.prog 64 #[.pointer (some ⟨b, 0, none⟩)] w fun e w' => e = .returned (.string ⟨l.toArray⟩) ∧ Wrote B b l w w' := by
  refine (Tryz.Builder_String_any_k B b l w h hBw).mono fun e w' h => ?_
  obtain ⟨he, h1, h2, h3⟩ := h
  exact ⟨he, ⟨h1, h2, h3⟩⟩

end Go.Proofs.YtjjfafgaphloaaaGreatDoor
namespace Go.Proofs.YtjjfafgaphloaaaGreatDoor
open Go.RowKit D
set_option linter.unusedVariables false
set_option maxHeartbeats 400000 in
theorem plain_any (s : ByteArray) (w : World) (hs : s.size ≤ maxLen) :
    Calls Tryz.prog 184 #[.string s] w fun e w' => e = .returned (.bool (lows s.data.toList)) ∧ w = w' := by
  unfold maxLen at hs
  go_enter Tryz.func184, Tryz.ntmps184
  go_wp2
  go_loop [3, 4] (fun i _ => ∃ k : Nat, k ≤ s.size ∧ i = .int .i64 k ∧ lows (s.data.toList.take k) = true) (fun i _ => s.size - (intOf i).toNat)
  case atStart => exact ⟨0, Nat.zero_le _, rfl, rfl⟩
  case round =>
    obtain ⟨k, hk, rfl, hl⟩ := hrel
    have HL := Lib.hid hl
    clear hl
    by_cases hlt : k < s.size
    · by_cases hb : low s[k] = false
      · have hbad := lows_bad s k hlt hb
        have HB := Lib.hid hbad
        rw [low_int] at hb
        clear hbad
        go_wp2
        all_goals first
          | (exfalso; omega)
          | (go_ret; exact ⟨ret_bool HB.out.symm, rfl⟩)
      · have hg : low s[k] = true := by simpa using hb
        have hs1 := lows_snoc s k hlt HL.out
        rw [hg] at hs1
        have HS := Lib.hid hs1
        have hn := mt (low_int s[k]).2 hb
        clear hs1 hg hb
        go_wp2
        all_goals first
          | (exfalso; omega)
          | (go_round
             case rel => exact ⟨k + 1, by omega, by go_num, HS.out⟩
             case measure => simp [intOf]; omega)
    · have he : k = s.size := by omega
      subst he
      have HE := Lib.hid ((lows_all s).symm.trans HL.out)
      go_wp2
      go_ret
      exact ⟨ret_bool HE.out.symm, rfl⟩

set_option maxHeartbeats 400000 in
theorem in_any (a b c : Int) (w : World) :
    Calls Tryz.prog 202 #[.int .i64 a, .int .i64 b, .int .i64 c] w fun e w' => e = .returned (.bool (decide (b ≤ a) && decide (a ≤ c))) ∧ w = w' := by
  by_cases h1 : b ≤ a
  all_goals by_cases h2 : a ≤ c
  all_goals
    go_enter Tryz.func202, Tryz.ntmps202
    go_wp2
    go_ret
    exact ⟨ret_bool (by simp [h1, h2]), rfl⟩

set_option maxHeartbeats 400000 in
theorem letters_any (s : ByteArray) (w : World) (hs : s.size ≤ maxLen) :
    Calls Tryz.prog 190 #[.string s] w fun e w' => e = .returned (.bool (lows s.data.toList && decide (1 ≤ s.size) && decide (s.size ≤ 8))) ∧ w = w' := by
  unfold maxLen at hs
  go_enter Tryz.func190, Tryz.ntmps190
  go_wp2
  go_loop [3] (fun i => ∃ k : Nat, k ≤ s.size ∧ i = .int .i64 k ∧ lows (s.data.toList.take k) = true) (fun i => s.size - (intOf i).toNat)
  case atStart => exact ⟨0, Nat.zero_le _, rfl, rfl⟩
  case round =>
    obtain ⟨k, hk, rfl, hl⟩ := hrel
    have HL := Lib.hid hl
    clear hl
    by_cases hlt : k < s.size
    · by_cases hb : low s[k] = false
      · have hbad := lows_bad s k hlt hb
        have HB := Lib.hid hbad
        rw [low_int] at hb
        clear hbad
        go_wp2
        all_goals first
          | (exfalso; omega)
          | (go_ret; exact ⟨ret_bool (by rw [HB.out]; rfl), rfl⟩)
      · have hg : low s[k] = true := by simpa using hb
        have hs1 := lows_snoc s k hlt HL.out
        rw [hg] at hs1
        have HS := Lib.hid hs1
        have hn := mt (low_int s[k]).2 hb
        clear hs1 hg hb
        go_wp2
        all_goals first
          | (exfalso; omega)
          | (go_round
             case rel => exact ⟨k + 1, by omega, by go_num, HS.out⟩
             case measure => simp [intOf]; omega)
    · have he : k = s.size := by omega
      subst he
      have HE := Lib.hid ((lows_all s).symm.trans HL.out)
      go_wp2_with (go_at_call 202; refine (in_any _ _ _ _).mono ?_; rintro e w' ⟨rfl, rfl⟩)
      go_ret
      exact ⟨ret_bool (by rw [HE.out, Bool.eq_iff_iff]; simp; omega), rfl⟩

theorem nameOk_alt (s : ByteArray) : nameOk s = ((lows s.data.toList && decide (1 ≤ s.size) && decide (s.size ≤ 8)) && !(s.toList == [110, 111, 116])) := by
  unfold nameOk
  cases decide (1 ≤ s.size) <;> cases decide (s.size ≤ 8) <;> cases lows s.data.toList <;> rfl

set_option maxHeartbeats 400000 in
theorem nameOk_spec (s : ByteArray) (w : World) (hs : s.size ≤ maxLen) :
    Calls Tryz.prog 172 #[.string s] w fun e w' => e = .returned (.bool (nameOk s)) ∧ w = w' := by
  rw [nameOk_alt]
  have hc := letters_any s w hs
  generalize (lows s.data.toList && decide (1 ≤ s.size) && decide (s.size ≤ 8)) = b at *
  cases b
  all_goals
    go_enter Tryz.func172, Tryz.ntmps172
    go_wp2_with (go_at_call 190; refine hc.mono ?_; rintro e w' ⟨rfl, rfl⟩)
    go_ret
    exact ⟨rfl, rfl⟩

set_option maxHeartbeats 400000 in
theorem nameOk_impl (s : ByteArray) (w : World) (hs : s.size ≤ maxLen) :
    Calls Tryz.prog 160 #[.string s] w fun e w' => e = .returned (.bool (nameOk s)) ∧ w = w' := by
  unfold nameOk
  have hc := plain_any s w hs
  generalize lows s.data.toList = b at *
  by_cases h1 : 1 ≤ s.size
  all_goals by_cases h2 : s.size ≤ 8
  all_goals cases b
  all_goals
    go_enter Tryz.func160, Tryz.ntmps160
    go_wp2_with (go_at_call 184; refine hc.mono ?_; rintro e w' ⟨rfl, rfl⟩)
    all_goals (go_ret; exact ⟨ret_bool (by simp [h1, h2]), rfl⟩)

set_option maxHeartbeats 400000 in
theorem capital_any (s : ByteArray) (w : World) (hs : s.size ≤ maxLen) :
    Calls Tryz.prog 200 #[.string s] w fun e w' => e = .returned (.bool (capB s)) ∧ w = w' := by
  unfold maxLen at hs
  by_cases h0 : 0 < s.size
  · have hc : capB s = big s[0] := by unfold capB; rw [headD_at s h0]; simp [h0]
    rw [hc]
    have hne := nonempty_at s h0
    by_cases h1 : 65 ≤ (s[0].toNat : Int)
    all_goals by_cases h2 : (s[0].toNat : Int) ≤ 90
    all_goals
      go_enter Tryz.func200, Tryz.ntmps200
      go_wp2
      all_goals (go_ret; exact ⟨ret_bool (by rw [Bool.eq_iff_iff, big_int]; simp; omega), rfl⟩)
  · have hne := empty_at s h0
    have hc : capB s = false := by unfold capB; simp [h0]
    rw [hc]
    go_enter Tryz.func200, Tryz.ntmps200
    go_wp2
    go_ret
    exact ⟨rfl, rfl⟩

set_option maxHeartbeats 400000 in
theorem variableOk_any (s : ByteArray) (w : World) (hs : s.size ≤ maxLen) :
    Calls Tryz.prog 185 #[.string s] w fun e w' => e = .returned (.bool (varOk s)) ∧ w = w' := by
  have hc := capital_any s w hs
  have hp := plain_any (s.extract 1 s.size) w (by simp; omega)
  rw [tail_at] at hp
  unfold varOk
  unfold maxLen at hs
  by_cases h8 : s.size ≤ 8
  all_goals cases hb : capB s
  all_goals rw [hb] at hc
  case neg.false | neg.true | pos.false =>
    go_enter Tryz.func185, Tryz.ntmps185
    go_wp2_with (go_at_call 200; refine hc.mono ?_; rintro e w' ⟨rfl, rfl⟩)
    all_goals (go_ret; exact ⟨ret_bool (by simp [h8]), rfl⟩)
  case pos.true =>
    have h1 := capB_pos hb
    clear hb
    generalize lows s.data.toList.tail = b at *
    go_enter Tryz.func185, Tryz.ntmps185
    go_wp2_with (first | (go_at_call 200; refine hc.mono ?_; rintro e w' ⟨rfl, rfl⟩) | (go_at_call 184; refine hp.mono ?_; rintro e w' ⟨rfl, rfl⟩))
    all_goals (go_ret; exact ⟨ret_bool (by simp [h8]), rfl⟩)

end Go.Proofs.YtjjfafgaphloaaaGreatDoor
namespace Go.Proofs.YtjjfafgaphloaaaGreatDoor
open Go.RowKit D
set_option linter.unusedVariables false
attribute [local go_sem ↓] Go.wp_at_zero Go.wp_at_succ
theorem below_drewN {B : Nat} {a w : World} (h : Below B a w) (n : Nat) : Below B a (w.drewN n) := ⟨h.os, h.tape, h.output, h.size, h.block⟩

namespace D
theorem cmpTs_step {ts us : List T} {k : Nat} (h1 : k < ts.length) (h2 : k < us.length) : cmpTs (ts.drop k) (us.drop k) = if cmpS ts[k].name us[k].name = 0 then cmpTs (ts.drop (k + 1)) (us.drop (k + 1)) else cmpS ts[k].name us[k].name := by
  rw [List.drop_eq_getElem_cons h1, List.drop_eq_getElem_cons h2]; rfl

theorem cmpTs_end1 {ts us : List T} {k : Nat} (h1 : k < ts.length) (h2 : us.length ≤ k) : cmpTs (ts.drop k) (us.drop k) = 1 := by
  rw [List.drop_eq_getElem_cons h1, List.drop_of_length_le h2]; rfl

theorem cmpTs_end2 {ts us : List T} {k : Nat} (h1 : ts.length ≤ k) (h2 : k < us.length) : cmpTs (ts.drop k) (us.drop k) = -1 := by
  rw [List.drop_eq_getElem_cons h2, List.drop_of_length_le h1]; rfl

theorem cmpTs_end3 {ts us : List T} {k : Nat} (h1 : ts.length ≤ k) (h2 : us.length ≤ k) : cmpTs (ts.drop k) (us.drop k) = 0 := by
  rw [List.drop_of_length_le h2, List.drop_of_length_le h1]; rfl

theorem cmpS_cases (a b : ByteArray) : (cmpS a b = -1 ∧ Op.bytesLess a.toList b.toList = true) ∨ (cmpS a b = 0 ∧ Op.bytesLess a.toList b.toList = false ∧ (a.toList == b.toList) = true) ∨ (cmpS a b = 1 ∧ Op.bytesLess a.toList b.toList = false ∧ (a.toList == b.toList) = false) := by
  rw [less_cmpS, eq_cmpS]
  rcases cmpS_is.vals a b with h | h | h <;> simp [h]

end D
set_option maxHeartbeats 400000 in
theorem l1Texts_any (a b : ByteArray) (w : World) :
    Calls Tryz.prog 174 #[.string a, .string b] w fun e w' => e = .returned (.int .i64 (cmpS a b)) ∧ w' = w := by
  rcases cmpS_cases a b with ⟨h, h1⟩ | ⟨h, h1, h2⟩ | ⟨h, h1, h2⟩
  all_goals
    have H := Lib.hid h
    clear h
    go_enter Tryz.func174, Tryz.ntmps174
    go_wp2
    go_ret
    exact ⟨ret_int H.out.symm, rfl⟩

set_option maxHeartbeats 1000000 in
theorem l1Cmp_any (a b : A) (c0 c1 d0 d1 : Value) (b1 b2 : List Nat) (w : World) (h1 : atomK w [c0, c1] a b1) (h2 : atomK w [d0, d1] b b2) :
    Calls Tryz.prog 127 #[.agg #[c0, c1], .agg #[d0, d1]] w fun e w' => e = .returned (.int .i64 (cmpA a b)) ∧ Below w.heap.size w w' := by
  obtain ⟨Ad, cap, rfl, rfl⟩ := atom_cells2 h1
  obtain ⟨Ae, cape, rfl, rfl⟩ := atom_cells2 h2
  have t1 := atom_args h1
  have t2 := atom_args h2
  obtain ⟨_, _, hv1, hl, hm⟩ := sliceK_form t1
  obtain ⟨_, _, hv2, hl2, hm2⟩ := sliceK_form t2
  have hlm := nat_ge_max (Nat.le_trans hl hm)
  have hlm2 := nat_ge_max (Nat.le_trans hl2 hm2)
  clear hv1 hv2 hl hl2 hm hm2
  have hc : cmpA a b = if cmpS a.name b.name = 0 then cmpTs a.args b.args else cmpS a.name b.name := rfl
  have HC := Lib.hid hc
  clear h1 h2 hc
  go_enter Tryz.func127, Tryz.ntmps127
  go_wp2_with (go_at_call 174; refine (l1Texts_any _ _ _).mono ?_; rintro e w' ⟨rfl, rfl⟩)
  have hA := ((Below.refl w.heap.size w).alloc (Nat.le_refl _) (.cells #[.string a.name, .slice Ad a.args.length cap] 33)).alloc (by simp) (.cells #[.string b.name, .slice Ae b.args.length cape] 33)
  go_loopw [5, 6] (fun c i wr => ∃ (k : Nat) (z : Int), k ≤ a.args.length ∧ k ≤ b.args.length ∧ i = .int .i64 k ∧ c = .int .i64 z ∧ cmpA a b = (if z = 0 then cmpTs (a.args.drop k) (b.args.drop k) else z) ∧ Below w.heap.size w wr ∧
      wr.cell? ⟨w.heap.size, 1, none⟩ = some (.slice Ad a.args.length cap) ∧ wr.cell? ⟨w.heap.size + 1, 1, none⟩ = some (.slice Ae b.args.length cape)) (fun _ i _ => a.args.length - (intOf i).toNat)
  case atStart => exact ⟨0, _, Nat.zero_le _, Nat.zero_le _, rfl, rfl, HC.out, hA, by go_simp, by go_simp⟩
  case round =>
    obtain ⟨k, z, hk, hk2, rfl, rfl, hz, hb, x1, y1⟩ := hrel
    have HZ := Lib.hid hz
    clear hz hA
    by_cases hz : z = 0
    · subst hz
      have H0 := Lib.hid (HZ.out.trans (if_pos rfl))
      by_cases hlt : k < a.args.length
      · by_cases hlt2 : k < b.args.length
        · obtain ⟨b', o, rfl, _, _, c1, _⟩ := terms_at (termsK_good.below t1 hb) hlt
          obtain ⟨b'', o', rfl, _, _, d1, _⟩ := terms_at (termsK_good.below t2 hb) hlt2
          have HS := Lib.hid (cmpTs_step hlt hlt2)
          have hkk : (0 : Int) ≤ (k : Int) := by omega
          have hk3 : (k : Int) < (a.args.length : Int) := by omega
          have hk4 : (k : Int) < (b.args.length : Int) := by omega
          clear t1 t2
          go_wp2
          go_quiet ((go_at_call 174; exact Calls.quiet_of_same (l1Texts_any _ _ _)))
          go_wp2
          have HW := Lib.hid HZ
          go_roundw
          case rel => exact ⟨k + 1, _, by omega, by omega, by go_num, rfl, by rw [H0.out, HS.out], below_drewN hb _, x1, y1⟩
          case measure => simp [intOf]; omega
        · have HS := Lib.hid (cmpTs_end1 hlt (Nat.le_of_not_lt hlt2))
          have hx : ¬ a.args.length < b.args.length := by omega
          have hy : b.args.length < a.args.length := by omega
          clear t1 t2
          go_wp2
          go_ret
          exact ⟨ret_int (by rw [H0.out, HS.out]), hb⟩
      · have he : a.args.length ≤ k := by omega
        by_cases hlt2 : k < b.args.length
        · have HS := Lib.hid (cmpTs_end2 he hlt2)
          have hx : a.args.length < b.args.length := by omega
          clear t1 t2
          go_wp2
          go_ret
          exact ⟨ret_int (by rw [H0.out, HS.out]), hb⟩
        · have HS := Lib.hid (cmpTs_end3 he (Nat.le_of_not_lt hlt2))
          have hx : ¬ a.args.length < b.args.length := by omega
          have hy : ¬ b.args.length < a.args.length := by omega
          clear t1 t2
          go_wp2
          go_ret
          exact ⟨ret_int (by rw [H0.out, HS.out]), hb⟩
    · have H0 := Lib.hid (HZ.out.trans (if_neg hz))
      have hz1 : (z == 0) = false := beq_eq_false_iff_ne.2 hz
      have hz2 : (z != 0) = true := by simp [hz]
      clear hz
      by_cases hlt : k < a.args.length
      all_goals by_cases hlt2 : k < b.args.length
      all_goals
        clear t1 t2
        go_wp2
        go_ret
        exact ⟨ret_int H0.out.symm, hb⟩

end Go.Proofs.YtjjfafgaphloaaaGreatDoor
namespace Go.Proofs.YtjjfafgaphloaaaGreatDoor
open Go
set_option linter.unusedVariables false
/-- Which operations are done. -/
def D.dn (listed : Array Bool) (j : Nat) : Bool := listed.getD j false

theorem D.dn_set (listed : Array Bool) (i j : Nat) (hi : i < listed.size) : dn (listed.setIfInBounds i true) j = if j = i then true else dn listed j := by
  unfold dn
  by_cases h : j = i
  · subst h
    simp [Array.getD, hi]
  · rw [if_neg h]
    simp only [Array.getD_eq_getD_getElem?, Array.getElem?_setIfInBounds_ne (Ne.symm h)]

/-- Each operation's edges lead back. -/
def D.backB (md : Region.Mode) (ops : Array Oper) : Bool := (List.range ops.size).all fun i => ((ops[i]?).map fun o => o.after.all fun e => !Region.binds md e || decide (e.on < i)).getD true

theorem D.wpAny_inv {P : Program} {ops : Array Oper} {md : Region.Mode} {Q : Exit → Act → World → Prop} (J : (Nat → Bool) → Act → World → Prop) (hback : D.backB md ops = true)
    (hstep : ∀ i o, ops[i]? = some o → ∀ f a w, J f a w → f i = false → (o.after.all fun e => !Region.binds md e || f e.on) = true → wpOp P ops Q i (J fun j => if j = i then true else f j) a w)
    (hdone : ∀ f a w, (∀ i, i < ops.size → f i = true) → J f a w → Q .normal a w) :
    ∀ (fuel : Nat) (listed : Array Bool) (a : Act) (w : World), listed.size = ops.size → ((List.range ops.size).countP fun i => !dn listed i) ≤ fuel → J (dn listed) a w → wpAny P md ops Q fuel listed a w := by
  have hready : ∀ (listed : Array Bool) (i : Nat), listed.size = ops.size → i ∈ Region.ready md ops listed → ∃ o, ops[i]? = some o ∧ i < ops.size ∧ dn listed i = false ∧ (o.after.all fun e => !Region.binds md e || dn listed e.on) = true := by
    intro listed i hs hi
    unfold Region.ready at hi
    obtain ⟨h1, h2⟩ := List.mem_filter.1 hi
    have hlt := List.mem_range.1 h1
    obtain ⟨o, ho⟩ : ∃ o, ops[i]? = some o := ⟨ops[i], Array.getElem?_eq_getElem hlt⟩
    rw [ho] at h2
    simp only [Option.map_some, Option.getD_some, Bool.and_eq_true] at h2
    refine ⟨o, ho, hlt, ?_, h2.2⟩
    have h3 := h2.1
    unfold dn
    have hl2 : i < listed.size := by omega
    simp only [Array.getD, hl2, dif_pos, Bool.not_eq_true'] at h3 ⊢
    exact h3
  have hall : ∀ (listed : Array Bool), listed.size = ops.size → Region.ready md ops listed = [] → ∀ i, i < ops.size → dn listed i = true := by
    intro listed hs hr i
    induction i using Nat.strongRecOn with
    | _ i ih =>
      intro hlt
      cases hd : dn listed i with
      | true => rfl
      | false =>
        exfalso
        have : i ∈ Region.ready md ops listed := by
          unfold Region.ready
          refine List.mem_filter.2 ⟨List.mem_range.2 hlt, ?_⟩
          have hl2 : i < listed.size := by omega
          unfold dn at hd
          rw [Array.getElem?_eq_getElem hlt]
          simp only [Array.getD, hl2, dif_pos] at hd ⊢
          simp only [Option.map_some, Option.getD_some, hd, Bool.not_false, Bool.true_and, Array.all_eq_true]
          intro k hk
          have hb := hback
          unfold backB at hb
          have hb1 := List.all_eq_true.1 hb i (List.mem_range.2 hlt)
          rw [Array.getElem?_eq_getElem hlt] at hb1
          simp only [Option.map_some, Option.getD_some, Array.all_eq_true] at hb1
          have hb2 := hb1 k hk
          cases hbi : Region.binds md (ops[i]).after[k] with
          | false => simp
          | true =>
            rw [hbi] at hb2
            have hon : ((ops[i]).after[k]).on < i := by simpa using hb2
            have := ih _ hon (by omega)
            unfold dn at this
            simp only [Bool.not_true, Bool.false_or]
            exact this
        rw [hr] at this
        cases this
  intro fuel
  induction fuel with
  | zero =>
    intro listed a w hs hc hJ
    have hz : ∀ i ∈ List.range ops.size, ¬ (!dn listed i) = true := List.countP_eq_zero.1 (Nat.le_zero.1 hc)
    have hnil : Region.ready md ops listed = [] := by
      cases hr : Region.ready md ops listed with
      | nil => rfl
      | cons i rs =>
        obtain ⟨o, ho, hlt, hf, _⟩ := hready listed i hs (by rw [hr]; exact List.mem_cons_self ..)
        exact absurd (by simp [hf]) (hz i (List.mem_range.2 hlt))
    exact ⟨hnil, hdone _ a w (hall listed hs hnil) hJ⟩
  | succ fuel ih =>
    intro listed a w hs hc hJ
    refine ⟨fun hnil => hdone _ a w (hall listed hs hnil) hJ, fun i hi => ?_⟩
    obtain ⟨o, ho, hlt, hf, haf⟩ := hready listed i hs hi
    refine wpOp_mono (fun a' w' hJ' => ih _ a' w' (by simpa using hs) ?_ ?_) (hstep i o ho (dn listed) a w hJ hf haf)
    · have h1 : ∀ (l : List Nat), l.Nodup → i ∈ l → (l.countP fun j => !dn (listed.setIfInBounds i true) j) + 1 ≤ l.countP fun j => !dn listed j := by
        intro l
        induction l with
        | nil => intro _ h; cases h
        | cons x l ihl =>
          intro hnd hm
          have hnd' := List.nodup_cons.1 hnd
          rw [List.countP_cons, List.countP_cons]
          by_cases hx : x = i
          · subst hx
            have e1 : (l.countP fun j => !dn (listed.setIfInBounds x true) j) = l.countP fun j => !dn listed j := List.countP_congr fun j hj => by
              have hne : j ≠ x := fun e => hnd'.1 (by rw [← e]; exact hj)
              rw [dn_set _ _ _ (by omega), if_neg hne]
            rw [e1, dn_set _ _ _ (by omega), if_pos rfl, hf]
            simp
          · have := ihl hnd'.2 (by rcases List.mem_cons.1 hm with h | h; exact absurd h.symm hx; exact h)
            rw [dn_set _ _ _ (by omega), if_neg hx]
            omega
      have := h1 _ List.nodup_range (List.mem_range.2 hlt)
      omega
    · have : dn (listed.setIfInBounds i true) = fun j => if j = i then true else dn listed j := funext fun j => dn_set _ _ _ (by omega)
      rw [this]
      exact hJ'

/-- A region at its draw. -/
theorem D.wp_region_inv {P : Program} {ops : Array Oper} {Q : Exit → Act → World → Prop} {id : Nat} (J : (Nat → Bool) → Act → World → Prop) (hm : P.follows .mixedOrders = true) (hback : D.backB .any ops = true) {a : Act} {w : World}
    (h0 : J (fun _ => false) a w.drew)
    (hstep : ∀ i o, ops[i]? = some o → ∀ f a w, J f a w → f i = false → (o.after.all fun e => !Region.binds .any e || f e.on) = true → wpOp P ops Q i (J fun j => if j = i then true else f j) a w)
    (hdone : ∀ f a w, (∀ i, i < ops.size → f i = true) → J f a w → Q .normal a w) : (Code.region id ops true).wp P Q a w := by
  refine wp_region_any hm ?_
  refine wpAny_inv J hback hstep hdone _ _ _ _ (by simp) ?_ ?_
  · exact Nat.le_trans List.countP_le_length (by simp)
  · have : dn (Array.replicate ops.size false) = fun _ => false := funext fun j => by
      unfold dn
      by_cases h : j < ops.size
      · simp [Array.getD, h]
      · simp [Array.getD, h]
    rw [this]
    exact h0

end Go.Proofs.YtjjfafgaphloaaaGreatDoor
