/- Of the proof of FnExactOnce: PatI, QryQ. -/
import Derived.WalkKit
import Derived.Lib.Hide
import Derived.WalkSpells
import Derived.WalkLawsBesides
import Derived.BigQuiet
import Derived.Deep.RegionHeld3
import Derived.Deep.RegionHeldLaw
import Derived.Deep.RegionLaw
import Derived.Deep.RegionWith
import Derived.Deep.DrawnRows
import Derived.Deep.AppendLies
import Derived.Test.YtjjfafgaphloaaaGreatDoorProg
import Derived.Test.YtjjfafgaphloaaaGreatDoorM08
import Derived.Test.YtjjfafgaphloaaaGreatDoorM17
namespace Go.Proofs.YtjjfafgaphloaaaGreatDoor
open Go.RowKit D
set_option linter.unusedVariables false
attribute [local go_sem ↓] Go.wp_at_zero Go.wp_at_succ
theorem infoSlot : (Tryz.prog.info? 172).map (fun i => (i.zero, i.size, i.bytes)) = some (some (.agg #[.int .i64 0, .string ⟨#[]⟩]), 2, 24) := by kernel_rfl

theorem assertWVp (s : ByteArray) (w : World) : (Instr.typeAssert (.iface 173 (.string s)) 167 169 true).run Tryz.prog w = .ok (.tuple #[.string ⟨#[]⟩, .bool false]) w := by kernel_rfl

theorem D.size_none : (⟨#[]⟩ : ByteArray).size ≤ maxLen := by decide

set_option maxRecDepth 100000 in
set_option maxHeartbeats 2000000 in
theorem pattern_any (vars : List ByteArray) (a : A) (A1 A2 : Option Addr) (n1 q1 n2 q2 : Nat) (v3 c0 c1 : Value) (b3 b1 : List Nat) (w : World) (hv : strsK w [v3] vars b3) (hs : ascS vars) (hvl : vars.length ≤ 1000000) (h : atomK w [c0, c1] a b1) (hin : ∀ t ∈ a.args, t.var = true → t.name ∈ vars) (hal : a.args.length ≤ 1000000) :
    Calls Tryz.prog 57 #[.agg #[.slice A1 n1 q1, .slice A2 n2 q2, v3], .agg #[c0, c1]] w fun e w' => ∃ v bs, e = .returned (.agg #[.string a.name, v]) ∧ Below w.heap.size w w' ∧ a.name.size ≤ maxLen ∧ slotsK vars w' [v] a.args bs ∧ New w.heap.size w' bs := by
  obtain ⟨i0, hi, hz0, hz1, hz2⟩ := info_parts infoSlot
  obtain ⟨nm, args⟩ := a
  obtain ⟨Ae, ce, rfl, rfl⟩ := atom_cells2 h
  obtain ⟨A3, cp3, rfl, _⟩ := sliceK_form hv
  have hnm : nm.size ≤ maxLen := by obtain ⟨_, _, h1, _⟩ := h; exact h1
  have ht := atom_args h
  dsimp only at ht hin hal hnm ⊢
  have HIN := Lib.hid hin
  have HNM := Lib.hid hnm
  have HS := Lib.hid (And.intro hs hvl)
  have HT := Lib.hid ht
  have HV := Lib.hid hv
  clear h hs hvl hin hnm ht hv
  go_enter Tryz.func57, Tryz.ntmps57
  have hA : Below w.heap.size w ((((w.alloc (.cells #[.slice A1 n1 q1, .slice A2 n2 q2, .slice A3 vars.length cp3] 100)).alloc (.cells #[.string nm, .slice Ae args.length ce] 33)).alloc (.cells #[.string ⟨#[]⟩, .slice none 0 0] 104)).alloc (.cells #[.string nm, .slice none 0 0] 104)) := ((((Below.refl _ _).alloc (Nat.le_refl _) _).alloc (by simp) _).alloc (by simp; omega) _).alloc (by simp; omega) _
  have hq : ((((w.alloc (.cells #[.slice A1 n1 q1, .slice A2 n2 q2, .slice A3 vars.length cp3] 100)).alloc (.cells #[.string nm, .slice Ae args.length ce] 33)).alloc (.cells #[.string ⟨#[]⟩, .slice none 0 0] 104)).alloc (.cells #[.string nm, .slice none 0 0] 104)).heap[w.heap.size]? = some (.cells #[.slice A1 n1 q1, .slice A2 n2 q2, .slice A3 vars.length cp3] 100 (0, 0)) := by
    rw [Below.heap_alloc _ _ _ (by simp; omega), Below.heap_alloc _ _ _ (by simp; omega), Below.heap_alloc _ _ _ (by simp)]; exact heap_alloc_new _ _
  have hr0 : ((((w.alloc (.cells #[.slice A1 n1 q1, .slice A2 n2 q2, .slice A3 vars.length cp3] 100)).alloc (.cells #[.string nm, .slice Ae args.length ce] 33)).alloc (.cells #[.string ⟨#[]⟩, .slice none 0 0] 104)).alloc (.cells #[.string nm, .slice none 0 0] 104)).heap[w.heap.size + 2]? = some (.cells #[.string ⟨#[]⟩, .slice none 0 0] 104 (0, 0)) := by
    rw [Below.heap_alloc _ _ _ (by simp)]
    have := heap_alloc_new ((w.alloc (.cells #[.slice A1 n1 q1, .slice A2 n2 q2, .slice A3 vars.length cp3] 100)).alloc (.cells #[.string nm, .slice Ae args.length ce] 33)) (.cells #[.string ⟨#[]⟩, .slice none 0 0] 104)
    simpa using this
  have hr1 : ((((w.alloc (.cells #[.slice A1 n1 q1, .slice A2 n2 q2, .slice A3 vars.length cp3] 100)).alloc (.cells #[.string nm, .slice Ae args.length ce] 33)).alloc (.cells #[.string ⟨#[]⟩, .slice none 0 0] 104)).alloc (.cells #[.string nm, .slice none 0 0] 104)).heap[w.heap.size + 3]? = some (.cells #[.string nm, .slice none 0 0] 104 (0, 0)) := by
    have := heap_alloc_new (((w.alloc (.cells #[.slice A1 n1 q1, .slice A2 n2 q2, .slice A3 vars.length cp3] 100)).alloc (.cells #[.string nm, .slice Ae args.length ce] 33)).alloc (.cells #[.string ⟨#[]⟩, .slice none 0 0] 104)) (.cells #[.string nm, .slice none 0 0] 104)
    simpa using this
  have HI0 : Hid (TwoB 2 (slotK vars) 172 104 w (w.heap.size + 2) (w.heap.size + 3) (w.heap.size + 4) nm (.slice none 0 0) [] [] ((((w.alloc (.cells #[.slice A1 n1 q1, .slice A2 n2 q2, .slice A3 vars.length cp3] 100)).alloc (.cells #[.string nm, .slice Ae args.length ce] 33)).alloc (.cells #[.string ⟨#[]⟩, .slice none 0 0] 104)).alloc (.cells #[.string nm, .slice none 0 0] 104))) :=
    Lib.hid ⟨hr0, hr1, by omega, by omega, by omega, Coll.nil _, hA, by simp⟩
  have HQ := Lib.hid hq
  clear hA hq hr0 hr1
  go_wp2
  generalize ((((w.alloc (.cells #[.slice A1 n1 q1, .slice A2 n2 q2, .slice A3 vars.length cp3] 100)).alloc (.cells #[.string nm, .slice Ae args.length ce] 33)).alloc (.cells #[.string ⟨#[]⟩, .slice none 0 0] 104)).alloc (.cells #[.string nm, .slice none 0 0] 104)) = W at *
  go_loopw [18] (fun i wr => ∃ (k : Nat) (Av : Option Addr) (cv : Nat) (L : List Value), k ≤ args.length ∧ i = .int .i64 k ∧ TwoB 2 (slotK vars) 172 104 w (w.heap.size + 2) (w.heap.size + 3) (w.heap.size + 4) nm (.slice Av k cv) L (args.take k) wr ∧ wr.heap[w.heap.size]? = some (.cells #[.slice A1 n1 q1, .slice A2 n2 q2, .slice A3 vars.length cp3] 100 (0, 0))) (fun i _ => args.length - (intOf i).toNat)
  case atStart => exact ⟨0, none, 0, [], Nat.zero_le _, rfl, HI0.out, HQ.out⟩
  case round =>
    obtain ⟨k, Av, cv, L, hk, rfl, hI, hq⟩ := hrel
    clear HI0 HQ
    by_cases hlt : k < args.length
    · obtain ⟨b, o, rfl, _, f0, f1, hsz⟩ := terms_at (termsK_good.below HT.out (hI.bel.mono (Nat.le_refl _))) hlt
      have hk0 : (0 : Int) ≤ (k : Int) := by omega
      have hk1 : (k : Int) < (args.length : Int) := by omega
      have HLT := Lib.hid hlt
      have HTK := Lib.hid (List.take_succ_eq_append_getElem hlt)
      have hA2 : Below wr.heap.size wr (wr.alloc (.cells #[.bool args[k].var, .string args[k].name] 127)) := (Below.refl _ _).alloc (Nat.le_refl _) _
      have HI1 := Lib.hid (hI.later (slotK_good vars) hA2)
      have HQ1 := Lib.hid ((hA2.block _ (lt_of_block hq)).trans hq)
      have HMEM := Lib.hid (HIN.out args[k] (List.getElem_mem hlt))
      have HKD := fun w => kindOf_any args[k] w
      have HSZ := Lib.hid hsz
      have HLK : Hid (((args.take k).length) = k) := Lib.hid (by simp; omega)
      have H63 : Hid (k + 1 ≤ maxLen) := Lib.hid (by unfold maxLen; omega)
      have HBY : Hid ((k + 1) * 24 ≤ 140737488355328) := Lib.hid (by omega)
      have a1 := assertVV
      have a2 := assertWVp
      have a3 := assertWW
      clear hI hq hA2 hsz hk
      generalize args[k] = t at *
      clear hlt
      obtain ⟨tv, tn⟩ := t
      dsimp only at *
      cases tv
      · have HVT := fun w => wordText_any tn w
        have HR : Hid (∀ w, slotK vars w [.int .i64 (-1), .string tn] ⟨false, tn⟩ []) := Lib.hid fun w => ⟨rfl, HSZ.out, rfl⟩
        simp only [Bool.false_eq_true, if_false] at HKD
        go_wp2_with fail
        refine (HKD _).mono ?_
        rintro e w2 ⟨rfl, hb2⟩
        have HI2 := Lib.hid (HI1.out.later (slotK_good vars) (hb2.trans (Below.refl _ _).drew))
        have hI2 := HI1.out.later (slotK_good vars) hb2
        have hq2 := (hb2.block _ (lt_of_block HQ1.out)).trans HQ1.out
        have HQ2 := Lib.hid hq2
        have q1 : w2.cell? ⟨w.heap.size + 3, 1, none⟩ = some (.slice Av k cv) := cell_of_blk hI2.r1
        have q2 : w2.frozen? ⟨w.heap.size + 3, 1, none⟩ = false := frozen_of_blk hI2.r1
        have q3 : w.heap.size + 3 < w2.heap.size := lt_of_block hI2.r1
        have HL := Lib.hid (HI2.out.lit (slotK_good vars) (slotK_ones vars) HR.out)
        have ET : (vars.idxOf tn : Nat) = (vars.idxOf tn : Nat) := rfl
        clear HKD HI1 HQ1 hI2 hq2 HR ET
        go_wp2
        go_region_law
          (first
            | (go_simp; go_at_call 103; refine (HVT _).mono ?_; rintro e w5 ⟨rfl, rfl⟩)
            | (refine step_coll (by rfl) (.tmp 46) (.tmp 50) _ (by rfl) (w.heap.size + 4) 172 i0 (.agg #[.int .i64 0, .string ⟨#[]⟩]) 2 24 Tryz.underlying102 hi hz0 hz1 hz2 rfl (Nat.zero_lt_succ 1) (slotK_good vars) (.slice Av k cv) k L _ [] (by rfl) HL.out.1 HLK.out (some ⟨w2.heap.size, 0, none⟩) 1 1 _ [⟨false, tn⟩] _ (by rfl) HL.out.2.1 rfl HL.out.2.2.1 (fun b hb => by simp at hb) H63.out HBY.out w2.drew (w.heap.size + 4) HL.out.2.2.2.1 (Nat.le_refl _) HL.out.2.2.2.2 ?_; intro A5 c5 w5 hC5 hB5 hS5 hG5; have HZ := Lib.hid (HI2.out.app (slotK_good vars) hC5 hB5); replace q1 := HZ.out.1; replace q2 := HZ.out.2.1; clear hC5 hB5 hS5 hG5))
        all_goals
          have HI9 := Lib.hid HZ.out.2.2.1
          have HQ9 := Lib.hid ((HZ.out.2.2.2 w.heap.size (by omega) (by omega)).trans HQ2.out)
          clear HI2 HL HZ HQ2 q1 q2 q3
          go_wp2
          go_roundw
          case rel => exact ⟨k + 1, A5, c5, _, HLT.out, by go_num, by rw [HTK.out]; exact HI9.out, HQ9.out⟩
          case measure => have := HLT.out; simp [intOf]; omega
      · simp only [if_true] at HKD
        have HVT := fun w => varText_any tn w
        have HSR : Hid (∀ w', Below w.heap.size w w' → Calls Tryz.prog 101 #[.slice A3 vars.length cp3, .string tn] w' fun e w'' => e = .returned (.tuple #[.int .i64 (vars.idxOf tn : Nat), .bool true]) ∧ Below w'.heap.size w' w'') :=
          Lib.hid fun w' hb => searchS_any vars tn _ b3 w' (strsK_good.below HV.out hb) HS.out.1 (HMEM.out rfl) HS.out.2
        have HR : Hid (∀ w, slotK vars w [.int .i64 (vars.idxOf tn : Nat), .string ⟨#[]⟩] ⟨true, tn⟩ []) := Lib.hid fun w => ⟨rfl, size_none, rfl⟩
        obtain ⟨x, hx⟩ : ∃ x, x = vars.idxOf tn := ⟨_, rfl⟩
        rw [← hx] at HR HSR
        clear hx
        go_wp2_with fail
        refine (HKD _).mono ?_
        rintro e w2 ⟨rfl, hb2⟩
        have hI2 := HI1.out.later (slotK_good vars) hb2
        have hq2 := (hb2.block _ (lt_of_block HQ1.out)).trans HQ1.out
        have HB2 := Lib.hid hI2.bel
        have HI2 := Lib.hid hI2
        have HQ2 := Lib.hid hq2
        have q1 : w2.cell? ⟨w.heap.size, 2, none⟩ = some (.slice A3 vars.length cp3) := cell_of_blk hq2
        have hSR := HSR.out w2.drew HB2.out.drew
        clear HKD HI1 HQ1 hI2 hq2 HSR hb2
        go_wp2
        go_region_held3 (fun w' => w'.cell? ⟨w.heap.size, 2, none⟩ = some (.slice A3 vars.length cp3))
          (first | go_keep | exact y0)
          (first
            | (go_at_call 102; refine (HVT _).mono ?_; rintro e w5 ⟨rfl, rfl⟩; have y0 := q1)
            | (go_at_call 101; refine hSR.mono ?_; rintro e w3 ⟨rfl, hb3⟩; have y0 := cell_later hb3 q1))
        have hB23 : Below w2.heap.size w2 w3 := (Below.refl _ _).drew.trans hb3
        have hI3 := HI2.out.later (slotK_good vars) hB23
        have HI3 := Lib.hid hI3
        have HQ3 := Lib.hid ((hB23.block _ (lt_of_block HQ2.out)).trans HQ2.out)
        have HL := Lib.hid (hI3.lit (slotK_good vars) (slotK_ones vars) HR.out)
        have q1 : w3.cell? ⟨w.heap.size + 3, 1, none⟩ = some (.slice Av k cv) := cell_of_blk hI3.r1
        have q2 : w3.frozen? ⟨w.heap.size + 3, 1, none⟩ = false := frozen_of_blk hI3.r1
        have q3 : w.heap.size + 3 < w3.heap.size := lt_of_block hI3.r1
        clear hB23 hI3 HI2 HQ2 hSR HB2 HVT HR hb3
        go_wp2_with (first | (at_builtin; refine wpList_coll (by rfl) (.tmp 36) (.tmp 39) _ (by rfl) (w.heap.size + 4) 172 i0 (.agg #[.int .i64 0, .string ⟨#[]⟩]) 2 24 Tryz.underlying102 hi hz0 hz1 hz2 rfl (Nat.zero_lt_succ 1) (slotK_good vars) (.slice Av k cv) k L _ [] (by rfl) HL.out.1 HLK.out (some ⟨w3.heap.size, 0, none⟩) 1 1 _ [⟨true, tn⟩] _ (by rfl) HL.out.2.1 rfl HL.out.2.2.1 (fun b hb => by simp at hb) H63.out HBY.out w3 (w.heap.size + 4) HL.out.2.2.2.1 (Nat.le_refl _) HL.out.2.2.2.2 ?_; intro A5 c5 w5 hC5 hB5 hS5 hG5; have HZ := Lib.hid (HI3.out.app (slotK_good vars) hC5 hB5); replace q1 := HZ.out.1; replace q2 := HZ.out.2.1; clear hC5 hB5 hS5 hG5) | go_in)
        have HI9 := Lib.hid HZ.out.2.2.1
        have HQ9 := Lib.hid ((HZ.out.2.2.2 w.heap.size (by omega) (by omega)).trans HQ3.out)
        clear HI3 HL HZ HQ3 q1 q2 q3
        go_wp2
        go_roundw
        case rel => exact ⟨k + 1, A5, c5, _, HLT.out, by go_num, by rw [HTK.out]; exact HI9.out, HQ9.out⟩
        case measure => have := HLT.out; simp [intOf]; omega
    · have he : k = args.length := by omega
      have hk1 : ¬ (k : Int) < (args.length : Int) := by omega
      obtain ⟨W9, hW9, hB9, hb9, b9, hs9, hn9⟩ := hI.done (slotK_good vars)
      have y0 : wr.cell? ⟨w.heap.size + 3, 0, none⟩ = some (.string nm) := cell_of_blk hI.r1
      have y1 : wr.cell? ⟨w.heap.size + 3, 1, none⟩ = some (.slice Av k cv) := cell_of_blk hI.r1
      have f0 : wr.frozen? ⟨w.heap.size + 2, 0, none⟩ = false := frozen_of_blk hI.r0
      have f1 : wr.frozen? ⟨w.heap.size + 2, 1, none⟩ = false := frozen_of_blk hI.r0
      have z0 : wr.cell? ⟨w.heap.size + 2, 0, none⟩ = some (.string ⟨#[]⟩) := cell_of_blk hI.r0
      have z1 : wr.cell? ⟨w.heap.size + 2, 1, none⟩ = some (.slice none 0 0) := cell_of_blk hI.r0
      have u0 : W9.cell? ⟨w.heap.size + 2, 0, none⟩ = some (.string nm) := cell_of_blk hb9
      have u1 : W9.cell? ⟨w.heap.size + 2, 1, none⟩ = some (.slice Av k cv) := cell_of_blk hb9
      have HD : Hid (∃ v bs, Ending.returned (.agg #[.string nm, .slice Av k cv]) = .returned (.agg #[.string nm, v]) ∧ Below w.heap.size w W9 ∧ nm.size ≤ maxLen ∧ slotsK vars W9 [v] args bs ∧ New w.heap.size W9 bs) :=
        Lib.hid ⟨_, b9, rfl, hB9, HNM.out, by rw [← List.take_of_length_le (Nat.le_of_eq he.symm) (l := args)]; exact hs9, hn9.mono (by omega)⟩
      have HW9 := Lib.hid hW9
      have HU := Lib.hid (And.intro u0 u1)
      clear hI hq hB9 hb9 hs9 hn9 hW9 he u0 u1
      go_wp2
      rw [← HW9.out]
      refine bodyPost_ret (v := .agg #[.string nm, .slice Av k cv]) (by simp [results, Tryz.results57, go_sem, HU.out.1, HU.out.2]) rfl (by obtain ⟨v, bs, q1, q2, q3, q4, q5⟩ := HD.out; exact ⟨v, q1, q2, q3, bs, q4, q5⟩)

end Go.Proofs.YtjjfafgaphloaaaGreatDoor

namespace Go.Proofs.YtjjfafgaphloaaaGreatDoor
open Go.RowKit D
set_option linter.unusedVariables false
theorem D.own_keep {w w' : World} {base e size n : Nat} {v : Value} {L : List Value} (h : w.ownsRow base e size v n L) (hk : ∀ b, v.ownBlock = some b → w'.heap[b]? = w.heap[b]?) : w'.ownsRow base e size v n L := by
  refine ⟨h.1, ?_⟩
  rcases h.2 with h2 | ⟨g, cap, cur, rfl, h3, h4, h5⟩
  · exact .inl h2
  · exact .inr ⟨g, cap, cur, rfl, h3, (hk g (by simp [Value.ownBlock])).trans h4, h5⟩

theorem D.own_block_in {w : World} {base e size n b : Nat} {v : Value} {L : List Value} (h : w.ownsRow base e size v n L) (hb : v.ownBlock = some b) : base ≤ b ∧ b < w.heap.size := by
  rcases h.2 with ⟨rfl, _⟩ | ⟨g, cap, cur, rfl, h3, h4, _⟩
  · simp [Value.ownBlock] at hb
  · simp [Value.ownBlock] at hb
    subst hb
    exact ⟨h3, lt_of_block h4⟩

theorem D.Coll.keepB {α : Type} {n : Nat} {R : Rel α} {base e : Nat} {w w' : World} {v : Value} {L : List Value} {xs : List α} {bs : List Nat} (g : Good R) (h : Coll n R base e w v L xs bs)
    (h1 : ∀ b, v.ownBlock = some b → w'.heap[b]? = w.heap[b]?) (h2 : ∀ b ∈ bs, w'.heap[b]? = w.heap[b]?) : Coll n R base e w' v L xs bs :=
  ⟨own_keep h.own h1, h.row.keep g h2, h.far⟩

theorem D.posA_snoc (ps : List Pt) (k : Nat) (h : k < ps.length) : posA (ps.take (k + 1)) = posA (ps.take k) ++ (if ps[k].no then [] else [ps[k].atom]) := by
  unfold posA
  rw [List.take_succ_eq_append_getElem h, List.filter_append, List.map_append]
  cases hn : ps[k].no <;> simp [hn]

theorem D.negA_snoc (ps : List Pt) (k : Nat) (h : k < ps.length) : negA (ps.take (k + 1)) = negA (ps.take k) ++ (if ps[k].no then [ps[k].atom] else []) := by
  unfold negA
  rw [List.take_succ_eq_append_getElem h, List.filter_append, List.map_append]
  cases hn : ps[k].no <;> simp [hn]

/-- The query's box, and its two rows so far. -/
structure D.QInv (vars : List ByteArray) (w : World) (hz hb B : Nat) (vv : Value) (b3 : List Nat) (v1 : Value) (L1 : List Value) (xs1 : List A) (bs1 : List Nat) (v2 : Value) (L2 : List Value) (xs2 : List A) (bs2 : List Nat) (wr : World) : Prop where
  r0 : wr.heap[hz]? = some (.cells #[.slice none 0 0, .slice none 0 0, .slice none 0 0] 100 (0, 0))
  r1 : wr.heap[hb]? = some (.cells #[v1, v2, vv] 100 (0, 0))
  h0 : w.heap.size ≤ hz
  h1 : hz < hb
  hB : hb < B
  c1 : Coll 2 (patK vars) B 104 wr v1 L1 xs1 bs1
  c2 : Coll 2 (patK vars) B 104 wr v2 L2 xs2 bs2
  k1 : ∀ b ∈ bs1, B ≤ b
  k2 : ∀ b ∈ bs2, B ≤ b
  f12 : ∀ b, v1.ownBlock = some b → v2.ownBlock ≠ some b ∧ b ∉ bs2
  f21 : ∀ b, v2.ownBlock = some b → b ∉ bs1
  vs : strsK wr [vv] vars b3
  kv : ∀ b ∈ b3, w.heap.size ≤ b ∧ b < hb ∧ b ≠ hz
  bel : Below w.heap.size w wr
  siz : B ≤ wr.heap.size

section
variable {vars : List ByteArray} {w : World} {hz hb B : Nat} {vv : Value} {b3 : List Nat} {v1 : Value} {L1 : List Value} {xs1 : List A} {bs1 : List Nat} {v2 : Value} {L2 : List Value} {xs2 : List A} {bs2 : List Nat} {wr : World}
theorem D.QInv.later {w' : World} (h : QInv vars w hz hb B vv b3 v1 L1 xs1 bs1 v2 L2 xs2 bs2 wr) (hk : Below wr.heap.size wr w') : QInv vars w hz hb B vv b3 v1 L1 xs1 bs1 v2 L2 xs2 bs2 w' :=
  ⟨(hk.block _ (lt_of_block h.r0)).trans h.r0, (hk.block _ (lt_of_block h.r1)).trans h.r1, h.h0, h.h1, h.hB, h.c1.below (patK_good _) hk, h.c2.below (patK_good _) hk, h.k1, h.k2, h.f12, h.f21, strsK_good.below h.vs hk, h.kv,
    h.bel.trans (hk.mono h.bel.size), Nat.le_trans h.siz hk.size⟩

/-- The two rows change places. -/
theorem D.QInv.lit {a : A} {v9 : Value} {b9 : List Nat} {w2 : World} {v : Value} {L : List Value} {n : Nat} (hk : Below wr.heap.size wr w2) (hB : B ≤ wr.heap.size) (hown : wr.ownsRow B 104 2 v n L) (hnm : a.name.size ≤ maxLen) (hp : slotsK vars w2 [v9] a.args b9) (h9 : Value.oneCell' v9 = true) :
    (w2.alloc (.cells #[.string a.name, v9] 104)).ownsRow B 104 2 v n L ∧
      Lies (w2.alloc (.cells #[.string a.name, v9] 104)) (some ⟨w2.heap.size, 0, none⟩) [.string a.name, v9] ∧ (∀ u ∈ [.string a.name, v9], Value.oneCell' u = true) ∧ B ≤ (w2.alloc (.cells #[.string a.name, v9] 104)).heap.size := by
  have hA : Below w2.heap.size w2 (w2.alloc (.cells #[.string a.name, v9] 104)) := (Below.refl _ _).alloc (Nat.le_refl _) _
  have hb := hk.trans (hA.mono hk.size)
  refine ⟨own_below hown hb, by have := lies_block (heap_alloc_new w2 (.cells #[.string a.name, v9] 104)); simpa using this, fun u hu => ?_, Nat.le_trans hB hb.size⟩
  rcases List.mem_cons.1 hu with rfl | hu
  · rfl
  · rw [List.mem_singleton.1 hu]; exact h9

theorem D.QInv.app1 {a : A} {v9 : Value} {b9 : List Nat} {w2 w5 : World} {A5 : Option Addr} {c5 : Nat} (h : QInv vars w hz hb B vv b3 v1 L1 xs1 bs1 v2 L2 xs2 bs2 wr) (hk : Below wr.heap.size wr w2) (hnm : a.name.size ≤ maxLen) (hp : slotsK vars w2 [v9] a.args b9) (hn : New wr.heap.size w2 b9) (h9 : Value.oneCell' v9 = true)
    (hown : w5.ownsRow B 104 2 (.slice A5 (xs1.length + 1) c5) (xs1.length + 1) (L1 ++ [.string a.name, v9])) (hg : (w2.alloc (.cells #[.string a.name, v9] 104)).grownBy w5 v1.ownBlock)
    (hloc : (Value.slice A5 (xs1.length + 1) c5).ownBlock = v1.ownBlock ∨ (Value.slice A5 (xs1.length + 1) c5).ownBlock = some (w2.alloc (.cells #[.string a.name, v9] 104)).heap.size) :
    w5.cell? ⟨hb, 0, none⟩ = some v1 ∧ w5.cell? ⟨hb, 1, none⟩ = some v2 ∧ w5.cell? ⟨hb, 2, none⟩ = some vv ∧ w5.frozen? ⟨hb, 0, none⟩ = false ∧
      QInv vars w hz hb B vv b3 (.slice A5 (xs1.length + 1) c5) (L1 ++ [.string a.name, v9]) (xs1 ++ [a]) (bs1 ++ b9) v2 L2 xs2 bs2 (w5.setCell ⟨hb, 0, none⟩ (.slice A5 (xs1.length + 1) c5)) := by
  have hA : Below w2.heap.size w2 (w2.alloc (.cells #[.string a.name, v9] 104)) := (Below.refl _ _).alloc (Nat.le_refl _) _
  have hbw := hk.trans (hA.mono hk.size)
  have h2 := h.later hbw
  have hlt := h2.siz
  have hs2 := hk.size
  have hB9 := h.hB
  have h19 := h.h1
  have h09 := h.h0
  have hs9 := h.siz
  have g9 : ∀ b ∈ b9, wr.heap.size ≤ b ∧ b < w2.heap.size := fun b hb => ⟨(hn.own b hb).1, hn.lt hb⟩
  have hgb : ∀ b, b < w2.heap.size + 1 → v1.ownBlock ≠ some b → w5.heap[b]? = (w2.alloc (.cells #[.string a.name, v9] 104)).heap[b]? := fun b hb hne => hg.block b (by simpa using hb) (fun e => hne e.symm)
  have o1 : ∀ b, v1.ownBlock = some b → B ≤ b ∧ b < wr.heap.size := fun b hb => own_block_in h.c1.own hb
  have o2 : ∀ b, v2.ownBlock = some b → B ≤ b ∧ b < wr.heap.size := fun b hb => own_block_in h.c2.own hb
  have l1 : ∀ b ∈ bs1, b < wr.heap.size := fun b hb => h.c1.row.lt (patK_good _) b hb
  have l2 : ∀ b ∈ bs2, b < wr.heap.size := fun b hb => h.c2.row.lt (patK_good _) b hb
  have n1 : v1.ownBlock ≠ some hb := fun e => by have := (o1 _ e).1; omega
  have n0 : v1.ownBlock ≠ some hz := fun e => by have := (o1 _ e).1; omega
  have hr1 := (hgb hb (by omega) n1).trans h2.r1
  have hr0 := (hgb hz (by omega) n0).trans h2.r0
  have hp2 : patK vars (w2.alloc (.cells #[.string a.name, v9] 104)) [.string a.name, v9] a b9 := ⟨v9, rfl, hnm, (slotsK_good _).below hp hA⟩
  have hc1 : Coll 2 (patK vars) B 104 w5 (.slice A5 (xs1.length + 1) c5) (L1 ++ [.string a.name, v9]) (xs1 ++ [a]) (bs1 ++ b9) :=
    h2.c1.app (patK_good _) (Rowed.one_el (patK_ones _) hp2) (fun b hb e => by have := (o1 _ e).2; have := (g9 b hb).1; omega) hown hg hloc
  have hkc : ∀ b, b ≠ hb → (w5.setCell ⟨hb, 0, none⟩ (.slice A5 (xs1.length + 1) c5)).heap[b]? = w5.heap[b]? := fun b hne => Below.heap_setCell _ _ _ _ hne
  have onew : ∀ b, (Value.slice A5 (xs1.length + 1) c5).ownBlock = some b → v1.ownBlock = some b ∨ b = w2.heap.size + 1 := fun b e => by
    rcases hloc with h' | h'
    · left; rw [← h']; exact e
    · right; rw [h'] at e; simp at e; omega
  refine ⟨cell_of_blk hr1, cell_of_blk hr1, cell_of_blk hr1, frozen_of_blk hr1, ⟨(hkc _ (by omega)).trans hr0, ?_, h09, h19, hB9, ?_, ?_, ?_, h.k2, ?_, ?_, ?_, h.kv, ?_, ?_⟩⟩
  · have := blk_setG (o := 0) (u := .slice A5 (xs1.length + 1) c5) hr1
    simpa using this
  · exact hc1.keepB (patK_good _) (fun b e => hkc b (fun e2 => by
      subst e2
      rcases onew _ e with h' | h'
      · exact n1 h'
      · omega)) (fun b hb' => hkc b (fun e2 => by
      subst e2
      rcases List.mem_append.1 hb' with h' | h'
      · have := h.k1 _ h'; omega
      · have := (g9 _ h').1; omega))
  · refine (h2.c2.keepB (patK_good _) (fun b e => ?_) (fun b hb' => ?_))
    · have := o2 _ e
      rw [hkc b (by omega)]
      exact hgb b (by omega) (fun e2 => (h.f12 b e2).1 e)
    · have := l2 _ hb'
      have := h.k2 _ hb'
      rw [hkc b (by omega)]
      exact hgb b (by omega) (fun e2 => (h.f12 b e2).2 hb')
  · intro b hb'
    rcases List.mem_append.1 hb' with h' | h'
    · exact h.k1 _ h'
    · have := (g9 _ h').1; omega
  · intro b e
    rcases onew _ e with h' | h'
    · exact h.f12 b h'
    · exact ⟨fun e2 => by have := (o2 _ e2).2; omega, fun e2 => by have := l2 _ e2; omega⟩
  · intro b e hb'
    rcases List.mem_append.1 hb' with h' | h'
    · exact h.f21 b e h'
    · have := (o2 _ e).2; have := (g9 _ h').1; omega
  · refine strsK_good.keep h2.vs fun b hb' => ?_
    have := h.kv b hb'
    rw [hkc b (by omega)]
    exact hgb b (by omega) (fun e => by have := (o1 _ e).1; omega)
  · have hbel : Below w.heap.size w w5 := h2.bel.grown hg h2.bel.size fun k e => by have := (o1 _ e).1; omega
    exact hbel.setCell (by show w.heap.size ≤ hb; omega) _
  · have := hg.size; simp [World.setCell]; simp at this; omega

theorem D.QInv.app2 {a : A} {v9 : Value} {b9 : List Nat} {w2 w5 : World} {A5 : Option Addr} {c5 : Nat} (h : QInv vars w hz hb B vv b3 v1 L1 xs1 bs1 v2 L2 xs2 bs2 wr) (hk : Below wr.heap.size wr w2) (hnm : a.name.size ≤ maxLen) (hp : slotsK vars w2 [v9] a.args b9) (hn : New wr.heap.size w2 b9) (h9 : Value.oneCell' v9 = true)
    (hown : w5.ownsRow B 104 2 (.slice A5 (xs2.length + 1) c5) (xs2.length + 1) (L2 ++ [.string a.name, v9])) (hg : (w2.alloc (.cells #[.string a.name, v9] 104)).grownBy w5 v2.ownBlock)
    (hloc : (Value.slice A5 (xs2.length + 1) c5).ownBlock = v2.ownBlock ∨ (Value.slice A5 (xs2.length + 1) c5).ownBlock = some (w2.alloc (.cells #[.string a.name, v9] 104)).heap.size) :
    w5.cell? ⟨hb, 0, none⟩ = some v1 ∧ w5.cell? ⟨hb, 1, none⟩ = some v2 ∧ w5.cell? ⟨hb, 2, none⟩ = some vv ∧ w5.frozen? ⟨hb, 1, none⟩ = false ∧
      QInv vars w hz hb B vv b3 v1 L1 xs1 bs1 (.slice A5 (xs2.length + 1) c5) (L2 ++ [.string a.name, v9]) (xs2 ++ [a]) (bs2 ++ b9) (w5.setCell ⟨hb, 1, none⟩ (.slice A5 (xs2.length + 1) c5)) := by
  have hA : Below w2.heap.size w2 (w2.alloc (.cells #[.string a.name, v9] 104)) := (Below.refl _ _).alloc (Nat.le_refl _) _
  have hbw := hk.trans (hA.mono hk.size)
  have h2 := h.later hbw
  have hlt := h2.siz
  have hs2 := hk.size
  have hB9 := h.hB
  have h19 := h.h1
  have h09 := h.h0
  have hs9 := h.siz
  have g9 : ∀ b ∈ b9, wr.heap.size ≤ b ∧ b < w2.heap.size := fun b hb => ⟨(hn.own b hb).1, hn.lt hb⟩
  have hgb : ∀ b, b < w2.heap.size + 1 → v2.ownBlock ≠ some b → w5.heap[b]? = (w2.alloc (.cells #[.string a.name, v9] 104)).heap[b]? := fun b hb hne => hg.block b (by simpa using hb) (fun e => hne e.symm)
  have o1 : ∀ b, v1.ownBlock = some b → B ≤ b ∧ b < wr.heap.size := fun b hb => own_block_in h.c1.own hb
  have o2 : ∀ b, v2.ownBlock = some b → B ≤ b ∧ b < wr.heap.size := fun b hb => own_block_in h.c2.own hb
  have l1 : ∀ b ∈ bs1, b < wr.heap.size := fun b hb => h.c1.row.lt (patK_good _) b hb
  have l2 : ∀ b ∈ bs2, b < wr.heap.size := fun b hb => h.c2.row.lt (patK_good _) b hb
  have n1 : v2.ownBlock ≠ some hb := fun e => by have := (o2 _ e).1; omega
  have n0 : v2.ownBlock ≠ some hz := fun e => by have := (o2 _ e).1; omega
  have hr1 := (hgb hb (by omega) n1).trans h2.r1
  have hr0 := (hgb hz (by omega) n0).trans h2.r0
  have hp2 : patK vars (w2.alloc (.cells #[.string a.name, v9] 104)) [.string a.name, v9] a b9 := ⟨v9, rfl, hnm, (slotsK_good _).below hp hA⟩
  have hc1 : Coll 2 (patK vars) B 104 w5 (.slice A5 (xs2.length + 1) c5) (L2 ++ [.string a.name, v9]) (xs2 ++ [a]) (bs2 ++ b9) :=
    h2.c2.app (patK_good _) (Rowed.one_el (patK_ones _) hp2) (fun b hb e => by have := (o2 _ e).2; have := (g9 b hb).1; omega) hown hg hloc
  have hkc : ∀ b, b ≠ hb → (w5.setCell ⟨hb, 1, none⟩ (.slice A5 (xs2.length + 1) c5)).heap[b]? = w5.heap[b]? := fun b hne => Below.heap_setCell _ _ _ _ hne
  have onew : ∀ b, (Value.slice A5 (xs2.length + 1) c5).ownBlock = some b → v2.ownBlock = some b ∨ b = w2.heap.size + 1 := fun b e => by
    rcases hloc with h' | h'
    · left; rw [← h']; exact e
    · right; rw [h'] at e; simp at e; omega
  refine ⟨cell_of_blk hr1, cell_of_blk hr1, cell_of_blk hr1, frozen_of_blk hr1, ⟨(hkc _ (by omega)).trans hr0, ?_, h09, h19, hB9, ?_, ?_, h.k1, ?_, ?_, ?_, ?_, h.kv, ?_, ?_⟩⟩
  · have := blk_setG (o := 1) (u := .slice A5 (xs2.length + 1) c5) hr1
    simpa using this
  · refine (h2.c1.keepB (patK_good _) (fun b e => ?_) (fun b hb' => ?_))
    · have := o1 _ e
      rw [hkc b (by omega)]
      exact hgb b (by omega) (fun e2 => (h.f12 b e).1 e2)
    · have := l1 _ hb'
      have := h.k1 _ hb'
      rw [hkc b (by omega)]
      exact hgb b (by omega) (fun e2 => h.f21 b e2 hb')
  · exact hc1.keepB (patK_good _) (fun b e => hkc b (fun e2 => by
      subst e2
      rcases onew _ e with h' | h'
      · exact n1 h'
      · omega)) (fun b hb' => hkc b (fun e2 => by
      subst e2
      rcases List.mem_append.1 hb' with h' | h'
      · have := h.k2 _ h'; omega
      · have := (g9 _ h').1; omega))
  · intro b hb'
    rcases List.mem_append.1 hb' with h' | h'
    · exact h.k2 _ h'
    · have := (g9 _ h').1; omega
  · intro b e
    refine ⟨fun e2 => ?_, fun hb' => ?_⟩
    · rcases onew _ e2 with h' | h'
      · exact (h.f12 b e).1 h'
      · have := (o1 _ e).2; omega
    · rcases List.mem_append.1 hb' with h' | h'
      · exact (h.f12 b e).2 h'
      · have := (o1 _ e).2; have := (g9 _ h').1; omega
  · intro b e hb'
    rcases onew _ e with h' | h'
    · exact h.f21 b h' hb'
    · have := l1 _ hb'; omega
  · refine strsK_good.keep h2.vs fun b hb' => ?_
    have := h.kv b hb'
    rw [hkc b (by omega)]
    exact hgb b (by omega) (fun e => by have := (o2 _ e).1; omega)
  · have hbel : Below w.heap.size w w5 := h2.bel.grown hg h2.bel.size fun k e => by have := (o2 _ e).1; omega
    exact hbel.setCell (by show w.heap.size ≤ hb; omega) _
  · have := hg.size; simp [World.setCell]; simp at this; omega

end
end Go.Proofs.YtjjfafgaphloaaaGreatDoor
