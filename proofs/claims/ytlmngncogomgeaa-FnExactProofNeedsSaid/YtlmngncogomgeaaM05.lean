/- Of the proof of FnExactProofNeeds: MarkTs. -/
import Derived.ShutString
import Derived.Test.YtlmngncogomgeaaProg
import Derived.Test.YtlmngncogomgeaaM02
namespace Go.Proofs.Ytlmngncogomgeaa
open Go.RowKit D
set_option linter.unusedVariables false
attribute [local go_sem ↓] Go.wp_at_zero Go.wp_at_succ
theorem convOne (w : World) (n : Int) : (convert 81 9 (.slice (some ⟨w.heap.size, 0, none⟩) 1 1)).run Try.prog (w.alloc (.cells #[.int .u8 n] 5)) = .ok (.string (strOfNums [n])) (w.alloc (.cells #[.int .u8 n] 5)) :=
  run_convert_bytes_arg _ 81 5 Try.underlying81 Try.underlying5 w.heap.size 0 1 1 [n] rfl (fun i hi => by
    obtain rfl : i = 0 := by omega
    simp) 9 Try.underlying9

theorem D.str_one (n : Nat) : (strOfNums [((48 + n % 10 : Nat) : Int)]).data.toList = [UInt8.ofNat (48 + n % 10)] := rfl

set_option maxHeartbeats 400000 in
theorem markText_any (k : Nat) (w : World) (hk : k ≤ 1000000000000) :
    Calls Try.prog 30 #[.int .i64 k] w fun e w' => e = .returned (.string (markText k)) ∧ Below w.heap.size w w' := by
  by_cases h0 : k = 0
  · subst h0
    go_enter Try.func30, Try.ntmps30
    go_wp2
    go_ret
    exact ⟨rfl, Below.refl _ _⟩
  · have hlen := decL_len 18 k (by omega)
    have hmt : markText k = ⟨(109 :: decL k k).toArray⟩ := by unfold markText; rw [if_neg h0]
    have HM := Lib.hid hmt
    have hneg : ¬ (k : Int) ≤ 0 := by omega
    have kc := convOne
    clear hmt h0
    go_enter Try.func30, Try.ntmps30
    go_wp2
    go_loopw [0, 3] (fun i v wr => ∃ (m : Nat) (s : ByteArray), m ≤ k ∧ i = .int .i64 m ∧ v = .string s ∧ decL k k = decL m m ++ s.data.toList ∧ Below w.heap.size w wr) (fun i _ _ => (intOf i).toNat)
    case atStart => exact ⟨k, _, Nat.le_refl _, rfl, rfl, by simp, Below.refl _ _⟩
    case round =>
      obtain ⟨m, s, hm, rfl, rfl, hs, hb⟩ := hrel
      have hsz : s.size ≤ 18 := by
        have h1 := congrArg List.length hs
        have h5 : s.data.toList.length = s.size := Array.length_toList
        rw [List.length_append] at h1
        omega
      by_cases hm0 : m = 0
      · subst hm0
        have HS := Lib.hid hs
        clear hs
        go_wp2
        go_ret
        exact ⟨ret_str (WideShapes.bytes_inj (by rw [HM.out, ByteArray.data_append, Array.toList_append, HS.out]; simp [decL])), hb⟩
      · have HS := Lib.hid (hs.trans (by rw [decL_step hm0, List.append_assoc]))
        have hpos : (0 : Int) < (m : Int) := by omega
        have d0 : 0 ≤ (m : Int) % 10 := by omega
        have d1 : (m : Int) % 10 < 10 := by omega
        have h1 := strOfNums_size [48 + (m : Int) % 10]
        simp only [List.length_cons, List.length_nil] at h1
        have h1' : (strOfNums [48 + (m : Int) % 10]).size ≤ 1 := by omega
        have HE := Lib.hid (show (strOfNums [48 + (m : Int) % 10]).data.toList = [UInt8.ofNat (48 + m % 10)] from str_one m)
        clear hs hm0 h1
        go_wp2
        go_roundw
        case rel => exact ⟨m / 10, _, by omega, by go_num, rfl, by rw [HS.out, ByteArray.data_append, Array.toList_append, HE.out], hb.alloc hb.size _⟩
        case measure => simp [intOf]; omega

set_option maxHeartbeats 1000000 in
theorem markTermS_any (ts : List T) (v : Value) (bs : List Nat) (k B : Nat) (w : World) (h : termsK w [v] ts bs) (hN : New B w bs) (hk : k + 2 * ts.length ≤ 1000000000000) :
    Calls Try.prog 31 #[v, .int .i64 k] w (Marked termsK [v] (markTs ts k) bs (k + 2 * ts.length) B w) := by
  obtain ⟨Ad, cap, rfl, hl, hm⟩ := sliceK_form h
  clear hm
  go_enter Try.func31, Try.ntmps31
  go_wp2
  go_loopw [1, 5] (fun q j wr => ∃ (i : Nat) (ys : List T), i ≤ ts.length ∧ j = .int .i64 i ∧ q = .int .i64 (k + 2 * i : Nat) ∧ ys = markTo mkT (fun _ => 2) ts k i ∧ termsK wr [.slice Ad ts.length cap] ys bs ∧ New B wr bs ∧ KeptBut bs w wr) (fun _ j _ => ts.length - (intOf j).toNat)
  case atStart => exact ⟨0, ts, Nat.zero_le _, rfl, rfl, rfl, h, hN, KeptBut.refl _ _⟩
  case round =>
    obtain ⟨i, ys, hi, rfl, rfl, hy, hT, hNr, hK⟩ := hrel
    clear h hN
    by_cases hlt : i < ts.length
    · have hle : ys.length = ts.length := by rw [hy, markTo_length]
      have hey : ys[i]'(by omega) = ts[i] := by subst hy; exact markTo_at hlt
      have HS := Lib.hid (markTo_step (mk := mkT) (cnt := fun _ => 2) (k := k) hlt)
      have HY := Lib.hid hy
      clear hy
      obtain ⟨b, o, cs, bk, rfl, hb, hbk, hnd, hsub, hcs, hcell, ⟨rfl, hnm, rfl⟩, hput⟩ := sliceK_open termK_good hT hNr.nodup (k := i) (by omega)
      obtain ⟨u0, c0⟩ : ∃ u, wr.cell? ⟨b, o + i * 2, none⟩ = some u := ⟨_, hcell 0 _ rfl⟩
      obtain ⟨u1, c1⟩ : ∃ u, wr.cell? ⟨b, o + i * 2 + 1, none⟩ = some u := ⟨_, by have := hcell 1 _ rfl; rwa [← Nat.add_assoc] at this⟩
      have HP := Lib.hid hput
      have HW := Lib.hid (hNr.wri b hb)
      have f0 := HW.out.frozen (o + i * 2)
      have f1 := HW.out.frozen (o + i * 2 + 1)
      have hbl := hNr.lt hb
      have HL := Lib.hid hle
      have HN := Lib.hid hNr
      clear hcell hput hT hnd hsub hcs hle hNr hnm hey
      obtain ⟨q, hq⟩ : ∃ q, q = k + 2 * i := ⟨_, rfl⟩
      rw [← hq]
      have hq9 : q ≤ 1000000000000 := by omega
      have hq1 : q + 1 ≤ 1000000000000 := by omega
      have HQ := Lib.hid hq
      clear hq
      have HT : Hid ((markTo mkT (fun _ => 2) ts k i).set i (mkT ts[i] q) = markTo mkT (fun _ => 2) ts k (i + 1)) := Lib.hid (by
        have := HS.out
        rw [sumL_two, List.length_take, Nat.min_eq_left (by omega)] at this
        rw [HQ.out]; exact this)
      clear HS
      go_wp2_with fail
      refine (markText_any (q + 1) _ (by omega)).mono ?_
      rintro e w2 ⟨rfl, hb2⟩
      have g1 : w2.cell? ⟨b, o + i * 2 + 1, none⟩ = some u1 := cell_later hb2 (setCell_other c1 (by omega))
      have g0 := cell_later hb2 (World.cell?_setCell_same' wr ⟨b, o + i * 2, none⟩ _ (by rw [c0]; rfl))
      have f2 : w2.frozen? ⟨b, o + i * 2 + 1, none⟩ = false := (hb2.frozen (p := ⟨b, o + i * 2 + 1, none⟩) (by simpa using hbl)).trans (by rw [World.frozen?_setCell]; exact f1)
      have R := HP.out (w2.setCell ⟨b, o + i * 2 + 1, none⟩ (.string (markText (q + 1)))) [.bool (decide (q % 3 = 0)), .string (markText (q + 1))] (mkT ts[i] q) rfl
        (fun j v hv => by
          match j, hv with
          | 0, hv =>
            simp only [List.getElem?_cons_zero, Option.some.injEq] at hv
            subst hv
            refine setCell_other ?_ (by omega)
            rw [Nat.add_zero, g0]
            congr 2
            rw [Bool.eq_iff_iff, beq_iff_eq, decide_eq_true_eq]; omega
          | 1, hv =>
            simp only [List.getElem?_cons_succ, List.getElem?_cons_zero, Option.some.injEq] at hv
            subst hv
            rw [← Nat.add_assoc]
            exact World.cell?_setCell_same' _ _ _ (by rw [g1]; rfl)
          | j + 2, hv => simp at hv)
        (fun p v hv hp => setCell_other (cell_later hb2 (setCell_other hv (by omega))) (by omega))
        (fun c hc hne _ => by
          have hcl := HN.out.lt hc
          rw [Below.heap_setCell _ _ _ _ hne, hb2.block c (by simpa using hcl), Below.heap_setCell _ _ _ _ hne])
        ⟨rfl, markText_size (k := q + 1) (by omega), rfl⟩
      rw [HY.out, HT.out] at R
      have hN3 : New B (w2.setCell ⟨b, o + i * 2 + 1, none⟩ (.string (markText (q + 1)))) bs := ⟨HN.out.nodup, fun c hc => ⟨(HN.out.own c hc).1, by
        refine Wri.setCell (Wri.keep (Wri.setCell ((HN.out.wri c hc)) ⟨b, o + i * 2, none⟩ _) (hb2.block c (by have := HN.out.lt hc; simpa using this))) _ _⟩⟩
      have hK3 : KeptBut bs w (w2.setCell ⟨b, o + i * 2 + 1, none⟩ (.string (markText (q + 1)))) := ((hK.setCell (p := ⟨b, o + i * 2, none⟩) hb _).trans (KeptBut.of_below hb2)).setCell hb _
      clear HP HN HW c0 c1 f0 f1 g0
      go_wp2_with fail
      go_roundw
      case rel => exact ⟨i + 1, _, by omega, by go_num, by have := HQ.out; go_num, rfl, R, hN3, hK3⟩
      case measure => simp [intOf]; omega
    · have he : i = ts.length := by omega
      subst he
      have HY : Hid (ys = markTs ts k) := Lib.hid (by rw [hy, markTo_all]; rfl)
      clear hy
      go_wp2
      go_ret
      exact ⟨rfl, by rw [← HY.out]; exact hT, hNr, hK⟩

end Go.Proofs.Ytlmngncogomgeaa
