/- The walks of impl.bodyVars and impl.AskVars. -/
import Derived.WalkKit
import Derived.Lib.Hide
import Derived.WalkSpells
import Derived.WalkLawsBesides
import Derived.BigQuiet
import Derived.Deep.RegionHeld3
import Derived.Deep.RegionWith
import Derived.Deep.DrawnRows
import Derived.Deep.AppendLies
import Derived.Test.YtbcepahpehadeaaProg
import Derived.Test.YtbcepahpehadeaaSortI
import Derived.Test.YtbcepahpehadeaaCollN
import Derived.Test.YtbcepahpehadeaaBound
namespace Go.Proofs.Ytbcepahpehadeaa
open Go.RowKit D
set_option linter.unusedVariables false
attribute [local go_sem ↓] Go.wp_at_zero Go.wp_at_succ

theorem infoStrV : (Try.prog.info? 9).map (fun i => (i.zero, i.size, i.bytes)) = some (some (.string ⟨#[]⟩), 1, 16) := by kernel_rfl

/-- The names met so far, in a collection of one's own. -/
structure D.VInv (w : World) (v : Value) (L : List Value) (xs : List ByteArray) (wr : World) : Prop where
  coll : Coll 1 strK w.heap.size 9 wr v L xs []
  bel : Below w.heap.size w wr
theorem D.VInv.below {w wr w' : World} {v : Value} {L : List Value} {xs : List ByteArray} (h : VInv w v L xs wr) (hb : Below wr.heap.size wr w') : VInv w v L xs w' := ⟨h.coll.below strK_good hb, h.bel.trans (hb.mono h.bel.size)⟩

set_option maxRecDepth 100000 in
set_option maxHeartbeats 2000000 in
theorem bodyVars_any (ps : List Pt) (v : Value) (bs : List Nat) (w : World) (h : partsK w [v] ps bs) (hs : sumL (fun p => p.atom.args.length) ps ≤ 1000000) :
    Calls Try.prog 24 #[v] w (Makes strsK (bodyVars ps) w.heap.size w) := by
  obtain ⟨Ad, cap, rfl, hl, hm⟩ := sliceK_form h
  have hlm := nat_ge_max (Nat.le_trans hl hm)
  obtain ⟨i0, hi, hz0, hz1, hz2⟩ := info_parts infoStrV
  have HNL : Hid (∀ k, (namesPs (ps.take k)).length ≤ sumL (fun p => p.atom.args.length) (ps.take k)) := Lib.hid fun k => namesPs_len _
  have HS := Lib.hid hs
  have HV := Lib.hid (Coll.nil (n := 1) (R := strK) (base := w.heap.size) (e := 9) w)
  clear hl hm hs
  go_enter Try.func24, Try.ntmps24
  go_wp2
  go_loopw [3, 10] (fun v i wr => ∃ (k : Nat) (Av : Option Addr) (cp : Nat) (L : List Value) (xs : List ByteArray), k ≤ ps.length ∧ i = .int .i64 k ∧ v = .slice Av xs.length cp ∧ xs = namesPs (ps.take k) ∧ VInv w (.slice Av xs.length cp) L xs wr) (fun _ i _ => ps.length - (intOf i).toNat)
  case atStart => exact ⟨0, none, 0, [], [], Nat.zero_le _, rfl, rfl, rfl, HV.out, Below.refl _ _⟩
  case round =>
    obtain ⟨k, Av, cp, L, xs, hk, rfl, rfl, hxs, hV⟩ := hrel
    clear HV
    have HV := Lib.hid hV
    have HX := Lib.hid hxs
    clear hxs
    obtain ⟨wo, rfl⟩ : ∃ wo : World, wo = wr := ⟨_, rfl⟩
    by_cases hlt : k < ps.length
    · obtain ⟨b, o, Ae, ce, bk, rfl, _, d0, d1, d2, hel, _⟩ := parts_el h hlt
      replace d0 := cell_later hV.bel d0
      replace d1 := cell_later hV.bel d1
      replace d2 := cell_later hV.bel d2
      have hk0 : (0 : Int) ≤ (k : Int) := by omega
      have hk1 : (k : Int) < (ps.length : Int) := by omega
      have HLT := Lib.hid hlt
      have HN := Lib.hid (namesPs_snoc ps k hlt)
      have HB1 : Hid ((namesPs (ps.take k)).length + ps[k].atom.args.length ≤ 1000000) := Lib.hid (by
        have h1 := HNL.out k
        have h2 := sumL_snoc (fun p : Pt => p.atom.args.length) ps k hlt
        have h3 := sumL_take (fun p : Pt => p.atom.args.length) ps (k + 1)
        have := HS.out
        omega)
      have hA : Below wo.heap.size wo (wo.alloc (.cells #[.bool ps[k].no, .string ps[k].atom.name, .slice Ae ps[k].atom.args.length ce] 51)) := (Below.refl _ _).alloc (Nat.le_refl _) _
      have ht := atom_args (part_atom hel)
      obtain ⟨_, _, e0', hl2, hm2⟩ := sliceK_form ht
      have hla := nat_ge_max (Nat.le_trans hl2 hm2)
      have HV1 := Lib.hid (hV.below hA)
      have HT := Lib.hid ht
      clear h hV hel hA ht hl2 hm2 e0' HV
      generalize ps[k] = p at *
      clear hlt
      obtain ⟨no, nm, args⟩ := p
      dsimp only at *
      go_wp2
      generalize wo.alloc (.cells #[.bool no, .string nm, .slice Ae args.length ce] 51) = w1 at *
      go_loopw [3, 18] (fun v i wr => ∃ (j : Nat) (Av : Option Addr) (cp : Nat) (L : List Value) (ys : List ByteArray), j ≤ args.length ∧ i = .int .i64 j ∧ v = .slice Av ys.length cp ∧ ys = namesPs (ps.take k) ++ namesTs (args.take j) ∧ VInv w (.slice Av ys.length cp) L ys wr) (fun _ i _ => args.length - (intOf i).toNat)
      case atStart => exact ⟨0, Av, cp, L, xs, Nat.zero_le _, rfl, rfl, by rw [← HX.out]; simp [namesTs], HV1.out⟩
      case round =>
        clear HV1 HX
        obtain ⟨j, Aw, cq, M, ys, hj, rfl, rfl, hys, hV⟩ := hrel
        have HV := Lib.hid hV
        have HY := Lib.hid hys
        clear hys
        by_cases hlt : j < args.length
        · obtain ⟨b2, o2, rfl, _, f0, f1, hsz⟩ := terms_at (termsK_good.below HT.out hV.bel) hlt
          have hj0 : (0 : Int) ≤ (j : Int) := by omega
          have hj1 : (j : Int) < (args.length : Int) := by omega
          have HLJ := Lib.hid hlt
          have HNJ := Lib.hid (namesTs_snoc args j hlt)
          have hA2 : Below wr.heap.size wr (wr.alloc (.cells #[.bool args[j].var, .string args[j].name] 61)) := (Below.refl _ _).alloc (Nat.le_refl _) _
          have hA3 : Below wr.heap.size wr ((wr.alloc (.cells #[.bool args[j].var, .string args[j].name] 61)).alloc (.cells #[.string args[j].name] 9)) := hA2.alloc (by simp) _
          have HV2 := Lib.hid (hV.below hA2)
          have HV3 := Lib.hid (hV.below hA3)
          have HK : Hid (ys.length + 1 ≤ maxLen ∧ (ys.length + 1) * 16 ≤ 140737488355328) := Lib.hid (by
            have h1 := namesTs_len (args.take j)
            rw [List.length_take] at h1
            have h2 := HB1.out
            rw [HY.out, List.length_append]
            unfold maxLen; omega)
          have HSZ := Lib.hid hsz
          clear hV hA2 hA3 hsz HV
          generalize args[j] = t at *
          clear hlt
          obtain ⟨tv, tn⟩ := t
          dsimp only at *
          cases tv
          · have HNJ2 : Hid (namesTs (args.take (j + 1)) = namesTs (args.take j)) := Lib.hid (by rw [HNJ.out]; simp)
            clear HNJ HV3
            go_wp2
            go_roundw
            case rel => exact ⟨j + 1, Aw, cq, M, ys, HLJ.out, by go_num, rfl, by rw [HNJ2.out]; exact HY.out, HV2.out⟩
            case measure => have := HLJ.out; simp [intOf]; omega
          · have HNJ2 : Hid (namesTs (args.take (j + 1)) = namesTs (args.take j) ++ [tn]) := Lib.hid (by rw [HNJ.out]; simp)
            have HR2 : Hid (Rowed 1 strK ((wr.alloc (.cells #[.bool true, .string tn] 61)).alloc (.cells #[.string tn] 9)) [.string tn] [tn] []) := Lib.hid (Rowed.one_el strK_ones ⟨rfl, HSZ.out, rfl⟩)
            have HL2 : Hid (Lies ((wr.alloc (.cells #[.bool true, .string tn] 61)).alloc (.cells #[.string tn] 9)) (some ⟨wr.heap.size + 1, 0, none⟩) [.string tn]) := Lib.hid (by have := lies_block (heap_alloc_new (wr.alloc (.cells #[.bool true, .string tn] 61)) (.cells #[.string tn] 9)); simpa using this)
            clear HNJ HV2
            go_wp2_with (at_builtin; refine wpList_coll rfl _ _ _ rfl w.heap.size 9 i0 (.string ⟨#[]⟩) 1 16 Try.underlying24 hi hz0 hz1 hz2 rfl (by omega) strK_good (.slice Aw ys.length cq) ys.length _ _ _ rfl HV3.out.coll rfl (some ⟨wr.heap.size + 1, 0, none⟩) 1 1 _ [tn] _ rfl HR2.out rfl HL2.out (fun b hb => by simp at hb) HK.out.1 HK.out.2 w w.heap.size HV3.out.bel (Nat.le_refl _) HV3.out.bel.size ?_; intro A2 cp2 w2 hC3 hB3 hS3 _)
            have HC3 := Lib.hid hC3
            have HB3 := Lib.hid hB3
            clear hC3 hB3 hS3
            go_wp2
            go_roundw
            case rel => exact ⟨j + 1, A2, cp2, _, ys ++ [tn], HLJ.out, by go_num, by simp, by rw [HNJ2.out, HY.out, List.append_assoc], by rw [List.length_append]; exact HC3.out, HB3.out⟩
            case measure => have := HLJ.out; simp [intOf]; omega
        · have he : j = args.length := by omega
          have hj1 : ¬ (j : Int) < (args.length : Int) := by omega
          have HE : Hid (ys = namesPs (ps.take (k + 1))) := Lib.hid (by rw [HN.out, HY.out, he, List.take_of_length_le (Nat.le_refl _)])
          clear hV he
          go_wp2
          go_roundw
          case rel => exact ⟨k + 1, Aw, cq, M, ys, HLT.out, by go_num, rfl, HE.out, HV.out⟩
          case measure => have := HLT.out; simp [intOf]; omega
    · have he : k = ps.length := by omega
      have hk1 : ¬ (k : Int) < (ps.length : Int) := by omega
      have hxe : xs = namesPs ps := by rw [HX.out, he, List.take_of_length_le (Nat.le_refl _)]
      have hxl : xs.length ≤ 16777216 := by rw [hxe]; have := namesPs_len ps; have := HS.out; omega
      have HXE := Lib.hid hxe
      have HXL := Lib.hid hxl
      have c1 := sortS_any xs _ L w.heap.size wo hV.coll hxl
      have HSH := Lib.hid (own_shape hV.coll.own)
      clear h hV he hxe hxl HX hk
      go_wp2_with fail
      refine c1.mono ?_
      rintro e w2 ⟨rfl, ys, hys, hyl, hC2, hg2⟩
      have B2 : Below w.heap.size w w2 := own_grown HV.out.bel HV.out.coll.own (Nat.le_refl _) HV.out.bel.size hg2
      have c2 := compactS_any ys _ _ w.heap.size w2 hC2 (by rw [hyl]; exact HXL.out)
      have HY := Lib.hid (And.intro hys (And.intro hC2 B2))
      clear c1 hys hyl hC2 hg2 B2
      go_wp2_with fail
      refine c2.mono ?_
      rintro e w3 ⟨v3, zs, rfl, hzs, hC3, hg3⟩
      have hz : zs = bodyVars ps := by
        have h1 := sorted_names ps
        rw [HY.out.1, HXE.out] at hzs
        rw [h1] at hzs
        have inj : ∀ (a b : List ByteArray), a.map (·.data.toList) = b.map (·.data.toList) → a = b := by
          intro a
          induction a with
          | nil => intro b h; cases b; rfl; simp at h
          | cons x a ih => intro b h; cases b with
            | nil => simp at h
            | cons y b => simp only [List.map_cons, List.cons.injEq] at h; rw [bytes_inj h.1, ih b h.2]
        exact inj _ _ hzs
      subst hz
      obtain ⟨b9, hs9, hn9⟩ := hC3.new (New.nil _ _)
      have B3 := own_grown HY.out.2.2 HY.out.2.1.own (Nat.le_refl _) HY.out.2.2.size hg3
      have HZ : Hid (Makes strsK (bodyVars ps) w.heap.size w (.returned v3) w3) := Lib.hid ⟨B3, _, _, rfl, hs9, hn9⟩
      clear c2 hzs hC3 hg3 hs9 hn9 B3
      go_wp2
      go_ret
      exact HZ.out

end Go.Proofs.Ytbcepahpehadeaa
