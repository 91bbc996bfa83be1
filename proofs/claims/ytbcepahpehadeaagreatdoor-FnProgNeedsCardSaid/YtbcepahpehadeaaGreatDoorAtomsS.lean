/- The walks of spec.l2Atoms and spec.l2Args. -/
import Derived.WalkKit
import Derived.Lib.Hide
import Derived.WalkSpells
import Derived.WalkLawsBesides
import Derived.BigQuiet
import Derived.Deep.RegionHeld3
import Derived.Deep.RegionWith
import Derived.Deep.DrawnRows
import Derived.Deep.AppendLies
import Derived.Test.YtbcepahpehadeaaGreatDoorProg
import Derived.Test.YtbcepahpehadeaaGreatDoorKind
import Derived.Test.YtbcepahpehadeaaGreatDoorProgP
namespace Go.Proofs.YtbcepahpehadeaaGreatDoor
open Go.RowKit D
set_option linter.unusedVariables false
attribute [local go_sem ↓] Go.wp_at_zero Go.wp_at_succ

theorem infoAtomG : (Tryz.prog.info? 48).map (fun i => (i.zero, i.size, i.bytes)) = some (some (.agg #[.string ⟨#[]⟩, .slice none 0 0]), 2, 40) := by kernel_rfl

/-- The atoms met so far: they share memory with the rules. -/
structure D.AsInv (w : World) (v : Value) (L : List Value) (xs : List A) (wr : World) : Prop where
  coll : ∃ bs, Coll 2 atomK w.heap.size 48 wr v L xs bs
  bel : Below w.heap.size w wr
theorem D.AsInv.below {w wr w' : World} {v : Value} {L : List Value} {xs : List A} (h : AsInv w v L xs wr) (hb : Below wr.heap.size wr w') : AsInv w v L xs w' :=
  ⟨by obtain ⟨bs, hc⟩ := h.coll; exact ⟨bs, hc.below atomK_good hb⟩, h.bel.trans (hb.mono h.bel.size)⟩

set_option maxRecDepth 100000 in
set_option maxHeartbeats 2000000 in
theorem l2Atoms_any (rs : List Ru) (v : Value) (bs : List Nat) (w : World) (h : rulesK w [v] rs bs) (hn : (allAtoms rs).length ≤ 1000000) :
    Calls Tryz.prog 58 #[v] w fun e w' => Below w.heap.size w w' ∧ ∃ v' b2, e = .returned v' ∧ atomsK w' [v'] (allAtoms rs) b2 := by
  obtain ⟨Ad, cap, rfl, hl, hm⟩ := sliceK_form h
  have hlm := nat_ge_max (Nat.le_trans hl hm)
  obtain ⟨i0, hi, hz0, hz1, hz2⟩ := info_parts infoAtomG
  have HN : Hid (∀ k, (allAtoms (rs.take k)).length ≤ 1000000) := Lib.hid fun k => by
    have h1 : allAtoms rs = allAtoms (rs.take k) ++ allAtoms (rs.drop k) := by unfold allAtoms; rw [← List.flatMap_append, List.take_append_drop]
    rw [h1, List.length_append] at hn; omega
  have HV0 : Hid (AsInv w (.slice (some ⟨w.heap.size, 0, none⟩) 0 0) [] [] (w.alloc (.cells #[] 48))) := Lib.hid ⟨⟨[], Coll.empty (heap_alloc_new _ _) (Nat.le_refl _)⟩, (Below.refl _ _).alloc (Nat.le_refl _) _⟩
  clear hl hm hn
  go_enter Tryz.func58, Tryz.ntmps58
  go_wp2
  generalize w.alloc (.cells #[] 48) = w0 at *
  go_loopw [3, 4] (fun v i wr => ∃ (k : Nat) (Av : Option Addr) (cp : Nat) (L : List Value) (xs : List A), k ≤ rs.length ∧ i = .int .i64 k ∧ v = .slice Av xs.length cp ∧ xs = allAtoms (rs.take k) ∧ AsInv w (.slice Av xs.length cp) L xs wr) (fun _ i _ => rs.length - (intOf i).toNat)
  case atStart => exact ⟨0, _, 0, [], [], Nat.zero_le _, rfl, rfl, rfl, HV0.out⟩
  case round =>
    obtain ⟨k, Av, cp, L, xs, hk, rfl, rfl, hxs, hV⟩ := hrel
    clear HV0
    have HX := Lib.hid hxs
    have HLX : Hid (xs.length ≤ 1000000) := Lib.hid (by rw [hxs]; exact HN.out k)
    clear hxs
    by_cases hlt : k < rs.length
    · obtain ⟨b, o, Ae, ce, Af, cf, bk, rfl, _, d0, d1, d2, hel, _⟩ := rules_el h hlt
      have e2 := cell_later hV.bel d2
      replace d0 := cell_later hV.bel d0
      replace d1 := cell_later hV.bel d1
      have D2 := Lib.hid d2
      have hk0 : (0 : Int) ≤ (k : Int) := by omega
      have hk1 : (k : Int) < (rs.length : Int) := by omega
      have HLN : Hid ((allAtoms (rs.take k) ++ [rs[k].head] ++ partAtoms rs[k].body).length ≤ 1000000) := Lib.hid (by rw [← allAtoms_snoc rs k hlt]; exact HN.out (k + 1))
      obtain ⟨b1, b2, _, hhd, hbd⟩ := rule_parts hel
      have HBO := Lib.hid hbd
      have hbl : (rs[k].body.length : Int) ≤ 1000000 := by have := HLN.out; rw [List.length_append, partAtoms_len] at this; omega
      have hA : Below wr.heap.size wr (wr.alloc (.cells #[.string rs[k].head.name, .slice Ae rs[k].head.args.length ce] 48)) := (Below.refl _ _).alloc (Nat.le_refl _) _
      obtain ⟨bs0, hC0⟩ := (hV.below hA).coll
      have HC := Lib.hid hC0
      have HB := Lib.hid (hV.below hA).bel
      have HR : Hid (Rowed 2 atomK (wr.alloc (.cells #[.string rs[k].head.name, .slice Ae rs[k].head.args.length ce] 48)) [.string rs[k].head.name, .slice Ae rs[k].head.args.length ce] [rs[k].head] b1) := Lib.hid (Rowed.one_el atomK_ones (atomK_good.below (atomK_good.below hhd hV.bel) hA))
      have HL : Hid (Lies (wr.alloc (.cells #[.string rs[k].head.name, .slice Ae rs[k].head.args.length ce] 48)) (some ⟨wr.heap.size, 0, none⟩) [.string rs[k].head.name, .slice Ae rs[k].head.args.length ce]) := Lib.hid (lies_block (heap_alloc_new wr (.cells #[.string rs[k].head.name, .slice Ae rs[k].head.args.length ce] 48)))
      have HF : Hid (∀ c ∈ b1, (Value.slice Av xs.length cp).ownBlock ≠ some c) := Lib.hid fun c hc => own_block_ge hC0.own (atomK_good.lt hhd c hc)
      have HLT := Lib.hid hlt
      have HSN := Lib.hid (allAtoms_snoc rs k hlt)
      clear h hel hhd hbd hV hA hC0 d2
      generalize rs[k] = r at *
      clear hlt
      obtain ⟨⟨nm, args⟩, body⟩ := r
      dsimp only at *
      go_wp2_with (at_builtin; refine wpList_coll rfl _ _ _ rfl w.heap.size 48 i0 (.agg #[.string ⟨#[]⟩, .slice none 0 0]) 2 40 Tryz.underlying29 hi hz0 hz1 hz2 rfl (by omega) atomK_good (.slice Av xs.length cp) xs.length _ _ _ rfl HC.out rfl (some ⟨wr.heap.size, 0, none⟩) 1 1 _ [⟨nm, args⟩] _ rfl HR.out rfl HL.out HF.out (by have := HLX.out; unfold maxLen; omega) (by have := HLX.out; omega) w w.heap.size HB.out (Nat.le_refl _) HB.out.size ?_; intro A2 cp2 w2 hC3 hB3 hS3 _)
      have HV1 : Hid (AsInv w (.slice A2 (xs ++ [(⟨nm, args⟩ : A)]).length cp2) (L ++ [.string nm, .slice Ae args.length ce]) (xs ++ [(⟨nm, args⟩ : A)]) w2) := Lib.hid ⟨⟨_, by rw [List.length_append]; exact hC3⟩, hB3⟩
      have HX1 : Hid (xs ++ [(⟨nm, args⟩ : A)] = allAtoms (rs.take k) ++ [(⟨nm, args⟩ : A)]) := Lib.hid (by rw [HX.out])
      have hlx : xs.length + 1 = (xs ++ [(⟨nm, args⟩ : A)]).length := by simp
      rw [hlx]
      clear hC3 hB3 hS3 HC HB HR HL HF d0 d1 HX hlx e2
      generalize xs ++ [(⟨nm, args⟩ : A)] = ys at *
      generalize L ++ [.string nm, .slice Ae args.length ce] = M at *
      clear HLX
      go_wp2
      go_loopw [3, 5] (fun v i wr => ∃ (j : Nat) (Av : Option Addr) (cp : Nat) (M : List Value) (zs : List A), j ≤ body.length ∧ i = .int .i64 j ∧ v = .slice Av zs.length cp ∧ zs = ys ++ partAtoms (body.take j) ∧ AsInv w (.slice Av zs.length cp) M zs wr) (fun _ i _ => body.length - (intOf i).toNat)
      case atStart => exact ⟨0, _, _, _, ys, Nat.zero_le _, rfl, rfl, by simp [partAtoms], HV1.out⟩
      case round =>
        obtain ⟨j, Aw, cq, M2, zs, hj, rfl, rfl, hzs, hV⟩ := hrel
        clear HV1
        have HZ := Lib.hid hzs
        have HLZ : Hid (zs.length + 1 ≤ 1000001) := Lib.hid (by
          have h1 := HLN.out
          rw [← HX1.out, List.length_append, partAtoms_len] at h1
          rw [hzs, List.length_append, partAtoms_len, List.length_take]; omega)
        clear hzs
        have e2 := cell_later hV.bel D2.out
        by_cases hlt : j < body.length
        · obtain ⟨b4, o4, Ag, cg, bg, rfl, _, f0, f1, f2, hel, _⟩ := parts_el HBO.out hlt
          replace f0 := cell_later hV.bel f0
          replace f1 := cell_later hV.bel f1
          replace f2 := cell_later hV.bel f2
          have hj0 : (0 : Int) ≤ (j : Int) := by omega
          have hj1 : (j : Int) < (body.length : Int) := by omega
          have hhd := part_atom hel
          have hA : Below wr.heap.size wr (wr.alloc (.cells #[.string body[j].atom.name, .slice Ag body[j].atom.args.length cg] 48)) := (Below.refl _ _).alloc (Nat.le_refl _) _
          obtain ⟨bs0, hC0⟩ := (hV.below hA).coll
          have HC := Lib.hid hC0
          have HB := Lib.hid (hV.below hA).bel
          have HR : Hid (Rowed 2 atomK (wr.alloc (.cells #[.string body[j].atom.name, .slice Ag body[j].atom.args.length cg] 48)) [.string body[j].atom.name, .slice Ag body[j].atom.args.length cg] [body[j].atom] bg) := Lib.hid (Rowed.one_el atomK_ones (atomK_good.below (atomK_good.below hhd hV.bel) hA))
          have HL : Hid (Lies (wr.alloc (.cells #[.string body[j].atom.name, .slice Ag body[j].atom.args.length cg] 48)) (some ⟨wr.heap.size, 0, none⟩) [.string body[j].atom.name, .slice Ag body[j].atom.args.length cg]) := Lib.hid (lies_block (heap_alloc_new wr (.cells #[.string body[j].atom.name, .slice Ag body[j].atom.args.length cg] 48)))
          have HF : Hid (∀ c ∈ bg, (Value.slice Aw zs.length cq).ownBlock ≠ some c) := Lib.hid fun c hc => own_block_ge hC0.own (atomK_good.lt hhd c hc)
          have HLJ := Lib.hid hlt
          have HSP := Lib.hid (partAtoms_snoc body j hlt)
          clear hel hhd hV hA hC0
          generalize body[j] = p at *
          clear hlt
          obtain ⟨no, ⟨pn, pargs⟩⟩ := p
          dsimp only at *
          go_wp2_with (at_builtin; refine wpList_coll rfl _ _ _ rfl w.heap.size 48 i0 (.agg #[.string ⟨#[]⟩, .slice none 0 0]) 2 40 Tryz.underlying29 hi hz0 hz1 hz2 rfl (by omega) atomK_good (.slice Aw zs.length cq) zs.length _ _ _ rfl HC.out rfl (some ⟨wr.heap.size, 0, none⟩) 1 1 _ [⟨pn, pargs⟩] _ rfl HR.out rfl HL.out HF.out (by have := HLZ.out; unfold maxLen; omega) (by have := HLZ.out; omega) w w.heap.size HB.out (Nat.le_refl _) HB.out.size ?_; intro A2 cp2 w2 hC3 hB3 hS3 _)
          have HV2 : Hid (AsInv w (.slice A2 (zs ++ [(⟨pn, pargs⟩ : A)]).length cp2) (M2 ++ [.string pn, .slice Ag pargs.length cg]) (zs ++ [(⟨pn, pargs⟩ : A)]) w2) := Lib.hid ⟨⟨_, by rw [List.length_append]; exact hC3⟩, hB3⟩
          clear hC3 hB3 hS3 HC HB HR HL HF f0 f1 f2 e2
          go_wp2
          go_roundw
          case rel => exact ⟨j + 1, A2, cp2, _, zs ++ [(⟨pn, pargs⟩ : A)], HLJ.out, by go_num, by simp, by rw [HSP.out, HZ.out, List.append_assoc], HV2.out⟩
          case measure => have := HLJ.out; simp [intOf]; omega
        · have he : j = body.length := by omega
          have hj1 : ¬ (j : Int) < (body.length : Int) := by omega
          have HE : Hid (zs = allAtoms (rs.take (k + 1))) := Lib.hid (by rw [HSN.out, HZ.out, HX1.out, he, List.take_of_length_le (Nat.le_refl _)])
          have HV := Lib.hid hV
          clear hV he
          go_wp2
          go_roundw
          case rel => exact ⟨k + 1, Aw, cq, M2, zs, HLT.out, by go_num, rfl, HE.out, HV.out⟩
          case measure => have := HLT.out; simp [intOf]; omega
    · have he : k = rs.length := by omega
      have hk1 : ¬ (k : Int) < (rs.length : Int) := by omega
      obtain ⟨bs0, hC0⟩ := hV.coll
      obtain ⟨b2, hs2, _⟩ := hC0.slice
      have hx : xs = allAtoms rs := by rw [HX.out, he, List.take_of_length_le (Nat.le_refl _)]
      have HZ : Hid (Below w.heap.size w wr ∧ ∃ b2, atomsK wr [.slice Av xs.length cp] (allAtoms rs) b2) := Lib.hid ⟨hV.bel, b2, by rw [← hx]; exact hs2⟩
      clear h hV he hx hs2 hC0 HX
      go_wp2
      go_ret
      obtain ⟨q1, q2, q3⟩ := HZ.out
      exact ⟨q1, _, rfl, q2, q3⟩

end Go.Proofs.YtbcepahpehadeaaGreatDoor
