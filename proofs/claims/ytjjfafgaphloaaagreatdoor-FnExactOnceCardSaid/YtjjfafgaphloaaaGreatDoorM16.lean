/- Of the proof of FnExactOnce: AtomsS, Facts2, MarkA. -/
import Derived.WalkKit
import Derived.Lib.Hide
import Derived.WalkSpells
import Derived.WalkLawsBesides
import Derived.BigQuiet
import Derived.Deep.RegionHeld3
import Derived.Deep.RegionWith
import Derived.Deep.DrawnRows
import Derived.Deep.AppendLies
import Derived.Test.YtjjfafgaphloaaaGreatDoorProg
import Derived.Test.YtjjfafgaphloaaaGreatDoorM01
import Derived.Test.YtjjfafgaphloaaaGreatDoorM07
import Derived.Laws.EntriesVeiled
import Derived.Lib.IndexBytes
import Derived.Deep.Slices
import Derived.Deep.Fields
import Derived.ChangeSame
import Derived.Deep.Draws
import Derived.Lib.Bytealg
import Derived.Test.YtjjfafgaphloaaaGreatDoorM08
import Derived.Test.YtjjfafgaphloaaaGreatDoorM12
namespace Go.Proofs.YtjjfafgaphloaaaGreatDoor
open Go.RowKit D
set_option linter.unusedVariables false
attribute [local go_sem ↓] Go.wp_at_zero Go.wp_at_succ
theorem infoAtomG : (Tryz.prog.info? 33).map (fun i => (i.zero, i.size, i.bytes)) = some (some (.agg #[.string ⟨#[]⟩, .slice none 0 0]), 2, 40) := by kernel_rfl

/-- The atoms met so far: they share memory with the rules. -/
structure D.AsInv (w : World) (v : Value) (L : List Value) (xs : List A) (wr : World) : Prop where
  coll : ∃ bs, Coll 2 atomK w.heap.size 33 wr v L xs bs
  bel : Below w.heap.size w wr

theorem D.AsInv.below {w wr w' : World} {v : Value} {L : List Value} {xs : List A} (h : AsInv w v L xs wr) (hb : Below wr.heap.size wr w') : AsInv w v L xs w' :=
  ⟨by obtain ⟨bs, hc⟩ := h.coll; exact ⟨bs, hc.below atomK_good hb⟩, h.bel.trans (hb.mono h.bel.size)⟩

set_option maxRecDepth 100000 in
set_option maxHeartbeats 2000000 in
theorem l2Atoms_any (rs : List Ru) (v : Value) (bs : List Nat) (w : World) (h : rulesK w [v] rs bs) (hn : (allAtoms rs).length ≤ 1000000) :
    Calls Tryz.prog 85 #[v] w fun e w' => Below w.heap.size w w' ∧ ∃ v' b2, e = .returned v' ∧ atomsK w' [v'] (allAtoms rs) b2 := by
  obtain ⟨Ad, cap, rfl, hl, hm⟩ := sliceK_form h
  have hlm := nat_ge_max (Nat.le_trans hl hm)
  obtain ⟨i0, hi, hz0, hz1, hz2⟩ := info_parts infoAtomG
  have HN : Hid (∀ k, (allAtoms (rs.take k)).length ≤ 1000000) := Lib.hid fun k => by
    have h1 : allAtoms rs = allAtoms (rs.take k) ++ allAtoms (rs.drop k) := by unfold allAtoms; rw [← List.flatMap_append, List.take_append_drop]
    rw [h1, List.length_append] at hn; omega
  have HV0 : Hid (AsInv w (.slice (some ⟨w.heap.size, 0, none⟩) 0 0) [] [] (w.alloc (.cells #[] 33))) := Lib.hid ⟨⟨[], Coll.empty (heap_alloc_new _ _) (Nat.le_refl _)⟩, (Below.refl _ _).alloc (Nat.le_refl _) _⟩
  clear hl hm hn
  go_enter Tryz.func85, Tryz.ntmps85
  go_wp2
  generalize w.alloc (.cells #[] 33) = w0 at *
  go_loopw [3, 4] (fun v i wr => ∃ (k : Nat) (Av : Option Addr) (cp : Nat) (L : List Value) (xs : List A), k ≤ rs.length ∧ i = .int .i64 k ∧ v = .slice Av xs.length cp ∧ xs = allAtoms (rs.take k) ∧ AsInv w (.slice Av xs.length cp) L xs wr) (fun _ i _ => rs.length - (intOf i).toNat)
  case atStart => exact ⟨0, _, 0, [], [], Nat.zero_le _, rfl, rfl, rfl, HV0.out⟩
  case round =>
    obtain ⟨k, Av, cp, L, xs, hk, rfl, rfl, hxs, hV⟩ := hrel
    clear HV0
    have HX := Lib.hid hxs
    have HLX : Hid (xs.length ≤ 1000000) := Lib.hid (by rw [hxs]; exact HN.out k)
    clear hxs
    by_cases hlt : k < rs.length
    · obtain ⟨b, o, Ae, ce, Af, cf, bk, rfl, _, d0, d1, d2, hel, _⟩ := rules_el h hlt
      have e2 := cell_later hV.bel d2
      replace d0 := cell_later hV.bel d0
      replace d1 := cell_later hV.bel d1
      have D2 := Lib.hid d2
      have hk0 : (0 : Int) ≤ (k : Int) := by omega
      have hk1 : (k : Int) < (rs.length : Int) := by omega
      have HLN : Hid ((allAtoms (rs.take k) ++ [rs[k].head] ++ partAtoms rs[k].body).length ≤ 1000000) := Lib.hid (by rw [← allAtoms_snoc rs k hlt]; exact HN.out (k + 1))
      obtain ⟨b1, b2, _, hhd, hbd⟩ := rule_parts hel
      have HBO := Lib.hid hbd
      have hbl : (rs[k].body.length : Int) ≤ 1000000 := by have := HLN.out; rw [List.length_append, partAtoms_len] at this; omega
      have hA : Below wr.heap.size wr (wr.alloc (.cells #[.string rs[k].head.name, .slice Ae rs[k].head.args.length ce] 33)) := (Below.refl _ _).alloc (Nat.le_refl _) _
      obtain ⟨bs0, hC0⟩ := (hV.below hA).coll
      have HC := Lib.hid hC0
      have HB := Lib.hid (hV.below hA).bel
      have HR : Hid (Rowed 2 atomK (wr.alloc (.cells #[.string rs[k].head.name, .slice Ae rs[k].head.args.length ce] 33)) [.string rs[k].head.name, .slice Ae rs[k].head.args.length ce] [rs[k].head] b1) := Lib.hid (Rowed.one_el atomK_ones (atomK_good.below (atomK_good.below hhd hV.bel) hA))
      have HL : Hid (Lies (wr.alloc (.cells #[.string rs[k].head.name, .slice Ae rs[k].head.args.length ce] 33)) (some ⟨wr.heap.size, 0, none⟩) [.string rs[k].head.name, .slice Ae rs[k].head.args.length ce]) := Lib.hid (lies_block (heap_alloc_new wr (.cells #[.string rs[k].head.name, .slice Ae rs[k].head.args.length ce] 33)))
      have HF : Hid (∀ c ∈ b1, (Value.slice Av xs.length cp).ownBlock ≠ some c) := Lib.hid fun c hc => own_block_ge hC0.own (atomK_good.lt hhd c hc)
      have HLT := Lib.hid hlt
      have HSN := Lib.hid (allAtoms_snoc rs k hlt)
      clear h hel hhd hbd hV hA hC0 d2
      generalize rs[k] = r at *
      clear hlt
      obtain ⟨⟨nm, args⟩, body⟩ := r
      dsimp only at *
      go_wp2_with (at_builtin; refine wpList_coll rfl _ _ _ rfl w.heap.size 33 i0 (.agg #[.string ⟨#[]⟩, .slice none 0 0]) 2 40 Tryz.underlying24 hi hz0 hz1 hz2 rfl (by omega) atomK_good (.slice Av xs.length cp) xs.length _ _ _ rfl HC.out rfl (some ⟨wr.heap.size, 0, none⟩) 1 1 _ [⟨nm, args⟩] _ rfl HR.out rfl HL.out HF.out (by have := HLX.out; unfold maxLen; omega) (by have := HLX.out; omega) w w.heap.size HB.out (Nat.le_refl _) HB.out.size ?_; intro A2 cp2 w2 hC3 hB3 hS3 _)
      have HV1 : Hid (AsInv w (.slice A2 (xs ++ [(⟨nm, args⟩ : A)]).length cp2) (L ++ [.string nm, .slice Ae args.length ce]) (xs ++ [(⟨nm, args⟩ : A)]) w2) := Lib.hid ⟨⟨_, by rw [List.length_append]; exact hC3⟩, hB3⟩
      have HX1 : Hid (xs ++ [(⟨nm, args⟩ : A)] = allAtoms (rs.take k) ++ [(⟨nm, args⟩ : A)]) := Lib.hid (by rw [HX.out])
      have hlx : xs.length + 1 = (xs ++ [(⟨nm, args⟩ : A)]).length := by simp
      rw [hlx]
      clear hC3 hB3 hS3 HC HB HR HL HF d0 d1 HX hlx e2
      generalize xs ++ [(⟨nm, args⟩ : A)] = ys at *
      generalize L ++ [.string nm, .slice Ae args.length ce] = M at *
      clear HLX
      go_wp2
      go_loopw [3, 5] (fun v i wr => ∃ (j : Nat) (Av : Option Addr) (cp : Nat) (M : List Value) (zs : List A), j ≤ body.length ∧ i = .int .i64 j ∧ v = .slice Av zs.length cp ∧ zs = ys ++ partAtoms (body.take j) ∧ AsInv w (.slice Av zs.length cp) M zs wr) (fun _ i _ => body.length - (intOf i).toNat)
      case atStart => exact ⟨0, _, _, _, ys, Nat.zero_le _, rfl, rfl, by simp [partAtoms], HV1.out⟩
      case round =>
        obtain ⟨j, Aw, cq, M2, zs, hj, rfl, rfl, hzs, hV⟩ := hrel
        clear HV1
        have HZ := Lib.hid hzs
        have HLZ : Hid (zs.length + 1 ≤ 1000001) := Lib.hid (by
          have h1 := HLN.out
          rw [← HX1.out, List.length_append, partAtoms_len] at h1
          rw [hzs, List.length_append, partAtoms_len, List.length_take]; omega)
        clear hzs
        have e2 := cell_later hV.bel D2.out
        by_cases hlt : j < body.length
        · obtain ⟨b4, o4, Ag, cg, bg, rfl, _, f0, f1, f2, hel, _⟩ := parts_el HBO.out hlt
          replace f0 := cell_later hV.bel f0
          replace f1 := cell_later hV.bel f1
          replace f2 := cell_later hV.bel f2
          have hj0 : (0 : Int) ≤ (j : Int) := by omega
          have hj1 : (j : Int) < (body.length : Int) := by omega
          have hhd := part_atom hel
          have hA : Below wr.heap.size wr (wr.alloc (.cells #[.string body[j].atom.name, .slice Ag body[j].atom.args.length cg] 33)) := (Below.refl _ _).alloc (Nat.le_refl _) _
          obtain ⟨bs0, hC0⟩ := (hV.below hA).coll
          have HC := Lib.hid hC0
          have HB := Lib.hid (hV.below hA).bel
          have HR : Hid (Rowed 2 atomK (wr.alloc (.cells #[.string body[j].atom.name, .slice Ag body[j].atom.args.length cg] 33)) [.string body[j].atom.name, .slice Ag body[j].atom.args.length cg] [body[j].atom] bg) := Lib.hid (Rowed.one_el atomK_ones (atomK_good.below (atomK_good.below hhd hV.bel) hA))
          have HL : Hid (Lies (wr.alloc (.cells #[.string body[j].atom.name, .slice Ag body[j].atom.args.length cg] 33)) (some ⟨wr.heap.size, 0, none⟩) [.string body[j].atom.name, .slice Ag body[j].atom.args.length cg]) := Lib.hid (lies_block (heap_alloc_new wr (.cells #[.string body[j].atom.name, .slice Ag body[j].atom.args.length cg] 33)))
          have HF : Hid (∀ c ∈ bg, (Value.slice Aw zs.length cq).ownBlock ≠ some c) := Lib.hid fun c hc => own_block_ge hC0.own (atomK_good.lt hhd c hc)
          have HLJ := Lib.hid hlt
          have HSP := Lib.hid (partAtoms_snoc body j hlt)
          clear hel hhd hV hA hC0
          generalize body[j] = p at *
          clear hlt
          obtain ⟨no, ⟨pn, pargs⟩⟩ := p
          dsimp only at *
          go_wp2_with (at_builtin; refine wpList_coll rfl _ _ _ rfl w.heap.size 33 i0 (.agg #[.string ⟨#[]⟩, .slice none 0 0]) 2 40 Tryz.underlying24 hi hz0 hz1 hz2 rfl (by omega) atomK_good (.slice Aw zs.length cq) zs.length _ _ _ rfl HC.out rfl (some ⟨wr.heap.size, 0, none⟩) 1 1 _ [⟨pn, pargs⟩] _ rfl HR.out rfl HL.out HF.out (by have := HLZ.out; unfold maxLen; omega) (by have := HLZ.out; omega) w w.heap.size HB.out (Nat.le_refl _) HB.out.size ?_; intro A2 cp2 w2 hC3 hB3 hS3 _)
          have HV2 : Hid (AsInv w (.slice A2 (zs ++ [(⟨pn, pargs⟩ : A)]).length cp2) (M2 ++ [.string pn, .slice Ag pargs.length cg]) (zs ++ [(⟨pn, pargs⟩ : A)]) w2) := Lib.hid ⟨⟨_, by rw [List.length_append]; exact hC3⟩, hB3⟩
          clear hC3 hB3 hS3 HC HB HR HL HF f0 f1 f2 e2
          go_wp2
          go_roundw
          case rel => exact ⟨j + 1, A2, cp2, _, zs ++ [(⟨pn, pargs⟩ : A)], HLJ.out, by go_num, by simp, by rw [HSP.out, HZ.out, List.append_assoc], HV2.out⟩
          case measure => have := HLJ.out; simp [intOf]; omega
        · have he : j = body.length := by omega
          have hj1 : ¬ (j : Int) < (body.length : Int) := by omega
          have HE : Hid (zs = allAtoms (rs.take (k + 1))) := Lib.hid (by rw [HSN.out, HZ.out, HX1.out, he, List.take_of_length_le (Nat.le_refl _)])
          have HV := Lib.hid hV
          clear hV he
          go_wp2
          go_roundw
          case rel => exact ⟨k + 1, Aw, cq, M2, zs, HLT.out, by go_num, rfl, HE.out, HV.out⟩
          case measure => have := HLT.out; simp [intOf]; omega
    · have he : k = rs.length := by omega
      have hk1 : ¬ (k : Int) < (rs.length : Int) := by omega
      obtain ⟨bs0, hC0⟩ := hV.coll
      obtain ⟨b2, hs2, _⟩ := hC0.slice
      have hx : xs = allAtoms rs := by rw [HX.out, he, List.take_of_length_le (Nat.le_refl _)]
      have HZ : Hid (Below w.heap.size w wr ∧ ∃ b2, atomsK wr [.slice Av xs.length cp] (allAtoms rs) b2) := Lib.hid ⟨hV.bel, b2, by rw [← hx]; exact hs2⟩
      clear h hV he hx hs2 hC0 HX
      go_wp2
      go_ret
      obtain ⟨q1, q2, q3⟩ := HZ.out
      exact ⟨q1, _, rfl, q2, q3⟩

end Go.Proofs.YtjjfafgaphloaaaGreatDoor

namespace Go.Proofs.YtjjfafgaphloaaaGreatDoor
open Go.RowKit D
set_option linter.unusedVariables false
attribute [local go_sem ↓] Go.wp_at_zero Go.wp_at_succ
set_option maxHeartbeats 400000 in
theorem sortedFacts_any (Ad : Option Addr) (n cap : Nat) (w : World) :
    Calls Tryz.prog 77 #[.slice Ad n cap] w fun e w' => e = .returned (.agg #[.slice Ad n cap, .func (.func 29) #[] #[]]) ∧ Below w.heap.size w w' := by
  go_enter Tryz.func77, Tryz.ntmps77
  go_wp2
  exact bodyPost_ret (v := .agg #[.slice Ad n cap, .func (.func 29) #[] #[]]) (by simp [results, Tryz.results77, go_sem]) rfl ⟨rfl, by repeat (first | exact Below.refl _ _ | (refine Below.setCell ?_ (by first | (simp; done) | (simp; omega)) _) | (refine Below.alloc ?_ (by first | (simp; done) | (simp; omega)) _))⟩

set_option maxHeartbeats 1000000 in
theorem ascends_any (xs : List A) (v : Value) (bs : List Nat) (w : World) (h : atomsK w [v] xs bs) :
    Calls Tryz.prog 78 #[.agg #[v, .func (.func 29) #[] #[]]] w fun e w' => e = .returned (.bool (asc xs)) ∧ Below w.heap.size w w' := by
  obtain ⟨Ad, cap, rfl, hl, hm⟩ := sliceK_form h
  have hlm := nat_ge_max (Nat.le_trans hl hm)
  clear hm
  have hA0 : Below w.heap.size w (w.alloc (.cells #[.slice Ad xs.length cap, .func (.func 29) #[] #[]] 142)) := (Below.refl _ _).alloc (Nat.le_refl _) _
  go_enter Tryz.func78, Tryz.ntmps78
  go_wp2
  go_loopw [3] (fun i wr => ∃ k : Nat, 0 < k ∧ (k ≤ xs.length ∨ k = 1) ∧ i = .int .i64 k ∧ ascTo xs k ∧ Below w.heap.size w wr ∧ wr.cell? ⟨w.heap.size, 0, none⟩ = some (.slice Ad xs.length cap) ∧ wr.cell? ⟨w.heap.size, 1, none⟩ = some (.func (.func 29) #[] #[]) ∧ w.heap.size < wr.heap.size) (fun i _ => xs.length + 1 - (intOf i).toNat)
  case atStart => exact ⟨1, Nat.one_pos, .inr rfl, rfl, ascTo_one _, hA0, by go_simp, by go_simp, by simp⟩
  case round =>
    obtain ⟨k, hp0, hk, rfl, hall, hb, s0, s1, hgt⟩ := hrel
    have HA := Lib.hid hall
    have HK := Lib.hid hk
    clear hall hA0 hk
    by_cases hlt : k < xs.length
    · have hk0 : (0 : Int) ≤ (k : Int) := by omega
      have hk1 : (k : Int) < (xs.length : Int) := by omega
      obtain ⟨j, hkj⟩ : ∃ j, k = j + 1 := ⟨k - 1, by omega⟩
      have hlj : j < xs.length := by omega
      have HS : Hid (cmpA xs[j] xs[k] < 0 → ascTo xs (k + 1)) := by subst hkj; exact Lib.hid (fun hc => ascTo_step (xs := xs) (k := j) HA.out hlt hc)
      have HB : Hid (¬ cmpA xs[j] xs[k] < 0 → asc xs = false) := by subst hkj; exact Lib.hid (fun hc => asc_bad xs j hlt hc)
      have hw1 : IntKind.i64.wrap ((k : Int) - 1) = (j : Int) := (IntWalk.i64_in _ ⟨by omega, by omega⟩).trans (by omega)
      have hK := Lib.hid hkj
      have hx1 : (0 : Int) ≤ (j : Int) := by omega
      have hx2 : (j : Int) < (xs.length : Int) := by omega
      clear HA hkj
      obtain ⟨b, o, Ae, ce, bk, Af, cf, bm, rfl, c0, c1, hel, d0, d1, hem⟩ := atoms_two (atomsK_good.below h hb) hlj hlt
      have hD : Below wr.heap.size wr wr.drew := Below.drew (Below.refl _ _)
      have hcm := atomOrder_any xs[j] xs[k] _ _ _ _ bk bm wr.drew (atomK_good.below hel hD) (atomK_good.below hem hD)
      clear h hel hem
      by_cases hc : cmpA xs[j] xs[k] < 0
      · have hc' : ¬ 0 ≤ cmpA xs[j] xs[k] := by omega
        have HC := Lib.hid (HS.out hc)
        clear hc
        go_wp2
        go_region_held3 (fun w' => w'.cell? ⟨b, o + j * 2, none⟩ = some (.string xs[j].name) ∧ w'.cell? ⟨b, o + j * 2 + 1, none⟩ = some (.slice Ae xs[j].args.length ce) ∧ w'.cell? ⟨b, o + k * 2, none⟩ = some (.string xs[k].name) ∧ w'.cell? ⟨b, o + k * 2 + 1, none⟩ = some (.slice Af xs[k].args.length cf) ∧ w'.cell? ⟨w.heap.size, 0, none⟩ = some (.slice (some ⟨b, o, none⟩) xs.length cap) ∧ w'.cell? ⟨w.heap.size, 1, none⟩ = some (.func (.func 29) #[] #[]))
          (first | go_keep | exact ⟨y0, y1, y2, y3, y4, y5⟩)
          (first
            | (go_at_call 29; refine hcm.mono ?_; rintro e w2 ⟨rfl, hb2⟩; have y0 := cell_later hb2 c0; have y1 := cell_later hb2 c1; have y2 := cell_later hb2 d0; have y3 := cell_later hb2 d1; have y4 := cell_later hb2 s0; have y5 := cell_later hb2 s1; have B2 := hD.trans hb2))
        go_wp2
        go_roundw
        case rel => exact ⟨k + 1, Nat.succ_pos _, .inl (by omega), by go_num, HC.out, hb.trans (B2.mono hb.size), y4, y5, Nat.lt_of_lt_of_le hgt B2.size⟩
        case measure => simp [intOf]; omega
      · have hc' : 0 ≤ cmpA xs[j] xs[k] := by omega
        have HC := Lib.hid (HB.out hc)
        clear hc
        go_wp2
        go_region_held3 (fun w' => w'.cell? ⟨b, o + j * 2, none⟩ = some (.string xs[j].name) ∧ w'.cell? ⟨b, o + j * 2 + 1, none⟩ = some (.slice Ae xs[j].args.length ce) ∧ w'.cell? ⟨b, o + k * 2, none⟩ = some (.string xs[k].name) ∧ w'.cell? ⟨b, o + k * 2 + 1, none⟩ = some (.slice Af xs[k].args.length cf) ∧ w'.cell? ⟨w.heap.size, 0, none⟩ = some (.slice (some ⟨b, o, none⟩) xs.length cap) ∧ w'.cell? ⟨w.heap.size, 1, none⟩ = some (.func (.func 29) #[] #[]))
          (first | go_keep | exact ⟨y0, y1, y2, y3, y4, y5⟩)
          (first
            | (go_at_call 29; refine hcm.mono ?_; rintro e w2 ⟨rfl, hb2⟩; have y0 := cell_later hb2 c0; have y1 := cell_later hb2 c1; have y2 := cell_later hb2 d0; have y3 := cell_later hb2 d1; have y4 := cell_later hb2 s0; have y5 := cell_later hb2 s1; have B2 := hD.trans hb2))
        go_wp2
        go_ret
        exact ⟨ret_bool HC.out.symm, hb.trans (B2.mono hb.size)⟩
    · have HE : Hid (asc xs = true) := Lib.hid (asc_end fun j hj hjk => HA.out j hj (by have := HK.out; omega))
      go_wp2
      go_ret
      exact ⟨ret_bool HE.out.symm, hb⟩

end Go.Proofs.YtjjfafgaphloaaaGreatDoor

namespace Go.Proofs.YtjjfafgaphloaaaGreatDoor
open Go.RowKit D
set_option linter.unusedVariables false
attribute [local go_sem ↓] Go.wp_at_zero Go.wp_at_succ
set_option maxHeartbeats 1000000 in
theorem markAtomS_any (ts : List A) (v : Value) (bs : List Nat) (k B : Nat) (w : World) (h : atomsK w [v] ts bs) (hN : New B w bs) (hk : k + sumL cntA ts ≤ 1000000000000) :
    Calls Tryz.prog 19 #[v, .int .i64 k] w (Marked atomsK [v] (markAs ts k) bs (k + sumL cntA ts) B w) := by
  obtain ⟨Ad, cap, rfl, hl, hm⟩ := sliceK_form h
  have hlen : ts.length ≤ 1000000000000 := Nat.le_trans (len_cnt cntA cntA_pos ts) (by omega)
  clear hm
  go_enter Tryz.func19, Tryz.ntmps19
  go_wp2
  go_loopw [1, 5] (fun q j wr => ∃ (i : Nat) (ys : List A), i ≤ ts.length ∧ j = .int .i64 i ∧ q = .int .i64 (k + sumL cntA (ts.take i) : Nat) ∧ ys = markTo mkA cntA ts k i ∧ atomsK wr [.slice Ad ts.length cap] ys bs ∧ New B wr bs ∧ KeptBut bs w wr) (fun _ j _ => ts.length - (intOf j).toNat)
  case atStart => exact ⟨0, ts, Nat.zero_le _, rfl, rfl, rfl, h, hN, KeptBut.refl _ _⟩
  case round =>
    obtain ⟨i, ys, hi, rfl, rfl, hy, hT, hNr, hK⟩ := hrel
    clear h hN
    by_cases hlt : i < ts.length
    · have HLT := Lib.hid hlt
      have hle : ys.length = ts.length := by rw [hy, markTo_length]
      have hey : ys[i]'(by omega) = ts[i] := by subst hy; exact markTo_at hlt
      have HS := Lib.hid (markTo_step (mk := mkA) (cnt := cntA) (k := k) hlt)
      have hsn := sumL_snoc cntA ts i hlt
      have hle2 := sumL_le_of_lt cntA ts i hlt
      have HY := Lib.hid hy
      clear hy
      obtain ⟨b, o, cs, bk, rfl, hb, hbk, hnd, hsub, hcs, hcell, hat, hput⟩ := sliceK_open atomK_good hT hNr.nodup (k := i) (by omega)
      rw [hey] at hat
      obtain ⟨s, rfl, _, ht⟩ := hat
      obtain ⟨u0, c0⟩ : ∃ u, wr.cell? ⟨b, o + i * 2, none⟩ = some u := ⟨_, hcell 0 _ rfl⟩
      have c1 : wr.cell? ⟨b, o + i * 2 + 1, none⟩ = some s := by have := hcell 1 _ rfl; rwa [← Nat.add_assoc] at this
      have f0 := (hNr.wri b hb).frozen (o + i * 2)
      have hbl := hNr.lt hb
      generalize ts[i] = a at *
      have hca : cntA a = 1 + 2 * a.args.length := rfl
      have HP := Lib.hid hput
      have HL := Lib.hid hle
      have HN := Lib.hid hNr
      have HSN := Lib.hid hsn
      clear hcell hput hT hcs hle hNr hey hsn
      obtain ⟨q, hq⟩ : ∃ q, q = k + sumL cntA (ts.take i) := ⟨_, rfl⟩
      rw [← hq] at HS ⊢
      have hq9 : q + 1 + 2 * a.args.length ≤ 1000000000000 := by omega
      have hq1 : (q : Int) + 1 ≤ 1000000000000 := by omega
      have HQ := Lib.hid hq
      have HC := Lib.hid hca
      clear hq hle2 hca
      go_wp2_with fail
      refine (markText_any q _ (by omega)).mono ?_
      rintro e w2 ⟨rfl, hb2⟩
      have g0 : w2.cell? ⟨b, o + i * 2, none⟩ = some u0 := cell_later hb2 c0
      have g1 : w2.cell? ⟨b, o + i * 2 + 1, none⟩ = some s := cell_later hb2 c1
      have f2 : w2.frozen? ⟨b, o + i * 2, none⟩ = false := (hb2.frozen (p := ⟨b, o + i * 2, none⟩) hbl).trans f0
      have g3 : (w2.setCell ⟨b, o + i * 2, none⟩ (.string (markText q))).cell? ⟨b, o + i * 2 + 1, none⟩ = some s := setCell_other g1 (by omega)
      have g4 : (w2.setCell ⟨b, o + i * 2, none⟩ (.string (markText q))).cell? ⟨b, o + i * 2, none⟩ = some (.string (markText q)) := World.cell?_setCell_same' _ _ _ (by rw [g0]; rfl)
      have hk2 : KeptBut bs wr (w2.setCell ⟨b, o + i * 2, none⟩ (.string (markText q))) := (KeptBut.of_below hb2).setCell hb _
      have hN2 := (HN.out.below hb2).set ⟨b, o + i * 2, none⟩ (.string (markText q))
      have ht2 : termsK (w2.setCell ⟨b, o + i * 2, none⟩ (.string (markText q))) [s] a.args bk := termsK_good.keep (termsK_good.below ht hb2) fun c hc => Below.heap_setCell _ _ _ _ fun e => hbk (by rw [← (show c = b from e)]; exact hc)
      have hmt := markTermS_any a.args s bk (q + 1) B _ ht2 (hN2.sub hnd hsub) hq9
      have hrest : ∀ p v, wr.cell? ⟨b, o + p, none⟩ = some v → (p < i * 2 ∨ i * 2 + 2 ≤ p) → (w2.setCell ⟨b, o + i * 2, none⟩ (.string (markText q))).cell? ⟨b, o + p, none⟩ = some v := fun p v hv hp => setCell_other (cell_later hb2 hv) (by omega)
      have hblk : ∀ c ∈ bs, c ≠ b → (w2.setCell ⟨b, o + i * 2, none⟩ (.string (markText q))).heap[c]? = wr.heap[c]? := fun c hc hne => by rw [Below.heap_setCell _ _ _ _ hne, hb2.block c (HN.out.lt hc)]
      have HR := Lib.hid hrest
      have HB := Lib.hid hblk
      obtain ⟨Ae, ce, rfl, _⟩ := sliceK_form ht
      clear hrest hblk ht ht2 c0 c1 f0
      go_wp2_with fail
      generalize hw3 : w2.setCell ⟨b, o + i * 2, none⟩ (.string (markText q)) = w3 at *
      clear hw3
      refine hmt.mono ?_
      rintro e w4 ⟨rfl, hR4, hN4, hK4⟩
      have R := HP.out w4 [.string (markText q), .slice Ae a.args.length ce] (mkA a q) rfl
        (fun j v hv => by
          match j, hv with
          | 0, hv =>
            simp only [List.getElem?_cons_zero, Option.some.injEq] at hv
            subst hv
            rw [Nat.add_zero]
            exact hK4.cell hbk g4
          | 1, hv =>
            simp only [List.getElem?_cons_succ, List.getElem?_cons_zero, Option.some.injEq] at hv
            subst hv
            rw [← Nat.add_assoc]
            exact hK4.cell hbk g3
          | j + 2, hv => simp at hv)
        (fun p v hv hp => hK4.cell hbk (HR.out p v hv hp))
        (fun c hc hne hnb => by rw [hK4.block c (hN2.lt hc) hnb, HB.out c hc hne])
        ⟨_, rfl, markText_size (k := q) (by omega), hR4⟩
      rw [HY.out, HS.out] at R
      have hN5 : New B w4 bs := hN2.mix hN4 hK4
      have hK5 : KeptBut bs w w4 := hK.trans (hk2.trans (hK4.mono hsub))
      clear HP HN HR HB hmt g0 g1 f2 g3 g4 hK4 hN4 hN2 hk2 hR4 HY HS
      go_wp2_with fail
      go_roundw
      case rel => exact ⟨i + 1, _, HLT.out, by go_num, by have := HQ.out; have := HSN.out; have := HC.out; go_num, rfl, R, hN5, hK5⟩
      case measure => have := HLT.out; simp [intOf]; omega
    · have he : i = ts.length := by omega
      subst he
      have HY : Hid (ys = markAs ts k) := Lib.hid (by rw [hy, markTo_all]; rfl)
      have HT : Hid (ts.take ts.length = ts) := Lib.hid (List.take_of_length_le (Nat.le_refl _))
      clear hy
      go_wp2
      go_ret
      exact ⟨by rw [HT.out]; rfl, by rw [← HY.out]; exact hT, hNr, hK⟩

set_option maxHeartbeats 1000000 in
theorem heldAtomS_any (ts : List A) (v : Value) (bs : List Nat) (k : Nat) (w : World) (h : atomsK w [v] (markAs ts k) bs) (hk : k + sumL cntA ts ≤ 1000000000000) :
    Calls Tryz.prog 20 #[v, .int .i64 k] w (Held (k + sumL cntA ts) w) := by
  obtain ⟨Ad, cap, rfl, hl, hm⟩ := sliceK_form h
  have hzl := markAs_length ts k
  rw [hzl] at h hl ⊢
  have hlen : ts.length ≤ 1000000000000 := Nat.le_trans (len_cnt cntA cntA_pos ts) (by omega)
  clear hm hl
  go_enter Tryz.func20, Tryz.ntmps20
  go_wp2
  go_loopw [1, 5] (fun q j wr => ∃ i : Nat, i ≤ ts.length ∧ j = .int .i64 i ∧ q = .int .i64 (k + sumL cntA (ts.take i) : Nat) ∧ Below w.heap.size w wr) (fun _ j _ => ts.length - (intOf j).toNat)
  case atStart => exact ⟨0, Nat.zero_le _, rfl, rfl, Below.refl _ _⟩
  case round =>
    obtain ⟨i, hi, rfl, rfl, hb⟩ := hrel
    by_cases hlt : i < ts.length
    · have HLT := Lib.hid hlt
      obtain ⟨b, o, Ae, ce, bk, rfl, _, c0, c1, hel, _⟩ := atoms_el (atomsK_good.below h hb) (k := i) (by rw [hzl]; exact hlt)
      rw [markAs_at hlt] at c0 c1 hel
      have hsn := sumL_snoc cntA ts i hlt
      have hle2 := sumL_le_of_lt cntA ts i hlt
      clear h hzl
      have hlt' : (i : Int) < (ts.length : Int) := by omega
      have hk0 : (0 : Int) ≤ (i : Int) := by omega
      generalize ts[i] = a at *
      obtain ⟨q, hq⟩ : ∃ q, q = k + sumL cntA (ts.take i) := ⟨_, rfl⟩
      rw [← hq] at c0 c1 hel ⊢
      have hca : cntA a = 1 + 2 * a.args.length := rfl
      have hq1 : q + 1 + 2 * a.args.length ≤ 1000000000000 := by omega
      have d0 : (0 : Int) ≤ (q : Int) + 1 := by omega
      have d1 : (0 : Int) ≤ (q : Int) + 1 + 2 * (a.args.length : Int) := by omega
      have HQ := Lib.hid hq
      have HSN := Lib.hid hsn
      have HC := Lib.hid hca
      have ht := atom_args hel
      dsimp only [mkA] at c0 c1 ht
      rw [markTs_length] at c1 ht
      clear hq hsn hle2 hca hel
      have hD : Below wr.heap.size wr wr.drew := Below.drew (Below.refl _ _)
      go_wp2
      go_region_held3 (fun w' => w'.cell? ⟨b, o + i * 2, none⟩ = some (.string (markText q))) (first | go_keep | exact cell_later hw2 c0)
        (first | (go_at_call 46; refine (markText_any q _ (by omega)).mono ?_; rintro e w2 ⟨rfl, hw2⟩))
      have hB2 := hD.trans hw2
      have B2 := hb.trans (hB2.mono hb.size)
      have e1 := cell_later hB2 c1
      have hh := heldTermS_any a.args _ bk (q + 1) w2 (termsK_good.below ht hB2) hq1
      clear ht c0 c1
      go_wp2_with fail
      refine hh.mono ?_
      rintro e w4 ⟨rfl, hb4⟩
      clear hh
      have B4 := B2.trans (hb4.mono B2.size)
      go_wp2_with fail
      go_roundw
      case rel => exact ⟨i + 1, HLT.out, by go_num, by have := HQ.out; have := HSN.out; have := HC.out; go_num, B4⟩
      case measure => have := HLT.out; simp [intOf]; omega
    · have he : i = ts.length := by omega
      subst he
      have HT : Hid (ts.take ts.length = ts) := Lib.hid (List.take_of_length_le (Nat.le_refl _))
      go_wp2
      go_ret
      exact ⟨by rw [HT.out]; rfl, hb⟩

end Go.Proofs.YtjjfafgaphloaaaGreatDoor
