/- Of the proof of FnOnce: AtomsS, Facts2, Draw2. -/
import Derived.Test.YtjjfafgaphloaaaGreatDoorM07
import Derived.Test.YtjjfafgaphloaaaGreatDoorM08
import Derived.Test.YtjjfafgaphloaaaGreatDoorM12
namespace Go.Proofs.YtjjfafgaphloaaaGreatDoor
open Go.RowKit D
set_option linter.unusedVariables false
attribute [local go_sem ↓] Go.wp_at_zero Go.wp_at_succ
theorem infoAtomG : (Tryz.prog.info? 33).map (fun i => (i.zero, i.size, i.bytes)) = some (some (.agg #[.string ⟨#[]⟩, .slice none 0 0]), 2, 40) := by kernel_rfl

/-- The atoms met so far: they share memory with the rules. -/
structure D.AsInv (w : World) (v : Value) (L : List Value) (xs : List A) (wr : World) : Prop where
  coll : ∃ bs, Coll 2 atomK w.heap.size 33 wr v L xs bs
  bel : Below w.heap.size w wr

theorem D.AsInv.below {w wr w' : World} {v : Value} {L : List Value} {xs : List A} (h : AsInv w v L xs wr) (hb : Below wr.heap.size wr w') : AsInv w v L xs w' :=
  ⟨by obtain ⟨bs, hc⟩ := h.coll; exact ⟨bs, hc.below atomK_good hb⟩, h.bel.trans (hb.mono h.bel.size)⟩

set_option maxRecDepth 100000 in
set_option maxHeartbeats 2000000 in
theorem l2Atoms_any (rs : List Ru) (v : Value) (bs : List Nat) (w : World) (h : rulesK w [v] rs bs) (hn : (allAtoms rs).length ≤ 1000000) :
    Calls Tryz.prog 85 #[v] w fun e w' => Below w.heap.size w w' ∧ ∃ v' b2, e = .returned v' ∧ atomsK w' [v'] (allAtoms rs) b2 := by
  obtain ⟨Ad, cap, rfl, hl, hm⟩ := sliceK_form h
  have hlm := nat_ge_max (Nat.le_trans hl hm)
  obtain ⟨i0, hi, hz0, hz1, hz2⟩ := info_parts infoAtomG
  have HN : Hid (∀ k, (allAtoms (rs.take k)).length ≤ 1000000) := Lib.hid fun k => by
    have h1 : allAtoms rs = allAtoms (rs.take k) ++ allAtoms (rs.drop k) := by unfold allAtoms; rw [← List.flatMap_append, List.take_append_drop]
    rw [h1, List.length_append] at hn; omega
  have HV0 : Hid (AsInv w (.slice (some ⟨w.heap.size, 0, none⟩) 0 0) [] [] (w.alloc (.cells #[] 33))) := Lib.hid ⟨⟨[], Coll.empty (heap_alloc_new _ _) (Nat.le_refl _)⟩, (Below.refl _ _).alloc (Nat.le_refl _) _⟩
  clear hl hm hn
  go_enter Tryz.func85, Tryz.ntmps85
  go_wp2
  generalize w.alloc (.cells #[] 33) = w0 at *
  go_loopw [3, 4] (fun v i wr => ∃ (k : Nat) (Av : Option Addr) (cp : Nat) (L : List Value) (xs : List A), k ≤ rs.length ∧ i = .int .i64 k ∧ v = .slice Av xs.length cp ∧ xs = allAtoms (rs.take k) ∧ AsInv w (.slice Av xs.length cp) L xs wr) (fun _ i _ => rs.length - (intOf i).toNat)
  case atStart => exact ⟨0, _, 0, [], [], Nat.zero_le _, rfl, rfl, rfl, HV0.out⟩
  case round =>
    obtain ⟨k, Av, cp, L, xs, hk, rfl, rfl, hxs, hV⟩ := hrel
    clear HV0
    have HX := Lib.hid hxs
    have HLX : Hid (xs.length ≤ 1000000) := Lib.hid (by rw [hxs]; exact HN.out k)
    clear hxs
    by_cases hlt : k < rs.length
    · obtain ⟨b, o, Ae, ce, Af, cf, bk, rfl, _, d0, d1, d2, hel, _⟩ := rules_el h hlt
      have e2 := cell_later hV.bel d2
      replace d0 := cell_later hV.bel d0
      replace d1 := cell_later hV.bel d1
      have D2 := Lib.hid d2
      have hk0 : (0 : Int) ≤ (k : Int) := by omega
      have hk1 : (k : Int) < (rs.length : Int) := by omega
      have HLN : Hid ((allAtoms (rs.take k) ++ [rs[k].head] ++ partAtoms rs[k].body).length ≤ 1000000) := Lib.hid (by rw [← allAtoms_snoc rs k hlt]; exact HN.out (k + 1))
      obtain ⟨b1, b2, _, hhd, hbd⟩ := rule_parts hel
      have HBO := Lib.hid hbd
      have hbl : (rs[k].body.length : Int) ≤ 1000000 := by have := HLN.out; rw [List.length_append, partAtoms_len] at this; omega
      have hA : Below wr.heap.size wr (wr.alloc (.cells #[.string rs[k].head.name, .slice Ae rs[k].head.args.length ce] 33)) := (Below.refl _ _).alloc (Nat.le_refl _) _
      obtain ⟨bs0, hC0⟩ := (hV.below hA).coll
      have HC := Lib.hid hC0
      have HB := Lib.hid (hV.below hA).bel
      have HR : Hid (Rowed 2 atomK (wr.alloc (.cells #[.string rs[k].head.name, .slice Ae rs[k].head.args.length ce] 33)) [.string rs[k].head.name, .slice Ae rs[k].head.args.length ce] [rs[k].head] b1) := Lib.hid (Rowed.one_el atomK_ones (atomK_good.below (atomK_good.below hhd hV.bel) hA))
      have HL : Hid (Lies (wr.alloc (.cells #[.string rs[k].head.name, .slice Ae rs[k].head.args.length ce] 33)) (some ⟨wr.heap.size, 0, none⟩) [.string rs[k].head.name, .slice Ae rs[k].head.args.length ce]) := Lib.hid (lies_block (heap_alloc_new wr (.cells #[.string rs[k].head.name, .slice Ae rs[k].head.args.length ce] 33)))
      have HF : Hid (∀ c ∈ b1, (Value.slice Av xs.length cp).ownBlock ≠ some c) := Lib.hid fun c hc => own_block_ge hC0.own (atomK_good.lt hhd c hc)
      have HLT := Lib.hid hlt
      have HSN := Lib.hid (allAtoms_snoc rs k hlt)
      clear h hel hhd hbd hV hA hC0 d2
      generalize rs[k] = r at *
      clear hlt
      obtain ⟨⟨nm, args⟩, body⟩ := r
      dsimp only at *
      go_wp2_with (at_builtin; refine wpList_coll rfl _ _ _ rfl w.heap.size 33 i0 (.agg #[.string ⟨#[]⟩, .slice none 0 0]) 2 40 Tryz.underlying24 hi hz0 hz1 hz2 rfl (by omega) atomK_good (.slice Av xs.length cp) xs.length _ _ _ rfl HC.out rfl (some ⟨wr.heap.size, 0, none⟩) 1 1 _ [⟨nm, args⟩] _ rfl HR.out rfl HL.out HF.out (by have := HLX.out; unfold maxLen; omega) (by have := HLX.out; omega) w w.heap.size HB.out (Nat.le_refl _) HB.out.size ?_; intro A2 cp2 w2 hC3 hB3 hS3 _)
      have HV1 : Hid (AsInv w (.slice A2 (xs ++ [(⟨nm, args⟩ : A)]).length cp2) (L ++ [.string nm, .slice Ae args.length ce]) (xs ++ [(⟨nm, args⟩ : A)]) w2) := Lib.hid ⟨⟨_, by rw [List.length_append]; exact hC3⟩, hB3⟩
      have HX1 : Hid (xs ++ [(⟨nm, args⟩ : A)] = allAtoms (rs.take k) ++ [(⟨nm, args⟩ : A)]) := Lib.hid (by rw [HX.out])
      have hlx : xs.length + 1 = (xs ++ [(⟨nm, args⟩ : A)]).length := by simp
      rw [hlx]
      clear hC3 hB3 hS3 HC HB HR HL HF d0 d1 HX hlx e2
      generalize xs ++ [(⟨nm, args⟩ : A)] = ys at *
      generalize L ++ [.string nm, .slice Ae args.length ce] = M at *
      clear HLX
      go_wp2
      go_loopw [3, 5] (fun v i wr => ∃ (j : Nat) (Av : Option Addr) (cp : Nat) (M : List Value) (zs : List A), j ≤ body.length ∧ i = .int .i64 j ∧ v = .slice Av zs.length cp ∧ zs = ys ++ partAtoms (body.take j) ∧ AsInv w (.slice Av zs.length cp) M zs wr) (fun _ i _ => body.length - (intOf i).toNat)
      case atStart => exact ⟨0, _, _, _, ys, Nat.zero_le _, rfl, rfl, by simp [partAtoms], HV1.out⟩
      case round =>
        obtain ⟨j, Aw, cq, M2, zs, hj, rfl, rfl, hzs, hV⟩ := hrel
        clear HV1
        have HZ := Lib.hid hzs
        have HLZ : Hid (zs.length + 1 ≤ 1000001) := Lib.hid (by
          have h1 := HLN.out
          rw [← HX1.out, List.length_append, partAtoms_len] at h1
          rw [hzs, List.length_append, partAtoms_len, List.length_take]; omega)
        clear hzs
        have e2 := cell_later hV.bel D2.out
        by_cases hlt : j < body.length
        · obtain ⟨b4, o4, Ag, cg, bg, rfl, _, f0, f1, f2, hel, _⟩ := parts_el HBO.out hlt
          replace f0 := cell_later hV.bel f0
          replace f1 := cell_later hV.bel f1
          replace f2 := cell_later hV.bel f2
          have hj0 : (0 : Int) ≤ (j : Int) := by omega
          have hj1 : (j : Int) < (body.length : Int) := by omega
          have hhd := part_atom hel
          have hA : Below wr.heap.size wr (wr.alloc (.cells #[.string body[j].atom.name, .slice Ag body[j].atom.args.length cg] 33)) := (Below.refl _ _).alloc (Nat.le_refl _) _
          obtain ⟨bs0, hC0⟩ := (hV.below hA).coll
          have HC := Lib.hid hC0
          have HB := Lib.hid (hV.below hA).bel
          have HR : Hid (Rowed 2 atomK (wr.alloc (.cells #[.string body[j].atom.name, .slice Ag body[j].atom.args.length cg] 33)) [.string body[j].atom.name, .slice Ag body[j].atom.args.length cg] [body[j].atom] bg) := Lib.hid (Rowed.one_el atomK_ones (atomK_good.below (atomK_good.below hhd hV.bel) hA))
          have HL : Hid (Lies (wr.alloc (.cells #[.string body[j].atom.name, .slice Ag body[j].atom.args.length cg] 33)) (some ⟨wr.heap.size, 0, none⟩) [.string body[j].atom.name, .slice Ag body[j].atom.args.length cg]) := Lib.hid (lies_block (heap_alloc_new wr (.cells #[.string body[j].atom.name, .slice Ag body[j].atom.args.length cg] 33)))
          have HF : Hid (∀ c ∈ bg, (Value.slice Aw zs.length cq).ownBlock ≠ some c) := Lib.hid fun c hc => own_block_ge hC0.own (atomK_good.lt hhd c hc)
          have HLJ := Lib.hid hlt
          have HSP := Lib.hid (partAtoms_snoc body j hlt)
          clear hel hhd hV hA hC0
          generalize body[j] = p at *
          clear hlt
          obtain ⟨no, ⟨pn, pargs⟩⟩ := p
          dsimp only at *
          go_wp2_with (at_builtin; refine wpList_coll rfl _ _ _ rfl w.heap.size 33 i0 (.agg #[.string ⟨#[]⟩, .slice none 0 0]) 2 40 Tryz.underlying24 hi hz0 hz1 hz2 rfl (by omega) atomK_good (.slice Aw zs.length cq) zs.length _ _ _ rfl HC.out rfl (some ⟨wr.heap.size, 0, none⟩) 1 1 _ [⟨pn, pargs⟩] _ rfl HR.out rfl HL.out HF.out (by have := HLZ.out; unfold maxLen; omega) (by have := HLZ.out; omega) w w.heap.size HB.out (Nat.le_refl _) HB.out.size ?_; intro A2 cp2 w2 hC3 hB3 hS3 _)
          have HV2 : Hid (AsInv w (.slice A2 (zs ++ [(⟨pn, pargs⟩ : A)]).length cp2) (M2 ++ [.string pn, .slice Ag pargs.length cg]) (zs ++ [(⟨pn, pargs⟩ : A)]) w2) := Lib.hid ⟨⟨_, by rw [List.length_append]; exact hC3⟩, hB3⟩
          clear hC3 hB3 hS3 HC HB HR HL HF f0 f1 f2 e2
          go_wp2
          go_roundw
          case rel => exact ⟨j + 1, A2, cp2, _, zs ++ [(⟨pn, pargs⟩ : A)], HLJ.out, by go_num, by simp, by rw [HSP.out, HZ.out, List.append_assoc], HV2.out⟩
          case measure => have := HLJ.out; simp [intOf]; omega
        · have he : j = body.length := by omega
          have hj1 : ¬ (j : Int) < (body.length : Int) := by omega
          have HE : Hid (zs = allAtoms (rs.take (k + 1))) := Lib.hid (by rw [HSN.out, HZ.out, HX1.out, he, List.take_of_length_le (Nat.le_refl _)])
          have HV := Lib.hid hV
          clear hV he
          go_wp2
          go_roundw
          case rel => exact ⟨k + 1, Aw, cq, M2, zs, HLT.out, by go_num, rfl, HE.out, HV.out⟩
          case measure => have := HLT.out; simp [intOf]; omega
    · have he : k = rs.length := by omega
      have hk1 : ¬ (k : Int) < (rs.length : Int) := by omega
      obtain ⟨bs0, hC0⟩ := hV.coll
      obtain ⟨b2, hs2, _⟩ := hC0.slice
      have hx : xs = allAtoms rs := by rw [HX.out, he, List.take_of_length_le (Nat.le_refl _)]
      have HZ : Hid (Below w.heap.size w wr ∧ ∃ b2, atomsK wr [.slice Av xs.length cp] (allAtoms rs) b2) := Lib.hid ⟨hV.bel, b2, by rw [← hx]; exact hs2⟩
      clear h hV he hx hs2 hC0 HX
      go_wp2
      go_ret
      obtain ⟨q1, q2, q3⟩ := HZ.out
      exact ⟨q1, _, rfl, q2, q3⟩

set_option maxHeartbeats 400000 in
theorem sortedFacts_any (Ad : Option Addr) (n cap : Nat) (w : World) :
    Calls Tryz.prog 77 #[.slice Ad n cap] w fun e w' => e = .returned (.agg #[.slice Ad n cap, .func (.func 29) #[] #[]]) ∧ Below w.heap.size w w' := by
  go_enter Tryz.func77, Tryz.ntmps77
  go_wp2
  exact bodyPost_ret (v := .agg #[.slice Ad n cap, .func (.func 29) #[] #[]]) (by simp [results, Tryz.results77, go_sem]) rfl ⟨rfl, by repeat (first | exact Below.refl _ _ | (refine Below.setCell ?_ (by first | (simp; done) | (simp; omega)) _) | (refine Below.alloc ?_ (by first | (simp; done) | (simp; omega)) _))⟩

set_option maxHeartbeats 1000000 in
theorem ascends_any (xs : List A) (v : Value) (bs : List Nat) (w : World) (h : atomsK w [v] xs bs) :
    Calls Tryz.prog 78 #[.agg #[v, .func (.func 29) #[] #[]]] w fun e w' => e = .returned (.bool (asc xs)) ∧ Below w.heap.size w w' := by
  obtain ⟨Ad, cap, rfl, hl, hm⟩ := sliceK_form h
  have hlm := nat_ge_max (Nat.le_trans hl hm)
  clear hm
  have hA0 : Below w.heap.size w (w.alloc (.cells #[.slice Ad xs.length cap, .func (.func 29) #[] #[]] 142)) := (Below.refl _ _).alloc (Nat.le_refl _) _
  go_enter Tryz.func78, Tryz.ntmps78
  go_wp2
  go_loopw [3] (fun i wr => ∃ k : Nat, 0 < k ∧ (k ≤ xs.length ∨ k = 1) ∧ i = .int .i64 k ∧ ascTo xs k ∧ Below w.heap.size w wr ∧ wr.cell? ⟨w.heap.size, 0, none⟩ = some (.slice Ad xs.length cap) ∧ wr.cell? ⟨w.heap.size, 1, none⟩ = some (.func (.func 29) #[] #[]) ∧ w.heap.size < wr.heap.size) (fun i _ => xs.length + 1 - (intOf i).toNat)
  case atStart => exact ⟨1, Nat.one_pos, .inr rfl, rfl, ascTo_one _, hA0, by go_simp, by go_simp, by simp⟩
  case round =>
    obtain ⟨k, hp0, hk, rfl, hall, hb, s0, s1, hgt⟩ := hrel
    have HA := Lib.hid hall
    have HK := Lib.hid hk
    clear hall hA0 hk
    by_cases hlt : k < xs.length
    · have hk0 : (0 : Int) ≤ (k : Int) := by omega
      have hk1 : (k : Int) < (xs.length : Int) := by omega
      obtain ⟨j, hkj⟩ : ∃ j, k = j + 1 := ⟨k - 1, by omega⟩
      have hlj : j < xs.length := by omega
      have HS : Hid (cmpA xs[j] xs[k] < 0 → ascTo xs (k + 1)) := by subst hkj; exact Lib.hid (fun hc => ascTo_step (xs := xs) (k := j) HA.out hlt hc)
      have HB : Hid (¬ cmpA xs[j] xs[k] < 0 → asc xs = false) := by subst hkj; exact Lib.hid (fun hc => asc_bad xs j hlt hc)
      have hw1 : IntKind.i64.wrap ((k : Int) - 1) = (j : Int) := (IntWalk.i64_in _ ⟨by omega, by omega⟩).trans (by omega)
      have hK := Lib.hid hkj
      have hx1 : (0 : Int) ≤ (j : Int) := by omega
      have hx2 : (j : Int) < (xs.length : Int) := by omega
      clear HA hkj
      obtain ⟨b, o, Ae, ce, bk, Af, cf, bm, rfl, c0, c1, hel, d0, d1, hem⟩ := atoms_two (atomsK_good.below h hb) hlj hlt
      have hD : Below wr.heap.size wr wr.drew := Below.drew (Below.refl _ _)
      have hcm := atomOrder_any xs[j] xs[k] _ _ _ _ bk bm wr.drew (atomK_good.below hel hD) (atomK_good.below hem hD)
      clear h hel hem
      by_cases hc : cmpA xs[j] xs[k] < 0
      · have hc' : ¬ 0 ≤ cmpA xs[j] xs[k] := by omega
        have HC := Lib.hid (HS.out hc)
        clear hc
        go_wp2
        go_region_held3 (fun w' => w'.cell? ⟨b, o + j * 2, none⟩ = some (.string xs[j].name) ∧ w'.cell? ⟨b, o + j * 2 + 1, none⟩ = some (.slice Ae xs[j].args.length ce) ∧ w'.cell? ⟨b, o + k * 2, none⟩ = some (.string xs[k].name) ∧ w'.cell? ⟨b, o + k * 2 + 1, none⟩ = some (.slice Af xs[k].args.length cf) ∧ w'.cell? ⟨w.heap.size, 0, none⟩ = some (.slice (some ⟨b, o, none⟩) xs.length cap) ∧ w'.cell? ⟨w.heap.size, 1, none⟩ = some (.func (.func 29) #[] #[]))
          (first | go_keep | exact ⟨y0, y1, y2, y3, y4, y5⟩)
          (first
            | (go_at_call 29; refine hcm.mono ?_; rintro e w2 ⟨rfl, hb2⟩; have y0 := cell_later hb2 c0; have y1 := cell_later hb2 c1; have y2 := cell_later hb2 d0; have y3 := cell_later hb2 d1; have y4 := cell_later hb2 s0; have y5 := cell_later hb2 s1; have B2 := hD.trans hb2))
        go_wp2
        go_roundw
        case rel => exact ⟨k + 1, Nat.succ_pos _, .inl (by omega), by go_num, HC.out, hb.trans (B2.mono hb.size), y4, y5, Nat.lt_of_lt_of_le hgt B2.size⟩
        case measure => simp [intOf]; omega
      · have hc' : 0 ≤ cmpA xs[j] xs[k] := by omega
        have HC := Lib.hid (HB.out hc)
        clear hc
        go_wp2
        go_region_held3 (fun w' => w'.cell? ⟨b, o + j * 2, none⟩ = some (.string xs[j].name) ∧ w'.cell? ⟨b, o + j * 2 + 1, none⟩ = some (.slice Ae xs[j].args.length ce) ∧ w'.cell? ⟨b, o + k * 2, none⟩ = some (.string xs[k].name) ∧ w'.cell? ⟨b, o + k * 2 + 1, none⟩ = some (.slice Af xs[k].args.length cf) ∧ w'.cell? ⟨w.heap.size, 0, none⟩ = some (.slice (some ⟨b, o, none⟩) xs.length cap) ∧ w'.cell? ⟨w.heap.size, 1, none⟩ = some (.func (.func 29) #[] #[]))
          (first | go_keep | exact ⟨y0, y1, y2, y3, y4, y5⟩)
          (first
            | (go_at_call 29; refine hcm.mono ?_; rintro e w2 ⟨rfl, hb2⟩; have y0 := cell_later hb2 c0; have y1 := cell_later hb2 c1; have y2 := cell_later hb2 d0; have y3 := cell_later hb2 d1; have y4 := cell_later hb2 s0; have y5 := cell_later hb2 s1; have B2 := hD.trans hb2))
        go_wp2
        go_ret
        exact ⟨ret_bool HC.out.symm, hb.trans (B2.mono hb.size)⟩
    · have HE : Hid (asc xs = true) := Lib.hid (asc_end fun j hj hjk => HA.out j hj (by have := HK.out; omega))
      go_wp2
      go_ret
      exact ⟨ret_bool HE.out.symm, hb⟩

theorem of_blk (g p : Nat) (ws : List ByteArray) (n b : Nat) (w : World) (h : Rdr g p w) (hb : w.heap[b]? = some (.cells (ws.map Value.string).toArray 9 (0, 0))) (hne : g ≠ b) (hp : p ≤ 1000000) (hn : ws.length = n) (h1 : 1 ≤ n) (h2 : n ≤ 100) (hs : ∀ s ∈ ws, Sm s) :
    Calls Tryz.prog 94 #[.pointer (some ⟨g, 0, none⟩), .slice (some ⟨b, 0, none⟩) n n] w (Word g p w) := by
  subst hn
  refine (of_any g p _ ws _ _ h (strs_of_block (cap := ws.length) hb (Nat.le_refl _) (by unfold maxLen; omega) (fun s hm => Sm.max (hs s hm))) hp h1 (by omega) (by split <;> simp <;> omega)).mono ?_
  rintro e w' ⟨s, rfl, hm, hR, hG⟩
  exact ⟨s, rfl, hs s hm, hR, KeptBut.of_grown hG⟩

theorem atomD_store {k g p' p0 q n0 B : Nat} {w wr : World} {nm : ByteArray} {v : Value} {L : List Value} {xs : List T} {x y : Value} (hr0 : wr.heap[n0]? = some (.cells #[x, y] 33 (0, 0))) (h0 : w.heap.size ≤ n0) (hC : Coll 2 termK B 127 wr v L xs []) (hB : w.heap.size ≤ B)
    (hR : Rdr g p' wr) (hK : KeptBut [g] w wr) (hg : g < w.heap.size) (hn : Sm nm) (hx : xs.length ≤ k) (hp : p' ≤ p0 + q) : AtomD k g p0 q w (.returned (.agg #[.string nm, v])) ((wr.setCell ⟨n0, 0, none⟩ (.string nm)).setCell ⟨n0, 1, none⟩ v) := by
  have hBl : Below w.heap.size wr ((wr.setCell ⟨n0, 0, none⟩ (.string nm)).setCell ⟨n0, 1, none⟩ v) := ((Below.refl _ _).setCell h0 _).setCell h0 _
  have b0 := blk_set0 (u := .string nm) hr0
  have c1 := (hC.mono hB).setBox (o := 0) (u := .string nm) termK_good (own_ne_blk hC.own hr0 (by decide)) (by simp)
  exact ⟨⟨nm, xs⟩, v, L, p', rfl, hn, hx, c1.setBox termK_good (own_ne_blk c1.own b0 (by decide)) (by simp), hR.belowN hBl hg, hp, hK.belowN hBl (Nat.le_refl _)⟩

theorem D.KeptBut.blk {bs : List Nat} {w w' : World} {b : Nat} {cs : Array Value} {t : TypeId} (h : KeptBut bs w w') (hb : w.heap[b]? = some (.cells cs t (0, 0))) (hn : b ∉ bs) : w'.heap[b]? = some (.cells cs t (0, 0)) := (h.block b (lt_of_block hb) hn).trans hb

theorem blk_if {g b : Nat} {W X w4 : World} {cs : Array Value} {t : TypeId} (hG : W.grownBy w4 (some g)) (hb : X.heap[b]? = some (.cells cs t (0, 0))) (hne : g ≠ b) : W = X.drew → w4.heap[b]? = some (.cells cs t (0, 0)) := by
  rintro rfl
  exact (KeptBut.of_grown hG).blk hb (by simp; omega)

def lenAt (w : World) (b : Nat) : Nat := match w.cell? ⟨b, 1, none⟩ with
  | some (.slice _ l _) => l
  | _ => 0

theorem lenAt_of {w : World} {b l c : Nat} {A : Option Addr} (h : w.cell? ⟨b, 1, none⟩ = some (.slice A l c)) : lenAt w b = l := by unfold lenAt; rw [h]

theorem AInv.has0 {g p : Nat} {w : World} {n0 n1 : Nat} {nm : ByteArray} {v : Value} {L : List Value} {xs : List T} {wr : World} (h : AInv g p w n0 n1 nm v L xs wr) : ∃ x y, wr.cell? ⟨n0, 0, none⟩ = some x ∧ wr.cell? ⟨n0, 1, none⟩ = some y := by
  obtain ⟨x, y, hr⟩ := h.r0
  exact ⟨x, y, cell_of_blk hr, cell_of_blk hr⟩

theorem AInv.start {g p B : Nat} {w wr : World} {n0 : Nat} {nm : ByteArray} {v : Value} {L : List Value} {xs : List T} {x y : Value} (hr0 : wr.heap[n0]? = some (.cells #[x, y] 33 (0, 0))) (h0 : w.heap.size ≤ n0) (hC : Coll 2 termK B 127 wr v L xs []) (hB : w.heap.size ≤ B)
    (hR : Rdr g p wr) (hK : KeptBut [g] w wr) (hg : g < w.heap.size) (hsm : ∀ t ∈ xs, Sm t.name) : AInv g p w n0 wr.heap.size nm v L xs (wr.alloc (.cells #[.string nm, v] 33)) := by
  have hA : Below wr.heap.size wr (wr.alloc (.cells #[.string nm, v] 33)) := (Below.refl _ _).alloc (Nat.le_refl _) _
  have hl := lt_of_block hr0
  exact ⟨⟨x, y, (hA.block n0 hl).trans hr0⟩, heap_alloc_new wr _, h0, hK.size, by omega, (hC.mono hB).below termK_good hA, hR.below hA, hK.belowN hA hK.size, hg, hsm⟩

set_option maxRecDepth 100000 in
set_option maxHeartbeats 8000000 in
theorem l10AnyAtom_s (g p : Nat) (w : World) (h : Rdr g p w) (hp : p ≤ 800000) :
    Calls Tryz.prog 92 #[.pointer (some ⟨g, 0, none⟩)] w (AtomS 4 g p 20 w) := by
  obtain ⟨i0, hi, hz0, hz1, hz2⟩ := info_parts infoTermD
  have hA : Below w.heap.size w (w.alloc (.cells #[.string ⟨#[]⟩, .slice none 0 0] 33)) := (Below.refl _ _).alloc (Nat.le_refl _) _
  have ho := of_lit g p [⟨#[101]⟩, ⟨#[112]⟩, ⟨#[116]⟩, ⟨#[113]⟩, ⟨#[122]⟩, ⟨#[104]⟩] 6 (w.alloc (.cells #[.string ⟨#[]⟩, .slice none 0 0] 33)) (h.below hA) (by omega) rfl (by decide) (by decide) (by decide)
  rw [World.size_alloc] at ho
  have hg := h.lt
  have HZ := Lib.hid (heap_alloc_new w (.cells #[.string ⟨#[]⟩, .slice none 0 0] 33))
  have HPP := Lib.hid hp
  clear h hp
  go_enter Tryz.func92, Tryz.ntmps92
  go_wp2_with fail
  refine ho.mono ?_
  rintro e w1 ⟨s, rfl, hs, hR, hK⟩
  replace HZ := Lib.hid (hK.blk HZ.out (by simp; omega))
  have HK := Lib.hid ((KeptBut.of_below hA (bs := [g])).trans hK)
  have hca := l10Atom_s s true g (p + 1) w1 hR (by have := HPP.out; omega) hs
  clear ho hK hR hA
  go_wp2_with fail
  refine hca.mono ?_
  rintro e w2 ⟨a, v, L, p', rfl, hs2, hx, hC, hR2, hp2, hK2, hsm⟩
  replace HZ := Lib.hid (hK2.blk HZ.out (by simp; omega))
  have HI := Lib.hid (AInv.start (nm := a.name) HZ.out (Nat.le_refl _) hC HK.out.size hR2 (HK.out.trans hK2) hg hsm)
  have HP : Hid (p' ≤ p + 7 ∧ p ≤ 800000) := Lib.hid (by have := HPP.out; omega)
  have HN := Lib.hid hs2
  have HX := Lib.hid hx
  obtain ⟨Av, cv, rfl⟩ := own_shape hC.own
  have hpk := pick_any g p' 16 _ HI.out.rdr (by have := HP.out; omega) (by omega) (by omega)
  clear hca hC hR2 hK2 hs2 hx hp2 hs HK HZ hsm
  go_wp2_with fail
  refine hpk.mono ?_
  rintro e w3 ⟨j, rfl, hj, hR3, hG3⟩
  replace HI := Lib.hid (HI.out.call hR3 (KeptBut.of_grown hG3))
  have hn1 : w2.heap.size < w3.heap.size := lt_of_cell HI.out.cell0
  clear hpk hR3 hG3
  by_cases hj0 : j = 0
  · subst hj0
    have ho := of_lit g (p' + 1) [⟨#[]⟩, ⟨#[110, 111, 116]⟩, ⟨#[65]⟩, ⟨#[97, 98, 99, 100, 101, 102, 103, 104, 105]⟩] 4 w3 HI.out.rdr (by have := HP.out; omega) rfl (by decide) (by decide) (by decide)
    go_wp2_with fail
    refine ho.mono ?_
    rintro e w4 ⟨s4, rfl, hs4, hR4, hK4⟩
    replace HI := Lib.hid (HI.out.call hR4 hK4)
    have q0 := HI.out.cell0
    have q1 := HI.out.cell1
    have g0 := HI.out.froz 0
    have g1 := HI.out.froz 1
    replace HI := Lib.hid (HI.out.name s4)
    have q1' := HI.out.cell1
    have q0' := HI.out.cell0
    have f0 := HI.out.froz0 0
    have f1 := HI.out.froz0 1
    have z0 := HI.out.has0
    obtain ⟨zx, zy, z0, z1⟩ := z0
    have HD := Lib.hid (HI.out.done (k := 4) (q := 20) (p0 := p) hs4 (by have := HX.out; omega) (by have := HP.out; omega))
    clear ho hR4 hK4 hs4
    go_wp2
    refine bodyPost_ret (v := .agg #[.string s4, .slice Av a.args.length cv]) (by simp [results, Tryz.results92, go_sem, z0, z1]) rfl HD.out
  · have hji0 : ((j : Int) == 0) = false := beq_eq_false_iff_ne.2 (by omega)
    by_cases hj1 : j = 1
    · subst hj1
      have HI0 := HI
      have qw0 := HI0.out.cell0
      have qw1 := HI0.out.cell1
      replace HI := Lib.hid HI.out.drew
      have q0 := HI.out.cell0
      have q1 := HI.out.cell1
      have q2 := HI.out.froz 1
      have hxl : a.args.length ≤ 3 := HX.out
      have H63 : Hid (a.args.length + 1 ≤ maxLen) := Lib.hid (by unfold maxLen; omega)
      have HBY : Hid ((a.args.length + 1) * 24 ≤ 140737488355328) := Lib.hid (by omega)
      have HGW : Hid (g ≠ w3.heap.size) := Lib.hid (by have := HI0.out.kept.size; omega)
      have HQ0 := Lib.hid (heap_alloc_new w3 (.cells #[.string ⟨#[]⟩, .string ⟨#[120]⟩, .string ⟨#[88]⟩, .string ⟨#[88, 121, 49]⟩, .string ⟨#[88, 89]⟩, .string ⟨#[65, 98, 99, 100, 101, 102, 103, 104]⟩, .string ⟨#[65, 98, 99, 100, 101, 102, 103, 104, 105]⟩] 9))
      go_wp2
      go_region_law
        (first
          | (have _hh := HT; refine step_coll (by rfl) (.tmp 20) (.tmp 28) _ (by rfl) w.heap.size 127 i0 (.agg #[.bool false, .string ⟨#[]⟩]) 2 24 Tryz.underlying31 hi hz0 hz1 hz2 rfl (Nat.zero_lt_succ 1) termK_good (.slice Av a.args.length cv) a.args.length L a.args [] (by rfl) (HT.out _).1 rfl (some ⟨w5.heap.size, 0, none⟩) 1 1 _ [⟨_, s5⟩] _ (by rfl) (HT.out _).2.1 rfl (HT.out _).2.2.1 (fun b hb => by simp at hb) H63.out HBY.out w5 w.heap.size (HT.out _).2.2.2.1 (Nat.le_refl _) (HT.out _).2.2.2.2.1 ?_; intro A3 c3 w6 hC3 hB3 hS3 hG3; have HZ := Lib.hid (HI.out.app hC3 hB3 hG3 (HT.out false).2.2.2.2.2); replace q0 := HZ.out.1; replace q1 := HZ.out.2.1; replace q2 := HZ.out.2.2.1; clear hC3 hB3 hS3 hG3)
          | (go_simp; go_at_call 50; refine Calls.mono (pick_any g (p' + 1) 2 _ (by first | with_reducible exact HI.out.rdr | exact (HI0.out.alloc (.cells #[.string ⟨#[]⟩, .string ⟨#[120]⟩, .string ⟨#[88]⟩, .string ⟨#[88, 121, 49]⟩, .string ⟨#[88, 89]⟩, .string ⟨#[65, 98, 99, 100, 101, 102, 103, 104]⟩, .string ⟨#[65, 98, 99, 100, 101, 102, 103, 104, 105]⟩] 9)).drew.rdr) (by have := HP.out; omega) (by omega) (by omega)) ?_; rintro e w4 ⟨j2, rfl, hj2, hR4, hG4⟩; have HQ := Lib.hid (blk_if hG4 HQ0.out HGW.out); have HI2 := Lib.hid (AInv.call (p := p' + 1) (by first | with_reducible exact HI.out | exact (HI0.out.alloc (.cells #[.string ⟨#[]⟩, .string ⟨#[120]⟩, .string ⟨#[88]⟩, .string ⟨#[88, 121, 49]⟩, .string ⟨#[88, 89]⟩, .string ⟨#[65, 98, 99, 100, 101, 102, 103, 104]⟩, .string ⟨#[65, 98, 99, 100, 101, 102, 103, 104, 105]⟩] 9)).drew) hR4 (KeptBut.of_grown hG4)); clear HI; have HI := HI2; clear HI2; replace q0 := HI.out.cell0; replace q1 := HI.out.cell1; replace q2 := HI.out.froz 1; have hn4 : w2.heap.size < w4.heap.size := lt_of_cell q1; clear hR4 hG4)
          | (have HQ2 := HQ.out (by with_reducible rfl); go_simp; go_at_call 94; refine (of_blk g _ [⟨#[]⟩, ⟨#[120]⟩, ⟨#[88]⟩, ⟨#[88, 121, 49]⟩, ⟨#[88, 89]⟩, ⟨#[65, 98, 99, 100, 101, 102, 103, 104]⟩, ⟨#[65, 98, 99, 100, 101, 102, 103, 104, 105]⟩] 7 _ w4 HI.out.rdr HQ2 HGW.out (by have := HP.out; omega) rfl (by decide) (by decide) (by decide)).mono ?_; rintro e w5 ⟨s5, rfl, hs5, hR5, hK5⟩; (try clear HQ2); replace HI := Lib.hid (HI.out.call hR5 hK5); replace q0 := HI.out.cell0; replace q1 := HI.out.cell1; replace q2 := HI.out.froz 1; have hn5 : w2.heap.size < w5.heap.size := lt_of_cell q1; have HT := Lib.hid (fun b => HI.out.lit b s5 hs5); clear hR5 hK5 hs5)
          | (go_simp; go_at_call 94; refine (of_lit g _ [⟨#[]⟩, ⟨#[120]⟩, ⟨#[88]⟩, ⟨#[88, 121, 49]⟩, ⟨#[88, 89]⟩, ⟨#[65, 98, 99, 100, 101, 102, 103, 104]⟩, ⟨#[65, 98, 99, 100, 101, 102, 103, 104, 105]⟩] 7 w4 HI.out.rdr (by have := HP.out; omega) rfl (by decide) (by decide) (by decide)).mono ?_; rintro e w5 ⟨s5, rfl, hs5, hR5, hK5⟩; (try clear HQ2); replace HI := Lib.hid (HI.out.call hR5 hK5); replace q0 := HI.out.cell0; replace q1 := HI.out.cell1; replace q2 := HI.out.froz 1; have hn5 : w2.heap.size < w5.heap.size := lt_of_cell q1; have HT := Lib.hid (fun b => HI.out.lit b s5 hs5); clear hR5 hK5 hs5))
      all_goals
        have HI9 := Lib.hid HZ.out.2.2.2
        clear HI HT HZ q0 q1 q2
        have q0 := HI9.out.cell0
        have q1 := HI9.out.cell1
        have f0 := HI9.out.froz0 0
        have f1 := HI9.out.froz0 1
        have z0 := HI9.out.has0
        obtain ⟨zx, zy, z0, z1⟩ := z0
        have HD := Lib.hid (HI9.out.done (k := 4) (q := 20) (p0 := p) HN.out (by have := HX.out; simp; omega) (by have := HP.out; omega))
        go_wp2
        refine bodyPost_ret (v := .agg #[.string a.name, .slice A3 (a.args.length + 1) c3]) (by simp [results, Tryz.results92, go_sem, z0, z1]) rfl HD.out
    · have hji1 : ((j : Int) == 1) = false := beq_eq_false_iff_ne.2 (by omega)
      by_cases hj2 : j = 2
      · subst hj2
        have HL0 : Hid (∃ (xs : List T) (Av' : Option Addr) (cv' : Nat) (L' : List Value) (p2 : Nat), xs.length ≤ 4 ∧ p2 ≤ p + 8 + xs.length ∧ AInv g p2 w w.heap.size w2.heap.size a.name (.slice Av' xs.length cv') L' xs w3) := Lib.hid ⟨a.args, Av, cv, L, p' + 1, by have := HX.out; omega, by have := HP.out; omega, HI.out⟩
        clear HI hn1
        go_wp2
        go_loopw [] (fun wr => ∃ (xs : List T) (Av' : Option Addr) (cv' : Nat) (L' : List Value) (p2 : Nat), xs.length ≤ 4 ∧ p2 ≤ p + 8 + xs.length ∧ AInv g p2 w w.heap.size w2.heap.size a.name (.slice Av' xs.length cv') L' xs wr) (fun wr => 5 - lenAt wr w2.heap.size)
        case atStart => exact HL0.out
        case round =>
          obtain ⟨xs, Av', cv', L', p2, hx4, hp22, hI⟩ := hrel
          have HI := Lib.hid hI.drew
          have HI0 := Lib.hid hI
          have HXL : Hid (xs.length ≤ 4 ∧ p2 ≤ p + 8 + xs.length ∧ p ≤ 800000) := Lib.hid ⟨hx4, hp22, HP.out.2⟩
          have H63 : Hid (xs.length + 1 ≤ maxLen) := Lib.hid (by unfold maxLen; omega)
          have HBY : Hid ((xs.length + 1) * 24 ≤ 140737488355328) := Lib.hid (by omega)
          clear hI HL0 hx4 hp22
          have q1 := HI.out.cell1
          go_wp2
          go_region_held3 (fun w' => w'.cell? ⟨w2.heap.size, 1, none⟩ = some (.slice Av' xs.length cv')) (first | exact q1 | go_keep)
            (first
              | (go_at_call 50; refine (pick_any g _ 2 _ HI.out.rdr (by have := HXL.out; omega) (by omega) (by omega)).mono ?_; rintro e w4 ⟨j2, rfl, hj2, hR4, hG4⟩; have hw3 : IntKind.i64.wrap (3 + (j2 : Int)) = 3 + (j2 : Int) := (by simp only [IntKind.wrap, IntKind.bits, IntKind.signed]; simp; omega); replace HI := Lib.hid (HI.out.call hR4 (KeptBut.of_grown hG4)); replace q1 := HI.out.cell1; clear hR4 hG4))
          have q0 := HI.out.cell0
          have hn4 : w2.heap.size < w4.heap.size := lt_of_cell q1
          by_cases hlt : xs.length < 3 + j2
          · have hlt' : (xs.length : Int) < 3 + (j2 : Int) := by omega
            have HT := Lib.hid (HI.out.lit false ⟨#[97]⟩ (by decide))
            have HLT := Lib.hid hlt
            have HJ := Lib.hid hj2
            have g1 := HI.out.froz 1
            clear hlt
            go_wp2_with (at_builtin; refine wpList_coll rfl _ _ _ rfl w.heap.size 127 i0 (.agg #[.bool false, .string ⟨#[]⟩]) 2 24 Tryz.underlying31 hi hz0 hz1 hz2 rfl (Nat.zero_lt_succ 1) termK_good (.slice Av' xs.length cv') xs.length L' xs [] rfl HT.out.1 rfl (some ⟨w4.heap.size, 0, none⟩) 1 1 _ [⟨false, ⟨#[97]⟩⟩] _ rfl HT.out.2.1 rfl HT.out.2.2.1 (fun b hb => by simp at hb) H63.out HBY.out w4 w.heap.size HT.out.2.2.2.1 (Nat.le_refl _) HT.out.2.2.2.2.1 ?_; intro A3 c3 w6 hC3 hB3 hS3 hG3; have HZ := Lib.hid (HI.out.app hC3 hB3 hG3 HT.out.2.2.2.2.2); replace q0 := HZ.out.1; replace q1 := HZ.out.2.1; have q2 := HZ.out.2.2.1; clear hC3 hB3 hS3 hG3)
            have HI9 := Lib.hid HZ.out.2.2.2
            have HM : Hid (lenAt wr w2.heap.size = xs.length) := Lib.hid (lenAt_of HI0.out.cell1)
            have HM2 : Hid (lenAt (w6.setCell ⟨w2.heap.size, 1, none⟩ (.slice A3 (xs.length + 1) c3)) w2.heap.size = xs.length + 1) := Lib.hid (lenAt_of HI9.out.cell1)
            clear HI HT HZ q0 q1 q2
            go_roundw
            case rel => exact ⟨xs ++ [⟨false, ⟨#[97]⟩⟩], A3, c3, L' ++ [.bool false, .string ⟨#[97]⟩], p2 + 1, by have := HLT.out; have := HJ.out; simp; omega, by have := HXL.out; simp; omega, by simpa using HI9.out⟩
            case measure => have := HM.out; have := HM2.out; have := HXL.out; omega
          · have hlt' : ¬ (xs.length : Int) < 3 + (j2 : Int) := by omega
            have f0 := HI.out.froz0 0
            have f1 := HI.out.froz0 1
            have z0 := HI.out.has0
            obtain ⟨zx, zy, z0, z1⟩ := z0
            have HD := Lib.hid (HI.out.done (k := 4) (q := 20) (p0 := p) HN.out HXL.out.1 (by have := HXL.out; omega))
            clear hlt
            go_wp2
            refine bodyPost_ret (v := .agg #[.string a.name, .slice Av' xs.length cv']) (by simp [results, Tryz.results92, go_sem, z0, z1]) rfl HD.out
      · have hji2 : ((j : Int) == 2) = false := beq_eq_false_iff_ne.2 (by omega)
        have q0 := HI.out.cell0
        have q1 := HI.out.cell1
        have f0 := HI.out.froz0 0
        have f1 := HI.out.froz0 1
        have z0 := HI.out.has0
        obtain ⟨zx, zy, z0, z1⟩ := z0
        have HD := Lib.hid (HI.out.done (k := 4) (q := 20) (p0 := p) HN.out (by have := HX.out; simp; omega) (by have := HP.out; omega))
        go_wp2
        refine bodyPost_ret (v := .agg #[.string a.name, .slice Av a.args.length cv]) (by simp [results, Tryz.results92, go_sem, z0, z1]) rfl HD.out

theorem l10AnyAtom_any (g p : Nat) (w : World) (h : Rdr g p w) (hp : p ≤ 800000) :
    Calls Tryz.prog 92 #[.pointer (some ⟨g, 0, none⟩)] w (AtomD 4 g p 20 w) := (l10AnyAtom_s g p w h hp).mono fun _ _ h => h.weak

end Go.Proofs.YtjjfafgaphloaaaGreatDoor
