/- Of the proof of FnOnce: StoP, WdI, VarsI. -/
import Derived.Test.YtjjfafgaphloaaaGreatDoorM22
import Derived.Test.YtjjfafgaphloaaaGreatDoorM23
namespace Go.Proofs.YtjjfafgaphloaaaGreatDoor
open Go.RowKit D
set_option linter.unusedVariables false
def D.aText (a : A) : ByteArray := ⟨(putL a).toArray⟩

theorem D.aText_inj {a b : A} (ha : atomOk a = true) (hb : atomOk b = true) (h : aText a = aText b) : a = b := by
  have e : putL a = putL b := by have := congrArg (fun x => x.data.toList) h; simpa [aText] using this
  have h1 := getI_putL ha
  rw [e, getI_putL hb] at h1
  exact (Prod.mk.inj h1).1.symm

theorem D.aText_size {a : A} (ha : atomOk a = true) : (aText a).size ≤ maxLen := by
  have := putL_le37 ha
  have e : (aText a).size = (putL a).length := List.size_toArray
  unfold maxLen; omega

theorem D.bulk_terms : ∀ (ts : List T), (∀ t ∈ ts, t.name.size ≤ 8) → bulkTs ts ≤ 8 * ts.length
  | [], _ => by simp [bulkTs]
  | t :: ts, h => by
    have h1 := h t (List.mem_cons_self ..)
    have h2 := bulk_terms ts fun u hu => h u (List.mem_cons_of_mem _ hu)
    unfold bulkTs at *
    simp only [List.map_cons, List.sum_cons, List.length_cons]
    omega

theorem D.bulk_ok {a : A} (h : atomOk a = true) : bulkA a ≤ 100 := by
  unfold atomOk at h
  simp only [Bool.and_eq_true, decide_eq_true_eq, List.all_eq_true] at h
  have h1 := name_len h.1.1
  have hz : a.name.data.toList.length = a.name.size := Array.length_toList
  have h2 := bulk_terms a.args fun t ht => by
    have := (term_no44 (h.2 t ht)).2.2
    have hz : t.name.data.toList.length = t.name.size := Array.length_toList
    omega
  unfold bulkA
  omega

/-- The keys under which a fact stands. -/
def D.keysOf (a : A) : List WK := ⟨a.name, a.args.length, -1, ⟨#[]⟩⟩ :: a.args.mapIdx fun i t => ⟨a.name, a.args.length, i, t.name⟩

theorem D.keysOf_at {a : A} {i : Nat} (h : i < a.args.length) : (⟨a.name, a.args.length, i, a.args[i].name⟩ : WK) ∈ keysOf a := by
  refine List.mem_cons_of_mem _ (List.mem_mapIdx.2 ⟨i, h, rfl⟩)

/-- Places of the facts that stand under a key. -/
def D.idxs (fs : List A) (k : WK) : List Nat := (List.range fs.length).filter fun i => match fs[i]? with | some a => decide (k ∈ keysOf a) | none => false

theorem D.idxs_mem {fs : List A} {k : WK} {i : Nat} : i ∈ idxs fs k ↔ ∃ h : i < fs.length, k ∈ keysOf fs[i] := by
  unfold idxs
  rw [List.mem_filter, List.mem_range]
  constructor
  · rintro ⟨h, h2⟩
    rw [List.getElem?_eq_getElem h] at h2
    exact ⟨h, by simpa using h2⟩
  · rintro ⟨h, h2⟩
    exact ⟨h, by rw [List.getElem?_eq_getElem h]; simpa using h2⟩

theorem D.idxs_snoc (fs : List A) (a : A) (k : WK) : idxs (fs ++ [a]) k = idxs fs k ++ (if k ∈ keysOf a then [fs.length] else []) := by
  unfold idxs
  rw [List.length_append, List.length_singleton, List.range_succ, List.filter_append]
  congr 1
  · refine List.filter_congr fun i hi => ?_
    rw [List.getElem?_append_left (List.mem_range.1 hi)]
  · by_cases h : k ∈ keysOf a <;> simp [h]

theorem D.idxs_len (fs : List A) (k : WK) : (idxs fs k).length ≤ fs.length := by
  unfold idxs
  refine Nat.le_trans (List.length_filter_le _ _) ?_
  simp

/-- The store, as it is read; bs are its blocks. -/
structure D.StoreV (sb : Nat) (fs : List A) (rn : List Nat) (bs : List Nat) (w : World) : Prop where
  ex : ∃ Af cf Ar cr mu mp bf br Lu Lp, w.heap[sb]? = some (.cells #[.slice Af fs.length cf, .slice Ar rn.length cr, .map (some mu), .map (some mp)] 95 (0, 0)) ∧
    atomsK w [.slice Af fs.length cf] fs bf ∧ intsK w [.slice Ar rn.length cr] rn br ∧ MapV isWK mu Lu w ∧ MapV isStr mp Lp w ∧
    (∀ k, (∃ v b, (wkV k, v) ∈ Lu ∧ intsK w [v] (idxs fs k) b ∧ ∀ x ∈ b, x ∈ bs) ∨ ((∀ p ∈ Lu, p.1 ≠ wkV k) ∧ idxs fs k = [])) ∧
    (∀ s : ByteArray, (∃ i : Nat, ((.string s : Value), (.int .i64 i : Value)) ∈ Lp) ↔ s ∈ fs.map aText) ∧ (∀ p ∈ Lp, ∃ i : Nat, p.2 = .int .i64 i) ∧
    mu ∈ bs ∧ mp ∈ bs ∧ (∀ b ∈ bf, b ∈ bs) ∧ ∀ b ∈ br, b ∈ bs
  own : sb ∈ bs
  lt : ∀ b ∈ bs, b < w.heap.size

theorem D.StoreV.keep {sb : Nat} {fs : List A} {rn : List Nat} {bs : List Nat} {w w' : World} (h : StoreV sb fs rn bs w) (hk : ∀ b ∈ bs, w'.heap[b]? = w.heap[b]?) (hs : w.heap.size ≤ w'.heap.size) : StoreV sb fs rn bs w' := by
  obtain ⟨⟨Af, cf, Ar, cr, mu, mp, bf, br, Lu, Lp, h1, h2, h3, h4, h5, h6, h7, h8, h9, h10, h11, h12⟩, ho, hl⟩ := h
  refine ⟨⟨Af, cf, Ar, cr, mu, mp, bf, br, Lu, Lp, (hk _ ho).trans h1, atomsK_good.keep h2 fun b hb => hk b (h11 b hb), intsK_good.keep h3 fun b hb => hk b (h12 b hb), h4.same (hk _ h9), h5.same (hk _ h10), fun k => ?_, h7, h8, h9, h10, h11, h12⟩, ho, fun b hb => Nat.lt_of_lt_of_le (hl b hb) hs⟩
  rcases h6 k with ⟨v, b, g1, g2, g3⟩ | g
  · exact .inl ⟨v, b, g1, intsK_good.keep g2 fun x hx => hk x (g3 x hx), g3⟩
  · exact .inr g

theorem D.StoreV.below {sb : Nat} {fs : List A} {rn : List Nat} {bs : List Nat} {w w' : World} (h : StoreV sb fs rn bs w) (hb : Below w.heap.size w w') : StoreV sb fs rn bs w' := h.keep (fun b hb' => hb.block b (h.lt b hb')) hb.size

section
variable {P : Program} {ops : Array Oper} {rest : List Oper} {o : Oper} {a : Act} {Q : Exit → Act → World → Prop}
end
/-- What stands under keys, as it is read. -/
structure D.UndV (mu : Nat) (fs : List A) (bs : List Nat) (w : World) : Prop where
  ex : ∃ Lu, MapV isWK mu Lu w ∧ ∀ k, (∃ v b, (wkV k, v) ∈ Lu ∧ intsK w [v] (idxs fs k) b ∧ ∀ x ∈ b, x ∈ bs) ∨ ((∀ p ∈ Lu, p.1 ≠ wkV k) ∧ idxs fs k = [])
  own : mu ∈ bs
  lt : ∀ b ∈ bs, b < w.heap.size

theorem D.UndV.below {mu : Nat} {fs : List A} {bs : List Nat} {w w' : World} (h : UndV mu fs bs w) {B : Nat} (hb : Below B w w') (hB : ∀ b ∈ bs, b < B) : UndV mu fs bs w' := by
  obtain ⟨⟨Lu, h1, h2⟩, h3, h4⟩ := h
  refine ⟨⟨Lu, h1.below hb (hB _ h3), fun k => ?_⟩, h3, fun b hb' => Nat.lt_of_lt_of_le (h4 b hb') hb.size⟩
  rcases h2 k with ⟨v, b', g1, g2, g3⟩ | g
  · exact .inl ⟨v, b', g1, intsK_good.belowB g2 hb fun x hx => hB x (g3 x hx), g3⟩
  · exact .inr g

/-- 'under[key]'. -/
theorem D.UndV.look {mu : Nat} {fs : List A} {bs : List Nat} {w : World} (h : UndV mu fs bs w) (k : WK) :
    ∃ A9 c9 b, (Instr.lookup 93 (.map (some mu)) (.agg #[.string k.name, .int .i64 k.size, .int .i64 k.place, .string k.word]) false).run Tryz.prog w = .ok (.slice A9 (idxs fs k).length c9) w ∧ intsK w [.slice A9 (idxs fs k).length c9] (idxs fs k) b ∧ ∀ x ∈ b, x ∈ bs := by
  obtain ⟨⟨Lu, h4, h6⟩, _, _⟩ := h
  show ∃ A9 c9 b, (Instr.lookup 93 (.map (some mu)) (wkV k) false).run Tryz.prog w = .ok (.slice A9 (idxs fs k).length c9) w ∧ _
  rcases h6 k with ⟨v, b, g1, g2, g3⟩ | ⟨g1, g2⟩
  · obtain ⟨A9, c9, rfl, _⟩ := sliceK_form g2
    exact ⟨A9, c9, b, run_mapv_hit keyV_wk trivial false Tryz.underlying93 h4 g1, g2, g3⟩
  · refine ⟨none, 0, [], ?_, by rw [g2]; exact ⟨none, 0, rfl, Nat.le_refl _, Nat.zero_le _, fun _ => rfl, fun h => absurd rfl h⟩, fun x hx => by simp at hx⟩
    obtain ⟨⟨es, ck, hb, rfl⟩, h2, h3⟩ := h4
    have hSs : ∀ e ∈ es.toList, isWK e.key := fun e he => h2 (e.key, e.val) (List.mem_map.2 ⟨e, he, rfl⟩)
    rcases findKey_v keyV_wk (w := w) trivial (k := wkV k) ⟨k, rfl⟩ es.toList hSs with ⟨h5, h6⟩ | ⟨i, e1, h5, h6, h7⟩
    · simp [g2, Instr.lookup, run_underlying Tryz.underlying93, MapKept.run_getObj_map hb, keyV_wk.check w _ ⟨k, rfl⟩, h5, Result.andThen]
    · exact absurd h7 (g1 (e1.key, e1.val) (List.mem_map.2 ⟨e1, List.mem_of_getElem? h6, rfl⟩))

/-- '_, there := places[text]'. -/
theorem D.look_places {fs : List A} {mp : Nat} {Lp : List (Value × Value)} {w : World} (h5 : MapV isStr mp Lp w) (h7 : ∀ s : ByteArray, (∃ i : Nat, ((.string s : Value), (.int .i64 i : Value)) ∈ Lp) ↔ s ∈ fs.map aText) (h8 : ∀ p ∈ Lp, ∃ i : Nat, p.2 = .int .i64 i)
    (s : ByteArray) (hs : s.size ≤ maxLen) : ∃ v, (Instr.lookup 68 (.map (some mp)) (.string s) true).run Tryz.prog w = .ok (.tuple #[v, .bool (decide (s ∈ fs.map aText))]) w := by
  by_cases hm : s ∈ fs.map aText
  · obtain ⟨i, hi⟩ := (h7 s).2 hm
    refine ⟨.int .i64 i, ?_⟩
    rw [decide_eq_true hm]
    exact run_mapv_hit keyV_str trivial true Tryz.underlying68 h5 hi
  · refine ⟨.int .i64 0, ?_⟩
    rw [decide_eq_false hm]
    have hno : ∀ p ∈ Lp, p.1 ≠ .string s := fun p hp e => by
      obtain ⟨i, hi⟩ := h8 p hp
      exact hm ((h7 s).1 ⟨i, by rw [← e, ← hi]; exact hp⟩)
    obtain ⟨⟨es, ck, hb, rfl⟩, h2, h3⟩ := h5
    have hSs : ∀ e ∈ es.toList, isStr e.key := fun e he => h2 (e.key, e.val) (List.mem_map.2 ⟨e, he, rfl⟩)
    rcases findKey_v keyV_str (w := w) trivial (k := .string s) ⟨s, rfl, hs⟩ es.toList hSs with ⟨h5, h6⟩ | ⟨i, e1, h5, h6, h7⟩
    · simp [Instr.lookup, run_underlying Tryz.underlying68, MapKept.run_getObj_map hb, keyV_str.check w _ ⟨s, rfl, hs⟩, h5, Result.andThen]
    · exact absurd h7 (hno (e1.key, e1.val) (List.mem_map.2 ⟨e1, List.mem_of_getElem? h6, rfl⟩))

end Go.Proofs.YtjjfafgaphloaaaGreatDoor
namespace Go.Proofs.YtjjfafgaphloaaaGreatDoor
open Go.RowKit D
set_option linter.unusedVariables false
attribute [local go_sem ↓] Go.wp_at_zero Go.wp_at_succ
theorem D.bel_drewN {B : Nat} {a w : World} (h : Below B a w) (n : Nat) : Below B a (w.drewN n) := ⟨h.os, h.tape, h.output, h.size, h.block⟩

set_option maxRecDepth 100000 in
set_option maxHeartbeats 4000000 in
theorem wordOf_any (vars : List ByteArray) (hv : VarsOk vars) (b : Bd) (t : T) (ht : t.var = true → t.name ∈ vars) (blk o : Nat) (w : World) (h : BdAt vars b blk o w) :
    Calls Tryz.prog 104 #[.pointer (some ⟨blk, o, none⟩), .agg #[.int .i64 (slotN vars t), .string (slotS t)]] w fun e w' => e = .returned (.string (fillT b t).name) ∧ Below w.heap.size w w' := by
  obtain ⟨tv, tn⟩ := t
  have hA : Below w.heap.size w (w.alloc (.cells #[.int .i64 (slotN vars ⟨tv, tn⟩), .string (slotS ⟨tv, tn⟩)] 172)) := (Below.refl _ _).alloc (Nat.le_refl _) _
  have HB := Lib.hid hA
  cases tv
  · have e1 : slotN vars ⟨false, tn⟩ = -1 := rfl
    have e2 : slotS ⟨false, tn⟩ = tn := rfl
    have e3 : (fillT b ⟨false, tn⟩).name = tn := rfl
    rw [e1, e2] at HB ⊢
    rw [e3]
    clear h hA ht e1 e2 e3
    go_enter Tryz.func104, Tryz.ntmps104
    go_wp2
    go_ret
    exact ⟨rfl, HB.out⟩
  · have hn := ht rfl
    have hi : vars.idxOf tn < vars.length := List.idxOf_lt_length_of_mem hn
    have hf := hv.few
    have e1 : slotN vars ⟨true, tn⟩ = ((vars.idxOf tn : Nat) : Int) := rfl
    have e3 : (fillT b ⟨true, tn⟩).name = wrd vars b (vars.idxOf tn) := by
      unfold wrd
      rw [dif_pos hi]
      have : vars[vars.idxOf tn] = tn := List.getElem_idxOf hi
      rw [this]; rfl
    have e2 : slotS ⟨true, tn⟩ = ⟨#[]⟩ := rfl
    rw [e1, e2] at HB hA ⊢
    rw [e3]
    have hB := (h.keep (hA.block _ h.lt))
    have y0 := hB.wd (vars.idxOf tn) (by omega)
    have k0 : ¬ ((vars.idxOf tn : Nat) : Int) < 0 := by omega
    have k1 : ((vars.idxOf tn : Nat) : Int) < 12 := by omega
    have k2 : (0 : Int) ≤ ((vars.idxOf tn : Nat) : Int) := by omega
    generalize vars.idxOf tn = j at *
    clear h hA ht hB e1 e3 e2 hi hn
    go_enter Tryz.func104, Tryz.ntmps104
    go_wp2
    go_quiet (fail)
    go_wp2
    go_ret
    exact ⟨rfl, bel_drewN HB.out _⟩

theorem infoStrV : (Tryz.prog.info? 9).map (fun i => (i.zero, i.size, i.bytes)) = some (some (.string ⟨#[]⟩), 1, 16) := by kernel_rfl

/-- The names met so far, in a collection of one's own. -/
structure D.VInv (w : World) (v : Value) (L : List Value) (xs : List ByteArray) (wr : World) : Prop where
  coll : Coll 1 strK w.heap.size 9 wr v L xs []
  bel : Below w.heap.size w wr

theorem D.VInv.below {w wr w' : World} {v : Value} {L : List Value} {xs : List ByteArray} (h : VInv w v L xs wr) (hb : Below wr.heap.size wr w') : VInv w v L xs w' := ⟨h.coll.below strK_good hb, h.bel.trans (hb.mono h.bel.size)⟩

set_option maxRecDepth 100000 in
set_option maxHeartbeats 2000000 in
theorem bodyVars_any (ps : List Pt) (v : Value) (bs : List Nat) (w : World) (h : partsK w [v] ps bs) (hs : sumL (fun p => p.atom.args.length) ps ≤ 1000000) :
    Calls Tryz.prog 99 #[v] w (Makes strsK (bodyVars ps) w.heap.size w) := by
  obtain ⟨Ad, cap, rfl, hl, hm⟩ := sliceK_form h
  have hlm := nat_ge_max (Nat.le_trans hl hm)
  obtain ⟨i0, hi, hz0, hz1, hz2⟩ := info_parts infoStrV
  have HNL : Hid (∀ k, (namesPs (ps.take k)).length ≤ sumL (fun p => p.atom.args.length) (ps.take k)) := Lib.hid fun k => namesPs_len _
  have HS := Lib.hid hs
  have HV := Lib.hid (Coll.nil (n := 1) (R := strK) (base := w.heap.size) (e := 9) w)
  clear hl hm hs
  go_enter Tryz.func99, Tryz.ntmps99
  go_wp2
  go_loopw [3, 10] (fun v i wr => ∃ (k : Nat) (Av : Option Addr) (cp : Nat) (L : List Value) (xs : List ByteArray), k ≤ ps.length ∧ i = .int .i64 k ∧ v = .slice Av xs.length cp ∧ xs = namesPs (ps.take k) ∧ VInv w (.slice Av xs.length cp) L xs wr) (fun _ i _ => ps.length - (intOf i).toNat)
  case atStart => exact ⟨0, none, 0, [], [], Nat.zero_le _, rfl, rfl, rfl, HV.out, Below.refl _ _⟩
  case round =>
    obtain ⟨k, Av, cp, L, xs, hk, rfl, rfl, hxs, hV⟩ := hrel
    clear HV
    have HV := Lib.hid hV
    have HX := Lib.hid hxs
    clear hxs
    obtain ⟨wo, rfl⟩ : ∃ wo : World, wo = wr := ⟨_, rfl⟩
    by_cases hlt : k < ps.length
    · obtain ⟨b, o, Ae, ce, bk, rfl, _, d0, d1, d2, hel, _⟩ := parts_el h hlt
      replace d0 := cell_later hV.bel d0
      replace d1 := cell_later hV.bel d1
      replace d2 := cell_later hV.bel d2
      have hk0 : (0 : Int) ≤ (k : Int) := by omega
      have hk1 : (k : Int) < (ps.length : Int) := by omega
      have HLT := Lib.hid hlt
      have HN := Lib.hid (namesPs_snoc ps k hlt)
      have HB1 : Hid ((namesPs (ps.take k)).length + ps[k].atom.args.length ≤ 1000000) := Lib.hid (by
        have h1 := HNL.out k
        have h2 := sumL_snoc (fun p : Pt => p.atom.args.length) ps k hlt
        have h3 := sumL_take (fun p : Pt => p.atom.args.length) ps (k + 1)
        have := HS.out
        omega)
      have hA : Below wo.heap.size wo (wo.alloc (.cells #[.bool ps[k].no, .string ps[k].atom.name, .slice Ae ps[k].atom.args.length ce] 148)) := (Below.refl _ _).alloc (Nat.le_refl _) _
      have ht := atom_args (part_atom hel)
      obtain ⟨_, _, e0', hl2, hm2⟩ := sliceK_form ht
      have hla := nat_ge_max (Nat.le_trans hl2 hm2)
      have HV1 := Lib.hid (hV.below hA)
      have HT := Lib.hid ht
      clear h hV hel hA ht hl2 hm2 e0' HV
      generalize ps[k] = p at *
      clear hlt
      obtain ⟨no, nm, args⟩ := p
      dsimp only at *
      go_wp2
      generalize wo.alloc (.cells #[.bool no, .string nm, .slice Ae args.length ce] 148) = w1 at *
      go_loopw [3, 18] (fun v i wr => ∃ (j : Nat) (Av : Option Addr) (cp : Nat) (L : List Value) (ys : List ByteArray), j ≤ args.length ∧ i = .int .i64 j ∧ v = .slice Av ys.length cp ∧ ys = namesPs (ps.take k) ++ namesTs (args.take j) ∧ VInv w (.slice Av ys.length cp) L ys wr) (fun _ i _ => args.length - (intOf i).toNat)
      case atStart => exact ⟨0, Av, cp, L, xs, Nat.zero_le _, rfl, rfl, by rw [← HX.out]; simp [namesTs], HV1.out⟩
      case round =>
        clear HV1 HX
        obtain ⟨j, Aw, cq, M, ys, hj, rfl, rfl, hys, hV⟩ := hrel
        have HV := Lib.hid hV
        have HY := Lib.hid hys
        clear hys
        by_cases hlt : j < args.length
        · obtain ⟨b2, o2, rfl, _, f0, f1, hsz⟩ := terms_at (termsK_good.below HT.out hV.bel) hlt
          have hj0 : (0 : Int) ≤ (j : Int) := by omega
          have hj1 : (j : Int) < (args.length : Int) := by omega
          have HLJ := Lib.hid hlt
          have HNJ := Lib.hid (namesTs_snoc args j hlt)
          have hA2 : Below wr.heap.size wr (wr.alloc (.cells #[.bool args[j].var, .string args[j].name] 127)) := (Below.refl _ _).alloc (Nat.le_refl _) _
          have hA3 : Below wr.heap.size wr ((wr.alloc (.cells #[.bool args[j].var, .string args[j].name] 127)).alloc (.cells #[.string args[j].name] 9)) := hA2.alloc (by simp) _
          have HV2 := Lib.hid (hV.below hA2)
          have HV3 := Lib.hid (hV.below hA3)
          have HK : Hid (ys.length + 1 ≤ maxLen ∧ (ys.length + 1) * 16 ≤ 140737488355328) := Lib.hid (by
            have h1 := namesTs_len (args.take j)
            rw [List.length_take] at h1
            have h2 := HB1.out
            rw [HY.out, List.length_append]
            unfold maxLen; omega)
          have HSZ := Lib.hid hsz
          clear hV hA2 hA3 hsz HV
          generalize args[j] = t at *
          clear hlt
          obtain ⟨tv, tn⟩ := t
          dsimp only at *
          cases tv
          · have HNJ2 : Hid (namesTs (args.take (j + 1)) = namesTs (args.take j)) := Lib.hid (by rw [HNJ.out]; simp)
            clear HNJ HV3
            go_wp2
            go_roundw
            case rel => exact ⟨j + 1, Aw, cq, M, ys, HLJ.out, by go_num, rfl, by rw [HNJ2.out]; exact HY.out, HV2.out⟩
            case measure => have := HLJ.out; simp [intOf]; omega
          · have HNJ2 : Hid (namesTs (args.take (j + 1)) = namesTs (args.take j) ++ [tn]) := Lib.hid (by rw [HNJ.out]; simp)
            have HR2 : Hid (Rowed 1 strK ((wr.alloc (.cells #[.bool true, .string tn] 127)).alloc (.cells #[.string tn] 9)) [.string tn] [tn] []) := Lib.hid (Rowed.one_el strK_ones ⟨rfl, HSZ.out, rfl⟩)
            have HL2 : Hid (Lies ((wr.alloc (.cells #[.bool true, .string tn] 127)).alloc (.cells #[.string tn] 9)) (some ⟨wr.heap.size + 1, 0, none⟩) [.string tn]) := Lib.hid (by have := lies_block (heap_alloc_new (wr.alloc (.cells #[.bool true, .string tn] 127)) (.cells #[.string tn] 9)); simpa using this)
            clear HNJ HV2
            go_wp2_with (at_builtin; refine wpList_coll rfl _ _ _ rfl w.heap.size 9 i0 (.string ⟨#[]⟩) 1 16 Tryz.underlying98 hi hz0 hz1 hz2 rfl (by omega) strK_good (.slice Aw ys.length cq) ys.length _ _ _ rfl HV3.out.coll rfl (some ⟨wr.heap.size + 1, 0, none⟩) 1 1 _ [tn] _ rfl HR2.out rfl HL2.out (fun b hb => by simp at hb) HK.out.1 HK.out.2 w w.heap.size HV3.out.bel (Nat.le_refl _) HV3.out.bel.size ?_; intro A2 cp2 w2 hC3 hB3 hS3 _)
            have HC3 := Lib.hid hC3
            have HB3 := Lib.hid hB3
            clear hC3 hB3 hS3
            go_wp2
            go_roundw
            case rel => exact ⟨j + 1, A2, cp2, _, ys ++ [tn], HLJ.out, by go_num, by simp, by rw [HNJ2.out, HY.out, List.append_assoc], by rw [List.length_append]; exact HC3.out, HB3.out⟩
            case measure => have := HLJ.out; simp [intOf]; omega
        · have he : j = args.length := by omega
          have hj1 : ¬ (j : Int) < (args.length : Int) := by omega
          have HE : Hid (ys = namesPs (ps.take (k + 1))) := Lib.hid (by rw [HN.out, HY.out, he, List.take_of_length_le (Nat.le_refl _)])
          clear hV he
          go_wp2
          go_roundw
          case rel => exact ⟨k + 1, Aw, cq, M, ys, HLT.out, by go_num, rfl, HE.out, HV.out⟩
          case measure => have := HLT.out; simp [intOf]; omega
    · have he : k = ps.length := by omega
      have hk1 : ¬ (k : Int) < (ps.length : Int) := by omega
      have hxe : xs = namesPs ps := by rw [HX.out, he, List.take_of_length_le (Nat.le_refl _)]
      have hxl : xs.length ≤ 16777216 := by rw [hxe]; have := namesPs_len ps; have := HS.out; omega
      have HXE := Lib.hid hxe
      have HXL := Lib.hid hxl
      have c1 := sortS_any xs _ L w.heap.size wo hV.coll hxl
      have HSH := Lib.hid (own_shape hV.coll.own)
      clear h hV he hxe hxl HX hk
      go_wp2_with fail
      refine c1.mono ?_
      rintro e w2 ⟨rfl, ys, hys, hyl, hC2, hg2⟩
      have B2 : Below w.heap.size w w2 := own_grown HV.out.bel HV.out.coll.own (Nat.le_refl _) HV.out.bel.size hg2
      have c2 := compactS_any ys _ _ w.heap.size w2 hC2 (by rw [hyl]; exact HXL.out)
      have HY := Lib.hid (And.intro hys (And.intro hC2 B2))
      clear c1 hys hyl hC2 hg2 B2
      go_wp2_with fail
      refine c2.mono ?_
      rintro e w3 ⟨v3, zs, rfl, hzs, hC3, hg3⟩
      have hz : zs = bodyVars ps := by
        have h1 := sorted_names ps
        rw [HY.out.1, HXE.out] at hzs
        rw [h1] at hzs
        have inj : ∀ (a b : List ByteArray), a.map (·.data.toList) = b.map (·.data.toList) → a = b := by
          intro a
          induction a with
          | nil => intro b h; cases b; rfl; simp at h
          | cons x a ih => intro b h; cases b with
            | nil => simp at h
            | cons y b => simp only [List.map_cons, List.cons.injEq] at h; rw [bytes_inj h.1, ih b h.2]
        exact inj _ _ hzs
      subst hz
      obtain ⟨b9, hs9, hn9⟩ := hC3.new (New.nil _ _)
      have B3 := own_grown HY.out.2.2 HY.out.2.1.own (Nat.le_refl _) HY.out.2.2.size hg3
      have HZ : Hid (Makes strsK (bodyVars ps) w.heap.size w (.returned v3) w3) := Lib.hid ⟨B3, _, _, rfl, hs9, hn9⟩
      clear c2 hzs hC3 hg3 hs9 hn9 B3
      go_wp2
      go_ret
      exact HZ.out

end Go.Proofs.YtjjfafgaphloaaaGreatDoor
