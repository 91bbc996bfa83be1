/- Of the proof of FnExactProofNeeds: CmpD, L3, MarkAo, MarkA, ArgsP. -/
import Derived.Test.YtlmngncogomgeaaM09
import Derived.Test.YtlmngncogomgeaaM11
namespace Go.Proofs.Ytlmngncogomgeaa
open Go.RowKit D
set_option linter.unusedVariables false
attribute [local go_sem ↓] Go.wp_at_zero Go.wp_at_succ
/-- What lay, some draws on, and new blocks. -/
structure D.Grew (w w' : World) : Prop where
  bel : Below w.heap.size w w'
  dr : w.drawn ≤ w'.drawn

theorem D.Grew.refl (w : World) : Grew w w := ⟨Below.refl _ _, Nat.le_refl _⟩

theorem D.Grew.trans {a b c : World} (h : Grew a b) (k : Grew b c) : Grew a c := ⟨h.bel.trans (k.bel.mono h.bel.size), Nat.le_trans h.dr k.dr⟩

theorem D.Grew.alloc {w w' : World} (h : Grew w w') (o : Obj) : Grew w (w'.alloc o) := ⟨h.bel.alloc h.bel.size _, h.dr⟩

theorem D.Grew.is {w w' : World} (h : Grew w w') : ∃ q os', w' = Go.Sort.grow (w.drewN q) os' := by
  refine ⟨w'.drawn - w.drawn, w'.heap.extract w.heap.size w'.heap.size, ?_⟩
  have e1 := h.bel.os
  have e2 := h.bel.tape
  have e3 := h.bel.output
  have e4 : w'.drawn = w.drawn + (w'.drawn - w.drawn) := by have := h.dr; omega
  have e5 : w'.heap = w.heap ++ w'.heap.extract w.heap.size w'.heap.size := by
    have hs := h.bel.size
    apply Array.ext
    · simp; omega
    · intro i h1 h2
      by_cases hi : i < w.heap.size
      · rw [Array.getElem_append_left hi]
        have := h.bel.block i hi
        rw [Array.getElem?_eq_getElem h1, Array.getElem?_eq_getElem hi] at this
        exact Option.some.inj this
      · rw [Array.getElem_append_right (by omega)]
        simp
        congr 1
        omega
  obtain ⟨hp, tp, dn, os, out⟩ := w
  obtain ⟨hp', tp', dn', os', out'⟩ := w'
  simp only [Go.Sort.grow, World.drewN] at *
  subst e1 e2 e3
  rw [← e4, ← e5]

set_option maxHeartbeats 400000 in
theorem order1_grew (t u : T) (w : World) :
    Calls Try.prog 40 #[.agg #[.bool t.var, .string t.name], .agg #[.bool u.var, .string u.name]] w fun e w' => e = .returned (.int .i64 (cmpS t.name u.name)) ∧ Grew w w' := by
  go_enter Try.func40, Try.ntmps40
  go_wp2_with (go_at_call 38; refine (compare_any _ _ _).mono ?_; rintro e w' ⟨rfl, rfl⟩)
  go_ret
  exact ⟨rfl, ((Grew.refl _).alloc _).alloc _⟩

set_option maxHeartbeats 400000 in
theorem compareFunc_grew (ts us : List T) (v1 v2 : Value) (b1 b2 : List Nat) (w : World) (h1 : termsK w [v1] ts b1) (h2 : termsK w [v2] us b2) :
    Calls Try.prog 39 #[v1, v2, .func (.func 40) #[] #[]] w
      fun e w' => e = .returned (.int .i64 (cmpTs ts us)) ∧ Grew w w' := by
  obtain ⟨Ad, cap, rfl, hl, hm⟩ := sliceK_form h1
  obtain ⟨Ad2, cap2, rfl, hl2, hm2⟩ := sliceK_form h2
  have hlm := nat_ge_max (Nat.le_trans hl hm)
  have hlm2 := nat_ge_max (Nat.le_trans hl2 hm2)
  clear hm hm2
  go_enter Try.func39, Try.ntmps39
  go_wp2
  go_loopw [13] (fun i wr => ∃ k : Nat, k ≤ ts.length ∧ k ≤ us.length ∧ i = .int .i64 k ∧ cmpTs ts us = cmpTs (ts.drop k) (us.drop k) ∧ Grew w wr) (fun i _ => ts.length - (intOf i).toNat)
  case atStart => exact ⟨0, Nat.zero_le _, Nat.zero_le _, rfl, rfl, Grew.refl _⟩
  case round =>
    obtain ⟨k, hk, hk2, rfl, hc, hb⟩ := hrel
    have HC := Lib.hid hc
    clear hc
    by_cases hlt : k < ts.length
    · obtain ⟨b, o, rfl, _, c0, c1, _⟩ := terms_at (termsK_good.below h1 hb.bel) hlt
      have hA : Grew wr (wr.alloc (.cells #[.bool ts[k].var, .string ts[k].name] 78)) := (Grew.refl _).alloc _
      by_cases hlt2 : k < us.length
      · obtain ⟨b', o', rfl, _, d0, d1, _⟩ := terms_at (termsK_good.below h2 (hb.trans hA).bel) hlt2
        have HS := Lib.hid (cmpTs_step hlt hlt2)
        clear h1 h2
        go_wp2_with fail
        refine (order1_grew ts[k] us[k] _).mono ?_
        rintro e w' ⟨rfl, hb'⟩
        have B' : Grew w w' := ((hb.alloc _).alloc _).trans hb'
        by_cases hz : cmpS ts[k].name us[k].name = 0
        · have hz' : (cmpS ts[k].name us[k].name == 0) = true := by simp [hz]
          have HZ := Lib.hid hz
          clear hz hA
          go_wp2
          go_roundw
          case rel => exact ⟨k + 1, by omega, by omega, by go_num, by rw [HC.out, HS.out, if_pos HZ.out], B'⟩
          case measure => simp [intOf]; omega
        · have hz' : (cmpS ts[k].name us[k].name == 0) = false := by simp [hz]
          have HZ := Lib.hid hz
          clear hz hA
          go_wp2
          go_ret
          exact ⟨ret_int (by rw [HC.out, HS.out, if_neg HZ.out]), B'⟩
      · clear h1 h2
        have HS := Lib.hid (cmpTs_end1 hlt (Nat.le_of_not_lt hlt2))
        go_wp2
        go_ret
        exact ⟨ret_int (by rw [HC.out, HS.out]), hb.trans hA⟩
    · have he : ts.length ≤ k := by omega
      by_cases hlt2 : k < us.length
      · have HS := Lib.hid (cmpTs_end2 he hlt2)
        have hx : ts.length < us.length := by omega
        go_wp2
        go_ret
        exact ⟨ret_int (by rw [HC.out, HS.out]), hb⟩
      · have HS := Lib.hid (cmpTs_end3 he (Nat.le_of_not_lt hlt2))
        have hx : ¬ ts.length < us.length := by omega
        go_wp2
        go_ret
        exact ⟨ret_int (by rw [HC.out, HS.out]), hb⟩

set_option maxHeartbeats 400000 in
theorem atomOrder_grew (a b : A) (c0 c1 d0 d1 : Value) (b1 b2 : List Nat) (w : World) (h1 : atomK w [c0, c1] a b1) (h2 : atomK w [d0, d1] b b2) :
    Calls Try.prog 22 #[.agg #[c0, c1], .agg #[d0, d1]] w fun e w' => e = .returned (.int .i64 (cmpA a b)) ∧ Grew w w' := by
  obtain ⟨Ad, cap, rfl, rfl⟩ := atom_cells2 h1
  obtain ⟨Ae, cape, rfl, rfl⟩ := atom_cells2 h2
  have hq := fun w' (hb : Grew w w') => compareFunc_grew a.args b.args (.slice Ad a.args.length cap) (.slice Ae b.args.length cape) b1 b2 w' (atom_args (atomK_good.below h1 hb.bel)) (atom_args (atomK_good.below h2 hb.bel))
  have hc : cmpA a b = if cmpS a.name b.name = 0 then cmpTs a.args b.args else cmpS a.name b.name := rfl
  have HC := Lib.hid hc
  clear h1 h2 hc
  have hA := ((Grew.refl w).alloc (.cells #[.string a.name, .slice Ad a.args.length cap] 33)).alloc (.cells #[.string b.name, .slice Ae b.args.length cape] 33)
  by_cases hz : cmpS a.name b.name = 0
  · have hz' : (cmpS a.name b.name != 0) = false := by simp [hz]
    have HZ := Lib.hid hz
    clear hz
    go_enter Try.func22, Try.ntmps22
    go_wp2_with (go_at_call 38; refine (compare_any _ _ _).mono ?_; rintro e w' ⟨rfl, rfl⟩)
    refine (hq _ hA).mono ?_
    rintro e w' ⟨rfl, hb'⟩
    go_wp2
    go_ret
    exact ⟨ret_int (by rw [HC.out, if_pos HZ.out]), hA.trans hb'⟩
  · have hz' : (cmpS a.name b.name != 0) = true := by simp [hz]
    have HZ := Lib.hid hz
    clear hz
    go_enter Try.func22, Try.ntmps22
    go_wp2_with (go_at_call 38; refine (compare_any _ _ _).mono ?_; rintro e w' ⟨rfl, rfl⟩)
    go_ret
    exact ⟨ret_int (by rw [HC.out, if_neg HZ.out]), hA⟩

set_option maxHeartbeats 1000000 in
theorem l3Copy_big (ts : List A) (v : Value) (bs : List Nat) (w : World) (h : atomsK w [v] ts bs) (hn : ts.length ≤ 100000000000) (ha : ∀ a ∈ ts, a.args.length ≤ 16777216) :
    Calls Try.prog 15 #[v] w fun e w' => Below w.heap.size w w' ∧ ∃ v bs, e = .returned v ∧ atomsK w' [v] ts bs ∧ ∀ c ∈ bs, w.heap.size ≤ c := by
  obtain ⟨Ad, cap, rfl, hl, hm⟩ := sliceK_form h
  obtain ⟨i0, hi, hz0, hz1, hz2⟩ := info_parts infoAtom3
  clear hm
  have hA : Below w.heap.size w (w.alloc (.cells #[] 33)) := (Below.refl _ _).alloc (Nat.le_refl _) _
  have hst := Coll.empty (n := 2) (R := atomK) (e := 33) (heap_alloc_new w (.cells #[] 33)) (Nat.le_refl w.heap.size)
  go_enter Try.func15, Try.ntmps15
  go_wp2
  go_loopw [3, 4] (fun v i wr => ∃ (k : Nat) (A : Option Addr) (cp : Nat) (L : List Value) (b2 : List Nat), k ≤ ts.length ∧ i = .int .i64 k ∧ v = .slice A k cp ∧ Coll 2 atomK w.heap.size 33 wr (.slice A k cp) L (ts.take k) b2 ∧ Hid (∀ c ∈ b2, w.heap.size ≤ c) ∧ Below w.heap.size w wr) (fun _ i _ => ts.length - (intOf i).toNat)
  case atStart => exact ⟨0, _, _, _, _, Nat.zero_le _, rfl, rfl, hst, Lib.hid (fun c hc => by cases hc), hA⟩
  case round =>
    obtain ⟨k, A, cp, L, b2, hk, rfl, rfl, hC, hF2, hb⟩ := hrel
    clear hst hA
    by_cases hlt : k < ts.length
    · have HLT := Lib.hid hlt
      obtain ⟨b, o, Ae, ce, bk, rfl, _, c0, c1, hel, _⟩ := atoms_el (atomsK_good.below h hb) hlt
      have hle : ts[k].args.length ≤ 16777216 := ha _ (List.getElem_mem _)
      have hk0 : (0 : Int) ≤ (k : Int) := by omega
      have hk1 : (k : Int) < (ts.length : Int) := by omega
      have HT : Hid (ts.take (k + 1) = ts.take k ++ [ts[k]]) := Lib.hid (List.take_succ_eq_append_getElem hlt)
      have hc := l3Atom_any ts[k] _ _ bk _ hel hle
      have HC := Lib.hid hC
      clear h ha hC
      go_wp2_with fail
      refine hc.mono ?_
      rintro e w1 ⟨hb1, cs', b3, rfl, hR, hN⟩
      obtain ⟨Ae', ce', rfl⟩ := atom_cells hR
      clear hel hc
      have hlen : (ts.take k).length = k := by rw [List.length_take]; omega
      have hb2 : Below wr.heap.size wr (w1.alloc (.cells #[.string ts[k].name, .slice Ae' ts[k].args.length ce'] 33)) := hb1.alloc hb1.size _
      have hA2 : Below w1.heap.size w1 (w1.alloc (.cells #[.string ts[k].name, .slice Ae' ts[k].args.length ce'] 33)) := (Below.refl _ _).alloc (Nat.le_refl _) _
      have hC2 := HC.out.below atomK_good hb2
      have hR2 := atomK_good.below hR hA2
      have hL : Lies (w1.alloc (.cells #[.string ts[k].name, .slice Ae' ts[k].args.length ce'] 33)) (some ⟨w1.heap.size, 0, none⟩) [.string ts[k].name, .slice Ae' ts[k].args.length ce'] := lies_block (heap_alloc_new w1 _)
      have HC2 := Lib.hid hC2
      have HO2 : Hid ((w1.alloc (.cells #[.string ts[k].name, .slice Ae' ts[k].args.length ce'] 33)).ownsRow w.heap.size 33 2 (.slice A k cp) k L) := Lib.hid (by have := hC2.own; rw [hlen] at this; exact this)
      have HL := Lib.hid hL
      have HR2 := Lib.hid hR2
      have hsz := hb2.size
      clear hC2 hL hR2 hlen
      go_wp2_with (at_builtin; refine wpList_app rfl _ _ _ rfl w.heap.size 33 i0 (.agg #[.string ⟨#[]⟩, .slice none 0 0]) 2 40 Try.underlying29 hi hz0 hz1 hz2 rfl (by omega) (.slice A k cp) k L rfl HO2.out (some ⟨w1.heap.size, 0, none⟩) 1 1 [.string ts[k].name, .slice Ae' ts[k].args.length ce'] rfl rfl HL.out (by simp [Value.oneCell']) (by unfold maxLen; omega) (by omega) (Nat.le_trans hb.size hsz) ?_; intro A2 cp2 w2 hown2 hgrow2 hloc2)
      have hlen : (ts.take k).length = k := by rw [List.length_take]; omega
      have hfar : ∀ b ∈ b3, (Value.slice A k cp).ownBlock ≠ some b := fun b hb' => own_block_lt HC.out.own (hN.own b hb').1
      have C3 := HC2.out.app atomK_good (Rowed.one_el atomK_ones HR2.out) hfar (by rw [hlen]; exact hown2) hgrow2 hloc2
      have B3 := own_grown (hb.trans (hb2.mono hb.size)) HO2.out (Nat.le_refl _) (Nat.le_trans hb.size hsz) hgrow2
      have HF3 : Hid (∀ c ∈ b2 ++ b3, w.heap.size ≤ c) := Lib.hid fun c hc => (List.mem_append.1 hc).elim (hF2.out c) fun h => Nat.le_trans hb.size (hN.own c h).1
      clear hown2 hgrow2 hloc2 hfar hlen hR hN
      have H3 := Lib.hid C3
      clear C3
      go_wp2
      go_roundw
      case rel => exact ⟨k + 1, A2, cp2, _, _, HLT.out, by go_num, rfl, by rw [HT.out]; exact H3.out, HF3, B3⟩
      case measure => have := HLT.out; simp [intOf]; omega
    · have he : k = ts.length := by omega
      subst he
      rw [List.take_of_length_le (Nat.le_refl _)] at hC
      obtain ⟨b3, hs, hf3⟩ := hC.slice
      have HS := Lib.hid (And.intro hs fun c hc => (hf3 c hc).elim id (hF2.out c))
      clear hC hs hf3
      go_wp2
      go_ret
      exact ⟨hb, _, b3, rfl, HS.out⟩

theorem l3Copy_any (ts : List A) (v : Value) (bs : List Nat) (w : World) (h : atomsK w [v] ts bs) (hn : ts.length ≤ 16777216) (ha : ∀ a ∈ ts, a.args.length ≤ 16777216) :
    Calls Try.prog 15 #[v] w (Reads atomsK ts w.heap.size w) :=
  (l3Copy_big ts v bs w h (by omega) ha).mono fun e w' ⟨h1, v', bs', h2, h3, _⟩ => ⟨h1, v', bs', h2, h3⟩

set_option maxHeartbeats 400000 in
theorem markAtom_any (a : A) (c0 c1 : Value) (bs : List Nat) (k B : Nat) (w : World) (h : atomK w [c0, c1] a bs) (hN : New B w bs) (hB : B ≤ w.heap.size) (hk : k + 2 * a.args.length ≤ 1000000000000) :
    Calls Try.prog 28 #[.agg #[c0, c1], .int .i64 k] w (Marked atomK [c0, c1] ⟨a.name, markTs a.args k⟩ bs (k + 2 * a.args.length) B w) := by
  have ht := atom_args h
  have hnm := (show a.name.size ≤ maxLen by obtain ⟨_, _, hn, _⟩ := h; exact hn)
  obtain ⟨Ad, cap, rfl, rfl⟩ := atom_cells2 h
  have hA0 : Below w.heap.size w (w.alloc (.cells #[.string a.name, .slice Ad a.args.length cap] 33)) := (Below.refl _ _).alloc (Nat.le_refl _) _
  have hm := markTermS_any a.args _ bs k B _ (termsK_good.below ht hA0) (hN.below hA0) hk
  clear h ht
  go_enter Try.func28, Try.ntmps28
  go_wp2_with fail
  refine hm.mono ?_
  rintro e w1 ⟨rfl, hR, hN1, hK⟩
  clear hm
  go_wp2
  go_ret
  exact ⟨rfl, ⟨_, rfl, hnm, hR⟩, hN1, (KeptBut.of_below hA0).trans hK⟩

set_option maxHeartbeats 1000000 in
theorem markAtomS_any (ts : List A) (v : Value) (bs : List Nat) (k B : Nat) (w : World) (h : atomsK w [v] ts bs) (hN : New B w bs) (hk : k + sumL cntA ts ≤ 1000000000000) :
    Calls Try.prog 11 #[v, .int .i64 k] w (Marked atomsK [v] (markAs ts k) bs (k + sumL cntA ts) B w) := by
  obtain ⟨Ad, cap, rfl, hl, hm⟩ := sliceK_form h
  have hlen : ts.length ≤ 1000000000000 := Nat.le_trans (len_cnt cntA cntA_pos ts) (by omega)
  clear hm
  go_enter Try.func11, Try.ntmps11
  go_wp2
  go_loopw [1, 5] (fun q j wr => ∃ (i : Nat) (ys : List A), i ≤ ts.length ∧ j = .int .i64 i ∧ q = .int .i64 (k + sumL cntA (ts.take i) : Nat) ∧ ys = markTo mkA cntA ts k i ∧ atomsK wr [.slice Ad ts.length cap] ys bs ∧ New B wr bs ∧ KeptBut bs w wr) (fun _ j _ => ts.length - (intOf j).toNat)
  case atStart => exact ⟨0, ts, Nat.zero_le _, rfl, rfl, rfl, h, hN, KeptBut.refl _ _⟩
  case round =>
    obtain ⟨i, ys, hi, rfl, rfl, hy, hT, hNr, hK⟩ := hrel
    clear h hN
    by_cases hlt : i < ts.length
    · have HLT := Lib.hid hlt
      have hle : ys.length = ts.length := by rw [hy, markTo_length]
      have hey : ys[i]'(by omega) = ts[i] := by subst hy; exact markTo_at hlt
      have HS := Lib.hid (markTo_step (mk := mkA) (cnt := cntA) (k := k) hlt)
      have hsn := sumL_snoc cntA ts i hlt
      have hle2 := sumL_le_of_lt cntA ts i hlt
      have HY := Lib.hid hy
      clear hy
      obtain ⟨b, o, cs, bk, rfl, hb, hbk, hnd, hsub, hcs, hcell, hat, hput⟩ := sliceK_open atomK_good hT hNr.nodup (k := i) (by omega)
      rw [hey] at hat
      obtain ⟨s, rfl, _, ht⟩ := hat
      obtain ⟨u0, c0⟩ : ∃ u, wr.cell? ⟨b, o + i * 2, none⟩ = some u := ⟨_, hcell 0 _ rfl⟩
      have c1 : wr.cell? ⟨b, o + i * 2 + 1, none⟩ = some s := by have := hcell 1 _ rfl; rwa [← Nat.add_assoc] at this
      have f0 := (hNr.wri b hb).frozen (o + i * 2)
      have hbl := hNr.lt hb
      generalize ts[i] = a at *
      have hca : cntA a = 1 + 2 * a.args.length := rfl
      have HP := Lib.hid hput
      have HL := Lib.hid hle
      have HN := Lib.hid hNr
      have HSN := Lib.hid hsn
      clear hcell hput hT hcs hle hNr hey hsn
      obtain ⟨q, hq⟩ : ∃ q, q = k + sumL cntA (ts.take i) := ⟨_, rfl⟩
      rw [← hq] at HS ⊢
      have hq9 : q + 1 + 2 * a.args.length ≤ 1000000000000 := by omega
      have hq1 : (q : Int) + 1 ≤ 1000000000000 := by omega
      have HQ := Lib.hid hq
      have HC := Lib.hid hca
      clear hq hle2 hca
      go_wp2_with fail
      refine (markText_any q _ (by omega)).mono ?_
      rintro e w2 ⟨rfl, hb2⟩
      have g0 : w2.cell? ⟨b, o + i * 2, none⟩ = some u0 := cell_later hb2 c0
      have g1 : w2.cell? ⟨b, o + i * 2 + 1, none⟩ = some s := cell_later hb2 c1
      have f2 : w2.frozen? ⟨b, o + i * 2, none⟩ = false := (hb2.frozen (p := ⟨b, o + i * 2, none⟩) hbl).trans f0
      have g3 : (w2.setCell ⟨b, o + i * 2, none⟩ (.string (markText q))).cell? ⟨b, o + i * 2 + 1, none⟩ = some s := setCell_other g1 (by omega)
      have g4 : (w2.setCell ⟨b, o + i * 2, none⟩ (.string (markText q))).cell? ⟨b, o + i * 2, none⟩ = some (.string (markText q)) := World.cell?_setCell_same' _ _ _ (by rw [g0]; rfl)
      have hk2 : KeptBut bs wr (w2.setCell ⟨b, o + i * 2, none⟩ (.string (markText q))) := (KeptBut.of_below hb2).setCell hb _
      have hN2 := (HN.out.below hb2).set ⟨b, o + i * 2, none⟩ (.string (markText q))
      have ht2 : termsK (w2.setCell ⟨b, o + i * 2, none⟩ (.string (markText q))) [s] a.args bk := termsK_good.keep (termsK_good.below ht hb2) fun c hc => Below.heap_setCell _ _ _ _ fun e => hbk (by rw [← (show c = b from e)]; exact hc)
      have hmt := markTermS_any a.args s bk (q + 1) B _ ht2 (hN2.sub hnd hsub) hq9
      have hrest : ∀ p v, wr.cell? ⟨b, o + p, none⟩ = some v → (p < i * 2 ∨ i * 2 + 2 ≤ p) → (w2.setCell ⟨b, o + i * 2, none⟩ (.string (markText q))).cell? ⟨b, o + p, none⟩ = some v := fun p v hv hp => setCell_other (cell_later hb2 hv) (by omega)
      have hblk : ∀ c ∈ bs, c ≠ b → (w2.setCell ⟨b, o + i * 2, none⟩ (.string (markText q))).heap[c]? = wr.heap[c]? := fun c hc hne => by rw [Below.heap_setCell _ _ _ _ hne, hb2.block c (HN.out.lt hc)]
      have HR := Lib.hid hrest
      have HB := Lib.hid hblk
      obtain ⟨Ae, ce, rfl, _⟩ := sliceK_form ht
      clear hrest hblk ht ht2 c0 c1 f0
      go_wp2_with fail
      generalize hw3 : w2.setCell ⟨b, o + i * 2, none⟩ (.string (markText q)) = w3 at *
      clear hw3
      refine hmt.mono ?_
      rintro e w4 ⟨rfl, hR4, hN4, hK4⟩
      have R := HP.out w4 [.string (markText q), .slice Ae a.args.length ce] (mkA a q) rfl
        (fun j v hv => by
          match j, hv with
          | 0, hv =>
            simp only [List.getElem?_cons_zero, Option.some.injEq] at hv
            subst hv
            rw [Nat.add_zero]
            exact hK4.cell hbk g4
          | 1, hv =>
            simp only [List.getElem?_cons_succ, List.getElem?_cons_zero, Option.some.injEq] at hv
            subst hv
            rw [← Nat.add_assoc]
            exact hK4.cell hbk g3
          | j + 2, hv => simp at hv)
        (fun p v hv hp => hK4.cell hbk (HR.out p v hv hp))
        (fun c hc hne hnb => by rw [hK4.block c (hN2.lt hc) hnb, HB.out c hc hne])
        ⟨_, rfl, markText_size (k := q) (by omega), hR4⟩
      rw [HY.out, HS.out] at R
      have hN5 : New B w4 bs := hN2.mix hN4 hK4
      have hK5 : KeptBut bs w w4 := hK.trans (hk2.trans (hK4.mono hsub))
      clear HP HN HR HB hmt g0 g1 f2 g3 g4 hK4 hN4 hN2 hk2 hR4 HY HS
      go_wp2_with fail
      go_roundw
      case rel => exact ⟨i + 1, _, HLT.out, by go_num, by have := HQ.out; have := HSN.out; have := HC.out; go_num, rfl, R, hN5, hK5⟩
      case measure => have := HLT.out; simp [intOf]; omega
    · have he : i = ts.length := by omega
      subst he
      have HY : Hid (ys = markAs ts k) := Lib.hid (by rw [hy, markTo_all]; rfl)
      have HT : Hid (ts.take ts.length = ts) := Lib.hid (List.take_of_length_le (Nat.le_refl _))
      clear hy
      go_wp2
      go_ret
      exact ⟨by rw [HT.out]; rfl, by rw [← HY.out]; exact hT, hNr, hK⟩

set_option maxHeartbeats 1000000 in
theorem heldAtomS_any (ts : List A) (v : Value) (bs : List Nat) (k : Nat) (w : World) (h : atomsK w [v] (markAs ts k) bs) (hk : k + sumL cntA ts ≤ 1000000000000) :
    Calls Try.prog 12 #[v, .int .i64 k] w (Held (k + sumL cntA ts) w) := by
  obtain ⟨Ad, cap, rfl, hl, hm⟩ := sliceK_form h
  have hzl := markAs_length ts k
  rw [hzl] at h hl ⊢
  have hlen : ts.length ≤ 1000000000000 := Nat.le_trans (len_cnt cntA cntA_pos ts) (by omega)
  clear hm hl
  go_enter Try.func12, Try.ntmps12
  go_wp2
  go_loopw [1, 5] (fun q j wr => ∃ i : Nat, i ≤ ts.length ∧ j = .int .i64 i ∧ q = .int .i64 (k + sumL cntA (ts.take i) : Nat) ∧ Below w.heap.size w wr) (fun _ j _ => ts.length - (intOf j).toNat)
  case atStart => exact ⟨0, Nat.zero_le _, rfl, rfl, Below.refl _ _⟩
  case round =>
    obtain ⟨i, hi, rfl, rfl, hb⟩ := hrel
    by_cases hlt : i < ts.length
    · have HLT := Lib.hid hlt
      obtain ⟨b, o, Ae, ce, bk, rfl, _, c0, c1, hel, _⟩ := atoms_el (atomsK_good.below h hb) (k := i) (by rw [hzl]; exact hlt)
      rw [markAs_at hlt] at c0 c1 hel
      have hsn := sumL_snoc cntA ts i hlt
      have hle2 := sumL_le_of_lt cntA ts i hlt
      clear h hzl
      have hlt' : (i : Int) < (ts.length : Int) := by omega
      have hk0 : (0 : Int) ≤ (i : Int) := by omega
      generalize ts[i] = a at *
      obtain ⟨q, hq⟩ : ∃ q, q = k + sumL cntA (ts.take i) := ⟨_, rfl⟩
      rw [← hq] at c0 c1 hel ⊢
      have hca : cntA a = 1 + 2 * a.args.length := rfl
      have hq1 : q + 1 + 2 * a.args.length ≤ 1000000000000 := by omega
      have d0 : (0 : Int) ≤ (q : Int) + 1 := by omega
      have d1 : (0 : Int) ≤ (q : Int) + 1 + 2 * (a.args.length : Int) := by omega
      have HQ := Lib.hid hq
      have HSN := Lib.hid hsn
      have HC := Lib.hid hca
      have ht := atom_args hel
      dsimp only [mkA] at c0 c1 ht
      rw [markTs_length] at c1 ht
      clear hq hsn hle2 hca hel
      have hD : Below wr.heap.size wr wr.drew := Below.drew (Below.refl _ _)
      go_wp2
      go_region_held3 (fun w' => w'.cell? ⟨b, o + i * 2, none⟩ = some (.string (markText q))) (first | go_keep | exact cell_later hw2 c0)
        (first | (go_at_call 30; refine (markText_any q _ (by omega)).mono ?_; rintro e w2 ⟨rfl, hw2⟩))
      have hB2 := hD.trans hw2
      have B2 := hb.trans (hB2.mono hb.size)
      have e1 := cell_later hB2 c1
      have hh := heldTermS_any a.args _ bk (q + 1) w2 (termsK_good.below ht hB2) hq1
      clear ht c0 c1
      go_wp2_with fail
      refine hh.mono ?_
      rintro e w4 ⟨rfl, hb4⟩
      clear hh
      have B4 := B2.trans (hb4.mono B2.size)
      go_wp2_with fail
      go_roundw
      case rel => exact ⟨i + 1, HLT.out, by go_num, by have := HQ.out; have := HSN.out; have := HC.out; go_num, B4⟩
      case measure => have := HLT.out; simp [intOf]; omega
    · have he : i = ts.length := by omega
      subst he
      have HT : Hid (ts.take ts.length = ts) := Lib.hid (List.take_of_length_le (Nat.le_refl _))
      go_wp2
      go_ret
      exact ⟨by rw [HT.out]; rfl, hb⟩

end Go.Proofs.Ytlmngncogomgeaa
namespace Go.Proofs.Ytlmngncogomgeaa
open Go.RowKit D Go.ChangeShapes Go.WideShapes
set_option linter.unusedVariables false
theorem opProof : Opens Try.prog 27 (fun w cs p bs => ∃ n, proofK n w cs p bs) := fun H enc w spare held fuel cs y h => by
  have h1 := opensF_proof Try.underlying27 (by kernel_rfl) opAtom Try.underlying3 Try.underlying25 (by kernel_rfl) (by kernel_rfl) (by kernel_rfl) rfl rfl rfl fuel
  obtain ⟨x, bs, hx⟩ := h1 H enc w spare held fuel cs y (Nat.le_refl _) h
  exact ⟨x, bs, fuel, hx⟩

end Go.Proofs.Ytlmngncogomgeaa
