/- Of the proof of FnOnce: ArgsI, HeadsI. -/
import Derived.Test.YtjjfafgaphloaaaGreatDoorM13
namespace Go.Proofs.YtjjfafgaphloaaaGreatDoor
open Go.RowKit D
set_option linter.unusedVariables false
attribute [local go_sem ↓] Go.wp_at_zero Go.wp_at_succ
/-- The map, its box and the box of 'alike', all of the call's own. -/
structure D.NInv (w : World) (B n : Nat) (st : List ByteArray × (ByteArray → Int) × Bool) (wr : World) : Prop where
  map : MapF B n st.1 st.2.1 wr
  bm : wr.heap[B + 1]? = some (.cells #[.map (some B)] 68 (0, 0))
  bb : wr.heap[B + 2]? = some (.cells #[.bool st.2.2] 4 (0, 0))
  bel : Below B w wr

theorem D.NInv.later {w wr w' : World} {B n : Nat} {st : List ByteArray × (ByteArray → Int) × Bool} (h : NInv w B n st wr) (hb : Below wr.heap.size wr w') : NInv w B n st w' :=
  ⟨h.map.below hb h.map.lt, (hb.block _ (lt_of_block h.bm)).trans h.bm, (hb.block _ (lt_of_block h.bb)).trans h.bb, h.bel.trans (hb.mono (Nat.le_of_lt (Nat.lt_of_le_of_lt (Nat.le_add_right _ _) (lt_of_block h.bm))))⟩

set_option maxRecDepth 100000 in
set_option maxHeartbeats 1000000 in
theorem note_any (a : A) (c0 c1 : Value) (bs : List Nat) (w0 w : World) (B n : Nat) (st : List ByteArray × (ByteArray → Int) × Bool) (h : atomK w [c0, c1] a bs) (hI : NInv w0 B n st w) (hB : w0.heap.size ≤ B)
    (hn : n + 1 ≤ 1000000) (ha : a.args.length ≤ 1000000) (hr : ∀ s ∈ st.1, 0 ≤ st.2.1 s ∧ st.2.1 s ≤ 1000000) :
    Calls Tryz.prog 79 #[.agg #[c0, c1], .pointer (some ⟨B + 1, 0, none⟩), .pointer (some ⟨B + 2, 0, none⟩)] w fun e w' => e = .returned (.tuple #[]) ∧ NInv w0 B (n + 1) (argStep st a) w' ∧ ∀ c, c < w.heap.size → c ≠ B → c ≠ B + 2 → w'.heap[c]? = w.heap[c]? := by
  obtain ⟨s, hcs, hsz, ht⟩ := h
  simp only [List.cons.injEq, and_true] at hcs
  obtain ⟨rfl, rfl⟩ := hcs
  obtain ⟨Ad, cap, rfl, hl, hm⟩ := sliceK_form ht
  have hlm := nat_ge_max (Nat.le_trans hl hm)
  obtain ⟨nm, args⟩ := a
  obtain ⟨L, f, al⟩ := st
  dsimp only at *
  have hb1 := lt_of_block hI.bm
  have hb2 := lt_of_block hI.bb
  have cM : w.cell? ⟨B + 1, 0, none⟩ = some (.map (some B)) := cell_of_one hI.bm
  have cB : w.cell? ⟨B + 2, 0, none⟩ = some (.bool al) := cell_of_one hI.bb
  have fB : w.frozen? ⟨B + 2, 0, none⟩ = false := free_of_one hI.bb
  have hM := hI.map
  have HI := Lib.hid hI
  have HSZ := Lib.hid hsz
  have hA : Below w.heap.size w (w.alloc (.cells #[.string nm, .slice Ad args.length cap] 33)) := (Below.refl _ _).alloc (Nat.le_refl _) _
  have HM1 := Lib.hid (hM.below hA hM.lt)
  have HI1 := Lib.hid (hI.later hA)
  have HR := Lib.hid hr
  clear hl hm ht hI hA hM hr
  have put : ∀ w1, MapF B (n + 1) (putNew L nm) (fun t => if t = nm then (args.length : Int) else f t) w1 → (w.alloc (.cells #[.string nm, .slice Ad args.length cap] 33)).grownBy w1 (some B) → ¬ (nm ∈ L ∧ f nm ≠ args.length) → NInv w0 B (n + 1) (argStep (L, f, al) ⟨nm, args⟩) w1 ∧ ∀ c, c < w.heap.size → c ≠ B → c ≠ B + 2 → w1.heap[c]? = w.heap[c]? := fun w1 h1 h2 h3 => by
    have e : argStep (L, f, al) ⟨nm, args⟩ = (putNew L nm, fun t => if t = nm then (args.length : Int) else f t, al) := by unfold argStep; rw [if_neg h3]
    have hi := HI1.out
    rw [e]
    refine ⟨?_, fun c hc h4 h5 => (h2.block c (by simp; omega) (by simpa using h4)).trans (Below.heap_alloc _ _ _ hc)⟩
    exact ⟨h1, (h2.block _ (lt_of_block hi.bm) (by simp)).trans hi.bm, (h2.block _ (lt_of_block hi.bb) (by simp)).trans hi.bb, hi.bel.grown h2 (by have := lt_of_block hi.bm; omega) fun j hj => by cases hj; exact Nat.le_refl _⟩
  have HP := Lib.hid put
  clear put
  by_cases hL : nm ∈ L
  · have hd : decide (nm ∈ L) = true := decide_eq_true hL
    have hv : (if nm ∈ L then f nm else 0) = f nm := if_pos hL
    have hrg := HR.out nm hL
    by_cases hE : f nm = args.length
    · have HN : Hid (¬ (nm ∈ L ∧ f nm ≠ args.length)) := Lib.hid fun h => h.2 hE
      have HD := Lib.hid hd
      have HV : Hid ((if nm ∈ L then f nm else 0) = (args.length : Int)) := Lib.hid (hv.trans hE)
      clear hL hd hv hrg hE HR
      go_enter Tryz.func79, Tryz.ntmps79
      go_wp2_with (first | (at_lookup; refine wpList_mapf_ok _ rfl _ _ _ rfl Tryz.underlying68 B n L f rfl HM1.out nm rfl HSZ.out true HD.out _ HV.out ?_) | (at_mapUpdate; refine wpList_mapf_put _ rfl _ _ _ _ rfl Tryz.underlying68 B n L f rfl HM1.out nm rfl HSZ.out _ rfl (by unfold maxLen; omega) (by omega) ?_; intro w1 hM1 hg1) | go_in)
      go_end0
      exact ⟨rfl, HP.out w1 hM1 hg1 HN.out⟩
    · have HN : Hid (argStep (L, f, al) ⟨nm, args⟩ = (L, f, false)) := Lib.hid (by unfold argStep; rw [if_pos ⟨hL, hE⟩])
      have HD := Lib.hid hd
      have HV := Lib.hid hv
      have HS : Hid (NInv w0 B (n + 1) (L, f, false) ((w.setCell ⟨B + 2, 0, none⟩ (.bool false)).alloc (.cells #[.string nm, .slice Ad args.length cap] 33))) := Lib.hid (by
        have hi := HI.out
        have h1 : NInv w0 B (n + 1) (L, f, false) (w.setCell ⟨B + 2, 0, none⟩ (.bool false)) :=
          ⟨(hi.map.mono (Nat.le_succ n)).setCell (by simp) _, (Below.heap_setCell _ _ _ _ (by simp)).trans hi.bm, one_setCell hi.bb, hi.bel.setCell (by simp) _⟩
        exact h1.later ((Below.refl _ _).alloc (Nat.le_refl _) _))
      clear hL hd hv HR HP
      go_enter Tryz.func79, Tryz.ntmps79
      go_wp2_with (first | (at_lookup; refine wpList_mapf_ok _ rfl _ _ _ rfl Tryz.underlying68 B n L f rfl HM1.out nm rfl HSZ.out true HD.out _ HV.out ?_) | go_in)
      refine bodyPost_ret (results_none rfl _ _ _) rfl ?_
      exact ⟨rfl, by rw [HN.out]; exact HS.out, fun c hc h4 h5 => (Below.heap_alloc _ _ _ (by simpa using hc)).trans (Below.heap_setCell _ _ _ _ h5)⟩
  · have HD : Hid (decide (nm ∈ L) = false) := Lib.hid (decide_eq_false hL)
    have HV : Hid ((if nm ∈ L then f nm else 0) = 0) := Lib.hid (if_neg hL)
    have HN : Hid (¬ (nm ∈ L ∧ f nm ≠ args.length)) := Lib.hid fun h => hL h.1
    clear hL HR
    go_enter Tryz.func79, Tryz.ntmps79
    go_wp2_with (first | (at_lookup; refine wpList_mapf_ok _ rfl _ _ _ rfl Tryz.underlying68 B n L f rfl HM1.out nm rfl HSZ.out false HD.out _ HV.out ?_) | (at_mapUpdate; refine wpList_mapf_put _ rfl _ _ _ _ rfl Tryz.underlying68 B n L f rfl HM1.out nm rfl HSZ.out _ rfl (by unfold maxLen; omega) (by omega) ?_; intro w1 hM1 hg1) | go_in)
    go_end0
    exact ⟨rfl, HP.out w1 hM1 hg1 HN.out⟩

theorem D.argSt_bound {rs : List Ru} (hok : rs.all ruleOk = true) (hf : rs.length ≤ 8) {xs : List A} (hx : ∀ a ∈ xs, a ∈ allAtoms rs) : ∀ s ∈ (argSt xs).1, 0 ≤ (argSt xs).2.1 s ∧ (argSt xs).2.1 s ≤ 1000000 := fun s hs => by
  have := argSt_range (m := 3) (fun a ha => (allAtoms_few hok).1 a (hx a ha)) hs
  omega

theorem D.allAtoms_take {rs : List Ru} (k : Nat) : ∀ a ∈ allAtoms (rs.take k), a ∈ allAtoms rs := fun a ha => by
  obtain ⟨r, hr, h⟩ := allAtoms_mem ha
  exact List.mem_flatMap.2 ⟨r, List.mem_of_mem_take hr, h⟩

theorem D.allAtoms_at {rs : List Ru} {k : Nat} (h : k < rs.length) : ∀ a ∈ ruleAtoms rs[k], a ∈ allAtoms rs := fun a ha => List.mem_flatMap.2 ⟨_, List.getElem_mem h, ha⟩

set_option maxRecDepth 100000 in
set_option maxHeartbeats 2000000 in
theorem argsOf_any (rs : List Ru) (v : Value) (bs : List Nat) (w : World) (h : rulesK w [v] rs bs) (hok : rs.all ruleOk = true) (hf : rs.length ≤ 8) :
    Calls Tryz.prog 35 #[v] w fun e w' => e = .returned (.tuple #[.map (some w.heap.size), .bool (alikeB (allAtoms rs))]) ∧
      ∃ n, MapF w.heap.size n (argSt (allAtoms rs)).1 (argSt (allAtoms rs)).2.1 w' ∧ Below w.heap.size w w' := by
  obtain ⟨Ad, cap, rfl, hl, hm⟩ := sliceK_form h
  have hlm := nat_ge_max (Nat.le_trans hl hm)
  have hmm := @run_makeMap Tryz.prog
  have HI0 : Hid (NInv w w.heap.size 0 (argSt []) (((w.alloc (.map #[] 0)).alloc (.cells #[.map (some w.heap.size)] 68)).alloc (.cells #[.bool true] 4))) := Lib.hid (by
    refine ⟨((MapF.made w _).same ?_), ?_, ?_, ((((Below.refl _ w).alloc (Nat.le_refl _) _).alloc (by simp) _).alloc (by simp; omega) _)⟩
    · exact (Below.heap_alloc _ _ _ (by simp; omega)).trans (Below.heap_alloc _ _ _ (by simp))
    · refine (Below.heap_alloc _ _ _ (by simp)).trans ?_
      simpa using heap_alloc_new (w.alloc (.map #[] 0)) (.cells #[.map (some w.heap.size)] 68)
    · simpa [argSt] using heap_alloc_new ((w.alloc (.map #[] 0)).alloc (.cells #[.map (some w.heap.size)] 68)) (.cells #[.bool true] 4))
  have HBD := Lib.hid (fun xs hx => argSt_bound hok hf (xs := xs) hx)
  have HOK := Lib.hid hok
  have HFE : Hid ((allAtoms rs).length ≤ 40) := Lib.hid (by have := (allAtoms_few hok).2; omega)
  have HFW : Hid (∀ k, (allAtoms (rs.take k)).length ≤ 40) := Lib.hid fun k => by
    have := (allAtoms_few (rs := rs.take k) (List.all_eq_true.2 fun r hr => List.all_eq_true.1 hok r (List.mem_of_mem_take hr))).2
    rw [List.length_take] at this; omega
  clear hl hm hok hf
  go_enter Tryz.func35, Tryz.ntmps35
  go_wp2
  generalize (((w.alloc (.map #[] 0)).alloc (.cells #[.map (some w.heap.size)] 68)).alloc (.cells #[.bool true] 4)) = w0 at *
  go_loopw [15] (fun i wr => ∃ k : Nat, k ≤ rs.length ∧ i = .int .i64 k ∧ NInv w w.heap.size (allAtoms (rs.take k)).length (argSt (allAtoms (rs.take k))) wr) (fun i _ => rs.length - (intOf i).toNat)
  case atStart => exact ⟨0, Nat.zero_le _, rfl, HI0.out⟩
  case round =>
    obtain ⟨k, hk, rfl, hI⟩ := hrel
    clear HI0 hmm
    by_cases hlt : k < rs.length
    · obtain ⟨b, o, Ae, ce, Af, cf, bk, rfl, _, d0, d1, d2, hel, _⟩ := rules_el h hlt
      replace d0 := cell_later hI.bel d0
      replace d1 := cell_later hI.bel d1
      replace d2 := cell_later hI.bel d2
      have hk0 : (0 : Int) ≤ (k : Int) := by omega
      have hk1 : (k : Int) < (rs.length : Int) := by omega
      have hA : Below wr.heap.size wr (wr.alloc (.cells #[.string rs[k].head.name, .slice Ae rs[k].head.args.length ce, .slice Af rs[k].body.length cf] 53)) := (Below.refl _ _).alloc (Nat.le_refl _) _
      obtain ⟨b1, b2, _, hhd, hbd⟩ := rule_parts hel
      have HBO := Lib.hid hbd
      have HHD := Lib.hid (atomK_good.below (atomK_good.below hhd hI.bel) hA)
      have HLT := Lib.hid hlt
      have HSN := Lib.hid (allAtoms_snoc rs k hlt)
      have hrl := ruleOk_args (List.all_eq_true.1 HOK.out _ (List.getElem_mem hlt))
      have hbl : (rs[k].body.length : Int) ≤ 4 := by have := hrl.1; omega
      have HAT := Lib.hid (allAtoms_at hlt)
      have hal : rs[k].head.args.length ≤ 1000000 := by have := hrl.2.2 rs[k].head (List.mem_cons_self ..); omega
      have HAL := Lib.hid hrl.2.2
      have HI1 := Lib.hid (hI.later hA)
      clear h hel hA hhd hbd hrl
      generalize rs[k] = r at *
      clear hlt
      obtain ⟨⟨nm, args⟩, body⟩ := r
      dsimp only at *
      go_wp2_with fail
      have q2 : (wr.alloc (.cells #[.string nm, .slice Ae args.length ce, .slice Af body.length cf] 53)).cell? ⟨wr.heap.size, 2, none⟩ = some (.slice Af body.length cf) := by go_simp
      have q3 : w.heap.size + 2 < wr.heap.size := lt_of_block hI.bb
      clear hI
      generalize wr.alloc (.cells #[.string nm, .slice Ae args.length ce, .slice Af body.length cf] 53) = w1 at *
      refine (note_any ⟨nm, args⟩ _ _ b1 w w1 w.heap.size _ _ HHD.out HI1.out (Nat.le_refl _) (by have := HFW.out k; omega) hal (HBD.out _ (allAtoms_take k))).mono ?_
      rintro e w2 ⟨rfl, hI2, hK2⟩
      rw [← argSt_snoc] at hI2
      have hlen : (allAtoms (rs.take k) ++ [(⟨nm, args⟩ : A)]).length = (allAtoms (rs.take k)).length + 1 := by simp
      rw [← hlen] at hI2
      have hsub : ∀ a ∈ allAtoms (rs.take k) ++ [(⟨nm, args⟩ : A)], a ∈ allAtoms rs := fun a ha => by
        rcases List.mem_append.1 ha with ha | ha
        · exact allAtoms_take k a ha
        · rw [List.mem_singleton.1 ha]; exact HAT.out _ (List.mem_cons_self ..)
      have e2 : w2.cell? ⟨wr.heap.size, 2, none⟩ = some (.slice Af body.length cf) := by
        rw [World.cell?_of_block (w := w1) (hK2 _ (lt_of_cell q2) (by dsimp only; omega) (by dsimp only; omega))]; exact q2
      have HSB := Lib.hid hsub
      have HI2 := Lib.hid hI2
      have HX : Hid ((allAtoms (rs.take k) ++ [(⟨nm, args⟩ : A)]).length ≤ 41) := Lib.hid (by rw [hlen]; have := HFW.out k; omega)
      clear hsub hI2 hK2 hlen HHD q2 q3
      generalize allAtoms (rs.take k) ++ [(⟨nm, args⟩ : A)] = xs at *
      go_wp2
      go_loopw [26] (fun i wr => ∃ j : Nat, j ≤ body.length ∧ i = .int .i64 j ∧ NInv w w.heap.size (xs ++ partAtoms (body.take j)).length (argSt (xs ++ partAtoms (body.take j))) wr) (fun i _ => body.length - (intOf i).toNat)
      case atStart => exact ⟨0, Nat.zero_le _, rfl, by simpa [partAtoms] using HI2.out⟩
      case round =>
        obtain ⟨j, hj, rfl, hI⟩ := hrel
        clear HI2 HI1
        by_cases hlt : j < body.length
        · obtain ⟨b0, o0, Ag, cg, bg, rfl, _, f0, f1, f2, hel, _⟩ := parts_el HBO.out hlt
          replace f0 := cell_later hI.bel f0
          replace f1 := cell_later hI.bel f1
          replace f2 := cell_later hI.bel f2
          have hj0 : (0 : Int) ≤ (j : Int) := by omega
          have hj1 : (j : Int) < (body.length : Int) := by omega
          have HSP := Lib.hid (partAtoms_snoc body j hlt)
          have HLJ := Lib.hid hlt
          have hpm : body[j].atom ∈ ruleAtoms ⟨⟨nm, args⟩, body⟩ := List.mem_cons_of_mem _ (List.mem_map.2 ⟨_, List.getElem_mem hlt, rfl⟩)
          have hpa : body[j].atom.args.length ≤ 1000000 := by have := HAL.out _ hpm; omega
          have hA : Below wr.heap.size wr (wr.alloc (.cells #[.bool body[j].no, .string body[j].atom.name, .slice Ag body[j].atom.args.length cg] 148)) := (Below.refl _ _).alloc (Nat.le_refl _) _
          have HPA := Lib.hid (atomK_good.below (atomK_good.below (part_atom hel) hI.bel) hA)
          have HI3 := Lib.hid (hI.later hA)
          have HX3 : Hid ((xs ++ partAtoms (body.take j)).length + 1 ≤ 1000000) := Lib.hid (by rw [List.length_append, partAtoms_len, List.length_take]; have := HX.out; omega)
          have HS3 : Hid (∀ a ∈ xs ++ partAtoms (body.take j), a ∈ allAtoms rs) := Lib.hid fun a ha => by
            rcases List.mem_append.1 ha with ha | ha
            · exact HSB.out a ha
            · refine HAT.out _ (List.mem_cons_of_mem _ ?_)
              unfold partAtoms at ha
              obtain ⟨p, hp, rfl⟩ := List.mem_map.1 ha
              exact List.mem_map.2 ⟨p, List.mem_of_mem_take hp, rfl⟩
          clear hel hA hI hpm
          generalize body[j] = p at *
          clear hlt
          obtain ⟨no, ⟨pn, pargs⟩⟩ := p
          dsimp only at *
          go_wp2_with fail
          refine (note_any ⟨pn, pargs⟩ _ _ bg w _ w.heap.size _ _ HPA.out HI3.out (Nat.le_refl _) HX3.out hpa (HBD.out _ HS3.out)).mono ?_
          rintro e w3 ⟨rfl, hI4, _⟩
          have HI4 : Hid (NInv w w.heap.size (xs ++ partAtoms (body.take (j + 1))).length (argSt (xs ++ partAtoms (body.take (j + 1)))) w3) := Lib.hid (by
            rw [HSP.out, ← List.append_assoc, argSt_snoc, List.length_append]
            exact hI4)
          clear hI4 HI3 HPA
          go_wp2
          go_roundw
          case rel => exact ⟨j + 1, HLJ.out, by go_num, HI4.out⟩
          case measure => have := HLJ.out; simp [intOf]; omega
        · have he : j = body.length := by omega
          have hj1 : ¬ (j : Int) < (body.length : Int) := by omega
          have HE : Hid (NInv w w.heap.size (allAtoms (rs.take (k + 1))).length (argSt (allAtoms (rs.take (k + 1)))) wr) := Lib.hid (by
            rw [HSN.out]
            subst he
            rw [List.take_of_length_le (Nat.le_refl _)] at hI
            exact hI)
          clear hI he
          go_wp2
          go_roundw
          case rel => exact ⟨k + 1, HLT.out, by go_num, HE.out⟩
          case measure => have := HLT.out; simp [intOf]; omega
    · have he : k = rs.length := by omega
      have hk1 : ¬ (k : Int) < (rs.length : Int) := by omega
      subst he
      rw [List.take_of_length_le (Nat.le_refl _)] at hI
      have cM := cell_of_one hI.bm
      have cB : wr.cell? ⟨w.heap.size + 1 + 1, 0, none⟩ = _ := cell_of_one hI.bb
      have hal := argSt_alike (allAtoms rs)
      rw [hal] at cB
      have HZ : Hid (∃ n, MapF w.heap.size n (argSt (allAtoms rs)).1 (argSt (allAtoms rs)).2.1 wr ∧ Below w.heap.size w wr) := Lib.hid ⟨_, hI.map, hI.bel⟩
      clear hI h hal
      go_wp2
      go_quiet (fail)
      go_wp2
      go_ret2
      obtain ⟨n, h1, h2⟩ := HZ.out
      exact ⟨rfl, n, h1.same rfl, ⟨h2.os, h2.tape, h2.output, h2.size, h2.block⟩⟩

def D.idxI (L : List ByteArray) (s : ByteArray) : Int := (L.idxOf s : Nat)

theorem D.places_snoc (rs : List Ru) (k : Nat) (h : k < rs.length) : placesL (rs.take (k + 1)) = putNew (placesL (rs.take k)) rs[k].head.name := by
  unfold placesL headNames
  rw [List.take_succ_eq_append_getElem h, List.map_append, List.foldl_append]
  rfl

theorem D.idx_put {L : List ByteArray} {s : ByteArray} (h : s ∉ L) : ∀ t ∈ putNew L s, (if t = s then (L.length : Int) else idxI L t) = idxI (putNew L s) t := fun t ht => by
  unfold idxI putNew at *
  rw [if_neg h] at *
  by_cases e : t = s
  · subst e
    rw [if_pos rfl, List.idxOf_append, if_neg h]
    simp
  · rw [if_neg e]
    have : t ∈ L := by simpa [e] using ht
    rw [List.idxOf_append, if_pos this]

set_option maxRecDepth 100000 in
set_option maxHeartbeats 1000000 in
theorem headPlaces_any (rs : List Ru) (v : Value) (bs : List Nat) (w : World) (h : rulesK w [v] rs bs) (hf : rs.length ≤ 1000000) :
    Calls Tryz.prog 165 #[v] w fun e w' => e = .returned (.map (some w.heap.size)) ∧ (∃ n, MapF w.heap.size n (placesL rs) (idxI (placesL rs)) w') ∧ Below w.heap.size w w' := by
  obtain ⟨Ad, cap, rfl, hl, hm⟩ := sliceK_form h
  have hlm := nat_ge_max (Nat.le_trans hl hm)
  have hmm := @run_makeMap Tryz.prog
  have HM0 := Lib.hid (MapF.made w (idxI []))
  have hA0 : Below w.heap.size w (w.alloc (.map #[] 0)) := (Below.refl _ _).alloc (Nat.le_refl _) _
  have HB0 := Lib.hid hA0
  clear hl hm hA0
  go_enter Tryz.func165, Tryz.ntmps165
  go_wp2
  generalize w.alloc (.map #[] 0) = w0 at *
  go_loopw [11] (fun i wr => ∃ k : Nat, k ≤ rs.length ∧ i = .int .i64 k ∧ MapF w.heap.size k (placesL (rs.take k)) (idxI (placesL (rs.take k))) wr ∧ Below w.heap.size w wr) (fun i _ => rs.length - (intOf i).toNat)
  case atStart => exact ⟨0, Nat.zero_le _, rfl, HM0.out, HB0.out⟩
  case round =>
    obtain ⟨k, hk, rfl, hM, hB⟩ := hrel
    clear HM0 HB0 hmm
    by_cases hlt : k < rs.length
    · obtain ⟨b, o, Ae, ce, Af, cf, bk, rfl, _, d0, d1, d2, hel, _⟩ := rules_el h hlt
      replace d0 := cell_later hB d0
      replace d1 := cell_later hB d1
      replace d2 := cell_later hB d2
      have hk0 : (0 : Int) ≤ (k : Int) := by omega
      have hk1 : (k : Int) < (rs.length : Int) := by omega
      have hA : Below wr.heap.size wr (wr.alloc (.cells #[.string rs[k].head.name, .slice Ae rs[k].head.args.length ce, .slice Af rs[k].body.length cf] 53)) := (Below.refl _ _).alloc (Nat.le_refl _) _
      have HLT := Lib.hid hlt
      have HSN := Lib.hid (places_snoc rs k hlt)
      have HSZ : Hid (rs[k].head.name.size ≤ maxLen) := Lib.hid (by obtain ⟨_, _, _, _, _, hs, _⟩ := hel; exact hs)
      have HM := Lib.hid (hM.below hA hM.lt)
      have HB := Lib.hid (hB.trans (hA.mono hB.size))
      have HLE : Hid ((placesL (rs.take k)).length ≤ 1000000) := Lib.hid (by have := hM.len_le; omega)
      have hkn : k < maxLen := by unfold maxLen; omega
      clear h hel hA hM hB
      generalize rs[k] = r at *
      generalize placesL (rs.take k) = L at *
      clear hlt
      obtain ⟨⟨nm, args⟩, body⟩ := r
      dsimp only at *
      by_cases hL : nm ∈ L
      · have HD : Hid (decide (nm ∈ L) = true) := Lib.hid (decide_eq_true hL)
        have HV : Hid ((if nm ∈ L then idxI L nm else 0) = idxI L nm) := Lib.hid (if_pos hL)
        have HP : Hid (placesL (rs.take (k + 1)) = L) := Lib.hid (by rw [HSN.out]; unfold putNew; rw [if_pos hL])
        clear hL HSN
        go_wp2_with (first | (at_lookup; refine wpList_mapf_ok _ rfl _ _ _ rfl Tryz.underlying68 _ _ L _ rfl HM.out nm rfl HSZ.out true HD.out _ HV.out ?_) | go_in)
        go_roundw
        case rel => exact ⟨k + 1, HLT.out, by go_num, by rw [HP.out]; exact HM.out.mono (Nat.le_succ k), HB.out⟩
        case measure => have := HLT.out; simp [intOf]; omega
      · have HD : Hid (decide (nm ∈ L) = false) := Lib.hid (decide_eq_false hL)
        have HV : Hid ((if nm ∈ L then idxI L nm else 0) = 0) := Lib.hid (if_neg hL)
        have HI := Lib.hid (idx_put hL)
        have hle := HLE.out
        clear hL
        go_wp2_with (first | (at_lookup; refine wpList_mapf_ok _ rfl _ _ _ rfl Tryz.underlying68 _ _ L _ rfl HM.out nm rfl HSZ.out false HD.out _ HV.out ?_) | (at_len; refine wpList_mapf_len _ rfl _ _ rfl Tryz.underlying68 _ _ L _ rfl HM.out ?_) | (at_mapUpdate; refine wpList_mapf_put _ rfl _ _ _ _ rfl Tryz.underlying68 _ _ L _ rfl HM.out nm rfl HSZ.out _ rfl hkn (by omega) ?_; intro w1 hM1 hg1) | go_in)
        have HM1 := Lib.hid (hM1.congr HI.out)
        have HB1 := Lib.hid (HB.out.grown hg1 (by have := HB.out.size; exact this) fun j hj => by cases hj; exact Nat.le_refl _)
        clear hM1 hg1
        go_roundw
        case rel => exact ⟨k + 1, HLT.out, by go_num, by rw [HSN.out]; exact HM1.out, HB1.out⟩
        case measure => have := HLT.out; simp [intOf]; omega
    · have he : k = rs.length := by omega
      have hk1 : ¬ (k : Int) < (rs.length : Int) := by omega
      subst he
      rw [List.take_of_length_le (Nat.le_refl _)] at hM
      have HM := Lib.hid hM
      clear hM h
      go_wp2
      go_ret
      exact ⟨rfl, ⟨_, HM.out⟩, hB⟩

end Go.Proofs.YtjjfafgaphloaaaGreatDoor
