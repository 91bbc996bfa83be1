/- Of the proof of FnExactProofNeeds: NdsF. -/
import Derived.Shelf.SlSortCmp.NoneTotal
import Derived.Test.YtlmngncogomgeaaM19
import Derived.Test.YtlmngncogomgeaaM16
import Derived.Test.YtlmngncogomgeaaM13
namespace Go.Proofs.Ytlmngncogomgeaa
open Go.Shelf Go.RowKit Go.Lib Go.Sort D
set_option linter.unusedVariables false
abbrev D.CFN : Nat := 23

theorem D.setCells_below {B b : Nat} (hb : B ≤ b) : ∀ (vs : List Value) (o : Nat) {w w1 : World}, Below B w w1 → Below B w (w1.setCells b o vs)
  | [], _, _, _, h => h
  | v :: r, o, w, w1, h => setCells_below hb r (o + 1) (w1 := w1.setCell ⟨b, o, none⟩ v) (Below.setCell h hb v)

theorem D.heap_setCells {b x : Nat} (hx : x ≠ b) : ∀ (vs : List Value) (o : Nat) (w : World), (w.setCells b o vs).heap[x]? = w.heap[x]?
  | [], _, _ => rfl
  | v :: r, o, w => (heap_setCells hx r (o + 1) (w.setCell ⟨b, o, none⟩ v)).trans (Below.heap_setCell _ _ _ _ hx)

theorem D.sortW_below {α : Type} [Inhabited α] (enc : α → List Value) (k : Nat) (w : World) (g n : Nat) (d : Array α) (os : Array Obj) {B : Nat} (hB : B ≤ g) (hg : g < w.heap.size) : Below B w (sortWorldK enc k w g 0 n d os) :=
  ⟨rfl, rfl, rfl, size_sortWorldK_c enc k w g 0 n d os, fun x hx => sortW_other enc k w g n d os (by omega) (by omega)⟩

theorem D.zeroAtom (w : World) : (zeroValue 33).run Try.prog w = .ok (.agg #[.string ⟨#[]⟩, .slice none 0 0]) w := by kernel_rfl

set_option maxHeartbeats 1000000 in
theorem stable_none (p : Option Addr) (cap : Nat) (fv : Value) (w : World) : Calls Try.prog 37 #[.slice p 0 cap, .int .i64 0, fv] w fun e w' => e = .returned (.tuple #[]) ∧ w' = w := by
  have hi : ∀ w, Calls Try.prog 46 #[.slice p 0 cap, .int .i64 0, .int .i64 0, fv] w fun e w' => e = .returned (.tuple #[]) ∧ w' = w := fun w => AnyF.insertionSortCmpFunc_none Try.insA p cap fv w
  go_enter Try.func37, Try.ntmps37
  go_wp2
  refine wp_loop_rounds 1 ?_
  rw [rounds_succ]
  go_wp2_with (go_at_call 46; refine (hi _).mono ?_; rintro e w1 ⟨rfl, rfl⟩)
  refine wp_loop_rounds 1 ?_
  rw [rounds_succ]
  go_wp2
  all_goals first | (exfalso; omega) | (go_end0; exact ⟨rfl, rfl⟩)

set_option maxHeartbeats 1000000 in
theorem sortStable_none (p : Option Addr) (cap : Nat) (fv : Value) (w : World) : Calls Try.prog 21 #[.slice p 0 cap, fv] w fun e w' => e = .returned (.tuple #[]) ∧ w' = w := by
  have hi := stable_none p cap fv w
  go_enter Try.func21, Try.ntmps21
  go_wp2_with fail
  refine hi.mono ?_
  rintro e w1 ⟨rfl, rfl⟩
  go_wp2_with fail
  go_end0
  exact ⟨rfl, rfl⟩

/-- A row compacted, read as facts. -/
theorem D.comp_read {w : World} {g cap N base : Nat} [Inhabited (FcIn w g)] {eq : FcIn w g → FcIn w g → Bool} {d0 d : Array (FcIn w g)} (R : RowK FcIn.enc 2 w g 0 d0) (hN : d0.size = N) (hb : base ≤ g) (hcm : cap ≤ maxLen) (hcap : N ≤ cap) {e : Ending} {w' : World} (h : CompPost FcIn.enc 2 w g 0 cap N eq d e w') :
    Below base w w' ∧ ∃ v' b', e = .returned v' ∧ atomsK w' [v'] ((kepU eq d N).map fun x => x.1.t) b' := by
  obtain ⟨rfl, dk, W, vs, hdk, hlow, ⟨n, os, rfl⟩, rfl⟩ := h
  have hK := kepU_len eq d N
  have hB := setCells_below hb vs (0 + (kepU eq d N).length * 2) (sortW_below FcIn.enc 2 w g n dk os hb R.hblk)
  have hH := holdsK_sortWorldK_c FcIn.enc 2 w g 0 d0 dk n os R.hH R.hblk (by omega)
  have hget : ∀ k, k < (kepU eq d N).length → (kepU eq d N)[k]! = dk[k]! := fun k hk => (hlow k hk).symm
  generalize hKl : kepU eq d N = K at *
  by_cases hne : K = []
  · subst hne
    exact ⟨hB, _, [], rfl, some ⟨g, 0, none⟩, cap, rfl, Nat.zero_le _, hcm, fun _ => rfl, fun h => absurd rfl h⟩
  refine ⟨hB, _, g :: (List.range (K.map fun x => x.1.t).length).flatMap (fun k => Classical.choose K[k]!.2), rfl, some ⟨g, 0, none⟩, cap, by rw [List.length_map], by rw [List.length_map]; omega, hcm, fun h => absurd (List.map_eq_nil_iff.1 h) hne, fun _ => ⟨g, 0, rfl, fun k => FcIn.enc K[k]!, fun k => Classical.choose K[k]!.2, rfl, fun k x hx => ?_⟩⟩
  · rw [List.getElem?_map] at hx
    obtain ⟨y, hy, rfl⟩ := Option.map_eq_some_iff.1 hx
    obtain ⟨hkl, rfl⟩ := List.getElem?_eq_some_iff.1 hy
    have hkk : K[k]! = K[k] := getElem!_pos K k hkl
    refine ⟨rfl, fun j v hv => ?_, ?_⟩
    · have hj : j < 2 := by
        have := (List.getElem?_eq_some_iff.1 hv).1
        simpa [FcIn.enc, Fc.enc] using this
      rw [World.cell?_setCells_out g _ _ _ _ (fun _ _ => .inl (by
        have : k * 2 + 2 ≤ K.length * 2 := by omega
        show 0 + (k * 2 + j) < 0 + K.length * 2
        omega))]
      have h1 := (hH.cell (i := k) (c := j) (by omega) hj).1
      rw [← hget k hkl] at h1
      rw [← Nat.add_assoc, h1]
      rw [getElem!_pos _ j (by simpa [FcIn.enc, Fc.enc] using hj)]
      rw [List.getElem?_eq_getElem (by simpa [FcIn.enc, Fc.enc] using hj)] at hv
      exact hv
    · have hc := Classical.choose_spec K[k]!.2
      show atomK _ (FcIn.enc K[k]!) K[k].1.t (Classical.choose K[k]!.2)
      rw [← hkk]
      refine atomK_good.keep hc.1 fun b hb' => ?_
      have hne : b ≠ g := fun e => hc.2 (e ▸ hb')
      rw [heap_setCells hne]
      exact sortW_other FcIn.enc 2 w g n dk os (atomK_good.lt hc.1 b hb') hne

set_option maxHeartbeats 2000000 in
theorem sortNeeds_any (xs : List A) (v : Value) (L : List Value) (bs : List Nat) (base : Nat) (w : World) (C : Coll 2 atomK base 33 w v L xs bs) (hsz : xs.length ≤ 16777216) :
    Calls Try.prog 21 #[v, .func (.func 22) #[] #[]] w fun e w1 => e = .returned (.tuple #[]) ∧ Below base w w1 ∧
      Hid (Calls Try.prog CFN #[v, .func (.func 24) #[] #[]] w1 fun e w' => Below base w w' ∧ ∃ v' b', e = .returned v' ∧ atomsK w' [v'] (putsI [] xs) b') := by
  obtain ⟨A0, cap0, rfl⟩ := own_shape C.own
  by_cases hx0 : xs = []
  · subst hx0
    refine (sortStable_none A0 cap0 _ w).mono ?_
    rintro e w1 ⟨rfl, rfl⟩
    obtain ⟨b2, h2, _⟩ := C.slice
    refine ⟨rfl, Below.refl _ _, Lib.hid ((compact_few A0 0 cap0 (by omega) _ w1).mono ?_)⟩
    rintro e w2 ⟨rfl, rfl⟩
    exact ⟨Below.refl _ _, _, b2, rfl, h2⟩
  obtain ⟨zs, e1, e2, e3, hz⟩ := rowed_fqs C.row
  obtain ⟨hlen, hown⟩ := C.own
  rcases hown with ⟨hv, hL⟩ | ⟨g, cap, cur, hv, hg, hh, hc1, hc2, hc3, hc4⟩
  · exact absurd (List.length_eq_zero_iff.1 hL) hx0
  simp only [Value.slice.injEq, true_and] at hv
  obtain ⟨rfl, rfl⟩ := hv
  have hgl : g < w.heap.size := lt_of_block hh
  have hzl : zs.length = xs.length := by rw [← e1]; simp
  have hgz : ∀ z ∈ zs, g ∉ z.ba := fun z hzm hm => C.far g (by rw [← e3]; exact List.mem_flatMap.2 ⟨z, hzm, hm⟩) rfl
  have hcs : ∀ q, q < xs.length * 2 → w.cell? ⟨g, q, none⟩ = L[q]? := fun q hq => by
    rw [cell_of_blk hh, ← hc4, List.getElem?_take_of_lt hq, Array.getElem?_toList]
  have hx1 : 0 < zs.length := by
    rw [hzl]
    exact List.length_pos_iff.2 hx0
  letI : Inhabited (FcIn w g) := ⟨⟨zs[0].fc, zs[0].ba, hz _ (List.getElem_mem hx1), hgz _ (List.getElem_mem hx1)⟩⟩
  obtain ⟨M, hM⟩ : ∃ M : List (FcIn w g), M = zs.attach.map (fun z => ⟨z.1.fc, z.1.ba, hz z.1 z.2, hgz z.1 z.2⟩) := ⟨_, rfl⟩
  have hMl : M.length = xs.length := by rw [hM]; simp [hzl]
  have hMz : ∀ i (h : i < M.length) (h2 : i < zs.length), M[i].1 = zs[i].fc := fun i h h2 => by subst hM; simp
  have hMt : M.map (fun x => x.1.t) = xs := by
    rw [← e1, hM, List.map_map]
    exact List.attach_map_val (l := zs) (f := fun z => z.t)
  have hget : ∀ (i : Nat) (h : i < M.length), M.toArray[i]! = M[i] := fun i h => by simp [getElem!_pos, h]
  have hseg : (seg M.toArray 0 xs.length).map (fun x => x.1.t) = xs := by
    conv => rhs; rw [← hMt]
    unfold seg
    apply List.ext_getElem
    · simp [hMl]
    · intro i h1 h2
      simp at h1 h2
      simp [h2]
  have hH : HoldsK FcIn.enc 2 w g 0 M.toArray := by
    intro j hj
    simp only [size_flatK, List.size_toArray] at hj
    refine ⟨?_, frozen_of_blk hh⟩
    show w.cell? _ = some ((flatK FcIn.enc 2 M.toArray)[j]!)
    rw [get_flatK _ _ _ _ (by simpa using hj), hget (j / 2) (by omega)]
    have h1 := fq_at zs (j / 2) (by omega)
    rw [e2] at h1
    have e : 0 + j = j / 2 * 2 + j % 2 := by omega
    rw [e]
    have hf : FcIn.enc M[j / 2] = [.string zs[j / 2].t.name, zs[j / 2].c1] := by
      unfold FcIn.enc
      rw [hMz (j / 2) (by omega) (by omega)]
      rfl
    rw [hf]
    rcases (show j % 2 = 0 ∨ j % 2 = 1 by omega) with h | h
    · rw [h]; exact (hcs _ (by omega)).trans h1.1
    · rw [h]; exact (hcs _ (by omega)).trans h1.2
  have R : RowK FcIn.enc 2 w g 0 M.toArray := ⟨fun x => rfl, fun x v hv => by
    obtain ⟨b1, h1, _⟩ := x.2
    obtain ⟨Ad, cc, _, h3⟩ := atom_cells2 h1
    unfold FcIn.enc Fc.enc at hv
    rw [h3] at hv
    simp at hv
    rcases hv with rfl | rfl <;> rfl, hH, hgl⟩
  have hds : M.toArray.size = xs.length := by simp [hMl]
  have hat : ∀ (x : FcIn w g) (m : Nat) (os : Array Obj) (dk : Array (FcIn w g)), ∃ b1, atomK (sortWorldK FcIn.enc 2 w g 0 m dk os) [.string x.1.t.name, x.1.c1] x.1.t b1 := fun x m os dk => by
    obtain ⟨b1, h1, n1⟩ := x.2
    exact ⟨b1, atomK_good.keep h1 fun b hb' => sortW_other FcIn.enc 2 w g m dk os (atomK_good.lt h1 b hb') (fun e => n1 (e ▸ hb'))⟩
  have hcmp : CmpLays Try.prog 22 #[] FcIn.enc 2 (FcIn.cf (w := w) (g := g)) g 0 xs.length w := fun m os dk hdk x y => by
    obtain ⟨b1, h1⟩ := hat x m os dk
    obtain ⟨b2, h2⟩ := hat y m os dk
    refine (atomOrder_grew x.1.t y.1.t _ _ _ _ b1 b2 _ h1 h2).mono ?_
    rintro e w' ⟨rfl, hgw⟩
    exact ⟨rfl, hgw.is⟩
  have heq : EqLays Try.prog 24 #[] FcIn.enc 2 (fun x y : FcIn w g => decide (cmpA x.1.t y.1.t = 0)) g 0 xs.length w := fun m os dk hdk x y => by
    obtain ⟨b1, h1⟩ := hat x m os dk
    obtain ⟨b2, h2⟩ := hat y m os dk
    refine (alike_grew x.1.t y.1.t _ _ _ _ b1 b2 _ h1 h2).mono ?_
    rintro e w' ⟨rfl, hgw⟩
    exact ⟨rfl, hgw.is⟩
  refine (sortStable_any 2 Try.isAgg33 Try.sizeOf33 FcIn.enc FcIn.cf swo_cmp 22 #[] (enters_of Try.func22 (by kernel_rfl) rfl) g 0 cap0 xs.length M.toArray w R hds hcmp (by omega)).mono ?_
  rintro e w1 ⟨rfl, d', hMrg, hS⟩
  have hK := needs_law (fun x : FcIn w g => x.1.t) (N := xs.length) swo_cmp hMrg
  rw [hseg] at hK
  obtain ⟨n, os, hw1⟩ := hS
  refine ⟨rfl, by rw [hw1]; exact sortW_below FcIn.enc 2 w g n d' os hg hgl, ?_⟩
  have hfin : ∀ e w', CompPost FcIn.enc 2 w g 0 cap0 xs.length (fun x y : FcIn w g => decide (cmpA x.1.t y.1.t = 0)) d' e w' → RowKit.Below base w w' ∧ ∃ v' b', e = .returned v' ∧ atomsK w' [v'] (putsI [] xs) b' := fun e w' h => by
    have := comp_read R hds hg hc2 hc1 h
    rwa [hK] at this
  have hd' : d'.size = xs.length := by rw [hMrg.size, hds]
  by_cases h2 : xs.length < 2
  · refine Lib.hid ((compact_few (some ⟨g, 0, none⟩) xs.length cap0 h2 _ w1).mono ?_)
    rintro e w2 ⟨rfl, rfl⟩
    have h1 : xs.length = 1 := by omega
    have hk1 : kepU (fun x y : FcIn w g => decide (cmpA x.1.t y.1.t = 0)) d' xs.length = [d'[0]!] := by
      rw [h1, kepU, if_neg (by omega)]; rfl
    refine hfin _ _ ⟨by rw [hk1, h1]; rfl, d', _, [], hd', fun i hi => ?_, ⟨n, os, hw1⟩, rfl⟩
    rw [hk1] at hi ⊢
    obtain rfl : i = 0 := by simpa using hi
    rfl
  · exact Lib.hid ((compactFunc_any 2 Try.isAgg33 Try.sizeOf33 FcIn.enc (fun x y : FcIn w g => decide (cmpA x.1.t y.1.t = 0)) 24 #[] (enters_of Try.func24 (by kernel_rfl) rfl) #[.string ⟨#[]⟩, .slice none 0 0] zeroAtom rfl (fun v hv => by simp at hv; rcases hv with rfl | rfl <;> rfl) g 0 cap0 xs.length M.toArray d' w w1 R hds heq (by omega) hd' hc1 hc2 (by omega) ⟨n, os, hw1⟩).mono hfin)

end Go.Proofs.Ytlmngncogomgeaa
