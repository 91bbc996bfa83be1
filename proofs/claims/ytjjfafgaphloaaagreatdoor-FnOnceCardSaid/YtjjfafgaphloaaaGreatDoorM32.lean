/- Of the proof of FnOnce: Draw4, SeaP, MatI, FctI. -/
import Derived.Test.YtjjfafgaphloaaaGreatDoorM25
import Derived.Test.YtjjfafgaphloaaaGreatDoorM29
namespace Go.Proofs.YtjjfafgaphloaaaGreatDoor
open Go.RowKit D
set_option linter.unusedVariables false
attribute [local go_sem ↓] Go.wp_at_zero Go.wp_at_succ
theorem infoAtomD : (Tryz.prog.info? 33).map (fun i => (i.zero, i.size, i.bytes)) = some (some (.agg #[.string ⟨#[]⟩, .slice none 0 0]), 2, 40) := by kernel_rfl

theorem D.rowed_apart {w : World} {n0 : Nat} (ha : NoSB w n0) {L : List Value} {xs : List A} {bs : List Nat} (h : Rowed 2 atomK w L xs bs) : n0 ∉ bs := by
  obtain ⟨h1, h2, G, rfl, h3⟩ := h
  intro hb
  obtain ⟨j, hj, hc⟩ := List.mem_flatMap.1 hb
  obtain ⟨s, _, _, ht⟩ := h3 j (List.mem_range.1 hj)
  exact terms_apartN ha ht hc

/-- Drawn facts under way: a list in memory of the draw's own. -/
structure FInv (g p : Nat) (w : World) (xs : List A) (v : Value) (wr : World) : Prop where
  coll : ∃ L bs, Coll 2 atomK w.heap.size 33 wr v L xs bs ∧ ∀ b ∈ bs, w.heap.size ≤ b
  small : ∀ a ∈ xs, a.args.length ≤ 4
  rdr : Rdr g p wr
  kept : KeptBut [g] w wr
  glt : g < w.heap.size

section
variable {g p : Nat} {w : World} {xs : List A} {v : Value} {wr : World}
theorem FInv.call {p2 : Nat} {w2 : World} (h : FInv g p w xs v wr) (hR : Rdr g p2 w2) (hK : KeptBut [g] wr w2) : FInv g p2 w xs v w2 := by
  obtain ⟨L, bs, hC, hbb⟩ := h.coll
  exact ⟨⟨L, bs, hC.keptG atomK_good hK h.glt (rowed_apart h.rdr.noSB hC.row), hbb⟩, h.small, hR, h.kept.trans hK, h.glt⟩

theorem FInv.below {w2 : World} (h : FInv g p w xs v wr) (hB : Below wr.heap.size wr w2) : FInv g p w xs v w2 := by
  obtain ⟨L, bs, hC, hbb⟩ := h.coll
  exact ⟨⟨L, bs, hC.below atomK_good hB, hbb⟩, h.small, h.rdr.below hB, h.kept.belowN hB h.kept.size, h.glt⟩

theorem FInv.atoms (h : FInv g p w xs v wr) : ∃ bs, atomsK wr [v] xs bs ∧ ∀ b ∈ bs, w.heap.size ≤ b := by
  obtain ⟨L, bs, hC, hbb⟩ := h.coll
  obtain ⟨b2, hs, h2⟩ := hC.slice
  exact ⟨b2, hs, fun b hb => (h2 b hb).elim id (hbb b)⟩

theorem FInv.shape (h : FInv g p w xs v wr) : ∃ A c, v = .slice A xs.length c := by
  obtain ⟨L, bs, hC, _⟩ := h.coll
  exact own_shape hC.own

/-- Behind l3Put. -/
theorem FInv.put {w2 : World} {xs' : List A} {v' : Value} (h : FInv g p w xs v wr) (hB : Below wr.heap.size wr w2) (hs : ∀ a ∈ xs', a.args.length ≤ 4) {bb : List Nat} (ho : (v' = v ∧ xs' = xs) ∨ ∃ L b9, Coll 2 atomK wr.heap.size 33 w2 v' L xs' b9 ∧ ∀ c ∈ b9, c ∈ bb) (hbb : ∀ c ∈ bb, w.heap.size ≤ c) : FInv g p w xs' v' w2 := by
  rcases ho with ⟨rfl, rfl⟩ | ⟨L, b2, hC, h9⟩
  · exact h.below hB
  · exact ⟨⟨L, b2, hC.mono h.kept.size, fun c hc => hbb c (h9 c hc)⟩, hs, h.rdr.below hB, h.kept.belowN hB h.kept.size, h.glt⟩

end
/-- Drawn facts. -/
def FactsD (m k g p q : Nat) (w : World) (e : Ending) (w' : World) : Prop :=
  ∃ (xs : List A) (v : Value) (p' : Nat), e = .returned v ∧ asc xs = true ∧ xs.length ≤ m ∧ (∀ a ∈ xs, a.args.length ≤ k) ∧ p' ≤ p + q ∧ FInv g p' w xs v w'

set_option maxRecDepth 100000 in
set_option maxHeartbeats 1000000 in
theorem l10Facts_any (g p m : Nat) (w : World) (h : Rdr g p w) (hp : p ≤ 700000) (hm : 1 ≤ m) (hm2 : m ≤ 100) :
    Calls Tryz.prog 54 #[.pointer (some ⟨g, 0, none⟩), .int .i64 m] w (FactsD m 3 g p (8 * m) w) := by
  have hA : Below w.heap.size w (w.alloc (.cells #[] 33)) := (Below.refl _ _).alloc (Nat.le_refl _) _
  have HF : Hid (FInv g p w [] (.slice (some ⟨w.heap.size, 0, none⟩) 0 0) (w.alloc (.cells #[] 33))) := Lib.hid ⟨⟨_, _, Coll.empty (heap_alloc_new w _) (Nat.le_refl _), fun b hb => by simp at hb⟩, fun a ha => by simp at ha, h.below hA, KeptBut.of_below hA, h.lt⟩
  have hpk := pick_any g p m _ HF.out.rdr (by omega) (by omega) (by omega)
  have HP := Lib.hid (And.intro hp hm2)
  clear h hp hm hm2 hA
  go_enter Tryz.func54, Tryz.ntmps54
  go_wp2_with fail
  refine hpk.mono ?_
  rintro e w1 ⟨n, rfl, hn, hR1, hG1⟩
  have HF1 := Lib.hid (HF.out.call hR1 (KeptBut.of_grown hG1))
  have HN : Hid (n < m) := Lib.hid (by omega)
  clear hpk hR1 hG1 HF hn
  go_wp2
  go_loopw [5, 6] (fun v i wr => ∃ (k : Nat) (xs : List A) (Av : Option Addr) (cp p' : Nat), k ≤ n ∧ i = .int .i64 k ∧ v = .slice Av xs.length cp ∧ asc xs = true ∧ xs.length + k ≤ n ∧ (∀ a ∈ xs, a.args.length ≤ 3) ∧ p' + 7 * k ≤ p + 1 + 7 * n ∧ FInv g p' w xs (.slice Av xs.length cp) wr) (fun _ i _ => (intOf i).toNat)
  case atStart => exact ⟨n, [], _, _, p + 1, Nat.le_refl _, rfl, rfl, rfl, by simp, fun a ha => by simp at ha, by omega, HF1.out⟩
  case round =>
    obtain ⟨k, xs, Av, cp, p', hk, rfl, rfl, hs, hx, hsm, hp, hF⟩ := hrel
    have HF2 := Lib.hid hF
    have HX : Hid (asc xs = true ∧ xs.length + k ≤ n ∧ (∀ a ∈ xs, a.args.length ≤ 3) ∧ p' + 7 * k ≤ p + 1 + 7 * n) := Lib.hid ⟨hs, hx, hsm, hp⟩
    have HQ : Hid (p' ≤ 800000 ∧ k ≤ 100) := Lib.hid (by have := HP.out; have := HN.out; omega)
    clear hF HF1 hs hx hsm hp
    by_cases hk0 : 0 < k
    · have hki : (0 : Int) < (k : Int) := by omega
      have hk3 : (k : Int) ≤ 100 := by have := HQ.out.2; omega
      have HK := Lib.hid hk0
      have hc := l10Fact_any g p' wr HF2.out.rdr HQ.out.1
      clear hk hk0
      go_wp2_with fail
      refine hc.mono ?_
      rintro e w2 ⟨a, v2, L2, p2, rfl, hs2, hx2, hC2, hR2, hp2, hK2⟩
      obtain ⟨b2, hsl, hfar⟩ := hC2.slice
      have HFA : Hid (∀ c ∈ b2, w.heap.size ≤ c) := Lib.hid (fun c hc => Nat.le_trans HF2.out.kept.size ((hfar c hc).resolve_right (by simp)))
      clear hfar
      have hat : atomK w2 [.string a.name, v2] a b2 := ⟨_, rfl, Sm.max hs2, hsl⟩
      obtain ⟨A2, c2, rfl⟩ := own_shape hC2.own
      have HF3 := Lib.hid (HF2.out.call hR2 hK2)
      obtain ⟨b3, hxs, hfb⟩ := HF3.out.atoms
      have HFB := Lib.hid hfb
      clear hfb
      have hput := l3Put_own xs a _ _ _ b3 b2 w2 hxs hat HX.out.1 (by have := HX.out.2.1; have := HP.out; have := HN.out; omega)
      have HA3 : Hid (a.args.length ≤ 3 ∧ p2 ≤ p' + 7) := Lib.hid ⟨hx2, hp2⟩
      clear hc hC2 hR2 hK2 hsl hat hxs hs2 hx2 hp2
      go_wp2_with fail
      refine hput.mono ?_
      rintro e w3 ⟨hb3, v3, b4, rfl, hR3, ho⟩
      have HF4 := Lib.hid (HF3.out.put (xs' := insA xs a) hb3 (fun y hy => by rcases mem_ins hy with hy | rfl; exact Nat.le_succ_of_le (HX.out.2.2.1 y hy); exact Nat.le_succ_of_le HA3.out.1) ho (fun c hc => (List.mem_append.1 hc).elim (HFB.out c) (HFA.out c)))
      obtain ⟨A3, c3, rfl, _, _⟩ := sliceK_form hR3
      clear hput hR3 ho HF3 HF2
      go_wp2
      go_roundw
      case rel => exact ⟨k - 1, insA xs a, A3, c3, p2, by have := HX.out.2.1; omega, by have := HK.out; first | (unfold wrap64; congr 1; omega) | go_num, rfl, asc_ins HX.out.1 a, by have := ins_length_le xs a; have := HX.out.2.1; have := HK.out; omega, fun y hy => by rcases mem_ins hy with hy | rfl; exact HX.out.2.2.1 y hy; exact HA3.out.1, by have := HX.out.2.2.2; have := HA3.out.2; have := HK.out; omega, HF4.out⟩
      case measure => have := HK.out; simp [intOf]; omega
    · obtain rfl : k = 0 := by omega
      clear hk hk0
      go_wp2
      go_ret
      exact ⟨xs, _, p', rfl, HX.out.1, by have := HX.out.2.1; have := HN.out; omega, HX.out.2.2.1, by have := HX.out.2.2.2; have := HN.out; omega, HF2.out⟩

end Go.Proofs.YtjjfafgaphloaaaGreatDoor
namespace Go.Proofs.YtjjfafgaphloaaaGreatDoor
open Go.RowKit D
set_option linter.unusedVariables false
/-- What lies in the search's block sk beside the bindings (from cell 18 on). -/
structure D.SeaV (sk sb : Nat) (v1 v2 : Value) (wt : Nat → Bool) (io : Bool) (ah : Int) (tell : Value) (w : World) : Prop where
  st : w.cell? ⟨sk, 0, none⟩ = some (.pointer (some ⟨sb, 0, none⟩))
  p1 : w.cell? ⟨sk, 1, none⟩ = some v1
  p2 : w.cell? ⟨sk, 2, none⟩ = some v2
  wd : ∀ i, i < 12 → w.cell? ⟨sk, 4 + i, none⟩ = some (.bool (wt i))
  io : w.cell? ⟨sk, 16, none⟩ = some (.bool io)
  ah : w.cell? ⟨sk, 17, none⟩ = some (.int .i64 ah)
  tl : w.cell? ⟨sk, 43, none⟩ = some tell

section
variable {sk sb : Nat} {v1 v2 : Value} {wt : Nat → Bool} {io : Bool} {ah : Int} {tell : Value} {w w' : World}
theorem D.SeaV.keep (h : SeaV sk sb v1 v2 wt io ah tell w) (e : w'.heap[sk]? = w.heap[sk]?) : SeaV sk sb v1 v2 wt io ah tell w' :=
  ⟨(World.cell?_of_block e).trans h.st, (World.cell?_of_block e).trans h.p1, (World.cell?_of_block e).trans h.p2, fun i hi => (World.cell?_of_block e).trans (h.wd i hi), (World.cell?_of_block e).trans h.io, (World.cell?_of_block e).trans h.ah, (World.cell?_of_block e).trans h.tl⟩

theorem D.SeaV.lt (h : SeaV sk sb v1 v2 wt io ah tell w) : sk < w.heap.size := lt_of_cell h.st

end
/-- All that matters is bound. -/
def D.setB (vars : List ByteArray) (b : Bd) (wt : Nat → Bool) : Bool := (List.range 12).all fun i => !wt i || decide (wrd vars b i ≠ ⟨#[]⟩)

theorem D.setB_iff {vars : List ByteArray} {b : Bd} {wt : Nat → Bool} : setB vars b wt = true ↔ ∀ i, i < 12 → wt i = true → wrd vars b i ≠ ⟨#[]⟩ := by
  unfold setB
  rw [List.all_eq_true]
  constructor
  · intro h i hi hw
    have := h i (List.mem_range.2 hi)
    simpa [hw] using this
  · intro h i hi
    have hi := List.mem_range.1 hi
    cases hw : wt i
    · rfl
    · simpa using h i hi hw

end Go.Proofs.YtjjfafgaphloaaaGreatDoor
namespace Go.Proofs.YtjjfafgaphloaaaGreatDoor
open Go.RowKit D
set_option linter.unusedVariables false
attribute [local go_sem ↓] Go.wp_at_zero Go.wp_at_succ
theorem D.toL_ne {a b : ByteArray} (h : ¬ a = b) : ¬ a.toList = b.toList := by
  rw [ByteArray.toList_eq, ByteArray.toList_eq]
  exact fun e => h (ByteArray.ext (Array.toList_inj.mp e))

theorem D.toL_full {a : ByteArray} (h : a ≠ ⟨#[]⟩) : a.toList.isEmpty = false := by
  rw [ByteArray.toList_eq, List.isEmpty_eq_false_iff]
  intro e
  apply h
  apply ByteArray.ext
  exact Array.toList_inj.mp e

theorem D.toL_none : (⟨#[]⟩ : ByteArray).toList.isEmpty = true := by rw [ByteArray.toList_eq]; rfl

/-- What matching leaves. -/
structure D.MatPost (vars : List ByteArray) (blk o : Nat) (w : World) (b : Bd) (w' : World) : Prop where
  at_ : BdAt vars b blk o w'
  ok : BdOk vars b
  kept : BdKept blk o w w'

set_option maxRecDepth 100000 in
set_option maxHeartbeats 4000000 in
theorem matchI_any (vars : List ByteArray) (hv : VarsOk vars) (b : Bd) (hbo : BdOk vars b) (a f : A) (Ae Af : Option Addr) (ce cf : Nat) (b1 b2 : List Nat) (blk o : Nat) (w : World) (hb : BdAt vars b blk o w) (h : slotsK vars w [.slice Ae a.args.length ce] a.args b1)
    (hf : termsK w [.slice Af f.args.length cf] f.args b2) (hin : ∀ t ∈ a.args, t.var = true → t.name ∈ vars) (hc : ∀ t ∈ a.args, t.var = false → t.name ≠ ⟨#[]⟩) (hg : ∀ t ∈ f.args, t.var = false ∧ t.name ≠ ⟨#[]⟩) (h1 : blk ∉ b1) (h2 : blk ∉ b2) (hal : a.args.length ≤ 1000000) :
    Calls Tryz.prog 144 #[.pointer (some ⟨blk, o, none⟩), .agg #[.string a.name, .slice Ae a.args.length ce], .agg #[.string f.name, .slice Af f.args.length cf]] w fun e w' => e = .returned (.bool (matchB a f b).2) ∧ MatPost vars blk o w (matchB a f b).1 w' := by
  obtain ⟨an, args⟩ := a
  obtain ⟨fn, fargs⟩ := f
  dsimp only at *
  have hA : Below w.heap.size w ((w.alloc (.cells #[.string an, .slice Ae args.length ce] 104)).alloc (.cells #[.string fn, .slice Af fargs.length cf] 33)) := ((Below.refl _ _).alloc (Nat.le_refl _) _).alloc (by simp) _
  have HA := Lib.hid hA
  have hblk := hb.lt
  by_cases hnl : an = fn ∧ args.length = fargs.length
  rotate_left
  · have e0 : matchB ⟨an, args⟩ ⟨fn, fargs⟩ b = (b, false) := by unfold matchB; rw [if_neg hnl]
    rw [e0]
    have HP : Hid (MatPost vars blk o w b ((w.alloc (.cells #[.string an, .slice Ae args.length ce] 104)).alloc (.cells #[.string fn, .slice Af fargs.length cf] 33))) := Lib.hid ⟨hb.keep (hA.block _ hblk), hbo, BdKept.of_below hA hblk⟩
    clear hA hb hf h e0
    by_cases hn : an = fn
    · have hl : ¬ ((args.length : Nat) : Int) = ((fargs.length : Nat) : Int) := fun e => hnl ⟨hn, by omega⟩
      subst hn
      go_enter Tryz.func144, Tryz.ntmps144
      go_wp2
      go_ret
      exact ⟨rfl, HP.out⟩
    · have hn' := toL_ne hn
      go_enter Tryz.func144, Tryz.ntmps144
      go_wp2
      go_ret
      exact ⟨rfl, HP.out⟩
  · obtain ⟨rfl, hl⟩ := hnl
    have e0 : matchB ⟨an, args⟩ ⟨an, fargs⟩ b = matchT args fargs b := by unfold matchB; rw [if_pos ⟨rfl, hl⟩]
    rw [e0, hl]
    rw [hl] at h hA HA hal
    have hm0 : (w.alloc (.cells #[.string an, .slice Ae fargs.length ce] 104)).heap.size = w.heap.size + 1 := by simp
    have hq0 : ((w.alloc (.cells #[.string an, .slice Ae fargs.length ce] 104)).alloc (.cells #[.string an, .slice Af fargs.length cf] 33)).heap[w.heap.size + 1]? = some (.cells #[.string an, .slice Af fargs.length cf] 33 (0, 0)) := by
      have := heap_alloc_new (w.alloc (.cells #[.string an, .slice Ae fargs.length ce] 104)) (.cells #[.string an, .slice Af fargs.length cf] 33)
      simpa using this
    have HX := Lib.hid (And.intro h (And.intro hf (And.intro hin (And.intro hc hg))))
    have HI0 : Hid (matchT args fargs b = matchT (args.drop 0) (fargs.drop 0) b ∧ MatPost vars blk o w b ((w.alloc (.cells #[.string an, .slice Ae fargs.length ce] 104)).alloc (.cells #[.string an, .slice Af fargs.length cf] 33)) ∧ ((w.alloc (.cells #[.string an, .slice Ae fargs.length ce] 104)).alloc (.cells #[.string an, .slice Af fargs.length cf] 33)).heap[w.heap.size + 1]? = some (.cells #[.string an, .slice Af fargs.length cf] 33 (0, 0))) :=
      Lib.hid ⟨rfl, ⟨hb.keep (hA.block _ hblk), hbo, BdKept.of_below hA hblk⟩, hq0⟩
    clear hA hb hf h e0 hin hc hg hbo HA hq0 hm0
    go_enter Tryz.func144, Tryz.ntmps144
    go_wp2
    generalize (w.alloc (.cells #[.string an, .slice Ae fargs.length ce] 104)).alloc (.cells #[.string an, .slice Af fargs.length cf] 33) = W at *
    go_loopw [28] (fun i wr => ∃ (k : Nat) (bk : Bd), k ≤ fargs.length ∧ i = .int .i64 k ∧ matchT args fargs b = matchT (args.drop k) (fargs.drop k) bk ∧ MatPost vars blk o w bk wr ∧ wr.heap[w.heap.size + 1]? = some (.cells #[.string an, .slice Af fargs.length cf] 33 (0, 0))) (fun i _ => fargs.length - (intOf i).toNat)
    case atStart => exact ⟨0, b, Nat.zero_le _, rfl, HI0.out⟩
    case round =>
      obtain ⟨k, bk, hk, rfl, hmt, hI, hq⟩ := hrel
      clear HI0
      by_cases hltf : k < fargs.length
      · have hlt : k < args.length := by omega
        have hws := hI.kept.grow.size
        obtain ⟨bq, oq, rfl, hbq1, f0, f1, hsz⟩ := slots_at (hI.kept.keep (slotsK_good vars) HX.out.1 h1) hlt
        obtain ⟨bq2, oq2, rfl, hbq2, g0, g1, gsz⟩ := terms_at (hI.kept.keep termsK_good HX.out.2.1 h2) hltf
        have HIN := Lib.hid (HX.out.2.2.1 _ (List.getElem_mem hlt))
        have HC := Lib.hid (HX.out.2.2.2.1 _ (List.getElem_mem hlt))
        obtain ⟨hgv, hgn⟩ := HX.out.2.2.2.2 _ (List.getElem_mem hltf)
        have hd1 : args.drop k = args[k] :: args.drop (k + 1) := List.drop_eq_getElem_cons hlt
        have hd2 : fargs.drop k = fargs[k] :: fargs.drop (k + 1) := List.drop_eq_getElem_cons hltf
        rw [hd1, hd2, matchT_prog hI.ok _ _ _ _ HC.out] at hmt
        have hA2 : Below wr.heap.size wr (wr.alloc (.cells #[.int .i64 (slotN vars args[k]), .string (slotS args[k])] 172)) := (Below.refl _ _).alloc (Nat.le_refl _) _
        have hbd := hI.at_.keep (hA2.block _ hI.at_.lt)
        have hcall := wordOf_any vars hv bk args[k] HIN.out blk o _ hbd
        have g0' := cell_later hA2 g0
        have g1' := cell_later hA2 g1
        have hq1 : wr.cell? ⟨w.heap.size + 1, 1, none⟩ = some (.slice (some ⟨bq2, oq2, none⟩) fargs.length cf) := cell_of_blk hq
        replace hq1 := cell_later hA2 hq1
        have hqlt := lt_of_block hq
        have hk0 : (0 : Int) ≤ (k : Int) := by omega
        have hk1 : (k : Int) < (fargs.length : Int) := by omega
        have hgn' := toL_full hgn
        have HMT := Lib.hid hmt
        have HI := Lib.hid hI
        have HA2 := Lib.hid hA2
        have HQ := Lib.hid hq
        have HLT := Lib.hid hltf
        have HGS := Lib.hid gsz
        clear g0 g1
        clear hI hA2 hbd hmt hd1 hd2 hq hsz gsz hk
        generalize hsn : slotN vars args[k] = sn at *
        generalize hss : slotS args[k] = ss at *
        generalize args[k] = t at *
        generalize fargs[k] = f at *
        obtain ⟨fv, fw⟩ := f
        dsimp only at *
        subst hgv
        have HSN := Lib.hid hsn
        clear hlt hltf hsn hss
        go_wp2_with fail
        refine hcall.mono ?_
        rintro e w2 ⟨rfl, hb2⟩
        have hb2' := HA2.out.trans (hb2.mono HA2.out.size)
        have z0 : w2.cell? ⟨wr.heap.size, 0, none⟩ = some (.int .i64 sn) := cell_later hb2 (by go_simp)
        have hz2 : wr.heap.size < w2.heap.size := lt_of_cell z0
        have BD2 := Lib.hid (HI.out.at_.keep (hb2'.block _ HI.out.at_.lt))
        have KP2 := Lib.hid (HI.out.kept.trans (BdKept.of_below hb2' HI.out.at_.lt))
        have HQ2 := Lib.hid ((hb2'.block _ hqlt).trans HQ.out)
        have HOK := Lib.hid HI.out.ok
        have HNE : Hid (blk ≠ wr.heap.size) := Lib.hid (by omega)
        clear hcall hb2 hb2' HI HQ HA2
        by_cases hw : (fillT bk t).name = ⟨#[]⟩
        · obtain ⟨htv, hun⟩ := fill_empty HOK.out HC.out hw
          have hw' := toL_none
          rw [if_pos hw] at HMT
          rw [hw]
          have hn := HIN.out htv
          have hi := List.idxOf_lt_length_of_mem hn
          have hfew := hv.few
          have hlen := HOK.out.lt hn hun
          have hsj : sn = ((vars.idxOf t.name : Nat) : Int) := by rw [← HSN.out]; unfold slotN; simp [htv]
          have HNX := Lib.hid (HOK.out.snoc hn hun hgn HGS.out)
          have hbind := BD2.out.bind hv HOK.out hn hun (v := fw)
          subst hsj
          clear htv hun HSN hw HC HIN hn
          generalize t.name = nm at *
          generalize vars.idxOf nm = j at *
          have hz9 := BD2.out.bd bk.length (by omega)
          obtain ⟨zb, hzb, _⟩ := hz9
          have x0 := BD2.out.wd j (by omega)
          have x1 := BD2.out.fz j (by omega)
          have x2 := BD2.out.ct
          have x3 := BD2.out.fz 24 (by omega)
          have x4 := BD2.out.fz (12 + bk.length) (by omega)
          rw [← Nat.add_assoc] at x4
          have hj0 : (0 : Int) ≤ (j : Int) := by omega
          have hj1 : (j : Int) < 12 := by omega
          have hl0 : (0 : Int) ≤ (bk.length : Int) := by omega
          have hl1 : (bk.length : Int) < 12 := by omega
          have p1 := D.cell_put w2 blk (o + j) (.string fw) x0
          have p2 := D.cell_put (w2.setCell ⟨blk, o + j, none⟩ (.string fw)) blk (o + 12 + bk.length) (.int .i64 (j : Nat)) (u := .int .i64 zb) (by rw [p1, if_neg (by omega)]; exact hzb)
          have hbz : blk ≠ wr.heap.size := HNE.out
          have hb9 : blk ≠ w.heap.size + 1 := by omega
          have z1 : (w2.setCell ⟨blk, o + j, none⟩ (.string fw)).drew.cell? ⟨wr.heap.size, 0, none⟩ = some (.int .i64 (j : Nat)) := (World.cell?_setCell_far _ _ _ _ hbz).trans z0
          have c1 : (w2.setCell ⟨blk, o + j, none⟩ (.string fw)).drew.cell? ⟨blk, o + 24, none⟩ = some (.int .i64 bk.length) := ((p1 _).trans (if_neg (by omega))).trans x2
          have d1 : (w2.setCell ⟨blk, o + j, none⟩ (.string fw)).drew.cell? ⟨blk, o + 12 + bk.length, none⟩ = some (.int .i64 zb) := ((p1 _).trans (if_neg (by omega))).trans hzb
          have c2 : ((w2.setCell ⟨blk, o + j, none⟩ (.string fw)).drew.setCell ⟨blk, o + 12 + bk.length, none⟩ (.int .i64 (j : Nat))).drew.cell? ⟨blk, o + 24, none⟩ = some (.int .i64 bk.length) := ((p2 _).trans (if_neg (by omega))).trans c1
          have g1 : (w2.setCell ⟨blk, o + j, none⟩ (.string fw)).drew.frozen? ⟨blk, o + 12 + bk.length, none⟩ = false := (World.frozen?_setCell _ _ _ _).trans x4
          have g2 : ((w2.setCell ⟨blk, o + j, none⟩ (.string fw)).drew.setCell ⟨blk, o + 12 + bk.length, none⟩ (.int .i64 (j : Nat))).drew.frozen? ⟨blk, o + 24, none⟩ = false := (World.frozen?_setCell _ _ _ _).trans ((World.frozen?_setCell _ _ _ _).trans x3)
          have hbind' : BdAt vars (bk ++ [(nm, fw)]) blk o (((w2.setCell ⟨blk, o + j, none⟩ (.string fw)).drew.setCell ⟨blk, o + 12 + bk.length, none⟩ (.int .i64 (j : Nat))).drew.setCell ⟨blk, o + 24, none⟩ (.int .i64 ((bk.length : Int) + 1))) := by
            have e : (((bk ++ [(nm, fw)]).length : Nat) : Int) = (bk.length : Int) + 1 := by simp
            rw [e] at hbind
            exact hbind.keep rfl
          have hkp : BdKept blk o w (((w2.setCell ⟨blk, o + j, none⟩ (.string fw)).drew.setCell ⟨blk, o + 12 + bk.length, none⟩ (.int .i64 (j : Nat))).drew.setCell ⟨blk, o + 24, none⟩ (.int .i64 ((bk.length : Int) + 1))) := by
            have k1 := KP2.out.trans (BdKept.put w2 j (by omega) (.string fw))
            have k2 := k1.trans (BdKept.of_below ((Below.refl _ _).drew) (Nat.lt_of_lt_of_le hblk k1.grow.size))
            have k3 := k2.trans (by have := BdKept.put (blk := blk) (o := o) (w2.setCell ⟨blk, o + j, none⟩ (.string fw)).drew (12 + bk.length) (by omega) (.int .i64 (j : Nat)); rw [← Nat.add_assoc] at this; exact this)
            have k4 := k3.trans (BdKept.of_below ((Below.refl _ _).drew) (Nat.lt_of_lt_of_le hblk k3.grow.size))
            exact k4.trans (BdKept.put _ 24 (by omega) _)
          have hq9 : (((w2.setCell ⟨blk, o + j, none⟩ (.string fw)).drew.setCell ⟨blk, o + 12 + bk.length, none⟩ (.int .i64 (j : Nat))).drew.setCell ⟨blk, o + 24, none⟩ (.int .i64 ((bk.length : Int) + 1))).heap[w.heap.size + 1]? = some (.cells #[.string an, .slice (some ⟨bq2, oq2, none⟩) fargs.length cf] 33 (0, 0)) := by
            rw [Below.heap_setCell _ _ _ _ (by show w.heap.size + 1 ≠ blk; omega)]
            show (World.setCell _ _ _).heap[_]? = _
            rw [Below.heap_setCell _ _ _ _ (by show w.heap.size + 1 ≠ blk; omega)]
            show (World.setCell _ _ _).heap[_]? = _
            rw [Below.heap_setCell _ _ _ _ (by show w.heap.size + 1 ≠ blk; omega)]
            exact HQ2.out
          have HBI := Lib.hid hbind'
          have HKP := Lib.hid hkp
          have HQ9 := Lib.hid hq9
          clear hbind hbind' p1 p2 hi hlen hfew hbz hb9 hkp hq9 KP2 HQ2 BD2
          go_wp2
          go_region
          generalize (w2.setCell ⟨blk, o + j, none⟩ (.string fw)).drew = S1 at *
          clear x0 x1 x2 x3 x4 hzb z0
          go_wp2
          go_region
          generalize (S1.setCell ⟨blk, o + 12 + bk.length, none⟩ (.int .i64 (j : Nat))).drew = S2 at *
          clear c1 d1 z1 g1
          go_wp2
          go_roundw
          case rel => exact ⟨k + 1, _, HLT.out, by go_num, HMT.out, ⟨HBI.out, HNX.out, HKP.out⟩, HQ9.out⟩
          case measure => have := HLT.out; simp [intOf]; omega
        · have hw' := toL_full hw
          by_cases he : (fillT bk t).name = fw
          · rw [if_neg hw, if_pos he] at HMT
            rw [he] at *
            go_wp2
            go_roundw
            case rel => exact ⟨k + 1, bk, HLT.out, by go_num, HMT.out, ⟨BD2.out, HOK.out, KP2.out⟩, HQ2.out⟩
            case measure => have := HLT.out; simp [intOf]; omega
          · have he' := toL_ne he
            have he2 : ((fillT bk t).name.toList == fw.toList) = false := by simpa using he'
            rw [if_neg hw, if_neg he] at HMT
            have HP := Lib.hid (MatPost.mk BD2.out HOK.out KP2.out)
            go_wp2
            go_ret
            rw [HMT.out]
            exact ⟨rfl, HP.out⟩
      · have he : k = fargs.length := by omega
        have hk1 : ¬ (k : Int) < (fargs.length : Int) := by omega
        rw [List.drop_of_length_le (by omega), List.drop_of_length_le (by omega)] at hmt
        have e9 : matchT args fargs b = (bk, true) := by rw [hmt]; rfl
        have HP := Lib.hid hI
        rw [e9]
        clear hI hq hmt
        go_wp2
        go_ret
        exact ⟨rfl, HP.out⟩

theorem infoTrm : (Tryz.prog.info? 127).map (fun i => (i.zero, i.size, i.bytes)) = some (some (.agg #[.bool false, .string ⟨#[]⟩]), 2, 24) := by kernel_rfl

set_option maxRecDepth 100000 in
set_option maxHeartbeats 2000000 in
theorem fact_any (vars : List ByteArray) (hv : VarsOk vars) (b : Bd) (hbo : BdOk vars b) (a : A) (Ae : Option Addr) (ce : Nat) (b1 : List Nat) (blk o : Nat) (w : World) (hb : BdAt vars b blk o w) (hnm : a.name.size ≤ maxLen) (h : slotsK vars w [.slice Ae a.args.length ce] a.args b1) (hin : ∀ t ∈ a.args, t.var = true → t.name ∈ vars) (hal : a.args.length ≤ 1000000) :
    Calls Tryz.prog 60 #[.pointer (some ⟨blk, o, none⟩), .agg #[.string a.name, .slice Ae a.args.length ce]] w fun e w' => ∃ v bs, e = .returned (.agg #[.string a.name, v]) ∧ Below w.heap.size w w' ∧ atomK w' [.string a.name, v] (fillB a b) bs ∧ New w.heap.size w' bs := by
  obtain ⟨i0, hi, hz0, hz1, hz2⟩ := info_parts infoTrm
  obtain ⟨nm, args⟩ := a
  dsimp only at h hin hal hnm ⊢
  have HIN := Lib.hid hin
  have HNM := Lib.hid hnm
  have HT := Lib.hid h
  have HB0 := Lib.hid hb
  have HBO := Lib.hid hbo
  clear h hin hnm hb hbo
  have hA : Below w.heap.size w (((w.alloc (.cells #[.string nm, .slice Ae args.length ce] 104)).alloc (.cells #[.string ⟨#[]⟩, .slice none 0 0] 33)).alloc (.cells #[.string nm, .slice none 0 0] 33)) := (((Below.refl _ _).alloc (Nat.le_refl _) _).alloc (by simp) _).alloc (by simp; omega) _
  have hr0 : (((w.alloc (.cells #[.string nm, .slice Ae args.length ce] 104)).alloc (.cells #[.string ⟨#[]⟩, .slice none 0 0] 33)).alloc (.cells #[.string nm, .slice none 0 0] 33)).heap[w.heap.size + 1]? = some (.cells #[.string ⟨#[]⟩, .slice none 0 0] 33 (0, 0)) := by
    rw [Below.heap_alloc _ _ _ (by simp)]
    have := heap_alloc_new (w.alloc (.cells #[.string nm, .slice Ae args.length ce] 104)) (.cells #[.string ⟨#[]⟩, .slice none 0 0] 33)
    simpa using this
  have hr1 : (((w.alloc (.cells #[.string nm, .slice Ae args.length ce] 104)).alloc (.cells #[.string ⟨#[]⟩, .slice none 0 0] 33)).alloc (.cells #[.string nm, .slice none 0 0] 33)).heap[w.heap.size + 2]? = some (.cells #[.string nm, .slice none 0 0] 33 (0, 0)) := by
    have := heap_alloc_new ((w.alloc (.cells #[.string nm, .slice Ae args.length ce] 104)).alloc (.cells #[.string ⟨#[]⟩, .slice none 0 0] 33)) (.cells #[.string nm, .slice none 0 0] 33)
    simpa using this
  have HI0 : Hid (TwoB 2 termK 127 33 w (w.heap.size + 1) (w.heap.size + 2) (w.heap.size + 3) nm (.slice none 0 0) [] ([] : List T) (((w.alloc (.cells #[.string nm, .slice Ae args.length ce] 104)).alloc (.cells #[.string ⟨#[]⟩, .slice none 0 0] 33)).alloc (.cells #[.string nm, .slice none 0 0] 33))) :=
    Lib.hid ⟨hr0, hr1, by omega, by omega, by omega, Coll.nil _, hA, by simp⟩
  clear hA hr0 hr1
  go_enter Tryz.func60, Tryz.ntmps60
  go_wp2
  generalize (((w.alloc (.cells #[.string nm, .slice Ae args.length ce] 104)).alloc (.cells #[.string ⟨#[]⟩, .slice none 0 0] 33)).alloc (.cells #[.string nm, .slice none 0 0] 33)) = W at *
  go_loopw [14] (fun i wr => ∃ (k : Nat) (Av : Option Addr) (cv : Nat) (L : List Value), k ≤ args.length ∧ i = .int .i64 k ∧ TwoB 2 termK 127 33 w (w.heap.size + 1) (w.heap.size + 2) (w.heap.size + 3) nm (.slice Av k cv) L ((args.take k).map (fillT b)) wr) (fun i _ => args.length - (intOf i).toNat)
  case atStart => exact ⟨0, none, 0, [], Nat.zero_le _, rfl, HI0.out⟩
  case round =>
    obtain ⟨k, Av, cv, L, hk, rfl, hI⟩ := hrel
    clear HI0
    by_cases hlt : k < args.length
    · obtain ⟨bq, oq, rfl, _, f0, f1, hsz⟩ := slots_at ((slotsK_good vars).below HT.out hI.bel) hlt
      have hk0 : (0 : Int) ≤ (k : Int) := by omega
      have hk1 : (k : Int) < (args.length : Int) := by omega
      have HLT := Lib.hid hlt
      have HTK : Hid ((args.take (k + 1)).map (fillT b) = (args.take k).map (fillT b) ++ [fillT b args[k]]) := Lib.hid (by rw [List.take_succ_eq_append_getElem hlt, List.map_append]; rfl)
      have hA2 : Below wr.heap.size wr (wr.alloc (.cells #[.int .i64 (slotN vars args[k]), .string (slotS args[k])] 172)) := (Below.refl _ _).alloc (Nat.le_refl _) _
      have hI1 := hI.later termK_good hA2
      have HI1 := Lib.hid hI1
      have hbd : BdAt vars b blk o (wr.alloc (.cells #[.int .i64 (slotN vars args[k]), .string (slotS args[k])] 172)).drew := HB0.out.keep ((hI.bel.trans (hA2.mono hI.bel.size)).block _ HB0.out.lt)
      have HW := Lib.hid (wordOf_any vars hv b args[k] (HIN.out _ (List.getElem_mem hlt)) blk o _ hbd)
      have HSZ : Hid ((fillT b args[k]).name.size ≤ maxLen) := Lib.hid (HBO.out.fill_size (fun hv => (show slotS args[k] = args[k].name by unfold slotS; simp [hv]) ▸ hsz))
      have HR : Hid (∀ w, termK w [.bool false, .string (fillT b args[k]).name] (fillT b args[k]) []) := Lib.hid fun w => ⟨rfl, HSZ.out, rfl⟩
      have HLK : Hid (((args.take k).map (fillT b)).length = k) := Lib.hid (by simp; omega)
      have H63 : Hid (k + 1 ≤ maxLen) := Lib.hid (by unfold maxLen; omega)
      have HBY : Hid ((k + 1) * 24 ≤ 140737488355328) := Lib.hid (by omega)
      have y0 : (wr.alloc (.cells #[.int .i64 (slotN vars args[k]), .string (slotS args[k])] 172)).cell? ⟨wr.heap.size, 0, none⟩ = some (.int .i64 (slotN vars args[k])) := by go_simp
      have y1 : (wr.alloc (.cells #[.int .i64 (slotN vars args[k]), .string (slotS args[k])] 172)).cell? ⟨wr.heap.size, 1, none⟩ = some (.string (slotS args[k])) := by go_simp
      have q1 := cell_of_blk hI1.r1 (o := 1)
      have q2 := frozen_of_blk hI1.r1 (o := 1)
      have q3 := lt_of_block hI1.r1
      clear hI hA2 hI1 hbd hsz hk
      generalize slotN vars args[k] = sn at *
      generalize slotS args[k] = ss at *
      generalize args[k] = t at *
      clear hlt
      go_wp2
      generalize wr.alloc (.cells #[.int .i64 sn, .string ss] 172) = W1 at *
      go_region_law
        (first
          | (go_simp; go_at_call 104; refine HW.out.mono ?_; rintro e w2 ⟨rfl, hb2⟩; have HK2 := Lib.hid ((Below.refl W1.heap.size W1).drew.trans hb2); have HI2 := Lib.hid (HI1.out.later termK_good HK2.out); have HL := Lib.hid (HI2.out.lit termK_good termK_ones HR.out); replace q1 := cell_later HK2.out q1; replace q3 := Nat.lt_of_lt_of_le q3 HK2.out.size; clear hb2)
          | (refine step_coll (by rfl) (.tmp 19) (.tmp 24) _ (by rfl) (w.heap.size + 3) 127 i0 (.agg #[.bool false, .string ⟨#[]⟩]) 2 24 Tryz.underlying31 hi hz0 hz1 hz2 rfl (Nat.zero_lt_succ 1) termK_good (.slice Av k cv) k L _ [] (by rfl) HL.out.1 HLK.out (some ⟨w2.heap.size, 0, none⟩) 1 1 _ [fillT b t] _ (by rfl) HL.out.2.1 rfl HL.out.2.2.1 (fun b hb => by simp at hb) H63.out HBY.out w2 (w.heap.size + 3) HL.out.2.2.2.1 (Nat.le_refl _) HL.out.2.2.2.2 ?_; intro A5 c5 w5 hC5 hB5 hS5 hG5; have HZ := Lib.hid (HI2.out.app termK_good hC5 hB5); replace q1 := HZ.out.1; replace q2 := HZ.out.2.1; clear hC5 hB5 hS5 hG5))
      all_goals
        have HI9 := Lib.hid HZ.out.2.2.1
        clear HI1 HL HZ HI2 HK2 HW q1 q2 q3 y0 y1
        go_wp2
        go_roundw
        case rel => exact ⟨k + 1, A5, c5, _, HLT.out, by go_num, by rw [HTK.out]; exact HI9.out⟩
        case measure => have := HLT.out; simp [intOf]; omega
    · have he : k = args.length := by omega
      have hk1 : ¬ (k : Int) < (args.length : Int) := by omega
      obtain ⟨W9, hW9, hB9, hb9, b9, hs9, hn9⟩ := hI.done termK_good
      have y0 : wr.cell? ⟨w.heap.size + 2, 0, none⟩ = some (.string nm) := cell_of_blk hI.r1
      have y1 : wr.cell? ⟨w.heap.size + 2, 1, none⟩ = some (.slice Av k cv) := cell_of_blk hI.r1
      have f0 : wr.frozen? ⟨w.heap.size + 1, 0, none⟩ = false := frozen_of_blk hI.r0
      have f1 : wr.frozen? ⟨w.heap.size + 1, 1, none⟩ = false := frozen_of_blk hI.r0
      have z0 : wr.cell? ⟨w.heap.size + 1, 0, none⟩ = some (.string ⟨#[]⟩) := cell_of_blk hI.r0
      have z1 : wr.cell? ⟨w.heap.size + 1, 1, none⟩ = some (.slice none 0 0) := cell_of_blk hI.r0
      have u0 : W9.cell? ⟨w.heap.size + 1, 0, none⟩ = some (.string nm) := cell_of_blk hb9
      have u1 : W9.cell? ⟨w.heap.size + 1, 1, none⟩ = some (.slice Av k cv) := cell_of_blk hb9
      have HD : Hid (Below w.heap.size w W9 ∧ atomK W9 [.string nm, .slice Av k cv] (fillB ⟨nm, args⟩ b) b9 ∧ New w.heap.size W9 b9) :=
        Lib.hid ⟨hB9, ⟨_, rfl, HNM.out, by unfold fillB; dsimp only; rw [List.take_of_length_le (Nat.le_of_eq he.symm)] at hs9; exact hs9⟩, hn9.mono (by omega)⟩
      have HW9 := Lib.hid hW9
      have HU := Lib.hid (And.intro u0 u1)
      clear hI hB9 hb9 hs9 hn9 hW9 he u0 u1
      go_wp2
      rw [← HW9.out]
      refine bodyPost_ret (v := .agg #[.string nm, .slice Av k cv]) (by simp [results, Tryz.results60, go_sem, HU.out.1, HU.out.2]) rfl (by exact ⟨_, rfl, HD.out.1, _, HD.out.2⟩)

end Go.Proofs.YtjjfafgaphloaaaGreatDoor
