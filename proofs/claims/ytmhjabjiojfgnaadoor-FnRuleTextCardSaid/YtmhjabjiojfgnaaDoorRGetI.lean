/- The walks of impl.bodyGet and impl.RuleGet. -/
import Derived.WalkKit
import Derived.Lib.Hide
import Derived.WalkSpells
import Derived.WalkLawsBesides
import Derived.BigQuiet
import Derived.Deep.RegionHeld3
import Derived.Deep.RegionWith
import Derived.Deep.RegionLaw
import Derived.Deep.DrawnRows
import Derived.Deep.AppendLies
import Derived.Test.YtmhjabjiojfgnaaDoorProg
import Derived.Test.YtmhjabjiojfgnaaDoorAGetI
import Derived.Test.YtmhjabjiojfgnaaDoorRGetW
namespace Go.Proofs.YtmhjabjiojfgnaaDoor
open Go.RowKit D
set_option linter.unusedVariables false
attribute [local go_sem ↓] Go.wp_at_zero Go.wp_at_succ

theorem infoPartI : (Tryd.prog.info? 72).map (fun i => (i.zero, i.size, i.bytes)) = some (some (.agg #[.bool false, .string ⟨#[]⟩, .slice none 0 0]), 3, 48) := by kernel_rfl
theorem D.cut_len (t sep : List UInt8) : (Lib.cut t sep).1.length ≤ t.length ∧ (Lib.cut t sep).2.1.length ≤ t.length := by
  unfold Lib.cut
  split
  · simp; omega
  · simp
theorem D.trim_cutP (t : List UInt8) : Lib.trimPrefix t notL = (cutP t).1 ∧ Lib.hasPrefix t notL = (cutP t).2 := by
  unfold Lib.trimPrefix Lib.hasPrefix cutP
  split
  · rename_i h; exact ⟨rfl, h⟩
  · rename_i h; exact ⟨rfl, Bool.eq_false_iff.2 h⟩
theorem D.cutP_len (t : List UInt8) : (cutP t).1.length ≤ t.length := by
  unfold cutP
  split
  · simp
  · exact Nat.le_refl _
theorem cut_to (t : List UInt8) (sep : ByteArray) (m : Int) (w : World) (hs : t.length ≤ 1048576) (hm : w.cell? ⟨0, 0, none⟩ = some (.int .i64 m)) :
    Calls Tryd.prog 42 #[.string (toB t), .string sep] w fun e w' => e = .returned (.tuple #[.string (toB (Lib.cut t sep.data.toList).1), .string (toB (Lib.cut t sep.data.toList).2.1), .bool (Lib.cut t sep.data.toList).2.2]) ∧ ∃ n, w' = w.drewN n :=
  Tryd.strings_Cut (toB t) sep m w (by have h1 : (toB t).size = t.length := List.size_toArray; omega) hm
theorem cutNot_to (t : List UInt8) (w : World) :
    Calls Tryd.prog 92 #[.string (toB t), .string ⟨#[110, 111, 116, 32]⟩] w fun e w' => e = .returned (.tuple #[.string (toB (cutP t).1), .bool (cutP t).2]) ∧ w' = w := by
  have h := Tryd.strings_CutPrefix (toB t) ⟨#[110, 111, 116, 32]⟩ w
  obtain ⟨h1, h2⟩ := trim_cutP t
  refine h.mono ?_
  rintro e w' ⟨rfl, rfl⟩
  rw [← h1, ← h2]
  exact ⟨rfl, rfl⟩
def D.lenV : Value → Nat
  | .slice _ n _ => n
  | _ => 0
/-- The way through a body's text. -/
structure D.BInv (t0 : List UInt8) (w : World) (Av : Option Addr) (cv : Nat) (L : List Value) (qs : List Pt) (bs : List Nat) (t : List UInt8) (mo : Bool) (wr : World) : Prop where
  coll : Coll 3 partK w.heap.size 72 wr (.slice Av qs.length cv) L qs bs
  new : New w.heap.size wr bs
  len : qs.length ≤ 4
  tl : t.length ≤ 1048576
  yes : mo = true → bodyI 4 t0 = (bodyI (4 - qs.length) t).map (qs ++ ·)
  no : mo = false → bodyI 4 t0 = some qs
  bel : Below w.heap.size w wr
theorem D.body_fall {t0 t : List UInt8} {qs : List Pt} {n : Nat} (h : bodyI 4 t0 = (bodyI n t).map (qs ++ ·)) (hg : (getI (cutP (Lib.cut t andL).1).1).2 = false ∨ n = 0) : bodyI 4 t0 = none := by
  rw [h]
  rcases hg with hg | rfl
  · cases n with
    | zero => rfl
    | succ n => unfold bodyI; rw [if_neg (by rw [hg]; exact Bool.false_ne_true)]; rfl
  · rfl
theorem D.body_more {t0 t : List UInt8} {qs : List Pt} {n : Nat} (h : bodyI 4 t0 = (bodyI (n + 1) t).map (qs ++ ·)) (hg : (getI (cutP (Lib.cut t andL).1).1).2 = true) :
    ((Lib.cut t andL).2.2 = true → bodyI 4 t0 = (bodyI n (Lib.cut t andL).2.1).map (qs ++ [⟨(cutP (Lib.cut t andL).1).2, (getI (cutP (Lib.cut t andL).1).1).1⟩] ++ ·)) ∧ ((Lib.cut t andL).2.2 = false → bodyI 4 t0 = some (qs ++ [⟨(cutP (Lib.cut t andL).1).2, (getI (cutP (Lib.cut t andL).1).1).1⟩])) := by
  refine ⟨fun hm => ?_, fun hm => ?_⟩
  · rw [h, bodyI, if_pos hg, if_pos hm]
    cases bodyI n (Lib.cut t andL).2.1 with
    | none => rfl
    | some x => simp
  · rw [h, bodyI, if_pos hg, if_neg (by rw [hm]; exact Bool.false_ne_true)]
    rfl
/-- The atom is read; the part under way. -/
structure D.BGot (w : World) (Av : Option Addr) (cv : Nat) (L : List Value) (qs : List Pt) (bs : List Nat) (a : A) (Aa : Option Addr) (ca : Nat) (b1 : List Nat) (w1 : World) : Prop where
  coll : Coll 3 partK w.heap.size 72 w1 (.slice Av qs.length cv) L qs bs
  new : New w.heap.size w1 (bs ++ b1)
  at_ : atomK w1 [.string a.name, .slice Aa a.args.length ca] a b1
  far : ∀ b ∈ b1, (Value.slice Av qs.length cv).ownBlock ≠ some b
  bel : Below w.heap.size w w1
theorem D.BInv.got {t0 : List UInt8} {w : World} {Av : Option Addr} {cv : Nat} {L : List Value} {qs : List Pt} {bs : List Nat} {t : List UInt8} {mo : Bool} {wr : World} (hI : BInv t0 w Av cv L qs bs t mo wr) {n : Nat} {a : A} {Aa : Option Addr} {ca : Nat} {b1 : List Nat} {w1 : World}
    (hb : Below (wr.drewN n).heap.size (wr.drewN n) w1) (hA : atomK w1 (#[.string a.name, .slice Aa a.args.length ca] : Array Value).toList a b1) (hN : New (wr.drewN n).heap.size w1 b1) : BGot w Av cv L qs bs a Aa ca b1 w1 := by
  have hb2 : Below wr.heap.size wr w1 := (below_dQ (Below.refl _ _) n).trans hb
  have hN2 : New wr.heap.size w1 b1 := hN
  exact ⟨hI.coll.below partK_good hb2, (hI.new.below hb2).append hN2 hI.bel.size (fun b hb' => hI.new.lt hb'), hA, fun b h => own_block_lt hI.coll.own (hN2.own b h).1, hI.bel.trans (hb2.mono hI.bel.size)⟩
theorem D.BGot.put {w : World} {Av : Option Addr} {cv : Nat} {L : List Value} {qs : List Pt} {bs : List Nat} {a : A} {Aa : Option Addr} {ca : Nat} {b1 : List Nat} {w1 : World} (h : BGot w Av cv L qs bs a Aa ca b1 w1) (no : Bool) {o1 : Obj} {W2 : World}
    (hW : W2 = (w1.alloc o1).alloc (.cells #[.bool no, .string a.name, .slice Aa a.args.length ca] 72)) :
    Coll 3 partK w.heap.size 72 W2 (.slice Av qs.length cv) L qs bs ∧ Rowed 3 partK W2 [.bool no, .string a.name, .slice Aa a.args.length ca] [⟨no, a⟩] b1 ∧ Lies W2 (some ⟨w1.heap.size + 1, 0, none⟩) [.bool no, .string a.name, .slice Aa a.args.length ca] ∧ Below w.heap.size w W2 ∧ New w.heap.size W2 (bs ++ b1) := by
  have hA1 : Below w1.heap.size w1 (w1.alloc o1) := (Below.refl _ _).alloc (Nat.le_refl _) _
  have hA2 : Below w1.heap.size w1 W2 := by rw [hW]; exact hA1.alloc hA1.size _
  obtain ⟨s, hs1, hs2, hs3⟩ := atomK_good.below h.at_ hA2
  simp only [List.cons.injEq, and_true, true_and] at hs1
  have hl : Lies W2 (some ⟨w1.heap.size + 1, 0, none⟩) [.bool no, .string a.name, .slice Aa a.args.length ca] := by
    have e : (w1.alloc o1).heap.size = w1.heap.size + 1 := by simp
    rw [hW, ← e]
    exact lies_block (heap_alloc_new _ _)
  subst hs1
  exact ⟨h.coll.below partK_good hA2, Rowed.one_el partK_ones ⟨_, rfl, hs2, hs3⟩, hl, h.bel.trans (hA2.mono h.bel.size), h.new.below hA2⟩
theorem D.New.grown {B : Nat} {w w' : World} {bs : List Nat} {v : Value} (h : New B w bs) (hg : w.grownBy w' v.ownBlock) (hf : ∀ b ∈ bs, v.ownBlock ≠ some b) : New B w' bs :=
  h.keep fun b hb => hg.block b (h.lt hb) (fun e => hf b hb e.symm)

set_option maxRecDepth 100000 in
set_option maxHeartbeats 4000000 in
theorem bodyGet_any (t0 : List UInt8) (m : Int) (w : World) (hs : t0.length ≤ 1048576) (hm : w.cell? ⟨0, 0, none⟩ = some (.int .i64 m)) :
    Calls Tryd.prog 57 #[.string (toB t0)] w (MakesPs (bodyI 4 t0) w.heap.size w) := by
  obtain ⟨i0, hi, hz0, hz1, hz2⟩ := info_parts infoPartI
  have HI : Hid (BInv t0 w none 0 [] [] [] t0 true w) := Lib.hid ⟨Coll.nil _, New.nil _ _, Nat.zero_le _, hs, fun _ => by simp, fun h => (by cases h), Below.refl _ _⟩
  have HM := Lib.hid hm
  clear hs hm
  go_enter Tryd.func57, Tryd.ntmps57
  go_wp2
  go_loopw [0, 4, 5] (fun s b v wr => ∃ (t : List UInt8) (mo : Bool) (Av : Option Addr) (cv : Nat) (L : List Value) (qs : List Pt) (bs : List Nat), s = .string (toB t) ∧ b = .slice Av qs.length cv ∧ v = .bool mo ∧ BInv t0 w Av cv L qs bs t mo wr) (fun _ b _ _ => 5 - lenV b)
  case atStart => exact ⟨t0, true, none, 0, [], [], [], rfl, rfl, rfl, HI.out⟩
  case round =>
    obtain ⟨t, mo, Av, cv, L, qs, bs, rfl, rfl, rfl, hI⟩ := hrel
    clear HI
    cases mo
    · have HE : Hid (bodyI 4 t0 = some qs) := Lib.hid (hI.no rfl)
      obtain ⟨b9, hs9, hN9⟩ := hI.coll.new hI.new
      have HZ := Lib.hid (And.intro hs9 (And.intro hN9 hI.bel))
      clear hI hs9 hN9
      go_wp2
      go_ret2
      exact ⟨HZ.out.2.2, _, b9, by rw [HE.out]; rfl, by rw [HE.out]; exact HZ.out.1, HZ.out.2.1⟩
    · have hcl := cut_len t andL
      have hpl := cutP_len (Lib.cut t andL).1
      have hfall := body_fall (qs := qs) (n := 4 - qs.length) (hI.yes rfl)
      have hmore := fun n (hn : 4 - qs.length = n + 1) => body_more (qs := qs) (n := n) (t0 := t0) (t := t) (by rw [← hn]; exact hI.yes rfl)
      have hcut := cut_to t ⟨#[32, 97, 110, 100, 32]⟩ m wr hI.tl (cell_later (hI.bel.mono (Nat.le_refl _)) HM.out)
      rw [show (⟨#[32, 97, 110, 100, 32]⟩ : ByteArray).data.toList = andL from rfl] at hcut
      have htl := hI.tl
      have hql : Hid (qs.length ≤ 4) := Lib.hid hI.len
      have HI := Lib.hid hI
      clear hI
      generalize Lib.cut t andL = C at *
      obtain ⟨piece, rest, more⟩ := C
      dsimp only at *
      have hcn := fun w' => cutNot_to piece w'
      generalize cutP piece = D at *
      obtain ⟨inner, no⟩ := D
      dsimp only at *
      have hsz : (toB inner).size ≤ 1048576 := by have h1 : (toB inner).size = inner.length := List.size_toArray; omega
      have hag := fun w' hm' => atomGet_impl (toB inner) m w' hsz hm'
      simp only [toB_data] at hag
      generalize getI inner = g at *
      obtain ⟨a, ok⟩ := g
      dsimp only at *
      have HRL : Hid (rest.length ≤ 1048576) := Lib.hid (by omega)
      have HF := Lib.hid hfall
      have HMO := Lib.hid hmore
      have HAG := Lib.hid hag
      have HCN := Lib.hid hcn
      clear hcl hpl hfall hmore hag hcn hsz htl
      generalize toB inner = ib at *
      generalize toB piece = pb at *
      generalize hrb : toB rest = rb at *
      go_wp2_with fail
      refine hcut.mono ?_
      rintro e w1 ⟨rfl, n, rfl⟩
      clear hcut
      go_wp2_with fail
      refine (HCN.out _).mono ?_
      rintro e w2 ⟨rfl, rfl⟩
      go_wp2_with fail
      refine (HAG.out _ (cell_later (below_dQ (HI.out.bel.mono (Nat.le_refl _)) n) HM.out)).mono ?_
      rintro e w3 ⟨hb3, cs, b1, rfl, hA3, hN3⟩
      obtain ⟨Aa, ca, rfl⟩ := atom_cells hA3
      dsimp only at hA3
      have HGT := Lib.hid (HI.out.got hb3 hA3 hN3)
      clear hb3 hA3 hN3 HCN HAG
      cases ok
      · have HE : Hid (bodyI 4 t0 = none) := Lib.hid (HF.out (.inl rfl))
        clear HF HMO
        go_wp2
        go_ret2
        exact ⟨HGT.out.bel.alloc HGT.out.bel.size _, _, [], by rw [HE.out]; rfl, by rw [HE.out]; exact ⟨none, 0, rfl, Nat.le_refl _, Nat.zero_le _, fun _ => rfl, fun h => absurd rfl h⟩, New.nil _ _⟩
      · by_cases h4 : qs.length = 4
        · have h4i : (qs.length : Int) = 4 := by omega
          have HE : Hid (bodyI 4 t0 = none) := Lib.hid (HF.out (.inr (by omega)))
          clear HF HMO
          go_wp2
          go_ret2
          exact ⟨HGT.out.bel.alloc HGT.out.bel.size _, _, [], by rw [HE.out]; rfl, by rw [HE.out]; exact ⟨none, 0, rfl, Nat.le_refl _, Nat.zero_le _, fun _ => rfl, fun h => absurd rfl h⟩, New.nil _ _⟩
        · have h4i : ¬ (qs.length : Int) = 4 := by omega
          obtain ⟨n4, hn4⟩ : ∃ n, 4 - qs.length = n + 1 := ⟨4 - qs.length - 1, by have := hql.out; omega⟩
          have HMM := Lib.hid (HMO.out n4 hn4 rfl)
          have HNN : Hid (4 - (qs.length + 1) = n4 ∧ qs.length + 1 ≤ 4) := Lib.hid (by have := hql.out; omega)
          have HP := Lib.hid (HGT.out.put no (o1 := .cells #[.string a.name, .slice Aa a.args.length ca] 25) rfl)
          have HFR := Lib.hid HGT.out.far
          have HKL : Hid (qs.length + 1 ≤ maxLen ∧ (qs.length + 1) * 48 ≤ 140737488355328) := Lib.hid (by have := hql.out; unfold maxLen; omega)
          clear HF HMO HGT h4 hn4
          go_wp2_with (at_builtin; refine wpList_coll rfl _ _ _ rfl w.heap.size 72 i0 (.agg #[.bool false, .string ⟨#[]⟩, .slice none 0 0]) 3 48 Tryd.underlying34 hi hz0 hz1 hz2 rfl (by omega) partK_good (.slice Av qs.length cv) qs.length _ _ _ rfl HP.out.1 rfl (some ⟨w3.heap.size + 1, 0, none⟩) 1 1 _ [⟨no, a⟩] _ rfl HP.out.2.1 rfl HP.out.2.2.1 HFR.out HKL.out.1 HKL.out.2 w w.heap.size HP.out.2.2.2.1 (Nat.le_refl _) HP.out.2.2.2.1.size ?_; intro A2 cp2 w4 hC3 hB3 hS3 hG3)
          have HX := Lib.hid (And.intro hC3 (And.intro hB3 (D.New.grown HP.out.2.2.2.2 hG3 (fun b hb => (List.mem_append.1 hb).elim (HP.out.1.far b) (HFR.out b)))))
          clear hC3 hB3 hS3 hG3 HP
          go_wp2
          go_roundw
          case rel => exact ⟨rest, more, A2, cp2, _, qs ++ [⟨no, a⟩], _, by rw [hrb], by rw [List.length_append]; rfl, rfl, by rw [List.length_append]; exact HX.out.1, HX.out.2.2, by rw [List.length_append]; exact HNN.out.2, HRL.out, fun h => by rw [List.length_append]; show _ = (bodyI (4 - (qs.length + 1)) rest).map _; rw [HNN.out.1]; exact HMM.out.1 h, HMM.out.2, HX.out.2.1⟩
          case measure => have := HNN.out.2; simp [lenV]; omega

theorem D.rmake_none {w W : World} (hb : Below w.heap.size w W) : MakesRu none w.heap.size w (.returned (.tuple #[.agg #[.string ⟨#[]⟩, .slice none 0 0, .slice none 0 0], .bool false])) W :=
  ⟨hb, _, [], rfl, ⟨_, _, [], [], rfl, Nat.zero_le _, rfl, ⟨none, 0, rfl, Nat.le_refl _, Nat.zero_le _, fun _ => rfl, fun h => absurd rfl h⟩, ⟨none, 0, rfl, Nat.le_refl _, Nat.zero_le _, fun _ => rfl, fun h => absurd rfl h⟩⟩, New.nil _ _⟩
/-- The head is read; the result's block is the world's end. -/
structure D.HGot (w : World) (a : A) (Aa : Option Addr) (ca : Nat) (b1 : List Nat) (W : World) : Prop where
  res : W.heap[w.heap.size]? = some (.cells #[.string ⟨#[]⟩, .slice none 0 0, .slice none 0 0] 36 (0, 0))
  at_ : atomK W [.string a.name, .slice Aa a.args.length ca] a b1
  new : New (w.heap.size + 1) W b1
  bel : Below w.heap.size w W
theorem D.HGot.later {w : World} {a : A} {Aa : Option Addr} {ca : Nat} {b1 : List Nat} {W W' : World} (h : HGot w a Aa ca b1 W) (hb : Below W.heap.size W W') : HGot w a Aa ca b1 W' :=
  ⟨(hb.block _ (lt_of_block h.res)).trans h.res, atomK_good.below h.at_ hb, h.new.below hb, h.bel.trans (hb.mono h.bel.size)⟩
theorem D.set3_keep {w : World} {n0 b : Nat} {u0 u1 u2 : Value} (h : b ≠ n0) : (((w.setCell ⟨n0, 0, none⟩ u0).setCell ⟨n0, 1, none⟩ u1).setCell ⟨n0, 2, none⟩ u2).heap[b]? = w.heap[b]? := by
  rw [Below.heap_setCell _ _ _ _ h, Below.heap_setCell _ _ _ _ h, Below.heap_setCell _ _ _ _ h]
theorem D.HGot.done {w : World} {a : A} {Aa : Option Addr} {ca : Nat} {b1 : List Nat} {W : World} (h : HGot w a Aa ca b1 W) {v : Value} {ps : List Pt} {b2 : List Nat} (hp : partsK W [v] ps b2) (hN : New (w.heap.size + 1) W b2) (hd : ∀ b ∈ b1, b ∉ b2) :
    MakesRu (some ⟨a, ps⟩) w.heap.size w (.returned (.tuple #[.agg #[.string a.name, .slice Aa a.args.length ca, v], .bool true])) (((W.setCell ⟨w.heap.size, 0, none⟩ (.string a.name)).setCell ⟨w.heap.size, 1, none⟩ (.slice Aa a.args.length ca)).setCell ⟨w.heap.size, 2, none⟩ v) := by
  obtain ⟨s, hs1, hs2, hs3⟩ := h.at_
  simp only [List.cons.injEq, and_true, true_and] at hs1
  subst hs1
  have hN2 : New (w.heap.size + 1) W (b1 ++ b2) := ⟨List.nodup_append.2 ⟨h.new.nodup, hN.nodup, fun x hx y hy e => hd x hx (e ▸ hy)⟩, fun b hb => (List.mem_append.1 hb).elim (h.new.own b) (hN.own b)⟩
  have hk : ∀ b ∈ b1 ++ b2, (((W.setCell ⟨w.heap.size, 0, none⟩ (.string a.name)).setCell ⟨w.heap.size, 1, none⟩ (.slice Aa a.args.length ca)).setCell ⟨w.heap.size, 2, none⟩ v).heap[b]? = W.heap[b]? := fun b hb => set3_keep (by have := (hN2.own b hb).1; omega)
  have hr : ruleK W [.string a.name, .slice Aa a.args.length ca, v] ⟨a, ps⟩ (b1 ++ b2) := ⟨_, _, b1, b2, rfl, hs2, rfl, hs3, hp⟩
  exact ⟨((h.bel.setCell (Nat.le_refl _) _).setCell (Nat.le_refl _) _).setCell (Nat.le_refl _) _, _, b1 ++ b2, rfl, ruleK_good.keep hr hk, (hN2.keep hk).mono (Nat.le_succ _)⟩
theorem D.makesRu_later {o : Option Ru} {B : Nat} {w w' w2 : World} {e : Ending} (h : MakesRu o B w e w') (hb : Below w'.heap.size w' w2) (hB : B ≤ w'.heap.size) : MakesRu o B w e w2 := by
  obtain ⟨h1, cs, bs, h2, h3, h4⟩ := h
  exact ⟨h1.trans (hb.mono hB), cs, bs, h2, ruleK_good.below h3 hb, h4.below hb⟩
theorem D.parts_none (W : World) : partsK W [.slice none 0 0] [] [] := ⟨none, 0, rfl, Nat.le_refl _, Nat.zero_le _, fun _ => rfl, fun h => absurd rfl h⟩

set_option maxRecDepth 100000 in
set_option maxHeartbeats 4000000 in
theorem ruleGet_impl (s : ByteArray) (m : Int) (w : World) (hs : s.size ≤ 1048576) (hm : w.cell? ⟨0, 0, none⟩ = some (.int .i64 m)) :
    Calls Tryd.prog 18 #[.string s] w (MakesRu (ruleI s.data.toList) w.heap.size w) := by
  obtain ⟨t, rfl⟩ : ∃ t, s = toB t := ⟨s.data.toList, (toB_of s).symm⟩
  rw [toB_data]
  have hts : t.length ≤ 1048576 := by have h1 : (toB t).size = t.length := List.size_toArray; omega
  have hA : Below w.heap.size w (w.alloc (.cells #[.string ⟨#[]⟩, .slice none 0 0, .slice none 0 0] 36)) := (Below.refl _ _).alloc (Nat.le_refl _) _
  have HZ := Lib.hid (heap_alloc_new w (.cells #[.string ⟨#[]⟩, .slice none 0 0, .slice none 0 0] 36))
  have hcut := cut_to t ⟨#[32, 105, 102, 32]⟩ m (w.alloc (.cells #[.string ⟨#[]⟩, .slice none 0 0, .slice none 0 0] 36)) hts (cell_later hA hm)
  rw [show (⟨#[32, 105, 102, 32]⟩ : ByteArray).data.toList = ifL from rfl] at hcut
  have HG : Hid (ruleI t = if (getI (Lib.cut t ifL).1).2 then (if (Lib.cut t ifL).2.2 then (bodyI 4 (Lib.cut t ifL).2.1).map (⟨(getI (Lib.cut t ifL).1).1, ·⟩) else some ⟨(getI (Lib.cut t ifL).1).1, []⟩) else none) := Lib.hid rfl
  have hcl := cut_len t ifL
  generalize ruleI t = G at *
  generalize Lib.cut t ifL = C at *
  obtain ⟨front, rest, more⟩ := C
  dsimp only at *
  have hsz : (toB front).size ≤ 1048576 := by have h1 : (toB front).size = front.length := List.size_toArray; omega
  have hag := fun w' hm' => atomGet_impl (toB front) m w' hsz hm'
  simp only [toB_data] at hag
  have hbg := fun w' hm' => bodyGet_any rest m w' (by omega) hm'
  generalize getI front = g at *
  obtain ⟨a, ok⟩ := g
  dsimp only at *
  generalize bodyI 4 rest = bo at *
  have HA := Lib.hid hA
  have HM := Lib.hid hm
  have HAG := Lib.hid hag
  have HBG := Lib.hid hbg
  clear hA hm hag hbg hcl hsz hts hs
  generalize toB front = fb at *
  generalize toB rest = rb at *
  go_enter Tryd.func18, Tryd.ntmps18
  go_wp2_with fail
  refine hcut.mono ?_
  rintro e w1 ⟨rfl, n, rfl⟩
  clear hcut
  have BD := below_dQ HA.out n
  have HBD := Lib.hid BD
  have HZ1 : Hid (((w.alloc (.cells #[.string ⟨#[]⟩, .slice none 0 0, .slice none 0 0] 36)).drewN n).heap[w.heap.size]? = some (.cells #[.string ⟨#[]⟩, .slice none 0 0, .slice none 0 0] 36 (0, 0))) := Lib.hid HZ.out
  have HS1 : Hid (((w.alloc (.cells #[.string ⟨#[]⟩, .slice none 0 0, .slice none 0 0] 36)).drewN n).heap.size = w.heap.size + 1) := Lib.hid (by show (w.alloc _).heap.size = _; simp)
  clear HZ HA BD
  go_wp2_with fail
  refine (HAG.out _ (cell_later HBD.out HM.out)).mono ?_
  rintro e w3 ⟨hb3, cs, b1, rfl, hA3, hN3⟩
  obtain ⟨Aa, ca, rfl⟩ := atom_cells hA3
  dsimp only at hA3 ⊢
  have hI : HGot w a Aa ca b1 w3 := ⟨(hb3.block _ (lt_of_block HZ1.out)).trans HZ1.out, hA3, by rw [← HS1.out]; exact hN3, HBD.out.trans (hb3.mono HBD.out.size)⟩
  have HI := Lib.hid hI
  have n0 : w.heap.size < w3.heap.size := lt_of_block HI.out.res
  clear hb3 hA3 hN3 hI HZ1 HS1 HBD HAG
  cases ok
  · have HGN : Hid (G = none) := Lib.hid (by rw [HG.out]; rfl)
    have z0 : w3.cell? ⟨w.heap.size, 0, none⟩ = some (.string ⟨#[]⟩) := cell_of_blk HI.out.res
    have z1 : w3.cell? ⟨w.heap.size, 1, none⟩ = some (.slice none 0 0) := cell_of_blk HI.out.res
    have z2 : w3.cell? ⟨w.heap.size, 2, none⟩ = some (.slice none 0 0) := cell_of_blk HI.out.res
    have f0 : w3.frozen? ⟨w.heap.size, 0, none⟩ = false := frozen_of_blk HI.out.res
    have f1 : w3.frozen? ⟨w.heap.size, 1, none⟩ = false := frozen_of_blk HI.out.res
    have f2 : w3.frozen? ⟨w.heap.size, 2, none⟩ = false := frozen_of_blk HI.out.res
    have HB := Lib.hid (((HI.out.bel.setCell (p := ⟨w.heap.size, 0, none⟩) (Nat.le_refl _) (.string ⟨#[]⟩)).setCell (p := ⟨w.heap.size, 1, none⟩) (Nat.le_refl _) (.slice none 0 0)).setCell (p := ⟨w.heap.size, 2, none⟩) (Nat.le_refl _) (.slice none 0 0))
    clear HG HBG
    go_wp2
    exact bodyPost_ret (v := .tuple #[.agg #[.string ⟨#[]⟩, .slice none 0 0, .slice none 0 0], .bool false]) (by simp [results, Tryd.results18, go_sem, z0, z1, z2, n0]) rfl (by rw [HGN.out]; exact rmake_none (HB.out.alloc HB.out.size _))
  · have hA4 : Below w3.heap.size w3 (w3.alloc (.cells #[.string a.name, .slice Aa a.args.length ca] 25)) := (Below.refl _ _).alloc (Nat.le_refl _) _
    have HI4 := Lib.hid (HI.out.later hA4)
    have HL1 := Lib.hid (fun x hx => (HI.out.new.lt (b := x) hx))
    have x0 : (w3.alloc (.cells #[.string a.name, .slice Aa a.args.length ca] 25)).cell? ⟨w3.heap.size, 0, none⟩ = some (.string a.name) := by go_simp
    have x1 : (w3.alloc (.cells #[.string a.name, .slice Aa a.args.length ca] 25)).cell? ⟨w3.heap.size, 1, none⟩ = some (.slice Aa a.args.length ca) := by go_simp
    have hs4 : (w3.alloc (.cells #[.string a.name, .slice Aa a.args.length ca] 25)).heap.size = w3.heap.size + 1 := by simp
    cases more
    · have HGE : Hid (G = some ⟨a, []⟩) := Lib.hid (by rw [HG.out]; rfl)
      have z0 : w3.cell? ⟨w.heap.size, 0, none⟩ = some (.string ⟨#[]⟩) := cell_of_blk HI.out.res
      have z1 : w3.cell? ⟨w.heap.size, 1, none⟩ = some (.slice none 0 0) := cell_of_blk HI.out.res
      have z2 : w3.cell? ⟨w.heap.size, 2, none⟩ = some (.slice none 0 0) := cell_of_blk HI.out.res
      have f0 : w3.frozen? ⟨w.heap.size, 0, none⟩ = false := frozen_of_blk HI.out.res
      have f1 : w3.frozen? ⟨w.heap.size, 1, none⟩ = false := frozen_of_blk HI.out.res
      have f2 : w3.frozen? ⟨w.heap.size, 2, none⟩ = false := frozen_of_blk HI.out.res
      have HD := Lib.hid (HI.out.done (parts_none w3) (New.nil _ _) (fun b _ h => by simp at h))
      clear HG HBG x0 x1 hs4 HI4 hA4
      go_wp2
      exact bodyPost_ret (v := .tuple #[.agg #[.string a.name, .slice Aa a.args.length ca, .slice none 0 0], .bool true]) (by simp [results, Tryd.results18, go_sem, z0, z1, z2, n0]) rfl (by rw [HGE.out]; exact makesRu_later (hB := HD.out.1.size) HD.out ((Below.refl _ _).alloc (Nat.le_refl _) _))
    · have HG2 : Hid (G = bo.map (⟨a, ·⟩)) := Lib.hid HG.out
      have hbb := HBG.out _ (cell_later HI4.out.bel HM.out)
      clear HG HBG hA4
      go_wp2_with fail
      refine hbb.mono ?_
      rintro e w5 ⟨hb5, v5, b5, rfl, hR5, hN5⟩
      have HI5 := Lib.hid (HI4.out.later hb5)
      replace x0 := cell_later hb5 x0
      replace x1 := cell_later hb5 x1
      have n5 : w.heap.size < w5.heap.size := lt_of_block HI5.out.res
      have n6 : w3.heap.size < w5.heap.size := lt_of_cell x0
      have z0 : w5.cell? ⟨w.heap.size, 0, none⟩ = some (.string ⟨#[]⟩) := cell_of_blk HI5.out.res
      have z1 : w5.cell? ⟨w.heap.size, 1, none⟩ = some (.slice none 0 0) := cell_of_blk HI5.out.res
      have z2 : w5.cell? ⟨w.heap.size, 2, none⟩ = some (.slice none 0 0) := cell_of_blk HI5.out.res
      have f0 : w5.frozen? ⟨w.heap.size, 0, none⟩ = false := frozen_of_blk HI5.out.res
      have f1 : w5.frozen? ⟨w.heap.size, 1, none⟩ = false := frozen_of_blk HI5.out.res
      have f2 : w5.frozen? ⟨w.heap.size, 2, none⟩ = false := frozen_of_blk HI5.out.res
      have HX5 := Lib.hid (And.intro hR5 hN5)
      rw [hs4] at HX5
      obtain ⟨A5, c5, rfl, _⟩ := sliceK_form hR5
      have n3 := n0
      clear hbb hb5 hR5 hN5 hs4 HI4 HI n0
      have n0 := n5
      cases bo with
      | none =>
        have HGN : Hid (G = none) := Lib.hid HG2.out
        have HB := Lib.hid (((HI5.out.bel.setCell (p := ⟨w.heap.size, 0, none⟩) (Nat.le_refl _) (.string ⟨#[]⟩)).setCell (p := ⟨w.heap.size, 1, none⟩) (Nat.le_refl _) (.slice none 0 0)).setCell (p := ⟨w.heap.size, 2, none⟩) (Nat.le_refl _) (.slice none 0 0))
        go_wp2
        exact bodyPost_ret (v := .tuple #[.agg #[.string ⟨#[]⟩, .slice none 0 0, .slice none 0 0], .bool false]) (by simp [results, Tryd.results18, go_sem, z0, z1, z2]) rfl (by rw [HGN.out]; exact rmake_none HB.out)
      | some ps =>
        have HGE : Hid (G = some ⟨a, ps⟩) := Lib.hid HG2.out
        have HD := Lib.hid (HI5.out.done HX5.out.1 (HX5.out.2.mono (by omega)) (fun b hb hc => by have h1 := HL1.out b hb; have h2 := (HX5.out.2.own b hc).1; omega))
        go_wp2
        exact bodyPost_ret (v := .tuple #[.agg #[.string a.name, .slice Aa a.args.length ca, .slice A5 ps.length c5], .bool true]) (by simp [results, Tryd.results18, go_sem, z0, z1, z2]) rfl (by rw [HGE.out]; exact HD.out)

end Go.Proofs.YtmhjabjiojfgnaaDoor
