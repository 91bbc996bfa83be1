/- The walk of DrawRulePut. -/
import Derived.Laws.EntriesVeiled
import Derived.Deep.RegionHeld3
import Derived.Deep.RegionWith
import Derived.Deep.RegionLaw
import Derived.BigQuiet
import Derived.Deep.QuietTactic
import Derived.Deep.DrawnRows
import Derived.Deep.AppendLies
import Derived.WalkKit
import Derived.WalkSpells
import Derived.WalkLawsBesides
import Derived.Lib.Hide
import Derived.Test.YtmhjabjiojfgnaaDoorDrawB
namespace Go.Proofs.YtmhjabjiojfgnaaDoor
open Go.RowKit D
set_option linter.unusedVariables false
attribute [local go_sem ↓] Go.wp_at_zero Go.wp_at_succ

/-- A block none of whose cells is a yes or no. -/
def D.NoBB (w : World) (n0 : Nat) : Prop := ∀ o u, w.cell? ⟨n0, o, none⟩ = some u → ∀ b, u ≠ .bool b
theorem D.nobb_box {w : World} {n0 : Nat} {s : ByteArray} {A B : Option Addr} {l c m d : Nat} {t : TypeId} (h : w.heap[n0]? = some (.cells #[.string s, .slice A l c, .slice B m d] t (0, 0))) : NoBB w n0 := by
  intro o u hu
  rw [cell_of_blk h] at hu
  match o with
  | 0 => simp at hu; subst hu; exact fun b => by simp
  | 1 => simp at hu; subst hu; exact fun b => by simp
  | 2 => simp at hu; subst hu; exact fun b => by simp
  | o + 3 => simp at hu
theorem D.terms_apartB {w : World} {n0 : Nat} (ha : NoBB w n0) {v : Value} {ts : List T} {bs : List Nat} (h : termsK w [v] ts bs) : n0 ∉ bs := by
  intro hb
  obtain ⟨Ad, cap, hcs, hl, hm, g0, g1⟩ := h
  by_cases hne : ts = []
  · rw [g0 hne] at hb; simp at hb
  · obtain ⟨b, o, rfl, F, G, rfl, hF⟩ := g1 hne
    rcases List.mem_cons.1 hb with rfl | hb
    · match ts, hne with
      | y :: r, _ =>
        obtain ⟨a1, a2, a3⟩ := hF 0 y rfl
        obtain ⟨e, _, _⟩ := a3
        have := a2 0 (.bool y.var) (by rw [e]; rfl)
        exact ha _ _ this _ rfl
    · obtain ⟨k, hk, hck⟩ := List.mem_flatMap.1 hb
      have hkl := List.mem_range.1 hk
      obtain ⟨a1, a2, a3⟩ := hF k ts[k] (List.getElem?_eq_getElem hkl)
      obtain ⟨_, _, e⟩ := a3
      rw [e] at hck; simp at hck
theorem D.rowedP_apartB {w : World} {n0 : Nat} (ha : NoBB w n0) {L : List Value} {xs : List Pt} {bs : List Nat} (h : Rowed 3 partK w L xs bs) : n0 ∉ bs := by
  obtain ⟨h1, h2, G, rfl, h3⟩ := h
  intro hb
  obtain ⟨j, hj, hc⟩ := List.mem_flatMap.1 hb
  obtain ⟨s, _, _, ht⟩ := h3 j (List.mem_range.1 hj)
  exact terms_apartB ha ht hc
/-- A drawn rule under way: its box is block rb, the result's block n0; the body is drawn in the world wb. -/
structure RuInv (g p : Nat) (n0 rb : Nat) (wb : World) (a : A) (A1 : Option Addr) (c1 : Nat) (b1 : List Nat) (xs : List Pt) (A2 : Option Addr) (c2 : Nat) (wr : World) : Prop where
  res : ∃ s A l c B m d, wr.heap[n0]? = some (.cells #[.string s, .slice A l c, .slice B m d] 36 (0, 0))
  box : wr.heap[rb]? = some (.cells #[.string a.name, .slice A1 a.args.length c1, .slice A2 xs.length c2] 36 (0, 0))
  at_ : atomK wr [.string a.name, .slice A1 a.args.length c1] a b1
  alt : ∀ b ∈ b1, b < wb.heap.size
  bd : BdInv g p wb xs (.slice A2 xs.length c2) wr
  n0b : n0 < wb.heap.size
  g0 : g ≠ n0
  gb : g ≠ rb
  nr : n0 ≠ rb
  ga : g ∉ b1
  rbb : wb.heap.size ≤ rb
section
variable {g p n0 rb : Nat} {wb : World} {a : A} {A1 : Option Addr} {c1 : Nat} {b1 : List Nat} {xs : List Pt} {A2 : Option Addr} {c2 : Nat} {wr : World}
theorem RuInv.call {p2 : Nat} {w2 : World} (h : RuInv g p n0 rb wb a A1 c1 b1 xs A2 c2 wr) (hR : Rdr g p2 w2) (hK : KeptBut [g] wr w2) : RuInv g p2 n0 rb wb a A1 c1 b1 xs A2 c2 w2 := by
  obtain ⟨s, A, l, c, B, m, d, hr⟩ := h.res
  exact ⟨⟨s, A, l, c, B, m, d, hK.blk hr (by simp; exact fun e => h.g0 e.symm)⟩, hK.blk h.box (by simp; exact fun e => h.gb e.symm), Good.kept atomK_good h.at_ hK (fun b hb => by simp; rintro rfl; exact h.ga hb), h.alt, h.bd.call hR hK, h.n0b, h.g0, h.gb, h.nr, h.ga, h.rbb⟩
theorem RuInv.below {w2 : World} (h : RuInv g p n0 rb wb a A1 c1 b1 xs A2 c2 wr) (hB : Below wr.heap.size wr w2) : RuInv g p n0 rb wb a A1 c1 b1 xs A2 c2 w2 := by
  obtain ⟨s, A, l, c, B, m, d, hr⟩ := h.res
  exact ⟨⟨s, A, l, c, B, m, d, (hB.block _ (lt_of_block hr)).trans hr⟩, (hB.block _ (lt_of_block h.box)).trans h.box, atomK_good.below h.at_ hB, h.alt, h.bd.below hB, h.n0b, h.g0, h.gb, h.nr, h.ga, h.rbb⟩
theorem RuInv.drew (h : RuInv g p n0 rb wb a A1 c1 b1 xs A2 c2 wr) : RuInv g p n0 rb wb a A1 c1 b1 xs A2 c2 wr.drew := h.below ((Below.refl _ _).drew)
/-- The body gives way to another one. -/
theorem RuInv.put {ys : List Pt} {A3 : Option Addr} {c3 : Nat} {w2 : World} (h : RuInv g p n0 rb wb a A1 c1 b1 xs A2 c2 wr) (hres : w2.heap[n0]? = wr.heap[n0]?) (hbox : w2.heap[rb]? = wr.heap[rb]?) (hat : ∀ b ∈ b1, w2.heap[b]? = wr.heap[b]?) (hbd : BdInv g p wb ys (.slice A3 ys.length c3) w2) :
    RuInv g p n0 rb wb a A1 c1 b1 ys A3 c3 (w2.setCell ⟨rb, 2, none⟩ (.slice A3 ys.length c3)) := by
  obtain ⟨s, A, l, c, B, m, d, hr⟩ := h.res
  have hb2 := hbox.trans h.box
  have hx := blk_setG (o := 2) (u := .slice A3 ys.length c3) hb2
  have hnb := nobb_box hb2
  have hat2 := atomK_good.keep h.at_ hat
  have hb1 : rb ∉ b1 := terms_apartB hnb (atom_args hat2)
  obtain ⟨L, bs, hC, hbb⟩ := hbd.coll
  have hbs : rb ∉ bs := rowedP_apartB hnb hC.row
  have hne : (Value.slice A3 ys.length c3).ownBlock ≠ some rb := own_ne_blk hC.own hb2 (by decide)
  refine ⟨⟨s, A, l, c, B, m, d, ((Below.heap_setCell _ _ _ _ h.nr).trans hres).trans hr⟩, hx, atomK_good.keep hat2 fun b hb => Below.heap_setCell _ _ _ _ (by rintro rfl; exact hb1 hb), h.alt, ⟨⟨L, bs, hC.setBox partK_good hne hbs, hbb⟩, hbd.small, hbd.rdr.belowN ((Below.refl wb.heap.size w2).setCell h.rbb _) hbd.glt, hbd.kept.setNew h.rbb _, hbd.glt⟩, h.n0b, h.g0, h.gb, h.nr, h.ga, h.rbb⟩
/-- The body gives way to none. -/
theorem RuInv.bare (h : RuInv g p n0 rb wb a A1 c1 b1 xs A2 c2 wr) : RuInv g p n0 rb wb a A1 c1 b1 [] (some ⟨wr.heap.size, 0, none⟩) 0 ((wr.setCell ⟨rb, 2, none⟩ (.slice (some ⟨wr.heap.size, 0, none⟩) 0 0)).alloc (.cells #[] 72)) := by
  obtain ⟨s, A, l, c, B, m, d, hr⟩ := h.res
  have hx := blk_setG (o := 2) (u := .slice (some ⟨wr.heap.size, 0, none⟩) 0 0) h.box
  have hb1 : rb ∉ b1 := terms_apartB (nobb_box h.box) (atom_args h.at_)
  have hat := atomK_good.keep h.at_ (w' := wr.setCell ⟨rb, 2, none⟩ (.slice (some ⟨wr.heap.size, 0, none⟩) 0 0)) fun b hb => Below.heap_setCell _ _ _ _ (by rintro rfl; exact hb1 hb)
  have hr2 := (Below.heap_setCell wr ⟨rb, 2, none⟩ (.slice (some ⟨wr.heap.size, 0, none⟩) 0 0) n0 h.nr).trans hr
  have hrd := h.bd.rdr.belowN ((Below.refl wb.heap.size wr).setCell (p := ⟨rb, 2, none⟩) h.rbb (.slice (some ⟨wr.heap.size, 0, none⟩) 0 0)) h.bd.glt
  have hk := h.bd.kept.setNew (p := ⟨rb, 2, none⟩) h.rbb (.slice (some ⟨wr.heap.size, 0, none⟩) 0 0)
  have hsz : (wr.setCell ⟨rb, 2, none⟩ (.slice (some ⟨wr.heap.size, 0, none⟩) 0 0)).heap.size = wr.heap.size := by simp [World.setCell]
  generalize wr.setCell ⟨rb, 2, none⟩ (.slice (some ⟨wr.heap.size, 0, none⟩) 0 0) = wx at *
  rw [← hsz] at hx ⊢
  have hA : Below wx.heap.size wx (wx.alloc (.cells #[] 72)) := (Below.refl _ _).alloc (Nat.le_refl _) _
  exact ⟨⟨s, A, l, c, B, m, d, (hA.block _ (lt_of_block hr2)).trans hr2⟩, (hA.block _ (lt_of_block hx)).trans hx, atomK_good.below hat hA, h.alt, ⟨⟨_, _, Coll.empty (heap_alloc_new wx _) hk.size, fun b hb => by simp at hb⟩, fun a ha => by simp at ha, hrd.below hA, hk.belowN hA hk.size, h.bd.glt⟩, h.n0b, h.g0, h.gb, h.nr, h.ga, h.rbb⟩
theorem RuInv.cell2 (h : RuInv g p n0 rb wb a A1 c1 b1 xs A2 c2 wr) : wr.cell? ⟨rb, 2, none⟩ = some (.slice A2 xs.length c2) := cell_of_blk h.box
theorem RuInv.froz (h : RuInv g p n0 rb wb a A1 c1 b1 xs A2 c2 wr) (o : Nat) : wr.frozen? ⟨rb, o, none⟩ = false := frozen_of_blk h.box
theorem RuInv.app {y : A} {A4 : Option Addr} {c4 : Nat} {w3 w4 : World} {L4 : List Value} {bs4 : List Nat} {pp : Nat} {o1 : Obj} (h : RuInv g pp n0 rb wb a A1 c1 b1 xs A2 c2 w3) (hC : Coll 3 partK wb.heap.size 72 w4 (.slice A4 (xs.length + 1) c4) L4 (xs ++ [⟨false, y⟩]) bs4) (hbb : ∀ b ∈ bs4, wb.heap.size ≤ b) (hB : Below wb.heap.size w3 w4) (hG : (w3.alloc o1).grownBy w4 (Value.slice A2 xs.length c2).ownBlock) (hy : PtS ⟨false, y⟩) :
    RuInv g pp n0 rb wb a A1 c1 b1 (xs ++ [⟨false, y⟩]) A4 c4 (w4.setCell ⟨rb, 2, none⟩ (.slice A4 (xs.length + 1) c4)) := by
  have hA : Below w3.heap.size w3 (w3.alloc o1) := (Below.refl _ _).alloc (Nat.le_refl _) _
  obtain ⟨s, A, l, c, B, m, d, hr⟩ := h.res
  obtain ⟨L, bs, hCo, hbs⟩ := h.bd.coll
  have hkeep : ∀ k, k < wb.heap.size → w4.heap[k]? = w3.heap[k]? := fun k hk => hB.block k hk
  have hbd := h.bd.app hC hbb hB hy
  have hne : (Value.slice A2 xs.length c2).ownBlock ≠ some rb := own_ne_blk hCo.own h.box (by decide)
  have hbox : w4.heap[rb]? = w3.heap[rb]? := by
    rw [hG.block rb (Nat.lt_of_lt_of_le (lt_of_block h.box) hA.size) (fun e => hne e.symm)]
    exact hA.block rb (lt_of_block h.box)
  have e : xs.length + 1 = (xs ++ [(⟨false, y⟩ : Pt)]).length := by simp
  rw [e]
  exact h.put (hkeep n0 h.n0b) hbox (fun b hb => hkeep b (h.alt b hb)) (by rw [← e]; exact hbd)
end

theorem RuInv.keep {g pp n0 rb : Nat} {wb : World} {a : A} {A1 : Option Addr} {c1 : Nat} {b1 : List Nat} {xs : List Pt} {A2 : Option Addr} {c2 : Nat} {w3 w4 : World} {o1 : Obj} (h : RuInv g pp n0 rb wb a A1 c1 b1 xs A2 c2 w3) (hB : Below wb.heap.size w3 w4) (hG : (w3.alloc o1).grownBy w4 (Value.slice A2 xs.length c2).ownBlock) :
    w4.cell? ⟨rb, 2, none⟩ = some (.slice A2 xs.length c2) ∧ w4.frozen? ⟨rb, 2, none⟩ = false ∧ rb < w4.heap.size := by
  have hA : Below w3.heap.size w3 (w3.alloc o1) := (Below.refl _ _).alloc (Nat.le_refl _) _
  obtain ⟨L, bs, hCo, hbs⟩ := h.bd.coll
  have hne : (Value.slice A2 xs.length c2).ownBlock ≠ some rb := own_ne_blk hCo.own h.box (by decide)
  have hbox : w4.heap[rb]? = w3.heap[rb]? := by
    rw [hG.block rb (Nat.lt_of_lt_of_le (lt_of_block h.box) hA.size) (fun e => hne e.symm)]
    exact hA.block rb (lt_of_block h.box)
  have hb := hbox.trans h.box
  exact ⟨cell_of_blk hb, frozen_of_blk hb, lt_of_block hb⟩
/-- A drawn rule that lies in memory. -/
def RuleO (m : Nat) (w : World) (e : Ending) (w' : World) : Prop := ∃ (r : Ru) (A : Option Addr) (c : Nat) (B : Option Addr) (d : Nat) (bs : List Nat), e = .returned (.agg #[.string r.head.name, .slice A r.head.args.length c, .slice B r.body.length d]) ∧ ruleK w' [.string r.head.name, .slice A r.head.args.length c, .slice B r.body.length d] r bs ∧
  r.head.name.size ≤ 16 ∧ r.head.args.length ≤ 4 ∧ (∀ t ∈ r.head.args, t.name.size ≤ 16) ∧ r.body.length ≤ m ∧ (∀ x ∈ r.body, PtS x) ∧ Below w.heap.size w w'
def lenAt2 (w : World) (b : Nat) : Nat := match w.cell? ⟨b, 2, none⟩ with
  | some (.slice _ n _) => n
  | _ => 0
theorem lenAt2_of {w : World} {b l c : Nat} {A : Option Addr} (h : w.cell? ⟨b, 2, none⟩ = some (.slice A l c)) : lenAt2 w b = l := by unfold lenAt2; rw [h]
theorem RuInv.done {g p rb : Nat} {w wb : World} {a : A} {A1 : Option Addr} {c1 : Nat} {b1 : List Nat} {xs : List Pt} {A2 : Option Addr} {c2 : Nat} {wr : World} (h : RuInv g p w.heap.size rb wb a A1 c1 b1 xs A2 c2 wr) (hb : Below w.heap.size w wb) (hg : w.heap.size ≤ g) (hn : PtS ⟨false, a⟩) (hx : xs.length ≤ 5) :
    RuleO 5 w (.returned (.agg #[.string a.name, .slice A1 a.args.length c1, .slice A2 xs.length c2])) (((wr.setCell ⟨w.heap.size, 0, none⟩ (.string a.name)).setCell ⟨w.heap.size, 1, none⟩ (.slice A1 a.args.length c1)).setCell ⟨w.heap.size, 2, none⟩ (.slice A2 xs.length c2)) := by
  obtain ⟨s, A, l, c, B, m, d, hr⟩ := h.res
  have hnb := nobb_box hr
  have n1 : w.heap.size ∉ b1 := terms_apartB hnb (atom_args h.at_)
  obtain ⟨L, bs, hC, hbb⟩ := h.bd.coll
  have n2 : w.heap.size ∉ bs := rowedP_apartB hnb hC.row
  have hne : (Value.slice A2 xs.length c2).ownBlock ≠ some w.heap.size := own_ne_blk hC.own hr (by decide)
  have k1 := hC.setBox (o := 0) (u := .string a.name) partK_good hne n2
  have k2 := k1.setBox (o := 1) (u := .slice A1 a.args.length c1) partK_good hne n2
  have k3 := k2.setBox (o := 2) (u := .slice A2 xs.length c2) partK_good hne n2
  obtain ⟨b3, hs3, _⟩ := k3.slice
  have hat := atomK_good.keep h.at_ (w' := ((wr.setCell ⟨w.heap.size, 0, none⟩ (.string a.name)).setCell ⟨w.heap.size, 1, none⟩ (.slice A1 a.args.length c1)).setCell ⟨w.heap.size, 2, none⟩ (.slice A2 xs.length c2)) fun b hb => by
    have hne : b ≠ w.heap.size := by rintro rfl; exact n1 hb
    rw [Below.heap_setCell _ _ _ _ hne, Below.heap_setCell _ _ _ _ hne, Below.heap_setCell _ _ _ _ hne]
  obtain ⟨s', hs1, hs2, hs3'⟩ := hat
  simp only [List.cons.injEq, and_true, true_and] at hs1
  subst hs1
  have hB := hb.trans (h.bd.kept.below (B := w.heap.size) (by simpa using hg) hb.size)
  exact ⟨⟨a, xs⟩, A1, c1, A2, c2, b1 ++ b3, rfl, ⟨_, _, b1, b3, rfl, hs2, rfl, hs3', hs3⟩, hn.1, hn.2.1, hn.2.2, hx, h.bd.small, ((hB.setCell (Nat.le_refl _) _).setCell (Nat.le_refl _) _).setCell (Nat.le_refl _) _⟩

set_option maxRecDepth 100000 in
set_option maxHeartbeats 8000000 in
theorem drawRulePut_any (v : Value) (cs : List UInt8) (bs : List Nat) (w : World) (h : bytesK w [v] cs bs) (hn : cs.length ≤ 1048576) :
    Calls Tryd.prog 27 #[v] w (RuleO 5 w) := by
  obtain ⟨i0, hi, hz0, hz1, hz2⟩ := info_parts infoPartD
  have hA : Below w.heap.size w (w.alloc (.cells #[.string ⟨#[]⟩, .slice none 0 0, .slice none 0 0] 36)) := (Below.refl _ _).alloc (Nat.le_refl _) _
  have HZ := Lib.hid (heap_alloc_new w (.cells #[.string ⟨#[]⟩, .slice none 0 0, .slice none 0 0] 36))
  have ho := open_any v cs bs _ (bytesK_good.below h hA) hn
  clear h
  go_enter Tryd.func27, Tryd.ntmps27
  go_wp2_with fail
  refine ho.mono ?_
  rintro e w1 ⟨rfl, hR, hb⟩
  replace HZ := Lib.hid ((hb.block _ (lt_of_block HZ.out)).trans HZ.out)
  have HB := Lib.hid (hA.trans (hb.mono hA.size))
  rw [World.size_alloc] at hR
  have hd := l10AnyAtom_s _ 0 w1 hR (by omega)
  have hg1 := hR.lt
  clear ho hR hb hA
  go_wp2_with fail
  refine hd.mono ?_
  rintro e w3 ⟨a, v2, L, p', rfl, hs, hl, hC, hR, hp, hK, hsm⟩
  obtain ⟨Av, cv, rfl⟩ := own_shape hC.own
  have hz := hK.blk HZ.out (by simp)
  have hA3 : Below w3.heap.size w3 (w3.alloc (.cells #[.string ⟨#[101]⟩, .string ⟨#[112]⟩, .string ⟨#[116]⟩] 9)) := (Below.refl _ _).alloc (Nat.le_refl _) _
  have hgl := hR.lt
  have h3 := l10Body_any _ p' [⟨#[101]⟩, ⟨#[112]⟩, ⟨#[116]⟩] 3 w3.heap.size _ (hR.below hA3) (heap_alloc_new w3 _) (Nat.ne_of_lt hgl) (by omega) rfl (by decide) (by decide) (by decide)
  have HB3 := Lib.hid ((HB.out.trans (hK.below (by simp) HB.out.size)).trans (hA3.mono (HB.out.trans (hK.below (by simp) HB.out.size)).size))
  obtain ⟨b9, hs9, _⟩ := (hC.below termK_good hA3).slice
  have ha9 : atomK (w3.alloc (.cells #[.string ⟨#[101]⟩, .string ⟨#[112]⟩, .string ⟨#[116]⟩] 9)) [.string a.name, .slice Av a.args.length cv] a b9 := ⟨_, rfl, Nat.le_trans hs (by decide), hs9⟩
  have hg9 := terms_apartN (hR.below hA3).noSB hs9
  have HA9 := Lib.hid (And.intro ha9 (And.intro hg9 (And.intro ((hA3.block _ (lt_of_block hz)).trans hz) (And.intro (atomK_good.lt ha9) (show PtS ⟨false, a⟩ from ⟨hs, hl, hsm⟩)))))
  have hw3 : w.heap.size + 1 < w3.heap.size := hgl
  clear hd hC hR hK hz hs hl hsm hs9 ha9 hg9 HZ HB
  go_wp2_with fail
  refine h3.mono ?_
  rintro e w4 ⟨xs, v4, p4, rfl, hx1, hx3, hp4, hF⟩
  obtain ⟨A4, c4, rfl⟩ := hF.shape
  have hF4 : RuInv (w.heap.size + 1) p4 w.heap.size w4.heap.size (w3.alloc (.cells #[.string ⟨#[101]⟩, .string ⟨#[112]⟩, .string ⟨#[116]⟩] 9)) a Av cv b9 xs A4 c4 (w4.alloc (.cells #[.string a.name, .slice Av a.args.length cv, .slice A4 xs.length c4] 36)) := by
    have hA5 : Below w4.heap.size w4 (w4.alloc (.cells #[.string a.name, .slice Av a.args.length cv, .slice A4 xs.length c4] 36)) := (Below.refl _ _).alloc (Nat.le_refl _) _
    have hr4 := hF.kept.blk HA9.out.2.2.1 (by simp)
    exact ⟨⟨_, _, _, _, _, _, _, (hA5.block _ (lt_of_block hr4)).trans hr4⟩, heap_alloc_new w4 _, atomK_good.below (Good.kept atomK_good HA9.out.1 hF.kept (fun b hb => by simp; rintro rfl; exact HA9.out.2.1 hb)) hA5, HA9.out.2.2.2.1, hF.below hA5, Nat.lt_of_lt_of_le (lt_of_block HA9.out.2.2.1) (Nat.le_refl _), by omega, by have := hF.kept.size; have := hF.glt; omega, by have := hF.kept.size; have := lt_of_block HA9.out.2.2.1; omega, HA9.out.2.1, hF.kept.size⟩
  have HF := Lib.hid hF4
  have HP := Lib.hid (And.intro (show p4 ≤ 45 by omega) hx3)
  have hpk := pick_any _ p4 8 _ HF.out.bd.rdr (by omega) (by omega) (by omega)
  have HPS := Lib.hid HA9.out.2.2.2.2
  have HBW := HB3
  clear h3 hF hF4 hx1 hx3 hp4 hp HA9 HB3
  go_wp2_with fail
  refine hpk.mono ?_
  rintro e w5 ⟨m8, rfl, hm8, hR5, hG5⟩
  have HF5 := Lib.hid (HF.out.call hR5 (KeptBut.of_grown hG5))
  clear hpk hR5 hG5 hm8 HF
  generalize (w3.alloc (.cells #[.string ⟨#[101]⟩, .string ⟨#[112]⟩, .string ⟨#[116]⟩] 9)) = wb at *
  generalize hgq : w.heap.size + 1 = g at *
  have hgw : w.heap.size ≤ g := by omega
  clear hgq hg1 hgl hw3
  by_cases hm : m8 = 0
  · subst hm
    have HF6 := Lib.hid HF5.out.bare
    have f2 := HF5.out.froz 2
    have q2 := HF5.out.cell2
    have n5 : w4.heap.size < w5.heap.size := lt_of_block HF5.out.box
    have hpk2 := pick_any g (p4 + 1) 16 _ HF6.out.bd.rdr (by have := HP.out.1; omega) (by omega) (by omega)
    go_wp2_with fail
    refine hpk2.mono ?_
    rintro e w7 ⟨m16, rfl, hm16, hR7, hG7⟩
    have HF7 : Hid (RuInv g (p4 + 1 + 1) w.heap.size w4.heap.size wb a Av cv b9 ([]) (some ⟨w5.heap.size, 0, none⟩) 0 w7) := Lib.hid (HF6.out.call hR7 (KeptBut.of_grown hG7))
    clear hpk2 hR7 hG7 hm16 HF6 HF5 q2 f2 n5
    have HL0 : Hid (∃ (ys : List Pt) (A' : Option Addr) (c' p' : Nat), ys.length ≤ 5 ∧ p' ≤ p4 + 2 + 22 * ys.length ∧ RuInv g p' w.heap.size w4.heap.size wb a Av cv b9 ys A' c' w7) := Lib.hid ⟨[], some ⟨w5.heap.size, 0, none⟩, 0, p4 + 1 + 1, by first | omega | (have := HP.out.2; omega) | simp, by omega, HF7.out⟩
    by_cases hz : m16 = 0
    · subst hz
      clear HF7
      go_wp2
      go_loopw [] (fun wr => ∃ (ys : List Pt) (A' : Option Addr) (c' p' : Nat), ys.length ≤ 5 ∧ p' ≤ p4 + 2 + 22 * ys.length ∧ RuInv g p' w.heap.size w4.heap.size wb a Av cv b9 ys A' c' wr) (fun wr => 6 - lenAt2 wr w4.heap.size)
      case atStart => exact HL0.out
      case round =>
        obtain ⟨ys, A', c', p', hy5, hp', hI⟩ := hrel
        have HI := Lib.hid hI.drew
        have HI0 := Lib.hid hI
        have HXL : Hid (ys.length ≤ 5 ∧ p' ≤ p4 + 2 + 22 * ys.length ∧ p4 ≤ 45) := Lib.hid ⟨hy5, hp', HP.out.1⟩
        have H63 : Hid (ys.length + 1 ≤ maxLen ∧ (ys.length + 1) * 48 ≤ 140737488355328) := Lib.hid (by unfold maxLen; omega)
        clear hI HL0 hy5 hp'
        have q1 := HI.out.cell2
        go_wp2
        go_region_held3 (fun w' => w'.cell? ⟨w4.heap.size, 2, none⟩ = some (.slice A' ys.length c')) (first | exact q1 | go_keep)
          (first
            | (go_at_call 66; refine (pick_any g _ 2 _ HI.out.bd.rdr (by have := HXL.out; omega) (by omega) (by omega)).mono ?_; rintro e w8 ⟨j2, rfl, hj2, hR4, hG4⟩; have hw3 : IntKind.i64.wrap (4 + (j2 : Int)) = 4 + (j2 : Int) := (by simp only [IntKind.wrap, IntKind.bits, IntKind.signed]; simp; omega); replace HI := Lib.hid (HI.out.call hR4 (KeptBut.of_grown hG4)); replace q1 := HI.out.cell2; clear hR4 hG4))
        have hn4 : w4.heap.size < w8.heap.size := lt_of_cell q1
        by_cases hlt : ys.length < 4 + j2
        · have hlt' : (ys.length : Int) < 4 + (j2 : Int) := by omega
          have HLT := Lib.hid hlt
          have HJ := Lib.hid hj2
          have HI8 := Lib.hid HI.out.drew
          have g1 := HI8.out.froz 2
          have q2 : w8.drew.cell? ⟨w4.heap.size, 2, none⟩ = some (.slice A' ys.length c') := HI8.out.cell2
          have HAT := Lib.hid (l10AnyAtom_s g (p' + 1) w8.drew HI8.out.bd.rdr (by have := HXL.out; omega))
          clear hlt HI hj2
          go_wp2
          go_region_law
            (first
              | (go_simp; go_at_call 39; refine HAT.out.mono ?_; rintro e w9 ⟨y, v9, L9, p9, rfl, hs9, hl9, hC9, hR9, hp9, hK9, hsm9⟩; obtain ⟨b4, hsl4, hfar4⟩ := hC9.slice; obtain ⟨A9, c9, rfl⟩ := own_shape hC9.own; have HI9 := Lib.hid (HI8.out.call hR9 hK9); have HY := Lib.hid (HI9.out.bd.part HI8.out.bd rfl ⟨_, rfl, Nat.le_trans hs9 (by decide), hsl4⟩ (fun b hb => (hfar4 b hb).resolve_right (by simp)) false); have HPY : Hid (PtS ⟨false, y⟩ ∧ p9 ≤ p' + 21) := Lib.hid ⟨⟨hs9, hl9, hsm9⟩, by omega⟩; replace q2 : w9.cell? ⟨w4.heap.size, 2, none⟩ = some (.slice A' ys.length c') := HI9.out.cell2; replace g1 := HI9.out.froz 2; replace hn4 : w4.heap.size < w9.heap.size := lt_of_cell q2; obtain ⟨L5, bs5, hC5, hbb5, hR5, hL5, hO5, hB5⟩ := HY.out; have HY5 := Lib.hid (And.intro hC5 (And.intro hbb5 (And.intro hR5 (And.intro hL5 (And.intro hO5 (And.intro hB5 (Nat.le_trans HI9.out.bd.kept.size hB5.size))))))); clear HY hC5 hbb5 hR5 hL5 hO5 hB5 hs9 hl9 hC9 hR9 hp9 hK9 hsm9 hsl4 hfar4 HAT)
              | (refine step_coll (by rfl) (.tmp 29) (.tmp 33) _ (by rfl) wb.heap.size 72 i0 (.agg #[.bool false, .string ⟨#[]⟩, .slice none 0 0]) 3 48 Tryd.underlying34 hi hz0 hz1 hz2 rfl (Nat.zero_lt_succ 2) partK_good (.slice A' ys.length c') ys.length L5 ys bs5 (by rfl) HY5.out.1 rfl (some ⟨w9.heap.size, 0, none⟩) 1 1 _ [⟨false, y⟩] _ (by rfl) HY5.out.2.2.1 rfl HY5.out.2.2.2.1 HY5.out.2.2.2.2.1 H63.out.1 H63.out.2 w9 wb.heap.size HY5.out.2.2.2.2.2.1 (Nat.le_refl _) HY5.out.2.2.2.2.2.2 ?_; intro A6 c6 w10 hC6 hB6 hS6 hG6; have HZ := Lib.hid (And.intro (HI9.out.app hC6 HY5.out.2.1 hB6 hG6 HPY.out.1) (And.intro (HI9.out.keep hB6 hG6) hS6)); replace q2 := HZ.out.2.1.1; replace g1 := HZ.out.2.1.2.1; replace hn4 := HZ.out.2.1.2.2; clear hC6 hB6 hS6 hG6))
          all_goals
            have HI10 := Lib.hid HZ.out.1
            have HM : Hid (lenAt2 wr w4.heap.size = ys.length) := Lib.hid (lenAt2_of HI0.out.cell2)
            have HM2 : Hid (lenAt2 (w10.setCell ⟨w4.heap.size, 2, none⟩ (.slice A6 (ys.length + 1) c6)) w4.heap.size = ys.length + 1) := Lib.hid (lenAt2_of (by have := HI10.out.cell2; simpa using this))
            clear HZ q2 g1 hn4 HI8 HI9 HI0 HY5
            go_wp2
            go_roundw
            case rel => exact ⟨ys ++ [⟨false, y⟩], A6, c6, p9, by have := HLT.out; have := HJ.out; simp; omega, by have := HXL.out; have := HPY.out.2; simp; omega, by simpa using HI10.out⟩
            case measure => have := HM.out; have := HM2.out; have := HXL.out; omega
        · have hlt' : ¬ (ys.length : Int) < 4 + (j2 : Int) := by omega
          have HD := Lib.hid (HI.out.done HBW.out hgw HPS.out HXL.out.1)
          obtain ⟨s0, B0, l0, k0, B1, l1, k1, hres⟩ := HI.out.res
          have x0 := cell_of_blk (o := 0) HI.out.box
          have x1 := cell_of_blk (o := 1) HI.out.box
          have x2 := cell_of_blk (o := 2) HI.out.box
          have z0 := cell_of_blk (o := 0) hres
          have z1 := cell_of_blk (o := 1) hres
          have z2 := cell_of_blk (o := 2) hres
          have f0 := frozen_of_blk (o := 0) hres
          have f1 := frozen_of_blk (o := 1) hres
          have f2 := frozen_of_blk (o := 2) hres
          simp only [List.getElem?_toArray, List.getElem?_cons_zero, List.getElem?_cons_succ] at x0 x1 x2 z0 z1 z2
          clear hres
          go_wp2
          refine bodyPost_ret (v := .agg #[.string a.name, .slice Av a.args.length cv, .slice A' ys.length c']) (by simp [results, Tryd.results27, go_sem, z0, z1, z2]) rfl HD.out
    · have hzi : ¬ (m16 : Int) = 0 := by omega
      have HI := HF7
      have HD := Lib.hid (HF7.out.done HBW.out hgw HPS.out (by first | omega | (have := HP.out.2; omega) | simp))
      clear HL0
      obtain ⟨s0, B0, l0, k0, B1, l1, k1, hres⟩ := HI.out.res
      have x0 := cell_of_blk (o := 0) HI.out.box
      have x1 := cell_of_blk (o := 1) HI.out.box
      have x2 := cell_of_blk (o := 2) HI.out.box
      have z0 := cell_of_blk (o := 0) hres
      have z1 := cell_of_blk (o := 1) hres
      have z2 := cell_of_blk (o := 2) hres
      have f0 := frozen_of_blk (o := 0) hres
      have f1 := frozen_of_blk (o := 1) hres
      have f2 := frozen_of_blk (o := 2) hres
      simp only [List.getElem?_toArray, List.getElem?_cons_zero, List.getElem?_cons_succ] at x0 x1 x2 z0 z1 z2
      clear hres
      go_wp2
      refine bodyPost_ret (v := .agg #[.string a.name, .slice Av a.args.length cv, .slice (some ⟨w5.heap.size, 0, none⟩) ([]).length 0]) (by simp [results, Tryd.results27, go_sem, z0, z1, z2]) rfl HD.out
  · have hmi : ¬ (m8 : Int) = 0 := by omega
    have HF6 := HF5
    have hpk2 := pick_any g (p4 + 1) 16 _ HF6.out.bd.rdr (by have := HP.out.1; omega) (by omega) (by omega)
    clear HF5
    go_wp2_with fail
    refine hpk2.mono ?_
    rintro e w7 ⟨m16, rfl, hm16, hR7, hG7⟩
    have HF7 : Hid (RuInv g (p4 + 1 + 1) w.heap.size w4.heap.size wb a Av cv b9 (xs) (A4) c4 w7) := Lib.hid (HF6.out.call hR7 (KeptBut.of_grown hG7))
    clear hpk2 hR7 hG7 hm16 HF6 
    have HL0 : Hid (∃ (ys : List Pt) (A' : Option Addr) (c' p' : Nat), ys.length ≤ 5 ∧ p' ≤ p4 + 2 + 22 * ys.length ∧ RuInv g p' w.heap.size w4.heap.size wb a Av cv b9 ys A' c' w7) := Lib.hid ⟨xs, A4, c4, p4 + 1 + 1, by first | omega | (have := HP.out.2; omega) | simp, by omega, HF7.out⟩
    by_cases hz : m16 = 0
    · subst hz
      clear HF7
      go_wp2
      go_loopw [] (fun wr => ∃ (ys : List Pt) (A' : Option Addr) (c' p' : Nat), ys.length ≤ 5 ∧ p' ≤ p4 + 2 + 22 * ys.length ∧ RuInv g p' w.heap.size w4.heap.size wb a Av cv b9 ys A' c' wr) (fun wr => 6 - lenAt2 wr w4.heap.size)
      case atStart => exact HL0.out
      case round =>
        obtain ⟨ys, A', c', p', hy5, hp', hI⟩ := hrel
        have HI := Lib.hid hI.drew
        have HI0 := Lib.hid hI
        have HXL : Hid (ys.length ≤ 5 ∧ p' ≤ p4 + 2 + 22 * ys.length ∧ p4 ≤ 45) := Lib.hid ⟨hy5, hp', HP.out.1⟩
        have H63 : Hid (ys.length + 1 ≤ maxLen ∧ (ys.length + 1) * 48 ≤ 140737488355328) := Lib.hid (by unfold maxLen; omega)
        clear hI HL0 hy5 hp'
        have q1 := HI.out.cell2
        go_wp2
        go_region_held3 (fun w' => w'.cell? ⟨w4.heap.size, 2, none⟩ = some (.slice A' ys.length c')) (first | exact q1 | go_keep)
          (first
            | (go_at_call 66; refine (pick_any g _ 2 _ HI.out.bd.rdr (by have := HXL.out; omega) (by omega) (by omega)).mono ?_; rintro e w8 ⟨j2, rfl, hj2, hR4, hG4⟩; have hw3 : IntKind.i64.wrap (4 + (j2 : Int)) = 4 + (j2 : Int) := (by simp only [IntKind.wrap, IntKind.bits, IntKind.signed]; simp; omega); replace HI := Lib.hid (HI.out.call hR4 (KeptBut.of_grown hG4)); replace q1 := HI.out.cell2; clear hR4 hG4))
        have hn4 : w4.heap.size < w8.heap.size := lt_of_cell q1
        by_cases hlt : ys.length < 4 + j2
        · have hlt' : (ys.length : Int) < 4 + (j2 : Int) := by omega
          have HLT := Lib.hid hlt
          have HJ := Lib.hid hj2
          have HI8 := Lib.hid HI.out.drew
          have g1 := HI8.out.froz 2
          have q2 : w8.drew.cell? ⟨w4.heap.size, 2, none⟩ = some (.slice A' ys.length c') := HI8.out.cell2
          have HAT := Lib.hid (l10AnyAtom_s g (p' + 1) w8.drew HI8.out.bd.rdr (by have := HXL.out; omega))
          clear hlt HI hj2
          go_wp2
          go_region_law
            (first
              | (go_simp; go_at_call 39; refine HAT.out.mono ?_; rintro e w9 ⟨y, v9, L9, p9, rfl, hs9, hl9, hC9, hR9, hp9, hK9, hsm9⟩; obtain ⟨b4, hsl4, hfar4⟩ := hC9.slice; obtain ⟨A9, c9, rfl⟩ := own_shape hC9.own; have HI9 := Lib.hid (HI8.out.call hR9 hK9); have HY := Lib.hid (HI9.out.bd.part HI8.out.bd rfl ⟨_, rfl, Nat.le_trans hs9 (by decide), hsl4⟩ (fun b hb => (hfar4 b hb).resolve_right (by simp)) false); have HPY : Hid (PtS ⟨false, y⟩ ∧ p9 ≤ p' + 21) := Lib.hid ⟨⟨hs9, hl9, hsm9⟩, by omega⟩; replace q2 : w9.cell? ⟨w4.heap.size, 2, none⟩ = some (.slice A' ys.length c') := HI9.out.cell2; replace g1 := HI9.out.froz 2; replace hn4 : w4.heap.size < w9.heap.size := lt_of_cell q2; obtain ⟨L5, bs5, hC5, hbb5, hR5, hL5, hO5, hB5⟩ := HY.out; have HY5 := Lib.hid (And.intro hC5 (And.intro hbb5 (And.intro hR5 (And.intro hL5 (And.intro hO5 (And.intro hB5 (Nat.le_trans HI9.out.bd.kept.size hB5.size))))))); clear HY hC5 hbb5 hR5 hL5 hO5 hB5 hs9 hl9 hC9 hR9 hp9 hK9 hsm9 hsl4 hfar4 HAT)
              | (refine step_coll (by rfl) (.tmp 29) (.tmp 33) _ (by rfl) wb.heap.size 72 i0 (.agg #[.bool false, .string ⟨#[]⟩, .slice none 0 0]) 3 48 Tryd.underlying34 hi hz0 hz1 hz2 rfl (Nat.zero_lt_succ 2) partK_good (.slice A' ys.length c') ys.length L5 ys bs5 (by rfl) HY5.out.1 rfl (some ⟨w9.heap.size, 0, none⟩) 1 1 _ [⟨false, y⟩] _ (by rfl) HY5.out.2.2.1 rfl HY5.out.2.2.2.1 HY5.out.2.2.2.2.1 H63.out.1 H63.out.2 w9 wb.heap.size HY5.out.2.2.2.2.2.1 (Nat.le_refl _) HY5.out.2.2.2.2.2.2 ?_; intro A6 c6 w10 hC6 hB6 hS6 hG6; have HZ := Lib.hid (And.intro (HI9.out.app hC6 HY5.out.2.1 hB6 hG6 HPY.out.1) (And.intro (HI9.out.keep hB6 hG6) hS6)); replace q2 := HZ.out.2.1.1; replace g1 := HZ.out.2.1.2.1; replace hn4 := HZ.out.2.1.2.2; clear hC6 hB6 hS6 hG6))
          all_goals
            have HI10 := Lib.hid HZ.out.1
            have HM : Hid (lenAt2 wr w4.heap.size = ys.length) := Lib.hid (lenAt2_of HI0.out.cell2)
            have HM2 : Hid (lenAt2 (w10.setCell ⟨w4.heap.size, 2, none⟩ (.slice A6 (ys.length + 1) c6)) w4.heap.size = ys.length + 1) := Lib.hid (lenAt2_of (by have := HI10.out.cell2; simpa using this))
            clear HZ q2 g1 hn4 HI8 HI9 HI0 HY5
            go_wp2
            go_roundw
            case rel => exact ⟨ys ++ [⟨false, y⟩], A6, c6, p9, by have := HLT.out; have := HJ.out; simp; omega, by have := HXL.out; have := HPY.out.2; simp; omega, by simpa using HI10.out⟩
            case measure => have := HM.out; have := HM2.out; have := HXL.out; omega
        · have hlt' : ¬ (ys.length : Int) < 4 + (j2 : Int) := by omega
          have HD := Lib.hid (HI.out.done HBW.out hgw HPS.out HXL.out.1)
          obtain ⟨s0, B0, l0, k0, B1, l1, k1, hres⟩ := HI.out.res
          have x0 := cell_of_blk (o := 0) HI.out.box
          have x1 := cell_of_blk (o := 1) HI.out.box
          have x2 := cell_of_blk (o := 2) HI.out.box
          have z0 := cell_of_blk (o := 0) hres
          have z1 := cell_of_blk (o := 1) hres
          have z2 := cell_of_blk (o := 2) hres
          have f0 := frozen_of_blk (o := 0) hres
          have f1 := frozen_of_blk (o := 1) hres
          have f2 := frozen_of_blk (o := 2) hres
          simp only [List.getElem?_toArray, List.getElem?_cons_zero, List.getElem?_cons_succ] at x0 x1 x2 z0 z1 z2
          clear hres
          go_wp2
          refine bodyPost_ret (v := .agg #[.string a.name, .slice Av a.args.length cv, .slice A' ys.length c']) (by simp [results, Tryd.results27, go_sem, z0, z1, z2]) rfl HD.out
    · have hzi : ¬ (m16 : Int) = 0 := by omega
      have HI := HF7
      have HD := Lib.hid (HF7.out.done HBW.out hgw HPS.out (by first | omega | (have := HP.out.2; omega) | simp))
      clear HL0
      obtain ⟨s0, B0, l0, k0, B1, l1, k1, hres⟩ := HI.out.res
      have x0 := cell_of_blk (o := 0) HI.out.box
      have x1 := cell_of_blk (o := 1) HI.out.box
      have x2 := cell_of_blk (o := 2) HI.out.box
      have z0 := cell_of_blk (o := 0) hres
      have z1 := cell_of_blk (o := 1) hres
      have z2 := cell_of_blk (o := 2) hres
      have f0 := frozen_of_blk (o := 0) hres
      have f1 := frozen_of_blk (o := 1) hres
      have f2 := frozen_of_blk (o := 2) hres
      simp only [List.getElem?_toArray, List.getElem?_cons_zero, List.getElem?_cons_succ] at x0 x1 x2 z0 z1 z2
      clear hres
      go_wp2
      refine bodyPost_ret (v := .agg #[.string a.name, .slice Av a.args.length cv, .slice (A4) (xs).length c4]) (by simp [results, Tryd.results27, go_sem, z0, z1, z2]) rfl HD.out

end Go.Proofs.YtmhjabjiojfgnaaDoor
