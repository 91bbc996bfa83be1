/- The walk of copyBody. -/
import Derived.WalkKit
import Derived.Lib.Hide
import Derived.WalkSpells
import Derived.WalkLawsBesides
import Derived.BigQuiet
import Derived.Deep.RegionHeld3
import Derived.Deep.RegionWith
import Derived.Deep.DrawnRows
import Derived.Test.YtbcepahpehadeaaProg
import Derived.Test.YtbcepahpehadeaaCopyA
namespace Go.Proofs.Ytbcepahpehadeaa
open Go.RowKit D
set_option linter.unusedVariables false
attribute [local go_sem ↓] Go.wp_at_zero Go.wp_at_succ

theorem infoPartC : (Try.prog.info? 51).map (fun i => (i.zero, i.size, i.bytes)) = some (some (.agg #[.bool false, .string ⟨#[]⟩, .slice none 0 0]), 3, 48) := by kernel_rfl
theorem D.part_of_atom {w : World} {c1 c2 : Value} {a : A} {bs : List Nat} (b : Bool) (h : atomK w [c1, c2] a bs) : partK w [.bool b, c1, c2] ⟨b, a⟩ bs := by
  obtain ⟨s, hcs, hn, ht⟩ := h
  simp only [List.cons.injEq, and_true] at hcs
  obtain ⟨rfl, rfl⟩ := hcs
  exact ⟨_, rfl, hn, ht⟩

set_option maxHeartbeats 1000000 in
theorem copyBody_any (ts : List Pt) (v : Value) (bs : List Nat) (w : World) (h : partsK w [v] ts bs) (hn : ts.length ≤ 16777216) (ha : ∀ p ∈ ts, p.atom.args.length ≤ 16777216) :
    Calls Try.prog 32 #[v] w (Makes partsK ts w.heap.size w) := by
  obtain ⟨Ad, cap, rfl, hl, hm⟩ := sliceK_form h
  obtain ⟨i0, hi, hz0, hz1, hz2⟩ := info_parts infoPartC
  clear hm
  by_cases h0 : ts.length = 0
  · have hl : ((ts.length : Int) == 0) = true := beq_iff_eq.2 (by omega)
    have hx : ts = [] := List.length_eq_zero_iff.1 h0
    have HX := Lib.hid hx
    clear h h0 hx hi hz0 hz1 hz2 ha
    go_enter Try.func32, Try.ntmps32
    go_wp2
    go_ret
    exact ⟨Below.refl _ _, _, [], rfl, by rw [HX.out]; exact ⟨none, 0, rfl, Nat.zero_le _, Nat.zero_le _, fun _ => rfl, fun h => absurd rfl h⟩, New.nil _ _⟩
  · have hl0 : ((ts.length : Int) == 0) = false := beq_eq_false_iff_ne.2 (by omega)
    go_enter Try.func32, Try.ntmps32
    go_wp2_with (at_make; refine wpList_make_full _ rfl _ _ _ rfl w.heap.size 51 i0 _ 3 Try.underlying26 hi hz0 hz1 _ _ _ _ ts.length rfl rfl rfl rfl (by rw [hz2]; omega) (by unfold maxLen; omega) (Nat.le_refl _) ?_; intro w1 hown hgrow)
    have hb1 : Below w.heap.size w w1 := (Below.refl _ _).grown hgrow (Nat.le_refl _) (fun _ e => by cases e)
    have hg1 : w.heap.size < w1.heap.size := (hown.lt _ rfl).2
    clear hgrow hl0
    go_loopw [14] (fun i wr => ∃ (k : Nat) (L : List Value) (bs' : List Nat), k ≤ ts.length ∧ i = .int .i64 k ∧ wr.ownsRow w.heap.size 51 3 (.slice (some ⟨w.heap.size, 0, none⟩) ts.length ts.length) ts.length L ∧
        Filled 3 partK w1.heap.size wr L ts k bs' ∧ Below w.heap.size w wr ∧ w1.heap.size ≤ wr.heap.size) (fun i _ => ts.length - (intOf i).toNat)
    case atStart => exact ⟨0, _, _, Nat.zero_le _, rfl, hown, Filled.start, hb1, Nat.le_refl _⟩
    case round =>
      obtain ⟨k, L, bs', hk, rfl, how, hF, hb, hsz⟩ := hrel
      clear hown hb1
      by_cases hlt : k < ts.length
      · have hw := partsK_good.below h hb
        obtain ⟨b, o, Ae, ce, bk, rfl, _, c0, c1, c2, hel, _⟩ := parts_el hw hlt
        have hle : ts[k].atom.args.length ≤ 16777216 := ha _ (List.getElem_mem _)
        have hk0 : (0 : Int) ≤ (k : Int) := by omega
        have hk1 : (k : Int) < (ts.length : Int) := by omega
        have HLT := Lib.hid hlt
        have hA : Below wr.heap.size wr (wr.alloc (.cells #[.bool ts[k].no, .string ts[k].atom.name, .slice Ae ts[k].atom.args.length ce] 51)) := (Below.refl _ _).alloc (Nat.le_refl _) _
        have hAd := hA.drew
        have hc := copyAtom_any ts[k].atom _ _ bk _ (atomK_good.below (part_atom hel) hAd) hle
        have HP := Lib.hid (fun (w2 : World) (Ae' : Option Addr) (ce' : Nat) (b2 : List Nat) (hB : Below wr.heap.size wr w2) (hR : atomK w2 [.string ts[k].atom.name, .slice Ae' ts[k].atom.args.length ce'] ts[k].atom b2) (hN : New wr.heap.size w2 b2) => fill3 partK_good how hF hlt hb hB hg1 (Nat.le_refl _) hsz (part_of_atom ts[k].no hR) hN)
        have HK := Lib.hid (And.intro how hAd)
        have hne1 : ¬ wr.heap.size = w.heap.size := by omega
        have hne2 : ¬ w.heap.size = wr.heap.size := by omega
        clear h hw hF ha hel hA hsz hk
        generalize ts[k] = t at *
        clear hlt
        obtain ⟨no, nm, args⟩ := t
        dsimp only at *
        go_wp2
        go_region_held3 (fun w' => w'.cell? ⟨wr.heap.size, 0, none⟩ = some (.bool no) ∧ w'.cell? ⟨wr.heap.size, 1, none⟩ = some (.string nm) ∧ w'.cell? ⟨wr.heap.size, 2, none⟩ = some (.slice Ae args.length ce)) (first | go_keep | exact ⟨cell_later hb' (by go_simp), cell_later hb' (by go_simp), cell_later hb' (by go_simp)⟩)
          (first | (go_at_call 50; refine hc.mono ?_; rintro e w' ⟨hb', cs', b2, rfl, hR, hN⟩; obtain ⟨Ae', ce', rfl⟩ := atom_cells hR; have HRN := Lib.hid (And.intro hR (And.intro hN hb')); have how' := own_below HK.out.1 (HK.out.2.trans (hb'.mono HK.out.2.size)); obtain ⟨⟨u0, hu0⟩, hf0⟩ := own_slot how' (j := k * 3) (by have := HLT.out; omega); obtain ⟨⟨u1, hu1⟩, hf1⟩ := own_slot how' (j := k * 3 + 1) (by have := HLT.out; omega); obtain ⟨⟨u2, hu2⟩, hf2⟩ := own_slot how' (j := k * 3 + 2) (by have := HLT.out; omega); clear hR hN how'))
        have hB := HK.out.2.trans (HRN.out.2.2.mono HK.out.2.size)
        obtain ⟨R1, R2, R3, R4⟩ := HP.out _ _ _ _ hB HRN.out.1 (HRN.out.2.1.mono HK.out.2.size)
        clear hc hB hb'
        go_wp2
        go_roundw
        case rel => exact ⟨k + 1, _, _, HLT.out, by go_num, R1, R2, R3, R4⟩
        case measure => have := HLT.out; simp [intOf]; omega
      · have he : k = ts.length := by omega
        subst he
        have HF := Lib.hid hF
        clear hF
        go_wp2
        go_ret
        obtain ⟨b2, r1, r2, r3, r4⟩ := HF.out.slice how (fun hm => by have := (HF.out.new.own _ hm).1; omega)
        refine ⟨hb, _, b2, rfl, r1, r2, fun b hb' => ⟨?_, r4 b hb'⟩⟩
        rcases r3 b hb' with ⟨rfl, h⟩ | h
        · exact h
        · have := (HF.out.new.own b h).1; omega

end Go.Proofs.Ytbcepahpehadeaa
