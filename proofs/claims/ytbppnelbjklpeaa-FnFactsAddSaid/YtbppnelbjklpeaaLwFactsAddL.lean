/- The walk of the law FnFactsAdd. -/
import Derived.Laws.EntriesVeiled
import Derived.Deep.RegionHeld3
import Derived.Deep.RegionWith
import Derived.BigQuiet
import Derived.Deep.QuietTactic
import Derived.Deep.DrawnRows
import Derived.WalkKit
import Derived.WalkSpells
import Derived.WalkLawsBesides
import Derived.Lib.Hide
import Derived.Test.YtbppnelbjklpeaaDraw6
import Derived.Test.YtbppnelbjklpeaaAddP
import Derived.Test.YtbppnelbjklpeaaGoneI
import Derived.Test.YtbppnelbjklpeaaAdd
import Derived.Test.YtbppnelbjklpeaaHas
import Derived.Test.YtbppnelbjklpeaaFs
namespace Go.Proofs.Ytbppnelbjklpeaa
open Go.RowKit D
set_option linter.unusedVariables false
attribute [local go_sem ↓] Go.wp_at_zero Go.wp_at_succ

theorem fsSame_same (xs : List A) (v1 v2 : Value) (b1 b2 : List Nat) (w : World) (h : atomsK w [v1] xs b1) (h2 : atomsK w [v2] xs b2) :
    Calls Try.prog 16 #[v1, v2] w fun e w' => e = .returned (.bool true) ∧ Below w.heap.size w w' :=
  (fsSame_any xs xs v1 v2 b1 b2 w h h2).mono fun e w' ⟨r, he, hr, hb⟩ => ⟨by rw [he, hr.2 rfl], hb⟩

set_option maxRecDepth 100000 in
set_option maxHeartbeats 8000000 in
theorem factsAddLaw_walk (cs : List UInt8) (v1 : Value) (bs1 : List Nat) (w : World) (h1 : bytesK w [v1] cs bs1) :
    Calls Try.prog 4 #[v1] w fun e w' => e = .returned (.bool true) ∧ Below w.heap.size w w' := by
  obtain ⟨Ad, cap, rfl, hl, hm⟩ := sliceK_form h1
  have hlm := nat_ge_max (Nat.le_trans hl hm)
  clear hl hm
  by_cases hn : cs.length ≤ 1048576
  · have hd := drawFactsAdd_any _ cs bs1 w h1 hn
    have hn' : ¬ (1048576 : Int) < (cs.length : Int) := by omega
    clear h1 hn
    go_enter Try.func4, Try.ntmps4
    go_wp2_with fail
    refine hd.mono ?_
    rintro e w1 ⟨xs, a, A1, A2, c1, c2, b1, b2, rfl, hX, hAt, hx, hsm, hal, hb1, hf1, hf2⟩
    have HX := Lib.hid hX
    have HAt := Lib.hid hAt
    have hA0 : Below w1.heap.size w1 (w1.alloc (.cells #[.string a.name, .slice A2 a.args.length c2] 25)) := (Below.refl _ _).alloc (Nat.le_refl _) _
    have q1 := factsAdd_impl xs a _ _ _ b1 b2 _ (atomsK_good.below hX hA0) (atomK_good.below hAt hA0)
    have q2 := fun w' (hb : Below w1.heap.size w1 w') => factsAdd_spec xs a _ _ _ b1 b2 w' (atomsK_good.below hX hb) (atomK_good.below hAt hb)
    have q4 := fun w' (hb : Below w1.heap.size w1 w') => factsOk_spec xs _ b1 w' (atomsK_good.below hX hb)
    have q5 := fun w' (hb : Below w1.heap.size w1 w') => factsHas_impl xs a _ _ _ b1 b2 w' (atomsK_good.below hX hb) (atomK_good.below hAt hb)
    have x0 : (w1.alloc (.cells #[.string a.name, .slice A2 a.args.length c2] 25)).cell? ⟨w1.heap.size, 0, none⟩ = some (.string a.name) := by go_simp
    have x1 : (w1.alloc (.cells #[.string a.name, .slice A2 a.args.length c2] 25)).cell? ⟨w1.heap.size, 1, none⟩ = some (.slice A2 a.args.length c2) := by go_simp
    have q3 := fun w' (hb : Below w1.heap.size w1 w') => factsOk_impl xs _ b1 w' (atomsK_good.below hX hb)
    have q6 := fun w' (hb : Below w1.heap.size w1 w') => factsHas_spec xs a _ _ _ b1 b2 w' (atomsK_good.below hX hb) (atomK_good.below hAt hb)
    have HC := Lib.hid (add_cases xs a)
    have HB1 := Lib.hid hb1
    clear hd hX hAt hx hsm hal hb1 hf1 hf2
    generalize hfh : factsHas xs a = fh at q5 q6
    have HFH := Lib.hid hfh
    clear hfh
    rcases HC.out with ⟨ho, hG⟩ | ⟨ho, hG⟩ | ⟨ho, hfa, hha, hle, hG⟩
    · rw [hG] at q1 q2
      rw [ho] at q3 q4
      clear HC hG ho
      go_wp2_with fail
      refine q1.mono ?_
      rintro e w2 ⟨hb2, v2, d2, rfl, hR2, hN2⟩
      have B2 := hA0.trans (hb2.mono hA0.size)
      replace x0 := cell_later hb2 x0
      replace x1 := cell_later hb2 x1
      have HR2 := Lib.hid hR2
      obtain ⟨A3, c3, rfl, _, _⟩ := sliceK_form hR2
      clear q1 hR2 hN2
      go_wp2_with fail
      refine (q2 _ B2).mono ?_
      rintro e w3 ⟨hb3, v3, d3, rfl, hR3⟩
      have B3 := B2.trans (hb3.mono B2.size)
      replace x0 := cell_later hb3 x0
      replace x1 := cell_later hb3 x1
      have HR3 := Lib.hid hR3
      replace HR2 := Lib.hid (atomsK_good.below HR2.out hb3)
      obtain ⟨A4, c4, rfl, _, _⟩ := sliceK_form hR3
      clear q2 hR3
      go_wp2
      go_region_held3 (fun w' => w'.cell? ⟨w1.heap.size, 0, none⟩ = some (.string a.name) ∧ w'.cell? ⟨w1.heap.size, 1, none⟩ = some (.slice A2 a.args.length c2)) (first | with_reducible exact ⟨x0, x1⟩ | go_keep)
        (first
          | (have _g6 := C15; go_at_call 18; refine (q4 _ C15).mono ?_; rintro e y6 ⟨rfl, hc6⟩; have C16 := C15.trans (hc6.mono C15.size); replace x0 := cell_later hc6 x0; replace x1 := cell_later hc6 x1; have HX2 := Lib.hid (atomsK_good.below HR2.out hc6); have HX3 := Lib.hid (atomsK_good.below HR3.out hc6); clear HR2 HR3; have HR2 := HX2; have HR3 := HX3; clear HX2 HX3)
          | (have _g5 := C14; go_at_call 20; refine (q6 _ C14).mono ?_; rintro e y5 ⟨rfl, hc5⟩; have C15 := C14.trans (hc5.mono C14.size); replace x0 := cell_later hc5 x0; replace x1 := cell_later hc5 x1; have HX2 := Lib.hid (atomsK_good.below HR2.out hc5); have HX3 := Lib.hid (atomsK_good.below HR3.out hc5); clear HR2 HR3; have HR2 := HX2; have HR3 := HX3; clear HX2 HX3)
          | (have _g4 := C13; go_at_call 19; refine (q5 _ C13).mono ?_; rintro e y4 ⟨rfl, hc4⟩; have C14 := C13.trans (hc4.mono C13.size); replace x0 := cell_later hc4 x0; replace x1 := cell_later hc4 x1; have HX2 := Lib.hid (atomsK_good.below HR2.out hc4); have HX3 := Lib.hid (atomsK_good.below HR3.out hc4); clear HR2 HR3; have HR2 := HX2; have HR3 := HX3; clear HX2 HX3)
          | (have _g3 := C12; go_at_call 18; refine (q4 _ C12).mono ?_; rintro e y3 ⟨rfl, hc3⟩; have C13 := C12.trans (hc3.mono C12.size); replace x0 := cell_later hc3 x0; replace x1 := cell_later hc3 x1; have HX2 := Lib.hid (atomsK_good.below HR2.out hc3); have HX3 := Lib.hid (atomsK_good.below HR3.out hc3); clear HR2 HR3; have HR2 := HX2; have HR3 := HX3; clear HX2 HX3)
          | (have _g2 := C11; go_at_call 17; refine (q3 _ C11).mono ?_; rintro e y2 ⟨rfl, hc2⟩; have C12 := C11.trans (hc2.mono C11.size); replace x0 := cell_later hc2 x0; replace x1 := cell_later hc2 x1; have HX2 := Lib.hid (atomsK_good.below HR2.out hc2); have HX3 := Lib.hid (atomsK_good.below HR3.out hc2); clear HR2 HR3; have HR2 := HX2; have HR3 := HX3; clear HX2 HX3)
          | (go_at_call 16; refine (fsSame_same [] _ _ d2 d3 _ (atomsK_good.below HR2.out ((Below.refl _ _).drew)) (atomsK_good.below HR3.out ((Below.refl _ _).drew))).mono ?_; rintro e y1 ⟨rfl, hc1⟩; have hd1 : Below w3.heap.size w3 y1 := (Below.refl _ _).drew.trans hc1; have C11 := B3.trans (hd1.mono B3.size); replace x0 := cell_later hd1 x0; replace x1 := cell_later hd1 x1; have HX2 := Lib.hid (atomsK_good.below HR2.out hd1); have HX3 := Lib.hid (atomsK_good.below HR3.out hd1); clear HR2 HR3; have HR2 := HX2; have HR3 := HX3; clear HX2 HX3))
      go_wp2
      go_region_held3 (fun w' => w'.cell? ⟨w1.heap.size, 0, none⟩ = some (.string a.name) ∧ w'.cell? ⟨w1.heap.size, 1, none⟩ = some (.slice A2 a.args.length c2)) (first | with_reducible exact ⟨x0, x1⟩ | go_keep)
        (first
          | (have _g5 := C24; go_at_call 20; refine (q6 _ C24).mono ?_; rintro e y5 ⟨rfl, hc5⟩; have C25 := C24.trans (hc5.mono C24.size); replace x0 := cell_later hc5 x0; replace x1 := cell_later hc5 x1; have HX2 := Lib.hid (atomsK_good.below HR2.out hc5); have HX3 := Lib.hid (atomsK_good.below HR3.out hc5); clear HR2 HR3; have HR2 := HX2; have HR3 := HX3; clear HX2 HX3)
          | (have _g4 := C23; go_at_call 19; refine (q5 _ C23).mono ?_; rintro e y4 ⟨rfl, hc4⟩; have C24 := C23.trans (hc4.mono C23.size); replace x0 := cell_later hc4 x0; replace x1 := cell_later hc4 x1; have HX2 := Lib.hid (atomsK_good.below HR2.out hc4); have HX3 := Lib.hid (atomsK_good.below HR3.out hc4); clear HR2 HR3; have HR2 := HX2; have HR3 := HX3; clear HX2 HX3)
          | (have _g3 := C22; go_at_call 18; refine (q4 _ C22).mono ?_; rintro e y3 ⟨rfl, hc3⟩; have C23 := C22.trans (hc3.mono C22.size); replace x0 := cell_later hc3 x0; replace x1 := cell_later hc3 x1; have HX2 := Lib.hid (atomsK_good.below HR2.out hc3); have HX3 := Lib.hid (atomsK_good.below HR3.out hc3); clear HR2 HR3; have HR2 := HX2; have HR3 := HX3; clear HX2 HX3)
          | (have _g2 := C21; go_at_call 17; refine (q3 _ C21).mono ?_; rintro e y2 ⟨rfl, hc2⟩; have C22 := C21.trans (hc2.mono C21.size); replace x0 := cell_later hc2 x0; replace x1 := cell_later hc2 x1; have HX2 := Lib.hid (atomsK_good.below HR2.out hc2); have HX3 := Lib.hid (atomsK_good.below HR3.out hc2); clear HR2 HR3; have HR2 := HX2; have HR3 := HX3; clear HX2 HX3)
          | (go_at_call 16; refine (fsSame_same [] _ _ d2 d3 _ (atomsK_good.below HR2.out ((Below.refl _ _).drew)) (atomsK_good.below HR3.out ((Below.refl _ _).drew))).mono ?_; rintro e y1 ⟨rfl, hc1⟩; have hd1 : Below y6.heap.size y6 y1 := (Below.refl _ _).drew.trans hc1; have C21 := C16.trans (hd1.mono C16.size); replace x0 := cell_later hd1 x0; replace x1 := cell_later hd1 x1; have HX2 := Lib.hid (atomsK_good.below HR2.out hd1); have HX3 := Lib.hid (atomsK_good.below HR3.out hd1); clear HR2 HR3; have HR2 := HX2; have HR3 := HX3; clear HX2 HX3))
      go_wp2
      go_ret
      exact ⟨rfl, HB1.out.trans (C25.mono HB1.out.size)⟩
    · rw [hG] at q1 q2
      rw [ho] at q3 q4
      clear HC hG ho
      go_wp2_with fail
      refine q1.mono ?_
      rintro e w2 ⟨hb2, v2, d2, rfl, hR2, hN2⟩
      have B2 := hA0.trans (hb2.mono hA0.size)
      replace x0 := cell_later hb2 x0
      replace x1 := cell_later hb2 x1
      have HR2 := Lib.hid hR2
      obtain ⟨A3, c3, rfl, _, _⟩ := sliceK_form hR2
      clear q1 hR2 hN2
      go_wp2_with fail
      refine (q2 _ B2).mono ?_
      rintro e w3 ⟨hb3, v3, d3, rfl, hR3⟩
      have B3 := B2.trans (hb3.mono B2.size)
      replace x0 := cell_later hb3 x0
      replace x1 := cell_later hb3 x1
      have HR3 := Lib.hid hR3
      replace HR2 := Lib.hid (atomsK_good.below HR2.out hb3)
      obtain ⟨A4, c4, rfl, _, _⟩ := sliceK_form hR3
      clear q2 hR3
      go_wp2
      go_region_held3 (fun w' => w'.cell? ⟨w1.heap.size, 0, none⟩ = some (.string a.name) ∧ w'.cell? ⟨w1.heap.size, 1, none⟩ = some (.slice A2 a.args.length c2)) (first | with_reducible exact ⟨x0, x1⟩ | go_keep)
        (first
          | (have _g6 := C15; go_at_call 18; refine (q4 _ C15).mono ?_; rintro e y6 ⟨rfl, hc6⟩; have C16 := C15.trans (hc6.mono C15.size); replace x0 := cell_later hc6 x0; replace x1 := cell_later hc6 x1; have HX2 := Lib.hid (atomsK_good.below HR2.out hc6); have HX3 := Lib.hid (atomsK_good.below HR3.out hc6); clear HR2 HR3; have HR2 := HX2; have HR3 := HX3; clear HX2 HX3)
          | (have _g5 := C14; go_at_call 20; refine (q6 _ C14).mono ?_; rintro e y5 ⟨rfl, hc5⟩; have C15 := C14.trans (hc5.mono C14.size); replace x0 := cell_later hc5 x0; replace x1 := cell_later hc5 x1; have HX2 := Lib.hid (atomsK_good.below HR2.out hc5); have HX3 := Lib.hid (atomsK_good.below HR3.out hc5); clear HR2 HR3; have HR2 := HX2; have HR3 := HX3; clear HX2 HX3)
          | (have _g4 := C13; go_at_call 19; refine (q5 _ C13).mono ?_; rintro e y4 ⟨rfl, hc4⟩; have C14 := C13.trans (hc4.mono C13.size); replace x0 := cell_later hc4 x0; replace x1 := cell_later hc4 x1; have HX2 := Lib.hid (atomsK_good.below HR2.out hc4); have HX3 := Lib.hid (atomsK_good.below HR3.out hc4); clear HR2 HR3; have HR2 := HX2; have HR3 := HX3; clear HX2 HX3)
          | (have _g3 := C12; go_at_call 18; refine (q4 _ C12).mono ?_; rintro e y3 ⟨rfl, hc3⟩; have C13 := C12.trans (hc3.mono C12.size); replace x0 := cell_later hc3 x0; replace x1 := cell_later hc3 x1; have HX2 := Lib.hid (atomsK_good.below HR2.out hc3); have HX3 := Lib.hid (atomsK_good.below HR3.out hc3); clear HR2 HR3; have HR2 := HX2; have HR3 := HX3; clear HX2 HX3)
          | (have _g2 := C11; go_at_call 17; refine (q3 _ C11).mono ?_; rintro e y2 ⟨rfl, hc2⟩; have C12 := C11.trans (hc2.mono C11.size); replace x0 := cell_later hc2 x0; replace x1 := cell_later hc2 x1; have HX2 := Lib.hid (atomsK_good.below HR2.out hc2); have HX3 := Lib.hid (atomsK_good.below HR3.out hc2); clear HR2 HR3; have HR2 := HX2; have HR3 := HX3; clear HX2 HX3)
          | (go_at_call 16; refine (fsSame_same xs _ _ d2 d3 _ (atomsK_good.below HR2.out ((Below.refl _ _).drew)) (atomsK_good.below HR3.out ((Below.refl _ _).drew))).mono ?_; rintro e y1 ⟨rfl, hc1⟩; have hd1 : Below w3.heap.size w3 y1 := (Below.refl _ _).drew.trans hc1; have C11 := B3.trans (hd1.mono B3.size); replace x0 := cell_later hd1 x0; replace x1 := cell_later hd1 x1; have HX2 := Lib.hid (atomsK_good.below HR2.out hd1); have HX3 := Lib.hid (atomsK_good.below HR3.out hd1); clear HR2 HR3; have HR2 := HX2; have HR3 := HX3; clear HX2 HX3))
      go_wp2_with fail
      refine (fsSame_same xs _ _ d2 b1 _ HR2.out (atomsK_good.below HX.out C16)).mono ?_
      rintro e w6 ⟨rfl, hb6⟩
      have B6 := C16.trans (hb6.mono C16.size)
      go_wp2
      go_ret
      exact ⟨rfl, HB1.out.trans (B6.mono HB1.out.size)⟩
    · have hw := again_add ho hfa hle
      have hgn := gone_ins ho hfa hle hha
      have hy := ins_ok ho hfa hle
      have hz := has_ins ho hfa hle
      rw [hG] at q1 q2
      rw [ho] at q3 q4
      have r6 := fun v d w' (hb : Below w1.heap.size w1 w') (h : atomsK w' [v] (insA xs a) d) => hw ▸ factsAdd_impl (insA xs a) a v _ _ d b2 w' h (atomK_good.below HAt.out hb)
      have r7 := fun v d w' (hb : Below w1.heap.size w1 w') (h : atomsK w' [v] (insA xs a) d) => hgn ▸ factsGone_impl (insA xs a) a v _ _ d b2 w' h (atomK_good.below HAt.out hb)
      have r8 := fun v d w' (h : atomsK w' [v] (insA xs a) d) => hy ▸ factsOk_impl (insA xs a) v d w' h
      have r9 := fun v d w' (hb : Below w1.heap.size w1 w') (h : atomsK w' [v] (insA xs a) d) => hz ▸ factsHas_impl (insA xs a) a v _ _ d b2 w' h (atomK_good.below HAt.out hb)
      clear HC hG ho hfa hha hle hy hw hgn hz
      go_wp2_with fail
      refine q1.mono ?_
      rintro e w2 ⟨hb2, v2, d2, rfl, hR2, hN2⟩
      have B2 := hA0.trans (hb2.mono hA0.size)
      replace x0 := cell_later hb2 x0
      replace x1 := cell_later hb2 x1
      have HR2 := Lib.hid hR2
      obtain ⟨A3, c3, rfl, _, _⟩ := sliceK_form hR2
      clear q1 hR2 hN2
      go_wp2_with fail
      refine (q2 _ B2).mono ?_
      rintro e w3 ⟨hb3, v3, d3, rfl, hR3⟩
      have B3 := B2.trans (hb3.mono B2.size)
      replace x0 := cell_later hb3 x0
      replace x1 := cell_later hb3 x1
      have HR3 := Lib.hid hR3
      replace HR2 := Lib.hid (atomsK_good.below HR2.out hb3)
      obtain ⟨A4, c4, rfl, _, _⟩ := sliceK_form hR3
      clear q2 hR3
      go_wp2
      go_region_held3 (fun w' => w'.cell? ⟨w1.heap.size, 0, none⟩ = some (.string a.name) ∧ w'.cell? ⟨w1.heap.size, 1, none⟩ = some (.slice A2 a.args.length c2)) (first | with_reducible exact ⟨x0, x1⟩ | go_keep)
        (first
          | (have _g6 := C15; go_at_call 18; refine (q4 _ C15).mono ?_; rintro e y6 ⟨rfl, hc6⟩; have C16 := C15.trans (hc6.mono C15.size); replace x0 := cell_later hc6 x0; replace x1 := cell_later hc6 x1; have HX2 := Lib.hid (atomsK_good.below HR2.out hc6); have HX3 := Lib.hid (atomsK_good.below HR3.out hc6); clear HR2 HR3; have HR2 := HX2; have HR3 := HX3; clear HX2 HX3)
          | (have _g5 := C14; go_at_call 20; refine (q6 _ C14).mono ?_; rintro e y5 ⟨rfl, hc5⟩; have C15 := C14.trans (hc5.mono C14.size); replace x0 := cell_later hc5 x0; replace x1 := cell_later hc5 x1; have HX2 := Lib.hid (atomsK_good.below HR2.out hc5); have HX3 := Lib.hid (atomsK_good.below HR3.out hc5); clear HR2 HR3; have HR2 := HX2; have HR3 := HX3; clear HX2 HX3)
          | (have _g4 := C13; go_at_call 19; refine (q5 _ C13).mono ?_; rintro e y4 ⟨rfl, hc4⟩; have C14 := C13.trans (hc4.mono C13.size); replace x0 := cell_later hc4 x0; replace x1 := cell_later hc4 x1; have HX2 := Lib.hid (atomsK_good.below HR2.out hc4); have HX3 := Lib.hid (atomsK_good.below HR3.out hc4); clear HR2 HR3; have HR2 := HX2; have HR3 := HX3; clear HX2 HX3)
          | (have _g3 := C12; go_at_call 18; refine (q4 _ C12).mono ?_; rintro e y3 ⟨rfl, hc3⟩; have C13 := C12.trans (hc3.mono C12.size); replace x0 := cell_later hc3 x0; replace x1 := cell_later hc3 x1; have HX2 := Lib.hid (atomsK_good.below HR2.out hc3); have HX3 := Lib.hid (atomsK_good.below HR3.out hc3); clear HR2 HR3; have HR2 := HX2; have HR3 := HX3; clear HX2 HX3)
          | (have _g2 := C11; go_at_call 17; refine (q3 _ C11).mono ?_; rintro e y2 ⟨rfl, hc2⟩; have C12 := C11.trans (hc2.mono C11.size); replace x0 := cell_later hc2 x0; replace x1 := cell_later hc2 x1; have HX2 := Lib.hid (atomsK_good.below HR2.out hc2); have HX3 := Lib.hid (atomsK_good.below HR3.out hc2); clear HR2 HR3; have HR2 := HX2; have HR3 := HX3; clear HX2 HX3)
          | (go_at_call 16; refine (fsSame_same (insA xs a) _ _ d2 d3 _ (atomsK_good.below HR2.out ((Below.refl _ _).drew)) (atomsK_good.below HR3.out ((Below.refl _ _).drew))).mono ?_; rintro e y1 ⟨rfl, hc1⟩; have hd1 : Below w3.heap.size w3 y1 := (Below.refl _ _).drew.trans hc1; have C11 := B3.trans (hd1.mono B3.size); replace x0 := cell_later hd1 x0; replace x1 := cell_later hd1 x1; have HX2 := Lib.hid (atomsK_good.below HR2.out hd1); have HX3 := Lib.hid (atomsK_good.below HR3.out hd1); clear HR2 HR3; have HR2 := HX2; have HR3 := HX3; clear HX2 HX3))
      go_wp2_with fail
      refine (r6 _ d2 _ C16 HR2.out).mono ?_
      rintro e w6 ⟨hb6, v6, d6, rfl, hR6, hN6⟩
      have B6 := C16.trans (hb6.mono C16.size)
      replace x0 := cell_later hb6 x0
      replace x1 := cell_later hb6 x1
      replace HR2 := Lib.hid (atomsK_good.below HR2.out hb6)
      obtain ⟨A6, c6, rfl, _, _⟩ := sliceK_form hR6
      clear r6 hR6 hN6
      go_wp2_with fail
      refine (r7 _ d2 _ B6 HR2.out).mono ?_
      rintro e w7 ⟨hb7, v7, d7, rfl, hR7, hN7⟩
      have B7 := B6.trans (hb7.mono B6.size)
      replace x0 := cell_later hb7 x0
      replace x1 := cell_later hb7 x1
      replace HR2 := Lib.hid (atomsK_good.below HR2.out hb7)
      have HR7 := Lib.hid hR7
      obtain ⟨A7, c7, rfl, _, _⟩ := sliceK_form hR7
      clear r7 hR7 hN7
      go_wp2_with fail
      refine (r8 _ d2 _ HR2.out).mono ?_
      rintro e w8 ⟨rfl, hb8⟩
      have B8 := B7.trans (hb8.mono B7.size)
      replace x0 := cell_later hb8 x0
      replace x1 := cell_later hb8 x1
      replace HR2 := Lib.hid (atomsK_good.below HR2.out hb8)
      replace HR7 := Lib.hid (atomsK_good.below HR7.out hb8)
      clear r8
      go_wp2_with fail
      refine (r9 _ d2 _ B8 HR2.out).mono ?_
      rintro e w9 ⟨rfl, hb9⟩
      have B9 := B8.trans (hb9.mono B8.size)
      replace HR7 := Lib.hid (atomsK_good.below HR7.out hb9)
      clear r9
      go_wp2_with fail
      refine (fsSame_same xs _ _ d7 b1 _ HR7.out (atomsK_good.below HX.out B9)).mono ?_
      rintro e w20 ⟨rfl, hb20⟩
      have B20 := B9.trans (hb20.mono B9.size)
      go_wp2
      go_ret
      exact ⟨rfl, HB1.out.trans (B20.mono HB1.out.size)⟩
  · have hn' : (1048576 : Int) < (cs.length : Int) := by omega
    clear h1
    go_enter Try.func4, Try.ntmps4
    go_wp2
    go_ret
    exact ⟨rfl, Below.refl _ _⟩

end Go.Proofs.Ytbppnelbjklpeaa
