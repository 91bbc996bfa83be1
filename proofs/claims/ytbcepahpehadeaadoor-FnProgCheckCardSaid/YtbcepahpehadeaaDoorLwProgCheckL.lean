/- The walk of the law FnProgCheck. -/
import Derived.Laws.EntriesVeiled
import Derived.Deep.RegionHeld3
import Derived.Deep.RegionWith
import Derived.BigQuiet
import Derived.Deep.QuietTactic
import Derived.Deep.DrawnRows
import Derived.WalkKit
import Derived.WalkSpells
import Derived.WalkLawsBesides
import Derived.Lib.Hide
import Derived.Test.YtbcepahpehadeaaDoorDrawPC
import Derived.Test.YtbcepahpehadeaaDoorCpRs
import Derived.Test.YtbcepahpehadeaaDoorTake
import Derived.Test.YtbcepahpehadeaaDoorPrgP
import Derived.Test.YtbcepahpehadeaaDoorProgC
import Derived.Test.YtbcepahpehadeaaDoorChkS
namespace Go.Proofs.YtbcepahpehadeaaDoor
open Go.RowKit D
set_option linter.unusedVariables false
attribute [local go_sem ↓] Go.wp_at_zero Go.wp_at_succ

theorem D.keep_drew {w : World} {a : Addr} {v : Value} (h : w.cell? a = some v) : w.drew.cell? a = some v := h
theorem D.keep_alloc {w : World} {a : Addr} {o : Obj} {v : Value} (h : w.cell? a = some v) : (w.alloc o).cell? a = some v := by
  rw [World.cell?_alloc_some w a o (by rw [h]; rfl)]; exact h
theorem heap_three (w : World) (o1 o2 o3 : Obj) : (((w.alloc o1).alloc o2).alloc o3).heap[w.heap.size]? = some o1 ∧ (((w.alloc o1).alloc o2).alloc o3).heap[w.heap.size + 1]? = some o2 ∧ (((w.alloc o1).alloc o2).alloc o3).heap[w.heap.size + 2]? = some o3 := by
  refine ⟨(Below.heap_alloc _ _ _ (by simp; omega)).trans (heap_two w o1 o2).1, (Below.heap_alloc _ _ _ (by simp)).trans (heap_two w o1 o2).2, ?_⟩
  have := heap_alloc_new ((w.alloc o1).alloc o2) o3
  simpa using this
theorem zz_arm {W : World} {ta pb N n c : Nat} {Ad : Option Addr} {L : List Value} {xs : List Ru} {bs : List Nat} (hC : Coll 3 ruleK N 40 W (.slice Ad n c) L xs bs) (hta : W.heap[ta]? = some (.cells #[.bool false, .string ⟨#[97]⟩] 32 (0, 0))) (hpb : W.heap[pb]? = some (.cells #[.bool true, .string ⟨#[122, 122, 122]⟩, .slice (some ⟨ta, 0, none⟩) 1 1] 37 (0, 0))) :
    ruleK W [.string ⟨#[122, 122, 122]⟩, .slice (some ⟨ta, 0, none⟩) 1 1, .slice (some ⟨pb, 0, none⟩) 1 1] zzR ([ta] ++ (pb :: [ta])) ∧ ∀ b ∈ [ta] ++ (pb :: [ta]), (Value.slice Ad n c).ownBlock ≠ some b := by
  have hn : (⟨#[122, 122, 122]⟩ : ByteArray).size ≤ maxLen := by decide
  have ht := terms_one hta (by decide)
  refine ⟨⟨_, _, [ta], pb :: [ta], rfl, hn, rfl, ht, parts_one hpb ⟨_, rfl, hn, ht⟩⟩, fun b hb => ?_⟩
  simp only [List.cons_append, List.nil_append, List.mem_cons, List.not_mem_nil, or_false] at hb
  rcases hb with rfl | rfl | rfl
  · exact own_ne_blk hC.own hta (by decide)
  · exact own_ne_blk hC.own hpb (by decide)
  · exact own_ne_blk hC.own hta (by decide)

set_option maxRecDepth 100000 in
set_option maxHeartbeats 8000000 in
theorem progCheckLaw_walk (cs : List UInt8) (v1 : Value) (bs1 : List Nat) (w : World) (h1 : bytesK w [v1] cs bs1) (hg : LaidE w) :
    Calls Tryd.prog 4 #[v1] w fun e w' => e = .returned (.bool true) ∧ Below w.heap.size w w' := by
  obtain ⟨Ad, cap, rfl, hl, hm⟩ := sliceK_form h1
  have hlm := nat_ge_max (Nat.le_trans hl hm)
  clear hl hm
  obtain ⟨i0, hi, hz0, hz1, hz2⟩ := info_parts infoRuleC
  have HG := Lib.hid hg
  clear hg
  by_cases hn : cs.length ≤ 1048576
  · have hd := drawProgCheck_any _ cs bs1 w h1 hn
    have hn' : ¬ (1048576 : Int) < (cs.length : Int) := by omega
    clear h1 hn
    go_enter Tryd.func4, Tryd.ntmps4
    go_wp2_with fail
    refine hd.mono ?_
    rintro e w1 ⟨xs, Av, cp, b1, rfl, hR1, hx9, hsm, hb1⟩
    have hcp : xs.length ≤ cp ∧ cp ≤ maxLen := by
      obtain ⟨_, _, e, h1, h2⟩ := sliceK_form hR1
      simp only [Value.slice.injEq, true_and] at e
      obtain ⟨_, rfl⟩ := e
      exact ⟨h1, h2⟩
    have HR1 := Lib.hid hR1
    have HB1 := Lib.hid hb1
    have HSM := Lib.hid hsm
    have HL : Hid (xs.length ≤ 100) := Lib.hid (by omega)
    have HCP := Lib.hid hcp
    have HX9 := Lib.hid hx9
    have hpi := progCheck_impl xs _ b1 w1 hR1 (HG.out.below hb1)
    have hps := fun w' (hb : Below w1.heap.size w1 w') => progCheck_spec xs _ b1 w' (rulesK_good.below hR1 hb)
    have HPS := Lib.hid hps
    have hle := progC_le xs
    clear hd hR1 hb1 hsm hps hcp hx9
    go_wp2_with fail
    refine hpi.mono ?_
    rintro e w2 ⟨rfl, hb2⟩
    have hps2 := HPS.out w2 hb2
    have HB2 := Lib.hid hb2
    clear hpi hb2
    go_wp2_with fail
    refine hps2.mono ?_
    rintro e w3 ⟨rfl, hb3⟩
    have HB3 : Hid (Below w1.heap.size w1 w3) := Lib.hid (HB2.out.trans (hb3.mono HB2.out.size))
    have hps3 := HPS.out w3 HB3.out
    clear hps2 hb3 HPS HB2
    by_cases hp : progC xs = 0
    case neg =>
      have HBW : Hid (Below w.heap.size w w3) := Lib.hid (HB1.out.trans (HB3.out.mono HB1.out.size))
      generalize progC xs = k at *
      have t0 : ¬ (k : Int) < 0 := by omega
      have t5 : ¬ (5 : Int) < (k : Int) := by omega
      have tn : ((k : Int) != 0) = true := by simp; omega
      have u0 : (0 : Int) ≤ (k : Int) := by omega
      have u5 : (k : Int) ≤ 5 := by omega
      clear hle hp
      go_wp2_with fail
      refine hps3.mono ?_
      rintro e w4 ⟨rfl, hb4⟩
      have HB4 := Lib.hid (HBW.out.trans (hb4.mono HBW.out.size))
      clear hps3 hb4
      go_wp2
      go_ret
      exact ⟨rfl, HB4.out⟩
    case pos =>
    have HF := Lib.hid ((fine_iff xs).1 hp)
    rw [hp] at hps3 ⊢
    clear hps3 hle
    obtain ⟨w5, hw5⟩ : ∃ w5, w5 = (w3.alloc (.cells #[.bool false, .string ⟨#[97]⟩] 32)).alloc (.cells #[.string ⟨#[122, 122, 122]⟩, .slice (some ⟨w3.heap.size, 0, none⟩) 1 1] 35) := ⟨_, rfl⟩
    have hA5 : Below w3.heap.size w3 w5 := hw5 ▸ ((Below.refl _ _).alloc (Nat.le_refl _) _).alloc (by simp) _
    have hn5 : w5.heap.size = w3.heap.size + 2 := by rw [hw5]; simp
    have HTA : Hid (w5.heap[w3.heap.size]? = some (.cells #[.bool false, .string ⟨#[97]⟩] 32 (0, 0))) := Lib.hid (by rw [hw5]; exact (heap_two w3 _ _).1)
    have HBX : Hid (w5.heap[w3.heap.size + 1]? = some (.cells #[.string ⟨#[122, 122, 122]⟩, .slice (some ⟨w3.heap.size, 0, none⟩) 1 1] 35 (0, 0))) := Lib.hid (by rw [hw5]; exact (heap_two w3 _ _).2)
    have HB5 : Hid (Below w1.heap.size w1 w5) := Lib.hid (HB3.out.trans (hA5.mono HB3.out.size))
    have HXS := Lib.hid (rulesK_good.below HR1.out HB5.out)
    have q0 := cell_of_blk (o := 0) HBX.out
    have q1c := cell_of_blk (o := 1) HBX.out
    simp only [List.getElem?_toArray, List.getElem?_cons_zero, List.getElem?_cons_succ] at q0 q1c
    have hlt5 : w3.heap.size + 1 < w5.heap.size := by omega
    have HLT0 := Lib.hid hlt5
    have hlt6 : w3.heap.size + 1 < w5.heap.size + 1 := by omega
    have hlt7 : w3.heap.size + 1 < w5.heap.size + 1 + 1 := by omega
    have HVE : Hid (Below w5.heap.size w5 (w5.alloc (.cells #[] 40)).drew ∧ (w5.alloc (.cells #[] 40)).drew.heap[w5.heap.size]? = some (.cells #[] 40 (0, 0))) := Lib.hid ⟨((Below.refl _ _).alloc (Nat.le_refl _) _).drew, heap_alloc_new w5 _⟩
    have HVEP : Hid (Below w5.heap.size w5 ((w5.alloc (.cells #[] 40)).alloc (.cells #[.bool true, .string ⟨#[122, 122, 122]⟩, .slice (some ⟨w3.heap.size, 0, none⟩) 1 1] 37)).drew ∧ ((w5.alloc (.cells #[] 40)).alloc (.cells #[.bool true, .string ⟨#[122, 122, 122]⟩, .slice (some ⟨w3.heap.size, 0, none⟩) 1 1] 37)).drew.heap[w5.heap.size]? = some (.cells #[] 40 (0, 0)) ∧ ((w5.alloc (.cells #[] 40)).alloc (.cells #[.bool true, .string ⟨#[122, 122, 122]⟩, .slice (some ⟨w3.heap.size, 0, none⟩) 1 1] 37)).drew.heap[w5.heap.size + 1]? = some (.cells #[.bool true, .string ⟨#[122, 122, 122]⟩, .slice (some ⟨w3.heap.size, 0, none⟩) 1 1] 37 (0, 0))) := Lib.hid ⟨(((Below.refl _ _).alloc (Nat.le_refl _) _).alloc (by simp) _).drew, (heap_two w5 _ _).1, (heap_two w5 _ _).2⟩
    have HVPE : Hid (Below w5.heap.size w5 ((w5.alloc (.cells #[.bool true, .string ⟨#[122, 122, 122]⟩, .slice (some ⟨w3.heap.size, 0, none⟩) 1 1] 37)).alloc (.cells #[] 40)).drew ∧ ((w5.alloc (.cells #[.bool true, .string ⟨#[122, 122, 122]⟩, .slice (some ⟨w3.heap.size, 0, none⟩) 1 1] 37)).alloc (.cells #[] 40)).drew.heap[w5.heap.size]? = some (.cells #[.bool true, .string ⟨#[122, 122, 122]⟩, .slice (some ⟨w3.heap.size, 0, none⟩) 1 1] 37 (0, 0)) ∧ ((w5.alloc (.cells #[.bool true, .string ⟨#[122, 122, 122]⟩, .slice (some ⟨w3.heap.size, 0, none⟩) 1 1] 37)).alloc (.cells #[] 40)).drew.heap[w5.heap.size + 1]? = some (.cells #[] 40 (0, 0))) := Lib.hid ⟨(((Below.refl _ _).alloc (Nat.le_refl _) _).alloc (by simp) _).drew, (heap_two w5 _ _).1, (heap_two w5 _ _).2⟩
    have HVEPR : Hid (Below w5.heap.size w5 (((w5.alloc (.cells #[] 40)).alloc (.cells #[.bool true, .string ⟨#[122, 122, 122]⟩, .slice (some ⟨w3.heap.size, 0, none⟩) 1 1] 37)).alloc (.cells #[.string ⟨#[122, 122, 122]⟩, .slice (some ⟨w3.heap.size, 0, none⟩) 1 1, .slice (some ⟨w5.heap.size + 1, 0, none⟩) 1 1] 40)).drew ∧ (((w5.alloc (.cells #[] 40)).alloc (.cells #[.bool true, .string ⟨#[122, 122, 122]⟩, .slice (some ⟨w3.heap.size, 0, none⟩) 1 1] 37)).alloc (.cells #[.string ⟨#[122, 122, 122]⟩, .slice (some ⟨w3.heap.size, 0, none⟩) 1 1, .slice (some ⟨w5.heap.size + 1, 0, none⟩) 1 1] 40)).drew.heap[w5.heap.size]? = some (.cells #[] 40 (0, 0)) ∧ (((w5.alloc (.cells #[] 40)).alloc (.cells #[.bool true, .string ⟨#[122, 122, 122]⟩, .slice (some ⟨w3.heap.size, 0, none⟩) 1 1] 37)).alloc (.cells #[.string ⟨#[122, 122, 122]⟩, .slice (some ⟨w3.heap.size, 0, none⟩) 1 1, .slice (some ⟨w5.heap.size + 1, 0, none⟩) 1 1] 40)).drew.heap[w5.heap.size + 1]? = some (.cells #[.bool true, .string ⟨#[122, 122, 122]⟩, .slice (some ⟨w3.heap.size, 0, none⟩) 1 1] 37 (0, 0)) ∧ (((w5.alloc (.cells #[] 40)).alloc (.cells #[.bool true, .string ⟨#[122, 122, 122]⟩, .slice (some ⟨w3.heap.size, 0, none⟩) 1 1] 37)).alloc (.cells #[.string ⟨#[122, 122, 122]⟩, .slice (some ⟨w3.heap.size, 0, none⟩) 1 1, .slice (some ⟨w5.heap.size + 1, 0, none⟩) 1 1] 40)).drew.heap[w5.heap.size + 2]? = some (.cells #[.string ⟨#[122, 122, 122]⟩, .slice (some ⟨w3.heap.size, 0, none⟩) 1 1, .slice (some ⟨w5.heap.size + 1, 0, none⟩) 1 1] 40 (0, 0))) := Lib.hid ⟨((((Below.refl _ _).alloc (Nat.le_refl _) _).alloc (by simp) _).alloc (by simp; omega) _).drew, (heap_three w5 _ _ _).1, (heap_three w5 _ _ _).2.1, (heap_three w5 _ _ _).2.2⟩
    have HVPER : Hid (Below w5.heap.size w5 (((w5.alloc (.cells #[.bool true, .string ⟨#[122, 122, 122]⟩, .slice (some ⟨w3.heap.size, 0, none⟩) 1 1] 37)).alloc (.cells #[] 40)).alloc (.cells #[.string ⟨#[122, 122, 122]⟩, .slice (some ⟨w3.heap.size, 0, none⟩) 1 1, .slice (some ⟨w5.heap.size, 0, none⟩) 1 1] 40)).drew ∧ (((w5.alloc (.cells #[.bool true, .string ⟨#[122, 122, 122]⟩, .slice (some ⟨w3.heap.size, 0, none⟩) 1 1] 37)).alloc (.cells #[] 40)).alloc (.cells #[.string ⟨#[122, 122, 122]⟩, .slice (some ⟨w3.heap.size, 0, none⟩) 1 1, .slice (some ⟨w5.heap.size, 0, none⟩) 1 1] 40)).drew.heap[w5.heap.size]? = some (.cells #[.bool true, .string ⟨#[122, 122, 122]⟩, .slice (some ⟨w3.heap.size, 0, none⟩) 1 1] 37 (0, 0)) ∧ (((w5.alloc (.cells #[.bool true, .string ⟨#[122, 122, 122]⟩, .slice (some ⟨w3.heap.size, 0, none⟩) 1 1] 37)).alloc (.cells #[] 40)).alloc (.cells #[.string ⟨#[122, 122, 122]⟩, .slice (some ⟨w3.heap.size, 0, none⟩) 1 1, .slice (some ⟨w5.heap.size, 0, none⟩) 1 1] 40)).drew.heap[w5.heap.size + 1]? = some (.cells #[] 40 (0, 0)) ∧ (((w5.alloc (.cells #[.bool true, .string ⟨#[122, 122, 122]⟩, .slice (some ⟨w3.heap.size, 0, none⟩) 1 1] 37)).alloc (.cells #[] 40)).alloc (.cells #[.string ⟨#[122, 122, 122]⟩, .slice (some ⟨w3.heap.size, 0, none⟩) 1 1, .slice (some ⟨w5.heap.size, 0, none⟩) 1 1] 40)).drew.heap[w5.heap.size + 2]? = some (.cells #[.string ⟨#[122, 122, 122]⟩, .slice (some ⟨w3.heap.size, 0, none⟩) 1 1, .slice (some ⟨w5.heap.size, 0, none⟩) 1 1] 40 (0, 0))) := Lib.hid ⟨((((Below.refl _ _).alloc (Nat.le_refl _) _).alloc (by simp) _).alloc (by simp; omega) _).drew, (heap_three w5 _ _ _).1, (heap_three w5 _ _ _).2.1, (heap_three w5 _ _ _).2.2⟩
    have HVPRE : Hid (Below w5.heap.size w5 (((w5.alloc (.cells #[.bool true, .string ⟨#[122, 122, 122]⟩, .slice (some ⟨w3.heap.size, 0, none⟩) 1 1] 37)).alloc (.cells #[.string ⟨#[122, 122, 122]⟩, .slice (some ⟨w3.heap.size, 0, none⟩) 1 1, .slice (some ⟨w5.heap.size, 0, none⟩) 1 1] 40)).alloc (.cells #[] 40)).drew ∧ (((w5.alloc (.cells #[.bool true, .string ⟨#[122, 122, 122]⟩, .slice (some ⟨w3.heap.size, 0, none⟩) 1 1] 37)).alloc (.cells #[.string ⟨#[122, 122, 122]⟩, .slice (some ⟨w3.heap.size, 0, none⟩) 1 1, .slice (some ⟨w5.heap.size, 0, none⟩) 1 1] 40)).alloc (.cells #[] 40)).drew.heap[w5.heap.size]? = some (.cells #[.bool true, .string ⟨#[122, 122, 122]⟩, .slice (some ⟨w3.heap.size, 0, none⟩) 1 1] 37 (0, 0)) ∧ (((w5.alloc (.cells #[.bool true, .string ⟨#[122, 122, 122]⟩, .slice (some ⟨w3.heap.size, 0, none⟩) 1 1] 37)).alloc (.cells #[.string ⟨#[122, 122, 122]⟩, .slice (some ⟨w3.heap.size, 0, none⟩) 1 1, .slice (some ⟨w5.heap.size, 0, none⟩) 1 1] 40)).alloc (.cells #[] 40)).drew.heap[w5.heap.size + 1]? = some (.cells #[.string ⟨#[122, 122, 122]⟩, .slice (some ⟨w3.heap.size, 0, none⟩) 1 1, .slice (some ⟨w5.heap.size, 0, none⟩) 1 1] 40 (0, 0)) ∧ (((w5.alloc (.cells #[.bool true, .string ⟨#[122, 122, 122]⟩, .slice (some ⟨w3.heap.size, 0, none⟩) 1 1] 37)).alloc (.cells #[.string ⟨#[122, 122, 122]⟩, .slice (some ⟨w3.heap.size, 0, none⟩) 1 1, .slice (some ⟨w5.heap.size, 0, none⟩) 1 1] 40)).alloc (.cells #[] 40)).drew.heap[w5.heap.size + 2]? = some (.cells #[] 40 (0, 0))) := Lib.hid ⟨((((Below.refl _ _).alloc (Nat.le_refl _) _).alloc (by simp) _).alloc (by simp; omega) _).drew, (heap_three w5 _ _ _).1, (heap_three w5 _ _ _).2.1, (heap_three w5 _ _ _).2.2⟩
    have HZZ : Hid (xs.length < 8 → progC (xs ++ [zzR]) = 5) := Lib.hid fun h8 => zz_bad HF.out h8 fun a ha => by
      obtain ⟨r, hr, ha⟩ := List.mem_flatMap.1 ha
      have := small_zz HSM.out hr (a := a) (by
        unfold ruleAtoms at ha
        rcases List.mem_cons.1 ha with rfl | ha
        · exact .inl rfl
        · obtain ⟨p, hp, rfl⟩ := List.mem_map.1 ha
          exact .inr ⟨p, hp, rfl⟩)
      intro e
      rw [e] at this
      exact this rfl
    clear hA5 hp HB3 hn5
    go_wp2_with fail
    rw [← hw5]
    clear hw5
    go_upto_region 9 with fail
    go_cut [6] from 7 to 74 (fun v6 wx => ∃ (A5 : Option Addr) (c5 : Nat), v6 = .slice A5 (xs.length + 1) c5 ∧ (∃ bq, rulesK wx [.slice A5 (xs.length + 1) c5] (xs ++ [zzR]) bq) ∧ Below w1.heap.size w1 wx)
    case first =>
      go_region_held3 (fun w' => w'.cell? ⟨w3.heap.size + 1, 0, none⟩ = some (.string ⟨#[122, 122, 122]⟩) ∧ w'.cell? ⟨w3.heap.size + 1, 1, none⟩ = some (.slice (some ⟨w3.heap.size, 0, none⟩) 1 1)) (first | exact ⟨q0, q1c⟩ | (go_keep; done) | exact ⟨keep_drew (keep_alloc (keep_alloc (keep_alloc q0))), keep_drew (keep_alloc (keep_alloc (keep_alloc q1c)))⟩)
        (first
        | (refine step_cp1 hi hz0 hz1 hz2 (by rfl) (.tmp 45) (.tmp 46) (by rfl) (w5.heap.size) (by rfl) (by with_reducible exact HVE.out.2) (by omega) HXS.out (by rfl) rfl (by with_reducible exact HVE.out.1) HL.out ?_; intro A9 c9 w9 hC9 hB9 hG9; obtain ⟨L9, bs9, hC9, _⟩ := hC9; have hta := (hB9.block w3.heap.size (by omega)).trans HTA.out; have hbx := (hB9.block (w3.heap.size + 1) (by omega)).trans HBX.out; have hA9 : Below w9.heap.size w9 ((w9.alloc (.cells #[.bool true, .string ⟨#[122, 122, 122]⟩, .slice (some ⟨w3.heap.size, 0, none⟩) 1 1] 37)).alloc (.cells #[.string ⟨#[122, 122, 122]⟩, .slice (some ⟨w3.heap.size, 0, none⟩) 1 1, .slice (some ⟨w9.heap.size, 0, none⟩) 1 1] 40)) := ((Below.refl _ _).alloc (Nat.le_refl _) _).alloc (by simp) _; have hC := hC9.below ruleK_good hA9; have HQ9 := Lib.hid (And.intro hC (And.intro (heap_two w9 (.cells #[.bool true, .string ⟨#[122, 122, 122]⟩, .slice (some ⟨w3.heap.size, 0, none⟩) 1 1] 37) (.cells #[.string ⟨#[122, 122, 122]⟩, .slice (some ⟨w3.heap.size, 0, none⟩) 1 1, .slice (some ⟨w9.heap.size, 0, none⟩) 1 1] 40)).2 (And.intro (zz_arm hC ((hA9.block w3.heap.size (lt_of_block hta)).trans hta) (heap_two w9 (.cells #[.bool true, .string ⟨#[122, 122, 122]⟩, .slice (some ⟨w3.heap.size, 0, none⟩) 1 1] 37) (.cells #[.string ⟨#[122, 122, 122]⟩, .slice (some ⟨w3.heap.size, 0, none⟩) 1 1, .slice (some ⟨w9.heap.size, 0, none⟩) 1 1] 40)).1) (hB9.trans (hA9.mono hB9.size))))); clear hA9 hC; replace q0 := cell_of_blk (o := 0) hbx; replace q1c := cell_of_blk (o := 1) hbx; simp only [List.getElem?_toArray, List.getElem?_cons_zero, List.getElem?_cons_succ] at q0 q1c; replace hlt5 : w3.heap.size + 1 < w9.heap.size := lt_of_block hbx; replace hlt6 : w3.heap.size + 1 < w9.heap.size + 1 := Nat.lt_succ_of_lt hlt5; clear hlt7; clear hC9 hB9 hG9 hta hbx HVE HVEP HVPE HVEPR HVPER HVPRE)
        | (refine step_cp1 hi hz0 hz1 hz2 (by rfl) (.tmp 45) (.tmp 46) (by rfl) (w5.heap.size) (by rfl) (by with_reducible exact HVEP.out.2.1) (by omega) HXS.out (by rfl) rfl (by with_reducible exact HVEP.out.1) HL.out ?_; intro A9 c9 w9 hC9 hB9 hG9; obtain ⟨L9, bs9, hC9, _⟩ := hC9; have hta := (hB9.block w3.heap.size (by omega)).trans HTA.out; have hbx := (hB9.block (w3.heap.size + 1) (by omega)).trans HBX.out; have hpb := (hG9.block (w5.heap.size + 1) (by simp <;> omega) (by simp)).trans HVEP.out.2.2; have hA9 : Below w9.heap.size w9 (w9.alloc (.cells #[.string ⟨#[122, 122, 122]⟩, .slice (some ⟨w3.heap.size, 0, none⟩) 1 1, .slice (some ⟨w5.heap.size + 1, 0, none⟩) 1 1] 40)) := (Below.refl _ _).alloc (Nat.le_refl _) _; have hC := hC9.below ruleK_good hA9; have HQ9 := Lib.hid (And.intro hC (And.intro (heap_alloc_new w9 (.cells #[.string ⟨#[122, 122, 122]⟩, .slice (some ⟨w3.heap.size, 0, none⟩) 1 1, .slice (some ⟨w5.heap.size + 1, 0, none⟩) 1 1] 40)) (And.intro (zz_arm hC ((hA9.block w3.heap.size (lt_of_block hta)).trans hta) ((hA9.block (w5.heap.size + 1) (lt_of_block hpb)).trans hpb)) (hB9.trans (hA9.mono hB9.size))))); clear hA9 hC hpb; replace q0 := cell_of_blk (o := 0) hbx; replace q1c := cell_of_blk (o := 1) hbx; simp only [List.getElem?_toArray, List.getElem?_cons_zero, List.getElem?_cons_succ] at q0 q1c; replace hlt5 : w3.heap.size + 1 < w9.heap.size := lt_of_block hbx; replace hlt6 : w3.heap.size + 1 < w9.heap.size + 1 := Nat.lt_succ_of_lt hlt5; clear hlt7; clear hC9 hB9 hG9 hta hbx HVE HVEP HVPE HVEPR HVPER HVPRE)
        | (refine step_cp1 hi hz0 hz1 hz2 (by rfl) (.tmp 45) (.tmp 46) (by rfl) (w5.heap.size + 1) (by rfl) (by with_reducible exact HVPE.out.2.2) (by omega) HXS.out (by rfl) rfl (by with_reducible exact HVPE.out.1) HL.out ?_; intro A9 c9 w9 hC9 hB9 hG9; obtain ⟨L9, bs9, hC9, _⟩ := hC9; have hta := (hB9.block w3.heap.size (by omega)).trans HTA.out; have hbx := (hB9.block (w3.heap.size + 1) (by omega)).trans HBX.out; have hpb := (hG9.block (w5.heap.size) (by simp <;> omega) (by simp)).trans HVPE.out.2.1; have hA9 : Below w9.heap.size w9 (w9.alloc (.cells #[.string ⟨#[122, 122, 122]⟩, .slice (some ⟨w3.heap.size, 0, none⟩) 1 1, .slice (some ⟨w5.heap.size, 0, none⟩) 1 1] 40)) := (Below.refl _ _).alloc (Nat.le_refl _) _; have hC := hC9.below ruleK_good hA9; have HQ9 := Lib.hid (And.intro hC (And.intro (heap_alloc_new w9 (.cells #[.string ⟨#[122, 122, 122]⟩, .slice (some ⟨w3.heap.size, 0, none⟩) 1 1, .slice (some ⟨w5.heap.size, 0, none⟩) 1 1] 40)) (And.intro (zz_arm hC ((hA9.block w3.heap.size (lt_of_block hta)).trans hta) ((hA9.block (w5.heap.size) (lt_of_block hpb)).trans hpb)) (hB9.trans (hA9.mono hB9.size))))); clear hA9 hC hpb; replace q0 := cell_of_blk (o := 0) hbx; replace q1c := cell_of_blk (o := 1) hbx; simp only [List.getElem?_toArray, List.getElem?_cons_zero, List.getElem?_cons_succ] at q0 q1c; replace hlt5 : w3.heap.size + 1 < w9.heap.size := lt_of_block hbx; replace hlt6 : w3.heap.size + 1 < w9.heap.size + 1 := Nat.lt_succ_of_lt hlt5; clear hlt7; clear hC9 hB9 hG9 hta hbx HVE HVEP HVPE HVEPR HVPER HVPRE)
        | (refine step_cp1 hi hz0 hz1 hz2 (by rfl) (.tmp 45) (.tmp 46) (by rfl) (w5.heap.size) (by rfl) (by with_reducible exact HVEPR.out.2.1) (by omega) HXS.out (by rfl) rfl (by with_reducible exact HVEPR.out.1) HL.out ?_; intro A9 c9 w9 hC9 hB9 hG9; obtain ⟨L9, bs9, hC9, _⟩ := hC9; have hta := (hB9.block w3.heap.size (by omega)).trans HTA.out; have hbx := (hB9.block (w3.heap.size + 1) (by omega)).trans HBX.out; have hpb := (hG9.block (w5.heap.size + 1) (by simp <;> omega) (by simp)).trans HVEPR.out.2.2.1; have hrb := (hG9.block (w5.heap.size + 2) (by simp <;> omega) (by simp)).trans HVEPR.out.2.2.2; have HQ9 := Lib.hid (And.intro hC9 (And.intro hrb (And.intro (zz_arm hC9 hta hpb) hB9))); clear hpb hrb; replace q0 := cell_of_blk (o := 0) hbx; replace q1c := cell_of_blk (o := 1) hbx; simp only [List.getElem?_toArray, List.getElem?_cons_zero, List.getElem?_cons_succ] at q0 q1c; replace hlt5 : w3.heap.size + 1 < w9.heap.size := lt_of_block hbx; replace hlt6 : w3.heap.size + 1 < w9.heap.size + 1 := Nat.lt_succ_of_lt hlt5; clear hlt7; clear hC9 hB9 hG9 hta hbx HVE HVEP HVPE HVEPR HVPER HVPRE)
        | (refine step_cp1 hi hz0 hz1 hz2 (by rfl) (.tmp 45) (.tmp 46) (by rfl) (w5.heap.size + 1) (by rfl) (by with_reducible exact HVPER.out.2.2.1) (by omega) HXS.out (by rfl) rfl (by with_reducible exact HVPER.out.1) HL.out ?_; intro A9 c9 w9 hC9 hB9 hG9; obtain ⟨L9, bs9, hC9, _⟩ := hC9; have hta := (hB9.block w3.heap.size (by omega)).trans HTA.out; have hbx := (hB9.block (w3.heap.size + 1) (by omega)).trans HBX.out; have hpb := (hG9.block (w5.heap.size) (by simp <;> omega) (by simp)).trans HVPER.out.2.1; have hrb := (hG9.block (w5.heap.size + 2) (by simp <;> omega) (by simp)).trans HVPER.out.2.2.2; have HQ9 := Lib.hid (And.intro hC9 (And.intro hrb (And.intro (zz_arm hC9 hta hpb) hB9))); clear hpb hrb; replace q0 := cell_of_blk (o := 0) hbx; replace q1c := cell_of_blk (o := 1) hbx; simp only [List.getElem?_toArray, List.getElem?_cons_zero, List.getElem?_cons_succ] at q0 q1c; replace hlt5 : w3.heap.size + 1 < w9.heap.size := lt_of_block hbx; replace hlt6 : w3.heap.size + 1 < w9.heap.size + 1 := Nat.lt_succ_of_lt hlt5; clear hlt7; clear hC9 hB9 hG9 hta hbx HVE HVEP HVPE HVEPR HVPER HVPRE)
        | (refine step_cp1 hi hz0 hz1 hz2 (by rfl) (.tmp 45) (.tmp 46) (by rfl) (w5.heap.size + 2) (by rfl) (by with_reducible exact HVPRE.out.2.2.2) (by omega) HXS.out (by rfl) rfl (by with_reducible exact HVPRE.out.1) HL.out ?_; intro A9 c9 w9 hC9 hB9 hG9; obtain ⟨L9, bs9, hC9, _⟩ := hC9; have hta := (hB9.block w3.heap.size (by omega)).trans HTA.out; have hbx := (hB9.block (w3.heap.size + 1) (by omega)).trans HBX.out; have hpb := (hG9.block (w5.heap.size) (by simp <;> omega) (by simp)).trans HVPRE.out.2.1; have hrb := (hG9.block (w5.heap.size + 1) (by simp <;> omega) (by simp)).trans HVPRE.out.2.2.1; have HQ9 := Lib.hid (And.intro hC9 (And.intro hrb (And.intro (zz_arm hC9 hta hpb) hB9))); clear hpb hrb; replace q0 := cell_of_blk (o := 0) hbx; replace q1c := cell_of_blk (o := 1) hbx; simp only [List.getElem?_toArray, List.getElem?_cons_zero, List.getElem?_cons_succ] at q0 q1c; replace hlt5 : w3.heap.size + 1 < w9.heap.size := lt_of_block hbx; replace hlt6 : w3.heap.size + 1 < w9.heap.size + 1 := Nat.lt_succ_of_lt hlt5; clear hlt7; clear hC9 hB9 hG9 hta hbx HVE HVEP HVPE HVEPR HVPER HVPRE)
        | (refine step_cp2 hi hz0 hz1 hz2 (by rfl) (.tmp 47) (.tmp 53) (by rfl) (by rfl) HQ9.out.1 _ (by rfl) HQ9.out.2.1 HQ9.out.2.2.1.1 HQ9.out.2.2.1.2 rfl HQ9.out.2.2.2 HL.out ?_; intro A10 c10 w10 hR10 hB10; have HY := Lib.hid hR10; have HBY := Lib.hid (HB5.out.trans (hB10.mono HB5.out.size)); have hbx := (hB10.block (w3.heap.size + 1) HLT0.out).trans HBX.out; replace q0 := cell_of_blk (o := 0) hbx; replace q1c := cell_of_blk (o := 1) hbx; simp only [List.getElem?_toArray, List.getElem?_cons_zero, List.getElem?_cons_succ] at q0 q1c; clear hR10 hB10 HQ9 hbx))
      all_goals
        go_wp2
        go_meet
        case rel => exact ⟨_, _, rfl, HY.out, HBY.out⟩
    case rest =>
      clear HVE HVEP HVPE HVEPR HVPER HVPRE q0 q1c hlt5 hlt6 hlt7 HXS HB5 HBX HTA
      obtain ⟨A5, c5, rfl, ⟨bq, hq⟩, hbx⟩ := hcut
      have HBX := Lib.hid hbx
      have HBW := Lib.hid (HB1.out.trans (hbx.mono HB1.out.size))
      have hpb := progCheck_impl (xs ++ [zzR]) _ bq _ hq (HG.out.below HBW.out)
      have HPI := Lib.hid (fun w' (hb : Below w1.heap.size w1 w') k (hk : k ≤ xs.length) => (sliceK_take (k := k) (rulesK_good.below HR1.out hb) hk))
      have HFT := Lib.hid (fun k => (fine_iff _).2 (fine_take HF.out k))
      clear hq hbx
      by_cases h8 : xs.length < 8
      · have h8i : (xs.length : Int) < 8 := by omega
        rw [HZZ.out h8] at hpb
        go_wp2_with fail
        refine hpb.mono ?_
        rintro e w6 ⟨rfl, hb6⟩
        have HB6 := Lib.hid (HBX.out.trans (hb6.mono HBX.out.size))
        have HW6 := Lib.hid (HBW.out.trans (hb6.mono HBW.out.size))
        clear hpb hb6
        by_cases h0 : xs.length = 0
        · have h0i : ((xs.length : Int) == 0) = true := by rw [beq_iff_eq]; omega
          clear HPI HFT
          go_wp2
          go_ret
          exact ⟨rfl, HW6.out⟩
        · have h0i : ((xs.length : Int) == 0) = false := by rw [beq_eq_false_iff_ne]; omega
          obtain ⟨b2, hsl, _⟩ := HPI.out _ HB6.out (xs.length - 1) (by omega)
          have hpl := progCheck_impl _ _ b2 _ hsl (HG.out.below HW6.out)
          rw [HFT.out] at hpl
          have e1 : (xs.length : Int) - 1 = ((xs.length - 1 : Nat) : Int) := by omega
          have hn0 : 0 ≤ (xs.length : Int) - 1 := by omega
          have hnc : (xs.length : Int) - 1 ≤ (cp : Int) := by have := HCP.out.1; omega
          have hn9 : (xs.length : Int) ≤ 9 := by have := HX9.out; omega
          have HE := Lib.hid e1
          clear HPI HFT hsl h0 e1
          go_wp2_with fail
          refine hpl.mono ?_
          rintro e w7 ⟨rfl, hb7⟩
          have HW7 := Lib.hid (HW6.out.trans (hb7.mono HW6.out.size))
          clear hpl hb7
          go_wp2
          go_ret
          exact ⟨rfl, HW7.out⟩
      · have h8i : ¬ (xs.length : Int) < 8 := by omega
        have HB6 := HBX
        have HW6 := HBW
        clear hpb
        by_cases h0 : xs.length = 0
        · omega
        · have h0i : ((xs.length : Int) == 0) = false := by rw [beq_eq_false_iff_ne]; omega
          obtain ⟨b2, hsl, _⟩ := HPI.out _ HB6.out (xs.length - 1) (by omega)
          have hpl := progCheck_impl _ _ b2 _ hsl (HG.out.below HW6.out)
          rw [HFT.out] at hpl
          have e1 : (xs.length : Int) - 1 = ((xs.length - 1 : Nat) : Int) := by omega
          have hn0 : 0 ≤ (xs.length : Int) - 1 := by omega
          have hnc : (xs.length : Int) - 1 ≤ (cp : Int) := by have := HCP.out.1; omega
          have hn9 : (xs.length : Int) ≤ 9 := by have := HX9.out; omega
          have HE := Lib.hid e1
          clear HPI HFT hsl h0 e1
          go_wp2_with fail
          refine hpl.mono ?_
          rintro e w7 ⟨rfl, hb7⟩
          have HW7 := Lib.hid (HW6.out.trans (hb7.mono HW6.out.size))
          clear hpl hb7
          go_wp2
          go_ret
          exact ⟨rfl, HW7.out⟩
  · have hn' : (1048576 : Int) < (cs.length : Int) := by omega
    go_enter Tryd.func4, Tryd.ntmps4
    go_wp2
    go_ret
    exact ⟨rfl, Below.refl _ _⟩

end Go.Proofs.YtbcepahpehadeaaDoor
