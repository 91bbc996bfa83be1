/- Of the proof of FnExactOnce: OncI. -/
import Derived.WalkKit
import Derived.Lib.Hide
import Derived.WalkSpells
import Derived.WalkLawsBesides
import Derived.BigQuiet
import Derived.Shelf.Abstract
import Derived.Test.YtjjfafgaphloaaaGreatDoorProg
import Derived.Test.YtjjfafgaphloaaaGreatDoorM41
import Derived.Test.YtjjfafgaphloaaaGreatDoorM45
import Derived.Test.YtjjfafgaphloaaaGreatDoorM43
import Derived.Test.YtjjfafgaphloaaaGreatDoorM37
namespace Go.Proofs.YtjjfafgaphloaaaGreatDoor
open Go.RowKit D
set_option linter.unusedVariables false
attribute [local go_sem ↓] Go.wp_at_zero Go.wp_at_succ
theorem D.map_facts {E : List Fe} {mf : Nat} {w : World} (h : MapV isStr mf (E.map Fe.kv) w) : (E.map (·.t)).Nodup ∧ E.Nodup ∧ ∀ x ∈ E, ∀ y ∈ E, aText x.t = aText y.t → x = y := by
  have h1 := h.once
  rw [List.pairwise_map] at h1
  have h2 : E.Pairwise fun x y => aText x.t ≠ aText y.t := h1.imp fun {a b} hne e => hne (by unfold Fe.kv; rw [e])
  refine ⟨List.pairwise_map.2 (h2.imp fun {a b} hne e => hne (by rw [e])), h2.imp fun {a b} hne e => hne (by rw [e]), fun x hx y hy e => ?_⟩
  obtain ⟨i, hi, rfl⟩ := List.getElem_of_mem hx
  obtain ⟨j, hj, rfl⟩ := List.getElem_of_mem hy
  rcases Nat.lt_trichotomy i j with h3 | h3 | h3
  · exact absurd e (List.pairwise_iff_getElem.1 h2 i j hi hj h3)
  · subst h3; rfl
  · exact absurd e.symm (List.pairwise_iff_getElem.1 h2 j i hj hi h3)

/-- All that came is all that was found. -/
theorem D.came_perm {E : List Fe} {w0 : World} {mf : Nat} {w : World} (h : MapV isStr mf (E.map Fe.kv) w) {xs : List (FdIn E w0)} (hc : AllCame (E.map Fe.kv) xs) : (xs.map (·.1)).Perm E := by
  obtain ⟨h1, h2, h3⟩ := map_facts h
  have hn : (xs.map (·.1)).Nodup := by
    refine List.pairwise_map.2 ?_
    have := hc.1
    rw [List.nodup_iff_pairwise_ne, List.pairwise_map] at this
    exact this.imp fun {a b} hne e => hne (by rw [e])
  refine (List.perm_ext_iff_of_nodup hn h2).2 fun x => ⟨fun hx => ?_, fun hx => ?_⟩
  · obtain ⟨y, _, rfl⟩ := List.mem_map.1 hx
    exact y.2.1
  · obtain ⟨y, hy, e⟩ := hc.2 x.kv (List.mem_map.2 ⟨x, hx, rfl⟩)
    unfold Fe.kv at e
    have : x = y.1 := h3 x hx y.1 y.2.1 (by simpa using e)
    exact List.mem_map.2 ⟨y, hy, this.symm⟩

theorem values_any (b : Nat) (w : World) : Calls Tryz.prog 28 #[.map (some b)] w fun e w' => e = .returned (.func (.func 67) #[] #[.pointer (some ⟨w.heap.size, 0, none⟩)]) ∧ w' = w.alloc (.cells #[.map (some b)] 50) :=
  (callsIn_wide (n := 3)).1 (values_in _ 3 trivial rfl b w)

/-- What slices.Collect makes of what was found. -/
def D.Got (E : List Fe) (w w' : World) (v : Value) : Prop := ∃ xs : List (FdIn E w), AllCame (E.map Fe.kv) xs ∧ w'.ownsRow w.heap.size 33 2 v xs.length (flatF xs) ∧ Below w.heap.size w w'

theorem appendSeq_any (Bm mf : Nat) (E : List Fe) (w : World) (hm : w.cell? ⟨Bm, 0, none⟩ = some (.map (some mf))) (hL : MapV isStr mf (E.map Fe.kv) w) (hT : Timed mf w) (hE : ∀ x ∈ E, FactOk x.t ∧ atomK w [.string x.t.name, x.c1] x.t x.ba) (hN : E.length ≤ 100000000000) :
    Calls Tryz.prog 107 #[.slice none 0 0, .func (.func 67) #[] #[.pointer (some ⟨Bm, 0, none⟩)]] w fun e w' => ∃ v, e = .returned v ∧ Got E w w' v := by
  refine ((callsIn_wide (n := 3)).1 (appendSeq_in _ 3 trivial trivial rfl (Nat.le_refl _) Bm mf E w (E.map Fe.kv) w hm hL hT (fun p hp => ?_) (by simp [maxLen]; omega) (by simp; omega))).mono ?_
  · obtain ⟨x, hx, rfl⟩ := List.mem_map.1 hp
    exact ⟨⟨x, hx, hE x hx⟩, rfl⟩
  · rintro e w' ⟨xs, v, rfl, h1, h2, h3⟩
    exact ⟨v, rfl, xs, h1, h2, h3⟩

set_option maxHeartbeats 1000000 in
theorem collect_any (Bm mf : Nat) (E : List Fe) (w : World) (hm : w.cell? ⟨Bm, 0, none⟩ = some (.map (some mf))) (hL : MapV isStr mf (E.map Fe.kv) w) (hT : Timed mf w) (hE : ∀ x ∈ E, FactOk x.t ∧ atomK w [.string x.t.name, x.c1] x.t x.ba) (hN : E.length ≤ 100000000000) :
    Calls Tryz.prog 65 #[.func (.func 67) #[] #[.pointer (some ⟨Bm, 0, none⟩)]] w fun e w' => ∃ v, e = .returned v ∧ Got E w w' v := by
  have c1 := appendSeq_any Bm mf E w hm hL hT hE hN
  clear hm hL hT hE hN
  go_enter Tryz.func65, Tryz.ntmps65
  go_wp2_with fail
  refine c1.mono ?_
  rintro e w1 ⟨v, rfl, hG⟩
  have HG := Lib.hid hG
  obtain ⟨xs, _, ⟨_, h⟩, _⟩ := hG
  have hv : ∃ p n c, v = .slice p n c := by
    rcases h with ⟨rfl, _⟩ | ⟨g, cap, _, rfl, _⟩
    · exact ⟨_, _, _, rfl⟩
    · exact ⟨_, _, _, rfl⟩
  obtain ⟨p, n, c, rfl⟩ := hv
  clear h c1
  go_wp2
  go_ret
  exact ⟨_, rfl, HG.out⟩

theorem D.fact_dec {E : List Fe} {U : List A} (h1 : (E.map (·.t)).Nodup) (h2 : ∀ x ∈ E, x.t ∈ U) : E.length ≤ U.length := by
  classical
  have := nodup_len h1 (l2 := U) fun t ht => by
    obtain ⟨x, hx, rfl⟩ := List.mem_map.1 ht
    exact h2 x hx
  simpa using this

theorem D.own_less {w : World} {base base' e n k : Nat} {v : Value} {L : List Value} (h : w.ownsRow base e n v k L) (hb : base' ≤ base) : w.ownsRow base' e n v k L := by
  refine ⟨h.1, h.2.imp id ?_⟩
  rintro ⟨g, cap, cur, h1, h2, h3⟩
  exact ⟨g, cap, cur, h1, Nat.le_trans hb h2, h3⟩

/-- What was got, as a row of one's own. -/
theorem D.got_coll {E : List Fe} {w w1 : World} {v : Value} {a6 mf : Nat} (h : Got E w w1 v) (hL : MapV isStr mf (E.map Fe.kv) w) (hE : ∀ x ∈ E, FactOk x.t ∧ atomK w [.string x.t.name, x.c1] x.t x.ba) (hN : New a6 w (E.flatMap (·.ba))) (ha : a6 ≤ w.heap.size) :
    Below w.heap.size w w1 ∧ ∃ L ts bs, Coll 2 atomK a6 33 w1 v L ts bs ∧ ts.Perm (E.map (·.t)) ∧ bs.Perm (E.flatMap (·.ba)) ∧ New a6 w1 bs ∧ (∀ x, v.ownBlock = some x → w.heap.size ≤ x) := by
  obtain ⟨xs, hA, hown, hb⟩ := h
  have hp := came_perm hL hA
  have hR := fqs_rowed (w := w1) (zs := xs.map fun x => (⟨x.1.t, x.1.c1, x.1.ba⟩ : Fq)) fun z hz => by
    obtain ⟨x, _, rfl⟩ := List.mem_map.1 hz
    exact atomK_good.below x.2.2.2 hb
  have e1 : (xs.map fun x => (⟨x.1.t, x.1.c1, x.1.ba⟩ : Fq)).flatMap (·.cs) = flatF xs := by rw [List.flatMap_map]; rfl
  have e2 : (xs.map fun x => (⟨x.1.t, x.1.c1, x.1.ba⟩ : Fq)).map (·.t) = (xs.map (·.1)).map (·.t) := by rw [List.map_map, List.map_map]; rfl
  have e3 : (xs.map fun x => (⟨x.1.t, x.1.c1, x.1.ba⟩ : Fq)).flatMap (·.ba) = (xs.map (·.1)).flatMap (·.ba) := by rw [List.flatMap_map, List.flatMap_map]
  rw [e1, e2, e3] at hR
  have hpb : ((xs.map (·.1)).flatMap (·.ba)).Perm (E.flatMap (·.ba)) := hp.flatMap_right _
  have hown' : ∀ x, v.ownBlock = some x → w.heap.size ≤ x := fun x hx => by
    rcases hown.2 with ⟨rfl, _⟩ | ⟨g, cap, cur, rfl, hg, _⟩
    · simp [Value.ownBlock] at hx
    · have : g = x := by simpa [Value.ownBlock] using hx
      omega
  refine ⟨hb, flatF xs, (xs.map (·.1)).map (·.t), (xs.map (·.1)).flatMap (·.ba), ⟨?_, hR, fun b hb' e => ?_⟩, hp.map _, hpb, ⟨hpb.nodup_iff.2 hN.nodup, fun b hb' => ?_⟩, hown'⟩
  · rw [List.length_map, List.length_map]
    exact own_less hown ha
  · have h1 := hN.lt (hpb.mem_iff.1 hb')
    have := hown' b e
    omega
  · have h1 := hN.own b (hpb.mem_iff.1 hb')
    refine ⟨h1.1, ?_⟩
    rw [hb.block b (hN.lt (hpb.mem_iff.1 hb'))]
    exact h1.2

set_option maxRecDepth 100000 in
set_option maxHeartbeats 4000000 in
theorem sortedFunc_any (a6 mf Bm : Nat) (told U : List A) (fb : List Nat) (w : World) (F : FndSt a6 mf w told fb) (hm : w.cell? ⟨Bm, 0, none⟩ = some (.map (some mf))) (hU : ∀ t ∈ told, t ∈ U) (hUl : U.length ≤ 100000000000) (ha : a6 ≤ w.heap.size) :
    Calls Tryz.prog 27 #[.func (.func 67) #[] #[.pointer (some ⟨Bm, 0, none⟩)], .func (.func 29) #[] #[]] w fun e w' =>
      Below w.heap.size w w' ∧ ∃ v ts bs, e = .returned v ∧ atomsK w' [v] ts bs ∧ New a6 w' bs ∧ asc ts = true ∧ (∀ t ∈ ts, FactOk t) ∧ ∀ t, t ∈ ts ↔ t ∈ told := by
  obtain ⟨E, h1, h2, h3, h4⟩ := F.map
  have hE : ∀ x ∈ E, FactOk x.t ∧ atomK w [.string x.t.name, x.c1] x.t x.ba := fun x hx => ⟨(h2 x hx).2.1, (h2 x hx).2.2.1⟩
  have hEU : E.length ≤ 100000000000 := Nat.le_trans (fact_dec (map_facts h1).1 fun x hx => hU _ (h2 x hx).1) hUl
  have c1 := collect_any Bm mf E w hm h1 F.tm hE hEU
  have HG := Lib.hid fun w1 v (hg : Got E w w1 v) => got_coll hg h1 hE h4 ha
  have HM : Hid ((E.map (·.t)).Nodup ∧ ∀ t, t ∈ E.map (·.t) ↔ t ∈ told) := Lib.hid ⟨(map_facts h1).1, fun t => ⟨fun ht => by
    obtain ⟨x, hx, rfl⟩ := List.mem_map.1 ht
    exact (h2 x hx).1, fun ht => by
    obtain ⟨x, hx, e⟩ := h3 t ht
    exact List.mem_map.2 ⟨x, hx, aText_inj (h2 x hx).2.1.ok (F.tok t ht).ok e⟩⟩⟩
  have HT := Lib.hid F.tok
  clear hm h1 h2 h3 h4 F hE hU hUl
  go_enter Tryz.func27, Tryz.ntmps27
  go_wp2_with fail
  refine c1.mono ?_
  rintro e w1 ⟨v, rfl, hG⟩
  obtain ⟨hb1, L, ts, bs, hC, hp1, hp2, hN, hO⟩ := HG.out w1 v hG
  have hv : ∃ p n c, v = .slice p n c := by
    rcases hC.own.2 with ⟨rfl, _⟩ | ⟨g, cap, _, rfl, _⟩
    · exact ⟨_, _, _, rfl⟩
    · exact ⟨_, _, _, rfl⟩
  have c2 := sortColl_any ts v L bs a6 w1 hC (by have := hp1.length_eq; simp at this; omega)
  have HR : Hid (∀ w2 ys L' bs', ys.Perm ts → ys.Pairwise (fun a b => ¬ cmpA b a < 0) → bs'.Perm bs → Coll 2 atomK a6 33 w2 v L' ys bs' → AllBut (fun x => v.ownBlock = some x) w1 w2 →
      Below w.heap.size w w2 ∧ ∃ v' ts bs, v = v' ∧ atomsK w2 [v'] ts bs ∧ New a6 w2 bs ∧ asc ts = true ∧ (∀ t ∈ ts, FactOk t) ∧ ∀ t, t ∈ ts ↔ t ∈ told) := Lib.hid fun w2 ys L' bs' q1 q2 q3 q4 q5 => by
    have hB2 : Below w.heap.size w w2 := ⟨q5.os.trans hb1.os, q5.tape.trans hb1.tape, q5.output.trans hb1.output, Nat.le_trans hb1.size q5.size, fun k hk => (q5.block k (Nat.lt_of_lt_of_le hk hb1.size) fun e => by have := hO k e; omega).trans (hb1.block k hk)⟩
    have hN2 : New a6 w2 bs' := ⟨q3.nodup_iff.2 hN.nodup, fun b hb => by
      have h1 := hN.own b (q3.mem_iff.1 hb)
      refine ⟨h1.1, ?_⟩
      rw [q5.block b (hN.lt (q3.mem_iff.1 hb)) (fun e => hC.far b (q3.mem_iff.1 hb) e)]
      exact h1.2⟩
    obtain ⟨b2, g1, g2⟩ := q4.new hN2
    have hmem : ∀ t, t ∈ ys ↔ t ∈ told := fun t => by rw [q1.mem_iff, hp1.mem_iff, HM.out.2]
    have hok : ∀ t ∈ ys, FactOk t := fun t ht => HT.out t ((hmem t).1 ht)
    exact ⟨hB2, v, ys, b2, rfl, g1, g2, asc_sorted hok ((q1.trans hp1).nodup_iff.2 HM.out.1) q2, hok, hmem⟩
  obtain ⟨p, n, c, rfl⟩ := hv
  clear c1 hC hp1 hp2 hN hO hG hb1 HG HM HT
  go_wp2_with fail
  refine c2.mono ?_
  rintro e w2 ⟨rfl, ys, L', bs', q1, q2, q3, q4, q5⟩
  have HZ := Lib.hid (HR.out w2 ys L' bs' q1 q2 q3 q4 q5)
  clear c2 HR q1 q2 q3 q4 q5
  go_wp2
  go_ret
  obtain ⟨z1, v', ts', bs2, rfl, z2⟩ := HZ.out
  exact ⟨z1, _, ts', bs2, rfl, z2⟩

theorem D.facts_fit {rs : List Ru} {xs : List A} (h : factsFit rs xs = true) : progC rs = 0 ∧ asc xs = true ∧ (∀ x ∈ xs, FactOk x) ∧ xs.length ≤ 300 := by
  have h0 := h
  unfold factsFit factsOk at h
  simp only [Bool.and_eq_true, decide_eq_true_eq, List.all_eq_true] at h
  exact ⟨h.1.1, h.1.2.2, fun x hx => isFact_ok (h.1.2.1.2 x hx), h.1.2.1.1⟩

theorem D.onceA_len {rs : List Ru} {xs : List A} (h : factsFit rs xs = true) : (onceA rs xs).length ≤ 100000000000 := by
  have ho := factsFit_once h
  have h1 := onceR_lenO (list := xs) (level := 0) (B := 8100000000) (rl := rs.zip (List.replicate rs.length 0)) fun p hp => allB_len ho.n (ho.rules p.1 (List.of_mem_zip hp).1).1
  have h2 : (rs.zip (List.replicate rs.length 0)).length ≤ 8 := by simp; exact ho.m
  have h3 := Nat.mul_le_mul_right 8100000000 h2
  unfold onceA
  omega

/-- The first rules have been followed. -/
structure D.OncSt (rs : List Ru) (xs : List A) (w0 : World) (sb a6 mf : Nat) (k : Nat) (wr : World) : Prop where
  st : ∃ told fb, FndSt a6 mf wr told fb ∧ (∀ x ∈ fb, w0.heap.size ≤ x) ∧ ∀ t, t ∈ told ↔ ∃ r ∈ rs.take k, FolW xs r t
  sto : ∃ rn bs, StoreV sb xs rn bs wr ∧ mf ∉ bs
  bel : Below w0.heap.size w0 wr

theorem D.fol_take {rs : List Ru} {xs : List A} {k : Nat} (h : k < rs.length) (t : A) : (∃ r ∈ rs.take (k + 1), FolW xs r t) ↔ (∃ r ∈ rs.take k, FolW xs r t) ∨ FolW xs rs[k] t := by
  rw [List.take_succ_eq_append_getElem h]
  constructor
  · rintro ⟨r, hr, hf⟩
    rcases List.mem_append.1 hr with hr | hr
    · exact .inl ⟨r, hr, hf⟩
    · rw [List.mem_singleton.1 hr] at hf; exact .inr hf
  · rintro (⟨r, hr, hf⟩ | hf)
    · exact ⟨r, List.mem_append_left _ hr, hf⟩
    · exact ⟨_, List.mem_append_right _ (List.mem_singleton.2 rfl), hf⟩

set_option maxRecDepth 100000 in
set_option maxHeartbeats 4000000 in
theorem once_impl (rs : List Ru) (xs : List A) (v1 v2 : Value) (b1 b2 : List Nat) (w : World) (h : rulesK w [v1] rs b1) (h2 : atomsK w [v2] xs b2) (hg : LaidE w) :
    Calls Tryz.prog 6 #[v1, v2] w (Makes atomsK (onceV rs xs) w.heap.size w) := by
  have c1 := factsFit_impl rs xs v1 v2 b1 b2 w h h2 hg
  obtain ⟨Ad, cap, rfl, hlc, hlm⟩ := sliceK_form h
  obtain ⟨Ad2, cap2, rfl, _, _⟩ := sliceK_form h2
  have hlmm := nat_ge_max (Nat.le_trans hlc hlm)
  have HH := Lib.hid (And.intro h h2)
  clear h h2 hg hlc hlm
  cases hf : factsFit rs xs
  · have HV : Hid (onceV rs xs = []) := Lib.hid (by unfold onceV; rw [hf]; rfl)
    rw [hf] at c1
    clear hf
    go_enter Tryz.func6, Tryz.ntmps6
    go_wp2_with fail
    refine c1.mono ?_
    rintro e w1 ⟨rfl, hb1⟩
    have HB := Lib.hid hb1
    clear c1 hb1
    go_wp2
    go_ret
    rw [HV.out]
    exact ⟨HB.out, _, [], rfl, ⟨_, _, rfl, Nat.le_refl _, Nat.zero_le _, fun _ => rfl, fun h => absurd rfl h⟩, New.nil _ _⟩
  · obtain ⟨hp, hasc, hok, hl3⟩ := facts_fit hf
    have HV : Hid (onceV rs xs = onceA rs xs) := Lib.hid (by unfold onceV; rw [hf]; rfl)
    have HL := Lib.hid (onceA_len hf)
    have HR : Hid (∀ r ∈ rs, RuleFol r) := Lib.hid fun r hr => rule_fol hp hr
    have HO : Hid (asc (onceA rs xs) = true ∧ (∀ t ∈ onceA rs xs, FactOk t) ∧ ∀ t, t ∈ onceA rs xs ↔ ∃ r ∈ rs, FolW xs r t) := Lib.hid (onceA_mem hok HR.out)
    have HX : Hid ((∀ x ∈ xs, FactOk x) ∧ xs.Pairwise (fun a b => a ≠ b) ∧ xs.length ≤ 1000000) := Lib.hid ⟨hok, asc_nodup hasc, by omega⟩
    rw [hf] at c1
    clear hf hp hasc hok hl3
    go_enter Tryz.func6, Tryz.ntmps6
    go_wp2_with fail
    refine c1.mono ?_
    rintro e w1 ⟨rfl, hb1⟩
    have HB1 := Lib.hid hb1
    clear c1 hb1
    go_wp2_with fail
    refine (storeOf_any xs _ b2 w1 (atomsK_good.below HH.out.2 HB1.out) HX.out.1 HX.out.2.1 HX.out.2.2).mono ?_
    rintro e w2 ⟨rfl, hb2, rn, bs, hS, hbs⟩
    have hmm := @run_makeMap Tryz.prog
    have HB2 := Lib.hid (HB1.out.trans (hb2.mono HB1.out.size))
    have HS := Lib.hid hS
    have HSB : Hid (∀ x ∈ bs, x < w2.heap.size) := Lib.hid hS.lt
    obtain ⟨sb, hsb⟩ : ∃ sb, sb = w1.heap.size + 2 := ⟨_, rfl⟩
    rw [← hsb] at HS ⊢
    clear hb2 hS hbs hsb
    go_wp2
    have HI0 : Hid (OncSt rs xs w sb (w2.heap.size + 1) w2.heap.size 0 ((w2.alloc (.map #[] 0)).alloc (.cells #[.map (some w2.heap.size)] 50))) := Lib.hid (by
      have hA : Below w2.heap.size w2 ((w2.alloc (.map #[] 0)).alloc (.cells #[.map (some w2.heap.size)] 50)) := ((Below.refl _ _).alloc (Nat.le_refl _) _).alloc (by simp) _
      have hm0 : ((w2.alloc (.map #[] 0)).alloc (.cells #[.map (some w2.heap.size)] 50)).heap[w2.heap.size]? = (w2.alloc (.map #[] 0)).heap[w2.heap.size]? := Below.heap_alloc _ _ _ (by simp)
      have hbx : ((w2.alloc (.map #[] 0)).alloc (.cells #[.map (some w2.heap.size)] 50)).heap[w2.heap.size + 1]? = some (.cells #[.map (some w2.heap.size)] 50 (0, 0)) := by
        have := heap_alloc_new (w2.alloc (.map #[] 0)) (.cells #[.map (some w2.heap.size)] 50)
        simpa using this
      refine ⟨⟨[], [w2.heap.size + 1, w2.heap.size], FndSt.made hbx ((MapV.made w2).same hm0) ((Timed.made w2).same hm0) (by omega), fun x hx => ?_, fun t => by simp⟩, ⟨rn, bs, HS.out.keep (fun x hx => hA.block x (HSB.out x hx)) hA.size, fun hm => by have := HSB.out _ hm; omega⟩, HB2.out.trans (hA.mono HB2.out.size)⟩
      have := HB2.out.size
      simp at hx
      rcases hx with rfl | rfl <;> omega)
    have HZ : Hid (w.heap.size ≤ w2.heap.size) := Lib.hid HB2.out.size
    obtain ⟨mf, hmf⟩ : ∃ mf, mf = w2.heap.size := ⟨_, rfl⟩
    rw [← hmf] at HI0 HZ ⊢
    generalize ((w2.alloc (.map #[] 0)).alloc (.cells #[.map (some mf)] 50)) = W at *
    clear HS HSB HB2 hmm hmf
    go_loopw [18] (fun i wr => ∃ k : Nat, k ≤ rs.length ∧ i = .int .i64 k ∧ OncSt rs xs w sb (mf + 1) mf k wr) (fun i _ => rs.length - (intOf i).toNat)
    case atStart => exact ⟨0, Nat.zero_le _, rfl, HI0.out⟩
    case round =>
      obtain ⟨k, hk, rfl, hI⟩ := hrel
      clear HI0
      by_cases hlt : k < rs.length
      · have hk0 : (0 : Int) ≤ (k : Int) := by omega
        have hk1 : (k : Int) < (rs.length : Int) := by omega
        obtain ⟨bq, oq, Ae, ce, Af, cf, bk, rfl, _, f0, f1, f2, hrk, hsub⟩ := rules_el (rulesK_good.below HH.out.1 hI.bel) hlt
        obtain ⟨⟨told, fb, hF, hfb, htold⟩, ⟨rn', bs', hS, hmb⟩, hbel⟩ := hI
        have hA : Below wr.heap.size wr (wr.alloc (.cells #[.string rs[k].head.name, .slice Ae rs[k].head.args.length ce, .slice Af rs[k].body.length cf] 53)) := (Below.refl _ _).alloc (Nat.le_refl _) _
        have hcall := follow_any sb xs rn' bs' rs[k] (.string rs[k].head.name) (.slice Ae rs[k].head.args.length ce) (.slice Af rs[k].body.length cf) bk (tlr_once (mf + 1) mf) told fb _ (hS.keep (fun x hx => hA.block x (hS.lt x hx)) hA.size) HX.out.1 HX.out.2.2 (ruleK_good.below hrk hA) (HR.out _ (List.getElem_mem hlt)) (hF.keep (fun x hx => hA.block x (hF.lt x hx)) hA.size) (fun x hx e => hmb (e ▸ hx)) (fun x hx e => by
          have h1 := rulesK_good.lt HH.out.1 x (hsub x hx)
          have h2 := HZ.out
          omega)
        have HN : Hid (∀ w9 ts fb', FndSt (mf + 1) mf w9 (told ++ ts) fb' → (∀ x ∈ fb', x ∈ fb ∨ (wr.alloc (.cells #[.string rs[k].head.name, .slice Ae rs[k].head.args.length ce, .slice Af rs[k].body.length cf] 53)).heap.size ≤ x) → AllBut (fun k => k = mf) (wr.alloc (.cells #[.string rs[k].head.name, .slice Ae rs[k].head.args.length ce, .slice Af rs[k].body.length cf] 53)) w9 → (∀ t ∈ ts, FolW xs rs[k] t) → (∀ t, FolW xs rs[k] t → t ∈ ts) → OncSt rs xs w sb (mf + 1) mf (k + 1) w9) := Lib.hid fun w9 ts fb' q1 q2 q3 q4 q5 => by
          have hsz := hbel.size
          have hz := HZ.out
          refine ⟨⟨told ++ ts, fb', q1, fun x hx => ?_, fun t => ?_⟩, ⟨rn', bs', (hS.keep (fun x hx => hA.block x (hS.lt x hx)) hA.size).keep (fun x hx => q3.block x (by have := hS.lt x hx; have := hA.size; omega) fun e => hmb (e ▸ hx)) q3.size, hmb⟩, ⟨q3.os.trans (hA.os.trans hbel.os), q3.tape.trans (hA.tape.trans hbel.tape), q3.output.trans (hA.output.trans hbel.output), Nat.le_trans hsz (Nat.le_trans hA.size q3.size), fun x hx => (q3.block x (by have := hA.size; omega) (by omega)).trans ((hA.block x (by omega)).trans (hbel.block x hx))⟩⟩
          · rcases q2 x hx with h1 | h1
            · exact hfb x h1
            · have := hA.size; omega
          · rw [List.mem_append, htold, fol_take hlt]
            exact or_congr Iff.rfl ⟨q4 t, q5 t⟩
        have HLT := Lib.hid hlt
        clear hF hfb htold hS hmb hbel hA hrk hsub hk
        generalize rs[k] = r at *
        obtain ⟨⟨rn0, ra⟩, rb⟩ := r
        dsimp only at *
        clear hlt
        go_wp2_with fail
        refine hcall.mono ?_
        rintro e w9 ⟨rfl, ts, fb', q1, q2, q3, q4, q5⟩
        have HI9 := Lib.hid (HN.out w9 ts fb' q1 q2 q3 q4 (q5.elim id fun h => by cases h))
        clear hcall HN q1 q2 q3 q4 q5
        go_wp2
        go_roundw
        case rel => exact ⟨k + 1, HLT.out, by go_num, HI9.out⟩
        case measure => have := HLT.out; simp [intOf]; omega
      · have he : k = rs.length := by omega
        have hk1 : ¬ (k : Int) < (rs.length : Int) := by omega
        obtain ⟨⟨told, fb, hF, hfb, htold⟩, _, hbel⟩ := hI
        rw [he, List.take_of_length_le (Nat.le_refl _)] at htold
        have y0 : wr.cell? ⟨mf + 1, 0, none⟩ = some (.map (some mf)) := cell_of_blk hF.box
        have hA : Below wr.heap.size wr (wr.alloc (.cells #[.map (some mf)] 50)) := (Below.refl _ _).alloc (Nat.le_refl _) _
        have hcall := sortedFunc_any (mf + 1) mf wr.heap.size told (onceA rs xs) fb _ (hF.keep (fun x hx => hA.block x (hF.lt x hx)) hA.size) (cell_of_blk (heap_alloc_new wr (.cells #[.map (some mf)] 50))) (fun t ht => (HO.out.2.2 t).2 ((htold t).1 ht)) HL.out (by have := hF.lt _ hF.own.1; simp; omega)
        have HN : Hid (∀ w9 v ts bs, Below (wr.alloc (.cells #[.map (some mf)] 50)).heap.size (wr.alloc (.cells #[.map (some mf)] 50)) w9 → atomsK w9 [v] ts bs → New (mf + 1) w9 bs → asc ts = true → (∀ t ∈ ts, FactOk t) → (∀ t, t ∈ ts ↔ t ∈ told) → Makes atomsK (onceV rs xs) w.heap.size w (.returned v) w9) := Lib.hid fun w9 v ts bs q1 q2 q3 q4 q5 q6 => by
          have e : ts = onceA rs xs := asc_same q4 HO.out.1 q5 HO.out.2.1 fun t => by rw [q6, htold, HO.out.2.2]
          rw [HV.out, ← e]
          exact ⟨(hbel.trans (hA.mono hbel.size)).trans (q1.mono (Nat.le_trans hbel.size hA.size)), v, bs, rfl, q2, q3.mono (by have := HZ.out; omega)⟩
        have cv := values_any mf wr
        clear hF hfb htold hbel hA hk HO HV HX HR HL he
        go_wp2_with fail
        refine cv.mono ?_
        rintro e w8 ⟨rfl, rfl⟩
        clear cv y0
        go_wp2_with fail
        refine hcall.mono ?_
        rintro e w9 ⟨q1, v, ts, bs, rfl, q2, q3, q4, q5, q6⟩
        have HZ9 := Lib.hid (HN.out w9 v ts bs q1 q2 q3 q4 q5 q6)
        obtain ⟨p9, n9, rfl, _⟩ := sliceK_form q2
        clear hcall HN q1 q2 q3 q4 q5 q6
        go_wp2
        go_ret
        exact HZ9.out

theorem onceV_cnt (rs : List Ru) (xs : List A) : sumL cntA (onceV rs xs) ≤ 900000000000 := by
  unfold onceV
  cases hf : factsFit rs xs
  · simp [sumL]
  · obtain ⟨hp, hasc, hok, hl3⟩ := facts_fit hf
    have h1 := onceA_len hf
    have h2 := (onceA_mem hok fun r hr => rule_fol hp hr).2.1
    have h3 : ∀ l : List A, (∀ t ∈ l, FactOk t) → sumL cntA l ≤ l.length * 7 := by
      intro l
      induction l with
      | nil => intro _; simp [sumL]
      | cons t l ih =>
        intro h
        have g1 := ih fun u hu => h u (List.mem_cons_of_mem _ hu)
        have g2 := atom_few3 (h t (List.mem_cons_self ..)).ok
        have g3 : sumL cntA (t :: l) = cntA t + sumL cntA l := by simp [sumL]
        rw [g3, List.length_cons, Nat.add_mul]
        unfold cntA at *
        omega
    have := h3 _ h2
    simp only [if_true]
    omega

end Go.Proofs.YtjjfafgaphloaaaGreatDoor
