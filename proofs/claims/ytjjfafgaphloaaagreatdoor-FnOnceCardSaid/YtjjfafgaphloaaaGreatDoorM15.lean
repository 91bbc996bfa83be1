/- Of the proof of FnOnce: MatS, AtH, L3. -/
import Derived.Lib.QuietBelow
import Derived.StillTailTactics
import Derived.Test.YtjjfafgaphloaaaGreatDoorM08
import Derived.Test.YtjjfafgaphloaaaGreatDoorM09
import Derived.Test.YtjjfafgaphloaaaGreatDoorM10
namespace Go.Proofs.YtjjfafgaphloaaaGreatDoor
open Go.RowKit Go.Sort D
set_option linter.unusedVariables false
attribute [local go_sem ↓] Go.wp_at_zero Go.wp_at_succ
theorem D.bind_cells {w : World} {cs : List Value} {b : Bd} {bs : List Nat} (h : bindK w cs b bs) : ∃ A1 p1 A2 p2, cs = [.slice A1 b.length p1, .slice A2 b.length p2] := by
  obtain ⟨x0, x1, b1, b2, rfl, rfl, h1, h2⟩ := h
  obtain ⟨A1, p1, rfl, hp1, hm1⟩ := sliceK_form h1
  obtain ⟨A2, p2, rfl, hp2, hm2⟩ := sliceK_form h2
  rw [List.length_map, List.length_map]
  exact ⟨_, _, _, _, rfl⟩

/-- One term against one word. -/
def D.oneT (t f : T) (b : Bd) : Bd × Bool :=
  if t.var then
    match getB b t.name with
    | some v => (b, decide (v = f.name))
    | none => (b ++ [(t.name, f.name)], true)
  else (b, decide (t.name = f.name))

theorem D.matchT_step (t f : T) (ts fs : List T) (b : Bd) : matchT (t :: ts) (f :: fs) b = if (oneT t f b).2 then matchT ts fs (oneT t f b).1 else ((oneT t f b).1, false) := by
  unfold oneT
  rw [matchT]
  cases t.var with
  | true =>
    simp only [if_true]
    cases getB b t.name with
    | none => simp
    | some v =>
      simp only []
      by_cases h : v = f.name
      · simp [h]
      · simp [h]
  | false =>
    simp only [Bool.false_eq_true, if_false]
    by_cases h : t.name = f.name
    · simp [h]
    · simp [h]

theorem D.matchT_drop {xs ys : List T} (hl : xs.length = ys.length) {b : Bd} {k : Nat} (h : k < xs.length) : matchT (xs.drop k) (ys.drop k) b = if (oneT xs[k] (ys[k]'(hl ▸ h)) b).2 then matchT (xs.drop (k + 1)) (ys.drop (k + 1)) (oneT xs[k] (ys[k]'(hl ▸ h)) b).1 else ((oneT xs[k] (ys[k]'(hl ▸ h)) b).1, false) := by
  rw [List.drop_eq_getElem_cons (l := xs) (i := k) h, List.drop_eq_getElem_cons (l := ys) (i := k) (hl ▸ h), matchT_step]

/-- The four blocks that the call has laid. -/
structure D.MB (N : Nat) (x f : A) (Ad Ad' : Option Addr) (cap cap' : Nat) (u0 u1 v0 v1 : Value) (w : World) : Prop where
  x_ : w.heap[N]? = some (.cells #[.string x.name, .slice Ad x.args.length cap] 33 (0, 0))
  f_ : w.heap[N + 1]? = some (.cells #[.string f.name, .slice Ad' f.args.length cap'] 33 (0, 0))
  b_ : w.heap[N + 2]? = some (.cells #[u0, u1] 140 (0, 0))
  r_ : w.heap[N + 3]? = some (.cells #[v0, v1] 140 (0, 0))

section
variable {N : Nat} {x f : A} {Ad Ad' : Option Addr} {cap cap' : Nat} {u0 u1 v0 v1 : Value} {w w' : World}
theorem D.MB.below (h : MB N x f Ad Ad' cap cap' u0 u1 v0 v1 w) (hb : Below w.heap.size w w') : MB N x f Ad Ad' cap cap' u0 u1 v0 v1 w' :=
  ⟨by rw [hb.block _ (lt_of_block h.x_)]; exact h.x_, by rw [hb.block _ (lt_of_block h.f_)]; exact h.f_, by rw [hb.block _ (lt_of_block h.b_)]; exact h.b_, by rw [hb.block _ (lt_of_block h.r_)]; exact h.r_⟩

theorem D.MB.setB (h : MB N x f Ad Ad' cap cap' u0 u1 v0 v1 w) (y0 y1 : Value) : MB N x f Ad Ad' cap cap' y0 y1 v0 v1 ((w.setCell ⟨N + 2, 0, none⟩ y0).setCell ⟨N + 2, 1, none⟩ y1) := by
  have hk : ∀ k, k ≠ N + 2 → ((w.setCell ⟨N + 2, 0, none⟩ y0).setCell ⟨N + 2, 1, none⟩ y1).heap[k]? = w.heap[k]? := fun k hk => by rw [Below.heap_setCell _ _ _ _ hk, Below.heap_setCell _ _ _ _ hk]
  exact ⟨(hk _ (by omega)).trans h.x_, (hk _ (by omega)).trans h.f_, by simpa using blk_setG (o := 1) (u := y1) (blk_setG (o := 0) (u := y0) h.b_), (hk _ (by omega)).trans h.r_⟩

theorem D.MB.setR (h : MB N x f Ad Ad' cap cap' u0 u1 v0 v1 w) (y0 y1 : Value) : MB N x f Ad Ad' cap cap' u0 u1 y0 y1 ((w.setCell ⟨N + 3, 0, none⟩ y0).setCell ⟨N + 3, 1, none⟩ y1) := by
  have hk : ∀ k, k ≠ N + 3 → ((w.setCell ⟨N + 3, 0, none⟩ y0).setCell ⟨N + 3, 1, none⟩ y1).heap[k]? = w.heap[k]? := fun k hk => by rw [Below.heap_setCell _ _ _ _ hk, Below.heap_setCell _ _ _ _ hk]
  exact ⟨(hk _ (by omega)).trans h.x_, (hk _ (by omega)).trans h.f_, (hk _ (by omega)).trans h.b_, by simpa using blk_setG (o := 1) (u := y1) (blk_setG (o := 0) (u := y0) h.r_)⟩

/-- What can be read and written. -/
theorem D.MB.cells (h : MB N x f Ad Ad' cap cap' u0 u1 v0 v1 w) : w.cell? ⟨N, 0, none⟩ = some (.string x.name) ∧ w.cell? ⟨N, 1, none⟩ = some (.slice Ad x.args.length cap) ∧ w.cell? ⟨N + 1, 0, none⟩ = some (.string f.name) ∧ w.cell? ⟨N + 1, 1, none⟩ = some (.slice Ad' f.args.length cap') ∧ w.cell? ⟨N + 2, 0, none⟩ = some u0 ∧ w.cell? ⟨N + 2, 1, none⟩ = some u1 ∧ w.cell? ⟨N + 3, 0, none⟩ = some v0 ∧ w.cell? ⟨N + 3, 1, none⟩ = some v1 :=
  ⟨by simp [World.cell?, h.x_], by simp [World.cell?, h.x_], by simp [World.cell?, h.f_], by simp [World.cell?, h.f_], by simp [World.cell?, h.b_], by simp [World.cell?, h.b_], by simp [World.cell?, h.r_], by simp [World.cell?, h.r_]⟩

theorem D.MB.free (h : MB N x f Ad Ad' cap cap' u0 u1 v0 v1 w) : w.frozen? ⟨N + 2, 0, none⟩ = false ∧ w.frozen? ⟨N + 2, 1, none⟩ = false ∧ w.frozen? ⟨N + 3, 0, none⟩ = false ∧ w.frozen? ⟨N + 3, 1, none⟩ = false :=
  ⟨frozen_of_blk h.b_, frozen_of_blk h.b_, frozen_of_blk h.r_, frozen_of_blk h.r_⟩

end
theorem D.bind_set2 {w : World} {N : Nat} {c0 c1 y0 y1 : Value} {b : Bd} {bs : List Nat} (h : bindK w [c0, c1] b bs) (hn : N ∉ bs) : bindK ((w.setCell ⟨N, 0, none⟩ y0).setCell ⟨N, 1, none⟩ y1) [c0, c1] b bs :=
  bindK_good.keep h fun c hc => by
    have hne : c ≠ N := fun e => hn (e ▸ hc)
    rw [Below.heap_setCell _ _ _ _ hne, Below.heap_setCell _ _ _ _ hne]

set_option maxRecDepth 100000 in
set_option maxHeartbeats 4000000 in
theorem match_any (x f : A) (b : Bd) (a0 a1 f0 f1 c0 c1 : Value) (ba bf bs : List Nat) (w : World) (ha : atomK w [a0, a1] x ba) (hf : atomK w [f0, f1] f bf) (h : bindK w [c0, c1] b bs) (hn : b.length ≤ 1000000) (hx : x.args.length ≤ 1000000) :
    Calls Tryz.prog 111 #[.agg #[a0, a1], .agg #[f0, f1], .agg #[c0, c1]] w fun e w' => Below w.heap.size w w' ∧ ∃ d0 d1 bs', e = .returned (.tuple #[.agg #[d0, d1], .bool (matchB x f b).2]) ∧ bindK w' [d0, d1] (matchB x f b).1 bs' ∧ ∀ c ∈ bs', c ∈ bs ∨ w.heap.size ≤ c := by
  obtain ⟨s, hcs, hnm, ht⟩ := ha
  simp only [List.cons.injEq, and_true] at hcs
  obtain ⟨rfl, rfl⟩ := hcs
  obtain ⟨Ad, cap, rfl, hl, hm⟩ := sliceK_form ht
  obtain ⟨s', hcs, hnm', ht'⟩ := hf
  simp only [List.cons.injEq, and_true] at hcs
  obtain ⟨rfl, rfl⟩ := hcs
  obtain ⟨Ad', cap', rfl, hl', hm'⟩ := sliceK_form ht'
  obtain ⟨A1, p1, A2, p2, hcs⟩ := bind_cells h
  simp only [List.cons.injEq, and_true] at hcs
  obtain ⟨rfl, rfl⟩ := hcs
  clear hm hm'
  have hA : Below w.heap.size w ((((w.alloc (.cells #[.string x.name, .slice Ad x.args.length cap] 33)).alloc (.cells #[.string f.name, .slice Ad' f.args.length cap'] 33)).alloc (.cells #[.slice A1 b.length p1, .slice A2 b.length p2] 140)).alloc (.cells #[.slice none 0 0, .slice none 0 0] 140)) :=
    ((((Below.refl _ _).alloc (Nat.le_refl _) _).alloc (by simp) _).alloc (by simp; omega) _).alloc (by simp; omega) _
  have hM0 : MB w.heap.size x f Ad Ad' cap cap' (.slice A1 b.length p1) (.slice A2 b.length p2) (.slice none 0 0) (.slice none 0 0) ((((w.alloc (.cells #[.string x.name, .slice Ad x.args.length cap] 33)).alloc (.cells #[.string f.name, .slice Ad' f.args.length cap'] 33)).alloc (.cells #[.slice A1 b.length p1, .slice A2 b.length p2] 140)).alloc (.cells #[.slice none 0 0, .slice none 0 0] 140)) := by
    refine ⟨?_, ?_, ?_, ?_⟩
    · rw [Below.heap_alloc _ _ _ (by simp; omega), Below.heap_alloc _ _ _ (by simp; omega), Below.heap_alloc _ _ _ (by simp)]
      exact heap_alloc_new w _
    · rw [Below.heap_alloc _ _ _ (by first | (simp; done) | (simp; omega)), Below.heap_alloc _ _ _ (by first | (simp; done) | (simp; omega))]
      simpa using heap_alloc_new (w.alloc (.cells #[.string x.name, .slice Ad x.args.length cap] 33)) (.cells #[.string f.name, .slice Ad' f.args.length cap'] 33)
    · rw [Below.heap_alloc _ _ _ (by simp)]
      simpa using heap_alloc_new ((w.alloc (.cells #[.string x.name, .slice Ad x.args.length cap] 33)).alloc (.cells #[.string f.name, .slice Ad' f.args.length cap'] 33)) (.cells #[.slice A1 b.length p1, .slice A2 b.length p2] 140)
    · simpa using heap_alloc_new (((w.alloc (.cells #[.string x.name, .slice Ad x.args.length cap] 33)).alloc (.cells #[.string f.name, .slice Ad' f.args.length cap'] 33)).alloc (.cells #[.slice A1 b.length p1, .slice A2 b.length p2] 140)) (.cells #[.slice none 0 0, .slice none 0 0] 140)
  have hlt := bindK_good.lt h
  have HLT := Lib.hid hlt
  have H := Lib.hid h
  have HT := Lib.hid ht
  have HT' := Lib.hid ht'
  have HA := Lib.hid hA
  have HM0 := Lib.hid hM0
  clear h ht ht' hA hlt hM0
  by_cases hg : x.name = f.name ∧ x.args.length = f.args.length
  · have hs : (x.name.toList == f.name.toList) = true := by rw [toList_eq, decide_eq_true hg.1]
    have hle : (x.args.length : Int) = (f.args.length : Int) := by omega
    have HG := Lib.hid hg
    have HM : Hid (matchB x f b = matchT x.args f.args b) := Lib.hid (by unfold matchB; rw [if_pos hg])
    have HLE := Lib.hid hg.2
    clear hg
    go_enter Tryz.func111, Tryz.ntmps111
    go_wp2_with fail
    generalize (((w.alloc (.cells #[.string x.name, .slice Ad x.args.length cap] 33)).alloc (.cells #[.string f.name, .slice Ad' f.args.length cap'] 33)).alloc (.cells #[.slice A1 b.length p1, .slice A2 b.length p2] 140)).alloc (.cells #[.slice none 0 0, .slice none 0 0] 140) = w0 at *
    go_loopw [8, 9, 10, 11] (fun i _ _ _ wr => ∃ (k : Nat) (b' : Bd) (B1 B2 : Option Addr) (q1 q2 : Nat) (bs' : List Nat), k ≤ x.args.length ∧ i = .int .i64 k ∧ Hid (matchT x.args f.args b = matchT (x.args.drop k) (f.args.drop k) b') ∧ b'.length ≤ b.length + k ∧ Hid (bindK wr [.slice B1 b'.length q1, .slice B2 b'.length q2] b' bs') ∧ Hid (∀ c ∈ bs', c ∈ bs ∨ w.heap.size + 4 ≤ c) ∧ Hid (MB w.heap.size x f Ad Ad' cap cap' (.slice B1 b'.length q1) (.slice B2 b'.length q2) (.slice none 0 0) (.slice none 0 0) wr) ∧ Hid (Below w.heap.size w wr)) (fun i _ _ _ _ => x.args.length - (intOf i).toNat)
    case atStart => exact ⟨0, b, A1, A2, p1, p2, bs, Nat.zero_le _, rfl, Lib.hid rfl, by omega, Lib.hid (bindK_good.below H.out HA.out), Lib.hid fun c hc => .inl hc, HM0, HA⟩
    case round =>
      obtain ⟨k, b', B1, B2, q1, q2, bs', hk, rfl, hm, hlb, hbd, hfar, hM, hB⟩ := hrel
      clear HA HM0 H
      obtain ⟨x0, x1, y0, y1, z0, z1, r0, r1⟩ := hM.out.cells
      obtain ⟨u0, u1, u2, u3⟩ := hM.out.free
      by_cases hlt : k < x.args.length
      · obtain ⟨d, o, rfl, _, e0, e1, hnm1⟩ := terms_at (termsK_good.below HT.out hB.out) hlt
        obtain ⟨d', o', rfl, _, e0', e1', hnm2⟩ := terms_at (termsK_good.below HT'.out hB.out) (HLE.out ▸ hlt)
        have HD := Lib.hid (hm.out.trans (matchT_drop HLE.out hlt))
        have hki : (k : Int) < (x.args.length : Int) := by omega
        have hki' : (k : Int) < (f.args.length : Int) := by have := HLE.out; omega
        have hk0 : (0 : Int) ≤ (k : Int) := by omega
        clear hm
        generalize x.args[k] = t at *
        generalize f.args[k]'(HLE.out ▸ hlt) = g at *
        obtain ⟨tv, tn⟩ := t
        obtain ⟨gv, gn⟩ := g
        dsimp only at *
        cases tv with
        | false =>
          have HS : Hid (oneT ⟨false, tn⟩ ⟨gv, gn⟩ b' = (b', decide (tn = gn))) := Lib.hid rfl
          cases hsn : (tn.toList == gn.toList)
          · have hne : decide (tn = gn) = false := by rw [← toList_eq]; exact hsn
            have HE : Hid (matchB x f b = (b', false)) := Lib.hid (by rw [HM.out, HD.out, HS.out, hne]; rfl)
            have BB := hB
            have BD := hbd
            have hs0 := hM.out.setR (.slice B1 b'.length q1) (.slice B2 b'.length q2)
            obtain ⟨-, -, -, -, -, -, k0, k1⟩ := hs0.cells
            clear HD HS hne hs0
            go_wp2
            exact bodyPost_ret (v := .tuple #[.agg #[.slice B1 b'.length q1, .slice B2 b'.length q2], .bool false]) (by simp [results, Tryz.results111, go_sem, k0, k1]) rfl ⟨(BB.out.setCell (p := ⟨w.heap.size + 3, 0, none⟩) (by simp) _).setCell (p := ⟨w.heap.size + 3, 1, none⟩) (by simp) _, _, _, bs', by rw [HE.out], by rw [HE.out]; exact bind_set2 BD.out (fun hc => by rcases hfar.out _ hc with h | h; exact absurd (HLT.out _ h) (by omega); omega), fun c hc => (hfar.out c hc).imp id fun h => by omega⟩
          · have hne : decide (tn = gn) = true := by rw [← toList_eq]; exact hsn
            have HE : Hid (matchT x.args f.args b = matchT (x.args.drop (k + 1)) (f.args.drop (k + 1)) b') := Lib.hid (by rw [HD.out, HS.out, hne]; rfl)
            clear HD HS hne
            go_wp2
            go_roundw
            case rel => exact ⟨k + 1, b', B1, B2, q1, q2, bs', hlt, by go_num, HE, by omega, hbd, hfar, hM, hB⟩
            case measure => simp [intOf]; omega
        | true =>
          have q := fun w' (hb : Below wr.heap.size wr w') => get_any b' tn _ _ bs' w' (bindK_good.below hbd.out hb)
          cases hgb : getB b' tn with
          | some v =>
            have HS : Hid (oneT ⟨true, tn⟩ ⟨gv, gn⟩ b' = (b', decide (v = gn))) := Lib.hid (by unfold oneT; simp only [if_true]; rw [hgb])
            have hvl : valB b' tn = v := by unfold valB; rw [hgb]; rfl
            rw [hgb, hvl] at q
            clear hgb hvl
            cases hsn : (v.toList == gn.toList)
            · have hne : decide (v = gn) = false := by rw [← toList_eq]; exact hsn
              have HE : Hid (matchB x f b = (b', false)) := Lib.hid (by rw [HM.out, HD.out, HS.out, hne]; rfl)
              clear HD HS hne
              have k0 := fun d os => cell_regrown x1 d os
              have k1 := fun d os => cell_regrown z0 d os
              have k2 := fun d os => cell_regrown z1 d os
              have k3 := fun d os => cell_regrown e1 d os
              have qq := fun d os => Calls.regrown_of (q _ (below_regrown wr d os))
              clear q
              go_wp2_with fail
              refine wp_region_quiet_below (by kernel_rfl) (by kernel_rfl) ?_
              repeat (quiet_step (exact qq _ _))
              refine wpQuiet_nil ?_
              intro _ hw'
              obtain ⟨⟨dq, osq⟩, hw''⟩ := hw'
              subst hw''
              have hb1' := below_regrown wr dq osq
              generalize grow (redrawn wr dq) osq = w1 at *
              clear k0 k1 k2 k3 qq
              have BB := Lib.hid (hB.out.trans (hb1'.mono hB.out.size))
              have BD := Lib.hid (bindK_good.below hbd.out hb1')
              have BM := Lib.hid (hM.out.below hb1')
              clear x0 x1 y0 y1 z0 z1 r0 r1 u0 u1 u2 u3
              obtain ⟨x0, x1, y0, y1, z0, z1, r0, r1⟩ := BM.out.cells
              obtain ⟨u0, u1, u2, u3⟩ := BM.out.free
              have e0'' := cell_later hb1' e0'
              have e1'' := cell_later hb1' e1'
              clear hb1' e0 e1 e0' e1' hB hbd hM
              have hs0 := BM.out.setR (.slice B1 b'.length q1) (.slice B2 b'.length q2)
              obtain ⟨-, -, -, -, -, -, k0, k1⟩ := hs0.cells
              clear hs0
              go_wp2
              exact bodyPost_ret (v := .tuple #[.agg #[.slice B1 b'.length q1, .slice B2 b'.length q2], .bool false]) (by simp [results, Tryz.results111, go_sem, k0, k1]) rfl ⟨(BB.out.setCell (p := ⟨w.heap.size + 3, 0, none⟩) (by simp) _).setCell (p := ⟨w.heap.size + 3, 1, none⟩) (by simp) _, _, _, bs', by rw [HE.out], by rw [HE.out]; exact bind_set2 BD.out (fun hc => by rcases hfar.out _ hc with h | h; exact absurd (HLT.out _ h) (by omega); omega), fun c hc => (hfar.out c hc).imp id fun h => by omega⟩
            · have hne : decide (v = gn) = true := by rw [← toList_eq]; exact hsn
              have HE : Hid (matchT x.args f.args b = matchT (x.args.drop (k + 1)) (f.args.drop (k + 1)) b') := Lib.hid (by rw [HD.out, HS.out, hne]; rfl)
              clear HD HS hne
              have k0 := fun d os => cell_regrown x1 d os
              have k1 := fun d os => cell_regrown z0 d os
              have k2 := fun d os => cell_regrown z1 d os
              have k3 := fun d os => cell_regrown e1 d os
              have qq := fun d os => Calls.regrown_of (q _ (below_regrown wr d os))
              clear q
              go_wp2_with fail
              refine wp_region_quiet_below (by kernel_rfl) (by kernel_rfl) ?_
              repeat (quiet_step (exact qq _ _))
              refine wpQuiet_nil ?_
              intro _ hw'
              obtain ⟨⟨dq, osq⟩, hw''⟩ := hw'
              subst hw''
              have hb1' := below_regrown wr dq osq
              generalize grow (redrawn wr dq) osq = w1 at *
              clear k0 k1 k2 k3 qq
              have BB := Lib.hid (hB.out.trans (hb1'.mono hB.out.size))
              have BD := Lib.hid (bindK_good.below hbd.out hb1')
              have BM := Lib.hid (hM.out.below hb1')
              clear x0 x1 y0 y1 z0 z1 r0 r1 u0 u1 u2 u3
              obtain ⟨x0, x1, y0, y1, z0, z1, r0, r1⟩ := BM.out.cells
              obtain ⟨u0, u1, u2, u3⟩ := BM.out.free
              have e0'' := cell_later hb1' e0'
              have e1'' := cell_later hb1' e1'
              clear hb1' e0 e1 e0' e1' hB hbd hM
              go_wp2
              go_roundw
              case rel => exact ⟨k + 1, b', B1, B2, q1, q2, bs', hlt, by go_num, HE, by omega, BD, hfar, BM, BB⟩
              case measure => simp [intOf]; omega
          | none =>
            have HS : Hid (oneT ⟨true, tn⟩ ⟨gv, gn⟩ b' = (b' ++ [(tn, gn)], true)) := Lib.hid (by unfold oneT; simp only [if_true]; rw [hgb])
            have hvl : valB b' tn = ⟨#[]⟩ := by unfold valB; rw [hgb]; rfl
            have HE : Hid (matchT x.args f.args b = matchT (x.args.drop (k + 1)) (f.args.drop (k + 1)) (b' ++ [(tn, gn)])) := Lib.hid (by rw [HD.out, HS.out]; rfl)
            rw [hgb, hvl] at q
            clear hgb hvl HS HD
            have k0 := fun d os => cell_regrown x1 d os
            have k1 := fun d os => cell_regrown z0 d os
            have k2 := fun d os => cell_regrown z1 d os
            have k3 := fun d os => cell_regrown e1 d os
            have qq := fun d os => Calls.regrown_of (q _ (below_regrown wr d os))
            clear q
            go_wp2_with fail
            refine wp_region_quiet_below (by kernel_rfl) (by kernel_rfl) ?_
            repeat (quiet_step (exact qq _ _))
            refine wpQuiet_nil ?_
            intro _ hw'
            obtain ⟨⟨dq, osq⟩, hw''⟩ := hw'
            subst hw''
            have hb1' := below_regrown wr dq osq
            generalize grow (redrawn wr dq) osq = w1 at *
            clear k0 k1 k2 k3 qq
            have BB := Lib.hid (hB.out.trans (hb1'.mono hB.out.size))
            have BD := Lib.hid (bindK_good.below hbd.out hb1')
            have BM := Lib.hid (hM.out.below hb1')
            clear x0 x1 y0 y1 z0 z1 r0 r1 u0 u1 u2 u3
            obtain ⟨x0, x1, y0, y1, z0, z1, r0, r1⟩ := BM.out.cells
            obtain ⟨u0, u1, u2, u3⟩ := BM.out.free
            have e0'' := cell_later hb1' e0'
            have e1'' := cell_later hb1' e1'
            have e2'' := cell_later hb1' e0
            have e3'' := cell_later hb1' e1
            have q := fun w' (hb : Below w1.heap.size w1 w') => with_any b' tn gn _ _ bs' w' (bindK_good.below BD.out hb) (by omega) hnm1 hnm2
            clear hb1' e0 e1 e0' e1' hB hbd hM
            go_wp2_with fail
            go_still_tail 13, (by kernel_rfl)
            change wpList _ _ _ _ _ w1.drew
            have BMd := BM.out.below (Below.drew (Below.refl w1.heap.size w1))
            have qd := q w1.drew (Below.drew (Below.refl _ _))
            have BBd := Lib.hid BB.out.drew
            clear q x0 x1 y0 y1 z0 z1 r0 r1 u0 u1 u2 u3 e0'' e1'' e2'' e3'' BM BD BB
            generalize w1.drew = w1' at *
            go_wp2_with fail
            refine qd.mono ?_
            rintro e w2 ⟨hb2, d0, d1, bs2, rfl, hbd2, hfar2⟩
            obtain ⟨B3, q3, B4, q4, hcs⟩ := bind_cells hbd2
            simp only [List.cons.injEq, and_true] at hcs
            obtain ⟨rfl, rfl⟩ := hcs
            have HBL : Hid ((b' ++ [(tn, gn)]).length = b'.length + 1) := Lib.hid (by simp)
            generalize b' ++ [(tn, gn)] = b2 at *
            have BM2 := Lib.hid (BMd.below hb2)
            obtain ⟨-, -, -, -, zz0, zz1, -, -⟩ := BM2.out.cells
            obtain ⟨uu0, uu1, -, -⟩ := BM2.out.free
            have BB2 := Lib.hid (BBd.out.trans (hb2.mono BBd.out.size))
            have hN4 : w.heap.size + 4 ≤ w1'.heap.size := by have := lt_of_block BMd.r_; omega
            have BM3 := Lib.hid (BM2.out.setB (.slice B3 b2.length q3) (.slice B4 b2.length q4))
            have BD3 := Lib.hid (bind_set2 (N := w.heap.size + 2) (y0 := .slice B3 b2.length q3) (y1 := .slice B4 b2.length q4) hbd2 fun hc => by have := hfar2 _ hc; omega)
            have BB3 := Lib.hid ((BB2.out.setCell (p := ⟨w.heap.size + 2, 0, none⟩) (by simp) (.slice B3 b2.length q3)).setCell (p := ⟨w.heap.size + 2, 1, none⟩) (by simp) (.slice B4 b2.length q4))
            have HF3 : Hid (∀ c ∈ bs2, c ∈ bs ∨ w.heap.size + 4 ≤ c) := Lib.hid fun c hc => .inr (Nat.le_trans hN4 (hfar2 c hc))
            have hlen3 : b2.length ≤ b.length + (k + 1) := by have := HBL.out; omega
            clear hbd2 hfar2 hb2 BM2 BB2 qd BMd
            go_wp2
            go_roundw
            case rel => exact ⟨k + 1, b2, B3, B4, q3, q4, bs2, hlt, by go_num, HE, hlen3, BD3, HF3, BM3, BB3⟩
            case measure => simp [intOf]; omega
      · have he : k = x.args.length := by omega
        have hki : ¬ (k : Int) < (x.args.length : Int) := by omega
        have HE : Hid (matchB x f b = (b', true)) := Lib.hid (by rw [HM.out, hm.out, he, List.drop_eq_nil_of_le (Nat.le_refl _), List.drop_eq_nil_of_le (by have := HLE.out; omega), matchT]; intro t ts g gs h; cases h)
        clear hm he
        go_wp2
        have hs0 := hM.out.setR (.slice B1 b'.length q1) (.slice B2 b'.length q2)
        obtain ⟨-, -, -, -, -, -, k0, k1⟩ := hs0.cells
        refine bodyPost_ret (v := .tuple #[.agg #[.slice B1 b'.length q1, .slice B2 b'.length q2], .bool true]) (by simp [results, Tryz.results111, go_sem, k0, k1]) rfl ?_
        refine ⟨(hB.out.setCell (p := ⟨w.heap.size + 3, 0, none⟩) (by simp) (.slice B1 b'.length q1)).setCell (p := ⟨w.heap.size + 3, 1, none⟩) (by simp) (.slice B2 b'.length q2), .slice B1 b'.length q1, .slice B2 b'.length q2, by rw [HE.out], bs', ?_, fun c hc => (hfar.out c hc).imp id fun h => by omega⟩
        rw [HE.out]
        exact bind_set2 hbd.out (fun hc => by rcases hfar.out _ hc with h | h; exact absurd (HLT.out _ h) (by omega); omega)
  · have HM : Hid (matchB x f b = (b, false)) := Lib.hid (by unfold matchB; rw [if_neg hg])
    obtain ⟨x0, x1, y0, y1, z0, z1, r0, r1⟩ := HM0.out.cells
    obtain ⟨u0, u1, u2, u3⟩ := HM0.out.free
    have HD := Lib.hid (bindK_good.below H.out HA.out)
    cases hs : (x.name.toList == f.name.toList)
    case' true =>
      have hne : ¬ x.args.length = f.args.length := fun e => hg ⟨by rw [toList_eq] at hs; exact of_decide_eq_true hs, e⟩
      have hle : ¬ (x.args.length : Int) = (f.args.length : Int) := by omega
    all_goals
      go_enter Tryz.func111, Tryz.ntmps111
      go_wp2
      refine bodyPost_ret (v := .tuple #[.agg #[.slice A1 b.length p1, .slice A2 b.length p2], .bool false]) (by simp [results, Tryz.results111, go_sem]) rfl ⟨?_, .slice A1 b.length p1, .slice A2 b.length p2, bs, by rw [HM.out], ?_, fun c hc => .inl hc⟩
      · exact ((((Below.refl _ _).alloc (Nat.le_refl _) _).alloc (by simp) _).alloc (by simp; omega) _).alloc (by simp; omega) _
      · rw [HM.out]
        exact bindK_good.below H.out (((((Below.refl _ _).alloc (Nat.le_refl _) _).alloc (by simp) _).alloc (by simp; omega) _).alloc (by simp; omega) _)

end Go.Proofs.YtjjfafgaphloaaaGreatDoor
namespace Go.Proofs.YtjjfafgaphloaaaGreatDoor
open Go.RowKit D
set_option linter.unusedVariables false
attribute [local go_sem ↓] Go.wp_at_zero Go.wp_at_succ
set_option maxHeartbeats 400000 in
theorem l3Has_any (xs : List A) (a : A) (v d0 d1 : Value) (bs b2 : List Nat) (w : World) (h : atomsK w [v] xs bs) (h2 : atomK w [d0, d1] a b2) (hs : asc xs = true) :
    Calls Tryz.prog 159 #[v, .agg #[d0, d1]] w fun e w' => e = .returned (.bool (hasB xs a)) ∧ Below w.heap.size w w' := by
  obtain ⟨Ad, cap, rfl, hl, hm⟩ := sliceK_form h
  obtain ⟨Aa, ca, rfl, rfl⟩ := atom_cells2 h2
  have hA0 : Below w.heap.size w (w.alloc (.cells #[.string a.name, .slice Aa a.args.length ca] 33)) := (Below.refl _ _).alloc (Nat.le_refl _) _
  have hk := l3At_any xs a _ _ _ bs b2 _ (atomsK_good.below h hA0) (atomK_good.below h2 hA0) hs
  clear h h2 hm
  go_enter Tryz.func159, Tryz.ntmps159
  go_wp2_with fail
  refine hk.mono ?_
  rintro e w1 ⟨rfl, hb1⟩
  go_wp2
  go_ret
  exact ⟨rfl, hA0.trans (hb1.mono hA0.size)⟩

set_option maxHeartbeats 1000000 in
theorem l3Copy_big (ts : List A) (v : Value) (bs : List Nat) (w : World) (h : atomsK w [v] ts bs) (hn : ts.length ≤ 100000000000) (ha : ∀ a ∈ ts, a.args.length ≤ 16777216) :
    Calls Tryz.prog 31 #[v] w fun e w' => Below w.heap.size w w' ∧ ∃ v bs, e = .returned v ∧ atomsK w' [v] ts bs ∧ ∀ c ∈ bs, w.heap.size ≤ c := by
  obtain ⟨Ad, cap, rfl, hl, hm⟩ := sliceK_form h
  obtain ⟨i0, hi, hz0, hz1, hz2⟩ := info_parts infoAtom3
  clear hm
  have hA : Below w.heap.size w (w.alloc (.cells #[] 33)) := (Below.refl _ _).alloc (Nat.le_refl _) _
  have hst := Coll.empty (n := 2) (R := atomK) (e := 33) (heap_alloc_new w (.cells #[] 33)) (Nat.le_refl w.heap.size)
  go_enter Tryz.func31, Tryz.ntmps31
  go_wp2
  go_loopw [3, 4] (fun v i wr => ∃ (k : Nat) (A : Option Addr) (cp : Nat) (L : List Value) (b2 : List Nat), k ≤ ts.length ∧ i = .int .i64 k ∧ v = .slice A k cp ∧ Coll 2 atomK w.heap.size 33 wr (.slice A k cp) L (ts.take k) b2 ∧ Hid (∀ c ∈ b2, w.heap.size ≤ c) ∧ Below w.heap.size w wr) (fun _ i _ => ts.length - (intOf i).toNat)
  case atStart => exact ⟨0, _, _, _, _, Nat.zero_le _, rfl, rfl, hst, Lib.hid (fun c hc => by cases hc), hA⟩
  case round =>
    obtain ⟨k, A, cp, L, b2, hk, rfl, rfl, hC, hF2, hb⟩ := hrel
    clear hst hA
    by_cases hlt : k < ts.length
    · have HLT := Lib.hid hlt
      obtain ⟨b, o, Ae, ce, bk, rfl, _, c0, c1, hel, _⟩ := atoms_el (atomsK_good.below h hb) hlt
      have hle : ts[k].args.length ≤ 16777216 := ha _ (List.getElem_mem _)
      have hk0 : (0 : Int) ≤ (k : Int) := by omega
      have hk1 : (k : Int) < (ts.length : Int) := by omega
      have HT : Hid (ts.take (k + 1) = ts.take k ++ [ts[k]]) := Lib.hid (List.take_succ_eq_append_getElem hlt)
      have hc := l3Atom_any ts[k] _ _ bk _ hel hle
      have HC := Lib.hid hC
      clear h ha hC
      go_wp2_with fail
      refine hc.mono ?_
      rintro e w1 ⟨hb1, cs', b3, rfl, hR, hN⟩
      obtain ⟨Ae', ce', rfl⟩ := atom_cells hR
      clear hel hc
      have hlen : (ts.take k).length = k := by rw [List.length_take]; omega
      have hb2 : Below wr.heap.size wr (w1.alloc (.cells #[.string ts[k].name, .slice Ae' ts[k].args.length ce'] 33)) := hb1.alloc hb1.size _
      have hA2 : Below w1.heap.size w1 (w1.alloc (.cells #[.string ts[k].name, .slice Ae' ts[k].args.length ce'] 33)) := (Below.refl _ _).alloc (Nat.le_refl _) _
      have hC2 := HC.out.below atomK_good hb2
      have hR2 := atomK_good.below hR hA2
      have hL : Lies (w1.alloc (.cells #[.string ts[k].name, .slice Ae' ts[k].args.length ce'] 33)) (some ⟨w1.heap.size, 0, none⟩) [.string ts[k].name, .slice Ae' ts[k].args.length ce'] := lies_block (heap_alloc_new w1 _)
      have HC2 := Lib.hid hC2
      have HO2 : Hid ((w1.alloc (.cells #[.string ts[k].name, .slice Ae' ts[k].args.length ce'] 33)).ownsRow w.heap.size 33 2 (.slice A k cp) k L) := Lib.hid (by have := hC2.own; rw [hlen] at this; exact this)
      have HL := Lib.hid hL
      have HR2 := Lib.hid hR2
      have hsz := hb2.size
      clear hC2 hL hR2 hlen
      go_wp2_with (at_builtin; refine wpList_app rfl _ _ _ rfl w.heap.size 33 i0 (.agg #[.string ⟨#[]⟩, .slice none 0 0]) 2 40 Tryz.underlying24 hi hz0 hz1 hz2 rfl (by omega) (.slice A k cp) k L rfl HO2.out (some ⟨w1.heap.size, 0, none⟩) 1 1 [.string ts[k].name, .slice Ae' ts[k].args.length ce'] rfl rfl HL.out (by simp [Value.oneCell']) (by unfold maxLen; omega) (by omega) (Nat.le_trans hb.size hsz) ?_; intro A2 cp2 w2 hown2 hgrow2 hloc2)
      have hlen : (ts.take k).length = k := by rw [List.length_take]; omega
      have hfar : ∀ b ∈ b3, (Value.slice A k cp).ownBlock ≠ some b := fun b hb' => own_block_lt HC.out.own (hN.own b hb').1
      have C3 := HC2.out.app atomK_good (Rowed.one_el atomK_ones HR2.out) hfar (by rw [hlen]; exact hown2) hgrow2 hloc2
      have B3 := own_grown (hb.trans (hb2.mono hb.size)) HO2.out (Nat.le_refl _) (Nat.le_trans hb.size hsz) hgrow2
      have HF3 : Hid (∀ c ∈ b2 ++ b3, w.heap.size ≤ c) := Lib.hid fun c hc => (List.mem_append.1 hc).elim (hF2.out c) fun h => Nat.le_trans hb.size (hN.own c h).1
      clear hown2 hgrow2 hloc2 hfar hlen hR hN
      have H3 := Lib.hid C3
      clear C3
      go_wp2
      go_roundw
      case rel => exact ⟨k + 1, A2, cp2, _, _, HLT.out, by go_num, rfl, by rw [HT.out]; exact H3.out, HF3, B3⟩
      case measure => have := HLT.out; simp [intOf]; omega
    · have he : k = ts.length := by omega
      subst he
      rw [List.take_of_length_le (Nat.le_refl _)] at hC
      obtain ⟨b3, hs, hf3⟩ := hC.slice
      have HS := Lib.hid (And.intro hs fun c hc => (hf3 c hc).elim id (hF2.out c))
      clear hC hs hf3
      go_wp2
      go_ret
      exact ⟨hb, _, b3, rfl, HS.out⟩

end Go.Proofs.YtjjfafgaphloaaaGreatDoor
