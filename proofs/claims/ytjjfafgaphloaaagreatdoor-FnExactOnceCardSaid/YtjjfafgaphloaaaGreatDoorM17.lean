/- Of the proof of FnExactOnce: MarkRs, Bulk, EqR, IntK, QryP, SortI, Body. -/
import Derived.WalkKit
import Derived.Lib.Hide
import Derived.WalkSpells
import Derived.WalkLawsBesides
import Derived.BigQuiet
import Derived.Deep.RegionHeld3
import Derived.Deep.RegionWith
import Derived.Deep.DrawnRows
import Derived.Test.YtjjfafgaphloaaaGreatDoorProg
import Derived.Test.YtjjfafgaphloaaaGreatDoorM12
import Derived.Test.YtjjfafgaphloaaaGreatDoorM06
import Derived.Lib.IndexBytes
import Derived.Deep.Slices
import Derived.Deep.Fields
import Derived.ChangeSame
import Derived.Deep.Draws
import Derived.Test.YtjjfafgaphloaaaGreatDoorM01
import Derived.Test.YtjjfafgaphloaaaGreatDoorM13
import Derived.Test.YtjjfafgaphloaaaGreatDoorM04
import Derived.Test.YtjjfafgaphloaaaGreatDoorM03
import Derived.Lib.OwnBridge
import Derived.Sort.OwnSorted
import Derived.Shelf.Slices.In.SortNone
import Derived.Test.YtjjfafgaphloaaaGreatDoorM02
import Derived.Test.YtjjfafgaphloaaaGreatDoorM07
import Derived.Test.YtjjfafgaphloaaaGreatDoorM14
namespace Go.Proofs.YtjjfafgaphloaaaGreatDoor
open Go.RowKit D
set_option linter.unusedVariables false
attribute [local go_sem ↓] Go.wp_at_zero Go.wp_at_succ
def D.cntRu (r : Ru) : Nat := 1 + 2 * r.head.args.length + sumL cntP r.body

def D.mkRu (r : Ru) (k : Nat) : Ru := ⟨⟨markText k, markTs r.head.args (k + 1)⟩, markPs r.body (k + 1 + 2 * r.head.args.length)⟩

def D.markRs : List Ru → Nat → List Ru := markL mkRu cntRu

theorem D.cntRu_pos (r : Ru) : 1 ≤ cntRu r := by unfold cntRu; omega

set_option maxHeartbeats 2000000 in
theorem markRuleS_any (ts : List Ru) (v : Value) (bs : List Nat) (k B : Nat) (w : World) (h : rulesK w [v] ts bs) (hN : New B w bs) (hk : k + sumL cntRu ts ≤ 1000000000000) :
    Calls Tryz.prog 18 #[v, .int .i64 k] w (Marked rulesK [v] (markRs ts k) bs (k + sumL cntRu ts) B w) := by
  obtain ⟨Ad, cap, rfl, hl, hm⟩ := sliceK_form h
  have hlen : ts.length ≤ 1000000000000 := Nat.le_trans (len_cnt cntRu cntRu_pos ts) (by omega)
  clear hm
  go_enter Tryz.func18, Tryz.ntmps18
  go_wp2
  go_loopw [1, 5] (fun q j wr => ∃ (i : Nat) (ys : List Ru), i ≤ ts.length ∧ j = .int .i64 i ∧ q = .int .i64 (k + sumL cntRu (ts.take i) : Nat) ∧ ys = markTo mkRu cntRu ts k i ∧ rulesK wr [.slice Ad ts.length cap] ys bs ∧ New B wr bs ∧ KeptBut bs w wr) (fun _ j _ => ts.length - (intOf j).toNat)
  case atStart => exact ⟨0, ts, Nat.zero_le _, rfl, rfl, rfl, h, hN, KeptBut.refl _ _⟩
  case round =>
    obtain ⟨i, ys, hi, rfl, rfl, hy, hT, hNr, hK⟩ := hrel
    clear h hN
    by_cases hlt : i < ts.length
    · have HLT := Lib.hid hlt
      have hle : ys.length = ts.length := by rw [hy, markTo_length]
      have hey : ys[i]'(by omega) = ts[i] := by subst hy; exact markTo_at hlt
      have HS := Lib.hid (markTo_step (mk := mkRu) (cnt := cntRu) (k := k) hlt)
      have hsn := sumL_snoc cntRu ts i hlt
      have hle2 := sumL_le_of_lt cntRu ts i hlt
      have HY := Lib.hid hy
      clear hy
      obtain ⟨b, o, cs, bk, rfl, hb, hbk, hnd, hsub, hcs, hcell, hat, hput⟩ := sliceK_open ruleK_good hT hNr.nodup (k := i) (by omega)
      rw [hey] at hat
      obtain ⟨s1, s2, b1, b2, rfl, _, rfl, ht, hp⟩ := hat
      obtain ⟨u0, c0⟩ : ∃ u, wr.cell? ⟨b, o + i * 3, none⟩ = some u := ⟨_, hcell 0 _ rfl⟩
      have c1 : wr.cell? ⟨b, o + i * 3 + 1, none⟩ = some s1 := by have := hcell 1 _ rfl; rwa [← Nat.add_assoc] at this
      have c2 : wr.cell? ⟨b, o + i * 3 + 2, none⟩ = some s2 := by have := hcell 2 _ rfl; rwa [← Nat.add_assoc] at this
      have hWb := hNr.wri b hb
      have f0 := hWb.frozen (o + i * 3)
      have hbl := hNr.lt hb
      generalize ts[i] = a at *
      have hca : cntRu a = 1 + 2 * a.head.args.length + sumL cntP a.body := rfl
      have HP := Lib.hid hput
      have HL := Lib.hid hle
      have HN := Lib.hid hNr
      have HSN := Lib.hid hsn
      clear hcell hput hT hcs hle hNr hey hsn hWb
      obtain ⟨q, hq⟩ : ∃ q, q = k + sumL cntRu (ts.take i) := ⟨_, rfl⟩
      rw [← hq] at HS ⊢
      have hq9 : q + 1 + 2 * a.head.args.length + sumL cntP a.body ≤ 1000000000000 := by omega
      have hq1 : (q : Int) + 1 ≤ 1000000000000 := by omega
      have hq2 : q ≤ 1000000000000 := by omega
      have HQ := Lib.hid hq
      have HC := Lib.hid hca
      have hb1 : b ∉ b1 := fun h => hbk (List.mem_append_left _ h)
      have hb2' : b ∉ b2 := fun h => hbk (List.mem_append_right _ h)
      have hs1 : ∀ c ∈ b1, c ∈ bs := fun c h => hsub c (List.mem_append_left _ h)
      have hs2 : ∀ c ∈ b2, c ∈ bs := fun c h => hsub c (List.mem_append_right _ h)
      have hnd1 := (List.nodup_append.1 hnd).1
      have hnd2 := (List.nodup_append.1 hnd).2.1
      have hpar := (List.nodup_append.1 hnd).2.2
      clear hq hle2 hca
      go_wp2_with fail
      refine (markText_any q _ (by omega)).mono ?_
      rintro e w2 ⟨rfl, hb2⟩
      have hN2 : New B w2 bs := HN.out.below hb2
      have g0 : w2.cell? ⟨b, o + i * 3, none⟩ = some u0 := cell_later hb2 c0
      have g1 : w2.cell? ⟨b, o + i * 3 + 1, none⟩ = some s1 := cell_later hb2 c1
      have g2 : w2.cell? ⟨b, o + i * 3 + 2, none⟩ = some s2 := cell_later hb2 c2
      have f2 : w2.frozen? ⟨b, o + i * 3, none⟩ = false := (hb2.frozen (p := ⟨b, o + i * 3, none⟩) hbl).trans f0
      have HB2 := Lib.hid hb2
      have hk2 : KeptBut bs wr (w2.setCell ⟨b, o + i * 3, none⟩ (.string (markText q))) := (KeptBut.of_below hb2).setCell hb _
      have hN3 : New B (w2.setCell ⟨b, o + i * 3, none⟩ (.string (markText q))) bs := hN2.set _ _
      have hrest : ∀ p v, wr.cell? ⟨b, o + p, none⟩ = some v → (p < i * 3 ∨ i * 3 + 3 ≤ p) → (w2.setCell ⟨b, o + i * 3, none⟩ (.string (markText q))).cell? ⟨b, o + p, none⟩ = some v := fun p v hv hp => setCell_other (cell_later hb2 hv) (by omega)
      have hblk : ∀ c ∈ bs, c ≠ b → (w2.setCell ⟨b, o + i * 3, none⟩ (.string (markText q))).heap[c]? = wr.heap[c]? := fun c hc hne => by rw [Below.heap_setCell _ _ _ _ hne, hb2.block c (HN.out.lt hc)]
      have g3 : (w2.setCell ⟨b, o + i * 3, none⟩ (.string (markText q))).cell? ⟨b, o + i * 3 + 1, none⟩ = some s1 := setCell_other g1 (by omega)
      have g4 : (w2.setCell ⟨b, o + i * 3, none⟩ (.string (markText q))).cell? ⟨b, o + i * 3 + 2, none⟩ = some s2 := setCell_other g2 (by omega)
      have g5 : (w2.setCell ⟨b, o + i * 3, none⟩ (.string (markText q))).cell? ⟨b, o + i * 3, none⟩ = some (.string (markText q)) := World.cell?_setCell_same' _ _ _ (by rw [g0]; rfl)
      have ht3 : termsK (w2.setCell ⟨b, o + i * 3, none⟩ (.string (markText q))) [s1] a.head.args b1 := termsK_good.keep ht fun c hc => hblk c (hs1 c hc) fun e => hb1 (by rw [← e]; exact hc)
      have hp3 : partsK (w2.setCell ⟨b, o + i * 3, none⟩ (.string (markText q))) [s2] a.body b2 := partsK_good.keep hp fun c hc => hblk c (hs2 c hc) fun e => hb2' (by rw [← e]; exact hc)
      obtain ⟨Ae, ce, rfl, _⟩ := sliceK_form ht
      obtain ⟨Af, cf, rfl, _⟩ := sliceK_form hp
      have HR := Lib.hid hrest
      have HB := Lib.hid hblk
      have HT3 := Lib.hid ht3
      have HP3 := Lib.hid hp3
      clear hrest hblk hN2 ht hp ht3 hp3 c0 c1 c2 f0
      go_wp2_with fail
      generalize hw3 : w2.setCell ⟨b, o + i * 3, none⟩ (.string (markText q)) = w3 at *
      clear hw3 g0 g1 g2 f2
      refine (markTermS_any a.head.args _ b1 (q + 1) B _ HT3.out (hN3.sub hnd1 hs1) (by omega)).mono ?_
      rintro e w4 ⟨rfl, hR4, hN4, hK4⟩
      have j0 := hK4.cell (p := ⟨b, o + i * 3, none⟩) hb1 g5
      have j1 := hK4.cell (p := ⟨b, o + i * 3 + 1, none⟩) hb1 g3
      have j2 := hK4.cell (p := ⟨b, o + i * 3 + 2, none⟩) hb1 g4
      have hp4 : partsK w4 [.slice Af a.body.length cf] a.body b2 := partsK_good.keep HP3.out fun c hc => hK4.block c (hN3.lt (hs2 c hc)) fun h => hpar c h c hc rfl
      have hN5 : New B w4 bs := hN3.mix hN4 hK4
      have HK4 := Lib.hid hK4
      have HR4 := Lib.hid hR4
      have HN4 := Lib.hid hN4
      have HP4 := Lib.hid hp4
      clear hK4 hR4 hN4 hp4 g3 g4 g5
      have hqq : (q : Int) + 1 + 2 * (a.head.args.length : Int) ≤ 1000000000000 := by omega
      go_wp2_with fail
      have hcast : (((q + 1 + 2 * a.head.args.length : Nat)) : Int) = (q : Int) + 1 + 2 * (a.head.args.length : Int) := by omega
      refine (markPartS_any a.body _ b2 (q + 1 + 2 * a.head.args.length) B _ HP4.out (hN5.sub hnd2 hs2) (by omega)).mono ?_
      rintro e w5 ⟨rfl, hR6, hN6, hK6⟩
      have hR5 : termsK w5 [.slice Ae a.head.args.length ce] (markTs a.head.args (q + 1)) b1 := termsK_good.keep HR4.out fun c hc => hK6.block c (hN5.lt (hs1 c hc)) fun h => hpar c hc c h rfl
      have R := HP.out w5 [.string (markText q), .slice Ae a.head.args.length ce, .slice Af a.body.length cf] (mkRu a q) rfl
        (fun j v hv => by
          match j, hv with
          | 0, hv =>
            simp only [List.getElem?_cons_zero, Option.some.injEq] at hv
            subst hv
            rw [Nat.add_zero]
            exact hK6.cell hb2' j0
          | 1, hv =>
            simp only [List.getElem?_cons_succ, List.getElem?_cons_zero, Option.some.injEq] at hv
            subst hv
            rw [← Nat.add_assoc]
            exact hK6.cell hb2' j1
          | 2, hv =>
            simp only [List.getElem?_cons_succ, List.getElem?_cons_zero, Option.some.injEq] at hv
            subst hv
            rw [← Nat.add_assoc]
            exact hK6.cell hb2' j2
          | j + 3, hv => simp at hv)
        (fun p v hv hp => hK6.cell hb2' (HK4.out.cell hb1 (HR.out p v hv hp)))
        (fun c hc hne hnb => by rw [hK6.block c (hN5.lt hc) fun h => hnb (List.mem_append_right _ h), HK4.out.block c (hN3.lt hc) fun h => hnb (List.mem_append_left _ h), HB.out c hc hne])
        ⟨_, _, b1, b2, rfl, markText_size (k := q) (by omega), rfl, hR5, hR6⟩
      rw [HY.out, HS.out] at R
      have hN7 : New B w5 bs := hN5.mix hN6 hK6
      have hK7 : KeptBut bs w w5 := hK.trans (hk2.trans ((HK4.out.mono hs1).trans (hK6.mono hs2)))
      clear HP HN HR HB hK6 hN6 hN5 hk2 hR6 hR5 HY HS HT3 HP3 HK4 HR4 HN4 HP4 j0 j1 j2 hcast
      go_wp2_with fail
      go_roundw
      case rel => exact ⟨i + 1, _, HLT.out, by go_num, by have := HQ.out; have := HSN.out; have := HC.out; go_num, rfl, R, hN7, hK7⟩
      case measure => have := HLT.out; simp [intOf]; omega
    · have he : i = ts.length := by omega
      subst he
      have HY : Hid (ys = markRs ts k) := Lib.hid (by rw [hy, markTo_all]; rfl)
      have HT : Hid (ts.take ts.length = ts) := Lib.hid (List.take_of_length_le (Nat.le_refl _))
      clear hy
      go_wp2
      go_ret
      exact ⟨by rw [HT.out]; rfl, by rw [← HY.out]; exact hT, hNr, hK⟩

theorem D.cntRs_le (xs : List Ru) : sumL cntRu xs ≤ 3 * bulkRs xs := by
  unfold bulkRs
  induction xs with
  | nil => simp [sumL]
  | cons x xs ih =>
    have h0 := cntPs_le x.body
    have h1 : cntRu x ≤ 3 + 3 * bulkR x := by unfold cntRu bulkR bulkA; omega
    simp only [sumL, List.map_cons, List.sum_cons, List.length_cons] at *
    omega

end Go.Proofs.YtjjfafgaphloaaaGreatDoor

namespace Go.Proofs.YtjjfafgaphloaaaGreatDoor
open Go.RowKit D
theorem toAtom_b (a : A) (c0 c1 : Value) (bs : List Nat) (w : World) (h : atomK w [c0, c1] a bs) (hn : bulkA a ≤ 1048576) :
    Calls Tryz.prog 43 #[.agg #[c0, c1]] w (MakesA atomK a w.heap.size w) := toAtom_any a c0 c1 bs w h (by unfold bulkA at hn; omega)

end Go.Proofs.YtjjfafgaphloaaaGreatDoor

namespace Go.Proofs.YtjjfafgaphloaaaGreatDoor
open Go.RowKit D
set_option linter.unusedVariables false
attribute [local go_sem ↓] Go.wp_at_zero Go.wp_at_succ
set_option maxHeartbeats 400000 in
theorem eqRule_same (r : Ru) (c0 c1 c2 d0 d1 d2 : Value) (b1 b2 : List Nat) (w : World) (h1 : ruleK w [c0, c1, c2] r b1) (h2 : ruleK w [d0, d1, d2] r b2) :
    Calls Tryz.prog 45 #[.agg #[c0, c1, c2], .agg #[d0, d1, d2]] w (Yes w.heap.size w) := by
  obtain ⟨b11, b12, rfl, p1, q1⟩ := rule_parts h1
  obtain ⟨b21, b22, rfl, p2, q2⟩ := rule_parts h2
  obtain ⟨Ad, cap, Ae, cape, rfl, rfl, rfl⟩ := rule_cells2 h1
  obtain ⟨Ad2, cap2, Ae2, cape2, rfl, rfl, rfl⟩ := rule_cells2 h2
  have e1 := fun w' (hb : Below w.heap.size w w') => eqAtom_same r.head _ _ _ _ b11 b21 w' (atomK_good.below p1 hb) (atomK_good.below p2 hb)
  have e2 := fun w' (hb : Below w.heap.size w w') => eqPartS_same r.body _ _ b12 b22 w' (partsK_good.below q1 hb) (partsK_good.below q2 hb)
  clear h1 h2 p1 p2 q1 q2
  have hA := ((Below.refl w.heap.size w).alloc (Nat.le_refl _) (.cells #[.string r.head.name, .slice Ad r.head.args.length cap, .slice Ae r.body.length cape] 53)).alloc (by simp) (.cells #[.string r.head.name, .slice Ad2 r.head.args.length cap2, .slice Ae2 r.body.length cape2] 53)
  go_enter Tryz.func45, Tryz.ntmps45
  go_wp2_with fail
  refine (e1 _ hA).mono ?_
  rintro e w1 ⟨rfl, hb1⟩
  have B1 := hA.trans (hb1.mono hA.size)
  have x0 : w1.cell? ⟨w.heap.size, 0, none⟩ = some (.string r.head.name) := cell_later hb1 (by go_simp)
  have y0 : w1.cell? ⟨w.heap.size + 1, 0, none⟩ = some (.string r.head.name) := cell_later hb1 (by go_simp)
  have x1 : w1.cell? ⟨w.heap.size, 1, none⟩ = some (.slice Ad r.head.args.length cap) := cell_later hb1 (by go_simp)
  have y1 : w1.cell? ⟨w.heap.size + 1, 1, none⟩ = some (.slice Ad2 r.head.args.length cap2) := cell_later hb1 (by go_simp)
  have x2 : w1.cell? ⟨w.heap.size, 2, none⟩ = some (.slice Ae r.body.length cape) := cell_later hb1 (by go_simp)
  have y2 : w1.cell? ⟨w.heap.size + 1, 2, none⟩ = some (.slice Ae2 r.body.length cape2) := cell_later hb1 (by go_simp)
  clear e1 hA
  go_wp2_with fail
  refine (e2 _ B1).mono ?_
  rintro e w2 ⟨rfl, hb2⟩
  go_wp2
  go_ret
  exact ⟨rfl, B1.trans (hb2.mono B1.size)⟩

end Go.Proofs.YtjjfafgaphloaaaGreatDoor

namespace Go.Proofs.YtjjfafgaphloaaaGreatDoor
open Go.RowKit D
set_option linter.unusedVariables false
theorem infoInt : (Tryz.prog.info? 3).map (fun i => (i.zero, i.size, i.bytes)) = some (some (.int .i64 0), 1, 8) := by kernel_rfl

/-- Numbers. -/
def D.intK : Rel Nat := fun _ cs x bs => cs = [.int .i64 x] ∧ bs = []

def D.intsK : Rel (List Nat) := sliceK 1 intK

theorem D.intK_good : Good intK := ⟨fun h _ => h, fun h b hb => by rw [h.2] at hb; simp at hb⟩

theorem D.intsK_good : Good intsK := sliceK_good intK_good (by omega)

theorem D.ints_of_blk {w : World} {g : Nat} {out : List Nat} (h : w.heap[g]? = some (.cells (ofL out) 3 (0, 0))) (hl : out.length ≤ maxLen) : ∃ bs, intsK w [.slice (some ⟨g, 0, none⟩) out.length out.length] out bs ∧ bs.Nodup ∧ ∀ b ∈ bs, b = g := by
  by_cases hx : out = []
  · subst hx
    exact ⟨[], ⟨_, _, rfl, Nat.le_refl _, Nat.zero_le _, fun _ => rfl, fun h => absurd rfl h⟩, List.nodup_nil, fun b hb => by simp at hb⟩
  · refine ⟨g :: (List.range out.length).flatMap fun _ => [], ⟨_, _, rfl, Nat.le_refl _, hl, fun h => absurd h hx, fun _ => ⟨g, 0, rfl, fun k => [.int .i64 (atL out k : Nat)], fun _ => [], rfl, fun k x hk => ⟨rfl, fun j v hj => ?_, ?_, rfl⟩⟩⟩, by rw [show (List.range out.length).flatMap (fun _ => ([] : List Nat)) = [] from List.flatMap_eq_nil_iff.2 fun _ _ => rfl]; simp, fun b hb => by simpa using hb⟩
    · have hkl : k < out.length := (List.getElem?_eq_some_iff.1 hk).1
      match j, hj with
      | 0, hj =>
        simp only [List.getElem?_cons_zero, Option.some.injEq] at hj
        rw [cell_of_blk h, ← hj]
        have := ofL_at hkl
        simpa using this
      | j + 1, hj => simp at hj
    · have : atL out k = x := by unfold atL; rw [List.getD_eq_getElem?_getD, hk]; rfl
      simp only [this]

theorem D.intsK_at {w : World} {Ad : Option Addr} {len cap : Nat} {xs : List Nat} {bs : List Nat} {k : Nat} (h : intsK w [.slice Ad len cap] xs bs) (hk : k < xs.length) :
    ∃ b o, Ad = some ⟨b, o, none⟩ ∧ b ∈ bs ∧ w.cell? ⟨b, o + k, none⟩ = some (.int .i64 (xs[k] : Nat)) := by
  obtain ⟨b, o, cs, bk, rfl, hb, hcs, hcell, ⟨rfl, _⟩, _⟩ := sliceK_at h hk
  exact ⟨b, o, rfl, hb, by simpa using hcell 0 _ rfl⟩

end Go.Proofs.YtjjfafgaphloaaaGreatDoor

namespace Go.Proofs.YtjjfafgaphloaaaGreatDoor
open Go.RowKit D
set_option linter.unusedVariables false
/-- The place and the word of a term. -/
def D.slotN (vars : List ByteArray) (t : T) : Int := if t.var then ((vars.idxOf t.name : Nat) : Int) else -1

def D.slotS (t : T) : ByteArray := if t.var then ⟨#[]⟩ else t.name

def D.slotK (vars : List ByteArray) : Rel T := fun _ cs t bs => cs = [.int .i64 (slotN vars t), .string (slotS t)] ∧ (slotS t).size ≤ maxLen ∧ bs = []

theorem D.slotK_good (vars : List ByteArray) : Good (slotK vars) := ⟨fun h _ => h, fun h b hb => by rw [h.2.2] at hb; simp at hb⟩

theorem D.slotK_ones (vars : List ByteArray) : Ones 2 (slotK vars) := fun h => by obtain ⟨rfl, _⟩ := h; simp [Value.oneCell']

def D.slotsK (vars : List ByteArray) : Rel (List T) := sliceK 2 (slotK vars)

theorem D.slotsK_good (vars : List ByteArray) : Good (slotsK vars) := sliceK_good (slotK_good vars) (by omega)

def D.patK (vars : List ByteArray) : Rel A := fun w cs a bs => ∃ v, cs = [.string a.name, v] ∧ a.name.size ≤ maxLen ∧ slotsK vars w [v] a.args bs

theorem D.patK_good (vars : List ByteArray) : Good (patK vars) :=
  ⟨fun h hk => by obtain ⟨v, h1, h2, h3⟩ := h; exact ⟨v, h1, h2, (slotsK_good vars).keep h3 hk⟩, fun h => by obtain ⟨v, h1, h2, h3⟩ := h; exact (slotsK_good vars).lt h3⟩

theorem D.patK_ones (vars : List ByteArray) : Ones 2 (patK vars) := fun h => by
  obtain ⟨v, rfl, _, h3⟩ := h
  obtain ⟨Ad, cap, rfl, _⟩ := sliceK_form h3
  simp [Value.oneCell']

def D.patsK (vars : List ByteArray) : Rel (List A) := sliceK 2 (patK vars)

theorem D.patsK_good (vars : List ByteArray) : Good (patsK vars) := sliceK_good (patK_good vars) (by omega)

/-- What must be, and what must not. -/
def D.posA (body : List Pt) : List A := (body.filter fun p => !p.no).map (·.atom)

def D.negA (body : List Pt) : List A := (body.filter fun p => p.no).map (·.atom)

def D.qryK : Rel (List Pt) := fun w cs body bs => ∃ v1 v2 v3 b1 b2 b3, cs = [v1, v2, v3] ∧ bs = b1 ++ b2 ++ b3 ∧ patsK (bodyVars body) w [v1] (posA body) b1 ∧ patsK (bodyVars body) w [v2] (negA body) b2 ∧ strsK w [v3] (bodyVars body) b3

/-- A row's element, opened. -/
theorem D.slots_at {vars : List ByteArray} {w : World} {Ad : Option Addr} {len cap : Nat} {ts : List T} {bs : List Nat} {k : Nat} (h : slotsK vars w [.slice Ad len cap] ts bs) (hk : k < ts.length) :
    ∃ b o, Ad = some ⟨b, o, none⟩ ∧ b ∈ bs ∧ w.cell? ⟨b, o + k * 2, none⟩ = some (.int .i64 (slotN vars ts[k])) ∧ w.cell? ⟨b, o + k * 2 + 1, none⟩ = some (.string (slotS ts[k])) ∧ (slotS ts[k]).size ≤ maxLen := by
  obtain ⟨b, o, cs, bk, rfl, hb, hcs, hcell, ⟨rfl, hs, _⟩, _⟩ := sliceK_at h hk
  exact ⟨b, o, rfl, hb, by simpa using hcell 0 _ rfl, by have := hcell 1 _ rfl; simpa [Nat.add_assoc] using this, hs⟩

theorem D.pats_at {vars : List ByteArray} {w : World} {Ad : Option Addr} {len cap : Nat} {xs : List A} {bs : List Nat} {k : Nat} (h : patsK vars w [.slice Ad len cap] xs bs) (hk : k < xs.length) :
    ∃ b o Ae ce bk, Ad = some ⟨b, o, none⟩ ∧ b ∈ bs ∧ w.cell? ⟨b, o + k * 2, none⟩ = some (.string xs[k].name) ∧ w.cell? ⟨b, o + k * 2 + 1, none⟩ = some (.slice Ae xs[k].args.length ce) ∧
      patK vars w [.string xs[k].name, .slice Ae xs[k].args.length ce] xs[k] bk ∧ ∀ c ∈ bk, c ∈ bs := by
  obtain ⟨b, o, cs, bk, rfl, hb, hcs, hcell, ⟨v, rfl, hs, h3⟩, hin⟩ := sliceK_at h hk
  obtain ⟨Ae, ce, rfl, _⟩ := sliceK_form h3
  exact ⟨b, o, Ae, ce, bk, rfl, hb, by simpa using hcell 0 _ rfl, by have := hcell 1 _ rfl; simpa [Nat.add_assoc] using this, ⟨_, rfl, hs, h3⟩, hin⟩

/-- A text and a row in a box of the call's own; the result's box stands empty. -/
structure D.TwoB {α : Type} (n : Nat) (R : Rel α) (e tb : TypeId) (w : World) (hz hb B : Nat) (nm : ByteArray) (v : Value) (L : List Value) (xs : List α) (wr : World) : Prop where
  r0 : wr.heap[hz]? = some (.cells #[.string ⟨#[]⟩, .slice none 0 0] tb (0, 0))
  r1 : wr.heap[hb]? = some (.cells #[.string nm, v] tb (0, 0))
  h0 : w.heap.size ≤ hz
  h1 : hz < hb
  hB : hb < B
  coll : Coll n R B e wr v L xs []
  bel : Below w.heap.size w wr
  siz : B ≤ wr.heap.size

section
variable {α : Type} {n : Nat} {R : Rel α} {e tb : TypeId} {w : World} {hz hb B : Nat} {nm : ByteArray} {v : Value} {L : List Value} {xs : List α} {wr : World}
theorem D.TwoB.later {w' : World} (g : Good R) (h : TwoB n R e tb w hz hb B nm v L xs wr) (hk : Below wr.heap.size wr w') : TwoB n R e tb w hz hb B nm v L xs w' :=
  ⟨(hk.block _ (lt_of_block h.r0)).trans h.r0, (hk.block _ (lt_of_block h.r1)).trans h.r1, h.h0, h.h1, h.hB, h.coll.below g hk, h.bel.trans (hk.mono h.bel.size), Nat.le_trans h.siz hk.size⟩

theorem D.TwoB.lit {cs : List Value} {x : α} (g : Good R) (o : Ones n R) (h : TwoB n R e tb w hz hb B nm v L xs wr) (hR : ∀ w, R w cs x []) :
    Coll n R B e (wr.alloc (.cells cs.toArray e)) v L xs [] ∧ Rowed n R (wr.alloc (.cells cs.toArray e)) cs [x] [] ∧ Lies (wr.alloc (.cells cs.toArray e)) (some ⟨wr.heap.size, 0, none⟩) cs ∧
      Below B wr (wr.alloc (.cells cs.toArray e)) ∧ B ≤ (wr.alloc (.cells cs.toArray e)).heap.size := by
  have hA : Below wr.heap.size wr (wr.alloc (.cells cs.toArray e)) := (Below.refl _ _).alloc (Nat.le_refl _) _
  exact ⟨(h.later g hA).coll, Rowed.one_el o (hR _), by have := lies_block (heap_alloc_new wr (.cells cs.toArray e)); simpa using this, (Below.refl _ _).alloc h.siz _, Nat.le_trans h.siz hA.size⟩

theorem D.TwoB.app {w3 : World} {v3 : Value} {L3 : List Value} {xs3 : List α} (g : Good R) (h : TwoB n R e tb w hz hb B nm v L xs wr) (hC : Coll n R B e w3 v3 L3 xs3 []) (hk : Below B wr w3) :
    w3.cell? ⟨hb, 1, none⟩ = some v ∧ w3.frozen? ⟨hb, 1, none⟩ = false ∧ TwoB n R e tb w hz hb B nm v3 L3 xs3 (w3.setCell ⟨hb, 1, none⟩ v3) ∧ ∀ c, c < B → c ≠ hb → (w3.setCell ⟨hb, 1, none⟩ v3).heap[c]? = wr.heap[c]? := by
  have b0 := (hk.block hz (Nat.lt_trans h.h1 h.hB)).trans h.r0
  have b1 := (hk.block hb h.hB).trans h.r1
  refine ⟨cell_of_blk b1, frozen_of_blk b1, ⟨(Below.heap_setCell _ _ _ _ (by have := h.h1; show hz ≠ hb; omega)).trans b0, blk_set b1, h.h0, h.h1, h.hB, hC.setBox g (own_block_ge hC.own h.hB) (by simp), (h.bel.trans (hk.mono (by have := h.h0; have := h.h1; have := h.hB; omega))).setCell (by have := h.h0; have := h.h1; show w.heap.size ≤ hb; omega) _, ?_⟩, fun c hc hne => by rw [Below.heap_setCell _ _ _ _ hne]; exact hk.block c hc⟩
  have := hk.size; have := h.siz; simp [World.setCell]; omega

theorem D.TwoB.done (g : Good R) (h : TwoB n R e tb w hz hb B nm v L xs wr) :
    ∃ W, W = (wr.setCell ⟨hz, 0, none⟩ (.string nm)).setCell ⟨hz, 1, none⟩ v ∧ Below w.heap.size w W ∧ W.heap[hz]? = some (.cells #[.string nm, v] tb (0, 0)) ∧ ∃ b9, sliceK n R W [v] xs b9 ∧ New B W b9 := by
  obtain ⟨b9, hs, hn9⟩ := h.coll.new (New.nil _ _)
  have hlt := h.h1
  have hltB := h.hB
  have h00 := h.h0
  have keep : ∀ b, b ≠ hz → ((wr.setCell ⟨hz, 0, none⟩ (.string nm)).setCell ⟨hz, 1, none⟩ v).heap[b]? = wr.heap[b]? := fun b hb' => by
    rw [Below.heap_setCell _ _ _ _ hb', Below.heap_setCell _ _ _ _ hb']
  have k9 : ∀ b ∈ b9, b ≠ hz := fun b hb' e => by have := (hn9.own b hb').1; omega
  refine ⟨_, rfl, (h.bel.setCell (p := ⟨hz, 0, none⟩) h00 _).setCell (p := ⟨hz, 1, none⟩) h00 _, ?_, b9, ?_, ?_⟩
  · have := blk_setG (o := 1) (u := v) (blk_setG (o := 0) (u := .string nm) h.r0)
    simpa using this
  · obtain ⟨Ad, cap, h1, h2, h3, h4, h5⟩ := hs
    refine ⟨Ad, cap, h1, h2, h3, h4, fun hne => ?_⟩
    obtain ⟨b, o, q1, F, G, q2, q3⟩ := h5 hne
    refine ⟨b, o, q1, F, G, q2, fun k x hx => ?_⟩
    obtain ⟨p1, p2, p3⟩ := q3 k x hx
    have hbm : b ∈ b9 := by rw [q2]; exact List.mem_cons_self ..
    refine ⟨p1, fun j u hj => by rw [World.cell?_of_block (w := wr) (keep b (k9 b hbm))]; exact p2 j u hj, g.keep p3 fun c hc => keep c (k9 c ?_)⟩
    rw [q2]
    exact List.mem_cons_of_mem _ (List.mem_flatMap.2 ⟨k, List.mem_range.2 (List.getElem?_eq_some_iff.1 hx).1, hc⟩)
  · exact hn9.keep fun b hb' => keep b (k9 b hb')

end
end Go.Proofs.YtjjfafgaphloaaaGreatDoor

namespace Go.Proofs.YtjjfafgaphloaaaGreatDoor
open Go.RowKit Go.Sort D
set_option linter.unusedVariables false
/-- Of equal neighbours one. -/
theorem compactS_any (xs : List ByteArray) (v : Value) (L : List Value) (base : Nat) (w : World) (hC : Coll 1 strK base 9 w v L xs []) (hl : xs.length ≤ 16777216) :
    Calls Tryz.prog 138 #[v] w fun e w' => ∃ (v2 : Value) (ys : List ByteArray), e = .returned v2 ∧ ys.map (·.data.toList) = Lib.compact (xs.map (·.data.toList)) ∧ Coll 1 strK base 9 w' v2 (ys.map Value.string) ys [] ∧ w.grownBy w' v.ownBlock := by
  obtain ⟨rfl, hs, _⟩ := coll_strs hC
  have hrow := hC.own
  rcases hrow.2 with ⟨rfl, hx⟩ | ⟨g, cap, cur, rfl, hbase, hb, h1, h2, h3, h4⟩
  · have hx0 : xs = [] := by simpa using hx
    subst hx0
    refine (Tryz.slices_Compact_string_empty none 0 w).mono ?_
    rintro e w' ⟨rfl, rfl⟩
    exact ⟨_, [], rfl, by simp [Lib.compact, Lib.compactUpTo], Coll.nil _, World.grownBy.refl _ _⟩
  · have hcl : (xs.map (·.data.toList)).length = xs.length := by simp
    have hH : Holds encStr w g 0 (xs.map (·.data.toList)).toArray := holds_of_block hb (by rw [hcl, Lib.map_encStr]; simpa using h4)
    have c := Tryz.slices_Compact_string g 0 cap (xs.map (·.data.toList)) w hH (by omega) (by omega)
    rw [hcl] at c
    refine c.mono ?_
    rintro e w' ⟨rfl, q, rfl⟩
    obtain ⟨zs, hzs⟩ : ∃ zs, Lib.compact (xs.map (·.data.toList)) = zs := ⟨_, rfl⟩
    have hzl : zs.length ≤ xs.length := by rw [← hzs, ← hcl]; exact compact_le _
    rw [hzs]
    have hown := Lib.ownsRow_putRow (enc := encStr) (zs := xs.map (·.data.toList)) (ys := zs ++ List.replicate (xs.length - zs.length) []) (q := q) (k := zs.length) (by rw [Lib.map_encStr]; exact hrow) (by simp; omega) hzl
    rw [List.take_append_of_le_length (Nat.le_refl _), List.take_of_length_le (Nat.le_refl _)] at hown
    have hlt : (toBs zs).length = zs.length := by unfold toBs; rw [List.length_map]
    rw [← toBs_enc, ← hlt] at hown
    refine ⟨_, toBs zs, rfl, toBs_bytes _, ?_, ?_⟩
    · rw [← hlt]
      exact coll_of_strs hown (toBs_size fun b hb => bytes_size hs b ((compact_mem _ _).1 (by rw [hzs]; exact hb)))
    · have := grownBy_sorted (w := w) (g := g) (n := q) (os := #[]) (zs ++ List.replicate (xs.length - zs.length) []).toArray
      rw [grow_empty] at this
      exact this

end Go.Proofs.YtjjfafgaphloaaaGreatDoor

namespace Go.Proofs.YtjjfafgaphloaaaGreatDoor
open Go.RowKit D
set_option linter.unusedVariables false
attribute [local go_sem ↓] Go.wp_at_zero Go.wp_at_succ
set_option maxHeartbeats 400000 in
theorem bodyOk_any (ps : List Pt) (v : Value) (bs : List Nat) (w : World) (h : partsK w [v] ps bs) :
    Calls Tryz.prog 115 #[v] w fun e w' => e = .returned (.bool (bodyOkB ps)) ∧ Below w.heap.size w w' := by
  obtain ⟨Ad, cap, rfl, hl, hm⟩ := sliceK_form h
  have hlm := nat_ge_max (Nat.le_trans hl hm)
  clear hm
  unfold bodyOkB
  by_cases h4 : ps.length ≤ 4
  · go_enter Tryz.func115, Tryz.ntmps115
    go_wp2
    go_loopw [10] (fun i wr => ∃ k : Nat, k ≤ ps.length ∧ i = .int .i64 k ∧ (ps.take k).all (fun p => atomOk p.atom) = true ∧ Below w.heap.size w wr) (fun i _ => ps.length - (intOf i).toNat)
    case atStart => exact ⟨0, Nat.zero_le _, rfl, rfl, Below.refl _ _⟩
    case round =>
      obtain ⟨k, hk, rfl, hall, hb⟩ := hrel
      have HA := Lib.hid hall
      clear hall
      by_cases hlt : k < ps.length
      · obtain ⟨b0, o, Ae, ce, bk, rfl, _, d0, d1, d2, hel, _⟩ := parts_el (partsK_good.below h hb) hlt
        have hA := (Below.refl wr.heap.size wr).alloc (Nat.le_refl _) (.cells #[.bool ps[k].no, .string ps[k].atom.name, .slice Ae ps[k].atom.args.length ce] 148)
        have hat := atomK_good.below (part_atom hel) hA
        clear h hel
        go_wp2_with fail
        refine (atomOk_impl ps[k].atom _ _ bk _ hat).mono ?_
        rintro e w' ⟨rfl, hb'⟩
        have B' := (hb.trans (hA.mono hb.size)).trans (hb'.mono (by have := hA.size; have := hb.size; omega))
        clear hat hA
        by_cases hx : atomOk ps[k].atom = true
        · have hx1 : (!atomOk ps[k].atom) = false := by simp [hx]
          have HX := Lib.hid hx
          clear hx
          go_wp2
          go_roundw
          case rel => exact ⟨k + 1, by omega, by go_num, by rw [all_take_snoc ps k hlt, HA.out]; exact HX.out, B'⟩
          case measure => simp [intOf]; omega
        · have hx1 : (!atomOk ps[k].atom) = true := by simpa using hx
          have HX := Lib.hid hx
          clear hx
          go_wp2
          go_ret
          exact ⟨ret_bool (by rw [all_bad ps k hlt (by simpa using HX.out)]; simp), B'⟩
      · have he := Lib.hid (show k = ps.length by omega)
        go_wp2
        go_ret
        exact ⟨ret_bool (by have := HA.out; rw [he.out, List.take_of_length_le (Nat.le_refl _)] at this; rw [this]; simp; omega), hb⟩
  · go_enter Tryz.func115, Tryz.ntmps115
    go_wp2
    go_ret
    exact ⟨ret_bool (by simp; omega), Below.refl _ _⟩

end Go.Proofs.YtjjfafgaphloaaaGreatDoor
