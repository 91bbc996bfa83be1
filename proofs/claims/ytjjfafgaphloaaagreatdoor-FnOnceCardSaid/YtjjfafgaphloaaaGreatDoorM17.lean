/- Of the proof of FnOnce: FsH, IntK, QryP, SortI, Body. -/
import Derived.Test.YtjjfafgaphloaaaGreatDoorM12
import Derived.Test.YtjjfafgaphloaaaGreatDoorM13
import Derived.Test.YtjjfafgaphloaaaGreatDoorM14
namespace Go.Proofs.YtjjfafgaphloaaaGreatDoor
open Go.RowKit D
set_option linter.unusedVariables false
attribute [local go_sem ↓] Go.wp_at_zero Go.wp_at_succ
theorem D.mem_of_take {xs : List A} {a : A} (h : ∀ j (h : j < xs.length), xs[j] ≠ a) : a ∉ xs := by
  intro hm
  obtain ⟨j, hj, rfl⟩ := List.mem_iff_getElem.1 hm
  exact h j hj rfl

set_option maxHeartbeats 1000000 in
theorem fsHas_any (xs : List A) (a : A) (v c0 c1 : Value) (b1 b2 : List Nat) (w : World) (h : atomsK w [v] xs b1) (h2 : atomK w [c0, c1] a b2) :
    Calls Tryz.prog 11 #[v, .agg #[c0, c1]] w (Truth (a ∈ xs) w) := by
  obtain ⟨Ad, cap, rfl, hl, hm⟩ := sliceK_form h
  obtain ⟨Aa, ca, rfl, rfl⟩ := atom_cells2 h2
  have hlm := nat_ge_max (Nat.le_trans hl hm)
  have hA : Below w.heap.size w (w.alloc (.cells #[.string a.name, .slice Aa a.args.length ca] 33)) := (Below.refl _ _).alloc (Nat.le_refl _) _
  have x0 : (w.alloc (.cells #[.string a.name, .slice Aa a.args.length ca] 33)).cell? ⟨w.heap.size, 0, none⟩ = some (.string a.name) := by go_simp
  have x1 : (w.alloc (.cells #[.string a.name, .slice Aa a.args.length ca] 33)).cell? ⟨w.heap.size, 1, none⟩ = some (.slice Aa a.args.length ca) := by go_simp
  have hst := Lib.hid (And.intro hA (And.intro x0 x1))
  clear hl hm hA x0 x1
  go_enter Tryz.func11, Tryz.ntmps11
  go_wp2
  go_loopw [5] (fun i wr => ∃ k : Nat, k ≤ xs.length ∧ i = .int .i64 k ∧ (∀ j (h1 : j < xs.length), j < k → xs[j] ≠ a) ∧ Below w.heap.size w wr ∧ wr.cell? ⟨w.heap.size, 0, none⟩ = some (.string a.name) ∧ wr.cell? ⟨w.heap.size, 1, none⟩ = some (.slice Aa a.args.length ca)) (fun i _ => xs.length - (intOf i).toNat)
  case atStart => exact ⟨0, Nat.zero_le _, rfl, fun j _ h => by omega, hst.out.1, hst.out.2.1, hst.out.2.2⟩
  case round =>
    obtain ⟨k, hk, rfl, hall, hb, x0, x1⟩ := hrel
    have HA := Lib.hid hall
    clear hall hst
    by_cases hlt : k < xs.length
    · obtain ⟨bb, o, A1, p1, bk1, rfl, _, e0, e1, hel, _⟩ := atoms_el (atomsK_good.below h hb) hlt
      have hk0 : (0 : Int) ≤ (k : Int) := by omega
      have hk1 : (k : Int) < (xs.length : Int) := by omega
      have HLT := Lib.hid hlt
      have HU : Hid (xs[k] ≠ a → ∀ j (h1 : j < xs.length), j < k + 1 → xs[j] ≠ a) := Lib.hid (fun e j h1 hj => by
        by_cases hjk : j = k
        · subst hjk; exact e
        · exact HA.out j h1 (by omega))
      have HV : Hid (xs[k] = a → a ∈ xs) := Lib.hid (fun e => e ▸ List.getElem_mem _)
      have hf := fsAtom_any xs[k] a _ _ _ _ bk1 b2 _ (atomK_good.below hel ((Below.refl _ _).drew)) (atomK_good.below h2 (hb.drew))
      generalize xs[k] = t at *
      clear h h2 hlt hel
      go_wp2
      go_region_held3 (fun w' => w'.cell? ⟨bb, o + k * 2, none⟩ = some (.string t.name) ∧ w'.cell? ⟨bb, o + k * 2 + 1, none⟩ = some (.slice A1 t.args.length p1) ∧ w'.cell? ⟨w.heap.size, 0, none⟩ = some (.string a.name) ∧ w'.cell? ⟨w.heap.size, 1, none⟩ = some (.slice Aa a.args.length ca)) (first | go_keep | exact ⟨q0, q1, q2, q3⟩)
        (first | (go_at_call 30; refine hf.mono ?_; rintro e w' ⟨r, rfl, hr, hb'⟩; have HR := Lib.hid hr; clear hr; have q0 := cell_later hb' e0; have q1 := cell_later hb' e1; have q2 := cell_later hb' x0; have q3 := cell_later hb' x1))
      have HB' : Hid (Below w.heap.size w w' ∧ w'.cell? ⟨w.heap.size, 0, none⟩ = some (.string a.name) ∧ w'.cell? ⟨w.heap.size, 1, none⟩ = some (.slice Aa a.args.length ca)) := Lib.hid ⟨hb.trans (((Below.refl _ _).drew.trans hb').mono hb.size), q2, q3⟩
      cases r
      · have HW := Lib.hid (HU.out (fun e => by have := HR.out.2 e; cases this))
        go_wp2
        go_roundw
        case rel => exact ⟨k + 1, HLT.out, by go_num, HW.out, HB'.out.1, HB'.out.2.1, HB'.out.2.2⟩
        case measure => have := HLT.out; simp [intOf]; omega
      · have HW := Lib.hid (HV.out (HR.out.1 rfl))
        go_wp2
        go_ret
        exact ⟨true, rfl, by simpa using HW.out, HB'.out.1⟩
    · have he : k = xs.length := by omega
      have HW : Hid (a ∉ xs) := Lib.hid (mem_of_take fun j hj => HA.out j hj (by omega))
      subst he
      clear h h2
      go_wp2
      go_ret
      exact ⟨false, rfl, by simpa using HW.out, hb⟩

end Go.Proofs.YtjjfafgaphloaaaGreatDoor
namespace Go.Proofs.YtjjfafgaphloaaaGreatDoor
open Go.RowKit D
set_option linter.unusedVariables false
theorem infoInt : (Tryz.prog.info? 3).map (fun i => (i.zero, i.size, i.bytes)) = some (some (.int .i64 0), 1, 8) := by kernel_rfl

/-- Numbers. -/
def D.intK : Rel Nat := fun _ cs x bs => cs = [.int .i64 x] ∧ bs = []

def D.intsK : Rel (List Nat) := sliceK 1 intK

theorem D.intK_good : Good intK := ⟨fun h _ => h, fun h b hb => by rw [h.2] at hb; simp at hb⟩

theorem D.intsK_good : Good intsK := sliceK_good intK_good (by omega)

theorem D.ints_of_blk {w : World} {g : Nat} {out : List Nat} (h : w.heap[g]? = some (.cells (ofL out) 3 (0, 0))) (hl : out.length ≤ maxLen) : ∃ bs, intsK w [.slice (some ⟨g, 0, none⟩) out.length out.length] out bs ∧ bs.Nodup ∧ ∀ b ∈ bs, b = g := by
  by_cases hx : out = []
  · subst hx
    exact ⟨[], ⟨_, _, rfl, Nat.le_refl _, Nat.zero_le _, fun _ => rfl, fun h => absurd rfl h⟩, List.nodup_nil, fun b hb => by simp at hb⟩
  · refine ⟨g :: (List.range out.length).flatMap fun _ => [], ⟨_, _, rfl, Nat.le_refl _, hl, fun h => absurd h hx, fun _ => ⟨g, 0, rfl, fun k => [.int .i64 (atL out k : Nat)], fun _ => [], rfl, fun k x hk => ⟨rfl, fun j v hj => ?_, ?_, rfl⟩⟩⟩, by rw [show (List.range out.length).flatMap (fun _ => ([] : List Nat)) = [] from List.flatMap_eq_nil_iff.2 fun _ _ => rfl]; simp, fun b hb => by simpa using hb⟩
    · have hkl : k < out.length := (List.getElem?_eq_some_iff.1 hk).1
      match j, hj with
      | 0, hj =>
        simp only [List.getElem?_cons_zero, Option.some.injEq] at hj
        rw [cell_of_blk h, ← hj]
        have := ofL_at hkl
        simpa using this
      | j + 1, hj => simp at hj
    · have : atL out k = x := by unfold atL; rw [List.getD_eq_getElem?_getD, hk]; rfl
      simp only [this]

theorem D.intsK_at {w : World} {Ad : Option Addr} {len cap : Nat} {xs : List Nat} {bs : List Nat} {k : Nat} (h : intsK w [.slice Ad len cap] xs bs) (hk : k < xs.length) :
    ∃ b o, Ad = some ⟨b, o, none⟩ ∧ b ∈ bs ∧ w.cell? ⟨b, o + k, none⟩ = some (.int .i64 (xs[k] : Nat)) := by
  obtain ⟨b, o, cs, bk, rfl, hb, hcs, hcell, ⟨rfl, _⟩, _⟩ := sliceK_at h hk
  exact ⟨b, o, rfl, hb, by simpa using hcell 0 _ rfl⟩

/-- The place and the word of a term. -/
def D.slotN (vars : List ByteArray) (t : T) : Int := if t.var then ((vars.idxOf t.name : Nat) : Int) else -1

def D.slotS (t : T) : ByteArray := if t.var then ⟨#[]⟩ else t.name

def D.slotK (vars : List ByteArray) : Rel T := fun _ cs t bs => cs = [.int .i64 (slotN vars t), .string (slotS t)] ∧ (slotS t).size ≤ maxLen ∧ bs = []

theorem D.slotK_good (vars : List ByteArray) : Good (slotK vars) := ⟨fun h _ => h, fun h b hb => by rw [h.2.2] at hb; simp at hb⟩

theorem D.slotK_ones (vars : List ByteArray) : Ones 2 (slotK vars) := fun h => by obtain ⟨rfl, _⟩ := h; simp [Value.oneCell']

def D.slotsK (vars : List ByteArray) : Rel (List T) := sliceK 2 (slotK vars)

theorem D.slotsK_good (vars : List ByteArray) : Good (slotsK vars) := sliceK_good (slotK_good vars) (by omega)

def D.patK (vars : List ByteArray) : Rel A := fun w cs a bs => ∃ v, cs = [.string a.name, v] ∧ a.name.size ≤ maxLen ∧ slotsK vars w [v] a.args bs

theorem D.patK_good (vars : List ByteArray) : Good (patK vars) :=
  ⟨fun h hk => by obtain ⟨v, h1, h2, h3⟩ := h; exact ⟨v, h1, h2, (slotsK_good vars).keep h3 hk⟩, fun h => by obtain ⟨v, h1, h2, h3⟩ := h; exact (slotsK_good vars).lt h3⟩

theorem D.patK_ones (vars : List ByteArray) : Ones 2 (patK vars) := fun h => by
  obtain ⟨v, rfl, _, h3⟩ := h
  obtain ⟨Ad, cap, rfl, _⟩ := sliceK_form h3
  simp [Value.oneCell']

def D.patsK (vars : List ByteArray) : Rel (List A) := sliceK 2 (patK vars)

theorem D.patsK_good (vars : List ByteArray) : Good (patsK vars) := sliceK_good (patK_good vars) (by omega)

/-- What must be, and what must not. -/
def D.posA (body : List Pt) : List A := (body.filter fun p => !p.no).map (·.atom)

def D.negA (body : List Pt) : List A := (body.filter fun p => p.no).map (·.atom)

def D.qryK : Rel (List Pt) := fun w cs body bs => ∃ v1 v2 v3 b1 b2 b3, cs = [v1, v2, v3] ∧ bs = b1 ++ b2 ++ b3 ∧ patsK (bodyVars body) w [v1] (posA body) b1 ∧ patsK (bodyVars body) w [v2] (negA body) b2 ∧ strsK w [v3] (bodyVars body) b3

/-- A row's element, opened. -/
theorem D.slots_at {vars : List ByteArray} {w : World} {Ad : Option Addr} {len cap : Nat} {ts : List T} {bs : List Nat} {k : Nat} (h : slotsK vars w [.slice Ad len cap] ts bs) (hk : k < ts.length) :
    ∃ b o, Ad = some ⟨b, o, none⟩ ∧ b ∈ bs ∧ w.cell? ⟨b, o + k * 2, none⟩ = some (.int .i64 (slotN vars ts[k])) ∧ w.cell? ⟨b, o + k * 2 + 1, none⟩ = some (.string (slotS ts[k])) ∧ (slotS ts[k]).size ≤ maxLen := by
  obtain ⟨b, o, cs, bk, rfl, hb, hcs, hcell, ⟨rfl, hs, _⟩, _⟩ := sliceK_at h hk
  exact ⟨b, o, rfl, hb, by simpa using hcell 0 _ rfl, by have := hcell 1 _ rfl; simpa [Nat.add_assoc] using this, hs⟩

theorem D.pats_at {vars : List ByteArray} {w : World} {Ad : Option Addr} {len cap : Nat} {xs : List A} {bs : List Nat} {k : Nat} (h : patsK vars w [.slice Ad len cap] xs bs) (hk : k < xs.length) :
    ∃ b o Ae ce bk, Ad = some ⟨b, o, none⟩ ∧ b ∈ bs ∧ w.cell? ⟨b, o + k * 2, none⟩ = some (.string xs[k].name) ∧ w.cell? ⟨b, o + k * 2 + 1, none⟩ = some (.slice Ae xs[k].args.length ce) ∧
      patK vars w [.string xs[k].name, .slice Ae xs[k].args.length ce] xs[k] bk ∧ ∀ c ∈ bk, c ∈ bs := by
  obtain ⟨b, o, cs, bk, rfl, hb, hcs, hcell, ⟨v, rfl, hs, h3⟩, hin⟩ := sliceK_at h hk
  obtain ⟨Ae, ce, rfl, _⟩ := sliceK_form h3
  exact ⟨b, o, Ae, ce, bk, rfl, hb, by simpa using hcell 0 _ rfl, by have := hcell 1 _ rfl; simpa [Nat.add_assoc] using this, ⟨_, rfl, hs, h3⟩, hin⟩

/-- A text and a row in a box of the call's own; the result's box stands empty. -/
structure D.TwoB {α : Type} (n : Nat) (R : Rel α) (e tb : TypeId) (w : World) (hz hb B : Nat) (nm : ByteArray) (v : Value) (L : List Value) (xs : List α) (wr : World) : Prop where
  r0 : wr.heap[hz]? = some (.cells #[.string ⟨#[]⟩, .slice none 0 0] tb (0, 0))
  r1 : wr.heap[hb]? = some (.cells #[.string nm, v] tb (0, 0))
  h0 : w.heap.size ≤ hz
  h1 : hz < hb
  hB : hb < B
  coll : Coll n R B e wr v L xs []
  bel : Below w.heap.size w wr
  siz : B ≤ wr.heap.size

section
variable {α : Type} {n : Nat} {R : Rel α} {e tb : TypeId} {w : World} {hz hb B : Nat} {nm : ByteArray} {v : Value} {L : List Value} {xs : List α} {wr : World}
theorem D.TwoB.later {w' : World} (g : Good R) (h : TwoB n R e tb w hz hb B nm v L xs wr) (hk : Below wr.heap.size wr w') : TwoB n R e tb w hz hb B nm v L xs w' :=
  ⟨(hk.block _ (lt_of_block h.r0)).trans h.r0, (hk.block _ (lt_of_block h.r1)).trans h.r1, h.h0, h.h1, h.hB, h.coll.below g hk, h.bel.trans (hk.mono h.bel.size), Nat.le_trans h.siz hk.size⟩

theorem D.TwoB.lit {cs : List Value} {x : α} (g : Good R) (o : Ones n R) (h : TwoB n R e tb w hz hb B nm v L xs wr) (hR : ∀ w, R w cs x []) :
    Coll n R B e (wr.alloc (.cells cs.toArray e)) v L xs [] ∧ Rowed n R (wr.alloc (.cells cs.toArray e)) cs [x] [] ∧ Lies (wr.alloc (.cells cs.toArray e)) (some ⟨wr.heap.size, 0, none⟩) cs ∧
      Below B wr (wr.alloc (.cells cs.toArray e)) ∧ B ≤ (wr.alloc (.cells cs.toArray e)).heap.size := by
  have hA : Below wr.heap.size wr (wr.alloc (.cells cs.toArray e)) := (Below.refl _ _).alloc (Nat.le_refl _) _
  exact ⟨(h.later g hA).coll, Rowed.one_el o (hR _), by have := lies_block (heap_alloc_new wr (.cells cs.toArray e)); simpa using this, (Below.refl _ _).alloc h.siz _, Nat.le_trans h.siz hA.size⟩

theorem D.TwoB.app {w3 : World} {v3 : Value} {L3 : List Value} {xs3 : List α} (g : Good R) (h : TwoB n R e tb w hz hb B nm v L xs wr) (hC : Coll n R B e w3 v3 L3 xs3 []) (hk : Below B wr w3) :
    w3.cell? ⟨hb, 1, none⟩ = some v ∧ w3.frozen? ⟨hb, 1, none⟩ = false ∧ TwoB n R e tb w hz hb B nm v3 L3 xs3 (w3.setCell ⟨hb, 1, none⟩ v3) ∧ ∀ c, c < B → c ≠ hb → (w3.setCell ⟨hb, 1, none⟩ v3).heap[c]? = wr.heap[c]? := by
  have b0 := (hk.block hz (Nat.lt_trans h.h1 h.hB)).trans h.r0
  have b1 := (hk.block hb h.hB).trans h.r1
  refine ⟨cell_of_blk b1, frozen_of_blk b1, ⟨(Below.heap_setCell _ _ _ _ (by have := h.h1; show hz ≠ hb; omega)).trans b0, blk_set b1, h.h0, h.h1, h.hB, hC.setBox g (own_block_ge hC.own h.hB) (by simp), (h.bel.trans (hk.mono (by have := h.h0; have := h.h1; have := h.hB; omega))).setCell (by have := h.h0; have := h.h1; show w.heap.size ≤ hb; omega) _, ?_⟩, fun c hc hne => by rw [Below.heap_setCell _ _ _ _ hne]; exact hk.block c hc⟩
  have := hk.size; have := h.siz; simp [World.setCell]; omega

theorem D.TwoB.done (g : Good R) (h : TwoB n R e tb w hz hb B nm v L xs wr) :
    ∃ W, W = (wr.setCell ⟨hz, 0, none⟩ (.string nm)).setCell ⟨hz, 1, none⟩ v ∧ Below w.heap.size w W ∧ W.heap[hz]? = some (.cells #[.string nm, v] tb (0, 0)) ∧ ∃ b9, sliceK n R W [v] xs b9 ∧ New B W b9 := by
  obtain ⟨b9, hs, hn9⟩ := h.coll.new (New.nil _ _)
  have hlt := h.h1
  have hltB := h.hB
  have h00 := h.h0
  have keep : ∀ b, b ≠ hz → ((wr.setCell ⟨hz, 0, none⟩ (.string nm)).setCell ⟨hz, 1, none⟩ v).heap[b]? = wr.heap[b]? := fun b hb' => by
    rw [Below.heap_setCell _ _ _ _ hb', Below.heap_setCell _ _ _ _ hb']
  have k9 : ∀ b ∈ b9, b ≠ hz := fun b hb' e => by have := (hn9.own b hb').1; omega
  refine ⟨_, rfl, (h.bel.setCell (p := ⟨hz, 0, none⟩) h00 _).setCell (p := ⟨hz, 1, none⟩) h00 _, ?_, b9, ?_, ?_⟩
  · have := blk_setG (o := 1) (u := v) (blk_setG (o := 0) (u := .string nm) h.r0)
    simpa using this
  · obtain ⟨Ad, cap, h1, h2, h3, h4, h5⟩ := hs
    refine ⟨Ad, cap, h1, h2, h3, h4, fun hne => ?_⟩
    obtain ⟨b, o, q1, F, G, q2, q3⟩ := h5 hne
    refine ⟨b, o, q1, F, G, q2, fun k x hx => ?_⟩
    obtain ⟨p1, p2, p3⟩ := q3 k x hx
    have hbm : b ∈ b9 := by rw [q2]; exact List.mem_cons_self ..
    refine ⟨p1, fun j u hj => by rw [World.cell?_of_block (w := wr) (keep b (k9 b hbm))]; exact p2 j u hj, g.keep p3 fun c hc => keep c (k9 c ?_)⟩
    rw [q2]
    exact List.mem_cons_of_mem _ (List.mem_flatMap.2 ⟨k, List.mem_range.2 (List.getElem?_eq_some_iff.1 hx).1, hc⟩)
  · exact hn9.keep fun b hb' => keep b (k9 b hb')

end
end Go.Proofs.YtjjfafgaphloaaaGreatDoor
namespace Go.Proofs.YtjjfafgaphloaaaGreatDoor
open Go.RowKit Go.Sort D
set_option linter.unusedVariables false
/-- Of equal neighbours one. -/
theorem compactS_any (xs : List ByteArray) (v : Value) (L : List Value) (base : Nat) (w : World) (hC : Coll 1 strK base 9 w v L xs []) (hl : xs.length ≤ 16777216) :
    Calls Tryz.prog 138 #[v] w fun e w' => ∃ (v2 : Value) (ys : List ByteArray), e = .returned v2 ∧ ys.map (·.data.toList) = Lib.compact (xs.map (·.data.toList)) ∧ Coll 1 strK base 9 w' v2 (ys.map Value.string) ys [] ∧ w.grownBy w' v.ownBlock := by
  obtain ⟨rfl, hs, _⟩ := coll_strs hC
  have hrow := hC.own
  rcases hrow.2 with ⟨rfl, hx⟩ | ⟨g, cap, cur, rfl, hbase, hb, h1, h2, h3, h4⟩
  · have hx0 : xs = [] := by simpa using hx
    subst hx0
    refine (Tryz.slices_Compact_string_empty none 0 w).mono ?_
    rintro e w' ⟨rfl, rfl⟩
    exact ⟨_, [], rfl, by simp [Lib.compact, Lib.compactUpTo], Coll.nil _, World.grownBy.refl _ _⟩
  · have hcl : (xs.map (·.data.toList)).length = xs.length := by simp
    have hH : Holds encStr w g 0 (xs.map (·.data.toList)).toArray := holds_of_block hb (by rw [hcl, Lib.map_encStr]; simpa using h4)
    have c := Tryz.slices_Compact_string g 0 cap (xs.map (·.data.toList)) w hH (by omega) (by omega)
    rw [hcl] at c
    refine c.mono ?_
    rintro e w' ⟨rfl, q, rfl⟩
    obtain ⟨zs, hzs⟩ : ∃ zs, Lib.compact (xs.map (·.data.toList)) = zs := ⟨_, rfl⟩
    have hzl : zs.length ≤ xs.length := by rw [← hzs, ← hcl]; exact compact_le _
    rw [hzs]
    have hown := Lib.ownsRow_putRow (enc := encStr) (zs := xs.map (·.data.toList)) (ys := zs ++ List.replicate (xs.length - zs.length) []) (q := q) (k := zs.length) (by rw [Lib.map_encStr]; exact hrow) (by simp; omega) hzl
    rw [List.take_append_of_le_length (Nat.le_refl _), List.take_of_length_le (Nat.le_refl _)] at hown
    have hlt : (toBs zs).length = zs.length := by unfold toBs; rw [List.length_map]
    rw [← toBs_enc, ← hlt] at hown
    refine ⟨_, toBs zs, rfl, toBs_bytes _, ?_, ?_⟩
    · rw [← hlt]
      exact coll_of_strs hown (toBs_size fun b hb => bytes_size hs b ((compact_mem _ _).1 (by rw [hzs]; exact hb)))
    · have := grownBy_sorted (w := w) (g := g) (n := q) (os := #[]) (zs ++ List.replicate (xs.length - zs.length) []).toArray
      rw [grow_empty] at this
      exact this

end Go.Proofs.YtjjfafgaphloaaaGreatDoor
namespace Go.Proofs.YtjjfafgaphloaaaGreatDoor
open Go.RowKit D
set_option linter.unusedVariables false
attribute [local go_sem ↓] Go.wp_at_zero Go.wp_at_succ
set_option maxHeartbeats 400000 in
theorem bodyOk_any (ps : List Pt) (v : Value) (bs : List Nat) (w : World) (h : partsK w [v] ps bs) :
    Calls Tryz.prog 115 #[v] w fun e w' => e = .returned (.bool (bodyOkB ps)) ∧ Below w.heap.size w w' := by
  obtain ⟨Ad, cap, rfl, hl, hm⟩ := sliceK_form h
  have hlm := nat_ge_max (Nat.le_trans hl hm)
  clear hm
  unfold bodyOkB
  by_cases h4 : ps.length ≤ 4
  · go_enter Tryz.func115, Tryz.ntmps115
    go_wp2
    go_loopw [10] (fun i wr => ∃ k : Nat, k ≤ ps.length ∧ i = .int .i64 k ∧ (ps.take k).all (fun p => atomOk p.atom) = true ∧ Below w.heap.size w wr) (fun i _ => ps.length - (intOf i).toNat)
    case atStart => exact ⟨0, Nat.zero_le _, rfl, rfl, Below.refl _ _⟩
    case round =>
      obtain ⟨k, hk, rfl, hall, hb⟩ := hrel
      have HA := Lib.hid hall
      clear hall
      by_cases hlt : k < ps.length
      · obtain ⟨b0, o, Ae, ce, bk, rfl, _, d0, d1, d2, hel, _⟩ := parts_el (partsK_good.below h hb) hlt
        have hA := (Below.refl wr.heap.size wr).alloc (Nat.le_refl _) (.cells #[.bool ps[k].no, .string ps[k].atom.name, .slice Ae ps[k].atom.args.length ce] 148)
        have hat := atomK_good.below (part_atom hel) hA
        clear h hel
        go_wp2_with fail
        refine (atomOk_impl ps[k].atom _ _ bk _ hat).mono ?_
        rintro e w' ⟨rfl, hb'⟩
        have B' := (hb.trans (hA.mono hb.size)).trans (hb'.mono (by have := hA.size; have := hb.size; omega))
        clear hat hA
        by_cases hx : atomOk ps[k].atom = true
        · have hx1 : (!atomOk ps[k].atom) = false := by simp [hx]
          have HX := Lib.hid hx
          clear hx
          go_wp2
          go_roundw
          case rel => exact ⟨k + 1, by omega, by go_num, by rw [all_take_snoc ps k hlt, HA.out]; exact HX.out, B'⟩
          case measure => simp [intOf]; omega
        · have hx1 : (!atomOk ps[k].atom) = true := by simpa using hx
          have HX := Lib.hid hx
          clear hx
          go_wp2
          go_ret
          exact ⟨ret_bool (by rw [all_bad ps k hlt (by simpa using HX.out)]; simp), B'⟩
      · have he := Lib.hid (show k = ps.length by omega)
        go_wp2
        go_ret
        exact ⟨ret_bool (by have := HA.out; rw [he.out, List.take_of_length_le (Nat.le_refl _)] at this; rw [this]; simp; omega), hb⟩
  · go_enter Tryz.func115, Tryz.ntmps115
    go_wp2
    go_ret
    exact ⟨ret_bool (by simp; omega), Below.refl _ _⟩

end Go.Proofs.YtjjfafgaphloaaaGreatDoor
