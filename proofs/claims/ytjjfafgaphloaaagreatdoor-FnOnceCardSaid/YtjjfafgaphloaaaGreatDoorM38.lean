/- Of the proof of FnOnce: UndI, StoR, FineI. -/
import Derived.Test.YtjjfafgaphloaaaGreatDoorM32
import Derived.Test.YtjjfafgaphloaaaGreatDoorM33
import Derived.Test.YtjjfafgaphloaaaGreatDoorM34
namespace Go.Proofs.YtjjfafgaphloaaaGreatDoor
open Go.RowKit D
set_option linter.unusedVariables false
attribute [local go_sem ↓] Go.wp_at_zero Go.wp_at_succ
def D.cntAt (w : World) (blk o : Nat) : Nat := match w.cell? ⟨blk, o + 24, none⟩ with | some (.int _ n) => n.toNat | _ => 0

theorem D.BdAt.cnt {vars : List ByteArray} {b : Bd} {blk o : Nat} {w : World} (h : BdAt vars b blk o w) : cntAt w blk o = b.length := by unfold cntAt; rw [h.ct]; simp

set_option maxRecDepth 100000 in
set_option maxHeartbeats 4000000 in
theorem undo_any (vars : List ByteArray) (hv : VarsOk vars) (b : Bd) (hbo : BdOk vars b) (m : Nat) (hm : m ≤ b.length) (blk o : Nat) (w : World) (hb : BdAt vars b blk o w) :
    Calls Tryz.prog 145 #[.pointer (some ⟨blk, o, none⟩), .int .i64 m] w fun e w' => e = .returned (.tuple #[]) ∧ MatPost vars blk o w (b.take m) w' := by
  have hblk := hb.lt
  have HI0 : Hid (MatPost vars blk o w b w) := Lib.hid ⟨hb, hbo, BdKept.refl _ _ _⟩
  clear hb
  go_enter Tryz.func145, Tryz.ntmps145
  go_wp2
  go_loopw [] (fun wr => ∃ (k : Nat), m ≤ k ∧ k ≤ b.length ∧ MatPost vars blk o w (b.take k) wr) (fun wr => cntAt wr blk o)
  case atStart => exact ⟨b.length, hm, Nat.le_refl _, by rw [List.take_of_length_le (Nat.le_refl _)]; exact HI0.out⟩
  case round =>
    obtain ⟨k, hmk, hkb, hI⟩ := hrel
    clear HI0
    have hct := hI.at_.ct
    have hlk : (b.take k).length = k := by simp; omega
    rw [hlk] at hct
    by_cases hlt : m < k
    · obtain ⟨k, rfl⟩ : ∃ k', k = k' + 1 := ⟨k - 1, by omega⟩
      have hkb' : k < b.length := by omega
      have hsn : b.take (k + 1) = b.take k ++ [(b[k].1, b[k].2)] := List.take_succ_eq_append_getElem hkb'
      have hok := hI.ok
      rw [hsn] at hok
      have hlk0 : (b.take k).length = k := by simp; omega
      obtain ⟨hok0, hn, hun⟩ := hok.init
      dsimp only at hn hun
      have hat := hI.at_
      rw [hsn] at hat
      have hub := hat.unbind hv hok
      rw [hlk0] at hub
      have hi := List.idxOf_lt_length_of_mem hn
      have hfew := hv.few
      have hlen := hok0.len
      rw [hlk0] at hlen
      obtain ⟨z, hz1, hz2⟩ := hI.at_.bd k (by have := hok.len; simp at this; omega)
      have hz3 : z = (vars.idxOf b[k].1 : Nat) := by
        rw [hz2 (by omega)]
        simp
      subst hz3
      have x0 := hI.at_.wd (vars.idxOf b[k].1) (by omega)
      have x1 := hI.at_.fz (vars.idxOf b[k].1) (by omega)
      have x3 := hI.at_.fz 24 (by omega)
      have hcm := hI.at_.cnt
      rw [hlk] at hcm
      have HK := Lib.hid hI.kept
      have k12 : k < 12 := by have := hok.len; simp at this; omega
      clear hI hat hz2 hok hsn hn hun
      generalize vars.idxOf b[k].1 = j at *
      have hm1 : (m : Int) < ((k + 1 : Nat) : Int) := by omega
      have hk0 : (0 : Int) ≤ (k : Int) := by omega
      have hk1 : (k : Int) < 12 := by omega
      have hj0 : (0 : Int) ≤ (j : Int) := by omega
      have hj1 : (j : Int) < 12 := by omega
      have e1 : ((k + 1 : Nat) : Int) - 1 = (k : Int) := by omega
      have p1 := D.cell_put wr blk (o + 24) (.int .i64 (k : Nat)) hct
      have c1 : (wr.setCell ⟨blk, o + 24, none⟩ (.int .i64 (k : Nat))).cell? ⟨blk, o + 24, none⟩ = some (.int .i64 (k : Nat)) := (p1 _).trans (if_pos rfl)
      have c2 : (wr.setCell ⟨blk, o + 24, none⟩ (.int .i64 (k : Nat))).cell? ⟨blk, o + 12 + k, none⟩ = some (.int .i64 (j : Nat)) := ((p1 _).trans (if_neg (by omega))).trans hz1
      have c3 : (wr.setCell ⟨blk, o + 24, none⟩ (.int .i64 (k : Nat))).cell? ⟨blk, o + j, none⟩ = _ := ((p1 _).trans (if_neg (by omega))).trans x0
      have c4 : (wr.setCell ⟨blk, o + 24, none⟩ (.int .i64 (k : Nat))).frozen? ⟨blk, o + j, none⟩ = false := (World.frozen?_setCell _ _ _ _).trans x1
      have hkp : BdKept blk o w (((wr.setCell ⟨blk, o + 24, none⟩ (.int .i64 (k : Nat))).setCell ⟨blk, o + j, none⟩ (.string ⟨#[]⟩)).drew) := by
        have k1 := HK.out.trans (BdKept.put wr 24 (by omega) (.int .i64 (k : Nat)))
        have k2 := k1.trans (BdKept.put _ j (by omega) (.string ⟨#[]⟩))
        exact k2.trans (BdKept.of_below ((Below.refl _ _).drew) (Nat.lt_of_lt_of_le hblk k2.grow.size))
      have HP : Hid (MatPost vars blk o w (b.take k) (((wr.setCell ⟨blk, o + 24, none⟩ (.int .i64 (k : Nat))).setCell ⟨blk, o + j, none⟩ (.string ⟨#[]⟩)).drew)) := Lib.hid ⟨hub.keep rfl, hok0, hkp⟩
      have HN := Lib.hid (And.intro hmk (And.intro hlt hkb))
      have HCM := Lib.hid hcm
      have HL := Lib.hid hlk0
      clear hub hok0 hkp p1 hlk hlk0 hcm
      go_wp2
      go_region
      have HM : Hid (cntAt (((wr.setCell ⟨blk, o + 24, none⟩ (.int .i64 (k : Nat))).setCell ⟨blk, o + j, none⟩ (.string ⟨#[]⟩)).drew) blk o < cntAt wr blk o) := Lib.hid (by rw [HP.out.at_.cnt, HL.out, HCM.out]; omega)
      clear c1 c2 c3 c4 x0 x1 x3 hct hz1
      generalize (((wr.setCell ⟨blk, o + 24, none⟩ (.int .i64 (k : Nat))).setCell ⟨blk, o + j, none⟩ (.string ⟨#[]⟩)).drew) = S1 at *
      go_wp2
      go_roundw
      case rel => exact ⟨k, by have := HN.out; omega, by have := HN.out; omega, HP.out⟩
      case measure => exact HM.out
    · have he : k = m := by omega
      subst he
      have hk1 : ¬ (k : Int) < (k : Int) := by omega
      have HP := Lib.hid hI
      clear hI
      go_wp2
      go_end0
      exact ⟨rfl, HP.out⟩

end Go.Proofs.YtjjfafgaphloaaaGreatDoor
namespace Go.Proofs.YtjjfafgaphloaaaGreatDoor
open Go.RowKit D
set_option linter.unusedVariables false
structure D.SRaw (B sb mu mp : Nat) (Af : Option Addr) (nf cf : Nat) (Lf : List Value) (fs : List A) (bf : List Nat) (Ar : Option Addr) (nr cr : Nat) (Lr : List Value) (rn : List Nat) (Lp : List (Value × Value)) (G : WK → List Nat) (ou : List Nat) (w : World) : Prop where
  blk : w.heap[sb]? = some (.cells #[.slice Af nf cf, .slice Ar nr cr, .map (some mu), .map (some mp)] 95 (0, 0))
  ef : nf = fs.length
  er : nr = rn.length
  cF : Coll 2 atomK B 33 w (.slice Af nf cf) Lf fs bf
  cR : Coll 1 intK B 3 w (.slice Ar nr cr) Lr rn []
  un : UnderS B mu G ou w
  pl : MapV isStr mp Lp w
  dFR : Dis (.slice Af nf cf) (.slice Ar nr cr)
  dF : ∀ x ∈ ou, (Value.slice Af nf cf).ownBlock ≠ some x
  dR : ∀ x ∈ ou, (Value.slice Ar nr cr).ownBlock ≠ some x
  bfs : ∀ x ∈ bf, x ≠ sb ∧ x ≠ mu ∧ x ≠ mp ∧ x ∉ ou ∧ (Value.slice Ar nr cr).ownBlock ≠ some x
  lo : sb < B ∧ mu < B ∧ mp < B ∧ sb ≠ mu ∧ sb ≠ mp ∧ mu ≠ mp
  ous : ∀ x ∈ ou, B ≤ x ∧ x < w.heap.size
  siz : B ≤ w.heap.size

/-- A block that the store leaves alone. -/
structure D.Free (B sb mu mp : Nat) (vF vR : Value) (ou : List Nat) (b : Nat) : Prop where
  f : vF.ownBlock ≠ some b
  r : vR.ownBlock ≠ some b
  u : b ∉ ou
  s : b ≠ sb ∧ b ≠ mu ∧ b ≠ mp

section
variable {B sb mu mp : Nat} {Af : Option Addr} {nf cf : Nat} {Lf : List Value} {fs : List A} {bf : List Nat} {Ar : Option Addr} {nr cr : Nat} {Lr : List Value} {rn : List Nat} {Lp : List (Value × Value)} {G : WK → List Nat} {ou : List Nat} {w w' : World}
theorem D.SRaw.later (h : SRaw B sb mu mp Af nf cf Lf fs bf Ar nr cr Lr rn Lp G ou w) (hk : Below w.heap.size w w') : SRaw B sb mu mp Af nf cf Lf fs bf Ar nr cr Lr rn Lp G ou w' := by
  obtain ⟨l1, l2, l3, _⟩ := h.lo
  have hs := h.siz
  exact ⟨(hk.block _ (by omega)).trans h.blk, h.ef, h.er, h.cF.below atomK_good hk, h.cR.below intK_good hk, h.un.keep (hk.block _ (by omega)) fun x hx => hk.block x (h.ous x hx).2, h.pl.below hk (by omega), h.dFR, h.dF, h.dR, h.bfs, h.lo, fun x hx => ⟨(h.ous x hx).1, Nat.lt_of_lt_of_le (h.ous x hx).2 hk.size⟩, Nat.le_trans hs hk.size⟩

/-- A fact behind the facts. -/
theorem D.SRaw.fact (h : SRaw B sb mu mp Af nf cf Lf fs bf Ar nr cr Lr rn Lp G ou w) {w5 : World} {A5 : Option Addr} {c5 : Nat} {cs : List Value} {a : A} {ba : List Nat} (hrow : Rowed 2 atomK w cs [a] ba)
    (hown : w5.ownsRow B 33 2 (.slice A5 (nf + 1) c5) (nf + 1) (Lf ++ cs)) (hg : w.grownBy w5 (Value.slice Af nf cf).ownBlock) (hloc : (Value.slice A5 (nf + 1) c5).ownBlock = (Value.slice Af nf cf).ownBlock ∨ (Value.slice A5 (nf + 1) c5).ownBlock = some w.heap.size)
    (hba : ∀ x ∈ ba, x < B ∧ x ≠ sb ∧ x ≠ mu ∧ x ≠ mp) :
    w5.cell? ⟨sb, 0, none⟩ = some (.slice Af nf cf) ∧ w5.frozen? ⟨sb, 0, none⟩ = false ∧ SRaw B sb mu mp A5 (nf + 1) c5 (Lf ++ cs) (fs ++ [a]) (bf ++ ba) Ar nr cr Lr rn Lp G ou (w5.setCell ⟨sb, 0, none⟩ (.slice A5 (nf + 1) c5)) ∧
      (∀ x, x < w.heap.size → (Value.slice Af nf cf).ownBlock ≠ some x → x ≠ sb → (w5.setCell ⟨sb, 0, none⟩ (.slice A5 (nf + 1) c5)).heap[x]? = w.heap[x]?) ∧ ∀ x, (Value.slice A5 (nf + 1) c5).ownBlock = some x → (Value.slice Af nf cf).ownBlock = some x ∨ x = w.heap.size := by
  obtain ⟨l1, l2, l3, l4, l5, l6⟩ := h.lo
  have hs := h.siz
  have oF : ∀ x, (Value.slice Af nf cf).ownBlock = some x → B ≤ x ∧ x < w.heap.size := fun x hx => own_block_in h.cF.own hx
  have oR : ∀ x, (Value.slice Ar nr cr).ownBlock = some x → B ≤ x ∧ x < w.heap.size := fun x hx => own_block_in h.cR.own hx
  have k5 : ∀ x, x < w.heap.size → (Value.slice Af nf cf).ownBlock ≠ some x → w5.heap[x]? = w.heap[x]? := fun x h1 h2 => hg.block x h1 (fun e => h2 e.symm)
  have kp : ∀ x, x < w.heap.size → (Value.slice Af nf cf).ownBlock ≠ some x → x ≠ sb → (w5.setCell ⟨sb, 0, none⟩ (.slice A5 (nf + 1) c5)).heap[x]? = w.heap[x]? := fun x h1 h2 h3 => (Below.heap_setCell _ _ _ _ h3).trans (k5 x h1 h2)
  have lowF : ∀ x, x < B → (Value.slice Af nf cf).ownBlock ≠ some x := fun x hx e => by have := (oF x e).1; omega
  have b5 := (k5 sb (by omega) (lowF sb l1)).trans h.blk
  have new5 : ∀ x, (Value.slice A5 (nf + 1) c5).ownBlock = some x → (Value.slice Af nf cf).ownBlock = some x ∨ x = w.heap.size := fun x hx => by
    rcases hloc with e | e
    · exact .inl (e ▸ hx)
    · right; rw [e] at hx; injection hx with hx; exact hx.symm
  have hC5 : Coll 2 atomK B 33 w5 (.slice A5 (nf + 1) c5) (Lf ++ cs) (fs ++ [a]) (bf ++ ba) := by
    have hef := h.ef
    subst hef
    exact h.cF.app atomK_good hrow (fun b hb => lowF b (hba b hb).1) hown hg hloc
  refine ⟨cell_of_blk b5, frozen_of_blk b5, ⟨?_, by rw [List.length_append, h.ef]; rfl, h.er, ?_, ?_, ?_, ?_, ?_, ?_, h.dR, ?_, h.lo, ?_, ?_⟩, kp, new5⟩
  · have := blk_setG (o := 0) (u := .slice A5 (nf + 1) c5) b5
    simpa using this
  · exact hC5.keepB atomK_good (fun x hx => Below.heap_setCell _ _ _ _ (by
      rcases new5 x hx with e | e
      · have := (oF x e).1; show x ≠ sb; omega
      · show x ≠ sb; omega)) (fun x hx => Below.heap_setCell _ _ _ _ (by
      rcases List.mem_append.1 hx with hx | hx
      · exact (h.bfs x hx).1
      · exact (hba x hx).2.1))
  · exact h.cR.keepB intK_good (fun x hx => kp x (oR x hx).2 (fun e => h.dFR x e hx) (by have := (oR x hx).1; omega)) (fun x hx => by simp at hx)
  · exact h.un.keep (kp mu (by omega) (lowF mu l2) (by omega)) fun x hx => kp x (h.ous x hx).2 (h.dF x hx) (by have := (h.ous x hx).1; omega)
  · exact h.pl.same (kp mp (by omega) (lowF mp l3) (by omega))
  · intro x hx hx2
    rcases new5 x hx with e | e
    · exact h.dFR x e hx2
    · have := (oR x hx2).2; omega
  · intro x hx e
    rcases new5 x e with e | e
    · exact h.dF x hx e
    · have := (h.ous x hx).2; omega
  · intro x hx
    rcases List.mem_append.1 hx with hx | hx
    · exact h.bfs x hx
    · obtain ⟨g1, g2, g3, g4⟩ := hba x hx
      exact ⟨g2, g3, g4, fun e => by have := (h.ous x e).1; omega, fun e => by have := (oR x e).1; omega⟩
  · intro x hx
    have := h.ous x hx
    have := hg.size
    exact ⟨by omega, by simp [World.setCell]; omega⟩
  · have := hg.size
    simp [World.setCell]; omega

/-- A round behind the rounds. -/
theorem D.SRaw.round (h : SRaw B sb mu mp Af nf cf Lf fs bf Ar nr cr Lr rn Lp G ou w) {w5 : World} {A5 : Option Addr} {c5 : Nat} {cs : List Value} {i : Nat} (hrow : Rowed 1 intK w cs [i] [])
    (hown : w5.ownsRow B 3 1 (.slice A5 (nr + 1) c5) (nr + 1) (Lr ++ cs)) (hg : w.grownBy w5 (Value.slice Ar nr cr).ownBlock) (hloc : (Value.slice A5 (nr + 1) c5).ownBlock = (Value.slice Ar nr cr).ownBlock ∨ (Value.slice A5 (nr + 1) c5).ownBlock = some w.heap.size) :
    w5.cell? ⟨sb, 1, none⟩ = some (.slice Ar nr cr) ∧ w5.frozen? ⟨sb, 1, none⟩ = false ∧ SRaw B sb mu mp Af nf cf Lf fs bf A5 (nr + 1) c5 (Lr ++ cs) (rn ++ [i]) Lp G ou (w5.setCell ⟨sb, 1, none⟩ (.slice A5 (nr + 1) c5)) ∧
      (∀ x, x < w.heap.size → (Value.slice Ar nr cr).ownBlock ≠ some x → x ≠ sb → (w5.setCell ⟨sb, 1, none⟩ (.slice A5 (nr + 1) c5)).heap[x]? = w.heap[x]?) ∧ ∀ x, (Value.slice A5 (nr + 1) c5).ownBlock = some x → (Value.slice Ar nr cr).ownBlock = some x ∨ x = w.heap.size := by
  obtain ⟨l1, l2, l3, l4, l5, l6⟩ := h.lo
  have hs := h.siz
  have oF : ∀ x, (Value.slice Af nf cf).ownBlock = some x → B ≤ x ∧ x < w.heap.size := fun x hx => own_block_in h.cF.own hx
  have oR : ∀ x, (Value.slice Ar nr cr).ownBlock = some x → B ≤ x ∧ x < w.heap.size := fun x hx => own_block_in h.cR.own hx
  have k5 : ∀ x, x < w.heap.size → (Value.slice Ar nr cr).ownBlock ≠ some x → w5.heap[x]? = w.heap[x]? := fun x h1 h2 => hg.block x h1 (fun e => h2 e.symm)
  have kp : ∀ x, x < w.heap.size → (Value.slice Ar nr cr).ownBlock ≠ some x → x ≠ sb → (w5.setCell ⟨sb, 1, none⟩ (.slice A5 (nr + 1) c5)).heap[x]? = w.heap[x]? := fun x h1 h2 h3 => (Below.heap_setCell _ _ _ _ h3).trans (k5 x h1 h2)
  have lowR : ∀ x, x < B → (Value.slice Ar nr cr).ownBlock ≠ some x := fun x hx e => by have := (oR x e).1; omega
  have b5 := (k5 sb (by omega) (lowR sb l1)).trans h.blk
  have new5 : ∀ x, (Value.slice A5 (nr + 1) c5).ownBlock = some x → (Value.slice Ar nr cr).ownBlock = some x ∨ x = w.heap.size := fun x hx => by
    rcases hloc with e | e
    · exact .inl (e ▸ hx)
    · right; rw [e] at hx; injection hx with hx; exact hx.symm
  have hC5 : Coll 1 intK B 3 w5 (.slice A5 (nr + 1) c5) (Lr ++ cs) (rn ++ [i]) [] := by
    have her := h.er
    subst her
    exact h.cR.app intK_good hrow (fun b hb => by simp at hb) hown hg hloc
  refine ⟨cell_of_blk b5, frozen_of_blk b5, ⟨?_, h.ef, by rw [List.length_append, h.er]; rfl, ?_, ?_, ?_, ?_, ?_, h.dF, ?_, ?_, h.lo, ?_, ?_⟩, kp, new5⟩
  · have := blk_setG (o := 1) (u := .slice A5 (nr + 1) c5) b5
    simpa using this
  · exact h.cF.keepB atomK_good (fun x hx => kp x (oF x hx).2 (fun e => h.dFR x hx e) (by have := (oF x hx).1; omega)) (fun x hx => kp x (h.cF.row.lt atomK_good x hx) (h.bfs x hx).2.2.2.2 (h.bfs x hx).1)
  · exact hC5.keepB intK_good (fun x hx => Below.heap_setCell _ _ _ _ (by
      rcases new5 x hx with e | e
      · have := (oR x e).1; show x ≠ sb; omega
      · show x ≠ sb; omega)) (fun x hx => by simp at hx)
  · exact h.un.keep (kp mu (by omega) (lowR mu l2) (by omega)) fun x hx => kp x (h.ous x hx).2 (h.dR x hx) (by have := (h.ous x hx).1; omega)
  · exact h.pl.same (kp mp (by omega) (lowR mp l3) (by omega))
  · intro x hx hx2
    rcases new5 x hx2 with e | e
    · exact h.dFR x hx e
    · have := (oF x hx).2; omega
  · intro x hx e
    rcases new5 x e with e | e
    · exact h.dR x hx e
    · have := (h.ous x hx).2; omega
  · intro x hx
    obtain ⟨g1, g2, g3, g4, g5⟩ := h.bfs x hx
    refine ⟨g1, g2, g3, g4, fun e => ?_⟩
    rcases new5 x e with e | e
    · exact g5 e
    · have := h.cF.row.lt atomK_good x hx; omega
  · intro x hx
    have := h.ous x hx
    have := hg.size
    exact ⟨by omega, by simp [World.setCell]; omega⟩
  · have := hg.size
    simp [World.setCell]; omega

/-- A place under a text. -/
theorem D.SRaw.place (h : SRaw B sb mu mp Af nf cf Lf fs bf Ar nr cr Lr rn Lp G ou w) {w9 : World} {Lp' : List (Value × Value)} (hp : MapV isStr mp Lp' w9) (hg : w.grownBy w9 (some mp)) : SRaw B sb mu mp Af nf cf Lf fs bf Ar nr cr Lr rn Lp' G ou w9 := by
  obtain ⟨l1, l2, l3, l4, l5, l6⟩ := h.lo
  have hs := h.siz
  have oF : ∀ x, (Value.slice Af nf cf).ownBlock = some x → B ≤ x ∧ x < w.heap.size := fun x hx => own_block_in h.cF.own hx
  have oR : ∀ x, (Value.slice Ar nr cr).ownBlock = some x → B ≤ x ∧ x < w.heap.size := fun x hx => own_block_in h.cR.own hx
  have kp : ∀ x, x < w.heap.size → x ≠ mp → w9.heap[x]? = w.heap[x]? := fun x h1 h2 => hg.block x h1 (fun e => h2 (by injection e))
  exact ⟨(kp sb (by omega) l5).trans h.blk, h.ef, h.er, h.cF.keepB atomK_good (fun x hx => kp x (oF x hx).2 (by have := (oF x hx).1; omega)) (fun x hx => kp x (h.cF.row.lt atomK_good x hx) (h.bfs x hx).2.2.1),
    h.cR.keepB intK_good (fun x hx => kp x (oR x hx).2 (by have := (oR x hx).1; omega)) (fun x hx => by simp at hx), h.un.keep (kp mu (by omega) l6) fun x hx => kp x (h.ous x hx).2 (by have := (h.ous x hx).1; omega), hp, h.dFR, h.dF, h.dR, h.bfs, h.lo,
    fun x hx => ⟨(h.ous x hx).1, Nat.lt_of_lt_of_le (h.ous x hx).2 hg.size⟩, Nat.le_trans hs hg.size⟩

/-- What stands under keys changes. -/
theorem D.SRaw.under (h : SRaw B sb mu mp Af nf cf Lf fs bf Ar nr cr Lr rn Lp G ou w) {w9 : World} {G' : WK → List Nat} {ou' : List Nat} (hs9 : w.heap.size ≤ w9.heap.size) (hk : ∀ x, x < w.heap.size → x ≠ mu → x ∉ ou → w9.heap[x]? = w.heap[x]?) (hu : UnderS B mu G' ou' w9) (ho : ∀ x ∈ ou', x ∈ ou ∨ (w.heap.size ≤ x ∧ x < w9.heap.size)) :
    SRaw B sb mu mp Af nf cf Lf fs bf Ar nr cr Lr rn Lp G' ou' w9 := by
  obtain ⟨l1, l2, l3, l4, l5, l6⟩ := h.lo
  have hs := h.siz
  have oF : ∀ x, (Value.slice Af nf cf).ownBlock = some x → B ≤ x ∧ x < w.heap.size := fun x hx => own_block_in h.cF.own hx
  have oR : ∀ x, (Value.slice Ar nr cr).ownBlock = some x → B ≤ x ∧ x < w.heap.size := fun x hx => own_block_in h.cR.own hx
  have low : ∀ x, x < B → x ∉ ou := fun x hx e => by have := (h.ous x e).1; omega
  refine ⟨(hk sb (by omega) l4 (low sb l1)).trans h.blk, h.ef, h.er, h.cF.keepB atomK_good (fun x hx => hk x (oF x hx).2 (by have := (oF x hx).1; omega) (fun e => h.dF x e hx)) (fun x hx => hk x (h.cF.row.lt atomK_good x hx) (h.bfs x hx).2.1 (h.bfs x hx).2.2.2.1),
    h.cR.keepB intK_good (fun x hx => hk x (oR x hx).2 (by have := (oR x hx).1; omega) (fun e => h.dR x e hx)) (fun x hx => by simp at hx), hu, h.pl.same (hk mp (by omega) l6.symm (low mp l3)), h.dFR, fun x hx e => ?_, fun x hx e => ?_, fun x hx => ?_, h.lo, fun x hx => ?_, by omega⟩
  · rcases ho x hx with g | g
    · exact h.dF x g e
    · have := (oF x e).2; omega
  · rcases ho x hx with g | g
    · exact h.dR x g e
    · have := (oR x e).2; omega
  · obtain ⟨g1, g2, g3, g4, g5⟩ := h.bfs x hx
    refine ⟨g1, g2, g3, fun e => ?_, g5⟩
    rcases ho x e with g | g
    · exact g4 g
    · have := h.cF.row.lt atomK_good x hx; omega
  · rcases ho x hx with g | g
    · have := h.ous x g; omega
    · omega

end
end Go.Proofs.YtjjfafgaphloaaaGreatDoor
namespace Go.Proofs.YtjjfafgaphloaaaGreatDoor
open Go.RowKit D
set_option linter.unusedVariables false
attribute [local go_sem ↓] Go.wp_at_zero Go.wp_at_succ
set_option maxHeartbeats 1000000 in
theorem progFine_any (rs : List Ru) (v : Value) (bs : List Nat) (w : World) (h : rulesK w [v] rs bs) (hg : LaidE w) :
    Calls Tryz.prog 33 #[v] w fun e w' => e = .returned (.bool (decide (progC rs = 0))) ∧ Below w.heap.size w w' := by
  have c1 := progCheck_impl rs v bs w h hg
  have hle : (progC rs : Int) ≤ 5 := by have := progC_le rs; omega
  clear h hg
  generalize progC rs = c at *
  by_cases h0 : c = 0
  · subst h0
    go_enter Tryz.func33, Tryz.ntmps33
    go_wp2_with fail
    refine c1.mono ?_
    rintro e w1 ⟨rfl, hb⟩
    go_wp2
    go_ret
    exact ⟨rfl, hb⟩
  · have h1 : ¬ (c : Int) = 0 := by omega
    have HD : Hid (decide (c = 0) = false) := Lib.hid (decide_eq_false h0)
    clear h0
    go_enter Tryz.func33, Tryz.ntmps33
    go_wp2_with fail
    refine c1.mono ?_
    rintro e w1 ⟨rfl, hb⟩
    go_wp2
    go_ret
    exact ⟨ret_bool (by rw [HD.out]; exact beq_eq_false_iff_ne.2 h1), hb⟩

end Go.Proofs.YtjjfafgaphloaaaGreatDoor
