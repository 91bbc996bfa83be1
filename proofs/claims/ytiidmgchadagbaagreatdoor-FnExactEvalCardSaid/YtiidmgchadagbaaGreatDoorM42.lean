/- Of the proof of FnExactEval: FolR, StoS. -/
import Derived.Test.YtiidmgchadagbaaGreatDoorM41
set_option linter.unusedVariables false
namespace Go.Proofs.YtiidmgchadagbaaGreatDoor
open Go.RowKit D
theorem D.rule_fol {rs : List Ru} (h : progC rs = 0) {r : Ru} (hr : r ∈ rs) : RuleFol r := by
 unfold progC at h
 split at h
 ·cases h
 ·rename_i h1
  split at h
  ·cases h
  ·split at h
   ·cases h
   ·split at h
    ·cases h
    ·rename_i h4
     have g1 := List.all_eq_true.1 (by simpa using h1) r hr
     have g4 := List.all_eq_true.1 (by simpa using h4) r hr
     unfold ruleOk bodyOkB at g1
     simp only [Bool.and_eq_true, decide_eq_true_eq, List.all_eq_true] at g1
     obtain ⟨t1, t2⟩ := (tight_iff _ _).1 g4
     refine ⟨g1.2, g1.1.2, g1.1.1, fun x hx => ?_⟩
     have hb : boundB r.body x = true := by
      rcases hx with hx | ⟨p, hp, hx⟩
      ·exact t1 x hx
      ·unfold looseB at t2
       have := List.all_eq_true.1 (by simpa using t2) p hp
       exact (allBound_iff _ _).1 this x hx
     have := (boundB_iff _ _).1 hb
     rw [varsPs_mem] at this
     rcases this with h | ⟨p, hp, hv⟩
     ·simp at h
     ·obtain ⟨q1, q2⟩ := List.mem_filter.1 hp
      exact ⟨p, q1, by simpa using q2, hv⟩
theorem D.isFact_ok {a : A} (h : isFactB a = true) : FactOk a := by
 unfold isFactB anyVar at h
 simp only [Bool.and_eq_true, Bool.not_eq_true', List.any_eq_false] at h
 exact ⟨h.1, fun t ht => by simpa using h.2 t ht⟩
theorem D.ok_isFact {a : A} (h : FactOk a) : isFactB a = true := by
 unfold isFactB anyVar
 simp only [Bool.and_eq_true, Bool.not_eq_true', List.any_eq_false]
 exact ⟨h.ok, fun t ht => by simpa using h.gr t ht⟩
theorem D.fol_iff {xs : List A} (hx : ∀ x ∈ xs, FactOk x) (r : Ru) (t : A) : Fol xs r t ↔ FolW xs r t := by
 have hg : ∀ x ∈ xs, Gr x := fun x h => (hx x h).gr
 constructor
 ·rintro ⟨σ, rfl, h⟩
  refine ⟨σ, rfl, fun p hp hn => ?_, fun p hp hn hm => ?_⟩
  ·exact (hasB_gr hg (gr_fill _ _)).1 (by rw [h p hp, hn]; rfl)
  ·have := (hasB_gr hg (gr_fill σ p.atom)).2 hm
   rw [h p hp, hn] at this
   cases this
 ·rintro ⟨σ, rfl, h1, h2⟩
  refine ⟨σ, rfl, fun p hp => ?_⟩
  cases hn : p.no
  ·exact (hasB_gr hg (gr_fill _ _)).2 (h1 p hp hn)
  ·cases hb : hasB xs (fillW σ p.atom)
   ·rfl
   ·exact absurd ((hasB_gr hg (gr_fill _ _)).1 hb) (h2 p hp hn)
theorem D.fol_fact {xs : List A} (hx : ∀ x ∈ xs, FactOk x) {r : Ru} (R : RuleFol r) {t : A} (h : FolW xs r t) : FactOk t := by
 obtain ⟨σ, rfl, h1, _⟩ := h
 refine ⟨?_, gr_fill _ _⟩
 have h0 := R.hok
 unfold atomOk at h0 ⊢
 unfold fillW
 simp only [Bool.and_eq_true, decide_eq_true_eq, List.all_eq_true, List.length_map] at h0 ⊢
 refine ⟨h0.1, fun u hu => ?_⟩
 obtain ⟨v, hv, rfl⟩ := List.mem_map.1 hu
 have g := h0.2 v hv
 unfold termOk at *
 unfold termW
 cases hvv : v.var
 ·simpa [hvv] using g
 ·obtain ⟨p, hp, hn, y, hy, hyv, hyn⟩ := R.tight v.name (.inl ⟨v, hv, hvv, rfl⟩)
  have hm := (hx _ (h1 p hp hn)).names (termW σ y) (List.mem_map.2 ⟨y, hy, rfl⟩)
  unfold termW at hm
  rw [hyv, hyn] at hm
  simpa using hm.2
theorem D.mem_insG {xs : List A} (hx : ∀ x ∈ xs, FactOk x) {a : A} (ha : FactOk a) (x : A) : x ∈ insA xs a ↔ x ∈ xs ∨ x = a := by
 constructor
 ·exact mem_ins
 ·intro h
  have hi : ∀ y ∈ insA xs a, Gr y := fun y hy => (mem_ins hy).elim (fun h => (hx y h).gr) fun h => h ▸ ha.gr
  have hgx : Gr x := h.elim (fun h => (hx x h).gr) fun h => h ▸ ha.gr
  refine (hasB_gr hi hgx).1 ?_
  rw [hasB_ins]
  rcases h with h | rfl
  ·rw [hasB_mem h]; rfl
  ·rw [cmpA_refl]; simp
theorem D.fold_ins {β : Type} (f : β → A) : ∀ (l : List β) (out : List A), asc out = true → (∀ x ∈ out, FactOk x) → (∀ b ∈ l, FactOk (f b)) →
  asc (l.foldl (fun o b => insA o (f b)) out) = true ∧ (∀ x ∈ l.foldl (fun o b => insA o (f b)) out, FactOk x) ∧ ∀ x, x ∈ l.foldl (fun o b => insA o (f b)) out ↔ x ∈ out ∨ ∃ b ∈ l, f b = x
 | [], out, h1, h2, _ => ⟨h1, h2, fun x => by simp⟩
 | b :: l, out, h1, h2, h3 => by
  have hb := h3 b (List.mem_cons_self ..)
  obtain ⟨g1, g2, g3⟩ := fold_ins f l (insA out (f b)) (asc_ins h1 _) (fun x hx => ((mem_insG h2 hb x).1 hx).elim (h2 x) fun e => e ▸ hb) fun c hc => h3 c (List.mem_cons_of_mem _ hc)
  refine ⟨g1, g2, fun x => ?_⟩
  rw [List.foldl_cons, g3, mem_insG h2 hb]
  constructor
  ·rintro ((h | h) | ⟨c, hc, h⟩)
   ·exact .inl h
   ·exact .inr ⟨b, List.mem_cons_self .., h.symm⟩
   ·exact .inr ⟨c, List.mem_cons_of_mem _ hc, h⟩
  ·rintro (h | ⟨c, hc, h⟩)
   ·exact .inl (.inl h)
   ·rcases List.mem_cons.1 hc with rfl | hc
    ·exact .inl (.inr h.symm)
    ·exact .inr ⟨c, hc, h⟩
theorem D.onceR_mem {xs : List A} {level : Nat} (hx : ∀ x ∈ xs, FactOk x) {rl : List (Ru × Nat)} (hr : ∀ p ∈ rl, RuleFol p.1) : asc (onceR xs level rl) = true ∧ (∀ t ∈ onceR xs level rl, FactOk t) ∧ ∀ t, t ∈ onceR xs level rl ↔ ∃ p ∈ rl, p.2 = level ∧ FolW xs p.1 t := by
 have hg : ∀ x ∈ xs, Gr x := fun x h => (hx x h).gr
 have main : ∀ (l : List (Ru × Nat)) (out : List A), (∀ p ∈ l, RuleFol p.1) → asc out = true → (∀ x ∈ out, FactOk x) →
   asc (l.foldl (fun out p => if p.2 = level then putR xs p.1 out else out) out) = true ∧ (∀ t ∈ l.foldl (fun out p => if p.2 = level then putR xs p.1 out else out) out, FactOk t) ∧
   ∀ t, t ∈ l.foldl (fun out p => if p.2 = level then putR xs p.1 out else out) out ↔ t ∈ out ∨ ∃ p ∈ l, p.2 = level ∧ FolW xs p.1 t := by
  intro l
  induction l with
  | nil => intro out _ h1 h2; exact ⟨h1, h2, fun t => by simp⟩
  | cons q l ih =>
   intro out hl h1 h2
   have R := hl q (List.mem_cons_self ..)
   have hq := fun p hp => hl p (List.mem_cons_of_mem _ hp)
   by_cases hv : q.2 = level
   ·have hmem : ∀ t, (∃ b ∈ allB xs q.1.body, fillB q.1.head b = t) ↔ FolW xs q.1 t := fun t => (allB_fol hg R.tight t).trans (fol_iff hx q.1 t)
    obtain ⟨g1, g2, g3⟩ := fold_ins (fun b => fillB q.1.head b) (allB xs q.1.body) out h1 h2 fun b hb => fol_fact hx R ((hmem _).1 ⟨b, hb, rfl⟩)
    rw [List.foldl_cons, if_pos hv]
    obtain ⟨k1, k2, k3⟩ := ih (putR xs q.1 out) hq g1 g2
    refine ⟨k1, k2, fun t => ?_⟩
    rw [k3]
    have hp : t ∈ putR xs q.1 out ↔ t ∈ out ∨ FolW xs q.1 t := by
     unfold putR
     rw [g3, hmem]
    rw [hp]
    constructor
    ·rintro ((h | h) | ⟨p, hp, h⟩)
     ·exact .inl h
     ·exact .inr ⟨q, List.mem_cons_self .., hv, h⟩
     ·exact .inr ⟨p, List.mem_cons_of_mem _ hp, h⟩
    ·rintro (h | ⟨p, hp, hpv, h⟩)
     ·exact .inl (.inl h)
     ·rcases List.mem_cons.1 hp with rfl | hp
      ·exact .inl (.inr h)
      ·exact .inr ⟨p, hp, hpv, h⟩
   ·rw [List.foldl_cons, if_neg hv]
    obtain ⟨k1, k2, k3⟩ := ih out hq h1 h2
    refine ⟨k1, k2, fun t => ?_⟩
    rw [k3]
    constructor
    ·rintro (h | ⟨p, hp, h⟩)
     ·exact .inl h
     ·exact .inr ⟨p, List.mem_cons_of_mem _ hp, h⟩
    ·rintro (h | ⟨p, hp, hpv, h⟩)
     ·exact .inl h
     ·rcases List.mem_cons.1 hp with rfl | hp
      ·exact absurd hpv hv
      ·exact .inr ⟨p, hp, hpv, h⟩
 obtain ⟨k1, k2, k3⟩ := main rl [] hr rfl (fun x h => by simp at h)
 exact ⟨k1, k2, fun t => by
  have := k3 t
  simp only [List.not_mem_nil, false_or] at this
  exact this⟩
theorem D.asc_nodup {xs : List A} (h : asc xs = true) : xs.Nodup := by
 refine List.pairwise_iff_getElem.2 fun i j hi hj hij e => ?_
 have := asc_lt h hj hij
 rw [e, cmpA_refl] at this
 omega
theorem D.asc_same {xs ys : List A} (h1 : asc xs = true) (h2 : asc ys = true) (f1 : ∀ x ∈ xs, FactOk x) (f2 : ∀ x ∈ ys, FactOk x) (h : ∀ t, t ∈ xs ↔ t ∈ ys) : xs = ys := by
 refine asc_ext h1 h2 (fun x hx => ok_isFact (f1 x hx)) (fun x hx => ok_isFact (f2 x hx)) fun a => ?_
 rw [Bool.eq_iff_iff, hasB_iff, hasB_iff]
 constructor
 ·rintro ⟨x, hx, hc⟩; exact ⟨x, (h x).1 hx, hc⟩
 ·rintro ⟨x, hx, hc⟩; exact ⟨x, (h x).2 hx, hc⟩
def D.StoS (B sb mu mp : Nat) (Fb : Nat → Prop) (fr : List Nat) (fs : List A) (rn : List Nat) (w : World) : Prop :=
 ∃ Af cf Lf Ar cr Lr ou bf, SRaw B sb mu mp Af fs.length cf Lf fs bf Ar rn.length cr Lr rn (plcL fs) (idxs fs) ou w ∧ (∀ x ∈ bf, Fb x) ∧ ∀ x ∈ fr, Free B sb mu mp (.slice Af fs.length cf) (.slice Ar rn.length cr) ou x ∧ x < w.heap.size
section
variable {B sb mu mp : Nat} {Fb : Nat → Prop} {fr : List Nat} {fs : List A} {rn : List Nat} {w w' : World}
theorem D.SRaw.fresh {Af : Option Addr} {nf cf : Nat} {Lf : List Value} {bf : List Nat} {Ar : Option Addr} {nr cr : Nat} {Lr : List Value} {Lp : List (Value × Value)} {G : WK → List Nat} {ou : List Nat} (h : SRaw B sb mu mp Af nf cf Lf fs bf Ar nr cr Lr rn Lp G ou w) {x : Nat} (hx : w.heap.size ≤ x) : Free B sb mu mp (.slice Af nf cf) (.slice Ar nr cr) ou x := by
 obtain ⟨l1, l2, l3, _⟩ := h.lo
 have hs := h.siz
 exact ⟨fun e => by have := (own_block_in h.cF.own e).2; omega, fun e => by have := (own_block_in h.cR.own e).2; omega, fun e => by have := (h.ous x e).2; omega, by omega⟩
theorem D.StoS.more (h : StoS B sb mu mp Fb fr fs rn w) (hk : Below w.heap.size w w') (xs : List Nat) (hx : ∀ x ∈ xs, w.heap.size ≤ x ∧ x < w'.heap.size) : StoS B sb mu mp Fb (fr ++ xs) fs rn w' := by
 obtain ⟨Af, cf, Lf, Ar, cr, Lr, ou, bf, S, h1, h2⟩ := h
 refine ⟨Af, cf, Lf, Ar, cr, Lr, ou, bf, S.later hk, h1, fun x hx' => ?_⟩
 rcases List.mem_append.1 hx' with g | g
 ·exact ⟨(h2 x g).1, Nat.lt_of_lt_of_le (h2 x g).2 hk.size⟩
 ·exact ⟨S.fresh (hx x g).1, (hx x g).2⟩
theorem D.StoS.later (h : StoS B sb mu mp Fb fr fs rn w) (hk : Below w.heap.size w w') : StoS B sb mu mp Fb fr fs rn w' := by
 have := h.more hk [] (fun x hx => by simp at hx)
 simpa using this
theorem D.StoS.sub (h : StoS B sb mu mp Fb fr fs rn w) {fr' : List Nat} (hs : ∀ x ∈ fr', x ∈ fr) : StoS B sb mu mp Fb fr' fs rn w := by
 obtain ⟨Af, cf, Lf, Ar, cr, Lr, ou, bf, S, h1, h2⟩ := h
 exact ⟨Af, cf, Lf, Ar, cr, Lr, ou, bf, S, h1, fun x hx => h2 x (hs x hx)⟩
theorem D.StoS.mono (h : StoS B sb mu mp Fb fr fs rn w) {Fb' : Nat → Prop} (hs : ∀ x, Fb x → x < w.heap.size → Fb' x) : StoS B sb mu mp Fb' fr fs rn w := by
 obtain ⟨Af, cf, Lf, Ar, cr, Lr, ou, bf, S, h1, h2⟩ := h
 exact ⟨Af, cf, Lf, Ar, cr, Lr, ou, bf, S, fun x hx => hs x (h1 x hx) (S.cF.row.lt atomK_good x hx), h2⟩
theorem D.StoS.other (h : StoS B sb mu mp Fb fr fs rn w) {c : Nat} (hc : c ∈ fr) (hb : ¬ Fb c) (hs : w.heap.size ≤ w'.heap.size) (hk : ∀ k, k < w.heap.size → k ≠ c → w'.heap[k]? = w.heap[k]?) : StoS B sb mu mp Fb fr fs rn w' := by
 obtain ⟨Af, cf, Lf, Ar, cr, Lr, ou, bf, S, h1, h2⟩ := h
 obtain ⟨l1, l2, l3, _⟩ := S.lo
 have hz := S.siz
 obtain ⟨f, r, u, s⟩ := (h2 c hc).1
 refine ⟨Af, cf, Lf, Ar, cr, Lr, ou, bf, ⟨(hk sb (by omega) (by omega)).trans S.blk, S.ef, S.er, S.cF.keepB atomK_good (fun x hx => hk x (own_block_in S.cF.own hx).2 (fun e => f (e ▸ hx))) (fun x hx => hk x (S.cF.row.lt atomK_good x hx) (fun e => hb (e ▸ h1 x hx))),
  S.cR.keepB intK_good (fun x hx => hk x (own_block_in S.cR.own hx).2 (fun e => r (e ▸ hx))) (fun x hx => by simp at hx), S.un.keep (hk mu (by omega) (by omega)) (fun x hx => hk x (S.ous x hx).2 (fun e => u (e ▸ hx))), S.pl.same (hk mp (by omega) (by omega)), S.dFR, S.dF, S.dR, S.bfs, S.lo,
  fun x hx => ⟨(S.ous x hx).1, Nat.lt_of_lt_of_le (S.ous x hx).2 hs⟩, Nat.le_trans hz hs⟩, h1, fun x hx => ⟨(h2 x hx).1, Nat.lt_of_lt_of_le (h2 x hx).2 hs⟩⟩
theorem D.StoS.view (h : StoS B sb mu mp Fb fr fs rn w) : ∃ bs, StoreV sb fs rn bs w := by
 obtain ⟨Af, cf, Lf, Ar, cr, Lr, ou, bf, S, h1, h2⟩ := h
 obtain ⟨bs, g, _⟩ := S.view 0 (by omega)
 exact ⟨bs, g⟩
theorem D.StoS.lt (h : StoS B sb mu mp Fb fr fs rn w) : B ≤ w.heap.size ∧ sb < B ∧ ∀ x ∈ fr, x < w.heap.size := by
 obtain ⟨Af, cf, Lf, Ar, cr, Lr, ou, bf, S, h1, h2⟩ := h
 exact ⟨S.siz, S.lo.1, fun x hx => (h2 x hx).2⟩
theorem put_sto (h : StoS B sb mu mp Fb fr fs rn w) {a : A} {c1 : Value} {ba : List Nat} (ha : atomK w [.string a.name, c1] a ba) (hba : ∀ x ∈ ba, x ∈ fr) (hFb : ∀ x ∈ ba, Fb x) (hfs : ∀ f ∈ fs, FactOk f) (hok : FactOk a) (hno : a ∉ fs) (hfl : fs.length ≤ 1000000) (hrl : rn.length ≤ 1000000) (rd B0 : Nat) (hB0 : B0 ≤ sb ∧ B0 ≤ mu ∧ B0 ≤ mp ∧ B0 ≤ B) :
  Calls Tryz.prog 75 #[.pointer (some ⟨sb, 0, none⟩), .agg #[.string a.name, c1], .int .i64 rd] w fun e w' => e = .returned (.tuple #[]) ∧ Below B0 w w' ∧ StoS B sb mu mp Fb fr (fs ++ [a]) (rn ++ [rd]) w' ∧ ∀ x ∈ fr, w'.heap[x]? = w.heap[x]? := by
 obtain ⟨Af, cf, Lf, Ar, cr, Lr, ou, bf, S, h1, h2⟩ := h
 refine (put_any B sb mu mp Af cf Lf fs bf Ar cr Lr rn (plcL fs) ou a c1 ba fr rd w S ha hba (fun x hx => (h2 x hx).1) (fun x hx => (h2 x hx).2) hok.ok (text_new hfs hok hno) hfl hrl B0 hB0).mono ?_
 rintro e w' ⟨rfl, hb, Af', cf', Lf', Ar', cr', Lr', ou', S', hfr⟩
 refine ⟨rfl, hb, ⟨Af', cf', Lf', Ar', cr', Lr', ou', bf ++ ba, ?_, fun x hx => (List.mem_append.1 hx).elim (h1 x) (hFb x), fun x hx => ⟨?_, Nat.lt_of_lt_of_le (h2 x hx).2 hb.size⟩⟩, fun x hx => (hfr x hx).2⟩
 ·rw [plcL_snoc, List.length_append, List.length_append]; exact S'
 ·have := (hfr x hx).1
  rw [List.length_append, List.length_append]; exact this
end
theorem D.StoL.sto {xs : List A} {bx : List Nat} {w0 w : World} (h : StoL xs bx w0 xs.length w) (hlt : ∀ x ∈ bx, x < w0.heap.size) : Below w0.heap.size w0 w ∧ StoS (w0.heap.size + 3) (w0.heap.size + 2) w0.heap.size (w0.heap.size + 1) (fun x => x ∈ bx) [] xs (List.replicate xs.length 0) w := by
 obtain ⟨h1, Af, cf, Lf, Ar, cr, Lr, ou, bf, S, h2⟩ := h.all
 exact ⟨h1, Af, cf, Lf, Ar, cr, Lr, ou, bf, S, h2, fun x hx => by simp at hx⟩
end Go.Proofs.YtiidmgchadagbaaGreatDoor
