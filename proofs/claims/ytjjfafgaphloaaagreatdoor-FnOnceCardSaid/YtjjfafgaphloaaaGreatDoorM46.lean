/- Of the proof of FnOnce: StoI, FolR, AllI, OncQ. -/
import Derived.Test.YtjjfafgaphloaaaGreatDoorM43
import Derived.Test.YtjjfafgaphloaaaGreatDoorM45
namespace Go.Proofs.YtjjfafgaphloaaaGreatDoor
open Go.RowKit D
set_option linter.unusedVariables false
attribute [local go_sem ↓] Go.wp_at_zero Go.wp_at_succ
/-- The store of the first facts. -/
def D.StoL (xs : List A) (bx : List Nat) (w0 : World) (k : Nat) (w : World) : Prop :=
  ∃ Af cf Lf Ar cr Lr ou bf, SRaw (w0.heap.size + 3) (w0.heap.size + 2) w0.heap.size (w0.heap.size + 1) Af (xs.take k).length cf Lf (xs.take k) bf Ar (List.replicate k 0).length cr Lr (List.replicate k 0) (plcL (xs.take k)) (idxs (xs.take k)) ou w ∧ Below w0.heap.size w0 w ∧ ∀ x ∈ bf, x ∈ bx

set_option maxRecDepth 100000 in
set_option maxHeartbeats 4000000 in
theorem storeOf_any (xs : List A) (v : Value) (bx : List Nat) (w : World) (h : atomsK w [v] xs bx) (hf : ∀ f ∈ xs, FactOk f) (hn : xs.Pairwise fun a b => a ≠ b) (hl : xs.length ≤ 1000000) :
    Calls Tryz.prog 23 #[v] w fun e w' => e = .returned (.pointer (some ⟨w.heap.size + 2, 0, none⟩)) ∧ Below w.heap.size w w' ∧ ∃ rn bs, StoreV (w.heap.size + 2) xs rn bs w' ∧ ∀ x ∈ bs, w.heap.size ≤ x ∨ x ∈ bx := by
  obtain ⟨Ad, cap, rfl, hlc, hm⟩ := sliceK_form h
  have hlm := nat_ge_max (Nat.le_trans hlc hm)
  have hA : Below w.heap.size w (((w.alloc (.map #[] 0)).alloc (.map #[] 0)).alloc (.cells #[.slice none 0 0, .slice none 0 0, .map (some w.heap.size), .map (some (w.heap.size + 1))] 95)) := (((Below.refl _ _).alloc (Nat.le_refl _) _).alloc (by simp) _).alloc (by simp; omega) _
  have hm1 : MapE isWK w.heap.size [] 0 (((w.alloc (.map #[] 0)).alloc (.map #[] 0)).alloc (.cells #[.slice none 0 0, .slice none 0 0, .map (some w.heap.size), .map (some (w.heap.size + 1))] 95)) := (MapE.made (S := isWK) w).same (by rw [Below.heap_alloc _ _ _ (by simp; omega), Below.heap_alloc _ _ _ (by simp)])
  have hm2 : MapV isStr (w.heap.size + 1) [] (((w.alloc (.map #[] 0)).alloc (.map #[] 0)).alloc (.cells #[.slice none 0 0, .slice none 0 0, .map (some w.heap.size), .map (some (w.heap.size + 1))] 95)) := by
    have h0 := MapV.made (S := isStr) (w.alloc (.map #[] 0))
    have e : (w.alloc (.map #[] 0)).heap.size = w.heap.size + 1 := by simp
    rw [e] at h0
    exact h0.same (by rw [Below.heap_alloc _ _ _ (by simp)])
  have hb0 : (((w.alloc (.map #[] 0)).alloc (.map #[] 0)).alloc (.cells #[.slice none 0 0, .slice none 0 0, .map (some w.heap.size), .map (some (w.heap.size + 1))] 95)).heap[w.heap.size + 2]? = some (.cells #[.slice none 0 0, .slice none 0 0, .map (some w.heap.size), .map (some (w.heap.size + 1))] 95 (0, 0)) := by
    have := heap_alloc_new ((w.alloc (.map #[] 0)).alloc (.map #[] 0)) (.cells #[.slice none 0 0, .slice none 0 0, .map (some w.heap.size), .map (some (w.heap.size + 1))] 95)
    simpa using this
  have HI0 : Hid (StoL xs bx w 0 (((w.alloc (.map #[] 0)).alloc (.map #[] 0)).alloc (.cells #[.slice none 0 0, .slice none 0 0, .map (some w.heap.size), .map (some (w.heap.size + 1))] 95))) := Lib.hid
    ⟨none, 0, [], none, 0, [], [], [], ⟨hb0, rfl, rfl, Coll.nil _, Coll.nil _, ⟨⟨[], 0, hm1, ⟨fun r hr => by simp at hr, fun r hr => by simp at hr, fun r hr => by simp at hr⟩, fun k _ => by simp [idxs]⟩⟩, hm2, fun x hx => by simp [Value.ownBlock] at hx, fun x hx => by simp at hx, fun x hx => by simp at hx, fun x hx => by simp at hx, by omega, fun x hx => by simp at hx, by simp⟩, hA, fun x hx => by simp at hx⟩
  have HH := Lib.hid h
  have HF := Lib.hid (And.intro hf hn)
  clear h hf hn hlc hm hA hm1 hm2 hb0
  have hmm := @run_makeMap Tryz.prog
  go_enter Tryz.func23, Tryz.ntmps23
  go_wp2
  generalize (((w.alloc (.map #[] 0)).alloc (.map #[] 0)).alloc (.cells #[.slice none 0 0, .slice none 0 0, .map (some w.heap.size), .map (some (w.heap.size + 1))] 95)) = W at *
  go_loopw [12] (fun i wr => ∃ (k : Nat), k ≤ xs.length ∧ i = .int .i64 k ∧ StoL xs bx w k wr) (fun i _ => xs.length - (intOf i).toNat)
  case atStart => exact ⟨0, Nat.zero_le _, rfl, HI0.out⟩
  case round =>
    obtain ⟨k, hk, rfl, hI⟩ := hrel
    clear HI0
    by_cases hlt : k < xs.length
    · obtain ⟨Af, cf, Lf, Ar, cr, Lr, ou, bf, S, hbel, hbx⟩ := hI
      obtain ⟨bq, oq, Ae, ce, ba, rfl, _, f0, f1, hat, hsub⟩ := atoms_el (atomsK_good.below HH.out hbel) hlt
      have hk0 : (0 : Int) ≤ (k : Int) := by omega
      have hk1 : (k : Int) < (xs.length : Int) := by omega
      have hA2 : Below wr.heap.size wr (wr.alloc (.cells #[.string xs[k].name, .slice Ae xs[k].args.length ce] 33)) := (Below.refl _ _).alloc (Nat.le_refl _) _
      have hfk := HF.out.1 _ (List.getElem_mem hlt)
      have hnk : xs[k] ∉ xs.take k := fun hm => by
        obtain ⟨i, hi, e⟩ := List.getElem_of_mem hm
        simp at hi e
        exact List.pairwise_iff_getElem.1 HF.out.2 i k (by omega) hlt (by omega) e
      have hcall := put_any (w.heap.size + 3) (w.heap.size + 2) w.heap.size (w.heap.size + 1) Af cf Lf (xs.take k) bf Ar cr Lr (List.replicate k 0) (plcL (xs.take k)) ou xs[k] (.slice Ae xs[k].args.length ce) ba 0 (wr.alloc (.cells #[.string xs[k].name, .slice Ae xs[k].args.length ce] 33)) (S.later hA2) (atomK_good.below hat hA2)
        (fun x hx => by have := atomsK_good.lt HH.out x (hsub x hx); omega) hfk.ok (text_new (fun f hf => HF.out.1 f (List.mem_of_mem_take hf)) hfk hnk) (by simp; omega) (by simp; omega) w.heap.size (by omega)
      have HB := Lib.hid (hbel.trans (hA2.mono hbel.size))
      have HLT := Lib.hid hlt
      have HBX : Hid (∀ x ∈ bf ++ ba, x ∈ bx) := Lib.hid fun x hx => (List.mem_append.1 hx).elim (hbx x) (hsub x)
      have HTK : Hid (xs.take (k + 1) = xs.take k ++ [xs[k]]) := Lib.hid (List.take_succ_eq_append_getElem hlt)
      clear S hbel hbx hat hsub hA2 hfk hnk hk
      generalize xs[k] = a at *
      obtain ⟨an, aargs⟩ := a
      dsimp only at *
      clear hlt
      go_wp2_with fail
      refine hcall.mono ?_
      rintro e w2 ⟨rfl, hb2, Af', cf', Lf', Ar', cr', Lr', ou', S'⟩
      have HI2 : Hid (StoL xs bx w (k + 1) w2) := Lib.hid ⟨Af', cf', Lf', Ar', cr', Lr', ou', _, by
        rw [HTK.out, List.replicate_succ', plcL_snoc, List.length_append, List.length_append]; exact S', HB.out.trans hb2, HBX.out⟩
      clear hcall hb2 S'
      go_wp2
      go_roundw
      case rel => exact ⟨k + 1, HLT.out, by go_num, HI2.out⟩
      case measure => have := HLT.out; simp [intOf]; omega
    · have he : k = xs.length := by omega
      have hk1 : ¬ (k : Int) < (xs.length : Int) := by omega
      have HD : Hid (Below w.heap.size w wr ∧ ∃ rn bs, StoreV (w.heap.size + 2) xs rn bs wr ∧ ∀ x ∈ bs, w.heap.size ≤ x ∨ x ∈ bx) := Lib.hid (by
        obtain ⟨Af, cf, Lf, Ar, cr, Lr, ou, bf, S, hbel, hbx⟩ := hI
        rw [List.take_of_length_le (Nat.le_of_eq he.symm)] at S
        obtain ⟨bs, h1, h2⟩ := S.view w.heap.size (by omega)
        exact ⟨hbel, _, bs, h1, fun x hx => (h2 x hx).imp id (hbx x)⟩)
      clear hI
      go_wp2
      go_ret
      exact ⟨rfl, HD.out⟩

end Go.Proofs.YtjjfafgaphloaaaGreatDoor
namespace Go.Proofs.YtjjfafgaphloaaaGreatDoor
open Go.RowKit D
set_option linter.unusedVariables false
theorem D.rule_fol {rs : List Ru} (h : progC rs = 0) {r : Ru} (hr : r ∈ rs) : RuleFol r := by
  unfold progC at h
  split at h
  · cases h
  · rename_i h1
    split at h
    · cases h
    · split at h
      · cases h
      · split at h
        · cases h
        · rename_i h4
          have g1 := List.all_eq_true.1 (by simpa using h1) r hr
          have g4 := List.all_eq_true.1 (by simpa using h4) r hr
          unfold ruleOk bodyOkB at g1
          simp only [Bool.and_eq_true, decide_eq_true_eq, List.all_eq_true] at g1
          obtain ⟨t1, t2⟩ := (tight_iff _ _).1 g4
          refine ⟨g1.2, g1.1.2, g1.1.1, fun x hx => ?_⟩
          have hb : boundB r.body x = true := by
            rcases hx with hx | ⟨p, hp, hx⟩
            · exact t1 x hx
            · unfold looseB at t2
              have := List.all_eq_true.1 (by simpa using t2) p hp
              exact (allBound_iff _ _).1 this x hx
          have := (boundB_iff _ _).1 hb
          rw [varsPs_mem] at this
          rcases this with h | ⟨p, hp, hv⟩
          · simp at h
          · obtain ⟨q1, q2⟩ := List.mem_filter.1 hp
            exact ⟨p, q1, by simpa using q2, hv⟩

theorem D.isFact_ok {a : A} (h : isFactB a = true) : FactOk a := by
  unfold isFactB anyVar at h
  simp only [Bool.and_eq_true, Bool.not_eq_true', List.any_eq_false] at h
  exact ⟨h.1, fun t ht => by simpa using h.2 t ht⟩

theorem D.ok_isFact {a : A} (h : FactOk a) : isFactB a = true := by
  unfold isFactB anyVar
  simp only [Bool.and_eq_true, Bool.not_eq_true', List.any_eq_false]
  exact ⟨h.ok, fun t ht => by simpa using h.gr t ht⟩

theorem D.fol_iff {xs : List A} (hx : ∀ x ∈ xs, FactOk x) (r : Ru) (t : A) : Fol xs r t ↔ FolW xs r t := by
  have hg : ∀ x ∈ xs, Gr x := fun x h => (hx x h).gr
  constructor
  · rintro ⟨σ, rfl, h⟩
    refine ⟨σ, rfl, fun p hp hn => ?_, fun p hp hn hm => ?_⟩
    · exact (hasB_gr hg (gr_fill _ _)).1 (by rw [h p hp, hn]; rfl)
    · have := (hasB_gr hg (gr_fill σ p.atom)).2 hm
      rw [h p hp, hn] at this
      cases this
  · rintro ⟨σ, rfl, h1, h2⟩
    refine ⟨σ, rfl, fun p hp => ?_⟩
    cases hn : p.no
    · exact (hasB_gr hg (gr_fill _ _)).2 (h1 p hp hn)
    · cases hb : hasB xs (fillW σ p.atom)
      · rfl
      · exact absurd ((hasB_gr hg (gr_fill _ _)).1 hb) (h2 p hp hn)

theorem D.fol_fact {xs : List A} (hx : ∀ x ∈ xs, FactOk x) {r : Ru} (R : RuleFol r) {t : A} (h : FolW xs r t) : FactOk t := by
  obtain ⟨σ, rfl, h1, _⟩ := h
  refine ⟨?_, gr_fill _ _⟩
  have h0 := R.hok
  unfold atomOk at h0 ⊢
  unfold fillW
  simp only [Bool.and_eq_true, decide_eq_true_eq, List.all_eq_true, List.length_map] at h0 ⊢
  refine ⟨h0.1, fun u hu => ?_⟩
  obtain ⟨v, hv, rfl⟩ := List.mem_map.1 hu
  have g := h0.2 v hv
  unfold termOk at *
  unfold termW
  cases hvv : v.var
  · simpa [hvv] using g
  · obtain ⟨p, hp, hn, y, hy, hyv, hyn⟩ := R.tight v.name (.inl ⟨v, hv, hvv, rfl⟩)
    have hm := (hx _ (h1 p hp hn)).names (termW σ y) (List.mem_map.2 ⟨y, hy, rfl⟩)
    unfold termW at hm
    rw [hyv, hyn] at hm
    simpa using hm.2

theorem D.mem_insG {xs : List A} (hx : ∀ x ∈ xs, FactOk x) {a : A} (ha : FactOk a) (x : A) : x ∈ insA xs a ↔ x ∈ xs ∨ x = a := by
  constructor
  · exact mem_ins
  · intro h
    have hi : ∀ y ∈ insA xs a, Gr y := fun y hy => (mem_ins hy).elim (fun h => (hx y h).gr) fun h => h ▸ ha.gr
    have hgx : Gr x := h.elim (fun h => (hx x h).gr) fun h => h ▸ ha.gr
    refine (hasB_gr hi hgx).1 ?_
    rw [hasB_ins]
    rcases h with h | rfl
    · rw [hasB_mem h]; rfl
    · rw [cmpA_refl]; simp

theorem D.fold_ins {β : Type} (f : β → A) : ∀ (l : List β) (out : List A), asc out = true → (∀ x ∈ out, FactOk x) → (∀ b ∈ l, FactOk (f b)) →
    asc (l.foldl (fun o b => insA o (f b)) out) = true ∧ (∀ x ∈ l.foldl (fun o b => insA o (f b)) out, FactOk x) ∧ ∀ x, x ∈ l.foldl (fun o b => insA o (f b)) out ↔ x ∈ out ∨ ∃ b ∈ l, f b = x
  | [], out, h1, h2, _ => ⟨h1, h2, fun x => by simp⟩
  | b :: l, out, h1, h2, h3 => by
    have hb := h3 b (List.mem_cons_self ..)
    obtain ⟨g1, g2, g3⟩ := fold_ins f l (insA out (f b)) (asc_ins h1 _) (fun x hx => ((mem_insG h2 hb x).1 hx).elim (h2 x) fun e => e ▸ hb) fun c hc => h3 c (List.mem_cons_of_mem _ hc)
    refine ⟨g1, g2, fun x => ?_⟩
    rw [List.foldl_cons, g3, mem_insG h2 hb]
    constructor
    · rintro ((h | h) | ⟨c, hc, h⟩)
      · exact .inl h
      · exact .inr ⟨b, List.mem_cons_self .., h.symm⟩
      · exact .inr ⟨c, List.mem_cons_of_mem _ hc, h⟩
    · rintro (h | ⟨c, hc, h⟩)
      · exact .inl (.inl h)
      · rcases List.mem_cons.1 hc with rfl | hc
        · exact .inl (.inr h.symm)
        · exact .inr ⟨c, hc, h⟩

/-- What the reference's row of a level holds. -/
theorem D.onceR_mem {xs : List A} {level : Nat} (hx : ∀ x ∈ xs, FactOk x) {rl : List (Ru × Nat)} (hr : ∀ p ∈ rl, RuleFol p.1) : asc (onceR xs level rl) = true ∧ (∀ t ∈ onceR xs level rl, FactOk t) ∧ ∀ t, t ∈ onceR xs level rl ↔ ∃ p ∈ rl, p.2 = level ∧ FolW xs p.1 t := by
  have hg : ∀ x ∈ xs, Gr x := fun x h => (hx x h).gr
  have main : ∀ (l : List (Ru × Nat)) (out : List A), (∀ p ∈ l, RuleFol p.1) → asc out = true → (∀ x ∈ out, FactOk x) →
      asc (l.foldl (fun out p => if p.2 = level then putR xs p.1 out else out) out) = true ∧ (∀ t ∈ l.foldl (fun out p => if p.2 = level then putR xs p.1 out else out) out, FactOk t) ∧
      ∀ t, t ∈ l.foldl (fun out p => if p.2 = level then putR xs p.1 out else out) out ↔ t ∈ out ∨ ∃ p ∈ l, p.2 = level ∧ FolW xs p.1 t := by
    intro l
    induction l with
    | nil => intro out _ h1 h2; exact ⟨h1, h2, fun t => by simp⟩
    | cons q l ih =>
      intro out hl h1 h2
      have R := hl q (List.mem_cons_self ..)
      have hq := fun p hp => hl p (List.mem_cons_of_mem _ hp)
      by_cases hv : q.2 = level
      · have hmem : ∀ t, (∃ b ∈ allB xs q.1.body, fillB q.1.head b = t) ↔ FolW xs q.1 t := fun t => (allB_fol hg R.tight t).trans (fol_iff hx q.1 t)
        obtain ⟨g1, g2, g3⟩ := fold_ins (fun b => fillB q.1.head b) (allB xs q.1.body) out h1 h2 fun b hb => fol_fact hx R ((hmem _).1 ⟨b, hb, rfl⟩)
        rw [List.foldl_cons, if_pos hv]
        obtain ⟨k1, k2, k3⟩ := ih (putR xs q.1 out) hq g1 g2
        refine ⟨k1, k2, fun t => ?_⟩
        rw [k3]
        have hp : t ∈ putR xs q.1 out ↔ t ∈ out ∨ FolW xs q.1 t := by
          unfold putR
          rw [g3, hmem]
        rw [hp]
        constructor
        · rintro ((h | h) | ⟨p, hp, h⟩)
          · exact .inl h
          · exact .inr ⟨q, List.mem_cons_self .., hv, h⟩
          · exact .inr ⟨p, List.mem_cons_of_mem _ hp, h⟩
        · rintro (h | ⟨p, hp, hpv, h⟩)
          · exact .inl (.inl h)
          · rcases List.mem_cons.1 hp with rfl | hp
            · exact .inl (.inr h)
            · exact .inr ⟨p, hp, hpv, h⟩
      · rw [List.foldl_cons, if_neg hv]
        obtain ⟨k1, k2, k3⟩ := ih out hq h1 h2
        refine ⟨k1, k2, fun t => ?_⟩
        rw [k3]
        constructor
        · rintro (h | ⟨p, hp, h⟩)
          · exact .inl h
          · exact .inr ⟨p, List.mem_cons_of_mem _ hp, h⟩
        · rintro (h | ⟨p, hp, hpv, h⟩)
          · exact .inl h
          · rcases List.mem_cons.1 hp with rfl | hp
            · exact absurd hpv hv
            · exact .inr ⟨p, hp, hpv, h⟩
  obtain ⟨k1, k2, k3⟩ := main rl [] hr rfl (fun x h => by simp at h)
  exact ⟨k1, k2, fun t => by
    have := k3 t
    simp only [List.not_mem_nil, false_or] at this
    exact this⟩

theorem D.asc_nodup {xs : List A} (h : asc xs = true) : xs.Nodup := by
  refine List.pairwise_iff_getElem.2 fun i j hi hj hij e => ?_
  have := asc_lt h hj hij
  rw [e, cmpA_refl] at this
  omega

/-- Two ascending rows of facts with the same facts are one. -/
theorem D.asc_same {xs ys : List A} (h1 : asc xs = true) (h2 : asc ys = true) (f1 : ∀ x ∈ xs, FactOk x) (f2 : ∀ x ∈ ys, FactOk x) (h : ∀ t, t ∈ xs ↔ t ∈ ys) : xs = ys := by
  refine asc_ext h1 h2 (fun x hx => ok_isFact (f1 x hx)) (fun x hx => ok_isFact (f2 x hx)) fun a => ?_
  rw [Bool.eq_iff_iff, hasB_iff, hasB_iff]
  constructor
  · rintro ⟨x, hx, hc⟩; exact ⟨x, (h x).1 hx, hc⟩
  · rintro ⟨x, hx, hc⟩; exact ⟨x, (h x).2 hx, hc⟩

end Go.Proofs.YtjjfafgaphloaaaGreatDoor
namespace Go.Proofs.YtjjfafgaphloaaaGreatDoor
open Go.RowKit D
set_option linter.unusedVariables false
attribute [local go_sem ↓] Go.wp_at_zero Go.wp_at_succ
section
variable (vars : List ByteArray) (fs : List A) (rn : List Nat) (bs : List Nat) (ps ns : List A) (head : A) (sk sb : Nat) (Ap : Option Addr) (cp : Nat) (An : Option Addr) (cn : Nat) (bp bn : List Nat) (wt : Nat → Bool) (ah : Int) (c5 c7 : Addr) (K : Nat → Prop) (T : World → List A → Prop) (go : List A → Bool)
theorem runI_any (E : RunEnv vars fs ps ns head wt) (hK : ∀ k, K k → k ≠ sk) (hT : TellOk vars head sk K c5 c7 T go) : ∀ (left : Nat), left < 2 ^ ps.length → ∀ (b : Bd) (told : List A) (w : World),
    RunSt vars fs rn bs ps ns sk sb (.slice Ap ps.length cp) (.slice An ns.length cn) bp bn wt ah (.func (.func 59) #[] #[.pointer (some c5), .pointer (some c7)]) K b w →
    (∀ j (h : j < ps.length), left.testBit j = false → Cov b ps[j].args) → T w told →
    Calls Tryz.prog 105 #[.pointer (some ⟨sk, 0, none⟩), .int .i64 left] w (RunRet vars fs ps ns head K sk T go b left told w) := by
  intro left
  induction left using Nat.strongRecOn with
  | ind left IH =>
    intro hl b told w S hcov hTw
    by_cases hs : setB vars b wt = true
    · cases hh : hinB fs ns b
      · by_cases h0 : left = 0
        · subst h0
          exact run_zero vars fs rn bs ps ns head sk sb Ap cp An cn bp bn wt ah c5 c7 K T go E hK hT b told w S (fun p hp => by
            obtain ⟨j, hj, e⟩ := List.getElem_of_mem hp
            rw [← e]; exact hcov j hj (by simp)) hTw hh
        · exact run_loop vars fs rn bs ps ns head sk sb Ap cp An cn bp bn wt ah c5 c7 K T go E hK hT left hl h0 (fun l' hl' b' told' w' S' c' t' => IH l' hl' (by omega) b' told' w' S' c' t') b told w S hcov hTw (fun _ => hh)
      · exact run_stop vars fs rn bs ps ns head sk sb Ap cp An cn bp bn wt ah c5 c7 K T go E hK hT left b told w S hTw hs hh
    · by_cases h0 : left = 0
      · subst h0
        exfalso
        apply hs
        exact (setB_cov E.hv S.ok E.want E.hin E.nin).2 (E.tight b fun p hp => by
          obtain ⟨j, hj, e⟩ := List.getElem_of_mem hp
          rw [← e]; exact hcov j hj (by simp))
      · exact run_loop vars fs rn bs ps ns head sk sb Ap cp An cn bp bn wt ah c5 c7 K T go E hK hT left hl h0 (fun l' hl' b' told' w' S' c' t' => IH l' hl' (by omega) b' told' w' S' c' t') b told w S hcov hTw (fun h => absurd h hs)

theorem D.pow_less (n : Nat) (h : n ≤ 4) : wrap64 (wrap64 (2 ^ n) - 1) = ((2 ^ n - 1 : Nat) : Int) := by
  have H : ∀ n : Nat, n < 5 → wrap64 (wrap64 (2 ^ n) - 1) = ((2 ^ n - 1 : Nat) : Int) := by decide +kernel
  exact H n (by omega)

theorem D.all_bits (n j : Nat) (h : n ≤ 4) (hj : j < n) : (2 ^ n - 1).testBit j = true := by
  rw [Nat.testBit_two_pow_sub_one]; simpa using hj

set_option maxRecDepth 100000 in
set_option maxHeartbeats 4000000 in
theorem searchAll_any (E : RunEnv vars fs ps ns head wt) (hK : ∀ k, K k → k ≠ sk) (hT : TellOk vars head sk K c5 c7 T go) (told : List A) (w : World)
    (S : RunSt vars fs rn bs ps ns sk sb (.slice Ap ps.length cp) (.slice An ns.length cn) bp bn wt ah (.func (.func 59) #[] #[.pointer (some c5), .pointer (some c7)]) K [] w) (hTw : T w told) :
    Calls Tryz.prog 61 #[.pointer (some ⟨sk, 0, none⟩)] w fun e w' => e = .returned (.tuple #[]) ∧ ∃ held more, RunPost vars fs ps ns head K sk T go [] (2 ^ ps.length - 1) told held more w w' := by
  have hrun := runI_any vars fs rn bs ps ns head sk sb Ap cp An cn bp bn wt ah c5 c7 K T go E hK hT (2 ^ ps.length - 1) (by have := Nat.two_pow_pos ps.length; omega) [] told w S (fun j hj hb => by rw [all_bits _ _ E.p4 hj] at hb; cases hb) hTw
  have y0 := S.sea.p1
  have hp := pow_less ps.length E.p4
  have hp4 : (ps.length : Int) ≤ 4 := by have := E.p4; omega
  clear S hTw hT
  go_enter Tryz.func61, Tryz.ntmps61
  go_wp2_with fail
  refine hrun.mono ?_
  rintro e w2 ⟨held, more, rfl, hP⟩
  have HP := Lib.hid hP
  clear hrun hP
  go_wp2
  go_end0
  exact ⟨rfl, held, more, HP.out⟩

end
end Go.Proofs.YtjjfafgaphloaaaGreatDoor
namespace Go.Proofs.YtjjfafgaphloaaaGreatDoor
open Go.RowKit D
set_option linter.unusedVariables false
/-- What the reference's Once holds. -/
theorem D.onceA_mem {rs : List Ru} {xs : List A} (hx : ∀ x ∈ xs, FactOk x) (hr : ∀ r ∈ rs, RuleFol r) : asc (onceA rs xs) = true ∧ (∀ t ∈ onceA rs xs, FactOk t) ∧ ∀ t, t ∈ onceA rs xs ↔ ∃ r ∈ rs, FolW xs r t := by
  obtain ⟨k1, k2, k3⟩ := onceR_mem (level := 0) hx (rl := rs.zip (List.replicate rs.length 0)) fun p hp => hr _ (List.of_mem_zip hp).1
  refine ⟨k1, k2, fun t => (k3 t).trans ⟨?_, ?_⟩⟩
  · rintro ⟨p, hp, _, h⟩
    exact ⟨p.1, (List.of_mem_zip hp).1, h⟩
  · rintro ⟨r, hr, h⟩
    obtain ⟨i, hi, rfl⟩ := List.getElem_of_mem hr
    exact ⟨(rs[i], 0), List.mem_iff_getElem.2 ⟨i, by simpa using hi, by simp⟩, rfl, h⟩

end Go.Proofs.YtjjfafgaphloaaaGreatDoor
