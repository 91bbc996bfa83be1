/- Of the proof of FnOnce: OnceT, DrawOn, FndP, RunP2. -/
import Derived.Test.YtjjfafgaphloaaaGreatDoorM40
namespace Go.Proofs.YtjjfafgaphloaaaGreatDoor
open Go.RowKit D
set_option linter.unusedVariables false
attribute [local go_sem ↓] Go.wp_at_zero Go.wp_at_succ
theorem D.infoIntO : (Tryz.prog.info? 3).map (fun i => (i.zero, i.size, i.bytes)) = some (some (.int .i64 0), 1, 8) := by kernel_rfl

theorem D.ints_zeroO (n : Nat) {w : World} {g : Nat} (h : w.heap[g]? = some (.cells (madeCells #[.int .i64 0] n) 3 (0, 0))) (hm : n ≤ maxLen) : ∃ bs, intsK w [.slice (some ⟨g, 0, none⟩) n n] (List.replicate n 0) bs ∧ ∀ c ∈ bs, c = g := by
  rw [ofL_zero] at h
  obtain ⟨bs, h1, _, h3⟩ := ints_of_blk h (by simpa using hm)
  rw [List.length_replicate] at h1
  exact ⟨bs, h1, h3⟩

theorem D.onceR_lenO {list : List A} {level B : Nat} {rl : List (Ru × Nat)} (h : ∀ p ∈ rl, (allB list p.1.body).length ≤ B) : (onceR list level rl).length ≤ rl.length * B := by
  have h1 : ∀ (bs : List Bd) (r : Ru) (out : List A), (bs.foldl (fun o b => insA o (fillB r.head b)) out).length ≤ out.length + bs.length := by
    intro bs r
    induction bs with
    | nil => intro out; exact Nat.le_refl _
    | cons b bs ih =>
      intro out
      have h2 := ih (insA out (fillB r.head b))
      have h3 := insA_le out (fillB r.head b)
      simp only [List.foldl_cons, List.length_cons]
      omega
  have h2 : ∀ k, k ≤ rl.length → (onceR list level (rl.take k)).length ≤ k * B := by
    intro k
    induction k with
    | zero => intro _; simp [onceR]
    | succ k ih =>
      intro hk
      have h3 := ih (by omega)
      rw [onceR_snoc list level rl k (by omega), Nat.add_mul]
      split
      · have h4 := h1 (allB list rl[k].1.body) rl[k].1 (onceR list level (rl.take k))
        have h5 := h _ (List.getElem_mem (show k < rl.length by omega))
        unfold putR
        omega
      · omega
  have := h2 rl.length (Nat.le_refl _)
  rwa [List.take_of_length_le (Nat.le_refl _)] at this

/-- What follows of facts at once by rules. -/
def D.onceA (rs : List Ru) (xs : List A) : List A := onceR xs 0 (rs.zip (List.replicate rs.length 0))

def D.onceV (rs : List Ru) (xs : List A) : List A := if factsFit rs xs then onceA rs xs else []

theorem D.atom_few3 {a : A} (h : atomOk a = true) : a.args.length ≤ 3 := by
  unfold atomOk at h
  simp only [Bool.and_eq_true, decide_eq_true_eq] at h
  exact h.1.2

theorem D.rule_few3 {r : Ru} (h : ruleOk r = true) : r.body.length ≤ 4 ∧ r.head.args.length ≤ 1000 ∧ ∀ p ∈ r.body, p.atom.args.length ≤ 1000 := by
  unfold ruleOk bodyOkB at h
  simp only [Bool.and_eq_true, decide_eq_true_eq, List.all_eq_true] at h
  exact ⟨h.1.1, Nat.le_trans (atom_few3 h.2) (by omega), fun p hp => Nat.le_trans (atom_few3 (h.1.2 p hp)) (by omega)⟩

structure D.OnceOk (rs : List Ru) (xs : List A) : Prop where
  asc : asc xs = true
  n : xs.length ≤ 300
  m : rs.length ≤ 8
  rules : ∀ r ∈ rs, r.body.length ≤ 4 ∧ r.head.args.length ≤ 1000 ∧ ∀ p ∈ r.body, p.atom.args.length ≤ 1000

theorem D.factsFit_once {rs : List Ru} {xs : List A} (h : factsFit rs xs = true) : OnceOk rs xs := by
  unfold factsFit factsOk at h
  simp only [Bool.and_eq_true, decide_eq_true_eq, List.all_eq_true] at h
  have hf := (fine_iff rs).1 h.1.1
  exact ⟨h.1.2.2, h.1.2.1.1, hf.few, fun r hr => rule_few3 (List.all_eq_true.1 hf.ok r hr)⟩

theorem D.fillB_args (a : A) (b : Bd) : (fillB a b).args.length = a.args.length := by unfold fillB; simp

theorem D.onceR_args {list : List A} {level : Nat} {rl : List (Ru × Nat)} (h : ∀ p ∈ rl, p.1.head.args.length ≤ 1000) : ∀ a ∈ onceR list level rl, a.args.length ≤ 1000 := by
  have hi : ∀ (xs : List A) (a : A), (∀ x ∈ xs, x.args.length ≤ 1000) → a.args.length ≤ 1000 → ∀ x ∈ insA xs a, x.args.length ≤ 1000 := by
    intro xs a hx ha x hm
    unfold insA at hm
    split at hm
    · exact hx x hm
    · rcases List.mem_append.1 hm with hm | hm
      · exact hx x (List.mem_of_mem_take hm)
      · rcases List.mem_cons.1 hm with rfl | hm
        · exact ha
        · exact hx x (List.mem_of_mem_drop hm)
  have h1 : ∀ (bs : List Bd) (r : Ru) (out : List A), r.head.args.length ≤ 1000 → (∀ x ∈ out, x.args.length ≤ 1000) → ∀ x ∈ bs.foldl (fun o b => insA o (fillB r.head b)) out, x.args.length ≤ 1000 := by
    intro bs r
    induction bs with
    | nil => intro out _ ho; exact ho
    | cons b bs ih => intro out hr ho; exact ih _ hr (hi out _ ho (by rw [fillB_args]; exact hr))
  have h2 : ∀ k, k ≤ rl.length → ∀ a ∈ onceR list level (rl.take k), a.args.length ≤ 1000 := by
    intro k
    induction k with
    | zero => intro _ a ha; simp [onceR] at ha
    | succ k ih =>
      intro hk
      rw [onceR_snoc list level rl k (by omega)]
      split
      · exact h1 _ _ _ (h _ (List.getElem_mem (show k < rl.length by omega))) (ih (by omega))
      · exact ih (by omega)
  have := h2 rl.length (Nat.le_refl _)
  rwa [List.take_of_length_le (Nat.le_refl _)] at this

set_option maxHeartbeats 1000000 in
theorem once_spec (rs : List Ru) (xs : List A) (v1 v2 : Value) (b1 b2 : List Nat) (w : World) (h : rulesK w [v1] rs b1) (h2 : atomsK w [v2] xs b2) :
    Calls Tryz.prog 8 #[v1, v2] w fun e w' => Below w.heap.size w w' ∧ ∃ v bs, e = .returned v ∧ atomsK w' [v] (onceV rs xs) bs := by
  have c1 := factsFit_spec rs xs v1 v2 b1 b2 w h h2
  have HR := Lib.hid h
  have HX := Lib.hid h2
  obtain ⟨Ar, pr, rfl, hr1, hr2⟩ := sliceK_form h
  clear h h2 hr1 hr2
  cases hok : factsFit rs xs with
  | false =>
    have HE : Hid (onceV rs xs = []) := Lib.hid (by unfold onceV; rw [hok]; rfl)
    rw [hok] at c1
    clear hok
    go_enter Tryz.func8, Tryz.ntmps8
    go_wp2_with fail
    refine c1.mono ?_
    rintro e w1 ⟨rfl, hb1⟩
    have hbe : Below w.heap.size w (w1.alloc (.cells #[] 33)) := hb1.alloc hb1.size _
    clear c1
    go_wp2
    go_ret
    exact ⟨hbe, .slice (some ⟨w1.heap.size, 0, none⟩) 0 0, [], rfl, by rw [HE.out]; exact atoms_empty⟩
  | true =>
    have HE : Hid (onceV rs xs = onceA rs xs) := Lib.hid (by unfold onceV; rw [hok]; rfl)
    have HK := Lib.hid (factsFit_once hok)
    have hm8 : rs.length ≤ 8 := HK.out.m
    have hmk := fun w' => run_make_row' (P := Tryz.prog) 65 3 (.int .i64 0) 8 Tryz.underlying65 infoIntO rfl .i64 .i64 rs.length (by omega) (by omega) w'
    rw [hok] at c1
    clear hok
    go_enter Tryz.func8, Tryz.ntmps8
    go_wp2_with fail
    refine c1.mono ?_
    rintro e w1 ⟨rfl, hb1⟩
    have hA1 : Below w1.heap.size w1 (w1.alloc (.cells (madeCells #[.int .i64 0] rs.length) 3)) := (Below.refl _ _).alloc (Nat.le_refl _) _
    have BA := Lib.hid (hb1.trans (hA1.mono hb1.size))
    obtain ⟨bz, hz1, hz2⟩ := ints_zeroO rs.length (heap_alloc_new w1 _) (by unfold maxLen; omega)
    have q5 := once_any rs (List.replicate rs.length 0) 0 xs _ _ _ b1 bz b2 _ (rulesK_good.below HR.out BA.out) hz1 (atomsK_good.below HX.out BA.out) (List.length_replicate ..) HK.out.asc HK.out.n hm8 HK.out.rules
    have HOL : Hid ((onceA rs xs).length ≤ 64800000000) := Lib.hid (by
      refine Nat.le_trans (onceR_lenO (B := 8100000000) (fun p hp => allB_len HK.out.n (HK.out.rules _ (List.of_mem_zip hp).1).1)) ?_
      rw [List.length_zip]
      omega)
    have HOA : Hid (∀ a ∈ onceA rs xs, a.args.length ≤ 16777216) := Lib.hid fun a ha => Nat.le_trans (onceR_args (fun p hp => (HK.out.rules _ (List.of_mem_zip hp).1).2.1) a ha) (by omega)
    clear c1 hb1 hA1 hz1 hz2
    go_wp2_with fail
    refine q5.mono ?_
    rintro e w5 ⟨hb5, v5, b5, rfl, h5, hf5⟩
    have B5 := Lib.hid (BA.out.trans (hb5.mono BA.out.size))
    have q6 := l3Copy_big (onceA rs xs) v5 b5 w5 h5 (by have := HOL.out; omega) HOA.out
    clear q5 h5 hf5 hb5 hmk
    go_wp2_with fail
    refine q6.mono ?_
    rintro e w6 ⟨hb6, v6, b6, rfl, h6, hf6⟩
    have B6 := B5.out.trans (hb6.mono B5.out.size)
    have H6 := Lib.hid h6
    clear q6 h6 hf6 hb6
    go_wp2
    go_ret
    exact ⟨B6, v6, b6, rfl, by rw [HE.out]; exact H6.out⟩

/-- Drawn rules and facts. -/
def GivO (w : World) (e : Ending) (w' : World) : Prop := ∃ (rs : List Ru) (A0 : Option Addr) (c0 : Nat) (b0 : List Nat) (xs : List A) (A1 : Option Addr) (c1 : Nat) (b1 : List Nat), e = .returned (.tuple #[.slice A0 rs.length c0, .slice A1 xs.length c1]) ∧ rulesK w' [.slice A0 rs.length c0] rs b0 ∧ atomsK w' [.slice A1 xs.length c1] xs b1 ∧
    rs.length ≤ 9 ∧ (∀ r ∈ rs, RuS r) ∧ xs.length ≤ 50 ∧ (∀ a ∈ xs, a.args.length ≤ 4) ∧ Below w.heap.size w w'

set_option maxHeartbeats 1000000 in
theorem drawOnce_any (v : Value) (cs : List UInt8) (bs : List Nat) (w : World) (h : bytesK w [v] cs bs) (hn : cs.length ≤ 1048576) :
    Calls Tryz.prog 5 #[v] w (GivO w) := by
  have ho := open_any v cs bs w h hn
  clear h
  go_enter Tryz.func5, Tryz.ntmps5
  go_wp2_with fail
  refine ho.mono ?_
  rintro e w1 ⟨rfl, hR, hb⟩
  have HB := Lib.hid hb
  have hd := l10Given_any _ 0 w1 hR (by omega)
  clear ho hb
  go_wp2_with fail
  refine hd.mono ?_
  rintro e w2 ⟨rs, A0, c0, b0, xs, A1, c1, b1, p', rfl, h1, h2, _, _, h3, h4, h5, h6, _, _, hK⟩
  have HZ : Hid (GivO w (.returned (.tuple #[.slice A0 rs.length c0, .slice A1 xs.length c1])) w2) := Lib.hid ⟨rs, A0, c0, b0, xs, A1, c1, b1, rfl, h1, h2, h3, h4, h5, h6, HB.out.trans (hK.below (fun b hb => by simp at hb; omega) HB.out.size)⟩
  clear hd h1 h2 h3 h4 h5 h6 hK
  go_wp2
  go_ret2
  exact HZ.out

end Go.Proofs.YtjjfafgaphloaaaGreatDoor
namespace Go.Proofs.YtjjfafgaphloaaaGreatDoor
open Go.RowKit Go.ChangeMaps Go.MapKept D
set_option linter.unusedVariables false
/-- The entries' stamps: below the clock, no two alike. -/
def D.Timed (b : Nat) (w : World) : Prop := ∃ es ck, w.heap[b]? = some (.map es ck) ∧ (∀ x ∈ es.toList, x.born < ck) ∧ (es.toList.map (·.born)).Nodup

theorem D.Timed.same {b : Nat} {w w' : World} (h : Timed b w) (e : w'.heap[b]? = w.heap[b]?) : Timed b w' := by
  obtain ⟨es, ck, h1, h2⟩ := h
  exact ⟨es, ck, e.trans h1, h2⟩

theorem D.Timed.push {b ck : Nat} {es : Array MapEntry} {w : World} (hb : w.heap[b]? = some (.map es ck)) (k v : Value) (h : Timed b w) : Timed b (setBlock w b (.map (es.push ⟨k, v, ck⟩) (ck + 1))) := by
  obtain ⟨es', ck', h1, h2, h3⟩ := h
  rw [hb] at h1
  cases h1
  refine ⟨_, _, heap_setBlock_same hb _, fun x hx => ?_, ?_⟩
  · rw [Array.toList_push] at hx
    rcases List.mem_append.1 hx with hx | hx
    · exact Nat.lt_succ_of_lt (h2 x hx)
    · rw [List.mem_singleton.1 hx]; exact Nat.lt_succ_self _
  · rw [Array.toList_push, List.map_append]
    refine List.nodup_append.2 ⟨h3, by simp, fun x hx y hy e => ?_⟩
    obtain ⟨z, hz, rfl⟩ := List.mem_map.1 hx
    simp at hy
    have := h2 z hz
    omega

theorem D.Timed.modify {b ck i : Nat} {es : Array MapEntry} {w : World} (hb : w.heap[b]? = some (.map es ck)) (k v : Value) (h : Timed b w) : Timed b (setBlock w b (.map (es.modify i fun e => { e with key := k, val := v }) ck)) := by
  obtain ⟨es', ck', h1, h2, h3⟩ := h
  rw [hb] at h1
  cases h1
  have e0 : ((es.modify i fun e => { e with key := k, val := v }).toList.map (·.born)) = es.toList.map (·.born) := by
    apply List.ext_getElem
    · simp
    · intro j h1 h2
      simp only [List.getElem_map, Array.toList_modify, List.getElem_modify]
      split <;> rfl
  refine ⟨_, _, heap_setBlock_same hb _, fun x hx => ?_, by rw [e0]; exact h3⟩
  have : x.born ∈ es.toList.map (·.born) := by rw [← e0]; exact List.mem_map.2 ⟨x, hx, rfl⟩
  obtain ⟨y, hy, e⟩ := List.mem_map.1 this
  rw [← e]
  exact h2 y hy

theorem D.Timed.made (w : World) : Timed w.heap.size (w.alloc (.map #[] 0)) := ⟨#[], 0, (MapKept.heap_alloc w _).1, fun x h => by simp at h, by simp⟩

theorem run_mapv_new {P : Program} {kt : TypeId} {W : World → Prop} {S : Value → Prop} (hK : KeyV P kt W S) {w : World} (hW : W w) {t e : TypeId} (ht : P.underlying t = some (.map kt e)) {b : Nat} {L : List (Value × Value)} {k : Value} (v : Value) (h : MapV S b L w) (hS : S k) (hk : ∀ p ∈ L, p.1 ≠ k) :
    ∃ w', (Instr.mapUpdate t (.map (some b)) k v).run P w = .ok () w' ∧ MapV S b (L ++ [(k, v)]) w' ∧ w.grownBy w' (some b) ∧ (Timed b w → Timed b w') := by
  obtain ⟨⟨es, ck, hb, rfl⟩, h2, h3⟩ := h
  have hSs : ∀ e ∈ es.toList, S e.key := fun e he => h2 (e.key, e.val) (List.mem_map.2 ⟨e, he, rfl⟩)
  rcases findKey_v hK hW hS es.toList hSs with ⟨h5, h6⟩ | ⟨i, e1, h5, h6, h7⟩
  · refine ⟨setBlock w b (.map (es.push ⟨k, v, ck⟩) (ck + 1)), ?_, ⟨⟨_, _, heap_setBlock_same hb _, by simp⟩, ?_, ?_⟩, grown_setBlock hb _, Timed.push hb k v⟩
    · simp [Instr.mapUpdate, run_underlying ht, MapKept.run_getObj_map hb, hK.check w false hS, h5, MapKept.run_setObj_map _ hb, Result.andThen, setBlock]
    · intro p hp
      rcases List.mem_append.1 hp with hp | hp
      · exact h2 p hp
      · rw [List.mem_singleton.1 hp]
        exact hS
    · refine List.pairwise_append.2 ⟨h3, List.pairwise_singleton _ _, fun p hp q hq => ?_⟩
      rw [List.mem_singleton.1 hq]
      exact hk p hp
  · exact absurd h7 (hk (e1.key, e1.val) (List.mem_map.2 ⟨e1, List.mem_of_getElem? h6, rfl⟩))

theorem run_mapt_put {P : Program} {kt : TypeId} {W : World → Prop} {S : Value → Prop} (hK : KeyV P kt W S) {w : World} (hW : W w) {t e : TypeId} (ht : P.underlying t = some (.map kt e))
    {b : Nat} {A B : List (Value × Value)} {k u : Value} (v : Value) (h : MapV S b (A ++ (k, u) :: B) w) : ∃ w', (Instr.mapUpdate t (.map (some b)) k v).run P w = .ok () w' ∧ MapV S b (A ++ (k, v) :: B) w' ∧ w.grownBy w' (some b) ∧ (Timed b w → Timed b w') := by
  obtain ⟨⟨es, ck, hb, hL⟩, h2, h3⟩ := h
  have hS : S k := h2 (k, u) (by simp)
  have hSs : ∀ e ∈ es.toList, S e.key := fun e he => h2 (e.key, e.val) (hL ▸ List.mem_map.2 ⟨e, he, rfl⟩)
  rcases findKey_v hK hW hS es.toList hSs with ⟨h5, h6⟩ | ⟨i, e1, h5, h6, h7⟩
  · have : (k, u) ∈ es.toList.map (fun e => (e.key, e.val)) := by rw [hL]; simp
    obtain ⟨e0, he0, hee⟩ := List.mem_map.1 this
    simp only [Prod.mk.injEq] at hee
    exact absurd hee.1 (h6 e0 he0)
  · have hi1 : (A ++ (k, u) :: B)[i]? = some (e1.key, e1.val) := by rw [← hL]; simp [h6]
    have hiA : i = A.length := once_at h3 hi1 split_at (by simp [h7])
    subst hiA
    have hj : es[A.length]? = some e1 := by simpa using h6
    have hst : ∀ w, (Instr.keyThatStays e1.key k).run P w = .ok k w := fun w => by simp [Instr.keyThatStays, h7, hK.same hS]
    have hrun : (Instr.mapUpdate t (.map (some b)) k v).run P w = .ok () (setBlock w b (.map (es.modify A.length fun e => { e with key := k, val := v }) ck)) := by
      have hst' := hst w
      rw [h7] at hst'
      simp [Instr.mapUpdate, run_underlying ht, MapKept.run_getObj_map hb, hK.check w false hS, h5, hj, h7, hst', MapKept.run_setObj_map _ hb, Result.andThen, setBlock]
    have hlist : ((es.modify A.length (fun e => { e with key := k, val := v })).toList.map fun e => (e.key, e.val)) = A ++ (k, v) :: B := by
      rw [Array.toList_modify, ChangeMaps.modify_eq_set _ _ _ _ h6, List.map_set, hL]
      simp
    refine ⟨_, hrun, ⟨⟨_, _, heap_setBlock_same hb _, hlist⟩, ?_, ?_⟩, grown_setBlock hb _, Timed.modify hb k v⟩
    · intro p hp
      rcases List.mem_append.1 hp with hp | hp
      · exact h2 p (by simp [hp])
      · rcases List.mem_cons.1 hp with rfl | hp
        · exact hS
        · exact h2 p (by simp [hp])
    · have := List.pairwise_append.1 h3
      have h9 := List.pairwise_cons.1 this.2.1
      refine List.pairwise_append.2 ⟨this.1, List.pairwise_cons.2 ⟨fun q hq => h9.1 q hq, h9.2⟩, fun p hp q hq => ?_⟩
      rcases List.mem_cons.1 hq with rfl | hq
      · exact this.2.2 p hp (k, u) (by simp)
      · exact this.2.2 p hp q (by simp [hq])

/-- A fact that was found: its cells, and its blocks. -/
structure D.Fe where
  t : A
  c1 : Value
  ba : List Nat

def D.Fe.kv (x : Fe) : Value × Value := (.string (aText x.t), .agg #[.string x.t.name, x.c1])

theorem D.New.swap {B : Nat} {w : World} {l1 m l2 n : List Nat} (h : New B w (l1 ++ m ++ l2)) (hn : New B w n) (hd : ∀ x ∈ n, x ∉ l1 ∧ x ∉ l2) : New B w (l1 ++ n ++ l2) := by
  obtain ⟨n1, n2, n3⟩ := List.nodup_append.1 h.nodup
  obtain ⟨m1, m2, m3⟩ := List.nodup_append.1 n1
  refine ⟨List.nodup_append.2 ⟨List.nodup_append.2 ⟨m1, hn.nodup, fun x hx y hy e => (hd y hy).1 (e ▸ hx)⟩, n2, fun x hx y hy e => ?_⟩, fun b hb => ?_⟩
  · rcases List.mem_append.1 hx with hx | hx
    · exact n3 x (List.mem_append_left _ hx) y hy e
    · exact (hd x hx).2 (e ▸ hy)
  · rcases List.mem_append.1 hb with hb | hb
    · rcases List.mem_append.1 hb with hb | hb
      · exact h.own b (List.mem_append_left _ (List.mem_append_left _ hb))
      · exact hn.own b hb
    · exact h.own b (List.mem_append_right _ hb)

/-- The map 'found' in block mf, in a variable's block a6; fb are the blocks that it rests on. -/
structure D.FndSt (a6 mf : Nat) (w : World) (told : List A) (fb : List Nat) : Prop where
  box : w.heap[a6]? = some (.cells #[.map (some mf)] 50 (0, 0))
  map : ∃ E : List Fe, MapV isStr mf (E.map Fe.kv) w ∧ (∀ x ∈ E, x.t ∈ told ∧ FactOk x.t ∧ atomK w [.string x.t.name, x.c1] x.t x.ba ∧ ∀ b ∈ x.ba, b ∈ fb ∧ b ≠ mf) ∧ (∀ t ∈ told, ∃ x ∈ E, aText x.t = aText t) ∧ New a6 w (E.flatMap (·.ba))
  own : a6 ∈ fb ∧ mf ∈ fb ∧ a6 ≠ mf
  lt : ∀ x ∈ fb, x < w.heap.size
  tm : Timed mf w
  tok : ∀ t ∈ told, FactOk t

theorem D.FndSt.keep {a6 mf : Nat} {told : List A} {fb : List Nat} {w w' : World} (h : FndSt a6 mf w told fb) (hk : ∀ x ∈ fb, w'.heap[x]? = w.heap[x]?) (hs : w.heap.size ≤ w'.heap.size) : FndSt a6 mf w' told fb := by
  obtain ⟨E, h1, h2, h3, h4⟩ := h.map
  refine ⟨(hk _ h.own.1).trans h.box, ⟨E, h1.same (hk _ h.own.2.1), fun x hx => ?_, h3, h4.keep fun b hb => ?_⟩, h.own, fun x hx => Nat.lt_of_lt_of_le (h.lt x hx) hs, h.tm.same (hk _ h.own.2.1), h.tok⟩
  · obtain ⟨g1, g2, g4, g5⟩ := h2 x hx
    exact ⟨g1, g2, atomK_good.keep g4 fun b hb => hk b (g5 b hb).1, g5⟩
  · obtain ⟨x, hx, hb⟩ := List.mem_flatMap.1 hb
    exact hk b ((h2 x hx).2.2.2 b hb).1

theorem D.FndSt.made {a6 mf : Nat} {w : World} (h1 : w.heap[a6]? = some (.cells #[.map (some mf)] 50 (0, 0))) (h2 : MapV isStr mf [] w) (htm : Timed mf w) (hne : a6 ≠ mf) : FndSt a6 mf w [] [a6, mf] :=
  ⟨h1, ⟨[], h2, fun p hp => by simp at hp, fun t ht => by simp at ht, New.nil _ _⟩, ⟨by simp, by simp, hne⟩, fun x hx => by
    simp at hx
    rcases hx with rfl | rfl
    · exact lt_of_block h1
    · exact h2.lt, htm, fun t ht => by simp at ht⟩

/-- A fact is put under its text. -/
theorem D.FndSt.put {a6 mf : Nat} {told : List A} {fb : List Nat} {w : World} (h : FndSt a6 mf w told fb) {a : A} {c1 : Value} {ba : List Nat} (ha : atomK w [.string a.name, c1] a ba) (hok : FactOk a) (hn : New a6 w ba) (hd : ∀ x ∈ ba, x ∉ fb) :
    ∃ w', (Instr.mapUpdate 50 (.map (some mf)) (.string (aText a)) (.agg #[.string a.name, c1])).run Tryz.prog w = .ok () w' ∧ FndSt a6 mf w' (told ++ [a]) (fb ++ ba) ∧ w.grownBy w' (some mf) := by
  obtain ⟨E, h1, h2, h3, h4⟩ := h.map
  have hb : mf ∉ ba := fun hm => hd mf hm h.own.2.1
  have fin : ∀ (w' : World) (E' : List Fe), MapV isStr mf (E'.map Fe.kv) w' → w.grownBy w' (some mf) → Timed mf w' → (∀ x ∈ E', x ∈ E ∨ x = ⟨a, c1, ba⟩) → (∀ x ∈ E, ∃ y ∈ E', aText y.t = aText x.t) → (⟨a, c1, ba⟩ : Fe) ∈ E' → New a6 w (E'.flatMap (·.ba)) → FndSt a6 mf w' (told ++ [a]) (fb ++ ba) := by
    intro w' E' m1 m2 mt m3 m4 m5 m6
    have kp : ∀ x, x < w.heap.size → x ≠ mf → w'.heap[x]? = w.heap[x]? := fun x hx hne => m2.block x hx (fun e => hne (by injection e))
    refine ⟨(kp _ (lt_of_block h.box) h.own.2.2).trans h.box, ⟨E', m1, fun x hx => ?_, fun t ht => ?_, m6.keep fun b hb' => ?_⟩, ⟨List.mem_append_left _ h.own.1, List.mem_append_left _ h.own.2.1, h.own.2.2⟩, fun x hx => ?_, mt, fun t ht => ?_⟩
    · rcases m3 x hx with hx | rfl
      · obtain ⟨g1, g2, g4, g5⟩ := h2 x hx
        exact ⟨List.mem_append_left _ g1, g2, atomK_good.keep g4 fun b hb' => kp b (atomK_good.lt g4 b hb') (g5 b hb').2, fun b hb' => ⟨List.mem_append_left _ (g5 b hb').1, (g5 b hb').2⟩⟩
      · exact ⟨by simp, hok, atomK_good.keep ha fun x hx => kp x (atomK_good.lt ha x hx) (fun e => hb (e ▸ hx)), fun x hx => ⟨List.mem_append_right _ hx, fun e => hb (e ▸ hx)⟩⟩
    · rcases List.mem_append.1 ht with ht | ht
      · obtain ⟨x, hx, e⟩ := h3 t ht
        obtain ⟨y, hy, e2⟩ := m4 x hx
        exact ⟨y, hy, e2.trans e⟩
      · rw [List.mem_singleton.1 ht]
        exact ⟨_, m5, rfl⟩
    · refine kp b (m6.lt hb') fun e => ?_
      obtain ⟨x, hx, hbx⟩ := List.mem_flatMap.1 hb'
      rcases m3 x hx with hx | rfl
      · exact ((h2 x hx).2.2.2 b hbx).2 e
      · exact hb (e ▸ hbx)
    · rcases List.mem_append.1 hx with hx | hx
      · exact Nat.lt_of_lt_of_le (h.lt x hx) m2.size
      · exact Nat.lt_of_lt_of_le (atomK_good.lt ha x hx) m2.size
    · rcases List.mem_append.1 ht with ht | ht
      · exact h.tok t ht
      · rw [List.mem_singleton.1 ht]; exact hok
  by_cases hex : ∃ x ∈ E, aText x.t = aText a
  · obtain ⟨x, hx, e⟩ := hex
    obtain ⟨A1, B1, rfl⟩ := List.append_of_mem hx
    have e0 : (A1 ++ x :: B1).map Fe.kv = A1.map Fe.kv ++ ((.string (aText a) : Value), (.agg #[.string x.t.name, x.c1] : Value)) :: B1.map Fe.kv := by rw [List.map_append, List.map_cons]; unfold Fe.kv; rw [e]
    rw [e0] at h1
    obtain ⟨w', r1, r2, r3, r4⟩ := run_mapt_put keyV_str (w := w) trivial Tryz.underlying50 (.agg #[.string a.name, c1]) h1
    refine ⟨w', r1, fin w' (A1 ++ ⟨a, c1, ba⟩ :: B1) (by rw [List.map_append, List.map_cons]; exact r2) r3 (r4 h.tm) (fun y hy => ?_) (fun y hy => ?_) (by simp) ?_, r3⟩
    · rcases List.mem_append.1 hy with hy | hy
      · exact .inl (List.mem_append_left _ hy)
      · rcases List.mem_cons.1 hy with rfl | hy
        · exact .inr rfl
        · exact .inl (List.mem_append_right _ (List.mem_cons_of_mem _ hy))
    · rcases List.mem_append.1 hy with hy | hy
      · exact ⟨y, List.mem_append_left _ hy, rfl⟩
      · rcases List.mem_cons.1 hy with rfl | hy
        · exact ⟨⟨a, c1, ba⟩, by simp, e.symm⟩
        · exact ⟨y, List.mem_append_right _ (List.mem_cons_of_mem _ hy), rfl⟩
    · have h5 : New a6 w (A1.flatMap (·.ba) ++ x.ba ++ B1.flatMap (·.ba)) := by simpa [List.flatMap_append, List.flatMap_cons] using h4
      have h6 := New.swap h5 hn fun y hy => ⟨fun hm => ?_, fun hm => ?_⟩
      · simpa [List.flatMap_append, List.flatMap_cons] using h6
      · obtain ⟨z, hz, hzy⟩ := List.mem_flatMap.1 hm
        exact hd y hy ((h2 z (by simp [hz])).2.2.2 y hzy).1
      · obtain ⟨z, hz, hzy⟩ := List.mem_flatMap.1 hm
        exact hd y hy ((h2 z (by simp [hz])).2.2.2 y hzy).1
  · have hno : ∀ p ∈ E.map Fe.kv, p.1 ≠ .string (aText a) := fun p hp e => by
      obtain ⟨x, hx, rfl⟩ := List.mem_map.1 hp
      unfold Fe.kv at e
      exact hex ⟨x, hx, by simpa using e⟩
    obtain ⟨w', r1, r2, r3, r4⟩ := run_mapv_new keyV_str (w := w) trivial Tryz.underlying50 (.agg #[.string a.name, c1]) h1 ⟨_, rfl, aText_size hok.ok⟩ hno
    refine ⟨w', r1, fin w' (E ++ [⟨a, c1, ba⟩]) (by rw [List.map_append]; exact r2) r3 (r4 h.tm) (fun y hy => ?_) (fun y hy => ⟨y, List.mem_append_left _ hy, rfl⟩) (by simp) ?_, r3⟩
    · rcases List.mem_append.1 hy with hy | hy
      · exact .inl hy
      · exact .inr (List.mem_singleton.1 hy)
    · have h6 := New.swap (l2 := []) (m := []) (by simpa using h4) hn fun y hy => ⟨fun hm => ?_, by simp⟩
      · simpa [List.flatMap_append] using h6
      · obtain ⟨z, hz, hzy⟩ := List.mem_flatMap.1 hm
        exact hd y hy ((h2 z hz).2.2.2 y hzy).1

end Go.Proofs.YtjjfafgaphloaaaGreatDoor
namespace Go.Proofs.YtjjfafgaphloaaaGreatDoor
open Go.RowKit D
set_option linter.unusedVariables false
/-- What a search rests on. -/
structure D.RunEnv (vars : List ByteArray) (fs ps ns : List A) (head : A) (wt : Nat → Bool) : Prop where
  hv : VarsOk vars
  p4 : ps.length ≤ 4
  fl : fs.length ≤ 1000000
  nl : ns.length ≤ 1000000
  fok : ∀ f ∈ fs, FactOk f
  pok : ∀ p ∈ ps, atomOk p = true
  nok : ∀ n ∈ ns, atomOk n = true
  hok : atomOk head = true
  pin : ∀ p ∈ ps, ∀ t ∈ p.args, t.var = true → t.name ∈ vars
  nin : ∀ n ∈ ns, ∀ t ∈ n.args, t.var = true → t.name ∈ vars
  hin : ∀ t ∈ head.args, t.var = true → t.name ∈ vars
  want : ∀ i, i < 12 → wt i = matB vars head ns i
  tight : ∀ b, (∀ p ∈ ps, Cov b p.args) → Cov b head.args ∧ ∀ n ∈ ns, Cov b n.args

/-- What a run leaves: blocks of K, and what lies beside the bindings. -/
structure D.RunKept (K : Nat → Prop) (sk : Nat) (w w' : World) : Prop where
  os : w'.os = w.os
  tape : w'.tape = w.tape
  output : w'.output = w.output
  size : w.heap.size ≤ w'.heap.size
  block : ∀ k, k < w.heap.size → K k → w'.heap[k]? = w.heap[k]?
  rest : ∀ q, (q < 18 ∨ 43 ≤ q) → w'.cell? ⟨sk, q, none⟩ = w.cell? ⟨sk, q, none⟩

section
variable {K : Nat → Prop} {sk : Nat} {w w' w2 : World}
theorem D.RunKept.trans (h : RunKept K sk w w') (k : RunKept K sk w' w2) : RunKept K sk w w2 :=
  ⟨k.os.trans h.os, k.tape.trans h.tape, k.output.trans h.output, Nat.le_trans h.size k.size, fun i hi hK => (k.block i (Nat.lt_of_lt_of_le hi h.size) hK).trans (h.block i hi hK), fun q hq => (k.rest q hq).trans (h.rest q hq)⟩

theorem D.RunKept.of_bd (hK : ∀ k, K k → k ≠ sk) (h : BdKept sk 18 w w') : RunKept K sk w w' :=
  ⟨h.grow.os, h.grow.tape, h.grow.output, h.grow.size, fun k hk hKk => h.block hk (hK k hKk), fun q hq => h.rest q (by omega)⟩

theorem D.RunKept.of_below (hs : sk < w.heap.size) (h : Below w.heap.size w w') : RunKept K sk w w' :=
  ⟨h.os, h.tape, h.output, h.size, fun k hk _ => h.block k hk, fun q _ => World.cell?_of_block (h.block _ hs)⟩

theorem D.RunKept.keep {α : Type} {R : Rel α} (g : Good R) {cs : List Value} {x : α} {bs : List Nat} (h : RunKept K sk w w') (hr : R w cs x bs) (hb : ∀ b ∈ bs, K b) : R w' cs x bs :=
  g.keep hr fun b hb' => h.block b (g.lt hr b hb') (hb b hb')

theorem D.SeaV.run {sb : Nat} {v1 v2 : Value} {wt : Nat → Bool} {io : Bool} {ah : Int} {tell : Value} (h : SeaV sk sb v1 v2 wt io ah tell w) (k : RunKept K sk w w') : SeaV sk sb v1 v2 wt io ah tell w' :=
  ⟨(k.rest _ (by omega)).trans h.st, (k.rest _ (by omega)).trans h.p1, (k.rest _ (by omega)).trans h.p2, fun i hi => (k.rest _ (by omega)).trans (h.wd i hi), (k.rest _ (by omega)).trans h.io, (k.rest _ (by omega)).trans h.ah, (k.rest _ (by omega)).trans h.tl⟩

end
/-- The search, its store and its query in memory. -/
structure D.RunSt (vars : List ByteArray) (fs : List A) (rn : List Nat) (bs : List Nat) (ps ns : List A) (sk sb : Nat) (v1 v2 : Value) (bp bn : List Nat) (wt : Nat → Bool) (ah : Int) (tell : Value) (K : Nat → Prop) (b : Bd) (w : World) : Prop where
  sea : SeaV sk sb v1 v2 wt false ah tell w
  at_ : BdAt vars b sk 18 w
  ok : BdOk vars b
  wds : WdsOk b
  sto : StoreV sb fs rn bs w
  pps : patsK vars w [v1] ps bp
  pns : patsK vars w [v2] ns bn
  kbs : ∀ x ∈ bs, K x
  kbp : ∀ x ∈ bp, K x
  kbn : ∀ x ∈ bn, K x

section
variable {vars : List ByteArray} {fs : List A} {rn : List Nat} {bs : List Nat} {ps ns : List A} {sk sb : Nat} {v1 v2 : Value} {bp bn : List Nat} {wt : Nat → Bool} {ah : Int} {tell : Value} {K : Nat → Prop} {b b' : Bd} {w w' : World}
theorem D.RunSt.kept (h : RunSt vars fs rn bs ps ns sk sb v1 v2 bp bn wt ah tell K b w) (k : RunKept K sk w w') (h1 : BdAt vars b' sk 18 w') (h2 : BdOk vars b') (h3 : WdsOk b') : RunSt vars fs rn bs ps ns sk sb v1 v2 bp bn wt ah tell K b' w' :=
  ⟨h.sea.run k, h1, h2, h3, h.sto.keep (fun x hx => k.block x (h.sto.lt x hx) (h.kbs x hx)) k.size, k.keep (patsK_good vars) h.pps h.kbp, k.keep (patsK_good vars) h.pns h.kbn, h.kbs, h.kbp, h.kbn⟩

theorem D.RunSt.below (h : RunSt vars fs rn bs ps ns sk sb v1 v2 bp bn wt ah tell K b w) (k : Below w.heap.size w w') : RunSt vars fs rn bs ps ns sk sb v1 v2 bp bn wt ah tell K b w' :=
  h.kept (RunKept.of_below h.sea.lt k) (h.at_.keep (k.block _ h.sea.lt)) h.ok h.wds

end
/-- What tell does: it puts a fact behind what was told, and says whether to go on. -/
structure D.TellOk (vars : List ByteArray) (head : A) (sk : Nat) (K : Nat → Prop) (c5 c7 : Addr) (T : World → List A → Prop) (go : List A → Bool) : Prop where
  call : ∀ (w : World) (b : Bd) (told : List A), BdOk vars b → WdsOk b → Cov b head.args → BdAt vars b sk 18 w → T w told → Calls Tryz.prog 59 #[.pointer (some ⟨sk, 18, none⟩), .pointer (some c5), .pointer (some c7)] w fun e w' =>
    e = .returned (.bool (go (told ++ [fillB head b]))) ∧ T w' (told ++ [fillB head b]) ∧ RunKept K sk w w' ∧ w'.heap[sk]? = w.heap[sk]?
  keep : ∀ (w w' : World) (told : List A), T w told → BdKept sk 18 w w' → T w' told

/-- What a run leaves and tells. -/
def D.RunPost (vars : List ByteArray) (fs ps ns : List A) (head : A) (K : Nat → Prop) (sk : Nat) (T : World → List A → Prop) (go : List A → Bool) (b : Bd) (left : Nat) (told : List A) (held more : Bool) (w w' : World) : Prop :=
  ∃ ts, RunKept K sk w w' ∧ BdAt vars b sk 18 w' ∧ T w' (told ++ ts) ∧ (∀ t ∈ ts, ∃ σ, SolW fs ps ns b left σ ∧ fillW σ head = t) ∧ (more = true → ∀ σ, SolW fs ps ns b left σ → fillW σ head ∈ ts) ∧ (held = true → ts ≠ []) ∧ (more = false → go (told ++ ts) = false)

section
variable {vars : List ByteArray} {fs ps ns : List A} {head : A} {wt : Nat → Bool} {K : Nat → Prop} {sk : Nat} {T : World → List A → Prop} {go : List A → Bool} {b : Bd} {left : Nat} {told : List A} {w w' : World}
theorem D.arg_const {a : A} (h : atomOk a = true) : ∀ t ∈ a.args, t.var = false → t.name ≠ ⟨#[]⟩ := fun t ht hv => by
  unfold atomOk at h
  simp only [Bool.and_eq_true, decide_eq_true_eq, List.all_eq_true] at h
  have := h.2 t ht
  unfold termOk at this
  rw [hv] at this
  exact nameOk_full (by simpa using this)

theorem D.arg_few {a : A} (h : atomOk a = true) : a.args.length ≤ 3 := by
  unfold atomOk at h
  simp only [Bool.and_eq_true, decide_eq_true_eq] at h
  exact h.1.2

/-- Where one is there that must not be, nothing follows. -/
theorem D.none_hin (E : RunEnv vars fs ps ns head wt) (hw : WdsOk b) (hc : ∀ n ∈ ns, Cov b n.args) (h : hinB fs ns b = true) (σ : Wo) : ¬ SolW fs ps ns b left σ := by
  rintro ⟨h1, _, h3⟩
  obtain ⟨n, hn, h4⟩ := List.any_eq_true.1 h
  have := (mem_text E.fok (fill_ok (E.nok n hn) hw (hc n hn))).1 h4
  rw [fillB_cov (hc n hn) h1] at this
  exact h3 n hn this

theorem D.hin_none (E : RunEnv vars fs ps ns head wt) (hw : WdsOk b) (hc : ∀ n ∈ ns, Cov b n.args) (h : hinB fs ns b = false) : ∀ n ∈ ns, fillB n b ∉ fs := fun n hn hm => by
  have h1 : decide (aText (fillB n b) ∈ fs.map aText) = true := (mem_text E.fok (fill_ok (E.nok n hn) hw (hc n hn))).2 hm
  have : hinB fs ns b = true := List.any_eq_true.2 ⟨n, hn, h1⟩
  rw [h] at this; cases this

/-- Where all that matters is bound, one fact alone is told. -/
theorem D.one_told (hc : Cov b head.args) {ts : List A} (hs : ∀ t ∈ ts, ∃ σ, SolW fs ps ns b left σ ∧ fillW σ head = t) (hne : ts ≠ []) (σ : Wo) (h : SolW fs ps ns b left σ) : fillW σ head ∈ ts := by
  obtain ⟨t, ht⟩ := List.exists_mem_of_ne_nil ts hne
  obtain ⟨σ0, h0, e0⟩ := hs t ht
  rw [← fillB_cov hc h.1, fillB_cov hc h0.1, e0]; exact ht

end
end Go.Proofs.YtjjfafgaphloaaaGreatDoor
