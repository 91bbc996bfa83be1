/- Of the proof of FnExactProofNeeds: NdsI. -/
import Derived.Test.YtlmngncogomgeaaM18
import Derived.Test.YtlmngncogomgeaaM22
namespace Go.Proofs.Ytlmngncogomgeaa
open Go.RowKit Go.ChangeMaps D
set_option linter.unusedVariables false
attribute [local go_sem ↓] Go.wp_at_zero Go.wp_at_succ
theorem infoAtmN : (Try.prog.info? 33).map (fun i => (i.zero, i.size, i.bytes)) = some (some (.agg #[.string ⟨#[]⟩, .slice none 0 0]), 2, 40) := by kernel_rfl

theorem D.own_same {w w' : World} {base e size n : Nat} {v : Value} {L : List Value} (h : w.ownsRow base e size v n L) (k : ∀ b, v.ownBlock = some b → w'.heap[b]? = w.heap[b]?) : w'.ownsRow base e size v n L := by
  refine ⟨h.1, h.2.imp id ?_⟩
  rintro ⟨g, cap, cur, rfl, hg, hh, r⟩
  exact ⟨g, cap, cur, rfl, hg, by rw [k g rfl]; exact hh, r⟩

theorem D.own_twoN {w : World} {base base2 e e2 s s2 n n2 : Nat} {v v2 : Value} {L L2 : List Value} (h : w.ownsRow base e s v n L) (h2 : w.ownsRow base2 e2 s2 v2 n2 L2) (hne : e ≠ e2) {b : Nat} (hb : v.ownBlock = some b) : v2.ownBlock ≠ some b := by
  rcases h.2 with ⟨rfl, _⟩ | ⟨g, cap, cur, rfl, hg, hh, r⟩
  · simp [Value.ownBlock] at hb
  · obtain rfl : g = b := by simpa [Value.ownBlock] using hb
    exact own_ne_blk h2 hh hne

def D.knL (K : List (Addr × Pf)) : List (Value × Value) := K.map fun q => (.pointer (some q.1), .int .i64 1)

/-- What lies in memory at the loop's head. -/
structure D.NdW (BS : List Nat) (base : Nat) (v : Value) (st : List Fr) (K : List (Addr × Pf)) (v5 : Value) (L : List Value) (xs : List A) (bo : List Nat) (w : World) : Prop where
  wk : WkX BS base (base + 1) base v st w
  mp : MapV (SP BS) (base + 2) (knL K) w
  co : Coll 2 atomK base 33 w v5 L xs bo
  lo : ∀ b ∈ bo, b < base
  kn : ∀ q ∈ K, AtP BS w q.1 q.2

section
variable {BS : List Nat} {base : Nat} {v : Value} {st : List Fr} {K : List (Addr × Pf)} {v5 : Value} {L : List Value} {xs : List A} {bo : List Nat} {w w' : World}
theorem D.NdW.keep (h : NdW BS base v st K v5 L xs bo w) (hb : Below w.heap.size w w') : NdW BS base v st K v5 L xs bo w' := by
  have hs : ∀ b, b < w.heap.size → w'.heap[b]? = w.heap[b]? := hb.block
  have hl : ∀ b ∈ BS, w'.heap[b]? = w.heap[b]? := fun b hb' => by
    obtain ⟨cs, t, hc⟩ := h.wk.wri b hb'
    exact hs b (lt_of_block hc)
  exact ⟨⟨(hs _ (lt_of_block h.wk.blk)).trans h.wk.blk, own_below h.wk.own hb, h.wk.map.same (hs _ h.wk.map.lt), h.wk.geb, h.wk.ge, h.wk.way.keep hl, h.wk.low, fun b hb' => by rw [hl b hb']; exact h.wk.wri b hb'⟩, h.mp.same (hs _ h.mp.lt), h.co.below atomK_good hb, h.lo, fun q hq => (h.kn q hq).keep hl⟩

/-- Elements of the row stay. -/
theorem D.NdW.coll (h : NdW BS base v st K v5 L xs bo w) (k : ∀ b, v5.ownBlock = some b → w'.heap[b]? = w.heap[b]?) (hlo : ∀ b, b < base → w'.heap[b]? = w.heap[b]?) : Coll 2 atomK base 33 w' v5 L xs bo :=
  ⟨own_same h.co.own k, h.co.row.keep atomK_good fun b hb => hlo b (h.lo b hb), h.co.far⟩

/-- The way has turned, and nothing else. -/
theorem D.NdW.turn {v' : Value} {st' : List Fr} (h : NdW BS base v st K v5 L xs bo w) (hw : WkX BS base (base + 1) base v' st' w') (hF : FrS (base + 1) base v.ownBlock w w') (hB : Below base w w') : NdW BS base v' st' K v5 L xs bo w' := by
  have hlo : ∀ b, b < base → w'.heap[b]? = w.heap[b]? := hB.block
  refine ⟨hw, h.mp.same (hF _ h.mp.lt (by omega) (by omega) (own_ne_map h.wk.own h.mp)), h.coll (fun b hb => ?_) hlo, h.lo, fun q hq => (h.kn q hq).keep fun b hb => hlo b (h.wk.low b hb)⟩
  obtain ⟨A, cap, rfl⟩ := own_shape h.co.own
  have hbl : b < w.heap.size := by
    rcases h.co.own.2 with ⟨e, _⟩ | ⟨g, c, cur, e, hg, hh, r⟩
    · rw [e] at hb; simp [Value.ownBlock] at hb
    · rw [e] at hb
      obtain rfl : g = b := by simpa [Value.ownBlock] using hb
      exact lt_of_block hh
  refine hF b hbl (fun e => ?_) (fun e => ?_) fun e => ?_
  · exact own_ne_blk h.co.own h.wk.blk (by decide) (e ▸ hb)
  · exact own_ne_map h.co.own h.wk.map (e ▸ hb)
  · exact own_twoN h.co.own h.wk.own (by decide) hb e

/-- One more is known. -/
theorem D.NdW.learn {a : Addr} {q : Pf} (h : NdW BS base v st K v5 L xs bo w) (hm : MapV (SP BS) (base + 2) (knL (K ++ [(a, q)])) w') (hg : w.grownBy w' (some (base + 2))) (ha : AtP BS w a q) : NdW BS base v st (K ++ [(a, q)]) v5 L xs bo w' := by
  have hs : ∀ b, b < w.heap.size → b ≠ base + 2 → w'.heap[b]? = w.heap[b]? := fun b hb hne => hg.block b hb fun e => hne (by injection e)
  have hl : ∀ b ∈ BS, w'.heap[b]? = w.heap[b]? := fun b hb' => by
    obtain ⟨cs, t, hc⟩ := h.wk.wri b hb'
    exact hs b (lt_of_block hc) (by have := h.wk.low b hb'; omega)
  have ob : ∀ {e n : Nat} {u : Value} {M : List Value} {s : Nat}, w.ownsRow base e s u n M → ∀ b, u.ownBlock = some b → w'.heap[b]? = w.heap[b]? := fun {e n u M s} ho b hb => by
    rcases ho.2 with ⟨e', _⟩ | ⟨g, c, cur, e', hg', hh, r⟩
    · rw [e'] at hb; simp [Value.ownBlock] at hb
    · have hne := own_ne_map ho h.mp
      rw [e'] at hb
      obtain rfl : g = b := by simpa [Value.ownBlock] using hb
      exact hs g (lt_of_block hh) (fun e2 => hne (by rw [e']; exact congrArg some e2))
  exact ⟨⟨(hs _ (lt_of_block h.wk.blk) (by omega)).trans h.wk.blk, own_same h.wk.own (ob h.wk.own), h.wk.map.same (hs _ h.wk.map.lt (by omega)), h.wk.geb, h.wk.ge, h.wk.way.keep hl, h.wk.low, fun b hb' => by rw [hl b hb']; exact h.wk.wri b hb'⟩, hm,
    ⟨own_same h.co.own (ob h.co.own), h.co.row.keep atomK_good fun b hb => hs b (h.co.row.lt atomK_good b hb) (by have := h.lo b hb; omega), h.co.far⟩, h.lo, fun p hp => by
      rcases List.mem_append.1 hp with hp | hp
      · exact (h.kn p hp).keep hl
      · rw [List.mem_singleton.1 hp]; exact ha.keep hl⟩

/-- One more is out. -/
theorem D.NdW.tell {v6 : Value} {M : List Value} {ys : List A} {b3 : List Nat} (h : NdW BS base v st K v5 L xs bo w) (hc : Coll 2 atomK base 33 w' v6 (L ++ M) (xs ++ ys) (bo ++ b3)) (hg : w.grownBy w' v5.ownBlock) (h3 : ∀ b ∈ b3, b < base) : NdW BS base v st K v6 (L ++ M) (xs ++ ys) (bo ++ b3) w' := by
  have hs : ∀ b, b < w.heap.size → v5.ownBlock ≠ some b → w'.heap[b]? = w.heap[b]? := fun b hb hne => hg.block b hb fun e => hne e.symm
  have hl : ∀ b ∈ BS, w'.heap[b]? = w.heap[b]? := fun b hb' => by
    obtain ⟨cs, t, hc⟩ := h.wk.wri b hb'
    exact hs b (lt_of_block hc) (own_block_ge h.co.own (h.wk.low b hb'))
  have how : ∀ b, v.ownBlock = some b → w'.heap[b]? = w.heap[b]? := fun b hb => by
    have hne := own_twoN h.wk.own h.co.own (by decide) hb
    rcases h.wk.own.2 with ⟨e', _⟩ | ⟨g, c, cur, e', hg', hh, r⟩
    · rw [e'] at hb; simp [Value.ownBlock] at hb
    · rw [e'] at hb
      obtain rfl : g = b := by simpa [Value.ownBlock] using hb
      exact hs g (lt_of_block hh) hne
  exact ⟨⟨(hs _ (lt_of_block h.wk.blk) (own_ne_blk h.co.own h.wk.blk (by decide))).trans h.wk.blk, own_same h.wk.own how, h.wk.map.same (hs _ h.wk.map.lt (own_ne_map h.co.own h.wk.map)), h.wk.geb, h.wk.ge, h.wk.way.keep hl, h.wk.low, fun b hb' => by rw [hl b hb']; exact h.wk.wri b hb'⟩,
    h.mp.same (hs _ h.mp.lt (own_ne_map h.co.own h.mp)), hc, fun b hb => (List.mem_append.1 hb).elim (h.lo b) (h3 b), fun q hq => (h.kn q hq).keep hl⟩

end
/-- The loop's head, while a proof stands next. -/
structure D.NdS (BS : List Nat) (base : Nat) (p : Pf) (W0 : World) (kx : Nat) (v : Value) (st : List Fr) (K : List (Addr × Pf)) (v5 : Value) (L : List Value) (xs : List A) (bo : List Nat) (a : Addr) (q : Pf) (w : World) : Prop where
  ww : NdW BS base v st K v5 L xs bo w
  be : Below base W0 w
  ni : NdI st K xs (givL q) (putsI [] (givL p))
  at_ : AtP BS w a q
  sm : ∀ f ∈ st, sizePf q < sizePf f.pf
  kx : sizePf q + restW st ≤ kx
  cn : st.length + (sizePf q + restW st) ≤ sizePf p
  cx : xs.length + (sizePf q + restW st) ≤ sizePf p

/-- .. and behind the last one. -/
structure D.NdT (base : Nat) (p : Pf) (W0 : World) (v5 : Value) (L : List Value) (xs : List A) (bo : List Nat) (w : World) : Prop where
  co : Coll 2 atomK base 33 w v5 L xs bo
  be : Below base W0 w
  eq : putsI [] xs = putsI [] (givL p)
  cx : xs.length ≤ sizePf p

/-- Before next: what it needs; behind it: the loop's head again. -/
structure D.NdN (BS : List Nat) (base : Nat) (p : Pf) (W0 : World) (kx : Nat) (v : Value) (st : List Fr) (K : List (Addr × Pf)) (v5 : Value) (L : List Value) (xs : List A) (bo : List Nat) (w : World) : Prop where
  ww : NdW BS base v st K v5 L xs bo w
  be : Below base W0 w
  ni : NdI st K xs [] (putsI [] (givL p))
  kx : restW st ≤ kx
  cn : st.length + restW st ≤ sizePf p
  cx : xs.length + restW st ≤ sizePf p

theorem D.NdN.next {BS : List Nat} {base : Nat} {p : Pf} {W0 : World} {kx : Nat} {v : Value} {st : List Fr} {K : List (Addr × Pf)} {v5 : Value} {L : List Value} {xs : List A} {bo : List Nat} {w w' : World} {e : Ending} (h : NdN BS base p W0 kx v st K v5 L xs bo w) (hn : NextX BS base (base + 1) base v st w e w') :
    (e = .returned (.pointer none) ∧ NdT base p W0 v5 L xs bo w') ∨ ∃ a v' st' q, e = .returned (.pointer (some a)) ∧ NdS BS base p W0 kx v' st' K v5 L xs bo a q w' := by
  obtain ⟨hB, hF, ⟨rfl, hs⟩ | ⟨pre, f, suf, a, v', rfl, hs, hk, rfl, hw, ha, hv⟩⟩ := hn
  · refine .inl ⟨rfl, ?_, h.be.trans hB, h.ni.stop hs, by have := h.cx; omega⟩
    have h2 : NdW BS base v st K v5 L xs bo w := h.ww
    refine h2.coll (fun b hb => ?_) hB.block
    have hbl : b < w.heap.size := by
      rcases h2.co.own.2 with ⟨e, _⟩ | ⟨g, c, cur, e, hg, hh, r⟩
      · rw [e] at hb; simp [Value.ownBlock] at hb
      · rw [e] at hb
        obtain rfl : g = b := by simpa [Value.ownBlock] using hb
        exact lt_of_block hh
    refine hF b hbl (fun e => ?_) (fun e => ?_) fun e => ?_
    · exact own_ne_blk h2.co.own h2.wk.blk (by decide) (e ▸ hb)
    · exact own_ne_map h2.co.own h2.wk.map (e ▸ hb)
    · exact own_twoN h2.co.own h2.wk.own (by decide) hb e
  · have e1 : restW (pre ++ f :: suf) = restW (pre ++ [f]) + restW suf := by rw [← restW_append]; simp
    rw [restW_thru hs, restW_step hk] at e1
    have e2 := h.kx
    have e3 := h.cn
    have e4 := h.cx
    refine .inr ⟨a, v', _, f.pf.kids[f.next], rfl, h.ww.turn hw hF hB, h.be.trans hB, h.ni.next hs hk, ha, fun g hg => ?_, by omega, ?_, by omega⟩
    · rcases List.mem_append.1 hg with hg | hg
      · have h1 := (List.pairwise_append.1 h.ww.wk.way.down).2.2 g hg f (List.mem_cons_self ..)
        have h2 := kid_small hk
        omega
      · rw [List.mem_singleton.1 hg]; exact kid_small hk
    · simp only [List.length_append, List.length_cons, List.length_nil] at e3 ⊢
      omega

/-- The way at its start. -/
theorem D.Wk.begin {BS : List Nat} {w : World} (hlow : ∀ b ∈ BS, b < w.heap.size) (hwri : WP BS w) :
    Wk BS w.heap.size (w.heap.size + 1) [] ((w.alloc (.map #[] 0)).alloc (.cells #[.slice none 0 0, .map (some w.heap.size)] 52)) ∧ Below w.heap.size w ((w.alloc (.map #[] 0)).alloc (.cells #[.slice none 0 0, .map (some w.heap.size)] 52)) := by
  have hB : Below w.heap.size w ((w.alloc (.map #[] 0)).alloc (.cells #[.slice none 0 0, .map (some w.heap.size)] 52)) := ((Below.refl _ w).alloc (Nat.le_refl _) _).alloc (by simp) _
  refine ⟨⟨⟨.slice none 0 0, w.heap.size, ?_, World.ownsRow_nil _ _ _ _, ?_, Nat.le_refl _⟩, by omega, Way.nil _ _, hlow, fun b hb => by rw [hB.block b (hlow b hb)]; exact hwri b hb⟩, hB⟩
  · simpa using heap_alloc_new (w.alloc (.map #[] 0)) (.cells #[.slice none 0 0, .map (some w.heap.size)] 52)
  · exact (MapV.made w).same (Below.heap_alloc _ _ _ (by simp))

theorem D.WkX.below {BS : List Nat} {base wb mb : Nat} {v : Value} {st : List Fr} {w w' : World} (h : WkX BS base wb mb v st w) (hb : Below w.heap.size w w') : WkX BS base wb mb v st w' := by
  have hs : ∀ b, b < w.heap.size → w'.heap[b]? = w.heap[b]? := hb.block
  have hl : ∀ b ∈ BS, w'.heap[b]? = w.heap[b]? := fun b hb' => by
    obtain ⟨cs, t, hc⟩ := h.wri b hb'
    exact hs b (lt_of_block hc)
  exact ⟨(hs _ (lt_of_block h.blk)).trans h.blk, own_below h.own hb, h.map.same (hs _ h.map.lt), h.geb, h.ge, h.way.keep hl, h.low, fun b hb' => by rw [hl b hb']; exact h.wri b hb'⟩

/-- A proof's own cells, and its fact. -/
theorem D.AtP.own {BS : List Nat} {w : World} {a : Addr} {q : Pf} (h : AtP BS w a q) : ∃ b o Ad cap b1, a = ⟨b, o, none⟩ ∧ w.cell? ⟨b, o, none⟩ = some (.string q.fact.name) ∧ w.cell? ⟨b, o + 1, none⟩ = some (.slice Ad q.fact.args.length cap) ∧ w.cell? ⟨b, o + 2, none⟩ = some (.int .i64 q.rule) ∧ atomK w [.string q.fact.name, .slice Ad q.fact.args.length cap] q.fact b1 ∧ ∀ c ∈ b1, c ∈ BS := by
  obtain ⟨n, b, o, cs, bk, rfl, h1, h2, h3, h4, h5⟩ := h
  cases n with
  | zero => exact h4.elim
  | succ n =>
    obtain ⟨s, k, b1, b2, rfl, _, _, rfl, hx, _⟩ := id h4
    obtain ⟨Ad, cap, Ae, cape, c1, c2, e0, e1, e2, e3, e4, _, h9, _⟩ := proof_parts h4
    obtain ⟨ba, g1, g2⟩ : ∃ ba, atomK w [.string q.fact.name, s] q.fact ba ∧ ∀ c ∈ ba, c ∈ BS := by
      obtain ⟨s', k', b1', b2', e, hn, _, e', hx', _⟩ := h4
      simp only [List.cons.injEq, true_and, and_true] at e
      obtain ⟨rfl, rfl⟩ := e
      exact ⟨b1', ⟨_, rfl, hn, hx'⟩, fun c hc => h5 c (by rw [e']; exact List.mem_append_left _ hc)⟩
    subst e1
    exact ⟨b, o, Ad, cap, ba, rfl, h3 0 _ rfl, h3 1 _ rfl, h3 2 _ rfl, g1, g2⟩

theorem D.puts_mem : ∀ {xs out : List A} {a : A}, a ∈ putsI out xs → a ∈ out ∨ a ∈ xs
  | [], _, _, h => .inl h
  | x :: xs, out, a, h => by
    rcases puts_mem (xs := xs) (out := insA out x) h with h1 | h1
    · rcases mem_ins h1 with h2 | rfl
      · exact .inl h2
      · exact .inr (List.mem_cons_self ..)
    · exact .inr (List.mem_cons_of_mem _ h1)

theorem D.knL_snoc (K : List (Addr × Pf)) (a : Addr) (q : Pf) : knL (K ++ [(a, q)]) = knL K ++ [(.pointer (some a), .int .i64 1)] := by unfold knL; simp

theorem D.AtP.cells {BS : List Nat} {w : World} {b o : Nat} {q : Pf} (h : AtP BS w ⟨b, o, none⟩ q) : ∃ Ad cap b1, w.cell? ⟨b, o, none⟩ = some (.string q.fact.name) ∧ w.cell? ⟨b, o + 1, none⟩ = some (.slice Ad q.fact.args.length cap) ∧ w.cell? ⟨b, o + 2, none⟩ = some (.int .i64 q.rule) ∧ atomK w [.string q.fact.name, .slice Ad q.fact.args.length cap] q.fact b1 ∧ ∀ c ∈ b1, c ∈ BS := by
  obtain ⟨b', o', Ad, cap, b1, e, h0, h1, h2, h3, h4⟩ := h.own
  simp only [Addr.mk.injEq, and_true] at e
  obtain ⟨rfl, rfl⟩ := e
  exact ⟨Ad, cap, b1, h0, h1, h2, h3, h4⟩

theorem D.NdS.known {BS : List Nat} {base : Nat} {p : Pf} {W0 : World} {kx : Nat} {v : Value} {st : List Fr} {K : List (Addr × Pf)} {v5 : Value} {L : List Value} {xs : List A} {bo : List Nat} {a : Addr} {q : Pf} {w w' : World} (h : NdS BS base p W0 kx v st K v5 L xs bo a q w) (hm : MapV (SP BS) (base + 2) (knL K ++ [(.pointer (some a), .int .i64 1)]) w') (hg : w.grownBy w' (some (base + 2))) : NdW BS base v st (K ++ [(a, q)]) v5 L xs bo w' ∧ Below base W0 w' ∧ AtP BS w' a q := by
  have hW := h.ww.learn (by rw [knL_snoc]; exact hm) hg h.at_
  exact ⟨hW, h.be.grown hg (by have := h.ww.mp.lt; omega) (fun j hj => by cases hj; omega), hW.kn _ (List.mem_append_right _ (List.mem_singleton.2 rfl))⟩

theorem D.NdS.entered {BS : List Nat} {base : Nat} {p : Pf} {W0 : World} {kx : Nat} {v v' : Value} {st : List Fr} {K : List (Addr × Pf)} {v5 v6 : Value} {L L' : List Value} {xs xs' : List A} {bo bo' : List Nat} {a : Addr} {q : Pf} {w w2 w' : World} (h : NdS BS base p W0 kx v st K v5 L xs bo a q w) (he : xs' = xs ++ ownL q) (hw : NdW BS base v st (K ++ [(a, q)]) v6 L' xs' bo' w2) (hb : Below base W0 w2) (hX : WkX BS base (base + 1) base v' (st ++ [⟨a, q, 0⟩]) w') (hB : Below base w2 w') (hF : FrS (base + 1) base v.ownBlock w2 w') : NdN BS base p W0 (restW (st ++ [⟨a, q, 0⟩])) v' (st ++ [⟨a, q, 0⟩]) (K ++ [(a, q)]) v6 L' xs' bo' w' ∧ restW (st ++ [⟨a, q, 0⟩]) < kx ∧ (st ++ [Fr.mk a q 0]).length ≤ sizePf p := by
  have hr : restW (st ++ [⟨a, q, 0⟩]) + 1 = restW st + sizePf q := restW_push
  have h1 := h.kx
  have h2 := h.cn
  have h3 := h.cx
  have hl : (st ++ [Fr.mk a q 0]).length = st.length + 1 := by simp
  have ho : (ownL q).length ≤ 1 := by unfold ownL; split <;> simp
  have hx : xs'.length = xs.length + (ownL q).length := by rw [he]; simp
  exact ⟨⟨hw.turn hX hF hB, hb.trans hB, by rw [he]; exact h.ni.enter, Nat.le_refl _, by omega, by omega⟩, by omega, by omega⟩

set_option maxRecDepth 100000 in
set_option maxHeartbeats 8000000 in
theorem needs_impl (n : Nat) (p : Pf) (c0 c1 c2 c3 : Value) (bs : List Nat) (w : World) (h : proofK n w [c0, c1, c2, c3] p bs) (hw : ∀ b ∈ bs, Wri w b) (hs : sizePf p ≤ 16777216) (ha : ∀ a ∈ givL p, a.args.length ≤ 16777216) :
    Calls Try.prog 7 #[.agg #[c0, c1, c2, c3]] w (Makes atomsK (putsI [] (givL p)) w.heap.size w) := by
  obtain ⟨i0, hi, hz0, hz1, hz2⟩ := info_parts infoAtmN
  have hB : Below w.heap.size w (w.alloc (.cells #[c0, c1, c2, c3] 36)) := (Below.refl w.heap.size w).alloc (Nat.le_refl _) _
  have hlt := (proofK_good n).lt h
  have hat : AtP (w.heap.size :: bs) (w.alloc (.cells #[c0, c1, c2, c3] 36)) ⟨w.heap.size, 0, none⟩ p := by
    refine ⟨n, w.heap.size, 0, [c0, c1, c2, c3], bs, rfl, List.mem_cons_self .., rfl, fun j v hv => ?_, (proofK_good n).below h hB, fun c hc => List.mem_cons_of_mem _ hc⟩
    have := heap_alloc_new w (.cells #[c0, c1, c2, c3] 36)
    simp only [World.cell?, this]
    simpa using hv
  obtain ⟨W, hW⟩ : ∃ W, W = w.alloc (.cells #[c0, c1, c2, c3] 36) := ⟨_, rfl⟩
  have hWs : W.heap.size = w.heap.size + 1 := by rw [hW]; simp
  have hWb : W.heap[w.heap.size]? = some (.cells #[c0, c1, c2, c3] 36 (0, 0)) := by rw [hW]; exact heap_alloc_new w (.cells #[c0, c1, c2, c3] 36)
  have hWr : WP (w.heap.size :: bs) W := fun b hb => by
    rcases List.mem_cons.1 hb with rfl | hb
    · exact ⟨_, _, hWb⟩
    · obtain ⟨cs, t, hc⟩ := hw b hb
      exact ⟨cs, t, by rw [hW]; exact (hB.block b (hlt b hb)).trans hc⟩
  rw [← hW] at hB hat
  have hlow : ∀ b ∈ w.heap.size :: bs, b < W.heap.size := fun b hb => by
    rcases List.mem_cons.1 hb with rfl | hb
    · omega
    · have := hlt b hb; omega
  obtain ⟨hk, hB1⟩ := Wk.begin hlow hWr
  obtain ⟨W1, hW1⟩ : ∃ W1, W1 = (W.alloc (.map #[] 0)).alloc (.cells #[.slice none 0 0, .map (some W.heap.size)] 52) := ⟨_, rfl⟩
  have hW1s : W1.heap.size = W.heap.size + 2 := by rw [hW1]; simp
  have hW1b : W1.heap[W.heap.size + 1]? = some (.cells #[.slice none 0 0, .map (some W.heap.size)] 52 (0, 0)) := by
    rw [hW1]
    have := heap_alloc_new (W.alloc (.map #[] 0)) (.cells #[.slice none 0 0, .map (some W.heap.size)] 52)
    simpa using this
  rw [← hW1] at hk hB1
  have hA2 : Below W1.heap.size W1 (W1.alloc (.map #[] 0)) := (Below.refl _ _).alloc (Nat.le_refl _) _
  obtain ⟨base, hbase⟩ : ∃ base, base = W.heap.size := ⟨_, rfl⟩
  have hBA : Below base W (W1.alloc (.map #[] 0)) := by rw [hbase]; exact hB1.trans (hA2.mono hB1.size)
  have HS0 : Hid (NdS (w.heap.size :: bs) base p W (sizePf p + 1) (.slice none 0 0) [] [] (.slice none 0 0) [] [] [] ⟨w.heap.size, 0, none⟩ p (W1.alloc (.map #[] 0))) := Lib.hid (by
    have hkx := (hk.x (cell_of_blk hW1b) (cell_of_blk hW1b)).below hA2
    rw [← hbase] at hkx
    have hmk := MapV.made (S := SP (w.heap.size :: bs)) W1
    rw [hW1s, ← hbase] at hmk
    exact ⟨⟨hkx, hmk, Coll.nil _, fun b hb => by simp at hb, fun q hq => by simp at hq⟩, hBA, NdI.start p, hat.keep fun b hb => hBA.block b (by rw [hbase]; exact hlow b hb), fun f hf => by simp at hf, by simp [restW, sumL], by simp [restW, sumL], by simp [restW, sumL]⟩)
  have HB0 : Hid (Below w.heap.size w W ∧ w.heap.size ≤ base) := Lib.hid ⟨hB, by omega⟩
  have HSZ := Lib.hid hs
  have HAR := Lib.hid ha
  have HLW : Hid (∀ b ∈ w.heap.size :: bs, b < base) := Lib.hid (by rw [hbase]; exact hlow)
  have HI := Lib.hid (And.intro hi (And.intro hz0 (And.intro hz1 hz2)))
  have hmm := @run_makeMap Try.prog
  have hnq := fun (x : Option Addr) (w : World) => run_neq_pointer_nil (P := Try.prog) w 53 x (by kernel_rfl)
  have hW1z : (W.alloc (.map #[] 0)).heap.size = W.heap.size + 1 := by simp
  clear h hw hs ha hB hlt hat hWb hWr hlow hk hB1 hW1b hA2 hBA hi hz0 hz1 hz2
  go_enter Try.func7, Try.ntmps7
  go_wp2_with fail
  rw [hWs] at hW1 hbase
  rw [← hW, ← hW1]
  obtain rfl := hbase
  go_loopg [5, 6, 7, 8] (sizePf p + 1) (fun kx s5 s6 _ _ wr => (s6 = .pointer none ∧ ∃ L xs bo, Hid (NdT (w.heap.size + 1) p W s5 L xs bo wr)) ∨ ∃ a q v st K L xs bo, s6 = .pointer (some a) ∧ Hid (NdS (w.heap.size :: bs) (w.heap.size + 1) p W kx v st K s5 L xs bo a q wr))
  case atStart => exact .inr ⟨_, _, _, _, _, _, _, _, rfl, HS0⟩
  case round =>
    clear HS0
    rcases hrel with ⟨rfl, L, xs, bo, HT⟩ | ⟨a, q, v, st, K, L, xs, bo, rfl, HS⟩
    · have HMW : Hid (Below (w.heap.size + 1) W wr) := Lib.hid HT.out.be
      have HE := Lib.hid HT.out.eq
      have q1 := sortNeeds_any xs u5 L bo (w.heap.size + 1) wr HT.out.co (by have := HT.out.cx; have := HSZ.out; omega)
      clear HT
      go_wp2_with fail
      refine q1.mono ?_
      rintro e w1 ⟨rfl, hb1, HCMP⟩
      have HB1 : Hid (Below w.heap.size w w1) := Lib.hid (HB0.out.1.trans ((HMW.out.trans hb1).mono HB0.out.2))
      clear q1 hb1
      have q2 := HCMP.out
      clear HCMP
      go_wp2_with fail
      refine q2.mono ?_
      rintro e w2 ⟨hb2, v9, b9, rfl, h9⟩
      have HB2 : Hid (Below w.heap.size w w2) := Lib.hid (HB0.out.1.trans ((HMW.out.trans hb2).mono HB0.out.2))
      rw [HE.out] at h9
      have q3 := copyAtoms_any _ _ b9 w2 h9 (by
        have h1 := putsI_len [] (givL p)
        have h2 := givL_len p
        have := HSZ.out
        simp at h1
        omega) (fun a ha => by
        rcases puts_mem ha with h1 | h1
        · simp at h1
        · exact HAR.out a h1)
      clear q2 hb2 h9 HB1 HE HMW
      go_wp2_with fail
      refine q3.mono ?_
      rintro e w3 ⟨hb3, v8, b8, rfl, h8, hn8⟩
      have HZ : Hid (Makes atomsK (putsI [] (givL p)) w.heap.size w (.returned v8) w3) := Lib.hid ⟨HB2.out.trans (hb3.mono HB2.out.size), _, b8, rfl, h8, hn8.mono HB2.out.size⟩
      obtain ⟨A8, c8, rfl, _, _⟩ := sliceK_form h8
      clear q3 hb3 h8 hn8
      go_wp2
      go_ret
      exact HZ.out
    · have HM := Lib.hid HS.out.ww.mp
      have HWP := Lib.hid HS.out.ww.wk.wri
      have HAT := Lib.hid HS.out.at_
      have HSP : Hid (SP (w.heap.size :: bs) (.pointer (some a))) := Lib.hid ⟨a, rfl, HS.out.at_.block⟩
      have hlen : st.length ≤ 16777216 := by have := HS.out.cn; have := HSZ.out; omega
      by_cases hK : ∃ q', (a, q') ∈ K
      · have hKq : (a, q) ∈ K := by
          obtain ⟨q', h1⟩ := hK
          have e : q' = q := AtP.one (HS.out.ww.kn _ h1) HS.out.at_
          exact e ▸ h1
        have HLK : Hid ((Value.pointer (some a), Value.int .i64 1) ∈ knL K) := Lib.hid (List.mem_map.2 ⟨_, hKq, rfl⟩)
        have HN : Hid (NdN (w.heap.size :: bs) (w.heap.size + 1) p W (restW st) v st K u5 L xs bo wr) := Lib.hid ⟨HS.out.ww, HS.out.be, HS.out.ni.skip hKq (fun f hf e => by have := HS.out.sm f hf; rw [e] at this; omega), Nat.le_refl _, by have := HS.out.cn; omega, by have := HS.out.cx; omega⟩
        have q1 := nextX_any _ _ _ _ v st wr HS.out.ww.wk hlen
        have HG : Hid (restW st < gk) := Lib.hid (by have := HS.out.kx; have := sizePf_pos q; omega)
        clear HS hK hKq
        go_wp2_with (first
          | (at_lookup; refine wpList_mapv_hit (keyP (w.heap.size :: bs)) HWP.out true rfl _ _ _ _ rfl Try.underlying49 (w.heap.size + 1 + 2) _ rfl HM.out (.pointer (some a)) (.int .i64 1) rfl HLK.out ?_)
          | fail)
        refine q1.mono ?_
        rintro e w2 hn
        rcases HN.out.next hn with ⟨rfl, HT⟩ | ⟨a', v', st', q', rfl, HS'⟩
        · have HT' := Lib.hid HT
          clear hn q1 HT HN
          go_wp2
          go_roundg (restW st)
          case measure => exact HG.out
          case rel => exact .inl ⟨rfl, _, _, _, HT'⟩
        · have HS2 := Lib.hid HS'
          clear hn q1 HS' HN
          go_wp2
          go_roundg (restW st)
          case measure => exact HG.out
          case rel => exact .inr ⟨_, _, _, _, _, _, _, _, rfl, HS2⟩
      · have HMI : Hid (∀ x ∈ knL K, x.1 ≠ .pointer (some a)) := Lib.hid fun x hx e => by
          obtain ⟨y, hy, rfl⟩ := List.mem_map.1 hx
          obtain ⟨y1, y2⟩ := y
          simp only [Value.pointer.injEq, Option.some.injEq] at e
          subst e
          exact hK ⟨y2, hy⟩
        obtain ⟨b, o, _, _, _, rfl, -⟩ := HAT.out.own
        clear hK
        by_cases hr : q.rule = -1
        · have hrb : (q.rule == -1) = true := beq_iff_eq.2 hr
          have HE : Hid (xs ++ [q.fact] = xs ++ ownL q) := Lib.hid (by unfold ownL; rw [if_pos hr])
          clear hr
          obtain ⟨A5, cap5, rfl⟩ := own_shape HS.out.ww.co.own
          go_wp2_with (first
            | (at_lookup; refine wpList_mapv_miss (keyP (w.heap.size :: bs)) HWP.out true rfl _ _ _ _ rfl Try.underlying49 (w.heap.size + 1 + 2) _ rfl HM.out (.pointer (some ⟨b, o, none⟩)) (.int .i64 0) (zeroInt _) rfl HSP.out HMI.out ?_)
            | (at_mapUpdate; refine wpList_mapv_new (keyP (w.heap.size :: bs)) HWP.out rfl _ _ _ _ _ rfl Try.underlying49 (w.heap.size + 1 + 2) _ rfl HM.out (.pointer (some ⟨b, o, none⟩)) (.int .i64 1) rfl rfl HSP.out HMI.out ?_; intro w1 hm1 hg1; obtain ⟨hW1', hB1, hA1⟩ := HS.out.known hm1 hg1; obtain ⟨Ad, cap, b1, e0, e1, e2, e3, e4⟩ := hA1.cells; have hA2 : Below w1.heap.size w1 (w1.alloc (.cells #[.string q.fact.name, .slice Ad q.fact.args.length cap] 33)) := (Below.refl _ _).alloc (Nat.le_refl _) _; have HA := Lib.hid (And.intro (hW1'.keep hA2) (And.intro (hB1.trans (hA2.mono (by have := hB1.size; omega))) (hA1.keep fun c hc => hA2.block c (by have := hW1'.wk.low c hc; have := hB1.size; omega)))); have HL := Lib.hid (lies_block (heap_alloc_new w1 (.cells #[.string q.fact.name, .slice Ad q.fact.args.length cap] 33))); have HR2 := Lib.hid (Rowed.one_el (n := 2) (R := atomK) atomK_ones (atomK_good.below e3 hA2)); have HF : Hid (∀ c ∈ b1, c < w.heap.size + 1) := Lib.hid (fun c hc => HLW.out c (e4 c hc)); have HM2 : Hid (xs.length + 1 ≤ 16777216) := Lib.hid (by have := HS.out.cx; have := sizePf_pos q; have := HSZ.out; omega))
            | (at_builtin; refine wpList_coll rfl _ _ _ rfl (w.heap.size + 1) 33 i0 (.agg #[.string ⟨#[]⟩, .slice none 0 0]) 2 40 Try.underlying29 HI.out.1 HI.out.2.1 HI.out.2.2.1 HI.out.2.2.2 rfl (by omega) atomK_good (.slice A5 xs.length cap5) xs.length _ _ _ rfl HA.out.1.co rfl (some ⟨w1.heap.size, 0, none⟩) 1 1 _ [q.fact] _ rfl HR2.out rfl HL.out (fun c hc => own_block_ge HA.out.1.co.own (HF.out c hc)) (by have := HM2.out; unfold maxLen; omega) (by have := HM2.out; omega) W (w.heap.size + 1) HA.out.2.1 (Nat.le_refl _) (by have := HA.out.2.1.size; omega) ?_; intro A2 cp2 w2 hC3 hB3 hS3 hG3; have HW2 := Lib.hid (And.intro (HA.out.1.tell hC3 hG3 HF.out) hB3); have q1 := enterX_any _ _ _ _ v st _ q w2 HW2.out.1.wk (HA.out.2.2.keep fun c hc => hG3.block c (by have := HLW.out c hc; have := HA.out.2.1.size; omega) (fun e => own_block_ge HA.out.1.co.own (HLW.out c hc) e.symm)) HS.out.sm hlen)
            | fail)
          clear hW1' hB1 hA1 e0 e1 e2 e3 e4 hm1 hg1 hA2 HA HL HR2 HF HM2 hC3 hB3 hS3 hG3
          refine q1.mono ?_
          rintro e w3 ⟨rfl, v', hX, hB3, hF, -⟩
          obtain ⟨hN, hG, hLn⟩ := HS.out.entered HE.out HW2.out.1 HW2.out.2 hX hB3 hF
          have HN := Lib.hid hN
          have HG := Lib.hid hG
          have q2 := nextX_any _ _ _ _ v' _ w3 HN.out.ww.wk (by have := HSZ.out; omega)
          clear q1 hX hB3 hF hN hG hLn HS HE HW2
          go_wp2_with fail
          refine q2.mono ?_
          rintro e w4 hn
          rcases HN.out.next hn with ⟨rfl, HT⟩ | ⟨a', v', st', q', rfl, HS'⟩
          · have HT' := Lib.hid HT
            clear hn q2 HT HN
            go_wp2
            go_roundg (restW (st ++ [⟨⟨b, o, none⟩, q, 0⟩]))
            case measure => exact HG.out
            case rel => exact .inl ⟨rfl, _, _, _, HT'⟩
          · have HS2 := Lib.hid HS'
            clear hn q2 HS' HN
            go_wp2
            go_roundg (restW (st ++ [⟨⟨b, o, none⟩, q, 0⟩]))
            case measure => exact HG.out
            case rel => exact .inr ⟨_, _, _, _, _, _, _, _, rfl, HS2⟩
        · have hrb : (q.rule == -1) = false := by
            cases hq : q.rule == -1
            · rfl
            · exact absurd (beq_iff_eq.1 hq) hr
          have HE : Hid (xs = xs ++ ownL q) := Lib.hid (by unfold ownL; rw [if_neg hr]; simp)
          clear hr
          go_wp2_with (first
            | (at_lookup; refine wpList_mapv_miss (keyP (w.heap.size :: bs)) HWP.out true rfl _ _ _ _ rfl Try.underlying49 (w.heap.size + 1 + 2) _ rfl HM.out (.pointer (some ⟨b, o, none⟩)) (.int .i64 0) (zeroInt _) rfl HSP.out HMI.out ?_)
            | (at_mapUpdate; refine wpList_mapv_new (keyP (w.heap.size :: bs)) HWP.out rfl _ _ _ _ _ rfl Try.underlying49 (w.heap.size + 1 + 2) _ rfl HM.out (.pointer (some ⟨b, o, none⟩)) (.int .i64 1) rfl rfl HSP.out HMI.out ?_; intro w1 hm1 hg1; obtain ⟨hW1', hB1, hA1⟩ := HS.out.known hm1 hg1; obtain ⟨Ad, cap, b1, e0, e1, e2, e3, e4⟩ := hA1.cells; have q1 := enterX_any _ _ _ _ v st _ q w1 hW1'.wk hA1 HS.out.sm hlen; have HW2 := Lib.hid (And.intro hW1' hB1))
            | fail)
          clear hW1' hB1 hA1 e0 e1 e2 e3 e4 hm1 hg1
          refine q1.mono ?_
          rintro e w3 ⟨rfl, v', hX, hB3, hF, -⟩
          obtain ⟨hN, hG, hLn⟩ := HS.out.entered HE.out HW2.out.1 HW2.out.2 hX hB3 hF
          have HN := Lib.hid hN
          have HG := Lib.hid hG
          have q2 := nextX_any _ _ _ _ v' _ w3 HN.out.ww.wk (by have := HSZ.out; omega)
          clear q1 hX hB3 hF hN hG hLn HS HE HW2
          go_wp2_with fail
          refine q2.mono ?_
          rintro e w4 hn
          rcases HN.out.next hn with ⟨rfl, HT⟩ | ⟨a', v', st', q', rfl, HS'⟩
          · have HT' := Lib.hid HT
            clear hn q2 HT HN
            go_wp2
            go_roundg (restW (st ++ [⟨⟨b, o, none⟩, q, 0⟩]))
            case measure => exact HG.out
            case rel => exact .inl ⟨rfl, _, _, _, HT'⟩
          · have HS2 := Lib.hid HS'
            clear hn q2 HS' HN
            go_wp2
            go_roundg (restW (st ++ [⟨⟨b, o, none⟩, q, 0⟩]))
            case measure => exact HG.out
            case rel => exact .inr ⟨_, _, _, _, _, _, _, _, rfl, HS2⟩

end Go.Proofs.Ytlmngncogomgeaa
