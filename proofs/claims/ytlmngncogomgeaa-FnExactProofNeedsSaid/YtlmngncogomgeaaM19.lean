/- Of the proof of FnExactProofNeeds: FcD, NdsQ, FqP. -/
import Derived.Test.YtlmngncogomgeaaM12
import Derived.Test.YtlmngncogomgeaaM14
namespace Go.Proofs.Ytlmngncogomgeaa
open Go.Shelf Go.RowKit Go.Lib Go.Sort D
set_option linter.unusedVariables false
/-- A fact's cells. -/
structure D.Fc where
  t : A
  c1 : Value

def D.Fc.enc (x : Fc) : List Value := [.string x.t.name, x.c1]

abbrev D.FcIn (w : World) (g : Nat) := { x : Fc // ∃ ba, atomK w [.string x.t.name, x.c1] x.t ba ∧ g ∉ ba }

def D.FcIn.enc {w : World} {g : Nat} (x : FcIn w g) : List Value := x.1.enc

def D.FcIn.cf {w : World} {g : Nat} (x y : FcIn w g) : Int := cmpA x.1.t y.1.t

theorem D.heap_mapBlock_other (w : World) (g : Nat) (f : Array Value → Array Value) {x : Nat} (h : x ≠ g) : (mapBlock w g f).heap[x]? = w.heap[x]? := by
  simp only [mapBlock, Array.getElem?_modify]
  rw [if_neg (fun e => h e.symm)]

theorem D.sortW_other {α : Type} [Inhabited α] (enc : α → List Value) (k : Nat) (w : World) (g n : Nat) (d : Array α) (os : Array Obj) {x : Nat} (hx : x < w.heap.size) (h : x ≠ g) : (sortWorldK enc k w g 0 n d os).heap[x]? = w.heap[x]? := by
  unfold sortWorldK
  have e1 : (grow (putRowK enc k (Go.Sort.ahead w n) g 0 d) os).heap[x]? = (putRowK enc k (Go.Sort.ahead w n) g 0 d).heap[x]? := by
    show (_ ++ os)[x]? = _
    rw [Array.getElem?_append_left (by rw [size_putRowK]; exact hx)]
  rw [e1]
  exact heap_mapBlock_other (Go.Sort.ahead w n) g _ h

theorem D.swo_cmp {w : World} {g : Nat} : SWO (ltOf (FcIn.cf (w := w) (g := g))) where
  irrefl x := by unfold ltOf FcIn.cf; rw [cmpA_refl]; rfl
  trans x y z h1 h2 := by
    unfold ltOf FcIn.cf at *
    simp only [decide_eq_true_eq] at *
    rw [cmpA_lex] at *
    exact (lexL_is cmpS_is).lt_of_lt_le h1 (by omega)
  ntrans x y z h1 h2 := by
    unfold ltOf FcIn.cf at *
    simp only [decide_eq_false_iff_not] at *
    rw [cmpA_lex] at *
    have a1 := (lexL_is cmpS_is).anti (keyA x.1.t) (keyA y.1.t)
    have a2 := (lexL_is cmpS_is).anti (keyA y.1.t) (keyA z.1.t)
    have a3 := (lexL_is cmpS_is).anti (keyA x.1.t) (keyA z.1.t)
    have a4 := (lexL_is cmpS_is).trans (keyA z.1.t) (keyA y.1.t) (keyA x.1.t) (by omega) (by omega)
    omega

end Go.Proofs.Ytlmngncogomgeaa
namespace Go.Proofs.Ytlmngncogomgeaa.D
open Go.RowKit
set_option linter.unusedVariables false
/-- What is still to come of a step; of the way, the innermost ahead. -/
def pendF (f : Fr) : List A := (f.pf.kids.drop f.next).flatMap givL

def pendR (st : List Fr) : List A := st.reverse.flatMap pendF

def ownL (p : Pf) : List A := if p.rule = -1 then [p.fact] else []

theorem pendR_snoc (st : List Fr) (f : Fr) : pendR (st ++ [f]) = pendF f ++ pendR st := by unfold pendR; simp

theorem pendF_thru {f : Fr} (h : f.pf.kids.length ≤ f.next) : pendF f = [] := by unfold pendF; rw [List.drop_eq_nil_of_le h]; rfl

theorem pendF_step {f : Fr} (hk : f.next < f.pf.kids.length) : pendF f = givL f.pf.kids[f.next] ++ pendF ⟨f.at_, f.pf, f.next + 1⟩ := by
  unfold pendF
  rw [List.drop_eq_getElem_cons hk]; rfl

theorem pendR_thru {pre suf : List Fr} (h : ∀ f ∈ suf, f.pf.kids.length ≤ f.next) : pendR (pre ++ suf) = pendR pre := by
  unfold pendR
  rw [List.reverse_append, List.flatMap_append]
  have : suf.reverse.flatMap pendF = [] := by
    rw [List.flatMap_eq_nil_iff]
    intro f hf
    exact pendF_thru (h f (List.mem_reverse.1 hf))
  rw [this]; rfl

theorem puts_same : ∀ {xs out : List A}, (∀ x ∈ xs, hasB out x = true) → putsI out xs = out
  | [], _, _ => rfl
  | x :: xs, out, h => by
    have e : insA out x = out := by unfold insA; rw [if_pos (h x (List.mem_cons_self ..))]
    show putsI (insA out x) xs = out
    rw [e]
    exact puts_same fun y hy => h y (List.mem_cons_of_mem _ hy)

theorem puts_has : ∀ {xs out : List A} {x : A}, (x ∈ xs ∨ hasB out x = true) → hasB (putsI out xs) x = true
  | [], out, x, h => h.elim (fun h => by simp at h) id
  | y :: ys, out, x, h => by
    show hasB (putsI (insA out y) ys) x = true
    apply puts_has
    rw [hasB_ins]
    rcases h with h | h
    · rcases List.mem_cons.1 h with rfl | h
      · right; rw [cmpA_refl]; simp
      · exact .inl h
    · right; rw [h]; rfl

/-- The way, what is known, what is out, what stands next. -/
structure NdI (st : List Fr) (K : List (Addr × Pf)) (xs cur T : List A) : Prop where
  j : ∀ pre f suf, st = pre ++ f :: suf → ∀ x ∈ givL f.pf, x ∈ xs ∨ x ∈ cur ∨ ∃ g ∈ f :: suf, x ∈ pendF g
  i : ∀ q ∈ K, (∃ f ∈ st, f.at_ = q.1 ∧ f.pf = q.2) ∨ ∀ x ∈ givL q.2, x ∈ xs
  m : putsI [] (xs ++ (cur ++ pendR st)) = T

theorem NdI.start (p : Pf) : NdI [] [] [] (givL p) (putsI [] (givL p)) := ⟨fun pre f suf h => by simp at h, fun q h => by simp at h, by simp [pendR]⟩

theorem NdI.enter {st : List Fr} {K : List (Addr × Pf)} {xs T : List A} {a : Addr} {q : Pf} (h : NdI st K xs (givL q) T) : NdI (st ++ [⟨a, q, 0⟩]) (K ++ [(a, q)]) (xs ++ ownL q) [] T := by
  have hg : givL q = ownL q ++ pendF ⟨a, q, 0⟩ := givL_eq q
  refine ⟨fun pre f suf e x hx => ?_, fun p hp => ?_, ?_⟩
  · rcases List.eq_nil_or_concat suf with rfl | ⟨suf', g, rfl⟩
    · obtain ⟨e1, e2⟩ := List.append_inj' e rfl
      simp only [List.cons.injEq, and_true] at e2
      subst e2
      rw [show (Fr.mk a q 0).pf = q from rfl, hg] at hx
      rcases List.mem_append.1 hx with hx | hx
      · exact .inl (List.mem_append_right _ hx)
      · exact .inr (.inr ⟨_, List.mem_cons_self .., hx⟩)
    · rw [List.concat_eq_append] at e ⊢
      rw [show pre ++ f :: (suf' ++ [g]) = (pre ++ f :: suf') ++ [g] by simp] at e
      obtain ⟨e1, e2⟩ := List.append_inj' e rfl
      simp only [List.cons.injEq, and_true] at e2
      subst e2
      rcases h.j pre f suf' e1 x hx with h1 | h1 | ⟨g, hg1, hg2⟩
      · exact .inl (List.mem_append_left _ h1)
      · rw [hg] at h1
        rcases List.mem_append.1 h1 with h1 | h1
        · exact .inl (List.mem_append_right _ h1)
        · exact .inr (.inr ⟨⟨a, q, 0⟩, by simp, h1⟩)
      · refine .inr (.inr ⟨g, ?_, hg2⟩)
        rcases List.mem_cons.1 hg1 with rfl | hg1
        · exact List.mem_cons_self ..
        · exact List.mem_cons_of_mem _ (List.mem_append_left _ hg1)
  · rcases List.mem_append.1 hp with hp | hp
    · rcases h.i p hp with ⟨f, hf, h1⟩ | h1
      · exact .inl ⟨f, List.mem_append_left _ hf, h1⟩
      · exact .inr fun x hx => List.mem_append_left _ (h1 x hx)
    · rw [List.mem_singleton.1 hp]
      exact .inl ⟨⟨a, q, 0⟩, by simp, rfl, rfl⟩
  · rw [← h.m, pendR_snoc, hg]; simp

theorem NdI.skip {st : List Fr} {K : List (Addr × Pf)} {xs T : List A} {a : Addr} {q : Pf} (h : NdI st K xs (givL q) T) (hk : (a, q) ∈ K) (hn : ∀ f ∈ st, f.pf ≠ q) : NdI st K xs [] T := by
  have hx : ∀ x ∈ givL q, x ∈ xs := by
    rcases h.i _ hk with ⟨f, hf, _, e⟩ | h1
    · exact absurd e (hn f hf)
    · exact h1
  refine ⟨fun pre f suf e x hx2 => ?_, h.i, ?_⟩
  · rcases h.j pre f suf e x hx2 with h1 | h1 | h1
    · exact .inl h1
    · exact .inl (hx x h1)
    · exact .inr (.inr h1)
  · rw [← h.m, List.nil_append, putsI_append, putsI_append, putsI_append, puts_same (xs := givL q) fun x hx2 => puts_has (.inl (hx x hx2))]

theorem NdI.next {pre suf : List Fr} {f : Fr} {K : List (Addr × Pf)} {xs T : List A} (h : NdI (pre ++ f :: suf) K xs [] T) (hs : ∀ g ∈ suf, g.pf.kids.length ≤ g.next) (hk : f.next < f.pf.kids.length) : NdI (pre ++ [⟨f.at_, f.pf, f.next + 1⟩]) K xs (givL f.pf.kids[f.next]) T := by
  have hpe : ∀ g ∈ suf, pendF g = [] := fun g hg => pendF_thru (hs g hg)
  refine ⟨fun pre2 g suf2 e x hx => ?_, fun q hq => ?_, ?_⟩
  · rcases List.eq_nil_or_concat suf2 with rfl | ⟨suf', g', rfl⟩
    · obtain ⟨e1, e2⟩ := List.append_inj' e rfl
      simp only [List.cons.injEq, and_true] at e2
      subst e2
      rcases h.j pre f suf rfl x hx with h1 | h1 | ⟨g, hg1, hg2⟩
      · exact .inl h1
      · simp at h1
      · rcases List.mem_cons.1 hg1 with rfl | hg1
        · rw [pendF_step hk] at hg2
          rcases List.mem_append.1 hg2 with h2 | h2
          · exact .inr (.inl h2)
          · exact .inr (.inr ⟨_, List.mem_cons_self .., h2⟩)
        · rw [hpe g hg1] at hg2; simp at hg2
    · rw [List.concat_eq_append] at e ⊢
      rw [show pre2 ++ g :: (suf' ++ [g']) = (pre2 ++ g :: suf') ++ [g'] by simp] at e
      obtain ⟨e1, e2⟩ := List.append_inj' e rfl
      simp only [List.cons.injEq, and_true] at e2
      subst e2
      rcases h.j pre2 g (suf' ++ f :: suf) (by rw [e1]; simp) x hx with h1 | h1 | ⟨y, hy1, hy2⟩
      · exact .inl h1
      · simp at h1
      · rcases List.mem_cons.1 hy1 with rfl | hy1
        · exact .inr (.inr ⟨_, List.mem_cons_self .., hy2⟩)
        · rcases List.mem_append.1 hy1 with hy1 | hy1
          · exact .inr (.inr ⟨y, List.mem_cons_of_mem _ (List.mem_append_left _ hy1), hy2⟩)
          · rcases List.mem_cons.1 hy1 with rfl | hy1
            · rw [pendF_step hk] at hy2
              rcases List.mem_append.1 hy2 with h2 | h2
              · exact .inr (.inl h2)
              · exact .inr (.inr ⟨_, by simp, h2⟩)
            · rw [hpe y hy1] at hy2; simp at hy2
  · rcases h.i q hq with ⟨g, hg, h1, h2⟩ | h1
    · rcases List.mem_append.1 hg with hg | hg
      · exact .inl ⟨g, List.mem_append_left _ hg, h1, h2⟩
      · rcases List.mem_cons.1 hg with rfl | hg
        · exact .inl ⟨⟨g.at_, g.pf, g.next + 1⟩, List.mem_append_right _ (List.mem_singleton.2 rfl), h1, h2⟩
        · obtain ⟨s1, s2, rfl⟩ := List.append_of_mem hg
          right
          intro x hx
          rcases h.j (pre ++ f :: s1) g s2 (by simp) x (h2 ▸ hx) with h3 | h3 | ⟨y, hy1, hy2⟩
          · exact h3
          · simp at h3
          · rw [hpe y (List.mem_append_right _ hy1)] at hy2; simp at hy2
    · exact .inr h1
  · rw [← h.m, show pre ++ f :: suf = (pre ++ [f]) ++ suf by simp, pendR_thru hs, pendR_snoc, pendR_snoc, pendF_step hk]; simp

theorem NdI.stop {st : List Fr} {K : List (Addr × Pf)} {xs T : List A} (h : NdI st K xs [] T) (hs : ∀ g ∈ st, g.pf.kids.length ≤ g.next) : putsI [] xs = T := by
  rw [← h.m, show st = [] ++ st from rfl, pendR_thru hs]; simp [pendR]

end Go.Proofs.Ytlmngncogomgeaa.D
namespace Go.Proofs.Ytlmngncogomgeaa
open Go.RowKit D
set_option linter.unusedVariables false
/-- A fact in memory: its cells, and its blocks. -/
structure D.Fq where
  t : A
  c1 : Value
  ba : List Nat

def D.Fq.cs (x : Fq) : List Value := [.string x.t.name, x.c1]

def D.Fq.fc (x : Fq) : Fc := ⟨x.t, x.c1⟩

theorem D.chunks {L : List Value} {n : Nat} (h : L.length = n * 2) : L = (List.range n).flatMap fun j => (L.drop (j * 2)).take 2 := by
  have key : ∀ k, k ≤ n → L.take (k * 2) = (List.range k).flatMap fun j => (L.drop (j * 2)).take 2 := by
    intro k
    induction k with
    | zero => intro _; simp
    | succ k ih =>
      intro hk
      rw [List.range_succ, List.flatMap_append, ← ih (by omega), Nat.add_mul, Nat.one_mul]
      simp [List.take_add]
  have := key n (Nat.le_refl _)
  rwa [← h, List.take_length] at this

theorem D.rowed_fqs {w : World} {L : List Value} {xs : List A} {bs : List Nat} (h : Rowed 2 atomK w L xs bs) : ∃ zs : List Fq, zs.map (·.t) = xs ∧ zs.flatMap (·.cs) = L ∧ zs.flatMap (·.ba) = bs ∧ ∀ z ∈ zs, atomK w [.string z.t.name, z.c1] z.t z.ba := by
  obtain ⟨h1, h2, G, rfl, h3⟩ := h
  have hex : ∀ j : Fin xs.length, ∃ s, (L.drop (j.1 * 2)).take 2 = [.string xs[j.1].name, s] := fun j => by
    obtain ⟨s, e, _⟩ := h3 j.1 j.2
    exact ⟨s, e⟩
  let f : Fin xs.length → Fq := fun j => ⟨xs[j.1], Classical.choose (hex j), G j.1⟩
  have hf : ∀ j : Fin xs.length, (f j).cs = (L.drop (j.1 * 2)).take 2 := fun j => (Classical.choose_spec (hex j)).symm
  have hr : ∀ (γ : Type) (q : Nat → List γ), (List.finRange xs.length).flatMap (fun j => q j.1) = (List.range xs.length).flatMap q := fun γ q => by
    have e : List.range xs.length = (List.finRange xs.length).map (fun j => j.1) := by
      apply List.ext_getElem
      · simp
      · intro i h1 h2
        simp
    rw [e, List.flatMap_map]
  refine ⟨(List.finRange xs.length).map f, ?_, ?_, ?_, fun z hz => ?_⟩
  · apply List.ext_getElem
    · simp
    · intro i h1 h2
      simp [f]
  · rw [List.flatMap_map]
    rw [chunks h1]
    conv => rhs; rw [← hr]
    refine congrArg (fun g => List.flatMap g (List.finRange xs.length)) (funext fun j => ?_)
    exact hf j
  · rw [List.flatMap_map]
    exact hr Nat G
  · obtain ⟨j, _, rfl⟩ := List.mem_map.1 hz
    have := h3 j.1 j.2
    rw [← hf j] at this
    exact this

theorem D.fq_at (zs : List Fq) (k : Nat) (h : k < zs.length) : (zs.flatMap (·.cs))[k * 2]? = some (.string zs[k].t.name) ∧ (zs.flatMap (·.cs))[k * 2 + 1]? = some zs[k].c1 := by
  induction zs generalizing k with
  | nil => simp at h
  | cons z zs ih =>
    cases k with
    | zero => simp [Fq.cs]
    | succ k =>
      have := ih k (by simpa using h)
      have e1 : (k + 1) * 2 = k * 2 + 2 := by omega
      have e2 : (k + 1) * 2 + 1 = k * 2 + 1 + 2 := by omega
      rw [e1, show k * 2 + 2 + 1 = k * 2 + 1 + 2 by omega]
      simp only [List.flatMap_cons, Fq.cs, List.cons_append, List.nil_append, List.getElem?_cons_succ, List.getElem_cons_succ]
      exact this

end Go.Proofs.Ytlmngncogomgeaa
