/- Of the proof of FnOnce: SFn, FndI, SrtP, OncI, OncL, LwOnceL. -/
import Derived.Test.YtjjfafgaphloaaaGreatDoorM47
import Derived.Test.YtjjfafgaphloaaaGreatDoorM44
namespace Go.Proofs.YtjjfafgaphloaaaGreatDoor
open Go.Shelf Go.RowKit Go.Lib Go.Sort D
set_option linter.unusedVariables false
/-- A fact's cells. -/
structure D.Fc where
  t : A
  c1 : Value

def D.Fc.enc (x : Fc) : List Value := [.string x.t.name, x.c1]

abbrev D.FcIn (w : World) (g : Nat) := { x : Fc // ∃ ba, atomK w [.string x.t.name, x.c1] x.t ba ∧ g ∉ ba }

def D.FcIn.enc {w : World} {g : Nat} (x : FcIn w g) : List Value := x.1.enc

def D.FcIn.cf {w : World} {g : Nat} (x y : FcIn w g) : Int := cmpA x.1.t y.1.t

theorem D.heap_mapBlock_other (w : World) (g : Nat) (f : Array Value → Array Value) {x : Nat} (h : x ≠ g) : (mapBlock w g f).heap[x]? = w.heap[x]? := by
  simp only [mapBlock, Array.getElem?_modify]
  rw [if_neg (fun e => h e.symm)]

theorem D.sortW_other {α : Type} [Inhabited α] (enc : α → List Value) (k : Nat) (w : World) (g n : Nat) (d : Array α) (os : Array Obj) {x : Nat} (hx : x < w.heap.size) (h : x ≠ g) : (sortWorldK enc k w g 0 n d os).heap[x]? = w.heap[x]? := by
  unfold sortWorldK
  have e1 : (grow (putRowK enc k (Go.Sort.ahead w n) g 0 d) os).heap[x]? = (putRowK enc k (Go.Sort.ahead w n) g 0 d).heap[x]? := by
    show (_ ++ os)[x]? = _
    rw [Array.getElem?_append_left (by rw [size_putRowK]; exact hx)]
  rw [e1]
  exact heap_mapBlock_other (Go.Sort.ahead w n) g _ h

theorem D.sortW_own {α : Type} [Inhabited α] (enc : α → List Value) (k : Nat) (w : World) (g n : Nat) (d : Array α) (os : Array Obj) {cur : Array Value} {e : TypeId} (h : w.heap[g]? = some (.cells cur e (0, 0))) : ∃ cur', (sortWorldK enc k w g 0 n d os).heap[g]? = some (.cells cur' e (0, 0)) ∧ cur'.size = cur.size := by
  have hg : g < w.heap.size := (Array.getElem?_eq_some_iff.1 h).1
  unfold sortWorldK
  have e1 : (grow (putRowK enc k (Go.Sort.ahead w n) g 0 d) os).heap[g]? = (putRowK enc k (Go.Sort.ahead w n) g 0 d).heap[g]? := by
    show (_ ++ os)[g]? = _
    rw [Array.getElem?_append_left (by rw [size_putRowK]; exact hg)]
  refine ⟨putCells id 0 (flatK enc k d) cur, ?_, ?_⟩
  · rw [e1]
    show (mapBlock (Go.Sort.ahead w n) g (putCells id 0 (flatK enc k d))).heap[g]? = _
    simp only [mapBlock, Array.getElem?_modify]
    rw [if_pos trivial]
    show (w.heap[g]?).map _ = _
    rw [h]
    rfl
  · simp [putCells]

theorem D.sortW_but {α : Type} [Inhabited α] (enc : α → List Value) (k : Nat) (w : World) (g n : Nat) (d : Array α) (os : Array Obj) (hg : g < w.heap.size) : AllBut (fun x => x = g) w (sortWorldK enc k w g 0 n d os) :=
  ⟨rfl, rfl, rfl, size_sortWorldK_c enc k w g 0 n d os, fun x hx h => sortW_other enc k w g n d os hx h⟩

theorem D.swo_cmp {w : World} {g : Nat} : SWO (ltOf (FcIn.cf (w := w) (g := g))) where
  irrefl x := by unfold ltOf FcIn.cf; rw [cmpA_refl]; rfl
  trans x y z h1 h2 := by
    unfold ltOf FcIn.cf at *
    simp only [decide_eq_true_eq] at *
    rw [cmpA_lex] at *
    exact (lexL_is cmpS_is).lt_of_lt_le h1 (by omega)
  ntrans x y z h1 h2 := by
    unfold ltOf FcIn.cf at *
    simp only [decide_eq_false_iff_not] at *
    rw [cmpA_lex] at *
    have a1 := (lexL_is cmpS_is).anti (keyA x.1.t) (keyA y.1.t)
    have a2 := (lexL_is cmpS_is).anti (keyA y.1.t) (keyA z.1.t)
    have a3 := (lexL_is cmpS_is).anti (keyA x.1.t) (keyA z.1.t)
    have a4 := (lexL_is cmpS_is).trans (keyA z.1.t) (keyA y.1.t) (keyA x.1.t) (by omega) (by omega)
    omega

theorem sortAtoms_any (g cap : Nat) (xs : List Fc) (w : World) (hg : g < w.heap.size) (hc : ∀ k x, xs[k]? = some x → w.cell? ⟨g, k * 2, none⟩ = some (.string x.t.name) ∧ w.cell? ⟨g, k * 2 + 1, none⟩ = some x.c1) (hfz : ∀ q, w.frozen? ⟨g, q, none⟩ = false)
    (hat : ∀ x ∈ xs, ∃ ba, atomK w [.string x.t.name, x.c1] x.t ba ∧ g ∉ ba) (hsz : xs.length < 4611686018427387904) :
    Calls Tryz.prog 66 #[.slice (some ⟨g, 0, none⟩) xs.length cap, .func (.func 29) #[] #[]] w fun e w' => e = .returned (.tuple #[]) ∧
      ∃ ys : List Fc, ys.Perm xs ∧ ys.Pairwise (fun a b => ¬ cmpA b.t a.t < 0) ∧ (∀ k y, ys[k]? = some y → w'.cell? ⟨g, k * 2, none⟩ = some (.string y.t.name) ∧ w'.cell? ⟨g, k * 2 + 1, none⟩ = some y.c1) ∧ AllBut (fun x => x = g) w w' ∧
        ∀ cur e, w.heap[g]? = some (.cells cur e (0, 0)) → ∃ cur', w'.heap[g]? = some (.cells cur' e (0, 0)) ∧ cur'.size = cur.size := by
  cases hx : xs with
  | nil =>
    refine (AnyF.slices_SortFunc_none Tryz.sortA (some ⟨g, 0, none⟩) cap (.func (.func 29) #[] #[]) w).mono ?_
    rintro e w' ⟨rfl, rfl⟩
    exact ⟨rfl, [], List.Perm.refl _, List.Pairwise.nil, fun k y h => by simp at h, AllBut.refl _ _, fun cur e h => ⟨cur, h, rfl⟩⟩
  | cons x0 rest =>
    rw [← hx]
    have hm0 : x0 ∈ xs := by rw [hx]; exact List.mem_cons_self ..
    letI : Inhabited (FcIn w g) := ⟨⟨x0, hat x0 hm0⟩⟩
    obtain ⟨L, hL⟩ : ∃ L : List (FcIn w g), L = xs.attach.map (fun x => ⟨x.1, hat x.1 x.2⟩) := ⟨_, rfl⟩
    have hLx : L.map (·.1) = xs := by rw [hL, List.map_map]; exact List.attach_map_subtype_val xs
    have hlen : L.length = xs.length := by rw [← hLx]; simp
    have hget : ∀ (d : List (FcIn w g)) (i : Nat) (h : i < d.length), d.toArray[i]! = d[i] := fun d i h => by simp [getElem!_pos, h]
    have hH : HoldsK FcIn.enc 2 w g 0 L.toArray := by
      intro j hj
      simp only [size_flatK, List.size_toArray] at hj
      refine ⟨?_, hfz _⟩
      show w.cell? _ = some ((flatK FcIn.enc 2 L.toArray)[j]!)
      rw [get_flatK _ _ _ _ (by simpa using hj), hget L (j / 2) (by omega)]
      have h1 := hc (j / 2) (L[j / 2]'(by omega)).1 (by rw [← hLx, List.getElem?_map, List.getElem?_eq_getElem (by omega)]; rfl)
      have e : 0 + j = j / 2 * 2 + j % 2 := by omega
      rw [e]
      rcases (show j % 2 = 0 ∨ j % 2 = 1 by omega) with h | h
      · rw [h]; exact h1.1
      · rw [h]; exact h1.2
    have hcmp : CmpLays Tryz.prog 29 #[] FcIn.enc 2 (FcIn.cf (w := w) (g := g)) g 0 L.toArray.size w := fun m os dk hdk x y => by
      obtain ⟨b1, h1, n1⟩ := x.2
      obtain ⟨b2, h2, n2⟩ := y.2
      have hb := sortW_but FcIn.enc 2 w g m dk os hg
      refine (atomOrder_grew x.1.t y.1.t (.string x.1.t.name) x.1.c1 (.string y.1.t.name) y.1.c1 b1 b2 (sortWorldK FcIn.enc 2 w g 0 m dk os) (atomK_good.keep h1 fun b hb' => hb.block b (atomK_good.lt h1 b hb') (fun e => n1 (e ▸ hb'))) (atomK_good.keep h2 fun b hb' => hb.block b (atomK_good.lt h2 b hb') (fun e => n2 (e ▸ hb')))).mono ?_
      rintro e w' ⟨rfl, hgw⟩
      exact ⟨rfl, hgw.is⟩
    have hcon := AnyQ.slices_SortFunc Tryz.sortA 2 Tryz.isAgg33 Tryz.sizeOf33 FcIn.enc (fun x => rfl) (fun x v hv => by
      obtain ⟨b1, h1, _⟩ := x.2
      obtain ⟨Ad, cc, _, h3⟩ := atom_cells2 h1
      unfold FcIn.enc Fc.enc at hv
      rw [h3] at hv
      simp at hv
      rcases hv with rfl | rfl <;> rfl) FcIn.cf swo_cmp 29 #[] g 0 cap L.toArray w (enters_of Tryz.func29 (by kernel_rfl) rfl) hcmp hH hg (by simpa [hlen] using hsz)
    have hs : L.toArray.size = xs.length := by simp [hlen]
    rw [hs] at hcon
    change Calls Tryz.prog 66 _ _ _ at hcon
    refine hcon.mono ?_
    rintro e w' ⟨rfl, d', n, os, hp, hsrt, rfl⟩
    have hd : d'.size = xs.length := by rw [hp.1, hs]
    have hH2 := holdsK_sortWorldK_c FcIn.enc 2 w g 0 L.toArray d' n os hH hg (by rw [hp.1])
    refine ⟨rfl, d'.toList.map (·.1), ?_, ?_, fun k y hk => ?_, sortW_but _ _ _ _ _ _ _ hg, fun cur e h => sortW_own _ _ _ _ _ _ _ h⟩
    · have h3 := hp.2.2
      rw [Array.extract_eq_self_of_le (by omega), Array.extract_eq_self_of_le (by omega)] at h3
      have h4 := h3.map (·.1)
      rwa [List.toList_toArray, hLx] at h4
    · refine List.pairwise_map.2 (List.pairwise_iff_getElem.2 fun i j hi hj hij => ?_)
      have h3 := hsrt i j (Nat.zero_le _) hij (by simp at hj; omega)
      rw [getElem!_pos d' i (by simpa using hi), getElem!_pos d' j (by simpa using hj)] at h3
      unfold ltOf FcIn.cf at h3
      simpa using h3
    · obtain ⟨z, hz, rfl⟩ : ∃ z, d'[k]? = some z ∧ z.1 = y := by
        rw [List.getElem?_map] at hk
        obtain ⟨z, hz, rfl⟩ := Option.map_eq_some_iff.1 hk
        exact ⟨z, by simpa using hz, rfl⟩
      obtain ⟨hkl, rfl⟩ := Array.getElem?_eq_some_iff.1 hz
      have c0 := (hH2.cell (i := k) (c := 0) hkl (by omega)).1
      have c1 := (hH2.cell (i := k) (c := 1) hkl (by omega)).1
      rw [getElem!_pos d' k hkl] at c0 c1
      rw [Nat.zero_add] at c0 c1
      exact ⟨c0, c1⟩

end Go.Proofs.YtjjfafgaphloaaaGreatDoor
namespace Go.Proofs.YtjjfafgaphloaaaGreatDoor
open Go.RowKit D
set_option linter.unusedVariables false
attribute [local go_sem ↓] Go.wp_at_zero Go.wp_at_succ
set_option maxRecDepth 100000 in
set_option maxHeartbeats 4000000 in
theorem onceTell_any (a6 mf : Nat) (told : List A) (fb : List Nat) (a : A) (c1 : Value) (ba : List Nat) (w : World) (F : FndSt a6 mf w told fb) (ha : atomK w [.string a.name, c1] a ba) (hok : FactOk a) (hn : New a6 w ba) (hd : ∀ x ∈ ba, x ∉ fb) :
    Calls Tryz.prog 25 #[.agg #[.string a.name, c1], .pointer (some ⟨a6, 0, none⟩)] w fun e w' => e = .returned (.bool true) ∧ FndSt a6 mf w' (told ++ [a]) (fb ++ ba) ∧ AllBut (fun k => k = mf) w w' := by
  obtain ⟨Ae, ce, _, rfl⟩ := atom_cells2 ha
  have hA : Below w.heap.size w (w.alloc (.cells #[.string a.name, .slice Ae a.args.length ce] 33)) := (Below.refl _ _).alloc (Nat.le_refl _) _
  have hbulk : bulkA a ≤ 16777216 := by have := bulk_ok hok.ok; omega
  have hT := Lib.hid (atomText_any a (.string a.name) (.slice Ae a.args.length ce) ba _ (atomK_good.below ha hA.drew) hbulk)
  have y0 : (w.alloc (.cells #[.string a.name, .slice Ae a.args.length ce] 33)).cell? ⟨a6, 0, none⟩ = some (.map (some mf)) := cell_later hA (cell_of_blk F.box)
  have y1 : (w.alloc (.cells #[.string a.name, .slice Ae a.args.length ce] 33)).cell? ⟨w.heap.size, 0, none⟩ = some (.string a.name) := by go_simp
  have y2 : (w.alloc (.cells #[.string a.name, .slice Ae a.args.length ce] 33)).cell? ⟨w.heap.size, 1, none⟩ = some (.slice Ae a.args.length ce) := by go_simp
  have HUP : Hid (∀ w2 : World, Below w.heap.size w w2 → ∃ w9, (Instr.mapUpdate 50 (.map (some mf)) (.string ⟨(putL a).toArray⟩) (.agg #[.string a.name, .slice Ae a.args.length ce])).run Tryz.prog w2 = .ok () w9 ∧ FndSt a6 mf w9 (told ++ [a]) (fb ++ ba) ∧ AllBut (fun k => k = mf) w w9) := Lib.hid fun w2 h2 => by
    obtain ⟨w9, r1, r2, r3⟩ := (F.keep (fun x hx => h2.block x (F.lt x hx)) h2.size).put (atomK_good.below ha h2) hok (hn.below h2) hd
    exact ⟨w9, r1, r2, (AllBut.of_below h2).trans (AllBut.of_grown r3 rfl)⟩
  have HA := Lib.hid hA
  have hsz : w.heap.size < (w.alloc (.cells #[.string a.name, .slice Ae a.args.length ce] 33)).heap.size := by simp
  clear F ha hok hA hbulk hn hd
  go_enter Tryz.func25, Tryz.ntmps25
  go_wp2
  generalize w.alloc (.cells #[.string a.name, .slice Ae a.args.length ce] 33) = W at *
  go_region_law
    (first
      | (go_simp; go_at_call 26; refine hT.out.mono ?_; rintro e w2 ⟨rfl, hb2⟩; have HB2 := Lib.hid ((Below.refl W.heap.size W).drew.trans hb2); replace y0 := cell_later HB2.out y0; replace y1 := cell_later HB2.out y1; replace y2 := cell_later HB2.out y2; replace hsz := Nat.lt_of_lt_of_le hsz HB2.out.size; obtain ⟨w9, hup, hF9, hg9⟩ := HUP.out w2 (HA.out.trans (HB2.out.mono HA.out.size)); have HF9 := Lib.hid (And.intro hF9 hg9); clear hb2 hF9 hg9))
  all_goals
    clear y0 y1 y2 hup HB2
    go_wp2
    go_ret
    exact ⟨rfl, HF9.out⟩

theorem D.tlr_once (a6 mf : Nat) : Tlr 25 #[.pointer (some ⟨a6, 0, none⟩)] (fun k => k = mf) (FndSt a6 mf) (fun _ => true) := by
  refine ⟨enters_of Tryz.func25 (by kernel_rfl) rfl, fun h => h.lt, fun h x hx => hx ▸ h.own.2.1, fun h hk hs => h.keep hk hs, fun w told fb a c1 ba b0 h hb0 hn ha hok => ?_⟩
  refine (onceTell_any a6 mf told fb a c1 ba w h ha hok (hn.mono (Nat.le_of_lt (hb0 _ h.own.1))) fun x hx hm => ?_).mono ?_
  · have h1 := hb0 x hm
    have h2 := (hn.own x hx).1
    omega
  · rintro e w' ⟨rfl, h1, h2⟩
    exact ⟨rfl, ⟨_, h1, fun x hx => (List.mem_append.1 hx).elim .inl fun h => .inr (hn.own x h).1⟩, h2⟩

end Go.Proofs.YtjjfafgaphloaaaGreatDoor
namespace Go.Proofs.YtjjfafgaphloaaaGreatDoor
open Go.RowKit D
set_option linter.unusedVariables false
theorem D.perm_lift {α β : Type} (f : α → β) {ys xs : List β} (h : ys.Perm xs) : ∀ L : List α, xs = L.map f → ∃ L' : List α, L'.Perm L ∧ ys = L'.map f := by
  induction h with
  | nil => intro L e; exact ⟨L, List.Perm.refl _, e⟩
  | cons x _ ih =>
    intro L e
    cases L with
    | nil => simp at e
    | cons a L =>
      simp only [List.map_cons, List.cons.injEq] at e
      obtain ⟨L', h1, h2⟩ := ih L e.2
      exact ⟨a :: L', h1.cons a, by rw [List.map_cons, e.1, h2]⟩
  | swap x y l =>
    intro L e
    match L, e with
    | [], e => simp at e
    | [a], e => simp at e
    | a :: b :: L, e =>
      simp only [List.map_cons, List.cons.injEq] at e
      exact ⟨b :: a :: L, List.Perm.swap a b L, by rw [List.map_cons, List.map_cons, e.1, e.2.1, e.2.2]⟩
  | trans _ _ ih1 ih2 =>
    intro L e
    obtain ⟨L1, h1, h2⟩ := ih2 L e
    obtain ⟨L2, h3, h4⟩ := ih1 L1 h2
    exact ⟨L2, h3.trans h1, h4⟩

/-- A fact in memory: its cells, and its blocks. -/
structure D.Fq where
  t : A
  c1 : Value
  ba : List Nat

def D.Fq.cs (x : Fq) : List Value := [.string x.t.name, x.c1]

def D.Fq.fc (x : Fq) : Fc := ⟨x.t, x.c1⟩

theorem D.chunks {L : List Value} {n : Nat} (h : L.length = n * 2) : L = (List.range n).flatMap fun j => (L.drop (j * 2)).take 2 := by
  have key : ∀ k, k ≤ n → L.take (k * 2) = (List.range k).flatMap fun j => (L.drop (j * 2)).take 2 := by
    intro k
    induction k with
    | zero => intro _; simp
    | succ k ih =>
      intro hk
      rw [List.range_succ, List.flatMap_append, ← ih (by omega), Nat.add_mul, Nat.one_mul]
      simp [List.take_add]
  have := key n (Nat.le_refl _)
  rwa [← h, List.take_length] at this

theorem D.rowed_fqs {w : World} {L : List Value} {xs : List A} {bs : List Nat} (h : Rowed 2 atomK w L xs bs) : ∃ zs : List Fq, zs.map (·.t) = xs ∧ zs.flatMap (·.cs) = L ∧ zs.flatMap (·.ba) = bs ∧ ∀ z ∈ zs, atomK w [.string z.t.name, z.c1] z.t z.ba := by
  obtain ⟨h1, h2, G, rfl, h3⟩ := h
  have hex : ∀ j : Fin xs.length, ∃ s, (L.drop (j.1 * 2)).take 2 = [.string xs[j.1].name, s] := fun j => by
    obtain ⟨s, e, _⟩ := h3 j.1 j.2
    exact ⟨s, e⟩
  let f : Fin xs.length → Fq := fun j => ⟨xs[j.1], Classical.choose (hex j), G j.1⟩
  have hf : ∀ j : Fin xs.length, (f j).cs = (L.drop (j.1 * 2)).take 2 := fun j => (Classical.choose_spec (hex j)).symm
  have hr : ∀ (γ : Type) (q : Nat → List γ), (List.finRange xs.length).flatMap (fun j => q j.1) = (List.range xs.length).flatMap q := fun γ q => by
    have e : List.range xs.length = (List.finRange xs.length).map (fun j => j.1) := by
      apply List.ext_getElem
      · simp
      · intro i h1 h2
        simp
    rw [e, List.flatMap_map]
  refine ⟨(List.finRange xs.length).map f, ?_, ?_, ?_, fun z hz => ?_⟩
  · apply List.ext_getElem
    · simp
    · intro i h1 h2
      simp [f]
  · rw [List.flatMap_map]
    rw [chunks h1]
    conv => rhs; rw [← hr]
    refine congrArg (fun g => List.flatMap g (List.finRange xs.length)) (funext fun j => ?_)
    exact hf j
  · rw [List.flatMap_map]
    exact hr Nat G
  · obtain ⟨j, _, rfl⟩ := List.mem_map.1 hz
    have := h3 j.1 j.2
    rw [← hf j] at this
    exact this

theorem D.fqs_rowed {w : World} : ∀ {zs : List Fq}, (∀ z ∈ zs, atomK w [.string z.t.name, z.c1] z.t z.ba) → Rowed 2 atomK w (zs.flatMap (·.cs)) (zs.map (·.t)) (zs.flatMap (·.ba))
  | [], _ => Rowed.nil
  | z :: zs, h => by
    have h1 : Rowed 2 atomK w z.cs [z.t] z.ba := Rowed.one_el atomK_ones (h z (List.mem_cons_self ..))
    exact h1.append (fqs_rowed fun y hy => h y (List.mem_cons_of_mem _ hy))

theorem D.fq_at (zs : List Fq) (k : Nat) (h : k < zs.length) : (zs.flatMap (·.cs))[k * 2]? = some (.string zs[k].t.name) ∧ (zs.flatMap (·.cs))[k * 2 + 1]? = some zs[k].c1 := by
  induction zs generalizing k with
  | nil => simp at h
  | cons z zs ih =>
    cases k with
    | zero => simp [Fq.cs]
    | succ k =>
      have := ih k (by simpa using h)
      have e1 : (k + 1) * 2 = k * 2 + 2 := by omega
      have e2 : (k + 1) * 2 + 1 = k * 2 + 1 + 2 := by omega
      rw [e1, show k * 2 + 2 + 1 = k * 2 + 1 + 2 by omega]
      simp only [List.flatMap_cons, Fq.cs, List.cons_append, List.nil_append, List.getElem?_cons_succ, List.getElem_cons_succ]
      exact this

theorem D.fq_len (zs : List Fq) : (zs.flatMap (·.cs)).length = zs.length * 2 := by
  induction zs with
  | nil => rfl
  | cons z zs ih => simp only [List.flatMap_cons, List.length_append, ih, List.length_cons]; simp [Fq.cs]; omega

/-- slices.SortFunc of a row of facts that one owns. -/
theorem sortColl_any (xs : List A) (v : Value) (L : List Value) (bs : List Nat) (base : Nat) (w : World) (C : Coll 2 atomK base 33 w v L xs bs) (hsz : xs.length < 4611686018427387904) :
    Calls Tryz.prog 66 #[v, .func (.func 29) #[] #[]] w fun e w' => e = .returned (.tuple #[]) ∧
      ∃ ys L' bs', ys.Perm xs ∧ ys.Pairwise (fun a b => ¬ cmpA b a < 0) ∧ bs'.Perm bs ∧ Coll 2 atomK base 33 w' v L' ys bs' ∧ AllBut (fun x => v.ownBlock = some x) w w' := by
  obtain ⟨zs, e1, e2, e3, hz⟩ := rowed_fqs C.row
  obtain ⟨hlen, hown⟩ := C.own
  rcases hown with ⟨rfl, hL⟩ | ⟨g, cap, cur, rfl, hg, hh, hc1, hc2, hc3, hc4⟩
  · have hx : xs = [] := List.length_eq_zero_iff.1 hL
    subst hx
    refine (Go.Proofs.AnyF.slices_SortFunc_none Tryz.sortA none 0 (.func (.func 29) #[] #[]) w).mono ?_
    rintro e w' ⟨rfl, rfl⟩
    exact ⟨rfl, [], L, bs, List.Perm.refl _, List.Pairwise.nil, List.Perm.refl _, C, AllBut.refl _ _⟩
  · have hgl : g < w.heap.size := lt_of_block hh
    have hzl : zs.length = xs.length := by rw [← e1]; simp
    have hgz : ∀ z ∈ zs, g ∉ z.ba := fun z hzm hm => C.far g (by rw [← e3]; exact List.mem_flatMap.2 ⟨z, hzm, hm⟩) rfl
    have hcs : ∀ q, q < xs.length * 2 → w.cell? ⟨g, q, none⟩ = L[q]? := fun q hq => by
      rw [cell_of_blk hh, ← hc4, List.getElem?_take_of_lt hq, Array.getElem?_toList]
    have hm := sortAtoms_any g cap (zs.map Fq.fc) w hgl (fun k x hk => by
      rw [List.getElem?_map] at hk
      obtain ⟨z, hzk, rfl⟩ := Option.map_eq_some_iff.1 hk
      obtain ⟨hkl, rfl⟩ := List.getElem?_eq_some_iff.1 hzk
      have := fq_at zs k hkl
      rw [e2] at this
      exact ⟨(hcs _ (by omega)).trans this.1, (hcs _ (by omega)).trans this.2⟩) (fun q => frozen_of_blk hh) (fun x hx => by
      obtain ⟨z, hzm, rfl⟩ := List.mem_map.1 hx
      exact ⟨z.ba, hz z hzm, hgz z hzm⟩) (by simp; omega)
    rw [List.length_map, hzl] at hm
    refine hm.mono ?_
    rintro e w' ⟨rfl, ys, hp, hs, hcy, hbut, hshape⟩
    obtain ⟨zs', hp', rfl⟩ := perm_lift Fq.fc hp zs rfl
    obtain ⟨cur', hh', hsz'⟩ := hshape cur _ hh
    have hl' : zs'.length = xs.length := by rw [hp'.length_eq, hzl]
    have hz' : ∀ z ∈ zs', atomK w' [.string z.t.name, z.c1] z.t z.ba := fun z hzm => by
      have h1 := hz z (hp'.mem_iff.1 hzm)
      exact atomK_good.keep h1 fun b hb => hbut.block b (atomK_good.lt h1 b hb) (fun e => hgz z (hp'.mem_iff.1 hzm) (e ▸ hb))
    refine ⟨rfl, zs'.map (·.t), zs'.flatMap (·.cs), zs'.flatMap (·.ba), by rw [← e1]; exact hp'.map _, ?_, by rw [← e3]; exact hp'.flatMap_right _, ⟨⟨?_, .inr ⟨g, cap, cur', ?_, hg, hh', ?_, hc2, by rw [hsz']; exact hc3, ?_⟩⟩, fqs_rowed hz', fun b hb e => ?_⟩, ?_⟩
    · rw [List.pairwise_map] at hs ⊢
      exact hs
    · rw [fq_len]; simp
    · rw [List.length_map, hl']
    · rw [List.length_map, hl']; exact hc1
    · apply List.ext_getElem?
      intro q
      by_cases hq : q < xs.length * 2
      · rw [List.getElem?_take_of_lt (by rw [List.length_map, hl']; exact hq), Array.getElem?_toList, ← cell_of_blk hh']
        have hk : q / 2 < zs'.length := by omega
        have h1 := hcy (q / 2) (zs'[q / 2].fc) (by rw [List.getElem?_map, List.getElem?_eq_getElem hk]; rfl)
        have h2 := fq_at zs' (q / 2) hk
        rcases (show q = q / 2 * 2 ∨ q = q / 2 * 2 + 1 by omega) with e | e
        · rw [e]
          have e' : q / 2 * 2 / 2 = q / 2 := by omega
          simp only [e'] at *
          exact h1.1.trans h2.1.symm
        · rw [e]
          have e' : (q / 2 * 2 + 1) / 2 = q / 2 := by omega
          simp only [e'] at *
          exact h1.2.trans h2.2.symm
      · rw [List.getElem?_eq_none (by simp; omega), List.getElem?_eq_none (by rw [fq_len]; omega)]
    · obtain ⟨z, hzm, hb⟩ := List.mem_flatMap.1 hb
      injection e with e
      have e' : g = b := e
      exact hgz z (hp'.mem_iff.1 hzm) (e' ▸ hb)
    · exact ⟨hbut.os, hbut.tape, hbut.output, hbut.size, fun k hk hne => hbut.block k hk fun e => hne (by rw [e]; rfl)⟩

/-- Facts that stand in order, none twice. -/
theorem D.asc_sorted {ts : List A} (hf : ∀ t ∈ ts, FactOk t) (hn : ts.Nodup) (hs : ts.Pairwise (fun a b => ¬ cmpA b a < 0)) : asc ts = true := by
  rw [asc_iff]
  intro i hi
  have h1 := List.pairwise_iff_getElem.1 hs i (i + 1) (by omega) hi (by omega)
  have h2 := List.pairwise_iff_getElem.1 hn i (i + 1) (by omega) hi (by omega)
  by_cases h0 : cmpA ts[i] ts[i + 1] = 0
  · exact absurd (gr_eq (hf _ (List.getElem_mem _)).gr (hf _ (List.getElem_mem _)).gr h0) h2
  · rw [cmpA_lex] at h0 h1 ⊢
    have h4 := cmpA_is.anti (keyA ts[i + 1]) (keyA ts[i])
    omega

end Go.Proofs.YtjjfafgaphloaaaGreatDoor
namespace Go.Proofs.YtjjfafgaphloaaaGreatDoor
open Go.RowKit D
set_option linter.unusedVariables false
attribute [local go_sem ↓] Go.wp_at_zero Go.wp_at_succ
theorem D.map_facts {E : List Fe} {mf : Nat} {w : World} (h : MapV isStr mf (E.map Fe.kv) w) : (E.map (·.t)).Nodup ∧ E.Nodup ∧ ∀ x ∈ E, ∀ y ∈ E, aText x.t = aText y.t → x = y := by
  have h1 := h.once
  rw [List.pairwise_map] at h1
  have h2 : E.Pairwise fun x y => aText x.t ≠ aText y.t := h1.imp fun {a b} hne e => hne (by unfold Fe.kv; rw [e])
  refine ⟨List.pairwise_map.2 (h2.imp fun {a b} hne e => hne (by rw [e])), h2.imp fun {a b} hne e => hne (by rw [e]), fun x hx y hy e => ?_⟩
  obtain ⟨i, hi, rfl⟩ := List.getElem_of_mem hx
  obtain ⟨j, hj, rfl⟩ := List.getElem_of_mem hy
  rcases Nat.lt_trichotomy i j with h3 | h3 | h3
  · exact absurd e (List.pairwise_iff_getElem.1 h2 i j hi hj h3)
  · subst h3; rfl
  · exact absurd e.symm (List.pairwise_iff_getElem.1 h2 j i hj hi h3)

/-- All that came is all that was found. -/
theorem D.came_perm {E : List Fe} {w0 : World} {mf : Nat} {w : World} (h : MapV isStr mf (E.map Fe.kv) w) {xs : List (FdIn E w0)} (hc : AllCame (E.map Fe.kv) xs) : (xs.map (·.1)).Perm E := by
  obtain ⟨h1, h2, h3⟩ := map_facts h
  have hn : (xs.map (·.1)).Nodup := by
    refine List.pairwise_map.2 ?_
    have := hc.1
    rw [List.nodup_iff_pairwise_ne, List.pairwise_map] at this
    exact this.imp fun {a b} hne e => hne (by rw [e])
  refine (List.perm_ext_iff_of_nodup hn h2).2 fun x => ⟨fun hx => ?_, fun hx => ?_⟩
  · obtain ⟨y, _, rfl⟩ := List.mem_map.1 hx
    exact y.2.1
  · obtain ⟨y, hy, e⟩ := hc.2 x.kv (List.mem_map.2 ⟨x, hx, rfl⟩)
    unfold Fe.kv at e
    have : x = y.1 := h3 x hx y.1 y.2.1 (by simpa using e)
    exact List.mem_map.2 ⟨y, hy, this.symm⟩

theorem values_any (b : Nat) (w : World) : Calls Tryz.prog 28 #[.map (some b)] w fun e w' => e = .returned (.func (.func 67) #[] #[.pointer (some ⟨w.heap.size, 0, none⟩)]) ∧ w' = w.alloc (.cells #[.map (some b)] 50) :=
  (callsIn_wide (n := 3)).1 (values_in _ 3 trivial rfl b w)

/-- What slices.Collect makes of what was found. -/
def D.Got (E : List Fe) (w w' : World) (v : Value) : Prop := ∃ xs : List (FdIn E w), AllCame (E.map Fe.kv) xs ∧ w'.ownsRow w.heap.size 33 2 v xs.length (flatF xs) ∧ Below w.heap.size w w'

theorem appendSeq_any (Bm mf : Nat) (E : List Fe) (w : World) (hm : w.cell? ⟨Bm, 0, none⟩ = some (.map (some mf))) (hL : MapV isStr mf (E.map Fe.kv) w) (hT : Timed mf w) (hE : ∀ x ∈ E, FactOk x.t ∧ atomK w [.string x.t.name, x.c1] x.t x.ba) (hN : E.length ≤ 100000000000) :
    Calls Tryz.prog 107 #[.slice none 0 0, .func (.func 67) #[] #[.pointer (some ⟨Bm, 0, none⟩)]] w fun e w' => ∃ v, e = .returned v ∧ Got E w w' v := by
  refine ((callsIn_wide (n := 3)).1 (appendSeq_in _ 3 trivial trivial rfl (Nat.le_refl _) Bm mf E w (E.map Fe.kv) w hm hL hT (fun p hp => ?_) (by simp [maxLen]; omega) (by simp; omega))).mono ?_
  · obtain ⟨x, hx, rfl⟩ := List.mem_map.1 hp
    exact ⟨⟨x, hx, hE x hx⟩, rfl⟩
  · rintro e w' ⟨xs, v, rfl, h1, h2, h3⟩
    exact ⟨v, rfl, xs, h1, h2, h3⟩

set_option maxHeartbeats 1000000 in
theorem collect_any (Bm mf : Nat) (E : List Fe) (w : World) (hm : w.cell? ⟨Bm, 0, none⟩ = some (.map (some mf))) (hL : MapV isStr mf (E.map Fe.kv) w) (hT : Timed mf w) (hE : ∀ x ∈ E, FactOk x.t ∧ atomK w [.string x.t.name, x.c1] x.t x.ba) (hN : E.length ≤ 100000000000) :
    Calls Tryz.prog 65 #[.func (.func 67) #[] #[.pointer (some ⟨Bm, 0, none⟩)]] w fun e w' => ∃ v, e = .returned v ∧ Got E w w' v := by
  have c1 := appendSeq_any Bm mf E w hm hL hT hE hN
  clear hm hL hT hE hN
  go_enter Tryz.func65, Tryz.ntmps65
  go_wp2_with fail
  refine c1.mono ?_
  rintro e w1 ⟨v, rfl, hG⟩
  have HG := Lib.hid hG
  obtain ⟨xs, _, ⟨_, h⟩, _⟩ := hG
  have hv : ∃ p n c, v = .slice p n c := by
    rcases h with ⟨rfl, _⟩ | ⟨g, cap, _, rfl, _⟩
    · exact ⟨_, _, _, rfl⟩
    · exact ⟨_, _, _, rfl⟩
  obtain ⟨p, n, c, rfl⟩ := hv
  clear h c1
  go_wp2
  go_ret
  exact ⟨_, rfl, HG.out⟩

theorem D.fact_dec {E : List Fe} {U : List A} (h1 : (E.map (·.t)).Nodup) (h2 : ∀ x ∈ E, x.t ∈ U) : E.length ≤ U.length := by
  classical
  have := nodup_len h1 (l2 := U) fun t ht => by
    obtain ⟨x, hx, rfl⟩ := List.mem_map.1 ht
    exact h2 x hx
  simpa using this

theorem D.own_less {w : World} {base base' e n k : Nat} {v : Value} {L : List Value} (h : w.ownsRow base e n v k L) (hb : base' ≤ base) : w.ownsRow base' e n v k L := by
  refine ⟨h.1, h.2.imp id ?_⟩
  rintro ⟨g, cap, cur, h1, h2, h3⟩
  exact ⟨g, cap, cur, h1, Nat.le_trans hb h2, h3⟩

/-- What was got, as a row of one's own. -/
theorem D.got_coll {E : List Fe} {w w1 : World} {v : Value} {a6 mf : Nat} (h : Got E w w1 v) (hL : MapV isStr mf (E.map Fe.kv) w) (hE : ∀ x ∈ E, FactOk x.t ∧ atomK w [.string x.t.name, x.c1] x.t x.ba) (hN : New a6 w (E.flatMap (·.ba))) (ha : a6 ≤ w.heap.size) :
    Below w.heap.size w w1 ∧ ∃ L ts bs, Coll 2 atomK a6 33 w1 v L ts bs ∧ ts.Perm (E.map (·.t)) ∧ bs.Perm (E.flatMap (·.ba)) ∧ New a6 w1 bs ∧ (∀ x, v.ownBlock = some x → w.heap.size ≤ x) := by
  obtain ⟨xs, hA, hown, hb⟩ := h
  have hp := came_perm hL hA
  have hR := fqs_rowed (w := w1) (zs := xs.map fun x => (⟨x.1.t, x.1.c1, x.1.ba⟩ : Fq)) fun z hz => by
    obtain ⟨x, _, rfl⟩ := List.mem_map.1 hz
    exact atomK_good.below x.2.2.2 hb
  have e1 : (xs.map fun x => (⟨x.1.t, x.1.c1, x.1.ba⟩ : Fq)).flatMap (·.cs) = flatF xs := by rw [List.flatMap_map]; rfl
  have e2 : (xs.map fun x => (⟨x.1.t, x.1.c1, x.1.ba⟩ : Fq)).map (·.t) = (xs.map (·.1)).map (·.t) := by rw [List.map_map, List.map_map]; rfl
  have e3 : (xs.map fun x => (⟨x.1.t, x.1.c1, x.1.ba⟩ : Fq)).flatMap (·.ba) = (xs.map (·.1)).flatMap (·.ba) := by rw [List.flatMap_map, List.flatMap_map]
  rw [e1, e2, e3] at hR
  have hpb : ((xs.map (·.1)).flatMap (·.ba)).Perm (E.flatMap (·.ba)) := hp.flatMap_right _
  have hown' : ∀ x, v.ownBlock = some x → w.heap.size ≤ x := fun x hx => by
    rcases hown.2 with ⟨rfl, _⟩ | ⟨g, cap, cur, rfl, hg, _⟩
    · simp [Value.ownBlock] at hx
    · have : g = x := by simpa [Value.ownBlock] using hx
      omega
  refine ⟨hb, flatF xs, (xs.map (·.1)).map (·.t), (xs.map (·.1)).flatMap (·.ba), ⟨?_, hR, fun b hb' e => ?_⟩, hp.map _, hpb, ⟨hpb.nodup_iff.2 hN.nodup, fun b hb' => ?_⟩, hown'⟩
  · rw [List.length_map, List.length_map]
    exact own_less hown ha
  · have h1 := hN.lt (hpb.mem_iff.1 hb')
    have := hown' b e
    omega
  · have h1 := hN.own b (hpb.mem_iff.1 hb')
    refine ⟨h1.1, ?_⟩
    rw [hb.block b (hN.lt (hpb.mem_iff.1 hb'))]
    exact h1.2

set_option maxRecDepth 100000 in
set_option maxHeartbeats 4000000 in
theorem sortedFunc_any (a6 mf Bm : Nat) (told U : List A) (fb : List Nat) (w : World) (F : FndSt a6 mf w told fb) (hm : w.cell? ⟨Bm, 0, none⟩ = some (.map (some mf))) (hU : ∀ t ∈ told, t ∈ U) (hUl : U.length ≤ 100000000000) (ha : a6 ≤ w.heap.size) :
    Calls Tryz.prog 27 #[.func (.func 67) #[] #[.pointer (some ⟨Bm, 0, none⟩)], .func (.func 29) #[] #[]] w fun e w' =>
      Below w.heap.size w w' ∧ ∃ v ts bs, e = .returned v ∧ atomsK w' [v] ts bs ∧ New a6 w' bs ∧ asc ts = true ∧ (∀ t ∈ ts, FactOk t) ∧ ∀ t, t ∈ ts ↔ t ∈ told := by
  obtain ⟨E, h1, h2, h3, h4⟩ := F.map
  have hE : ∀ x ∈ E, FactOk x.t ∧ atomK w [.string x.t.name, x.c1] x.t x.ba := fun x hx => ⟨(h2 x hx).2.1, (h2 x hx).2.2.1⟩
  have hEU : E.length ≤ 100000000000 := Nat.le_trans (fact_dec (map_facts h1).1 fun x hx => hU _ (h2 x hx).1) hUl
  have c1 := collect_any Bm mf E w hm h1 F.tm hE hEU
  have HG := Lib.hid fun w1 v (hg : Got E w w1 v) => got_coll hg h1 hE h4 ha
  have HM : Hid ((E.map (·.t)).Nodup ∧ ∀ t, t ∈ E.map (·.t) ↔ t ∈ told) := Lib.hid ⟨(map_facts h1).1, fun t => ⟨fun ht => by
    obtain ⟨x, hx, rfl⟩ := List.mem_map.1 ht
    exact (h2 x hx).1, fun ht => by
    obtain ⟨x, hx, e⟩ := h3 t ht
    exact List.mem_map.2 ⟨x, hx, aText_inj (h2 x hx).2.1.ok (F.tok t ht).ok e⟩⟩⟩
  have HT := Lib.hid F.tok
  clear hm h1 h2 h3 h4 F hE hU hUl
  go_enter Tryz.func27, Tryz.ntmps27
  go_wp2_with fail
  refine c1.mono ?_
  rintro e w1 ⟨v, rfl, hG⟩
  obtain ⟨hb1, L, ts, bs, hC, hp1, hp2, hN, hO⟩ := HG.out w1 v hG
  have hv : ∃ p n c, v = .slice p n c := by
    rcases hC.own.2 with ⟨rfl, _⟩ | ⟨g, cap, _, rfl, _⟩
    · exact ⟨_, _, _, rfl⟩
    · exact ⟨_, _, _, rfl⟩
  have c2 := sortColl_any ts v L bs a6 w1 hC (by have := hp1.length_eq; simp at this; omega)
  have HR : Hid (∀ w2 ys L' bs', ys.Perm ts → ys.Pairwise (fun a b => ¬ cmpA b a < 0) → bs'.Perm bs → Coll 2 atomK a6 33 w2 v L' ys bs' → AllBut (fun x => v.ownBlock = some x) w1 w2 →
      Below w.heap.size w w2 ∧ ∃ v' ts bs, v = v' ∧ atomsK w2 [v'] ts bs ∧ New a6 w2 bs ∧ asc ts = true ∧ (∀ t ∈ ts, FactOk t) ∧ ∀ t, t ∈ ts ↔ t ∈ told) := Lib.hid fun w2 ys L' bs' q1 q2 q3 q4 q5 => by
    have hB2 : Below w.heap.size w w2 := ⟨q5.os.trans hb1.os, q5.tape.trans hb1.tape, q5.output.trans hb1.output, Nat.le_trans hb1.size q5.size, fun k hk => (q5.block k (Nat.lt_of_lt_of_le hk hb1.size) fun e => by have := hO k e; omega).trans (hb1.block k hk)⟩
    have hN2 : New a6 w2 bs' := ⟨q3.nodup_iff.2 hN.nodup, fun b hb => by
      have h1 := hN.own b (q3.mem_iff.1 hb)
      refine ⟨h1.1, ?_⟩
      rw [q5.block b (hN.lt (q3.mem_iff.1 hb)) (fun e => hC.far b (q3.mem_iff.1 hb) e)]
      exact h1.2⟩
    obtain ⟨b2, g1, g2⟩ := q4.new hN2
    have hmem : ∀ t, t ∈ ys ↔ t ∈ told := fun t => by rw [q1.mem_iff, hp1.mem_iff, HM.out.2]
    have hok : ∀ t ∈ ys, FactOk t := fun t ht => HT.out t ((hmem t).1 ht)
    exact ⟨hB2, v, ys, b2, rfl, g1, g2, asc_sorted hok ((q1.trans hp1).nodup_iff.2 HM.out.1) q2, hok, hmem⟩
  obtain ⟨p, n, c, rfl⟩ := hv
  clear c1 hC hp1 hp2 hN hO hG hb1 HG HM HT
  go_wp2_with fail
  refine c2.mono ?_
  rintro e w2 ⟨rfl, ys, L', bs', q1, q2, q3, q4, q5⟩
  have HZ := Lib.hid (HR.out w2 ys L' bs' q1 q2 q3 q4 q5)
  clear c2 HR q1 q2 q3 q4 q5
  go_wp2
  go_ret
  obtain ⟨z1, v', ts', bs2, rfl, z2⟩ := HZ.out
  exact ⟨z1, _, ts', bs2, rfl, z2⟩

theorem D.facts_fit {rs : List Ru} {xs : List A} (h : factsFit rs xs = true) : progC rs = 0 ∧ asc xs = true ∧ (∀ x ∈ xs, FactOk x) ∧ xs.length ≤ 300 := by
  have h0 := h
  unfold factsFit factsOk at h
  simp only [Bool.and_eq_true, decide_eq_true_eq, List.all_eq_true] at h
  exact ⟨h.1.1, h.1.2.2, fun x hx => isFact_ok (h.1.2.1.2 x hx), h.1.2.1.1⟩

theorem D.onceA_len {rs : List Ru} {xs : List A} (h : factsFit rs xs = true) : (onceA rs xs).length ≤ 100000000000 := by
  have ho := factsFit_once h
  have h1 := onceR_lenO (list := xs) (level := 0) (B := 8100000000) (rl := rs.zip (List.replicate rs.length 0)) fun p hp => allB_len ho.n (ho.rules p.1 (List.of_mem_zip hp).1).1
  have h2 : (rs.zip (List.replicate rs.length 0)).length ≤ 8 := by simp; exact ho.m
  have h3 := Nat.mul_le_mul_right 8100000000 h2
  unfold onceA
  omega

/-- The first rules have been followed. -/
structure D.OncSt (rs : List Ru) (xs : List A) (w0 : World) (sb a6 mf : Nat) (k : Nat) (wr : World) : Prop where
  st : ∃ told fb, FndSt a6 mf wr told fb ∧ (∀ x ∈ fb, w0.heap.size ≤ x) ∧ ∀ t, t ∈ told ↔ ∃ r ∈ rs.take k, FolW xs r t
  sto : ∃ rn bs, StoreV sb xs rn bs wr ∧ mf ∉ bs
  bel : Below w0.heap.size w0 wr

theorem D.fol_take {rs : List Ru} {xs : List A} {k : Nat} (h : k < rs.length) (t : A) : (∃ r ∈ rs.take (k + 1), FolW xs r t) ↔ (∃ r ∈ rs.take k, FolW xs r t) ∨ FolW xs rs[k] t := by
  rw [List.take_succ_eq_append_getElem h]
  constructor
  · rintro ⟨r, hr, hf⟩
    rcases List.mem_append.1 hr with hr | hr
    · exact .inl ⟨r, hr, hf⟩
    · rw [List.mem_singleton.1 hr] at hf; exact .inr hf
  · rintro (⟨r, hr, hf⟩ | hf)
    · exact ⟨r, List.mem_append_left _ hr, hf⟩
    · exact ⟨_, List.mem_append_right _ (List.mem_singleton.2 rfl), hf⟩

set_option maxRecDepth 100000 in
set_option maxHeartbeats 4000000 in
theorem once_impl (rs : List Ru) (xs : List A) (v1 v2 : Value) (b1 b2 : List Nat) (w : World) (h : rulesK w [v1] rs b1) (h2 : atomsK w [v2] xs b2) (hg : LaidE w) :
    Calls Tryz.prog 6 #[v1, v2] w (Makes atomsK (onceV rs xs) w.heap.size w) := by
  have c1 := factsFit_impl rs xs v1 v2 b1 b2 w h h2 hg
  obtain ⟨Ad, cap, rfl, hlc, hlm⟩ := sliceK_form h
  obtain ⟨Ad2, cap2, rfl, _, _⟩ := sliceK_form h2
  have hlmm := nat_ge_max (Nat.le_trans hlc hlm)
  have HH := Lib.hid (And.intro h h2)
  clear h h2 hg hlc hlm
  cases hf : factsFit rs xs
  · have HV : Hid (onceV rs xs = []) := Lib.hid (by unfold onceV; rw [hf]; rfl)
    rw [hf] at c1
    clear hf
    go_enter Tryz.func6, Tryz.ntmps6
    go_wp2_with fail
    refine c1.mono ?_
    rintro e w1 ⟨rfl, hb1⟩
    have HB := Lib.hid hb1
    clear c1 hb1
    go_wp2
    go_ret
    rw [HV.out]
    exact ⟨HB.out, _, [], rfl, ⟨_, _, rfl, Nat.le_refl _, Nat.zero_le _, fun _ => rfl, fun h => absurd rfl h⟩, New.nil _ _⟩
  · obtain ⟨hp, hasc, hok, hl3⟩ := facts_fit hf
    have HV : Hid (onceV rs xs = onceA rs xs) := Lib.hid (by unfold onceV; rw [hf]; rfl)
    have HL := Lib.hid (onceA_len hf)
    have HR : Hid (∀ r ∈ rs, RuleFol r) := Lib.hid fun r hr => rule_fol hp hr
    have HO : Hid (asc (onceA rs xs) = true ∧ (∀ t ∈ onceA rs xs, FactOk t) ∧ ∀ t, t ∈ onceA rs xs ↔ ∃ r ∈ rs, FolW xs r t) := Lib.hid (onceA_mem hok HR.out)
    have HX : Hid ((∀ x ∈ xs, FactOk x) ∧ xs.Pairwise (fun a b => a ≠ b) ∧ xs.length ≤ 1000000) := Lib.hid ⟨hok, asc_nodup hasc, by omega⟩
    rw [hf] at c1
    clear hf hp hasc hok hl3
    go_enter Tryz.func6, Tryz.ntmps6
    go_wp2_with fail
    refine c1.mono ?_
    rintro e w1 ⟨rfl, hb1⟩
    have HB1 := Lib.hid hb1
    clear c1 hb1
    go_wp2_with fail
    refine (storeOf_any xs _ b2 w1 (atomsK_good.below HH.out.2 HB1.out) HX.out.1 HX.out.2.1 HX.out.2.2).mono ?_
    rintro e w2 ⟨rfl, hb2, rn, bs, hS, hbs⟩
    have hmm := @run_makeMap Tryz.prog
    have HB2 := Lib.hid (HB1.out.trans (hb2.mono HB1.out.size))
    have HS := Lib.hid hS
    have HSB : Hid (∀ x ∈ bs, x < w2.heap.size) := Lib.hid hS.lt
    obtain ⟨sb, hsb⟩ : ∃ sb, sb = w1.heap.size + 2 := ⟨_, rfl⟩
    rw [← hsb] at HS ⊢
    clear hb2 hS hbs hsb
    go_wp2
    have HI0 : Hid (OncSt rs xs w sb (w2.heap.size + 1) w2.heap.size 0 ((w2.alloc (.map #[] 0)).alloc (.cells #[.map (some w2.heap.size)] 50))) := Lib.hid (by
      have hA : Below w2.heap.size w2 ((w2.alloc (.map #[] 0)).alloc (.cells #[.map (some w2.heap.size)] 50)) := ((Below.refl _ _).alloc (Nat.le_refl _) _).alloc (by simp) _
      have hm0 : ((w2.alloc (.map #[] 0)).alloc (.cells #[.map (some w2.heap.size)] 50)).heap[w2.heap.size]? = (w2.alloc (.map #[] 0)).heap[w2.heap.size]? := Below.heap_alloc _ _ _ (by simp)
      have hbx : ((w2.alloc (.map #[] 0)).alloc (.cells #[.map (some w2.heap.size)] 50)).heap[w2.heap.size + 1]? = some (.cells #[.map (some w2.heap.size)] 50 (0, 0)) := by
        have := heap_alloc_new (w2.alloc (.map #[] 0)) (.cells #[.map (some w2.heap.size)] 50)
        simpa using this
      refine ⟨⟨[], [w2.heap.size + 1, w2.heap.size], FndSt.made hbx ((MapV.made w2).same hm0) ((Timed.made w2).same hm0) (by omega), fun x hx => ?_, fun t => by simp⟩, ⟨rn, bs, HS.out.keep (fun x hx => hA.block x (HSB.out x hx)) hA.size, fun hm => by have := HSB.out _ hm; omega⟩, HB2.out.trans (hA.mono HB2.out.size)⟩
      have := HB2.out.size
      simp at hx
      rcases hx with rfl | rfl <;> omega)
    have HZ : Hid (w.heap.size ≤ w2.heap.size) := Lib.hid HB2.out.size
    obtain ⟨mf, hmf⟩ : ∃ mf, mf = w2.heap.size := ⟨_, rfl⟩
    rw [← hmf] at HI0 HZ ⊢
    generalize ((w2.alloc (.map #[] 0)).alloc (.cells #[.map (some mf)] 50)) = W at *
    clear HS HSB HB2 hmm hmf
    go_loopw [18] (fun i wr => ∃ k : Nat, k ≤ rs.length ∧ i = .int .i64 k ∧ OncSt rs xs w sb (mf + 1) mf k wr) (fun i _ => rs.length - (intOf i).toNat)
    case atStart => exact ⟨0, Nat.zero_le _, rfl, HI0.out⟩
    case round =>
      obtain ⟨k, hk, rfl, hI⟩ := hrel
      clear HI0
      by_cases hlt : k < rs.length
      · have hk0 : (0 : Int) ≤ (k : Int) := by omega
        have hk1 : (k : Int) < (rs.length : Int) := by omega
        obtain ⟨bq, oq, Ae, ce, Af, cf, bk, rfl, _, f0, f1, f2, hrk, hsub⟩ := rules_el (rulesK_good.below HH.out.1 hI.bel) hlt
        obtain ⟨⟨told, fb, hF, hfb, htold⟩, ⟨rn', bs', hS, hmb⟩, hbel⟩ := hI
        have hA : Below wr.heap.size wr (wr.alloc (.cells #[.string rs[k].head.name, .slice Ae rs[k].head.args.length ce, .slice Af rs[k].body.length cf] 53)) := (Below.refl _ _).alloc (Nat.le_refl _) _
        have hcall := follow_any sb xs rn' bs' rs[k] (.string rs[k].head.name) (.slice Ae rs[k].head.args.length ce) (.slice Af rs[k].body.length cf) bk (tlr_once (mf + 1) mf) told fb _ (hS.keep (fun x hx => hA.block x (hS.lt x hx)) hA.size) HX.out.1 HX.out.2.2 (ruleK_good.below hrk hA) (HR.out _ (List.getElem_mem hlt)) (hF.keep (fun x hx => hA.block x (hF.lt x hx)) hA.size) (fun x hx e => hmb (e ▸ hx)) (fun x hx e => by
          have h1 := rulesK_good.lt HH.out.1 x (hsub x hx)
          have h2 := HZ.out
          omega)
        have HN : Hid (∀ w9 ts fb', FndSt (mf + 1) mf w9 (told ++ ts) fb' → (∀ x ∈ fb', x ∈ fb ∨ (wr.alloc (.cells #[.string rs[k].head.name, .slice Ae rs[k].head.args.length ce, .slice Af rs[k].body.length cf] 53)).heap.size ≤ x) → AllBut (fun k => k = mf) (wr.alloc (.cells #[.string rs[k].head.name, .slice Ae rs[k].head.args.length ce, .slice Af rs[k].body.length cf] 53)) w9 → (∀ t ∈ ts, FolW xs rs[k] t) → (∀ t, FolW xs rs[k] t → t ∈ ts) → OncSt rs xs w sb (mf + 1) mf (k + 1) w9) := Lib.hid fun w9 ts fb' q1 q2 q3 q4 q5 => by
          have hsz := hbel.size
          have hz := HZ.out
          refine ⟨⟨told ++ ts, fb', q1, fun x hx => ?_, fun t => ?_⟩, ⟨rn', bs', (hS.keep (fun x hx => hA.block x (hS.lt x hx)) hA.size).keep (fun x hx => q3.block x (by have := hS.lt x hx; have := hA.size; omega) fun e => hmb (e ▸ hx)) q3.size, hmb⟩, ⟨q3.os.trans (hA.os.trans hbel.os), q3.tape.trans (hA.tape.trans hbel.tape), q3.output.trans (hA.output.trans hbel.output), Nat.le_trans hsz (Nat.le_trans hA.size q3.size), fun x hx => (q3.block x (by have := hA.size; omega) (by omega)).trans ((hA.block x (by omega)).trans (hbel.block x hx))⟩⟩
          · rcases q2 x hx with h1 | h1
            · exact hfb x h1
            · have := hA.size; omega
          · rw [List.mem_append, htold, fol_take hlt]
            exact or_congr Iff.rfl ⟨q4 t, q5 t⟩
        have HLT := Lib.hid hlt
        clear hF hfb htold hS hmb hbel hA hrk hsub hk
        generalize rs[k] = r at *
        obtain ⟨⟨rn0, ra⟩, rb⟩ := r
        dsimp only at *
        clear hlt
        go_wp2_with fail
        refine hcall.mono ?_
        rintro e w9 ⟨rfl, ts, fb', q1, q2, q3, q4, q5⟩
        have HI9 := Lib.hid (HN.out w9 ts fb' q1 q2 q3 q4 (q5.elim id fun h => by cases h))
        clear hcall HN q1 q2 q3 q4 q5
        go_wp2
        go_roundw
        case rel => exact ⟨k + 1, HLT.out, by go_num, HI9.out⟩
        case measure => have := HLT.out; simp [intOf]; omega
      · have he : k = rs.length := by omega
        have hk1 : ¬ (k : Int) < (rs.length : Int) := by omega
        obtain ⟨⟨told, fb, hF, hfb, htold⟩, _, hbel⟩ := hI
        rw [he, List.take_of_length_le (Nat.le_refl _)] at htold
        have y0 : wr.cell? ⟨mf + 1, 0, none⟩ = some (.map (some mf)) := cell_of_blk hF.box
        have hA : Below wr.heap.size wr (wr.alloc (.cells #[.map (some mf)] 50)) := (Below.refl _ _).alloc (Nat.le_refl _) _
        have hcall := sortedFunc_any (mf + 1) mf wr.heap.size told (onceA rs xs) fb _ (hF.keep (fun x hx => hA.block x (hF.lt x hx)) hA.size) (cell_of_blk (heap_alloc_new wr (.cells #[.map (some mf)] 50))) (fun t ht => (HO.out.2.2 t).2 ((htold t).1 ht)) HL.out (by have := hF.lt _ hF.own.1; simp; omega)
        have HN : Hid (∀ w9 v ts bs, Below (wr.alloc (.cells #[.map (some mf)] 50)).heap.size (wr.alloc (.cells #[.map (some mf)] 50)) w9 → atomsK w9 [v] ts bs → New (mf + 1) w9 bs → asc ts = true → (∀ t ∈ ts, FactOk t) → (∀ t, t ∈ ts ↔ t ∈ told) → Makes atomsK (onceV rs xs) w.heap.size w (.returned v) w9) := Lib.hid fun w9 v ts bs q1 q2 q3 q4 q5 q6 => by
          have e : ts = onceA rs xs := asc_same q4 HO.out.1 q5 HO.out.2.1 fun t => by rw [q6, htold, HO.out.2.2]
          rw [HV.out, ← e]
          exact ⟨(hbel.trans (hA.mono hbel.size)).trans (q1.mono (Nat.le_trans hbel.size hA.size)), v, bs, rfl, q2, q3.mono (by have := HZ.out; omega)⟩
        have cv := values_any mf wr
        clear hF hfb htold hbel hA hk HO HV HX HR HL he
        go_wp2_with fail
        refine cv.mono ?_
        rintro e w8 ⟨rfl, rfl⟩
        clear cv y0
        go_wp2_with fail
        refine hcall.mono ?_
        rintro e w9 ⟨q1, v, ts, bs, rfl, q2, q3, q4, q5, q6⟩
        have HZ9 := Lib.hid (HN.out w9 v ts bs q1 q2 q3 q4 q5 q6)
        obtain ⟨p9, n9, rfl, _⟩ := sliceK_form q2
        clear hcall HN q1 q2 q3 q4 q5 q6
        go_wp2
        go_ret
        exact HZ9.out

end Go.Proofs.YtjjfafgaphloaaaGreatDoor
namespace Go.Proofs.YtjjfafgaphloaaaGreatDoor
open Go.RowKit D
set_option linter.unusedVariables false
theorem D.fine_sub {rs rs' : List Ru} (h : Fine rs) (hs : ∀ r ∈ rs', r ∈ rs) (hl : rs'.length ≤ 8) : Fine rs' := by
  have hsub : ∀ a ∈ allAtoms rs', a ∈ allAtoms rs := fun a ha => by
    obtain ⟨r, hr, h1⟩ := List.mem_flatMap.1 ha
    exact List.mem_flatMap.2 ⟨r, hs r hr, h1⟩
  refine ⟨List.all_eq_true.2 fun r hr => List.all_eq_true.1 h.ok r (hs r hr), hl, ?_, List.all_eq_true.2 fun r hr => List.all_eq_true.1 h.tight r (hs r hr), ?_⟩
  · have h1 := h.alike
    unfold alikeB at *
    simp only [List.all_eq_true] at *
    exact fun a ha b hb => h1 a (hsub a ha) b (hsub b hb)
  · refine no_cyc_of (S := nameLev rs) fun r hr p hp hh => ?_
    refine (closed_sol (no_cyc h.no)).1 r (hs r hr) p hp ?_
    obtain ⟨q, hq, e⟩ := List.mem_map.1 hh
    exact List.mem_map.2 ⟨q, hs q hq, e⟩

theorem D.fit_sub {rs rs' : List Ru} {xs : List A} (h : factsFit rs xs = true) (hs : ∀ r ∈ rs', r ∈ rs) (hl : rs'.length ≤ 8) : factsFit rs' xs = true := by
  unfold factsFit at *
  simp only [Bool.and_eq_true, decide_eq_true_eq] at *
  refine ⟨⟨(fine_iff _).2 (fine_sub ((fine_iff _).1 h.1.1) hs hl), h.1.2⟩, ?_⟩
  have h2 := h.2
  unfold fitB at *
  simp only [List.all_eq_true] at *
  intro x hx
  have h3 := h2 x hx
  unfold fit1 at *
  simp only [List.all_eq_true] at *
  intro a ha
  obtain ⟨r, hr, h1⟩ := List.mem_flatMap.1 ha
  exact h3 a (List.mem_flatMap.2 ⟨r, hs r hr, h1⟩)

theorem D.onceV_mem {rs : List Ru} {xs : List A} (h : factsFit rs xs = true) (t : A) : t ∈ onceV rs xs ↔ ∃ r ∈ rs, FolW xs r t := by
  obtain ⟨hp, hasc, hok, hl3⟩ := facts_fit h
  unfold onceV
  rw [if_pos h]
  exact (onceA_mem hok fun r hr => rule_fol hp hr).2.2 t

theorem D.onceV_nodup {rs : List Ru} {xs : List A} (h : factsFit rs xs = true) : (onceV rs xs).Nodup ∧ (onceV rs xs).length ≤ 100000000000 := by
  obtain ⟨hp, hasc, hok, hl3⟩ := facts_fit h
  unfold onceV
  rw [if_pos h]
  exact ⟨asc_nodup (onceA_mem hok fun r hr => rule_fol hp hr).1, onceA_len h⟩

theorem D.once_one {rs : List Ru} {xs : List A} (h : factsFit rs xs = true) {r : Ru} (hr : r ∈ rs) (t : A) : t ∈ onceV [r] xs ↔ FolW xs r t := by
  rw [onceV_mem (fit_sub h (fun q hq => by rw [List.mem_singleton.1 hq]; exact hr) (by simp))]
  simp

theorem D.once_cover {rs : List Ru} {xs : List A} (h : factsFit rs xs = true) (t : A) : t ∈ onceV rs xs ↔ ∃ k, ∃ hk : k < rs.length, t ∈ onceV [rs[k]] xs := by
  rw [onceV_mem h]
  constructor
  · rintro ⟨r, hr, hf⟩
    obtain ⟨k, hk, rfl⟩ := List.getElem_of_mem hr
    exact ⟨k, hk, (once_one h hr t).2 hf⟩
  · rintro ⟨k, hk, ht⟩
    exact ⟨_, List.getElem_mem hk, (once_one h (List.getElem_mem hk) t).1 ht⟩

/-- How many follow at once by each of the first rules. -/
def D.sumO (rs : List Ru) (xs : List A) (k : Nat) : Nat := ((rs.take k).map fun r => (onceV [r] xs).length).sum

theorem D.sumO_snoc {rs : List Ru} {xs : List A} {k : Nat} (h : k < rs.length) : sumO rs xs (k + 1) = sumO rs xs k + (onceV [rs[k]] xs).length := by
  unfold sumO
  rw [List.take_succ_eq_append_getElem h, List.map_append, List.sum_append]
  exact congrArg _ (Nat.add_zero _)

theorem D.sumO_le {rs : List Ru} {xs : List A} (h : factsFit rs xs = true) : ∀ k, k ≤ rs.length → sumO rs xs k ≤ k * 100000000000
  | 0, _ => by simp [sumO]
  | k + 1, hk => by
    rw [sumO_snoc (by omega), Nat.add_mul]
    have h1 := sumO_le h k (by omega)
    have h2 := (onceV_nodup (fit_sub (rs' := [rs[k]]) h (fun q hq => by rw [List.mem_singleton.1 hq]; exact List.getElem_mem _) (by simp))).2
    omega

theorem D.once_len {rs : List Ru} {xs : List A} (h : factsFit rs xs = true) : (onceV rs xs).length ≤ sumO rs xs rs.length := by
  classical
  have h1 := nodup_len (onceV_nodup h).1 (l2 := rs.flatMap fun r => onceV [r] xs) fun t ht => by
    obtain ⟨r, hr, hf⟩ := (onceV_mem h t).1 ht
    exact List.mem_flatMap.2 ⟨r, hr, (once_one h hr t).2 hf⟩
  unfold sumO
  rw [List.take_of_length_le (Nat.le_refl _)]
  rw [List.length_flatMap] at h1
  exact h1

/-- 's[k:k+1]'. -/
theorem D.run_slice_one {P : Program} {t e : TypeId} {n : Nat} (ht : P.underlying t = some (.slice e)) (hs : ∀ w, (Go.sizeOf e).run P w = .ok n w) {b o len cap p : Nat} (hp : p + 1 ≤ cap) (w : World) :
    (Instr.slice t (.slice (some ⟨b, o, none⟩) len cap) (some (.int .i64 p)) (some (.int .i64 ((p : Int) + 1))) none).run P w = .ok (.slice (some ⟨b, o + p * n, none⟩) 1 (cap - p)) w := by
  have h1 : ¬ cap = p := by omega
  have h2 : (0 : Int) ≤ (p : Int) + 1 ∧ (p : Int) + 1 ≤ (cap : Int) := by omega
  have h3 : (0 : Int) ≤ (p : Int) ∧ (p : Int) ≤ (((p : Int) + 1).toNat : Int) := by omega
  have h4 : ((p : Int) + 1).toNat = p + 1 := by omega
  have h5 : ((p : Int)).toNat = p := by omega
  have h6 : p + 1 - p = 1 := by omega
  simp [Instr.slice, run_underlying ht, Instr.sliceBounds, Instr.sliceBound, Result.andThen, hs, asIntOf, h2]
  rw [if_neg h1]
  unfold Addr.add
  split
  · rename_i h7
    have h8 : p * n = 0 := by simpa using h7
    rw [h8, Nat.add_zero]
  · rfl

/-- One of a slice's elements, as a slice. -/
theorem D.sliceK_one {α : Type} {n : Nat} {R : Rel α} {w : World} {b o len cap : Nat} {xs : List α} {bs : List Nat} (h : sliceK n R w [.slice (some ⟨b, o, none⟩) len cap] xs bs) {k : Nat} (hk : k < xs.length) :
    ∃ b2, sliceK n R w [.slice (some ⟨b, o + k * n, none⟩) 1 (cap - k)] [xs[k]] b2 ∧ ∀ c ∈ b2, c ∈ bs := by
  obtain ⟨Ad, cp, e, hl, hm, _, h4⟩ := h
  simp only [List.cons.injEq, and_true, Value.slice.injEq] at e
  obtain ⟨e1, rfl, rfl⟩ := e
  obtain ⟨b', o', e2, F, G, rfl, h5⟩ := h4 (by intro e; rw [e] at hk; simp at hk)
  rw [e2] at e1
  simp only [Option.some.injEq, Addr.mk.injEq, and_true] at e1
  obtain ⟨rfl, rfl⟩ := e1
  obtain ⟨g1, g2, g3⟩ := h5 k xs[k] (List.getElem?_eq_getElem hk)
  refine ⟨b :: (List.range 1).flatMap fun _ => G k, ⟨_, _, rfl, by simp; omega, by omega, fun e => by simp at e, fun _ => ⟨b, _, rfl, fun _ => F k, fun _ => G k, rfl, fun j x hj => ?_⟩⟩, fun c hc => ?_⟩
  · cases j with
    | zero =>
      simp at hj
      subst hj
      exact ⟨g1, fun j v hv => by have := g2 j v hv; rw [Nat.zero_mul, Nat.zero_add, Nat.add_assoc]; exact this, g3⟩
    | succ j => simp at hj
  · rcases List.mem_cons.1 hc with rfl | hc
    · exact List.mem_cons_self ..
    · simp at hc
      exact List.mem_cons_of_mem _ (List.mem_flatMap.2 ⟨k, List.mem_range.2 hk, hc⟩)

end Go.Proofs.YtjjfafgaphloaaaGreatDoor
namespace Go.Proofs.YtjjfafgaphloaaaGreatDoor
open Go.RowKit D
set_option linter.unusedVariables false
attribute [local go_sem ↓] Go.wp_at_zero Go.wp_at_succ
set_option maxRecDepth 100000 in
set_option maxHeartbeats 8000000 in
theorem onceLaw_walk (cs : List UInt8) (v1 : Value) (bs1 : List Nat) (w : World) (h1 : bytesK w [v1] cs bs1) (hg : LaidE w) :
    Calls Tryz.prog 3 #[v1] w fun e w' => e = .returned (.bool true) ∧ Below w.heap.size w w' := by
  obtain ⟨Ad, cap, rfl, hl, hm⟩ := sliceK_form h1
  have hlm := nat_ge_max (Nat.le_trans hl hm)
  clear hl hm
  have HG := Lib.hid hg
  clear hg
  by_cases hn : cs.length ≤ 1048576
  · have hd := drawOnce_any _ cs bs1 w h1 hn
    have hn' : ¬ (1048576 : Int) < (cs.length : Int) := by omega
    clear h1 hn
    go_enter Tryz.func3, Tryz.ntmps3
    go_wp2_with fail
    refine hd.mono ?_
    rintro e w1 ⟨rs, A0, c0, b0, xs, A1, c1, b1, rfl, hR1, hX1, hr9, _, _, _, hbw⟩
    obtain ⟨_, _, e0, hl0, hm0⟩ := sliceK_form hR1
    simp only [Value.slice.injEq, true_and] at e0
    obtain ⟨rfl, rfl⟩ := e0
    have HCAP := Lib.hid (And.intro hl0 (nat_ge_max hm0))
    have HBW := Lib.hid hbw
    have HR1 := Lib.hid (And.intro hR1 hX1)
    have HR9 := Lib.hid hr9
    have HCO := Lib.hid (fun w' (hb : Below w1.heap.size w1 w') => once_spec rs xs _ _ b0 b1 w' (rulesK_good.below HR1.out.1 hb) (atomsK_good.below HR1.out.2 hb))
    have HFI := Lib.hid (fun w' (hb : Below w1.heap.size w1 w') => factsFit_impl rs xs _ _ b0 b1 w' (rulesK_good.below HR1.out.1 hb) (atomsK_good.below HR1.out.2 hb) (HG.out.below (HBW.out.trans (hb.mono HBW.out.size))))
    have HFS := Lib.hid (fun w' (hb : Below w1.heap.size w1 w') => factsFit_spec rs xs _ _ b0 b1 w' (rulesK_good.below HR1.out.1 hb) (atomsK_good.below HR1.out.2 hb))
    have hcI := once_impl rs xs _ _ b0 b1 w1 hR1 hX1 (HG.out.below hbw)
    clear hd hR1 hX1 hr9 hbw hl0 hm0
    go_wp2_with fail
    refine hcI.mono ?_
    rintro e w2 ⟨hb2, v2, b2, rfl, hV2, _⟩
    obtain ⟨A2, c2, rfl, hl2, hm2⟩ := sliceK_form hV2
    have hlm2 := nat_ge_max (Nat.le_trans hl2 hm2)
    have HB2 := Lib.hid hb2
    have HV2 := Lib.hid hV2
    have hco := HCO.out w2 hb2
    clear hcI hb2 hV2 hl2 hm2
    go_wp2_with fail
    refine hco.mono ?_
    rintro e w3 ⟨hb3, v3, b3, rfl, hV3⟩
    obtain ⟨A3, c3, rfl, _, _⟩ := sliceK_form hV3
    have HB3 := Lib.hid (HB2.out.trans (hb3.mono HB2.out.size))
    have HV3 := Lib.hid (atomsK_good.below HV2.out hb3)
    have hsm := fsSame_any (onceV rs xs) (onceV rs xs) _ _ b2 b3 w3 HV3.out hV3
    clear hco hV3 hb3
    go_wp2_with fail
    refine hsm.mono ?_
    rintro e w4 ⟨r4, rfl, hr4, hb4⟩
    obtain rfl : r4 = true := hr4.2 (by first | trivial | rfl)
    have HB4 := Lib.hid (HB3.out.trans (hb4.mono HB3.out.size))
    have HV4 := Lib.hid (atomsK_good.below HV3.out hb4)
    have hfi := HFI.out w4 HB4.out
    clear hsm hr4 hb4 HV3 HV2
    go_wp2_with fail
    refine hfi.mono ?_
    rintro e w5 ⟨rfl, hb5⟩
    have HB5 := Lib.hid (HB4.out.trans (hb5.mono HB4.out.size))
    have HV5 := Lib.hid (atomsK_good.below HV4.out hb5)
    have hfs := HFS.out w5 HB5.out
    clear hfi hb5 HV4
    go_wp2_with fail
    refine hfs.mono ?_
    rintro e w6 ⟨rfl, hb6⟩
    have HB6 := Lib.hid (HB5.out.trans (hb6.mono HB5.out.size))
    have HV6 := Lib.hid (atomsK_good.below HV5.out hb6)
    have hfs2 := HFS.out w6 HB6.out
    clear hfs hb6 HV5
    have hne : (factsFit rs xs != factsFit rs xs) = false := by simp
    go_wp2_with fail
    refine hfs2.mono ?_
    rintro e w7 ⟨rfl, hb7⟩
    have HB7 := Lib.hid (HB6.out.trans (hb7.mono HB6.out.size))
    have HV7 := Lib.hid (atomsK_good.below HV6.out hb7)
    clear hfs2 hb7 HV6
    cases hf : factsFit rs xs
    · have hco8 := HCO.out w7 HB7.out
      rw [hf] at HFI HFS
      go_wp2_with fail
      refine hco8.mono ?_
      rintro e w8 ⟨hb8, v8, b8, rfl, hV8⟩
      obtain ⟨A8, c8, rfl, _, _⟩ := sliceK_form hV8
      have HB8 := Lib.hid (HB7.out.trans (hb8.mono HB7.out.size))
      have hsm := fsSame_any (onceV rs xs) (onceV rs xs) _ _ b2 b8 w8 (atomsK_good.below HV7.out hb8) hV8
      clear hco8 hV8 hb8
      go_wp2_with fail
      refine hsm.mono ?_
      rintro e w9 ⟨r9, rfl, hr9, hb9⟩
      obtain rfl : r9 = true := hr9.2 (by first | trivial | rfl)
      have HB9 := Lib.hid (HB8.out.trans (hb9.mono HB8.out.size))
      have hfi := HFI.out w9 HB9.out
      clear hsm hr9 hb9
      go_wp2_with fail
      refine hfi.mono ?_
      rintro e w10 ⟨rfl, hb10⟩
      have HB10 := Lib.hid (HB9.out.trans (hb10.mono HB9.out.size))
      have hfs := HFS.out w10 HB10.out
      clear hfi hb10
      go_wp2_with fail
      refine hfs.mono ?_
      rintro e w11 ⟨rfl, hb11⟩
      have HB11 := Lib.hid (HB10.out.trans (hb11.mono HB10.out.size))
      clear hfs hb11
      go_wp2
      go_ret
      exact ⟨rfl, HBW.out.trans (HB11.out.mono HBW.out.size)⟩
    · have HF := Lib.hid hf
      have HVN := Lib.hid (onceV_nodup hf)
      have HAD : Hid (∀ k, k < rs.length → ∃ b o, A0 = some ⟨b, o, none⟩) := Lib.hid fun k hk => by
        obtain ⟨b, o, _, _, _, _, _, e, _⟩ := rules_el HR1.out.1 hk
        exact ⟨b, o, e⟩
      have HOI : Hid (∀ b o, A0 = some ⟨b, o, none⟩ → ∀ k (hk : k < rs.length) w', Below w7.heap.size w7 w' → Calls Tryz.prog 6 #[.slice (some ⟨b, o + k * 3, none⟩) 1 (c0 - k), .slice A1 xs.length c1] w' (Makes atomsK (onceV [rs[k]] xs) w'.heap.size w')) := Lib.hid fun b o e k hk w' hb => by
        have hb1 := HB7.out.trans (hb.mono HB7.out.size)
        have h1 := HR1.out.1
        rw [e] at h1
        obtain ⟨b2, h2, _⟩ := sliceK_one (rulesK_good.below h1 hb1) hk
        exact once_impl [rs[k]] xs _ _ b2 b1 w' h2 (atomsK_good.below HR1.out.2 hb1) (HG.out.below (HBW.out.trans (hb1.mono HBW.out.size)))
      have hlV : ((onceV rs xs).length : Int) ≤ 100000000000 := by have := HVN.out.2; omega
      have hr9 : (rs.length : Int) ≤ 9 := by have := HR9.out; omega
      clear hf HCO HFI HFS hne
      go_wp2
      go_loopw [7, 8, 9] (fun i s k wr => ∃ (q : Nat), q ≤ (onceV rs xs).length ∧ i = .int .i64 q ∧ Below w7.heap.size w7 wr) (fun i _ _ _ => (onceV rs xs).length - (intOf i).toNat)
      case atStart => exact ⟨0, Nat.zero_le _, rfl, Below.refl _ _⟩
      case round =>
        obtain ⟨q, hq, rfl, hb⟩ := hrel
        by_cases hlt : q < (onceV rs xs).length
        · have hq0 : (0 : Int) ≤ (q : Int) := by omega
          have hq1 : (q : Int) < ((onceV rs xs).length : Int) := by omega
          obtain ⟨bq, oq, Ae, ce, bk, hA2, _, f0, f1, hat, _⟩ := atoms_el HV7.out hlt
          have hmem : (onceV rs xs)[q] ∈ onceV rs xs := List.getElem_mem hlt
          generalize (onceV rs xs)[q] = a at *
          subst hA2
          have HB := Lib.hid hb
          have HLT := Lib.hid hlt
          have HF0 := Lib.hid (And.intro f0 (And.intro f1 hat))
          have HCV : Hid (∃ k, ∃ hk : k < rs.length, a ∈ onceV [rs[k]] xs) := Lib.hid ((once_cover HF.out a).1 hmem)
          clear hb hq hlt f0 f1 hat hmem
          go_wp2
          go_loopw [8, 9] (fun s k wr => ∃ (p : Nat) (z : Bool), p ≤ rs.length ∧ k = .int .i64 p ∧ s = .bool z ∧ (z = true ↔ ∃ j, ∃ hj : j < rs.length, j < p ∧ a ∈ onceV [rs[j]] xs) ∧ Below w7.heap.size w7 wr) (fun _ k _ => rs.length - (intOf k).toNat)
          case atStart => exact ⟨0, false, Nat.zero_le _, rfl, rfl, by simp, HB.out⟩
          case round =>
            obtain ⟨p, z, hp, rfl, rfl, hz, hb⟩ := hrel
            by_cases hpt : p < rs.length
            · obtain ⟨b, o, rfl⟩ := HAD.out p hpt
              have hp0 : (0 : Int) ≤ (p : Int) := by omega
              have hp1 : (p : Int) < (rs.length : Int) := by omega
              have hpc : p + 1 ≤ c0 := by have := HCAP.out.1; omega
              have HPT := Lib.hid hpt
              have hsl : ∀ W, (Instr.slice 23 (.slice (some ⟨b, o, none⟩) rs.length c0) (some (.int .i64 p)) (some (.int .i64 ((p : Int) + 1))) none).run Tryz.prog W = .ok (.slice (some ⟨b, o + p * 3, none⟩) 1 (c0 - p)) W := fun W => run_slice_one Tryz.underlying23 Tryz.sizeOf53 hpc W
              have hwr : IntKind.i64.wrap ((p : Int) + 1) = (p : Int) + 1 := by simp only [IntKind.wrap, IntKind.bits, IntKind.signed]; simp; omega
              cases z
              · have hcall := HOI.out b o rfl p hpt wr.drew hb.drew
                have hn0 : ¬ ∃ j, ∃ hj : j < rs.length, j < p ∧ a ∈ onceV [rs[j]] xs := fun h => by have := hz.2 h; cases this
                have HST : Hid (∀ r : Bool, (r = true ↔ a ∈ onceV [rs[p]] xs) → (r = true ↔ ∃ j, ∃ hj : j < rs.length, j < p + 1 ∧ a ∈ onceV [rs[j]] xs)) := Lib.hid fun r hr => by
                  rw [hr]
                  constructor
                  · exact fun h => ⟨p, hpt, by omega, h⟩
                  · rintro ⟨j, hj, h1, h2⟩
                    by_cases e : j = p
                    · subst e; exact h2
                    · exact absurd ⟨j, hj, by omega, h2⟩ hn0
                have f0 := cell_later hb HF0.out.1
                have f1 := cell_later hb HF0.out.2.1
                have HB := Lib.hid hb.drew
                generalize onceV [rs[p]] xs = O at *
                clear hz hn0 hpt hp
                go_wp2
                go_region_held3 (fun w' => w'.cell? ⟨bq, oq + q * 2, none⟩ = some (.string a.name) ∧ w'.cell? ⟨bq, oq + q * 2 + 1, none⟩ = some (.slice Ae a.args.length ce)) (first | go_keep | exact ⟨f0, f1⟩)
                  (first
                    | (go_at_call 6; (with_reducible refine Calls.mono hcall ?_); rintro e w8 ⟨hb8, v8, b8, rfl, hV8, _⟩; have HB8 := Lib.hid (HB.out.trans (hb8.mono HB.out.size)); have hh := fsHas_any O a _ (.string a.name) (.slice Ae a.args.length ce) b8 bk w8 hV8 (atomK_good.below HF0.out.2.2 HB8.out); obtain ⟨A8, c8, rfl, _, _⟩ := sliceK_form hV8; replace f0 := cell_later hb8 f0; replace f1 := cell_later hb8 f1; clear hV8 hb8)
                    | (go_at_call 11; (with_reducible refine Calls.mono hh ?_); rintro e w9 ⟨r9, rfl, hr9, hb9⟩; have HB9 := Lib.hid (HB8.out.trans (hb9.mono HB8.out.size)); have HR9' := Lib.hid (HST.out r9 hr9); replace f0 := cell_later hb9 f0; replace f1 := cell_later hb9 f1; clear hb9 hr9))
                clear hcall hh f0 f1 hsl
                go_wp2
                go_roundw
                case rel => exact ⟨p + 1, r9, HPT.out, by go_num, rfl, HR9'.out, HB9.out⟩
                case measure => have := HPT.out; simp [intOf]; omega
              · have HZ' : Hid (∃ j, ∃ hj : j < rs.length, j < p + 1 ∧ a ∈ onceV [rs[j]] xs) := Lib.hid (by
                  obtain ⟨j, hj, h1, h2⟩ := hz.1 rfl
                  exact ⟨j, hj, by omega, h2⟩)
                have HB := Lib.hid hb.drew
                clear hz
                go_wp2
                go_region
                go_wp2
                go_roundw
                case rel => exact ⟨p + 1, true, HPT.out, by go_num, rfl, iff_of_true rfl HZ'.out, HB.out⟩
                case measure => have := HPT.out; simp [intOf]; omega
            · have he : p = rs.length := by omega
              subst he
              have hp1 : ¬ (rs.length : Int) < (rs.length : Int) := by omega
              have hzt : z = true := by
                obtain ⟨k, hk, h⟩ := HCV.out
                exact hz.2 ⟨k, hk, hk, h⟩
              subst hzt
              have HB := Lib.hid hb
              clear hz hb hp hpt
              go_wp2
              go_roundw
              case rel => exact ⟨q + 1, HLT.out, by go_num, HB.out⟩
              case measure => have := HLT.out; simp [intOf]; omega
        · have he : q = (onceV rs xs).length := by omega
          subst he
          have hq1 : ¬ ((onceV rs xs).length : Int) < ((onceV rs xs).length : Int) := by omega
          have HB := Lib.hid hb
          have HSL := Lib.hid (sumO_le HF.out)
          have HLE := Lib.hid (once_len HF.out)
          clear hb hq hlt
          go_wp2
          go_loopw [6, 10, 11, 12] (fun n k _ _ wr => ∃ (p : Nat), p ≤ rs.length ∧ k = .int .i64 p ∧ n = .int .i64 (sumO rs xs p : Nat) ∧ Below w7.heap.size w7 wr) (fun _ k _ _ _ => rs.length - (intOf k).toNat)
          case atStart => exact ⟨0, Nat.zero_le _, rfl, by simp [sumO], HB.out⟩
          case round =>
            obtain ⟨p, hp, rfl, rfl, hb⟩ := hrel
            by_cases hpt : p < rs.length
            · obtain ⟨b, o, rfl⟩ := HAD.out p hpt
              have hp0 : (0 : Int) ≤ (p : Int) := by omega
              have hp1 : (p : Int) < (rs.length : Int) := by omega
              have hpc : p + 1 ≤ c0 := by have := HCAP.out.1; omega
              have HPT := Lib.hid hpt
              have hsl : ∀ W, (Instr.slice 23 (.slice (some ⟨b, o, none⟩) rs.length c0) (some (.int .i64 p)) (some (.int .i64 ((p : Int) + 1))) none).run Tryz.prog W = .ok (.slice (some ⟨b, o + p * 3, none⟩) 1 (c0 - p)) W := fun W => run_slice_one Tryz.underlying23 Tryz.sizeOf53 hpc W
              have hwr : IntKind.i64.wrap ((p : Int) + 1) = (p : Int) + 1 := by simp only [IntKind.wrap, IntKind.bits, IntKind.signed]; simp; omega
              have hcall := HOI.out b o rfl p hpt wr hb
              have HMM : Hid (∀ t ∈ onceV [rs[p]] xs, t ∈ onceV rs xs) := Lib.hid fun t ht => (once_cover HF.out t).2 ⟨p, hpt, ht⟩
              have HSN := Lib.hid (sumO_snoc (xs := xs) hpt)
              have HSP : Hid (sumO rs xs (p + 1) ≤ 900000000000) := Lib.hid (by have := HSL.out (p + 1) (by omega); have := HR9.out; omega)
              have HB := Lib.hid hb
              clear hb hp
              generalize onceV [rs[p]] xs = O at *
              generalize sumO rs xs p = N0 at *
              clear hpt
              go_wp2_with fail
              refine hcall.mono ?_
              rintro e w8 ⟨hb8, v8, b8, rfl, hV8, _⟩
              obtain ⟨A8, c8, rfl, hl8, hm8⟩ := sliceK_form hV8
              have hlm8 := nat_ge_max (Nat.le_trans hl8 hm8)
              have HB8 := Lib.hid (HB.out.trans (hb8.mono HB.out.size))
              have HV8 := Lib.hid hV8
              have hNO : N0 + O.length ≤ 900000000000 := by have := HSP.out; have := HSN.out; omega
              clear hcall hV8 hb8 hl8 hm8 hsl hwr hpc
              go_wp2
              go_loopw [6, 12] (fun n j wr => ∃ (i : Nat), i ≤ O.length ∧ j = .int .i64 i ∧ n = .int .i64 (N0 + i : Nat) ∧ Below w8.heap.size w8 wr) (fun _ j _ => O.length - (intOf j).toNat)
              case atStart => exact ⟨0, Nat.zero_le _, rfl, rfl, Below.refl _ _⟩
              case round =>
                obtain ⟨i, hi, rfl, rfl, hb⟩ := hrel
                by_cases hit : i < O.length
                · have hi0 : (0 : Int) ≤ (i : Int) := by omega
                  have hi1 : (i : Int) < (O.length : Int) := by omega
                  obtain ⟨bq, oq, Ae, ce, bk, rfl, _, f0, f1, hat, _⟩ := atoms_el (atomsK_good.below HV8.out hb) hit
                  have hme := HMM.out _ (List.getElem_mem hit)
                  have hh := fsHas_any (onceV rs xs) O[i] _ (.string O[i].name) (.slice Ae O[i].args.length ce) b2 bk wr (atomsK_good.below HV7.out (HB8.out.trans (hb.mono HB8.out.size))) hat
                  have HIT := Lib.hid hit
                  have HB := Lib.hid hb
                  clear hat hi hb
                  generalize O[i] = a at *
                  clear hit
                  go_wp2_with fail
                  refine hh.mono ?_
                  rintro e w9 ⟨r9, rfl, hr9, hb9⟩
                  obtain rfl : r9 = true := hr9.2 hme
                  have HB9 := Lib.hid (HB.out.trans (hb9.mono HB.out.size))
                  clear hh hr9 hb9 hme f0 f1
                  go_wp2
                  go_roundw
                  case rel => exact ⟨i + 1, HIT.out, by go_num, by rw [← Nat.add_assoc]; go_num, HB9.out⟩
                  case measure => have := HIT.out; simp [intOf]; omega
                · have he : i = O.length := by omega
                  subst he
                  have hi1 : ¬ (O.length : Int) < (O.length : Int) := by omega
                  have HB := Lib.hid hb
                  clear hb hi hit
                  go_wp2
                  go_roundw
                  case rel => exact ⟨p + 1, HPT.out, by go_num, by rw [HSN.out], HB8.out.trans (HB.out.mono HB8.out.size)⟩
                  case measure => have := HPT.out; simp [intOf]; omega
            · have he : p = rs.length := by omega
              subst he
              have hp1 : ¬ (rs.length : Int) < (rs.length : Int) := by omega
              have hge : ((onceV rs xs).length : Int) ≤ (sumO rs xs rs.length : Int) := by have := HLE.out; omega
              have HB := Lib.hid hb
              clear hb hp hpt
              go_wp2
              go_ret
              exact ⟨rfl, HBW.out.trans ((HB7.out.trans (HB.out.mono HB7.out.size)).mono HBW.out.size)⟩
  · have hn' : (1048576 : Int) < (cs.length : Int) := by omega
    clear h1
    go_enter Tryz.func3, Tryz.ntmps3
    go_wp2
    go_ret
    exact ⟨rfl, Below.refl _ _⟩

end Go.Proofs.YtjjfafgaphloaaaGreatDoor
