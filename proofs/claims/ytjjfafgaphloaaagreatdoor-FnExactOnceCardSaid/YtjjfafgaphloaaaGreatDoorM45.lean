/- Of the proof of FnExactOnce: SFn, FndI, SrtP. -/
import Derived.Shelf.SlSortCmp.NoneTotal
import Derived.WalkKit
import Derived.Lib.Hide
import Derived.Test.YtjjfafgaphloaaaGreatDoorProg
import Derived.Test.YtjjfafgaphloaaaGreatDoorM02
import Derived.Test.YtjjfafgaphloaaaGreatDoorM14
import Derived.Test.YtjjfafgaphloaaaGreatDoorM44
import Derived.WalkSpells
import Derived.WalkLawsBesides
import Derived.BigQuiet
import Derived.Deep.RegionHeld3
import Derived.Deep.RegionHeldLaw
import Derived.Deep.RegionLaw
import Derived.Deep.RegionWith
import Derived.Test.YtjjfafgaphloaaaGreatDoorM38
import Derived.Test.YtjjfafgaphloaaaGreatDoorM13
import Derived.Test.YtjjfafgaphloaaaGreatDoorM37
namespace Go.Proofs.YtjjfafgaphloaaaGreatDoor
open Go.Shelf Go.RowKit Go.Lib Go.Sort D
set_option linter.unusedVariables false
/-- A fact's cells. -/
structure D.Fc where
  t : A
  c1 : Value

def D.Fc.enc (x : Fc) : List Value := [.string x.t.name, x.c1]

abbrev D.FcIn (w : World) (g : Nat) := { x : Fc // ∃ ba, atomK w [.string x.t.name, x.c1] x.t ba ∧ g ∉ ba }

def D.FcIn.enc {w : World} {g : Nat} (x : FcIn w g) : List Value := x.1.enc

def D.FcIn.cf {w : World} {g : Nat} (x y : FcIn w g) : Int := cmpA x.1.t y.1.t

theorem D.heap_mapBlock_other (w : World) (g : Nat) (f : Array Value → Array Value) {x : Nat} (h : x ≠ g) : (mapBlock w g f).heap[x]? = w.heap[x]? := by
  simp only [mapBlock, Array.getElem?_modify]
  rw [if_neg (fun e => h e.symm)]

theorem D.sortW_other {α : Type} [Inhabited α] (enc : α → List Value) (k : Nat) (w : World) (g n : Nat) (d : Array α) (os : Array Obj) {x : Nat} (hx : x < w.heap.size) (h : x ≠ g) : (sortWorldK enc k w g 0 n d os).heap[x]? = w.heap[x]? := by
  unfold sortWorldK
  have e1 : (grow (putRowK enc k (Go.Sort.ahead w n) g 0 d) os).heap[x]? = (putRowK enc k (Go.Sort.ahead w n) g 0 d).heap[x]? := by
    show (_ ++ os)[x]? = _
    rw [Array.getElem?_append_left (by rw [size_putRowK]; exact hx)]
  rw [e1]
  exact heap_mapBlock_other (Go.Sort.ahead w n) g _ h

theorem D.sortW_own {α : Type} [Inhabited α] (enc : α → List Value) (k : Nat) (w : World) (g n : Nat) (d : Array α) (os : Array Obj) {cur : Array Value} {e : TypeId} (h : w.heap[g]? = some (.cells cur e (0, 0))) : ∃ cur', (sortWorldK enc k w g 0 n d os).heap[g]? = some (.cells cur' e (0, 0)) ∧ cur'.size = cur.size := by
  have hg : g < w.heap.size := (Array.getElem?_eq_some_iff.1 h).1
  unfold sortWorldK
  have e1 : (grow (putRowK enc k (Go.Sort.ahead w n) g 0 d) os).heap[g]? = (putRowK enc k (Go.Sort.ahead w n) g 0 d).heap[g]? := by
    show (_ ++ os)[g]? = _
    rw [Array.getElem?_append_left (by rw [size_putRowK]; exact hg)]
  refine ⟨putCells id 0 (flatK enc k d) cur, ?_, ?_⟩
  · rw [e1]
    show (mapBlock (Go.Sort.ahead w n) g (putCells id 0 (flatK enc k d))).heap[g]? = _
    simp only [mapBlock, Array.getElem?_modify]
    rw [if_pos trivial]
    show (w.heap[g]?).map _ = _
    rw [h]
    rfl
  · simp [putCells]

theorem D.sortW_but {α : Type} [Inhabited α] (enc : α → List Value) (k : Nat) (w : World) (g n : Nat) (d : Array α) (os : Array Obj) (hg : g < w.heap.size) : AllBut (fun x => x = g) w (sortWorldK enc k w g 0 n d os) :=
  ⟨rfl, rfl, rfl, size_sortWorldK_c enc k w g 0 n d os, fun x hx h => sortW_other enc k w g n d os hx h⟩

theorem D.swo_cmp {w : World} {g : Nat} : SWO (ltOf (FcIn.cf (w := w) (g := g))) where
  irrefl x := by unfold ltOf FcIn.cf; rw [cmpA_refl]; rfl
  trans x y z h1 h2 := by
    unfold ltOf FcIn.cf at *
    simp only [decide_eq_true_eq] at *
    rw [cmpA_lex] at *
    exact (lexL_is cmpS_is).lt_of_lt_le h1 (by omega)
  ntrans x y z h1 h2 := by
    unfold ltOf FcIn.cf at *
    simp only [decide_eq_false_iff_not] at *
    rw [cmpA_lex] at *
    have a1 := (lexL_is cmpS_is).anti (keyA x.1.t) (keyA y.1.t)
    have a2 := (lexL_is cmpS_is).anti (keyA y.1.t) (keyA z.1.t)
    have a3 := (lexL_is cmpS_is).anti (keyA x.1.t) (keyA z.1.t)
    have a4 := (lexL_is cmpS_is).trans (keyA z.1.t) (keyA y.1.t) (keyA x.1.t) (by omega) (by omega)
    omega

theorem sortAtoms_any (g cap : Nat) (xs : List Fc) (w : World) (hg : g < w.heap.size) (hc : ∀ k x, xs[k]? = some x → w.cell? ⟨g, k * 2, none⟩ = some (.string x.t.name) ∧ w.cell? ⟨g, k * 2 + 1, none⟩ = some x.c1) (hfz : ∀ q, w.frozen? ⟨g, q, none⟩ = false)
    (hat : ∀ x ∈ xs, ∃ ba, atomK w [.string x.t.name, x.c1] x.t ba ∧ g ∉ ba) (hsz : xs.length < 4611686018427387904) :
    Calls Tryz.prog 66 #[.slice (some ⟨g, 0, none⟩) xs.length cap, .func (.func 29) #[] #[]] w fun e w' => e = .returned (.tuple #[]) ∧
      ∃ ys : List Fc, ys.Perm xs ∧ ys.Pairwise (fun a b => ¬ cmpA b.t a.t < 0) ∧ (∀ k y, ys[k]? = some y → w'.cell? ⟨g, k * 2, none⟩ = some (.string y.t.name) ∧ w'.cell? ⟨g, k * 2 + 1, none⟩ = some y.c1) ∧ AllBut (fun x => x = g) w w' ∧
        ∀ cur e, w.heap[g]? = some (.cells cur e (0, 0)) → ∃ cur', w'.heap[g]? = some (.cells cur' e (0, 0)) ∧ cur'.size = cur.size := by
  cases hx : xs with
  | nil =>
    refine (AnyF.slices_SortFunc_none Tryz.sortA (some ⟨g, 0, none⟩) cap (.func (.func 29) #[] #[]) w).mono ?_
    rintro e w' ⟨rfl, rfl⟩
    exact ⟨rfl, [], List.Perm.refl _, List.Pairwise.nil, fun k y h => by simp at h, AllBut.refl _ _, fun cur e h => ⟨cur, h, rfl⟩⟩
  | cons x0 rest =>
    rw [← hx]
    have hm0 : x0 ∈ xs := by rw [hx]; exact List.mem_cons_self ..
    letI : Inhabited (FcIn w g) := ⟨⟨x0, hat x0 hm0⟩⟩
    obtain ⟨L, hL⟩ : ∃ L : List (FcIn w g), L = xs.attach.map (fun x => ⟨x.1, hat x.1 x.2⟩) := ⟨_, rfl⟩
    have hLx : L.map (·.1) = xs := by rw [hL, List.map_map]; exact List.attach_map_subtype_val xs
    have hlen : L.length = xs.length := by rw [← hLx]; simp
    have hget : ∀ (d : List (FcIn w g)) (i : Nat) (h : i < d.length), d.toArray[i]! = d[i] := fun d i h => by simp [getElem!_pos, h]
    have hH : HoldsK FcIn.enc 2 w g 0 L.toArray := by
      intro j hj
      simp only [size_flatK, List.size_toArray] at hj
      refine ⟨?_, hfz _⟩
      show w.cell? _ = some ((flatK FcIn.enc 2 L.toArray)[j]!)
      rw [get_flatK _ _ _ _ (by simpa using hj), hget L (j / 2) (by omega)]
      have h1 := hc (j / 2) (L[j / 2]'(by omega)).1 (by rw [← hLx, List.getElem?_map, List.getElem?_eq_getElem (by omega)]; rfl)
      have e : 0 + j = j / 2 * 2 + j % 2 := by omega
      rw [e]
      rcases (show j % 2 = 0 ∨ j % 2 = 1 by omega) with h | h
      · rw [h]; exact h1.1
      · rw [h]; exact h1.2
    have hcmp : CmpLays Tryz.prog 29 #[] FcIn.enc 2 (FcIn.cf (w := w) (g := g)) g 0 L.toArray.size w := fun m os dk hdk x y => by
      obtain ⟨b1, h1, n1⟩ := x.2
      obtain ⟨b2, h2, n2⟩ := y.2
      have hb := sortW_but FcIn.enc 2 w g m dk os hg
      refine (atomOrder_grew x.1.t y.1.t (.string x.1.t.name) x.1.c1 (.string y.1.t.name) y.1.c1 b1 b2 (sortWorldK FcIn.enc 2 w g 0 m dk os) (atomK_good.keep h1 fun b hb' => hb.block b (atomK_good.lt h1 b hb') (fun e => n1 (e ▸ hb'))) (atomK_good.keep h2 fun b hb' => hb.block b (atomK_good.lt h2 b hb') (fun e => n2 (e ▸ hb')))).mono ?_
      rintro e w' ⟨rfl, hgw⟩
      exact ⟨rfl, hgw.is⟩
    have hcon := AnyQ.slices_SortFunc Tryz.sortA 2 Tryz.isAgg33 Tryz.sizeOf33 FcIn.enc (fun x => rfl) (fun x v hv => by
      obtain ⟨b1, h1, _⟩ := x.2
      obtain ⟨Ad, cc, _, h3⟩ := atom_cells2 h1
      unfold FcIn.enc Fc.enc at hv
      rw [h3] at hv
      simp at hv
      rcases hv with rfl | rfl <;> rfl) FcIn.cf swo_cmp 29 #[] g 0 cap L.toArray w (enters_of Tryz.func29 (by kernel_rfl) rfl) hcmp hH hg (by simpa [hlen] using hsz)
    have hs : L.toArray.size = xs.length := by simp [hlen]
    rw [hs] at hcon
    change Calls Tryz.prog 66 _ _ _ at hcon
    refine hcon.mono ?_
    rintro e w' ⟨rfl, d', n, os, hp, hsrt, rfl⟩
    have hd : d'.size = xs.length := by rw [hp.1, hs]
    have hH2 := holdsK_sortWorldK_c FcIn.enc 2 w g 0 L.toArray d' n os hH hg (by rw [hp.1])
    refine ⟨rfl, d'.toList.map (·.1), ?_, ?_, fun k y hk => ?_, sortW_but _ _ _ _ _ _ _ hg, fun cur e h => sortW_own _ _ _ _ _ _ _ h⟩
    · have h3 := hp.2.2
      rw [Array.extract_eq_self_of_le (by omega), Array.extract_eq_self_of_le (by omega)] at h3
      have h4 := h3.map (·.1)
      rwa [List.toList_toArray, hLx] at h4
    · refine List.pairwise_map.2 (List.pairwise_iff_getElem.2 fun i j hi hj hij => ?_)
      have h3 := hsrt i j (Nat.zero_le _) hij (by simp at hj; omega)
      rw [getElem!_pos d' i (by simpa using hi), getElem!_pos d' j (by simpa using hj)] at h3
      unfold ltOf FcIn.cf at h3
      simpa using h3
    · obtain ⟨z, hz, rfl⟩ : ∃ z, d'[k]? = some z ∧ z.1 = y := by
        rw [List.getElem?_map] at hk
        obtain ⟨z, hz, rfl⟩ := Option.map_eq_some_iff.1 hk
        exact ⟨z, by simpa using hz, rfl⟩
      obtain ⟨hkl, rfl⟩ := Array.getElem?_eq_some_iff.1 hz
      have c0 := (hH2.cell (i := k) (c := 0) hkl (by omega)).1
      have c1 := (hH2.cell (i := k) (c := 1) hkl (by omega)).1
      rw [getElem!_pos d' k hkl] at c0 c1
      rw [Nat.zero_add] at c0 c1
      exact ⟨c0, c1⟩

end Go.Proofs.YtjjfafgaphloaaaGreatDoor

namespace Go.Proofs.YtjjfafgaphloaaaGreatDoor
open Go.RowKit D
set_option linter.unusedVariables false
attribute [local go_sem ↓] Go.wp_at_zero Go.wp_at_succ
set_option maxRecDepth 100000 in
set_option maxHeartbeats 4000000 in
theorem onceTell_any (a6 mf : Nat) (told : List A) (fb : List Nat) (a : A) (c1 : Value) (ba : List Nat) (w : World) (F : FndSt a6 mf w told fb) (ha : atomK w [.string a.name, c1] a ba) (hok : FactOk a) (hn : New a6 w ba) (hd : ∀ x ∈ ba, x ∉ fb) :
    Calls Tryz.prog 25 #[.agg #[.string a.name, c1], .pointer (some ⟨a6, 0, none⟩)] w fun e w' => e = .returned (.bool true) ∧ FndSt a6 mf w' (told ++ [a]) (fb ++ ba) ∧ AllBut (fun k => k = mf) w w' := by
  obtain ⟨Ae, ce, _, rfl⟩ := atom_cells2 ha
  have hA : Below w.heap.size w (w.alloc (.cells #[.string a.name, .slice Ae a.args.length ce] 33)) := (Below.refl _ _).alloc (Nat.le_refl _) _
  have hbulk : bulkA a ≤ 16777216 := by have := bulk_ok hok.ok; omega
  have hT := Lib.hid (atomText_any a (.string a.name) (.slice Ae a.args.length ce) ba _ (atomK_good.below ha hA.drew) hbulk)
  have y0 : (w.alloc (.cells #[.string a.name, .slice Ae a.args.length ce] 33)).cell? ⟨a6, 0, none⟩ = some (.map (some mf)) := cell_later hA (cell_of_blk F.box)
  have y1 : (w.alloc (.cells #[.string a.name, .slice Ae a.args.length ce] 33)).cell? ⟨w.heap.size, 0, none⟩ = some (.string a.name) := by go_simp
  have y2 : (w.alloc (.cells #[.string a.name, .slice Ae a.args.length ce] 33)).cell? ⟨w.heap.size, 1, none⟩ = some (.slice Ae a.args.length ce) := by go_simp
  have HUP : Hid (∀ w2 : World, Below w.heap.size w w2 → ∃ w9, (Instr.mapUpdate 50 (.map (some mf)) (.string ⟨(putL a).toArray⟩) (.agg #[.string a.name, .slice Ae a.args.length ce])).run Tryz.prog w2 = .ok () w9 ∧ FndSt a6 mf w9 (told ++ [a]) (fb ++ ba) ∧ AllBut (fun k => k = mf) w w9) := Lib.hid fun w2 h2 => by
    obtain ⟨w9, r1, r2, r3⟩ := (F.keep (fun x hx => h2.block x (F.lt x hx)) h2.size).put (atomK_good.below ha h2) hok (hn.below h2) hd
    exact ⟨w9, r1, r2, (AllBut.of_below h2).trans (AllBut.of_grown r3 rfl)⟩
  have HA := Lib.hid hA
  have hsz : w.heap.size < (w.alloc (.cells #[.string a.name, .slice Ae a.args.length ce] 33)).heap.size := by simp
  clear F ha hok hA hbulk hn hd
  go_enter Tryz.func25, Tryz.ntmps25
  go_wp2
  generalize w.alloc (.cells #[.string a.name, .slice Ae a.args.length ce] 33) = W at *
  go_region_law
    (first
      | (go_simp; go_at_call 26; refine hT.out.mono ?_; rintro e w2 ⟨rfl, hb2⟩; have HB2 := Lib.hid ((Below.refl W.heap.size W).drew.trans hb2); replace y0 := cell_later HB2.out y0; replace y1 := cell_later HB2.out y1; replace y2 := cell_later HB2.out y2; replace hsz := Nat.lt_of_lt_of_le hsz HB2.out.size; obtain ⟨w9, hup, hF9, hg9⟩ := HUP.out w2 (HA.out.trans (HB2.out.mono HA.out.size)); have HF9 := Lib.hid (And.intro hF9 hg9); clear hb2 hF9 hg9))
  all_goals
    clear y0 y1 y2 hup HB2
    go_wp2
    go_ret
    exact ⟨rfl, HF9.out⟩

theorem D.tlr_once (a6 mf : Nat) : Tlr 25 #[.pointer (some ⟨a6, 0, none⟩)] (fun k => k = mf) (FndSt a6 mf) (fun _ => true) := by
  refine ⟨enters_of Tryz.func25 (by kernel_rfl) rfl, fun h => h.lt, fun h x hx => hx ▸ h.own.2.1, fun h hk hs => h.keep hk hs, fun w told fb a c1 ba b0 h hb0 hn ha hok => ?_⟩
  refine (onceTell_any a6 mf told fb a c1 ba w h ha hok (hn.mono (Nat.le_of_lt (hb0 _ h.own.1))) fun x hx hm => ?_).mono ?_
  · have h1 := hb0 x hm
    have h2 := (hn.own x hx).1
    omega
  · rintro e w' ⟨rfl, h1, h2⟩
    exact ⟨rfl, ⟨_, h1, fun x hx => (List.mem_append.1 hx).elim .inl fun h => .inr (hn.own x h).1⟩, h2⟩

end Go.Proofs.YtjjfafgaphloaaaGreatDoor

namespace Go.Proofs.YtjjfafgaphloaaaGreatDoor
open Go.RowKit D
set_option linter.unusedVariables false
theorem D.perm_lift {α β : Type} (f : α → β) {ys xs : List β} (h : ys.Perm xs) : ∀ L : List α, xs = L.map f → ∃ L' : List α, L'.Perm L ∧ ys = L'.map f := by
  induction h with
  | nil => intro L e; exact ⟨L, List.Perm.refl _, e⟩
  | cons x _ ih =>
    intro L e
    cases L with
    | nil => simp at e
    | cons a L =>
      simp only [List.map_cons, List.cons.injEq] at e
      obtain ⟨L', h1, h2⟩ := ih L e.2
      exact ⟨a :: L', h1.cons a, by rw [List.map_cons, e.1, h2]⟩
  | swap x y l =>
    intro L e
    match L, e with
    | [], e => simp at e
    | [a], e => simp at e
    | a :: b :: L, e =>
      simp only [List.map_cons, List.cons.injEq] at e
      exact ⟨b :: a :: L, List.Perm.swap a b L, by rw [List.map_cons, List.map_cons, e.1, e.2.1, e.2.2]⟩
  | trans _ _ ih1 ih2 =>
    intro L e
    obtain ⟨L1, h1, h2⟩ := ih2 L e
    obtain ⟨L2, h3, h4⟩ := ih1 L1 h2
    exact ⟨L2, h3.trans h1, h4⟩

/-- A fact in memory: its cells, and its blocks. -/
structure D.Fq where
  t : A
  c1 : Value
  ba : List Nat

def D.Fq.cs (x : Fq) : List Value := [.string x.t.name, x.c1]

def D.Fq.fc (x : Fq) : Fc := ⟨x.t, x.c1⟩

theorem D.chunks {L : List Value} {n : Nat} (h : L.length = n * 2) : L = (List.range n).flatMap fun j => (L.drop (j * 2)).take 2 := by
  have key : ∀ k, k ≤ n → L.take (k * 2) = (List.range k).flatMap fun j => (L.drop (j * 2)).take 2 := by
    intro k
    induction k with
    | zero => intro _; simp
    | succ k ih =>
      intro hk
      rw [List.range_succ, List.flatMap_append, ← ih (by omega), Nat.add_mul, Nat.one_mul]
      simp [List.take_add]
  have := key n (Nat.le_refl _)
  rwa [← h, List.take_length] at this

theorem D.rowed_fqs {w : World} {L : List Value} {xs : List A} {bs : List Nat} (h : Rowed 2 atomK w L xs bs) : ∃ zs : List Fq, zs.map (·.t) = xs ∧ zs.flatMap (·.cs) = L ∧ zs.flatMap (·.ba) = bs ∧ ∀ z ∈ zs, atomK w [.string z.t.name, z.c1] z.t z.ba := by
  obtain ⟨h1, h2, G, rfl, h3⟩ := h
  have hex : ∀ j : Fin xs.length, ∃ s, (L.drop (j.1 * 2)).take 2 = [.string xs[j.1].name, s] := fun j => by
    obtain ⟨s, e, _⟩ := h3 j.1 j.2
    exact ⟨s, e⟩
  let f : Fin xs.length → Fq := fun j => ⟨xs[j.1], Classical.choose (hex j), G j.1⟩
  have hf : ∀ j : Fin xs.length, (f j).cs = (L.drop (j.1 * 2)).take 2 := fun j => (Classical.choose_spec (hex j)).symm
  have hr : ∀ (γ : Type) (q : Nat → List γ), (List.finRange xs.length).flatMap (fun j => q j.1) = (List.range xs.length).flatMap q := fun γ q => by
    have e : List.range xs.length = (List.finRange xs.length).map (fun j => j.1) := by
      apply List.ext_getElem
      · simp
      · intro i h1 h2
        simp
    rw [e, List.flatMap_map]
  refine ⟨(List.finRange xs.length).map f, ?_, ?_, ?_, fun z hz => ?_⟩
  · apply List.ext_getElem
    · simp
    · intro i h1 h2
      simp [f]
  · rw [List.flatMap_map]
    rw [chunks h1]
    conv => rhs; rw [← hr]
    refine congrArg (fun g => List.flatMap g (List.finRange xs.length)) (funext fun j => ?_)
    exact hf j
  · rw [List.flatMap_map]
    exact hr Nat G
  · obtain ⟨j, _, rfl⟩ := List.mem_map.1 hz
    have := h3 j.1 j.2
    rw [← hf j] at this
    exact this

theorem D.fqs_rowed {w : World} : ∀ {zs : List Fq}, (∀ z ∈ zs, atomK w [.string z.t.name, z.c1] z.t z.ba) → Rowed 2 atomK w (zs.flatMap (·.cs)) (zs.map (·.t)) (zs.flatMap (·.ba))
  | [], _ => Rowed.nil
  | z :: zs, h => by
    have h1 : Rowed 2 atomK w z.cs [z.t] z.ba := Rowed.one_el atomK_ones (h z (List.mem_cons_self ..))
    exact h1.append (fqs_rowed fun y hy => h y (List.mem_cons_of_mem _ hy))

theorem D.fq_at (zs : List Fq) (k : Nat) (h : k < zs.length) : (zs.flatMap (·.cs))[k * 2]? = some (.string zs[k].t.name) ∧ (zs.flatMap (·.cs))[k * 2 + 1]? = some zs[k].c1 := by
  induction zs generalizing k with
  | nil => simp at h
  | cons z zs ih =>
    cases k with
    | zero => simp [Fq.cs]
    | succ k =>
      have := ih k (by simpa using h)
      have e1 : (k + 1) * 2 = k * 2 + 2 := by omega
      have e2 : (k + 1) * 2 + 1 = k * 2 + 1 + 2 := by omega
      rw [e1, show k * 2 + 2 + 1 = k * 2 + 1 + 2 by omega]
      simp only [List.flatMap_cons, Fq.cs, List.cons_append, List.nil_append, List.getElem?_cons_succ, List.getElem_cons_succ]
      exact this

theorem D.fq_len (zs : List Fq) : (zs.flatMap (·.cs)).length = zs.length * 2 := by
  induction zs with
  | nil => rfl
  | cons z zs ih => simp only [List.flatMap_cons, List.length_append, ih, List.length_cons]; simp [Fq.cs]; omega

/-- slices.SortFunc of a row of facts that one owns. -/
theorem sortColl_any (xs : List A) (v : Value) (L : List Value) (bs : List Nat) (base : Nat) (w : World) (C : Coll 2 atomK base 33 w v L xs bs) (hsz : xs.length < 4611686018427387904) :
    Calls Tryz.prog 66 #[v, .func (.func 29) #[] #[]] w fun e w' => e = .returned (.tuple #[]) ∧
      ∃ ys L' bs', ys.Perm xs ∧ ys.Pairwise (fun a b => ¬ cmpA b a < 0) ∧ bs'.Perm bs ∧ Coll 2 atomK base 33 w' v L' ys bs' ∧ AllBut (fun x => v.ownBlock = some x) w w' := by
  obtain ⟨zs, e1, e2, e3, hz⟩ := rowed_fqs C.row
  obtain ⟨hlen, hown⟩ := C.own
  rcases hown with ⟨rfl, hL⟩ | ⟨g, cap, cur, rfl, hg, hh, hc1, hc2, hc3, hc4⟩
  · have hx : xs = [] := List.length_eq_zero_iff.1 hL
    subst hx
    refine (Go.Proofs.AnyF.slices_SortFunc_none Tryz.sortA none 0 (.func (.func 29) #[] #[]) w).mono ?_
    rintro e w' ⟨rfl, rfl⟩
    exact ⟨rfl, [], L, bs, List.Perm.refl _, List.Pairwise.nil, List.Perm.refl _, C, AllBut.refl _ _⟩
  · have hgl : g < w.heap.size := lt_of_block hh
    have hzl : zs.length = xs.length := by rw [← e1]; simp
    have hgz : ∀ z ∈ zs, g ∉ z.ba := fun z hzm hm => C.far g (by rw [← e3]; exact List.mem_flatMap.2 ⟨z, hzm, hm⟩) rfl
    have hcs : ∀ q, q < xs.length * 2 → w.cell? ⟨g, q, none⟩ = L[q]? := fun q hq => by
      rw [cell_of_blk hh, ← hc4, List.getElem?_take_of_lt hq, Array.getElem?_toList]
    have hm := sortAtoms_any g cap (zs.map Fq.fc) w hgl (fun k x hk => by
      rw [List.getElem?_map] at hk
      obtain ⟨z, hzk, rfl⟩ := Option.map_eq_some_iff.1 hk
      obtain ⟨hkl, rfl⟩ := List.getElem?_eq_some_iff.1 hzk
      have := fq_at zs k hkl
      rw [e2] at this
      exact ⟨(hcs _ (by omega)).trans this.1, (hcs _ (by omega)).trans this.2⟩) (fun q => frozen_of_blk hh) (fun x hx => by
      obtain ⟨z, hzm, rfl⟩ := List.mem_map.1 hx
      exact ⟨z.ba, hz z hzm, hgz z hzm⟩) (by simp; omega)
    rw [List.length_map, hzl] at hm
    refine hm.mono ?_
    rintro e w' ⟨rfl, ys, hp, hs, hcy, hbut, hshape⟩
    obtain ⟨zs', hp', rfl⟩ := perm_lift Fq.fc hp zs rfl
    obtain ⟨cur', hh', hsz'⟩ := hshape cur _ hh
    have hl' : zs'.length = xs.length := by rw [hp'.length_eq, hzl]
    have hz' : ∀ z ∈ zs', atomK w' [.string z.t.name, z.c1] z.t z.ba := fun z hzm => by
      have h1 := hz z (hp'.mem_iff.1 hzm)
      exact atomK_good.keep h1 fun b hb => hbut.block b (atomK_good.lt h1 b hb) (fun e => hgz z (hp'.mem_iff.1 hzm) (e ▸ hb))
    refine ⟨rfl, zs'.map (·.t), zs'.flatMap (·.cs), zs'.flatMap (·.ba), by rw [← e1]; exact hp'.map _, ?_, by rw [← e3]; exact hp'.flatMap_right _, ⟨⟨?_, .inr ⟨g, cap, cur', ?_, hg, hh', ?_, hc2, by rw [hsz']; exact hc3, ?_⟩⟩, fqs_rowed hz', fun b hb e => ?_⟩, ?_⟩
    · rw [List.pairwise_map] at hs ⊢
      exact hs
    · rw [fq_len]; simp
    · rw [List.length_map, hl']
    · rw [List.length_map, hl']; exact hc1
    · apply List.ext_getElem?
      intro q
      by_cases hq : q < xs.length * 2
      · rw [List.getElem?_take_of_lt (by rw [List.length_map, hl']; exact hq), Array.getElem?_toList, ← cell_of_blk hh']
        have hk : q / 2 < zs'.length := by omega
        have h1 := hcy (q / 2) (zs'[q / 2].fc) (by rw [List.getElem?_map, List.getElem?_eq_getElem hk]; rfl)
        have h2 := fq_at zs' (q / 2) hk
        rcases (show q = q / 2 * 2 ∨ q = q / 2 * 2 + 1 by omega) with e | e
        · rw [e]
          have e' : q / 2 * 2 / 2 = q / 2 := by omega
          simp only [e'] at *
          exact h1.1.trans h2.1.symm
        · rw [e]
          have e' : (q / 2 * 2 + 1) / 2 = q / 2 := by omega
          simp only [e'] at *
          exact h1.2.trans h2.2.symm
      · rw [List.getElem?_eq_none (by simp; omega), List.getElem?_eq_none (by rw [fq_len]; omega)]
    · obtain ⟨z, hzm, hb⟩ := List.mem_flatMap.1 hb
      injection e with e
      have e' : g = b := e
      exact hgz z (hp'.mem_iff.1 hzm) (e' ▸ hb)
    · exact ⟨hbut.os, hbut.tape, hbut.output, hbut.size, fun k hk hne => hbut.block k hk fun e => hne (by rw [e]; rfl)⟩

/-- Facts that stand in order, none twice. -/
theorem D.asc_sorted {ts : List A} (hf : ∀ t ∈ ts, FactOk t) (hn : ts.Nodup) (hs : ts.Pairwise (fun a b => ¬ cmpA b a < 0)) : asc ts = true := by
  rw [asc_iff]
  intro i hi
  have h1 := List.pairwise_iff_getElem.1 hs i (i + 1) (by omega) hi (by omega)
  have h2 := List.pairwise_iff_getElem.1 hn i (i + 1) (by omega) hi (by omega)
  by_cases h0 : cmpA ts[i] ts[i + 1] = 0
  · exact absurd (gr_eq (hf _ (List.getElem_mem _)).gr (hf _ (List.getElem_mem _)).gr h0) h2
  · rw [cmpA_lex] at h0 h1 ⊢
    have h4 := cmpA_is.anti (keyA ts[i + 1]) (keyA ts[i])
    omega

end Go.Proofs.YtjjfafgaphloaaaGreatDoor
