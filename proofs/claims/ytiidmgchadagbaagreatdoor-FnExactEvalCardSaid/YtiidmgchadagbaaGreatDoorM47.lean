/- Of the proof of FnExactEval: SFn, RouP, SrtP, RouI, StAl, EvI, EvC, LwEval. -/
import Derived.Test.YtiidmgchadagbaaGreatDoorM46
import Derived.Deep.CutBlock
set_option linter.unusedVariables false
set_option maxHeartbeats 4000000
set_option maxRecDepth 100000
namespace Go.Proofs.YtiidmgchadagbaaGreatDoor
open Go.Shelf Go.RowKit Go.Lib Go.Sort D
structure D.Fc where
 t : A
 c1 : Value
def D.Fc.enc (x : Fc) : List Value := [.string x.t.name, x.c1]
abbrev D.FcIn (w : World) (g : Nat) := { x : Fc // ∃ ba, atomK w [.string x.t.name, x.c1] x.t ba ∧ g ∉ ba }
def D.FcIn.enc {w : World} {g : Nat} (x : FcIn w g) : List Value := x.1.enc
def D.FcIn.cf {w : World} {g : Nat} (x y : FcIn w g) : Int := cmpA x.1.t y.1.t
theorem D.heap_mapBlock_other (w : World) (g : Nat) (f : Array Value → Array Value) {x : Nat} (h : x ≠ g) : (mapBlock w g f).heap[x]? = w.heap[x]? := by
 simp only [mapBlock, Array.getElem?_modify]
 rw [if_neg (fun e => h e.symm)]
theorem D.sortW_other {α : Type} [Inhabited α] (enc : α → List Value) (k : Nat) (w : World) (g n : Nat) (d : Array α) (os : Array Obj) {x : Nat} (hx : x < w.heap.size) (h : x ≠ g) : (sortWorldK enc k w g 0 n d os).heap[x]? = w.heap[x]? := by
 unfold sortWorldK
 have e1 : (grow (putRowK enc k (Go.Sort.ahead w n) g 0 d) os).heap[x]? = (putRowK enc k (Go.Sort.ahead w n) g 0 d).heap[x]? := by
  show (_ ++ os)[x]? = _
  rw [Array.getElem?_append_left (by rw [size_putRowK]; exact hx)]
 rw [e1]
 exact heap_mapBlock_other (Go.Sort.ahead w n) g _ h
theorem D.sortW_own {α : Type} [Inhabited α] (enc : α → List Value) (k : Nat) (w : World) (g n : Nat) (d : Array α) (os : Array Obj) {cur : Array Value} {e : TypeId} (h : w.heap[g]? = some (.cells cur e (0, 0))) : ∃ cur', (sortWorldK enc k w g 0 n d os).heap[g]? = some (.cells cur' e (0, 0)) ∧ cur'.size = cur.size := by
 have hg : g < w.heap.size := (Array.getElem?_eq_some_iff.1 h).1
 unfold sortWorldK
 have e1 : (grow (putRowK enc k (Go.Sort.ahead w n) g 0 d) os).heap[g]? = (putRowK enc k (Go.Sort.ahead w n) g 0 d).heap[g]? := by
  show (_ ++ os)[g]? = _
  rw [Array.getElem?_append_left (by rw [size_putRowK]; exact hg)]
 refine ⟨putCells id 0 (flatK enc k d) cur, ?_, ?_⟩
 ·rw [e1]
  show (mapBlock (Go.Sort.ahead w n) g (putCells id 0 (flatK enc k d))).heap[g]? = _
  simp only [mapBlock, Array.getElem?_modify]
  rw [if_pos trivial]
  show (w.heap[g]?).map _ = _
  rw [h]
  rfl
 ·simp [putCells]
theorem D.sortW_but {α : Type} [Inhabited α] (enc : α → List Value) (k : Nat) (w : World) (g n : Nat) (d : Array α) (os : Array Obj) (hg : g < w.heap.size) : AllBut (fun x => x = g) w (sortWorldK enc k w g 0 n d os) :=
 ⟨rfl, rfl, rfl, size_sortWorldK_c enc k w g 0 n d os, fun x hx h => sortW_other enc k w g n d os hx h⟩
theorem D.swo_cmp {w : World} {g : Nat} : SWO (ltOf (FcIn.cf (w := w) (g := g))) where
 irrefl x := by unfold ltOf FcIn.cf; rw [cmpA_refl]; rfl
 trans x y z h1 h2 := by
  unfold ltOf FcIn.cf at *
  simp only [decide_eq_true_eq] at *
  rw [cmpA_lex] at *
  exact (lexL_is cmpS_is).lt_of_lt_le h1 (by omega)
 ntrans x y z h1 h2 := by
  unfold ltOf FcIn.cf at *
  simp only [decide_eq_false_iff_not] at *
  rw [cmpA_lex] at *
  have a1 := (lexL_is cmpS_is).anti (keyA x.1.t) (keyA y.1.t)
  have a2 := (lexL_is cmpS_is).anti (keyA y.1.t) (keyA z.1.t)
  have a3 := (lexL_is cmpS_is).anti (keyA x.1.t) (keyA z.1.t)
  have a4 := (lexL_is cmpS_is).trans (keyA z.1.t) (keyA y.1.t) (keyA x.1.t) (by omega) (by omega)
  omega
theorem sortAtoms_any (g cap : Nat) (xs : List Fc) (w : World) (hg : g < w.heap.size) (hc : ∀ k x, xs[k]? = some x → w.cell? ⟨g, k * 2, none⟩ = some (.string x.t.name) ∧ w.cell? ⟨g, k * 2 + 1, none⟩ = some x.c1) (hfz : ∀ q, w.frozen? ⟨g, q, none⟩ = false)
  (hat : ∀ x ∈ xs, ∃ ba, atomK w [.string x.t.name, x.c1] x.t ba ∧ g ∉ ba) (hsz : xs.length < 4611686018427387904) :
  Calls Tryz.prog 64 #[.slice (some ⟨g, 0, none⟩) xs.length cap, .func (.func 65) #[] #[]] w fun e w' => e = .returned (.tuple #[]) ∧
   ∃ ys : List Fc, ys.Perm xs ∧ ys.Pairwise (fun a b => ¬ cmpA b.t a.t < 0) ∧ (∀ k y, ys[k]? = some y → w'.cell? ⟨g, k * 2, none⟩ = some (.string y.t.name) ∧ w'.cell? ⟨g, k * 2 + 1, none⟩ = some y.c1) ∧ AllBut (fun x => x = g) w w' ∧
    ∀ cur e, w.heap[g]? = some (.cells cur e (0, 0)) → ∃ cur', w'.heap[g]? = some (.cells cur' e (0, 0)) ∧ cur'.size = cur.size := by
 cases hx : xs with
 | nil =>
  refine (AnyF.slices_SortFunc_none Tryz.sortA (some ⟨g, 0, none⟩) cap (.func (.func 65) #[] #[]) w).mono ?_
  rintro e w' ⟨rfl, rfl⟩
  exact ⟨rfl, [], List.Perm.refl _, List.Pairwise.nil, fun k y h => by simp at h, AllBut.refl _ _, fun cur e h => ⟨cur, h, rfl⟩⟩
 | cons x0 rest =>
  rw [← hx]
  have hm0 : x0 ∈ xs := by rw [hx]; exact List.mem_cons_self ..
  letI : Inhabited (FcIn w g) := ⟨⟨x0, hat x0 hm0⟩⟩
  obtain ⟨L, hL⟩ : ∃ L : List (FcIn w g), L = xs.attach.map (fun x => ⟨x.1, hat x.1 x.2⟩) := ⟨_, rfl⟩
  have hLx : L.map (·.1) = xs := by rw [hL, List.map_map]; exact List.attach_map_subtype_val xs
  have hlen : L.length = xs.length := by rw [← hLx]; simp
  have hget : ∀ (d : List (FcIn w g)) (i : Nat) (h : i < d.length), d.toArray[i]! = d[i] := fun d i h => by simp [getElem!_pos, h]
  have hH : HoldsK FcIn.enc 2 w g 0 L.toArray := by
   intro j hj
   simp only [size_flatK, List.size_toArray] at hj
   refine ⟨?_, hfz _⟩
   show w.cell? _ = some ((flatK FcIn.enc 2 L.toArray)[j]!)
   rw [get_flatK _ _ _ _ (by simpa using hj), hget L (j / 2) (by omega)]
   have h1 := hc (j / 2) (L[j / 2]'(by omega)).1 (by rw [← hLx, List.getElem?_map, List.getElem?_eq_getElem (by omega)]; rfl)
   have e : 0 + j = j / 2 * 2 + j % 2 := by omega
   rw [e]
   rcases (show j % 2 = 0 ∨ j % 2 = 1 by omega) with h | h
   ·rw [h]; exact h1.1
   ·rw [h]; exact h1.2
  have hcmp : CmpLays Tryz.prog 65 #[] FcIn.enc 2 (FcIn.cf (w := w) (g := g)) g 0 L.toArray.size w := fun m os dk hdk x y => by
   obtain ⟨b1, h1, n1⟩ := x.2
   obtain ⟨b2, h2, n2⟩ := y.2
   have hb := sortW_but FcIn.enc 2 w g m dk os hg
   refine (atomOrder_grew x.1.t y.1.t (.string x.1.t.name) x.1.c1 (.string y.1.t.name) y.1.c1 b1 b2 (sortWorldK FcIn.enc 2 w g 0 m dk os) (atomK_good.keep h1 fun b hb' => hb.block b (atomK_good.lt h1 b hb') (fun e => n1 (e ▸ hb'))) (atomK_good.keep h2 fun b hb' => hb.block b (atomK_good.lt h2 b hb') (fun e => n2 (e ▸ hb')))).mono ?_
   rintro e w' ⟨rfl, hgw⟩
   exact ⟨rfl, hgw.is⟩
  have hcon := AnyQ.slices_SortFunc Tryz.sortA 2 Tryz.isAgg68 Tryz.sizeOf68 FcIn.enc (fun x => rfl) (fun x v hv => by
   obtain ⟨b1, h1, _⟩ := x.2
   obtain ⟨Ad, cc, _, h3⟩ := atom_cells2 h1
   unfold FcIn.enc Fc.enc at hv
   rw [h3] at hv
   simp at hv
   rcases hv with rfl | rfl <;> rfl) FcIn.cf swo_cmp 65 #[] g 0 cap L.toArray w (enters_of Tryz.func65 (by kernel_rfl) rfl) hcmp hH hg (by simpa [hlen] using hsz)
  have hs : L.toArray.size = xs.length := by simp [hlen]
  rw [hs] at hcon
  change Calls Tryz.prog 64 _ _ _ at hcon
  refine hcon.mono ?_
  rintro e w' ⟨rfl, d', n, os, hp, hsrt, rfl⟩
  have hd : d'.size = xs.length := by rw [hp.1, hs]
  have hH2 := holdsK_sortWorldK_c FcIn.enc 2 w g 0 L.toArray d' n os hH hg (by rw [hp.1])
  refine ⟨rfl, d'.toList.map (·.1), ?_, ?_, fun k y hk => ?_, sortW_but _ _ _ _ _ _ _ hg, fun cur e h => sortW_own _ _ _ _ _ _ _ h⟩
  ·have h3 := hp.2.2
   rw [Array.extract_eq_self_of_le (by omega), Array.extract_eq_self_of_le (by omega)] at h3
   have h4 := h3.map (·.1)
   rwa [List.toList_toArray, hLx] at h4
  ·refine List.pairwise_map.2 (List.pairwise_iff_getElem.2 fun i j hi hj hij => ?_)
   have h3 := hsrt i j (Nat.zero_le _) hij (by simp at hj; omega)
   rw [getElem!_pos d' i (by simpa using hi), getElem!_pos d' j (by simpa using hj)] at h3
   unfold ltOf FcIn.cf at h3
   simpa using h3
  ·obtain ⟨z, hz, rfl⟩ : ∃ z, d'[k]? = some z ∧ z.1 = y := by
    rw [List.getElem?_map] at hk
    obtain ⟨z, hz, rfl⟩ := Option.map_eq_some_iff.1 hk
    exact ⟨z, by simpa using hz, rfl⟩
   obtain ⟨hkl, rfl⟩ := Array.getElem?_eq_some_iff.1 hz
   have c0 := (hH2.cell (i := k) (c := 0) hkl (by omega)).1
   have c1 := (hH2.cell (i := k) (c := 1) hkl (by omega)).1
   rw [getElem!_pos d' k hkl] at c0 c1
   rw [Nat.zero_add] at c0 c1
   exact ⟨c0, c1⟩
end Go.Proofs.YtiidmgchadagbaaGreatDoor
namespace Go.Proofs.YtiidmgchadagbaaGreatDoor
open Go.RowKit D
theorem D.alloc_get (w : World) (o : Obj) (k : Nat) : (w.alloc o).heap[k]? = if k = w.heap.size then some o else w.heap[k]? := by
 by_cases h : k = w.heap.size
 ·rw [if_pos h, h]; exact heap_alloc_new w o
 ·rw [if_neg h]
  by_cases h2 : k < w.heap.size
  ·exact Below.heap_alloc w o k h2
  ·have h3 : (w.alloc o).heap.size = w.heap.size + 1 := by simp
   rw [Array.getElem?_eq_none (by omega), Array.getElem?_eq_none (by omega)]
def D.rx (z sb nr : Nat) : RBx := ⟨z + 1 + 1 + 1 + 1 + 1, z, z + 1, z + 1 + 1 + 1 + 1 + 1 + 1, z + 1 + 1 + 1, z + 1 + 1 + 1 + 1, z + 1 + 1, sb, nr⟩
def D.rW (w : World) (sb nr : Nat) : World := (((((((w.alloc (.cells #[.pointer (some ⟨sb, 0, none⟩)] 80)).alloc (.cells #[.int .i64 nr] 3)).alloc (.chan 301 #[] false 0 0 false)).alloc (.cells #[.chan (some (w.heap.size + 1 + 1))] 158)).alloc (.map #[] 0)).alloc
 (.cells #[.map (some (w.heap.size + 1 + 1 + 1 + 1))] 85)).alloc (.cells #[.bool true] 4))
theorem D.rW_size (w : World) (sb nr : Nat) : (rW w sb nr).heap.size = w.heap.size + 7 := by unfold rW; simp
theorem D.rW_get (w : World) (sb nr : Nat) (k : Nat) : (rW w sb nr).heap[k]? = if k = w.heap.size + 6 then some (.cells #[.bool true] 4) else if k = w.heap.size + 5 then some (.cells #[.map (some (w.heap.size + 1 + 1 + 1 + 1))] 85) else if k = w.heap.size + 4 then some (.map #[] 0) else
  if k = w.heap.size + 3 then some (.cells #[.chan (some (w.heap.size + 1 + 1))] 158) else if k = w.heap.size + 2 then some (.chan 301 #[] false 0 0 false) else if k = w.heap.size + 1 then some (.cells #[.int .i64 nr] 3) else if k = w.heap.size then some (.cells #[.pointer (some ⟨sb, 0, none⟩)] 80) else w.heap[k]? := by
 unfold rW
 simp only [alloc_get]
 simp
theorem D.rW_below (w : World) (sb nr : Nat) : Below w.heap.size w (rW w sb nr) := by
 refine ⟨rfl, rfl, rfl, by rw [rW_size]; omega, fun k hk => ?_⟩
 rw [rW_get]
 simp only [show ¬ k = w.heap.size + 6 by omega, show ¬ k = w.heap.size + 5 by omega, show ¬ k = w.heap.size + 4 by omega, show ¬ k = w.heap.size + 3 by omega, show ¬ k = w.heap.size + 2 by omega, show ¬ k = w.heap.size + 1 by omega, show ¬ k = w.heap.size by omega, if_false]
theorem D.rnd_start (w : World) (sb nr : Nat) (fs : List A) (rn bst : List Nat) (hst : StoreV sb fs rn bst w) (hl : fs.length ≤ 300) : RndOn (rx w.heap.size sb nr) w.heap.size fs bst (rW w sb nr) [] (bst ++ (rx w.heap.size sb nr).own) := by
 have hb := rW_below w sb nr
 have e0 : newL fs [] = [] := rfl
 have lt := hst.lt
 have es : (rx w.heap.size sb nr).own = [w.heap.size + 5, w.heap.size, w.heap.size + 1, w.heap.size + 6, w.heap.size + 3, w.heap.size + 4, w.heap.size + 2] := rfl
 refine ⟨?_, ?_, ?_, ?_, ?_, ?_, ⟨[], 0, [], ?_, ?_, ?_⟩, ⟨rn, hst.below hb⟩, by rw [e0]; simpa using hl, fun t ht => by simp at ht, ?_, ?_, ?_, ?_, ?_⟩
 ·show (rW w sb nr).heap[w.heap.size + 5]? = _
  rw [rW_get]; simp; rfl
 ·show (rW w sb nr).heap[w.heap.size]? = _
  rw [rW_get]; simp; rfl
 ·show (rW w sb nr).heap[w.heap.size + 1]? = _
  rw [rW_get]; simp; rfl
 ·show (rW w sb nr).heap[w.heap.size + 6]? = _
  rw [rW_get]; simp
 ·show (rW w sb nr).heap[w.heap.size + 3]? = _
  rw [rW_get]; simp; rfl
 ·rw [e0]
  have : (rW w sb nr).heap[w.heap.size + 4]? = some (.map #[] 0) := by rw [rW_get]; simp
  exact ⟨⟨#[], 0, this, rfl⟩, fun p h => by simp [seenL] at h, List.Pairwise.nil⟩
 ·show (rW w sb nr).heap[w.heap.size + 2]? = _
  rw [rW_get]; simp
 ·rw [e0]; rfl
 ·exact fun k hk => by simp at hk
 ·rw [es]; simp
 ·exact fun k hk => List.mem_append_right _ hk
 ·intro k hk
  have := lt k hk
  refine ⟨List.mem_append_left _ hk, fun hm => ?_⟩
  rw [es] at hm; simp at hm; omega
 ·show w.heap.size ≤ w.heap.size + 5; omega
 ·intro k hk
  rw [rW_size]
  rcases List.mem_append.1 hk with hk | hk
  ·have := lt k hk; omega
  ·rw [es] at hk; simp at hk; omega
theorem D.rou_take {rs : List Ru} {xs : List A} {k : Nat} (h : k < rs.length) (t : A) : (∃ r ∈ rs.take (k + 1), FolW xs r t) ↔ (∃ r ∈ rs.take k, FolW xs r t) ∨ FolW xs rs[k] t := by
 rw [List.take_succ_eq_append_getElem h]
 constructor
 ·rintro ⟨r, hr, hf⟩
  rcases List.mem_append.1 hr with hr | hr
  ·exact .inl ⟨r, hr, hf⟩
  ·rw [List.mem_singleton.1 hr] at hf; exact .inr hf
 ·rintro (⟨r, hr, hf⟩ | hf)
  ·exact ⟨r, List.mem_append_left _ hr, hf⟩
  ·exact ⟨_, List.mem_append_right _ (List.mem_singleton.2 rfl), hf⟩
structure D.Rcv where
 B : Nat
 sb : Nat
 mu : Nat
 mp : Nat
 nr : Nat
 B0 : Nat
 bS : Nat
 bN : Nat
 ch : Nat
 mc : Nat
 sd : Nat
 Fb : Nat → Prop
 fr : List Nat
 f2 : List Nat
 fs : List A
 rn : List Nat
 new : List A
structure D.RcvOk (x : Rcv) : Prop where
 sub : ∀ k ∈ x.fr, k ∈ x.f2
 mS : x.bS ∈ x.f2
 mN : x.bN ∈ x.f2
 mH : x.ch ∈ x.f2
 mM : x.mc ∈ x.f2
 nH : ¬ x.Fb x.ch
 nM : ¬ x.Fb x.mc
 df : x.bS ≠ x.ch ∧ x.bN ≠ x.ch ∧ x.mc ≠ x.ch ∧ x.mc ≠ x.bS ∧ x.mc ≠ x.bN
 fh : x.ch ∉ x.fr
 fm : x.mc ∉ x.fr
 lH : x.B0 ≤ x.ch
 lM : x.B0 ≤ x.mc
 b0 : x.B0 ≤ x.sb ∧ x.B0 ≤ x.mu ∧ x.B0 ≤ x.mp ∧ x.B0 ≤ x.B
 fok : ∀ f ∈ x.fs, FactOk f
 nok : ∀ f ∈ x.new, FactOk f
 nd : x.new.Nodup
 no : ∀ t ∈ x.new, t ∉ x.fs
 few : x.fs.length + x.new.length ≤ 300
 rfew : x.rn.length ≤ 300
structure D.RcvSt (x : Rcv) (w : World) (k : Nat) (wr : World) : Prop where
 bel : Below x.B0 w wr
 kep : ∀ k ∈ x.fr, wr.heap[k]? = w.heap[k]?
 cS : wr.heap[x.bS]? = some (.cells #[.pointer (some ⟨x.sb, 0, none⟩)] 80 (0, 0))
 cN : wr.heap[x.bN]? = some (.cells #[.int .i64 x.nr] 3 (0, 0))
 chn : ∃ vs bb, wr.heap[x.ch]? = some (.chan 301 ⟨vs⟩ true x.sd k false) ∧ FqK wr vs (x.new.drop k) bb ∧ ∀ k ∈ bb, k ∈ x.f2 ∧ x.Fb k
 sto : StoS x.B x.sb x.mu x.mp x.Fb x.f2 (x.fs ++ x.new.take k) (x.rn ++ List.replicate k x.nr) wr
 cam : ∃ n L f, MapF x.mc n L f wr ∧ n ≤ k ∧ (∀ s, s ∈ L ↔ ∃ t ∈ x.new.take k, t.name = s) ∧ ∀ s ∈ L, 1 ≤ f s ∧ f s ≤ (k : Int)
structure D.RcvMid (x : Rcv) (w : World) (k : Nat) (a : A) (c : Value) (ba : List Nat) (wr : World) : Prop where
 bel : Below x.B0 w wr
 kep : ∀ k ∈ x.fr, wr.heap[k]? = w.heap[k]?
 cS : wr.heap[x.bS]? = some (.cells #[.pointer (some ⟨x.sb, 0, none⟩)] 80 (0, 0))
 cN : wr.heap[x.bN]? = some (.cells #[.int .i64 x.nr] 3 (0, 0))
 chn : ∃ vs bb, wr.heap[x.ch]? = some (.chan 301 ⟨vs⟩ true x.sd (k + 1) false) ∧ FqK wr vs (x.new.drop (k + 1)) bb ∧ ∀ k ∈ bb, k ∈ x.f2 ∧ x.Fb k
 sto : StoS x.B x.sb x.mu x.mp x.Fb x.f2 (x.fs ++ x.new.take k) (x.rn ++ List.replicate k x.nr) wr
 cam : ∃ n L f, MapF x.mc n L f wr ∧ n ≤ k ∧ (∀ s, s ∈ L ↔ ∃ t ∈ x.new.take k, t.name = s) ∧ ∀ s ∈ L, 1 ≤ f s ∧ f s ≤ (k : Int)
 at' : atomK wr [.string a.name, c] a ba
 bas : ∀ k ∈ ba, k ∈ x.f2 ∧ x.Fb k
theorem D.RcvSt.recv {x : Rcv} (X : RcvOk x) {w : World} {k : Nat} {wr : World} (h : RcvSt x w k wr) (hk : k < x.new.length) :
  ∃ c vs ba, wr.heap[x.ch]? = some (.chan 301 ⟨.agg #[.string x.new[k].name, c] :: vs⟩ true x.sd k false) ∧ RcvMid x w k x.new[k] c ba (wr.setChan x.ch 301 ⟨vs⟩ true x.sd (k + 1) false) := by
 obtain ⟨vs0, bb, h1, h2, h3⟩ := h.chn
 rw [List.drop_eq_getElem_cons hk] at h2
 cases vs0 with
 | nil => exact h2.elim
 | cons v vs =>
  obtain ⟨c, b1, b2, rfl, rfl, h4, h5⟩ := h2
  have hlt := lt_of_block h1
  have hc := Go.Conc.heap_setChan wr x.ch 301 ⟨vs⟩ true x.sd (k + 1) false hlt
  have ko : ∀ j, j ≠ x.ch → (wr.setChan x.ch 301 ⟨vs⟩ true x.sd (k + 1) false).heap[j]? = wr.heap[j]? := fun j hj => by
   simp only [World.setChan]; rw [Array.getElem?_setIfInBounds_ne (by omega)]
  have hs : (wr.setChan x.ch 301 ⟨vs⟩ true x.sd (k + 1) false).heap.size = wr.heap.size := by simp [World.setChan]
  have nF : ∀ j, x.Fb j → j ≠ x.ch := fun j hj e => X.nH (e ▸ hj)
  obtain ⟨n, L, f, m1, m2⟩ := h.cam
  refine ⟨c, vs, b1, h1, ⟨?_, fun j hj => (ko j (fun e => X.fh (e ▸ hj))).trans (h.kep j hj), (ko _ X.df.1).trans h.cS, (ko _ X.df.2.1).trans h.cN, ⟨vs, b2, hc, h5.keep fun j hj => ko j (nF j (h3 j (List.mem_append_right _ hj)).2), fun j hj => h3 j (List.mem_append_right _ hj)⟩,
   h.sto.other X.mH X.nH (by rw [hs]; exact Nat.le_refl _) (fun j _ hj => ko j hj), ⟨n, L, f, m1.same (ko _ X.df.2.2.1), m2⟩, atomK_good.keep h4 fun j hj => ko j (nF j (h3 j (List.mem_append_left _ hj)).2), fun j hj => h3 j (List.mem_append_left _ hj)⟩⟩
  exact Go.Conc.below_setChan h.bel X.lH 301 ⟨vs⟩ true x.sd (k + 1) false
theorem D.RcvMid.later {x : Rcv} (X : RcvOk x) {w : World} {k : Nat} {a : A} {c : Value} {ba : List Nat} {wr w' : World} (h : RcvMid x w k a c ba wr) (hk : Below wr.heap.size wr w') : RcvMid x w k a c ba w' := by
 have lt := h.sto.lt
 have b0 := X.b0
 have k2 : ∀ j ∈ x.f2, w'.heap[j]? = wr.heap[j]? := fun j hj => hk.block j (lt.2.2 j hj)
 obtain ⟨vs, bb, h1, h2, h3⟩ := h.chn
 obtain ⟨n, L, f, m1, m2⟩ := h.cam
 exact ⟨h.bel.trans (hk.mono (by omega)), fun j hj => (k2 j (X.sub j hj)).trans (h.kep j hj), (k2 _ X.mS).trans h.cS, (k2 _ X.mN).trans h.cN, ⟨vs, bb, (k2 _ X.mH).trans h1, h2.keep fun j hj => k2 j (h3 j hj).1, h3⟩, h.sto.later hk, ⟨n, L, f, m1.same (k2 _ X.mM), m2⟩,
  atomK_good.keep h.at' fun j hj => k2 j (h.bas j hj).1, h.bas⟩
theorem D.RcvMid.done {x : Rcv} (X : RcvOk x) {w : World} {k : Nat} (hk : k < x.new.length) {c : Value} {ba : List Nat} {wr w5 w6 : World} (h : RcvMid x w k x.new[k] c ba wr) (hb : Below x.B0 wr w5) (hS : StoS x.B x.sb x.mu x.mp x.Fb x.f2 (x.fs ++ x.new.take k ++ [x.new[k]]) (x.rn ++ List.replicate k x.nr ++ [x.nr]) w5)
  (hf : ∀ j ∈ x.f2, w5.heap[j]? = wr.heap[j]?) {n : Nat} {L : List ByteArray} {f : ByteArray → Int} (hM : MapF x.mc (n + 1) (putNew L x.new[k].name) (fun t => if t = x.new[k].name then (if x.new[k].name ∈ L then f x.new[k].name else 0) + 1 else f t) w6) (hg : w5.grownBy w6 (some x.mc))
  (hn : n ≤ k) (hL : ∀ s, s ∈ L ↔ ∃ t ∈ x.new.take k, t.name = s) (hv : ∀ s ∈ L, 1 ≤ f s ∧ f s ≤ (k : Int)) : RcvSt x w (k + 1) w6 := by
 have lt5 := hS.lt
 have k6 : ∀ j, j < w5.heap.size → j ≠ x.mc → w6.heap[j]? = w5.heap[j]? := fun j h1 h2 => hg.block j h1 (fun e => h2 (by injection e))
 have nF : ∀ j, x.Fb j → j ≠ x.mc := fun j hj e => X.nM (e ▸ hj)
 have kk : ∀ j ∈ x.f2, j ≠ x.mc → w6.heap[j]? = wr.heap[j]? := fun j hj hne => (k6 j (lt5.2.2 j hj) hne).trans (hf j hj)
 obtain ⟨vs, bb, h1, h2, h3⟩ := h.chn
 have et : x.new.take (k + 1) = x.new.take k ++ [x.new[k]] := List.take_succ_eq_append_getElem hk
 refine ⟨?_, fun j hj => (kk j (X.sub j hj) (fun e => X.fm (e ▸ hj))).trans (h.kep j hj), (kk _ X.mS X.df.2.2.2.1.symm).trans h.cS, (kk _ X.mN X.df.2.2.2.2.symm).trans h.cN, ⟨vs, bb, (kk _ X.mH X.df.2.2.1.symm).trans h1, h2.keep fun j hj => kk j (h3 j hj).1 (nF j (h3 j hj).2), h3⟩, ?_, ⟨n + 1, _, _, hM, by omega, fun s => ?_, fun s hs => ?_⟩⟩
 ·exact (h.bel.trans hb).grown hg (by have := X.b0; omega) fun j e => by injection e with e; have := X.lM; omega
 ·rw [et, ← List.append_assoc, List.replicate_succ', ← List.append_assoc]
  exact hS.other X.mM X.nM hg.size (fun j h1 h2 => k6 j h1 h2)
 ·rw [putNew_mem, hL, et]
  constructor
  ·rintro (⟨t, ht, e⟩ | e)
   ·exact ⟨t, List.mem_append_left _ ht, e⟩
   ·exact ⟨x.new[k], List.mem_append_right _ (List.mem_singleton.2 rfl), e.symm⟩
  ·rintro ⟨t, ht, e⟩
   rcases List.mem_append.1 ht with ht | ht
   ·exact .inl ⟨t, ht, e⟩
   ·rw [List.mem_singleton.1 ht] at e; exact .inr e.symm
 ·show 1 ≤ (if s = x.new[k].name then _ else f s) ∧ (if s = x.new[k].name then _ else f s) ≤ ((k + 1 : Nat) : Int)
  split
  ·split
   ·rename_i hm
    have := hv _ hm
    omega
   ·omega
  ·rename_i hne
   rcases putNew_mem.1 hs with h | h
   ·have := hv s h; omega
   ·exact absurd h hne
def D.rcv (B sb mu mp nr B0 z mc sd : Nat) (Fb : Nat → Prop) (fr bb : List Nat) (fs : List A) (rn : List Nat) (new : List A) : Rcv :=
 ⟨B, sb, mu, mp, nr, B0, z, z + 1, z + 1 + 1, mc, sd, fun k => Fb k ∧ k ≠ z + 2 ∧ k ≠ mc, fr, fr ++ ([z, z + 1, z + 2, mc] ++ bb), fs, rn, new⟩
theorem D.rcv_ok {B sb mu mp nr B0 mc sd : Nat} {Fb : Nat → Prop} {fr bb bst fb : List Nat} {fs told : List A} {rn : List Nat} {w wr : World} (S : StoS B sb mu mp Fb fr fs rn w) (F : RndOn (rx w.heap.size sb nr) w.heap.size fs bst wr told fb) (hb : w.heap.size < wr.heap.size) (hmc : mc = wr.heap.size) (hB0 : B0 ≤ sb ∧ B0 ≤ mu ∧ B0 ≤ mp ∧ B0 ≤ B) (hfs : ∀ f ∈ fs, FactOk f) (hrl : rn.length ≤ 300) :
  RcvOk (rcv B sb mu mp nr B0 w.heap.size mc sd Fb fr bb fs rn (newL fs told)) := by
 have lt := S.lt
 have hn := newL_spec fs told
 have l2 : w.heap.size + 2 < wr.heap.size := F.lt _ (F.ow (w.heap.size + 2) (by show _ ∈ [_, _, _, _, _, _, _]; simp [rx]))
 refine ⟨fun k hk => List.mem_append_left _ hk, by simp [rcv], by simp [rcv], by simp [rcv], by simp [rcv], fun h => h.2.1 rfl, fun h => h.2.2 rfl, ?_, fun h => ?_, fun h => ?_, ?_, ?_, hB0, hfs, fun t ht => F.tok t ((hn.2 t).1 ht).1, hn.1, fun t ht => ((hn.2 t).1 ht).2, F.few, hrl⟩
 ·simp only [rcv]; omega
 ·have h1 : w.heap.size + 2 < w.heap.size := lt.2.2 _ h; omega
 ·have h1 : mc < w.heap.size := lt.2.2 _ h; omega
 ·simp only [rcv]; omega
 ·simp only [rcv]; omega
theorem D.rcv_start {B sb mu mp nr B0 sd : Nat} {Fb : Nat → Prop} {fr bb bst fb : List Nat} {fs told : List A} {rn : List Nat} {w wr : World} {vs : List Value} (hFb : ∀ x, B ≤ x → Fb x) (S : StoS B sb mu mp Fb fr fs rn w) (F : RndOn (rx w.heap.size sb nr) w.heap.size fs bst wr told fb) (hb : Below w.heap.size w wr) (hB0 : B0 ≤ sb ∧ B0 ≤ mu ∧ B0 ≤ mp ∧ B0 ≤ B)
  (h1 : wr.heap[w.heap.size + 1 + 1]? = some (.chan 301 ⟨vs⟩ false sd 0 false)) (h2 : FqK wr vs (newL fs told) bb) (h3 : ∀ k ∈ bb, k ∈ fb ∧ w.heap.size ≤ k ∧ k ∉ (rx w.heap.size sb nr).own) :
  RcvSt (rcv B sb mu mp nr B0 w.heap.size wr.heap.size sd Fb fr bb fs rn (newL fs told)) w 0 ((wr.setChan (w.heap.size + 1 + 1) 301 ⟨vs⟩ true sd 0 false).alloc (.map #[] 0)) := by
 have lt := S.lt
 have hs1 : (wr.setChan (w.heap.size + 1 + 1) 301 ⟨vs⟩ true sd 0 false).heap.size = wr.heap.size := by simp [World.setChan]
 have hH := Go.Conc.heap_setChan wr (w.heap.size + 1 + 1) 301 ⟨vs⟩ true sd 0 false (lt_of_block h1)
 have ko : ∀ j, j ≠ w.heap.size + 1 + 1 → (wr.setChan (w.heap.size + 1 + 1) 301 ⟨vs⟩ true sd 0 false).heap[j]? = wr.heap[j]? := fun j hj => by
  simp only [World.setChan]; rw [Array.getElem?_setIfInBounds_ne (by omega)]
 have kal : ∀ j, j < wr.heap.size → ((wr.setChan (w.heap.size + 1 + 1) 301 ⟨vs⟩ true sd 0 false).alloc (.map #[] 0)).heap[j]? = (wr.setChan (w.heap.size + 1 + 1) 301 ⟨vs⟩ true sd 0 false).heap[j]? := fun j hj => Below.heap_alloc _ _ _ (by rw [hs1]; exact hj)
 have own : ∀ j ∈ (rx w.heap.size sb nr).own, j < wr.heap.size := fun j hj => F.lt j (F.ow j hj)
 have o0 : w.heap.size < wr.heap.size := own _ (by show _ ∈ [_, _, _, _, _, _, _]; simp [rx])
 have o1 : w.heap.size + 1 < wr.heap.size := own _ (by show _ ∈ [_, _, _, _, _, _, _]; simp [rx])
 have o2 : w.heap.size + 2 < wr.heap.size := lt_of_block h1
 have hB2 : Below w.heap.size w ((wr.setChan (w.heap.size + 1 + 1) 301 ⟨vs⟩ true sd 0 false).alloc (.map #[] 0)) := (Go.Conc.below_setChan hb (by omega) 301 ⟨vs⟩ true sd 0 false).alloc (by rw [hs1]; exact hb.size) _
 have hz : ((wr.setChan (w.heap.size + 1 + 1) 301 ⟨vs⟩ true sd 0 false).alloc (.map #[] 0)).heap.size = wr.heap.size + 1 := by simp [hs1]
 refine ⟨hB2.mono (by show B0 ≤ _; omega), fun j hj => hB2.block j (lt.2.2 j hj), ?_, ?_, ⟨vs, bb, ?_, ?_, ?_⟩, ?_, ⟨0, [], fun _ => 0, ?_, Nat.le_refl _, fun s => by simp, fun s hs => by simp at hs⟩⟩
 ·show (World.alloc _ _).heap[w.heap.size]? = _
  rw [kal _ o0, ko _ (by omega)]; exact F.cS
 ·show (World.alloc _ _).heap[w.heap.size + 1]? = _
  rw [kal _ o1, ko _ (by omega)]; exact F.cN
 ·show (World.alloc _ _).heap[w.heap.size + 2]? = _
  rw [kal _ o2]; exact hH
 ·show FqK _ vs (List.drop 0 (newL fs told)) bb
  rw [List.drop_zero]
  refine h2.keep fun j hj => ?_
  have g := h3 j hj
  rw [kal _ (h2.lt j hj), ko _ (fun e => g.2.2 (by rw [e]; show _ ∈ [_, _, _, _, _, _, _]; simp [rx]))]
 ·intro j hj
  have g := h3 j hj
  have gl := h2.lt j hj
  refine ⟨by simp [rcv, hj], hFb j (by omega), fun e => g.2.2 (by rw [e]; show _ ∈ [_, _, _, _, _, _, _]; simp [rx]), ?_⟩
  show j ≠ wr.heap.size
  omega
 ·have h := (S.mono (Fb' := fun k => Fb k ∧ k ≠ w.heap.size + 2 ∧ k ≠ wr.heap.size) fun x hx hl => ⟨hx, by omega, by omega⟩).more hB2 ([w.heap.size, w.heap.size + 1, w.heap.size + 2, wr.heap.size] ++ bb) (fun x hx => by
   rw [hz]
   rcases List.mem_append.1 hx with hx | hx
   ·simp at hx; omega
   ·have := (h3 x hx).2.1; have := h2.lt x hx; omega)
  simpa [rcv] using h
 ·have := MapF.made (wr.setChan (w.heap.size + 1 + 1) 301 ⟨vs⟩ true sd 0 false) (fun _ => 0)
  rw [hs1] at this
  exact this
theorem D.perm_lift {α β : Type} (f : α → β) {ys xs : List β} (h : ys.Perm xs) : ∀ L : List α, xs = L.map f → ∃ L' : List α, L'.Perm L ∧ ys = L'.map f := by
 induction h with
 | nil => intro L e; exact ⟨L, List.Perm.refl _, e⟩
 | cons x _ ih =>
  intro L e
  cases L with
  | nil => simp at e
  | cons a L =>
   simp only [List.map_cons, List.cons.injEq] at e
   obtain ⟨L', h1, h2⟩ := ih L e.2
   exact ⟨a :: L', h1.cons a, by rw [List.map_cons, e.1, h2]⟩
 | swap x y l =>
  intro L e
  match L, e with
  | [], e => simp at e
  | [a], e => simp at e
  | a :: b :: L, e =>
   simp only [List.map_cons, List.cons.injEq] at e
   exact ⟨b :: a :: L, List.Perm.swap a b L, by rw [List.map_cons, List.map_cons, e.1, e.2.1, e.2.2]⟩
 | trans _ _ ih1 ih2 =>
  intro L e
  obtain ⟨L1, h1, h2⟩ := ih2 L e
  obtain ⟨L2, h3, h4⟩ := ih1 L1 h2
  exact ⟨L2, h3.trans h1, h4⟩
structure D.Fq where
 t : A
 c1 : Value
 ba : List Nat
def D.Fq.cs (x : Fq) : List Value := [.string x.t.name, x.c1]
def D.Fq.fc (x : Fq) : Fc := ⟨x.t, x.c1⟩
theorem D.chunks {L : List Value} {n : Nat} (h : L.length = n * 2) : L = (List.range n).flatMap fun j => (L.drop (j * 2)).take 2 := by
 have key : ∀ k, k ≤ n → L.take (k * 2) = (List.range k).flatMap fun j => (L.drop (j * 2)).take 2 := by
  intro k
  induction k with
  | zero => intro _; simp
  | succ k ih =>
   intro hk
   rw [List.range_succ, List.flatMap_append, ← ih (by omega), Nat.add_mul, Nat.one_mul]
   simp [List.take_add]
 have := key n (Nat.le_refl _)
 rwa [← h, List.take_length] at this
theorem D.rowed_fqs {w : World} {L : List Value} {xs : List A} {bs : List Nat} (h : Rowed 2 atomK w L xs bs) : ∃ zs : List Fq, zs.map (·.t) = xs ∧ zs.flatMap (·.cs) = L ∧ zs.flatMap (·.ba) = bs ∧ ∀ z ∈ zs, atomK w [.string z.t.name, z.c1] z.t z.ba := by
 obtain ⟨h1, h2, G, rfl, h3⟩ := h
 have hex : ∀ j : Fin xs.length, ∃ s, (L.drop (j.1 * 2)).take 2 = [.string xs[j.1].name, s] := fun j => by
  obtain ⟨s, e, _⟩ := h3 j.1 j.2
  exact ⟨s, e⟩
 let f : Fin xs.length → Fq := fun j => ⟨xs[j.1], Classical.choose (hex j), G j.1⟩
 have hf : ∀ j : Fin xs.length, (f j).cs = (L.drop (j.1 * 2)).take 2 := fun j => (Classical.choose_spec (hex j)).symm
 have hr : ∀ (γ : Type) (q : Nat → List γ), (List.finRange xs.length).flatMap (fun j => q j.1) = (List.range xs.length).flatMap q := fun γ q => by
  have e : List.range xs.length = (List.finRange xs.length).map (fun j => j.1) := by
   apply List.ext_getElem
   ·simp
   ·intro i h1 h2
    simp
  rw [e, List.flatMap_map]
 refine ⟨(List.finRange xs.length).map f, ?_, ?_, ?_, fun z hz => ?_⟩
 ·apply List.ext_getElem
  ·simp
  ·intro i h1 h2
   simp [f]
 ·rw [List.flatMap_map]
  rw [chunks h1]
  conv => rhs; rw [← hr]
  refine congrArg (fun g => List.flatMap g (List.finRange xs.length)) (funext fun j => ?_)
  exact hf j
 ·rw [List.flatMap_map]
  exact hr Nat G
 ·obtain ⟨j, _, rfl⟩ := List.mem_map.1 hz
  have := h3 j.1 j.2
  rw [← hf j] at this
  exact this
theorem D.fqs_rowed {w : World} : ∀ {zs : List Fq}, (∀ z ∈ zs, atomK w [.string z.t.name, z.c1] z.t z.ba) → Rowed 2 atomK w (zs.flatMap (·.cs)) (zs.map (·.t)) (zs.flatMap (·.ba))
 | [], _ => Rowed.nil
 | z :: zs, h => by
  have h1 : Rowed 2 atomK w z.cs [z.t] z.ba := Rowed.one_el atomK_ones (h z (List.mem_cons_self ..))
  exact h1.append (fqs_rowed fun y hy => h y (List.mem_cons_of_mem _ hy))
theorem D.fq_at (zs : List Fq) (k : Nat) (h : k < zs.length) : (zs.flatMap (·.cs))[k * 2]? = some (.string zs[k].t.name) ∧ (zs.flatMap (·.cs))[k * 2 + 1]? = some zs[k].c1 := by
 induction zs generalizing k with
 | nil => simp at h
 | cons z zs ih =>
  cases k with
  | zero => simp [Fq.cs]
  | succ k =>
   have := ih k (by simpa using h)
   have e1 : (k + 1) * 2 = k * 2 + 2 := by omega
   have e2 : (k + 1) * 2 + 1 = k * 2 + 1 + 2 := by omega
   rw [e1, show k * 2 + 2 + 1 = k * 2 + 1 + 2 by omega]
   simp only [List.flatMap_cons, Fq.cs, List.cons_append, List.nil_append, List.getElem?_cons_succ, List.getElem_cons_succ]
   exact this
theorem D.fq_len (zs : List Fq) : (zs.flatMap (·.cs)).length = zs.length * 2 := by
 induction zs with
 | nil => rfl
 | cons z zs ih => simp only [List.flatMap_cons, List.length_append, ih, List.length_cons]; simp [Fq.cs]; omega
theorem sortColl_any (xs : List A) (v : Value) (L : List Value) (bs : List Nat) (base : Nat) (w : World) (C : Coll 2 atomK base 68 w v L xs bs) (hsz : xs.length < 4611686018427387904) :
  Calls Tryz.prog 64 #[v, .func (.func 65) #[] #[]] w fun e w' => e = .returned (.tuple #[]) ∧
   ∃ ys L' bs', ys.Perm xs ∧ ys.Pairwise (fun a b => ¬ cmpA b a < 0) ∧ bs'.Perm bs ∧ Coll 2 atomK base 68 w' v L' ys bs' ∧ AllBut (fun x => v.ownBlock = some x) w w' := by
 obtain ⟨zs, e1, e2, e3, hz⟩ := rowed_fqs C.row
 obtain ⟨hlen, hown⟩ := C.own
 rcases hown with ⟨rfl, hL⟩ | ⟨g, cap, cur, rfl, hg, hh, hc1, hc2, hc3, hc4⟩
 ·have hx : xs = [] := List.length_eq_zero_iff.1 hL
  subst hx
  refine (Go.Proofs.AnyF.slices_SortFunc_none Tryz.sortA none 0 (.func (.func 65) #[] #[]) w).mono ?_
  rintro e w' ⟨rfl, rfl⟩
  exact ⟨rfl, [], L, bs, List.Perm.refl _, List.Pairwise.nil, List.Perm.refl _, C, AllBut.refl _ _⟩
 ·have hgl : g < w.heap.size := lt_of_block hh
  have hzl : zs.length = xs.length := by rw [← e1]; simp
  have hgz : ∀ z ∈ zs, g ∉ z.ba := fun z hzm hm => C.far g (by rw [← e3]; exact List.mem_flatMap.2 ⟨z, hzm, hm⟩) rfl
  have hcs : ∀ q, q < xs.length * 2 → w.cell? ⟨g, q, none⟩ = L[q]? := fun q hq => by
   rw [cell_of_blk hh, ← hc4, List.getElem?_take_of_lt hq, Array.getElem?_toList]
  have hm := sortAtoms_any g cap (zs.map Fq.fc) w hgl (fun k x hk => by
   rw [List.getElem?_map] at hk
   obtain ⟨z, hzk, rfl⟩ := Option.map_eq_some_iff.1 hk
   obtain ⟨hkl, rfl⟩ := List.getElem?_eq_some_iff.1 hzk
   have := fq_at zs k hkl
   rw [e2] at this
   exact ⟨(hcs _ (by omega)).trans this.1, (hcs _ (by omega)).trans this.2⟩) (fun q => frozen_of_blk hh) (fun x hx => by
   obtain ⟨z, hzm, rfl⟩ := List.mem_map.1 hx
   exact ⟨z.ba, hz z hzm, hgz z hzm⟩) (by simp; omega)
  rw [List.length_map, hzl] at hm
  refine hm.mono ?_
  rintro e w' ⟨rfl, ys, hp, hs, hcy, hbut, hshape⟩
  obtain ⟨zs', hp', rfl⟩ := perm_lift Fq.fc hp zs rfl
  obtain ⟨cur', hh', hsz'⟩ := hshape cur _ hh
  have hl' : zs'.length = xs.length := by rw [hp'.length_eq, hzl]
  have hz' : ∀ z ∈ zs', atomK w' [.string z.t.name, z.c1] z.t z.ba := fun z hzm => by
   have h1 := hz z (hp'.mem_iff.1 hzm)
   exact atomK_good.keep h1 fun b hb => hbut.block b (atomK_good.lt h1 b hb) (fun e => hgz z (hp'.mem_iff.1 hzm) (e ▸ hb))
  refine ⟨rfl, zs'.map (·.t), zs'.flatMap (·.cs), zs'.flatMap (·.ba), by rw [← e1]; exact hp'.map _, ?_, by rw [← e3]; exact hp'.flatMap_right _, ⟨⟨?_, .inr ⟨g, cap, cur', ?_, hg, hh', ?_, hc2, by rw [hsz']; exact hc3, ?_⟩⟩, fqs_rowed hz', fun b hb e => ?_⟩, ?_⟩
  ·rw [List.pairwise_map] at hs ⊢
   exact hs
  ·rw [fq_len]; simp
  ·rw [List.length_map, hl']
  ·rw [List.length_map, hl']; exact hc1
  ·apply List.ext_getElem?
   intro q
   by_cases hq : q < xs.length * 2
   ·rw [List.getElem?_take_of_lt (by rw [List.length_map, hl']; exact hq), Array.getElem?_toList, ← cell_of_blk hh']
    have hk : q / 2 < zs'.length := by omega
    have h1 := hcy (q / 2) (zs'[q / 2].fc) (by rw [List.getElem?_map, List.getElem?_eq_getElem hk]; rfl)
    have h2 := fq_at zs' (q / 2) hk
    rcases (show q = q / 2 * 2 ∨ q = q / 2 * 2 + 1 by omega) with e | e
    ·rw [e]
     have e' : q / 2 * 2 / 2 = q / 2 := by omega
     simp only [e'] at *
     exact h1.1.trans h2.1.symm
    ·rw [e]
     have e' : (q / 2 * 2 + 1) / 2 = q / 2 := by omega
     simp only [e'] at *
     exact h1.2.trans h2.2.symm
   ·rw [List.getElem?_eq_none (by simp; omega), List.getElem?_eq_none (by rw [fq_len]; omega)]
  ·obtain ⟨z, hzm, hb⟩ := List.mem_flatMap.1 hb
   injection e with e
   have e' : g = b := e
   exact hgz z (hp'.mem_iff.1 hzm) (e' ▸ hb)
  ·exact ⟨hbut.os, hbut.tape, hbut.output, hbut.size, fun k hk hne => hbut.block k hk fun e => hne (by rw [e]; rfl)⟩
theorem D.asc_sorted {ts : List A} (hf : ∀ t ∈ ts, FactOk t) (hn : ts.Nodup) (hs : ts.Pairwise (fun a b => ¬ cmpA b a < 0)) : asc ts = true := by
 rw [asc_iff]
 intro i hi
 have h1 := List.pairwise_iff_getElem.1 hs i (i + 1) (by omega) hi (by omega)
 have h2 := List.pairwise_iff_getElem.1 hn i (i + 1) (by omega) hi (by omega)
 by_cases h0 : cmpA ts[i] ts[i + 1] = 0
 ·exact absurd (gr_eq (hf _ (List.getElem_mem _)).gr (hf _ (List.getElem_mem _)).gr h0) h2
 ·rw [cmpA_lex] at h0 h1 ⊢
  have h4 := cmpA_is.anti (keyA ts[i + 1]) (keyA ts[i])
  omega
end Go.Proofs.YtiidmgchadagbaaGreatDoor
namespace Go.Proofs.YtiidmgchadagbaaGreatDoor
open Go.RowKit D
attribute [local go_sem ↓] Go.wp_at_zero Go.wp_at_succ
theorem D.mk_chan (w : World) : (Instr.makeChan 158 (.int .i64 301)).run Tryz.prog w = .ok (.chan (some w.heap.size)) (w.alloc (.chan 301 #[] false 0 0 false)) := by
 obtain ⟨i, hi, hb⟩ : ∃ i, Tryz.prog.info? 68 = some i ∧ i.bytes = 40 := by
  obtain ⟨i, hi, _, _, h2⟩ := info_parts infoAtm
  exact ⟨i, hi, h2⟩
 simpa using Go.Conc.run_makeChan (P := Tryz.prog) (w := w) Tryz.underlying158 hi .i64 301 (by omega) (by rw [hb]; omega)
def D.RndPost (B sb mu mp : Nat) (Fb : Nat → Prop) (fr : List Nat) (fs : List A) (rn : List Nat) (next : List Ru) (nr B0 : Nat) (w : World) (e : Ending) (w' : World) : Prop :=
 Below B0 w w' ∧ ((∃ new mc n L f, e = .returned (.tuple #[.map (some mc), .bool true]) ∧ new.Nodup ∧ (∀ t ∈ new, FactOk t) ∧ (∀ t, t ∈ new ↔ t ∉ fs ∧ ∃ q ∈ next, FolW fs q t) ∧ fs.length + new.length ≤ 300 ∧
   StoS B sb mu mp Fb fr (fs ++ new) (rn ++ List.replicate new.length nr) w' ∧ (∀ x ∈ fr, w'.heap[x]? = w.heap[x]?) ∧ MapF mc n L f w' ∧ w.heap.size ≤ mc ∧ (∀ s, s ∈ L ↔ ∃ t ∈ new, t.name = s) ∧ ∀ s ∈ L, 1 ≤ f s ∧ f s ≤ 1000000) ∨
  (e = .returned (.tuple #[.map none, .bool false]) ∧ ∃ new : List A, new.Nodup ∧ (∀ t ∈ new, t ∉ fs ∧ ∃ q ∈ next, FolW fs q t) ∧ 300 < fs.length + new.length))
structure D.RouSt (x : RBx) (fs : List A) (bst : List Nat) (next : List Ru) (w : World) (k : Nat) (wr : World) : Prop where
 ex : ∃ told fb, RndOn x w.heap.size fs bst wr told fb ∧ ∀ t, t ∈ told ↔ ∃ r ∈ next.take k, FolW fs r t
 bel : Below w.heap.size w wr
theorem rcv_put {x : Rcv} (X : RcvOk x) {w : World} {k : Nat} (hk : k < x.new.length) {c : Value} {ba : List Nat} {wr : World} (h : RcvMid x w k x.new[k] c ba wr) :
  Calls Tryz.prog 75 #[.pointer (some ⟨x.sb, 0, none⟩), .agg #[.string x.new[k].name, c], .int .i64 x.nr] (wr.alloc (.cells #[.string x.new[k].name, c] 68)) fun e w5 => e = .returned (.tuple #[]) ∧ Below x.B0 wr w5 ∧
   StoS x.B x.sb x.mu x.mp x.Fb x.f2 (x.fs ++ x.new.take k ++ [x.new[k]]) (x.rn ++ List.replicate k x.nr ++ [x.nr]) w5 ∧ (∀ j ∈ x.f2, w5.heap[j]? = wr.heap[j]?) ∧ w5.heap[wr.heap.size]? = some (.cells #[.string x.new[k].name, c] 68 (0, 0)) := by
 have hA : Below wr.heap.size wr (wr.alloc (.cells #[.string x.new[k].name, c] 68)) := (Below.refl _ _).alloc (Nat.le_refl _) _
 have h1 := h.later X hA
 have hs := h.sto.more hA [wr.heap.size] (fun j hj => by simp at hj; subst hj; exact ⟨Nat.le_refl _, by simp⟩)
 have hlt := h.sto.lt
 have hfew := X.few
 have hmem : x.new[k] ∈ x.new := List.getElem_mem hk
 have hnd := X.nd
 refine (put_sto (fr := x.f2 ++ [wr.heap.size]) hs h1.at' (fun j hj => List.mem_append_left _ (h1.bas j hj).1) (fun j hj => (h1.bas j hj).2) (fun f hf => ?_) (X.nok _ hmem) (fun hm => ?_) ?_ ?_ x.nr x.B0 X.b0).mono ?_
 ·rcases List.mem_append.1 hf with hf | hf
  ·exact X.fok f hf
  ·exact X.nok f (List.mem_of_mem_take hf)
 ·rcases List.mem_append.1 hm with hm | hm
  ·exact X.no _ hmem hm
  ·obtain ⟨i, hi, e⟩ := List.getElem_of_mem hm
   rw [List.length_take] at hi
   rw [List.getElem_take] at e
   have := (List.getElem_inj hnd).1 e
   omega
 ·rw [List.length_append, List.length_take]; omega
 ·have := X.rfew
  rw [List.length_append, List.length_replicate]; omega
 ·rintro e w5 ⟨rfl, hb, hS, hf⟩
  refine ⟨rfl, ?_, hS.sub fun j hj => List.mem_append_left _ hj, fun j hj => (hf j (List.mem_append_left _ hj)).trans (hA.block j (hlt.2.2 j hj)), (hf _ (List.mem_append_right _ (List.mem_singleton.2 rfl))).trans (heap_alloc_new _ _)⟩
  have := X.b0
  exact (hA.mono (by omega)).trans hb
theorem round_any (B sb mu mp : Nat) (Fb : Nat → Prop) (hFb : ∀ x, B ≤ x → Fb x) (fr : List Nat) (fs : List A) (rn : List Nat) (next : List Ru) (v : Value) (bn : List Nat) (nr B0 : Nat) (w : World) (S : StoS B sb mu mp Fb fr fs rn w) (h : rulesK w [v] next bn)
  (hfs : ∀ f ∈ fs, FactOk f) (hfl : fs.length ≤ 300) (hrl : rn.length ≤ 300) (hR : ∀ r ∈ next, RuleFol r) (hB0 : B0 ≤ sb ∧ B0 ≤ mu ∧ B0 ≤ mp ∧ B0 ≤ B) :
  Calls Tryz.prog 71 #[.pointer (some ⟨sb, 0, none⟩), v, .int .i64 nr] w (RndPost B sb mu mp Fb fr fs rn next nr B0 w) := by
 obtain ⟨Ad, cap, rfl, hlc, hlm⟩ := sliceK_form h
 have hlmm := nat_ge_max (Nat.le_trans hlc hlm)
 have HH := η h
 have HS := η S
 clear h S hlc hlm
 have hmm := @run_makeMap Tryz.prog
 have hmc := mk_chan
 go_enter Tryz.func71, Tryz.ntmps71
 go_wp2
 obtain ⟨bst, hst⟩ := HS.out.view
 have HI0 : Hid (RouSt (rx w.heap.size sb nr) fs bst next w 0 (rW w sb nr)) := η ⟨⟨[], _, rnd_start w sb nr fs rn bst hst hfl, fun t => by simp⟩, rW_below w sb nr⟩
 have eW : (((((((w.alloc (.cells #[.pointer (some ⟨sb, 0, none⟩)] 80)).alloc (.cells #[.int .i64 nr] 3)).alloc (.chan 301 #[] false 0 0 false)).alloc (.cells #[.chan (some (w.heap.size + 1 + 1))] 158)).alloc (.map #[] 0)).alloc (.cells #[.map (some (w.heap.size + 1 + 1 + 1 + 1))] 85)).alloc (.cells #[.bool true] 4)) = rW w sb nr := rfl
 rw [eW]
 have HBS : Hid (∀ x ∈ bst, x < w.heap.size) := η hst.lt
 generalize rW w sb nr = W at *
 clear eW hst
 go_loopw [19] (fun i wr => ∃ k : Nat, k ≤ next.length ∧ i = .int .i64 k ∧ RouSt (rx w.heap.size sb nr) fs bst next w k wr) (fun i _ => next.length - (intOf i).toNat)
 case atStart => exact ⟨0, Nat.zero_le _, rfl, HI0.out⟩
 case round =>
  obtain ⟨k, hk, rfl, hI⟩ := hrel
  clear HI0
  by_cases hlt : k < next.length
  ·have hk0 : (0 : Int) ≤ (k : Int) := by omega
   have hk1 : (k : Int) < (next.length : Int) := by omega
   obtain ⟨⟨told, fb, hF, htold⟩, hbel⟩ := hI
   obtain ⟨bq, oq, Ae, ce, Af, cf, bk, rfl, _, f0, f1, f2, hrk, hsub⟩ := rules_el (rulesK_good.below HH.out hbel) hlt
   have hA : Below wr.heap.size wr (wr.alloc (.cells #[.string next[k].head.name, .slice Ae next[k].head.args.length ce, .slice Af next[k].body.length cf] 71)) := (Below.refl _ _).alloc (Nat.le_refl _) _
   have hFA := hF.keep (fun x hx => hA.block x (hF.lt x hx)) hA.size
   obtain ⟨rn', hS'⟩ := hFA.st
   have hcall := follow_any sb fs rn' bst next[k] (.string next[k].head.name) (.slice Ae next[k].head.args.length ce) (.slice Af next[k].body.length cf) bk (tlr_round (rx w.heap.size sb nr) w.heap.size fs bst hfs) told fb _ hS' hfs (by omega) (ruleK_good.below hrk hA) (hR _ (List.getElem_mem hlt)) hFA (fun x hx e => (hF.sto x hx).2 (by rcases e with rfl | rfl | rfl <;> simp [RBx.own])) (fun x hx e => by
    have h1 := rulesK_good.lt HH.out x (hsub x hx)
    rcases e with rfl | rfl | rfl <;> (simp only [rx] at h1; omega))
   have HN : Hid (∀ w9 ts fb' more, RndSt (rx w.heap.size sb nr) w.heap.size fs bst more w9 (told ++ ts) fb' → AllBut (rx w.heap.size sb nr).K (wr.alloc (.cells #[.string next[k].head.name, .slice Ae next[k].head.args.length ce, .slice Af next[k].body.length cf] 71)) w9 → (∀ t ∈ ts, FolW fs next[k] t) → (more = true → ∀ t, FolW fs next[k] t → t ∈ ts) → (more = false → goN fs (told ++ ts) = false) →
     w9.cell? ⟨w.heap.size + 1 + 1 + 1 + 1 + 1 + 1, 0, none⟩ = some (.bool more) ∧ (more = true → RouSt (rx w.heap.size sb nr) fs bst next w (k + 1) w9) ∧ (more = false → RndPost B sb mu mp Fb fr fs rn next nr B0 w (.returned (.tuple #[.map none, .bool false])) w9)) := η fun w9 ts fb' more q1 q3 q4 q5 q6 => by
    have hz := hbel.size
    have hB9 : Below w.heap.size w w9 := ⟨q3.os.trans (hA.os.trans hbel.os), q3.tape.trans (hA.tape.trans hbel.tape), q3.output.trans (hA.output.trans hbel.output), Nat.le_trans hz (Nat.le_trans hA.size q3.size), fun x hx => (q3.block x (by have := hA.size; omega) (fun e => by rcases e with e | e | e <;> (simp only [rx] at e; omega))).trans ((hA.block x (by omega)).trans (hbel.block x hx))⟩
    refine ⟨?_, fun hm => ?_, fun hm => ?_⟩
    ·cases more with
     | true => exact cell_of_blk (RndOn.cF q1)
     | false => exact cell_of_blk (RndOff.cF q1)
    ·subst hm
     refine ⟨⟨told ++ ts, fb', q1, fun t => ?_⟩, hB9⟩
     rw [List.mem_append, htold, rou_take hlt]
     exact or_congr Iff.rfl ⟨q4 t, q5 rfl t⟩
    ·subst hm
     have hg := goN_false (q6 rfl)
     have hn := newL_spec fs (told ++ ts)
     refine ⟨hB9.mono (by have := HS.out.lt; omega), .inr ⟨rfl, newL fs (told ++ ts), hn.1, fun t ht => ?_, hg⟩⟩
     obtain ⟨h1, h2⟩ := (hn.2 t).1 ht
     refine ⟨h2, ?_⟩
     rcases List.mem_append.1 h1 with h1 | h1
     ·obtain ⟨r, hr, hf⟩ := (htold t).1 h1
      exact ⟨r, List.mem_of_mem_take hr, hf⟩
     ·exact ⟨next[k], List.getElem_mem hlt, q4 t h1⟩
   have y0 : wr.cell? ⟨w.heap.size, 0, none⟩ = some (.pointer (some ⟨sb, 0, none⟩)) := cell_of_blk hF.cS
   have hz0 : w.heap.size < wr.heap.size := hF.lt _ (hF.ow _ (by show _ ∈ [_, _, _, _, _, _, _]; simp [rx]))
   have HLT := η hlt
   clear hF htold hFA hS' hbel hA hrk hsub hk
   generalize next[k] = r at *
   obtain ⟨⟨rn0, ra⟩, rb⟩ := r
   dsimp only at *
   clear hlt
   unfold rx RBx.clb at hcall
   go_wp2_with fail
   refine hcall.mono ?_
   rintro e w9 ⟨rfl, ts, fb', more, q1, q2, q3, q4, q5, q6⟩
   obtain ⟨y1, hI9, hP9⟩ := HN.out w9 ts fb' more q1 q3 q4 q5 q6
   have HI9 := η hI9
   have HP9 := η hP9
   clear hcall HN q1 q2 q3 q4 q5 q6 hI9 hP9
   cases more with
   | false =>
    have HP := η (HP9.out rfl)
    clear HI9 HP9
    go_wp2
    go_ret2
    exact HP.out
   | true =>
    have HI := η (HI9.out rfl)
    clear HI9 HP9
    go_wp2
    go_roundw
    case rel => exact ⟨k + 1, HLT.out, by go_num, HI.out⟩
    case measure => have := HLT.out; simp [intOf]; omega
  ·have he : k = next.length := by omega
   have hk1 : ¬ (k : Int) < (next.length : Int) := by omega
   obtain ⟨⟨told, fb, hF, htold⟩, hbel⟩ := hI
   rw [List.take_of_length_le (Nat.le_of_eq he.symm)] at htold
   obtain ⟨vs, sd, bb, hch, hfq, hbb⟩ := hF.cH
   have hz1 : w.heap.size < wr.heap.size := hF.lt _ (hF.ow _ (by show _ ∈ [_, _, _, _, _, _, _]; simp [rx]))
   have y0 : wr.cell? ⟨w.heap.size + 1 + 1 + 1, 0, none⟩ = some (.chan (some (w.heap.size + 1 + 1))) := cell_of_blk hF.cC
   have HF0 : Hid (∀ t, t ∈ newL fs told ↔ t ∉ fs ∧ ∃ q ∈ next, FolW fs q t) := η fun t => by rw [(newL_spec fs told).2, htold]; exact And.comm
   have HX := η (rcv_ok (sd := sd) (B0 := B0) (bb := bb) HS.out hF hz1 rfl hB0 hfs hrl)
   have HI := η (rcv_start (sd := sd) hFb HS.out hF hbel hB0 hch hfq hbb)
   have hcl : ∀ ats ty, (Builtin.close_ ats ty #[.chan (some (w.heap.size + 1 + 1))]).run Tryz.prog wr = .ok (.tuple #[]) (wr.setChan (w.heap.size + 1 + 1) 301 ⟨vs⟩ true sd 0 false) := fun ats ty => run_close_open ats ty hch
   have hsz : (wr.setChan (w.heap.size + 1 + 1) 301 ⟨vs⟩ true sd 0 false).heap.size = wr.heap.size := by simp [World.setChan]
   have hmm1 := hmm 85 (wr.setChan (w.heap.size + 1 + 1) 301 ⟨vs⟩ true sd 0 false)
   rw [hsz] at hmm1
   have hl3 : w.heap.size + 1 + 1 + 1 < wr.heap.size := lt_of_cell y0
   have y1 : ((wr.setChan (w.heap.size + 1 + 1) 301 ⟨vs⟩ true sd 0 false).alloc (.map #[] 0)).cell? ⟨w.heap.size + 1 + 1 + 1, 0, none⟩ = some (.chan (some (w.heap.size + 1 + 1))) := by
    refine (World.cell?_of_block ?_).trans y0
    show (World.alloc _ _).heap[w.heap.size + 1 + 1 + 1]? = _
    rw [Below.heap_alloc _ _ _ (by rw [hsz]; exact hl3)]
    simp only [World.setChan]
    rw [Array.getElem?_setIfInBounds_ne (by omega)]
   have hbelz : w.heap.size ≤ wr.heap.size := hbel.size
   clear hF htold hfq hbb hch hmm hmc hbel HBS
   go_wp2
   clear hcl y0 hsz hl3
   generalize (wr.setChan (w.heap.size + 1 + 1) 301 ⟨vs⟩ true sd 0 false).alloc (.map #[] 0) = W2 at *
   clear hmm1
   have hMC := η hbelz
   generalize wr.heap.size = mc at *
   clear hz1
   go_loopg [34] (newL fs told).length (fun gg _ wr2 => ∃ kk : Nat, kk ≤ (newL fs told).length ∧ (newL fs told).length - kk ≤ gg ∧ Aside (RcvSt (rcv B sb mu mp nr B0 w.heap.size mc sd Fb fr bb fs rn (newL fs told)) w kk wr2))
   case atStart => exact ⟨0, Nat.zero_le _, by omega, HI.out⟩
   case round =>
    obtain ⟨kk, hkk, hg, hI⟩ := hrel
    clear HI y1
    by_cases hlt : kk < (newL fs told).length
    ·obtain ⟨c, vs2, ba, hch, hM⟩ := RcvSt.recv HX.out hI.out hlt
     have hch2 : wr.heap[w.heap.size + 1 + 1]? = some (.chan 301 ⟨.agg #[.string (newL fs told)[kk].name, c] :: vs2⟩ true sd kk false) := hch
     have hM2 : RcvMid (rcv B sb mu mp nr B0 w.heap.size mc sd Fb fr bb fs rn (newL fs told)) w kk (newL fs told)[kk] c ba (wr.setChan (w.heap.size + 1 + 1) 301 ⟨vs2⟩ true sd (kk + 1) false) := hM
     have hex : (⟨.agg #[.string (newL fs told)[kk].name, c] :: vs2⟩ : Array Value).extract 1 (⟨.agg #[.string (newL fs told)[kk].name, c] :: vs2⟩ : Array Value).size = ⟨vs2⟩ := by simp
     clear hM hch
     go_upto_region 14 with fail
     refine inR_region ?_
     refine inR_recv (i := 0) (w' := wr) (ok := true) (z := .agg #[.string ⟨#[]⟩, .slice none 0 0]) (by rfl) (by rfl) (by go_simp; rfl) hch2 (by simp) ?_
     rw [hex]
     refine inR_value (i := 1) (by rfl) (by rfl) (v := .bool true) (w' := wr.setChan (w.heap.size + 1 + 1) 301 ⟨vs2⟩ true sd (kk + 1) false) (by simp [Go.Conc.got]; go_simp) ?_
     refine inR_ops (show Exit.then _ _ Exit.normal _ _ from ?_)
     generalize wr.setChan (w.heap.size + 1 + 1) 301 ⟨vs2⟩ true sd (kk + 1) false = W3 at *
     clear hex hch2
     obtain ⟨Ae, ce, _, rfl⟩ := atom_cells2 hM2.at'
     have z0 : W3.cell? ⟨w.heap.size, 0, none⟩ = some (.pointer (some ⟨sb, 0, none⟩)) := cell_of_blk hM2.cS
     have z1 : W3.cell? ⟨w.heap.size + 1, 0, none⟩ = some (.int .i64 nr) := cell_of_blk hM2.cN
     have lz0 := lt_of_cell z0
     have lz1 := lt_of_cell z1
     have hcall := rcv_put HX.out hlt hM2
     have HM2 := η hM2
     clear hM2
     simp only [Go.Conc.got, if_true]
     go_wp2_with fail
     refine hcall.mono ?_
     rintro e w5 ⟨rfl, q1, q2, q3, q4⟩
     obtain ⟨n, L, f, m1, m2, m3, m4⟩ := HM2.out.cam
     have HM5 : Hid (MapF mc n L f w5) := η (m1.same (q3 _ HX.out.mM))
     obtain ⟨v, hv⟩ : ∃ v, (if (newL fs told)[kk].name ∈ L then f (newL fs told)[kk].name else 0) = v := ⟨_, rfl⟩
     have hfew := HX.out.few
     have hk3 : kk ≤ 300 := by have : fs.length + (newL fs told).length ≤ 300 := hfew; omega
     have hv0 : 0 ≤ v := by
      rw [← hv]
      split
      ·rename_i hm; have := m4 _ hm; omega
      ·omega
     have hv1 : v ≤ 300 := by
      rw [← hv]
      split
      ·rename_i hm; have := m4 _ hm; omega
      ·omega
     have HDN : Hid (∀ w6, MapF mc (n + 1) (putNew L (newL fs told)[kk].name) (fun t => if t = (newL fs told)[kk].name then v + 1 else f t) w6 → w5.grownBy w6 (some mc) → RcvSt (rcv B sb mu mp nr B0 w.heap.size mc sd Fb fr bb fs rn (newL fs told)) w (kk + 1) w6) := η fun w6 h6 hg6 => RcvMid.done HX.out hlt HM2.out q1 q2 q3 (by rw [← hv] at h6; exact h6) hg6 m2 m3 m4
     have HS5 : Hid ((newL fs told)[kk].name.size ≤ maxLen) := η (by obtain ⟨_, _, hs, _⟩ := HM2.out.at'; exact hs)
     have z5 : w5.cell? ⟨W3.heap.size, 0, none⟩ = some (.string (newL fs told)[kk].name) := cell_of_blk q4
     have lz5 := lt_of_cell z5
     have HV := η hv
     have HLT := η hlt
     have hnl : n < maxLen := by unfold maxLen; omega
     clear q1 q2 q3 q4 m1 m2 m3 m4 hcall HM2 hfew hv z0 z1 lz0 lz1 hI
     generalize (newL fs told)[kk] = a at *
     clear hlt
     go_wp2_with (first | (at_lookup; refine wpList_mapf _ rfl _ _ _ rfl Tryz.underlying85 _ _ L _ rfl HM5.out a.name rfl HS5.out v HV.out ?_) | (at_mapUpdate; refine wpList_mapf_put _ rfl _ _ _ _ rfl Tryz.underlying85 _ _ L _ rfl HM5.out a.name rfl HS5.out (v + 1) rfl hnl (by omega) ?_; intro w6 hM6 hg6))
     have HR6 := η (HDN.out w6 hM6 hg6)
     clear hM6 hg6 HDN
     go_roundg ((newL fs told).length - (kk + 1))
     case measure => have := HLT.out; omega
     case rel => exact ⟨kk + 1, HLT.out, Nat.le_refl _, HR6.out⟩
    ·have hkl : kk = (newL fs told).length := by omega
     obtain ⟨vs3, b3, hch, hfq, _⟩ := hI.out.chn
     have hfq3 : FqK wr vs3 ((newL fs told).drop kk) b3 := hfq
     rw [List.drop_of_length_le (by omega)] at hfq3
     have hvs : vs3 = [] := by
      cases vs3 with
      | nil => rfl
      | cons v vs => exact hfq3.elim
     subst hvs
     have hch2 : wr.heap[w.heap.size + 1 + 1]? = some (.chan 301 #[] true sd kk false) := hch
     have HP : Hid (RndPost B sb mu mp Fb fr fs rn next nr B0 w (.returned (.tuple #[.map (some mc), .bool true])) wr) := η (by
      have h := hI.out
      have hX := HX.out
      have hn := newL_spec fs told
      obtain ⟨n, L, f, m1, m2, m3, m4⟩ := h.cam
      have et : (newL fs told).take kk = newL fs told := List.take_of_length_le (by omega)
      have hs : StoS B sb mu mp (fun k => Fb k ∧ k ≠ w.heap.size + 2 ∧ k ≠ mc) (fr ++ ([w.heap.size, w.heap.size + 1, w.heap.size + 2, mc] ++ bb)) (fs ++ (newL fs told).take kk) (rn ++ List.replicate kk nr) wr := h.sto
      have hm3 : ∀ s, s ∈ L ↔ ∃ t ∈ (newL fs told).take kk, t.name = s := m3
      have hfew : fs.length + (newL fs told).length ≤ 300 := hX.few
      rw [et] at hs hm3
      rw [hkl] at hs
      refine ⟨h.bel, .inl ⟨newL fs told, mc, n, L, f, rfl, hn.1, fun t ht => hX.nok t ht, HF0.out, hfew, (hs.mono fun x hx _ => hx.1).sub fun x hx => List.mem_append_left _ hx, h.kep, m1, hMC.out, hm3, fun s hs' => ?_⟩⟩
      have := m4 s hs'
      omega)
     clear hI hfq hfq3 hch HX HF0
     go_upto_region 14 with fail
     refine inR_region ?_
     refine inR_shut (i := 0) (w' := wr) (ok := true) (z := .agg #[.string ⟨#[]⟩, .slice none 0 0]) (by rfl) (by rfl) (by go_simp; rfl) hch2 ?_
     refine inR_value (i := 1) (by rfl) (by rfl) (v := .bool false) (w' := wr) (by simp [Go.Conc.got]; go_simp) ?_
     refine inR_ops (show Exit.then _ _ Exit.normal _ _ from ?_)
     simp only [Go.Conc.got, if_true]
     clear hch2
     go_wp2
     go_ret2
     exact HP.out
theorem D.may_ok (rs : List Ru) (xs : List A) : evalOk rs xs = (decide (xs.length ≤ 40) && factsFit rs xs) := by
 unfold evalOk factsFit okB factsOk
 by_cases h1 : xs.length ≤ 40
 ·have h2 : xs.length ≤ 300 := by omega
  rw [decide_eq_true h1, decide_eq_true h2]
  simp
 ·rw [decide_eq_false h1]
  simp
theorem mayBeGiven_any (rs : List Ru) (xs : List A) (v1 v2 : Value) (b1 b2 : List Nat) (w : World) (h : rulesK w [v1] rs b1) (h2 : atomsK w [v2] xs b2) (hg : LaidE w) :
  Calls Tryz.prog 48 #[v1, v2] w fun e w' => e = .returned (.bool (evalOk rs xs)) ∧ Below w.heap.size w w' := by
 have c1 := factsFit_impl rs xs v1 v2 b1 b2 w h h2 hg
 have HE := η (may_ok rs xs)
 obtain ⟨Ad2, cap2, rfl, _, _⟩ := sliceK_form h2
 clear h h2 hg
 generalize factsFit rs xs = q at *
 by_cases hl : (xs.length : Int) ≤ 40
 ·have HE2 : Hid (q = evalOk rs xs) := η (by rw [HE.out, decide_eq_true (by omega)]; simp)
  go_enter Tryz.func48, Tryz.ntmps48
  go_wp2_with (go_at_call 80; refine c1.mono ?_; rintro e w1 ⟨rfl, hb1⟩)
  go_ret
  exact ⟨ret_bool HE2.out, hb1⟩
 ·have HE2 : Hid (false = evalOk rs xs) := η (by rw [HE.out, decide_eq_false (by omega)]; simp)
  go_enter Tryz.func48, Tryz.ntmps48
  go_wp2
  go_ret
  exact ⟨ret_bool HE2.out, (Below.refl w.heap.size w)⟩
structure D.OwnInv (w : World) (b1 : List Nat) (v : Value) (L : List Value) (xs : List Ru) (wr : World) : Prop where
 coll : ∃ bs, Coll 3 ruleK (w.heap.size + 1) 71 wr v L xs bs ∧ ∀ b ∈ bs, b ∈ b1
 bel : Below w.heap.size w wr
theorem D.OwnInv.below {w wr w' : World} {b1 : List Nat} {v : Value} {L : List Value} {xs : List Ru} (h : OwnInv w b1 v L xs wr) (hb : Below wr.heap.size wr w') : OwnInv w b1 v L xs w' :=
 ⟨by obtain ⟨bs, hc, h1⟩ := h.coll; exact ⟨bs, hc.below ruleK_good hb, h1⟩, h.bel.trans (hb.mono h.bel.size)⟩
def D.ownL (rs : List Ru) (L : Nat) : List Ru := rs.filter fun r => decide (nameLev rs r.head.name = L)
theorem D.own_at (rs : List Ru) (L : Nat) : OwnAt rs L (ownL rs L) := fun r => by unfold ownL; rw [List.mem_filter, decide_eq_true_iff]
theorem D.lev_get {rs : List Ru} (H : RsOk rs) {k : Nat} (hk : k < rs.length) (hk2 : k < (levelsL rs).length) : (levelsL rs)[k] = nameLev rs rs[k].head.name := by
 have h2 := (closed_sol H.cyc).2 k hk
 have e1 : ruleAt rs k = rs[k] := by unfold ruleAt; simp [List.getD, hk]
 have e2 : atL (levelsL rs) k = (levelsL rs)[k] := by unfold atL; simp [List.getD, hk2]
 rw [← e2, h2, e1]
structure D.WhSt (rs : List Ru) (xs : List A) (L z : Nat) (own : List Ru) (fr : List Nat) (w W : World) (next : List Ru) (fs : List A) (rn : List Nat) (number : Nat) (wr : World) : Prop where
 mid : MidSt rs xs L own next fs rn number
 sub : ∀ q ∈ next, q ∈ own
 sto : StoS (z + 3) (z + 2) z (z + 1) (fun _ => True) fr fs rn wr
 bel : Below w.heap.size w wr
 kep : ∀ x ∈ fr, wr.heap[x]? = W.heap[x]?
theorem D.touch_eq {own : List Ru} {new : List A} {Lm : List ByteArray} (h : ∀ s, s ∈ Lm ↔ ∃ t ∈ new, t.name = s) : (own.filter fun r => r.body.any (touB Lm)) = touchL own new := by
 classical
 unfold touchL
 refine List.filter_congr fun q _ => ?_
 refine congrArg (fun f => q.body.any f) (funext fun p => ?_)
 unfold touB
 rw [decide_eq_decide.2 (h p.atom.name)]
theorem D.touch_none {own : List Ru} {Lm : List ByteArray} (h : Lm = []) : (own.filter fun r => r.body.any (touB Lm)) = [] := by
 subst h
 rw [List.filter_eq_nil_iff]
 intro q _ hq
 obtain ⟨p, _, hp⟩ := List.any_eq_true.1 hq
 unfold touB at hp
 simp at hp
def D.AllPost (rs : List Ru) (xs : List A) (w : World) (e : Ending) (w' : World) : Prop :=
 Below w.heap.size w w' ∧ ((evalOk rs xs = true ∧ (runR rs xs).2 = true ∧ ∃ z fr fs rn, w.heap.size ≤ z ∧ e = .returned (.tuple #[.pointer (some ⟨z + 2, 0, none⟩), .bool true]) ∧ StoS (z + 3) (z + 2) z (z + 1) (fun _ => True) fr fs rn w' ∧ Sim fs rn (runR rs xs).1 ∧ (∀ x ∈ fs, FactOk x) ∧ fs.length ≤ 300) ∨
  ((evalOk rs xs = true → (runR rs xs).2 = false) ∧ e = .returned (.tuple #[.pointer none, .bool false])))
theorem storeAll_any (rs : List Ru) (xs : List A) (v1 v2 : Value) (b1 b2 : List Nat) (w : World) (h : rulesK w [v1] rs b1) (h2 : atomsK w [v2] xs b2) (hg : LaidE w) :
  Calls Tryz.prog 43 #[v1, v2] w (AllPost rs xs w) := by
 have c1 := mayBeGiven_any rs xs v1 v2 b1 b2 w h h2 hg
 obtain ⟨Ad, cap, rfl, hlc, hlm⟩ := sliceK_form h
 obtain ⟨Ad2, cap2, rfl, _, _⟩ := sliceK_form h2
 have hlmm := nat_ge_max (Nat.le_trans hlc hlm)
 have HH := η (And.intro h h2)
 obtain ⟨i0, hi, hz0, hz1, hz2⟩ := info_parts infoRuleT
 clear h h2 hg hlc hlm
 cases hf : evalOk rs xs with
 | false =>
  have HP : Hid (∀ w', Below w.heap.size w w' → AllPost rs xs w (.returned (.tuple #[.pointer none, .bool false])) w') := η fun w' hb => ⟨hb, .inr ⟨fun h => absurd (hf.symm.trans h) (by decide), rfl⟩⟩
  rw [hf] at c1
  clear hf
  go_enter Tryz.func43, Tryz.ntmps43
  go_wp2_with fail
  refine c1.mono ?_
  rintro e w1 ⟨rfl, hb1⟩
  have HB := η hb1
  clear c1 hb1
  go_wp2
  go_ret2
  exact HP.out _ HB.out
 | true =>
  have hK := evalOk_run hf
  have HF := η hf
  rw [hf] at c1
  clear hf
  go_enter Tryz.func43, Tryz.ntmps43
  go_wp2_with fail
  refine c1.mono ?_
  rintro e w1 ⟨rfl, hb1⟩
  have HB1 := η hb1
  clear c1 hb1
  have hR := rs_ok ((fine_iff rs).2 hK.fine)
  have hfok : ∀ f ∈ xs, FactOk f := fun f hf => isFact_ok (hK.facts f hf)
  have c2 := storeOf_raw xs _ b2 w1 (atomsK_good.below HH.out.2 HB1.out) hfok (asc_nodup hK.asc) (by have := hK.n; omega)
  go_wp2_with fail
  refine c2.mono ?_
  rintro e w2 ⟨rfl, hS⟩
  obtain ⟨hb2, hst⟩ := hS.sto (fun x hx => Nat.lt_of_lt_of_le (atomsK_good.lt HH.out.2 x hx) HB1.out.size)
  have HB2 := η (HB1.out.trans (hb2.mono HB1.out.size))
  have HST := η hst
  clear hS hst hb2 c2
  have c3 := strataOf_any rs _ b1 w2 (rulesK_good.below HH.out.1 HB2.out) hK.m hK.ok
  go_wp2_with fail
  refine c3.mono ?_
  rintro e w3 ⟨hb3, hcase⟩
  clear c3
  rcases hcase with ⟨hcyc, _⟩ | ⟨_, v5, b5, rfl, hstr, hnew⟩
  ·have := hK.fine.no
   rw [this] at hcyc; cases hcyc
  ·obtain ⟨A5, c5, rfl, _, _⟩ := sliceK_form hstr
   have hsto : StoS (w1.heap.size + 3) (w1.heap.size + 2) w1.heap.size (w1.heap.size + 1) (fun _ => True) b5 xs (List.replicate xs.length 0) w3 := by
    have := (HST.out.mono (Fb' := fun _ => True) fun _ _ _ => trivial).more hb3 b5 fun x hx => ⟨(hnew.own x hx).1, hnew.lt hx⟩
    simpa using this
   have HI0 : Hid (AllSt rs xs 0 xs (List.replicate xs.length 0) 0) := η (all_start hK.asc hfok (by have := hK.n; omega))
   have HS0 := η hsto
   have HB3 := η (HB2.out.trans (hb3.mono HB2.out.size))
   have HSTR := η hstr
   have HL5 : Hid ((levelsL rs).length = rs.length) := η (levels_len rs)
   clear hsto hstr hnew hb3 HST
   have HRS := η hR
   have HK := η hK
   have HZ1 := η HB1.out.size
   have hlen8 : rs.length ≤ 8 := hK.m
   clear hfok hR hK
   go_wp2
   generalize w1.heap.size = z at *
   clear HB1 HB2
   go_loopw [9, 30] (fun v9 i wr => ∃ (L : Nat) (fs : List A) (rn : List Nat) (number : Nat), L ≤ rs.length ∧ i = .int .i64 L ∧ v9 = .int .i64 number ∧ AllSt rs xs L fs rn number ∧ StoS (z + 3) (z + 2) z (z + 1) (fun _ => True) b5 fs rn wr ∧ Below w.heap.size w wr ∧ ∀ x ∈ b5, wr.heap[x]? = w3.heap[x]?) (fun _ i _ => rs.length - (intOf i).toNat)
   case atStart => exact ⟨0, xs, _, 0, Nat.zero_le _, rfl, rfl, HI0.out, HS0.out, HB3.out, fun x _ => rfl⟩
   case round =>
    obtain ⟨L, fs, rn, number, hL, rfl, rfl, hall, hsto, hbel, hkep⟩ := hrel
    clear HI0 HS0 HB3
    have HAL := η hall
    have HSTO := η hsto
    have HBEL := η hbel
    have HKEP := η hkep
    by_cases hlt : L < rs.length
    ·have HV0 : Hid (OwnInv wr b1 (.slice none 0 0) [] [] wr) := η ⟨⟨[], Coll.nil _, fun b hb => by simp at hb⟩, Below.refl _ _⟩
     have hL0 : (0 : Int) ≤ (L : Int) := by omega
     have hL1 : (L : Int) < (rs.length : Int) := by omega
     have HLT := η hlt
     clear hall hsto hbel hkep
     obtain ⟨W0, hW0⟩ : ∃ W0, W0 = wr := ⟨_, rfl⟩
     subst hW0
     go_wp2
     go_loopw [11, 35] (fun v i wr2 => ∃ (k : Nat) (Av : Option Addr) (cp : Nat) (M : List Value) (ys : List Ru), k ≤ rs.length ∧ i = .int .i64 k ∧ v = .slice Av ys.length cp ∧ ys = (rs.take k).filter (fun r => decide (nameLev rs r.head.name = L)) ∧ OwnInv W0 b1 (.slice Av ys.length cp) M ys wr2) (fun _ i _ => rs.length - (intOf i).toNat)
     case atStart => exact ⟨0, none, 0, [], [], Nat.zero_le _, rfl, rfl, rfl, HV0.out⟩
     case round =>
      obtain ⟨k, Av, cp, M, ys, hk, rfl, rfl, hys, hV⟩ := hrel
      clear HV0
      have HY := η hys
      have HLY : Hid (ys.length ≤ 1000000) := η (by
       rw [hys]
       refine Nat.le_trans (List.length_filter_le _ _) ?_
       rw [List.length_take]; omega)
      clear hys
      have hB := HBEL.out.trans (hV.bel.mono HBEL.out.size)
      by_cases hlt : k < rs.length
      ·obtain ⟨b, o, Ae, ce, Af, cf, bk, rfl, _, d0, d1, d2, hel, hsub⟩ := rules_el HH.out.1 hlt
       replace d0 := cell_later hB d0
       replace d1 := cell_later hB d1
       replace d2 := cell_later hB d2
       have hk5 : k < (levelsL rs).length := by rw [HL5.out]; exact hlt
       obtain ⟨b7, o7, rfl, hb7, e7⟩ := intsK_at HSTR.out hk5
       have e8 : wr.cell? ⟨b7, o7 + k, none⟩ = some (.int .i64 ((levelsL rs)[k] : Nat)) := (World.cell?_of_block ((hV.bel.block b7 (HSTO.out.lt.2.2 _ hb7)).trans (HKEP.out _ hb7))).trans e7
       have hk0 : (0 : Int) ≤ (k : Int) := by omega
       have hk1 : (k : Int) < (rs.length : Int) := by omega
       have hk2 : (k : Int) < ((levelsL rs).length : Int) := by omega
       have hlq := lev_get HRS.out hlt hk5
       have hA : Below wr.heap.size wr (wr.alloc (.cells #[.string rs[k].head.name, .slice Ae rs[k].head.args.length ce, .slice Af rs[k].body.length cf] 71)) := (Below.refl _ _).alloc (Nat.le_refl _) _
       have HV1 := η (hV.below hA)
       have HEL := η (ruleK_good.below (ruleK_good.below hel hB) hA)
       have HSN := η (filter_step (fun r : Ru => decide (nameLev rs r.head.name = L)) rs k hlt)
       have HBK : Hid (∀ c ∈ bk, c < W0.heap.size) := η fun c hc => Nat.lt_of_lt_of_le (ruleK_good.lt hel c hc) HBEL.out.size
       have HSUB := η hsub
       have hwb : W0.heap.size ≤ wr.heap.size := hV.bel.size
       have le8 := lt_of_cell e8
       clear hel hsub hV hA hB e7
       generalize (levelsL rs)[k] = lv at *
       generalize rs[k] = r at *
       obtain ⟨⟨nm, args⟩, body⟩ := r
       dsimp only at *
       have HLT2 := η hlt
       clear hlt hk5
       by_cases hq : lv = L
       ·have hqb : ((lv : Int) == (L : Int)) = true := beq_iff_eq.2 (by omega)
        have HQ : Hid ((rs.take (k + 1)).filter (fun r => decide (nameLev rs r.head.name = L)) = ys ++ [(⟨⟨nm, args⟩, body⟩ : Ru)]) := η (by rw [HSN.out, HY.out, if_pos (by simp [← hlq, hq])])
        have hA2 : Below (wr.alloc (.cells #[.string nm, .slice Ae args.length ce, .slice Af body.length cf] 71)).heap.size (wr.alloc (.cells #[.string nm, .slice Ae args.length ce, .slice Af body.length cf] 71)) ((wr.alloc (.cells #[.string nm, .slice Ae args.length ce, .slice Af body.length cf] 71)).alloc (.cells #[.string nm, .slice Ae args.length ce, .slice Af body.length cf] 71)) := (Below.refl _ _).alloc (Nat.le_refl _) _
        obtain ⟨bs0, hC0, hC1⟩ := (HV1.out.below hA2).coll
        have HC := η hC0
        have HC1 := η hC1
        have HB := η (HV1.out.below hA2).bel
        have HR : Hid (Rowed 3 ruleK ((wr.alloc (.cells #[.string nm, .slice Ae args.length ce, .slice Af body.length cf] 71)).alloc (.cells #[.string nm, .slice Ae args.length ce, .slice Af body.length cf] 71)) [.string nm, .slice Ae args.length ce, .slice Af body.length cf] [(⟨⟨nm, args⟩, body⟩ : Ru)] bk) := η (Rowed.one_el ruleK_ones (ruleK_good.below HEL.out hA2))
        have HL : Hid (Lies ((wr.alloc (.cells #[.string nm, .slice Ae args.length ce, .slice Af body.length cf] 71)).alloc (.cells #[.string nm, .slice Ae args.length ce, .slice Af body.length cf] 71)) (some ⟨wr.heap.size + 1, 0, none⟩) [.string nm, .slice Ae args.length ce, .slice Af body.length cf]) := η (by
         have := lies_block (heap_alloc_new (wr.alloc (.cells #[.string nm, .slice Ae args.length ce, .slice Af body.length cf] 71)) (.cells #[.string nm, .slice Ae args.length ce, .slice Af body.length cf] 71))
         simpa using this)
        have HF : Hid (∀ c, c < W0.heap.size + 1 → (Value.slice Av ys.length cp).ownBlock ≠ some c) := η fun c hc => own_block_ge hC0.own hc
        have hbase : W0.heap.size + 1 ≤ ((wr.alloc (.cells #[.string nm, .slice Ae args.length ce, .slice Af body.length cf] 71)).alloc (.cells #[.string nm, .slice Ae args.length ce, .slice Af body.length cf] 71)).heap.size := by simp; omega
        have HBA := η hbase
        clear hC0 hC1 hA2 hbase hlq hq
        go_wp2_with (at_builtin; refine wpList_coll rfl _ _ _ rfl (W0.heap.size + 1) 71 i0 (.agg #[.string ⟨#[]⟩, .slice none 0 0, .slice none 0 0]) 3 64 Tryz.underlying29 hi hz0 hz1 hz2 rfl (by omega) ruleK_good (.slice Av ys.length cp) ys.length _ _ _ rfl HC.out rfl (some ⟨wr.heap.size + 1, 0, none⟩) 1 1 _ [⟨⟨nm, args⟩, body⟩] _ rfl HR.out rfl HL.out (fun c hc => HF.out c (by have := HBK.out c hc; omega)) (by have := HLY.out; unfold maxLen; omega) (by have := HLY.out; omega) W0 W0.heap.size HB.out (Nat.le_succ _) HBA.out ?_; intro A9 cp9 w9 hC9 hB9 hS9 hg9)
        have HV3 : Hid (OwnInv W0 b1 (.slice A9 (ys ++ [(⟨⟨nm, args⟩, body⟩ : Ru)]).length cp9) (M ++ [.string nm, .slice Ae args.length ce, .slice Af body.length cf]) (ys ++ [(⟨⟨nm, args⟩, body⟩ : Ru)]) w9) := η ⟨⟨_, by rw [List.length_append]; exact hC9, fun b hb => (List.mem_append.1 hb).elim (HC1.out b) (HSUB.out b)⟩, hB9⟩
        have hlx : ys.length + 1 = (ys ++ [(⟨⟨nm, args⟩, body⟩ : Ru)]).length := by simp
        rw [hlx]
        clear hC9 hB9 hS9 hg9 HC HB HR HL HF hlx
        go_roundw
        case rel => exact ⟨k + 1, _, _, _, _, HLT2.out, by go_num, rfl, HQ.out.symm, HV3.out⟩
        case measure => have := HLT2.out; simp [intOf]; omega
       ·have hqb : ((lv : Int) == (L : Int)) = false := by
         rw [beq_eq_false_iff_ne]; omega
        have HQ : Hid ((rs.take (k + 1)).filter (fun r => decide (nameLev rs r.head.name = L)) = ys) := η (by rw [HSN.out, HY.out, if_neg (by simp [← hlq, hq])])
        clear hlq hq
        go_wp2
        go_roundw
        case rel => exact ⟨k + 1, _, _, _, _, HLT2.out, by go_num, rfl, HQ.out.symm, HV1.out⟩
        case measure => have := HLT2.out; simp [intOf]; omega
      ·have hkl : k = rs.length := by omega
       have hk1 : ¬ (k : Int) < (rs.length : Int) := by omega
       have HYO : Hid (ys = ownL rs L) := η (by rw [HY.out, List.take_of_length_le (Nat.le_of_eq hkl.symm)]; rfl)
       obtain ⟨bs0, hC0, hC1⟩ := hV.coll
       obtain ⟨b6, hs6, hb6⟩ := hC0.slice
       obtain ⟨fr1, hfr⟩ : ∃ fr1, fr1 = b5 ++ b6.filter (fun b => decide (W0.heap.size ≤ b)) := ⟨_, rfl⟩
       have hsto1 : StoS (z + 3) (z + 2) z (z + 1) (fun _ => True) fr1 fs rn wr := hfr ▸ HSTO.out.more hV.bel _ fun x hx => by
        obtain ⟨h1, h2⟩ := List.mem_filter.1 hx
        exact ⟨of_decide_eq_true h2, rulesK_good.lt hs6 x h1⟩
       have HOWN : Hid (∀ w', Below w.heap.size w w' → (∀ x ∈ fr1, w'.heap[x]? = wr.heap[x]?) → rulesK w' [.slice Av ys.length cp] ys b6) := η fun w' h1 h2 => rulesK_good.keep hs6 fun b hb => by
        by_cases hbb : W0.heap.size ≤ b
        ·exact h2 b (hfr ▸ List.mem_append_right _ (List.mem_filter.2 ⟨hb, decide_eq_true hbb⟩))
        ·rcases hb6 b hb with h3 | h3
         ·omega
         ·have h4 := rulesK_good.lt HH.out.1 b (hC1 b h3)
          exact (h1.block b h4).trans (hB.block b h4).symm
       have HFR : Hid (∀ x ∈ b5, x ∈ fr1) := η fun x hx => hfr ▸ List.mem_append_left _ hx
       have HKW : Hid (∀ x ∈ b5, wr.heap[x]? = w3.heap[x]?) := η fun x hx => (hV.bel.block x (HSTO.out.lt.2.2 x hx)).trans (HKEP.out x hx)
       have HWB := η hB
       have hmid : MidSt rs xs L ys ys fs rn number := HAL.out.enter
       have HW0 : Hid (WhSt rs xs L z ys fr1 w wr ys fs rn number wr) := η ⟨hmid, fun q hq => hq, hsto1, hB, fun x _ => rfl⟩
       have HR0 : Hid (rulesK wr [.slice Av ys.length cp] ys b6) := η hs6
       clear hV hC0 hs6 hb6 hfr hsto1 hB hmid HY hC1
       obtain ⟨W9, hW9⟩ : ∃ W9, W9 = wr := ⟨_, rfl⟩
       subst hW9
       go_wp2
       go_loopg [9, 14] 1000 (fun gg v9 v14 wr4 => ∃ (next : List Ru) (A14 : Option Addr) (c14 : Nat) (b14 : List Nat) (fs4 : List A) (rn4 : List Nat) (nu4 : Nat), v9 = .int .i64 nu4 ∧ v14 = .slice A14 next.length c14 ∧ 2 * (300 - fs4.length) + (if next = [] then 0 else 1) ≤ gg ∧ Aside (WhSt rs xs L z ys fr1 w W9 next fs4 rn4 nu4 wr4) ∧ Aside (rulesK wr4 [.slice A14 next.length c14] next b14))
       case atStart => exact ⟨ys, Av, cp, b6, fs, rn, number, rfl, rfl, by split <;> omega, HW0.out, HR0.out⟩
       case round =>
        obtain ⟨next, A14, c14, b14, fs4, rn4, nu4, rfl, rfl, hgg, hwh, hrk⟩ := hrel
        clear HW0 HR0
        by_cases hne : next = []
        ·subst hne
         have HD : Hid (AllSt rs xs (L + 1) fs4 rn4 nu4 ∧ StoS (z + 3) (z + 2) z (z + 1) (fun _ => True) b5 fs4 rn4 wr ∧ Below w.heap.size w wr ∧ ∀ x ∈ b5, wr.heap[x]? = w3.heap[x]?) := η ⟨hwh.out.mid.done HRS.out (Nat.le_of_lt HLT.out) (HYO.out ▸ own_at rs L), hwh.out.sto.sub HFR.out, hwh.out.bel, fun x hx => (hwh.out.kep x (HFR.out x hx)).trans (HKW.out x hx)⟩
         clear hwh hrk hgg
         go_wp2
         go_roundw
         case rel => exact ⟨L + 1, fs4, rn4, nu4, HLT.out, by go_num, rfl, HD.out⟩
         case measure => have := HLT.out; simp [intOf]; omega
        ·have hpos : 0 < next.length := List.length_pos_iff.2 hne
         rw [if_neg hne] at hgg
         have hpi : (0 : Int) < (next.length : Int) := by omega
         obtain ⟨hf300, hrl, hnu, hfacts⟩ := hwh.out.mid.few
         have hown9 : OwnAt rs L ys := HYO.out ▸ own_at rs L
         have hcall := round_any (z + 3) (z + 2) z (z + 1) (fun _ => True) (fun _ _ => trivial) fr1 fs4 rn4 next _ b14 (nu4 + 1) w.heap.size wr hwh.out.sto hrk.out hfacts hf300 (by omega) (fun r hr => HRS.out.fol r ((hown9 r).1 (hwh.out.sub r hr)).1) (by have := HZ1.out; omega)
         have hnu0 : (0 : Int) ≤ (nu4 : Int) := by omega
         have hnu1 : (nu4 : Int) ≤ 300 := by omega
         have ecast : ((nu4 + 1 : Nat) : Int) = (nu4 : Int) + 1 := by omega
         rw [ecast] at hcall
         clear ecast
         have HG := η hgg
         have HNE := η hne
         have HWH := η hwh.out
         have HO9 := η hown9
         clear hgg hne hwh hrk hfacts hown9 hrl
         go_wp2_with fail
         refine hcall.mono ?_
         rintro e w5 ⟨hb5, hcase⟩
         clear hcall
         rcases hcase with ⟨new, mc, n, Lm, fm, rfl, hn1, hn2, hn3, hn4, hs5, hk5, hm5, hmc, hl5, hf5⟩ | ⟨rfl, new, hn1, hn2, hn3⟩
         ·have hbel5 := HWH.out.bel.trans hb5
          have hkep5 : ∀ x ∈ fr1, w5.heap[x]? = W9.heap[x]? := fun x hx => (hk5 x hx).trans (HWH.out.kep x hx)
          have hmid := HWH.out.mid.round HRS.out (Nat.le_of_lt HLT.out) HO9.out HNE.out hn1 hn3 hn4
          have HT := η (touched_any mc n Lm fm ys (.slice Av ys.length cp) b6 w5 (HOWN.out w5 hbel5 hkep5) hm5 hf5 HLY.out)
          have HM5 := η hm5
          by_cases hz : new = []
          ·have hLm : Lm = [] := List.eq_nil_iff_forall_not_mem.2 fun s hs => by
            obtain ⟨t, ht, _⟩ := (hl5 s).1 hs
            rw [hz] at ht; simp at ht
           have hs5' : StoS (z + 3) (z + 2) z (z + 1) (fun _ => True) fr1 fs4 rn4 w5 := by
            rw [hz] at hs5; simpa using hs5
           have HN : Hid ((ys.filter fun r => r.body.any (touB Lm)) = [] ∧ ∀ w6, Below w5.heap.size w5 w6 → WhSt rs xs L z ys fr1 w W9 (ys.filter fun r => r.body.any (touB Lm)) fs4 rn4 nu4 w6) := η ⟨touch_none hLm, fun w6 hb6 => by
            rw [touch_none hLm]
            exact ⟨hmid.1 hz, fun q hq => by simp at hq, hs5'.later hb6, hbel5.trans (hb6.mono hbel5.size), fun x hx => (hb6.block x (hs5'.lt.2.2 x hx)).trans (hkep5 x hx)⟩⟩
           have hl0 : (Lm.length : Int) = 0 := by rw [hLm]; rfl
           clear hb5 hs5 hs5' hk5 hm5 hl5 hf5 hbel5 hkep5 hmid hLm hn1 hn2 hn3 hn4
           go_wp2_with (at_len; refine wpList_mapf_len _ rfl _ _ rfl Tryz.underlying85 _ _ Lm _ rfl HM5.out ?_)
           go_wp2_with fail
           refine HT.out.mono ?_
           rintro e w6 ⟨hb6, A15, c15, b15, rfl, hr15⟩
           have HW6 := η (HN.out.2 w6 hb6)
           have HR6 := η hr15
           have HN1 := η HN.out.1
           clear hb6 hr15 HT HN HM5
           go_wp2
           go_roundg (2 * (300 - fs4.length))
           case measure => have := HG.out; omega
           case rel => exact ⟨_, _, _, _, fs4, rn4, nu4, rfl, rfl, by rw [if_pos HN1.out]; omega, HW6.out, HR6.out⟩
          ·have hpn : 0 < new.length := List.length_pos_iff.2 hz
           have hLm : Lm ≠ [] := fun e => by
            obtain ⟨t, ht⟩ := List.exists_mem_of_ne_nil _ hz
            have := (hl5 t.name).2 ⟨t, ht, rfl⟩
            rw [e] at this; simp at this
           have hl0 : (0 : Int) < (Lm.length : Int) := by have := List.length_pos_iff.2 hLm; omega
           have HN : Hid (∀ w6, Below w5.heap.size w5 w6 → WhSt rs xs L z ys fr1 w W9 (ys.filter fun r => r.body.any (touB Lm)) (fs4 ++ new) (rn4 ++ List.replicate new.length (nu4 + 1)) (nu4 + 1) w6) := η fun w6 hb6 => by
            have h1 := hmid.2 hz
            rw [← touch_eq hl5] at h1
            exact ⟨h1, fun q hq => (List.mem_filter.1 hq).1, hs5.later hb6, hbel5.trans (hb6.mono hbel5.size), fun x hx => (hb6.block x (hs5.lt.2.2 x hx)).trans (hkep5 x hx)⟩
           have HG2 : Hid (2 * (300 - (fs4 ++ new).length) + 1 < 2 * (300 - fs4.length) + 1) := η (by rw [List.length_append]; omega)
           clear hb5 hs5 hk5 hm5 hl5 hf5 hbel5 hkep5 hmid hLm hn1 hn2 hn3 hn4
           go_wp2_with (at_len; refine wpList_mapf_len _ rfl _ _ rfl Tryz.underlying85 _ _ Lm _ rfl HM5.out ?_)
           go_wp2_with fail
           refine HT.out.mono ?_
           rintro e w6 ⟨hb6, A15, c15, b15, rfl, hr15⟩
           have HW6 := η (HN.out w6 hb6)
           have HR6 := η hr15
           clear hb6 hr15 HT HN HM5
           go_wp2
           go_roundg (2 * (300 - (fs4 ++ new).length) + 1)
           case measure => have := HG.out; have := HG2.out; omega
           case rel => exact ⟨_, _, _, _, fs4 ++ new, _, nu4 + 1, by go_num, rfl, by split <;> omega, HW6.out, HR6.out⟩
         ·have HP : Hid (AllPost rs xs w (.returned (.tuple #[.pointer none, .bool false])) w5) := η ⟨HWH.out.bel.trans hb5, .inr ⟨fun _ => HWH.out.mid.over HRS.out (Nat.le_of_lt HLT.out) HO9.out HNE.out hn1 hn2 hn3, rfl⟩⟩
          clear hb5 hn1 hn2 hn3
          go_wp2
          go_ret2
          exact HP.out
    ·have hLe : L = rs.length := by omega
     have hL1 : ¬ (L : Int) < (rs.length : Int) := by omega
     have HP : Hid (AllPost rs xs w (.returned (.tuple #[.pointer (some ⟨z + 2, 0, none⟩), .bool true])) wr) := η (by
      rw [hLe] at hall
      obtain ⟨h1, h2, h3, h4, h5⟩ := hall.fin HRS.out
      exact ⟨hbel, .inl ⟨HF.out, h1, z, b5, fs, rn, HZ1.out, rfl, hsto, h2, h4, h5⟩⟩)
     clear hall hsto hbel hkep
     go_wp2
     go_ret2
     exact HP.out
theorem D.run_facts {rs : List Ru} {xs : List A} (h : evalOk rs xs = true) (h2 : (runR rs xs).2 = true) : RdOk (runR rs xs).1 ∧ (∀ x ∈ (runR rs xs).1.1, FactOk x) ∧ (runR rs xs).1.1.length ≤ 300 ∧ ∀ t, t ∈ (runR rs xs).1.1 ↔ allS rs (fun x => x ∈ xs) t := by
 have hK := evalOk_run h
 rcases run_sets (rs_ok ((fine_iff rs).2 hK.fine)) hK.asc (fun f hf => isFact_ok (hK.facts f hf)) (by have := hK.n; omega) with ⟨_, h3, h4, h5, h6⟩ | ⟨h3, _⟩
 ·exact ⟨h4, h5, h3, h6⟩
 ·rw [h2] at h3; cases h3
theorem D.eval_yes {rs : List Ru} {xs : List A} (h : evalOk rs xs = true) (h2 : (runR rs xs).2 = true) : evalR rs xs = ((runR rs xs).1.1, true) := by unfold evalR; rw [if_pos h, if_pos h2]
theorem D.eval_no {rs : List Ru} {xs : List A} (h : evalOk rs xs = true → (runR rs xs).2 = false) : evalR rs xs = ([], false) := by
 unfold evalR
 by_cases hh : evalOk rs xs = true
 ·rw [if_pos hh, h hh]; rfl
 ·rw [if_neg hh]
theorem evalL_any (rs : List Ru) (xs : List A) (v1 v2 : Value) (b1 b2 : List Nat) (w : World) (h : rulesK w [v1] rs b1) (h2 : atomsK w [v2] xs b2) (hg : LaidE w) :
  Calls Tryz.prog 35 #[v1, v2] w fun e w' => Below w.heap.size w w' ∧ ∃ Av cp bs, e = .returned (.tuple #[.slice Av (evalR rs xs).1.length cp, .bool (evalR rs xs).2]) ∧ atomsK w' [.slice Av (evalR rs xs).1.length cp] (evalR rs xs).1 bs := by
 have c1 := storeAll_any rs xs v1 v2 b1 b2 w h h2 hg
 obtain ⟨Ad, cap, rfl, hlc, hlm⟩ := sliceK_form h
 obtain ⟨Ad2, cap2, rfl, _, _⟩ := sliceK_form h2
 clear h h2 hg hlc hlm
 go_enter Tryz.func35, Tryz.ntmps35
 go_wp2_with fail
 refine c1.mono ?_
 rintro e w1 ⟨hb1, hcase⟩
 clear c1
 rcases hcase with ⟨hok, hrun, z, fr, fs, rn, hz, rfl, hsto, hsim, hfok, hlen⟩ | ⟨hno, rfl⟩
 ·obtain ⟨Af, cf, Lf, Ar, cr, Lr, ou, bf, S, _, _⟩ := hsto
  have hC := S.cF
  have c2 := sortColl_any fs _ Lf bf (z + 3) w1 hC (by omega)
  have x0 : w1.cell? ⟨z + 2, 0, none⟩ = some (.slice Af fs.length cf) := cell_of_blk S.blk
  have lx := lt_of_cell x0
  have hE : Hid (∀ w2 ys L' bs', ys.Perm fs → ys.Pairwise (fun a b => ¬ cmpA b a < 0) → Coll 2 atomK (z + 3) 68 w2 (.slice Af fs.length cf) L' ys bs' → AllBut (fun x => (Value.slice Af fs.length cf).ownBlock = some x) w1 w2 →
    w2.cell? ⟨z + 2, 0, none⟩ = some (.slice Af fs.length cf) ∧ Below w.heap.size w w2 ∧ (evalR rs xs).2 = true ∧ (evalR rs xs).1.length = fs.length ∧ ∃ b9, atomsK w2 [.slice Af fs.length cf] (evalR rs xs).1 b9) := η fun w2 ys L' bs' q1 q2 q3 q4 => by
   have hge : ∀ x, (Value.slice Af fs.length cf).ownBlock = some x → z + 3 ≤ x := fun x hx => by
    have h9 : ¬ x < z + 3 := fun h => own_block_ge hC.own h hx
    exact Nat.le_of_not_lt h9
   obtain ⟨r1, r2, r3, r4⟩ := run_facts hok hrun
   have hpm := hsim.fst r1
   have hyok : ∀ t ∈ ys, FactOk t := fun t ht => hfok t (q1.mem_iff.1 ht)
   have hnd : ys.Nodup := (q1.trans hpm).nodup_iff.2 (asc_nodup r1.asc)
   have hys : ys = (runR rs xs).1.1 := asc_same (asc_sorted hyok hnd q2) r1.asc hyok r2 fun t => by rw [q1.mem_iff, hpm.mem_iff]
   obtain ⟨b9, hs9, _⟩ := q3.slice
   rw [eval_yes hok hrun]
   refine ⟨(World.cell?_of_block (q4.block (z + 2) (lt_of_cell x0) (fun e => by have := hge (z + 2) e; omega))).trans x0, ⟨q4.os.trans hb1.os, q4.tape.trans hb1.tape, q4.output.trans hb1.output, Nat.le_trans hb1.size q4.size, fun k hk => (q4.block k (Nat.lt_of_lt_of_le hk hb1.size) fun e => by have := hge k e; omega).trans (hb1.block k hk)⟩, rfl, hpm.length_eq.symm, b9, ?_⟩
   rw [← hys]
   exact hs9
  clear S hC hsim hfok hb1 hok hrun
  go_wp2_with fail
  refine c2.mono ?_
  rintro e w2 ⟨rfl, ys, L', bs', q1, q2, _, q4, q5⟩
  obtain ⟨y0, y1, y2, y3, b9, y4⟩ := hE.out w2 ys L' bs' q1 q2 q4 q5
  have HB := η y1
  have H4 := η y4
  have H2 := η y2
  have H3 := η y3
  clear hE c2 q1 q2 q4 q5 y1 y4 y2 y3 x0
  go_wp2
  go_ret2
  rw [H2.out, H3.out]
  exact ⟨HB.out, Af, cf, b9, rfl, H4.out⟩
 ·have HE := η (eval_no hno)
  clear hno
  go_wp2
  go_ret2
  rw [HE.out]
  exact ⟨hb1, none, 0, [], rfl, ⟨none, 0, rfl, Nat.le_refl _, Nat.zero_le _, fun _ => rfl, fun h => absurd rfl h⟩⟩
theorem eval_impl (rs : List Ru) (xs : List A) (v1 v2 : Value) (b1 b2 : List Nat) (w : World) (h : rulesK w [v1] rs b1) (h2 : atomsK w [v2] xs b2) (hg : LaidE w) :
  Calls Tryz.prog 11 #[v1, v2] w (MakesB atomsK (evalR rs xs) w.heap.size w) := by
 have c1 := evalL_any rs xs v1 v2 b1 b2 w h h2 hg
 obtain ⟨Ad, cap, rfl, hlc, hlm⟩ := sliceK_form h
 obtain ⟨Ad2, cap2, rfl, _, _⟩ := sliceK_form h2
 have HN : Hid ((evalR rs xs).1.length ≤ 16777216 ∧ ∀ a ∈ (evalR rs xs).1, a.args.length ≤ 16777216) := η (by
  by_cases hc : evalOk rs xs = true ∧ (runR rs xs).2 = true
  ·obtain ⟨r1, r2, r3, r4⟩ := run_facts hc.1 hc.2
   rw [eval_yes hc.1 hc.2]
   exact ⟨by show (runR rs xs).1.1.length ≤ _; omega, fun a ha => by have := atom_few (r2 a ha).ok; omega⟩
  ·rw [eval_no (fun h => by
    cases hr : (runR rs xs).2
    ·rfl
    ·exact absurd ⟨h, hr⟩ hc)]
   exact ⟨Nat.zero_le _, fun a ha => by simp at ha⟩)
 clear h h2 hg hlc hlm
 generalize evalR rs xs = ev at *
 obtain ⟨el, eb⟩ := ev
 dsimp only at *
 go_enter Tryz.func11, Tryz.ntmps11
 go_wp2_with fail
 refine c1.mono ?_
 rintro e w1 ⟨hb1, Av, cp, bs, rfl, hat⟩
 have c2 := copyAtoms_any el _ bs w1 hat HN.out.1 HN.out.2
 have HB1 := η hb1
 clear c1 hat hb1
 go_wp2_with fail
 refine c2.mono ?_
 rintro e w2 ⟨hb2, v9, b9, rfl, h9, hn9⟩
 obtain ⟨A9, c9, rfl, _, _⟩ := sliceK_form h9
 have HZ : Hid (MakesB atomsK (el, eb) w.heap.size w (.returned (.tuple #[.slice A9 el.length c9, .bool eb])) w2) := η ⟨HB1.out.trans (hb2.mono HB1.out.size), _, b9, rfl, h9, hn9.mono HB1.out.size⟩
 clear c2 hb2 h9 hn9
 go_wp2
 go_ret2
 exact HZ.out
end Go.Proofs.YtiidmgchadagbaaGreatDoor
namespace Go.Proofs.YtiidmgchadagbaaGreatDoor
open Go.RowKit D
theorem D.facts_cnt : ∀ l : List A, (∀ t ∈ l, FactOk t) → sumL cntA l ≤ l.length * 7 := by
 intro l
 induction l with
 | nil => intro _; simp [sumL]
 | cons t l ih =>
  intro h
  have g1 := ih fun u hu => h u (List.mem_cons_of_mem _ hu)
  have g2 := atom_few (h t (List.mem_cons_self ..)).ok
  have e : sumL cntA (t :: l) = cntA t + sumL cntA l := by simp [sumL]
  have e2 : cntA t = 1 + 2 * t.args.length := rfl
  rw [e, e2, List.length_cons]
  omega
theorem D.eval_cases (rs : List Ru) (xs : List A) : (evalOk rs xs = true ∧ (runR rs xs).2 = true ∧ evalR rs xs = ((runR rs xs).1.1, true)) ∨ evalR rs xs = ([], false) := by
 by_cases hc : evalOk rs xs = true ∧ (runR rs xs).2 = true
 ·exact .inl ⟨hc.1, hc.2, eval_yes hc.1 hc.2⟩
 ·refine .inr (eval_no fun h => ?_)
  cases hr : (runR rs xs).2
  ·rfl
  ·exact absurd ⟨h, hr⟩ hc
theorem evalR_cnt (rs : List Ru) (xs : List A) : sumL cntA (evalR rs xs).1 ≤ 900000000 := by
 rcases eval_cases rs xs with ⟨h1, h2, e⟩ | e
 ·rw [e]
  obtain ⟨_, r2, r3, _⟩ := run_facts h1 h2
  have := facts_cnt _ r2
  show sumL cntA (runR rs xs).1.1 ≤ _
  omega
 ·rw [e]; simp [sumL]
end Go.Proofs.YtiidmgchadagbaaGreatDoor
namespace Go.Proofs.YtiidmgchadagbaaGreatDoor
open Go.RowKit D
attribute [local go_sem ↓] Go.wp_at_zero Go.wp_at_succ
theorem exactEval_walk (a0 : List Ru) (c0 : Value) (p0 : List Nat) (a1 : List A) (c1 : Value) (p1 : List Nat) (w : World) (h0 : rulesK w [c0] a0 p0) (h1 : atomsK w [c1] a1 p1) (hg : LaidE w) :
  Calls Tryz.prog 3 #[c0, c1] w fun e w' => e = .returned (.bool true) ∧ Below w.heap.size w w' := by
 have HG := η hg
 clear hg
 obtain ⟨Adq0, capq0, rfl, hlq0, hmq0⟩ := sliceK_form h0
 obtain ⟨Adq1, capq1, rfl, hlq1, hmq1⟩ := sliceK_form h1
 have sz0 := fun l (g0 : 0 ≤ l) (g1 : l ≤ 1048576) w' (hb : Below w.heap.size w w') => szRuleS_any a0 _ p0 l w' (rulesK_good.below h0 hb) g0 g1
 have to0 := fun (hl : bulkRs a0 ≤ 1048576) w' (hb : Below w.heap.size w w') => toRuleS_any a0 _ p0 w' (rulesK_good.below h0 hb) hl
 have sz1 := fun l (g0 : 0 ≤ l) (g1 : l ≤ 1048576) w' (hb : Below w.heap.size w w') => szAtomS_any a1 _ p1 l w' (atomsK_good.below h1 hb) g0 g1
 have to1 := fun (hl : bulkAs a1 ≤ 1048576) w' (hb : Below w.heap.size w w') => toAtomS_any a1 _ p1 w' (atomsK_good.below h1 hb) hl
 have lm0 := nat_ge_max (Nat.le_trans hlq0 hmq0)
 have lm1 := nat_ge_max (Nat.le_trans hlq1 hmq1)
 have hVB := evalR_cnt a0 a1
 clear h0 h1
 have B0 := Below.refl w.heap.size w
 go_enter Tryz.func3, Tryz.ntmps3
 go_wp2_with fail
 refine (sz0 _ (by omega) (by omega) _ B0).mono ?_
 rintro e w1 ⟨hb1, r1, rfl, hr1⟩
 have B1 := B0.trans (hb1.mono B0.size)
 clear sz0
 rcases hr1 with rfl | ⟨hr1a, hr1b⟩
 ·go_wp2
  go_ret
  exact ⟨rfl, B1⟩
 ·skip
  go_wp2_with fail
  refine (sz1 _ (by omega) (by omega) _ B1).mono ?_
  rintro e w2 ⟨hb2, r2, rfl, hr2⟩
  have B2 := B1.trans (hb2.mono B1.size)
  clear sz1
  rcases hr2 with rfl | ⟨hr2a, hr2b⟩
  ·go_wp2
   go_ret
   exact ⟨rfl, B2⟩
  ·skip
   have T0 := to0 (by omega)
   have HT0 := η T0
   have HB0 : Hid (bulkRs a0 ≤ 1048576) := η (by omega)
   have T1 := to1 (by omega)
   have HT1 := η T1
   have HB1 : Hid (bulkAs a1 ≤ 1048576) := η (by omega)
   have HVB := η hVB
   clear hVB to0 T0 to1 T1 hr1b hr2b
   go_wp2_with fail
   refine (HT0.out _ B2).mono ?_
   rintro e w3 ⟨hb3, v3, bs3, rfl, hR3, hN3⟩
   obtain ⟨Ad3, cap3, rfl, _, _⟩ := sliceK_form hR3
   have B3 := B2.trans (hb3.mono B2.size)
   go_wp2_with fail
   refine (HT1.out _ B3).mono ?_
   rintro e w4 ⟨hb4, v4, bs4, rfl, hR4, hN4⟩
   obtain ⟨Ad4, cap4, rfl, _, _⟩ := sliceK_form hR4
   have B4 := B3.trans (hb4.mono B3.size)
   replace hR3 := rulesK_good.below hR3 hb4
   go_wp2_with fail
   refine (eval_any a0 a1 _ _ bs3 bs4 _ hR3 hR4).mono ?_
   rintro e w5 ⟨hb5, v5, bs5, rfl, hR5⟩
   obtain ⟨Ad5, cap5, rfl, _, _⟩ := sliceK_form hR5
   have B5 := B4.trans (hb5.mono B4.size)
   have hq5 : Below w4.heap.size w4 w5 := hb5
   clear hR3 hN3 hR4 hN4
   have US := η (atomsK_good.lt hR5)
   have RS := η hR5
   clear hR5
   have Q0 : Hid (w.heap.size + 0 ≤ w5.heap.size) := η (by have := B5.size;  omega)
   go_wp2_with fail
   refine (HT0.out _ B5).mono ?_
   rintro e w6 ⟨hc6, v6, bs6, rfl, hR6, hN6⟩
   obtain ⟨Ad6, cap6, rfl, _, _⟩ := sliceK_form hR6
   have hb6 := hc6
   have B6 := B5.trans (hb6.mono B5.size)
   replace RS := η (atomsK_good.below RS.out hb6)
   have Q1 : Hid (w5.heap.size ≤ w6.heap.size) := η hb6.size
   have L6 : Hid (∀ b ∈ bs6, w5.heap.size ≤ b) := η fun b hb => (hN6.own b hb).1
   have U6 := η (rulesK_good.lt hR6)
   have N6 := η hN6
   have R6 := η hR6
   clear hR6 hN6
   have Z6 : Hid (w5.heap.size ≤ w6.heap.size) := η hb6.size
   go_wp2_with fail
   refine (HT1.out _ B6).mono ?_
   rintro e w7 ⟨hc7, v7, bs7, rfl, hR7, hN7⟩
   obtain ⟨Ad7, cap7, rfl, _, _⟩ := sliceK_form hR7
   have hb7 := hc7
   have B7 := B6.trans (hb7.mono B6.size)
   replace RS := η (atomsK_good.below RS.out hb7)
   replace R6 := η (rulesK_good.below R6.out hb7)
   replace N6 := η (N6.out.below hb7)
   replace Z6 := η (Nat.le_trans Z6.out hb7.size)
   have Q2 : Hid (w6.heap.size ≤ w7.heap.size) := η hb7.size
   have L7 : Hid (∀ b ∈ bs7, w6.heap.size ≤ b) := η fun b hb => (hN7.own b hb).1
   have U7 := η (atomsK_good.lt hR7)
   have N7 := η hN7
   have R7 := η hR7
   clear hR7 hN7
   have Z7 : Hid (w6.heap.size ≤ w7.heap.size) := η hb7.size
   go_wp2_with fail
   refine (eval_impl a0 a1 _ _ bs6 bs7 _ R6.out R7.out (HG.out.below B7)).mono ?_
   rintro e w8 ⟨hc8, v8, bs8, rfl, hR8, hN8⟩
   obtain ⟨Ad8, cap8, rfl, _, _⟩ := sliceK_form hR8
   have hb8 := hc8
   have B8 := B7.trans (hb8.mono B7.size)
   replace RS := η (atomsK_good.below RS.out hb8)
   replace R6 := η (rulesK_good.below R6.out hb8)
   replace R7 := η (atomsK_good.below R7.out hb8)
   replace N6 := η (N6.out.below hb8)
   replace N7 := η (N7.out.below hb8)
   replace Z6 := η (Nat.le_trans Z6.out hb8.size)
   replace Z7 := η (Nat.le_trans Z7.out hb8.size)
   have Q3 : Hid (w7.heap.size ≤ w8.heap.size) := η hb8.size
   have L8 : Hid (∀ b ∈ bs8, w7.heap.size ≤ b) := η fun b hb => (hN8.own b hb).1
   have U8 := η (atomsK_good.lt hR8)
   have N8 := η hN8
   have R8 := η hR8
   clear hR8 hN8
   go_wp2_with fail
   refine (eqAtomS_same (evalR a0 a1).1 _ _ bs8 bs5 _ R8.out RS.out).mono ?_
   rintro e w9 ⟨rfl, hc9⟩
   have hb9 := hc9
   have B9 := B8.trans (hb9.mono B8.size)
   replace RS := η (atomsK_good.below RS.out hb9)
   replace R6 := η (rulesK_good.below R6.out hb9)
   replace R7 := η (atomsK_good.below R7.out hb9)
   replace R8 := η (atomsK_good.below R8.out hb9)
   replace N6 := η (N6.out.below hb9)
   replace N7 := η (N7.out.below hb9)
   replace N8 := η (N8.out.below hb9)
   replace Z6 := η (Nat.le_trans Z6.out hb9.size)
   replace Z7 := η (Nat.le_trans Z7.out hb9.size)
   go_wp2_with fail
   refine (HT0.out _ B9).mono ?_
   rintro e w10 ⟨hb10, v10, bs10, rfl, hR10, hN10⟩
   obtain ⟨Ad10, cap10, rfl, _, _⟩ := sliceK_form hR10
   have B10 := B9.trans (hb10.mono B9.size)
   replace RS := η (atomsK_good.below RS.out hb10)
   replace R6 := η (rulesK_good.below R6.out hb10)
   replace R7 := η (atomsK_good.below R7.out hb10)
   replace R8 := η (atomsK_good.below R8.out hb10)
   replace N6 := η (N6.out.below hb10)
   replace N7 := η (N7.out.below hb10)
   replace N8 := η (N8.out.below hb10)
   replace Z6 := η (Nat.le_trans Z6.out hb10.size)
   replace Z7 := η (Nat.le_trans Z7.out hb10.size)
   go_wp2_with fail
   refine (eqRuleS_same a0 _ _ bs6 bs10 _ R6.out hR10).mono ?_
   rintro e w11 ⟨rfl, hb11⟩
   have B11 := B10.trans (hb11.mono B10.size)
   clear hR10 hN10
   replace RS := η (atomsK_good.below RS.out hb11)
   replace R6 := η (rulesK_good.below R6.out hb11)
   replace R7 := η (atomsK_good.below R7.out hb11)
   replace R8 := η (atomsK_good.below R8.out hb11)
   replace N6 := η (N6.out.below hb11)
   replace N7 := η (N7.out.below hb11)
   replace N8 := η (N8.out.below hb11)
   replace Z6 := η (Nat.le_trans Z6.out hb11.size)
   replace Z7 := η (Nat.le_trans Z7.out hb11.size)
   go_wp2_with fail
   refine (HT1.out _ B11).mono ?_
   rintro e w12 ⟨hb12, v12, bs12, rfl, hR12, hN12⟩
   obtain ⟨Ad12, cap12, rfl, _, _⟩ := sliceK_form hR12
   have B12 := B11.trans (hb12.mono B11.size)
   replace RS := η (atomsK_good.below RS.out hb12)
   replace R6 := η (rulesK_good.below R6.out hb12)
   replace R7 := η (atomsK_good.below R7.out hb12)
   replace R8 := η (atomsK_good.below R8.out hb12)
   replace N6 := η (N6.out.below hb12)
   replace N7 := η (N7.out.below hb12)
   replace N8 := η (N8.out.below hb12)
   replace Z6 := η (Nat.le_trans Z6.out hb12.size)
   replace Z7 := η (Nat.le_trans Z7.out hb12.size)
   go_wp2_with fail
   refine (eqAtomS_same a1 _ _ bs7 bs12 _ R7.out hR12).mono ?_
   rintro e w13 ⟨rfl, hb13⟩
   have B13 := B12.trans (hb13.mono B12.size)
   clear hR12 hN12
   replace RS := η (atomsK_good.below RS.out hb13)
   replace R6 := η (rulesK_good.below R6.out hb13)
   replace R7 := η (atomsK_good.below R7.out hb13)
   replace R8 := η (atomsK_good.below R8.out hb13)
   replace N6 := η (N6.out.below hb13)
   replace N7 := η (N7.out.below hb13)
   replace N8 := η (N8.out.below hb13)
   replace Z6 := η (Nat.le_trans Z6.out hb13.size)
   replace Z7 := η (Nat.le_trans Z7.out hb13.size)
   go_wp2_with fail
   refine (markRuleS_any a0 _ bs6 1 _ _ R6.out N6.out (by have := HB0.out; have := HB1.out; have := cntRs_le a0;  omega)).mono ?_
   rintro e w14 ⟨hk14, _, _, hK14⟩
   obtain ⟨k14, he14⟩ : ∃ n : Nat, n = 1 + sumL cntRu a0 := ⟨_, rfl⟩
   rw [← he14] at hk14
   have kbk14 : Hid (k14 ≤ 10000000) := η (by have := HB0.out; have := HB1.out; have := cntRs_le a0;  omega)
   have knk14 : ¬ ((k14 : Int) < 0) := by omega
   clear he14
   subst hk14
   replace RS := η (Good.kept atomsK_good RS.out hK14 (fun b hb hc => by have := US.out _ hb; have := L6.out _ hc; have := U6.out _ hc; have := Q0.out; have := Q1.out; have := Q2.out; have := Q3.out; omega))
   replace R7 := η (Good.kept atomsK_good R7.out hK14 (fun b hb hc => by have := L7.out _ hb; have := U7.out _ hb; have := L6.out _ hc; have := U6.out _ hc; have := Q0.out; have := Q1.out; have := Q2.out; have := Q3.out; omega))
   replace R8 := η (Good.kept atomsK_good R8.out hK14 (fun b hb hc => by have := L8.out _ hb; have := U8.out _ hb; have := L6.out _ hc; have := U6.out _ hc; have := Q0.out; have := Q1.out; have := Q2.out; have := Q3.out; omega))
   replace N7 := η (New.kept N7.out hK14 (fun b hb hc => by have := L7.out _ hb; have := U7.out _ hb; have := L6.out _ hc; have := U6.out _ hc; have := Q0.out; have := Q1.out; have := Q2.out; have := Q3.out; omega))
   replace N8 := η (New.kept N8.out hK14 (fun b hb hc => by have := L8.out _ hb; have := U8.out _ hb; have := L6.out _ hc; have := U6.out _ hc; have := Q0.out; have := Q1.out; have := Q2.out; have := Q3.out; omega))
   replace Z6 := η (Nat.le_trans Z6.out hK14.size)
   replace Z7 := η (Nat.le_trans Z7.out hK14.size)
   clear R6 N6
   have B14 := B13.trans (hK14.below (fun b hb => by have := L6.out _ hb; have := U6.out _ hb; have := B13.size; have := Q0.out; have := Q1.out; have := Q2.out; have := Q3.out; omega) B13.size)
   go_wp2_with fail
   refine (markAtomS_any a1 _ bs7 k14 _ _ R7.out N7.out (by have := kbk14.out; have := HB0.out; have := HB1.out; have := cntAs_le a1;  omega)).mono ?_
   rintro e w15 ⟨hk15, _, _, hK15⟩
   obtain ⟨k15, he15⟩ : ∃ n : Nat, n = k14 + sumL cntA a1 := ⟨_, rfl⟩
   rw [← he15] at hk15
   have kbk15 : Hid (k15 ≤ 20000000) := η (by have := kbk14.out; have := HB0.out; have := HB1.out; have := cntAs_le a1;  omega)
   have knk15 : ¬ ((k15 : Int) < 0) := by omega
   clear he15
   subst hk15
   replace RS := η (Good.kept atomsK_good RS.out hK15 (fun b hb hc => by have := US.out _ hb; have := L7.out _ hc; have := U7.out _ hc; have := Q0.out; have := Q1.out; have := Q2.out; have := Q3.out; omega))
   replace R8 := η (Good.kept atomsK_good R8.out hK15 (fun b hb hc => by have := L8.out _ hb; have := U8.out _ hb; have := L7.out _ hc; have := U7.out _ hc; have := Q0.out; have := Q1.out; have := Q2.out; have := Q3.out; omega))
   replace N8 := η (New.kept N8.out hK15 (fun b hb hc => by have := L8.out _ hb; have := U8.out _ hb; have := L7.out _ hc; have := U7.out _ hc; have := Q0.out; have := Q1.out; have := Q2.out; have := Q3.out; omega))
   replace Z6 := η (Nat.le_trans Z6.out hK15.size)
   replace Z7 := η (Nat.le_trans Z7.out hK15.size)
   clear R7 N7
   have B15 := B14.trans (hK15.below (fun b hb => by have := L7.out _ hb; have := U7.out _ hb; have := B14.size; have := Q0.out; have := Q1.out; have := Q2.out; have := Q3.out; omega) B14.size)
   go_wp2_with fail
   refine (eqAtomS_same (evalR a0 a1).1 _ _ bs8 bs5 _ R8.out RS.out).mono ?_
   rintro e w16 ⟨rfl, hc16⟩
   have hb16 := hc16
   have B16 := B15.trans (hb16.mono B15.size)
   replace RS := η (atomsK_good.below RS.out hb16)
   replace R8 := η (atomsK_good.below R8.out hb16)
   replace N8 := η (N8.out.below hb16)
   replace Z6 := η (Nat.le_trans Z6.out hb16.size)
   replace Z7 := η (Nat.le_trans Z7.out hb16.size)
   go_wp2_with fail
   refine (markAtomS_any (evalR a0 a1).1 _ bs8 1 _ _ R8.out N8.out (by have := HVB.out; omega)).mono ?_
   rintro e w17 ⟨hk17, hR17, _, hK17⟩
   have MH : ∀ w', Below w17.heap.size w17 w' → Calls Tryz.prog 16 #[.slice Ad8 (evalR a0 a1).1.length cap8, .int .i64 1] w' (Held (1 + sumL cntA (evalR a0 a1).1) w') := fun w' hb => heldAtomS_any (evalR a0 a1).1 _ bs8 1 w' (atomsK_good.below hR17 hb) (by have := HVB.out; omega)
   obtain ⟨n, hn⟩ : ∃ n : Nat, n = 1 + sumL cntA (evalR a0 a1).1 := ⟨_, rfl⟩
   rw [← hn] at hk17
   rw [← hn] at MH
   subst hk17
   have hn0 : ¬ ((n : Int) < 0) := by omega
   clear hn
   have HMH := η MH
   clear MH hR17
   replace RS := η (Good.kept atomsK_good RS.out hK17 (fun b hb hc => by have := US.out _ hb; have := L8.out _ hc; have := U8.out _ hc; have := Q0.out; have := Q1.out; have := Q2.out; have := Q3.out; omega))
   replace Z6 := η (Nat.le_trans Z6.out hK17.size)
   replace Z7 := η (Nat.le_trans Z7.out hK17.size)
   clear R8 N8
   have B17 := B16.trans (hK17.below (fun b hb => by have := L8.out _ hb; have := U8.out _ hb; have := B16.size; have := Q0.out; have := Q1.out; have := Q2.out; have := Q3.out; omega) B16.size)
   go_wp2_with fail
   refine (HMH.out _ (Below.refl _ _)).mono ?_
   rintro e w18 ⟨rfl, hb18⟩
   have B18 := B17.trans (hb18.mono B17.size)
   replace RS := η (atomsK_good.below RS.out hb18)
   replace Z6 := η (Nat.le_trans Z6.out hb18.size)
   replace Z7 := η (Nat.le_trans Z7.out hb18.size)
   have HM : Hid (Below w17.heap.size w17 w18) := η hb18
   go_wp2_with fail
   refine (HT0.out _ B18).mono ?_
   rintro e w19 ⟨hb19, v19, bs19, rfl, hR19, hN19⟩
   obtain ⟨Ad19, cap19, rfl, _, _⟩ := sliceK_form hR19
   have B19 := B18.trans (hb19.mono B18.size)
   replace RS := η (atomsK_good.below RS.out hb19)
   replace Z6 := η (Nat.le_trans Z6.out hb19.size)
   replace Z7 := η (Nat.le_trans Z7.out hb19.size)
   replace HM := η (HM.out.trans (hb19.mono HM.out.size))
   go_wp2_with fail
   refine (HT1.out _ B19).mono ?_
   rintro e w20 ⟨hb20, v20, bs20, rfl, hR20, hN20⟩
   obtain ⟨Ad20, cap20, rfl, _, _⟩ := sliceK_form hR20
   have B20 := B19.trans (hb20.mono B19.size)
   replace RS := η (atomsK_good.below RS.out hb20)
   replace Z6 := η (Nat.le_trans Z6.out hb20.size)
   replace Z7 := η (Nat.le_trans Z7.out hb20.size)
   replace hR19 := rulesK_good.below hR19 hb20
   replace HM := η (HM.out.trans (hb20.mono HM.out.size))
   go_wp2_with fail
   refine (eval_impl a0 a1 _ _ bs19 bs20 _ hR19 hR20 (HG.out.below B20)).mono ?_
   rintro e w21 ⟨hb21, v21, bs21, rfl, hR21, hN21⟩
   obtain ⟨Ad21, cap21, rfl, _, _⟩ := sliceK_form hR21
   have B21 := B20.trans (hb21.mono B20.size)
   replace RS := η (atomsK_good.below RS.out hb21)
   replace Z6 := η (Nat.le_trans Z6.out hb21.size)
   replace Z7 := η (Nat.le_trans Z7.out hb21.size)
   have hq21 : Below w20.heap.size w20 w21 := hb21
   clear hR19 hN19 hR20 hN20
   replace HM := η (HM.out.trans (hq21.mono HM.out.size))
   have hR21' := η hR21
   clear hR21 hN21
   have R21 := hR21'
   clear hR21'
   go_wp2_with fail
   refine (eqAtomS_same (evalR a0 a1).1 _ _ bs21 bs5 _ R21.out RS.out).mono ?_
   rintro e w22 ⟨rfl, hc22⟩
   clear RS R21
   have hb22 := hc22
   have B22 := B21.trans (hb22.mono B21.size)
   replace Z6 := η (Nat.le_trans Z6.out hb22.size)
   replace Z7 := η (Nat.le_trans Z7.out hb22.size)
   replace HM := η (HM.out.trans (hb22.mono HM.out.size))
   go_wp2_with fail
   refine (HMH.out _ HM.out).mono ?_
   rintro e w23 ⟨rfl, hb23⟩
   have B23 := B22.trans (hb23.mono B22.size)
   go_wp2
   go_ret
   exact ⟨rfl, B23⟩
end Go.Proofs.YtiidmgchadagbaaGreatDoor
