/- Of the proof of FnOnce: StoQ, ValI, RunP3, FolQ. -/
import Derived.RangeFuncNested
import Derived.RangeFuncBound
import Derived.Sort.MapsRangeIn
import Derived.Test.YtjjfafgaphloaaaGreatDoorM41
namespace Go.Proofs.YtjjfafgaphloaaaGreatDoor
open Go.RowKit Go.ChangeMaps Go.MapKept D
set_option linter.unusedVariables false
/-- Places of facts under their texts. -/
def D.plcL (fs : List A) : List (Value × Value) := fs.zipIdx.map fun p => (.string (aText p.1), .int .i64 (p.2 : Nat))

theorem D.plcL_snoc (fs : List A) (a : A) : plcL (fs ++ [a]) = plcL fs ++ [(.string (aText a), .int .i64 (fs.length : Nat))] := by
  unfold plcL
  rw [List.zipIdx_append, List.map_append]
  simp

theorem D.plcL_mem {fs : List A} {p : Value × Value} : p ∈ plcL fs ↔ ∃ i, ∃ h : i < fs.length, p = (.string (aText fs[i]), .int .i64 (i : Nat)) := by
  unfold plcL
  rw [List.mem_map]
  constructor
  · rintro ⟨q, hq, rfl⟩
    obtain ⟨a, i⟩ := q
    obtain ⟨h1, h2, h3⟩ := List.mem_zipIdx hq
    simp at h2 h3
    exact ⟨i, h2, by rw [← h3]⟩
  · rintro ⟨i, h, rfl⟩
    exact ⟨(fs[i], i), by rw [List.mem_zipIdx_iff_getElem?]; simp [h], rfl⟩

theorem D.ints_own {w : World} {Ad : Option Addr} {n c : Nat} {xs : List Nat} {b : List Nat} (h : intsK w [.slice Ad n c] xs b) : ∀ x ∈ b, (Value.slice Ad n c).ownBlock = some x := by
  obtain ⟨Ad', cap, he, _, _, h0, h1⟩ := h
  simp only [List.cons.injEq, Value.slice.injEq, and_true] at he
  obtain ⟨rfl, rfl, rfl⟩ := he
  intro x hx
  by_cases hxs : xs = []
  · rw [h0 hxs] at hx; simp at hx
  · obtain ⟨b0, o, rfl, F, G, rfl, h3⟩ := h1 hxs
    rcases List.mem_cons.1 hx with rfl | hx
    · rfl
    · obtain ⟨k, hk, hk2⟩ := List.mem_flatMap.1 hx
      have hk := List.mem_range.1 hk
      obtain ⟨_, _, h5⟩ := h3 k _ (List.getElem?_eq_getElem hk)
      rw [h5.2] at hk2
      simp at hk2

theorem D.SRaw.view {B sb mu mp : Nat} {Af : Option Addr} {nf cf : Nat} {Lf : List Value} {fs : List A} {bf : List Nat} {Ar : Option Addr} {nr cr : Nat} {Lr : List Value} {rn : List Nat} {ou : List Nat} {w : World} (h : SRaw B sb mu mp Af nf cf Lf fs bf Ar nr cr Lr rn (plcL fs) (idxs fs) ou w) (B0 : Nat) (hB0 : B0 ≤ sb ∧ B0 ≤ mu ∧ B0 ≤ mp ∧ B0 ≤ B) :
    ∃ bs, StoreV sb fs rn bs w ∧ ∀ x ∈ bs, B0 ≤ x ∨ x ∈ bf := by
  obtain ⟨l1, l2, l3, _⟩ := h.lo
  have hs := h.siz
  have hef := h.ef
  have her := h.er
  subst hef her
  obtain ⟨b2, hF, hF2⟩ := h.cF.slice
  obtain ⟨b3, hR, hR2⟩ := h.cR.slice
  obtain ⟨rows, c, g1, g2, g3⟩ := h.un.ex
  refine ⟨sb :: mu :: mp :: (b2 ++ b3 ++ ou), ⟨⟨Af, cf, Ar, cr, mu, mp, b2, b3, (rows.map entE).map (fun p => (p.1, p.2.1)), plcL fs, h.blk, hF, hR, g1.mapV, h.pl, fun k => ?_, fun s => ?_, fun p hp => ?_, by simp, by simp, fun b hb => by simp [hb], fun b hb => by simp [hb]⟩, by simp, fun x hx => ?_⟩, fun x hx => ?_⟩
  · by_cases hex : ∃ r ∈ rows, r.k = k
    · obtain ⟨r, hr, rfl⟩ := hex
      obtain ⟨b, hb, _⟩ := (g2.coll r hr).slice
      obtain ⟨Ad, cap, hv, _⟩ := sliceK_form hb
      refine .inl ⟨r.v, b, List.mem_map.2 ⟨entE r, List.mem_map.2 ⟨r, hr, rfl⟩, rfl⟩, hb, fun x hx => ?_⟩
      rw [hv] at hb
      have := g2.own r hr x (by rw [hv]; exact ints_own hb x hx)
      simp [this]
    · refine .inr ⟨fun p hp e => ?_, g3 k fun r hr e => hex ⟨r, hr, e⟩⟩
      obtain ⟨q, hq, rfl⟩ := List.mem_map.1 hp
      obtain ⟨r, hr, rfl⟩ := List.mem_map.1 hq
      exact hex ⟨r, hr, wkV_inj e⟩
  · constructor
    · rintro ⟨i, hi⟩
      obtain ⟨j, hj, e⟩ := plcL_mem.1 hi
      simp at e
      exact List.mem_map.2 ⟨fs[j], List.getElem_mem hj, e.1.symm⟩
    · intro hm
      obtain ⟨f, hf, rfl⟩ := List.mem_map.1 hm
      obtain ⟨j, hj, rfl⟩ := List.getElem_of_mem hf
      exact ⟨j, plcL_mem.2 ⟨j, hj, rfl⟩⟩
  · obtain ⟨i, hi, rfl⟩ := plcL_mem.1 hp
    exact ⟨i, rfl⟩
  · simp only [List.mem_cons, List.mem_append] at hx
    rcases hx with rfl | rfl | rfl | (hx | hx) | hx
    · omega
    · omega
    · omega
    · exact atomsK_good.lt hF x hx
    · exact intsK_good.lt hR x hx
    · exact (h.ous x hx).2
  · simp only [List.mem_cons, List.mem_append] at hx
    rcases hx with rfl | rfl | rfl | (hx | hx) | hx
    · exact .inl hB0.1
    · exact .inl hB0.2.1
    · exact .inl hB0.2.2.1
    · exact (hF2 x hx).imp (fun h => by omega) id
    · rcases hR2 x hx with h | h
      · exact .inl (by omega)
      · simp at h
    · have := (h.ous x hx).1; exact .inl (by omega)

theorem D.text_new {fs : List A} (hf : ∀ f ∈ fs, FactOk f) {a : A} (ha : FactOk a) (hno : a ∉ fs) : ∀ p ∈ plcL fs, p.1 ≠ .string (aText a) := fun p hp e => by
  obtain ⟨i, hi, rfl⟩ := plcL_mem.1 hp
  simp at e
  exact hno (aText_inj (hf _ (List.getElem_mem hi)).ok ha.ok e ▸ List.getElem_mem hi)

end Go.Proofs.YtjjfafgaphloaaaGreatDoor
namespace Go.Proofs.YtjjfafgaphloaaaGreatDoor
open Go.RowKit Go.Maps Go.Sort D
set_option linter.unusedVariables false
attribute [local go_sem] Oper.semAt_some
def D.Fe.val (x : Fe) : Value := .agg #[.string x.t.name, x.c1]

abbrev D.FdIn (E : List Fe) (w0 : World) := { x : Fe // x ∈ E ∧ FactOk x.t ∧ atomK w0 [.string x.t.name, x.c1] x.t x.ba }

def D.heldR (v : Value) : Option (DataW Value × List MemPlace) := some (.held v, [])

theorem D.zeroAtom (w : World) : (zeroValue 33).run Tryz.prog w = .ok (.agg #[.string ⟨#[]⟩, .slice none 0 0]) w := by kernel_rfl

theorem D.fit_found {b : Nat} {Lf : List (Value × Value)} {w : World} (hL : MapV isStr b Lf w) (hT : Timed b w) (hn : Lf.length ≤ maxLen) :
    ∃ es ck, w.heap[b]? = some (.map es ck) ∧ es.toList.map (fun e => (e.key, e.val)) = Lf ∧ Go.WideElems.Fit Tryz.prog 9 heldR es ck := by
  obtain ⟨⟨es, ck, hb, he⟩, h2, h3⟩ := hL
  obtain ⟨es', ck', hb', t1, t2⟩ := hT
  rw [hb] at hb'
  cases hb'
  refine ⟨es, ck, hb, he, ⟨?_, ⟨t1, t2, ?_⟩, fun x hx => ?_⟩⟩
  · rw [← he] at hn
    simpa using hn
  · have : es.toList.map (·.key) = Lf.map (·.1) := by rw [← he]; simp
    rw [this]
    exact List.pairwise_map.2 h3
  · obtain ⟨s, e1, e2⟩ := h2 (x.key, x.val) (by rw [← he]; exact List.mem_map.2 ⟨x, hx, rfl⟩)
    refine ⟨(keyL s, .held x.val), ?_⟩
    have e1' : x.key = .string s := e1
    unfold Go.WideElems.rd
    rw [e1', keyOf_s e2]
    rfl

theorem D.owns_found {b : Nat} {Lf : List (Value × Value)} {w : World} (hL : MapV isStr b Lf w) (hT : Timed b w) (hn : Lf.length ≤ maxLen) :
    ∃ M : DataW Value, w.ownsMap Tryz.prog 9 heldR b Lf.length M ∧ ∀ s v, ((.string s : Value), v) ∈ Lf → has M (keyL s) = true := by
  obtain ⟨es, ck, hb, he, hF⟩ := fit_found hL hT hn
  have hown : w.ownsMap Tryz.prog 9 heldR b Lf.length (.map ((es.toList.map (Go.WideElems.rg Tryz.prog 9 heldR)).foldr DataW.insert [])) := ⟨es, ck, hb, hF, by rw [← he]; simp, rfl⟩
  refine ⟨_, hown, fun s v hm => ?_⟩
  have hs : s.size ≤ maxLen := by
    obtain ⟨s', e1, e2⟩ := hL.keys _ hm
    cases e1
    exact e2
  obtain ⟨v', ps, hrun, _⟩ := hown.look_ok lawS Tryz.underlying50 (zeroAtom w) rfl (keyOf_s hs)
  have h2 := run_mapv_hit keyV_str (w := w) trivial true Tryz.underlying50 hL hm
  rw [hrun] at h2
  simp at h2
  exact h2.2

theorem D.found_entry {w : World} {b n r cnt : Nat} {M : DataW Value} {left : Lit → Bool} {Lf : List (Value × Value)} (hL : MapV isStr b Lf w) (h : w.ranges Tryz.prog 9 heldR b r n M left cnt) {s : ByteArray} {v : Value} (hs : s.size ≤ maxLen) (hl : left (keyL s) = true)
    (hat : ∀ zd, M.atKey (keyL s) zd = .held v) : ((.string s : Value), v) ∈ Lf := by
  have hown := h.owns
  obtain ⟨es, ck, since, seen, c0, hb, hF, _, _, _, _, _, _, hl2, _⟩ := h
  obtain ⟨e, he, hk⟩ := hl2 _ hl
  obtain ⟨y, hy⟩ := hF.reads e he
  have hrg : Go.WideElems.rg Tryz.prog 9 heldR e = y := by unfold Go.WideElems.rg; rw [hy]; rfl
  rw [hrg] at hk
  have hke := Go.WideElems.rd_key hy
  rw [hk] at hke
  obtain ⟨x, e1, e2, _⟩ := Maps.keyOf_str Tryz.underlying9 hke
  have hes : e.key = .string s := by
    rw [e1]
    unfold keyL at e2
    have : s.data.toList = x := by simpa using e2
    subst this
    cases s
    simp [encStr]
  obtain ⟨⟨es', ck', hb', he'⟩, h2, h3⟩ := id hL
  rw [hb] at hb'
  cases hb'
  have hmem : ((.string s : Value), e.val) ∈ Lf := by rw [← he', ← hes]; exact List.mem_map.2 ⟨e, he, rfl⟩
  obtain ⟨v', ps, hrun, hR⟩ := hown.look_ok lawS Tryz.underlying50 (zeroAtom w) rfl (keyOf_s hs)
  have h4 := run_mapv_hit keyV_str (w := w) trivial true Tryz.underlying50 hL hmem
  rw [hrun] at h4
  rw [hat] at hR
  simp at h4
  unfold heldR at hR
  simp at hR
  rw [← hR.1, h4.1]
  exact hmem

/-- All have come. -/
def D.AllCame {E : List Fe} {w0 : World} (Lf : List (Value × Value)) (xs : List (FdIn E w0)) : Prop := (xs.map fun x => aText x.1.t).Nodup ∧ ∀ p ∈ Lf, ∃ x ∈ xs, p.1 = .string (aText x.1.t)

set_option maxRecDepth 100000 in
set_option maxHeartbeats 4000000 in
/-- The iterator of maps.Values, for every body of a loop. -/
theorem values1_in (F : Fence) (n : Nat) (hf : F.fn 67) (hro : F.round = none) (hn : 1 ≤ n) (l Bm b : Nat) (E : List Fe) (w0 : World) (Lf : List (Value × Value)) (J Jx : List (FdIn E w0) → World → Prop)
    (hY : ∀ pre x W, J pre W → pre.length < Lf.length → YieldAt F (n - 1) Tryz.prog l #[x.1.val] W fun e W' =>
      (e = .returned (.bool true) ∧ J (pre ++ [x]) W' ∧ KeepsWalks W W') ∨ (e = .returned (.bool false) ∧ Jx (pre ++ [x]) W'))
    (W : World) (hJ : AbidesFrom W.heap.size J) (hm : W.cell? ⟨Bm, 0, none⟩ = some (.map (some b))) (hL : MapV isStr b Lf W) (hT : Timed b W) (hE : ∀ p ∈ Lf, ∃ x : FdIn E w0, p = (.string (aText x.1.t), x.1.val)) (hN : Lf.length ≤ maxLen) (h0 : J [] W) :
    CallsIn F n Tryz.prog 67 #[.func (.yield l) #[] #[], .pointer (some ⟨Bm, 0, none⟩)] W fun e W' => (∃ v, e = .returned v) ∧
      ((∃ xs, AllCame Lf xs ∧ J xs W') ∨ (∃ pre, True ∧ Jx pre W')) := by
  obtain ⟨M, hown, hhas⟩ := owns_found hL hT hN
  refine callsIn_of_wp Tryz.func67 rfl hf ?_ hro
  simp only [Tryz.ntmps67, List.size_toArray, List.length_cons, List.length_nil, Nat.reduceAdd, Nat.reduceSub, Array.replicate_succ, Array.replicate_zero, List.push_toArray, List.append_toArray, List.nil_append, List.cons_append]
  have HH := Lib.hid hhas
  have HL := Lib.hid hL
  have HT := Lib.hid hT
  clear hhas hL hT
  gi_wp2_with (first
    | (gi_at_range; refine wpListIn_range_own _ rfl _ 50 rfl 9 33 lawS Tryz.underlying50 _ b Lf.length _ rfl hown ?_; intro w1 hrg0 hg0 hs0)
    | gi_in)
  go_frame
  have hL1 : MapV isStr b Lf w1 := HL.out.grown hg0 (by simp)
  have hJ1 : J [] w1 := hJ [] W w1 none h0 hg0 (fun r e => by cases e)
  have HRG0 := Lib.hid hrg0
  have HS0 := Lib.hid (And.intro hL1 hJ1)
  have HLE := Lib.hid hown.size_le
  clear hrg0 hL1 hJ1 hown hg0 hs0 h0 hm
  gi_loopw [4] (fun _ wr => ∃ (left : Lit → Bool) (cnt : Nat) (xs : List (FdIn E w0)), wr.ranges Tryz.prog 9 heldR b W.heap.size Lf.length M left cnt ∧ xs.length + cnt ≤ Lf.length ∧ Collected M left (xs.map fun x => (aText x.1.t).data.toList) ∧ MapV isStr b Lf wr ∧ J xs wr)
    (fun _ wr => wr.rangeLeft b W.heap.size)
  case atStart =>
    exact ⟨_, _, [], HRG0.out, by simpa using HLE.out, Collected.start M, HS0.out.1, HS0.out.2⟩
  case round =>
    obtain ⟨left, cnt, xs, hrg, hcs, hC, hLr, hJs⟩ := hrel
    clear HRG0 HS0
    gi_wp2_with (first
      | (gi_at_next; refine wpListIn_next_ranges _ rfl _ rfl 9 lawS heldR encStr id (fun key kl hk => by obtain ⟨x, hx, _⟩ := Maps.keyOf_str Tryz.underlying9 hk; exact ⟨x, hx⟩) (fun v _ _ => ⟨v, rfl⟩) b W.heap.size Lf.length _ _ _ rfl hrg ?_ ?_)
      | gi_in)
    · intro hc0 hl0
      have HZ : Hid (AllCame Lf xs) := Lib.hid (by
        refine ⟨?_, fun p hp => ?_⟩
        · have := hC.1
          rw [show (xs.map fun x => (aText x.1.t).data.toList) = (xs.map fun x => aText x.1.t).map (fun s => s.data.toList) by simp] at this
          exact List.Pairwise.of_map _ (fun a b h e => h (by rw [e])) this
        · obtain ⟨x, rfl⟩ := hE p hp
          have h1 := HH.out _ _ hp
          have h2 := (hC.2 (aText x.1.t).data.toList).2 ⟨h1, hl0 _⟩
          obtain ⟨y, hy, e⟩ := List.mem_map.1 h2
          exact ⟨y, hy, by rw [bytes_inj e]⟩)
      clear hrg hC hcs hLr hl0 hc0
      gi_wp2
      go_end0
      exact ⟨⟨_, rfl⟩, .inl ⟨xs, HZ.out, hJs⟩⟩
    · intro x c kl yd yp w2 cnt2 hkey hlk hv hat hrg2 hlt hg2 hs2 hen
      obtain ⟨x', ex, rfl, hxl⟩ := Maps.keyOf_str Tryz.underlying9 hkey
      obtain rfl : x = x' := encStr_inj ex
      obtain ⟨s, rfl⟩ : ∃ s : ByteArray, x = s.data.toList := ⟨⟨x.toArray⟩, rfl⟩
      have hes : encStr s.data.toList = .string s := by cases s; simp [encStr]
      have hyd : yd = .held c := by
        unfold heldR at hv
        simp at hv
        exact hv.1.symm
      subst hyd
      obtain ⟨X, hX⟩ := hE _ (found_entry hLr hrg (by simpa using hxl) hlk hat)
      simp only [Prod.mk.injEq, Value.string.injEq] at hX
      obtain ⟨rfl, rfl⟩ := hX
      rw [hes] at hen ⊢
      obtain ⟨⟨t, c1, ba⟩, hX1, hX2, hX3⟩ := X
      obtain ⟨Ae, ce, _, hc1⟩ := atom_cells2 hX3
      have hc1' : c1 = .slice Ae t.args.length ce := hc1
      subst hc1'
      obtain ⟨X, hXe⟩ : ∃ X : FdIn E w0, X = ⟨⟨t, .slice Ae t.args.length ce, ba⟩, hX1, hX2, hX3⟩ := ⟨_, rfl⟩
      have hXt : X.1.t = t := by rw [hXe]
      have hXc : X.1.c1 = .slice Ae t.args.length ce := by rw [hXe]
      have hXv : (.agg #[.string t.name, .slice Ae t.args.length ce] : Value) = X.1.val := by rw [hXe]; rfl
      dsimp only [Fe.val] at hen hlk hat ⊢
      have hbr : b ≠ W.heap.size := hrg.ne.symm
      have hL2 : MapV isStr b Lf w2 := hLr.grown hg2 (fun e => hbr (by injection e))
      have hJ2 : J xs w2 := hJ xs wr w2 (some W.heap.size) hJs hg2 (fun r e => by cases e; exact ⟨Nat.le_refl _, hrg.iter_walk⟩)
      have hJ3 : J xs (w2.alloc (.cells #[.string t.name, .slice Ae t.args.length ce] 33)) := hJ xs w2 _ none hJ2 (World.grownBy_alloc _ _ _) (fun r e => by cases e)
      have hrg3 := hrg2.alloc (.cells #[.string t.name, .slice Ae t.args.length ce] 33)
      have hL3 : MapV isStr b Lf (w2.alloc (.cells #[.string t.name, .slice Ae t.args.length ce] 33)) := hL2.grown (World.grownBy_alloc _ _ none) (by simp)
      obtain ⟨fn, tmps, assign, body, hy, hR⟩ := hY xs X _ hJ3 (by omega)
      have HLF := Lib.hid hrg.left_eq
      have HC2 := Lib.hid (hC.step hlk hat)
      have HLT := Lib.hid hlt
      have HCS := Lib.hid hcs
      obtain ⟨⟨es3, ck3, hb3, _⟩, _, _⟩ := id hL3
      have HB3 := Lib.hid hb3
      have HRG3 := Lib.hid hrg3
      have HL3 := Lib.hid hL3
      clear hs2 hC hlk hat hkey hv hlt hcs hrg hrg2 hrg3 hL2 hL3 hJ2 hJ3 hJs hLr hg2 hb3
      rw [← hXv] at hy
      have HX := Lib.hid hXt
      clear hXt hXc hXv hXe
      gi_wp2
      refine hR.mono ?_
      rintro e W3 (⟨rfl, hJ4, hk3⟩ | ⟨rfl, hJx3⟩)
      · have HRG4 := Lib.hid (HRG3.out.of_walks hk3)
        have HL4 : Hid (MapV isStr b Lf W3) := Lib.hid (HL3.out.same (by rw [HB3.out]; exact hk3.same b _ HB3.out rfl))
        clear hy hR
        gi_wp2
        go_roundw
        case rel => exact ⟨_, cnt2, xs ++ [X], HRG4.out, by have := HCS.out; have := HLT.out; simp; omega, by rw [List.map_append, List.map_cons, List.map_nil, HX.out]; exact HC2.out, HL4.out, hJ4⟩
        case measure => rw [HRG4.out.left_eq, HLF.out]; exact HLT.out
      · clear hy hR
        gi_wp2
        refine bodyPost_ret (results_none rfl _ _ _) rfl ?_
        exact ⟨⟨_, rfl⟩, .inr ⟨xs ++ [X], trivial, hJx3⟩⟩

set_option maxHeartbeats 1000000 in
theorem values_in (F : Fence) (n : Nat) (hf : F.fn 28) (hro : F.round = none) (b : Nat) (w : World) :
    CallsIn F n Tryz.prog 28 #[.map (some b)] w fun e w' => e = .returned (.func (.func 67) #[] #[.pointer (some ⟨w.heap.size, 0, none⟩)]) ∧ w' = w.alloc (.cells #[.map (some b)] 50) := by
  refine callsIn_of_wp Tryz.func28 rfl hf ?_ hro
  simp only [Tryz.ntmps28, List.size_toArray, List.length_cons, List.length_nil, Nat.reduceAdd, Nat.reduceSub, Array.replicate_succ, Array.replicate_zero, List.push_toArray, List.append_toArray, List.nil_append, List.cons_append]
  gi_wp2
  go_ret
  exact ⟨rfl, rfl⟩

end Go.Proofs.YtjjfafgaphloaaaGreatDoor
namespace Go.Proofs.YtjjfafgaphloaaaGreatDoor
open Go.RowKit D
set_option linter.unusedVariables false
section
variable {vars : List ByteArray} {fs ps ns : List A} {head : A} {wt : Nat → Bool} {K : Nat → Prop} {sk : Nat} {T : World → List A → Prop} {go : List A → Bool} {b : Bd} {left m : Nat} {L : List Nat} {told ts : List A} {hd more s : Bool} {k : Nat} {w wr w5 w6 : World}
/-- How a run ends. -/
def D.RunRet (vars : List ByteArray) (fs ps ns : List A) (head : A) (K : Nat → Prop) (sk : Nat) (T : World → List A → Prop) (go : List A → Bool) (b : Bd) (left : Nat) (told : List A) (w : World) (e : Ending) (w' : World) : Prop :=
  ∃ held more, e = .returned (.tuple #[.bool held, .bool more]) ∧ RunPost vars fs ps ns head K sk T go b left told held more w w'

theorem D.RunPost.ret (P : RunPost vars fs ps ns head K sk T go b left told hd more w w5) : RunRet vars fs ps ns head K sk T go b left told w (.returned (.tuple #[.bool hd, .bool more])) w5 := ⟨hd, more, rfl, P⟩

theorem D.RunPost.bd {b' : Bd} {held' more' : Bool} {left' : Nat} {told' : List A} (P : RunPost vars fs ps ns head K sk T go b' left' told' held' more' w w6) : BdAt vars b' sk 18 w6 := by
  obtain ⟨_, _, h, _⟩ := P
  exact h

/-- The run as it stands behind k places: what was told, whether something held, whether to go on. -/
structure D.RunInv (vars : List ByteArray) (fs ps ns : List A) (head : A) (K : Nat → Prop) (sk : Nat) (T : World → List A → Prop) (go : List A → Bool) (b : Bd) (left m : Nat) (L : List Nat) (told ts : List A) (hd more : Bool) (k : Nat) (w wr : World) : Prop where
  kept : RunKept K sk w wr
  at_ : BdAt vars b sk 18 wr
  st : T wr (told ++ ts)
  sound : ∀ t ∈ ts, ∃ σ, SolW fs ps ns b left σ ∧ fillW σ head = t
  whole : more = true → ∀ i, i < k → ∀ (h : i < L.length) (j : Nat) (hj : j < fs.length), L[i] = j → ∀ (hm : m < ps.length) σ, SolW fs ps ns b left σ → fillW σ ps[m] = fs[j] → fillW σ head ∈ ts
  held : hd = true → ts ≠ []
  nogo : more = false → go (told ++ ts) = false

theorem D.RunInv.skip (I : RunInv vars fs ps ns head K sk T go b left m L told ts hd true k w wr) (hk : k < L.length) (hj : L[k] < fs.length) (hm : m < ps.length) (hmt : (matchB ps[m] fs[L[k]] b).2 = false)
    (k6 : RunKept K sk wr w6) (at6 : BdAt vars b sk 18 w6) (st6 : T w6 (told ++ ts)) : RunInv vars fs ps ns head K sk T go b left m L told ts hd true (k + 1) w w6 := by
  refine ⟨I.kept.trans k6, at6, st6, I.sound, fun _ i hi h j hj' e hm' σ hσ he => ?_, I.held, fun h => by cases h⟩
  rcases Nat.lt_succ_iff_lt_or_eq.1 hi with h1 | rfl
  · exact I.whole rfl i h1 h j hj' e hm' σ hσ he
  · subst e
    rw [(matchB_words hσ.1 he).1] at hmt
    cases hmt

theorem D.RunInv.took (I : RunInv vars fs ps ns head K sk T go b left m L told ts hd true k w wr) (hl : left < 16) (hp4 : ps.length ≤ 4) (hk : k < L.length) (hj : L[k] < fs.length) (hgr : Gr fs[L[k]]) (hm : m < ps.length) (hbit : left.testBit m = true) (hmt : (matchB ps[m] fs[L[k]] b).2 = true)
    {w4 : World} {held' more' : Bool} (P : RunPost vars fs ps ns head K sk T go (matchB ps[m] fs[L[k]] b).1 (left - 2 ^ m) (told ++ ts) held' more' w4 w5) (k4 : RunKept K sk wr w4) (k6 : RunKept K sk w5 w6) (at6 : BdAt vars b sk 18 w6) (hT : ∀ ts', T w5 ts' → T w6 ts') :
    ∃ ts2, RunInv vars fs ps ns head K sk T go b left m L told ts2 (hd || held') more' (k + 1) w w6 := by
  obtain ⟨ts', p1, p2, p3, p4, p5, p6, p7⟩ := P
  refine ⟨ts ++ ts', I.kept.trans (k4.trans (p1.trans k6)), at6, by rw [← List.append_assoc]; exact hT _ p3, fun t ht => ?_, fun hmo i hi h j hj' e hm' σ hσ he => ?_, fun hh => ?_, fun h => by rw [← List.append_assoc]; exact p7 h⟩
  · rcases List.mem_append.1 ht with ht | ht
    · exact I.sound t ht
    · obtain ⟨σ, h1, h2⟩ := p4 t ht
      exact ⟨σ, h1.back hl hp4 hm hbit (List.getElem_mem _) hgr hmt, h2⟩
  · rcases Nat.lt_succ_iff_lt_or_eq.1 hi with h1 | rfl
    · exact List.mem_append_left _ (I.whole rfl i h1 h j hj' e hm' σ hσ he)
    · subst e
      exact List.mem_append_right _ (p5 hmo σ (hσ.step hl hp4 hm hbit he).2)
  · intro e
    rcases List.append_eq_nil_iff.1 e with ⟨e1, e2⟩
    rcases Bool.or_eq_true_iff.1 hh with h | h
    · exact I.held h e1
    · exact p6 h e2

theorem D.RunInv.drewN {c5 c7 : Addr} (I : RunInv vars fs ps ns head K sk T go b left m L told ts hd more k w wr) (hT : TellOk vars head sk K c5 c7 T go) (hs : sk < w.heap.size) {n : Nat} : RunInv vars fs ps ns head K sk T go b left m L told ts hd more k w (wr.drewN n) := by
  have h2 : Below wr.heap.size wr (wr.drewN n) := bel_drewN (Below.refl _ _) n
  have hs2 := Nat.lt_of_lt_of_le hs I.kept.size
  exact ⟨I.kept.trans (RunKept.of_below hs2 h2), I.at_.keep rfl, hT.keep _ _ _ I.st (BdKept.of_below h2 hs2), I.sound, I.whole, I.held, I.nogo⟩

theorem D.RunInv.off (I : RunInv vars fs ps ns head K sk T go b left m L told ts hd false k w wr) : RunPost vars fs ps ns head K sk T go b left told hd false w wr :=
  ⟨ts, I.kept, I.at_, I.st, I.sound, fun h => absurd h (by decide), I.held, I.nogo⟩

theorem D.RunInv.brk (hc : Cov b head.args) (I : RunInv vars fs ps ns head K sk T go b left m L told ts true true k w wr) : RunPost vars fs ps ns head K sk T go b left told true true w wr :=
  ⟨ts, I.kept, I.at_, I.st, I.sound, fun _ σ hσ => one_told hc I.sound (I.held rfl) σ hσ, I.held, I.nogo⟩

theorem D.RunInv.fin (E : RunEnv vars fs ps ns head wt) {key : WK} {A9 : Option Addr} {c9 : Nat} {bs bx : List Nat} {w3 : World} (C : Chosen fs ps b bs left m A9 c9 key bx w3) (hL : L = idxs fs key) (I : RunInv vars fs ps ns head K sk T go b left m L told ts hd true k w wr) (hk : L.length ≤ k) :
    RunPost vars fs ps ns head K sk T go b left told hd true w wr := by
  refine ⟨ts, I.kept, I.at_, I.st, I.sound, fun _ σ hσ => ?_, I.held, I.nogo⟩
  have hin := hσ.2.1 m C.lt C.bit
  obtain ⟨j, hj, e⟩ := List.getElem_of_mem hin
  have hmt := (matchB_words (f := fs[j]) hσ.1 e.symm).1
  have hkey := C.key_ (ps[m]'C.lt) (List.getElem?_eq_getElem _) fs[j] (E.fok _ (List.getElem_mem hj)).gr hmt
  have hji : j ∈ L := by rw [hL]; exact idxs_mem.2 ⟨hj, hkey⟩
  obtain ⟨i, hi, e2⟩ := List.getElem_of_mem hji
  exact I.whole rfl i (by omega) hi j hj e2 C.lt σ hσ e.symm

end
/-- What follows at once, by words. -/
def D.FolW (fs : List A) (r : Ru) (t : A) : Prop := ∃ σ : Wo, t = fillW σ r.head ∧ (∀ p ∈ r.body, p.no = false → fillW σ p.atom ∈ fs) ∧ ∀ p ∈ r.body, p.no = true → fillW σ p.atom ∉ fs

/-- A rule that may be followed. -/
structure D.RuleFol (r : Ru) : Prop where
  hok : atomOk r.head = true
  pok : ∀ p ∈ r.body, atomOk p.atom = true
  few : r.body.length ≤ 4
  tight : Tight r

theorem D.posA_mem {body : List Pt} {a : A} : a ∈ posA body ↔ ∃ p ∈ body, p.no = false ∧ p.atom = a := by
  unfold posA
  rw [List.mem_map]
  constructor
  · rintro ⟨p, hp, rfl⟩
    obtain ⟨h1, h2⟩ := List.mem_filter.1 hp
    exact ⟨p, h1, by simpa using h2, rfl⟩
  · rintro ⟨p, h1, h2, rfl⟩
    exact ⟨p, List.mem_filter.2 ⟨h1, by simpa using h2⟩, rfl⟩

theorem D.negA_mem {body : List Pt} {a : A} : a ∈ negA body ↔ ∃ p ∈ body, p.no = true ∧ p.atom = a := by
  unfold negA
  rw [List.mem_map]
  constructor
  · rintro ⟨p, hp, rfl⟩
    obtain ⟨h1, h2⟩ := List.mem_filter.1 hp
    exact ⟨p, h1, h2, rfl⟩
  · rintro ⟨p, h1, h2, rfl⟩
    exact ⟨p, List.mem_filter.2 ⟨h1, h2⟩, rfl⟩

theorem D.sum_three : ∀ (l : List Pt), (∀ p ∈ l, atomOk p.atom = true) → sumL (fun p : Pt => p.atom.args.length) l ≤ l.length * 3
  | [], _ => Nat.zero_le _
  | p :: l, h => by
    have h1 := sum_three l fun q hq => h q (List.mem_cons_of_mem _ hq)
    have h2 := arg_few (h p (List.mem_cons_self ..))
    have h3 : sumL (fun p : Pt => p.atom.args.length) (p :: l) = p.atom.args.length + sumL (fun p : Pt => p.atom.args.length) l := by simp [sumL]
    rw [h3, List.length_cons, Nat.add_mul]
    omega

theorem D.vars_ok {r : Ru} (R : RuleFol r) : VarsOk (bodyVars r.body) := by
  refine ⟨?_, ascS_nodup (varsPs_asc r.body ascS_nil)⟩
  have h1 := varsPs_len r.body []
  have h2 := sum_three r.body R.pok
  have h3 := R.few
  show (varsPs r.body []).length ≤ 12
  simp at h1
  omega

theorem D.vars_in {ps : List Pt} : ∀ p ∈ ps, ∀ t ∈ p.atom.args, t.var = true → t.name ∈ bodyVars ps := fun p hp t ht htv => (varsPs_mem ps [] _).2 (.inr ⟨p, hp, t, ht, htv, rfl⟩)

theorem D.run_env {fs : List A} {r : Ru} (R : RuleFol r) (hfs : ∀ f ∈ fs, FactOk f) (hfl : fs.length ≤ 1000000) {wt : Nat → Bool} (hwt : ∀ i, i < 12 → wt i = matB (bodyVars r.body) r.head (negA r.body) i) :
    RunEnv (bodyVars r.body) fs (posA r.body) (negA r.body) r.head wt := by
  have hf := R.few
  have l1 : (posA r.body).length ≤ r.body.length := by unfold posA; rw [List.length_map]; exact List.length_filter_le _ _
  have l2 : (negA r.body).length ≤ r.body.length := by unfold negA; rw [List.length_map]; exact List.length_filter_le _ _
  refine ⟨vars_ok R, by omega, hfl, by omega, hfs, fun p hp => ?_, fun n hn => ?_, R.hok, fun p hp => ?_, fun n hn => ?_, fun t ht htv => ?_, hwt, fun b hb => ?_⟩
  · obtain ⟨q, h1, _, rfl⟩ := posA_mem.1 hp; exact R.pok q h1
  · obtain ⟨q, h1, _, rfl⟩ := negA_mem.1 hn; exact R.pok q h1
  · obtain ⟨q, h1, _, rfl⟩ := posA_mem.1 hp; exact vars_in q h1
  · obtain ⟨q, h1, _, rfl⟩ := negA_mem.1 hn; exact vars_in q h1
  · obtain ⟨p, hp, _, hv⟩ := R.tight t.name (.inl ⟨t, ht, htv, rfl⟩)
    exact (varsPs_mem r.body [] _).2 (.inr ⟨p, hp, hv⟩)
  · obtain ⟨h1, h2⟩ := cov_tight R.tight (b := b) fun p hp hn => hb _ (posA_mem.2 ⟨p, hp, hn, rfl⟩)
    exact ⟨h1, fun n hn => by obtain ⟨q, h3, _, rfl⟩ := negA_mem.1 hn; exact h2 q h3⟩

/-- What a whole search tells is what follows. -/
theorem D.told_fol {fs : List A} {r : Ru} (R : RuleFol r) {ts : List A} (h1 : ∀ t ∈ ts, ∃ σ, SolW fs (posA r.body) (negA r.body) [] (2 ^ (posA r.body).length - 1) σ ∧ fillW σ r.head = t)
    (h2 : ∀ σ, SolW fs (posA r.body) (negA r.body) [] (2 ^ (posA r.body).length - 1) σ → fillW σ r.head ∈ ts) (t : A) : t ∈ ts ↔ FolW fs r t := by
  constructor
  · intro h
    obtain ⟨σ, ⟨_, g2, g3⟩, rfl⟩ := h1 t h
    refine ⟨σ, rfl, fun p hp hn => ?_, fun p hp hn => g3 _ (negA_mem.2 ⟨p, hp, hn, rfl⟩)⟩
    obtain ⟨j, hj, e⟩ := List.getElem_of_mem (posA_mem.2 ⟨p, hp, hn, rfl⟩)
    rw [← e]
    exact g2 j hj (by rw [Nat.testBit_two_pow_sub_one]; simpa using hj)
  · rintro ⟨σ, rfl, g1, g2⟩
    refine h2 σ ⟨fun n v h => by simp [getB] at h, fun j hj _ => ?_, fun n hn => ?_⟩
    · obtain ⟨p, hp, hn, e⟩ := posA_mem.1 (List.getElem_mem hj)
      rw [← e]; exact g1 p hp hn
    · obtain ⟨p, hp, hn', rfl⟩ := negA_mem.1 hn
      exact g2 p hp hn'

theorem D.fill_fact {r : Ru} (R : RuleFol r) {b : Bd} (hw : WdsOk b) (hc : Cov b r.head.args) : FactOk (fillB r.head b) := fill_ok R.hok hw hc

end Go.Proofs.YtjjfafgaphloaaaGreatDoor
