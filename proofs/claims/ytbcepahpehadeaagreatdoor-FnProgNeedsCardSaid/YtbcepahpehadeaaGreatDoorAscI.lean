/- The walks of impl.ascendingKeys and impl.ProgNames. -/
import Derived.WalkKit
import Derived.Lib.Hide
import Derived.WalkSpells
import Derived.WalkLawsBesides
import Derived.BigQuiet
import Derived.Maps.RangeWalk
import Derived.Sort.KeysCollected
import Derived.Deep.AppendLies
import Derived.Test.YtbcepahpehadeaaGreatDoorProg
import Derived.Test.YtbcepahpehadeaaGreatDoorMapF
import Derived.Test.YtbcepahpehadeaaGreatDoorSortS
import Derived.Test.YtbcepahpehadeaaGreatDoorCollN
import Derived.Test.YtbcepahpehadeaaGreatDoorHdI
namespace Go.Proofs.YtbcepahpehadeaaGreatDoor
open Go.RowKit Go.Maps Go.Sort D
set_option linter.unusedVariables false
attribute [local go_sem ↓] Go.wp_at_zero Go.wp_at_succ

theorem infoStrN : (Tryz.prog.info? 9).map (fun i => (i.zero, i.size, i.bytes)) = some (some (.string ⟨#[]⟩), 1, 16) := by kernel_rfl

/-- Texts in order, each once. -/
def D.ascOf (L : List ByteArray) : List ByteArray := L.foldl putS []
theorem D.ascOf_fold : ∀ (L out : List ByteArray), ascS out → ascS (L.foldl putS out) ∧ ∀ x, x ∈ L.foldl putS out ↔ x ∈ out ∨ x ∈ L
  | [], out, h => ⟨h, fun x => by simp⟩
  | s :: L, out, h => by
    obtain ⟨h1, h2⟩ := ascOf_fold L (putS out s) (putS_asc s h)
    refine ⟨h1, fun x => ?_⟩
    rw [List.foldl_cons, h2, putS_mem, List.mem_cons, or_assoc]
theorem D.ascOf_asc (L : List ByteArray) : ascS (ascOf L) := (ascOf_fold L [] ascS_nil).1
theorem D.ascOf_mem (L : List ByteArray) (x : ByteArray) : x ∈ ascOf L ↔ x ∈ L := by
  have := (ascOf_fold L [] ascS_nil).2 x
  simpa [ascOf] using this
theorem D.ascOf_len : ∀ (L out : List ByteArray), (L.foldl putS out).length ≤ out.length + L.length
  | [], out => by simp
  | s :: L, out => by
    have h1 := ascOf_len L (putS out s)
    have h2 := putS_len out s
    rw [List.foldl_cons, List.length_cons]; omega
theorem D.map_bytes_inj : ∀ {a b : List ByteArray}, a.map (·.data.toList) = b.map (·.data.toList) → a = b
  | [], b, h => by cases b; rfl; simp at h
  | x :: a, b, h => by
    cases b with
    | nil => simp at h
    | cons y b => simp only [List.map_cons, List.cons.injEq] at h; rw [bytes_inj h.1, map_bytes_inj h.2]
theorem D.ascS_ext {a b : List ByteArray} (ha : ascS a) (hb : ascS b) (h : ∀ x, x ∈ a ↔ x ∈ b) : a = b := by
  refine map_bytes_inj (asc_one (List.pairwise_map.2 (ha.imp fun {a b} h => (ltU_iff _ _).2 h)) (List.pairwise_map.2 (hb.imp fun {a b} h => (ltU_iff _ _).2 h)) fun x => ?_)
  simp only [List.mem_map]
  exact ⟨fun ⟨y, hy, e⟩ => ⟨y, (h y).1 hy, e⟩, fun ⟨y, hy, e⟩ => ⟨y, (h y).2 hy, e⟩⟩
theorem D.ascOf_ext {a b : List ByteArray} (h : ∀ x, x ∈ a ↔ x ∈ b) : ascOf a = ascOf b := ascS_ext (ascOf_asc a) (ascOf_asc b) fun x => by rw [ascOf_mem, ascOf_mem, h]
/-- Texts that do not come twice, sorted. -/
theorem D.sort_asc {xs ys L : List ByteArray} (hn : (xs.map (·.data.toList)).Nodup) (hm : ∀ x, x ∈ xs ↔ x ∈ L) (hy : ys.map (·.data.toList) = (xs.map (·.data.toList)).mergeSort leB) : ys = ascOf L := by
  have hp := List.mergeSort_perm (xs.map (·.data.toList)) leB
  have hnd : (ys.map (·.data.toList)).Nodup := by rw [hy]; exact hp.nodup_iff.2 hn
  have hle : (ys.map (·.data.toList)).Pairwise (fun a b => a ≤ b) := by rw [hy]; exact sorted_sort _
  have hlt : (ys.map (·.data.toList)).Pairwise (fun a b => a < b) := (hle.and hnd).imp fun {a b} h => by
    rcases List.le_iff_lt_or_eq.1 h.1 with h1 | h1
    · exact h1
    · exact absurd h1 h.2
  refine map_bytes_inj (asc_one hlt (List.pairwise_map.2 ((ascOf_asc L).imp fun {a b} h => (ltU_iff _ _).2 h)) fun b => ?_)
  rw [hy, hp.mem_iff]
  simp only [List.mem_map]
  exact ⟨fun ⟨y, h, e⟩ => ⟨y, (ascOf_mem L y).2 ((hm y).1 h), e⟩, fun ⟨y, h, e⟩ => ⟨y, (hm y).2 ((ascOf_mem L y).1 h), e⟩⟩

set_option maxRecDepth 100000 in
set_option maxHeartbeats 2000000 in
theorem ascendingKeys_any (B n : Nat) (L : List ByteArray) (f : ByteArray → Int) (w : World) (hM : MapF B n L f w) (hn : L.length ≤ 1000000) :
    Calls Tryz.prog 42 #[.map (some B)] w (Makes strsK (ascOf L) w.heap.size w) := by
  by_cases h0 : L.length = 0
  · have hL : L = [] := List.length_eq_zero_iff.1 h0
    subst hL
    have HM := Lib.hid hM
    clear hM h0
    go_enter Tryz.func42, Tryz.ntmps42
    go_wp2_with (first | (at_len; refine wpList_mapf_len _ rfl _ _ rfl Tryz.underlying69 _ _ _ _ rfl HM.out ?_) | go_in)
    go_ret
    exact ⟨Below.refl _ _, _, [], rfl, ⟨_, _, rfl, Nat.le_refl _, Nat.zero_le _, fun _ => rfl, fun h => absurd rfl h⟩, New.nil _ _⟩
  · have HM := Lib.hid hM
    obtain ⟨⟨M, h1, h2, h3, h4⟩, h5, h6⟩ := hM
    have H1 := Lib.hid h1
    have H2 := Lib.hid h2
    have H3 := Lib.hid h3
    have H6 := Lib.hid h6
    have hbl := h1.lt
    have hpos : ¬ ((L.length : Nat) : Int) = 0 := by omega
    have hln : (L.length : Int) ≤ 1000000 := by omega
    obtain ⟨i0, hi, hz0, hz1, hz2⟩ := info_parts infoStrN
    clear h1 h2 h3 h4 h5 h6 h0
    go_enter Tryz.func42, Tryz.ntmps42
    go_wp2_with (first
      | (at_len; refine wpList_mapf_len _ rfl _ _ rfl Tryz.underlying69 _ _ _ _ rfl HM.out ?_)
      | (at_make; refine wpList_make_own _ rfl _ _ 34 rfl w.heap.size 9 i0 (.string ⟨#[]⟩) 1 Tryz.underlying34 hi hz0 hz1 .i64 .i64 _ L.length rfl rfl rfl (by rw [hz2]; omega) (by unfold maxLen; omega) (Nat.le_refl _) ?_; intro w1 hrow1 hg1)
      | (at_range; refine wpList_range_own _ rfl _ _ rfl _ _ lawS Tryz.underlying69 _ B n _ rfl (H1.out.kept hg1 (by simp)) ?_; intro w0 hrg0 hg0 hs0)
      | go_in)
    go_frame
    have hB0 : Below w.heap.size w w0 := ((Below.refl _ _).grown hg1 (Nat.le_refl _) (fun j hj => by cases hj)).grown hg0 hg1.size (fun j hj => by cases hj)
    have HC0 : Hid (Coll 1 strK w.heap.size 9 w0 (.slice (some ⟨w.heap.size, 0, none⟩) 0 L.length) [] [] []) := Lib.hid ⟨hrow1.kept hg0 (Or.inr (by simp [Value.ownBlock])), Rowed.nil, fun b hb => by simp at hb⟩
    have HR0 := Lib.hid hrg0
    have HB0 := Lib.hid hB0
    have hw1 : w.heap.size ≤ w1.heap.size := hg1.size
    obtain ⟨r, hr⟩ : ∃ r, r = w1.heap.size := ⟨_, rfl⟩
    have hrr : w.heap.size ≤ r := by omega
    rw [← hr] at HR0 ⊢
    clear hrow1 hg1 hrg0 hg0 hs0 hB0 hw1 hr
    go_loopw [3] (fun v wr => ∃ (left : Lit → Bool) (cnt : Nat) (xs : List ByteArray) (Av : Option Addr) (cp : Nat) (L2 : List Value), wr.ranges Tryz.prog 9 (plainElem Tryz.prog 3) B r n M left cnt ∧ xs.length + cnt ≤ L.length ∧
      v = .slice Av xs.length cp ∧ Coll 1 strK w.heap.size 9 wr (.slice Av xs.length cp) L2 xs [] ∧ Collected M left (xs.map (·.data.toList)) ∧ Below w.heap.size w wr) (fun _ wr => wr.rangeLeft B r)
    case atStart => exact ⟨_, _, [], _, _, _, HR0.out, by rw [H2.out]; simp, rfl, HC0.out, Collected.start M, HB0.out⟩
    case round =>
      clear HC0 HR0 HB0
      obtain ⟨left, cnt, xs, Av, cp, L2, hrg, hcs, rfl, hC, hCol, hB⟩ := hrel
      have HRG := Lib.hid hrg
      have HC := Lib.hid hC
      have HCol := Lib.hid hCol
      have HB := Lib.hid hB
      have HCS := Lib.hid hcs
      clear hrg hC hCol hB hcs
      go_wp2_with (first
        | (at_next; refine wpList_next_ranges _ rfl _ rfl 9 lawS (plainElem Tryz.prog 3) encStr (Value.int .i64) (fun key kl hk => by obtain ⟨x, hx, _⟩ := Maps.keyOf_str Tryz.underlying9 hk; exact ⟨x, hx⟩) (fun v y hv => by obtain ⟨c, rfl, _⟩ := plainElem_int_inv Tryz.underlying3 hv; exact ⟨c, rfl⟩) B r n _ _ _ rfl HRG.out ?_ ?_)
        | go_in)
      · intro hc0 hl0
        have HMEM : Hid (∀ x, x ∈ xs ↔ x ∈ L) := Lib.hid fun x => by
          have h1 := HCol.out.2 x.data.toList
          rw [hl0] at h1
          have h2 := H3.out x
          unfold keyL at h2
          rw [h2] at h1
          simp only [and_true, decide_eq_true_eq] at h1
          rw [← h1, List.mem_map]
          exact ⟨fun h => ⟨x, h, rfl⟩, fun ⟨y, hy, e⟩ => by rw [← bytes_inj e]; exact hy⟩
        have HND := Lib.hid HCol.out.1
        have hxl : xs.length ≤ 16777216 := by have := HCS.out; omega
        clear hl0 hc0 HRG HCS HCol
        go_wp2_with fail
        refine (sortS_any xs _ L2 w.heap.size wr HC.out hxl).mono ?_
        rintro e w2 ⟨rfl, ys, hys, hyl, hC2, hg2⟩
        have hya : ys = ascOf L := sort_asc HND.out HMEM.out hys
        obtain ⟨b9, hs9, hn9⟩ := hC2.new (New.nil _ _)
        have B3 := own_grown HB.out HC.out.own (Nat.le_refl _) HB.out.size hg2
        have HZ : Hid (Makes strsK (ascOf L) w.heap.size w (.returned (.slice Av xs.length cp)) w2) := Lib.hid ⟨B3, _, b9, rfl, by rw [← hya]; exact hs9, hn9⟩
        clear hys hyl hC2 hg2 hya hs9 hn9 B3
        go_wp2
        go_ret
        exact HZ.out
      · intro x c kl yd yp w2 cnt2 hkey hlk hv hat hrg2 hlt hg2 hs2 hen
        obtain ⟨x', ex, rfl, hxl⟩ := Maps.keyOf_str Tryz.underlying9 hkey
        obtain rfl : x = x' := encStr_inj ex
        obtain ⟨s, rfl⟩ : ∃ s : ByteArray, x = s.data.toList := ⟨⟨x.toArray⟩, rfl⟩
        have hes : encStr s.data.toList = .string s := by cases s; simp [encStr]
        rw [hes] at hen ⊢
        have hsz : s.size ≤ maxLen := by simpa using hxl
        have hCk : Coll 1 strK w.heap.size 9 w2 (.slice Av xs.length cp) L2 xs [] := ⟨HC.out.own.kept hg2 (Or.inr (row_ne_iter HC.out.own HRG.out).symm), HC.out.row.keep strK_good fun b hb => by simp at hb, fun b hb => by simp at hb⟩
        have hB2 : Below w.heap.size w w2 := HB.out.grown hg2 HB.out.size fun j hj => by cases hj; exact hrr
        have hA : Below w2.heap.size w2 (w2.alloc (.cells #[.string s] 9)) := (Below.refl _ _).alloc (Nat.le_refl _) _
        have HNL : Hid (some B ≠ (Value.slice Av xs.length cp).ownBlock ∧ some r ≠ (Value.slice Av xs.length cp).ownBlock) := Lib.hid ⟨row_ne_low hCk.own hbl, row_ne_iter hCk.own hrg2⟩
        have HRG2 := Lib.hid (hrg2.alloc (.cells #[.string s] 9))
        have HCA := Lib.hid (hCk.below strK_good hA)
        have HBA := Lib.hid (hB2.trans (hA.mono hB2.size))
        have HR2 : Hid (Rowed 1 strK (w2.alloc (.cells #[.string s] 9)) [.string s] [s] []) := Lib.hid (Rowed.one_el strK_ones ⟨rfl, hsz, rfl⟩)
        have HL2 : Hid (Lies (w2.alloc (.cells #[.string s] 9)) (some ⟨w2.heap.size, 0, none⟩) [.string s]) := Lib.hid (by have := lies_block (heap_alloc_new w2 (.cells #[.string s] 9)); simpa using this)
        have HST := Lib.hid (HCol.out.step hlk hat)
        have HLT := Lib.hid hlt
        have HK : Hid (xs.length + 1 ≤ maxLen ∧ (xs.length + 1) * 16 ≤ 140737488355328) := Lib.hid (by have := HCS.out; unfold maxLen; omega)
        have HLF := Lib.hid HRG.out.left_eq
        clear hCk hB2 hA hrg2 hlk hat hlt hg2 hs2 hkey hv hxl hes hsz HRG HC HCol HB
        go_wp2_with (first
          | (at_builtin; refine wpList_coll rfl _ _ _ rfl w.heap.size 9 i0 (.string ⟨#[]⟩) 1 16 Tryz.underlying34 hi hz0 hz1 hz2 rfl (by omega) strK_good (.slice Av xs.length cp) xs.length _ _ _ rfl HCA.out rfl (some ⟨w2.heap.size, 0, none⟩) 1 1 _ [s] _ rfl HR2.out rfl HL2.out (fun b hb => by simp at hb) HK.out.1 HK.out.2 w w.heap.size HBA.out (Nat.le_refl _) HBA.out.size ?_; intro A2 cp2 w3 hC3 hB3 hS3 hG3; (have HC3 := Lib.hid hC3); (have HB3 := Lib.hid hB3); (have HRG3 := Lib.hid (HRG2.out.kept hG3 HNL.out.1 HNL.out.2)); clear hC3 hB3 hS3 hG3; go_frame)
          | go_in)
        go_roundw
        case rel => exact ⟨_, cnt2, xs ++ [s], A2, cp2, _, HRG3.out, by have h1 := HCS.out; have h2 := HLT.out; simp; omega, by simp, by rw [List.length_append]; exact HC3.out, by rw [List.map_append]; exact HST.out, HB3.out⟩
        case measure => rw [HRG3.out.left_eq, HLF.out]; exact HLT.out

set_option maxHeartbeats 1000000 in
theorem progNames_impl (rs : List Ru) (v : Value) (bs : List Nat) (w : World) (h : rulesK w [v] rs bs) (hg : LaidE w) :
    Calls Tryz.prog 16 #[v] w (Makes strsK (if progC rs = 0 then ascOf ((allAtoms rs).map (·.name)) else []) w.heap.size w) := by
  have c1 := progFine_any rs v bs w h hg
  have C2 := Lib.hid fun w' (hb : Below w.heap.size w w') (hok : rs.all ruleOk = true) (hf : rs.length ≤ 8) => argsOf_any rs v bs w' (rulesK_good.below h hb) hok hf
  clear h hg
  by_cases hp : progC rs = 0
  · have hfi := (fine_iff rs).1 hp
    have HF := Lib.hid hfi
    have HL : Hid ((argSt (allAtoms rs)).1.length ≤ 1000000) := Lib.hid (by have h1 := (argSt_is (allAtoms rs)).2.1; have h2 := (allAtoms_few hfi.ok).2; have := hfi.few; omega)
    have HE : Hid (ascOf (argSt (allAtoms rs)).1 = ascOf ((allAtoms rs).map (·.name))) := Lib.hid (ascOf_ext fun x => by rw [(argSt_is (allAtoms rs)).1, List.mem_map])
    rw [if_pos hp]
    rw [decide_eq_true hp] at c1
    clear hp hfi
    go_enter Tryz.func16, Tryz.ntmps16
    go_wp2_with fail
    refine c1.mono ?_
    rintro e w1 ⟨rfl, hb1⟩
    clear c1
    go_wp2_with fail
    refine (C2.out _ hb1 HF.out.ok HF.out.few).mono ?_
    rintro e w2 ⟨rfl, n, hM, hb2⟩
    have B2 := hb1.trans (hb2.mono hb1.size)
    have c3 := ascendingKeys_any _ n _ _ w2 hM HL.out
    clear hM hb1 hb2 C2
    go_wp2_with fail
    refine c3.mono ?_
    rintro e w3 ⟨hb3, v3, bs3, rfl, hs3, hn3⟩
    have HZ : Hid (Makes strsK (ascOf ((allAtoms rs).map (·.name))) w.heap.size w (.returned v3) w3) := Lib.hid ⟨B2.trans (hb3.mono B2.size), v3, bs3, rfl, by rw [← HE.out]; exact hs3, hn3.mono B2.size⟩
    clear hs3 hn3 hb3 B2 c3
    go_wp2
    go_ret
    exact HZ.out
  · rw [if_neg hp]
    rw [decide_eq_false hp] at c1
    clear hp C2
    go_enter Tryz.func16, Tryz.ntmps16
    go_wp2_with fail
    refine c1.mono ?_
    rintro e w1 ⟨rfl, hb1⟩
    go_wp2
    go_ret
    exact ⟨hb1, _, [], rfl, ⟨_, _, rfl, Nat.le_refl _, Nat.zero_le _, fun _ => rfl, fun h => absurd rfl h⟩, New.nil _ _⟩

end Go.Proofs.YtbcepahpehadeaaGreatDoor

namespace Go.Proofs.YtbcepahpehadeaaGreatDoor.D
open Go.RowKit
set_option linter.unusedVariables false

/-- A name is needed by another one. -/
inductive Reach (rs : List Ru) (s : ByteArray) : ByteArray → Prop
  | self : Reach rs s s
  | step {r : Ru} {p : Pt} : Reach rs s r.head.name → r ∈ rs → p ∈ r.body → Reach rs s p.atom.name
theorem Reach.trans {rs : List Ru} {s t x : ByteArray} (h : Reach rs s t) (k : Reach rs t x) : Reach rs s x := by
  induction k with
  | self => exact h
  | step _ hr hp ih => exact .step ih hr hp
def allNames (rs : List Ru) : List ByteArray := (allAtoms rs).map (·.name)
theorem body_name {rs : List Ru} {r : Ru} {p : Pt} (hr : r ∈ rs) (hp : p ∈ r.body) : p.atom.name ∈ allNames rs :=
  List.mem_map.2 ⟨p.atom, List.mem_flatMap.2 ⟨r, hr, List.mem_cons_of_mem _ (List.mem_map.2 ⟨p, hp, rfl⟩)⟩, rfl⟩
theorem reach_name {rs : List Ru} {s x : ByteArray} (h : Reach rs s x) : x = s ∨ x ∈ allNames rs := by
  cases h with
  | self => exact .inl rfl
  | step _ hr hp => exact .inr (body_name hr hp)
open Classical in
noncomputable def needs (rs : List Ru) (s : ByteArray) : List ByteArray := ascOf ((s :: allNames rs).filter fun x => decide (Reach rs s x))
theorem needs_mem {rs : List Ru} {s x : ByteArray} : x ∈ needs rs s ↔ Reach rs s x := by
  unfold needs
  rw [ascOf_mem, List.mem_filter]
  simp only [decide_eq_true_eq]
  exact ⟨fun h => h.2, fun h => ⟨(reach_name h).elim (fun e => e ▸ List.mem_cons_self ..) (fun h => List.mem_cons_of_mem _ h), h⟩⟩
theorem needs_asc (rs : List Ru) (s : ByteArray) : ascS (needs rs s) := ascOf_asc _
theorem needs_len (rs : List Ru) (s : ByteArray) : (needs rs s).length ≤ (allNames rs).length + 1 := by
  unfold needs ascOf
  refine Nat.le_trans (ascOf_len _ []) ?_
  rw [List.length_nil, Nat.zero_add]
  refine Nat.le_trans (List.length_filter_le _ _) ?_
  simp
/-- What holds the name, and with each name all that it needs at once, and nothing else. -/
theorem needs_of {rs : List Ru} {s : ByteArray} {L : List ByteArray} (h1 : s ∈ L) (h2 : ∀ x ∈ L, Reach rs s x) (h3 : ∀ r ∈ rs, r.head.name ∈ L → ∀ p ∈ r.body, p.atom.name ∈ L) : ∀ x, x ∈ L ↔ Reach rs s x := fun x =>
  ⟨h2 x, fun h => by
    induction h with
    | self => exact h1
    | step _ hr hp ih => exact h3 _ hr ih _ hp⟩
theorem needs_asc_of {rs : List Ru} {s : ByteArray} {L : List ByteArray} (h0 : ascS L) (h1 : s ∈ L) (h2 : ∀ x ∈ L, Reach rs s x) (h3 : ∀ r ∈ rs, r.head.name ∈ L → ∀ p ∈ r.body, p.atom.name ∈ L) : L = needs rs s :=
  ascS_ext h0 (needs_asc rs s) fun x => (needs_of h1 h2 h3 x).trans needs_mem.symm
theorem needs_ascOf {rs : List Ru} {s : ByteArray} {L : List ByteArray} (h1 : s ∈ L) (h2 : ∀ x ∈ L, Reach rs s x) (h3 : ∀ r ∈ rs, r.head.name ∈ L → ∀ p ∈ r.body, p.atom.name ∈ L) : ascOf L = needs rs s :=
  ascS_ext (ascOf_asc L) (needs_asc rs s) fun x => (ascOf_mem L x).trans ((needs_of h1 h2 h3 x).trans needs_mem.symm)

/-! The reference goes in depth: what a call leaves. -/
structure Dfs (rs : List Ru) (s : ByteArray) (out out' : List ByteArray) : Prop where
  asc : ascS out'
  old : ∀ x ∈ out, x ∈ out'
  has : s ∈ out'
  new : ∀ x ∈ out', x ∉ out → Reach rs s x
  shut : ∀ r ∈ rs, r.head.name ∈ out' → r.head.name ∉ out → ∀ p ∈ r.body, p.atom.name ∈ out'
/-- On the way: the rules ahead of i are done, of rule i the parts ahead of j. -/
structure Dfi (rs : List Ru) (s : ByteArray) (out : List ByteArray) (i j : Nat) (cur : List ByteArray) : Prop where
  asc : ascS cur
  old : ∀ x ∈ out, x ∈ cur
  has : s ∈ cur
  new : ∀ x ∈ cur, x ∉ out → Reach rs s x
  shut : ∀ r ∈ rs, r.head.name ∈ cur → r.head.name ∉ out → r.head.name ≠ s → ∀ p ∈ r.body, p.atom.name ∈ cur
  done : ∀ r ∈ rs.take i, r.head.name = s → ∀ p ∈ r.body, p.atom.name ∈ cur
  now : ∀ r, rs[i]? = some r → r.head.name = s → ∀ p ∈ r.body.take j, p.atom.name ∈ cur
theorem dfs_skip {rs : List Ru} {s : ByteArray} {out : List ByteArray} (ha : ascS out) (h : s ∈ out) : Dfs rs s out out := ⟨ha, fun x h => h, h, fun x h1 h2 => absurd h1 h2, fun r _ h1 h2 => absurd h1 h2⟩
theorem dfi_start {rs : List Ru} {s : ByteArray} {out : List ByteArray} (ha : ascS out) (h : s ∉ out) : Dfi rs s out 0 0 (putS out s) := by
  refine ⟨putS_asc s ha, fun x h => (putS_mem out s x).2 (.inl h), (putS_mem out s s).2 (.inr rfl), fun x h1 h2 => ?_, fun r hr h1 h2 h3 => ?_, fun r h => by simp at h, fun r _ _ p h => by simp at h⟩
  · rw [((putS_mem out s x).1 h1).resolve_left h2]; exact .self
  · exact absurd (((putS_mem out s _).1 h1).resolve_left h2) h3
theorem dfi_row {rs : List Ru} {s : ByteArray} {out cur : List ByteArray} {i j : Nat} (h : Dfi rs s out i j cur) (hi : i < rs.length) (hd : rs[i].head.name = s → rs[i].body.length ≤ j) : Dfi rs s out (i + 1) 0 cur := by
  refine ⟨h.asc, h.old, h.has, h.new, h.shut, fun r hr e => ?_, fun r _ _ p hp => by simp at hp⟩
  rw [List.take_succ_eq_append_getElem hi] at hr
  rcases List.mem_append.1 hr with hr | hr
  · exact h.done r hr e
  · rw [List.mem_singleton.1 hr] at e ⊢
    have := h.now _ (List.getElem?_eq_getElem hi) e
    rwa [List.take_of_length_le (hd e)] at this
theorem dfi_step {rs : List Ru} {s : ByteArray} {out cur cur' : List ByteArray} {i j : Nat} (h : Dfi rs s out i j cur) (hi : i < rs.length) (e : rs[i].head.name = s) (hj : j < rs[i].body.length) (hd : Dfs rs rs[i].body[j].atom.name cur cur') : Dfi rs s out i (j + 1) cur' := by
  have hmem : rs[i] ∈ rs := List.getElem_mem hi
  have hpm : rs[i].body[j] ∈ rs[i].body := List.getElem_mem hj
  have hreach : Reach rs s rs[i].body[j].atom.name := .step (e ▸ .self) hmem hpm
  refine ⟨hd.asc, fun x hx => hd.old x (h.old x hx), hd.old s h.has, fun x h1 h2 => ?_, fun r hr h1 h2 h3 p hp => ?_, fun r hr e2 p hp => hd.old _ (h.done r hr e2 p hp), fun r hr e2 p hp => ?_⟩
  · by_cases hc : x ∈ cur
    · exact h.new x hc h2
    · exact hreach.trans (hd.new x h1 hc)
  · by_cases hc : r.head.name ∈ cur
    · exact hd.old _ (h.shut r hr hc h2 h3 p hp)
    · exact hd.shut r hr h1 hc p hp
  · have hr' : rs[i] = r := Option.some.inj ((List.getElem?_eq_getElem hi).symm.trans hr)
    subst hr'
    rw [List.take_succ_eq_append_getElem hj] at hp
    rcases List.mem_append.1 hp with hp | hp
    · exact hd.old _ (h.now _ hr e2 p hp)
    · rw [List.mem_singleton.1 hp]; exact hd.has
theorem dfi_end {rs : List Ru} {s : ByteArray} {out cur : List ByteArray} (h : Dfi rs s out rs.length 0 cur) : Dfs rs s out cur :=
  ⟨h.asc, h.old, h.has, h.new, fun r hr h1 h2 p hp => by
    by_cases e : r.head.name = s
    · exact h.done r (by rw [List.take_of_length_le (Nat.le_refl _)]; exact hr) e p hp
    · exact h.shut r hr h1 h2 e p hp⟩
theorem dfs_needs {rs : List Ru} {s : ByteArray} {L : List ByteArray} (h : Dfs rs s [] L) : L = needs rs s :=
  needs_asc_of h.asc h.has (fun x hx => h.new x hx (by simp)) fun r hr h1 => h.shut r hr h1 (by simp)
/-- How many names are not met yet. -/
def unmet (U out : List ByteArray) : Nat := (U.filter fun x => !out.contains x).length
theorem unmet_lt {U out out' : List ByteArray} {s : ByteArray} (h1 : s ∈ U) (h2 : s ∉ out) (h3 : s ∈ out') (h4 : ∀ x ∈ out, x ∈ out') : unmet U out' < unmet U out := by
  unfold unmet
  have key : ∀ (V : List ByteArray), (V.filter fun x => !out'.contains x).length ≤ (V.filter fun x => !out.contains x).length ∧ (s ∈ V → (V.filter fun x => !out'.contains x).length < (V.filter fun x => !out.contains x).length) := by
    intro V
    induction V with
    | nil => exact ⟨Nat.le_refl _, fun h => by simp at h⟩
    | cons y V ih =>
      by_cases hy : y ∈ out
      · have hy' := h4 y hy
        simp only [List.filter_cons, List.contains_iff_mem.2 hy, List.contains_iff_mem.2 hy', Bool.not_true, Bool.false_eq_true, if_false]
        exact ⟨ih.1, fun h => by
          rcases List.mem_cons.1 h with rfl | h
          · exact absurd hy h2
          · exact ih.2 h⟩
      · have e1 : (!out.contains y) = true := by simpa using hy
        by_cases hy' : y ∈ out'
        · have e2 : (!out'.contains y) = false := by simpa using hy'
          simp only [List.filter_cons, e1, e2, if_true, Bool.false_eq_true, if_false, List.length_cons]
          exact ⟨by have := ih.1; omega, fun _ => by have := ih.1; omega⟩
        · have e2 : (!out'.contains y) = true := by simpa using hy'
          simp only [List.filter_cons, e1, e2, if_true, List.length_cons]
          refine ⟨by have := ih.1; omega, fun h => ?_⟩
          rcases List.mem_cons.1 h with rfl | h
          · exact absurd h3 hy'
          · have := ih.2 h; omega
  exact (key U).2 h1
theorem unmet_le {U out out' : List ByteArray} (h4 : ∀ x ∈ out, x ∈ out') : unmet U out' ≤ unmet U out := by
  unfold unmet
  induction U with
  | nil => exact Nat.le_refl _
  | cons y V ih =>
    by_cases hy : y ∈ out
    · have hy' := h4 y hy
      simp only [List.filter_cons, List.contains_iff_mem.2 hy, List.contains_iff_mem.2 hy', Bool.not_true, Bool.false_eq_true, if_false]
      exact ih
    · have e1 : (!out.contains y) = true := by simpa using hy
      simp only [List.filter_cons, e1, if_true, List.length_cons]
      split
      · simp only [List.length_cons]; omega
      · omega
theorem asc_few {U L : List ByteArray} (h : ascS L) (hs : ∀ x ∈ L, x ∈ U) : L.length ≤ U.length := sub_len_le (ascS_nodup h) hs

end Go.Proofs.YtbcepahpehadeaaGreatDoor.D
