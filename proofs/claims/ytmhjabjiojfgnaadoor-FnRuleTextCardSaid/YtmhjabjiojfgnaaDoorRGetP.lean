/- Rules and bodies read from their texts: plain. -/
import Derived.Test.YtmhjabjiojfgnaaDoorAtTxP
import Derived.Test.YtmhjabjiojfgnaaDoorRTxtP
namespace Go.Proofs.YtmhjabjiojfgnaaDoor.D
open Go.RowKit Go.Lib
set_option linter.unusedVariables false

/-! The first place of a text in another one. -/
theorem cut_back {t sep : List UInt8} (h : (cut t sep).2.2 = true) : t = (cut t sep).1 ++ sep ++ (cut t sep).2.1 := by
  rcases index_spec t sep with ⟨h1, _⟩ | ⟨i, h1, h2, h3, _⟩
  · unfold cut at h; rw [h1] at h; cases h
  · have e : cut t sep = (t.take i, t.drop (i + sep.length), true) := by
      unfold cut
      rw [h1, if_pos (by omega)]
      rfl
    rw [e]
    unfold occAt at h3
    rw [List.isPrefixOf_iff_prefix] at h3
    obtain ⟨r, hr⟩ := h3
    show t = t.take i ++ sep ++ t.drop (i + sep.length)
    rw [← List.drop_drop, ← hr, List.drop_left, List.append_assoc, hr, List.take_append_drop]
theorem cut_no {t sep : List UInt8} (h : (cut t sep).2.2 = false) : cut t sep = (t, [], false) := by
  unfold cut at h ⊢
  split at h
  · cases h
  · rename_i hn; rw [if_neg hn]
theorem cut_first {a b sep : List UInt8} (h : ∀ j, j < a.length → occAt (a ++ (sep ++ b)) sep j = false) : cut (a ++ (sep ++ b)) sep = (a, b, true) := by
  have e : index (a ++ (sep ++ b)) sep = a.length := index_first (by simp) (by unfold occAt; rw [List.drop_left, List.isPrefixOf_iff_prefix]; exact List.prefix_append _ _) h
  unfold cut
  rw [e, if_pos (by omega)]
  have e2 : ((a.length : Int)).toNat = a.length := by omega
  rw [e2, List.take_left, ← List.append_assoc, ← List.length_append, List.drop_left]
theorem cut_none {t sep : List UInt8} (h : ∀ j, j ≤ t.length → occAt t sep j = false) : cut t sep = (t, [], false) := by
  unfold cut
  rw [index_none h]
  rfl
theorem occ_at {t s : List UInt8} {c : UInt8} {j : Nat} (h : occAt t (c :: s) j = true) : t[j]? = some c := by
  unfold occAt at h
  rw [List.isPrefixOf_iff_prefix] at h
  obtain ⟨r, hr⟩ := h
  have : (t.drop j)[0]? = some c := by rw [← hr]; rfl
  rwa [List.getElem?_drop] at this
theorem occ_no {a rest s : List UInt8} {c : UInt8} (h : c ∉ a) : ∀ j, j < a.length → occAt (a ++ rest) (c :: s) j = false := by
  intro j hj
  cases ho : occAt (a ++ rest) (c :: s) j
  · rfl
  · have := occ_at ho
    rw [List.getElem?_append_left hj, List.getElem?_eq_getElem hj] at this
    exact absurd (by rw [← Option.some.inj this]; exact List.getElem_mem _) h

/-! Texts of parts. -/
theorem name_no32 {s : ByteArray} (h : nameOk s = true) : (32 : UInt8) ∉ s.data.toList := by
  unfold nameOk at h
  simp only [Bool.and_eq_true] at h
  intro hm
  exact (low_not _ (List.all_eq_true.1 h.1.2 _ hm)).2.2.2 rfl
theorem var_no32 {s : ByteArray} (h : varOk s = true) : (32 : UInt8) ∉ s.data.toList := by
  unfold varOk at h
  simp only [Bool.and_eq_true] at h
  intro hm
  have h1 := h.1.2
  unfold capB at h1
  simp only [Bool.and_eq_true] at h1
  cases hs : s.data.toList with
  | nil => rw [hs] at hm; simp at hm
  | cons x xs =>
    rw [hs] at hm h1 h
    rcases List.mem_cons.1 hm with e | hm
    · have h2 := h1.2
      rw [← e] at h2
      exact absurd (show big 32 = true from h2) (by decide)
    · exact (low_not _ (List.all_eq_true.1 h.2 _ hm)).2.2.2 rfl
theorem putL_no32 {a : A} (h : atomOk a = true) : (32 : UInt8) ∉ putL a := by
  have h0 := h
  unfold atomOk at h
  simp only [Bool.and_eq_true] at h
  have hall := List.all_eq_true.1 h.2
  have e : a.args = (a.args.map fun t => t.name.data.toList).map fun w => argT (toB w) := by
    rw [List.map_map]
    conv => lhs; rw [← List.map_id a.args]
    refine List.map_congr_left fun t ht => ?_
    show t = argT (toB t.name.data.toList)
    rw [toB_of, term_arg (hall t ht)]
  have h2 : (32 : UInt8) ∉ argsL a.args := by
    rw [e, argsL_join]
    refine join_not (by decide) fun p hp => ?_
    obtain ⟨u, hu, rfl⟩ := List.mem_map.1 hp
    have := hall u hu
    unfold termOk at this
    split at this
    · exact var_no32 this
    · exact name_no32 this
  unfold putL
  simp only [List.mem_append, List.mem_singleton, not_or]
  exact ⟨⟨⟨name_no32 h.1.1, by decide⟩, h2⟩, by decide⟩
theorem putL_40 (a : A) : (40 : UInt8) ∈ putL a := by unfold putL; simp
theorem pre_and {x rest r : List UInt8} (h : x ++ rest = 97 :: 110 :: 100 :: 32 :: r) (h40 : (40 : UInt8) ∈ x) (h32 : (32 : UInt8) ∉ x) : False := by
  rcases x with _ | ⟨x0, _ | ⟨x1, _ | ⟨x2, _ | ⟨x3, xs⟩⟩⟩⟩
  · simp at h40
  · simp at h; simp [h.1] at h40
  · simp at h; simp [h.1, h.2.1] at h40
  · simp at h; simp [h.1, h.2.1, h.2.2.1] at h40
  · simp at h; simp [h.2.2.2.1] at h32
theorem part_noocc {p : Pt} (h : atomOk p.atom = true) (rest : List UInt8) : ∀ j, j < (partL p).length → occAt (partL p ++ rest) andL j = false := by
  have h32 := putL_no32 h
  have h40 := putL_40 p.atom
  unfold partL
  generalize putL p.atom = x at *
  cases p.no
  · intro j hj; exact occ_no (a := x) h32 j hj
  · intro j hj
    simp only [if_true] at hj ⊢
    cases ho : occAt (notL ++ x ++ rest) andL j
    · rfl
    · exfalso
      have h1 := occ_at ho
      rw [List.append_assoc] at h1 ho
      by_cases hj4 : j < 4
      · rcases (by omega : j = 0 ∨ j = 1 ∨ j = 2 ∨ j = 3) with rfl | rfl | rfl | rfl
        · cases h1
        · cases h1
        · cases h1
        · unfold occAt at ho
          rw [List.isPrefixOf_iff_prefix] at ho
          obtain ⟨r, hr⟩ := ho
          have : 32 :: 97 :: 110 :: 100 :: 32 :: r = 32 :: (x ++ rest) := hr
          injection this with _ this
          exact pre_and this.symm h40 h32
      · have hl : notL.length = 4 := rfl
        rw [List.length_append, hl] at hj
        rw [List.getElem?_append_right (by rw [hl]; omega), hl, List.getElem?_append_left (by omega), List.getElem?_eq_getElem (by omega)] at h1
        exact h32 (by rw [← Option.some.inj h1]; exact List.getElem_mem _)
theorem bodyL_one (p : Pt) : bodyL [p] = partL p := by simp [bodyL, sepL]
theorem sepL_cons {α : Type} (sep : List UInt8) (f : α → List UInt8) (p q : α) (r : List α) : sepL sep f (p :: q :: r) = f p ++ (sep ++ sepL sep f (q :: r)) := by
  have key : ∀ (xs : List α) (n : Nat), (xs.zipIdx (n + 1)).flatMap (fun x => (if x.2 = 0 then [] else sep) ++ f x.1) = xs.flatMap fun x => sep ++ f x := by
    intro xs
    induction xs with
    | nil => intro n; rfl
    | cons y ys ih =>
      intro n
      rw [List.zipIdx_cons, List.flatMap_cons, ih (n + 1), List.flatMap_cons, if_neg (Nat.succ_ne_zero n)]
  have h1 : ∀ (y : α) (ys : List α), sepL sep f (y :: ys) = f y ++ ys.flatMap fun x => sep ++ f x := by
    intro y ys
    unfold sepL
    rw [List.zipIdx_cons, List.flatMap_cons, key ys 0]
    rfl
  rw [h1, h1, List.flatMap_cons]
  simp
theorem bodyL_cons (p q : Pt) (r : List Pt) : bodyL (p :: q :: r) = partL p ++ (andL ++ bodyL (q :: r)) := sepL_cons _ _ _ _ _

/-! As the program reads. -/
def cutP (p : List UInt8) : List UInt8 × Bool := if notL.isPrefixOf p then (p.drop 4, true) else (p, false)
theorem cutP_back (p : List UInt8) : p = (if (cutP p).2 then notL else []) ++ (cutP p).1 := by
  unfold cutP
  split
  · rename_i h
    rw [List.isPrefixOf_iff_prefix] at h
    obtain ⟨r, rfl⟩ := h
    show notL ++ r = notL ++ (notL ++ r).drop 4
    rw [show (4 : Nat) = notL.length from rfl, List.drop_left]
  · rfl
theorem cutP_part {p : Pt} (h : atomOk p.atom = true) : cutP (partL p) = (putL p.atom, p.no) := by
  have h32 := putL_no32 h
  unfold cutP partL
  cases p.no
  · rw [if_neg]
    · rfl
    · intro hp
      rw [List.isPrefixOf_iff_prefix] at hp
      obtain ⟨r, hr⟩ := hp
      have hr' : notL ++ r = putL p.atom := hr
      rw [← hr'] at h32
      exact h32 (by simp [notL])
  · rw [if_pos (by rw [List.isPrefixOf_iff_prefix]; exact List.prefix_append _ _)]
    show ((notL ++ putL p.atom).drop 4, true) = _
    rw [show (4 : Nat) = notL.length from rfl, List.drop_left]
/-- A body of at most so many parts. -/
def bodyI : Nat → List UInt8 → Option (List Pt)
  | 0, _ => none
  | n + 1, t => if (getI (cutP (cut t andL).1).1).2 then
      (if (cut t andL).2.2 then (bodyI n (cut t andL).2.1).map (⟨(cutP (cut t andL).1).2, (getI (cutP (cut t andL).1).1).1⟩ :: ·) else some [⟨(cutP (cut t andL).1).2, (getI (cutP (cut t andL).1).1).1⟩]) else none
def ruleI (t : List UInt8) : Option Ru := if (getI (cut t ifL).1).2 then
    (if (cut t ifL).2.2 then (bodyI 4 (cut t ifL).2.1).map (⟨(getI (cut t ifL).1).1, ·⟩) else some ⟨(getI (cut t ifL).1).1, []⟩) else none
theorem part_of {x : List UInt8} (h : (getI (cutP x).1).2 = true) : partL ⟨(cutP x).2, (getI (cutP x).1).1⟩ = x ∧ atomOk (getI (cutP x).1).1 = true := by
  have h1 := getI_back h
  refine ⟨?_, h1.1⟩
  unfold partL
  show (if (cutP x).2 = true then notL else []) ++ putL (getI (cutP x).1).1 = x
  rw [h1.2]
  exact (cutP_back x).symm
theorem bodyI_sound : ∀ (n : Nat) (t : List UInt8) (ps : List Pt), bodyI n t = some ps → ps.length ≤ n ∧ ps ≠ [] ∧ (∀ p ∈ ps, atomOk p.atom = true) ∧ bodyL ps = t
  | 0, t, ps, h => by cases h
  | n + 1, t, ps, h => by
    unfold bodyI at h
    split at h
    · rename_i hg
      have hp := part_of hg
      split at h
      · rename_i hm
        cases hb : bodyI n (cut t andL).2.1 with
        | none => rw [hb] at h; cases h
        | some qs =>
          rw [hb] at h
          injection h with h
          obtain ⟨i1, i2, i3, i4⟩ := bodyI_sound n _ qs hb
          subst h
          refine ⟨by simp; omega, by simp, ?_, ?_⟩
          · intro p hp'
            rcases List.mem_cons.1 hp' with rfl | hp'
            · exact hp.2
            · exact i3 p hp'
          · cases qs with
            | nil => exact absurd rfl i2
            | cons q r =>
              rw [bodyL_cons, hp.1, i4, ← List.append_assoc]
              exact (cut_back hm).symm
      · rename_i hm
        injection h with h
        subst h
        have hc := cut_no (Bool.eq_false_iff.2 hm)
        refine ⟨by simp, by simp, ?_, ?_⟩
        · intro p hp'
          rw [List.mem_singleton.1 hp']
          exact hp.2
        · rw [bodyL_one, hp.1, hc]
    · cases h
theorem bodyI_full : ∀ (n : Nat) (ps : List Pt), ps.length ≤ n → ps ≠ [] → (∀ p ∈ ps, atomOk p.atom = true) → bodyI n (bodyL ps) = some ps
  | 0, ps, h, hne, _ => by cases ps with | nil => exact absurd rfl hne | cons p r => simp at h
  | n + 1, [], _, hne, _ => absurd rfl hne
  | n + 1, [p], _, _, hok => by
    have hp := hok p (List.mem_cons_self ..)
    have hc : cut (bodyL [p]) andL = (partL p, [], false) := by
      rw [bodyL_one]
      refine cut_none fun j hj => ?_
      by_cases hl : j < (partL p).length
      · have := part_noocc hp [] j hl
        rwa [List.append_nil] at this
      · unfold occAt
        rw [List.drop_of_length_le (by omega)]
        rfl
    have h2 := cutP_part hp
    have h3 := getI_putL hp
    unfold bodyI
    rw [hc]
    dsimp only
    rw [h2]
    dsimp only
    rw [h3]
    rfl
  | n + 1, p :: q :: r, hl, _, hok => by
    have hp := hok p (List.mem_cons_self ..)
    have ih := bodyI_full n (q :: r) (by simp at hl ⊢; omega) (by simp) fun x hx => hok x (List.mem_cons_of_mem _ hx)
    have hc : cut (bodyL (p :: q :: r)) andL = (partL p, bodyL (q :: r), true) := by
      rw [bodyL_cons]
      exact cut_first (part_noocc hp _)
    have h2 := cutP_part hp
    have h3 := getI_putL hp
    unfold bodyI
    rw [hc]
    dsimp only
    rw [h2]
    dsimp only
    rw [h3]
    dsimp only
    rw [ih]
    rfl
theorem bodyB_iff (ps : List Pt) : bodyOkB ps = true ↔ ps.length ≤ 4 ∧ ∀ p ∈ ps, atomOk p.atom = true := by
  unfold bodyOkB
  simp only [Bool.and_eq_true, decide_eq_true_eq, List.all_eq_true]
theorem ok_iff (r : Ru) : ruleOk r = true ↔ (r.body.length ≤ 4 ∧ ∀ p ∈ r.body, atomOk p.atom = true) ∧ atomOk r.head = true := by
  unfold ruleOk
  rw [Bool.and_eq_true, bodyB_iff]
theorem ruleI_sound {t : List UInt8} {r : Ru} (h : ruleI t = some r) : ruleOk r = true ∧ ruleL r = t := by
  unfold ruleI at h
  split at h
  · rename_i hg
    have hb := getI_back hg
    split at h
    · rename_i hm
      cases hq : bodyI 4 (cut t ifL).2.1 with
      | none => rw [hq] at h; cases h
      | some ps =>
        rw [hq] at h
        injection h with h
        subst h
        obtain ⟨i1, i2, i3, i4⟩ := bodyI_sound 4 _ ps hq
        refine ⟨(ok_iff _).2 ⟨⟨i1, i3⟩, hb.1⟩, ?_⟩
        unfold ruleL
        dsimp only
        rw [if_neg i2, hb.2, i4, ← List.append_assoc]
        exact (cut_back hm).symm
    · rename_i hm
      injection h with h
      subst h
      have hc := cut_no (Bool.eq_false_iff.2 hm)
      refine ⟨(ok_iff _).2 ⟨⟨by simp, by simp⟩, hb.1⟩, ?_⟩
      unfold ruleL
      dsimp only
      rw [if_pos rfl, List.append_nil, hb.2, hc]
  · cases h
theorem ruleI_full {r : Ru} (h : ruleOk r = true) : ruleI (ruleL r) = some r := by
  obtain ⟨⟨h1, h2⟩, h3⟩ := (ok_iff r).1 h
  obtain ⟨hd, body⟩ := r
  dsimp only at *
  have hg := getI_putL h3
  by_cases hb : body = []
  · subst hb
    have hc : cut (ruleL ⟨hd, []⟩) ifL = (putL hd, [], false) := by
      have e : ruleL ⟨hd, []⟩ = putL hd := by unfold ruleL; simp
      rw [e]
      refine cut_none fun j hj => ?_
      by_cases hl : j < (putL hd).length
      · have := occ_no (rest := []) (s := [105, 102, 32]) (putL_no32 h3) j hl
        rwa [List.append_nil] at this
      · unfold occAt
        rw [List.drop_of_length_le (by omega)]
        rfl
    unfold ruleI
    rw [hc]
    dsimp only
    rw [hg]
    rfl
  · have hc : cut (ruleL ⟨hd, body⟩) ifL = (putL hd, bodyL body, true) := by
      unfold ruleL
      dsimp only
      rw [if_neg hb]
      exact cut_first (occ_no (s := [105, 102, 32]) (putL_no32 h3))
    unfold ruleI
    rw [hc]
    dsimp only
    rw [hg]
    dsimp only
    rw [bodyI_full 4 body h1 hb h2]
    rfl

/-! As the reference reads. -/
def notW : List UInt8 := [110, 111, 116]
def oneS (no : Bool) (w : List UInt8) (rest : Option (List Pt)) : Option (List Pt) := if (getS w).2 then rest.map (⟨no, (getS w).1⟩ :: ·) else none
def wordsS : List (List UInt8) → Option (List Pt)
  | [] => some []
  | [w] => oneS false w (some [])
  | [w, x] => if w = notW then oneS true x (some []) else oneS false w (some [])
  | w :: x :: y :: r => if w = notW then oneS true x (wordsS r) else oneS false w (wordsS (y :: r))
theorem wordsS_not (x : List UInt8) (r : List (List UInt8)) : wordsS (notW :: x :: r) = oneS true x (wordsS (r.drop 1)) := by
  cases r with
  | nil => unfold wordsS; rw [if_pos rfl]; rfl
  | cons y r => conv => lhs; unfold wordsS
                rw [if_pos rfl]; rfl
theorem wordsS_pos {w : List UInt8} {r : List (List UInt8)} (h : w ≠ notW ∨ r = []) : wordsS (w :: r) = oneS false w (wordsS (r.drop 1)) := by
  rcases r with _ | ⟨x, _ | ⟨y, r⟩⟩
  · unfold wordsS; rfl
  · have hw : w ≠ notW := by rcases h with h | h; exact h; cases h
    unfold wordsS; rw [if_neg hw]; rfl
  · have hw : w ≠ notW := by rcases h with h | h; exact h; cases h
    conv => lhs; unfold wordsS
    rw [if_neg hw]; rfl
def finS (t : List UInt8) (r : Ru) : Option Ru := if (if ruleOk r then ruleL r else []) = t then some r else none
def ruleS (t : List UInt8) : Option Ru := match splitL 32 t with
  | [] => none
  | w :: ws => if (getS w).2 then (if 2 < (w :: ws).length then (match wordsS (ws.drop 1) with | some ps => finS t ⟨(getS w).1, ps⟩ | none => none) else finS t ⟨(getS w).1, []⟩) else none
def bodyS (t : List UInt8) : Option (List Pt) := wordsS (splitL 32 t)
theorem finS_sound {t : List UInt8} {r q : Ru} (h : finS t r = some q) (hne : t ≠ []) : ruleOk q = true ∧ ruleL q = t := by
  unfold finS at h
  by_cases ho : ruleOk r = true
  · rw [if_pos ho] at h
    by_cases he : ruleL r = t
    · rw [if_pos he] at h
      injection h with h
      subst h
      exact ⟨ho, he⟩
    · rw [if_neg he] at h; cases h
  · rw [if_neg ho, if_neg (fun e => hne e.symm)] at h; cases h
theorem ruleS_sound {t : List UInt8} {r : Ru} (h : ruleS t = some r) : ruleOk r = true ∧ ruleL r = t := by
  have hne : t ≠ [] := by
    rintro rfl
    have e : ruleS [] = none := by
      unfold ruleS
      have : splitL 32 [] = [[]] := rfl
      rw [this]
      have hg : (getS []).2 = false := by rw [getS_getI]; decide
      show (if (getS []).2 then _ else _) = _
      rw [hg]
      rfl
    rw [e] at h; cases h
  unfold ruleS at h
  split at h
  · cases h
  · split at h
    · split at h
      · split at h
        · exact finS_sound h hne
        · cases h
      · exact finS_sound h hne
    · cases h
def partW (p : Pt) : List (List UInt8) := (if p.no then [notW] else []) ++ [putL p.atom]
def andW : List UInt8 := [97, 110, 100]
def ifW : List UInt8 := [105, 102]
def wordsOf : List Pt → List (List UInt8)
  | [] => []
  | [p] => partW p
  | p :: q :: r => partW p ++ (andW :: wordsOf (q :: r))
theorem partW_ne (p : Pt) : partW p ≠ [] := by unfold partW; simp
theorem wordsOf_ne : ∀ {ps : List Pt}, ps ≠ [] → wordsOf ps ≠ []
  | [], h => absurd rfl h
  | [p], _ => partW_ne p
  | p :: q :: r, _ => by unfold wordsOf; simp [partW]
theorem join_append (c : UInt8) : ∀ {xs ys : List (List UInt8)}, xs ≠ [] → ys ≠ [] → joinL c (xs ++ ys) = joinL c xs ++ c :: joinL c ys
  | [], _, h, _ => absurd rfl h
  | [x], y :: ys, _, _ => rfl
  | [x], [], _, h => absurd rfl h
  | x :: x' :: xs, ys, _, h => by
    show x ++ c :: joinL c ((x' :: xs) ++ ys) = (x ++ c :: joinL c (x' :: xs)) ++ c :: joinL c ys
    rw [join_append c (xs := x' :: xs) (by simp) h]
    simp
theorem join_partW (p : Pt) : joinL 32 (partW p) = partL p := by
  unfold partW partL
  cases p.no
  · rfl
  · rfl
theorem join_wordsOf : ∀ {ps : List Pt}, ps ≠ [] → joinL 32 (wordsOf ps) = bodyL ps
  | [], h => absurd rfl h
  | [p], _ => by rw [bodyL_one]; exact join_partW p
  | p :: q :: r, _ => by
    have ih := join_wordsOf (ps := q :: r) (by simp)
    have hne := wordsOf_ne (ps := q :: r) (by simp)
    unfold wordsOf
    rw [join_append 32 (partW_ne p) (by simp), join_partW, bodyL_cons]
    have : joinL 32 (andW :: wordsOf (q :: r)) = andW ++ 32 :: joinL 32 (wordsOf (q :: r)) := join_append 32 (xs := [andW]) (by simp) hne
    rw [this, ih]
    rfl
theorem wordsOf_no32 : ∀ {ps : List Pt}, (∀ p ∈ ps, atomOk p.atom = true) → ∀ x ∈ wordsOf ps, (32 : UInt8) ∉ x := by
  have hpw : ∀ p : Pt, atomOk p.atom = true → ∀ x ∈ partW p, (32 : UInt8) ∉ x := by
    intro p hp x hx
    unfold partW at hx
    rcases List.mem_append.1 hx with hx | hx
    · split at hx
      · rw [List.mem_singleton.1 hx]; decide
      · simp at hx
    · rw [List.mem_singleton.1 hx]; exact putL_no32 hp
  intro ps
  induction ps with
  | nil => intro _ x hx; simp [wordsOf] at hx
  | cons p ps ih =>
    intro hok x hx
    cases ps with
    | nil => exact hpw p (hok p (List.mem_cons_self ..)) x hx
    | cons q r =>
      unfold wordsOf at hx
      rcases List.mem_append.1 hx with hx | hx
      · exact hpw p (hok p (List.mem_cons_self ..)) x hx
      · rcases List.mem_cons.1 hx with rfl | hx
        · decide
        · exact ih (fun y hy => hok y (List.mem_cons_of_mem _ hy)) x hx
theorem oneS_put {a : A} (h : atomOk a = true) (no : Bool) (ps : List Pt) : oneS no (putL a) (some ps) = some (⟨no, a⟩ :: ps) := by
  unfold oneS
  rw [getS_getI, getI_putL h]
  rfl
theorem put_not (a : A) : putL a ≠ notW := by
  intro e
  have := putL_40 a
  rw [e] at this
  exact absurd this (by decide)
theorem wordsS_of : ∀ {ps : List Pt}, (∀ p ∈ ps, atomOk p.atom = true) → wordsS (wordsOf ps) = some ps
  | [], _ => by unfold wordsOf wordsS; rfl
  | [p], hok => by
    have hp := hok p (List.mem_cons_self ..)
    show wordsS (partW p) = _
    obtain ⟨no, a⟩ := p
    cases no
    · show wordsS [putL a] = _
      rw [wordsS_pos (Or.inr rfl)]
      exact oneS_put hp false []
    · show wordsS [notW, putL a] = _
      rw [wordsS_not]
      exact oneS_put hp true []
  | p :: q :: r, hok => by
    have hp := hok p (List.mem_cons_self ..)
    have ih := wordsS_of (ps := q :: r) fun y hy => hok y (List.mem_cons_of_mem _ hy)
    obtain ⟨no, a⟩ := p
    cases no
    · show wordsS (putL a :: andW :: wordsOf (q :: r)) = _
      rw [wordsS_pos (Or.inl (put_not a))]
      show oneS false (putL a) (wordsS (wordsOf (q :: r))) = _
      rw [ih]
      exact oneS_put hp false _
    · show wordsS (notW :: putL a :: andW :: wordsOf (q :: r)) = _
      rw [wordsS_not]
      show oneS true (putL a) (wordsS (wordsOf (q :: r))) = _
      rw [ih]
      exact oneS_put hp true _
theorem bodyS_full {ps : List Pt} (h : ∀ p ∈ ps, atomOk p.atom = true) (hne : ps ≠ []) : bodyS (bodyL ps) = some ps := by
  unfold bodyS
  rw [← join_wordsOf hne, splitL_join 32 _ (wordsOf_ne hne) (wordsOf_no32 h)]
  exact wordsS_of h
theorem finS_full {r : Ru} (h : ruleOk r = true) : finS (ruleL r) r = some r := by
  unfold finS
  rw [if_pos h, if_pos rfl]
theorem ruleS_full {r : Ru} (h : ruleOk r = true) : ruleS (ruleL r) = some r := by
  obtain ⟨⟨h1, h2⟩, h3⟩ := (ok_iff r).1 h
  obtain ⟨hd, body⟩ := r
  dsimp only at *
  have hg : getS (putL hd) = (hd, true) := by rw [getS_getI]; exact getI_putL h3
  by_cases hb : body = []
  · subst hb
    have hs : splitL 32 (ruleL ⟨hd, []⟩) = [putL hd] := by
      have e : ruleL ⟨hd, []⟩ = putL hd := by unfold ruleL; simp
      rw [e]
      exact splitL_miss (putL_no32 h3)
    unfold ruleS
    rw [hs]
    dsimp only
    rw [hg]
    exact finS_full h
  · have hs : splitL 32 (ruleL ⟨hd, body⟩) = putL hd :: ifW :: wordsOf body := by
      have hne := wordsOf_ne hb
      have e : ruleL ⟨hd, body⟩ = joinL 32 (putL hd :: ifW :: wordsOf body) := by
        have : joinL 32 (putL hd :: ifW :: wordsOf body) = joinL 32 [putL hd, ifW] ++ 32 :: joinL 32 (wordsOf body) := join_append 32 (xs := [putL hd, ifW]) (by simp) hne
        rw [this, join_wordsOf hb]
        unfold ruleL
        dsimp only
        rw [if_neg hb]
        simp [joinL, ifW, ifL]
      rw [e]
      refine splitL_join 32 _ (by simp) ?_
      intro x hx
      rcases List.mem_cons.1 hx with rfl | hx
      · exact putL_no32 h3
      · rcases List.mem_cons.1 hx with rfl | hx
        · decide
        · exact wordsOf_no32 h2 x hx
    have hlen : 2 < (putL hd :: ifW :: wordsOf body).length := by
      have := List.length_pos_iff.2 (wordsOf_ne hb)
      simp only [List.length_cons]
      omega
    unfold ruleS
    rw [hs]
    dsimp only
    rw [hg, if_pos rfl, if_pos hlen]
    show (match wordsS (wordsOf body) with | some ps => _ | none => _) = _
    rw [wordsS_of h2]
    exact finS_full h
theorem ruleS_ruleI (t : List UInt8) : ruleS t = ruleI t := by
  cases hs : ruleS t with
  | some r =>
    obtain ⟨h1, h2⟩ := ruleS_sound hs
    rw [← h2, ruleI_full h1]
  | none =>
    cases hi : ruleI t with
    | none => rfl
    | some r =>
      obtain ⟨h1, h2⟩ := ruleI_sound hi
      rw [← h2, ruleS_full h1] at hs
      cases hs

end Go.Proofs.YtmhjabjiojfgnaaDoor.D
