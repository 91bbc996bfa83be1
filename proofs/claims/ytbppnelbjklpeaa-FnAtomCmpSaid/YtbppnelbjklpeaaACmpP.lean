/- The order of atoms that are ok: plain. -/
import Derived.Test.YtbppnelbjklpeaaSet
import Derived.Test.YtbppnelbjklpeaaACmp
namespace Go.Proofs.Ytbppnelbjklpeaa
open Go.RowKit D
set_option linter.unusedVariables false

theorem D.not_both {s : ByteArray} (h1 : varOk s = true) (h2 : nameOk s = true) : False := by
  unfold varOk capB at h1
  unfold nameOk at h2
  simp only [Bool.and_eq_true, decide_eq_true_eq] at h1 h2
  have hb := (big_int _).1 h1.1.2.2
  have hl : lows s.data.toList = true := h2.1.2
  have hm : s.data.toList.headD 0 ∈ s.data.toList := by
    match hs : s.data.toList with
    | [] => have h0 := h1.1.2.1; have : s.data.toList.length = 0 := by rw [hs]; rfl
            have h3 : s.size = s.data.toList.length := by simp
            omega
    | c :: r => simp
  have h3 : low (s.data.toList.headD 0) = true := by
    unfold lows at hl
    exact List.all_eq_true.1 hl _ hm
  have h4 : low (s.data.toList.headD 0) = false := (low_int _).2 ⟨Or.inl (by omega), Or.inr (by omega)⟩
  rw [h3] at h4; cases h4
theorem D.terms_ok_ext : ∀ {ts us : List T}, (∀ t ∈ ts, termOk t = true) → (∀ t ∈ us, termOk t = true) → ts.map (·.name) = us.map (·.name) → ts = us
  | [], [], _, _, _ => rfl
  | [], _ :: _, _, _, h => by simp at h
  | _ :: _, [], _, _, h => by simp at h
  | ⟨v, n⟩ :: ts, ⟨v', n'⟩ :: us, h1, h2, h => by
    simp only [List.map_cons, List.cons.injEq] at h
    have e1 := h1 _ (List.mem_cons_self ..)
    have e2 := h2 _ (List.mem_cons_self ..)
    obtain ⟨rfl, h⟩ := h
    rw [terms_ok_ext (fun t ht => h1 t (List.mem_cons_of_mem _ ht)) (fun t ht => h2 t (List.mem_cons_of_mem _ ht)) h]
    unfold termOk at e1 e2
    dsimp only at e1 e2
    cases v <;> cases v' <;> simp at e1 e2 <;> first | rfl | exact (not_both e1 e2).elim | exact (not_both e2 e1).elim
theorem D.atom_terms_ok {a : A} (h : atomOk a = true) : ∀ t ∈ a.args, termOk t = true := by
  unfold atomOk at h; simp only [Bool.and_eq_true] at h; exact List.all_eq_true.1 h.2
theorem D.acmp_anti (a b : A) : acmp b a = - acmp a b := by
  unfold acmp
  rw [Bool.and_comm (atomOk b) (atomOk a)]
  split
  · exact cmpA_anti a b
  · rfl
theorem D.acmp_vals (a b : A) : acmp a b = -1 ∨ acmp a b = 0 ∨ acmp a b = 1 := by
  unfold acmp; split
  · exact cmpA_vals a b
  · exact .inr (.inl rfl)
theorem D.acmp_ok {a b : A} (ha : atomOk a = true) (hb : atomOk b = true) : acmp a b = cmpA a b := by unfold acmp; rw [ha, hb]; rfl
theorem D.acmp_no {a b : A} (h : (atomOk a && atomOk b) = false) : acmp a b = 0 := by unfold acmp; rw [h]; rfl
theorem D.acmp_eq {a b : A} (ha : atomOk a = true) (hb : atomOk b = true) : acmp a b = 0 ↔ a = b := by
  rw [acmp_ok ha hb, cmpA_key]
  constructor
  · intro h
    unfold keyA at h
    simp only [List.cons.injEq] at h
    have e := terms_ok_ext (atom_terms_ok ha) (atom_terms_ok hb) h.2
    cases a; cases b; simp only at h e; rw [h.1, e]
  · rintro rfl; rfl
theorem D.acmp_trans {a b c : A} (ha : atomOk a = true) (hb : atomOk b = true) (hc : atomOk c = true) (h1 : acmp a b ≤ 0) (h2 : acmp b c ≤ 0) : acmp a c ≤ 0 := by
  rw [acmp_ok ha hb] at h1; rw [acmp_ok hb hc] at h2; rw [acmp_ok ha hc]
  rw [cmpA_lex] at *
  exact cmpA_is.trans _ _ _ h1 h2

end Go.Proofs.Ytbppnelbjklpeaa
