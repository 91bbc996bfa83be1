/- The order of texts, of terms and of atoms: plain facts. No program is named here. -/
import Derived.Lib.Bytealg
import Derived.WalkKit
import Derived.Deep.Slices
import Derived.Deep.Fields
import Derived.ChangeSame
import Derived.Deep.Draws
import Derived.Lib.IndexBytes
import Derived.Test.YtbppnelbjklpeaaKind
namespace Go.Proofs.Ytbppnelbjklpeaa.D

/-- A way to compare: total, by -1, 0 and 1. -/
structure IsCmp {α : Type} (c : α → α → Int) : Prop where
  eq : ∀ a b, c a b = 0 ↔ a = b
  vals : ∀ a b, c a b = -1 ∨ c a b = 0 ∨ c a b = 1
  anti : ∀ a b, c b a = - c a b
  trans : ∀ a b d, c a b ≤ 0 → c b d ≤ 0 → c a d ≤ 0

theorem IsCmp.refl {α : Type} {c : α → α → Int} (h : IsCmp c) (a : α) : c a a = 0 := (h.eq a a).2 rfl
theorem IsCmp.lt_of_lt_le {α : Type} {c : α → α → Int} (h : IsCmp c) {a b d : α} (h1 : c a b < 0) (h2 : c b d ≤ 0) : c a d < 0 := by
  have h3 := h.trans a b d (by omega) h2
  rcases Int.lt_or_eq_of_le h3 with h4 | h4
  · exact h4
  · have := (h.eq a d).1 h4
    subst this
    have := h.anti a b
    omega
theorem IsCmp.lt_of_le_lt {α : Type} {c : α → α → Int} (h : IsCmp c) {a b d : α} (h1 : c a b ≤ 0) (h2 : c b d < 0) : c a d < 0 := by
  have h3 := h.trans a b d h1 (by omega)
  rcases Int.lt_or_eq_of_le h3 with h4 | h4
  · exact h4
  · have := (h.eq a d).1 h4
    subst this
    have := h.anti a b
    omega

/-- Item by item, then by how many. -/
def lexL {α : Type} (c : α → α → Int) : List α → List α → Int
  | [], [] => 0
  | [], _ :: _ => -1
  | _ :: _, [] => 1
  | a :: as, b :: bs => if c a b = 0 then lexL c as bs else c a b

theorem lexL_is {α : Type} {c : α → α → Int} (h : IsCmp c) : IsCmp (lexL c) := by
  refine ⟨fun l => ?_, fun l => ?_, fun l => ?_, fun l => ?_⟩
  · induction l with
    | nil => intro m; cases m <;> simp [lexL]
    | cons a as ih =>
      intro m
      cases m with
      | nil => simp [lexL]
      | cons b bs =>
        simp only [lexL]
        by_cases hc : c a b = 0
        · rw [if_pos hc, ih]
          have := (h.eq a b).1 hc
          subst this
          simp
        · rw [if_neg hc]
          have : a ≠ b := fun e => hc ((h.eq a b).2 e)
          simp [hc, this]
  · induction l with
    | nil => intro m; cases m <;> simp [lexL]
    | cons a as ih =>
      intro m
      cases m with
      | nil => simp [lexL]
      | cons b bs =>
        simp only [lexL]
        split
        · exact ih bs
        · exact h.vals a b
  · induction l with
    | nil => intro m; cases m <;> simp [lexL]
    | cons a as ih =>
      intro m
      cases m with
      | nil => simp [lexL]
      | cons b bs =>
        simp only [lexL]
        have ha := h.anti a b
        by_cases hc : c a b = 0
        · rw [if_pos hc, if_pos (by omega)]; exact ih bs
        · rw [if_neg hc, if_neg (by omega)]; exact ha
  · induction l with
    | nil =>
      intro m n h1 h2
      cases n with
      | nil => simp [lexL]
      | cons d ds => simp [lexL]
    | cons a as ih =>
      intro m n h1 h2
      cases m with
      | nil => simp [lexL] at h1
      | cons b bs =>
        cases n with
        | nil => simp [lexL] at h2
        | cons d ds =>
          simp only [lexL] at *
          by_cases hab : c a b = 0
          · have := (h.eq a b).1 hab
            subst this
            rw [if_pos hab] at h1
            by_cases hbd : c a d = 0
            · rw [if_pos hbd] at h2 ⊢
              exact ih bs ds h1 h2
            · rw [if_neg hbd] at h2 ⊢
              exact h2
          · rw [if_neg hab] at h1
            have h2' : c b d ≤ 0 := by
              by_cases hbd : c b d = 0
              · omega
              · rw [if_neg hbd] at h2; exact h2
            have h1' : c a b < 0 := by omega
            have := h.lt_of_lt_le h1' h2'
            rw [if_neg (by omega)]
            omega

def cmpU (a b : UInt8) : Int := if a < b then -1 else if b < a then 1 else 0
theorem cmpU_is : IsCmp cmpU := by
  refine ⟨fun a b => ?_, fun a b => ?_, fun a b => ?_, fun a b d => ?_⟩
  all_goals simp only [cmpU, UInt8.lt_iff_toNat_lt, ← UInt8.toNat_inj]
  · split <;> try split
    all_goals simp; omega
  · split <;> try split
    all_goals simp
  · by_cases h1 : a.toNat < b.toNat
    · simp [h1, show ¬ b.toNat < a.toNat by omega]
    · by_cases h2 : b.toNat < a.toNat
      · simp [h1, h2]
      · simp [h1, h2]
  · intro h1 h2
    have g1 : ¬ b.toNat < a.toNat := by
      intro g
      rw [if_neg (by omega), if_pos g] at h1
      omega
    have g2 : ¬ d.toNat < b.toNat := by
      intro g
      rw [if_neg (by omega), if_pos g] at h2
      omega
    split
    · omega
    · rw [if_neg (by omega)]; omega

theorem compareBytes_lex (l m : List UInt8) : Lib.compareBytes l m = lexL cmpU l m := by
  induction l generalizing m with
  | nil => cases m <;> rfl
  | cons a as ih =>
    cases m with
    | nil => rfl
    | cons b bs =>
      simp only [Lib.compareBytes, lexL, cmpU, ih]
      split
      · simp
      · split <;> simp

theorem less_lex (l m : List UInt8) : Op.bytesLess l m = true ↔ lexL cmpU l m < 0 := by
  induction l generalizing m with
  | nil => cases m <;> simp [Op.bytesLess, lexL]
  | cons a as ih =>
    cases m with
    | nil => simp [Op.bytesLess, lexL]
    | cons b bs =>
      simp only [Op.bytesLess, lexL, Bool.or_eq_true, Bool.and_eq_true, decide_eq_true_eq, beq_iff_eq, ih]
      have hv := cmpU_is.eq a b
      by_cases h0 : cmpU a b = 0
      · have := hv.1 h0
        subst this
        rw [if_pos h0]
        have : ¬ a < a := by rw [UInt8.lt_iff_toNat_lt]; omega
        simp [this]
      · rw [if_neg h0]
        have hne : a ≠ b := fun e => h0 (hv.2 e)
        unfold cmpU
        by_cases hl : a < b
        · simp [hl]
        · simp only [hl, hne, false_and, or_false, if_false, false_iff]
          split <;> omega

/-- How two texts stand to each other. -/
def cmpS (a b : ByteArray) : Int := lexL cmpU a.data.toList b.data.toList
theorem cmpS_is : IsCmp cmpS := by
  have h := lexL_is cmpU_is
  refine ⟨fun a b => ?_, fun a b => h.vals _ _, fun a b => h.anti _ _, fun a b d => h.trans _ _ _⟩
  unfold cmpS
  rw [h.eq]
  exact ⟨fun e => WideShapes.bytes_inj e, fun e => by rw [e]⟩
theorem less_cmpS (a b : ByteArray) : Op.bytesLess a.toList b.toList = decide (cmpS a b < 0) := by
  rw [ByteArray.toList_eq, ByteArray.toList_eq, Bool.eq_iff_iff, less_lex, decide_eq_true_eq]; rfl
theorem eq_cmpS (a b : ByteArray) : (a.toList == b.toList) = decide (cmpS a b = 0) := by
  rw [ByteArray.toList_eq, ByteArray.toList_eq, Bool.eq_iff_iff]
  simp only [beq_iff_eq, decide_eq_true_eq, cmpS_is.eq]
  exact ⟨fun e => WideShapes.bytes_inj e, fun e => by rw [e]⟩
theorem compare_cmpS (a b : ByteArray) : Lib.compareBytes a.data.toList b.data.toList = cmpS a b := compareBytes_lex _ _

/-- How two rows of terms stand to each other: by their names alone. -/
def cmpTs : List T → List T → Int
  | [], [] => 0
  | [], _ :: _ => -1
  | _ :: _, [] => 1
  | a :: as, b :: bs => if cmpS a.name b.name = 0 then cmpTs as bs else cmpS a.name b.name
theorem cmpTs_lex (l m : List T) : cmpTs l m = lexL cmpS (l.map (·.name)) (m.map (·.name)) := by
  induction l generalizing m with
  | nil => cases m <;> rfl
  | cons a as ih => cases m with
    | nil => rfl
    | cons b bs => simp only [cmpTs, List.map_cons, lexL, ih]
/-- How two atoms stand to each other. -/
def cmpA (a b : A) : Int := if cmpS a.name b.name = 0 then cmpTs a.args b.args else cmpS a.name b.name
/-- What the order of atoms looks at. -/
def keyA (a : A) : List ByteArray := a.name :: a.args.map (·.name)
theorem cmpA_lex (a b : A) : cmpA a b = lexL cmpS (keyA a) (keyA b) := by
  unfold cmpA keyA
  simp only [lexL, cmpTs_lex]

end Go.Proofs.Ytbppnelbjklpeaa.D
