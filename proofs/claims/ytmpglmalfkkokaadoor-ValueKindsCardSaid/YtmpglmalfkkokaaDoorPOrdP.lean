/-
  Plain laws of the pure functions.
  Conditions: those that each statement prints, and no other.
-/
import Derived.Test.YtmpglmalfkkokaaDoorEvA
set_option linter.unusedVariables false
set_option linter.unusedSimpArgs false
/-! The order of texts. -/
namespace Go.Proofs.YtmpglmalfkkokaaDoor.E
open Go.Ev
theorem u8_eq {x y : UInt8} (h1 : ¬ x < y) (h2 : ¬ y < x) : x = y := UInt8.le_antisymm (UInt8.not_lt.1 h2) (UInt8.not_lt.1 h1)

theorem less_irr : ∀ a : List UInt8, Op.bytesLess a a = false
  | [] => rfl
  | x :: a => by simp [Op.bytesLess, less_irr a]

theorem less_tri : ∀ a b : List UInt8, Op.bytesLess a b = false → Op.bytesLess b a = false → a = b
  | [], [], _, _ => rfl
  | [], _ :: _, h, _ => by cases h
  | _ :: _, [], _, h => by cases h
  | x :: a, y :: b, h1, h2 => by
    simp only [Op.bytesLess, Bool.or_eq_false_iff, decide_eq_false_iff_not, Bool.and_eq_false_iff] at h1 h2
    have e := u8_eq h1.1 h2.1
    subst e
    simp at h1 h2
    rw [less_tri a b h1 h2]

theorem less_trans : ∀ a b c : List UInt8, Op.bytesLess a b = true → Op.bytesLess b c = true → Op.bytesLess a c = true
  | [], [], _, h, _ => by cases h
  | [], _ :: _, [], _, h => by cases h
  | [], _ :: _, _ :: _, _, _ => rfl
  | _ :: _, [], _, h, _ => by cases h
  | _ :: _, _ :: _, [], _, h => by cases h
  | x :: a, y :: b, z :: c, h1, h2 => by
    simp only [Op.bytesLess, Bool.or_eq_true, decide_eq_true_eq, Bool.and_eq_true, beq_iff_eq] at h1 h2 ⊢
    rcases h1 with h1 | ⟨h1, h1'⟩
    · rcases h2 with h2 | ⟨h2, _⟩
      · exact .inl (UInt8.lt_trans h1 h2)
      · subst h2; exact .inl h1
    · subst h1
      rcases h2 with h2 | ⟨h2, h2'⟩
      · exact .inl h2
      · exact .inr ⟨h2, less_trans a b c h1' h2'⟩

theorem less_asymm {a b : List UInt8} (h : Op.bytesLess a b = true) : Op.bytesLess b a = false := by
  cases h2 : Op.bytesLess b a with
  | false => rfl
  | true => have := less_trans _ _ _ h h2; rw [less_irr] at this; cases this

theorem le_trans' {a b c : List UInt8} (h1 : Op.bytesLess b a = false) (h2 : Op.bytesLess c b = false) : Op.bytesLess c a = false := by
  cases h3 : Op.bytesLess c a with
  | false => rfl
  | true =>
    cases h4 : Op.bytesLess b c with
    | true => have := less_trans _ _ _ h4 h3; rw [h1] at this; cases this
    | false => have := less_tri _ _ h4 h2; subst this; rw [h1] at h3; cases h3

theorem lt_le {a b c : List UInt8} (h1 : Op.bytesLess a b = true) (h2 : Op.bytesLess c b = false) : Op.bytesLess a c = true := by
  cases h3 : Op.bytesLess a c with
  | true => rfl
  | false => have := le_trans' h2 h3; rw [h1] at this; cases this

theorem le_lt {a b c : List UInt8} (h1 : Op.bytesLess b a = false) (h2 : Op.bytesLess b c = true) : Op.bytesLess a c = true := by
  cases h3 : Op.bytesLess a c with
  | true => rfl
  | false => have := le_trans' h3 h1; rw [h2] at this; cases this

theorem less_nil (a : List UInt8) : Op.bytesLess a [] = false := by cases a <;> rfl
end Go.Proofs.YtmpglmalfkkokaaDoor.E
