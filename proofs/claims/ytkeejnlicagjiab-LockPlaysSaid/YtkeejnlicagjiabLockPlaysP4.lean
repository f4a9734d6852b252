/-
  The statement LockPlays of the program is proved: for every input that the row speaks of, the law answers true.
  Conditions: those that the statement's row prints, and no other. This text: plain laws of the pure functions.
-/
import Derived.Test.YtkeejnlicagjiabLockPlaysP0
set_option linter.unusedVariables false
set_option linter.unusedSimpArgs false
/-! Locks: the document's clash. -/
namespace Go.Proofs.Ytkeejnlicagjiab.E
open Go.Ev

theorem in_eq (N : Nat) (k f t : List UInt8) : ref08_In N k f t = some (!Op.bytesLess k f && ahead k t, ()) := by
  unfold ref08_In ref08_In_cps ahead
  cases Op.bytesLess k f <;> cases decide (t = []) <;> rfl

theorem meet_eq (N : Nat) (a b : LkT) : ref09_meet N a.1 a.2.1 a.2.2.1 a.2.2.2.1 a.2.2.2.2.1 b.1 b.2.1 b.2.2.1 b.2.2.2.1 b.2.2.2.2.1 = some (ahead (top a.2.2.1 b.2.2.1) a.2.2.2.1 && ahead (top a.2.2.1 b.2.2.1) b.2.2.2.1, ()) := by
  unfold ref09_meet ref09_meet_cps top
  simp only [in_eq, bind_some', less_irr]
  cases h : Op.bytesLess a.2.2.1 b.2.2.1 with
  | true =>
    simp only [cond_true, less_asymm h, Bool.not_false, Bool.true_and]
    cases ahead b.2.2.1 a.2.2.2.1 <;> rfl
  | false =>
    simp only [cond_false, Bool.not_false, Bool.true_and]
    cases ahead a.2.2.1 a.2.2.2.1 <;> rfl

theorem refClash_eq (N : Nat) (a b : LkT) : ref09_Clash N a.1 a.2.1 a.2.2.1 a.2.2.2.1 a.2.2.2.2.1 b.1 b.2.1 b.2.2.1 b.2.2.2.1 b.2.2.2.2.1 = some (clash a b, ()) := by
  unfold ref09_Clash ref09_Clash_cps
  rw [meet_eq, bind_some']
  unfold clash
  generalize (ahead (top a.2.2.1 b.2.2.1) a.2.2.2.1 && ahead (top a.2.2.1 b.2.2.1) b.2.2.2.1) = m
  cases decide (a.1 = b.1) <;> cases decide (a.2.1 = b.2.1) <;> cases decide (a.2.2.2.2.1 = 1) <;> cases decide (b.2.2.2.2.1 = 1) <;> cases m <;> rfl

end Go.Proofs.Ytkeejnlicagjiab.E
