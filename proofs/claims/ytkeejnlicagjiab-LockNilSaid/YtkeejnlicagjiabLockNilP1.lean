/-
  The statement LockNil of the program is proved: for every input that the row speaks of, the law answers true.
  Conditions: those that the statement's row prints, and no other. This text: plain laws of the pure functions.
-/
import Derived.Test.YtkeejnlicagjiabLockNilP0
set_option linter.unusedVariables false
set_option linter.unusedSimpArgs false
/-! LockNil. -/
namespace Go.Proofs.Ytkeejnlicagjiab.E
open Go.Ev

theorem LockNil_pure : LockNil_Pure := fun x _ => by
  unfold law09_LockNil law09_LockNil_cps
  rw [show lock_Locks_Ask_2 big x.1.1 x.1.2.1 x.1.2.2.1 x.1.2.2.2.1 x.1.2.2.2.2.1 = some (false, (1, ())) from rfl, bind_some', alive09]
  rfl

end Go.Proofs.Ytkeejnlicagjiab.E
