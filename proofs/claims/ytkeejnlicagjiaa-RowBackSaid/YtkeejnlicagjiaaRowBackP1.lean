/-
  The statement RowBack of the program is proved: for every input that the row speaks of, the law answers true.
  Conditions: those that the statement's row prints, and no other. This text: plain laws of the pure functions.
-/
import Derived.Test.YtkeejnlicagjiaaRowBackP0
set_option linter.unusedVariables false
set_option linter.unusedSimpArgs false
/-! The rows' laws are alive. -/
namespace Go.Proofs.Ytkeejnlicagjiaa.E
open Go.Ev

theorem alive : law05_alive big = some (true, ()) := by rw [big_eq]; kernel_rfl


end Go.Proofs.Ytkeejnlicagjiaa.E
