/-
  The statement LockPlays of the program is proved: for every input that the row speaks of, the law answers true.
  Conditions: those that the statement's row prints, and no other. This text: the statement.
-/
import Derived.Test.YtkeejnlicagjiabLockPlaysL
import Derived.Test.YtkeejnlicagjiabLockPlaysP5
namespace Go.Proofs.Ytkeejnlicagjiab
theorem lockPlays_holds : Rows.LockPlaysSaid := E.LockPlays_of E.LockPlays_pure
#print axioms lockPlays_holds
end Go.Proofs.Ytkeejnlicagjiab
