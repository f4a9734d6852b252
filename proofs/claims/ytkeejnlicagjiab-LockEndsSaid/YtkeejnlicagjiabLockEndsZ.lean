/-
  The statement LockEnds of the program is proved: for every input that the row speaks of, the law answers true.
  Conditions: those that the statement's row prints, and no other. This text: the statement.
-/
import Derived.Test.YtkeejnlicagjiabLockEndsL
import Derived.Test.YtkeejnlicagjiabLockEndsP5
namespace Go.Proofs.Ytkeejnlicagjiab
theorem lockEnds_holds : Rows.LockEndsSaid := E.LockEnds_of E.LockEnds_pure
#print axioms lockEnds_holds
end Go.Proofs.Ytkeejnlicagjiab
