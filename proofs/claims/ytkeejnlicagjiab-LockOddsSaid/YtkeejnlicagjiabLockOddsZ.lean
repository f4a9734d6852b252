/-
  The statement LockOdds of the program is proved: for every input that the row speaks of, the law answers true.
  Conditions: those that the statement's row prints, and no other. This text: the statement.
-/
import Derived.Test.YtkeejnlicagjiabLockOddsL
import Derived.Test.YtkeejnlicagjiabLockOddsP5
namespace Go.Proofs.Ytkeejnlicagjiab
theorem lockOdds_holds : Rows.LockOddsSaid := E.LockOdds_of E.LockOdds_pure
#print axioms lockOdds_holds
end Go.Proofs.Ytkeejnlicagjiab
