/-
  The statement LockCovers of the program is proved: for every input that the row speaks of, the law answers true.
  Conditions: those that the statement's row prints, and no other. This text: the statement.
-/
import Derived.Test.YtkeejnlicagjiabLockCoversL
import Derived.Test.YtkeejnlicagjiabLockCoversP4
namespace Go.Proofs.Ytkeejnlicagjiab
theorem lockCovers_holds : Rows.LockCoversSaid := E.LockCovers_of E.LockCovers_pure
#print axioms lockCovers_holds
end Go.Proofs.Ytkeejnlicagjiab
