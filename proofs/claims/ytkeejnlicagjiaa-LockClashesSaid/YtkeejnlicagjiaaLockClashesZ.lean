/-
  The statement LockClashes of the program is proved: for every input that the row speaks of, the law answers true.
  Conditions: those that the statement's row prints, and no other. This text: the statement.
-/
import Derived.Test.YtkeejnlicagjiaaLockClashesL
import Derived.Test.YtkeejnlicagjiaaLockClashesP2
namespace Go.Proofs.Ytkeejnlicagjiaa
theorem lockClashes_holds : Rows.LockClashesSaid := E.LockClashes_of E.LockClashes_pure
#print axioms lockClashes_holds
end Go.Proofs.Ytkeejnlicagjiaa
