/-
  The statement LockNil of the program is proved: for every input that the row speaks of, the law answers true.
  Conditions: those that the statement's row prints, and no other. This text: the statement.
-/
import Derived.Test.YtkeejnlicagjiabLockNilL
import Derived.Test.YtkeejnlicagjiabLockNilP1
namespace Go.Proofs.Ytkeejnlicagjiab
theorem lockNil_holds : Rows.LockNilSaid := E.LockNil_of E.LockNil_pure
#print axioms lockNil_holds
end Go.Proofs.Ytkeejnlicagjiab
