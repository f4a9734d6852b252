/-
  The statement LockSpaces of the program is proved: for every input that the row speaks of, the law answers true.
  Conditions: those that the statement's row prints, and no other. This text: the statement.
-/
import Derived.Test.YtkeejnlicagjiabLockSpacesL
import Derived.Test.YtkeejnlicagjiabLockSpacesP1
namespace Go.Proofs.Ytkeejnlicagjiab
theorem lockSpaces_holds : Rows.LockSpacesSaid := E.LockSpaces_of E.LockSpaces_pure
#print axioms lockSpaces_holds
end Go.Proofs.Ytkeejnlicagjiab
