/-
  The statement DiskSafe of the program is proved: for every input that the row speaks of, the law answers true.
  Conditions: those that the statement's row prints, and no other. This text: the statement.
-/
import Derived.Test.YtkeejnlicagjiaaDiskSafeL
import Derived.Test.YtkeejnlicagjiaaDiskSafeP1
namespace Go.Proofs.Ytkeejnlicagjiaa
theorem diskSafe_holds : Rows.DiskSafeSaid := E.DiskSafe_of E.DiskSafe_pure
#print axioms diskSafe_holds
end Go.Proofs.Ytkeejnlicagjiaa
