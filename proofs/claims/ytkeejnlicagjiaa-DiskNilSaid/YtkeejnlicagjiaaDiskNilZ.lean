/-
  The statement DiskNil of the program is proved: for every input that the row speaks of, the law answers true.
  Conditions: those that the statement's row prints, and no other. This text: the statement.
-/
import Derived.Test.YtkeejnlicagjiaaDiskNilL
import Derived.Test.YtkeejnlicagjiaaDiskNilP1
namespace Go.Proofs.Ytkeejnlicagjiaa
theorem diskNil_holds : Rows.DiskNilSaid := E.DiskNil_of E.DiskNil_pure
#print axioms diskNil_holds
end Go.Proofs.Ytkeejnlicagjiaa
