/-
  The statement RowEncodes of the program is proved: for every input that the row speaks of, the law answers true.
  Conditions: those that the statement's row prints, and no other. This text: the statement.
-/
import Derived.Test.YtkeejnlicagjiaaRowEncodesL
import Derived.Test.YtkeejnlicagjiaaRowEncodesP11
namespace Go.Proofs.Ytkeejnlicagjiaa
theorem rowEncodes_holds : Rows.RowEncodesSaid := E.RowEncodes_of E.RowEncodes_pure
#print axioms rowEncodes_holds
end Go.Proofs.Ytkeejnlicagjiaa
