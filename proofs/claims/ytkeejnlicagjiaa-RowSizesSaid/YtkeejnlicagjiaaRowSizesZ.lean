/-
  The statement RowSizes of the program is proved: for every input that the row speaks of, the law answers true.
  Conditions: those that the statement's row prints, and no other. This text: the statement.
-/
import Derived.Test.YtkeejnlicagjiaaRowSizesL
import Derived.Test.YtkeejnlicagjiaaRowSizesP1
namespace Go.Proofs.Ytkeejnlicagjiaa
theorem rowSizes_holds : Rows.RowSizesSaid := E.RowSizes_of E.RowSizes_pure
#print axioms rowSizes_holds
end Go.Proofs.Ytkeejnlicagjiaa
