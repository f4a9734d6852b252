/-
  The statement RowNumbers of the program is proved: for every input that the row speaks of, the law answers true.
  Conditions: those that the statement's row prints, and no other. This text: the statement.
-/
import Derived.Test.YtkeejnlicagjiaaRowNumbersL
import Derived.Test.YtkeejnlicagjiaaRowNumbersP2
namespace Go.Proofs.Ytkeejnlicagjiaa
theorem rowNumbers_holds : Rows.RowNumbersSaid := E.RowNumbers_of E.RowNumbers_pure
#print axioms rowNumbers_holds
end Go.Proofs.Ytkeejnlicagjiaa
