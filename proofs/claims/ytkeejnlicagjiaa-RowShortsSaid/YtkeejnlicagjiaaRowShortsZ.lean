/-
  The statement RowShorts of the program is proved: for every input that the row speaks of, the law answers true.
  Conditions: those that the statement's row prints, and no other. This text: the statement.
-/
import Derived.Test.YtkeejnlicagjiaaRowShortsL
import Derived.Test.YtkeejnlicagjiaaRowShortsP2
namespace Go.Proofs.Ytkeejnlicagjiaa
theorem rowShorts_holds : Rows.RowShortsSaid := E.RowShorts_of E.RowShorts_pure
#print axioms rowShorts_holds
end Go.Proofs.Ytkeejnlicagjiaa
