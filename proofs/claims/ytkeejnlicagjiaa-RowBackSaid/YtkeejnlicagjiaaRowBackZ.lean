/-
  The statement RowBack of the program is proved: for every input that the row speaks of, the law answers true.
  Conditions: those that the statement's row prints, and no other. This text: the statement.
-/
import Derived.Test.YtkeejnlicagjiaaRowBackL
import Derived.Test.YtkeejnlicagjiaaRowBackP8
namespace Go.Proofs.Ytkeejnlicagjiaa
theorem rowBack_holds : Rows.RowBackSaid := E.RowBack_of E.RowBack_pure
#print axioms rowBack_holds
end Go.Proofs.Ytkeejnlicagjiaa
