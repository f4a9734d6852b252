/-
  The statement DiskCuts of the program is proved: for every input that the row speaks of, the law answers true.
  Conditions: those that the statement's row prints, and no other. This text: the statement.
-/
import Derived.Test.YtkeejnlicagjiaaDiskCutsL
import Derived.Test.YtkeejnlicagjiaaDiskCutsP0
namespace Go.Proofs.Ytkeejnlicagjiaa
theorem diskCuts_holds : Rows.DiskCutsSaid := E.DiskCuts_of E.DiskCuts_pure
#print axioms diskCuts_holds
end Go.Proofs.Ytkeejnlicagjiaa
