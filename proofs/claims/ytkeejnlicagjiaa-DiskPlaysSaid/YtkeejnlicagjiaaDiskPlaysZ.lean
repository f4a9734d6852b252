/-
  The statement DiskPlays of the program is proved: for every input that the row speaks of, the law answers true.
  Conditions: those that the statement's row prints, and no other. This text: the statement.
-/
import Derived.Test.YtkeejnlicagjiaaDiskPlaysL
import Derived.Test.YtkeejnlicagjiaaDiskPlaysP0
namespace Go.Proofs.Ytkeejnlicagjiaa
theorem diskPlays_holds : Rows.DiskPlaysSaid := E.DiskPlays_of E.DiskPlays_pure
#print axioms diskPlays_holds
end Go.Proofs.Ytkeejnlicagjiaa
