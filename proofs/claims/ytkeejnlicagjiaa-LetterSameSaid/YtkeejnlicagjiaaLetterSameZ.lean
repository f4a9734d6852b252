/-
  The statement LetterSame of the program is proved: for every input that the row speaks of, the law answers true.
  Conditions: those that the statement's row prints, and no other. This text: the statement.
-/
import Derived.Test.YtkeejnlicagjiaaLetterSameL
import Derived.Test.YtkeejnlicagjiaaLetterSameP4
namespace Go.Proofs.Ytkeejnlicagjiaa
theorem letterSame_holds : Rows.LetterSameSaid := E.LetterSame_of E.LetterSame_pure
#print axioms letterSame_holds
end Go.Proofs.Ytkeejnlicagjiaa
