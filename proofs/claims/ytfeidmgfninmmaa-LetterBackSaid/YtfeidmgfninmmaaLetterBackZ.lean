/-
  The statement LetterBack of the program is proved: for every input that the row speaks of, the law answers true.
  Conditions: those that the statement's row prints, and no other. This text: the statement.
-/
import Derived.Test.YtfeidmgfninmmaaLetterBackL
import Derived.Test.YtfeidmgfninmmaaLetterBackP9
namespace Go.Proofs.Ytfeidmgfninmmaa
theorem letterBack_holds : Rows.LetterBackSaid := E.LetterBack_of E.LetterBack_pure
#print axioms letterBack_holds
end Go.Proofs.Ytfeidmgfninmmaa
