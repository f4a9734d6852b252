/-
  The statement LetterBits of the program is proved: for every input that the row speaks of, the law answers true.
  Conditions: those that the statement's row prints, and no other. This text: the statement.
-/
import Derived.Test.YtfeidmgfninmmaaLetterBitsL
import Derived.Test.YtfeidmgfninmmaaLetterBitsP8
namespace Go.Proofs.Ytfeidmgfninmmaa
theorem letterBits_holds : Rows.LetterBitsSaid := E.LetterBits_of E.LetterBits_pure
#print axioms letterBits_holds
end Go.Proofs.Ytfeidmgfninmmaa
