/-
  The statement LetterEncodes of the program is proved: for every input that the row speaks of, the law answers true.
  Conditions: those that the statement's row prints, and no other. This text: the statement.
-/
import Derived.Test.YtfeidmgfninmmaaLetterEncodesL
import Derived.Test.YtfeidmgfninmmaaLetterEncodesP12
namespace Go.Proofs.Ytfeidmgfninmmaa
theorem letterEncodes_holds : Rows.LetterEncodesSaid := E.LetterEncodes_of E.LetterEncodes_pure
#print axioms letterEncodes_holds
end Go.Proofs.Ytfeidmgfninmmaa
