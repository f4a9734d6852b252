/-
  The statement LexAgain of the program is proved: for every input that the row speaks of, the law answers true.
  Conditions: those that each statement prints, and no other.
-/
import Derived.Test.YtmpglmalfkkokaaDoorLEXLexAgain
import Derived.Test.YtmpglmalfkkokaaDoorPLexAgainP
set_option linter.unusedVariables false
set_option linter.unusedSimpArgs false
namespace Go.Proofs.YtmpglmalfkkokaaDoor
theorem lexAgain_holds : Rows.LexAgainCardSaid := E.LexAgain_card E.LexAgain_pure
#print axioms lexAgain_holds
end Go.Proofs.YtmpglmalfkkokaaDoor
