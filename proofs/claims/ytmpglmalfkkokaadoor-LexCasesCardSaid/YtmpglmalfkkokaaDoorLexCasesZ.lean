/-
  The statement LexCases of the program is proved: for every input that the row speaks of, the law answers true.
  Conditions: those that each statement prints, and no other.
-/
import Derived.Test.YtmpglmalfkkokaaDoorLEXLexCases
import Derived.Test.YtmpglmalfkkokaaDoorPLexCasesP
set_option linter.unusedVariables false
set_option linter.unusedSimpArgs false
namespace Go.Proofs.YtmpglmalfkkokaaDoor
theorem lexCases_holds : Rows.LexCasesCardSaid := E.LexCases_card E.LexCases_pure
#print axioms lexCases_holds
end Go.Proofs.YtmpglmalfkkokaaDoor
