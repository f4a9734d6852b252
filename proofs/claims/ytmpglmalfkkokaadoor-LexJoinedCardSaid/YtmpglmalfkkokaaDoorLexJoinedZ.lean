/-
  The statement LexJoined of the program is proved: for every input that the row speaks of, the law answers true.
  Conditions: those that each statement prints, and no other.
-/
import Derived.Test.YtmpglmalfkkokaaDoorLEXLexJoined
import Derived.Test.YtmpglmalfkkokaaDoorPLexJoinedP
set_option linter.unusedVariables false
set_option linter.unusedSimpArgs false
namespace Go.Proofs.YtmpglmalfkkokaaDoor
theorem lexJoined_holds : Rows.LexJoinedCardSaid := E.LexJoined_card E.LexJoined_pure
#print axioms lexJoined_holds
end Go.Proofs.YtmpglmalfkkokaaDoor
