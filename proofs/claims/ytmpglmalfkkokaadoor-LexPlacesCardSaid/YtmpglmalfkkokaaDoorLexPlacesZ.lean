/-
  The statement LexPlaces of the program is proved: for every input that the row speaks of, the law answers true.
  Conditions: those that each statement prints, and no other.
-/
import Derived.Test.YtmpglmalfkkokaaDoorLEXLexPlaces
import Derived.Test.YtmpglmalfkkokaaDoorPLexPlacesP
set_option linter.unusedVariables false
set_option linter.unusedSimpArgs false
namespace Go.Proofs.YtmpglmalfkkokaaDoor
theorem lexPlaces_holds : Rows.LexPlacesCardSaid := E.LexPlaces_card E.LexPlaces_pure
#print axioms lexPlaces_holds
end Go.Proofs.YtmpglmalfkkokaaDoor
