/-
  The statement LexValues of the program is proved: for every input that the row speaks of, the law answers true.
  Conditions: those that each statement prints, and no other.
-/
import Derived.Test.YtmpglmalfkkokaaGreatDoorZLXLexValues
import Derived.Test.YtmpglmalfkkokaaGreatDoorPLexValuesP
set_option linter.unusedVariables false
set_option linter.unusedSimpArgs false
namespace Go.Proofs.YtmpglmalfkkokaaGreatDoor
theorem lexValues_holds : Rows.LexValuesCardSaid := E.LexValues_card E.LexValues_pure
#print axioms lexValues_holds
end Go.Proofs.YtmpglmalfkkokaaGreatDoor
