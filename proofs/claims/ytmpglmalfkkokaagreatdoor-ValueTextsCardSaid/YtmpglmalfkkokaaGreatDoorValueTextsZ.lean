/-
  The statement ValueTexts of the program is proved: for every input that the row speaks of, the law answers true.
  Conditions: those that each statement prints, and no other.
-/
import Derived.Test.YtmpglmalfkkokaaGreatDoorZTXValueTexts
import Derived.Test.YtmpglmalfkkokaaGreatDoorPValTextsP
set_option linter.unusedVariables false
set_option linter.unusedSimpArgs false
namespace Go.Proofs.YtmpglmalfkkokaaGreatDoor
theorem valueTexts_holds : Rows.ValueTextsCardSaid := E.ValueTexts_card E.ValueTexts_pure
#print axioms valueTexts_holds
end Go.Proofs.YtmpglmalfkkokaaGreatDoor
