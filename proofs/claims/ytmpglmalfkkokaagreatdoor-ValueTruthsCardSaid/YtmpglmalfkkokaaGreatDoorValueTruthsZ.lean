/-
  The statement ValueTruths of the program is proved: for every input that the row speaks of, the law answers true.
  Conditions: those that each statement prints, and no other.
-/
import Derived.Test.YtmpglmalfkkokaaGreatDoorZVTValueTruths
import Derived.Test.YtmpglmalfkkokaaGreatDoorPValTruthsP
set_option linter.unusedVariables false
set_option linter.unusedSimpArgs false
namespace Go.Proofs.YtmpglmalfkkokaaGreatDoor
theorem valueTruths_holds : Rows.ValueTruthsCardSaid := E.ValueTruths_card E.ValueTruths_pure
#print axioms valueTruths_holds
end Go.Proofs.YtmpglmalfkkokaaGreatDoor
