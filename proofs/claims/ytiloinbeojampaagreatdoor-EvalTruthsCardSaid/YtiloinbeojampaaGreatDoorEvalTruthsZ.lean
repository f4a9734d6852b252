/-
  The statement EvalTruths of the program is proved: for every input that the row speaks of, the law answers true.
  Conditions: those that each statement prints, and no other.
-/
import Derived.Test.YtiloinbeojampaaGreatDoorGEVEvalTruths
import Derived.Test.YtiloinbeojampaaGreatDoorPEvalTruthsP
set_option linter.unusedVariables false
set_option linter.unusedSimpArgs false
namespace Go.Proofs.YtiloinbeojampaaGreatDoor
theorem evalTruths_holds : Rows.EvalTruthsCardSaid := E.EvalTruths_card E.EvalTruths_pure
#print axioms evalTruths_holds
end Go.Proofs.YtiloinbeojampaaGreatDoor
