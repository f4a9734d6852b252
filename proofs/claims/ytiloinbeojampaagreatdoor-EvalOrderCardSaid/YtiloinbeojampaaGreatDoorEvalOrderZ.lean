/-
  The statement EvalOrder of the program is proved: for every input that the row speaks of, the law answers true.
  Conditions: those that each statement prints, and no other.
-/
import Derived.Test.YtiloinbeojampaaGreatDoorGEVEvalOrder
import Derived.Test.YtiloinbeojampaaGreatDoorPEvalOrderP
set_option linter.unusedVariables false
set_option linter.unusedSimpArgs false
namespace Go.Proofs.YtiloinbeojampaaGreatDoor
theorem evalOrder_holds : Rows.EvalOrderCardSaid := E.EvalOrder_card E.EvalOrder_pure
#print axioms evalOrder_holds
end Go.Proofs.YtiloinbeojampaaGreatDoor
