/-
  The statement EvalConst of the program is proved: for every input that the row speaks of, the law answers true.
  Conditions: those that each statement prints, and no other.
-/
import Derived.Test.YtiloinbeojampaaGreatDoorGEVEvalConst
import Derived.Test.YtiloinbeojampaaGreatDoorPEvalConstP
set_option linter.unusedVariables false
set_option linter.unusedSimpArgs false
namespace Go.Proofs.YtiloinbeojampaaGreatDoor
theorem evalConst_holds : Rows.EvalConstCardSaid := E.EvalConst_card E.EvalConst_pure
#print axioms evalConst_holds
end Go.Proofs.YtiloinbeojampaaGreatDoor
