/-
  The statement EvalFits of the program is proved: for every input that the row speaks of, the law answers true.
  Conditions: those that each statement prints, and no other.
-/
import Derived.Test.YtiloinbeojampaaGreatDoorGEVEvalFits
import Derived.Test.YtiloinbeojampaaGreatDoorPEvalFitsP
set_option linter.unusedVariables false
set_option linter.unusedSimpArgs false
namespace Go.Proofs.YtiloinbeojampaaGreatDoor
theorem evalFits_holds : Rows.EvalFitsCardSaid := E.EvalFits_card E.EvalFits_pure
#print axioms evalFits_holds
end Go.Proofs.YtiloinbeojampaaGreatDoor
