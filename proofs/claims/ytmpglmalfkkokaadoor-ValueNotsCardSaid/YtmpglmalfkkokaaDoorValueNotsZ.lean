/-
  The statement ValueNots of the program is proved: for every input that the row speaks of, the law answers true.
  Conditions: those that each statement prints, and no other.
-/
import Derived.Test.YtmpglmalfkkokaaDoorVALValueNots
import Derived.Test.YtmpglmalfkkokaaDoorPValNotsP
set_option linter.unusedVariables false
set_option linter.unusedSimpArgs false
namespace Go.Proofs.YtmpglmalfkkokaaDoor
theorem valueNots_holds : Rows.ValueNotsCardSaid := E.ValueNots_card E.ValueNots_pure
#print axioms valueNots_holds
end Go.Proofs.YtmpglmalfkkokaaDoor
