/-
  The statement ValueBack of the program is proved: for every input that the row speaks of, the law answers true.
  Conditions: those that each statement prints, and no other.
-/
import Derived.Test.YtmpglmalfkkokaaDoorVALValueBack
import Derived.Test.YtmpglmalfkkokaaDoorPValBackP
set_option linter.unusedVariables false
set_option linter.unusedSimpArgs false
namespace Go.Proofs.YtmpglmalfkkokaaDoor
theorem valueBack_holds : Rows.ValueBackCardSaid := E.ValueBack_card E.ValueBack_pure
#print axioms valueBack_holds
end Go.Proofs.YtmpglmalfkkokaaDoor
