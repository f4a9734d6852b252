/-
  The statement ValueOrders of the program is proved: for every input that the row speaks of, the law answers true.
  Conditions: those that each statement prints, and no other.
-/
import Derived.Test.YtmpglmalfkkokaaDoorVALValueOrders
import Derived.Test.YtmpglmalfkkokaaDoorPValOrdersP
set_option linter.unusedVariables false
set_option linter.unusedSimpArgs false
namespace Go.Proofs.YtmpglmalfkkokaaDoor
theorem valueOrders_holds : Rows.ValueOrdersCardSaid := E.ValueOrders_card E.ValueOrders_pure
#print axioms valueOrders_holds
end Go.Proofs.YtmpglmalfkkokaaDoor
