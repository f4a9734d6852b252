/-
  The statement ValueKinds of the program is proved: for every input that the row speaks of, the law answers true.
  Conditions: those that each statement prints, and no other.
-/
import Derived.Test.YtmpglmalfkkokaaDoorVALValueKinds
import Derived.Test.YtmpglmalfkkokaaDoorPValKindsP
set_option linter.unusedVariables false
set_option linter.unusedSimpArgs false
namespace Go.Proofs.YtmpglmalfkkokaaDoor
theorem valueKinds_holds : Rows.ValueKindsCardSaid := E.ValueKinds_card E.ValueKinds_pure
#print axioms valueKinds_holds
end Go.Proofs.YtmpglmalfkkokaaDoor
