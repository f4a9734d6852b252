/-
  The statement ValueLine of the program is proved: for every input that the row speaks of, the law answers true.
  Conditions: those that each statement prints, and no other.
-/
import Derived.Test.YtmpglmalfkkokaaDoorVALValueLine
import Derived.Test.YtmpglmalfkkokaaDoorPValLineP
set_option linter.unusedVariables false
set_option linter.unusedSimpArgs false
namespace Go.Proofs.YtmpglmalfkkokaaDoor
theorem valueLine_holds : Rows.ValueLineCardSaid := E.ValueLine_card E.ValueLine_pure
#print axioms valueLine_holds
end Go.Proofs.YtmpglmalfkkokaaDoor
