/-
  The statement ParseBack of the program is proved: for every input that the row speaks of, the law answers true.
  Conditions: those that each statement prints, and no other.
-/
import Derived.Test.YtbikfekdakigiaaGreatDoorGPKParseBack
import Derived.Test.YtbikfekdakigiaaGreatDoorPParseBackP
set_option linter.unusedVariables false
set_option linter.unusedSimpArgs false
namespace Go.Proofs.YtbikfekdakigiaaGreatDoor
theorem parseBack_holds : Rows.ParseBackCardSaid := E.ParseBack_card E.ParseBack_pure
#print axioms parseBack_holds
end Go.Proofs.YtbikfekdakigiaaGreatDoor
