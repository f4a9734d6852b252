/-
  The statement ParseBinds of the program is proved: for every input that the row speaks of, the law answers true.
  Conditions: those that each statement prints, and no other.
-/
import Derived.Test.YtbikfekdakigiaaGreatDoorGPBParseBinds
import Derived.Test.YtbikfekdakigiaaGreatDoorPParseBindsP
set_option linter.unusedVariables false
set_option linter.unusedSimpArgs false
namespace Go.Proofs.YtbikfekdakigiaaGreatDoor
theorem parseBinds_holds : Rows.ParseBindsCardSaid := E.ParseBinds_card E.ParseBinds_pure
#print axioms parseBinds_holds
end Go.Proofs.YtbikfekdakigiaaGreatDoor
