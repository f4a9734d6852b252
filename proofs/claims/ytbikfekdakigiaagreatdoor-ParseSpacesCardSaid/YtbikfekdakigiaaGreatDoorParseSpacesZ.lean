/-
  The statement ParseSpaces of the program is proved: for every input that the row speaks of, the law answers true.
  Conditions: those that each statement prints, and no other.
-/
import Derived.Test.YtbikfekdakigiaaGreatDoorGPSParseSpaces
import Derived.Test.YtbikfekdakigiaaGreatDoorPParseSpacesP
set_option linter.unusedVariables false
set_option linter.unusedSimpArgs false
namespace Go.Proofs.YtbikfekdakigiaaGreatDoor
theorem parseSpaces_holds : Rows.ParseSpacesCardSaid := E.ParseSpaces_card E.ParseSpaces_pure
#print axioms parseSpaces_holds
end Go.Proofs.YtbikfekdakigiaaGreatDoor
