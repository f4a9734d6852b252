/-
  The statement DiskOffsets of the program is proved: for every input that the row speaks of, the law answers true.
  Conditions: those that the statement's row prints, and no other. This text: the statement.
-/
import Derived.Test.YtkeejnlicagjiaaDiskOffsetsL
import Derived.Test.YtkeejnlicagjiaaDiskOffsetsP1
namespace Go.Proofs.Ytkeejnlicagjiaa
theorem diskOffsets_holds : Rows.DiskOffsetsSaid := E.DiskOffsets_of E.DiskOffsets_pure
#print axioms diskOffsets_holds
end Go.Proofs.Ytkeejnlicagjiaa
