/-
  The statement DiskNil of the program is proved: for every input that the row speaks of, the law answers true.
  Conditions: those that the statement's row prints, and no other. This text: plain laws of the pure functions.
-/
import Derived.Test.YtkeejnlicagjiaaDiskNilP0
set_option linter.unusedVariables false
set_option linter.unusedSimpArgs false
/-! DiskNil: no disk at all. -/
namespace Go.Proofs.Ytkeejnlicagjiaa.E
open Go.Ev

theorem DiskNil_all (a b c : Int) (d : List UInt8) : law06_DiskNil big a b c d = some (true, ()) := by
  unfold law06_DiskNil law06_DiskNil_cps
  rw [alive06]
  rfl

theorem DiskNil_pure : DiskNil_Pure := fun _ _ => DiskNil_all ..

end Go.Proofs.Ytkeejnlicagjiaa.E
