/-
  What the rows have in common (printed by a program).
  Conditions: those that each statement prints, and no other.
-/
import Derived.Test.YtmpglmalfkkokaaDoorLEXW
import Derived.Test.YtmpglmalfkkokaaDoorEvL
import Derived.Test.YtmpglmalfkkokaaDoorTie
import Derived.Test.YtmpglmalfkkokaaDoorCards
import Derived.ProofKit
import Derived.Lay
import Derived.SizedLaws
import Derived.SevenTiedAt
set_option linter.unusedVariables false
set_option linter.unusedSimpArgs false
/-! The rows of the laws, printed by wip/gen. -/
namespace Go.Proofs.YtmpglmalfkkokaaDoor.E
open Go.Ev Go.ChangeShapes
set_option maxRecDepth 100000
noncomputable section
theorem ownKnob0 : ownKnob Go.Proofs.Tryd.prog.godebug = none := by kernel_rfl
theorem laidOut0 : laidOutB Go.Proofs.Tryd.prog = true := by kernel_rfl
noncomputable abbrev N0 : Nat := (World.settled Go.Proofs.Tryd.prog default).heap.size
/-- A world in which what the row lists is laid. -/
noncomputable def laid0_world (os : Os) : World := World.laidAll Go.Proofs.Tryd.prog os Rows.lexPlacesRow.laid
theorem laid0_os (os : Os) : (laid0_world os).os = os := World.laidAll_os _ _ _
theorem laid0_fits (os : Os) : (World.holding Go.Proofs.Tryd.prog os ⟨#[], #[], []⟩).layFits Go.Proofs.Tryd.prog Rows.lexPlacesRow.laid [] = true := by kernel_rfl
theorem laid0_ifaces (os : Os) : (World.holding Go.Proofs.Tryd.prog os ⟨#[], #[], []⟩).layIfaces Go.Proofs.Tryd.prog Rows.lexPlacesRow.laid (World.laidAll Go.Proofs.Tryd.prog os Rows.lexPlacesRow.laid) = true := by kernel_rfl
theorem laid0_met (os : Os) (args : Array Value) : laidMetH Go.Proofs.Tryd.prog Rows.lexPlacesRow.laid ((laid0_world os).forCall (fun _ _ => 0) ⟨#[], args, []⟩).memory := by
  rw [MakeChecks.laidMetH_plain _ _ _ (by kernel_rfl)]
  exact laidMet_laidAll args (laid0_fits os) (laid0_ifaces os)
theorem laid0_vars (os : Os) (args : Array Value) : ((laid0_world os).forCall (fun _ _ => 0) ⟨#[], args, []⟩).variablesRefB Go.Proofs.Tryd.prog = true := by kernel_rfl
theorem laid0_rest (os : Os) (args : Array Value) : (((laid0_world os).forCall (fun _ _ => 0) ⟨#[], args, []⟩).heap.toList.drop Go.Proofs.Tryd.prog.globals.size).take ((begin Go.Proofs.Tryd.prog (fun _ _ => 0) default).world.heap.size - Go.Proofs.Tryd.prog.globals.size) =
      (begin Go.Proofs.Tryd.prog (fun _ _ => 0) default).world.heap.toList.drop Go.Proofs.Tryd.prog.globals.size := by kernel_rfl

end
end Go.Proofs.YtmpglmalfkkokaaDoor.E
