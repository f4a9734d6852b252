/-
  What the rows have in common (printed by a program).
  Conditions: those that each statement prints, and no other.
-/
import Derived.Test.YtbikfekdakigiaaGreatDoorGPSW
import Derived.Test.YtbikfekdakigiaaGreatDoorEvL
import Derived.Test.YtbikfekdakigiaaGreatDoorTie
import Derived.Test.YtbikfekdakigiaaGreatDoorCards
import Derived.ProofKit
import Derived.Lay
import Derived.SizedLaws
import Derived.SevenTiedAt
set_option linter.unusedVariables false
set_option linter.unusedSimpArgs false
namespace Go.Proofs.YtbikfekdakigiaaGreatDoor.E
open Go.Ev Go.ChangeShapes
set_option maxRecDepth 100000
noncomputable section
theorem ownKnob0 : ownKnob Go.Proofs.Tryz.prog.godebug = none := by kernel_rfl
theorem laidOut0 : laidOutB Go.Proofs.Tryz.prog = true := by kernel_rfl
noncomputable abbrev N0 : Nat := (World.settled Go.Proofs.Tryz.prog default).heap.size
abbrev laid0_list : List (String × DataW Unit) := Rows.parseSpacesRow.laid.filter fun x => x.2.handleName?.isNone
noncomputable def laid0_w0 (os : Os) : World := { World.holding Go.Proofs.Tryz.prog os ⟨#[], #[], []⟩ with heap := putG (World.holding Go.Proofs.Tryz.prog os ⟨#[], #[], []⟩).heap 0 [.iface 172 (.agg #[.pointer (some ⟨10, 41, none⟩)])] }
noncomputable def laid0_world (os : Os) : World := (laid0_w0 os).layVars Go.Proofs.Tryz.prog laid0_list
theorem laid0_os (os : Os) : (laid0_world os).os = os := World.layVars_os _ _ _
theorem laid0_fits (os : Os) : (laid0_w0 os).layFits Go.Proofs.Tryz.prog laid0_list [] = true := by kernel_rfl
theorem laid0_ifaces (os : Os) : (laid0_w0 os).layIfaces Go.Proofs.Tryz.prog laid0_list ((laid0_w0 os).layVars Go.Proofs.Tryz.prog laid0_list) = true := by kernel_rfl
theorem laid0_hand (os : Os) (args : Array Value) : (Rows.parseSpacesRow.laid.filter fun x => x.2.handleName?.isSome).all (handleAtB Go.Proofs.Tryz.prog ((laid0_world os).forCall (fun _ _ => 0) ⟨#[], args, []⟩).memory) = true := by kernel_rfl
theorem laid0_met (os : Os) (args : Array Value) : laidMetH Go.Proofs.Tryz.prog Rows.parseSpacesRow.laid ((laid0_world os).forCall (fun _ _ => 0) ⟨#[], args, []⟩).memory :=
 laidMetH_of_parts (laidMet_lay (w0 := laid0_w0 os) (by simp [World.memory, World.forCall, Input.heap, laid0_world]) (laid0_fits os) (laid0_ifaces os)) (laid0_hand os args)
theorem laid0_vars (os : Os) (args : Array Value) : ((laid0_world os).forCall (fun _ _ => 0) ⟨#[], args, []⟩).variablesRefB Go.Proofs.Tryz.prog = true := by kernel_rfl
theorem laid0_rest (os : Os) (args : Array Value) : (((laid0_world os).forCall (fun _ _ => 0) ⟨#[], args, []⟩).heap.toList.drop Go.Proofs.Tryz.prog.globals.size).take ((begin Go.Proofs.Tryz.prog (fun _ _ => 0) default).world.heap.size - Go.Proofs.Tryz.prog.globals.size) =
 (begin Go.Proofs.Tryz.prog (fun _ _ => 0) default).world.heap.toList.drop Go.Proofs.Tryz.prog.globals.size := by kernel_rfl
end
end Go.Proofs.YtbikfekdakigiaaGreatDoor.E
