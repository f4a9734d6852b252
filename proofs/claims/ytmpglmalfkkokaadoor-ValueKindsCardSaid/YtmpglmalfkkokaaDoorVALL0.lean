/-
  What the rows have in common (printed by a program).
  Conditions: those that each statement prints, and no other.
-/
import Derived.Test.YtmpglmalfkkokaaDoorVALW
import Derived.Test.YtmpglmalfkkokaaDoorEvL
import Derived.Test.YtmpglmalfkkokaaDoorTie
import Derived.Test.YtmpglmalfkkokaaDoorCards
import Derived.ProofKit
import Derived.SizedLaws
import Derived.SevenTiedAt
set_option linter.unusedVariables false
set_option linter.unusedSimpArgs false
/-! The rows of the laws, printed by wip/gen. -/
namespace Go.Proofs.YtmpglmalfkkokaaDoor.E
open Go.Ev Go.ChangeShapes
set_option maxRecDepth 100000
noncomputable section
theorem ownKnob0 : ownKnob Go.Proofs.Tryd.prog.godebug = none := by kernel_rfl
theorem laidOut0 : laidOutB Go.Proofs.Tryd.prog = true := by kernel_rfl
noncomputable abbrev N0 : Nat := (World.settled Go.Proofs.Tryd.prog default).heap.size
/-- A world in which what the row lists is laid. -/
noncomputable def laid0_world (os : Os) : World :=
  let N := (World.settled Go.Proofs.Tryd.prog os).heap.size
  let w0 := World.holding Go.Proofs.Tryd.prog os ⟨#[.cells (flatW (ptrW Rows.laid_strconv_ErrRange)).toArray 151, .cells (flatW (ptrW Rows.laid_strconv_ErrSyntax)).toArray 151], #[], []⟩
  { w0 with heap := (putG (putG (putG (putG (putG (putG (putG w0.heap 7 (flatW Rows.laid_math_bits_deBruijn32tab)) 8 (flatW Rows.laid_math_bits_deBruijn64tab)) 0 (flatW Rows.laid_internal_strconv_uint64pow10)) 5 (flatW Rows.laid_unicode_utf8_acceptRanges)) 3 [.iface 149 (.pointer (some ⟨N + 0, 0, none⟩))]) 2 [.iface 149 (.pointer (some ⟨N + 1, 0, none⟩))]) 4 (flatW Rows.laid_unicode_utf8_first)) }
theorem laid0_met (os : Os) (args : Array Value) : laidMetH Go.Proofs.Tryd.prog Rows.valueBackRow.laid ((laid0_world os).forCall (fun _ _ => 0) ⟨#[], args, []⟩).memory := by
  rw [MakeChecks.laidMetH_plain _ _ _ (by kernel_rfl)]
  exact (Go.LaidIn.of_run [7, 8, 0, 5, 3, N0 + 0, 2, N0 + 1, 4] 8 (by kernel_rfl) (by kernel_rfl) (by kernel_rfl) (by kernel_rfl)).met
theorem laid0_vars (os : Os) (args : Array Value) : ((laid0_world os).forCall (fun _ _ => 0) ⟨#[], args, []⟩).variablesRefB Go.Proofs.Tryd.prog = true := by kernel_rfl
theorem laid0_rest (os : Os) (args : Array Value) : (((laid0_world os).forCall (fun _ _ => 0) ⟨#[], args, []⟩).heap.toList.drop Go.Proofs.Tryd.prog.globals.size).take ((begin Go.Proofs.Tryd.prog (fun _ _ => 0) default).world.heap.size - Go.Proofs.Tryd.prog.globals.size) =
      (begin Go.Proofs.Tryd.prog (fun _ _ => 0) default).world.heap.toList.drop Go.Proofs.Tryd.prog.globals.size := by kernel_rfl

end
end Go.Proofs.YtmpglmalfkkokaaDoor.E
