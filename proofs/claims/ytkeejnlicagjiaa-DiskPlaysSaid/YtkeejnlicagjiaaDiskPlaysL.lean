/-
  The statement DiskPlays of the program is proved: for every input that the row speaks of, the law answers true.
  Conditions: those that the statement's row prints, and no other. This text: the row, out of the pure statement.
-/
import Derived.Test.YtkeejnlicagjiaaDiskPlaysW
set_option linter.unusedVariables false
set_option linter.unusedSimpArgs false
/-! The rows of the laws, printed by wip/gen. -/
namespace Go.Proofs.Ytkeejnlicagjiaa.E
open Go.Ev Go.ChangeShapes
set_option maxRecDepth 100000
noncomputable section
theorem ownKnob0 : ownKnob Try.prog.godebug = none := by kernel_rfl
theorem laidOut0 : laidOutB Try.prog = true := by kernel_rfl
theorem DiskPlays_lifted (pure : DiskPlays_Pure) (os : Os) (started : os.Started) (H : Type) (enc : TypeId × Value → H) :
    ReturnsInHanded {} Try.checked os 7 .any (Rows.diskPlaysSpec.pre6 enc Try.prog Try.f7 Rows.diskPlaysRow.domain false) (Rows.diskPlaysSpec.post enc Try.prog Try.f7 false true false false) :=
  law_lifted (C := Try.checked) (X := X) 8 [(.slice (.pair (.int .i64) (.pair (.int .i64) (.pair (.int .i64) (.pair (.slice .byte) .unit)))))] ownKnob0 started (by kernel_rfl) Try.func7 rfl
      (ChangeSpec.witness6 (enc := enc) (C := Try.checked) false ⟨#[], #[.slice none 0 0], []⟩ 8 (by kernel_rfl) (by kernel_rfl) (by kernel_rfl) (by kernel_rfl))
      rfl (fun ds h => match ds, h with | [_], _ => rfl) ⟨_, rfl, by kernel_rfl⟩ (by kernel_rfl) laidOut0 (by kernel_rfl) law06_DiskPlays_raw
      (fun x hx => (law06_DiskPlays_T (Bool × Unit) askB (x.1, ())).trans (pure x hx))
theorem DiskPlays_of (pure : DiskPlays_Pure) : Rows.DiskPlaysSaid :=
  OpenClaim.holds_of_wide 7 Try.f7 rfl rfl rfl rfl rfl rfl rfl ⟨rfl, rfl, rfl, rfl, rfl⟩ rfl rfl rfl rfl rfl (by kernel_rfl) Try.func7 (by kernel_rfl)
    (of_decide_eq_true (by kernel_rfl)) (by unfold Func.isWrapper; first | (rw [if_pos (by decide +kernel)]; kernel_rfl) | (rw [if_neg (by decide +kernel)]; exact ⟨rfl, rfl⟩))
    (fun os started H enc _ => DiskPlays_lifted pure os started H enc)

end
end Go.Proofs.Ytkeejnlicagjiaa.E
