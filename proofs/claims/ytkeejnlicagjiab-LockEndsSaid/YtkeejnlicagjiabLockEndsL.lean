/-
  The statement LockEnds of the program is proved: for every input that the row speaks of, the law answers true.
  Conditions: those that the statement's row prints, and no other. This text: the row, out of the pure statement.
-/
import Derived.Test.YtkeejnlicagjiabLockEndsW
set_option linter.unusedVariables false
set_option linter.unusedSimpArgs false
/-! The rows of the laws, printed by wip/gen. -/
namespace Go.Proofs.Ytkeejnlicagjiab.E
open Go.Ev Go.ChangeShapes
set_option maxRecDepth 100000
noncomputable section
theorem ownKnob0 : ownKnob Try.prog.godebug = none := by kernel_rfl
theorem laidOut0 : laidOutB Try.prog = true := by kernel_rfl
theorem LockEnds_lifted (pure : LockEnds_Pure) (os : Os) (started : os.Started) (H : Type) (enc : TypeId × Value → H) :
    ReturnsInHanded {} Try.checked os 6 .any (Rows.lockEndsSpec.pre6 enc Try.prog Try.f6 Rows.lockEndsRow.domain false) (Rows.lockEndsSpec.post enc Try.prog Try.f6 false true false false) :=
  law_lifted (C := Try.checked) (X := X) 8 [(.slice (.pair (.int .i64) (.pair (.pair (.int .i64) (.pair .str (.pair (.slice .byte) (.pair (.slice .byte) (.pair (.int .i64) .unit))))) .unit)))] ownKnob0 started (by kernel_rfl) Try.func6 rfl
      (ChangeSpec.witness6 (enc := enc) (C := Try.checked) false ⟨#[], #[.slice none 0 0], []⟩ 8 (by kernel_rfl) (by kernel_rfl) (by kernel_rfl) (by kernel_rfl))
      rfl (fun ds h => match ds, h with | [_], _ => rfl) ⟨_, rfl, by kernel_rfl⟩ (by kernel_rfl) laidOut0 (by kernel_rfl) law09_LockEnds_raw
      (fun x hx => (law09_LockEnds_T (Bool × Unit) askB (x.1, ())).trans (pure x hx))
theorem LockEnds_of (pure : LockEnds_Pure) : Rows.LockEndsSaid :=
  OpenClaim.holds_of_wide 6 Try.f6 rfl rfl rfl rfl rfl rfl rfl ⟨rfl, rfl, rfl, rfl, rfl⟩ rfl rfl rfl rfl rfl (by kernel_rfl) Try.func6 (by kernel_rfl)
    (of_decide_eq_true (by kernel_rfl)) (by unfold Func.isWrapper; first | (rw [if_pos (by decide +kernel)]; kernel_rfl) | (rw [if_neg (by decide +kernel)]; exact ⟨rfl, rfl⟩))
    (fun os started H enc _ => LockEnds_lifted pure os started H enc)

end
end Go.Proofs.Ytkeejnlicagjiab.E
