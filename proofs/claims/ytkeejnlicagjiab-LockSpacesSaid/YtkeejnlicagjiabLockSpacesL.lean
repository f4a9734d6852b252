/-
  The statement LockSpaces of the program is proved: for every input that the row speaks of, the law answers true.
  Conditions: those that the statement's row prints, and no other. This text: the row, out of the pure statement.
-/
import Derived.Test.YtkeejnlicagjiabLockSpacesW
set_option linter.unusedVariables false
set_option linter.unusedSimpArgs false
/-! The rows of the laws, printed by wip/gen. -/
namespace Go.Proofs.Ytkeejnlicagjiab.E
open Go.Ev Go.ChangeShapes
set_option maxRecDepth 100000
noncomputable section
theorem ownKnob0 : ownKnob Try.prog.godebug = none := by kernel_rfl
theorem laidOut0 : laidOutB Try.prog = true := by kernel_rfl
theorem LockSpaces_lifted (pure : LockSpaces_Pure) (os : Os) (started : os.Started) (H : Type) (enc : TypeId × Value → H) :
    ReturnsInHanded {} Try.checked os 3 .any (Rows.lockSpacesSpec.pre6 enc Try.prog Try.f3 Rows.lockSpacesRow.domain false) (Rows.lockSpacesSpec.post enc Try.prog Try.f3 false true false false) :=
  law_lifted (C := Try.checked) (X := X) 8 [(.pair (.int .i64) (.pair .str (.pair (.slice .byte) (.pair (.slice .byte) (.pair (.int .i64) .unit))))), (.pair (.int .i64) (.pair .str (.pair (.slice .byte) (.pair (.slice .byte) (.pair (.int .i64) .unit)))))] ownKnob0 started (by kernel_rfl) Try.func3 rfl
      (ChangeSpec.witness6 (enc := enc) (C := Try.checked) false ⟨#[], #[.agg #[.int .i64 0, .string ByteArray.empty, .slice none 0 0, .slice none 0 0, .int .i64 0], .agg #[.int .i64 0, .string ByteArray.empty, .slice none 0 0, .slice none 0 0, .int .i64 0]], []⟩ 8 (by kernel_rfl) (by kernel_rfl) (by kernel_rfl) (by kernel_rfl))
      rfl (fun ds h => match ds, h with | [_, _], _ => rfl) ⟨_, rfl, by kernel_rfl⟩ (by kernel_rfl) laidOut0 (by kernel_rfl) law09_LockSpaces_raw
      (fun x hx => (law09_LockSpaces_T (Bool × Unit) askB (x.1.1, x.1.2.1, x.1.2.2.1, x.1.2.2.2.1, x.1.2.2.2.2.1, x.2.1.1, x.2.1.2.1, x.2.1.2.2.1, x.2.1.2.2.2.1, x.2.1.2.2.2.2.1, ())).trans (pure x hx))
theorem LockSpaces_of (pure : LockSpaces_Pure) : Rows.LockSpacesSaid :=
  OpenClaim.holds_of_wide 3 Try.f3 rfl rfl rfl rfl rfl rfl rfl ⟨rfl, rfl, rfl, rfl, rfl⟩ rfl rfl rfl rfl rfl (by kernel_rfl) Try.func3 (by kernel_rfl)
    (of_decide_eq_true (by kernel_rfl)) (by unfold Func.isWrapper; first | (rw [if_pos (by decide +kernel)]; kernel_rfl) | (rw [if_neg (by decide +kernel)]; exact ⟨rfl, rfl⟩))
    (fun os started H enc _ => LockSpaces_lifted pure os started H enc)

end
end Go.Proofs.Ytkeejnlicagjiab.E
