/-
  The statement LetterBits of the program is proved: for every input that the row speaks of, the law answers true.
  Conditions: those that the statement's row prints, and no other. This text: the row, out of the pure statement.
-/
import Derived.Test.YtfeidmgfninmmaaLetterBitsW
set_option linter.unusedVariables false
set_option linter.unusedSimpArgs false
/-! The rows of the laws, printed by wip/gen. -/
namespace Go.Proofs.Ytfeidmgfninmmaa.E
open Go.Ev Go.ChangeShapes
set_option maxRecDepth 100000
noncomputable section
theorem ownKnob0 : ownKnob Try.prog.godebug = none := by kernel_rfl
theorem laidOut0 : laidOutB Try.prog = true := by kernel_rfl
theorem LetterBits_lifted (pure : LetterBits_Pure) (os : Os) (started : os.Started) (H : Type) (enc : TypeId × Value → H) :
    ReturnsInHanded {} Try.checked os 5 .any (Rows.letterBitsSpec.pre6 enc Try.prog Try.f5 Rows.letterBitsRow.domain false) (Rows.letterBitsSpec.post enc Try.prog Try.f5 false true false false) :=
  law_lifted (C := Try.checked) (X := X) 8 [(.int .i64), (.int .i64), (.int .i64)] ownKnob0 started (by kernel_rfl) Try.func5 rfl
      (ChangeSpec.witness6 (enc := enc) (C := Try.checked) false ⟨#[], #[.int .i64 0, .int .i64 0, .int .i64 0], []⟩ 8 (by kernel_rfl) (by kernel_rfl) (by kernel_rfl) (by kernel_rfl))
      rfl (fun ds h => match ds, h with | [_, _, _], _ => rfl) ⟨_, rfl, by kernel_rfl⟩ (by kernel_rfl) laidOut0 (by kernel_rfl) law11_LetterBits_raw
      (fun x hx => (law11_LetterBits_T (Bool × Unit) askB (x.1, x.2.1, x.2.2.1, ())).trans (pure x hx))
theorem LetterBits_of (pure : LetterBits_Pure) : Rows.LetterBitsSaid :=
  OpenClaim.holds_of_wide 5 Try.f5 rfl rfl rfl rfl rfl rfl rfl ⟨rfl, rfl, rfl, rfl, rfl⟩ rfl rfl rfl rfl rfl (by kernel_rfl) Try.func5 (by kernel_rfl)
    (of_decide_eq_true (by kernel_rfl)) (by unfold Func.isWrapper; first | (rw [if_pos (by decide +kernel)]; kernel_rfl) | (rw [if_neg (by decide +kernel)]; exact ⟨rfl, rfl⟩))
    (fun os started H enc _ => LetterBits_lifted pure os started H enc)

end
end Go.Proofs.Ytfeidmgfninmmaa.E
