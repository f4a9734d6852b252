/-
  The statement DiskCuts of the program is proved: for every input that the row speaks of, the law answers true.
  Conditions: those that the statement's row prints, and no other. This text: the row, out of the pure statement.
-/
import Derived.Test.YtkeejnlicagjiaaDiskCutsW
set_option linter.unusedVariables false
set_option linter.unusedSimpArgs false
/-! The rows of the laws, printed by wip/gen. -/
namespace Go.Proofs.Ytkeejnlicagjiaa.E
open Go.Ev Go.ChangeShapes
set_option maxRecDepth 100000
noncomputable section
theorem ownKnob0 : ownKnob Try.prog.godebug = none := by kernel_rfl
theorem laidOut0 : laidOutB Try.prog = true := by kernel_rfl
theorem DiskCuts_lifted (pure : DiskCuts_Pure) (os : Os) (started : os.Started) (H : Type) (enc : TypeId × Value → H) :
    ReturnsInHanded {} Try.checked os 6 .any (Rows.diskCutsSpec.pre6 enc Try.prog Try.f6 Rows.diskCutsRow.domain false) (Rows.diskCutsSpec.post enc Try.prog Try.f6 false true false false) :=
  law_lifted (C := Try.checked) (X := X) 8 [(.slice .byte), (.slice .byte), (.int .i64)] ownKnob0 started (by kernel_rfl) Try.func6 rfl
      (ChangeSpec.witness6 (enc := enc) (C := Try.checked) false ⟨#[], #[.slice none 0 0, .slice none 0 0, .int .i64 0], []⟩ 8 (by kernel_rfl) (by kernel_rfl) (by kernel_rfl) (by kernel_rfl))
      rfl (fun ds h => match ds, h with | [_, _, _], _ => rfl) ⟨_, rfl, by kernel_rfl⟩ (by kernel_rfl) laidOut0 (by kernel_rfl) law06_DiskCuts_raw
      (fun x hx => (law06_DiskCuts_T (Bool × Unit) askB (x.1, x.2.1, x.2.2.1, ())).trans (pure x hx))
theorem DiskCuts_of (pure : DiskCuts_Pure) : Rows.DiskCutsSaid :=
  OpenClaim.holds_of_wide 6 Try.f6 rfl rfl rfl rfl rfl rfl rfl ⟨rfl, rfl, rfl, rfl, rfl⟩ rfl rfl rfl rfl rfl (by kernel_rfl) Try.func6 (by kernel_rfl)
    (of_decide_eq_true (by kernel_rfl)) (by unfold Func.isWrapper; first | (rw [if_pos (by decide +kernel)]; kernel_rfl) | (rw [if_neg (by decide +kernel)]; exact ⟨rfl, rfl⟩))
    (fun os started H enc _ => DiskCuts_lifted pure os started H enc)

end
end Go.Proofs.Ytkeejnlicagjiaa.E
