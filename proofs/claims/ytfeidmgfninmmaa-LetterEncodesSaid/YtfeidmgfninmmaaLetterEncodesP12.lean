/-
  The statement LetterEncodes of the program is proved: for every input that the row speaks of, the law answers true.
  Conditions: those that the statement's row prints, and no other. This text: plain laws of the pure functions.
-/
import Derived.Test.YtfeidmgfninmmaaLetterEncodesP11
set_option linter.unusedVariables false
set_option linter.unusedSimpArgs false
/-! LetterEncodes: the program's letters are the document's. -/
namespace Go.Proofs.Ytfeidmgfninmmaa.E
open Go.Ev

theorem LetterEncodes_all (k f t n : Int) (l : List Int) (b : List UInt8) : law11_LetterEncodes big k f t n l b = some (true, ()) := by
  unfold law11_LetterEncodes law11_LetterEncodes_cps
  by_cases h1 : 300 < (l.length : Int)
  · rw [if_t h1, alive11]; rfl
  rw [if_f h1]
  by_cases h2 : 300 < (b.length : Int)
  · rw [if_t h2, alive11]; rfl
  rw [if_f h2]
  have hN : 2000 < big := big_gt _ (by decide)
  have hlen : (outL (decL b)).2.2.2.2.1.length ≤ 16 := by
    cases h : decL b with
    | none => simp [outL]
    | some x => exact okL_len (decL_some h).1
  rw [letter_Encode_eq hN k f t n l (by omega) (by omega), bind_some', ref_Encode_L hN k f t n l (by omega) (by omega), bind_some',
    letter_Decode_eq (by omega) (by omega) (by omega), bind_some', ref_Decode_L hN (by omega) (by omega), bind_some',
    ref_Same_eq _ _ _ _ _ _ _ _ _ _ (by omega) (by omega), bind_some', alive11, bind_some',
    letter_Right_eq k f t n l (by omega) (by omega), bind_some', ref_Right_L k f t n l (by omega) (by omega), bind_some']
  simp [same]

theorem LetterEncodes_pure : LetterEncodes_Pure := fun _ _ => LetterEncodes_all ..

end Go.Proofs.Ytfeidmgfninmmaa.E
