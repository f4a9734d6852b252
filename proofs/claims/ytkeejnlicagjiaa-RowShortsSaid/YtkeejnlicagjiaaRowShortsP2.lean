/-
  The statement RowShorts of the program is proved: for every input that the row speaks of, the law answers true.
  Conditions: those that the statement's row prints, and no other. This text: plain laws of the pure functions.
-/
import Derived.Test.YtkeejnlicagjiaaRowShortsP1
set_option linter.unusedVariables false
set_option linter.unusedSimpArgs false
/-! RowShorts: the program's short numbers are the document's. -/
namespace Go.Proofs.Ytkeejnlicagjiaa.E
open Go.Ev

theorem wf_i64 {n : Int} (h : Wf (.int .i64) n) : -9223372036854775808 ≤ n ∧ n ≤ 9223372036854775807 := h

theorem wf_bytes {b : List UInt8} (h : Wf (.slice .byte) b) : b.length ≤ 140737488351232 := by
  have := h.1
  simp only [Ty.bytes] at this
  omega

theorem RowShorts_pure : RowShorts_Pure := by
  rintro ⟨n, b, _⟩ ⟨h1, h2, _⟩
  have hn := wf_i64 h1
  have hb := wf_bytes h2
  dsimp only at hn hb ⊢
  unfold law05_RowShorts law05_RowShorts_cps
  by_cases h100 : 100 < (b.length : Int)
  · rw [if_t h100, alive, bind_some']
  · rw [if_f h100, row_Long_eq (by omega) (big_gt _ (by omega)), bind_some', ref_Long_eq (big_gt _ (by decide)) (by omega) (big_gt _ (by omega)), bind_some', alive, bind_some',
      row_Short_eq (big_gt _ (by decide)) hn.1 hn.2, ref_Short_eq (big_gt _ (by decide)) hn.1 hn.2]
    simp [bind_some']

end Go.Proofs.Ytkeejnlicagjiaa.E
