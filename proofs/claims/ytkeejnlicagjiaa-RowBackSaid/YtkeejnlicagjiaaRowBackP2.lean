/-
  The statement RowBack of the program is proved: for every input that the row speaks of, the law answers true.
  Conditions: those that the statement's row prints, and no other. This text: plain laws of the pure functions.
-/
import Derived.Test.YtkeejnlicagjiaaRowBackP1
set_option linter.unusedVariables false
set_option linter.unusedSimpArgs false
/-! Few values. -/
namespace Go.Proofs.Ytkeejnlicagjiaa.E
open Go.Ev

theorem few_loop (N : Nat) (R : Type) (k0 : Option R) (k1 : Bool → Option R) (l : List V) (hl : l.length ≤ 9223372036854775807) :
    ∀ (d i : Nat), i + d = l.length → ∀ m, d < m → law05_few_l0 N R k0 k1 m l (i : Int) = k0 ∨ law05_few_l0 N R k0 k1 m l (i : Int) = k1 false
  | d, i, hi, m, hm => by
    obtain ⟨m, rfl⟩ : ∃ k, m = k + 1 := ⟨m - 1, by omega⟩
    simp only [law05_few_l0, law05_few_l0B]
    by_cases hlt : i < l.length
    · rw [if_t (by omega)]
      by_cases h20 : i = 20
      · rw [if_t (by omega)]; exact .inr rfl
      · rw [if_f (by omega), nth_lt hlt, bind_some']
        by_cases h5 : 500 < (l[i].2.2.1.length : Int)
        · rw [if_t h5]; exact .inr rfl
        · rw [if_f h5, wrap_succ hlt hl]
          exact few_loop N R k0 k1 l hl (d - 1) (i + 1) (by omega) m (by omega)
    · rw [if_f (by omega)]; exact .inl rfl

theorem few_some (N : Nat) (l : List V) (hl : l.length < N) (h2 : l.length ≤ 9223372036854775807) : ∃ b, law05_few N l = some (b, ()) := by
  unfold law05_few law05_few_cps
  rcases few_loop N _ (some (true, ())) (fun v2 => some (v2, ())) l h2 l.length 0 (by omega) N hl with h | h
  · exact ⟨true, h⟩
  · exact ⟨false, h⟩

theorem wf_list {l : List V} (h : Wf (.slice (.pair (.int .i64) (.pair (.int .i64) (.pair .str .unit)))) l) : (∀ v, v ∈ l → WfV v) ∧ l.length ≤ 140737488351232 := by
  obtain ⟨h1, h2⟩ := h
  simp only [Ty.bytes, IntKind.bits] at h1
  refine ⟨fun v hv => ?_, by omega⟩
  have := (h2 v hv).2.1
  exact this

end Go.Proofs.Ytkeejnlicagjiaa.E
