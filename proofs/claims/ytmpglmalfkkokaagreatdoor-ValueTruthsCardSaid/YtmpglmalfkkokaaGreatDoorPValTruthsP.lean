/-
  Plain laws of the pure functions.
  Conditions: those that each statement prints, and no other.
-/
import Derived.Test.YtmpglmalfkkokaaGreatDoorPValRoundP
set_option linter.unusedVariables false
set_option linter.unusedSimpArgs false
/-! And, Or, Not: as the document has it. -/
namespace Go.Proofs.YtmpglmalfkkokaaGreatDoor.E
open Go.Ev

theorem rright_eq (N : Nat) (k n : Int) (s : Bs) : ref02_Right N k n s = some (rightB k n s, ()) := by
  unfold ref02_Right ref02_Right_cps rightB ref02_Right_j0
  by_cases h1 : k = 1
  · subst h1
    by_cases h2 : n = 1
    · subst h2; simp
    · by_cases h3 : n = 0
      · subst h3; simp
      · simp [h2, h3]
  · by_cases h0 : k = 0
    · subst h0
      by_cases h3 : n = 0
      · subst h3; simp
      · simp [h3]
    · by_cases h2 : k = 2
      · subst h2; simp
      · by_cases h3 : k = 3
        · subst h3; simp
        · by_cases h4 : k = 4
          · subst h4
            by_cases h5 : n = 0
            · subst h5; simp; omega
            · simp [h5]
          · by_cases h6 : k = 5
            · subst h6
              by_cases h5 : n = 0
              · subst h5; simp; omega
              · simp [h5]
            · simp [h1, h0, h2, h3, h4, h6]

theorem truth_cases (N : Nat) (k n : Int) (s : Bs) : (value_truth N k n s = some (false, ()) ∧ ref02_Truth N k n s = some (-2, ())) ∨ (k = 0 ∧ n = 0 ∧ s = []) ∨ (k = 1 ∧ n = 0 ∧ s = []) ∨ (k = 1 ∧ n = 1 ∧ s = []) := by
  cases hr : rightB k n s with
  | false =>
    refine .inl ⟨?_, ?_⟩
    · unfold value_truth value_truth_cps; rw [right_eq, bind_some', hr]; rfl
    · unfold ref02_Truth ref02_Truth_cps; rw [rright_eq, bind_some', hr]; rfl
  | true =>
    by_cases h1 : k = 1
    · subst h1
      unfold rightB at hr
      rw [if_pos rfl] at hr
      obtain ⟨h | h, h'⟩ := of_decide_eq_true hr
      · exact .inr (.inr (.inr ⟨rfl, h, h'⟩))
      · exact .inr (.inr (.inl ⟨rfl, h, h'⟩))
    · by_cases h0 : k = 0
      · subst h0
        unfold rightB at hr
        rw [if_neg (by decide), if_pos rfl] at hr
        obtain ⟨h, h'⟩ := of_decide_eq_true hr
        exact .inr (.inl ⟨rfl, h, h'⟩)
      · have hk : ¬ k ≤ 1 := by
          intro hk
          unfold rightB at hr
          rw [if_neg h1, if_neg h0, if_neg (by omega), if_neg (by omega)] at hr
          cases hr
        refine .inl ⟨?_, ?_⟩
        · unfold value_truth value_truth_cps; rw [right_eq, bind_some', hr]
          simp [hk]
        · unfold ref02_Truth ref02_Truth_cps; rw [rright_eq, bind_some', hr]
          simp [h0, h1]

theorem ValueTruths_all (k n : Int) (s : Bs) (k' n' : Int) (s' : Bs) : law02_ValueTruths big k n s k' n' s' = some (true, ()) := by
  have hb := big_million
  have ha : law02_alive big = some (true, ()) := alive_eq hb
  generalize big = N at ha
  clear hb
  unfold law02_ValueTruths law02_ValueTruths_cps
  by_cases h1 : 500 < s.length
  · rw [if_t (by omega), ha]; rfl
  · rw [if_f (by omega)]
    by_cases h2 : 500 < s'.length
    · rw [if_t (by omega), ha]; rfl
    · rw [if_f (by omega)]
      clear h1 h2
      unfold law02_ValueTruths_j0 law02_ValueTruths_j1 law02_ValueTruths_j2 law02_ValueTruths_j3 law02_ValueTruths_j4
      unfold value_And value_And_cps value_Or value_Or_cps value_Not value_Not_cps value_both value_both_cps
      rcases truth_cases N k n s with ⟨t1, t2⟩ | h
      · rw [t1, t2]
        rcases truth_cases N k' n' s' with ⟨u1, u2⟩ | h'
        · rw [u2, ha]; rfl
        · rcases h' with ⟨rfl, rfl, rfl⟩ | ⟨rfl, rfl, rfl⟩ | ⟨rfl, rfl, rfl⟩ <;> (rw [ha]; rfl)
      · rcases truth_cases N k' n' s' with ⟨u1, u2⟩ | h'
        · rw [u1, u2, ha]
          rcases h with ⟨rfl, rfl, rfl⟩ | ⟨rfl, rfl, rfl⟩ | ⟨rfl, rfl, rfl⟩ <;> rfl
        · rw [ha]
          rcases h with ⟨rfl, rfl, rfl⟩ | ⟨rfl, rfl, rfl⟩ | ⟨rfl, rfl, rfl⟩ <;> rcases h' with ⟨rfl, rfl, rfl⟩ | ⟨rfl, rfl, rfl⟩ | ⟨rfl, rfl, rfl⟩ <;> rfl

theorem ValueTruths_pure : ValueTruths_Pure := fun x _ => ValueTruths_all _ _ _ _ _ _

end Go.Proofs.YtmpglmalfkkokaaGreatDoor.E
