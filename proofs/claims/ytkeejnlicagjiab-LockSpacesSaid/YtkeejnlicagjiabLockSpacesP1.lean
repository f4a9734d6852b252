/-
  The statement LockSpaces of the program is proved: for every input that the row speaks of, the law answers true.
  Conditions: those that the statement's row prints, and no other. This text: plain laws of the pure functions.
-/
import Derived.Test.YtkeejnlicagjiabLockSpacesP0
set_option linter.unusedVariables false
set_option linter.unusedSimpArgs false
/-! LockSpaces. -/
namespace Go.Proofs.Ytkeejnlicagjiab.E
open Go.Ev

theorem short_some (N : Nat) (a : LkT) : ∃ b, law09_short N a.1 a.2.1 a.2.2.1 a.2.2.2.1 a.2.2.2.2.1 = some (b, ()) ∧ (b = true → a.2.1.length ≤ 40) := by
  unfold law09_short law09_short_cps
  cases decide ((a.2.2.1.length : Int) ≤ 40) <;> cases decide ((a.2.2.2.1.length : Int) ≤ 40) <;> refine ⟨_, rfl, fun h => ?_⟩ <;> first | cases h | skip
  have := of_decide_eq_true h
  omega

theorem clash1_eq (N : Nat) (a b : LkT) : lock_Clash_1 N a.1 a.2.1 a.2.2.1 a.2.2.2.1 a.2.2.2.2.1 b.1 b.2.1 b.2.2.1 b.2.2.2.1 b.2.2.2.2.1 = some (clash a b, ()) := clash_eq N a b

theorem spaces_join (a b : LkT) (ha : a.2.1.length ≤ 40) (hne : a.1 ≠ b.1) (hb : ahead b.2.2.1 b.2.2.2.1 = true) (k0 : Bool → Option (Bool × Unit)) :
    law09_LockSpaces_j0 big _ a.1 a.2.1 a.2.2.1 a.2.2.2.1 a.2.2.2.2.1 b.1 b.2.1 b.2.2.1 b.2.2.2.1 b.2.2.2.2.1 k0 = k0 true := by
  unfold law09_LockSpaces_j0
  have e1 := clash_eq big (a.1, (a.2.1 ++ [120], (a.2.2.1, (a.2.2.2.1, (a.2.2.2.2.1, ()))))) (b.1, (a.2.1, (b.2.2.1, (b.2.2.2.1, (b.2.2.2.2.1, ())))))
  have e2 := clash_eq big (a.1, (a.2.1 ++ [120], (a.2.2.1, (a.2.2.2.1, (a.2.2.2.2.1, ()))))) (a.1, ((a.2.1 ++ [120]) ++ [121], (a.2.2.1, (a.2.2.2.1, (a.2.2.2.2.1, ())))))
  have e3 := clash1_eq big (a.1, (a.2.1, ([], ([], (a.2.2.2.2.1, ()))))) (b.1, (a.2.1, (b.2.2.1, (b.2.2.2.1, (b.2.2.2.2.1, ())))))
  have e4 := clash_eq big (a.1, (a.2.1, (a.2.2.1, (b.2.2.1, (a.2.2.2.2.1, ()))))) (b.1, (a.2.1, (b.2.2.1, (b.2.2.2.1, (b.2.2.2.2.1, ())))))
  simp only at e1 e2 e3 e4
  have hs : ¬ (a.2.1 ++ [120] = a.2.1) := fun h => by have := congrArg List.length h; simp at this
  have c1 : clash (a.1, (a.2.1 ++ [120], (a.2.2.1, (a.2.2.2.1, (a.2.2.2.2.1, ()))))) (b.1, (a.2.1, (b.2.2.1, (b.2.2.2.1, (b.2.2.2.2.1, ()))))) = false := by simp [clash]
  have c2 : clash (a.1, (a.2.1 ++ [120], (a.2.2.1, (a.2.2.2.1, (a.2.2.2.2.1, ()))))) (a.1, ((a.2.1 ++ [120]) ++ [121], (a.2.2.1, (a.2.2.2.1, (a.2.2.2.2.1, ()))))) = false := clash_self _ _ rfl
  have ht : top [] b.2.2.1 = b.2.2.1 := by
    unfold top
    cases hb0 : b.2.2.1 with
    | nil => rfl
    | cons x r => rfl
  have c3 : clash (a.1, (a.2.1, ([], ([], (a.2.2.2.2.1, ()))))) (b.1, (a.2.1, (b.2.2.1, (b.2.2.2.1, (b.2.2.2.2.1, ()))))) = !(decide (a.2.2.2.2.1 = 1) && decide (b.2.2.2.2.1 = 1)) := by
    simp only [clash, ht, hb]
    simp [hne, ahead]
  have c4 : b.2.2.1 ≠ [] → clash (a.1, (a.2.1, (a.2.2.1, (b.2.2.1, (a.2.2.2.2.1, ()))))) (b.1, (a.2.1, (b.2.2.1, (b.2.2.2.1, (b.2.2.2.2.1, ()))))) = false := by
    intro hn
    have := (top_ge a.2.2.1 b.2.2.1).2
    simp only [clash, ahead, this]
    simp [hn]
  rw [cond_t (room_one (by simp; omega)), cond_t (room_one (by simp; omega)), alive09, e1, e2, e3, e4, c1, c2, c3, len0]
  by_cases hn : b.2.2.1 = []
  · simp only [bind_some', hn, decide_true]
    cases decide (a.2.2.2.2.1 = 1) <;> cases decide (b.2.2.2.2.1 = 1) <;> rfl
  · rw [c4 hn, dec_f hn]
    simp only [bind_some']
    cases decide (a.2.2.2.2.1 = 1) <;> cases decide (b.2.2.2.2.1 = 1) <;> rfl

theorem LockSpaces_all (a b : LkT) : law09_LockSpaces big a.1 a.2.1 a.2.2.1 a.2.2.2.1 a.2.2.2.2.1 b.1 b.2.1 b.2.2.1 b.2.2.2.1 b.2.2.2.2.1 = some (true, ()) := by
  unfold law09_LockSpaces law09_LockSpaces_cps
  obtain ⟨p, hp, hp2⟩ := short_some big a
  obtain ⟨q, hq, _⟩ := short_some big b
  rw [hp, bind_some', hq, bind_some']
  cases p with
  | false => rw [alive09]; rfl
  | true =>
    cases q with
    | false => rw [alive09]; rfl
    | true =>
      simp only [Bool.not_true, cond_false]
      by_cases h1 : a.1 = b.1
      · rw [if_t h1, alive09]; rfl
      rw [if_f h1, len_pos]
      by_cases h2 : b.2.2.2.1 = []
      · rw [dec_t h2]
        simp only [Bool.not_true, cond_false]
        exact spaces_join a b (hp2 rfl) h1 (by simp [ahead, h2]) _
      · rw [dec_f h2]
        simp only [Bool.not_false, cond_true]
        cases h3 : Op.bytesLess b.2.2.1 b.2.2.2.1 with
        | false => rw [alive09]; rfl
        | true =>
          simp only [Bool.not_true, cond_false]
          exact spaces_join a b (hp2 rfl) h1 (by simp [ahead, h3]) _

theorem LockSpaces_pure : LockSpaces_Pure := fun x _ => LockSpaces_all x.1 x.2.1

end Go.Proofs.Ytkeejnlicagjiab.E
