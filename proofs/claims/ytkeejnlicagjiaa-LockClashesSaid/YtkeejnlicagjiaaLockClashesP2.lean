/-
  The statement LockClashes of the program is proved: for every input that the row speaks of, the law answers true.
  Conditions: those that the statement's row prints, and no other. This text: plain laws of the pure functions.
-/
import Derived.Test.YtkeejnlicagjiaaLockClashesP1
set_option linter.unusedVariables false
set_option linter.unusedSimpArgs false
/-! LockClashes. -/
namespace Go.Proofs.Ytkeejnlicagjiaa.E
open Go.Ev

theorem short_some (N : Nat) (a : LkT) : ∃ b, law09_short N a.1 a.2.1 a.2.2.1 a.2.2.2.1 a.2.2.2.2.1 = some (b, ()) := by
  unfold law09_short law09_short_cps
  cases decide ((a.2.2.1.length : Int) ≤ 40) <;> cases decide ((a.2.2.2.1.length : Int) ≤ 40) <;> exact ⟨_, rfl⟩

theorem LockClashes_all (a b : LkT) : law09_LockClashes big a.1 a.2.1 a.2.2.1 a.2.2.2.1 a.2.2.2.2.1 b.1 b.2.1 b.2.2.1 b.2.2.2.1 b.2.2.2.2.1 = some (true, ()) := by
  unfold law09_LockClashes law09_LockClashes_cps
  obtain ⟨p, hp⟩ := short_some big a
  obtain ⟨q, hq⟩ := short_some big b
  rw [hp, bind_some', hq, bind_some']
  cases p with
  | false => rw [alive09]; rfl
  | true =>
    cases q with
    | false => rw [alive09]; rfl
    | true =>
      simp only [Bool.not_true, cond_false]
      rw [clash_eq big a b, bind_some', show law09_told big a.1 a.2.1 a.2.2.1 a.2.2.2.1 a.2.2.2.2.1 = some a from rfl, bind_some', show law09_told big b.1 b.2.1 b.2.2.1 b.2.2.2.1 b.2.2.2.2.1 = some b from rfl, bind_some', refClash_eq big a b, bind_some',
        clash_eq big b a, bind_some', clash_comm b a]
      have e1 := clash_eq big (a.1, (a.2.1, (a.2.2.1, (a.2.2.2.1, (1, ()))))) (b.1, (b.2.1, (b.2.2.1, (b.2.2.2.1, (1, ())))))
      have e2 := clash_eq big (a.1, (a.2.1, (a.2.2.1, (a.2.2.2.1, (1, ()))))) (a.1, (b.2.1, (b.2.2.1, (b.2.2.2.1, (2, ())))))
      simp only at e1 e2
      rw [e1, e2, bind_some', alive09, bind_some', bind_some', clash_self (a.1, (a.2.1, (a.2.2.1, (a.2.2.2.1, (1, ()))))) (a.1, (b.2.1, (b.2.2.1, (b.2.2.2.1, (2, ()))))) rfl]
      have c1 : clash (a.1, (a.2.1, (a.2.2.1, (a.2.2.2.1, (1, ()))))) (b.1, (b.2.1, (b.2.2.1, (b.2.2.2.1, (1, ()))))) = false := by simp [clash]
      rw [c1]
      cases clash a b <;> rfl

theorem LockClashes_pure : LockClashes_Pure := fun x _ => LockClashes_all x.1 x.2.1

end Go.Proofs.Ytkeejnlicagjiaa.E
