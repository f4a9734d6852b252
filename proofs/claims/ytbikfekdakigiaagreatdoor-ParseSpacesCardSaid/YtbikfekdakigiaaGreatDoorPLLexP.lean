/-
  Plain laws of the pure functions.
  Conditions: those that each statement prints, and no other.
-/
import Derived.Test.YtbikfekdakigiaaGreatDoorGPSF
import Derived.Test.YtbikfekdakigiaaGreatDoorEvA
import Derived.Lib.ParseIntBTie
set_option linter.unusedVariables false
set_option linter.unusedSimpArgs false
namespace Go.Proofs.YtbikfekdakigiaaGreatDoor.E.L
open Go.Ev
abbrev Bs := List UInt8
def ofB (c : UInt8) : Int :=
 if (97 ≤ c.toNat ∧ c.toNat ≤ 122) ∨ (65 ≤ c.toNat ∧ c.toNat ≤ 90) then 2
 else if 48 ≤ c.toNat ∧ c.toNat ≤ 57 then 3
 else if c.toNat = 32 ∨ c.toNat = 9 ∨ c.toNat = 10 ∨ c.toNat = 13 then 1
 else if c.toNat = 95 then 4 else 0
theorem of_eq (N : Nat) (c : UInt8) : lex_of N (c.toNat : Int) = some (ofB c, ()) := by
 have key : ∀ k : Fin 256, lex_of N ((k.val : Nat) : Int) = some (if (97 ≤ k.val ∧ k.val ≤ 122) ∨ (65 ≤ k.val ∧ k.val ≤ 90) then 2
  else if 48 ≤ k.val ∧ k.val ≤ 57 then 3
  else if k.val = 32 ∨ k.val = 9 ∨ k.val = 10 ∨ k.val = 13 then 1
  else if k.val = 95 then 4 else 0, ()) := by
  intro ⟨n, hn⟩
  dsimp only
  unfold lex_of lex_of_cps
  by_cases a1 : 97 ≤ n
  · by_cases a2 : n ≤ 122
    · rw [if_t (by omega), if_t (by omega), if_pos (.inl ⟨a1, a2⟩)]
    · rw [if_t (by omega), if_f (by omega), if_t (by omega), if_f (by omega), if_t (by omega), if_f (by omega), if_f (by omega), if_f (by omega), if_f (by omega), if_f (by omega), if_f (by omega), if_neg (by omega), if_neg (by omega), if_neg (by omega), if_neg (by omega)]
  · rw [if_f (by omega)]
    by_cases b1 : 65 ≤ n
    · by_cases b2 : n ≤ 90
      · rw [if_t (by omega), if_t (by omega), if_pos (.inr ⟨b1, b2⟩)]
      · rw [if_t (by omega), if_f (by omega), if_t (by omega), if_f (by omega), if_f (by omega), if_f (by omega), if_f (by omega), if_f (by omega), if_neg (by omega), if_neg (by omega), if_neg (by omega)]
        by_cases h : n = 95
        · rw [if_t (by omega), if_pos h]
        · rw [if_f (by omega), if_neg h]
    · rw [if_f (by omega), if_neg (by omega)]
      by_cases c1 : 48 ≤ n
      · by_cases c2 : n ≤ 57
        · rw [if_t (by omega), if_t (by omega), if_pos ⟨c1, c2⟩]
        · rw [if_t (by omega), if_f (by omega), if_f (by omega), if_f (by omega), if_f (by omega), if_f (by omega), if_f (by omega), if_neg (by omega), if_neg (by omega), if_neg (by omega)]
      · rw [if_f (by omega), if_neg (by omega)]
        by_cases d1 : n = 32
        · rw [if_t (by omega), if_pos (.inl d1)]
        · by_cases d2 : n = 9
          · rw [if_f (by omega), if_t (by omega), if_pos (by omega)]
          · by_cases d3 : n = 10
            · rw [if_f (by omega), if_f (by omega), if_t (by omega), if_pos (by omega)]
            · by_cases d4 : n = 13
              · rw [if_f (by omega), if_f (by omega), if_f (by omega), if_t (by omega), if_pos (by omega)]
              · rw [if_f (by omega), if_f (by omega), if_f (by omega), if_f (by omega), if_f (by omega), if_neg (by omega), if_neg (by omega)]
 exact key ⟨c.toNat, c.toNat_lt⟩
end Go.Proofs.YtbikfekdakigiaaGreatDoor.E.L
