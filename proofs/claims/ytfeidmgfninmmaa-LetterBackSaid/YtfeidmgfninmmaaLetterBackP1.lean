/-
  The statement LetterBack of the program is proved: for every input that the row speaks of, the law answers true.
  Conditions: those that the statement's row prints, and no other. This text: plain laws of the pure functions.
-/
import Derived.Test.YtfeidmgfninmmaaLetterBackP0
set_option linter.unusedVariables false
set_option linter.unusedSimpArgs false
/-! The number that bytes begin with: the program's answer and the document's are one. -/
namespace Go.Proofs.Ytfeidmgfninmmaa.E
open Go.Ev

/-- The short bytes that bytes begin with: what number, how many. -/
def rd : List UInt8 → Option (Nat × Nat)
  | [] => none
  | c :: r => if c.toNat < 128 then some (c.toNat, 1) else match rd r with
    | some (u, k) => if u = 0 then none else some (c.toNat % 128 + 128 * u, k + 1)
    | none => none

def unzz (u : Nat) : Int := if u % 2 = 0 then (u / 2 : Nat) else -((u / 2 : Nat) : Int) - 1

theorem zz_unzz (u : Nat) : zz (unzz u) = u := by
  unfold zz unzz
  split <;> split <;> omega

theorem unzz_zz (n : Int) : unzz (zz n) = n := by
  unfold zz unzz
  split <;> split <;> omega

theorem unzz_in {u : Nat} (h : u < 18446744073709551616) : -9223372036854775808 ≤ unzz u ∧ unzz u ≤ 9223372036854775807 := by
  unfold unzz; split <;> omega

theorem rd_short (more : List UInt8) : ∀ (u : Nat), rd (short u ++ more) = some (u, (short u).length) := by
  intro u
  induction u using Nat.strongRecOn with
  | ind u ih =>
    by_cases h : u ≤ 127
    · rw [short_last h]
      have : (UInt8.ofNat u).toNat = u := by simp; omega
      simp only [List.cons_append, List.nil_append, rd, this]
      rw [if_pos (by omega)]; rfl
    · rw [short_step h]
      have : (UInt8.ofNat (u % 128 + 128)).toNat = u % 128 + 128 := by simp; omega
      simp only [List.cons_append, rd, this]
      rw [if_neg (by omega), ih (u / 128) (by omega)]
      simp only
      rw [if_neg (by omega)]
      simp; omega

theorem rd_some : ∀ (b : List UInt8) (u k : Nat), rd b = some (u, k) → b = short u ++ b.drop k ∧ k = (short u).length
  | [], u, k, h => by simp [rd] at h
  | c :: r, u, k, h => by
    simp only [rd] at h
    split at h
    · rename_i hc
      cases h
      rw [short_last (by omega)]
      simp
    · rename_i hc
      split at h
      · rename_i u' k' hr
        split at h
        · cases h
        · rename_i hu
          cases h
          obtain ⟨h1, h2⟩ := rd_some r u' k' hr
          have hlt := c.toNat_lt
          rw [short_step (by omega)]
          have e1 : (c.toNat % 128 + 128 * u') % 128 + 128 = c.toNat := by omega
          have e2 : (c.toNat % 128 + 128 * u') / 128 = u' := by omega
          rw [e1, e2]
          refine ⟨?_, by simp [h2]⟩
          simp only [List.drop_succ_cons, List.cons_append, UInt8.ofNat_toNat]
          rw [← h1]
      · cases h

theorem rd_len {b : List UInt8} {u k : Nat} (h : rd b = some (u, k)) : k ≤ b.length := by
  obtain ⟨h1, h2⟩ := rd_some b u k h
  have := congrArg List.length h1
  simp at this; omega

theorem short_ne (u : Nat) : short u ≠ [] := by rw [short]; split <;> simp

end Go.Proofs.Ytfeidmgfninmmaa.E
