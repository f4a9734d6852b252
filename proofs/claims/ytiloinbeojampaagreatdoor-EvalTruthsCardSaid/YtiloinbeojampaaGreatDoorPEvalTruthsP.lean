/-
  Plain laws of the pure functions.
  Conditions: those that each statement prints, and no other.
-/
import Derived.Test.YtiloinbeojampaaGreatDoorGEVF
import Derived.Test.YtiloinbeojampaaGreatDoorEvA
import Derived.KernelRfl
set_option linter.unusedVariables false
set_option linter.unusedSimpArgs false
/-! The truths together: all cases. -/
namespace Go.Proofs.YtiloinbeojampaaGreatDoor.E
open Go.Ev
set_option maxRecDepth 100000

abbrev Vl := Int × (Int × ((List UInt8) × Unit))

/-- What a number stands for. -/
def tr (n : Int) : Vl := if 0 ≤ n then (1, n.tmod 2, [], ()) else (0, 0, [], ())

theorem tr_cases (n : Int) : (∃ m : Nat, n = Int.negSucc m ∧ tr n = (0, 0, [], ())) ∨ (∃ m : Nat, n = Int.ofNat m ∧ tr n = (1, 0, [], ())) ∨ (∃ m : Nat, n = Int.ofNat m ∧ tr n = (1, 1, [], ())) := by
  cases n with
  | ofNat m =>
    right
    have h : (Int.ofNat m).tmod 2 = 0 ∨ (Int.ofNat m).tmod 2 = 1 := by
      show ((m : Int)).tmod 2 = 0 ∨ ((m : Int)).tmod 2 = 1
      rw [Int.tmod_eq_emod_of_nonneg (Int.natCast_nonneg m)]; omega
    have h0 : (0 : Int) ≤ Int.ofNat m := Int.natCast_nonneg m
    rcases h with h | h
    · exact .inl ⟨m, rfl, by unfold tr; rw [if_pos h0, h]⟩
    · exact .inr ⟨m, rfl, by unfold tr; rw [if_pos h0, h]⟩
  | negSucc m => exact .inl ⟨m, rfl, if_neg (by omega)⟩

theorem truths_l0 (N : Nat) {R : Type} {k0 : List Vl → Int → Int → Option R} {m f : Nat} (hm : m = f + 3) (a b : Int) : law20_EvalTruths_l0 N R k0 m [] 0 a b = k0 [tr a, tr b] a b := by
  subst hm
  have r1 : (room 32 (([] : List Vl).length + 1)) = true := rfl
  have one : law20_EvalTruths_l0 N R k0 (f + 2 + 1) [] 0 a b = law20_EvalTruths_l0 N R k0 (f + 2) [tr a] 1 a b := by
    show law20_EvalTruths_l0B N R (law20_EvalTruths_l0 N R k0 (f + 2)) k0 [] 0 a b = _
    unfold law20_EvalTruths_l0B tr
    rw [if_t (by decide), if_t rfl]
    by_cases h : 0 ≤ a
    · rw [if_t h, if_pos h]; rfl
    · rw [if_f h, if_neg h]; rfl
  have two : law20_EvalTruths_l0 N R k0 (f + 1 + 1) [tr a] 1 a b = law20_EvalTruths_l0 N R k0 (f + 1) [tr a, tr b] 2 a b := by
    show law20_EvalTruths_l0B N R (law20_EvalTruths_l0 N R k0 (f + 1)) k0 [tr a] 1 a b = _
    generalize tr a = t
    unfold law20_EvalTruths_l0B tr
    rw [if_t (by decide), if_f (by decide), if_t rfl]
    by_cases h : 0 ≤ b
    · rw [if_t h, if_pos h]; rfl
    · rw [if_f h, if_neg h]; rfl
  rw [one, two]
  show law20_EvalTruths_l0B N R (law20_EvalTruths_l0 N R k0 f) k0 [tr a, tr b] 2 a b = _
  unfold law20_EvalTruths_l0B
  rw [if_f (by decide)]

theorem EvalTruths_all (a b : Int) : law20_EvalTruths big a b = some (true, ()) := by
  unfold law20_EvalTruths law20_EvalTruths_cps
  rw [truths_l0 big (f := 999999999999999999999999999997) (by rw [big_eq]) a b, big_eq]
  rcases tr_cases a with ⟨m, rfl, e⟩ | ⟨m, rfl, e⟩ | ⟨m, rfl, e⟩ <;> rw [e] <;> clear e <;> rcases tr_cases b with ⟨n, rfl, e⟩ | ⟨n, rfl, e⟩ | ⟨n, rfl, e⟩ <;> rw [e] <;> clear e <;> kernel_rfl

theorem EvalTruths_pure : EvalTruths_Pure := fun x _ => EvalTruths_all _ _

end Go.Proofs.YtiloinbeojampaaGreatDoor.E
