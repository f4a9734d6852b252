/-
  Plain laws of the pure functions.
  Conditions: those that each statement prints, and no other.
-/
import Derived.Test.YtmpglmalfkkokaaDoorPValBackP
set_option linter.unusedVariables false
set_option linter.unusedSimpArgs false
/-! The truths. -/
namespace Go.Proofs.YtmpglmalfkkokaaDoor.E
open Go.Ev

theorem ValueNots_all (a b c : Int) : law02_ValueNots big a b c = some (true, ()) := by
  have hb := big_million
  generalize big = N at hb
  obtain ⟨f, hf⟩ : ∃ f, N = f + 4 := ⟨N - 4, by omega⟩
  have fin : ∀ {R : Type} {k0 : Int → Int → Int → Int → Int → Bs → Int → Int → Bs → Int → Int → Bs → Option R} {r : Option R},
      (∀ x1 y1 x2 y2 x3 y3, ((x1 = 0 ∧ y1 = 0) ∨ (x1 = 1 ∧ (y1 = 0 ∨ y1 = 1))) → ((x2 = 0 ∧ y2 = 0) ∨ (x2 = 1 ∧ (y2 = 0 ∨ y2 = 1))) → ((x3 = 0 ∧ y3 = 0) ∨ (x3 = 1 ∧ (y3 = 0 ∨ y3 = 1))) →
        k0 a b c x1 y1 [] x2 y2 [] x3 y3 [] = r) → law02_ValueNots_l0 N R k0 (f + 4) 0 a b c 0 0 [] 0 0 [] 0 0 [] = r := by
    intro R k0 r h
    have tm : ∀ x : Int, 0 ≤ x → x.tmod 2 = 0 ∨ x.tmod 2 = 1 := fun x hx => by
      rw [Int.tmod_eq_emod_of_nonneg hx]; omega
    have s0 : law02_ValueNots_l0 N R k0 (f + 4) 0 a b c 0 0 [] 0 0 [] 0 0 [] = bif decide (0 ≤ a) then law02_ValueNots_l0 N R k0 (f + 3) 1 a b c 1 (a.tmod 2) [] 0 0 [] 0 0 [] else law02_ValueNots_l0 N R k0 (f + 3) 1 a b c 0 0 [] 0 0 [] 0 0 [] := rfl
    have s1 : ∀ x y, law02_ValueNots_l0 N R k0 (f + 3) 1 a b c x y [] 0 0 [] 0 0 [] = bif decide (0 ≤ b) then law02_ValueNots_l0 N R k0 (f + 2) 2 a b c x y [] 1 (b.tmod 2) [] 0 0 [] else law02_ValueNots_l0 N R k0 (f + 2) 2 a b c x y [] 0 0 [] 0 0 [] := fun x y => rfl
    have s2 : ∀ x y x' y', law02_ValueNots_l0 N R k0 (f + 2) 2 a b c x y [] x' y' [] 0 0 [] = bif decide (0 ≤ c) then law02_ValueNots_l0 N R k0 (f + 1) 3 a b c x y [] x' y' [] 1 (c.tmod 2) [] else law02_ValueNots_l0 N R k0 (f + 1) 3 a b c x y [] x' y' [] 0 0 [] := fun x y x' y' => rfl
    have s3 : ∀ x y x' y' x2 y2, law02_ValueNots_l0 N R k0 (f + 1) 3 a b c x y [] x' y' [] x2 y2 [] = k0 a b c x y [] x' y' [] x2 y2 [] := fun x y x' y' x2 y2 => rfl
    have h3 : ∀ x y x' y', ((x = 0 ∧ y = 0) ∨ (x = 1 ∧ (y = 0 ∨ y = 1))) → ((x' = 0 ∧ y' = 0) ∨ (x' = 1 ∧ (y' = 0 ∨ y' = 1))) → law02_ValueNots_l0 N R k0 (f + 2) 2 a b c x y [] x' y' [] 0 0 [] = r := by
      intro x y x' y' h1 h2
      rw [s2, s3, s3]
      by_cases hc : 0 ≤ c
      · rw [if_t hc]; exact h _ _ _ _ _ _ h1 h2 (.inr ⟨rfl, tm c hc⟩)
      · rw [if_f hc]; exact h _ _ _ _ _ _ h1 h2 (.inl ⟨rfl, rfl⟩)
    have h2 : ∀ x y, ((x = 0 ∧ y = 0) ∨ (x = 1 ∧ (y = 0 ∨ y = 1))) → law02_ValueNots_l0 N R k0 (f + 3) 1 a b c x y [] 0 0 [] 0 0 [] = r := by
      intro x y h1
      rw [s1]
      by_cases hc : 0 ≤ b
      · rw [if_t hc]; exact h3 _ _ _ _ h1 (.inr ⟨rfl, tm b hc⟩)
      · rw [if_f hc]; exact h3 _ _ _ _ h1 (.inl ⟨rfl, rfl⟩)
    rw [s0]
    by_cases hc : 0 ≤ a
    · rw [if_t hc]; exact h2 _ _ (.inr ⟨rfl, tm a hc⟩)
    · rw [if_f hc]; exact h2 _ _ (.inl ⟨rfl, rfl⟩)
  unfold law02_ValueNots law02_ValueNots_cps
  refine Eq.trans (congrArg (fun m => law02_ValueNots_l0 N _ _ m _ _ _ _ _ _ _ _ _ _ _ _ _) hf) (fin ?_)
  intro x1 y1 x2 y2 x3 y3 h1 h2 h3
  dsimp only
  unfold law02_ValueNots_j1 law02_ValueNots_j2
  simp only [alive_eq hb]
  rcases h1 with ⟨rfl, rfl⟩ | ⟨rfl, rfl | rfl⟩ <;> rcases h2 with ⟨rfl, rfl⟩ | ⟨rfl, rfl | rfl⟩ <;> rcases h3 with ⟨rfl, rfl⟩ | ⟨rfl, rfl | rfl⟩ <;> rfl

theorem ValueNots_pure : ValueNots_Pure := fun x h => ValueNots_all _ _ _

end Go.Proofs.YtmpglmalfkkokaaDoor.E
