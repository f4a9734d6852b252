/-
  The statement LetterBack of the program is proved: for every input that the row speaks of, the law answers true.
  Conditions: those that the statement's row prints, and no other. This text: plain laws of the pure functions.
-/
import Derived.Test.YtfeidmgfninmmaaLetterBackP6
set_option linter.unusedVariables false
set_option linter.unusedSimpArgs false
/-! Letters held against each other. -/
namespace Go.Proofs.Ytfeidmgfninmmaa.E
open Go.Ev

theorem equal_loop (N : Nat) (R : Type) (k0 : Option R) (k1 : Bool → Option R) (l m : List Int) (hl : l.length ≤ 9223372036854775807) (hm : l.length = m.length) :
    ∀ (d i : Nat), i + d = l.length → ∀ n, d < n → slices_Equal_int_int_l0 N R k0 k1 n l m (l.length : Int) (i : Int) = (if l.drop i = m.drop i then k0 else k1 false)
  | d, i, hi, n, hn => by
    obtain ⟨n, rfl⟩ : ∃ k, n = k + 1 := ⟨n - 1, by omega⟩
    simp only [slices_Equal_int_int_l0, slices_Equal_int_int_l0B]
    by_cases hlt : i < l.length
    · rw [if_t (by omega), nth_lt hlt, bind_some', nth_lt (show i < m.length by omega), bind_some', drop_step hlt, drop_step (show i < m.length by omega)]
      by_cases e : l[i] = m[i]'(by omega)
      · rw [dec_t e]
        simp only [Bool.not_true, cond_false]
        rw [wrap_succ hlt hl, equal_loop N R k0 k1 l m hl hm (d - 1) (i + 1) (by omega) n (by omega)]
        simp only [List.cons.injEq, e, true_and]
      · rw [dec_f e]
        simp only [Bool.not_false, cond_true]
        rw [if_neg (by intro h; injection h; contradiction)]
    · rw [if_f (by omega), show i = l.length by omega, List.drop_length, hm, List.drop_length, if_pos rfl]

theorem equal_eq {N : Nat} (l m : List Int) (hl : l.length ≤ 9223372036854775807) (hN : l.length < N) : slices_Equal_int_int N l m = some (decide (l = m), ()) := by
  unfold slices_Equal_int_int slices_Equal_int_int_cps
  by_cases h : l.length = m.length
  · rw [dec_t (by omega)]
    simp only [Bool.not_true, cond_false]
    have := equal_loop N _ (some (true, ())) (fun v3 => some (v3, ())) l m hl h l.length 0 (by omega) N hN
    rw [show ((0 : Nat) : Int) = 0 from rfl] at this
    rw [this, List.drop_zero, List.drop_zero]
    by_cases e : l = m
    · rw [if_pos e, dec_t e]
    · rw [if_neg e, dec_f e]
  · rw [dec_f (by omega)]
    simp only [Bool.not_false, cond_true]
    rw [dec_f (by intro e; exact h (by rw [e]))]

/-- The parts' own law. -/
def same (k f t n : Int) (l : List Int) (k' f' t' n' : Int) (l' : List Int) : Bool := decide (k = k' ∧ f = f' ∧ t = t' ∧ n = n' ∧ l = l')

theorem letter_Same_eq {N : Nat} (k f t n : Int) (l : List Int) (k' f' t' n' : Int) (l' : List Int) (hl : l.length ≤ 9223372036854775807) (hN : l.length < N) :
    letter_Same N k f t n l k' f' t' n' l' = some (same k f t n l k' f' t' n' l', ()) := by
  unfold letter_Same letter_Same_cps same
  by_cases h1 : k = k'
  case neg => rw [if_f h1, dec_f (by simp [h1])]
  by_cases h2 : f = f'
  case neg => rw [if_t h1, if_f h2, dec_f (by simp [h2])]
  by_cases h3 : t = t'
  case neg => rw [if_t h1, if_t h2, if_f h3, dec_f (by simp [h3])]
  by_cases h4 : n = n'
  case neg => rw [if_t h1, if_t h2, if_t h3, if_f h4, dec_f (by simp [h4])]
  rw [if_t h1, if_t h2, if_t h3, if_t h4, equal_eq l l' hl hN, bind_some']
  simp [h1, h2, h3, h4]

theorem refSame_loop (N : Nat) (R : Type) (k0 : Int → Int → Int → Int → (List Int) → Int → Int → Int → Int → (List Int) → Option R) (k1 : Bool → Int → Int → Int → Int → (List Int) → Int → Int → Int → Int → (List Int) → Option R)
    (a b c d' : Int) (l : List Int) (a' b' c' d'' : Int) (m : List Int) (hl : l.length ≤ 9223372036854775807) (hm : l.length = m.length) :
    ∀ (d i : Nat), i + d = l.length → ∀ n, d < n → ref11_Same_l0 N R k0 k1 n (i : Int) a b c d' l a' b' c' d'' m = (if l.drop i = m.drop i then k0 a b c d' l a' b' c' d'' m else k1 false a b c d' l a' b' c' d'' m)
  | d, i, hi, n, hn => by
    obtain ⟨n, rfl⟩ : ∃ k, n = k + 1 := ⟨n - 1, by omega⟩
    simp only [ref11_Same_l0, ref11_Same_l0B]
    by_cases hlt : i < l.length
    · rw [if_t (by omega), nth_lt hlt, bind_some', nth_lt (show i < m.length by omega), bind_some', drop_step hlt, drop_step (show i < m.length by omega)]
      by_cases e : l[i] = m[i]'(by omega)
      · rw [dec_t e]
        simp only [Bool.not_true, cond_false]
        rw [wrap_succ hlt hl, refSame_loop N R k0 k1 a b c d' l a' b' c' d'' m hl hm (d - 1) (i + 1) (by omega) n (by omega)]
        simp only [List.cons.injEq, e, true_and]
      · rw [dec_f e]
        simp only [Bool.not_false, cond_true]
        rw [if_neg (by intro h; injection h; contradiction)]
    · rw [if_f (by omega), show i = l.length by omega, List.drop_length, hm, List.drop_length, if_pos rfl]

theorem ref_Same_eq {N : Nat} (k f t n : Int) (l : List Int) (k' f' t' n' : Int) (l' : List Int) (hl : l.length ≤ 9223372036854775807) (hN : l.length < N) :
    ref11_Same N k f t n l k' f' t' n' l' = some (same k f t n l k' f' t' n' l', ()) := by
  unfold ref11_Same ref11_Same_cps same
  by_cases h1 : k = k'
  case neg => rw [nif_f h1, dec_f (by simp [h1])]
  by_cases h2 : f = f'
  case neg => rw [nif_t h1, nif_f h2, dec_f (by simp [h2])]
  by_cases h3 : t = t'
  case neg => rw [nif_t h1, nif_t h2, nif_f h3, dec_f (by simp [h3])]
  by_cases h4 : n = n'
  case neg => rw [nif_t h1, nif_t h2, nif_t h3, nif_f h4, dec_f (by simp [h4])]
  by_cases h5 : l.length = l'.length
  · rw [nif_t h1, nif_t h2, nif_t h3, nif_t h4, nif_t (by omega)]
    rw [show (0 : Int) = ((0 : Nat) : Int) from rfl, refSame_loop N _ _ _ k f t n l k' f' t' n' l' hl h5 l.length 0 (by omega) N hN]
    rw [List.drop_zero, List.drop_zero]
    by_cases e : l = l'
    · rw [if_pos e, dec_t ⟨h1, h2, h3, h4, e⟩]
    · rw [if_neg e, dec_f (by simp [e])]
  · rw [nif_t h1, nif_t h2, nif_t h3, nif_t h4, nif_f (by omega)]
    rw [dec_f (by rintro ⟨_, _, _, _, e⟩; exact h5 (by rw [e]))]

theorem alive11 : law11_alive big = some (true, ()) := by rw [big_eq]; kernel_rfl

theorem lNums_inj {k f t n : Int} {l : List Int} {k' f' t' n' : Int} {l' : List Int} (h : lRight k f t n l = true) (h' : lRight k' f' t' n' l' = true)
    (e : bytes (nums (lNums k f t n l)) = bytes (nums (lNums k' f' t' n' l'))) : k = k' ∧ f = f' ∧ t = t' ∧ n = n' ∧ l = l' := by
  have e2 := decR_bytes (lNums_ok h)
  rw [e, decR_bytes (lNums_ok h')] at e2
  have e3 := nums_inj (Option.some.inj e2)
  simp only [lNums, List.cons.injEq, and_true] at e3
  obtain ⟨a, b, c, d, m⟩ := e3
  exact ⟨a.symm, b.symm, c.symm, d.symm, mask_inj (lRight_in h).2.2.2.2.1 (lRight_in h').2.2.2.2.1 (by omega)⟩

end Go.Proofs.Ytfeidmgfninmmaa.E
