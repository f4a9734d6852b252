/-
  The statement LetterBits of the program is proved: for every input that the row speaks of, the law answers true.
  Conditions: those that the statement's row prints, and no other. This text: plain laws of the pure functions.
-/
import Derived.Test.YtfeidmgfninmmaaLetterBitsP7
set_option linter.unusedVariables false
set_option linter.unusedSimpArgs false
/-! LetterBits: a letter's participants. -/
namespace Go.Proofs.Ytfeidmgfninmmaa.E
open Go.Ev

theorem tmod_one {y : Int} (h : 0 ≤ y) : decide (Int.tmod y 2 = 1) = decide (y % 2 = 1) := by
  rw [Int.tmod_eq_emod_of_nonneg h]

theorem bits_loop (N : Nat) (R : Type) (k0 : Int → Int → Int → Int → Int → List Int → Option R) (x : Int) (hx : 0 ≤ x) (a1 a2 a3 a4 a5 : Int) :
    ∀ (d i : Nat) (o : List Int), i + d = 16 → o.length ≤ i → ∀ m, d < m → law11_LetterBits_l1 N R k0 m x a1 (i : Int) a2 a3 a4 a5 o = k0 a1 a2 a3 a4 a5 (o ++ nodesFrom x i d)
  | d, i, o, hi, ho, m, hm => by
    obtain ⟨m, rfl⟩ : ∃ k, m = k + 1 := ⟨m - 1, by omega⟩
    simp only [law11_LetterBits_l1, law11_LetterBits_l1B]
    by_cases hlt : i < 16
    · obtain ⟨d, rfl⟩ : ∃ k, d = k + 1 := ⟨d - 1, by omega⟩
      rw [if_t (by omega), wrap_u64_id (x := (i : Int)) (by omega) (by omega), if_t (by omega), shr_int (by omega), tmod_one (Int.ediv_nonneg hx (Int.pow_nonneg (by omega))), wrap_succ hlt (by omega), nodesFrom]
      by_cases h : x / 2 ^ i % 2 = 1
      · rw [if_t h, if_pos h, cond_t (room8 (by simp; omega)), bits_loop N R k0 x hx a1 a2 a3 a4 a5 d (i + 1) _ (by omega) (by simp; omega) m (by omega), List.append_assoc]; rfl
      · rw [if_f h, if_neg h, bits_loop N R k0 x hx a1 a2 a3 a4 a5 d (i + 1) _ (by omega) (by omega) m (by omega)]
    · rw [if_f (by omega), show d = 0 by omega]; simp [nodesFrom]

theorem rises_zero : ∀ (p : Int) (l : List Int), -1 ≤ p → rises p (l ++ [0]) = (decide (p < 0) && decide (l = []))
  | p, [], _ => by simp [rises]
  | p, a :: l, hp => by
    simp only [List.cons_append, rises]
    by_cases ha : 0 ≤ a
    · rw [rises_zero a l (by omega), dec_f (show ¬ a < 0 by omega)]; simp
    · rw [dec_f (show ¬ (0 ≤ a ∧ a < 16) by omega)]; simp

theorem LetterBits_all (x f k : Int) : law11_LetterBits big x f k = some (true, ()) := by
  unfold law11_LetterBits law11_LetterBits_cps
  by_cases h1 : x < 0
  · rw [if_t h1, alive11]; rfl
  rw [if_f h1]
  by_cases h2 : 65536 ≤ x
  · rw [if_t h2, alive11]; rfl
  rw [if_f h2]
  by_cases h3 : f < 0
  · rw [if_t h3, alive11]; rfl
  rw [if_f h3]
  by_cases h4 : 16 ≤ f
  · rw [if_t h4, alive11]; rfl
  rw [if_f h4]
  have hN : 2000 < big := big_gt _ (by decide)
  have hN2 : 100000 < big := big_gt _ (by decide)
  unfold law11_LetterBits_j0
  have hn := fun k0 => bits_loop big (Bool × Unit) k0 x (by omega) k 1 f 0 5 16 0 [] rfl (by simp) big (by omega)
  rw [show ((0 : Nat) : Int) = 0 from rfl] at hn
  rw [hn, List.nil_append]
  have hnl := nodes_len x 16 0
  have hrise := nodes_rise x 16 0 (-1) (by omega) (by omega)
  generalize nodesFrom x 0 16 = l at hnl hrise
  have ok : lRight 1 f 0 5 l = true := by
    unfold lRight
    rw [if_pos rfl, hrise, dec_t (show 0 ≤ f ∧ f < 16 by omega)]; decide
  have okb : okL (1, f, 0, 5, l) = true := ok
  have hlb : (bytesL (1, f, 0, 5, l)).length ≤ 4000 := by
    have := encL_len (fun v hv => ((lNums_ok ok).2 v hv).1) (fun v hv => ((lNums_ok ok).2 v hv).2)
    have := (lNums_ok ok).1
    simp [bytesL, bytes, numL]; omega
  have hd := letter_Decode_eq (N := big) (by omega) (b := bytesL (1, f, 0, 5, l)) (by omega) (by omega)
  rw [decL_bytes okb] at hd
  rw [letter_Encode_eq hN 1 f 0 5 l (by omega) (by omega), if_pos ok, bind_some', show bytes (nums (lNums 1 f 0 5 l)) = bytesL (1, f, 0, 5, l) from rfl]
  simp only [hd, bind_some', outL, decide_true, Bool.not_true, cond_false]
  have hs := letter_Same_eq (N := big) 1 f 0 5 l 1 f 0 5 l (by omega) (by omega)
  rw [show same 1 f 0 5 l 1 f 0 5 l = true by simp [same]] at hs
  rw [hs, bind_some']
  simp only [Bool.not_true, cond_false]
  rw [letter_Right_eq k f 0 5 l (by omega) (by omega), bind_some', cond_t (room8 (by simp; omega)), cond_t (room8 (by simp; omega)), List.nil_append,
    letter_Right_eq 1 f 0 5 (l ++ [0]) (by simp; omega) (by simp; omega), bind_some', alive11]
  have h22 : lRight 1 f 0 5 (l ++ [0]) = decide ((l.length : Int) = 0) := by
    unfold lRight
    rw [if_pos rfl, rises_zero _ _ (by omega), dec_t (show 0 ≤ f ∧ f < 16 by omega)]
    have : decide (l = []) = decide ((l.length : Int) = 0) := by
      rw [decide_eq_decide]; cases l <;> simp; omega
    rw [this]; simp
  have h21 : lRight k f 0 5 l = (decide (1 ≤ k ∧ k ≤ 8) && (if k = 1 then true else decide ((l.length : Int) = 0))) := by
    unfold lRight
    rw [hrise, dec_t (show 0 ≤ f ∧ f < 16 by omega)]
    have : decide (l = []) = decide ((l.length : Int) = 0) := by
      rw [decide_eq_decide]; cases l <;> simp; omega
    rw [this]; simp
  rw [h22, h21]
  simp only [bind_some', cond_true, beq_self_eq_true]
  by_cases g1 : 1 ≤ k
  · rw [if_t g1]
    by_cases g2 : k = 1
    · rw [if_t g2, dec_t (show 1 ≤ k ∧ k ≤ 8 by omega), if_pos g2]; rfl
    · rw [if_f g2, if_neg g2]
      by_cases g3 : k ≤ 8
      · rw [if_t g3, dec_t (show 1 ≤ k ∧ k ≤ 8 by omega)]; simp
      · rw [if_f g3, dec_f (show ¬ (1 ≤ k ∧ k ≤ 8) by omega)]; simp
  · rw [if_f g1, if_f (show ¬ k = 1 by omega), dec_f (show ¬ (1 ≤ k ∧ k ≤ 8) by omega)]; simp

theorem LetterBits_pure : LetterBits_Pure := fun _ _ => LetterBits_all ..

end Go.Proofs.Ytfeidmgfninmmaa.E
