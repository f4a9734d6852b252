/-
  The statement LetterBack of the program is proved: for every input that the row speaks of, the law answers true.
  Conditions: those that the statement's row prints, and no other. This text: plain laws of the pure functions.
-/
import Derived.Test.YtfeidmgfninmmaaLetterBackP8
import Derived.Test.YtfeidmgfninmmaaLetterBackP5
set_option linter.unusedVariables false
set_option linter.unusedSimpArgs false
/-! LetterBack: there and back. -/
namespace Go.Proofs.Ytfeidmgfninmmaa.E
open Go.Ev

theorem bytesL_pre {x y : L5} (hx : okL x = true) (hy : okL y = true) {more : List UInt8} (e : bytesL x = bytesL y ++ more) : more = [] :=
  bytes_pre (lNums_ok hx) (lNums_ok hy) e

theorem bytesL_len {x : L5} (hx : okL x = true) : 1 ≤ (bytesL x).length ∧ (bytesL x).length ≤ 4000 := ⟨by simp [bytesL, bytes], bytes_len (lNums_ok hx)⟩

theorem LetterBack_all (k f t n : Int) (l : List Int) (b more : List UInt8) : law11_LetterBack big k f t n l b more = some (true, ()) := by
  unfold law11_LetterBack law11_LetterBack_cps
  by_cases h1 : 300 < (l.length : Int)
  · rw [if_t h1, alive11]; rfl
  rw [if_f h1]
  by_cases h2 : 300 < (b.length : Int)
  · rw [if_t h2, alive11]; rfl
  rw [if_f h2]
  by_cases h3 : 300 < (more.length : Int)
  · rw [if_t h3, alive11]; rfl
  rw [if_f h3]
  have hN : 2000 < big := big_gt _ (by decide)
  have hN2 : 100000000000000000000 < big := big_gt _ (by decide)
  unfold law11_LetterBack_j0
  rw [letter_Decode_eq (by omega) (by omega) (by omega), bind_some', letter_Encode_eq hN k f t n l (by omega) (by omega), letter_Right_eq k f t n l (by omega) (by omega), alive11]
  have he := fun (x : L5) (hx : okL x = true) => encode_L hN x (by have := okL_len hx; omega) (by have := okL_len hx; omega)
  have hr := fun (x : L5) (hx : okL x = true) => letter_Right_eq (N := big) x.1 x.2.1 x.2.2.1 x.2.2.2.1 x.2.2.2.2 (by have := okL_len hx; omega) (by have := okL_len hx; omega)
  -- what is left behind the bytes' own question
  have rest : ∀ (o : lRight k f t n l = true), ∃ z : List UInt8, z = bytes (nums (lNums k f t n l)) ∧ letter_Decode big z = some (outL (some (k, f, t, n, l))) ∧ 1 ≤ z.length ∧ z.length ≤ 4000 ∧
      letter_Decode big (z.take (z.length - 1)) = some (outL none) ∧ letter_Decode big (z ++ more) = some (outL (if more = [] then some (k, f, t, n, l) else none)) := by
    intro o
    have ob : okL (k, f, t, n, l) = true := o
    obtain ⟨hl1, hl2⟩ := bytesL_len ob
    refine ⟨bytesL (k, f, t, n, l), rfl, ?_, hl1, hl2, ?_, ?_⟩
    · rw [letter_Decode_eq (by omega) (by omega) (by omega), decL_bytes ob]
    · rw [letter_Decode_eq (by omega) (by simp; omega) (by simp; omega)]
      have : decL ((bytesL (k, f, t, n, l)).take ((bytesL (k, f, t, n, l)).length - 1)) = none := by
        cases hd : decL ((bytesL (k, f, t, n, l)).take ((bytesL (k, f, t, n, l)).length - 1)) with
        | none => rfl
        | some y =>
          obtain ⟨h1, h2⟩ := decL_some hd
          have e : bytesL (k, f, t, n, l) = bytesL y ++ (bytesL (k, f, t, n, l)).drop ((bytesL (k, f, t, n, l)).length - 1) := by rw [← h2, List.take_append_drop]
          have e3 := congrArg List.length (bytesL_pre ob h1 e)
          simp at e3; omega
      rw [this]
    · rw [letter_Decode_eq (by omega) (by simp; omega) (by simp; omega)]
      by_cases hm : more = []
      · rw [if_pos hm, hm, List.append_nil, decL_bytes ob]
      · rw [if_neg hm]
        cases hd : decL (bytesL (k, f, t, n, l) ++ more) with
        | none => rfl
        | some y =>
          obtain ⟨h1, h2⟩ := decL_some hd
          exact absurd (bytesL_pre h1 ob h2.symm) hm
  have hs := letter_Same_eq (N := big) k f t n l k f t n l (by omega) (by omega)
  have hsame : same k f t n l k f t n l = true := by simp [same]
  rw [hsame] at hs
  have hml : (decide ((more.length : Int) = 0)) = decide (more = []) := by
    rw [decide_eq_decide]; cases more <;> simp; omega
  cases hd : decL b with
  | none =>
    rw [if_f (show ¬ (outL none).2.2.2.2.2.1 = 0 by decide)]
    cases o : lRight k f t n l with
    | false => simp
    | true =>
      obtain ⟨z, hz, d1, hz1, hz2, d2, d3⟩ := rest o
      simp only [if_true, bind_some', decide_true, Bool.not_true, cond_false, cond_true]
      rw [← hz, d1, bind_some', wrap_i64_id (by omega) (by omega), if_t (by omega), List.drop_zero, show ((z.length : Int) - 1).toNat = z.length - 1 by omega, d2, bind_some',
        cond_t (room_one (by simp; omega)), cond_t (room_one (by simp; omega)), List.nil_append, d3, bind_some']
      simp only [outL, decide_true, cond_true]
      rw [hs, bind_some', hml]
      by_cases hm : more = []
      · simp [hm]
      · simp [hm]
  | some x =>
    obtain ⟨hok, hb⟩ := decL_some hd
    have he := he x hok
    have hr := hr x hok
    rw [if_pos hok, ← hb] at he
    rw [show lRight x.1 x.2.1 x.2.2.1 x.2.2.2.1 x.2.2.2.2 = true from hok] at hr
    simp only [outL, decide_true, cond_true]
    rw [he, bind_some']
    simp only [decide_true, Bool.not_true, cond_false]
    rw [hr, bind_some']
    simp only [Bool.not_true, cond_false]
    cases o : lRight k f t n l with
    | false => simp
    | true =>
      obtain ⟨z, hz, d1, hz1, hz2, d2, d3⟩ := rest o
      simp only [if_true, bind_some', decide_true, Bool.not_true, cond_false, cond_true]
      rw [← hz, d1, bind_some', wrap_i64_id (by omega) (by omega), if_t (by omega), List.drop_zero, show ((z.length : Int) - 1).toNat = z.length - 1 by omega, d2, bind_some',
        cond_t (room_one (by simp; omega)), cond_t (room_one (by simp; omega)), List.nil_append, d3, bind_some']
      simp only [outL, decide_true, cond_true]
      rw [hs, bind_some', hml]
      by_cases hm : more = []
      · simp [hm]
      · simp [hm]

theorem LetterBack_pure : LetterBack_Pure := fun _ _ => LetterBack_all ..

end Go.Proofs.Ytfeidmgfninmmaa.E
