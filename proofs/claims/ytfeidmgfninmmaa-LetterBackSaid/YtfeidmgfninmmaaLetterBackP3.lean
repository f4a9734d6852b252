/-
  The statement LetterBack of the program is proved: for every input that the row speaks of, the law answers true.
  Conditions: those that the statement's row prints, and no other. This text: plain laws of the pure functions.
-/
import Derived.Test.YtfeidmgfninmmaaLetterBackP1
set_option linter.unusedVariables false
set_option linter.unusedSimpArgs false
/-! The program's reading of short numbers. -/
namespace Go.Proofs.Ytfeidmgfninmmaa.E
open Go.Ev

/-- What bytes begin with, as the program tells it. -/
def longS (b : List UInt8) : Int × Int × Bool × Unit := match rd b with
  | some (u, k) => if u < 18446744073709551616 then (unzz u, (k, (true, ()))) else (0, (0, (false, ())))
  | none => (0, (0, (false, ())))

theorem and_127 : ∀ x, x < 256 → x &&& 127 = x % 128 := by decide +kernel

theorem len64_small (N : Nat) : ∀ x : Nat, x < 128 → ∃ n : Nat, bits_Len64 N (x : Int) = some ((n : Int), ()) ∧ n ≤ 7 ∧ (n ≤ 1 ↔ x ≤ 1) := by
  have key : ∀ x, x < 128 → ∃ n, n < 8 ∧ bs0[x]? = some (UInt8.ofNat n) ∧ (n ≤ 1 ↔ x ≤ 1) := by decide +kernel
  intro x hx
  obtain ⟨n, hn, h1, h2⟩ := key x hx
  refine ⟨n, ?_, by omega, h2⟩
  unfold bits_Len64 bits_Len64_cps
  rw [if_f (by omega), if_f (by omega), if_f (by omega), wrap_u8_id (by omega) (by omega), nth_nat, h1, bind_some']
  have : (UInt8.ofNat n).toNat = n := by simp; omega
  rw [this, wrap_i64_id (x := (n : Int)) (by omega) (by omega), wrap_i64_id (by omega) (by omega)]
  simp

theorem low_eq (c : UInt8) : IntKind.wrap .u64 (Ev.bits .and .u8 (c.toNat : Int) 127) = ((c.toNat % 128 : Nat) : Int) := by
  have := c.toNat_lt
  rw [show (127 : Int) = ((127 : Nat) : Int) from rfl, and_u8 (by omega) (by omega), and_127 _ (by omega), wrap_u64_id (by omega) (by omega)]

theorem pow7 (i : Nat) : 2 ^ (7 * (i + 1)) = 2 ^ (7 * i) * 128 := by rw [show 7 * (i + 1) = 7 * i + 7 by omega, Nat.pow_add]

theorem pow_le9 {i : Nat} (h : i ≤ 9) : 2 ^ (7 * i) ≤ 9223372036854775808 := by
  have : 2 ^ (7 * i) ≤ 2 ^ 63 := Nat.pow_le_pow_right (by omega) (by omega)
  simpa using this

theorem acc_eq {A i : Nat} (c : UInt8) (hi : i ≤ 9) (hA : A < 2 ^ (7 * i)) (hU : c.toNat % 128 * 2 ^ (7 * i) < 18446744073709551616) :
    Ev.bits .or .u64 (A : Int) (Ev.shl .u64 ((c.toNat % 128 : Nat) : Int) (IntKind.wrap .i64 (7 * (i : Int)))) = ((A + c.toNat % 128 * 2 ^ (7 * i) : Nat) : Int) := by
  have h9 := pow_le9 hi
  rw [wrap_i64_id (by omega) (by omega), show (7 * (i : Int)) = ((7 * i : Nat) : Int) by omega, shl_nat .u64 _ _ (by simp [IntKind.bits]; omega), wrap_u64_id (by omega) (by omega),
    or_u64 (by omega) hU, or_add hA]

theorem out_eq {U : Nat} (h : U < 18446744073709551616) :
    Ev.bits .xor .i64 (IntKind.wrap .i64 (Ev.shr .u64 (U : Int) 1)) (IntKind.wrap .i64 (0 - (IntKind.wrap .i64 (Ev.bits .and .u64 (U : Int) 1)))) = unzz U := by
  rw [show (1 : Int) = ((1 : Nat) : Int) from rfl, shr_nat .u64 U 1 (by decide), and_u64 h (by omega), Nat.and_one_is_mod]
  rw [wrap_i64_id (x := ((U / 2 ^ 1 : Nat) : Int)) (by omega) (by omega), wrap_i64_id (x := ((U % 2 : Nat) : Int)) (by omega) (by omega)]
  unfold unzz
  rcases Nat.mod_two_eq_zero_or_one U with h2 | h2
  · rw [h2, if_pos rfl]
    rw [show IntKind.wrap .i64 (0 - ((0 : Nat) : Int)) = 0 by rw [wrap_i64]; rfl, xor_i64_zero (by omega) (by omega)]
  · rw [h2, if_neg (by omega)]
    rw [show IntKind.wrap .i64 (0 - ((1 : Nat) : Int)) = -1 by rw [wrap_i64]; rfl, xor_i64_ones (by omega) (by omega)]

/-- What is found from byte i on, behind bytes that stand for A. -/
def cont (R : Type) (k1 : Int → Int → Bool → Option R) (A i : Nat) (s : List UInt8) : Option R := match rd s with
  | some (u, k) => if (0 < i ∧ u = 0) ∨ ¬ A + u * 2 ^ (7 * i) < 18446744073709551616 then k1 0 0 false else k1 (unzz (A + u * 2 ^ (7 * i))) ((i + k : Nat) : Int) true
  | none => k1 0 0 false

theorem cont_step {R : Type} {k1 : Int → Int → Bool → Option R} {A i : Nat} {c : UInt8} {r : List UInt8} (hc : ¬ c.toNat < 128) :
    cont R k1 A i (c :: r) = cont R k1 (A + c.toNat % 128 * 2 ^ (7 * i)) (i + 1) r := by
  unfold cont
  simp only [rd]
  rw [if_neg hc]
  cases hr : rd r with
  | none => rfl
  | some p =>
    obtain ⟨u, k⟩ := p
    simp only
    by_cases hu : u = 0
    · rw [if_pos hu, if_pos (.inl ⟨by omega, hu⟩)]
    · rw [if_neg hu]
      have e : A + (c.toNat % 128 + 128 * u) * 2 ^ (7 * i) = A + c.toNat % 128 * 2 ^ (7 * i) + u * 2 ^ (7 * (i + 1)) := by
        rw [pow7, Nat.add_mul, Nat.add_assoc]
        congr 2
        rw [Nat.mul_comm 128 u, Nat.mul_assoc, Nat.mul_comm 128]
      simp only [e]
      have e2 : i + (k + 1) = i + 1 + k := by omega
      rw [e2]
      by_cases h : A + c.toNat % 128 * 2 ^ (7 * i) + u * 2 ^ (7 * (i + 1)) < 18446744073709551616
      · rw [if_neg (by omega), if_neg (by omega)]
      · rw [if_pos (.inr h), if_pos (.inr h)]

theorem cont_high {R : Type} {k1 : Int → Int → Bool → Option R} {A i : Nat} {s : List UInt8} (hi : 10 ≤ i) : cont R k1 A i s = k1 0 0 false := by
  unfold cont
  split
  · rename_i u k _
    refine if_pos ?_
    by_cases hu : u = 0
    · exact .inl ⟨by omega, hu⟩
    · refine .inr ?_
      have h1 : 2 ^ 70 ≤ 2 ^ (7 * i) := Nat.pow_le_pow_right (by omega) (by omega)
      have h2 : 1 * 2 ^ (7 * i) ≤ u * 2 ^ (7 * i) := Nat.mul_le_mul_right _ (by omega)
      have h3 : (2 ^ 70 : Nat) = 1180591620717411303424 := by decide
      omega
  · rfl

theorem row_Long_loop (N : Nat) (R : Type) (k1 : Int → Int → Bool → Option R) (b : List UInt8) (hb : b.length ≤ 9223372036854775807) :
    ∀ (d i A : Nat), i + d = b.length → i ≤ 9 → A < 2 ^ (7 * i) → ∀ m, d < m → row_Long_l0 N R (k1 0 0 false) k1 m (A : Int) b (b.length : Int) (i : Int) = cont R k1 A i (b.drop i)
  | d, i, A, hd, hi, hA, m, hm => by
    obtain ⟨m, rfl⟩ : ∃ k, m = k + 1 := ⟨m - 1, by omega⟩
    simp only [row_Long_l0, row_Long_l0B]
    by_cases hlt : i < b.length
    · rw [if_t (by omega), nth_lt hlt, bind_some', low_eq]
      rw [drop_step hlt]
      generalize b[i] = c at *
      have hc256 := c.toNat_lt
      obtain ⟨n, hn, hn7, hn1⟩ := len64_small N (c.toNat % 128) (by omega)
      rw [hn, bind_some']
      dsimp only
      have h9 := pow_le9 hi
      have hw : IntKind.wrap .i64 (7 * (i : Int)) = 7 * (i : Int) := wrap_i64_id (by omega) (by omega)
      rw [hw, wrap_i64_id (x := (n : Int) + 7 * (i : Int)) (by omega) (by omega)]
      rw [← hw]
      have over : 64 < n + 7 * i → i = 9 ∧ 2 ≤ c.toNat % 128 := by omega
      by_cases h64 : 64 < n + 7 * i
      · rw [if_t (by omega)]
        obtain ⟨h9', h2⟩ := over h64
        subst h9'
        unfold cont
        simp only [rd]
        have e63 : 2 ^ (7 * 9) = 9223372036854775808 := by decide
        rw [e63]
        by_cases hc : c.toNat < 128
        · rw [if_pos hc]
          simp only
          rw [if_pos (.inr (by omega))]
        · rw [if_neg hc]
          cases hr : rd b.tail with
          | _ => 
            split
            · rename_i u k hh
              refine (if_pos (.inr ?_)).symm
              split at hh
              · split at hh
                · cases hh
                · cases hh; omega
              · cases hh
            · rfl
      · rw [if_f (by omega), hw]
        rw [if_t (by omega), ← hw]
        have hU : c.toNat % 128 * 2 ^ (7 * i) < 18446744073709551616 := by
          by_cases h8 : i ≤ 8
          · have : 2 ^ (7 * i) ≤ 2 ^ 56 := Nat.pow_le_pow_right (by omega) (by omega)
            have : c.toNat % 128 * 2 ^ (7 * i) ≤ 127 * 2 ^ 56 := Nat.mul_le_mul (by omega) this
            have : (127 * 2 ^ 56 : Nat) = 9151314442816847872 := by decide
            omega
          · have h9' : i = 9 := by omega
            subst h9'
            have e63 : 2 ^ (7 * 9) = 9223372036854775808 := by decide
            rw [e63]; omega
        have hT : A + c.toNat % 128 * 2 ^ (7 * i) < 18446744073709551616 := by
          by_cases h8 : i ≤ 8
          · have h56 : 2 ^ (7 * i) ≤ 2 ^ 56 := Nat.pow_le_pow_right (by omega) (by omega)
            have : c.toNat % 128 * 2 ^ (7 * i) ≤ 127 * 2 ^ 56 := Nat.mul_le_mul (by omega) h56
            have : (127 * 2 ^ 56 : Nat) = 9151314442816847872 := by decide
            have : (2 ^ 56 : Nat) = 72057594037927936 := by decide
            omega
          · have h9' : i = 9 := by omega
            subst h9'
            have e63 : 2 ^ (7 * 9) = 9223372036854775808 := by decide
            rw [e63] at *; omega
        have hacc := acc_eq c hi hA hU
        by_cases hc : c.toNat < 128
        · rw [if_t (by omega)]
          have hm128 : c.toNat % 128 = c.toNat := by omega
          rw [hm128] at hT hU
          unfold cont
          simp only [rd]
          rw [if_pos hc]
          simp only
          by_cases h0 : c.toNat = 0
          · rw [if_t (by omega)]
            by_cases hi0 : 0 < i
            · rw [if_t (by omega), if_pos (.inl ⟨hi0, h0⟩)]
            · rw [if_f (by omega), hacc, hm128, out_eq (by omega), wrap_succ hlt hb, if_neg (by omega)]
          · rw [if_f (by omega), hacc, hm128, out_eq (by omega), wrap_succ hlt hb, if_neg (by omega)]
        · rw [if_f (by omega), cont_step hc]
          by_cases h9' : i = 9
          · rw [if_t (by omega), cont_high (by omega)]
          · rw [if_f (by omega), hacc, wrap_succ hlt hb]
            refine row_Long_loop N R k1 b hb (d - 1) (i + 1) _ (by omega) (by omega) ?_ m (by omega)
            rw [pow7]
            have : c.toNat % 128 * 2 ^ (7 * i) ≤ 127 * 2 ^ (7 * i) := Nat.mul_le_mul_right _ (by omega)
            omega
    · rw [if_f (by omega), List.drop_eq_nil_of_le (by omega)]
      rfl

theorem cont_zero {b : List UInt8} : cont (Int × Int × Bool × Unit) (fun a0 a1 a2 => some (a0, (a1, (a2, ())))) 0 0 b = some (longS b) := by
  unfold cont longS
  split
  · rename_i u k h
    simp only [Nat.lt_irrefl, false_and, false_or, Nat.mul_zero, Nat.pow_zero, Nat.mul_one, Nat.zero_add]
    by_cases hu : u < 18446744073709551616
    · rw [if_neg (by omega), if_pos hu]
    · rw [if_pos hu, if_neg hu]
  · rfl

theorem row_Long_eq {N : Nat} {b : List UInt8} (hb : b.length ≤ 9223372036854775807) (hN : b.length < N) : row_Long N b = some (longS b) := by
  unfold row_Long row_Long_cps
  refine (row_Long_loop N _ (fun a0 a1 a2 => some (a0, (a1, (a2, ())))) b hb b.length 0 0 (by omega) (by omega) (by simp) N hN).trans ?_
  exact cont_zero


end Go.Proofs.Ytfeidmgfninmmaa.E
