/-
  The statement LetterEncodes of the program is proved: for every input that the row speaks of, the law answers true.
  Conditions: those that the statement's row prints, and no other. This text: plain laws of the pure functions.
-/
import Derived.Test.YtfeidmgfninmmaaLetterEncodesP3
set_option linter.unusedVariables false
set_option linter.unusedSimpArgs false
/-! The document's short numbers. -/
namespace Go.Proofs.Ytfeidmgfninmmaa.E
open Go.Ev

theorem dec_sub (P : Prop) [Decidable P] : (!decide P) = decide (¬ P) := by by_cases h : P <;> simp [h]

/-- The document's short bytes. -/
theorem ref_byte {u : Nat} : UInt8.ofNat (Int.toNat (IntKind.wrap .u8 (IntKind.wrap .u64 ((Int.tmod (u : Int) 128) + 128)))) = UInt8.ofNat (u % 128 + 128) := by
  have e : Int.tmod (u : Int) 128 = ((u % 128 : Nat) : Int) := by
    rw [Int.tmod_eq_emod_of_nonneg (by omega)]; omega
  rw [e, wrap_u64_id (by omega) (by omega), wrap_u8_id (by omega) (by omega)]
  congr 1

theorem ref_div128 {u : Nat} (h : u < 18446744073709551616) : IntKind.wrap .u64 (Int.tdiv (u : Int) 128) = ((u / 128 : Nat) : Int) := by
  have e : Int.tdiv (u : Int) 128 = ((u / 128 : Nat) : Int) := by
    rw [Int.tdiv_eq_ediv_of_nonneg (by omega)]; omega
  rw [e, wrap_u64_id (by omega) (by omega)]

theorem ref_div2 {u : Nat} (h : u < 18446744073709551616) : IntKind.wrap .u64 (Int.tdiv (u : Int) 2) = ((u / 2 : Nat) : Int) := by
  have e : Int.tdiv (u : Int) 2 = ((u / 2 : Nat) : Int) := by
    rw [Int.tdiv_eq_ediv_of_nonneg (by omega)]; omega
  rw [e, wrap_u64_id (by omega) (by omega)]

theorem ref_Short_loop (N : Nat) (R : Type) (k0 : Int → List UInt8 → Option R) : ∀ (n u : Nat) (l : List UInt8), u < 18446744073709551616 → u < 2 ^ (7 * n + 7) → l.length + n ≤ 1000 →
    ∃ (u' : Nat) (l' : List UInt8), u' ≤ 127 ∧ l' ++ [UInt8.ofNat u'] = l ++ short u ∧ ∀ m, n < m → ref05_Short_l0 N R k0 m (u : Int) l = k0 u' l'
  | n, u, l, h64, h, hl => by
    by_cases h7 : u ≤ 127
    · refine ⟨u, l, h7, by rw [short_last h7], fun m hm => ?_⟩
      obtain ⟨m, rfl⟩ : ∃ k, m = k + 1 := ⟨m - 1, by omega⟩
      simp only [ref05_Short_l0, ref05_Short_l0B]
      rw [if_f (by omega)]
    · cases n with
      | zero => simp at h; omega
      | succ n =>
        have hd : u / 128 < 2 ^ (7 * n + 7) := by
          rw [Nat.div_lt_iff_lt_mul (by omega)]
          rw [show 7 * (n + 1) + 7 = (7 * n + 7) + 7 by omega, Nat.pow_add] at h
          exact h
        obtain ⟨u', l', h1, h2, h3⟩ := ref_Short_loop N R k0 n (u / 128) (l ++ [UInt8.ofNat (u % 128 + 128)]) (by omega) hd (by simp; omega)
        refine ⟨u', l', h1, by rw [h2, short_step h7]; simp, fun m hm => ?_⟩
        obtain ⟨m, rfl⟩ : ∃ k, m = k + 1 := ⟨m - 1, by omega⟩
        simp only [ref05_Short_l0, ref05_Short_l0B]
        rw [if_t (by omega), ref_byte, cond_t (room_one (by simp; omega)), ref_div128 h64, h3 m (by omega)]

theorem ref_Short_eq {N : Nat} (hN : 20 < N) {n : Int} (h1 : -9223372036854775808 ≤ n) (h2 : n ≤ 9223372036854775807) : ref05_Short N n = some (short (zz n), ()) := by
  have hz := zz_lt h1 h2
  have fin : ref05_Short_l0 N (List UInt8 × Unit) (fun (v2 : Int) (v3 : List UInt8) => bif (room 1 (v3.length + [(UInt8.ofNat (Int.toNat (IntKind.wrap .u8 v2)))].length)) then
    ((fun a0 => some (a0, ())) (v3 ++ [(UInt8.ofNat (Int.toNat (IntKind.wrap .u8 v2)))]) : Option (List UInt8 × Unit)) else none) N (zz n : Int) [] = some (short (zz n), ()) := by
    obtain ⟨u', l', h3, h4, h5⟩ := ref_Short_loop N _ (fun (v2 : Int) (v3 : List UInt8) => bif (room 1 (v3.length + [(UInt8.ofNat (Int.toNat (IntKind.wrap .u8 v2)))].length)) then
      ((fun a0 => some (a0, ())) (v3 ++ [(UInt8.ofNat (Int.toNat (IntKind.wrap .u8 v2)))]) : Option (List UInt8 × Unit)) else none) 9 (zz n) [] hz (Nat.lt_of_lt_of_le hz (by decide)) (by simp)
    rw [h5 N (by omega)]
    have hl : l'.length + 1 ≤ 10 := by have := congrArg List.length h4; have h6 := short_len10 hz; simp at this; omega
    rw [cond_t (room_one (by simp; omega)), byte_last h3, h4]
    rfl
  unfold ref05_Short ref05_Short_cps
  by_cases hn : n < 0
  · rw [if_t hn]
    have e : IntKind.wrap .u64 ((IntKind.wrap .u64 (2 * (IntKind.wrap .u64 (IntKind.wrap .i64 (0 - (IntKind.wrap .i64 (n + 1))))))) + 1) = (zz n : Int) := by
      unfold zz
      rw [if_neg (by omega), wrap_i64_id (x := n + 1) (by omega) (by omega), wrap_i64_id (by omega) (by omega), wrap_u64_id (x := 0 - (n + 1)) (by omega) (by omega), wrap_u64_id (x := 2 * _) (by omega) (by omega), wrap_u64_id (by omega) (by omega)]
      omega
    rw [e]; exact fin
  · rw [if_f hn]
    have e : IntKind.wrap .u64 (2 * (IntKind.wrap .u64 n)) = (zz n : Int) := by
      unfold zz
      rw [if_pos (by omega), wrap_u64_id (x := n) (by omega) (by omega), wrap_u64_id (by omega) (by omega)]
      omega
    rw [e]; exact fin

/-- What all but the last of some bytes stand for. -/
def dec : List UInt8 → Nat
  | [] => 0
  | c :: r => c.toNat % 128 + 128 * dec r

theorem dec_snoc : ∀ (p : List UInt8) (c : UInt8), dec (p ++ [c]) = dec p + c.toNat % 128 * 2 ^ (7 * p.length)
  | [], c => by simp [dec]
  | a :: r, c => by
    simp only [List.cons_append, dec, dec_snoc r c, List.length_cons, pow7]
    rw [Nat.mul_add, ← Nat.mul_assoc 128, Nat.mul_comm 128 (c.toNat % 128), Nat.mul_assoc, Nat.mul_comm 128 (2 ^ (7 * r.length))]
    omega

theorem dec_lt : ∀ (p : List UInt8), dec p < 2 ^ (7 * p.length)
  | [] => by simp [dec]
  | c :: r => by
    have := dec_lt r
    simp only [dec, List.length_cons, pow7]
    omega

theorem rd_last : ∀ (p : List UInt8) (c : UInt8), (∀ x, x ∈ p → ¬ x.toNat < 128) → c.toNat < 128 → rd (p ++ [c]) = if p ≠ [] ∧ c.toNat = 0 then none else some (dec p + c.toNat * 2 ^ (7 * p.length), p.length + 1)
  | [], c, _, hc => by simp [rd, hc, dec]
  | a :: r, c, hp, hc => by
    simp only [List.cons_append, rd]
    rw [if_neg (hp a (by simp)), rd_last r c (fun x hx => hp x (by simp [hx])) hc]
    by_cases h0 : c.toNat = 0
    · rw [if_pos (show a :: r ≠ [] ∧ c.toNat = 0 from ⟨by simp, h0⟩)]
      by_cases hr : r = []
      · subst hr; simp [h0, dec]
      · rw [if_pos ⟨hr, h0⟩]
    · rw [if_neg (by simp [h0]), if_neg (by simp [h0])]
      simp only
      have hpos : 0 < 2 ^ (7 * r.length) := Nat.two_pow_pos _
      have : 0 < c.toNat * 2 ^ (7 * r.length) := Nat.mul_pos (by omega) hpos
      rw [if_neg (by omega)]
      simp only [dec, List.length_cons, pow7]
      congr 2
      rw [Nat.mul_add, ← Nat.mul_assoc 128, Nat.mul_comm 128 c.toNat, Nat.mul_assoc, Nat.mul_comm 128 (2 ^ (7 * r.length))]
      omega

theorem ref_mod {c : UInt8} : IntKind.wrap .u64 (Int.tmod (c.toNat : Int) 128) = ((c.toNat % 128 : Nat) : Int) := by
  have := c.toNat_lt
  have e : Int.tmod (c.toNat : Int) 128 = ((c.toNat % 128 : Nat) : Int) := by
    rw [Int.tmod_eq_emod_of_nonneg (by omega)]; omega
  rw [e, wrap_u64_id (by omega) (by omega)]

theorem ref_acc {A i : Nat} (c : UInt8) (hi : i ≤ 9) :
    IntKind.wrap .u64 (((A % 18446744073709551616 : Nat) : Int) + (Ev.shl .u64 (IntKind.wrap .u64 (Int.tmod (c.toNat : Int) 128)) (IntKind.wrap .u64 (IntKind.wrap .i64 (7 * (i : Int)))))) = (((A + c.toNat % 128 * 2 ^ (7 * i)) % 18446744073709551616 : Nat) : Int) := by
  rw [ref_mod, wrap_i64_id (by omega) (by omega), wrap_u64_id (x := 7 * (i : Int)) (by omega) (by omega), show (7 * (i : Int)) = ((7 * i : Nat) : Int) by omega, shl_nat .u64 _ _ (by simp [IntKind.bits]; omega), wrap_u64, wrap_u64]
  omega

theorem ref_Long_loop {N : Nat} (hN : 20 < N) (R : Type) (k1 : Int → Int → Bool → Option R) (b : List UInt8) (hb : b.length ≤ 9223372036854775807) :
    ∀ (d i : Nat), i + d = b.length → i ≤ 10 → (∀ x, x ∈ b.take i → ¬ x.toNat < 128) → ∀ m, d < m → ref05_Long_l0 N R (k1 0 0 false) k1 m b ((dec (b.take i) % 18446744073709551616 : Nat) : Int) (i : Int) = cont R k1 (dec (b.take i)) i (b.drop i)
  | d, i, hd, hi, hA, m, hm => by
    obtain ⟨m, rfl⟩ : ∃ k, m = k + 1 := ⟨m - 1, by omega⟩
    simp only [ref05_Long_l0, ref05_Long_l0B]
    by_cases hlt : i < b.length
    · rw [if_t (by omega)]
      by_cases h10 : i = 10
      · rw [if_f (by omega), cont_high (by omega)]
      · have hi9 : i ≤ 9 := by omega
        have hw : IntKind.wrap .u64 (IntKind.wrap .i64 (7 * (i : Int))) = 7 * (i : Int) := by rw [wrap_i64_id (by omega) (by omega), wrap_u64_id (by omega) (by omega)]
        rw [if_t (by omega), nth_lt hlt, bind_some', hw, if_t (by omega), bind_some', ← hw, ref_acc _ hi9]
        have hts : b.take (i + 1) = b.take i ++ [b[i]] := by rw [List.take_succ_eq_append_getElem hlt]
        have htl : (b.take i).length = i := by simp; omega
        rw [drop_step hlt]
        have hc256 := (b[i]).toNat_lt
        by_cases hc : (b[i]).toNat < 128
        · rw [if_f (by omega)]
          have hm128 : (b[i]).toNat % 128 = (b[i]).toNat := by omega
          have hrd := rd_last (b.take i) b[i] hA hc
          rw [← hts, htl] at hrd
          have hdl := dec_lt (b.take i)
          rw [htl] at hdl
          have key : ∀ (T : Nat), T = dec (b.take i) + (b[i]).toNat * 2 ^ (7 * i) → (short (T % 18446744073709551616) = b.take (i + 1) ↔ ¬ ((0 < i ∧ (b[i]).toNat = 0) ∨ ¬ T < 18446744073709551616)) := by
            intro T hT
            constructor
            · intro h
              have h1 := rd_short [] (T % 18446744073709551616)
              rw [List.append_nil, h, hrd] at h1
              split at h1
              · cases h1
              · rename_i hn
                simp only [Option.some.injEq, Prod.mk.injEq] at h1
                rw [← hT] at h1
                rintro (⟨h2, h3⟩ | h2)
                · exact hn ⟨fun e => by rw [e] at htl; simp at htl; omega, h3⟩
                · omega
            · intro h
              rw [not_or] at h
              obtain ⟨h1, h2⟩ := h
              have hn : ¬ (b.take i ≠ [] ∧ (b[i]).toNat = 0) := fun e => h1 ⟨by
                rcases Nat.eq_zero_or_pos i with h0 | h0
                · exfalso; apply e.1; rw [h0]; rfl
                · exact h0, e.2⟩
              rw [if_neg hn, ← hT] at hrd
              obtain ⟨h3, h4⟩ := rd_some _ _ _ hrd
              have h5 : (b.take (i + 1)).drop (i + 1) = [] := by apply List.drop_eq_nil_of_le; simp; omega
              rw [h5, List.append_nil] at h3
              rw [Nat.mod_eq_of_lt (Nat.not_le.1 (by omega)), ← h3]
          rw [hm128]
          generalize hT : dec (b.take i) + (b[i]).toNat * 2 ^ (7 * i) = T
          have hk := key T hT.symm
          have hU : T % 18446744073709551616 < 18446744073709551616 := Nat.mod_lt _ (by omega)
          have hcont : cont R k1 (dec (b.take i)) i (b[i] :: b.drop (i + 1)) = if (0 < i ∧ (b[i]).toNat = 0) ∨ ¬ T < 18446744073709551616 then k1 0 0 false else k1 (unzz T) ((i + 1 : Nat) : Int) true := by
            unfold cont; simp only [rd]; rw [if_pos hc]; simp only [hT]
          rw [hcont]
          have hd2 : IntKind.wrap .u64 (Int.tdiv ((T % 18446744073709551616 : Nat) : Int) 2) = ((T % 18446744073709551616 / 2 : Nat) : Int) := ref_div2 hU
          have hodd : Int.tmod ((T % 18446744073709551616 : Nat) : Int) 2 = ((T % 18446744073709551616 % 2 : Nat) : Int) := by rw [Int.tmod_eq_emod_of_nonneg (by omega)]; omega
          rw [hd2, hodd, wrap_succ hlt hb]
          have hwi : IntKind.wrap .i64 ((T % 18446744073709551616 / 2 : Nat) : Int) = ((T % 18446744073709551616 / 2 : Nat) : Int) := wrap_i64_id (by omega) (by omega)
          rw [hwi]
          have fin : ∀ n : Int, n = unzz (T % 18446744073709551616) → ((Option.bind (ref05_Short N n) fun (v10 : (List UInt8) × Unit) =>
              (bif (decide (0 ≤ ((i + 1 : Nat) : Int) ∧ ((i + 1 : Nat) : Int) ≤ ((b.length : Nat) : Int))) then
                (bif (!(decide (v10.1 = (List.drop 0 (List.take (Int.toNat ((i + 1 : Nat) : Int)) b))))) then (k1 0 0 false) else (k1 n ((i + 1 : Nat) : Int) true)) else none)) =
              if (0 < i ∧ (b[i]).toNat = 0) ∨ ¬ T < 18446744073709551616 then k1 0 0 false else k1 (unzz T) ((i + 1 : Nat) : Int) true) := by
            intro n hn
            subst hn
            obtain ⟨hu1, hu2⟩ := unzz_in hU
            rw [ref_Short_eq hN hu1 hu2, bind_some', if_t (by omega), zz_unzz, Int.toNat_natCast, List.drop_zero, dec_sub]
            dsimp only
            by_cases hq : (0 < i ∧ (b[i]).toNat = 0) ∨ ¬ T < 18446744073709551616
            · rw [if_pos hq]; have hne : ¬ short (T % 18446744073709551616) = List.take (i + 1) b := (fun h => (hk.1 h) hq); exact if_t hne _ _
            · rw [if_neg hq]
              have hne : ¬ ¬ short (T % 18446744073709551616) = List.take (i + 1) b := (fun h => h (hk.2 hq))
              refine (if_f hne _ _).trans ?_
              rw [not_or, Decidable.not_not] at hq
              rw [Nat.mod_eq_of_lt hq.2]
          by_cases ho : T % 18446744073709551616 % 2 = 1
          · rw [if_t (by omega)]
            have e : IntKind.wrap .i64 (IntKind.wrap .i64 (0 - ((T % 18446744073709551616 / 2 : Nat) : Int)) - 1) = unzz (T % 18446744073709551616) := by
              unfold unzz
              rw [if_neg (by omega), wrap_i64_id (x := 0 - _) (by omega) (by omega), wrap_i64_id (by omega) (by omega)]
              omega
            rw [e]; exact fin _ rfl
          · rw [if_f (by omega)]
            have e : ((T % 18446744073709551616 / 2 : Nat) : Int) = unzz (T % 18446744073709551616) := by
              unfold unzz
              rw [if_pos (by omega)]
            rw [e]; exact fin _ rfl
        · rw [if_t (by omega), cont_step hc, wrap_succ hlt hb]
          have he : dec (b.take i) + (b[i]).toNat % 128 * 2 ^ (7 * i) = dec (b.take (i + 1)) := by rw [hts, dec_snoc, htl]
          rw [he]
          refine ref_Long_loop hN R k1 b hb (d - 1) (i + 1) (by omega) (by omega) (fun x hx => ?_) m (by omega)
          rw [hts] at hx
          rcases List.mem_append.1 hx with hx | hx
          · exact hA x hx
          · simp at hx; subst hx; exact hc
    · rw [if_f (by omega), List.drop_eq_nil_of_le (by omega)]
      rfl

theorem ref_Long_eq {N : Nat} (hN : 20 < N) {b : List UInt8} (hb : b.length ≤ 9223372036854775807) (hl : b.length < N) : ref05_Long N b = some (longS b) := by
  unfold ref05_Long ref05_Long_cps
  refine (ref_Long_loop hN _ (fun a0 a1 a2 => some (a0, (a1, (a2, ())))) b hb b.length 0 (by omega) (by omega) (by simp) N hl).trans ?_
  exact cont_zero

end Go.Proofs.Ytfeidmgfninmmaa.E
