/-
  The statement LetterEncodes of the program is proved: for every input that the row speaks of, the law answers true.
  Conditions: those that the statement's row prints, and no other. This text: plain laws of the pure functions.
-/
import Derived.Test.YtfeidmgfninmmaaLetterEncodesP10
import Derived.Test.YtfeidmgfninmmaaLetterEncodesP7
set_option linter.unusedVariables false
set_option linter.unusedSimpArgs false
/-! The document's letters are the program's. -/
namespace Go.Proofs.Ytfeidmgfninmmaa.E
open Go.Ev

theorem refR_loop (N : Nat) (R : Type) (k0 : Int → Int → Int → Int → List Int → Option R) (k1 : Bool → Int → Int → Int → Int → List Int → Option R) (a b c d' : Int) (l : List Int) (hl : l.length ≤ 9223372036854775807) :
    ∀ (d i : Nat) (p : Int), i + d = l.length → (i = 0 → p = -1) → (∀ j, i = j + 1 → l[j]? = some p) → ∀ m, d < m →
      ref11_Right_l0 N R k0 k1 m (i : Int) a b c d' l = (bif rises p (l.drop i) then k0 a b c d' l else k1 false a b c d' l)
  | d, i, p, hi, h0, h1, m, hm => by
    obtain ⟨m, rfl⟩ : ∃ k, m = k + 1 := ⟨m - 1, by omega⟩
    simp only [ref11_Right_l0, ref11_Right_l0B]
    by_cases hlt : i < l.length
    · rw [if_t (by omega), nth_lt hlt, bind_some', drop_step hlt]
      simp only [rises]
      have next : ∀ (_ : 0 ≤ l[i] ∧ l[i] < 16) (_ : p < l[i]), ref11_Right_l0 N R k0 k1 m (IntKind.wrap .i64 ((i : Int) + 1)) a b c d' l = (bif rises l[i] (l.drop (i + 1)) then k0 a b c d' l else k1 false a b c d' l) := fun _ _ => by
        rw [wrap_succ hlt hl]
        exact refR_loop N R k0 k1 a b c d' l hl (d - 1) (i + 1) l[i] (by omega) (by omega) (fun j hj => by rw [show j = i by omega]; exact List.getElem?_eq_getElem hlt) m (by omega)
      by_cases g1 : l[i] < 0
      · rw [if_t g1, dec_f (by omega)]; rfl
      rw [if_f g1, bind_some']
      by_cases g2 : 16 ≤ l[i]
      · rw [if_t g2, dec_f (by omega)]; rfl
      rw [if_f g2, dec_t (show 0 ≤ l[i] ∧ l[i] < 16 by omega)]
      cases i with
      | zero =>
        have := h0 rfl
        rw [if_f (by omega), next (by omega) (by omega), dec_t (show p < l[0] by omega)]; rfl
      | succ j =>
        have hp := h1 j rfl
        have hj : j < l.length := by omega
        rw [if_t (by omega), wrap_i64_id (by omega) (by omega), show ((j + 1 : Nat) : Int) - 1 = (j : Int) by omega, nth_nat, hp, bind_some', bind_some']
        by_cases g3 : l[j + 1] ≤ p
        · rw [if_t g3, dec_f (by omega)]; rfl
        · rw [if_f g3, next (by omega) (by omega), dec_t (show p < l[j + 1] by omega)]; rfl
    · rw [if_f (by omega), show i = l.length by omega, List.drop_length]; rfl

theorem ref_Right_L {N : Nat} (k f t n : Int) (l : List Int) (hl : l.length ≤ 9223372036854775807) (hN : l.length < N) : ref11_Right N k f t n l = some (lRight k f t n l, ()) := by
  unfold ref11_Right ref11_Right_cps lRight
  by_cases h1 : k < 1
  · rw [if_t h1, dec_f (show ¬ (1 ≤ k ∧ k ≤ 8) by omega)]; rfl
  rw [if_f h1]
  by_cases h2 : 8 < k
  · rw [if_t h2, dec_f (show ¬ (1 ≤ k ∧ k ≤ 8) by omega)]; rfl
  rw [if_f h2, dec_t (show 1 ≤ k ∧ k ≤ 8 by omega)]
  by_cases h3 : f < 0
  · rw [if_t h3, dec_f (show ¬ (0 ≤ f ∧ f < 16) by omega)]; rfl
  rw [if_f h3]
  by_cases h3' : 16 ≤ f
  · rw [if_t h3', dec_f (show ¬ (0 ≤ f ∧ f < 16) by omega)]; rfl
  rw [if_f h3', dec_t (show 0 ≤ f ∧ f < 16 by omega)]
  by_cases h4 : t < 0
  · rw [if_t h4, dec_f (show ¬ (0 ≤ t ∧ t < 16) by omega)]; rfl
  rw [if_f h4]
  by_cases h4' : 16 ≤ t
  · rw [if_t h4', dec_f (show ¬ (0 ≤ t ∧ t < 16) by omega)]; rfl
  rw [if_f h4', dec_t (show 0 ≤ t ∧ t < 16 by omega)]
  by_cases h5 : n < 0
  · rw [if_t h5, dec_f (show ¬ (0 ≤ n ∧ n ≤ 1099511627776) by omega)]; rfl
  rw [if_f h5]
  by_cases h6 : 1099511627776 < n
  · rw [if_t h6, dec_f (show ¬ (0 ≤ n ∧ n ≤ 1099511627776) by omega)]; rfl
  rw [if_f h6, dec_t (show 0 ≤ n ∧ n ≤ 1099511627776 by omega)]
  have hr := fun k0 k1 => refR_loop N (Bool × Unit) k0 k1 k f t n l hl l.length 0 (-1) (by omega) (fun _ => rfl) (fun j hj => by omega) N hN
  rw [show ((0 : Nat) : Int) = 0 from rfl] at hr
  rw [hr, List.drop_zero]
  simp only [Bool.true_and]
  by_cases h7 : k = 1
  · rw [if_pos h7]
    cases rises (-1) l with
    | true => simp only [cond_true]; rw [if_t h7]
    | false => rfl
  · rw [if_neg h7]
    cases hs : rises (-1) l with
    | true =>
      simp only [cond_true]
      rw [if_f h7]
      cases l with
      | nil => rfl
      | cons a l => simp; omega
    | false =>
      simp only [cond_false]
      cases l with
      | nil => cases hs
      | cons a l => simp

theorem pow_cast (n : Nat) : ((2 ^ n : Nat) : Int) = 2 ^ n := by simp

theorem refE_loop (N : Nat) (R : Type) (k0 : Int → Int → Int → Int → Int → List Int → Option R) (l : List Int) (hl : l.length ≤ 9223372036854775807) (a1 a2 a3 a4 : Int) :
    ∀ (d i n : Nat) (p : Int), i + d = l.length → -1 ≤ p → n < 2 ^ (p + 1).toNat → rises p (l.drop i) = true → ∀ m, d < m → ref11_Encode_l0 N R k0 m (n : Int) (i : Int) a1 a2 a3 a4 l = k0 (mask n (l.drop i) : Int) a1 a2 a3 a4 l
  | d, i, n, p, hi, hp, hn, hr, m, hm => by
    obtain ⟨m, rfl⟩ : ∃ k, m = k + 1 := ⟨m - 1, by omega⟩
    simp only [ref11_Encode_l0, ref11_Encode_l0B]
    by_cases hlt : i < l.length
    · rw [drop_step hlt] at hr ⊢
      rw [if_t (by omega), nth_lt hlt, bind_some']
      simp only [rises, Bool.and_eq_true, decide_eq_true_eq] at hr
      obtain ⟨⟨ha, hpa⟩, hr⟩ := hr
      generalize l[i] = a at *
      have hle : 2 ^ (p + 1).toNat ≤ 2 ^ a.toNat := Nat.pow_le_pow_right (by omega) (by omega)
      have hlt16 : 2 ^ a.toNat < 65536 := Nat.pow_lt_pow_right (n := 16) (by omega) (by omega)
      have hor : n ||| 2 ^ a.toNat = n + 2 ^ a.toNat := by
        have := or_add (a := n) (b := 1) (i := a.toNat) (by omega)
        simpa using this
      have hsh : Ev.shl .i64 1 a = ((2 ^ a.toNat : Nat) : Int) := by
        have := shl_nat .i64 1 a.toNat (by simp [IntKind.bits]; omega)
        rw [Int.toNat_of_nonneg ha.1] at this
        rw [show (1 : Int) = ((1 : Nat) : Int) from rfl, this, Nat.one_mul]
        generalize 2 ^ a.toNat = w at hlt16
        rw [wrap_i64_id (by omega) (by omega)]
      rw [wrap_u64_id (x := a) (by omega) (by omega), if_t ha.1, hsh, mask, hor]
      have hnew : n + 2 ^ a.toNat < 2 ^ (a + 1).toNat := by
        rw [show (a + 1).toNat = a.toNat + 1 by omega, Nat.pow_succ]; omega
      generalize 2 ^ a.toNat = w at *
      rw [wrap_i64_id (x := (n : Int) + w) (by omega) (by omega), wrap_succ hlt hl, show (n : Int) + (w : Int) = ((n + w : Nat) : Int) by omega]
      exact refE_loop N R k0 l hl a1 a2 a3 a4 (d - 1) (i + 1) (n + w) a (by omega) (by omega) hnew hr m (by omega)
    · rw [if_f (by omega), show i = l.length by omega, List.drop_length]; rfl

theorem refN_loop (N : Nat) (R : Type) (k0 : List V → Int → Int → Int → Int → List Int → Option R) (l : List Int) (hl : l.length ≤ 1000) (a1 a2 a3 a4 : Int) (z : List Int) :
    ∀ (d i : Nat) (o : List V), i + d = l.length → o.length ≤ 1000 + i → ∀ m, d < m → ref11_Encode_l1 N R k0 m l o (i : Int) a1 a2 a3 a4 z = k0 (o ++ nums (l.drop i)) a1 a2 a3 a4 z
  | d, i, o, hi, ho, m, hm => by
    obtain ⟨m, rfl⟩ : ∃ k, m = k + 1 := ⟨m - 1, by omega⟩
    simp only [ref11_Encode_l1, ref11_Encode_l1B]
    by_cases hlt : i < l.length
    · rw [if_t (by omega), nth_lt hlt, bind_some', cond_t (room32 (by simp; omega)), wrap_succ hlt (by omega), drop_step hlt]
      rw [refN_loop N R k0 l hl a1 a2 a3 a4 z (d - 1) (i + 1) _ (by omega) (by simp; omega) m (by omega)]
      rw [show nums (l[i] :: l.drop (i + 1)) = [(2, (l[i], ([], ())))] ++ nums (l.drop (i + 1)) from rfl, List.append_assoc]
    · rw [if_f (by omega), show i = l.length by omega, List.drop_length]; simp [nums]

theorem ref_encode_ok {N : Nat} (hN : 2000 < N) {l : List V} (h : okRow l) : ref05_Encode N l = some (bytes l, (0, ())) := by
  rcases ref_Encode_eq hN l (fun v hv => (h.2 v hv).2) with ⟨_, _, e⟩ | ⟨h' | ⟨v, hv, hr⟩, _⟩
  · exact e
  · exact absurd h.1 (by omega)
  · rw [(h.2 v hv).1] at hr; cases hr

theorem ref_Encode_L {N : Nat} (hN : 2000 < N) (k f t n : Int) (l : List Int) (hl : l.length ≤ 9223372036854775807) (hlN : l.length < N) :
    ref11_Encode N k f t n l = some (if lRight k f t n l = true then (bytes (nums (lNums k f t n l)), (0, ())) else ([], (111, ()))) := by
  unfold ref11_Encode ref11_Encode_cps
  rw [ref_Right_L k f t n l hl hlN, bind_some']
  cases h : lRight k f t n l with
  | false => rfl
  | true =>
    simp only [Bool.not_true, cond_false]
    obtain ⟨h1, h2, h3, h4, h5, _⟩ := lRight_in h
    have he := fun k0 => refE_loop N (List UInt8 × Int × Unit) k0 l hl k f t n l.length 0 0 (-1) (by omega) (by omega) (by decide) (by rw [List.drop_zero]; exact h5) N hlN
    rw [show ((0 : Nat) : Int) = 0 from rfl] at he
    rw [he, List.drop_zero]
    have hn := fun k0 => refN_loop N (List UInt8 × Int × Unit) k0 [k, f, t, n, (mask 0 l : Int)] (by simp) k f t n l 5 0 [] rfl (by simp) N (by omega)
    rw [show ((0 : Nat) : Int) = 0 from rfl] at hn
    rw [hn]
    have e := ref_encode_ok hN (lNums_ok h)
    unfold lNums at e ⊢
    rw [List.drop_zero, List.nil_append, e, bind_some']
    rfl

theorem tmod_two {y : Int} : (!decide (Int.tmod y 2 = 0)) = decide (y % 2 = 1) := by
  by_cases h : y % 2 = 1
  · rw [dec_t h, dec_f]; rfl
    intro h0; have := Int.dvd_of_tmod_eq_zero h0; omega
  · rw [dec_f h, dec_t]; rfl
    exact Int.tmod_eq_zero_of_dvd (by omega)

theorem refNodes_loop (N : Nat) (R : Type) (k0 : List UInt8 → Int → Int → Int → Int → Int → Int → Int → Int → List Int → Option R) (b : List UInt8) (l : List V) (v : V) (hv : nth l 4 = some v) (a1 a2 a3 a4 a5 a6 a7 a8 : Int) :
    ∀ (d i : Nat) (o : List Int), i + d = 16 → o.length ≤ i → ∀ m, d < m → ref11_Decode_l0 N R k0 m b l (i : Int) a1 a2 a3 a4 a5 a6 a7 a8 o = k0 b a1 a2 a3 a4 a5 a6 a7 a8 (o ++ nodesFrom v.2.1 i d)
  | d, i, o, hi, ho, m, hm => by
    obtain ⟨m, rfl⟩ : ∃ k, m = k + 1 := ⟨m - 1, by omega⟩
    simp only [ref11_Decode_l0, ref11_Decode_l0B]
    by_cases hlt : i < 16
    · obtain ⟨d, rfl⟩ : ∃ k, d = k + 1 := ⟨d - 1, by omega⟩
      rw [if_t (by omega), hv, bind_some', wrap_u64_id (x := (i : Int)) (by omega) (by omega), if_t (by omega), shr_int (by omega), tmod_two, wrap_succ hlt (by omega), nodesFrom]
      by_cases h : v.2.1 / 2 ^ i % 2 = 1
      · rw [if_t h, if_pos h, cond_t (room8 (by simp; omega)), refNodes_loop N R k0 b l v hv a1 a2 a3 a4 a5 a6 a7 a8 d (i + 1) _ (by omega) (by simp; omega) m (by omega), List.append_assoc]; rfl
      · rw [if_f h, if_neg h, refNodes_loop N R k0 b l v hv a1 a2 a3 a4 a5 a6 a7 a8 d (i + 1) _ (by omega) (by omega) m (by omega)]
    · rw [if_f (by omega), show d = 0 by omega]; simp [nodesFrom]

theorem ref_Decode_L {N : Nat} (hN : 2000 < N) {b : List UInt8} (hb : b.length < 100000000000) (hbN : b.length < N) : ref11_Decode N b = some (outL (decL b)) := by
  unfold ref11_Decode ref11_Decode_cps
  rw [ref_Decode_eq hN hb hbN, bind_some']
  cases h : decR b with
  | none =>
    have : decL b = none := by unfold decL; rw [h]
    rw [this]; rfl
  | some l =>
    simp only [decide_true, Bool.not_true, cond_false]
    have h16 := (decR_some h).1.1
    by_cases h5 : l.length = 5
    · rw [dec_t (by omega)]
      simp only [Bool.not_true, cond_false]
      obtain ⟨v0, v1, v2, v3, v4, rfl⟩ : ∃ v0 v1 v2 v3 v4, l = [v0, v1, v2, v3, v4] := by
        match l, h5 with
        | [a, b, c, d, e], _ => exact ⟨a, b, c, d, e, rfl⟩
      rw [show nth [v0, v1, v2, v3, v4] 0 = some v0 from rfl, show nth [v0, v1, v2, v3, v4] 1 = some v1 from rfl, show nth [v0, v1, v2, v3, v4] 2 = some v2 from rfl, show nth [v0, v1, v2, v3, v4] 3 = some v3 from rfl]
      simp only [bind_some']
      have hn := fun k0 => refNodes_loop N (Int × Int × Int × Int × List Int × Int × Unit) k0 b [v0, v1, v2, v3, v4] v4 rfl 0 0 0 0 v0.2.1 v1.2.1 v2.2.1 v3.2.1 16 0 [] rfl (by simp) N (by omega)
      rw [show ((0 : Nat) : Int) = 0 from rfl] at hn
      rw [hn, List.nil_append]
      have hnl := nodes_len v4.2.1 16 0
      rw [ref_Encode_L hN _ _ _ _ _ (by omega) (by omega), bind_some']
      have hx : ∀ x, decL b = some x → x = (v0.2.1, v1.2.1, v2.2.1, v3.2.1, nodes v4.2.1) := fun x hx => by
        unfold decL at hx
        rw [h] at hx
        simp only at hx
        split at hx
        · exact (Option.some.inj hx).symm
        · cases hx
      cases ho : lRight v0.2.1 v1.2.1 v2.2.1 v3.2.1 (nodesFrom v4.2.1 0 16) with
      | false =>
        have : decL b = none := by
          cases hd : decL b with
          | none => rfl
          | some x =>
            have h1 := (decL_some hd).1
            rw [hx x hd] at h1
            exact absurd (h1.symm.trans ho) (by decide)
        rw [this]; rfl
      | true =>
        simp only [if_true, decide_true, Bool.not_true, cond_false]
        by_cases hc : bytes (nums (lNums v0.2.1 v1.2.1 v2.2.1 v3.2.1 (nodesFrom v4.2.1 0 16))) = b
        · rw [dec_t hc]
          have : decL b = some (v0.2.1, v1.2.1, v2.2.1, v3.2.1, nodes v4.2.1) := by
            rw [← hc]; exact decL_bytes (x := (v0.2.1, v1.2.1, v2.2.1, v3.2.1, nodes v4.2.1)) ho
          rw [this]; rfl
        · rw [dec_f hc]
          have : decL b = none := by
            cases hd : decL b with
            | none => rfl
            | some x =>
              have h1 := (decL_some hd).2
              rw [hx x hd] at h1
              exact absurd h1.symm hc
          rw [this]; rfl
    · rw [dec_f (by omega)]
      simp only [Bool.not_false, cond_true]
      have : decL b = none := by
        unfold decL
        rw [h]
        have : fit l = false := by
          unfold fit
          split
          · rename_i a b c d e; exact absurd rfl h5
          · simp
        simp [this]
      rw [this]; rfl

end Go.Proofs.Ytfeidmgfninmmaa.E
