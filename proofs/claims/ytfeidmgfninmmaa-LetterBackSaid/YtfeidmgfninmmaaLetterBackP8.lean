/-
  The statement LetterBack of the program is proved: for every input that the row speaks of, the law answers true.
  Conditions: those that the statement's row prints, and no other. This text: plain laws of the pure functions.
-/
import Derived.Test.YtfeidmgfninmmaaLetterBackP7
import Derived.Test.YtfeidmgfninmmaaLetterBackP4
set_option linter.unusedVariables false
set_option linter.unusedSimpArgs false
/-! Letters read out of bytes. -/
namespace Go.Proofs.Ytfeidmgfninmmaa.E
open Go.Ev

/-- The nodes from i on that a number's bits name. -/
def nodesFrom (x : Int) : Nat → Nat → List Int
  | _, 0 => []
  | i, d + 1 => if x / 2 ^ i % 2 = 1 then (i : Int) :: nodesFrom x (i + 1) d else nodesFrom x (i + 1) d

def nodes (x : Int) : List Int := nodesFrom x 0 16

theorem nodes_mem (x : Int) (a : Int) : ∀ (d i : Nat), a ∈ nodesFrom x i d ↔ ∃ j : Nat, i ≤ j ∧ j < i + d ∧ a = (j : Int) ∧ x / 2 ^ j % 2 = 1
  | 0, i => by simp [nodesFrom]; omega
  | d + 1, i => by
    rw [nodesFrom]
    have ih := nodes_mem x a d (i + 1)
    by_cases h : x / 2 ^ i % 2 = 1
    · rw [if_pos h, List.mem_cons, ih]
      constructor
      · rintro (rfl | ⟨j, h1, h2, h3, h4⟩)
        · exact ⟨i, by omega, by omega, rfl, h⟩
        · exact ⟨j, by omega, by omega, h3, h4⟩
      · rintro ⟨j, h1, h2, h3, h4⟩
        by_cases e : j = i
        · subst e; exact .inl h3
        · exact .inr ⟨j, by omega, by omega, h3, h4⟩
    · rw [if_neg h, ih]
      constructor
      · rintro ⟨j, h1, h2, h3, h4⟩
        exact ⟨j, by omega, by omega, h3, h4⟩
      · rintro ⟨j, h1, h2, h3, h4⟩
        by_cases e : j = i
        · subst e; exact absurd h4 h
        · exact ⟨j, by omega, by omega, h3, h4⟩

theorem nodes_rise (x : Int) : ∀ (d i : Nat) (p : Int), p < i → i + d ≤ 16 → rises p (nodesFrom x i d) = true
  | 0, _, _, _, _ => rfl
  | d + 1, i, p, hp, hi => by
    rw [nodesFrom]
    by_cases h : x / 2 ^ i % 2 = 1
    · rw [if_pos h, rises, nodes_rise x d (i + 1) i (by omega) (by omega), dec_t (by omega), dec_t hp]; rfl
    · rw [if_neg h]; exact nodes_rise x d (i + 1) p (by omega) (by omega)

theorem nodes_len (x : Int) : ∀ (d i : Nat), (nodesFrom x i d).length ≤ d
  | 0, _ => by simp [nodesFrom]
  | d + 1, i => by
    have := nodes_len x d (i + 1)
    rw [nodesFrom]; split
    · simp; omega
    · omega

theorem nat_bit (u j : Nat) : u.testBit j = decide ((u : Int) / 2 ^ j % 2 = 1) := by
  rw [Nat.testBit_eq_decide_div_mod_eq, decide_eq_decide]
  have : ((u : Int) / 2 ^ j % 2) = ((u / 2 ^ j % 2 : Nat) : Int) := by simp
  rw [this]; omega

theorem mask_nodes {u : Nat} (hu : u < 65536) : mask 0 (nodes u) = u := by
  apply Nat.eq_of_testBit_eq
  intro j
  rw [mask_bit, Nat.zero_testBit, Bool.false_or]
  by_cases hj : j < 16
  · rw [Bool.eq_iff_iff, List.any_eq_true]
    constructor
    · rintro ⟨a, ha, hd⟩
      obtain ⟨j', _, _, rfl, h4⟩ := (nodes_mem (u : Int) a 16 0).1 ha
      have : j' = j := by simpa using hd
      subst this
      rw [nat_bit]; exact decide_eq_true h4
    · intro h
      rw [nat_bit] at h
      exact ⟨(j : Int), (nodes_mem (u : Int) _ 16 0).2 ⟨j, by omega, by omega, rfl, of_decide_eq_true h⟩, by simp⟩
  · rw [Nat.testBit_lt_two_pow (Nat.lt_of_lt_of_le hu (Nat.pow_le_pow_right (n := 2) (by omega) (show 16 ≤ j by omega)))]
    rw [List.any_eq_false]
    intro a ha
    obtain ⟨j', _, h2, rfl, _⟩ := (nodes_mem (u : Int) a 16 0).1 ha
    simp; omega

theorem nodes_mask {l : List Int} (h : rises (-1) l = true) : nodes (mask 0 l : Int) = l := by
  have r := rises_in _ _ h
  refine rises_eq (-1) _ _ (nodes_rise _ 16 0 (-1) (by omega) (by omega)) h fun a => ?_
  show a ∈ nodesFrom _ 0 16 ↔ _
  rw [nodes_mem]
  constructor
  · rintro ⟨j, _, hj, rfl, h4⟩
    have hb : (mask 0 l).testBit j = true := by rw [nat_bit]; exact decide_eq_true h4
    rw [mask_bit, Nat.zero_testBit, Bool.false_or, List.any_eq_true] at hb
    obtain ⟨b, hb, e⟩ := hb
    have e := of_decide_eq_true e
    have := r b hb
    rw [show (j : Int) = b by omega]; exact hb
  · intro ha
    have hr := r a ha
    refine ⟨a.toNat, by omega, by omega, by omega, ?_⟩
    have hb : (mask 0 l).testBit a.toNat = true := by
      rw [mask_bit, Nat.zero_testBit, Bool.false_or, List.any_eq_true]
      exact ⟨a, ha, decide_eq_true rfl⟩
    rw [nat_bit] at hb
    exact of_decide_eq_true hb

abbrev L5 := Int × Int × Int × Int × List Int

def okL (x : L5) : Bool := lRight x.1 x.2.1 x.2.2.1 x.2.2.2.1 x.2.2.2.2
def numL (x : L5) : List Int := lNums x.1 x.2.1 x.2.2.1 x.2.2.2.1 x.2.2.2.2
def bytesL (x : L5) : List UInt8 := bytes (nums (numL x))

/-- The letter that five numbers may be. -/
def ofRow (l : List V) : L5 := match l with
  | [a, b, c, d, e] => (a.2.1, b.2.1, c.2.1, d.2.1, nodes e.2.1)
  | _ => (0, 0, 0, 0, [])

def fit (l : List V) : Bool := l.all (fun v => decide (v.1 = 2)) && okL (ofRow l) && (match l with
  | [_, _, _, _, e] => decide (0 ≤ e.2.1) && decide (e.2.1 < 65536)
  | _ => false)

/-- The letter of bytes. -/
def decL (b : List UInt8) : Option L5 := match decR b with
  | some l => if fit l = true then some (ofRow l) else none
  | none => none

theorem ofRow_nums {x : L5} (h : okL x = true) : ofRow (nums (numL x)) = x := by
  obtain ⟨k, f, t, n, l⟩ := x
  have := nodes_mask (lRight_in h).2.2.2.2.1
  show (k, f, t, n, nodes (mask 0 l : Int)) = _
  rw [this]

theorem fit_nums {x : L5} (h : okL x = true) : fit (nums (numL x)) = true := by
  have e := ofRow_nums h
  obtain ⟨k, f, t, n, l⟩ := x
  have hm := mask_lt 0 l (by omega) (fun a ha => (rises_in _ _ (lRight_in h).2.2.2.2.1 a ha).1)
  unfold fit
  rw [e, h]
  simp [nums, numL, lNums]
  omega

theorem kind2 {v : V} (h : right v = true) (hk : v.1 = 2) : v = (2, (v.2.1, ([], ()))) := by
  obtain ⟨k, n, s, ⟨⟩⟩ := v
  simp only at hk
  subst hk
  simp [right] at h
  subst h; rfl

theorem fit_row {l : List V} (ho : okRow l) (h : fit l = true) : okL (ofRow l) = true ∧ l = nums (numL (ofRow l)) := by
  unfold fit at h
  simp only [Bool.and_eq_true] at h
  obtain ⟨⟨h1, h2⟩, h3⟩ := h
  refine ⟨h2, ?_⟩
  split at h3
  · rename_i a b c d e
    simp only [Bool.and_eq_true, decide_eq_true_eq] at h3
    have hk : ∀ v, v ∈ [a, b, c, d, e] → v = (2, (v.2.1, ([], ()))) := fun v hv => kind2 (ho.2 v hv).1 (of_decide_eq_true (List.all_eq_true.1 h1 v hv))
    have hm : (mask 0 (nodes e.2.1) : Int) = e.2.1 := by
      obtain ⟨u, hu⟩ : ∃ u : Nat, e.2.1 = (u : Int) := ⟨e.2.1.toNat, by omega⟩
      rw [hu, mask_nodes (by omega)]
    show [a, b, c, d, e] = [(2, (a.2.1, ([], ()))), (2, (b.2.1, ([], ()))), (2, (c.2.1, ([], ()))), (2, (d.2.1, ([], ()))), (2, ((mask 0 (nodes e.2.1) : Int), ([], ())))]
    rw [hm, ← hk a (by simp), ← hk b (by simp), ← hk c (by simp), ← hk d (by simp), ← hk e (by simp)]
  · cases h3

theorem decL_some {b : List UInt8} {x : L5} (h : decL b = some x) : okL x = true ∧ b = bytesL x := by
  unfold decL at h
  split at h
  · rename_i l hl
    split at h
    · rename_i hf
      cases h
      obtain ⟨ho, hb⟩ := decR_some hl
      obtain ⟨h1, h2⟩ := fit_row ho hf
      exact ⟨h1, by rw [hb]; unfold bytesL; rw [← h2]⟩
    · cases h
  · cases h

theorem decL_bytes {x : L5} (h : okL x = true) : decL (bytesL x) = some x := by
  unfold decL bytesL
  have ho : okRow (nums (numL x)) := lNums_ok h
  rw [decR_bytes ho]
  simp only
  rw [if_pos (fit_nums h), ofRow_nums h]

theorem and_one {y : Int} : Ev.bits .and .i64 y 1 = y % 2 := by
  unfold Ev.bits
  simp only
  have e : (BitVec.ofInt IntKind.i64.bits y &&& BitVec.ofInt IntKind.i64.bits 1).toNat = (y % 2).toNat := by
    show (BitVec.ofInt 64 y &&& BitVec.ofInt 64 1).toNat = _
    rw [BitVec.toNat_and, BitVec.toNat_ofInt, BitVec.toNat_ofInt]
    have : ((1 : Int) % ((2 ^ 64 : Nat) : Int)).toNat = 1 := by decide
    rw [this, Nat.and_one_is_mod]
    have : ((2 ^ 64 : Nat) : Int) = 18446744073709551616 := by decide
    rw [this]; omega
  rw [e, wrap_i64_id (by omega) (by omega)]; omega

theorem shr_int {x : Int} {i : Nat} (hi : i ≤ 64) : Ev.shr .i64 x (i : Int) = x / 2 ^ i := by
  unfold Ev.shr
  simp only [Int.toNat_natCast]
  rw [Nat.min_eq_left (by simpa [IntKind.bits] using hi), Int.fdiv_eq_ediv_of_nonneg]
  exact Int.pow_nonneg (by omega)

theorem kinds_loop (N : Nat) (R : Type) (k0 : List V → Int → Int → Int → Int → Option R) (k1 : Int → List V → Int → Int → Int → Int → Option R) (l : List V) (hl : l.length ≤ 1000) :
    ∀ (d i : Nat), i + d = l.length → ∀ m, d < m → letter_Decode_l0 N R k0 k1 m l l (l.length : Int) (i : Int) 0 0 0 0 = (bif (l.drop i).all (fun v => decide (v.1 = 2)) then k0 l 0 0 0 0 else k1 111 l 0 0 0 0)
  | d, i, hi, m, hm => by
    obtain ⟨m, rfl⟩ : ∃ k, m = k + 1 := ⟨m - 1, by omega⟩
    simp only [letter_Decode_l0, letter_Decode_l0B]
    by_cases hlt : i < l.length
    · rw [if_t (by omega), nth_lt hlt, bind_some', drop_step hlt]
      simp only [List.all_cons]
      by_cases h2 : l[i].1 = 2
      · rw [dec_t h2]
        simp only [Bool.not_true, cond_false, Bool.true_and]
        rw [wrap_succ hlt (by omega)]
        exact kinds_loop N R k0 k1 l hl (d - 1) (i + 1) (by omega) m (by omega)
      · rw [dec_f h2]
        simp only [Bool.not_false, cond_true, Bool.false_and, cond_false]
    · rw [if_f (by omega), show i = l.length by omega, List.drop_length]; rfl

theorem room8 {n : Nat} (h : n ≤ 100000) : room 8 n = true := room_of (by omega)

theorem nodes_loop (N : Nat) (R : Type) (k0 : List V → Int → Int → Int → Int → Int → Int → Int → Int → List Int → Option R) (l : List V) (v : V) (hv : nth l 4 = some v) (a1 a2 a3 a4 a5 a6 a7 a8 : Int) :
    ∀ (d i : Nat) (o : List Int), i + d = 16 → o.length ≤ i → ∀ m, d < m → letter_Decode_l1 N R k0 m l (i : Int) a1 a2 a3 a4 a5 a6 a7 a8 o = k0 l a1 a2 a3 a4 a5 a6 a7 a8 (o ++ nodesFrom v.2.1 i d)
  | d, i, o, hi, ho, m, hm => by
    obtain ⟨m, rfl⟩ : ∃ k, m = k + 1 := ⟨m - 1, by omega⟩
    simp only [letter_Decode_l1, letter_Decode_l1B]
    by_cases hlt : i < 16
    · obtain ⟨d, rfl⟩ : ∃ k, d = k + 1 := ⟨d - 1, by omega⟩
      rw [if_t (by omega), hv, bind_some', if_t (by omega), shr_int (by omega), and_one, wrap_succ hlt (by omega), nodesFrom]
      by_cases h : v.2.1 / 2 ^ i % 2 = 1
      · rw [if_t h, if_pos h, cond_t (room8 (by simp; omega)), nodes_loop N R k0 l v hv a1 a2 a3 a4 a5 a6 a7 a8 d (i + 1) _ (by omega) (by simp; omega) m (by omega), List.append_assoc]; rfl
      · rw [if_f h, if_neg h, nodes_loop N R k0 l v hv a1 a2 a3 a4 a5 a6 a7 a8 d (i + 1) _ (by omega) (by omega) m (by omega)]
    · rw [if_f (by omega), show d = 0 by omega]; simp [nodesFrom]

/-- The shape of the answer. -/
def outL : Option L5 → Int × Int × Int × Int × List Int × Int × Unit
  | some x => (x.1, (x.2.1, (x.2.2.1, (x.2.2.2.1, (x.2.2.2.2, (0, ()))))))
  | none => (0, (0, (0, (0, ([], (111, ()))))))

theorem letter_Decode_eq {N : Nat} (hN : 1000 < N) {b : List UInt8} (hb : b.length ≤ 9223372036854775807) (hbN : b.length < N) : letter_Decode N b = some (outL (decL b)) := by
  unfold letter_Decode letter_Decode_cps decL
  rw [row_Decode_eq hN hb hbN, bind_some']
  cases h : decR b with
  | none => rfl
  | some l =>
    simp only [decide_true, Bool.not_true, cond_false]
    have h16 := (decR_some h).1.1
    by_cases h5 : l.length = 5
    · rw [dec_t (by omega)]
      simp only [Bool.not_true, cond_false]
      obtain ⟨v0, v1, v2, v3, v4, rfl⟩ : ∃ v0 v1 v2 v3 v4, l = [v0, v1, v2, v3, v4] := by
        match l, h5 with
        | [a, b, c, d, e], _ => exact ⟨a, b, c, d, e, rfl⟩
      have hk := fun k0 k1 => kinds_loop N (Int × Int × Int × Int × List Int × Int × Unit) k0 k1 [v0, v1, v2, v3, v4] (by simp) 5 0 rfl N (by omega)
      rw [show ((0 : Nat) : Int) = 0 from rfl] at hk
      rw [hk, List.drop_zero]
      unfold fit
      cases ha : [v0, v1, v2, v3, v4].all (fun v => decide (v.1 = 2)) with
      | false => rfl
      | true =>
        simp only [cond_true, Bool.true_and]
        rw [show nth [v0, v1, v2, v3, v4] 0 = some v0 from rfl, show nth [v0, v1, v2, v3, v4] 1 = some v1 from rfl, show nth [v0, v1, v2, v3, v4] 2 = some v2 from rfl, show nth [v0, v1, v2, v3, v4] 3 = some v3 from rfl]
        simp only [bind_some']
        have hn := fun k0 => nodes_loop N (Int × Int × Int × Int × List Int × Int × Unit) k0 [v0, v1, v2, v3, v4] v4 rfl 0 0 0 0 v0.2.1 v1.2.1 v2.2.1 v3.2.1 16 0 [] rfl (by simp) N (by omega)
        rw [show ((0 : Nat) : Int) = 0 from rfl] at hn
        rw [hn, List.nil_append]
        have hnl := nodes_len v4.2.1 16 0
        rw [letter_Right_eq _ _ _ _ _ (by omega) (by omega), bind_some', show nth [v0, v1, v2, v3, v4] 4 = some v4 from rfl]
        show _ = some (outL (if (okL (v0.2.1, v1.2.1, v2.2.1, v3.2.1, nodes v4.2.1) && (decide (0 ≤ v4.2.1) && decide (v4.2.1 < 65536))) = true then some (v0.2.1, v1.2.1, v2.2.1, v3.2.1, nodes v4.2.1) else none))
        have e : lRight v0.2.1 v1.2.1 v2.2.1 v3.2.1 (nodesFrom v4.2.1 0 16) = okL (v0.2.1, v1.2.1, v2.2.1, v3.2.1, nodes v4.2.1) := rfl
        rw [e]
        cases okL (v0.2.1, v1.2.1, v2.2.1, v3.2.1, nodes v4.2.1) with
        | false => rfl
        | true =>
          simp only [Bool.not_true, cond_false, bind_some', Bool.true_and]
          by_cases h0 : v4.2.1 < 0
          · rw [if_t h0, dec_f (show ¬ 0 ≤ v4.2.1 by omega)]; rfl
          · rw [if_f h0, dec_t (show 0 ≤ v4.2.1 by omega)]
            by_cases h6 : 65536 ≤ v4.2.1
            · rw [if_t h6, dec_f (show ¬ v4.2.1 < 65536 by omega)]; rfl
            · rw [if_f h6, dec_t (show v4.2.1 < 65536 by omega)]; rfl
    · rw [dec_f (by omega)]
      simp only [Bool.not_false, cond_true]
      have : fit l = false := by
        unfold fit
        split
        · rename_i a b c d e; exact absurd rfl h5
        · simp
      rw [this]; rfl

theorem encode_L {N : Nat} (hN : 2000 < N) (x : L5) (hl : x.2.2.2.2.length ≤ 9223372036854775807) (hlN : x.2.2.2.2.length < N) :
    letter_Encode N x.1 x.2.1 x.2.2.1 x.2.2.2.1 x.2.2.2.2 = some (if okL x = true then (bytesL x, (0, ())) else ([], (111, ()))) := letter_Encode_eq hN _ _ _ _ _ hl hlN

theorem okL_len {x : L5} (h : okL x = true) : x.2.2.2.2.length ≤ 16 := by
  have := rises_len (-1) _ (by omega) (lRight_in h).2.2.2.2.1
  rcases this with h | h
  · omega
  · rw [h]; simp

end Go.Proofs.Ytfeidmgfninmmaa.E
