/-
  The statement LetterBack of the program is proved: for every input that the row speaks of, the law answers true.
  Conditions: those that the statement's row prints, and no other. This text: plain laws of the pure functions.
-/
import Derived.Test.YtfeidmgfninmmaaLetterBackP2
set_option linter.unusedVariables false
set_option linter.unusedSimpArgs false
/-! Letters: what makes one right, its numbers, its bytes. -/
namespace Go.Proofs.Ytfeidmgfninmmaa.E
open Go.Ev

theorem nif_t {α : Type} {p : Prop} [Decidable p] (h : p) (a b : α) : (bif !decide p then a else b) = b := by rw [dec_t h]; rfl
theorem nif_f {α : Type} {p : Prop} [Decidable p] (h : ¬ p) (a b : α) : (bif !decide p then a else b) = a := by rw [dec_f h]; rfl

theorem node_eq (N : Nat) (a : Int) : letter_node N a = some (decide (0 ≤ a ∧ a < 16), ()) := by
  unfold letter_node letter_node_cps
  by_cases h : 0 ≤ a
  · rw [if_t h]; simp [h]
  · rw [if_f h]; simp [h]

/-- Nodes, each above the one before. -/
def rises : Int → List Int → Bool
  | _, [] => true
  | p, a :: l => decide (0 ≤ a ∧ a < 16) && decide (p < a) && rises a l

theorem right1_eq (N : Nat) (a p : Int) : letter_Right_1 N a p = some (!(decide (0 ≤ a ∧ a < 16) && decide (p < a)), (a, ())) := by
  unfold letter_Right_1 letter_Right_1_cps
  rw [node_eq, bind_some']
  by_cases h : 0 ≤ a ∧ a < 16
  · by_cases h2 : p < a
    · simp only [dec_t h, dec_t h2, Bool.not_true, cond_false, Bool.and_true]
      rw [dec_f (by omega)]
    · simp only [dec_t h, dec_f h2, Bool.not_true, cond_false, Bool.and_false, Bool.not_false]
      rw [dec_t (by omega)]
  · simp only [dec_f h, Bool.not_false, cond_true, Bool.false_and]

theorem index_loop (N : Nat) (R : Type) (k0 : Int → Option R) (k1 : Int → Int → Option R) (l : List Int) (hl : l.length ≤ 9223372036854775807) :
    ∀ (d i : Nat) (p : Int), i + d = l.length → ∀ m, d < m →
      (rises p (l.drop i) = true ∧ ∃ q, slices_IndexFunc_int_int_l0 N R k0 k1 m l (l.length : Int) (i : Int) p = k0 q) ∨
      (rises p (l.drop i) = false ∧ ∃ (j : Nat) (q : Int), slices_IndexFunc_int_int_l0 N R k0 k1 m l (l.length : Int) (i : Int) p = k1 (j : Int) q)
  | d, i, p, hi, m, hm => by
    obtain ⟨m, rfl⟩ : ∃ k, m = k + 1 := ⟨m - 1, by omega⟩
    simp only [slices_IndexFunc_int_int_l0, slices_IndexFunc_int_int_l0B]
    by_cases hlt : i < l.length
    · rw [if_t (by omega), nth_lt hlt, bind_some', right1_eq, bind_some', drop_step hlt]
      simp only [rises]
      cases hc : (decide (0 ≤ l[i] ∧ l[i] < 16) && decide (p < l[i])) with
      | false => exact .inr ⟨by simp, i, l[i], rfl⟩
      | true =>
        simp only [Bool.not_true, cond_false, Bool.true_and]
        rw [wrap_succ hlt hl]
        exact index_loop N R k0 k1 l hl (d - 1) (i + 1) _ (by omega) m (by omega)
    · rw [if_f (by omega), show i = l.length by omega, List.drop_length]
      exact .inl ⟨rfl, p, rfl⟩

theorem contains_eq {N : Nat} (l : List Int) (hl : l.length ≤ 9223372036854775807) (hN : l.length < N) : ∃ q, slices_ContainsFunc_int_int N l (-1) = some (!rises (-1) l, (q, ())) := by
  unfold slices_ContainsFunc_int_int slices_ContainsFunc_int_int_cps slices_IndexFunc_int_int slices_IndexFunc_int_int_cps
  rcases index_loop N _ (fun (v3 : Int) => (some (-1, (v3, ())) : Option (Int × Int × Unit))) (fun v4 v5 => some (v4, (v5, ()))) l hl l.length 0 (-1) (by omega) N hN with ⟨h1, q, h2⟩ | ⟨h1, j, q, h2⟩
  · refine ⟨q, ?_⟩
    rw [show ((0 : Nat) : Int) = 0 from rfl] at h2
    rw [h2, bind_some']
    rw [List.drop_zero] at h1
    rw [h1]; rfl
  · refine ⟨q, ?_⟩
    rw [show ((0 : Nat) : Int) = 0 from rfl] at h2
    rw [h2, bind_some']
    rw [List.drop_zero] at h1
    rw [h1, dec_t (by omega)]; rfl

/-- A right letter. -/
def lRight (k f t n : Int) (l : List Int) : Bool :=
  decide (1 ≤ k ∧ k ≤ 8) && decide (0 ≤ f ∧ f < 16) && decide (0 ≤ t ∧ t < 16) && decide (0 ≤ n ∧ n ≤ 1099511627776) && (if k = 1 then rises (-1) l else decide (l = []))

theorem letter_Right_eq {N : Nat} (k f t n : Int) (l : List Int) (hl : l.length ≤ 9223372036854775807) (hN : l.length < N) : letter_Right N k f t n l = some (lRight k f t n l, ()) := by
  unfold letter_Right letter_Right_cps lRight
  by_cases h1 : k < 1
  · rw [if_t h1, dec_f (by omega)]; rfl
  rw [if_f h1]
  by_cases h2 : 8 < k
  · rw [if_t h2, dec_f (by omega)]; rfl
  rw [if_f h2, node_eq, bind_some', dec_t (show 1 ≤ k ∧ k ≤ 8 by omega)]
  by_cases h3 : 0 ≤ f ∧ f < 16
  case neg => rw [dec_f h3]; rfl
  rw [dec_t h3]; simp only [Bool.not_true, cond_false]; rw [node_eq, bind_some']
  by_cases h4 : 0 ≤ t ∧ t < 16
  case neg => rw [dec_f h4]; rfl
  rw [dec_t h4]; simp only [Bool.not_true, cond_false]
  by_cases h5 : n < 0
  · rw [if_t h5, dec_f (show ¬ (0 ≤ n ∧ n ≤ 1099511627776) by omega)]; rfl
  rw [if_f h5]
  by_cases h6 : 1099511627776 < n
  · rw [if_t h6, dec_f (show ¬ (0 ≤ n ∧ n ≤ 1099511627776) by omega)]; rfl
  rw [if_f h6, dec_t (show 0 ≤ n ∧ n ≤ 1099511627776 by omega)]
  by_cases h7 : k = 1
  · obtain ⟨q, hq⟩ := contains_eq (N := N) l hl hN
    rw [dec_t h7]; simp only [Bool.not_true, cond_false]; rw [hq, bind_some', if_pos h7]
    simp
  · rw [dec_f h7]; simp only [Bool.not_false, cond_true]; rw [if_neg h7]
    simp only [Bool.true_and, Option.some.injEq, Prod.mk.injEq, and_true]
    rw [decide_eq_decide]
    cases l <;> simp
    omega

theorem rises_len : ∀ (p : Int) (l : List Int), -1 ≤ p → rises p l = true → (l.length : Int) ≤ 15 - p ∨ l = []
  | p, [], _, _ => .inr rfl
  | p, a :: l, hp, h => by
    simp only [rises, Bool.and_eq_true, decide_eq_true_eq] at h
    obtain ⟨⟨⟨h1, h2⟩, h3⟩, h4⟩ := h
    rcases rises_len a l (by omega) h4 with h5 | h5
    · left; simp; omega
    · left; subst h5; simp; omega

theorem rises_in : ∀ (p : Int) (l : List Int), rises p l = true → ∀ a, a ∈ l → (0 ≤ a ∧ a < 16) ∧ p < a
  | p, [], _, a, h => by cases h
  | p, b :: l, h, a, ha => by
    simp only [rises, Bool.and_eq_true, decide_eq_true_eq] at h
    rcases List.mem_cons.mp ha with rfl | ha
    · exact h.1
    · have := rises_in b l h.2 a ha
      exact ⟨this.1, by omega⟩

theorem rises_eq : ∀ (p : Int) (l m : List Int), rises p l = true → rises p m = true → (∀ a, a ∈ l ↔ a ∈ m) → l = m
  | p, [], [], _, _, _ => rfl
  | p, [], b :: m, _, _, h => by have := (h b).2 (by simp); simp at this
  | p, a :: l, [], _, _, h => by have := (h a).1 (by simp); simp at this
  | p, a :: l, b :: m, h1, h2, h => by
    simp only [rises, Bool.and_eq_true] at h1 h2
    have r1 := rises_in a l h1.2
    have r2 := rises_in b m h2.2
    have e : a = b := by
      rcases List.mem_cons.mp ((h a).1 (by simp)) with e | e
      · exact e
      rcases List.mem_cons.mp ((h b).2 (by simp)) with e' | e'
      · exact e'.symm
      have := (r2 a e).2; have := (r1 b e').2; omega
    subst e
    congr 1
    refine rises_eq a l m h1.2 h2.2 fun x => ⟨fun hx => ?_, fun hx => ?_⟩
    · rcases List.mem_cons.mp ((h x).1 (by simp [hx])) with e | e
      · have := (r1 x hx).2; omega
      · exact e
    · rcases List.mem_cons.mp ((h x).2 (by simp [hx])) with e | e
      · have := (r2 x hx).2; omega
      · exact e

/-- The nodes' mask. -/
def mask : Nat → List Int → Nat
  | m, [] => m
  | m, a :: l => mask (m ||| 2 ^ a.toNat) l

theorem mask_bit (j : Nat) : ∀ (m : Nat) (l : List Int), (mask m l).testBit j = (m.testBit j || l.any (fun a => decide (a.toNat = j)))
  | m, [] => by simp [mask]
  | m, a :: l => by rw [mask, mask_bit j _ l]; simp [Nat.testBit_or, Nat.testBit_two_pow, Bool.or_assoc]

theorem mask_lt : ∀ (m : Nat) (l : List Int), m < 65536 → (∀ a, a ∈ l → 0 ≤ a ∧ a < 16) → mask m l < 65536
  | m, [], h, _ => h
  | m, a :: l, h, ha => by
    rw [mask]
    refine mask_lt _ l ?_ (fun b hb => ha b (by simp [hb]))
    have := ha a (by simp)
    refine Nat.or_lt_two_pow (n := 16) h ?_
    exact Nat.pow_lt_pow_right (by omega) (by omega)

theorem mask_step {m : Nat} {a : Int} (hm : m < 65536) (ha : 0 ≤ a ∧ a < 16) : Ev.bits .or .i64 (m : Int) (Ev.shl .i64 1 a) = ((m ||| 2 ^ a.toNat : Nat) : Int) := by
  have hp : 2 ^ a.toNat < 65536 := Nat.pow_lt_pow_right (n := 16) (by omega) (by omega)
  have e : Ev.shl .i64 1 a = ((2 ^ a.toNat : Nat) : Int) := by
    have := shl_nat .i64 1 a.toNat (by simp [IntKind.bits]; omega)
    rw [Int.toNat_of_nonneg ha.1] at this
    rw [show (1 : Int) = ((1 : Nat) : Int) from rfl, this, Nat.one_mul]
    generalize 2 ^ a.toNat = w at hp
    rw [wrap_i64_id (by omega) (by omega)]
  rw [e]
  have hor : m ||| 2 ^ a.toNat < 65536 := Nat.or_lt_two_pow (n := 16) hm hp
  generalize 2 ^ a.toNat = w at hp hor
  have h64 : (2 : Nat) ^ IntKind.bits .i64 = 18446744073709551616 := by decide
  rw [Go.Ev.bits_nat .or .i64 m w (by omega) (by omega)]
  simp only
  rw [wrap_i64_id (by omega) (by omega)]

theorem mask_inj {l m : List Int} (h1 : rises (-1) l = true) (h2 : rises (-1) m = true) (h : mask 0 l = mask 0 m) : l = m := by
  have r1 := rises_in _ _ h1
  have r2 := rises_in _ _ h2
  have key : ∀ (l m : List Int), (∀ a, a ∈ l → (0 ≤ a ∧ a < 16) ∧ -1 < a) → (∀ a, a ∈ m → (0 ≤ a ∧ a < 16) ∧ -1 < a) → mask 0 l = mask 0 m → ∀ a, a ∈ l → a ∈ m := by
    intro l m r1 r2 h a ha
    have hb : (mask 0 l).testBit a.toNat = true := by
      rw [mask_bit]
      simp only [Nat.zero_testBit, Bool.false_or, List.any_eq_true, decide_eq_true_eq]
      exact ⟨a, ha, rfl⟩
    rw [h, mask_bit] at hb
    simp only [Nat.zero_testBit, Bool.false_or, List.any_eq_true, decide_eq_true_eq] at hb
    obtain ⟨b, hb, e⟩ := hb
    have := r1 a ha; have := r2 b hb
    rw [show a = b by omega]; exact hb
  exact rises_eq _ _ _ h1 h2 fun a => ⟨key l m r1 r2 h a, key m l r2 r1 h.symm a⟩

theorem mask_loop (N : Nat) (R : Type) (k0 : Int → Int → Int → Int → Int → List Int → Option R) (l : List Int) (hl : l.length ≤ 9223372036854775807) (hr : ∀ a, a ∈ l → 0 ≤ a ∧ a < 16) (a1 a2 a3 a4 : Int) (z : List Int) :
    ∀ (d i n : Nat), i + d = l.length → n < 65536 → ∀ m, d < m → letter_Encode_l0 N R k0 m (n : Int) l (l.length : Int) (i : Int) a1 a2 a3 a4 z = k0 (mask n (l.drop i) : Int) a1 a2 a3 a4 z
  | d, i, n, hi, hn, m, hm => by
    obtain ⟨m, rfl⟩ : ∃ k, m = k + 1 := ⟨m - 1, by omega⟩
    simp only [letter_Encode_l0, letter_Encode_l0B]
    by_cases hlt : i < l.length
    · have ha := hr l[i] (List.getElem_mem hlt)
      rw [if_t (by omega), nth_lt hlt, bind_some', if_t ha.1, mask_step hn ha, wrap_succ hlt hl, drop_step hlt, mask]
      exact mask_loop N R k0 l hl hr a1 a2 a3 a4 z (d - 1) (i + 1) _ (by omega) (Nat.or_lt_two_pow (n := 16) hn (Nat.pow_lt_pow_right (n := 16) (by omega) (by omega))) m (by omega)
    · rw [if_f (by omega), show i = l.length by omega, List.drop_length]; rfl

/-- A row of numbers. -/
def nums (l : List Int) : List V := l.map fun n => (2, (n, ([], ())))

theorem nums_loop (N : Nat) (R : Type) (k0 : List V → Int → Int → Int → Int → List Int → Option R) (l : List Int) (hl : l.length ≤ 1000) (a1 a2 a3 a4 : Int) (z : List Int) :
    ∀ (d i : Nat) (o : List V), i + d = l.length → o.length ≤ 1000 + i → ∀ m, d < m → letter_Encode_l1 N R k0 m o l (l.length : Int) (i : Int) a1 a2 a3 a4 z = k0 (o ++ nums (l.drop i)) a1 a2 a3 a4 z
  | d, i, o, hi, ho, m, hm => by
    obtain ⟨m, rfl⟩ : ∃ k, m = k + 1 := ⟨m - 1, by omega⟩
    simp only [letter_Encode_l1, letter_Encode_l1B]
    by_cases hlt : i < l.length
    · rw [if_t (by omega), nth_lt hlt, bind_some', cond_t (room32 (by simp; omega)), wrap_succ hlt (by omega), drop_step hlt]
      rw [nums_loop N R k0 l hl a1 a2 a3 a4 z (d - 1) (i + 1) _ (by omega) (by simp; omega) m (by omega)]
      rw [show nums (l[i] :: l.drop (i + 1)) = [(2, (l[i], ([], ())))] ++ nums (l.drop (i + 1)) from rfl, List.append_assoc]
    · rw [if_f (by omega), show i = l.length by omega, List.drop_length]; simp [nums]

theorem nums_ok {l : List Int} (h : l.length ≤ 16) (hw : ∀ a, a ∈ l → -9223372036854775808 ≤ a ∧ a ≤ 9223372036854775807) : okRow (nums l) := by
  refine ⟨by simpa [nums] using h, fun v hv => ?_⟩
  simp only [nums, List.mem_map] at hv
  obtain ⟨n, hn, rfl⟩ := hv
  exact ⟨by simp [right], hw n hn⟩

theorem nums_inj {l m : List Int} (h : nums l = nums m) : l = m := by
  have := congrArg (List.map fun v : V => v.2.1) h
  simpa [nums, Function.comp_def] using this

/-- A letter's numbers. -/
def lNums (k f t n : Int) (l : List Int) : List Int := [k, f, t, n, (mask 0 l : Int)]

theorem lRight_in {k f t n : Int} {l : List Int} (h : lRight k f t n l = true) : (1 ≤ k ∧ k ≤ 8) ∧ (0 ≤ f ∧ f < 16) ∧ (0 ≤ t ∧ t < 16) ∧ (0 ≤ n ∧ n ≤ 1099511627776) ∧ rises (-1) l = true ∧ (k ≠ 1 → l = []) := by
  unfold lRight at h
  simp only [Bool.and_eq_true, decide_eq_true_eq] at h
  obtain ⟨⟨⟨⟨h1, h2⟩, h3⟩, h4⟩, h5⟩ := h
  refine ⟨h1, h2, h3, h4, ?_⟩
  by_cases hk : k = 1
  · rw [if_pos hk] at h5; exact ⟨h5, fun h => absurd hk h⟩
  · rw [if_neg hk, decide_eq_true_eq] at h5; subst h5; exact ⟨rfl, fun _ => rfl⟩

theorem lNums_ok {k f t n : Int} {l : List Int} (h : lRight k f t n l = true) : okRow (nums (lNums k f t n l)) := by
  obtain ⟨h1, h2, h3, h4, h5, _⟩ := lRight_in h
  have hm := mask_lt 0 l (by omega) (fun a ha => (rises_in _ _ h5 a ha).1)
  refine nums_ok (by simp [lNums]) fun a ha => ?_
  simp only [lNums, List.mem_cons, List.not_mem_nil, or_false] at ha
  rcases ha with rfl | rfl | rfl | rfl | rfl <;> omega

theorem encode_ok {N : Nat} (hN : 2000 < N) {l : List V} (h : okRow l) : row_Encode N l = some (bytes l, (0, ())) := by
  rcases row_Encode_eq hN l (fun v hv => (h.2 v hv).2) with ⟨_, _, e⟩ | ⟨h' | ⟨v, hv, hr⟩, _⟩
  · exact e
  · exact absurd h.1 (by omega)
  · rw [(h.2 v hv).1] at hr; cases hr

theorem letter_Encode_eq {N : Nat} (hN : 2000 < N) (k f t n : Int) (l : List Int) (hl : l.length ≤ 9223372036854775807) (hlN : l.length < N) :
    letter_Encode N k f t n l = some (if lRight k f t n l = true then (bytes (nums (lNums k f t n l)), (0, ())) else ([], (111, ()))) := by
  unfold letter_Encode letter_Encode_cps
  rw [letter_Right_eq k f t n l hl hlN, bind_some']
  cases h : lRight k f t n l with
  | false => rfl
  | true =>
    simp only [Bool.not_true, cond_false]
    obtain ⟨h1, h2, h3, h4, h5, _⟩ := lRight_in h
    rw [show (0 : Int) = ((0 : Nat) : Int) from rfl]
    rw [mask_loop N _ _ l hl (fun a ha => (rises_in _ _ h5 a ha).1) _ _ _ _ _ l.length 0 0 (by omega) (by omega) N hlN]
    rw [List.drop_zero]
    rw [nums_loop N _ _ [k, f, t, n, (mask 0 l : Int)] (by simp) _ _ _ _ _ 5 0 [] rfl (by simp) N (by omega)]
    have e := encode_ok hN (lNums_ok h)
    unfold lNums at e ⊢
    rw [List.drop_zero, List.nil_append, e, bind_some']
    rfl

end Go.Proofs.Ytfeidmgfninmmaa.E
