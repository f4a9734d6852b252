/-
  Plain laws of the pure functions.
  Conditions: those that each statement prints, and no other.
-/
import Derived.Test.YtmpglmalfkkokaaDoorPValBackP
import Derived.Test.YtmpglmalfkkokaaDoorPOrdP
set_option linter.unusedVariables false
set_option linter.unusedSimpArgs false
/-! The order of values. -/
namespace Go.Proofs.YtmpglmalfkkokaaDoor.E
open Go.Ev

abbrev VT := Int × (Int × (Bs × Unit))

/-- One value ahead of another. -/
def ltV (v w : VT) : Prop := v.1 < w.1 ∨ (v.1 = w.1 ∧ (v.2.1 < w.2.1 ∨ (v.2.1 = w.2.1 ∧ Op.bytesLess v.2.2.1 w.2.2.1 = true)))
instance (v w : VT) : Decidable (ltV v w) := by unfold ltV; infer_instance
def ord (v w : VT) : Int := if ltV v w then -1 else if ltV w v then 1 else 0

theorem ltV_irr (v : VT) : ¬ ltV v v := by
  intro h
  rcases h with h | ⟨_, h | ⟨_, h⟩⟩
  · omega
  · omega
  · rw [less_irr] at h; cases h
theorem ltV_trans {a b c : VT} (h1 : ltV a b) (h2 : ltV b c) : ltV a c := by
  unfold ltV at *
  rcases h1 with h1 | ⟨e1, h1⟩
  · rcases h2 with h2 | ⟨e2, _⟩
    · left; omega
    · left; omega
  · rcases h2 with h2 | ⟨e2, h2⟩
    · left; omega
    · right
      refine ⟨by omega, ?_⟩
      rcases h1 with h1 | ⟨f1, h1⟩
      · rcases h2 with h2 | ⟨f2, _⟩
        · left; omega
        · left; omega
      · rcases h2 with h2 | ⟨f2, h2⟩
        · left; omega
        · right; exact ⟨by omega, less_trans _ _ _ h1 h2⟩
theorem ltV_tri {a b : VT} (h1 : ¬ ltV a b) (h2 : ¬ ltV b a) : a = b := by
  obtain ⟨k, n, s, _⟩ := a
  obtain ⟨k', n', s', _⟩ := b
  unfold ltV at *
  dsimp only at *
  have e1 : k = k' := by omega
  subst e1
  have e2 : n = n' := by
    by_cases h : n < n'
    · exact absurd (.inr ⟨rfl, .inl h⟩) h1
    · by_cases h' : n' < n
      · exact absurd (.inr ⟨rfl, .inl h'⟩) h2
      · omega
  subst e2
  have e3 : s = s' := by
    refine less_tri s s' ?_ ?_
    · cases h : Op.bytesLess s s' with
      | false => rfl
      | true => exact absurd (.inr ⟨rfl, .inr ⟨rfl, h⟩⟩) h1
    · cases h : Op.bytesLess s' s with
      | false => rfl
      | true => exact absurd (.inr ⟨rfl, .inr ⟨rfl, h⟩⟩) h2
  subst e3; rfl
theorem ltV_asymm {a b : VT} (h : ltV a b) : ¬ ltV b a := fun h' => ltV_irr a (ltV_trans h h')

theorem ord_self (v : VT) : ord v v = 0 := by unfold ord; rw [if_neg (ltV_irr v), if_neg (ltV_irr v)]
theorem ord_neg (v w : VT) : ord v w = -ord w v := by
  unfold ord
  by_cases h : ltV v w
  · simp [h, ltV_asymm h]
  · by_cases h' : ltV w v
    · simp [h, h']
    · simp [h, h']
theorem ord_zero {v w : VT} : ord v w = 0 ↔ v = w := by
  unfold ord
  constructor
  · intro h
    by_cases h1 : ltV v w
    · rw [if_pos h1] at h; omega
    · by_cases h2 : ltV w v
      · rw [if_neg h1, if_pos h2] at h; omega
      · exact ltV_tri h1 h2
  · rintro rfl; exact ord_self v
theorem ord_le {v w : VT} : ord v w ≤ 0 ↔ ¬ ltV w v := by
  unfold ord
  by_cases h1 : ltV v w
  · rw [if_pos h1]; exact ⟨fun _ => ltV_asymm h1, fun _ => by omega⟩
  · by_cases h2 : ltV w v
    · rw [if_neg h1, if_pos h2]; exact ⟨fun h => by omega, fun h => absurd h2 h⟩
    · rw [if_neg h1, if_neg h2]; exact ⟨fun _ => h2, fun _ => by omega⟩
theorem ord_lt {v w : VT} : ord v w < 0 ↔ ltV v w := by
  unfold ord
  by_cases h1 : ltV v w
  · rw [if_pos h1]; exact ⟨fun _ => h1, fun _ => by omega⟩
  · by_cases h2 : ltV w v
    · rw [if_neg h1, if_pos h2]; exact ⟨fun h => by omega, fun h => absurd h h1⟩
    · rw [if_neg h1, if_neg h2]; exact ⟨fun h => by omega, fun h => absurd h h1⟩
theorem ord_range (v w : VT) : -1 ≤ ord v w ∧ ord v w ≤ 1 := by unfold ord; split; omega; split <;> omega

/-- Who comes ahead of one that comes ahead of another one. -/
theorem ord_chain {a b c : VT} (h1 : ord a b ≤ 0) (h2 : ord b c ≤ 0) : ord a c ≤ 0 ∧ (ord a b < 0 → ord a c < 0) := by
  rw [ord_le] at h1 h2
  have key : ltV a b → ltV a c := fun h => by
    by_cases h3 : ltV b c
    · exact ltV_trans h h3
    · have := ltV_tri h3 h2; subst this; exact h
  refine ⟨?_, fun h => ord_lt.2 (key (ord_lt.1 h))⟩
  rw [ord_le]
  by_cases h3 : ltV a b
  · exact ltV_asymm (key h3)
  · have := ltV_tri h3 h1; subst this; exact h2

theorem or_loop {N n : Nat} {R : Type} {k0 : Int → Option R} {k1 : Int → Int → Option R} (a b c : Int) : cmp_Or_int_l0 N R k0 k1 (n + 4) 0 [a, b, c] 3 0 = if a ≠ 0 then k1 a 0 else if b ≠ 0 then k1 b 0 else if c ≠ 0 then k1 c 0 else k0 0 := by
  have s0 : cmp_Or_int_l0 N R k0 k1 (n + 4) 0 [a, b, c] 3 0 = bif (!(decide (a = 0))) then k1 a 0 else cmp_Or_int_l0 N R k0 k1 (n + 3) 0 [a, b, c] 3 1 := rfl
  have s1 : cmp_Or_int_l0 N R k0 k1 (n + 3) 0 [a, b, c] 3 1 = bif (!(decide (b = 0))) then k1 b 0 else cmp_Or_int_l0 N R k0 k1 (n + 2) 0 [a, b, c] 3 2 := rfl
  have s2 : cmp_Or_int_l0 N R k0 k1 (n + 2) 0 [a, b, c] 3 2 = bif (!(decide (c = 0))) then k1 c 0 else cmp_Or_int_l0 N R k0 k1 (n + 1) 0 [a, b, c] 3 3 := rfl
  have s3 : cmp_Or_int_l0 N R k0 k1 (n + 1) 0 [a, b, c] 3 3 = k0 0 := rfl
  rw [s0, s1, s2, s3]
  by_cases ha : a = 0
  · by_cases hb : b = 0
    · by_cases hc : c = 0 <;> simp [ha, hb, hc]
    · simp [ha, hb]
  · simp [ha]

theorem or_eq {N : Nat} (hN : 1000 < N) (a b c : Int) : cmp_Or_int N ([a, b, c] : List Int) = some (if a ≠ 0 then a else if b ≠ 0 then b else c, ()) := by
  obtain ⟨n, hn⟩ : ∃ n, N = n + 4 := ⟨N - 4, by omega⟩
  unfold cmp_Or_int cmp_Or_int_cps
  have := or_loop (N := N) (n := n) (R := Int × Unit) (k0 := fun v2 => some (v2, ())) (k1 := fun v3 v4 => some (v3, ())) a b c
  rw [← hn] at this
  refine this.trans ?_
  by_cases ha : a = 0
  · by_cases hb : b = 0
    · by_cases hc : c = 0 <;> simp [ha, hb, hc]
    · simp [ha, hb]
  · simp [ha]

theorem order_eq {N : Nat} (hN : 1000 < N) (k n : Int) (s : Bs) (k' n' : Int) (s' : Bs) : value_Order N k n s k' n' s' = some (ord (k, (n, (s, ()))) (k', (n', (s', ()))), ()) := by
  have hk : cmp_Compare_api_Kind N k k' = some (if k < k' then -1 else if k' < k then 1 else 0, ()) := by
    unfold cmp_Compare_api_Kind cmp_Compare_api_Kind_cps cmp_isNaN_api_Kind cmp_isNaN_api_Kind_cps
    by_cases h1 : k < k'
    · simp [h1]
    · by_cases h2 : k' < k <;> simp [h1, h2]
  have hn : cmp_Compare_int64 N n n' = some (if n < n' then -1 else if n' < n then 1 else 0, ()) := by
    unfold cmp_Compare_int64 cmp_Compare_int64_cps cmp_isNaN_int64 cmp_isNaN_int64_cps
    by_cases h1 : n < n'
    · simp [h1]
    · by_cases h2 : n' < n <;> simp [h1, h2]
  have hs : cmp_Compare_string N s s' = some (if Op.bytesLess s s' = true then -1 else if Op.bytesLess s' s = true then 1 else 0, ()) := by
    unfold cmp_Compare_string cmp_Compare_string_cps cmp_isNaN_string cmp_isNaN_string_cps
    cases h1 : Op.bytesLess s s' with
    | true => simp
    | false => cases h2 : Op.bytesLess s' s <;> simp
  unfold value_Order value_Order_cps
  rw [hk, bind_some', hn, bind_some', hs, bind_some', or_eq hN, bind_some']
  congr 2
  unfold ord ltV
  dsimp only
  by_cases h1 : k < k'
  · simp [h1]
  · by_cases h2 : k' < k
    · have : ¬ k = k' := by omega
      simp [h1, h2, this]
    · have e : k = k' := by omega
      subst e
      by_cases h3 : n < n'
      · simp [h3]
      · by_cases h4 : n' < n
        · have : ¬ n = n' := by omega
          simp [h3, h4, this]
        · have e : n = n' := by omega
          subst e
          simp

theorem rorder_eq (N : Nat) (k n : Int) (s : Bs) (k' n' : Int) (s' : Bs) : ref02_Order N k n s k' n' s' = some (ord (k, (n, (s, ()))) (k', (n', (s', ()))), ()) := by
  unfold ref02_Order ref02_Order_cps ord ltV
  dsimp only
  by_cases h1 : k < k'
  · simp [h1]
  · by_cases h2 : k' < k
    · have : ¬ k = k' := by omega
      simp [h1, h2, this]
    · have e : k = k' := by omega
      subst e
      by_cases h3 : n < n'
      · simp [h3]
      · by_cases h4 : n' < n
        · have : ¬ n = n' := by omega
          simp [h3, h4, this]
        · have e : n = n' := by omega
          subst e
          by_cases h5 : Op.bytesLess s s' = true
          · simp [h5]
          · by_cases h6 : Op.bytesLess s' s = true <;> simp [h5, h6]

/-- The order of two lists. -/
def rowsO : List VT → List VT → Int
  | [], [] => 0
  | [], _ :: _ => -1
  | _ :: _, [] => 1
  | x :: a, y :: b => if ord x y ≠ 0 then ord x y else rowsO a b

theorem cmpFunc_eq {N : Nat} (hN : 1000 < N) (a b : List VT) (hl : a.length ≤ 500) : slices_CompareFunc_api_Value_api_Value_api_Value_api_Value N a b = some (rowsO a b, ()) := by
  have loop : ∀ (m i fuel : Nat), i + m = a.length → i ≤ b.length → m < fuel →
      slices_CompareFunc_api_Value_api_Value_api_Value_api_Value_l0 N (Int × Unit) (fun v3 v4 => bif decide ((v3.length : Int) < (v4.length : Int)) then some (-1, ()) else some (0, ())) (fun _ _ v7 => some (v7, ()))
        fuel a b a (a.length : Int) (i : Int) = some (rowsO (a.drop i) (b.drop i), ()) := by
    intro m
    induction m with
    | zero =>
      intro i fuel h1 h2 h3
      obtain ⟨f, rfl⟩ : ∃ f, fuel = f + 1 := ⟨fuel - 1, by omega⟩
      show slices_CompareFunc_api_Value_api_Value_api_Value_api_Value_l0B _ _ _ _ _ _ _ _ _ _ = _
      unfold slices_CompareFunc_api_Value_api_Value_api_Value_api_Value_l0B
      rw [if_f (by omega), List.drop_eq_nil_of_le (show a.length ≤ i by omega)]
      dsimp only
      by_cases hlt : a.length < b.length
      · rw [if_t (by omega), List.drop_eq_getElem_cons (show i < b.length by omega)]; rfl
      · rw [if_f (by omega), List.drop_eq_nil_of_le (show b.length ≤ i by omega)]; rfl
    | succ m ih =>
      intro i fuel h1 h2 h3
      obtain ⟨f, rfl⟩ : ∃ f, fuel = f + 1 := ⟨fuel - 1, by omega⟩
      show slices_CompareFunc_api_Value_api_Value_api_Value_api_Value_l0B _ _ _ _ _ _ _ _ _ _ = _
      unfold slices_CompareFunc_api_Value_api_Value_api_Value_api_Value_l0B
      have hi : i < a.length := by omega
      rw [if_t (by omega), nth_lt hi, bind_some', List.drop_eq_getElem_cons hi]
      by_cases hb : b.length ≤ i
      · rw [if_t (by omega), List.drop_eq_nil_of_le hb]; rfl
      · have hib : i < b.length := by omega
        rw [if_f (by omega), nth_lt hib, bind_some', order_eq hN, bind_some', List.drop_eq_getElem_cons hib]
        have e : ∀ v : VT, ((v.1, (v.2.1, (v.2.2.1, ()))) : VT) = v := fun v => rfl
        dsimp only
        rw [e, e]
        unfold rowsO
        by_cases ho : ord a[i] b[i] = 0
        · rw [cond_f (by simp [ho]), if_neg (by simpa using ho), wrap_succ hi (by omega)]
          exact ih (i + 1) f (by omega) (by omega) (by omega)
        · rw [cond_t (by simp [ho]), if_pos ho]
  unfold slices_CompareFunc_api_Value_api_Value_api_Value_api_Value slices_CompareFunc_api_Value_api_Value_api_Value_api_Value_cps
  exact loop a.length 0 N (by omega) (by omega) (by omega)

theorem rows_eq {N : Nat} (hN : 1000 < N) (a b : List VT) (hl : a.length ≤ 500) : value_Rows N a b = some (rowsO a b, ()) := by
  unfold value_Rows value_Rows_cps; rw [cmpFunc_eq hN a b hl]; rfl

theorem rrows_eq {N : Nat} (hN : 1000 < N) (a b : List VT) (hl : a.length ≤ 500) : ref02_Rows N a b = some (rowsO a b, ()) := by
  have loop : ∀ (m i fuel : Nat), i + m = a.length → i ≤ b.length → m < fuel →
      ref02_Rows_l0 N (Int × Unit) (fun v3 v4 => bif decide ((v3.length : Int) < (v4.length : Int)) then some (-1, ()) else bif decide ((v4.length : Int) < (v3.length : Int)) then some (1, ()) else some (0, ())) (fun _ _ v7 => some (v7, ()))
        fuel a b (i : Int) = some (rowsO (a.drop i) (b.drop i), ()) := by
    intro m
    induction m with
    | zero =>
      intro i fuel h1 h2 h3
      obtain ⟨f, rfl⟩ : ∃ f, fuel = f + 1 := ⟨fuel - 1, by omega⟩
      show ref02_Rows_l0B _ _ _ _ _ _ _ _ = _
      unfold ref02_Rows_l0B
      rw [if_f (by omega), List.drop_eq_nil_of_le (show a.length ≤ i by omega)]
      dsimp only
      by_cases hlt : a.length < b.length
      · rw [if_t (by omega), List.drop_eq_getElem_cons (show i < b.length by omega)]; rfl
      · rw [if_f (by omega), if_f (by omega), List.drop_eq_nil_of_le (show b.length ≤ i by omega)]; rfl
    | succ m ih =>
      intro i fuel h1 h2 h3
      obtain ⟨f, rfl⟩ : ∃ f, fuel = f + 1 := ⟨fuel - 1, by omega⟩
      show ref02_Rows_l0B _ _ _ _ _ _ _ _ = _
      unfold ref02_Rows_l0B
      have hi : i < a.length := by omega
      rw [if_t (by omega)]
      by_cases hb : b.length ≤ i
      · rw [if_f (by omega)]
        dsimp only
        rw [if_f (by omega), if_t (by omega), List.drop_eq_nil_of_le hb, List.drop_eq_getElem_cons hi]; rfl
      · have hib : i < b.length := by omega
        rw [if_t (by omega)]
        unfold ref02_Rows_j1
        rw [nth_lt hi, bind_some', nth_lt hib, bind_some', rorder_eq, bind_some', List.drop_eq_getElem_cons hi, List.drop_eq_getElem_cons hib]
        have e : ∀ v : VT, ((v.1, (v.2.1, (v.2.2.1, ()))) : VT) = v := fun v => rfl
        dsimp only
        rw [e, e]
        unfold rowsO
        by_cases ho : ord a[i] b[i] = 0
        · rw [cond_f (by simp [ho]), if_neg (by simpa using ho), wrap_succ hi (by omega)]
          exact ih (i + 1) f (by omega) (by omega) (by omega)
        · rw [cond_t (by simp [ho]), if_pos ho]
  unfold ref02_Rows ref02_Rows_cps
  exact loop a.length 0 N (by omega) (by omega) (by omega)

theorem rright_eq (N : Nat) (k n : Int) (s : Bs) : ref02_Right N k n s = some (rightB k n s, ()) := by
  unfold ref02_Right ref02_Right_cps rightB ref02_Right_j0
  by_cases h1 : k = 1
  · subst h1
    by_cases h2 : n = 1
    · subst h2; simp
    · by_cases h3 : n = 0
      · subst h3; simp
      · simp [h2, h3]
  · by_cases h0 : k = 0
    · subst h0
      by_cases h3 : n = 0
      · subst h3; simp
      · simp [h3]
    · by_cases h2 : k = 2
      · subst h2; simp
      · by_cases h3 : k = 3
        · subst h3; simp
        · by_cases h4 : k = 4
          · subst h4
            by_cases h5 : n = 0
            · subst h5; simp; omega
            · simp [h5]
          · by_cases h6 : k = 5
            · subst h6
              by_cases h5 : n = 0
              · subst h5; simp; omega
              · simp [h5]
            · simp [h1, h0, h2, h3, h4, h6]

end Go.Proofs.YtmpglmalfkkokaaDoor.E
