/-
  Plain laws of the pure functions.
  Conditions: those that each statement prints, and no other.
-/
import Derived.Test.YtiloinbeojampaaGreatDoorGEVF
import Derived.Test.YtiloinbeojampaaGreatDoorEvA
import Derived.KernelRfl
set_option linter.unusedVariables false
set_option linter.unusedSimpArgs false
/-! Any order: folds of numbers of one kind. -/
namespace Go.Proofs.YtiloinbeojampaaGreatDoor.E
open Go.Ev
set_option maxRecDepth 100000

theorem cnf {α : Type} (a b : α) : (bif !false then a else b) = a := rfl
theorem cnt {α : Type} (a b : α) : (bif !true then a else b) = b := rfl
theorem ct {α : Type} (a b : α) : (bif true then a else b) = a := rfl
theorem cf {α : Type} (a b : α) : (bif false then a else b) = b := rfl

theorem alive20 : law20_alive big = some (true, ()) := by rw [big_eq]; kernel_rfl

abbrev Vl := Int × (Int × ((List UInt8) × Unit))
abbrev vn (k n : Int) : Vl := (k, n, [], ())
def vs (k : Int) (l : List Int) : List Vl := l.map (vn k)

theorem vs_len (k : Int) (l : List Int) : (vs k l).length = l.length := by simp [vs]
theorem vs_nth {k : Int} {l : List Int} {i : Nat} (h : i < l.length) : nth (vs k l) (i : Int) = some (vn k l[i]) := by
  rw [nth_lt (by rw [vs_len]; exact h)]; simp [vs]

def IsK (k : Int) : Prop := k = 2 ∨ k = 3

theorem right_num (N : Nat) {k : Int} (hk : IsK k) (n : Int) : value_Right N k n [] = some (true, ()) := by
  rcases hk with rfl | rfl <;> rfl

/-! ### Sums -/

def Wh (z : Int) : Int := z / 18446744073709551616
def Wl (z : Int) : Int := z % 18446744073709551616

theorem shr63 (n : Int) : Ev.shr .i64 n 63 = n / 9223372036854775808 := by
  unfold shr
  show Int.fdiv n (2 ^ 63) = _
  rw [Int.fdiv_eq_ediv_of_nonneg _ (by decide)]; rfl

theorem of_eq (N : Nat) {n : Int} (h : InR .i64 n) : eval_of N n = some (Wh n, Wl n, ()) := by
  obtain ⟨h1, h2⟩ := h
  simp only [lo, hi] at h1 h2
  show some (Ev.shr .i64 n 63, IntKind.wrap .u64 n, ()) = _
  rw [shr63, wrap_u64]
  unfold Wh Wl
  congr 2
  omega

theorem plus_eq (N : Nat) {a b : Int} (h1 : -170141183460469231731687303715884105728 ≤ a + b) (h2 : a + b ≤ 170141183460469231731687303715884105727) (ha1 : -170141183460469231731687303715884105728 ≤ a) (ha2 : a ≤ 170141183460469231731687303715884105727) (hb1 : -170141183460469231731687303715884105728 ≤ b) (hb2 : b ≤ 170141183460469231731687303715884105727) :
    eval_wide_plus N (Wh a) (Wl a) (Wh b) (Wl b) = some (Wh (a + b), Wl (a + b), ()) := by
  unfold eval_wide_plus eval_wide_plus_cps bits_Add64 bits_Add64_cps
  rw [if_t (by decide), bind_some']
  show some (IntKind.wrap .i64 (IntKind.wrap .i64 (Wh a + Wh b) + IntKind.wrap .i64 ((Wl a + Wl b + 0) / 18446744073709551616)), (Wl a + Wl b + 0) % 18446744073709551616, ()) = _
  unfold Wh Wl
  simp only [wrap_i64]
  congr 2
  · omega
  · congr 1; omega

instance decR (z : Int) : Decidable (InR .i64 z) := inferInstanceAs (Decidable (lo .i64 ≤ z ∧ z ≤ hi .i64))

theorem fits_eq (N : Nat) {z : Int} : eval_wide_fits N (Wh z) (Wl z) = some (IntKind.wrap .i64 z, decide (InR .i64 z), ()) := by
  show some (IntKind.wrap .i64 (Wl z), decide (Wh z = Ev.shr .i64 (IntKind.wrap .i64 (Wl z)) 63), ()) = _
  rw [shr63]
  unfold Wh Wl
  have e : IntKind.wrap .i64 (z % 18446744073709551616) = IntKind.wrap .i64 z := by simp only [wrap_i64]; omega
  rw [e]
  have e2 : decide (z / 18446744073709551616 = IntKind.wrap .i64 z / 9223372036854775808) = decide (InR .i64 z) := by
    apply decide_eq_decide.2
    simp only [InR, lo, hi, wrap_i64]
    omega
  rw [e2]

def sumL : List Int → Int
  | [] => 0
  | x :: r => x + sumL r

theorem sumL_append (a b : List Int) : sumL (a ++ b) = sumL a + sumL b := by
  induction a with
  | nil => simp [sumL]
  | cons x a ih => simp only [List.cons_append, sumL, ih]; omega
theorem sumL_reverse (a : List Int) : sumL a.reverse = sumL a := by
  induction a with
  | nil => rfl
  | cons x a ih => rw [List.reverse_cons, sumL_append, ih]; simp only [sumL]; omega

theorem maxI_k {k : Int} (hk : IsK k) (i : Nat) : maxI (if i = 0 then 0 else k) k = k := by
  rcases hk with rfl | rfl <;> cases i <;> rfl

def AllR (l : List Int) : Prop := ∀ x ∈ l, InR .i64 x

theorem sum2 (N : Nat) {R : Type} (k0 : Int → Int → List UInt8 → Int → Int → Int → Int → Int → Int → List UInt8 → Option R) (k1 : Err → Int → Int → List UInt8 → Int → Int → Int → Int → Int → Int → List UInt8 → Option R) (l : List Int) (hl : l.length ≤ 1000) (hr : AllR l) (x y : Int) (z : List UInt8) (p q : Int) (v : Int) (u : List UInt8) :
    ∀ (m i : Nat) (a : Int), i ≤ l.length → l.length - i < m → -(i : Int) * 9223372036854775808 ≤ a → a ≤ i * 9223372036854775808 →
      eval_sum_l0 N R k0 k1 m (vs 2 l) (l.length : Int) (i : Int) x y z (Wh a) (Wl a) p q (if i = 0 then 0 else 2) v u = k0 x y z (Wh (a + sumL (l.drop i))) (Wl (a + sumL (l.drop i))) p q (if l.length = 0 then 0 else 2) v u := by
  intro m
  induction m with
  | zero => intro i _ _ hm _ _; exact absurd hm (Nat.not_lt_zero _)
  | succ m ih =>
    intro i a hle hm h1 h2
    show eval_sum_l0B N R (eval_sum_l0 N R k0 k1 m) k0 k1 (vs 2 l) (l.length : Int) (i : Int) x y z (Wh a) (Wl a) p q (if i = 0 then 0 else 2) v u = _
    unfold eval_sum_l0B
    by_cases h : i < l.length
    · have hx := hr _ (List.getElem_mem h)
      obtain ⟨g1, g2⟩ := hx
      simp only [lo, hi] at g1 g2
      rw [if_t (by omega), vs_nth h, bind_some']
      show Option.bind (value_Right N 2 l[i] []) _ = _
      rw [right_num N (.inl rfl), bind_some']
      dsimp only
      rw [cnt, if_f (by decide), if_t rfl, of_eq N ⟨by simpa only [Ev.lo] using g1, by simpa only [Ev.hi] using g2⟩, bind_some']
      dsimp only
      rw [plus_eq N (by omega) (by omega) (by omega) (by omega) (by omega) (by omega), bind_some', wrap_succ h (by omega)]
      have := ih (i + 1) (a + l[i]) h (by omega) (by omega) (by omega)
      rw [List.drop_eq_getElem_cons h]
      simp only [sumL]
      rw [show a + (l[i] + sumL (l.drop (i + 1))) = a + l[i] + sumL (l.drop (i + 1)) by omega, ← this]
      show eval_sum_l0 N R k0 k1 m (vs 2 l) _ _ x y z _ _ p q (maxI (if i = 0 then 0 else 2) 2) v u = _
      rw [maxI_k (.inl rfl)]; rfl
    · rw [if_f (by omega)]
      have e : i = l.length := by omega
      subst e
      simp [sumL]

theorem sum3 (N : Nat) {R : Type} (k0 : Int → Int → List UInt8 → Int → Int → Int → Int → Int → Int → List UInt8 → Option R) (k1 : Err → Int → Int → List UInt8 → Int → Int → Int → Int → Int → Int → List UInt8 → Option R) (l : List Int) (hl : l.length ≤ 1000) (hr : AllR l) (x y : Int) (z : List UInt8) (p q : Int) (v : Int) (u : List UInt8) :
    ∀ (m i : Nat) (a : Int), i ≤ l.length → l.length - i < m → -(i : Int) * 9223372036854775808 ≤ a → a ≤ i * 9223372036854775808 →
      eval_sum_l0 N R k0 k1 m (vs 3 l) (l.length : Int) (i : Int) x y z p q (Wh a) (Wl a) (if i = 0 then 0 else 3) v u = k0 x y z p q (Wh (a + sumL (l.drop i))) (Wl (a + sumL (l.drop i))) (if l.length = 0 then 0 else 3) v u := by
  intro m
  induction m with
  | zero => intro i _ _ hm _ _; exact absurd hm (Nat.not_lt_zero _)
  | succ m ih =>
    intro i a hle hm h1 h2
    show eval_sum_l0B N R (eval_sum_l0 N R k0 k1 m) k0 k1 (vs 3 l) (l.length : Int) (i : Int) x y z p q (Wh a) (Wl a) (if i = 0 then 0 else 3) v u = _
    unfold eval_sum_l0B
    by_cases h : i < l.length
    · have hx := hr _ (List.getElem_mem h)
      obtain ⟨g1, g2⟩ := hx
      simp only [lo, hi] at g1 g2
      rw [if_t (by omega), vs_nth h, bind_some']
      show Option.bind (value_Right N 3 l[i] []) _ = _
      rw [right_num N (.inr rfl), bind_some']
      dsimp only
      rw [cnt, if_f (by decide), if_f (by decide), if_t rfl, of_eq N ⟨by simpa only [Ev.lo] using g1, by simpa only [Ev.hi] using g2⟩, bind_some']
      dsimp only
      rw [plus_eq N (by omega) (by omega) (by omega) (by omega) (by omega) (by omega), bind_some', wrap_succ h (by omega)]
      have := ih (i + 1) (a + l[i]) h (by omega) (by omega) (by omega)
      rw [List.drop_eq_getElem_cons h]
      simp only [sumL]
      rw [show a + (l[i] + sumL (l.drop (i + 1))) = a + l[i] + sumL (l.drop (i + 1)) by omega, ← this]
      show eval_sum_l0 N R k0 k1 m (vs 3 l) _ _ x y z p q _ _ (maxI (if i = 0 then 0 else 3) 3) v u = _
      rw [maxI_k (.inr rfl)]; rfl
    · rw [if_f (by omega)]
      have e : i = l.length := by omega
      subst e
      simp [sumL]

/-- What a sum comes to. -/
def sumR (k : Int) (l : List Int) : Int × Int × List UInt8 × Err × Unit :=
  if InR .i64 (sumL l) then ((if l.length = 0 then 0 else k), sumL l, [], .nil, ()) else (0, 0, [], .fault 31 (-1) .nil, ())

theorem j1_sum (N : Nat) (s : Int) (kd : Int) (p q : Int) :
    eval_sum_j1 N (Int × Int × List UInt8 × Err × Unit) (fun v26 v27 v28 v29 v30 v31 v32 v33 v34 v35 v36 => some (v27, v28, v29, v26, ())) 0 0 [] (Wh s) (Wl s) p q kd 0 [] =
      some (if InR .i64 s then (kd, s, [], .nil, ()) else (0, 0, [], .fault 31 (-1) .nil, ())) := by
  unfold eval_sum_j1
  rw [fits_eq, bind_some']
  by_cases h : InR .i64 s
  · rw [if_pos h, dec_t h]
    show some (kd, IntKind.wrap .i64 s, [], Err.nil, ()) = _
    obtain ⟨g1, g2⟩ := h
    simp only [lo, hi] at g1 g2
    rw [wrap_i64_id (by omega) (by omega)]
  · rw [if_neg h, dec_f h]; rfl

theorem sum_eq (N : Nat) (hN : 2000 ≤ N) {k : Int} (hk : IsK k) {l : List Int} (hl : l.length ≤ 1000) (hr : AllR l) : eval_sum N (vs k l) = some (sumR k l) := by
  unfold eval_sum eval_sum_cps
  rw [vs_len, if_f (by omega)]
  rcases hk with rfl | rfl
  · have := sum2 N (R := Int × Int × List UInt8 × Err × Unit) (fun v3 v4 v5 v6 v7 v8 v9 v10 v11 v12 => (bif (decide (v10 = 3)) then
        (Option.bind (eval_wide_times N v6 v7 10000) fun v13 => (Option.bind (eval_wide_plus N v13.1 v13.2.1 v8 v9) fun v14 => (eval_sum_j1 N _ (fun v15 v16 v17 v18 v19 v20 v21 v22 v23 v24 v25 => some (v16, v17, v18, v15, ())) v3 v4 v5 v14.1 v14.2.1 v8 v9 v10 v11 v12)))
        else (eval_sum_j1 N _ (fun v26 v27 v28 v29 v30 v31 v32 v33 v34 v35 v36 => some (v27, v28, v29, v26, ())) v3 v4 v5 v6 v7 v8 v9 v10 v11 v12))) (fun v37 v38 v39 v40 v41 v42 v43 v44 v45 v46 v47 => some (v38, v39, v40, v37, ())) l hl hr 0 0 [] 0 0 0 [] N 0 0 (Nat.zero_le _) (by omega) (by omega) (by omega)
    rw [List.drop_zero, Int.zero_add] at this
    refine Eq.trans this ?_
    rw [if_f (by split <;> decide), j1_sum]
    rfl
  · have := sum3 N (R := Int × Int × List UInt8 × Err × Unit) (fun v3 v4 v5 v6 v7 v8 v9 v10 v11 v12 => (bif (decide (v10 = 3)) then
        (Option.bind (eval_wide_times N v6 v7 10000) fun v13 => (Option.bind (eval_wide_plus N v13.1 v13.2.1 v8 v9) fun v14 => (eval_sum_j1 N _ (fun v15 v16 v17 v18 v19 v20 v21 v22 v23 v24 v25 => some (v16, v17, v18, v15, ())) v3 v4 v5 v14.1 v14.2.1 v8 v9 v10 v11 v12)))
        else (eval_sum_j1 N _ (fun v26 v27 v28 v29 v30 v31 v32 v33 v34 v35 v36 => some (v27, v28, v29, v26, ())) v3 v4 v5 v6 v7 v8 v9 v10 v11 v12))) (fun v37 v38 v39 v40 v41 v42 v43 v44 v45 v46 v47 => some (v38, v39, v40, v37, ())) l hl hr 0 0 [] 0 0 0 [] N 0 0 (Nat.zero_le _) (by omega) (by omega) (by omega)
    rw [List.drop_zero, Int.zero_add] at this
    refine Eq.trans this ?_
    by_cases h0 : l.length = 0
    · have : l = [] := List.length_eq_zero_iff.1 h0
      subst this
      rw [if_f (by decide)]
      rfl
    · rw [if_neg h0, if_t rfl, show eval_wide_times N 0 0 10000 = some (Wh 0, Wl 0, ()) from rfl, bind_some']
      dsimp only
      have b : ∀ l : List Int, AllR l → -(l.length : Int) * 9223372036854775808 ≤ sumL l ∧ sumL l ≤ l.length * 9223372036854775808 := by
        intro l
        induction l with
        | nil => intro _; simp [sumL]
        | cons x r ih =>
          intro h
          obtain ⟨i1, i2⟩ := ih fun y hy => h y (by simp [hy])
          obtain ⟨g1, g2⟩ := h x (by simp)
          simp only [lo, hi] at g1 g2
          simp only [sumL, List.length_cons]
          omega
      obtain ⟨b1, b2⟩ := b l hr
      rw [plus_eq N (by omega) (by omega) (by omega) (by omega) (by omega) (by omega), bind_some', Int.zero_add]
      dsimp only
      have := j1_sum N (sumL l) 3 (Wh (sumL l)) (Wl (sumL l))
      refine Eq.trans this ?_
      unfold sumR
      rw [if_neg h0]

/-! ### Counts, least and greatest ones -/

def cmpI (n m : Int) : Int := if n < m then -1 else if m < n then 1 else 0

theorem cmp_eq (N : Nat) (n m : Int) : cmp_Compare_int64 N n m = some (cmpI n m, ()) := by
  unfold cmp_Compare_int64 cmp_Compare_int64_cps cmp_isNaN_int64 cmp_isNaN_int64_cps cmpI
  rw [bind_some', bind_some']
  dsimp only
  rw [dec_t rfl, dec_t rfl, Bool.not_true, cf, cf]
  by_cases h1 : n < m
  · rw [if_t h1, if_pos h1]
  · rw [if_f h1, if_neg h1]
    by_cases h2 : m < n
    · rw [if_t h2, if_pos h2]
    · rw [if_f h2, if_neg h2]

theorem sign_eq (N : Nat) {k : Int} (hk : IsK k) (n m : Int) : number_Sign N k n [] k m [] = some (cmpI n m, .nil, ()) := by
  have ho : number_order N k n [] k m [] = some (cmpI n m, ()) := by
    unfold number_order number_order_o number_order_o_cps
    rw [if_t rfl, cmp_eq]; rfl
  have hn : number_numeric N k n [] = some (true, ()) := by rcases hk with rfl | rfl <;> rfl
  have h0 : ¬ k = 0 := by rcases hk with rfl | rfl <;> decide
  unfold number_Sign number_Sign_cps number_Sign_j0
  rw [right_num N hk, bind_some']
  dsimp only
  rw [cnt, dec_f h0, cf, right_num N hk, bind_some']
  dsimp only
  rw [cnt, cf, dec_t rfl, Bool.not_true, cf, hn, bind_some']
  dsimp only
  rw [ct, ho]; rfl

def pick (sg b x : Int) : Int := if cmpI x b = sg then x else b

theorem fold_l1 (N : Nat) {R : Type} (k0 : Int → Int → Int → Int → List UInt8 → Int → Int → List UInt8 → Option R) (k1 : Int → Err → Int → Int → Int → List UInt8 → Int → Int → List UInt8 → Option R) (op sg : Int) {k : Int} (hk : IsK k) (l : List Int) (hl : l.length ≤ 1000) (x y : Int) (z : List UInt8) (hop : op ≠ 18) :
    ∀ (m i : Nat) (b : Int), 1 ≤ i → i ≤ l.length → l.length - i < m → eval_Fold_l1 N R k0 k1 m op sg (i : Int) (vs k l) (l.length : Int) (i : Int) x y z k b [] = k0 op (l.length : Int) x y z k ((l.drop i).foldl (pick sg) b) [] := by
  intro m
  induction m with
  | zero => intro i _ _ _ hm; exact absurd hm (Nat.not_lt_zero _)
  | succ m ih =>
    intro i b h1 hle hm
    show eval_Fold_l1B N R (eval_Fold_l1 N R k0 k1 m) k0 k1 op sg (i : Int) (vs k l) (l.length : Int) (i : Int) x y z k b [] = _
    unfold eval_Fold_l1B
    by_cases h : i < l.length
    · have h0 : ¬ k = 0 := by rcases hk with rfl | rfl <;> decide
      rw [if_t (by omega), vs_nth h, bind_some']
      dsimp only
      rw [right_num N hk, bind_some']
      dsimp only
      rw [cnt, if_f h0, wrap_succ h (by omega), if_f (by omega), if_f hop]
      unfold eval_Fold_j2
      rw [sign_eq N hk, bind_some']
      dsimp only
      rw [show (!Err.nil.isNil) = false from rfl, cf, List.drop_eq_getElem_cons h, List.foldl_cons]
      by_cases hc : cmpI l[i] b = sg
      · rw [if_t hc, wrap_succ h (by omega), show pick sg b l[i] = l[i] from if_pos hc]
        exact ih (i + 1) l[i] (by omega) h (by omega)
      · rw [if_f hc, wrap_succ h (by omega), show pick sg b l[i] = b from if_neg hc]
        exact ih (i + 1) b (by omega) h (by omega)
    · rw [if_f (by omega)]
      have e : i = l.length := by omega
      subst e
      simp

theorem count_l1 (N : Nat) {R : Type} (k0 : Int → Int → Int → Int → List UInt8 → Int → Int → List UInt8 → Option R) (k1 : Int → Err → Int → Int → Int → List UInt8 → Int → Int → List UInt8 → Option R) (sg : Int) {k : Int} (hk : IsK k) (l : List Int) (hl : l.length ≤ 1000) (x y : Int) (z : List UInt8) (r : Option R)
    (h0 : ∀ b1 b2 b3, k0 18 (l.length : Int) x y z b1 b2 b3 = r) :
    ∀ (m i : Nat) (b1 b2 : Int) (b3 : List UInt8), i ≤ l.length → l.length - i < m → eval_Fold_l1 N R k0 k1 m 18 sg (i : Int) (vs k l) (l.length : Int) (i : Int) x y z b1 b2 b3 = r := by
  intro m
  induction m with
  | zero => intro i _ _ _ _ hm; exact absurd hm (Nat.not_lt_zero _)
  | succ m ih =>
    intro i b1 b2 b3 hle hm
    show eval_Fold_l1B N R (eval_Fold_l1 N R k0 k1 m) k0 k1 18 sg (i : Int) (vs k l) (l.length : Int) (i : Int) x y z b1 b2 b3 = _
    unfold eval_Fold_l1B
    by_cases h : i < l.length
    · have hk0 : ¬ k = 0 := by rcases hk with rfl | rfl <;> decide
      rw [if_t (by omega), vs_nth h, bind_some']
      dsimp only
      rw [right_num N hk, bind_some']
      dsimp only
      rw [cnt, if_f hk0, wrap_succ h (by omega)]
      by_cases h1 : i = 0
      · subst h1; rw [if_t rfl]; exact ih 1 _ _ _ h (by omega)
      · rw [if_f (by omega), if_t rfl]; exact ih (i + 1) _ _ _ h (by omega)
    · rw [if_f (by omega)]
      have e : i = l.length := by omega
      subst e
      exact h0 _ _ _

def foldR (op sg k : Int) : List Int → Int × Int × List UInt8 × Err × Unit
  | [] => (0, 0, [], .nil, ())
  | a :: r => (k, r.foldl (pick sg) a, [], .nil, ())

theorem fold_j0 (N : Nat) (hN : 2000 ≤ N) (op sg : Int) (hop : op ≠ 18) {k : Int} (hk : IsK k) {l : List Int} (hl : l.length ≤ 1000) :
    eval_Fold_j0 N (Int × Int × List UInt8 × Err × Unit) (fun v4 v5 v6 v7 => some (v5, v6, v7, v4, ())) op (vs k l) sg 0 0 [] = some (foldR op sg k l) := by
  unfold eval_Fold_j0
  rw [vs_len]
  obtain ⟨f, rfl⟩ : ∃ f, N = f + 1 := ⟨N - 1, by omega⟩
  cases l with
  | nil =>
    show eval_Fold_l1B _ _ _ _ _ op sg 0 (vs k []) 0 0 0 0 [] 0 0 [] = _
    unfold eval_Fold_l1B
    rw [if_f (by decide)]
    show (bif decide (op = 18) then _ else _) = _
    rw [if_f hop]
    rfl
  | cons a r =>
    show eval_Fold_l1B (f + 1) _ (eval_Fold_l1 (f + 1) _ _ _ f) _ _ op sg 0 (vs k (a :: r)) ((a :: r).length : Int) ((0 : Nat) : Int) 0 0 [] 0 0 [] = _
    unfold eval_Fold_l1B
    have hk0 : ¬ k = 0 := by rcases hk with rfl | rfl <;> decide
    rw [if_t (by simp only [List.length_cons]; omega), vs_nth (l := a :: r) (i := 0) (by simp), bind_some']
    dsimp only
    rw [right_num _ hk, bind_some']
    dsimp only
    rw [cnt, if_f hk0, if_t (by decide)]
    have := fold_l1 (f + 1) (R := Int × Int × List UInt8 × Err × Unit) (fun v23 v24 v25 v26 v27 v28 v29 v30 => (bif (decide (v23 = 18)) then some (2, v24, [], Err.nil, ()) else some (v28, v29, v30, Err.nil, ()))) (fun v31 v32 v33 v34 v35 v36 v37 v38 v39 => some (v34, v35, v36, v32, ())) op sg hk (a :: r) hl 0 0 [] hop f 1 a (by omega) (by simp) (by simp only [List.length_cons] at hl ⊢; omega)
    refine Eq.trans this ?_
    rw [if_f hop]; rfl

theorem count_j0 (N : Nat) (hN : 2000 ≤ N) {k : Int} (hk : IsK k) {l : List Int} (hl : l.length ≤ 1000) :
    eval_Fold_j0 N (Int × Int × List UInt8 × Err × Unit) (fun v4 v5 v6 v7 => some (v5, v6, v7, v4, ())) 18 (vs k l) 1 0 0 [] = some (2, (l.length : Int), [], .nil, ()) := by
  unfold eval_Fold_j0
  rw [vs_len]
  exact count_l1 N _ _ 1 hk l hl 0 0 [] _ (fun _ _ _ => rfl) N 0 0 0 [] (Nat.zero_le _) (by omega)

/-- What a fold comes to. -/
def foldS (op k : Int) (l : List Int) : Int × Int × List UInt8 × Err × Unit :=
  if op = 19 then sumR k l else if op = 20 then foldR 20 (-1) k l else if op = 21 then foldR 21 1 k l else (2, (l.length : Int), [], .nil, ())

theorem fold_eq (N : Nat) (hN : 2000 ≤ N) {op : Int} (ho : op = 18 ∨ op = 19 ∨ op = 20 ∨ op = 21) {k : Int} (hk : IsK k) {l : List Int} (hl : l.length ≤ 1000) (hr : AllR l) : eval_Fold N op (vs k l) = some (foldS op k l) := by
  unfold eval_Fold eval_Fold_cps
  rcases ho with rfl | rfl | rfl | rfl
  · rw [if_f (by decide), if_f (by decide), if_f (by decide), if_t rfl]
    exact count_j0 N hN hk hl
  · rw [if_t rfl, sum_eq N hN hk hl hr]; rfl
  · rw [if_f (by decide), if_t rfl]
    exact fold_j0 N hN 20 (-1) (by decide) hk hl
  · rw [if_f (by decide), if_f (by decide), if_t rfl]
    exact fold_j0 N hN 21 1 (by decide) hk hl

/-! ### The order does not matter -/

def Best (sg : Int) (l : List Int) (m : Int) : Prop := m ∈ l ∧ ∀ x ∈ l, ¬ cmpI x m = sg

theorem best_fold (sg : Int) (hs : sg = -1 ∨ sg = 1) : ∀ (r : List Int) (a : Int), Best sg (a :: r) (r.foldl (pick sg) a)
  | [], a => ⟨by simp, fun x hx => by simp at hx; subst hx; unfold cmpI; rcases hs with rfl | rfl <;> simp⟩
  | y :: r, a => by
    obtain ⟨h1, h2⟩ := best_fold sg hs r (pick sg a y)
    simp only [List.foldl_cons]
    have hp : pick sg a y = a ∧ ¬ cmpI y a = sg ∨ pick sg a y = y ∧ cmpI y a = sg := by
      unfold pick; split
      · right; exact ⟨rfl, by assumption⟩
      · left; exact ⟨rfl, by assumption⟩
    refine ⟨?_, fun x hx => ?_⟩
    · simp only [List.mem_cons] at h1 ⊢
      rcases h1 with h1 | h1
      · rcases hp with ⟨e, _⟩ | ⟨e, _⟩
        · rw [e] at h1 ⊢; exact .inl h1
        · rw [e] at h1 ⊢; exact .inr (.inl h1)
      · exact .inr (.inr h1)
    · have hb := h2 (pick sg a y) (by simp)
      generalize r.foldl (pick sg) (pick sg a y) = m at h1 h2 hb ⊢
      simp only [List.mem_cons] at hx
      rcases hx with rfl | rfl | hx
      · rcases hp with ⟨e, h⟩ | ⟨e, h⟩
        · rw [e] at hb; exact hb
        · rw [e] at hb; unfold cmpI at *; rcases hs with rfl | rfl <;> (repeat' split at *) <;> omega
      · rcases hp with ⟨e, h⟩ | ⟨e, h⟩
        · rw [e] at hb; unfold cmpI at *; rcases hs with rfl | rfl <;> (repeat' split at *) <;> omega
        · rw [e] at hb; exact hb
      · exact h2 x (by simp [hx])

theorem best_one {sg : Int} (hs : sg = -1 ∨ sg = 1) {l l' : List Int} {m m' : Int} (h : Best sg l m) (h' : Best sg l' m') (hm : ∀ x, x ∈ l ↔ x ∈ l') : m = m' := by
  have a := h.2 m' ((hm m').2 h'.1)
  have b := h'.2 m ((hm m).1 h.1)
  unfold cmpI at a b
  rcases hs with rfl | rfl <;> (repeat' split at a b) <;> omega

theorem vs_take (k : Int) (l : List Int) (j : Nat) : List.drop 0 (List.take (Int.toNat (j : Int)) (vs k l)) = vs k (l.take j) := by simp [vs, List.map_take]
theorem vs_drop (k : Int) (l : List Int) (j : Nat) : List.drop (Int.toNat (j : Int)) (List.take (vs k l).length (vs k l)) = vs k (l.drop j) := by rw [List.take_length, Int.toNat_natCast]; simp [vs, List.map_drop]

theorem AllR.take {l : List Int} (h : AllR l) (j : Nat) : AllR (l.take j) := fun x hx => h x (List.mem_of_mem_take hx)
theorem AllR.drop {l : List Int} (h : AllR l) (j : Nat) : AllR (l.drop j) := fun x hx => h x (List.mem_of_mem_drop hx)
theorem AllR.reverse {l : List Int} (h : AllR l) : AllR l.reverse := fun x hx => h x (List.mem_reverse.1 hx)

theorem split_sum (l : List Int) (j : Nat) : sumL (l.take j) + sumL (l.drop j) = sumL l := by rw [← sumL_append, List.take_append_drop]

theorem foldR_best {op sg k : Int} (hs : sg = -1 ∨ sg = 1) {l : List Int} (hl : l ≠ []) : ∃ m, foldR op sg k l = (k, m, [], .nil, ()) ∧ Best sg l m := by
  cases l with
  | nil => exact absurd rfl hl
  | cons a r => exact ⟨_, rfl, best_fold sg hs r a⟩

theorem foldR_reverse {op sg k : Int} (hs : sg = -1 ∨ sg = 1) (l : List Int) : foldR op sg k l.reverse = foldR op sg k l := by
  by_cases hl : l = []
  · subst hl; rfl
  · obtain ⟨m, e, b⟩ := foldR_best (op := op) (k := k) hs hl
    obtain ⟨m', e', b'⟩ := foldR_best (op := op) (k := k) hs (l := l.reverse) (by simpa using hl)
    rw [e, e', best_one hs b' b (fun x => List.mem_reverse)]

theorem foldS_reverse (op k : Int) (l : List Int) : foldS op k l.reverse = foldS op k l := by
  unfold foldS sumR
  rw [sumL_reverse, List.length_reverse, foldR_reverse (.inl rfl), foldR_reverse (.inr rfl)]

abbrev Qt := Int × Int × List UInt8 × Err × Unit

theorem same_q (t : Qt) : (!((decide (t.1 = t.1)) && ((decide (t.2.1 = t.2.1)) && (decide (t.2.2.1 = t.2.2.1))))) = false := by simp

theorem code_ok (N : Nat) {op k : Int} {l : List Int} : ∃ c, fault_Code N (foldS op k l).2.2.2.1 = some (c, ()) := by
  unfold foldS sumR foldR
  repeat' split
  all_goals exact ⟨_, rfl⟩

section
variable (N : Nat)

theorem order_j5 {R : Type} (k0 : List Int → Int → List Vl → List Vl → Int → Int → Int → List UInt8 → Int → Int → List UInt8 → Int → Int → List UInt8 → Int → Int → List UInt8 → Option R) (k1 : List Int → Int → Bool → List Vl → List Vl → Int → Int → Int → List UInt8 → Int → Int → List UInt8 → Int → Int → List UInt8 → Int → Int → List UInt8 → Option R)
    (l : List Int) (at_ : Int) (A B : List Vl) {op : Int} (h : op ≠ 19) (e g h' : Err) (x y p q : Int × Int × List UInt8) :
    law20_EvalOrder_j5 N R k0 k1 l at_ A B op e g h' x.1 x.2.1 x.2.2 y.1 y.2.1 y.2.2 p.1 p.2.1 p.2.2 q.1 q.2.1 q.2.2 = k0 l at_ A B op x.1 x.2.1 x.2.2 y.1 y.2.1 y.2.2 p.1 p.2.1 p.2.2 q.1 q.2.1 q.2.2 := by
  unfold law20_EvalOrder_j5
  rw [if_f h]
  rfl

theorem order_step (hN : 2000 ≤ N) {R : Type} (k0 : Option R) (k1 : Bool → Option R) {k : Int} (hk : IsK k) {l : List Int} (hl : l.length ≤ 300) (hr : AllR l) (j m : Nat) (hj : j ≤ l.length) {op : Int} (ho : op = 18 ∨ op = 19 ∨ op = 20 ∨ op = 21) :
    law20_EvalOrder_l3 N R k0 k1 (m + 1) l (j : Int) (vs k l) (vs k l.reverse) op = law20_EvalOrder_l3 N R k0 k1 m l (j : Int) (vs k l) (vs k l.reverse) (op + 1) := by
  show law20_EvalOrder_l3B N R (law20_EvalOrder_l3 N R k0 k1 m) k0 k1 l (j : Int) (vs k l) (vs k l.reverse) op = _
  unfold law20_EvalOrder_l3B
  have hw : IntKind.wrap .i64 (op + 1) = op + 1 := wrap_i64_id (by omega) (by omega)
  rw [if_t (by omega), fold_eq N hN ho hk (by omega) hr, bind_some', fold_eq N hN ho hk (by simp; omega) hr.reverse, bind_some', if_t (by rw [vs_len]; omega), vs_take,
    fold_eq N hN ho hk (by simp; omega) (hr.take j), bind_some', if_t (by rw [vs_len]; omega), vs_drop, fold_eq N hN ho hk (by simp; omega) (hr.drop j), bind_some', foldS_reverse, same_q, cf]
  obtain ⟨c, hc⟩ := code_ok N (op := op) (k := k) (l := l)
  rw [hc, bind_some', bind_some']
  dsimp only
  rw [dec_t rfl, Bool.not_true, cf]
  have hk0 : ¬ k = 0 := by rcases hk with rfl | rfl <;> decide
  by_cases h19 : op = 19
  · subst h19
    rw [dec_t rfl, Bool.not_true, cf]
    unfold law20_EvalOrder_j4
    rw [if_f (by decide), if_f (by decide)]
    unfold law20_EvalOrder_j5 law20_EvalOrder_j6
    rw [if_t rfl]
    have s1 : foldS 19 k l = sumR k l := rfl
    have s2 : foldS 19 k (l.take j) = sumR k (l.take j) := rfl
    have s3 : foldS 19 k (l.drop j) = sumR k (l.drop j) := rfl
    rw [s1, s2, s3]
    rw [s1] at hc
    by_cases ip : InR .i64 (sumL (l.take j))
    · have e2 : sumR k (l.take j) = ((if (l.take j).length = 0 then 0 else k), sumL (l.take j), [], .nil, ()) := if_pos ip
      by_cases iq : InR .i64 (sumL (l.drop j))
      · have e3 : sumR k (l.drop j) = ((if (l.drop j).length = 0 then 0 else k), sumL (l.drop j), [], .nil, ()) := if_pos iq
        rw [e2, e3]
        dsimp only
        rw [show Err.nil.isNil = true from rfl, ct, ct]
        by_cases np : (l.take j).length = 0
        · rw [if_pos np, dec_t rfl, Bool.not_true, cf, cf, hw]
        · rw [if_neg np, dec_f hk0, Bool.not_false, ct]
          by_cases nq : (l.drop j).length = 0
          · rw [if_pos nq, dec_t rfl, Bool.not_true, cf, hw]
          · rw [if_neg nq, dec_f hk0, Bool.not_false, ct]
            have e4 := fold_eq N hN (op := 19) (.inr (.inl rfl)) hk (l := [sumL (l.take j), sumL (l.drop j)]) (by simp) (fun x hx => by simp at hx; rcases hx with rfl | rfl <;> assumption)
            have e5 : foldS 19 k [sumL (l.take j), sumL (l.drop j)] = sumR k l := by
              show sumR k _ = _
              have nl : ¬ l.length = 0 := by simp only [List.length_take] at np; omega
              unfold sumR
              rw [show sumL [sumL (l.take j), sumL (l.drop j)] = sumL l by rw [← split_sum l j]; simp [sumL], if_neg nl]
              rfl
            rw [e5] at e4
            rw [show ([(k, (sumL (l.take j), ([], ()))), (k, (sumL (l.drop j), ([], ())))] : List Vl) = vs k [sumL (l.take j), sumL (l.drop j)] from rfl, e4, bind_some', same_q, cf, hc, bind_some', bind_some']
            dsimp only
            rw [dec_t rfl, Bool.not_true, cf, hw]
      · have e3 : sumR k (l.drop j) = (0, 0, [], .fault 31 (-1) .nil, ()) := if_neg iq
        rw [e2, e3]
        rfl
    · have e2 : sumR k (l.take j) = (0, 0, [], .fault 31 (-1) .nil, ()) := if_neg ip
      rw [e2]
      rfl
  · rw [dec_f h19, Bool.not_false, ct]
    have nil : ∀ l, (foldS op k l).2.2.2.1 = .nil := by
      intro l
      unfold foldS foldR
      rw [if_neg h19]
      repeat' split
      all_goals rfl
    rw [nil l, nil (l.take j), nil (l.drop j), show (!Err.nil.isNil) = false from rfl, cf, cf, cf]
    unfold law20_EvalOrder_j4
    have j5 : ∀ (x y p q : Int × Int × List UInt8), law20_EvalOrder_j5 N R (fun v41 v42 v43 v44 v45 v46 v47 v48 v49 v50 v51 v52 v53 v54 v55 v56 v57 => law20_EvalOrder_l3 N R k0 k1 m v41 v42 v43 v44 (IntKind.wrap .i64 (v45 + 1))) (fun v58 v59 v60 v61 v62 v63 v64 v65 v66 v67 v68 v69 v70 v71 v72 v73 v74 v75 => k1 v60) l (j : Int) (vs k l) (vs k l.reverse) op .nil .nil .nil x.1 x.2.1 x.2.2 y.1 y.2.1 y.2.2 p.1 p.2.1 p.2.2 q.1 q.2.1 q.2.2 = law20_EvalOrder_l3 N R k0 k1 m l (j : Int) (vs k l) (vs k l.reverse) (op + 1) := by
      intro x y p q
      rw [order_j5 N _ _ l _ _ _ h19, hw]
    by_cases h18 : op = 18
    · subst h18
      have f18 : ∀ l, foldS 18 k l = (2, (l.length : Int), [], .nil, ()) := fun _ => rfl
      rw [f18, f18, f18, if_t rfl]
      dsimp only
      rw [dec_t (show IntKind.wrap .i64 (((l.take j).length : Int) + ((l.drop j).length : Int)) = (l.length : Int) by rw [List.length_take, List.length_drop, wrap_i64_id (by omega) (by omega)]; omega), Bool.not_true, cf, if_f (by decide)]
      exact j5 (2, (l.length : Int), []) (2, (l.length : Int), []) (2, ((l.take j).length : Int), []) (2, ((l.drop j).length : Int), [])
    · rw [if_f h18]
      by_cases h20 : op = 20
      · subst h20
        rw [if_t rfl]
        by_cases hn : 0 < (l.length : Int)
        · rw [if_t hn]
          have nl : l ≠ [] := fun e => by subst e; simp at hn
          have f20 : ∀ l, foldS 20 k l = foldR 20 (-1) k l := fun _ => rfl
          rw [f20, f20, f20]
          obtain ⟨m1, e1, b1⟩ := foldR_best (op := 20) (k := k) (.inl rfl) nl
          have key : foldR 20 (-1) k l = foldR 20 (-1) k (l.take j) ∨ foldR 20 (-1) k l = foldR 20 (-1) k (l.drop j) := by
            have hm : m1 ∈ l.take j ∨ m1 ∈ l.drop j := by rw [← List.mem_append, List.take_append_drop]; exact b1.1
            rcases hm with hm | hm
            · left
              obtain ⟨m2, e2, b2⟩ := foldR_best (op := 20) (k := k) (.inl rfl) (l := l.take j) (fun e => by rw [e] at hm; cases hm)
              rw [e1, e2]
              have a := b1.2 m2 (List.mem_of_mem_take b2.1)
              have b := b2.2 m1 hm
              have : m1 = m2 := by unfold cmpI at a b; (repeat' split at a b) <;> omega
              rw [this]
            · right
              obtain ⟨m2, e2, b2⟩ := foldR_best (op := 20) (k := k) (.inl rfl) (l := l.drop j) (fun e => by rw [e] at hm; cases hm)
              rw [e1, e2]
              have a := b1.2 m2 (List.mem_of_mem_drop b2.1)
              have b := b2.2 m1 hm
              have : m1 = m2 := by unfold cmpI at a b; (repeat' split at a b) <;> omega
              rw [this]
          rcases key with key | key
          · rw [← key, same_q, cf]
            exact j5 ((foldR 20 (-1) k l).1, (foldR 20 (-1) k l).2.1, (foldR 20 (-1) k l).2.2.1) ((foldR 20 (-1) k l).1, (foldR 20 (-1) k l).2.1, (foldR 20 (-1) k l).2.2.1) ((foldR 20 (-1) k l).1, (foldR 20 (-1) k l).2.1, (foldR 20 (-1) k l).2.2.1) ((foldR 20 (-1) k (l.drop j)).1, (foldR 20 (-1) k (l.drop j)).2.1, (foldR 20 (-1) k (l.drop j)).2.2.1)
          · rw [← key, same_q, cf]
            generalize foldR 20 (-1) k (l.take j) = p
            generalize foldR 20 (-1) k l = x
            cases (!((decide (x.1 = p.1)) && ((decide (x.2.1 = p.2.1)) && (decide (x.2.2.1 = p.2.2.1)))))
            · rw [cf]; exact j5 (x.1, x.2.1, x.2.2.1) (x.1, x.2.1, x.2.2.1) (p.1, p.2.1, p.2.2.1) (x.1, x.2.1, x.2.2.1)
            · rw [ct]; exact j5 (x.1, x.2.1, x.2.2.1) (x.1, x.2.1, x.2.2.1) (p.1, p.2.1, p.2.2.1) (x.1, x.2.1, x.2.2.1)
        · rw [if_f hn]
          exact j5 ((foldS 20 k l).1, (foldS 20 k l).2.1, (foldS 20 k l).2.2.1) ((foldS 20 k l).1, (foldS 20 k l).2.1, (foldS 20 k l).2.2.1) ((foldS 20 k (l.take j)).1, (foldS 20 k (l.take j)).2.1, (foldS 20 k (l.take j)).2.2.1) ((foldS 20 k (l.drop j)).1, (foldS 20 k (l.drop j)).2.1, (foldS 20 k (l.drop j)).2.2.1)
      · rw [if_f h20]
        exact j5 ((foldS op k l).1, (foldS op k l).2.1, (foldS op k l).2.2.1) ((foldS op k l).1, (foldS op k l).2.1, (foldS op k l).2.2.1) ((foldS op k (l.take j)).1, (foldS op k (l.take j)).2.1, (foldS op k (l.take j)).2.2.1) ((foldS op k (l.drop j)).1, (foldS op k (l.drop j)).2.1, (foldS op k (l.drop j)).2.2.1)

theorem order_l1 {R : Type} (k0 : List Int → Int → List Vl → List Vl → Option R) (l : List Int) (hl : l.length ≤ 300) (a k : Int) : ∀ (m i : Nat), i ≤ l.length → l.length - i < m →
    law20_EvalOrder_l1 N R k0 m l a k (vs k (l.take i)) (vs k (l.reverse.take i)) (i : Int) = k0 l a (vs k l) (vs k l.reverse) := by
  intro m
  induction m with
  | zero => intro i _ hm; exact absurd hm (Nat.not_lt_zero _)
  | succ m ih =>
    intro i hle hm
    show law20_EvalOrder_l1B N R (law20_EvalOrder_l1 N R k0 m) k0 l a k (vs k (l.take i)) (vs k (l.reverse.take i)) (i : Int) = _
    unfold law20_EvalOrder_l1B
    by_cases h : i < l.length
    · have hlr : i < l.reverse.length := by simpa using h
      have e1 : IntKind.wrap .i64 (IntKind.wrap .i64 ((l.length : Int) - 1) - (i : Int)) = ((l.length - 1 - i : Nat) : Int) := by
        rw [wrap_i64_id (x := (l.length : Int) - 1) (by omega) (by omega), wrap_i64_id (by omega) (by omega)]; omega
      rw [if_t (by omega), nth_lt h, bind_some', cond_t (room_of (by simp [vs_len]; omega)), e1, nth_lt (by omega), bind_some', cond_t (room_of (by simp [vs_len]; omega)), wrap_succ h (by omega)]
      have e2 : vs k (l.take i) ++ [(k, l[i], [], ())] = vs k (l.take (i + 1)) := by
        rw [List.take_succ_eq_append_getElem h]; simp only [vs, List.map_append, List.map_cons, List.map_nil]
      have e3 : vs k (l.reverse.take i) ++ [(k, l[l.length - 1 - i], [], ())] = vs k (l.reverse.take (i + 1)) := by
        rw [List.take_succ_eq_append_getElem hlr]; simp [vs]
      rw [e2, e3]
      exact ih (i + 1) h (by omega)
    · rw [if_f (by omega)]
      have e : i = l.length := by omega
      subst e
      rw [List.take_length, List.take_of_length_le (by simp)]

theorem order_l3 (hN : 2000 ≤ N) {R : Type} (k0 : Option R) (k1 : Bool → Option R) {k : Int} (hk : IsK k) {l : List Int} (hl : l.length ≤ 300) (hr : AllR l) (j : Nat) (hj : j ≤ l.length) :
    law20_EvalOrder_l3 N R k0 k1 N l (j : Int) (vs k l) (vs k l.reverse) 18 = k0 := by
  have key : ∀ m f : Nat, m = f + 5 → law20_EvalOrder_l3 N R k0 k1 m l (j : Int) (vs k l) (vs k l.reverse) 18 = k0 := by
    intro m f hm
    subst hm
    rw [order_step N hN k0 k1 hk hl hr j (f + 4) hj (.inl rfl)]
    show law20_EvalOrder_l3 N R k0 k1 (f + 3 + 1) l (j : Int) (vs k l) (vs k l.reverse) 19 = k0
    rw [order_step N hN k0 k1 hk hl hr j (f + 3) hj (.inr (.inl rfl))]
    show law20_EvalOrder_l3 N R k0 k1 (f + 2 + 1) l (j : Int) (vs k l) (vs k l.reverse) 20 = k0
    rw [order_step N hN k0 k1 hk hl hr j (f + 2) hj (.inr (.inr (.inl rfl)))]
    show law20_EvalOrder_l3 N R k0 k1 (f + 1 + 1) l (j : Int) (vs k l) (vs k l.reverse) 21 = k0
    rw [order_step N hN k0 k1 hk hl hr j (f + 1) hj (.inr (.inr (.inr rfl)))]
    show law20_EvalOrder_l3B N R (law20_EvalOrder_l3 N R k0 k1 f) k0 k1 l (j : Int) (vs k l) (vs k l.reverse) 22 = k0
    unfold law20_EvalOrder_l3B
    rw [if_f (by decide)]
  exact key N (N - 5) (by omega)

end

theorem order_j0 {k : Int} (hk : IsK k) {l : List Int} (hl : l.length ≤ 300) (hr : AllR l) {a : Int} (ha : InR .i64 a) :
    law20_EvalOrder_j0 big (Bool × Unit) (fun v => some (v, ())) l a k = some (true, ()) := by
  have hN : 2000 ≤ big := by rw [big_eq]; decide
  obtain ⟨g1, g2⟩ := ha
  simp only [Ev.lo, Ev.hi] at g1 g2
  unfold law20_EvalOrder_j0
  have := order_l1 big (fun v10 v11 v12 v13 => (bif (decide (v11 < 0)) then (law20_EvalOrder_j2 big (Bool × Unit) (fun v14 => some (v14, ())) v10 (IntKind.wrap .i64 (0 - (IntKind.wrap .i64 (v11 + 1)))) v12 v13) else (law20_EvalOrder_j2 big (Bool × Unit) (fun v15 => some (v15, ())) v10 v11 v12 v13))) l hl a k big 0 (Nat.zero_le _) (by omega)
  refine Eq.trans this ?_
  have j2 : ∀ b : Int, 0 ≤ b → law20_EvalOrder_j2 big (Bool × Unit) (fun v => some (v, ())) l b (vs k l) (vs k l.reverse) = some (true, ()) := by
    intro b hb
    unfold law20_EvalOrder_j2
    have hw : IntKind.wrap .i64 ((l.length : Int) + 1) = (l.length : Int) + 1 := wrap_i64_id (by omega) (by omega)
    rw [hw, if_f (by omega), Int.tmod_eq_emod_of_nonneg hb]
    have h1 : 0 ≤ b % ((l.length : Int) + 1) := Int.emod_nonneg _ (by omega)
    have h2 : b % ((l.length : Int) + 1) < (l.length : Int) + 1 := Int.emod_lt_of_pos _ (by omega)
    obtain ⟨j, hj⟩ := Int.eq_ofNat_of_zero_le h1
    rw [hj, order_l3 big hN _ _ hk hl hr j (by omega), alive20]
    rfl
  by_cases h : a < 0
  · rw [if_t h, wrap_i64_id (x := a + 1) (by omega) (by omega), wrap_i64_id (by omega) (by omega)]
    exact j2 _ (by omega)
  · rw [if_f h]; exact j2 _ (by omega)

theorem EvalOrder_all {l : List Int} (hr : AllR l) (dec : Bool) {a : Int} (ha : InR .i64 a) : law20_EvalOrder big l dec a = some (true, ()) := by
  unfold law20_EvalOrder law20_EvalOrder_cps
  by_cases h : 300 < (l.length : Int)
  · rw [if_t h, alive20]; rfl
  · rw [if_f h]
    cases dec
    · rw [cf]; exact order_j0 (.inl rfl) (by omega) hr ha
    · rw [ct]; exact order_j0 (.inr rfl) (by omega) hr ha

theorem EvalOrder_pure : EvalOrder_Pure := fun x h => EvalOrder_all (fun y hy => h.1.2 y hy) _ h.2.2.1

end Go.Proofs.YtiloinbeojampaaGreatDoor.E
