/-
  Plain laws of the pure functions.
  Conditions: those that each statement prints, and no other.
-/
import Derived.Test.YtiloinbeojampaaGreatDoorGEVF
import Derived.Test.YtiloinbeojampaaGreatDoorEvA
import Derived.KernelRfl
set_option linter.unusedVariables false
set_option linter.unusedSimpArgs false
/-! Numbers and truths: the program's functions come to something. -/
namespace Go.Proofs.YtiloinbeojampaaGreatDoor.E
open Go.Ev
set_option maxRecDepth 100000

abbrev Qv := Int × Int × List UInt8 × Err × Unit

/-- It comes to something. -/
def Sm {α : Type} (o : Option α) : Prop := ∃ r, o = some r
/-- It comes to something, with a fault or none. -/
def TE (o : Option Qv) : Prop := ∃ r, o = some r ∧ errOk r.2.2.2.1 = true
def TF1 (o : Option (Err × Unit)) : Prop := ∃ r, o = some r ∧ errOk r.1 = true
def TF2 (o : Option (Int × Err × Unit)) : Prop := ∃ r, o = some r ∧ errOk r.2.1 = true

theorem Sm.some {α : Type} (r : α) : Sm (some r) := ⟨r, rfl⟩
theorem Sm.cond {α : Type} {c : Bool} {a b : Option α} (h1 : Sm a) (h2 : Sm b) : Sm (bif c then a else b) := by cases c <;> assumption
theorem Sm.bind {α β : Type} {o : Option α} {f : α → Option β} (h : Sm o) (hf : ∀ r, Sm (f r)) : Sm (o.bind f) := by obtain ⟨r, rfl⟩ := h; exact hf r

theorem TE.cond {c : Bool} {a b : Option Qv} (h1 : TE a) (h2 : TE b) : TE (bif c then a else b) := by cases c <;> assumption
theorem TE.bind {α : Type} {o : Option α} {f : α → Option Qv} (h : Sm o) (hf : ∀ r, TE (f r)) : TE (o.bind f) := by obtain ⟨r, rfl⟩ := h; exact hf r
theorem TE.bind1 {o : Option (Err × Unit)} {f : Err × Unit → Option Qv} (h : TF1 o) (hf : ∀ e, errOk e = true → TE (f (e, ()))) : TE (o.bind f) := by
  obtain ⟨⟨e, u⟩, rfl, he⟩ := h; exact hf e he
theorem TE.bind2 {o : Option (Int × Err × Unit)} {f : Int × Err × Unit → Option Qv} (h : TF2 o) (hf : ∀ n e, errOk e = true → TE (f (n, e, ()))) : TE (o.bind f) := by
  obtain ⟨⟨n, e, u⟩, rfl, he⟩ := h; exact hf n e he
theorem TE.some (k n : Int) (s : List UInt8) {e : Err} (h : errOk e = true) : TE (some (k, n, s, e, ())) := ⟨_, rfl, h⟩
theorem TF1.cond {c : Bool} {a b : Option (Err × Unit)} (h1 : TF1 a) (h2 : TF1 b) : TF1 (bif c then a else b) := by cases c <;> assumption
theorem TF1.bind {α : Type} {o : Option α} {f : α → Option (Err × Unit)} (h : Sm o) (hf : ∀ r, TF1 (f r)) : TF1 (o.bind f) := by obtain ⟨r, rfl⟩ := h; exact hf r
theorem TF2.cond {c : Bool} {a b : Option (Int × Err × Unit)} (h1 : TF2 a) (h2 : TF2 b) : TF2 (bif c then a else b) := by cases c <;> assumption
theorem TF2.bind {α : Type} {o : Option α} {f : α → Option (Int × Err × Unit)} (h : Sm o) (hf : ∀ r, TF2 (f r)) : TF2 (o.bind f) := by obtain ⟨r, rfl⟩ := h; exact hf r

variable (N : Nat)

theorem new_t (c p : Int) : TF1 (fault_New N c p) := by
  unfold fault_New fault_New_cps
  exact .cond ⟨_, rfl, rfl⟩ ⟨_, rfl, rfl⟩
theorem TF1.bind1 {o : Option (Err × Unit)} {f : Err × Unit → Option (Err × Unit)} (h : TF1 o) (hf : ∀ e, errOk e = true → TF1 (f (e, ()))) : TF1 (o.bind f) := by
  obtain ⟨⟨e, u⟩, rfl, he⟩ := h; exact hf e he
theorem TF2.bind1 {o : Option (Err × Unit)} {f : Err × Unit → Option (Int × Err × Unit)} (h : TF1 o) (hf : ∀ e, errOk e = true → TF2 (f (e, ()))) : TF2 (o.bind f) := by
  obtain ⟨⟨e, u⟩, rfl, he⟩ := h; exact hf e he

theorem right_t (k n : Int) (s : List UInt8) : Sm (value_Right N k n s) := by
  unfold value_Right value_Right_cps
  repeat' (first | exact Sm.some _ | apply Sm.cond)
theorem truth_t (k n : Int) (s : List UInt8) : Sm (value_truth N k n s) := by
  unfold value_truth value_truth_cps
  exact .bind (right_t N k n s) fun r => .cond (.some _) (.some _)
theorem both_t (a b : Int) (c : List UInt8) (d e : Int) (f : List UInt8) : TF1 (value_both N a b c d e f) := by
  unfold value_both value_both_cps
  exact .bind (truth_t N a b c) fun r => .cond (.bind1 (new_t N _ _) fun e he => ⟨_, rfl, he⟩) (.bind (truth_t N d e f) fun r => .cond (.bind1 (new_t N _ _) fun e he => ⟨_, rfl, he⟩) ⟨_, rfl, rfl⟩)
theorem decided_t (a b : Int) (c : List UInt8) (d e : Int) (f : List UInt8) (g h : Int) (i : List UInt8) : Sm (value_decided N a b c d e f g h i) := by
  unfold value_decided value_decided_cps
  exact .cond (.some _) (.cond (.some _) (.cond (.some _) (.some _)))
theorem and_t (a b : Int) (c : List UInt8) (d e : Int) (f : List UInt8) : TE (value_And N a b c d e f) := by
  unfold value_And value_And_cps
  exact .bind1 (both_t N a b c d e f) fun er he => .cond (.some _ _ _ he) (.bind (decided_t N ..) fun r => .some _ _ _ rfl)
theorem or_t (a b : Int) (c : List UInt8) (d e : Int) (f : List UInt8) : TE (value_Or N a b c d e f) := by
  unfold value_Or value_Or_cps
  exact .bind1 (both_t N a b c d e f) fun er he => .cond (.some _ _ _ he) (.bind (decided_t N ..) fun r => .some _ _ _ rfl)
theorem not_t (a b : Int) (c : List UInt8) : TE (value_Not N a b c) := by
  unfold value_Not value_Not_cps
  exact .bind1 (both_t N ..) fun er he => .cond (.some _ _ _ he) (.cond (.some _ _ _ rfl) (.some _ _ _ rfl))
theorem numeric_t (a b : Int) (c : List UInt8) : Sm (number_numeric N a b c) := by
  unfold number_numeric number_numeric_cps
  exact .cond (.some _) (.some _)
theorem reckons_t (a b : Int) (c : List UInt8) : Sm (number_reckons N a b c) := by
  unfold number_reckons number_reckons_cps
  exact .bind (right_t N a b c) fun r => .cond (.cond (.some _) (.bind (numeric_t N a b c) fun r => .some _)) (.some _)
theorem neg_t (a b : Int) (c : List UInt8) : TE (number_Neg N a b c) := by
  unfold number_Neg number_Neg_cps
  exact .bind (reckons_t N a b c) fun r => .cond (.bind1 (new_t N _ _) fun e he => .some _ _ _ he) (.cond (.bind1 (new_t N _ _) fun e he => .some _ _ _ he) (.some _ _ _ rfl))

/-! ### Division -/

theorem wrap_u64_nn (x : Int) : 0 ≤ IntKind.wrap .u64 x := by rw [wrap_u64]; omega
theorem wrap_u64_lt (x : Int) : IntKind.wrap .u64 x < 18446744073709551616 := by rw [wrap_u64]; omega

theorem shr_u64 (x : Int) (n : Nat) (h : n ≤ 64) : Ev.shr .u64 x (n : Int) = x / ((2 ^ n : Nat) : Int) := by
  unfold shr
  rw [Int.toNat_natCast, show min n IntKind.u64.bits = n from Nat.min_eq_left h, show (2 ^ n : Int) = ((2 ^ n : Nat) : Int) by simp]
  rw [Int.fdiv_eq_ediv_of_nonneg _ (Int.natCast_nonneg _)]

theorem len8 : ∀ k : Nat, k < 256 → ∃ b : UInt8, nth (bs1 : List UInt8) (k : Int) = some b ∧ b.toNat ≤ 8 ∧ k < 2 ^ b.toNat ∧ (0 < k → 2 ^ b.toNat ≤ 2 * k) := by
  have key : (List.range 256).all (fun k => match nth (bs1 : List UInt8) (k : Int) with
    | some b => decide (b.toNat ≤ 8 ∧ k < 2 ^ b.toNat ∧ (0 < k → 2 ^ b.toNat ≤ 2 * k))
    | none => false) = true := by decide +kernel
  intro k hk
  have := List.all_eq_true.1 key k (List.mem_range.2 hk)
  split at this
  · rename_i b hb; exact ⟨b, hb, of_decide_eq_true this⟩
  · cases this

/-- How many bits a number has. -/
theorem len_t {y : Nat} (h1 : 1 ≤ y) (h2 : y < 18446744073709551616) : ∃ n : Nat, bits_Len64 N (y : Int) = some ((n : Int), ()) ∧ n ≤ 64 ∧ y < 2 ^ n ∧ 2 ^ n ≤ 2 * y := by
  have j1 : ∀ (z a : Nat), 1 ≤ z → z < 65536 → a ≤ 48 → ∃ b : Nat, (∀ (R : Type) (k0 : Int → Option R), bits_Len64_j1 N R k0 (z : Int) (a : Int) = k0 ((a + b : Nat) : Int)) ∧ b ≤ 16 ∧ z < 2 ^ b ∧ 2 ^ b ≤ 2 * z := by
    intro z a hz1 hz2 ha
    by_cases h : 256 ≤ z
    · obtain ⟨b, hb, hb8, l1, l2⟩ := len8 (z / 256) (by omega)
      refine ⟨8 + b.toNat, fun R k0 => ?_, by omega, ?_, ?_⟩
      · unfold bits_Len64_j1
        have e : IntKind.wrap .u8 (Ev.shr .u64 (z : Int) 8) = ((z / 256 : Nat) : Int) := by
          rw [show (8 : Int) = ((8 : Nat) : Int) from rfl, shr_u64 _ 8 (by decide), wrap_u8]; omega
        rw [if_t (by omega), e, hb, bind_some', wrap_i64_id (x := (a : Int) + 8) (by omega) (by omega), wrap_i64_id (x := (b.toNat : Int)) (by omega) (by omega), wrap_i64_id (by omega) (by omega)]
        congr 1; omega
      · rw [Nat.pow_add]; omega
      · have := l2 (by omega); rw [Nat.pow_add]; omega
    · obtain ⟨b, hb, hb8, l1, l2⟩ := len8 z (by omega)
      refine ⟨b.toNat, fun R k0 => ?_, by omega, l1, l2 (by omega)⟩
      unfold bits_Len64_j1
      have e : IntKind.wrap .u8 (z : Int) = (z : Int) := by rw [wrap_u8]; omega
      rw [if_f (by omega), e, hb, bind_some', wrap_i64_id (x := (b.toNat : Int)) (by omega) (by omega), wrap_i64_id (by omega) (by omega)]
      congr 1
  have j0 : ∀ (z a : Nat), 1 ≤ z → z < 4294967296 → a ≤ 32 → ∃ b : Nat, (∀ (R : Type) (k0 : Int → Option R), bits_Len64_j0 N R k0 (z : Int) (a : Int) = k0 ((a + b : Nat) : Int)) ∧ b ≤ 32 ∧ z < 2 ^ b ∧ 2 ^ b ≤ 2 * z := by
    intro z a hz1 hz2 ha
    by_cases h : 65536 ≤ z
    · obtain ⟨b, hb, hb8, l1, l2⟩ := j1 (z / 65536) (a + 16) (by omega) (by omega) (by omega)
      refine ⟨16 + b, fun R k0 => ?_, by omega, ?_, ?_⟩
      · unfold bits_Len64_j0
        have e : Ev.shr .u64 (z : Int) 16 = ((z / 65536 : Nat) : Int) := by
          rw [show (16 : Int) = ((16 : Nat) : Int) from rfl, shr_u64 _ 16 (by decide)]; omega
        rw [if_t (by omega), e, wrap_i64_id (x := (a : Int) + 16) (by omega) (by omega), show (a : Int) + 16 = ((a + 16 : Nat) : Int) by omega, hb]
        congr 1; omega
      · rw [Nat.pow_add]; omega
      · rw [Nat.pow_add]; omega
    · obtain ⟨b, hb, hb8, l1, l2⟩ := j1 z a hz1 (by omega) (by omega)
      refine ⟨b, fun R k0 => ?_, by omega, l1, l2⟩
      unfold bits_Len64_j0
      rw [if_f (by omega), hb]
  unfold bits_Len64 bits_Len64_cps
  by_cases h : 4294967296 ≤ y
  · obtain ⟨b, hb, hb8, l1, l2⟩ := j0 (y / 4294967296) 32 (by omega) (by omega) (by omega)
    refine ⟨32 + b, ?_, by omega, ?_, ?_⟩
    · have e : Ev.shr .u64 (y : Int) 32 = ((y / 4294967296 : Nat) : Int) := by
        rw [show (32 : Int) = ((32 : Nat) : Int) from rfl, shr_u64 _ 32 (by decide)]; omega
      rw [if_t (by omega), e, show (32 : Int) = ((32 : Nat) : Int) from rfl, hb]
    · rw [Nat.pow_add]; omega
    · rw [Nat.pow_add]; omega
  · obtain ⟨b, hb, hb8, l1, l2⟩ := j0 y 0 h1 (by omega) (by omega)
    refine ⟨b, ?_, by omega, l1, l2⟩
    rw [if_f (by omega), show (0 : Int) = ((0 : Nat) : Int) from rfl, hb, Nat.zero_add]

theorem lz_t {y : Nat} (h1 : 1 ≤ y) (h2 : y < 18446744073709551616) : ∃ n : Nat, bits_LeadingZeros64 N (y : Int) = some ((n : Int), ()) ∧ n ≤ 63 ∧ 9223372036854775808 ≤ y * 2 ^ n ∧ y * 2 ^ n < 18446744073709551616 := by
  obtain ⟨n, hn, n64, l1, l2⟩ := len_t N h1 h2
  have n0 : 1 ≤ n := by
    rcases Nat.eq_zero_or_pos n with h | h
    · subst h; simp at l1; omega
    · exact h
  refine ⟨64 - n, ?_, by omega, ?_, ?_⟩
  · unfold bits_LeadingZeros64 bits_LeadingZeros64_cps
    rw [hn, bind_some', wrap_i64_id (by omega) (by omega)]
    congr 2; omega
  · have e : 2 ^ n * 2 ^ (64 - n) = 18446744073709551616 := by rw [← Nat.pow_add, show n + (64 - n) = 64 by omega]
    have := Nat.mul_le_mul_right (2 ^ (64 - n)) l2
    rw [e, Nat.mul_assoc] at this
    omega
  · have e : 2 ^ n * 2 ^ (64 - n) = 18446744073709551616 := by rw [← Nat.pow_add, show n + (64 - n) = 64 by omega]
    have := Nat.mul_lt_mul_of_pos_right l1 (Nat.two_pow_pos (64 - n))
    rw [e] at this
    exact this

/-- How far a loop of the division is from its end. -/
def far (x : Int) : Nat := if x < 4294967296 then (4294967296 - x).toNat else 4294967297

theorem far_le {x : Int} (h : 0 ≤ x) : far x ≤ 4294967297 := by unfold far; split <;> omega

theorem far_step {x y : Int} (hx : 0 ≤ x) (hx2 : x < 18446744073709551616) (hy : 1 ≤ y) (hy2 : y < 4294967296) (h : ¬ 4294967296 ≤ IntKind.wrap .u64 (x + y)) : far (IntKind.wrap .u64 (x + y)) < far x := by
  rw [wrap_u64] at h ⊢
  unfold far
  rw [if_pos (by omega)]
  split <;> omega

theorem div_l2 {α : Type} (k0 : Int → Int → Int → Int → Int → Int → Int → Int → Option α) (a b : Int) {c : Int} (hc : 1 ≤ c) (hc2 : c < 4294967296) (d e f g : Int) (h0 : ∀ i, Sm (k0 a b c d e f g i)) :
    ∀ (m : Nat) (q r : Int), 0 ≤ r → r < 18446744073709551616 → far r < m → Sm (bits_Div64_l2 N α k0 m a b c d e f g q r) := by
  intro m
  induction m with
  | zero => intro _ _ _ _ h; exact absurd h (Nat.not_lt_zero _)
  | succ m ih =>
    intro q r h1 h2 hm
    show Sm (bits_Div64_l2B N α (bits_Div64_l2 N α k0 m) k0 a b c d e f g q r)
    unfold bits_Div64_l2B
    have step : ∀ q', Sm (bif decide (4294967296 ≤ IntKind.wrap .u64 (r + c)) then k0 a b c d e f g q' else bits_Div64_l2 N α k0 m a b c d e f g q' (IntKind.wrap .u64 (r + c))) := by
      intro q'
      by_cases h : 4294967296 ≤ IntKind.wrap .u64 (r + c)
      · rw [if_t h]; exact h0 _
      · rw [if_f h]; exact ih _ _ (wrap_u64_nn _) (wrap_u64_lt _) (by have := far_step h1 h2 hc hc2 h; omega)
    exact .cond (step _) (.cond (step _) (h0 _))

theorem div_l3 {α : Type} (k0 : Int → Int → Int → Int → Int → Int → Option α) (a b : Int) (h0 : ∀ c d e f, Sm (k0 a b c d e f)) {c : Int} (hc : 1 ≤ c) (hc2 : c < 4294967296) (d e f g : Int) :
    ∀ (m : Nat) (q r : Int), 0 ≤ r → r < 18446744073709551616 → far r < m → Sm (bits_Div64_l3 N α k0 m a b c d e f r g q) := by
  intro m
  induction m with
  | zero => intro _ _ _ _ h; exact absurd h (Nat.not_lt_zero _)
  | succ m ih =>
    intro q r h1 h2 hm
    show Sm (bits_Div64_l3B N α (bits_Div64_l3 N α k0 m) k0 a b c d e f r g q)
    unfold bits_Div64_l3B
    have step : ∀ q', Sm (bif decide (4294967296 ≤ IntKind.wrap .u64 (r + c)) then k0 a b e f g q' else bits_Div64_l3 N α k0 m a b c d e f (IntKind.wrap .u64 (r + c)) g q') := by
      intro q'
      by_cases h : 4294967296 ≤ IntKind.wrap .u64 (r + c)
      · rw [if_t h]; exact h0 _ _ _ _
      · rw [if_f h]; exact ih _ _ (wrap_u64_nn _) (wrap_u64_lt _) (by have := far_step h1 h2 hc hc2 h; omega)
    exact .cond (step _) (.cond (step _) (h0 _ _ _ _))

theorem div_t (hN : 10000000000 ≤ N) {a b : Int} {z : Nat} (h1 : 1 ≤ z) (h2 : z < 18446744073709551616) (ha : ¬ (z : Int) ≤ a) : Sm (bits_Div64 N a b (z : Int)) := by
  unfold bits_Div64 bits_Div64_cps bits_Div64_j0 bits_Div64_j1
  rw [if_f (by omega), if_f ha]
  refine .cond ?_ ?_
  · rw [if_f (by omega), if_f (by omega)]; exact .some _
  · obtain ⟨n, hn, n63, g1, g2⟩ := lz_t N h1 h2
    rw [hn, bind_some']
    dsimp only
    have hs : Ev.shl .u64 (z : Int) (IntKind.wrap .u64 (n : Int)) = ((z * 2 ^ n : Nat) : Int) := by
      rw [wrap_u64_id (x := (n : Int)) (by omega) (by omega), shl_nat .u64 z n (by show n ≤ 64; omega), wrap_u64_id (by omega) (by omega)]
    rw [if_t (wrap_u64_nn _), if_t (wrap_u64_nn _), if_t (wrap_u64_nn _), if_t (wrap_u64_nn _), hs]
    have hy : Ev.shr .u64 ((z * 2 ^ n : Nat) : Int) 32 = ((z * 2 ^ n / 4294967296 : Nat) : Int) := by
      rw [show (32 : Int) = ((32 : Nat) : Int) from rfl, shr_u64 _ 32 (by decide)]; omega
    rw [hy, if_f (by omega)]
    have hc1 : (1 : Int) ≤ ((z * 2 ^ n / 4294967296 : Nat) : Int) := by omega
    have hc2 : ((z * 2 ^ n / 4294967296 : Nat) : Int) < 4294967296 := by omega
    have far_big : ∀ x : Int, far (IntKind.wrap .u64 x) < N := fun x => by have := far_le (wrap_u64_nn x); omega
    refine div_l2 N _ _ _ hc1 hc2 _ _ _ _ ?_ N _ _ (wrap_u64_nn _) (wrap_u64_lt _) (far_big _)
    intro i
    rw [if_f (by omega)]
    refine div_l3 N _ _ _ (fun c d e f => ?_) hc1 hc2 _ _ _ _ N _ _ (wrap_u64_nn _) (wrap_u64_lt _) (far_big _)
    rw [if_t (wrap_u64_nn _)]
    exact .some _

theorem mul_t (a b : Int) : ∃ h l : Int, bits_Mul64 N a b = some (h, l, ()) ∧ 0 ≤ h := by
  unfold bits_Mul64 bits_Mul64_cps
  exact ⟨_, _, rfl, wrap_u64_nn _⟩

theorem size_t (n : Int) : ∃ (z : Nat) (b : Bool), number_size N n = some ((z : Int), b, ()) ∧ z < 18446744073709551616 := by
  have key : ∀ x : Int, ∃ z : Nat, IntKind.wrap .u64 x = (z : Int) ∧ z < 18446744073709551616 := fun x => ⟨(IntKind.wrap .u64 x).toNat, by have := wrap_u64_nn x; omega, by have := wrap_u64_nn x; have := wrap_u64_lt x; omega⟩
  unfold number_size number_size_cps
  by_cases h : n < 0
  · rw [if_t h]; obtain ⟨z, e, hz⟩ := key (0 - IntKind.wrap .u64 n); rw [e]; exact ⟨z, true, rfl, hz⟩
  · rw [if_f h]; obtain ⟨z, e, hz⟩ := key n; rw [e]; exact ⟨z, false, rfl, hz⟩

theorem fit_t (n : Int) (b : Bool) : Sm (number_fit N n b) := by
  unfold number_fit number_fit_cps
  exact .cond (.some _) (.some _)

theorem over_t (hN : 10000000000 ≤ N) (a b c : Int) : Sm (number_over N a b c) := by
  unfold number_over number_over_cps
  obtain ⟨x, p, hx, _⟩ := size_t N a
  obtain ⟨y, q, hy, _⟩ := size_t N b
  obtain ⟨z, r, hz, z2⟩ := size_t N c
  obtain ⟨h, l, hm, h0⟩ := mul_t N (x : Int) (y : Int)
  rw [hx, bind_some', hy, bind_some', hz, bind_some']
  dsimp only
  rw [hm, bind_some']
  dsimp only
  by_cases hc : (z : Int) ≤ h
  · rw [if_t hc]; exact .some _
  · rw [if_f hc]
    exact .bind (div_t N hN (by omega) z2 hc) fun r => .bind (fit_t N _ _) fun r => .some _

theorem sum_t (a b : Int) : Sm (number_sum N a b) := by
  unfold number_sum number_sum_cps
  repeat' (first | exact Sm.some _ | apply Sm.cond)

theorem promoted_t (a b : Int) (c : List UInt8) (d : Int) : TF2 (number_promoted N a b c d) := by
  unfold number_promoted number_promoted_cps
  refine .cond ⟨_, rfl, rfl⟩ ?_
  obtain ⟨x, p, hx, _⟩ := size_t N b
  obtain ⟨h, l, hm, h0⟩ := mul_t N (x : Int) 10000
  rw [hx, bind_some']
  dsimp only
  rw [hm, bind_some']
  exact .bind (fit_t N _ _) fun r => .cond (.cond ⟨_, rfl, rfl⟩ (.bind1 (new_t N _ _) fun e he => ⟨_, rfl, he⟩)) (.bind1 (new_t N _ _) fun e he => ⟨_, rfl, he⟩)

theorem reckon_t (hN : 10000000000 ≤ N) (op a b : Int) (c : List UInt8) (d e : Int) (f : List UInt8) : TE (number_Reckon N op a b c d e f) := by
  have j3 : ∀ (k0 : Err → Int → Int → List UInt8 → Int → Int → List UInt8 → Int → Int → List UInt8 → Option Qv) (_ : ∀ er a b c d e f g h i, errOk er = true → TE (k0 er a b c d e f g h i)) (a1 a2 a3 a4 a5 a6 a7 : Int) (s1 : List UInt8) (b1 b2 : Int) (s2 : List UInt8) (c1 c2 : Int) (s3 : List UInt8), TE (number_Reckon_j3 N Qv k0 a1 a2 a3 a4 a5 a6 a7 s1 b1 b2 s2 c1 c2 s3) := by
    intro k0 h a1 a2 a3 a4 a5 a6 a7 s1 b1 b2 s2 c1 c2 s3
    unfold number_Reckon_j3
    refine .cond (.cond (.cond ?_ ?_) (.bind (sum_t N _ _) fun r => .cond ?_ ?_)) (.cond (.bind (sum_t N _ _) fun r => .cond ?_ ?_) (.cond (.bind (over_t N hN _ _ _) fun r => .cond ?_ ?_) (.cond (.cond ?_ (.bind (over_t N hN _ _ _) fun r => .cond ?_ ?_)) ?_)))
    all_goals first
      | exact h _ _ _ _ _ _ _ _ _ _ rfl
      | exact .bind1 (new_t N _ _) fun e he => h _ _ _ _ _ _ _ _ _ _ he
  have j2 : ∀ (k0 : Int → Int → Int → Int → Int → Int → Int → List UInt8 → Int → Int → List UInt8 → Int → Int → List UInt8 → Option Qv) (k1 : Int → Err → Int → Int → Int → Int → Int → Int → List UInt8 → Int → Int → List UInt8 → Int → Int → List UInt8 → Option Qv)
      (_ : ∀ a b c d e f g s h i t j k u, TE (k0 a b c d e f g s h i t j k u)) (_ : ∀ er a b c d e f g s h i t j k u, errOk er = true → TE (k1 a er b c d e f g s h i t j k u)) (a1 a2 a3 a4 a5 : Int) (bb : Bool) (a6 a7 : Int) (s1 : List UInt8) (b1 b2 : Int) (s2 : List UInt8) (c1 c2 : Int) (s3 : List UInt8), TE (number_Reckon_j2 N Qv k0 k1 a1 a2 a3 a4 a5 bb a6 a7 s1 b1 b2 s2 c1 c2 s3) := by
    intro k0 k1 h0 h1 a1 a2 a3 a4 a5 bb a6 a7 s1 b1 b2 s2 c1 c2 s3
    unfold number_Reckon_j2
    refine .cond (.bind2 (promoted_t N _ _ _ _) fun n e he => .cond (h1 _ _ _ _ _ _ _ _ _ _ _ _ _ _ _ he) (.bind2 (promoted_t N _ _ _ _) fun n e he => .cond (h1 _ _ _ _ _ _ _ _ _ _ _ _ _ _ _ he) (h0 _ _ _ _ _ _ _ _ _ _ _ _ _ _))) (h0 _ _ _ _ _ _ _ _ _ _ _ _ _ _)
  have j1 : ∀ (k0 : Err → Int → Int → List UInt8 → Int → Int → List UInt8 → Int → Int → List UInt8 → Option Qv) (_ : ∀ er a b c d e f g h i, errOk er = true → TE (k0 er a b c d e f g h i)) (a1 a2 a3 : Int) (s1 : List UInt8) (b1 b2 : Int) (s2 : List UInt8) (c1 c2 : Int) (s3 : List UInt8), TE (number_Reckon_j1 N Qv k0 a1 a2 a3 s1 b1 b2 s2 c1 c2 s3) := by
    intro k0 h a1 a2 a3 s1 b1 b2 s2 c1 c2 s3
    unfold number_Reckon_j1
    refine .cond ?_ ?_
    all_goals
      refine j2 _ _ (fun a b c d e f g s h' i t j k u => j3 _ (fun er a b c d e f g h' i he => h _ _ _ _ _ _ _ _ _ _ he) _ _ _ _ _ _ _ _ _ _ _ _ _ _) (fun er a b c d e f g s h' i t j k u he => h _ _ _ _ _ _ _ _ _ _ he) _ _ _ _ _ _ _ _ _ _ _ _ _ _ _
  have j0 : ∀ (k0 : Int → Int → Int → List UInt8 → Int → Int → List UInt8 → Int → Int → List UInt8 → Option Qv) (k1 : Int → Err → Int → Int → List UInt8 → Int → Int → List UInt8 → Int → Int → List UInt8 → Option Qv)
      (_ : ∀ a b c d e f g h i j, TE (k0 a b c d e f g h i j)) (_ : ∀ er a b c d e f g h i j, errOk er = true → TE (k1 a er b c d e f g h i j)) (a1 : Int) (bb : Bool) (a2 a3 : Int) (s1 : List UInt8) (b1 b2 : Int) (s2 : List UInt8) (c1 c2 : Int) (s3 : List UInt8), TE (number_Reckon_j0 N Qv k0 k1 a1 bb a2 a3 s1 b1 b2 s2 c1 c2 s3) := by
    intro k0 k1 h0 h1 a1 bb a2 a3 s1 b1 b2 s2 c1 c2 s3
    unfold number_Reckon_j0
    refine .cond (.bind1 (new_t N _ _) fun e he => h1 _ _ _ _ _ _ _ _ _ _ _ he) (.bind (reckons_t N _ _ _) fun r => .cond (.bind1 (new_t N _ _) fun e he => h1 _ _ _ _ _ _ _ _ _ _ _ he) (.bind (reckons_t N _ _ _) fun r => .cond (.bind1 (new_t N _ _) fun e he => h1 _ _ _ _ _ _ _ _ _ _ _ he) (.cond (h1 _ _ _ _ _ _ _ _ _ _ _ rfl) (.cond (h1 _ _ _ _ _ _ _ _ _ _ _ rfl) (h0 _ _ _ _ _ _ _ _ _ _)))))
  unfold number_Reckon number_Reckon_cps
  refine .cond ?_ ?_
  all_goals
    exact j0 _ _ (fun a b c d e f g h i j => j1 _ (fun er a b c d e f g h i he => .some _ _ _ he) _ _ _ _ _ _ _ _ _ _) (fun er a b c d e f g h i j he => .some _ _ _ he) _ _ _ _ _ _ _ _ _ _ _

/-! ### Comparisons -/

theorem cmpi_t (a b : Int) : Sm (cmp_Compare_int64 N a b) := by
  unfold cmp_Compare_int64 cmp_Compare_int64_cps
  exact .bind ⟨_, rfl⟩ fun r => .bind ⟨_, rfl⟩ fun r => .cond (.cond (.some _) (.some _)) (.cond (.some _) (.cond (.some _) (.cond (.some _) (.some _))))
theorem cmpk_t (a b : Int) : Sm (cmp_Compare_api_Kind N a b) := by
  unfold cmp_Compare_api_Kind cmp_Compare_api_Kind_cps
  exact .bind ⟨_, rfl⟩ fun r => .bind ⟨_, rfl⟩ fun r => .cond (.cond (.some _) (.some _)) (.cond (.some _) (.cond (.some _) (.cond (.some _) (.some _))))
theorem cmps_t (a b : List UInt8) : Sm (cmp_Compare_string N a b) := by
  unfold cmp_Compare_string cmp_Compare_string_cps
  exact .bind ⟨_, rfl⟩ fun r => .bind ⟨_, rfl⟩ fun r => .cond (.cond (.some _) (.some _)) (.cond (.some _) (.cond (.some _) (.cond (.some _) (.some _))))
theorem cor_t (hN : 10 ≤ N) (a b c : Int) : Sm (cmp_Or_int N [a, b, c]) := by
  unfold cmp_Or_int cmp_Or_int_cps
  have key : ∀ (m f : Nat), m = f + 4 → Sm (cmp_Or_int_l0 N (Int × Unit) (fun v2 => some (v2, ())) (fun v3 _ => some (v3, ())) m 0 [a, b, c] 3 0) := by
    intro m f hm
    subst hm
    show Sm (cmp_Or_int_l0B N _ (cmp_Or_int_l0 N _ _ _ (f + 3)) _ _ 0 [a, b, c] 3 0)
    unfold cmp_Or_int_l0B
    rw [if_t (by decide), show nth [a, b, c] 0 = some a from rfl, bind_some']
    refine .cond (.some _) ?_
    show Sm (cmp_Or_int_l0B N _ (cmp_Or_int_l0 N _ _ _ (f + 2)) _ _ 0 [a, b, c] 3 1)
    unfold cmp_Or_int_l0B
    rw [if_t (by decide), show nth [a, b, c] 1 = some b from rfl, bind_some']
    refine .cond (.some _) ?_
    show Sm (cmp_Or_int_l0B N _ (cmp_Or_int_l0 N _ _ _ (f + 1)) _ _ 0 [a, b, c] 3 2)
    unfold cmp_Or_int_l0B
    rw [if_t (by decide), show nth [a, b, c] 2 = some c from rfl, bind_some']
    refine .cond (.some _) ?_
    show Sm (cmp_Or_int_l0B N _ (cmp_Or_int_l0 N _ _ _ f) _ _ 0 [a, b, c] 3 3)
    unfold cmp_Or_int_l0B
    rw [if_f (by decide)]
    exact .some _
  exact key N (N - 4) (by omega)

theorem vorder_t (hN : 10 ≤ N) (a b : Int) (c : List UInt8) (d e : Int) (f : List UInt8) : Sm (value_Order N a b c d e f) := by
  unfold value_Order value_Order_cps
  exact .bind (cmpk_t N _ _) fun r => .bind (cmpi_t N _ _) fun r => .bind (cmps_t N _ _) fun r => .bind (cor_t N hN _ _ _) fun r => .some _

theorem norder_t (hN : 10 ≤ N) (a b : Int) (c : List UInt8) (d e : Int) (f : List UInt8) (ha : a = 2 ∨ a = 3) (hd : d = 2 ∨ d = 3) : Sm (number_order N a b c d e f) := by
  have one : ∀ [Z_number_order] (a b : Int) (c : List UInt8) (d e : Int) (f : List UInt8), (a = d ∨ a ≠ 3) → Sm (number_order_o N a b c d e f) := by
    intro Z a b c d e f h
    unfold number_order_o number_order_o_cps
    by_cases h1 : a = d
    · rw [if_t h1]; exact .bind (cmpi_t N _ _) fun r => .some _
    · rw [if_f h1, if_f (h.resolve_left h1)]
      obtain ⟨⟨n, er, u⟩, hp, he⟩ := promoted_t N a b c 0
      rw [hp]
      exact .cond (.bind (cmpi_t N _ _) fun r => .some _) (.bind (cmpi_t N _ _) fun r => .some _)
  unfold number_order
  by_cases h : a = d ∨ a ≠ 3
  · exact @one (Z_number_order_at N N) _ _ _ _ _ _ h
  · have h1 : ¬ a = d := fun e => h (.inl e)
    have h3 : a = 3 := by rcases ha with e | e; exact absurd (.inr (by omega)) h; exact e
    unfold number_order_o number_order_o_cps
    rw [if_f h1, if_t h3]
    obtain ⟨g, rfl⟩ : ∃ g, N = g + 1 := ⟨N - 1, by omega⟩
    refine .bind ?_ fun r => .some _
    show Sm (@number_order_o (Z_number_order_at (g + 1) g) (g + 1) d e f a b c)
    exact @one (Z_number_order_at (g + 1) g) _ _ _ _ _ _ (.inr (by omega))

theorem numeric_true (a b : Int) (c : List UInt8) : number_numeric N a b c = some (decide (a = 2 ∨ a = 3), ()) := by
  unfold number_numeric number_numeric_cps
  by_cases h : a = 2
  · rw [if_t h]; simp [h]
  · rw [if_f h]; simp [h]

theorem sign_t (hN : 10 ≤ N) (a b : Int) (c : List UInt8) (d e : Int) (f : List UInt8) : TF2 (number_Sign N a b c d e f) := by
  have j0 : ∀ (k0 : Int → Int → List UInt8 → Int → Int → List UInt8 → Option (Int × Err × Unit)) (k1 : Int → Err → Int → Int → List UInt8 → Int → Int → List UInt8 → Option (Int × Err × Unit)) (_ : ∀ a b c d e f, TF2 (k0 a b c d e f)) (_ : ∀ n er a b c d e f, errOk er = true → TF2 (k1 n er a b c d e f))
      (bb : Bool) (a b : Int) (c : List UInt8) (d e : Int) (f : List UInt8), TF2 (number_Sign_j0 N (Int × Err × Unit) k0 k1 bb a b c d e f) := by
    intro k0 k1 h0 h1 bb a b c d e f
    unfold number_Sign_j0
    have fail : ∀ p : Int, TF2 (Option.bind (fault_New N 22 p) fun v => k1 0 v.1 a b c d e f) := fun p => .bind1 (new_t N _ _) fun e he => h1 _ _ _ _ _ _ _ _ he
    refine .cond (fail 0) (.bind (right_t N _ _ _) fun r => .cond (fail 1) (.cond (fail 1) ?_))
    by_cases hk : a = d
    · rw [cond_f (by simp [hk]), numeric_true, bind_some']
      by_cases hn : a = 2 ∨ a = 3
      · rw [if_t hn]; exact .bind (norder_t N hN _ _ _ _ _ _ hn (hk ▸ hn)) fun r => h1 _ _ _ _ _ _ _ _ rfl
      · rw [if_f hn]; exact h0 _ _ _ _ _ _
    · rw [cond_t (by simp [hk]), numeric_true, bind_some', bind_some']
      by_cases hn : a = 2 ∨ a = 3
      · rw [if_t hn, numeric_true, bind_some']
        by_cases hm : d = 2 ∨ d = 3
        · rw [cond_f (by simp [hm]), if_t hn]; exact .bind (norder_t N hN _ _ _ _ _ _ hn hm) fun r => h1 _ _ _ _ _ _ _ _ rfl
        · rw [cond_t (by simp [hm])]; exact fail 1
      · rw [if_f hn]; exact fail 1
  unfold number_Sign number_Sign_cps
  refine .bind (right_t N _ _ _) fun r => .cond ?_ ?_
  all_goals
    exact j0 _ _ (fun a b c d e f => .bind (vorder_t N hN _ _ _ _ _ _) fun r => ⟨_, rfl, rfl⟩) (fun n er a b c d e f he => ⟨_, rfl, he⟩) _ _ _ _ _ _ _

theorem compare_t (hN : 10 ≤ N) (op a b : Int) (c : List UInt8) (d e : Int) (f : List UInt8) : TE (number_Compare N op a b c d e f) := by
  have j1 : ∀ (k0 : Err → Int → Int → List UInt8 → Int → Int → List UInt8 → Int → Int → List UInt8 → Option Qv) (_ : ∀ er a b c d e f g h i, errOk er = true → TE (k0 er a b c d e f g h i)) (a1 a2 a3 : Int) (s1 : List UInt8) (b1 b2 : Int) (s2 : List UInt8) (c1 c2 : Int) (s3 : List UInt8), TE (number_Compare_j1 N Qv k0 a1 a2 a3 s1 b1 b2 s2 c1 c2 s3) := by
    intro k0 h a1 a2 a3 s1 b1 b2 s2 c1 c2 s3
    unfold number_Compare_j1
    refine .bind2 (sign_t N hN _ _ _ _ _ _) fun n e he => .cond (h _ _ _ _ _ _ _ _ _ _ he) ?_
    repeat' (first | exact h _ _ _ _ _ _ _ _ _ _ rfl | apply TE.cond)
  have j0 : ∀ (k0 : Int → Int → Int → List UInt8 → Int → Int → List UInt8 → Int → Int → List UInt8 → Option Qv) (k1 : Int → Err → Int → Int → List UInt8 → Int → Int → List UInt8 → Int → Int → List UInt8 → Option Qv)
      (_ : ∀ a b c d e f g h i j, TE (k0 a b c d e f g h i j)) (_ : ∀ er a b c d e f g h i j, errOk er = true → TE (k1 a er b c d e f g h i j)) (a1 : Int) (bb : Bool) (a2 a3 : Int) (s1 : List UInt8) (b1 b2 : Int) (s2 : List UInt8) (c1 c2 : Int) (s3 : List UInt8), TE (number_Compare_j0 N Qv k0 k1 a1 bb a2 a3 s1 b1 b2 s2 c1 c2 s3) := by
    intro k0 k1 h0 h1 a1 bb a2 a3 s1 b1 b2 s2 c1 c2 s3
    unfold number_Compare_j0
    refine .cond (.bind1 (new_t N _ _) fun e he => h1 _ _ _ _ _ _ _ _ _ _ _ he) (.bind (right_t N _ _ _) fun r => .cond (.bind1 (new_t N _ _) fun e he => h1 _ _ _ _ _ _ _ _ _ _ _ he) (.bind (right_t N _ _ _) fun r => .cond (.bind1 (new_t N _ _) fun e he => h1 _ _ _ _ _ _ _ _ _ _ _ he) (.cond (h1 _ _ _ _ _ _ _ _ _ _ _ rfl) (.cond (h1 _ _ _ _ _ _ _ _ _ _ _ rfl) (h0 _ _ _ _ _ _ _ _ _ _)))))
  unfold number_Compare number_Compare_cps
  refine .cond ?_ ?_
  all_goals
    exact j0 _ _ (fun a b c d e f g h i j => j1 _ (fun er a b c d e f g h i he => .some _ _ _ he) _ _ _ _ _ _ _ _ _ _) (fun er a b c d e f g h i j he => .some _ _ _ he) _ _ _ _ _ _ _ _ _ _ _

end Go.Proofs.YtiloinbeojampaaGreatDoor.E
