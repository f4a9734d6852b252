/-
  The statement LockEnds of the program is proved: for every input that the row speaks of, the law answers true.
  Conditions: those that the statement's row prints, and no other. This text: plain laws of the pure functions.
-/
import Derived.Test.YtkeejnlicagjiabLockEndsF
import Derived.Test.YtkeejnlicagjiabEvA
import Derived.KernelRfl
set_option linter.unusedVariables false
set_option linter.unusedSimpArgs false
/-! Locks: keys in order, what clashes, what covers. -/
namespace Go.Proofs.Ytkeejnlicagjiab.E
open Go.Ev

abbrev LkT := Int × (List UInt8 × (List UInt8 × (List UInt8 × (Int × Unit))))

theorem alive09 : law09_alive big = some (true, ()) := by rw [big_eq]; kernel_rfl

theorem u8_eq {x y : UInt8} (h1 : ¬ x < y) (h2 : ¬ y < x) : x = y := UInt8.le_antisymm (UInt8.not_lt.1 h2) (UInt8.not_lt.1 h1)

theorem less_irr : ∀ a : List UInt8, Op.bytesLess a a = false
  | [] => rfl
  | x :: a => by simp [Op.bytesLess, less_irr a]

theorem less_tri : ∀ a b : List UInt8, Op.bytesLess a b = false → Op.bytesLess b a = false → a = b
  | [], [], _, _ => rfl
  | [], _ :: _, h, _ => by cases h
  | _ :: _, [], _, h => by cases h
  | x :: a, y :: b, h1, h2 => by
    simp only [Op.bytesLess, Bool.or_eq_false_iff, decide_eq_false_iff_not, Bool.and_eq_false_iff] at h1 h2
    have e := u8_eq h1.1 h2.1
    subst e
    simp at h1 h2
    rw [less_tri a b h1 h2]

theorem less_trans : ∀ a b c : List UInt8, Op.bytesLess a b = true → Op.bytesLess b c = true → Op.bytesLess a c = true
  | [], [], _, h, _ => by cases h
  | [], _ :: _, [], _, h => by cases h
  | [], _ :: _, _ :: _, _, _ => rfl
  | _ :: _, [], _, h, _ => by cases h
  | _ :: _, _ :: _, [], _, h => by cases h
  | x :: a, y :: b, z :: c, h1, h2 => by
    simp only [Op.bytesLess, Bool.or_eq_true, decide_eq_true_eq, Bool.and_eq_true, beq_iff_eq] at h1 h2 ⊢
    rcases h1 with h1 | ⟨h1, h1'⟩
    · rcases h2 with h2 | ⟨h2, _⟩
      · exact .inl (UInt8.lt_trans h1 h2)
      · subst h2; exact .inl h1
    · subst h1
      rcases h2 with h2 | ⟨h2, h2'⟩
      · exact .inl h2
      · exact .inr ⟨h2, less_trans a b c h1' h2'⟩

theorem less_asymm {a b : List UInt8} (h : Op.bytesLess a b = true) : Op.bytesLess b a = false := by
  cases h2 : Op.bytesLess b a with
  | false => rfl
  | true => have := less_trans _ _ _ h h2; rw [less_irr] at this; cases this

theorem le_trans' {a b c : List UInt8} (h1 : Op.bytesLess b a = false) (h2 : Op.bytesLess c b = false) : Op.bytesLess c a = false := by
  cases h3 : Op.bytesLess c a with
  | false => rfl
  | true =>
    cases h4 : Op.bytesLess b c with
    | true => have := less_trans _ _ _ h4 h3; rw [h1] at this; cases this
    | false => have := less_tri _ _ h4 h2; subst this; rw [h1] at h3; cases h3

theorem lt_le {a b c : List UInt8} (h1 : Op.bytesLess a b = true) (h2 : Op.bytesLess c b = false) : Op.bytesLess a c = true := by
  cases h3 : Op.bytesLess a c with
  | true => rfl
  | false => have := le_trans' h2 h3; rw [h1] at this; cases this

theorem le_lt {a b c : List UInt8} (h1 : Op.bytesLess b a = false) (h2 : Op.bytesLess b c = true) : Op.bytesLess a c = true := by
  cases h3 : Op.bytesLess a c with
  | true => rfl
  | false => have := le_trans' h3 h1; rw [h2] at this; cases this

theorem less_nil (a : List UInt8) : Op.bytesLess a [] = false := by cases a <;> rfl

theorem cmp_less : ∀ a b : List UInt8, (Lib.compareBytes a b < 0 ↔ Op.bytesLess a b = true) ∧ (0 < Lib.compareBytes a b ↔ Op.bytesLess b a = true)
  | [], [] => by simp [Lib.compareBytes, Op.bytesLess]
  | [], _ :: _ => by simp [Lib.compareBytes, Op.bytesLess]
  | _ :: _, [] => by simp [Lib.compareBytes, Op.bytesLess]
  | x :: a, y :: b => by
    have ih := cmp_less a b
    unfold Lib.compareBytes
    simp only [Op.bytesLess, Bool.or_eq_true, decide_eq_true_eq, Bool.and_eq_true, beq_iff_eq]
    by_cases h1 : x < y
    · have : ¬ y < x := UInt8.lt_asymm h1
      have h3 : ¬ y = x := fun e => by subst e; exact UInt8.lt_irrefl _ h1
      simp [h1, this, h3]
    · by_cases h2 : y < x
      · have h3 : ¬ x = y := fun e => by subst e; exact UInt8.lt_irrefl _ h2
        simp [h1, h2, h3]
      · have e := u8_eq h1 h2
        subst e
        simp [h1, ih]

theorem cmp_lt (a b : List UInt8) : decide (Lib.compareBytes a b < 0) = Op.bytesLess a b := by
  rw [Bool.eq_iff_iff, decide_eq_true_eq]; exact (cmp_less a b).1
theorem cmp_gt (a b : List UInt8) : decide (0 < Lib.compareBytes a b) = Op.bytesLess b a := by
  rw [Bool.eq_iff_iff, decide_eq_true_eq]; exact (cmp_less a b).2
theorem cmp_le (a b : List UInt8) : decide (Lib.compareBytes a b ≤ 0) = !Op.bytesLess b a := by
  rw [← cmp_gt]
  by_cases h : 0 < Lib.compareBytes a b
  · rw [dec_t h, dec_f (by omega)]; rfl
  · rw [dec_f h, dec_t (by omega)]; rfl

theorem len0 {a : List UInt8} : decide ((a.length : Int) = 0) = decide (a = []) := by
  cases a with
  | nil => rfl
  | cons x r => simp; omega
theorem len_pos {a : List UInt8} : decide (0 < (a.length : Int)) = !decide (a = []) := by
  cases a with
  | nil => rfl
  | cons x r => simp

def ahead (k e : List UInt8) : Bool := decide (e = []) || Op.bytesLess k e

theorem compare_eq (N : Nat) (a b : List UInt8) : bytes_Compare N a b = some (Lib.compareBytes a b, ()) := rfl

theorem ahead_eq (N : Nat) (k e : List UInt8) : lock_ahead N k e = some (ahead k e, ()) := by
  unfold lock_ahead lock_ahead_cps ahead
  rw [compare_eq, bind_some', cmp_lt, len0]
  cases decide (e = []) <;> rfl

def top (a b : List UInt8) : List UInt8 := bif Op.bytesLess a b then b else a

theorem top_comm (a b : List UInt8) : top a b = top b a := by
  unfold top
  cases h : Op.bytesLess a b with
  | true => rw [less_asymm h]; rfl
  | false =>
    cases h2 : Op.bytesLess b a with
    | true => rfl
    | false => exact less_tri _ _ h h2

theorem top_ge (a b : List UInt8) : Op.bytesLess (top a b) a = false ∧ Op.bytesLess (top a b) b = false := by
  unfold top
  cases h : Op.bytesLess a b with
  | true => exact ⟨less_asymm h, less_irr b⟩
  | false => exact ⟨less_irr a, h⟩

/-- Do two locks clash? -/
def clash (a b : LkT) : Bool := !decide (a.1 = b.1) && (decide (a.2.1 = b.2.1) && (!(decide (a.2.2.2.2.1 = 1) && decide (b.2.2.2.2.1 = 1)) && (ahead (top a.2.2.1 b.2.2.1) a.2.2.2.1 && ahead (top a.2.2.1 b.2.2.1) b.2.2.2.1)))

theorem clash_eq (N : Nat) (a b : LkT) : lock_Clash N a.1 a.2.1 a.2.2.1 a.2.2.2.1 a.2.2.2.2.1 b.1 b.2.1 b.2.2.1 b.2.2.2.1 b.2.2.2.2.1 = some (clash a b, ()) := by
  obtain ⟨v1, v2, v3, v4, v5, _⟩ := a
  obtain ⟨v6, v7, v8, v9, v10, _⟩ := b
  unfold lock_Clash lock_Clash_cps
  simp only [compare_eq, ahead_eq, bind_some', cmp_gt, clash, top]
  cases decide (v1 = v6) <;> cases decide (v2 = v7) <;> cases decide (v5 = 1) <;> cases decide (v10 = 1) <;> cases Op.bytesLess v3 v8 <;> first
    | rfl
    | (simp only [cond_true, cond_false, Bool.not_true, Bool.not_false, Bool.true_and, Bool.and_true, Bool.false_and, Bool.and_false]
       first
       | (cases ahead v3 v4 <;> rfl)
       | (cases ahead v8 v4 <;> rfl)
       | rfl)

theorem clash_comm (a b : LkT) : clash a b = clash b a := by
  unfold clash
  rw [top_comm b.2.2.1 a.2.2.1]
  have e1 : decide (a.1 = b.1) = decide (b.1 = a.1) := by simp [eq_comm]
  have e2 : decide (a.2.1 = b.2.1) = decide (b.2.1 = a.2.1) := by simp [eq_comm]
  rw [e1, e2, Bool.and_comm (decide (a.2.2.2.2.1 = 1)), Bool.and_comm (ahead _ a.2.2.2.1)]

theorem clash_self (a b : LkT) (h : a.1 = b.1) : clash a b = false := by simp [clash, h]

/-- Is a lock right? -/
def rightL (a : LkT) : Bool := (decide (a.2.2.2.2.1 = 1) || decide (a.2.2.2.2.1 = 2)) && ahead a.2.2.1 a.2.2.2.1

theorem right_eq (N : Nat) (a : LkT) : lock_Lock_right N a.1 a.2.1 a.2.2.1 a.2.2.2.1 a.2.2.2.2.1 = some (rightL a, ()) := by
  unfold lock_Lock_right lock_Lock_right_cps rightL
  simp only [ahead_eq, bind_some']
  cases decide (a.2.2.2.2.1 = 1) <;> cases decide (a.2.2.2.2.1 = 2) <;> rfl

/-- Does a lock cover another one? -/
def coversL (a b : LkT) : Bool := decide (a.1 = b.1) && (decide (a.2.1 = b.2.1) && ((decide (a.2.2.2.2.1 = b.2.2.2.2.1) || decide (a.2.2.2.2.1 = 2)) && (!Op.bytesLess b.2.2.1 a.2.2.1 && (decide (a.2.2.2.1 = []) || (!decide (b.2.2.2.1 = []) && !Op.bytesLess a.2.2.2.1 b.2.2.2.1)))))

theorem covers_eq (N : Nat) (a b : LkT) : lock_Lock_covers N a.1 a.2.1 a.2.2.1 a.2.2.2.1 a.2.2.2.2.1 b.1 b.2.1 b.2.2.1 b.2.2.2.1 b.2.2.2.2.1 = some (coversL a b, ()) := by
  obtain ⟨v1, v2, v3, v4, v5, _⟩ := a
  obtain ⟨v6, v7, v8, v9, v10, _⟩ := b
  unfold lock_Lock_covers lock_Lock_covers_cps
  simp only [compare_eq, bind_some', cmp_le, len0, len_pos, coversL]
  cases decide (v1 = v6) <;> cases decide (v2 = v7) <;> cases decide (v5 = v10) <;> cases decide (v5 = 2) <;> cases Op.bytesLess v8 v3 <;> cases decide (v4 = []) <;> cases decide (v9 = []) <;> rfl

theorem clone_eq (N : Nat) {b : List UInt8} (h : b.length ≤ 140737488355328) : bytes_Clone N b = some (b, ()) := by
  unfold bytes_Clone bytes_Clone_cps
  rw [cond_t (room_one (by simpa using h)), List.nil_append]

/-- A lock whose keys can be copied. -/
def Fine (a : LkT) : Prop := a.2.2.1.length ≤ 140737488355328 ∧ a.2.2.2.1.length ≤ 140737488355328

theorem copied_eq (N : Nat) (a : LkT) (h : Fine a) : lock_Lock_copied N a.1 a.2.1 a.2.2.1 a.2.2.2.1 a.2.2.2.2.1 = some a := by
  unfold lock_Lock_copied lock_Lock_copied_cps
  rw [clone_eq N h.1, bind_some', clone_eq N h.2, bind_some']

end Go.Proofs.Ytkeejnlicagjiab.E
