/-
  The statement LockEnds of the program is proved: for every input that the row speaks of, the law answers true.
  Conditions: those that the statement's row prints, and no other. This text: plain laws of the pure functions.
-/
import Derived.Test.YtkeejnlicagjiabLockEndsP0
set_option linter.unusedVariables false
set_option linter.unusedSimpArgs false
/-! Locks: what is asked. -/
namespace Go.Proofs.Ytkeejnlicagjiab.E
open Go.Ev

theorem any_idx {α : Type} (p : α → Bool) : ∀ l : List α, l.any p = (l.findIdx? p).isSome
  | [] => rfl
  | x :: r => by
    rw [List.any_cons, List.findIdx?_cons, any_idx p r]
    cases p x <;> simp

theorem idx_loop (N : Nat) (R : Type) (l : List LkT) (x : LkT) (p : LkT → Bool) (hp : ∀ y : LkT, lock_Locks_Ask_c1 N y.1 y.2.1 y.2.2.1 y.2.2.2.1 y.2.2.2.2.1 x.1 x.2.1 x.2.2.1 x.2.2.2.1 x.2.2.2.2.1 = some (p y, ())) (hl : l.length ≤ 9223372036854775807) (k0 : Option R) (k1 : Int → Option R) :
    ∀ (n i : Nat), l.length - i < n → slices_IndexFunc_lock_Lock_lock_Lock_l0 N R l x.1 x.2.1 x.2.2.1 x.2.2.2.1 x.2.2.2.2.1 k0 k1 n (l.length : Int) (i : Int) = (match (l.drop i).findIdx? p with | some j => k1 ((i + j : Nat) : Int) | none => k0)
  | 0, i, h => by omega
  | n + 1, i, h => by
    show slices_IndexFunc_lock_Lock_lock_Lock_l0B N R l x.1 x.2.1 x.2.2.1 x.2.2.2.1 x.2.2.2.2.1 (slices_IndexFunc_lock_Lock_lock_Lock_l0 N R l x.1 x.2.1 x.2.2.1 x.2.2.2.1 x.2.2.2.2.1 k0 k1 n) k0 k1 (l.length : Int) (i : Int) = _
    unfold slices_IndexFunc_lock_Lock_lock_Lock_l0B
    by_cases hi : i < l.length
    · rw [if_t (by omega), nth_lt hi, bind_some', Int.toNat_natCast, List.getElem?_eq_getElem hi, bind_some', hp, bind_some', List.drop_eq_getElem_cons hi, List.findIdx?_cons]
      cases hq : p l[i] with
      | true => simp
      | false =>
        rw [wrap_succ hi hl]
        simp only [cond_false, Bool.false_eq_true, if_false]
        rw [idx_loop N R l x p hp hl k0 k1 n (i + 1) (by omega)]
        cases (l.drop (i + 1)).findIdx? p with
        | none => rfl
        | some j => simp only [Option.map_some]; congr 2; omega
    · rw [if_f (by omega), List.drop_eq_nil_of_le (by omega)]; rfl

theorem idx_eq (l : List LkT) (x : LkT) (p : LkT → Bool) (hp : ∀ y : LkT, lock_Locks_Ask_c1 big y.1 y.2.1 y.2.2.1 y.2.2.2.1 y.2.2.2.2.1 x.1 x.2.1 x.2.2.1 x.2.2.2.1 x.2.2.2.2.1 = some (p y, ())) (hl : l.length ≤ 1000000) :
    slices_IndexFunc_lock_Lock_lock_Lock big l x.1 x.2.1 x.2.2.1 x.2.2.2.1 x.2.2.2.2.1 = some ((match l.findIdx? p with | some j => (j : Int) | none => -1), ()) := by
  unfold slices_IndexFunc_lock_Lock_lock_Lock slices_IndexFunc_lock_Lock_lock_Lock_cps
  have := idx_loop big _ l x p hp (by omega) (some ((-1 : Int), ())) (fun v => some (v, ())) big 0 (big_gt _ (by omega))
  rw [List.drop_zero] at this
  rw [show ((0 : Nat) : Int) = 0 from rfl] at this
  rw [this]
  cases l.findIdx? p with
  | none => rfl
  | some j => simp

theorem contains_eq (l : List LkT) (x : LkT) (p : LkT → Bool) (hp : ∀ y : LkT, lock_Locks_Ask_c1 big y.1 y.2.1 y.2.2.1 y.2.2.2.1 y.2.2.2.2.1 x.1 x.2.1 x.2.2.1 x.2.2.2.1 x.2.2.2.2.1 = some (p y, ())) (hl : l.length ≤ 1000000) :
    slices_ContainsFunc_lock_Lock_lock_Lock big l x.1 x.2.1 x.2.2.1 x.2.2.2.1 x.2.2.2.2.1 = some (l.any p, ()) := by
  unfold slices_ContainsFunc_lock_Lock_lock_Lock slices_ContainsFunc_lock_Lock_lock_Lock_cps
  rw [idx_eq l x p hp hl, bind_some']
  have e := any_idx p l
  cases h : l.findIdx? p with
  | none => rw [h] at e; rw [e]; rfl
  | some j => rw [h] at e; rw [e]; simp

theorem idx_1_loop (N : Nat) (R : Type) (l : List LkT) (x : LkT) (p : LkT → Bool) (hp : ∀ y : LkT, lock_Locks_Ask_c2 N y.1 y.2.1 y.2.2.1 y.2.2.2.1 y.2.2.2.2.1 x.1 x.2.1 x.2.2.1 x.2.2.2.1 x.2.2.2.2.1 = some (p y, ())) (hl : l.length ≤ 9223372036854775807) (k0 : Option R) (k1 : Int → Option R) :
    ∀ (n i : Nat), l.length - i < n → slices_IndexFunc_lock_Lock_lock_Lock_1_l0 N R l x.1 x.2.1 x.2.2.1 x.2.2.2.1 x.2.2.2.2.1 k0 k1 n (l.length : Int) (i : Int) = (match (l.drop i).findIdx? p with | some j => k1 ((i + j : Nat) : Int) | none => k0)
  | 0, i, h => by omega
  | n + 1, i, h => by
    show slices_IndexFunc_lock_Lock_lock_Lock_1_l0B N R l x.1 x.2.1 x.2.2.1 x.2.2.2.1 x.2.2.2.2.1 (slices_IndexFunc_lock_Lock_lock_Lock_1_l0 N R l x.1 x.2.1 x.2.2.1 x.2.2.2.1 x.2.2.2.2.1 k0 k1 n) k0 k1 (l.length : Int) (i : Int) = _
    unfold slices_IndexFunc_lock_Lock_lock_Lock_1_l0B
    by_cases hi : i < l.length
    · rw [if_t (by omega), nth_lt hi, bind_some', Int.toNat_natCast, List.getElem?_eq_getElem hi, bind_some', hp, bind_some', List.drop_eq_getElem_cons hi, List.findIdx?_cons]
      cases hq : p l[i] with
      | true => simp
      | false =>
        rw [wrap_succ hi hl]
        simp only [cond_false, Bool.false_eq_true, if_false]
        rw [idx_1_loop N R l x p hp hl k0 k1 n (i + 1) (by omega)]
        cases (l.drop (i + 1)).findIdx? p with
        | none => rfl
        | some j => simp only [Option.map_some]; congr 2; omega
    · rw [if_f (by omega), List.drop_eq_nil_of_le (by omega)]; rfl

theorem idx_1_eq (l : List LkT) (x : LkT) (p : LkT → Bool) (hp : ∀ y : LkT, lock_Locks_Ask_c2 big y.1 y.2.1 y.2.2.1 y.2.2.2.1 y.2.2.2.2.1 x.1 x.2.1 x.2.2.1 x.2.2.2.1 x.2.2.2.2.1 = some (p y, ())) (hl : l.length ≤ 1000000) :
    slices_IndexFunc_lock_Lock_lock_Lock_1 big l x.1 x.2.1 x.2.2.1 x.2.2.2.1 x.2.2.2.2.1 = some ((match l.findIdx? p with | some j => (j : Int) | none => -1), ()) := by
  unfold slices_IndexFunc_lock_Lock_lock_Lock_1 slices_IndexFunc_lock_Lock_lock_Lock_1_cps
  have := idx_1_loop big _ l x p hp (by omega) (some ((-1 : Int), ())) (fun v => some (v, ())) big 0 (big_gt _ (by omega))
  rw [List.drop_zero] at this
  rw [show ((0 : Nat) : Int) = 0 from rfl] at this
  rw [this]
  cases l.findIdx? p with
  | none => rfl
  | some j => simp

theorem contains_1_eq (l : List LkT) (x : LkT) (p : LkT → Bool) (hp : ∀ y : LkT, lock_Locks_Ask_c2 big y.1 y.2.1 y.2.2.1 y.2.2.2.1 y.2.2.2.2.1 x.1 x.2.1 x.2.2.1 x.2.2.2.1 x.2.2.2.2.1 = some (p y, ())) (hl : l.length ≤ 1000000) :
    slices_ContainsFunc_lock_Lock_lock_Lock_1 big l x.1 x.2.1 x.2.2.1 x.2.2.2.1 x.2.2.2.2.1 = some (l.any p, ()) := by
  unfold slices_ContainsFunc_lock_Lock_lock_Lock_1 slices_ContainsFunc_lock_Lock_lock_Lock_1_cps
  rw [idx_1_eq l x p hp hl, bind_some']
  have e := any_idx p l
  cases h : l.findIdx? p with
  | none => rw [h] at e; rw [e]; rfl
  | some j => rw [h] at e; rw [e]; simp

theorem idx_2_loop (N : Nat) (R : Type) (l : List LkT) (x : LkT) (p : LkT → Bool) (hp : ∀ y : LkT, lock_clashes_c1 N y.1 y.2.1 y.2.2.1 y.2.2.2.1 y.2.2.2.2.1 x.1 x.2.1 x.2.2.1 x.2.2.2.1 x.2.2.2.2.1 = some (p y, ())) (hl : l.length ≤ 9223372036854775807) (k0 : Option R) (k1 : Int → Option R) :
    ∀ (n i : Nat), l.length - i < n → slices_IndexFunc_lock_Lock_lock_Lock_2_l0 N R l x.1 x.2.1 x.2.2.1 x.2.2.2.1 x.2.2.2.2.1 k0 k1 n (l.length : Int) (i : Int) = (match (l.drop i).findIdx? p with | some j => k1 ((i + j : Nat) : Int) | none => k0)
  | 0, i, h => by omega
  | n + 1, i, h => by
    show slices_IndexFunc_lock_Lock_lock_Lock_2_l0B N R l x.1 x.2.1 x.2.2.1 x.2.2.2.1 x.2.2.2.2.1 (slices_IndexFunc_lock_Lock_lock_Lock_2_l0 N R l x.1 x.2.1 x.2.2.1 x.2.2.2.1 x.2.2.2.2.1 k0 k1 n) k0 k1 (l.length : Int) (i : Int) = _
    unfold slices_IndexFunc_lock_Lock_lock_Lock_2_l0B
    by_cases hi : i < l.length
    · rw [if_t (by omega), nth_lt hi, bind_some', Int.toNat_natCast, List.getElem?_eq_getElem hi, bind_some', hp, bind_some', List.drop_eq_getElem_cons hi, List.findIdx?_cons]
      cases hq : p l[i] with
      | true => simp
      | false =>
        rw [wrap_succ hi hl]
        simp only [cond_false, Bool.false_eq_true, if_false]
        rw [idx_2_loop N R l x p hp hl k0 k1 n (i + 1) (by omega)]
        cases (l.drop (i + 1)).findIdx? p with
        | none => rfl
        | some j => simp only [Option.map_some]; congr 2; omega
    · rw [if_f (by omega), List.drop_eq_nil_of_le (by omega)]; rfl

theorem idx_2_eq (l : List LkT) (x : LkT) (p : LkT → Bool) (hp : ∀ y : LkT, lock_clashes_c1 big y.1 y.2.1 y.2.2.1 y.2.2.2.1 y.2.2.2.2.1 x.1 x.2.1 x.2.2.1 x.2.2.2.1 x.2.2.2.2.1 = some (p y, ())) (hl : l.length ≤ 1000000) :
    slices_IndexFunc_lock_Lock_lock_Lock_2 big l x.1 x.2.1 x.2.2.1 x.2.2.2.1 x.2.2.2.2.1 = some ((match l.findIdx? p with | some j => (j : Int) | none => -1), ()) := by
  unfold slices_IndexFunc_lock_Lock_lock_Lock_2 slices_IndexFunc_lock_Lock_lock_Lock_2_cps
  have := idx_2_loop big _ l x p hp (by omega) (some ((-1 : Int), ())) (fun v => some (v, ())) big 0 (big_gt _ (by omega))
  rw [List.drop_zero] at this
  rw [show ((0 : Nat) : Int) = 0 from rfl] at this
  rw [this]
  cases l.findIdx? p with
  | none => rfl
  | some j => simp

theorem contains_2_eq (l : List LkT) (x : LkT) (p : LkT → Bool) (hp : ∀ y : LkT, lock_clashes_c1 big y.1 y.2.1 y.2.2.1 y.2.2.2.1 y.2.2.2.2.1 x.1 x.2.1 x.2.2.1 x.2.2.2.1 x.2.2.2.2.1 = some (p y, ())) (hl : l.length ≤ 1000000) :
    slices_ContainsFunc_lock_Lock_lock_Lock_2 big l x.1 x.2.1 x.2.2.1 x.2.2.2.1 x.2.2.2.2.1 = some (l.any p, ()) := by
  unfold slices_ContainsFunc_lock_Lock_lock_Lock_2 slices_ContainsFunc_lock_Lock_lock_Lock_2_cps
  rw [idx_2_eq l x p hp hl, bind_some']
  have e := any_idx p l
  cases h : l.findIdx? p with
  | none => rw [h] at e; rw [e]; rfl
  | some j => rw [h] at e; rw [e]; simp

theorem idx_3_loop (N : Nat) (R : Type) (l : List LkT) (tx : Int) (p : LkT → Bool) (hp : ∀ y : LkT, lock_without_c1 N y.1 y.2.1 y.2.2.1 y.2.2.2.1 y.2.2.2.2.1 tx = some (p y, ())) (hl : l.length ≤ 9223372036854775807) (k0 : Option R) (k1 : Int → Option R) :
    ∀ (n i : Nat), l.length - i < n → slices_IndexFunc_lock_Lock_lock_Lock_3_l0 N R l tx k0 k1 n (l.length : Int) (i : Int) = (match (l.drop i).findIdx? p with | some j => k1 ((i + j : Nat) : Int) | none => k0)
  | 0, i, h => by omega
  | n + 1, i, h => by
    show slices_IndexFunc_lock_Lock_lock_Lock_3_l0B N R l tx (slices_IndexFunc_lock_Lock_lock_Lock_3_l0 N R l tx k0 k1 n) k0 k1 (l.length : Int) (i : Int) = _
    unfold slices_IndexFunc_lock_Lock_lock_Lock_3_l0B
    by_cases hi : i < l.length
    · rw [if_t (by omega), nth_lt hi, bind_some', Int.toNat_natCast, List.getElem?_eq_getElem hi, bind_some', hp, bind_some', List.drop_eq_getElem_cons hi, List.findIdx?_cons]
      cases hq : p l[i] with
      | true => simp
      | false =>
        rw [wrap_succ hi hl]
        simp only [cond_false, Bool.false_eq_true, if_false]
        rw [idx_3_loop N R l tx p hp hl k0 k1 n (i + 1) (by omega)]
        cases (l.drop (i + 1)).findIdx? p with
        | none => rfl
        | some j => simp only [Option.map_some]; congr 2; omega
    · rw [if_f (by omega), List.drop_eq_nil_of_le (by omega)]; rfl

theorem idx_3_eq (l : List LkT) (tx : Int) (p : LkT → Bool) (hp : ∀ y : LkT, lock_without_c1 big y.1 y.2.1 y.2.2.1 y.2.2.2.1 y.2.2.2.2.1 tx = some (p y, ())) (hl : l.length ≤ 1000000) :
    slices_IndexFunc_lock_Lock_lock_Lock_3 big l tx = some ((match l.findIdx? p with | some j => (j : Int) | none => -1), ()) := by
  unfold slices_IndexFunc_lock_Lock_lock_Lock_3 slices_IndexFunc_lock_Lock_lock_Lock_3_cps
  have := idx_3_loop big _ l tx p hp (by omega) (some ((-1 : Int), ())) (fun v => some (v, ())) big 0 (big_gt _ (by omega))
  rw [List.drop_zero] at this
  rw [show ((0 : Nat) : Int) = 0 from rfl] at this
  rw [this]
  cases l.findIdx? p with
  | none => rfl
  | some j => simp

def clashesL (l : List LkT) (x : LkT) : Bool := l.any fun y => clash x y

theorem clashes_eq (l : List LkT) (x : LkT) (hl : l.length ≤ 1000000) : lock_clashes big x.1 x.2.1 x.2.2.1 x.2.2.2.1 x.2.2.2.2.1 l = some (clashesL l x, ()) := by
  unfold lock_clashes lock_clashes_cps
  rw [contains_2_eq l x (fun y => clash x y) (fun y => by unfold lock_clashes_c1 lock_clashes_c1_cps; rw [clash_eq big x y]; rfl) hl]; rfl

def waitsL (l : List LkT) (tx : Int) : Bool := l.any fun y => decide (y.1 = tx)
def coveredL (l : List LkT) (x : LkT) : Bool := l.any fun y => coversL y x

/-- What an asking comes to. -/
def askL (g w : List LkT) (x : LkT) : Bool × (Int × (List LkT × (List LkT × Unit))) :=
  bif !rightL x then (false, (1, (g, (w, ()))))
  else bif waitsL w x.1 then (false, (92, (g, (w, ()))))
  else bif coveredL g x then (true, (0, (g, (w, ()))))
  else bif decide (1024 ≤ g.length + w.length) then (false, (62, (g, (w, ()))))
  else bif clashesL g x || clashesL w x then (false, (0, (g, (w ++ [x], ()))))
  else (true, (0, (g ++ [x], (w, ()))))

theorem ask_eq (g w : List LkT) (x : LkT) (hx : Fine x) (hg : g.length ≤ 10000) (hw : w.length ≤ 10000) : lock_Locks_Ask big x.1 x.2.1 x.2.2.1 x.2.2.2.1 x.2.2.2.2.1 g w = some (askL g w x) := by
  unfold lock_Locks_Ask lock_Locks_Ask_cps askL
  rw [right_eq, bind_some']
  cases rightL x with
  | false => rfl
  | true =>
    simp only [Bool.not_true, cond_false]
    rw [contains_eq w x (fun y => decide (y.1 = x.1)) (fun y => rfl) (by omega), bind_some']
    show (bif waitsL w x.1 then _ else _) = _
    cases waitsL w x.1 with
    | true => rfl
    | false =>
      simp only [cond_false]
      rw [contains_1_eq g x (fun y => coversL y x) (fun y => by unfold lock_Locks_Ask_c2 lock_Locks_Ask_c2_cps; rw [covers_eq big y x]; rfl) (by omega), bind_some']
      show (bif coveredL g x then _ else _) = _
      cases coveredL g x with
      | true => rfl
      | false =>
        simp only [cond_false]
        rw [wrap_i64_id (by omega) (by omega)]
        by_cases hf : 1024 ≤ g.length + w.length
        · rw [if_t (by omega), dec_t hf]; rfl
        · rw [if_f (by omega), dec_f hf, copied_eq big x hx, bind_some', clashes_eq g x (by omega), bind_some']
          simp only [cond_false]
          cases clashesL g x with
          | true =>
            simp only [Bool.true_or, cond_true]
            rw [cond_t (room_of (by simp; omega))]
          | false =>
            simp only [Bool.false_or, cond_false]
            rw [clashes_eq w x (by omega), bind_some']
            cases clashesL w x with
            | true => simp only [cond_true]; rw [cond_t (room_of (by simp; omega))]
            | false => simp only [cond_false]; rw [cond_t (room_of (by simp; omega))]

end Go.Proofs.Ytkeejnlicagjiab.E
