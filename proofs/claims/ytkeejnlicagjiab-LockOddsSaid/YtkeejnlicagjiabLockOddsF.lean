/-
  The statement LockOdds of the program is proved: for every input that the row speaks of, the law answers true.
  Conditions: those that the statement's row prints, and no other. This text: pure functions, printed by a program out of the translation.
-/
import Derived.Test.YtkeejnlicagjiabEvA
import Derived.Lib.Bytealg
set_option linter.unusedVariables false
set_option linter.unusedSimpArgs false
/-! Pure functions, printed by wip/gen out of the translation. -/
namespace Go.Proofs.Ytkeejnlicagjiab.E
open Go.Ev
noncomputable section
/-! frankpledge/frankpledgelaw09.short -/
def law09_short_cps (N : Nat) (R : Type) (K : Bool → Option R) (v1 : Int) (v2 : (List UInt8)) (v3 : (List UInt8)) (v4 : (List UInt8)) (v5 : Int) : Option R :=
  (bif (decide ((v3.length : Int) ≤ 40)) then
  (bif (decide ((v4.length : Int) ≤ 40)) then
  (K (decide ((v2.length : Int) ≤ 40)))
  else
  (K false))
  else
  (K false))

def law09_short (N : Nat) (v1 : Int) (v2 : (List UInt8)) (v3 : (List UInt8)) (v4 : (List UInt8)) (v5 : Int) : Option (Bool × Unit) := law09_short_cps N _ (fun a0 => some (a0, ())) v1 v2 v3 v4 v5

/-! frankpledge/lock.New -/
def lock_New_cps (N : Nat) (R : Type) (K : (List (Int × ((List UInt8) × ((List UInt8) × ((List UInt8) × (Int × Unit)))))) → (List (Int × ((List UInt8) × ((List UInt8) × ((List UInt8) × (Int × Unit)))))) → Option R)  : Option R :=
  (K [] [])

def lock_New (N : Nat)  : Option ((List (Int × ((List UInt8) × ((List UInt8) × ((List UInt8) × (Int × Unit)))))) × (List (Int × ((List UInt8) × ((List UInt8) × ((List UInt8) × (Int × Unit)))))) × Unit) := lock_New_cps N _ (fun a0 a1 => some (a0, (a1, ()))) 

/-! internal/bytealg.Compare -/
def bytealg_Compare_cps (N : Nat) (R : Type) (K : Int → Option R) (v1 : (List UInt8)) (v2 : (List UInt8)) : Option R :=
  (K (Lib.compareBytes v1 v2))

def bytealg_Compare (N : Nat) (v1 : (List UInt8)) (v2 : (List UInt8)) : Option (Int × Unit) := bytealg_Compare_cps N _ (fun a0 => some (a0, ())) v1 v2

/-! bytes.Compare -/
def bytes_Compare_cps (N : Nat) (R : Type) (K : Int → Option R) (v1 : (List UInt8)) (v2 : (List UInt8)) : Option R :=
  (Option.bind (bytealg_Compare N v1 v2) fun (v3 : Int × Unit) =>
  (K v3.1))

def bytes_Compare (N : Nat) (v1 : (List UInt8)) (v2 : (List UInt8)) : Option (Int × Unit) := bytes_Compare_cps N _ (fun a0 => some (a0, ())) v1 v2

/-! frankpledge/lock.ahead -/
def lock_ahead_cps (N : Nat) (R : Type) (K : Bool → Option R) (v1 : (List UInt8)) (v2 : (List UInt8)) : Option R :=
  (bif (decide ((v2.length : Int) = 0)) then
  (K true)
  else
  (Option.bind (bytes_Compare N v1 v2) fun (v3 : Int × Unit) =>
  (K (decide (v3.1 < 0)))))

def lock_ahead (N : Nat) (v1 : (List UInt8)) (v2 : (List UInt8)) : Option (Bool × Unit) := lock_ahead_cps N _ (fun a0 => some (a0, ())) v1 v2

/-! (frankpledge/lock.Lock).right -/
def lock_Lock_right_cps (N : Nat) (R : Type) (K : Bool → Option R) (v1 : Int) (v2 : (List UInt8)) (v3 : (List UInt8)) (v4 : (List UInt8)) (v5 : Int) : Option R :=
  (bif (decide (v5 = 1)) then
  (Option.bind (lock_ahead N v3 v4) fun (v6 : Bool × Unit) =>
  (K v6.1))
  else
  (bif (decide (v5 = 2)) then
  (Option.bind (lock_ahead N v3 v4) fun (v7 : Bool × Unit) =>
  (K v7.1))
  else
  (K false)))

def lock_Lock_right (N : Nat) (v1 : Int) (v2 : (List UInt8)) (v3 : (List UInt8)) (v4 : (List UInt8)) (v5 : Int) : Option (Bool × Unit) := lock_Lock_right_cps N _ (fun a0 => some (a0, ())) v1 v2 v3 v4 v5

/-! (*frankpledge/lock.Locks).Ask$1 -/
def lock_Locks_Ask_c1_cps (N : Nat) (R : Type) (K : Bool → Option R) (v1 : Int) (v2 : (List UInt8)) (v3 : (List UInt8)) (v4 : (List UInt8)) (v5 : Int) (v6 : Int) (v7 : (List UInt8)) (v8 : (List UInt8)) (v9 : (List UInt8)) (v10 : Int) : Option R :=
  (K (decide (v1 = v6)))

def lock_Locks_Ask_c1 (N : Nat) (v1 : Int) (v2 : (List UInt8)) (v3 : (List UInt8)) (v4 : (List UInt8)) (v5 : Int) (v6 : Int) (v7 : (List UInt8)) (v8 : (List UInt8)) (v9 : (List UInt8)) (v10 : Int) : Option (Bool × Unit) := lock_Locks_Ask_c1_cps N _ (fun a0 => some (a0, ())) v1 v2 v3 v4 v5 v6 v7 v8 v9 v10

/-! slices.IndexFunc[[]frankpledge/lock.Lock,frankpledge/lock.Lock] -/
def slices_IndexFunc_lock_Lock_lock_Lock_l0B (N : Nat) (R : Type) (v10 : (List (Int × ((List UInt8) × ((List UInt8) × ((List UInt8) × (Int × Unit))))))) (v11 : Int) (v12 : (List UInt8)) (v13 : (List UInt8)) (v14 : (List UInt8)) (v15 : Int) (rec : Int → Int → Option R) (k0 : Option R) (k1 : Int → Option R) (v8 : Int) (v9 : Int) : Option R :=
  (bif (decide (v9 < v8)) then
  (Option.bind (nth v10 v9) fun (_ : (Int × ((List UInt8) × ((List UInt8) × ((List UInt8) × (Int × Unit)))))) =>
  (Option.bind (v10[(Int.toNat v9)]?) fun (v16 : (Int × ((List UInt8) × ((List UInt8) × ((List UInt8) × (Int × Unit)))))) =>
  (Option.bind (lock_Locks_Ask_c1 N v16.1 v16.2.1 v16.2.2.1 v16.2.2.2.1 v16.2.2.2.2.1 v11 v12 v13 v14 v15) fun (v17 : Bool × Unit) =>
  (bif v17.1 then
  (k1 v9)
  else
  (rec v8 (IntKind.wrap .i64 (v9 + 1)))))))
  else
  k0)

def slices_IndexFunc_lock_Lock_lock_Lock_l0 (N : Nat) (R : Type) (v10 : (List (Int × ((List UInt8) × ((List UInt8) × ((List UInt8) × (Int × Unit))))))) (v11 : Int) (v12 : (List UInt8)) (v13 : (List UInt8)) (v14 : (List UInt8)) (v15 : Int) (k0 : Option R) (k1 : Int → Option R) : Nat → Int → Int → Option R
  | 0 => fun _ _ => none
  | n + 1 => slices_IndexFunc_lock_Lock_lock_Lock_l0B N R v10 v11 v12 v13 v14 v15 (slices_IndexFunc_lock_Lock_lock_Lock_l0 N R v10 v11 v12 v13 v14 v15 k0 k1 n) k0 k1

def slices_IndexFunc_lock_Lock_lock_Lock_cps (N : Nat) (R : Type) (K : Int → Option R) (v1 : (List (Int × ((List UInt8) × ((List UInt8) × ((List UInt8) × (Int × Unit))))))) (v2 : Int) (v3 : (List UInt8)) (v4 : (List UInt8)) (v5 : (List UInt8)) (v6 : Int) : Option R :=
  (slices_IndexFunc_lock_Lock_lock_Lock_l0 N _ v1 v2 v3 v4 v5 v6 ((K (-1))) (fun (v7 : Int) =>
  (K v7)) N (v1.length : Int) 0)

def slices_IndexFunc_lock_Lock_lock_Lock (N : Nat) (v1 : (List (Int × ((List UInt8) × ((List UInt8) × ((List UInt8) × (Int × Unit))))))) (v2 : Int) (v3 : (List UInt8)) (v4 : (List UInt8)) (v5 : (List UInt8)) (v6 : Int) : Option (Int × Unit) := slices_IndexFunc_lock_Lock_lock_Lock_cps N _ (fun a0 => some (a0, ())) v1 v2 v3 v4 v5 v6

/-! slices.ContainsFunc[[]frankpledge/lock.Lock,frankpledge/lock.Lock] -/
def slices_ContainsFunc_lock_Lock_lock_Lock_cps (N : Nat) (R : Type) (K : Bool → Option R) (v1 : (List (Int × ((List UInt8) × ((List UInt8) × ((List UInt8) × (Int × Unit))))))) (v2 : Int) (v3 : (List UInt8)) (v4 : (List UInt8)) (v5 : (List UInt8)) (v6 : Int) : Option R :=
  (Option.bind (slices_IndexFunc_lock_Lock_lock_Lock N v1 v2 v3 v4 v5 v6) fun (v7 : Int × Unit) =>
  (K (decide (0 ≤ v7.1))))

def slices_ContainsFunc_lock_Lock_lock_Lock (N : Nat) (v1 : (List (Int × ((List UInt8) × ((List UInt8) × ((List UInt8) × (Int × Unit))))))) (v2 : Int) (v3 : (List UInt8)) (v4 : (List UInt8)) (v5 : (List UInt8)) (v6 : Int) : Option (Bool × Unit) := slices_ContainsFunc_lock_Lock_lock_Lock_cps N _ (fun a0 => some (a0, ())) v1 v2 v3 v4 v5 v6

/-! (frankpledge/lock.Lock).covers -/
def lock_Lock_covers_cps (N : Nat) (R : Type) (K : Bool → Option R) (v1 : Int) (v2 : (List UInt8)) (v3 : (List UInt8)) (v4 : (List UInt8)) (v5 : Int) (v6 : Int) (v7 : (List UInt8)) (v8 : (List UInt8)) (v9 : (List UInt8)) (v10 : Int) : Option R :=
  (bif (!(decide (v1 = v6))) then
  (K false)
  else
  (bif (!(decide (v2 = v7))) then
  (K false)
  else
  (bif (!(decide (v5 = v10))) then
  (bif (!(decide (v5 = 2))) then
  (K false)
  else
  (Option.bind (bytes_Compare N v3 v8) fun (v11 : Int × Unit) =>
  (bif (decide (v11.1 ≤ 0)) then
  (bif (decide ((v4.length : Int) = 0)) then
  (K true)
  else
  (bif (decide (0 < (v9.length : Int))) then
  (Option.bind (bytes_Compare N v9 v4) fun (v12 : Int × Unit) =>
  (K (decide (v12.1 ≤ 0))))
  else
  (K false)))
  else
  (K false))))
  else
  (Option.bind (bytes_Compare N v3 v8) fun (v13 : Int × Unit) =>
  (bif (decide (v13.1 ≤ 0)) then
  (bif (decide ((v4.length : Int) = 0)) then
  (K true)
  else
  (bif (decide (0 < (v9.length : Int))) then
  (Option.bind (bytes_Compare N v9 v4) fun (v14 : Int × Unit) =>
  (K (decide (v14.1 ≤ 0))))
  else
  (K false)))
  else
  (K false))))))

def lock_Lock_covers (N : Nat) (v1 : Int) (v2 : (List UInt8)) (v3 : (List UInt8)) (v4 : (List UInt8)) (v5 : Int) (v6 : Int) (v7 : (List UInt8)) (v8 : (List UInt8)) (v9 : (List UInt8)) (v10 : Int) : Option (Bool × Unit) := lock_Lock_covers_cps N _ (fun a0 => some (a0, ())) v1 v2 v3 v4 v5 v6 v7 v8 v9 v10

/-! (*frankpledge/lock.Locks).Ask$2 -/
def lock_Locks_Ask_c2_cps (N : Nat) (R : Type) (K : Bool → Option R) (v1 : Int) (v2 : (List UInt8)) (v3 : (List UInt8)) (v4 : (List UInt8)) (v5 : Int) (v6 : Int) (v7 : (List UInt8)) (v8 : (List UInt8)) (v9 : (List UInt8)) (v10 : Int) : Option R :=
  (Option.bind (lock_Lock_covers N v1 v2 v3 v4 v5 v6 v7 v8 v9 v10) fun (v11 : Bool × Unit) =>
  (K v11.1))

def lock_Locks_Ask_c2 (N : Nat) (v1 : Int) (v2 : (List UInt8)) (v3 : (List UInt8)) (v4 : (List UInt8)) (v5 : Int) (v6 : Int) (v7 : (List UInt8)) (v8 : (List UInt8)) (v9 : (List UInt8)) (v10 : Int) : Option (Bool × Unit) := lock_Locks_Ask_c2_cps N _ (fun a0 => some (a0, ())) v1 v2 v3 v4 v5 v6 v7 v8 v9 v10

/-! slices.IndexFunc[[]frankpledge/lock.Lock,frankpledge/lock.Lock] -/
def slices_IndexFunc_lock_Lock_lock_Lock_1_l0B (N : Nat) (R : Type) (v10 : (List (Int × ((List UInt8) × ((List UInt8) × ((List UInt8) × (Int × Unit))))))) (v11 : Int) (v12 : (List UInt8)) (v13 : (List UInt8)) (v14 : (List UInt8)) (v15 : Int) (rec : Int → Int → Option R) (k0 : Option R) (k1 : Int → Option R) (v8 : Int) (v9 : Int) : Option R :=
  (bif (decide (v9 < v8)) then
  (Option.bind (nth v10 v9) fun (_ : (Int × ((List UInt8) × ((List UInt8) × ((List UInt8) × (Int × Unit)))))) =>
  (Option.bind (v10[(Int.toNat v9)]?) fun (v16 : (Int × ((List UInt8) × ((List UInt8) × ((List UInt8) × (Int × Unit)))))) =>
  (Option.bind (lock_Locks_Ask_c2 N v16.1 v16.2.1 v16.2.2.1 v16.2.2.2.1 v16.2.2.2.2.1 v11 v12 v13 v14 v15) fun (v17 : Bool × Unit) =>
  (bif v17.1 then
  (k1 v9)
  else
  (rec v8 (IntKind.wrap .i64 (v9 + 1)))))))
  else
  k0)

def slices_IndexFunc_lock_Lock_lock_Lock_1_l0 (N : Nat) (R : Type) (v10 : (List (Int × ((List UInt8) × ((List UInt8) × ((List UInt8) × (Int × Unit))))))) (v11 : Int) (v12 : (List UInt8)) (v13 : (List UInt8)) (v14 : (List UInt8)) (v15 : Int) (k0 : Option R) (k1 : Int → Option R) : Nat → Int → Int → Option R
  | 0 => fun _ _ => none
  | n + 1 => slices_IndexFunc_lock_Lock_lock_Lock_1_l0B N R v10 v11 v12 v13 v14 v15 (slices_IndexFunc_lock_Lock_lock_Lock_1_l0 N R v10 v11 v12 v13 v14 v15 k0 k1 n) k0 k1

def slices_IndexFunc_lock_Lock_lock_Lock_1_cps (N : Nat) (R : Type) (K : Int → Option R) (v1 : (List (Int × ((List UInt8) × ((List UInt8) × ((List UInt8) × (Int × Unit))))))) (v2 : Int) (v3 : (List UInt8)) (v4 : (List UInt8)) (v5 : (List UInt8)) (v6 : Int) : Option R :=
  (slices_IndexFunc_lock_Lock_lock_Lock_1_l0 N _ v1 v2 v3 v4 v5 v6 ((K (-1))) (fun (v7 : Int) =>
  (K v7)) N (v1.length : Int) 0)

def slices_IndexFunc_lock_Lock_lock_Lock_1 (N : Nat) (v1 : (List (Int × ((List UInt8) × ((List UInt8) × ((List UInt8) × (Int × Unit))))))) (v2 : Int) (v3 : (List UInt8)) (v4 : (List UInt8)) (v5 : (List UInt8)) (v6 : Int) : Option (Int × Unit) := slices_IndexFunc_lock_Lock_lock_Lock_1_cps N _ (fun a0 => some (a0, ())) v1 v2 v3 v4 v5 v6

/-! slices.ContainsFunc[[]frankpledge/lock.Lock,frankpledge/lock.Lock] -/
def slices_ContainsFunc_lock_Lock_lock_Lock_1_cps (N : Nat) (R : Type) (K : Bool → Option R) (v1 : (List (Int × ((List UInt8) × ((List UInt8) × ((List UInt8) × (Int × Unit))))))) (v2 : Int) (v3 : (List UInt8)) (v4 : (List UInt8)) (v5 : (List UInt8)) (v6 : Int) : Option R :=
  (Option.bind (slices_IndexFunc_lock_Lock_lock_Lock_1 N v1 v2 v3 v4 v5 v6) fun (v7 : Int × Unit) =>
  (K (decide (0 ≤ v7.1))))

def slices_ContainsFunc_lock_Lock_lock_Lock_1 (N : Nat) (v1 : (List (Int × ((List UInt8) × ((List UInt8) × ((List UInt8) × (Int × Unit))))))) (v2 : Int) (v3 : (List UInt8)) (v4 : (List UInt8)) (v5 : (List UInt8)) (v6 : Int) : Option (Bool × Unit) := slices_ContainsFunc_lock_Lock_lock_Lock_1_cps N _ (fun a0 => some (a0, ())) v1 v2 v3 v4 v5 v6

/-! bytes.Clone -/
def bytes_Clone_cps (N : Nat) (R : Type) (K : (List UInt8) → Option R) (v1 : (List UInt8)) : Option R :=
  (bif (room 1 (([] : List UInt8).length + v1.length)) then
  (K ([] ++ v1))
  else
  none)

def bytes_Clone (N : Nat) (v1 : (List UInt8)) : Option ((List UInt8) × Unit) := bytes_Clone_cps N _ (fun a0 => some (a0, ())) v1

/-! bytes.Clone -/
def bytes_Clone_1_cps (N : Nat) (R : Type) (K : Option R)  : Option R :=
  K

def bytes_Clone_1 (N : Nat)  : Option (Unit) := bytes_Clone_1_cps N _ (some ()) 

/-! (frankpledge/lock.Lock).copied -/
def lock_Lock_copied_cps (N : Nat) (R : Type) (K : Int → (List UInt8) → (List UInt8) → (List UInt8) → Int → Option R) (v1 : Int) (v2 : (List UInt8)) (v3 : (List UInt8)) (v4 : (List UInt8)) (v5 : Int) : Option R :=
  (Option.bind (bytes_Clone N v3) fun (v6 : (List UInt8) × Unit) =>
  (Option.bind (bytes_Clone N v4) fun (v7 : (List UInt8) × Unit) =>
  (K v1 v2 v6.1 v7.1 v5)))

def lock_Lock_copied (N : Nat) (v1 : Int) (v2 : (List UInt8)) (v3 : (List UInt8)) (v4 : (List UInt8)) (v5 : Int) : Option (Int × (List UInt8) × (List UInt8) × (List UInt8) × Int × Unit) := lock_Lock_copied_cps N _ (fun a0 a1 a2 a3 a4 => some (a0, (a1, (a2, (a3, (a4, ())))))) v1 v2 v3 v4 v5

/-! frankpledge/lock.Clash -/
def lock_Clash_cps (N : Nat) (R : Type) (K : Bool → Option R) (v1 : Int) (v2 : (List UInt8)) (v3 : (List UInt8)) (v4 : (List UInt8)) (v5 : Int) (v6 : Int) (v7 : (List UInt8)) (v8 : (List UInt8)) (v9 : (List UInt8)) (v10 : Int) : Option R :=
  (bif (decide (v1 = v6)) then
  (K false)
  else
  (bif (!(decide (v2 = v7))) then
  (K false)
  else
  (bif (decide (v5 = 1)) then
  (bif (decide (v10 = 1)) then
  (K false)
  else
  (Option.bind (bytes_Compare N v8 v3) fun (v11 : Int × Unit) =>
  (bif (decide (0 < v11.1)) then
  (Option.bind (lock_ahead N v8 v4) fun (v12 : Bool × Unit) =>
  (bif v12.1 then
  (Option.bind (lock_ahead N v8 v9) fun (v13 : Bool × Unit) =>
  (K v13.1))
  else
  (K false)))
  else
  (Option.bind (lock_ahead N v3 v4) fun (v14 : Bool × Unit) =>
  (bif v14.1 then
  (Option.bind (lock_ahead N v3 v9) fun (v15 : Bool × Unit) =>
  (K v15.1))
  else
  (K false))))))
  else
  (Option.bind (bytes_Compare N v8 v3) fun (v16 : Int × Unit) =>
  (bif (decide (0 < v16.1)) then
  (Option.bind (lock_ahead N v8 v4) fun (v17 : Bool × Unit) =>
  (bif v17.1 then
  (Option.bind (lock_ahead N v8 v9) fun (v18 : Bool × Unit) =>
  (K v18.1))
  else
  (K false)))
  else
  (Option.bind (lock_ahead N v3 v4) fun (v19 : Bool × Unit) =>
  (bif v19.1 then
  (Option.bind (lock_ahead N v3 v9) fun (v20 : Bool × Unit) =>
  (K v20.1))
  else
  (K false))))))))

def lock_Clash (N : Nat) (v1 : Int) (v2 : (List UInt8)) (v3 : (List UInt8)) (v4 : (List UInt8)) (v5 : Int) (v6 : Int) (v7 : (List UInt8)) (v8 : (List UInt8)) (v9 : (List UInt8)) (v10 : Int) : Option (Bool × Unit) := lock_Clash_cps N _ (fun a0 => some (a0, ())) v1 v2 v3 v4 v5 v6 v7 v8 v9 v10

/-! frankpledge/lock.clashes$1 -/
def lock_clashes_c1_cps (N : Nat) (R : Type) (K : Bool → Option R) (v1 : Int) (v2 : (List UInt8)) (v3 : (List UInt8)) (v4 : (List UInt8)) (v5 : Int) (v6 : Int) (v7 : (List UInt8)) (v8 : (List UInt8)) (v9 : (List UInt8)) (v10 : Int) : Option R :=
  (Option.bind (lock_Clash N v6 v7 v8 v9 v10 v1 v2 v3 v4 v5) fun (v11 : Bool × Unit) =>
  (K v11.1))

def lock_clashes_c1 (N : Nat) (v1 : Int) (v2 : (List UInt8)) (v3 : (List UInt8)) (v4 : (List UInt8)) (v5 : Int) (v6 : Int) (v7 : (List UInt8)) (v8 : (List UInt8)) (v9 : (List UInt8)) (v10 : Int) : Option (Bool × Unit) := lock_clashes_c1_cps N _ (fun a0 => some (a0, ())) v1 v2 v3 v4 v5 v6 v7 v8 v9 v10

/-! slices.IndexFunc[[]frankpledge/lock.Lock,frankpledge/lock.Lock] -/
def slices_IndexFunc_lock_Lock_lock_Lock_2_l0B (N : Nat) (R : Type) (v10 : (List (Int × ((List UInt8) × ((List UInt8) × ((List UInt8) × (Int × Unit))))))) (v11 : Int) (v12 : (List UInt8)) (v13 : (List UInt8)) (v14 : (List UInt8)) (v15 : Int) (rec : Int → Int → Option R) (k0 : Option R) (k1 : Int → Option R) (v8 : Int) (v9 : Int) : Option R :=
  (bif (decide (v9 < v8)) then
  (Option.bind (nth v10 v9) fun (_ : (Int × ((List UInt8) × ((List UInt8) × ((List UInt8) × (Int × Unit)))))) =>
  (Option.bind (v10[(Int.toNat v9)]?) fun (v16 : (Int × ((List UInt8) × ((List UInt8) × ((List UInt8) × (Int × Unit)))))) =>
  (Option.bind (lock_clashes_c1 N v16.1 v16.2.1 v16.2.2.1 v16.2.2.2.1 v16.2.2.2.2.1 v11 v12 v13 v14 v15) fun (v17 : Bool × Unit) =>
  (bif v17.1 then
  (k1 v9)
  else
  (rec v8 (IntKind.wrap .i64 (v9 + 1)))))))
  else
  k0)

def slices_IndexFunc_lock_Lock_lock_Lock_2_l0 (N : Nat) (R : Type) (v10 : (List (Int × ((List UInt8) × ((List UInt8) × ((List UInt8) × (Int × Unit))))))) (v11 : Int) (v12 : (List UInt8)) (v13 : (List UInt8)) (v14 : (List UInt8)) (v15 : Int) (k0 : Option R) (k1 : Int → Option R) : Nat → Int → Int → Option R
  | 0 => fun _ _ => none
  | n + 1 => slices_IndexFunc_lock_Lock_lock_Lock_2_l0B N R v10 v11 v12 v13 v14 v15 (slices_IndexFunc_lock_Lock_lock_Lock_2_l0 N R v10 v11 v12 v13 v14 v15 k0 k1 n) k0 k1

def slices_IndexFunc_lock_Lock_lock_Lock_2_cps (N : Nat) (R : Type) (K : Int → Option R) (v1 : (List (Int × ((List UInt8) × ((List UInt8) × ((List UInt8) × (Int × Unit))))))) (v2 : Int) (v3 : (List UInt8)) (v4 : (List UInt8)) (v5 : (List UInt8)) (v6 : Int) : Option R :=
  (slices_IndexFunc_lock_Lock_lock_Lock_2_l0 N _ v1 v2 v3 v4 v5 v6 ((K (-1))) (fun (v7 : Int) =>
  (K v7)) N (v1.length : Int) 0)

def slices_IndexFunc_lock_Lock_lock_Lock_2 (N : Nat) (v1 : (List (Int × ((List UInt8) × ((List UInt8) × ((List UInt8) × (Int × Unit))))))) (v2 : Int) (v3 : (List UInt8)) (v4 : (List UInt8)) (v5 : (List UInt8)) (v6 : Int) : Option (Int × Unit) := slices_IndexFunc_lock_Lock_lock_Lock_2_cps N _ (fun a0 => some (a0, ())) v1 v2 v3 v4 v5 v6

/-! slices.ContainsFunc[[]frankpledge/lock.Lock,frankpledge/lock.Lock] -/
def slices_ContainsFunc_lock_Lock_lock_Lock_2_cps (N : Nat) (R : Type) (K : Bool → Option R) (v1 : (List (Int × ((List UInt8) × ((List UInt8) × ((List UInt8) × (Int × Unit))))))) (v2 : Int) (v3 : (List UInt8)) (v4 : (List UInt8)) (v5 : (List UInt8)) (v6 : Int) : Option R :=
  (Option.bind (slices_IndexFunc_lock_Lock_lock_Lock_2 N v1 v2 v3 v4 v5 v6) fun (v7 : Int × Unit) =>
  (K (decide (0 ≤ v7.1))))

def slices_ContainsFunc_lock_Lock_lock_Lock_2 (N : Nat) (v1 : (List (Int × ((List UInt8) × ((List UInt8) × ((List UInt8) × (Int × Unit))))))) (v2 : Int) (v3 : (List UInt8)) (v4 : (List UInt8)) (v5 : (List UInt8)) (v6 : Int) : Option (Bool × Unit) := slices_ContainsFunc_lock_Lock_lock_Lock_2_cps N _ (fun a0 => some (a0, ())) v1 v2 v3 v4 v5 v6

/-! frankpledge/lock.clashes -/
def lock_clashes_cps (N : Nat) (R : Type) (K : Bool → Option R) (v1 : Int) (v2 : (List UInt8)) (v3 : (List UInt8)) (v4 : (List UInt8)) (v5 : Int) (v6 : (List (Int × ((List UInt8) × ((List UInt8) × ((List UInt8) × (Int × Unit))))))) : Option R :=
  (Option.bind (slices_ContainsFunc_lock_Lock_lock_Lock_2 N v6 v1 v2 v3 v4 v5) fun (v7 : Bool × Unit) =>
  (K v7.1))

def lock_clashes (N : Nat) (v1 : Int) (v2 : (List UInt8)) (v3 : (List UInt8)) (v4 : (List UInt8)) (v5 : Int) (v6 : (List (Int × ((List UInt8) × ((List UInt8) × ((List UInt8) × (Int × Unit))))))) : Option (Bool × Unit) := lock_clashes_cps N _ (fun a0 => some (a0, ())) v1 v2 v3 v4 v5 v6

/-! (*frankpledge/lock.Locks).Ask -/
def lock_Locks_Ask_cps (N : Nat) (R : Type) (K : Bool → Int → (List (Int × ((List UInt8) × ((List UInt8) × ((List UInt8) × (Int × Unit)))))) → (List (Int × ((List UInt8) × ((List UInt8) × ((List UInt8) × (Int × Unit)))))) → Option R) (v1 : Int) (v2 : (List UInt8)) (v3 : (List UInt8)) (v4 : (List UInt8)) (v5 : Int) (v6 : (List (Int × ((List UInt8) × ((List UInt8) × ((List UInt8) × (Int × Unit))))))) (v7 : (List (Int × ((List UInt8) × ((List UInt8) × ((List UInt8) × (Int × Unit))))))) : Option R :=
  (Option.bind (lock_Lock_right N v1 v2 v3 v4 v5) fun (v8 : Bool × Unit) =>
  (bif (!v8.1) then
  (K false 1 v6 v7)
  else
  (Option.bind (slices_ContainsFunc_lock_Lock_lock_Lock N v7 v1 v2 v3 v4 v5) fun (v9 : Bool × Unit) =>
  (bif v9.1 then
  (K false 92 v6 v7)
  else
  (Option.bind (slices_ContainsFunc_lock_Lock_lock_Lock_1 N v6 v1 v2 v3 v4 v5) fun (v10 : Bool × Unit) =>
  (bif v10.1 then
  (K true 0 v6 v7)
  else
  (bif (decide (1024 ≤ (IntKind.wrap .i64 ((v6.length : Int) + (v7.length : Int))))) then
  (K false 62 v6 v7)
  else
  (Option.bind (lock_Lock_copied N v1 v2 v3 v4 v5) fun (v11 : Int × (List UInt8) × (List UInt8) × (List UInt8) × Int × Unit) =>
  (Option.bind (lock_clashes N v11.1 v11.2.1 v11.2.2.1 v11.2.2.2.1 v11.2.2.2.2.1 v6) fun (v12 : Bool × Unit) =>
  (bif v12.1 then
  (bif (room 80 (v7.length + ([(v11.1, (v11.2.1, (v11.2.2.1, (v11.2.2.2.1, (v11.2.2.2.2.1, ())))))] : (List (Int × ((List UInt8) × ((List UInt8) × ((List UInt8) × (Int × Unit))))))).length)) then
  (K false 0 v6 (v7 ++ ([(v11.1, (v11.2.1, (v11.2.2.1, (v11.2.2.2.1, (v11.2.2.2.2.1, ())))))] : (List (Int × ((List UInt8) × ((List UInt8) × ((List UInt8) × (Int × Unit)))))))))
  else
  none)
  else
  (Option.bind (lock_clashes N v11.1 v11.2.1 v11.2.2.1 v11.2.2.2.1 v11.2.2.2.2.1 v7) fun (v13 : Bool × Unit) =>
  (bif v13.1 then
  (bif (room 80 (v7.length + ([(v11.1, (v11.2.1, (v11.2.2.1, (v11.2.2.2.1, (v11.2.2.2.2.1, ())))))] : (List (Int × ((List UInt8) × ((List UInt8) × ((List UInt8) × (Int × Unit))))))).length)) then
  (K false 0 v6 (v7 ++ ([(v11.1, (v11.2.1, (v11.2.2.1, (v11.2.2.2.1, (v11.2.2.2.2.1, ())))))] : (List (Int × ((List UInt8) × ((List UInt8) × ((List UInt8) × (Int × Unit)))))))))
  else
  none)
  else
  (bif (room 80 (v6.length + ([(v11.1, (v11.2.1, (v11.2.2.1, (v11.2.2.2.1, (v11.2.2.2.2.1, ())))))] : (List (Int × ((List UInt8) × ((List UInt8) × ((List UInt8) × (Int × Unit))))))).length)) then
  (K true 0 (v6 ++ ([(v11.1, (v11.2.1, (v11.2.2.1, (v11.2.2.2.1, (v11.2.2.2.2.1, ())))))] : (List (Int × ((List UInt8) × ((List UInt8) × ((List UInt8) × (Int × Unit)))))))) v7)
  else
  none)))))))))))))

def lock_Locks_Ask (N : Nat) (v1 : Int) (v2 : (List UInt8)) (v3 : (List UInt8)) (v4 : (List UInt8)) (v5 : Int) (v6 : (List (Int × ((List UInt8) × ((List UInt8) × ((List UInt8) × (Int × Unit))))))) (v7 : (List (Int × ((List UInt8) × ((List UInt8) × ((List UInt8) × (Int × Unit))))))) : Option (Bool × Int × (List (Int × ((List UInt8) × ((List UInt8) × ((List UInt8) × (Int × Unit)))))) × (List (Int × ((List UInt8) × ((List UInt8) × ((List UInt8) × (Int × Unit)))))) × Unit) := lock_Locks_Ask_cps N _ (fun a0 a1 a2 a3 => some (a0, (a1, (a2, (a3, ()))))) v1 v2 v3 v4 v5 v6 v7

/-! (*frankpledge/lock.Locks).Ask -/
def lock_Locks_Ask_1_cps (N : Nat) (R : Type) (K : Bool → Int → (List (Int × ((List UInt8) × ((List UInt8) × ((List UInt8) × (Int × Unit)))))) → (List (Int × ((List UInt8) × ((List UInt8) × ((List UInt8) × (Int × Unit)))))) → Option R) (v1 : Int) (v2 : (List UInt8)) (v3 : (List UInt8)) (v4 : (List UInt8)) (v5 : Int) (v6 : (List (Int × ((List UInt8) × ((List UInt8) × ((List UInt8) × (Int × Unit))))))) (v7 : (List (Int × ((List UInt8) × ((List UInt8) × ((List UInt8) × (Int × Unit))))))) : Option R :=
  (Option.bind (lock_Lock_right N v1 v2 v3 v4 v5) fun (v8 : Bool × Unit) =>
  (bif (!v8.1) then
  (K false 1 v6 v7)
  else
  (Option.bind (slices_ContainsFunc_lock_Lock_lock_Lock N v7 v1 v2 v3 v4 v5) fun (v9 : Bool × Unit) =>
  (bif v9.1 then
  (K false 92 v6 v7)
  else
  (Option.bind (slices_ContainsFunc_lock_Lock_lock_Lock_1 N v6 v1 v2 v3 v4 v5) fun (v10 : Bool × Unit) =>
  (bif v10.1 then
  (K true 0 v6 v7)
  else
  (bif (decide (1024 ≤ (IntKind.wrap .i64 ((v6.length : Int) + (v7.length : Int))))) then
  (K false 62 v6 v7)
  else
  (Option.bind (lock_Lock_copied N v1 v2 v3 v4 v5) fun (v11 : Int × (List UInt8) × (List UInt8) × (List UInt8) × Int × Unit) =>
  (Option.bind (lock_clashes N v11.1 v11.2.1 v11.2.2.1 v11.2.2.2.1 v11.2.2.2.2.1 v6) fun (v12 : Bool × Unit) =>
  (bif v12.1 then
  (bif (room 80 (v7.length + ([(v11.1, (v11.2.1, (v11.2.2.1, (v11.2.2.2.1, (v11.2.2.2.2.1, ())))))] : (List (Int × ((List UInt8) × ((List UInt8) × ((List UInt8) × (Int × Unit))))))).length)) then
  (K false 0 v6 (v7 ++ ([(v11.1, (v11.2.1, (v11.2.2.1, (v11.2.2.2.1, (v11.2.2.2.2.1, ())))))] : (List (Int × ((List UInt8) × ((List UInt8) × ((List UInt8) × (Int × Unit)))))))))
  else
  none)
  else
  (Option.bind (lock_clashes N v11.1 v11.2.1 v11.2.2.1 v11.2.2.2.1 v11.2.2.2.2.1 v7) fun (v13 : Bool × Unit) =>
  (bif v13.1 then
  (bif (room 80 (v7.length + ([(v11.1, (v11.2.1, (v11.2.2.1, (v11.2.2.2.1, (v11.2.2.2.2.1, ())))))] : (List (Int × ((List UInt8) × ((List UInt8) × ((List UInt8) × (Int × Unit))))))).length)) then
  (K false 0 v6 (v7 ++ ([(v11.1, (v11.2.1, (v11.2.2.1, (v11.2.2.2.1, (v11.2.2.2.2.1, ())))))] : (List (Int × ((List UInt8) × ((List UInt8) × ((List UInt8) × (Int × Unit)))))))))
  else
  none)
  else
  (bif (room 80 (v6.length + ([(v11.1, (v11.2.1, (v11.2.2.1, (v11.2.2.2.1, (v11.2.2.2.2.1, ())))))] : (List (Int × ((List UInt8) × ((List UInt8) × ((List UInt8) × (Int × Unit))))))).length)) then
  (K true 0 (v6 ++ ([(v11.1, (v11.2.1, (v11.2.2.1, (v11.2.2.2.1, (v11.2.2.2.2.1, ())))))] : (List (Int × ((List UInt8) × ((List UInt8) × ((List UInt8) × (Int × Unit)))))))) v7)
  else
  none)))))))))))))

def lock_Locks_Ask_1 (N : Nat) (v1 : Int) (v2 : (List UInt8)) (v3 : (List UInt8)) (v4 : (List UInt8)) (v5 : Int) (v6 : (List (Int × ((List UInt8) × ((List UInt8) × ((List UInt8) × (Int × Unit))))))) (v7 : (List (Int × ((List UInt8) × ((List UInt8) × ((List UInt8) × (Int × Unit))))))) : Option (Bool × Int × (List (Int × ((List UInt8) × ((List UInt8) × ((List UInt8) × (Int × Unit)))))) × (List (Int × ((List UInt8) × ((List UInt8) × ((List UInt8) × (Int × Unit)))))) × Unit) := lock_Locks_Ask_1_cps N _ (fun a0 a1 a2 a3 => some (a0, (a1, (a2, (a3, ()))))) v1 v2 v3 v4 v5 v6 v7

/-! frankpledge/lock.without$1 -/
def lock_without_c1_cps (N : Nat) (R : Type) (K : Bool → Option R) (v1 : Int) (v2 : (List UInt8)) (v3 : (List UInt8)) (v4 : (List UInt8)) (v5 : Int) (v6 : Int) : Option R :=
  (K (decide (v1 = v6)))

def lock_without_c1 (N : Nat) (v1 : Int) (v2 : (List UInt8)) (v3 : (List UInt8)) (v4 : (List UInt8)) (v5 : Int) (v6 : Int) : Option (Bool × Unit) := lock_without_c1_cps N _ (fun a0 => some (a0, ())) v1 v2 v3 v4 v5 v6

/-! slices.IndexFunc[[]frankpledge/lock.Lock,frankpledge/lock.Lock] -/
def slices_IndexFunc_lock_Lock_lock_Lock_3_l0B (N : Nat) (R : Type) (v6 : (List (Int × ((List UInt8) × ((List UInt8) × ((List UInt8) × (Int × Unit))))))) (v7 : Int) (rec : Int → Int → Option R) (k0 : Option R) (k1 : Int → Option R) (v4 : Int) (v5 : Int) : Option R :=
  (bif (decide (v5 < v4)) then
  (Option.bind (nth v6 v5) fun (_ : (Int × ((List UInt8) × ((List UInt8) × ((List UInt8) × (Int × Unit)))))) =>
  (Option.bind (v6[(Int.toNat v5)]?) fun (v8 : (Int × ((List UInt8) × ((List UInt8) × ((List UInt8) × (Int × Unit)))))) =>
  (Option.bind (lock_without_c1 N v8.1 v8.2.1 v8.2.2.1 v8.2.2.2.1 v8.2.2.2.2.1 v7) fun (v9 : Bool × Unit) =>
  (bif v9.1 then
  (k1 v5)
  else
  (rec v4 (IntKind.wrap .i64 (v5 + 1)))))))
  else
  k0)

def slices_IndexFunc_lock_Lock_lock_Lock_3_l0 (N : Nat) (R : Type) (v6 : (List (Int × ((List UInt8) × ((List UInt8) × ((List UInt8) × (Int × Unit))))))) (v7 : Int) (k0 : Option R) (k1 : Int → Option R) : Nat → Int → Int → Option R
  | 0 => fun _ _ => none
  | n + 1 => slices_IndexFunc_lock_Lock_lock_Lock_3_l0B N R v6 v7 (slices_IndexFunc_lock_Lock_lock_Lock_3_l0 N R v6 v7 k0 k1 n) k0 k1

def slices_IndexFunc_lock_Lock_lock_Lock_3_cps (N : Nat) (R : Type) (K : Int → Option R) (v1 : (List (Int × ((List UInt8) × ((List UInt8) × ((List UInt8) × (Int × Unit))))))) (v2 : Int) : Option R :=
  (slices_IndexFunc_lock_Lock_lock_Lock_3_l0 N _ v1 v2 ((K (-1))) (fun (v3 : Int) =>
  (K v3)) N (v1.length : Int) 0)

def slices_IndexFunc_lock_Lock_lock_Lock_3 (N : Nat) (v1 : (List (Int × ((List UInt8) × ((List UInt8) × ((List UInt8) × (Int × Unit))))))) (v2 : Int) : Option (Int × Unit) := slices_IndexFunc_lock_Lock_lock_Lock_3_cps N _ (fun a0 => some (a0, ())) v1 v2

/-! slices.DeleteFunc[[]frankpledge/lock.Lock,frankpledge/lock.Lock] -/
def slices_DeleteFunc_lock_Lock_lock_Lock_l0B (N : Nat) (R : Type) (v8 : Int) (rec : Int → Int → (List (Int × ((List UInt8) × ((List UInt8) × ((List UInt8) × (Int × Unit)))))) → Option R) (k0 : Int → (List (Int × ((List UInt8) × ((List UInt8) × ((List UInt8) × (Int × Unit)))))) → Option R) (v6 : Int) (v7 : Int) (v9 : (List (Int × ((List UInt8) × ((List UInt8) × ((List UInt8) × (Int × Unit))))))) : Option R :=
  (bif (decide (v7 < (v9.length : Int))) then
  (Option.bind (nth v9 v7) fun (_ : (Int × ((List UInt8) × ((List UInt8) × ((List UInt8) × (Int × Unit)))))) =>
  (Option.bind (v9[(Int.toNat v7)]?) fun (v10 : (Int × ((List UInt8) × ((List UInt8) × ((List UInt8) × (Int × Unit)))))) =>
  (Option.bind (lock_without_c1 N v10.1 v10.2.1 v10.2.2.1 v10.2.2.2.1 v10.2.2.2.2.1 v8) fun (v11 : Bool × Unit) =>
  (bif (!v11.1) then
  (Option.bind (nth v9 v6) fun (_ : (Int × ((List UInt8) × ((List UInt8) × ((List UInt8) × (Int × Unit)))))) =>
  (Option.bind (v9[(Int.toNat v6)]?) fun (v12 : (Int × ((List UInt8) × ((List UInt8) × ((List UInt8) × (Int × Unit)))))) =>
  (rec (IntKind.wrap .i64 (v6 + 1)) (IntKind.wrap .i64 (v7 + 1)) (List.set v9 (Int.toNat v6) (v10.1, (v10.2.1, (v10.2.2.1, (v10.2.2.2.1, (v10.2.2.2.2.1, ())))))))))
  else
  (rec v6 (IntKind.wrap .i64 (v7 + 1)) v9)))))
  else
  (k0 v6 v9))

def slices_DeleteFunc_lock_Lock_lock_Lock_l0 (N : Nat) (R : Type) (v8 : Int) (k0 : Int → (List (Int × ((List UInt8) × ((List UInt8) × ((List UInt8) × (Int × Unit)))))) → Option R) : Nat → Int → Int → (List (Int × ((List UInt8) × ((List UInt8) × ((List UInt8) × (Int × Unit)))))) → Option R
  | 0 => fun _ _ _ => none
  | n + 1 => slices_DeleteFunc_lock_Lock_lock_Lock_l0B N R v8 (slices_DeleteFunc_lock_Lock_lock_Lock_l0 N R v8 k0 n) k0

def slices_DeleteFunc_lock_Lock_lock_Lock_cps (N : Nat) (R : Type) (K : Int → (List (Int × ((List UInt8) × ((List UInt8) × ((List UInt8) × (Int × Unit)))))) → Option R) (v1 : (List (Int × ((List UInt8) × ((List UInt8) × ((List UInt8) × (Int × Unit))))))) (v2 : Int) : Option R :=
  (Option.bind (slices_IndexFunc_lock_Lock_lock_Lock_3 N v1 v2) fun (v3 : Int × Unit) =>
  (bif (decide (v3.1 = (-1))) then
  (K v2 v1)
  else
  (slices_DeleteFunc_lock_Lock_lock_Lock_l0 N _ v2 (fun (v4 : Int) (v5 : (List (Int × ((List UInt8) × ((List UInt8) × ((List UInt8) × (Int × Unit))))))) =>
  (bif (decide (0 ≤ v4 ∧ v4 ≤ ((v5.length : Nat) : Int))) then
  (bif (Nat.ble ((Int.toNat v4) + (v5.length - (Int.toNat v4))) v5.length) then
  (bif (decide (0 ≤ v4 ∧ v4 ≤ (((List.take (Int.toNat v4) v5 ++ (List.replicate (v5.length - (Int.toNat v4)) (0, ([], ([], ([], (0, ()))))) ++ List.drop ((Int.toNat v4) + (v5.length - (Int.toNat v4))) v5)).length : Nat) : Int))) then
  (K v2 (List.take (Int.toNat v4) (List.take (Int.toNat v4) v5 ++ (List.replicate (v5.length - (Int.toNat v4)) (0, ([], ([], ([], (0, ()))))) ++ List.drop ((Int.toNat v4) + (v5.length - (Int.toNat v4))) v5))))
  else
  none)
  else
  none)
  else
  none)) N v3.1 (IntKind.wrap .i64 (v3.1 + 1)) v1)))

def slices_DeleteFunc_lock_Lock_lock_Lock (N : Nat) (v1 : (List (Int × ((List UInt8) × ((List UInt8) × ((List UInt8) × (Int × Unit))))))) (v2 : Int) : Option (Int × (List (Int × ((List UInt8) × ((List UInt8) × ((List UInt8) × (Int × Unit)))))) × Unit) := slices_DeleteFunc_lock_Lock_lock_Lock_cps N _ (fun a0 a1 => some (a0, (a1, ()))) v1 v2

/-! frankpledge/lock.without -/
def lock_without_cps (N : Nat) (R : Type) (K : (List (Int × ((List UInt8) × ((List UInt8) × ((List UInt8) × (Int × Unit)))))) → Option R) (v1 : Int) (v2 : (List (Int × ((List UInt8) × ((List UInt8) × ((List UInt8) × (Int × Unit))))))) : Option R :=
  (Option.bind (slices_DeleteFunc_lock_Lock_lock_Lock N v2 v1) fun (v3 : Int × (List (Int × ((List UInt8) × ((List UInt8) × ((List UInt8) × (Int × Unit)))))) × Unit) =>
  (K v3.2.1))

def lock_without (N : Nat) (v1 : Int) (v2 : (List (Int × ((List UInt8) × ((List UInt8) × ((List UInt8) × (Int × Unit))))))) : Option ((List (Int × ((List UInt8) × ((List UInt8) × ((List UInt8) × (Int × Unit)))))) × Unit) := lock_without_cps N _ (fun a0 => some (a0, ())) v1 v2

/-! (*frankpledge/lock.Locks).look -/
def lock_Locks_look_l0B (N : Nat) (R : Type) (v10 : (List (Int × ((List UInt8) × ((List UInt8) × ((List UInt8) × (Int × Unit))))))) (rec : (List Int) → Int → Int → (List (Int × ((List UInt8) × ((List UInt8) × ((List UInt8) × (Int × Unit)))))) → (List (Int × ((List UInt8) × ((List UInt8) × ((List UInt8) × (Int × Unit)))))) → Option R) (k0 : (List Int) → (List (Int × ((List UInt8) × ((List UInt8) × ((List UInt8) × (Int × Unit)))))) → (List (Int × ((List UInt8) × ((List UInt8) × ((List UInt8) × (Int × Unit)))))) → Option R) (v6 : (List Int)) (v7 : Int) (v8 : Int) (v9 : (List (Int × ((List UInt8) × ((List UInt8) × ((List UInt8) × (Int × Unit))))))) (v11 : (List (Int × ((List UInt8) × ((List UInt8) × ((List UInt8) × (Int × Unit))))))) : Option R :=
  (bif (decide (v8 < v7)) then
  (Option.bind (nth v10 v8) fun (_ : (Int × ((List UInt8) × ((List UInt8) × ((List UInt8) × (Int × Unit)))))) =>
  (Option.bind (v10[(Int.toNat v8)]?) fun (v12 : (Int × ((List UInt8) × ((List UInt8) × ((List UInt8) × (Int × Unit)))))) =>
  (Option.bind (lock_clashes N v12.1 v12.2.1 v12.2.2.1 v12.2.2.2.1 v12.2.2.2.2.1 v11) fun (v13 : Bool × Unit) =>
  (bif v13.1 then
  (bif (room 80 (v9.length + ([(v12.1, (v12.2.1, (v12.2.2.1, (v12.2.2.2.1, (v12.2.2.2.2.1, ())))))] : (List (Int × ((List UInt8) × ((List UInt8) × ((List UInt8) × (Int × Unit))))))).length)) then
  (rec v6 v7 (IntKind.wrap .i64 (v8 + 1)) (v9 ++ ([(v12.1, (v12.2.1, (v12.2.2.1, (v12.2.2.2.1, (v12.2.2.2.2.1, ())))))] : (List (Int × ((List UInt8) × ((List UInt8) × ((List UInt8) × (Int × Unit)))))))) v11)
  else
  none)
  else
  (Option.bind (lock_clashes N v12.1 v12.2.1 v12.2.2.1 v12.2.2.2.1 v12.2.2.2.2.1 v9) fun (v14 : Bool × Unit) =>
  (bif v14.1 then
  (bif (room 80 (v9.length + ([(v12.1, (v12.2.1, (v12.2.2.1, (v12.2.2.2.1, (v12.2.2.2.2.1, ())))))] : (List (Int × ((List UInt8) × ((List UInt8) × ((List UInt8) × (Int × Unit))))))).length)) then
  (rec v6 v7 (IntKind.wrap .i64 (v8 + 1)) (v9 ++ ([(v12.1, (v12.2.1, (v12.2.2.1, (v12.2.2.2.1, (v12.2.2.2.2.1, ())))))] : (List (Int × ((List UInt8) × ((List UInt8) × ((List UInt8) × (Int × Unit)))))))) v11)
  else
  none)
  else
  (bif (room 80 (v11.length + ([(v12.1, (v12.2.1, (v12.2.2.1, (v12.2.2.2.1, (v12.2.2.2.2.1, ())))))] : (List (Int × ((List UInt8) × ((List UInt8) × ((List UInt8) × (Int × Unit))))))).length)) then
  (bif (room 8 (v6.length + ([v12.1] : (List Int)).length)) then
  (rec (v6 ++ ([v12.1] : (List Int))) v7 (IntKind.wrap .i64 (v8 + 1)) v9 (v11 ++ ([(v12.1, (v12.2.1, (v12.2.2.1, (v12.2.2.2.1, (v12.2.2.2.2.1, ())))))] : (List (Int × ((List UInt8) × ((List UInt8) × ((List UInt8) × (Int × Unit)))))))))
  else
  none)
  else
  none)))))))
  else
  (k0 v6 v9 v11))

def lock_Locks_look_l0 (N : Nat) (R : Type) (v10 : (List (Int × ((List UInt8) × ((List UInt8) × ((List UInt8) × (Int × Unit))))))) (k0 : (List Int) → (List (Int × ((List UInt8) × ((List UInt8) × ((List UInt8) × (Int × Unit)))))) → (List (Int × ((List UInt8) × ((List UInt8) × ((List UInt8) × (Int × Unit)))))) → Option R) : Nat → (List Int) → Int → Int → (List (Int × ((List UInt8) × ((List UInt8) × ((List UInt8) × (Int × Unit)))))) → (List (Int × ((List UInt8) × ((List UInt8) × ((List UInt8) × (Int × Unit)))))) → Option R
  | 0 => fun _ _ _ _ _ => none
  | n + 1 => lock_Locks_look_l0B N R v10 (lock_Locks_look_l0 N R v10 k0 n) k0

def lock_Locks_look_cps (N : Nat) (R : Type) (K : (List Int) → (List (Int × ((List UInt8) × ((List UInt8) × ((List UInt8) × (Int × Unit)))))) → (List (Int × ((List UInt8) × ((List UInt8) × ((List UInt8) × (Int × Unit)))))) → Option R) (v1 : (List (Int × ((List UInt8) × ((List UInt8) × ((List UInt8) × (Int × Unit))))))) (v2 : (List (Int × ((List UInt8) × ((List UInt8) × ((List UInt8) × (Int × Unit))))))) : Option R :=
  (lock_Locks_look_l0 N _ v2 (fun (v3 : (List Int)) (v4 : (List (Int × ((List UInt8) × ((List UInt8) × ((List UInt8) × (Int × Unit))))))) (v5 : (List (Int × ((List UInt8) × ((List UInt8) × ((List UInt8) × (Int × Unit))))))) =>
  (K v3 v5 v4)) N [] (v2.length : Int) 0 [] v1)

def lock_Locks_look (N : Nat) (v1 : (List (Int × ((List UInt8) × ((List UInt8) × ((List UInt8) × (Int × Unit))))))) (v2 : (List (Int × ((List UInt8) × ((List UInt8) × ((List UInt8) × (Int × Unit))))))) : Option ((List Int) × (List (Int × ((List UInt8) × ((List UInt8) × ((List UInt8) × (Int × Unit)))))) × (List (Int × ((List UInt8) × ((List UInt8) × ((List UInt8) × (Int × Unit)))))) × Unit) := lock_Locks_look_cps N _ (fun a0 a1 a2 => some (a0, (a1, (a2, ())))) v1 v2

/-! (*frankpledge/lock.Locks).Cancel -/
def lock_Locks_Cancel_cps (N : Nat) (R : Type) (K : (List Int) → (List (Int × ((List UInt8) × ((List UInt8) × ((List UInt8) × (Int × Unit)))))) → (List (Int × ((List UInt8) × ((List UInt8) × ((List UInt8) × (Int × Unit)))))) → Option R) (v1 : Int) (v2 : (List (Int × ((List UInt8) × ((List UInt8) × ((List UInt8) × (Int × Unit))))))) (v3 : (List (Int × ((List UInt8) × ((List UInt8) × ((List UInt8) × (Int × Unit))))))) : Option R :=
  (Option.bind (lock_without N v1 v3) fun (v4 : (List (Int × ((List UInt8) × ((List UInt8) × ((List UInt8) × (Int × Unit)))))) × Unit) =>
  (Option.bind (lock_Locks_look N v2 v4.1) fun (v5 : (List Int) × (List (Int × ((List UInt8) × ((List UInt8) × ((List UInt8) × (Int × Unit)))))) × (List (Int × ((List UInt8) × ((List UInt8) × ((List UInt8) × (Int × Unit)))))) × Unit) =>
  (K v5.1 v5.2.1 v5.2.2.1)))

def lock_Locks_Cancel (N : Nat) (v1 : Int) (v2 : (List (Int × ((List UInt8) × ((List UInt8) × ((List UInt8) × (Int × Unit))))))) (v3 : (List (Int × ((List UInt8) × ((List UInt8) × ((List UInt8) × (Int × Unit))))))) : Option ((List Int) × (List (Int × ((List UInt8) × ((List UInt8) × ((List UInt8) × (Int × Unit)))))) × (List (Int × ((List UInt8) × ((List UInt8) × ((List UInt8) × (Int × Unit)))))) × Unit) := lock_Locks_Cancel_cps N _ (fun a0 a1 a2 => some (a0, (a1, (a2, ())))) v1 v2 v3

/-! (*frankpledge/lock.Locks).Drop -/
def lock_Locks_Drop_cps (N : Nat) (R : Type) (K : (List Int) → (List (Int × ((List UInt8) × ((List UInt8) × ((List UInt8) × (Int × Unit)))))) → (List (Int × ((List UInt8) × ((List UInt8) × ((List UInt8) × (Int × Unit)))))) → Option R) (v1 : Int) (v2 : (List (Int × ((List UInt8) × ((List UInt8) × ((List UInt8) × (Int × Unit))))))) (v3 : (List (Int × ((List UInt8) × ((List UInt8) × ((List UInt8) × (Int × Unit))))))) : Option R :=
  (Option.bind (lock_without N v1 v2) fun (v4 : (List (Int × ((List UInt8) × ((List UInt8) × ((List UInt8) × (Int × Unit)))))) × Unit) =>
  (Option.bind (lock_Locks_Cancel N v1 v4.1 v3) fun (v5 : (List Int) × (List (Int × ((List UInt8) × ((List UInt8) × ((List UInt8) × (Int × Unit)))))) × (List (Int × ((List UInt8) × ((List UInt8) × ((List UInt8) × (Int × Unit)))))) × Unit) =>
  (K v5.1 v5.2.1 v5.2.2.1)))

def lock_Locks_Drop (N : Nat) (v1 : Int) (v2 : (List (Int × ((List UInt8) × ((List UInt8) × ((List UInt8) × (Int × Unit))))))) (v3 : (List (Int × ((List UInt8) × ((List UInt8) × ((List UInt8) × (Int × Unit))))))) : Option ((List Int) × (List (Int × ((List UInt8) × ((List UInt8) × ((List UInt8) × (Int × Unit)))))) × (List (Int × ((List UInt8) × ((List UInt8) × ((List UInt8) × (Int × Unit)))))) × Unit) := lock_Locks_Drop_cps N _ (fun a0 a1 a2 => some (a0, (a1, (a2, ())))) v1 v2 v3

/-! (*frankpledge/lock.Locks).Waiting -/
def lock_Locks_Waiting_l0B (N : Nat) (R : Type) (v7 : (List (Int × ((List UInt8) × ((List UInt8) × ((List UInt8) × (Int × Unit))))))) (v8 : (List (Int × ((List UInt8) × ((List UInt8) × ((List UInt8) × (Int × Unit))))))) (rec : (List (Int × ((List UInt8) × ((List UInt8) × ((List UInt8) × (Int × Unit)))))) → Int → Int → Option R) (k0 : (List (Int × ((List UInt8) × ((List UInt8) × ((List UInt8) × (Int × Unit)))))) → Option R) (v4 : (List (Int × ((List UInt8) × ((List UInt8) × ((List UInt8) × (Int × Unit))))))) (v5 : Int) (v6 : Int) : Option R :=
  (bif (decide (v6 < v5)) then
  (Option.bind (nth v8 v6) fun (_ : (Int × ((List UInt8) × ((List UInt8) × ((List UInt8) × (Int × Unit)))))) =>
  (Option.bind (v8[(Int.toNat v6)]?) fun (v9 : (Int × ((List UInt8) × ((List UInt8) × ((List UInt8) × (Int × Unit)))))) =>
  (Option.bind (lock_Lock_copied N v9.1 v9.2.1 v9.2.2.1 v9.2.2.2.1 v9.2.2.2.2.1) fun (v10 : Int × (List UInt8) × (List UInt8) × (List UInt8) × Int × Unit) =>
  (bif (room 80 (v4.length + ([(v10.1, (v10.2.1, (v10.2.2.1, (v10.2.2.2.1, (v10.2.2.2.2.1, ())))))] : (List (Int × ((List UInt8) × ((List UInt8) × ((List UInt8) × (Int × Unit))))))).length)) then
  (rec (v4 ++ ([(v10.1, (v10.2.1, (v10.2.2.1, (v10.2.2.2.1, (v10.2.2.2.2.1, ())))))] : (List (Int × ((List UInt8) × ((List UInt8) × ((List UInt8) × (Int × Unit)))))))) v5 (IntKind.wrap .i64 (v6 + 1)))
  else
  none))))
  else
  (k0 v4))

def lock_Locks_Waiting_l0 (N : Nat) (R : Type) (v7 : (List (Int × ((List UInt8) × ((List UInt8) × ((List UInt8) × (Int × Unit))))))) (v8 : (List (Int × ((List UInt8) × ((List UInt8) × ((List UInt8) × (Int × Unit))))))) (k0 : (List (Int × ((List UInt8) × ((List UInt8) × ((List UInt8) × (Int × Unit)))))) → Option R) : Nat → (List (Int × ((List UInt8) × ((List UInt8) × ((List UInt8) × (Int × Unit)))))) → Int → Int → Option R
  | 0 => fun _ _ _ => none
  | n + 1 => lock_Locks_Waiting_l0B N R v7 v8 (lock_Locks_Waiting_l0 N R v7 v8 k0 n) k0

def lock_Locks_Waiting_cps (N : Nat) (R : Type) (K : (List (Int × ((List UInt8) × ((List UInt8) × ((List UInt8) × (Int × Unit)))))) → Option R) (v1 : (List (Int × ((List UInt8) × ((List UInt8) × ((List UInt8) × (Int × Unit))))))) (v2 : (List (Int × ((List UInt8) × ((List UInt8) × ((List UInt8) × (Int × Unit))))))) : Option R :=
  (lock_Locks_Waiting_l0 N _ v1 v2 (fun (v3 : (List (Int × ((List UInt8) × ((List UInt8) × ((List UInt8) × (Int × Unit))))))) =>
  (K v3)) N [] (v2.length : Int) 0)

def lock_Locks_Waiting (N : Nat) (v1 : (List (Int × ((List UInt8) × ((List UInt8) × ((List UInt8) × (Int × Unit))))))) (v2 : (List (Int × ((List UInt8) × ((List UInt8) × ((List UInt8) × (Int × Unit))))))) : Option ((List (Int × ((List UInt8) × ((List UInt8) × ((List UInt8) × (Int × Unit)))))) × Unit) := lock_Locks_Waiting_cps N _ (fun a0 => some (a0, ())) v1 v2

/-! frankpledge/frankpledgelaw09.alive -/
def law09_alive_cps (N : Nat) (R : Type) (K : Bool → Option R)  : Option R :=
  (Option.bind (lock_New N) fun (v1 : (List (Int × ((List UInt8) × ((List UInt8) × ((List UInt8) × (Int × Unit)))))) × (List (Int × ((List UInt8) × ((List UInt8) × ((List UInt8) × (Int × Unit)))))) × Unit) =>
  (Option.bind (lock_Locks_Ask N 1 [116] [97] [99] 2 v1.1 v1.2.1) fun (v2 : Bool × Int × (List (Int × ((List UInt8) × ((List UInt8) × ((List UInt8) × (Int × Unit)))))) × (List (Int × ((List UInt8) × ((List UInt8) × ((List UInt8) × (Int × Unit)))))) × Unit) =>
  (Option.bind (lock_Locks_Ask_1 N 2 [116] [98] [] 1 v2.2.2.1 v2.2.2.2.1) fun (v3 : Bool × Int × (List (Int × ((List UInt8) × ((List UInt8) × ((List UInt8) × (Int × Unit)))))) × (List (Int × ((List UInt8) × ((List UInt8) × ((List UInt8) × (Int × Unit)))))) × Unit) =>
  (Option.bind (lock_Locks_Drop N 1 v3.2.2.1 v3.2.2.2.1) fun (v4 : (List Int) × (List (Int × ((List UInt8) × ((List UInt8) × ((List UInt8) × (Int × Unit)))))) × (List (Int × ((List UInt8) × ((List UInt8) × ((List UInt8) × (Int × Unit)))))) × Unit) =>
  (bif (decide (v2.2.1 = 0)) then
  (bif (decide (v3.2.1 = 0)) then
  (bif v2.1 then
  (bif (!v3.1) then
  (bif (decide ((v4.1.length : Int) = 1)) then
  (Option.bind (nth v4.1 0) fun (v5 : Int) =>
  (bif (decide (v5 = 2)) then
  (Option.bind (lock_Locks_Waiting N v4.2.1 v4.2.2.1) fun (v6 : (List (Int × ((List UInt8) × ((List UInt8) × ((List UInt8) × (Int × Unit)))))) × Unit) =>
  (K (decide ((v6.1.length : Int) = 0))))
  else
  (K false)))
  else
  (K false))
  else
  (K false))
  else
  (K false))
  else
  (K false))
  else
  (K false))))))

def law09_alive (N : Nat)  : Option (Bool × Unit) := law09_alive_cps N _ (fun a0 => some (a0, ())) 

/-! (*frankpledge/lock.Locks).Granted -/
def lock_Locks_Granted_l0B (N : Nat) (R : Type) (v9 : (List (Int × ((List UInt8) × ((List UInt8) × ((List UInt8) × (Int × Unit))))))) (v10 : (List (Int × ((List UInt8) × ((List UInt8) × ((List UInt8) × (Int × Unit))))))) (rec : Int → (List (Int × ((List UInt8) × ((List UInt8) × ((List UInt8) × (Int × Unit)))))) → Int → Int → Option R) (k0 : (List (Int × ((List UInt8) × ((List UInt8) × ((List UInt8) × (Int × Unit)))))) → Option R) (v5 : Int) (v6 : (List (Int × ((List UInt8) × ((List UInt8) × ((List UInt8) × (Int × Unit))))))) (v7 : Int) (v8 : Int) : Option R :=
  (bif (decide (v8 < v7)) then
  (Option.bind (nth v9 v8) fun (_ : (Int × ((List UInt8) × ((List UInt8) × ((List UInt8) × (Int × Unit)))))) =>
  (Option.bind (v9[(Int.toNat v8)]?) fun (v11 : (Int × ((List UInt8) × ((List UInt8) × ((List UInt8) × (Int × Unit)))))) =>
  (bif (decide (v11.1 = v5)) then
  (Option.bind (lock_Lock_copied N v11.1 v11.2.1 v11.2.2.1 v11.2.2.2.1 v11.2.2.2.2.1) fun (v12 : Int × (List UInt8) × (List UInt8) × (List UInt8) × Int × Unit) =>
  (bif (room 80 (v6.length + ([(v12.1, (v12.2.1, (v12.2.2.1, (v12.2.2.2.1, (v12.2.2.2.2.1, ())))))] : (List (Int × ((List UInt8) × ((List UInt8) × ((List UInt8) × (Int × Unit))))))).length)) then
  (rec v5 (v6 ++ ([(v12.1, (v12.2.1, (v12.2.2.1, (v12.2.2.2.1, (v12.2.2.2.2.1, ())))))] : (List (Int × ((List UInt8) × ((List UInt8) × ((List UInt8) × (Int × Unit)))))))) v7 (IntKind.wrap .i64 (v8 + 1)))
  else
  none))
  else
  (rec v5 v6 v7 (IntKind.wrap .i64 (v8 + 1))))))
  else
  (k0 v6))

def lock_Locks_Granted_l0 (N : Nat) (R : Type) (v9 : (List (Int × ((List UInt8) × ((List UInt8) × ((List UInt8) × (Int × Unit))))))) (v10 : (List (Int × ((List UInt8) × ((List UInt8) × ((List UInt8) × (Int × Unit))))))) (k0 : (List (Int × ((List UInt8) × ((List UInt8) × ((List UInt8) × (Int × Unit)))))) → Option R) : Nat → Int → (List (Int × ((List UInt8) × ((List UInt8) × ((List UInt8) × (Int × Unit)))))) → Int → Int → Option R
  | 0 => fun _ _ _ _ => none
  | n + 1 => lock_Locks_Granted_l0B N R v9 v10 (lock_Locks_Granted_l0 N R v9 v10 k0 n) k0

def lock_Locks_Granted_cps (N : Nat) (R : Type) (K : (List (Int × ((List UInt8) × ((List UInt8) × ((List UInt8) × (Int × Unit)))))) → Option R) (v1 : Int) (v2 : (List (Int × ((List UInt8) × ((List UInt8) × ((List UInt8) × (Int × Unit))))))) (v3 : (List (Int × ((List UInt8) × ((List UInt8) × ((List UInt8) × (Int × Unit))))))) : Option R :=
  (lock_Locks_Granted_l0 N _ v2 v3 (fun (v4 : (List (Int × ((List UInt8) × ((List UInt8) × ((List UInt8) × (Int × Unit))))))) =>
  (K v4)) N v1 [] (v2.length : Int) 0)

def lock_Locks_Granted (N : Nat) (v1 : Int) (v2 : (List (Int × ((List UInt8) × ((List UInt8) × ((List UInt8) × (Int × Unit))))))) (v3 : (List (Int × ((List UInt8) × ((List UInt8) × ((List UInt8) × (Int × Unit))))))) : Option ((List (Int × ((List UInt8) × ((List UInt8) × ((List UInt8) × (Int × Unit)))))) × Unit) := lock_Locks_Granted_cps N _ (fun a0 => some (a0, ())) v1 v2 v3

/-! frankpledge/frankpledgelaw09.transactions -/
def law09_transactions_l1B (N : Nat) (R : Type) (rec : (List (Int × ((Int × ((List UInt8) × ((List UInt8) × ((List UInt8) × (Int × Unit))))) × Unit))) → (List Int) → Int → Bool → Int → Option R) (k0 : (List (Int × ((Int × ((List UInt8) × ((List UInt8) × ((List UInt8) × (Int × Unit))))) × Unit))) → (List Int) → Int → Bool → Option R) (v11 : (List (Int × ((Int × ((List UInt8) × ((List UInt8) × ((List UInt8) × (Int × Unit))))) × Unit)))) (v12 : (List Int)) (v13 : Int) (v14 : Bool) (v15 : Int) : Option R :=
  (bif (decide (v15 < (v12.length : Int))) then
  (bif v14 then
  (rec v11 v12 v13 true (IntKind.wrap .i64 (v15 + 1)))
  else
  (Option.bind (nth v12 v15) fun (v16 : Int) =>
  (Option.bind (nth v11 v13) fun (v17 : (Int × ((Int × ((List UInt8) × ((List UInt8) × ((List UInt8) × (Int × Unit))))) × Unit))) =>
  (rec v11 v12 v13 (decide (v16 = v17.2.1.1)) (IntKind.wrap .i64 (v15 + 1))))))
  else
  (k0 v11 v12 v13 v14))

def law09_transactions_l1 (N : Nat) (R : Type) (k0 : (List (Int × ((Int × ((List UInt8) × ((List UInt8) × ((List UInt8) × (Int × Unit))))) × Unit))) → (List Int) → Int → Bool → Option R) : Nat → (List (Int × ((Int × ((List UInt8) × ((List UInt8) × ((List UInt8) × (Int × Unit))))) × Unit))) → (List Int) → Int → Bool → Int → Option R
  | 0 => fun _ _ _ _ _ => none
  | n + 1 => law09_transactions_l1B N R (law09_transactions_l1 N R k0 n) k0

def law09_transactions_l0B (N : Nat) (R : Type) (rec : (List (Int × ((Int × ((List UInt8) × ((List UInt8) × ((List UInt8) × (Int × Unit))))) × Unit))) → (List Int) → Int → Option R) (k0 : (List Int) → Option R) (v3 : (List (Int × ((Int × ((List UInt8) × ((List UInt8) × ((List UInt8) × (Int × Unit))))) × Unit)))) (v4 : (List Int)) (v5 : Int) : Option R :=
  (bif (decide (v5 < (v3.length : Int))) then
  (bif (decide (v5 < 60)) then
  (law09_transactions_l1 N _ (fun (v6 : (List (Int × ((Int × ((List UInt8) × ((List UInt8) × ((List UInt8) × (Int × Unit))))) × Unit)))) (v7 : (List Int)) (v8 : Int) (v9 : Bool) =>
  (bif (!v9) then
  (Option.bind (nth v6 v8) fun (v10 : (Int × ((Int × ((List UInt8) × ((List UInt8) × ((List UInt8) × (Int × Unit))))) × Unit))) =>
  (bif (room 8 (v7.length + ([v10.2.1.1] : (List Int)).length)) then
  (rec v6 (v7 ++ ([v10.2.1.1] : (List Int))) (IntKind.wrap .i64 (v8 + 1)))
  else
  none))
  else
  (rec v6 v7 (IntKind.wrap .i64 (v8 + 1))))) N v3 v4 v5 false 0)
  else
  (k0 v4))
  else
  (k0 v4))

def law09_transactions_l0 (N : Nat) (R : Type) (k0 : (List Int) → Option R) : Nat → (List (Int × ((Int × ((List UInt8) × ((List UInt8) × ((List UInt8) × (Int × Unit))))) × Unit))) → (List Int) → Int → Option R
  | 0 => fun _ _ _ => none
  | n + 1 => law09_transactions_l0B N R (law09_transactions_l0 N R k0 n) k0

def law09_transactions_cps (N : Nat) (R : Type) (K : (List Int) → Option R) (v1 : (List (Int × ((Int × ((List UInt8) × ((List UInt8) × ((List UInt8) × (Int × Unit))))) × Unit)))) : Option R :=
  (law09_transactions_l0 N _ (fun (v2 : (List Int)) =>
  (K v2)) N v1 [] 0)

def law09_transactions (N : Nat) (v1 : (List (Int × ((Int × ((List UInt8) × ((List UInt8) × ((List UInt8) × (Int × Unit))))) × Unit)))) : Option ((List Int) × Unit) := law09_transactions_cps N _ (fun a0 => some (a0, ())) v1

/-! frankpledge/frankpledgelaw09.LockOdds -/
def law09_LockOdds_l10B (N : Nat) (R : Type) (v264 : (List (Int × ((List UInt8) × ((List UInt8) × ((List UInt8) × (Int × Unit))))))) (v265 : (List (Int × ((List UInt8) × ((List UInt8) × ((List UInt8) × (Int × Unit))))))) (rec : (List (Int × ((Int × ((List UInt8) × ((List UInt8) × ((List UInt8) × (Int × Unit))))) × Unit))) → (List Int) → Int → (List (Int × ((List UInt8) × ((List UInt8) × ((List UInt8) × (Int × Unit)))))) → (List (Int × ((List UInt8) × ((List UInt8) × ((List UInt8) × (Int × Unit)))))) → Int → Bool → Int → Option R) (k0 : (List (Int × ((Int × ((List UInt8) × ((List UInt8) × ((List UInt8) × (Int × Unit))))) × Unit))) → (List Int) → Int → (List (Int × ((List UInt8) × ((List UInt8) × ((List UInt8) × (Int × Unit)))))) → (List (Int × ((List UInt8) × ((List UInt8) × ((List UInt8) × (Int × Unit)))))) → Int → Bool → Option R) (k1 : (List (Int × ((Int × ((List UInt8) × ((List UInt8) × ((List UInt8) × (Int × Unit))))) × Unit))) → Bool → (List Int) → Int → (List (Int × ((List UInt8) × ((List UInt8) × ((List UInt8) × (Int × Unit)))))) → (List (Int × ((List UInt8) × ((List UInt8) × ((List UInt8) × (Int × Unit)))))) → Int → Bool → Option R) (v256 : (List (Int × ((Int × ((List UInt8) × ((List UInt8) × ((List UInt8) × (Int × Unit))))) × Unit)))) (v257 : (List Int)) (v258 : Int) (v259 : (List (Int × ((List UInt8) × ((List UInt8) × ((List UInt8) × (Int × Unit))))))) (v260 : (List (Int × ((List UInt8) × ((List UInt8) × ((List UInt8) × (Int × Unit))))))) (v261 : Int) (v262 : Bool) (v263 : Int) : Option R :=
  (bif (decide (v263 < v261)) then
  (bif v262 then
  (Option.bind (nth v260 v263) fun (v266 : (Int × ((List UInt8) × ((List UInt8) × ((List UInt8) × (Int × Unit)))))) =>
  (Option.bind (nth v260 v261) fun (v267 : (Int × ((List UInt8) × ((List UInt8) × ((List UInt8) × (Int × Unit)))))) =>
  (bif (decide (v266.1 = v267.1)) then
  (k1 v256 false v257 v258 v259 v260 v261 true)
  else
  (rec v256 v257 v258 v259 v260 v261 true (IntKind.wrap .i64 (v263 + 1))))))
  else
  (Option.bind (nth v260 v261) fun (v268 : (Int × ((List UInt8) × ((List UInt8) × ((List UInt8) × (Int × Unit)))))) =>
  (Option.bind (nth v260 v263) fun (v269 : (Int × ((List UInt8) × ((List UInt8) × ((List UInt8) × (Int × Unit)))))) =>
  (Option.bind (lock_Clash N v268.1 v268.2.1 v268.2.2.1 v268.2.2.2.1 v268.2.2.2.2.1 v269.1 v269.2.1 v269.2.2.1 v269.2.2.2.1 v269.2.2.2.2.1) fun (v270 : Bool × Unit) =>
  (Option.bind (nth v260 v263) fun (v271 : (Int × ((List UInt8) × ((List UInt8) × ((List UInt8) × (Int × Unit)))))) =>
  (Option.bind (nth v260 v261) fun (v272 : (Int × ((List UInt8) × ((List UInt8) × ((List UInt8) × (Int × Unit)))))) =>
  (bif (decide (v271.1 = v272.1)) then
  (k1 v256 false v257 v258 v259 v260 v261 v270.1)
  else
  (rec v256 v257 v258 v259 v260 v261 v270.1 (IntKind.wrap .i64 (v263 + 1))))))))))
  else
  (k0 v256 v257 v258 v259 v260 v261 v262))

def law09_LockOdds_l10 (N : Nat) (R : Type) (v264 : (List (Int × ((List UInt8) × ((List UInt8) × ((List UInt8) × (Int × Unit))))))) (v265 : (List (Int × ((List UInt8) × ((List UInt8) × ((List UInt8) × (Int × Unit))))))) (k0 : (List (Int × ((Int × ((List UInt8) × ((List UInt8) × ((List UInt8) × (Int × Unit))))) × Unit))) → (List Int) → Int → (List (Int × ((List UInt8) × ((List UInt8) × ((List UInt8) × (Int × Unit)))))) → (List (Int × ((List UInt8) × ((List UInt8) × ((List UInt8) × (Int × Unit)))))) → Int → Bool → Option R) (k1 : (List (Int × ((Int × ((List UInt8) × ((List UInt8) × ((List UInt8) × (Int × Unit))))) × Unit))) → Bool → (List Int) → Int → (List (Int × ((List UInt8) × ((List UInt8) × ((List UInt8) × (Int × Unit)))))) → (List (Int × ((List UInt8) × ((List UInt8) × ((List UInt8) × (Int × Unit)))))) → Int → Bool → Option R) : Nat → (List (Int × ((Int × ((List UInt8) × ((List UInt8) × ((List UInt8) × (Int × Unit))))) × Unit))) → (List Int) → Int → (List (Int × ((List UInt8) × ((List UInt8) × ((List UInt8) × (Int × Unit)))))) → (List (Int × ((List UInt8) × ((List UInt8) × ((List UInt8) × (Int × Unit)))))) → Int → Bool → Int → Option R
  | 0 => fun _ _ _ _ _ _ _ _ => none
  | n + 1 => law09_LockOdds_l10B N R v264 v265 (law09_LockOdds_l10 N R v264 v265 k0 k1 n) k0 k1

def law09_LockOdds_l9B (N : Nat) (R : Type) (v251 : (List (Int × ((List UInt8) × ((List UInt8) × ((List UInt8) × (Int × Unit))))))) (v252 : (List (Int × ((List UInt8) × ((List UInt8) × ((List UInt8) × (Int × Unit))))))) (rec : (List (Int × ((Int × ((List UInt8) × ((List UInt8) × ((List UInt8) × (Int × Unit))))) × Unit))) → (List Int) → Int → (List (Int × ((List UInt8) × ((List UInt8) × ((List UInt8) × (Int × Unit)))))) → (List (Int × ((List UInt8) × ((List UInt8) × ((List UInt8) × (Int × Unit)))))) → Int → Bool → Int → Option R) (k0 : (List (Int × ((Int × ((List UInt8) × ((List UInt8) × ((List UInt8) × (Int × Unit))))) × Unit))) → (List Int) → Int → (List (Int × ((List UInt8) × ((List UInt8) × ((List UInt8) × (Int × Unit)))))) → (List (Int × ((List UInt8) × ((List UInt8) × ((List UInt8) × (Int × Unit)))))) → Int → Bool → Option R) (v243 : (List (Int × ((Int × ((List UInt8) × ((List UInt8) × ((List UInt8) × (Int × Unit))))) × Unit)))) (v244 : (List Int)) (v245 : Int) (v246 : (List (Int × ((List UInt8) × ((List UInt8) × ((List UInt8) × (Int × Unit))))))) (v247 : (List (Int × ((List UInt8) × ((List UInt8) × ((List UInt8) × (Int × Unit))))))) (v248 : Int) (v249 : Bool) (v250 : Int) : Option R :=
  (bif (decide (v250 < (v246.length : Int))) then
  (bif v249 then
  (rec v243 v244 v245 v246 v247 v248 true (IntKind.wrap .i64 (v250 + 1)))
  else
  (Option.bind (nth v247 v248) fun (v253 : (Int × ((List UInt8) × ((List UInt8) × ((List UInt8) × (Int × Unit)))))) =>
  (Option.bind (nth v246 v250) fun (v254 : (Int × ((List UInt8) × ((List UInt8) × ((List UInt8) × (Int × Unit)))))) =>
  (Option.bind (lock_Clash N v253.1 v253.2.1 v253.2.2.1 v253.2.2.2.1 v253.2.2.2.2.1 v254.1 v254.2.1 v254.2.2.1 v254.2.2.2.1 v254.2.2.2.2.1) fun (v255 : Bool × Unit) =>
  (rec v243 v244 v245 v246 v247 v248 v255.1 (IntKind.wrap .i64 (v250 + 1)))))))
  else
  (k0 v243 v244 v245 v246 v247 v248 v249))

def law09_LockOdds_l9 (N : Nat) (R : Type) (v251 : (List (Int × ((List UInt8) × ((List UInt8) × ((List UInt8) × (Int × Unit))))))) (v252 : (List (Int × ((List UInt8) × ((List UInt8) × ((List UInt8) × (Int × Unit))))))) (k0 : (List (Int × ((Int × ((List UInt8) × ((List UInt8) × ((List UInt8) × (Int × Unit))))) × Unit))) → (List Int) → Int → (List (Int × ((List UInt8) × ((List UInt8) × ((List UInt8) × (Int × Unit)))))) → (List (Int × ((List UInt8) × ((List UInt8) × ((List UInt8) × (Int × Unit)))))) → Int → Bool → Option R) : Nat → (List (Int × ((Int × ((List UInt8) × ((List UInt8) × ((List UInt8) × (Int × Unit))))) × Unit))) → (List Int) → Int → (List (Int × ((List UInt8) × ((List UInt8) × ((List UInt8) × (Int × Unit)))))) → (List (Int × ((List UInt8) × ((List UInt8) × ((List UInt8) × (Int × Unit)))))) → Int → Bool → Int → Option R
  | 0 => fun _ _ _ _ _ _ _ _ => none
  | n + 1 => law09_LockOdds_l9B N R v251 v252 (law09_LockOdds_l9 N R v251 v252 k0 n) k0

def law09_LockOdds_l8B (N : Nat) (R : Type) (v219 : (List (Int × ((List UInt8) × ((List UInt8) × ((List UInt8) × (Int × Unit))))))) (v220 : (List (Int × ((List UInt8) × ((List UInt8) × ((List UInt8) × (Int × Unit))))))) (rec : (List (Int × ((Int × ((List UInt8) × ((List UInt8) × ((List UInt8) × (Int × Unit))))) × Unit))) → (List Int) → Int → (List (Int × ((List UInt8) × ((List UInt8) × ((List UInt8) × (Int × Unit)))))) → (List (Int × ((List UInt8) × ((List UInt8) × ((List UInt8) × (Int × Unit)))))) → Int → Option R) (k0 : (List (Int × ((Int × ((List UInt8) × ((List UInt8) × ((List UInt8) × (Int × Unit))))) × Unit))) → (List Int) → Int → Option R) (k1 : (List (Int × ((Int × ((List UInt8) × ((List UInt8) × ((List UInt8) × (Int × Unit))))) × Unit))) → Bool → (List Int) → Int → Option R) (v213 : (List (Int × ((Int × ((List UInt8) × ((List UInt8) × ((List UInt8) × (Int × Unit))))) × Unit)))) (v214 : (List Int)) (v215 : Int) (v216 : (List (Int × ((List UInt8) × ((List UInt8) × ((List UInt8) × (Int × Unit))))))) (v217 : (List (Int × ((List UInt8) × ((List UInt8) × ((List UInt8) × (Int × Unit))))))) (v218 : Int) : Option R :=
  (bif (decide (v218 < (v217.length : Int))) then
  (law09_LockOdds_l9 N _ v219 v220 (fun (v221 : (List (Int × ((Int × ((List UInt8) × ((List UInt8) × ((List UInt8) × (Int × Unit))))) × Unit)))) (v222 : (List Int)) (v223 : Int) (v224 : (List (Int × ((List UInt8) × ((List UInt8) × ((List UInt8) × (Int × Unit))))))) (v225 : (List (Int × ((List UInt8) × ((List UInt8) × ((List UInt8) × (Int × Unit))))))) (v226 : Int) (v227 : Bool) =>
  (law09_LockOdds_l10 N _ v219 v220 (fun (v228 : (List (Int × ((Int × ((List UInt8) × ((List UInt8) × ((List UInt8) × (Int × Unit))))) × Unit)))) (v229 : (List Int)) (v230 : Int) (v231 : (List (Int × ((List UInt8) × ((List UInt8) × ((List UInt8) × (Int × Unit))))))) (v232 : (List (Int × ((List UInt8) × ((List UInt8) × ((List UInt8) × (Int × Unit))))))) (v233 : Int) (v234 : Bool) =>
  (bif (!v234) then
  (k1 v228 false v229 v230)
  else
  (rec v228 v229 v230 v231 v232 (IntKind.wrap .i64 (v233 + 1))))) (fun (v235 : (List (Int × ((Int × ((List UInt8) × ((List UInt8) × ((List UInt8) × (Int × Unit))))) × Unit)))) (v236 : Bool) (v237 : (List Int)) (v238 : Int) (v239 : (List (Int × ((List UInt8) × ((List UInt8) × ((List UInt8) × (Int × Unit))))))) (v240 : (List (Int × ((List UInt8) × ((List UInt8) × ((List UInt8) × (Int × Unit))))))) (v241 : Int) (v242 : Bool) =>
  (k1 v235 v236 v237 v238)) N v221 v222 v223 v224 v225 v226 v227 0)) N v213 v214 v215 v216 v217 v218 false 0)
  else
  (k0 v213 v214 v215))

def law09_LockOdds_l8 (N : Nat) (R : Type) (v219 : (List (Int × ((List UInt8) × ((List UInt8) × ((List UInt8) × (Int × Unit))))))) (v220 : (List (Int × ((List UInt8) × ((List UInt8) × ((List UInt8) × (Int × Unit))))))) (k0 : (List (Int × ((Int × ((List UInt8) × ((List UInt8) × ((List UInt8) × (Int × Unit))))) × Unit))) → (List Int) → Int → Option R) (k1 : (List (Int × ((Int × ((List UInt8) × ((List UInt8) × ((List UInt8) × (Int × Unit))))) × Unit))) → Bool → (List Int) → Int → Option R) : Nat → (List (Int × ((Int × ((List UInt8) × ((List UInt8) × ((List UInt8) × (Int × Unit))))) × Unit))) → (List Int) → Int → (List (Int × ((List UInt8) × ((List UInt8) × ((List UInt8) × (Int × Unit)))))) → (List (Int × ((List UInt8) × ((List UInt8) × ((List UInt8) × (Int × Unit)))))) → Int → Option R
  | 0 => fun _ _ _ _ _ _ => none
  | n + 1 => law09_LockOdds_l8B N R v219 v220 (law09_LockOdds_l8 N R v219 v220 k0 k1 n) k0 k1

def law09_LockOdds_l7B (N : Nat) (R : Type) (v208 : (List (Int × ((List UInt8) × ((List UInt8) × ((List UInt8) × (Int × Unit))))))) (v209 : (List (Int × ((List UInt8) × ((List UInt8) × ((List UInt8) × (Int × Unit))))))) (rec : (List (Int × ((Int × ((List UInt8) × ((List UInt8) × ((List UInt8) × (Int × Unit))))) × Unit))) → (List Int) → Int → (List (Int × ((List UInt8) × ((List UInt8) × ((List UInt8) × (Int × Unit)))))) → (List (Int × ((List UInt8) × ((List UInt8) × ((List UInt8) × (Int × Unit)))))) → Int → Int → Option R) (k0 : (List (Int × ((Int × ((List UInt8) × ((List UInt8) × ((List UInt8) × (Int × Unit))))) × Unit))) → (List Int) → Int → (List (Int × ((List UInt8) × ((List UInt8) × ((List UInt8) × (Int × Unit)))))) → (List (Int × ((List UInt8) × ((List UInt8) × ((List UInt8) × (Int × Unit)))))) → Int → Option R) (k1 : (List (Int × ((Int × ((List UInt8) × ((List UInt8) × ((List UInt8) × (Int × Unit))))) × Unit))) → Bool → (List Int) → Int → (List (Int × ((List UInt8) × ((List UInt8) × ((List UInt8) × (Int × Unit)))))) → (List (Int × ((List UInt8) × ((List UInt8) × ((List UInt8) × (Int × Unit)))))) → Int → Option R) (v201 : (List (Int × ((Int × ((List UInt8) × ((List UInt8) × ((List UInt8) × (Int × Unit))))) × Unit)))) (v202 : (List Int)) (v203 : Int) (v204 : (List (Int × ((List UInt8) × ((List UInt8) × ((List UInt8) × (Int × Unit))))))) (v205 : (List (Int × ((List UInt8) × ((List UInt8) × ((List UInt8) × (Int × Unit))))))) (v206 : Int) (v207 : Int) : Option R :=
  (bif (decide (v207 < v206)) then
  (Option.bind (nth v204 v206) fun (v210 : (Int × ((List UInt8) × ((List UInt8) × ((List UInt8) × (Int × Unit)))))) =>
  (Option.bind (nth v204 v207) fun (v211 : (Int × ((List UInt8) × ((List UInt8) × ((List UInt8) × (Int × Unit)))))) =>
  (Option.bind (lock_Clash N v210.1 v210.2.1 v210.2.2.1 v210.2.2.2.1 v210.2.2.2.2.1 v211.1 v211.2.1 v211.2.2.1 v211.2.2.2.1 v211.2.2.2.2.1) fun (v212 : Bool × Unit) =>
  (bif v212.1 then
  (k1 v201 false v202 v203 v204 v205 v206)
  else
  (rec v201 v202 v203 v204 v205 v206 (IntKind.wrap .i64 (v207 + 1)))))))
  else
  (k0 v201 v202 v203 v204 v205 v206))

def law09_LockOdds_l7 (N : Nat) (R : Type) (v208 : (List (Int × ((List UInt8) × ((List UInt8) × ((List UInt8) × (Int × Unit))))))) (v209 : (List (Int × ((List UInt8) × ((List UInt8) × ((List UInt8) × (Int × Unit))))))) (k0 : (List (Int × ((Int × ((List UInt8) × ((List UInt8) × ((List UInt8) × (Int × Unit))))) × Unit))) → (List Int) → Int → (List (Int × ((List UInt8) × ((List UInt8) × ((List UInt8) × (Int × Unit)))))) → (List (Int × ((List UInt8) × ((List UInt8) × ((List UInt8) × (Int × Unit)))))) → Int → Option R) (k1 : (List (Int × ((Int × ((List UInt8) × ((List UInt8) × ((List UInt8) × (Int × Unit))))) × Unit))) → Bool → (List Int) → Int → (List (Int × ((List UInt8) × ((List UInt8) × ((List UInt8) × (Int × Unit)))))) → (List (Int × ((List UInt8) × ((List UInt8) × ((List UInt8) × (Int × Unit)))))) → Int → Option R) : Nat → (List (Int × ((Int × ((List UInt8) × ((List UInt8) × ((List UInt8) × (Int × Unit))))) × Unit))) → (List Int) → Int → (List (Int × ((List UInt8) × ((List UInt8) × ((List UInt8) × (Int × Unit)))))) → (List (Int × ((List UInt8) × ((List UInt8) × ((List UInt8) × (Int × Unit)))))) → Int → Int → Option R
  | 0 => fun _ _ _ _ _ _ _ => none
  | n + 1 => law09_LockOdds_l7B N R v208 v209 (law09_LockOdds_l7 N R v208 v209 k0 k1 n) k0 k1

def law09_LockOdds_l6B (N : Nat) (R : Type) (v186 : (List (Int × ((List UInt8) × ((List UInt8) × ((List UInt8) × (Int × Unit))))))) (v187 : (List (Int × ((List UInt8) × ((List UInt8) × ((List UInt8) × (Int × Unit))))))) (rec : (List (Int × ((Int × ((List UInt8) × ((List UInt8) × ((List UInt8) × (Int × Unit))))) × Unit))) → (List Int) → Int → (List (Int × ((List UInt8) × ((List UInt8) × ((List UInt8) × (Int × Unit)))))) → (List (Int × ((List UInt8) × ((List UInt8) × ((List UInt8) × (Int × Unit)))))) → Int → Option R) (k0 : (List (Int × ((Int × ((List UInt8) × ((List UInt8) × ((List UInt8) × (Int × Unit))))) × Unit))) → (List Int) → Int → (List (Int × ((List UInt8) × ((List UInt8) × ((List UInt8) × (Int × Unit)))))) → (List (Int × ((List UInt8) × ((List UInt8) × ((List UInt8) × (Int × Unit)))))) → Option R) (k1 : (List (Int × ((Int × ((List UInt8) × ((List UInt8) × ((List UInt8) × (Int × Unit))))) × Unit))) → Bool → (List Int) → Int → (List (Int × ((List UInt8) × ((List UInt8) × ((List UInt8) × (Int × Unit)))))) → (List (Int × ((List UInt8) × ((List UInt8) × ((List UInt8) × (Int × Unit)))))) → Option R) (v180 : (List (Int × ((Int × ((List UInt8) × ((List UInt8) × ((List UInt8) × (Int × Unit))))) × Unit)))) (v181 : (List Int)) (v182 : Int) (v183 : (List (Int × ((List UInt8) × ((List UInt8) × ((List UInt8) × (Int × Unit))))))) (v184 : (List (Int × ((List UInt8) × ((List UInt8) × ((List UInt8) × (Int × Unit))))))) (v185 : Int) : Option R :=
  (bif (decide (v185 < (v183.length : Int))) then
  (law09_LockOdds_l7 N _ v186 v187 (fun (v188 : (List (Int × ((Int × ((List UInt8) × ((List UInt8) × ((List UInt8) × (Int × Unit))))) × Unit)))) (v189 : (List Int)) (v190 : Int) (v191 : (List (Int × ((List UInt8) × ((List UInt8) × ((List UInt8) × (Int × Unit))))))) (v192 : (List (Int × ((List UInt8) × ((List UInt8) × ((List UInt8) × (Int × Unit))))))) (v193 : Int) =>
  (rec v188 v189 v190 v191 v192 (IntKind.wrap .i64 (v193 + 1)))) (fun (v194 : (List (Int × ((Int × ((List UInt8) × ((List UInt8) × ((List UInt8) × (Int × Unit))))) × Unit)))) (v195 : Bool) (v196 : (List Int)) (v197 : Int) (v198 : (List (Int × ((List UInt8) × ((List UInt8) × ((List UInt8) × (Int × Unit))))))) (v199 : (List (Int × ((List UInt8) × ((List UInt8) × ((List UInt8) × (Int × Unit))))))) (v200 : Int) =>
  (k1 v194 v195 v196 v197 v198 v199)) N v180 v181 v182 v183 v184 v185 0)
  else
  (k0 v180 v181 v182 v183 v184))

def law09_LockOdds_l6 (N : Nat) (R : Type) (v186 : (List (Int × ((List UInt8) × ((List UInt8) × ((List UInt8) × (Int × Unit))))))) (v187 : (List (Int × ((List UInt8) × ((List UInt8) × ((List UInt8) × (Int × Unit))))))) (k0 : (List (Int × ((Int × ((List UInt8) × ((List UInt8) × ((List UInt8) × (Int × Unit))))) × Unit))) → (List Int) → Int → (List (Int × ((List UInt8) × ((List UInt8) × ((List UInt8) × (Int × Unit)))))) → (List (Int × ((List UInt8) × ((List UInt8) × ((List UInt8) × (Int × Unit)))))) → Option R) (k1 : (List (Int × ((Int × ((List UInt8) × ((List UInt8) × ((List UInt8) × (Int × Unit))))) × Unit))) → Bool → (List Int) → Int → (List (Int × ((List UInt8) × ((List UInt8) × ((List UInt8) × (Int × Unit)))))) → (List (Int × ((List UInt8) × ((List UInt8) × ((List UInt8) × (Int × Unit)))))) → Option R) : Nat → (List (Int × ((Int × ((List UInt8) × ((List UInt8) × ((List UInt8) × (Int × Unit))))) × Unit))) → (List Int) → Int → (List (Int × ((List UInt8) × ((List UInt8) × ((List UInt8) × (Int × Unit)))))) → (List (Int × ((List UInt8) × ((List UInt8) × ((List UInt8) × (Int × Unit)))))) → Int → Option R
  | 0 => fun _ _ _ _ _ _ => none
  | n + 1 => law09_LockOdds_l6B N R v186 v187 (law09_LockOdds_l6 N R v186 v187 k0 k1 n) k0 k1

def law09_LockOdds_l5B (N : Nat) (R : Type) (v176 : (List (Int × ((List UInt8) × ((List UInt8) × ((List UInt8) × (Int × Unit))))))) (v177 : (List (Int × ((List UInt8) × ((List UInt8) × ((List UInt8) × (Int × Unit))))))) (rec : (List (Int × ((Int × ((List UInt8) × ((List UInt8) × ((List UInt8) × (Int × Unit))))) × Unit))) → (List Int) → Int → (List (Int × ((List UInt8) × ((List UInt8) × ((List UInt8) × (Int × Unit)))))) → Int → Option R) (k0 : (List (Int × ((Int × ((List UInt8) × ((List UInt8) × ((List UInt8) × (Int × Unit))))) × Unit))) → (List Int) → Int → (List (Int × ((List UInt8) × ((List UInt8) × ((List UInt8) × (Int × Unit)))))) → Option R) (v171 : (List (Int × ((Int × ((List UInt8) × ((List UInt8) × ((List UInt8) × (Int × Unit))))) × Unit)))) (v172 : (List Int)) (v173 : Int) (v174 : (List (Int × ((List UInt8) × ((List UInt8) × ((List UInt8) × (Int × Unit))))))) (v175 : Int) : Option R :=
  (bif (decide (v175 < (v172.length : Int))) then
  (Option.bind (nth v172 v175) fun (v178 : Int) =>
  (Option.bind (lock_Locks_Granted N v178 v176 v177) fun (v179 : (List (Int × ((List UInt8) × ((List UInt8) × ((List UInt8) × (Int × Unit)))))) × Unit) =>
  (bif (room 80 (v174.length + v179.1.length)) then
  (rec v171 v172 v173 (v174 ++ v179.1) (IntKind.wrap .i64 (v175 + 1)))
  else
  none)))
  else
  (k0 v171 v172 v173 v174))

def law09_LockOdds_l5 (N : Nat) (R : Type) (v176 : (List (Int × ((List UInt8) × ((List UInt8) × ((List UInt8) × (Int × Unit))))))) (v177 : (List (Int × ((List UInt8) × ((List UInt8) × ((List UInt8) × (Int × Unit))))))) (k0 : (List (Int × ((Int × ((List UInt8) × ((List UInt8) × ((List UInt8) × (Int × Unit))))) × Unit))) → (List Int) → Int → (List (Int × ((List UInt8) × ((List UInt8) × ((List UInt8) × (Int × Unit)))))) → Option R) : Nat → (List (Int × ((Int × ((List UInt8) × ((List UInt8) × ((List UInt8) × (Int × Unit))))) × Unit))) → (List Int) → Int → (List (Int × ((List UInt8) × ((List UInt8) × ((List UInt8) × (Int × Unit)))))) → Int → Option R
  | 0 => fun _ _ _ _ _ => none
  | n + 1 => law09_LockOdds_l5B N R v176 v177 (law09_LockOdds_l5 N R v176 v177 k0 n) k0

def law09_LockOdds_j4 (N : Nat) (R : Type) (v146 : (List (Int × ((List UInt8) × ((List UInt8) × ((List UInt8) × (Int × Unit))))))) (v147 : (List (Int × ((List UInt8) × ((List UInt8) × ((List UInt8) × (Int × Unit))))))) (k0 : (List (Int × ((Int × ((List UInt8) × ((List UInt8) × ((List UInt8) × (Int × Unit))))) × Unit))) → (List Int) → Int → Option R) (k1 : (List (Int × ((Int × ((List UInt8) × ((List UInt8) × ((List UInt8) × (Int × Unit))))) × Unit))) → Bool → (List Int) → Int → Option R) (v143 : (List (Int × ((Int × ((List UInt8) × ((List UInt8) × ((List UInt8) × (Int × Unit))))) × Unit)))) (v144 : (List Int)) (v145 : Int) : Option R :=
  (law09_LockOdds_l5 N _ v146 v147 (fun (v148 : (List (Int × ((Int × ((List UInt8) × ((List UInt8) × ((List UInt8) × (Int × Unit))))) × Unit)))) (v149 : (List Int)) (v150 : Int) (v151 : (List (Int × ((List UInt8) × ((List UInt8) × ((List UInt8) × (Int × Unit))))))) =>
  (Option.bind (lock_Locks_Waiting N v146 v147) fun (v152 : (List (Int × ((List UInt8) × ((List UInt8) × ((List UInt8) × (Int × Unit)))))) × Unit) =>
  (law09_LockOdds_l6 N _ v146 v147 (fun (v153 : (List (Int × ((Int × ((List UInt8) × ((List UInt8) × ((List UInt8) × (Int × Unit))))) × Unit)))) (v154 : (List Int)) (v155 : Int) (v156 : (List (Int × ((List UInt8) × ((List UInt8) × ((List UInt8) × (Int × Unit))))))) (v157 : (List (Int × ((List UInt8) × ((List UInt8) × ((List UInt8) × (Int × Unit))))))) =>
  (law09_LockOdds_l8 N _ v146 v147 (fun (v158 : (List (Int × ((Int × ((List UInt8) × ((List UInt8) × ((List UInt8) × (Int × Unit))))) × Unit)))) (v159 : (List Int)) (v160 : Int) =>
  (k0 v158 v159 v160)) (fun (v161 : (List (Int × ((Int × ((List UInt8) × ((List UInt8) × ((List UInt8) × (Int × Unit))))) × Unit)))) (v162 : Bool) (v163 : (List Int)) (v164 : Int) =>
  (k1 v161 v162 v163 v164)) N v153 v154 v155 v156 v157 0)) (fun (v165 : (List (Int × ((Int × ((List UInt8) × ((List UInt8) × ((List UInt8) × (Int × Unit))))) × Unit)))) (v166 : Bool) (v167 : (List Int)) (v168 : Int) (v169 : (List (Int × ((List UInt8) × ((List UInt8) × ((List UInt8) × (Int × Unit))))))) (v170 : (List (Int × ((List UInt8) × ((List UInt8) × ((List UInt8) × (Int × Unit))))))) =>
  (k1 v165 v166 v167 v168)) N v148 v149 v150 v151 v152.1 0))) N v143 v144 v145 [] 0)

def law09_LockOdds_j3 (N : Nat) (R : Type) (v113 : Int) (v114 : Int) (v115 : (List UInt8)) (v116 : (List UInt8)) (v117 : (List UInt8)) (v118 : Int) (v119 : (List (Int × ((List UInt8) × ((List UInt8) × ((List UInt8) × (Int × Unit))))))) (v120 : (List (Int × ((List UInt8) × ((List UInt8) × ((List UInt8) × (Int × Unit))))))) (k0 : (List (Int × ((Int × ((List UInt8) × ((List UInt8) × ((List UInt8) × (Int × Unit))))) × Unit))) → (List Int) → Int → (List (Int × ((List UInt8) × ((List UInt8) × ((List UInt8) × (Int × Unit)))))) → (List (Int × ((List UInt8) × ((List UInt8) × ((List UInt8) × (Int × Unit)))))) → Option R) (k1 : (List (Int × ((Int × ((List UInt8) × ((List UInt8) × ((List UInt8) × (Int × Unit))))) × Unit))) → Bool → (List Int) → Int → (List (Int × ((List UInt8) × ((List UInt8) × ((List UInt8) × (Int × Unit)))))) → (List (Int × ((List UInt8) × ((List UInt8) × ((List UInt8) × (Int × Unit)))))) → Option R) (v109 : (List (Int × ((Int × ((List UInt8) × ((List UInt8) × ((List UInt8) × (Int × Unit))))) × Unit)))) (v110 : (List Int)) (v111 : Int) (v112 : Bool) : Option R :=
  (bif v112 then
  (bif (decide (v113 = 3)) then
  (Option.bind (lock_Locks_Cancel N v114 v119 v120) fun (v121 : (List Int) × (List (Int × ((List UInt8) × ((List UInt8) × ((List UInt8) × (Int × Unit)))))) × (List (Int × ((List UInt8) × ((List UInt8) × ((List UInt8) × (Int × Unit)))))) × Unit) =>
  (law09_LockOdds_j4 N _ v121.2.1 v121.2.2.1 (fun (v122 : (List (Int × ((Int × ((List UInt8) × ((List UInt8) × ((List UInt8) × (Int × Unit))))) × Unit)))) (v123 : (List Int)) (v124 : Int) =>
  (k0 v122 v123 v124 v121.2.1 v121.2.2.1)) (fun (v125 : (List (Int × ((Int × ((List UInt8) × ((List UInt8) × ((List UInt8) × (Int × Unit))))) × Unit)))) (v126 : Bool) (v127 : (List Int)) (v128 : Int) =>
  (k1 v125 v126 v127 v128 v121.2.1 v121.2.2.1)) v109 v110 v111))
  else
  (law09_LockOdds_j4 N _ v119 v120 (fun (v129 : (List (Int × ((Int × ((List UInt8) × ((List UInt8) × ((List UInt8) × (Int × Unit))))) × Unit)))) (v130 : (List Int)) (v131 : Int) =>
  (k0 v129 v130 v131 v119 v120)) (fun (v132 : (List (Int × ((Int × ((List UInt8) × ((List UInt8) × ((List UInt8) × (Int × Unit))))) × Unit)))) (v133 : Bool) (v134 : (List Int)) (v135 : Int) =>
  (k1 v132 v133 v134 v135 v119 v120)) v109 v110 v111))
  else
  (law09_LockOdds_j4 N _ v119 v120 (fun (v136 : (List (Int × ((Int × ((List UInt8) × ((List UInt8) × ((List UInt8) × (Int × Unit))))) × Unit)))) (v137 : (List Int)) (v138 : Int) =>
  (k0 v136 v137 v138 v119 v120)) (fun (v139 : (List (Int × ((Int × ((List UInt8) × ((List UInt8) × ((List UInt8) × (Int × Unit))))) × Unit)))) (v140 : Bool) (v141 : (List Int)) (v142 : Int) =>
  (k1 v139 v140 v141 v142 v119 v120)) v109 v110 v111))

def law09_LockOdds_j2 (N : Nat) (R : Type) (v67 : Int) (v68 : Int) (v69 : (List UInt8)) (v70 : (List UInt8)) (v71 : (List UInt8)) (v72 : Int) (v73 : (List (Int × ((List UInt8) × ((List UInt8) × ((List UInt8) × (Int × Unit))))))) (v74 : (List (Int × ((List UInt8) × ((List UInt8) × ((List UInt8) × (Int × Unit))))))) (k0 : (List (Int × ((Int × ((List UInt8) × ((List UInt8) × ((List UInt8) × (Int × Unit))))) × Unit))) → (List Int) → Int → (List (Int × ((List UInt8) × ((List UInt8) × ((List UInt8) × (Int × Unit)))))) → (List (Int × ((List UInt8) × ((List UInt8) × ((List UInt8) × (Int × Unit)))))) → Option R) (k1 : (List (Int × ((Int × ((List UInt8) × ((List UInt8) × ((List UInt8) × (Int × Unit))))) × Unit))) → Bool → (List Int) → Int → (List (Int × ((List UInt8) × ((List UInt8) × ((List UInt8) × (Int × Unit)))))) → (List (Int × ((List UInt8) × ((List UInt8) × ((List UInt8) × (Int × Unit)))))) → Option R) (v63 : (List (Int × ((Int × ((List UInt8) × ((List UInt8) × ((List UInt8) × (Int × Unit))))) × Unit)))) (v64 : (List Int)) (v65 : Int) (v66 : Bool) : Option R :=
  (bif v66 then
  (bif (decide (v67 = 2)) then
  (Option.bind (lock_Locks_Drop N v68 v73 v74) fun (v75 : (List Int) × (List (Int × ((List UInt8) × ((List UInt8) × ((List UInt8) × (Int × Unit)))))) × (List (Int × ((List UInt8) × ((List UInt8) × ((List UInt8) × (Int × Unit)))))) × Unit) =>
  (law09_LockOdds_j3 N _ v67 v68 v69 v70 v71 v72 v75.2.1 v75.2.2.1 (fun (v76 : (List (Int × ((Int × ((List UInt8) × ((List UInt8) × ((List UInt8) × (Int × Unit))))) × Unit)))) (v77 : (List Int)) (v78 : Int) (v79 : (List (Int × ((List UInt8) × ((List UInt8) × ((List UInt8) × (Int × Unit))))))) (v80 : (List (Int × ((List UInt8) × ((List UInt8) × ((List UInt8) × (Int × Unit))))))) =>
  (k0 v76 v77 v78 v79 v80)) (fun (v81 : (List (Int × ((Int × ((List UInt8) × ((List UInt8) × ((List UInt8) × (Int × Unit))))) × Unit)))) (v82 : Bool) (v83 : (List Int)) (v84 : Int) (v85 : (List (Int × ((List UInt8) × ((List UInt8) × ((List UInt8) × (Int × Unit))))))) (v86 : (List (Int × ((List UInt8) × ((List UInt8) × ((List UInt8) × (Int × Unit))))))) =>
  (k1 v81 v82 v83 v84 v85 v86)) v63 v64 v65 v66))
  else
  (law09_LockOdds_j3 N _ v67 v68 v69 v70 v71 v72 v73 v74 (fun (v87 : (List (Int × ((Int × ((List UInt8) × ((List UInt8) × ((List UInt8) × (Int × Unit))))) × Unit)))) (v88 : (List Int)) (v89 : Int) (v90 : (List (Int × ((List UInt8) × ((List UInt8) × ((List UInt8) × (Int × Unit))))))) (v91 : (List (Int × ((List UInt8) × ((List UInt8) × ((List UInt8) × (Int × Unit))))))) =>
  (k0 v87 v88 v89 v90 v91)) (fun (v92 : (List (Int × ((Int × ((List UInt8) × ((List UInt8) × ((List UInt8) × (Int × Unit))))) × Unit)))) (v93 : Bool) (v94 : (List Int)) (v95 : Int) (v96 : (List (Int × ((List UInt8) × ((List UInt8) × ((List UInt8) × (Int × Unit))))))) (v97 : (List (Int × ((List UInt8) × ((List UInt8) × ((List UInt8) × (Int × Unit))))))) =>
  (k1 v92 v93 v94 v95 v96 v97)) v63 v64 v65 v66))
  else
  (law09_LockOdds_j3 N _ v67 v68 v69 v70 v71 v72 v73 v74 (fun (v98 : (List (Int × ((Int × ((List UInt8) × ((List UInt8) × ((List UInt8) × (Int × Unit))))) × Unit)))) (v99 : (List Int)) (v100 : Int) (v101 : (List (Int × ((List UInt8) × ((List UInt8) × ((List UInt8) × (Int × Unit))))))) (v102 : (List (Int × ((List UInt8) × ((List UInt8) × ((List UInt8) × (Int × Unit))))))) =>
  (k0 v98 v99 v100 v101 v102)) (fun (v103 : (List (Int × ((Int × ((List UInt8) × ((List UInt8) × ((List UInt8) × (Int × Unit))))) × Unit)))) (v104 : Bool) (v105 : (List Int)) (v106 : Int) (v107 : (List (Int × ((List UInt8) × ((List UInt8) × ((List UInt8) × (Int × Unit))))))) (v108 : (List (Int × ((List UInt8) × ((List UInt8) × ((List UInt8) × (Int × Unit))))))) =>
  (k1 v103 v104 v105 v106 v107 v108)) v63 v64 v65 v66))

def law09_LockOdds_j1 (N : Nat) (R : Type) (v25 : (List (Int × ((List UInt8) × ((List UInt8) × ((List UInt8) × (Int × Unit))))))) (v26 : (List (Int × ((List UInt8) × ((List UInt8) × ((List UInt8) × (Int × Unit))))))) (k0 : (List (Int × ((Int × ((List UInt8) × ((List UInt8) × ((List UInt8) × (Int × Unit))))) × Unit))) → (List Int) → Int → (List (Int × ((List UInt8) × ((List UInt8) × ((List UInt8) × (Int × Unit)))))) → (List (Int × ((List UInt8) × ((List UInt8) × ((List UInt8) × (Int × Unit)))))) → Option R) (k1 : (List (Int × ((Int × ((List UInt8) × ((List UInt8) × ((List UInt8) × (Int × Unit))))) × Unit))) → Bool → (List Int) → Int → (List (Int × ((List UInt8) × ((List UInt8) × ((List UInt8) × (Int × Unit)))))) → (List (Int × ((List UInt8) × ((List UInt8) × ((List UInt8) × (Int × Unit)))))) → Option R) (v22 : (List (Int × ((Int × ((List UInt8) × ((List UInt8) × ((List UInt8) × (Int × Unit))))) × Unit)))) (v23 : (List Int)) (v24 : Int) : Option R :=
  (Option.bind (nth v22 v24) fun (v27 : (Int × ((Int × ((List UInt8) × ((List UInt8) × ((List UInt8) × (Int × Unit))))) × Unit))) =>
  (Option.bind (law09_short N v27.2.1.1 v27.2.1.2.1 v27.2.1.2.2.1 v27.2.1.2.2.2.1 v27.2.1.2.2.2.2.1) fun (v28 : Bool × Unit) =>
  (bif v28.1 then
  (bif (decide (v27.1 = 1)) then
  (Option.bind (lock_Locks_Ask N v27.2.1.1 v27.2.1.2.1 v27.2.1.2.2.1 v27.2.1.2.2.2.1 v27.2.1.2.2.2.2.1 v25 v26) fun (v29 : Bool × Int × (List (Int × ((List UInt8) × ((List UInt8) × ((List UInt8) × (Int × Unit)))))) × (List (Int × ((List UInt8) × ((List UInt8) × ((List UInt8) × (Int × Unit)))))) × Unit) =>
  (law09_LockOdds_j2 N _ v27.1 v27.2.1.1 v27.2.1.2.1 v27.2.1.2.2.1 v27.2.1.2.2.2.1 v27.2.1.2.2.2.2.1 v29.2.2.1 v29.2.2.2.1 (fun (v30 : (List (Int × ((Int × ((List UInt8) × ((List UInt8) × ((List UInt8) × (Int × Unit))))) × Unit)))) (v31 : (List Int)) (v32 : Int) (v33 : (List (Int × ((List UInt8) × ((List UInt8) × ((List UInt8) × (Int × Unit))))))) (v34 : (List (Int × ((List UInt8) × ((List UInt8) × ((List UInt8) × (Int × Unit))))))) =>
  (k0 v30 v31 (IntKind.wrap .i64 (v32 + 1)) v33 v34)) (fun (v35 : (List (Int × ((Int × ((List UInt8) × ((List UInt8) × ((List UInt8) × (Int × Unit))))) × Unit)))) (v36 : Bool) (v37 : (List Int)) (v38 : Int) (v39 : (List (Int × ((List UInt8) × ((List UInt8) × ((List UInt8) × (Int × Unit))))))) (v40 : (List (Int × ((List UInt8) × ((List UInt8) × ((List UInt8) × (Int × Unit))))))) =>
  (k1 v35 v36 v37 v38 v39 v40)) v22 v23 v24 v28.1))
  else
  (law09_LockOdds_j2 N _ v27.1 v27.2.1.1 v27.2.1.2.1 v27.2.1.2.2.1 v27.2.1.2.2.2.1 v27.2.1.2.2.2.2.1 v25 v26 (fun (v41 : (List (Int × ((Int × ((List UInt8) × ((List UInt8) × ((List UInt8) × (Int × Unit))))) × Unit)))) (v42 : (List Int)) (v43 : Int) (v44 : (List (Int × ((List UInt8) × ((List UInt8) × ((List UInt8) × (Int × Unit))))))) (v45 : (List (Int × ((List UInt8) × ((List UInt8) × ((List UInt8) × (Int × Unit))))))) =>
  (k0 v41 v42 (IntKind.wrap .i64 (v43 + 1)) v44 v45)) (fun (v46 : (List (Int × ((Int × ((List UInt8) × ((List UInt8) × ((List UInt8) × (Int × Unit))))) × Unit)))) (v47 : Bool) (v48 : (List Int)) (v49 : Int) (v50 : (List (Int × ((List UInt8) × ((List UInt8) × ((List UInt8) × (Int × Unit))))))) (v51 : (List (Int × ((List UInt8) × ((List UInt8) × ((List UInt8) × (Int × Unit))))))) =>
  (k1 v46 v47 v48 v49 v50 v51)) v22 v23 v24 v28.1))
  else
  (law09_LockOdds_j2 N _ v27.1 v27.2.1.1 v27.2.1.2.1 v27.2.1.2.2.1 v27.2.1.2.2.2.1 v27.2.1.2.2.2.2.1 v25 v26 (fun (v52 : (List (Int × ((Int × ((List UInt8) × ((List UInt8) × ((List UInt8) × (Int × Unit))))) × Unit)))) (v53 : (List Int)) (v54 : Int) (v55 : (List (Int × ((List UInt8) × ((List UInt8) × ((List UInt8) × (Int × Unit))))))) (v56 : (List (Int × ((List UInt8) × ((List UInt8) × ((List UInt8) × (Int × Unit))))))) =>
  (k0 v52 v53 (IntKind.wrap .i64 (v54 + 1)) v55 v56)) (fun (v57 : (List (Int × ((Int × ((List UInt8) × ((List UInt8) × ((List UInt8) × (Int × Unit))))) × Unit)))) (v58 : Bool) (v59 : (List Int)) (v60 : Int) (v61 : (List (Int × ((List UInt8) × ((List UInt8) × ((List UInt8) × (Int × Unit))))))) (v62 : (List (Int × ((List UInt8) × ((List UInt8) × ((List UInt8) × (Int × Unit))))))) =>
  (k1 v57 v58 v59 v60 v61 v62)) v22 v23 v24 v28.1))))

def law09_LockOdds_l0B (N : Nat) (R : Type) (rec : (List (Int × ((Int × ((List UInt8) × ((List UInt8) × ((List UInt8) × (Int × Unit))))) × Unit))) → (List Int) → Int → (List (Int × ((List UInt8) × ((List UInt8) × ((List UInt8) × (Int × Unit)))))) → (List (Int × ((List UInt8) × ((List UInt8) × ((List UInt8) × (Int × Unit)))))) → Option R) (k0 : Option R) (k1 : Bool → Option R) (v6 : (List (Int × ((Int × ((List UInt8) × ((List UInt8) × ((List UInt8) × (Int × Unit))))) × Unit)))) (v7 : (List Int)) (v8 : Int) (v9 : (List (Int × ((List UInt8) × ((List UInt8) × ((List UInt8) × (Int × Unit))))))) (v10 : (List (Int × ((List UInt8) × ((List UInt8) × ((List UInt8) × (Int × Unit))))))) : Option R :=
  (bif (decide (v8 < (v6.length : Int))) then
  (bif (decide (v8 < 60)) then
  (law09_LockOdds_j1 N _ v9 v10 (fun (v11 : (List (Int × ((Int × ((List UInt8) × ((List UInt8) × ((List UInt8) × (Int × Unit))))) × Unit)))) (v12 : (List Int)) (v13 : Int) (v14 : (List (Int × ((List UInt8) × ((List UInt8) × ((List UInt8) × (Int × Unit))))))) (v15 : (List (Int × ((List UInt8) × ((List UInt8) × ((List UInt8) × (Int × Unit))))))) =>
  (rec v11 v12 v13 v14 v15)) (fun (v16 : (List (Int × ((Int × ((List UInt8) × ((List UInt8) × ((List UInt8) × (Int × Unit))))) × Unit)))) (v17 : Bool) (v18 : (List Int)) (v19 : Int) (v20 : (List (Int × ((List UInt8) × ((List UInt8) × ((List UInt8) × (Int × Unit))))))) (v21 : (List (Int × ((List UInt8) × ((List UInt8) × ((List UInt8) × (Int × Unit))))))) =>
  (k1 v17)) v6 v7 v8)
  else
  k0)
  else
  k0)

def law09_LockOdds_l0 (N : Nat) (R : Type) (k0 : Option R) (k1 : Bool → Option R) : Nat → (List (Int × ((Int × ((List UInt8) × ((List UInt8) × ((List UInt8) × (Int × Unit))))) × Unit))) → (List Int) → Int → (List (Int × ((List UInt8) × ((List UInt8) × ((List UInt8) × (Int × Unit)))))) → (List (Int × ((List UInt8) × ((List UInt8) × ((List UInt8) × (Int × Unit)))))) → Option R
  | 0 => fun _ _ _ _ _ => none
  | n + 1 => law09_LockOdds_l0B N R (law09_LockOdds_l0 N R k0 k1 n) k0 k1

def law09_LockOdds_cps (N : Nat) (R : Type) (K : Bool → Option R) (v1 : (List (Int × ((Int × ((List UInt8) × ((List UInt8) × ((List UInt8) × (Int × Unit))))) × Unit)))) : Option R :=
  (Option.bind (lock_New N) fun (v2 : (List (Int × ((List UInt8) × ((List UInt8) × ((List UInt8) × (Int × Unit)))))) × (List (Int × ((List UInt8) × ((List UInt8) × ((List UInt8) × (Int × Unit)))))) × Unit) =>
  (Option.bind (law09_transactions N v1) fun (v3 : (List Int) × Unit) =>
  (law09_LockOdds_l0 N _ ((Option.bind (law09_alive N) fun (v4 : Bool × Unit) =>
  (K v4.1))) (fun (v5 : Bool) =>
  (K v5)) N v1 v3.1 0 v2.1 v2.2.1)))

def law09_LockOdds (N : Nat) (v1 : (List (Int × ((Int × ((List UInt8) × ((List UInt8) × ((List UInt8) × (Int × Unit))))) × Unit)))) : Option (Bool × Unit) := law09_LockOdds_cps N _ (fun a0 => some (a0, ())) v1

/-- What is to be shown of the law LockOdds. -/
def LockOdds_Pure : Prop := ∀ x : denA [(.slice (.pair (.int .i64) (.pair (.pair (.int .i64) (.pair .str (.pair (.slice .byte) (.pair (.slice .byte) (.pair (.int .i64) .unit))))) .unit)))], WfA [(.slice (.pair (.int .i64) (.pair (.pair (.int .i64) (.pair .str (.pair (.slice .byte) (.pair (.slice .byte) (.pair (.int .i64) .unit))))) .unit)))] x → law09_LockOdds big x.1 = some (true, ())

end
end Go.Proofs.Ytkeejnlicagjiab.E
