/-
  The statement LockPlays of the program is proved: for every input that the row speaks of, the law answers true.
  Conditions: those that the statement's row prints, and no other. This text: pure functions, printed by a program out of the translation.
-/
import Derived.Test.YtkeejnlicagjiabEvA
import Derived.Lib.Bytealg
set_option linter.unusedVariables false
set_option linter.unusedSimpArgs false
/-! Pure functions, printed by wip/gen out of the translation. -/
namespace Go.Proofs.Ytkeejnlicagjiab.E
open Go.Ev
noncomputable section
/-! frankpledge/frankpledgelaw09.short -/
def law09_short_cps (N : Nat) (R : Type) (K : Bool → Option R) (v1 : Int) (v2 : (List UInt8)) (v3 : (List UInt8)) (v4 : (List UInt8)) (v5 : Int) : Option R :=
  (bif (decide ((v3.length : Int) ≤ 40)) then
  (bif (decide ((v4.length : Int) ≤ 40)) then
  (K (decide ((v2.length : Int) ≤ 40)))
  else
  (K false))
  else
  (K false))

def law09_short (N : Nat) (v1 : Int) (v2 : (List UInt8)) (v3 : (List UInt8)) (v4 : (List UInt8)) (v5 : Int) : Option (Bool × Unit) := law09_short_cps N _ (fun a0 => some (a0, ())) v1 v2 v3 v4 v5

/-! frankpledge/lock.New -/
def lock_New_cps (N : Nat) (R : Type) (K : (List (Int × ((List UInt8) × ((List UInt8) × ((List UInt8) × (Int × Unit)))))) → (List (Int × ((List UInt8) × ((List UInt8) × ((List UInt8) × (Int × Unit)))))) → Option R)  : Option R :=
  (K [] [])

def lock_New (N : Nat)  : Option ((List (Int × ((List UInt8) × ((List UInt8) × ((List UInt8) × (Int × Unit)))))) × (List (Int × ((List UInt8) × ((List UInt8) × ((List UInt8) × (Int × Unit)))))) × Unit) := lock_New_cps N _ (fun a0 a1 => some (a0, (a1, ()))) 

/-! internal/bytealg.Compare -/
def bytealg_Compare_cps (N : Nat) (R : Type) (K : Int → Option R) (v1 : (List UInt8)) (v2 : (List UInt8)) : Option R :=
  (K (Lib.compareBytes v1 v2))

def bytealg_Compare (N : Nat) (v1 : (List UInt8)) (v2 : (List UInt8)) : Option (Int × Unit) := bytealg_Compare_cps N _ (fun a0 => some (a0, ())) v1 v2

/-! bytes.Compare -/
def bytes_Compare_cps (N : Nat) (R : Type) (K : Int → Option R) (v1 : (List UInt8)) (v2 : (List UInt8)) : Option R :=
  (Option.bind (bytealg_Compare N v1 v2) fun (v3 : Int × Unit) =>
  (K v3.1))

def bytes_Compare (N : Nat) (v1 : (List UInt8)) (v2 : (List UInt8)) : Option (Int × Unit) := bytes_Compare_cps N _ (fun a0 => some (a0, ())) v1 v2

/-! frankpledge/lock.ahead -/
def lock_ahead_cps (N : Nat) (R : Type) (K : Bool → Option R) (v1 : (List UInt8)) (v2 : (List UInt8)) : Option R :=
  (bif (decide ((v2.length : Int) = 0)) then
  (K true)
  else
  (Option.bind (bytes_Compare N v1 v2) fun (v3 : Int × Unit) =>
  (K (decide (v3.1 < 0)))))

def lock_ahead (N : Nat) (v1 : (List UInt8)) (v2 : (List UInt8)) : Option (Bool × Unit) := lock_ahead_cps N _ (fun a0 => some (a0, ())) v1 v2

/-! (frankpledge/lock.Lock).right -/
def lock_Lock_right_cps (N : Nat) (R : Type) (K : Bool → Option R) (v1 : Int) (v2 : (List UInt8)) (v3 : (List UInt8)) (v4 : (List UInt8)) (v5 : Int) : Option R :=
  (bif (decide (v5 = 1)) then
  (Option.bind (lock_ahead N v3 v4) fun (v6 : Bool × Unit) =>
  (K v6.1))
  else
  (bif (decide (v5 = 2)) then
  (Option.bind (lock_ahead N v3 v4) fun (v7 : Bool × Unit) =>
  (K v7.1))
  else
  (K false)))

def lock_Lock_right (N : Nat) (v1 : Int) (v2 : (List UInt8)) (v3 : (List UInt8)) (v4 : (List UInt8)) (v5 : Int) : Option (Bool × Unit) := lock_Lock_right_cps N _ (fun a0 => some (a0, ())) v1 v2 v3 v4 v5

/-! (*frankpledge/lock.Locks).Ask$1 -/
def lock_Locks_Ask_c1_cps (N : Nat) (R : Type) (K : Bool → Option R) (v1 : Int) (v2 : (List UInt8)) (v3 : (List UInt8)) (v4 : (List UInt8)) (v5 : Int) (v6 : Int) (v7 : (List UInt8)) (v8 : (List UInt8)) (v9 : (List UInt8)) (v10 : Int) : Option R :=
  (K (decide (v1 = v6)))

def lock_Locks_Ask_c1 (N : Nat) (v1 : Int) (v2 : (List UInt8)) (v3 : (List UInt8)) (v4 : (List UInt8)) (v5 : Int) (v6 : Int) (v7 : (List UInt8)) (v8 : (List UInt8)) (v9 : (List UInt8)) (v10 : Int) : Option (Bool × Unit) := lock_Locks_Ask_c1_cps N _ (fun a0 => some (a0, ())) v1 v2 v3 v4 v5 v6 v7 v8 v9 v10

/-! slices.IndexFunc[[]frankpledge/lock.Lock,frankpledge/lock.Lock] -/
def slices_IndexFunc_lock_Lock_lock_Lock_l0B (N : Nat) (R : Type) (v10 : (List (Int × ((List UInt8) × ((List UInt8) × ((List UInt8) × (Int × Unit))))))) (v11 : Int) (v12 : (List UInt8)) (v13 : (List UInt8)) (v14 : (List UInt8)) (v15 : Int) (rec : Int → Int → Option R) (k0 : Option R) (k1 : Int → Option R) (v8 : Int) (v9 : Int) : Option R :=
  (bif (decide (v9 < v8)) then
  (Option.bind (nth v10 v9) fun (_ : (Int × ((List UInt8) × ((List UInt8) × ((List UInt8) × (Int × Unit)))))) =>
  (Option.bind (v10[(Int.toNat v9)]?) fun (v16 : (Int × ((List UInt8) × ((List UInt8) × ((List UInt8) × (Int × Unit)))))) =>
  (Option.bind (lock_Locks_Ask_c1 N v16.1 v16.2.1 v16.2.2.1 v16.2.2.2.1 v16.2.2.2.2.1 v11 v12 v13 v14 v15) fun (v17 : Bool × Unit) =>
  (bif v17.1 then
  (k1 v9)
  else
  (rec v8 (IntKind.wrap .i64 (v9 + 1)))))))
  else
  k0)

def slices_IndexFunc_lock_Lock_lock_Lock_l0 (N : Nat) (R : Type) (v10 : (List (Int × ((List UInt8) × ((List UInt8) × ((List UInt8) × (Int × Unit))))))) (v11 : Int) (v12 : (List UInt8)) (v13 : (List UInt8)) (v14 : (List UInt8)) (v15 : Int) (k0 : Option R) (k1 : Int → Option R) : Nat → Int → Int → Option R
  | 0 => fun _ _ => none
  | n + 1 => slices_IndexFunc_lock_Lock_lock_Lock_l0B N R v10 v11 v12 v13 v14 v15 (slices_IndexFunc_lock_Lock_lock_Lock_l0 N R v10 v11 v12 v13 v14 v15 k0 k1 n) k0 k1

def slices_IndexFunc_lock_Lock_lock_Lock_cps (N : Nat) (R : Type) (K : Int → Option R) (v1 : (List (Int × ((List UInt8) × ((List UInt8) × ((List UInt8) × (Int × Unit))))))) (v2 : Int) (v3 : (List UInt8)) (v4 : (List UInt8)) (v5 : (List UInt8)) (v6 : Int) : Option R :=
  (slices_IndexFunc_lock_Lock_lock_Lock_l0 N _ v1 v2 v3 v4 v5 v6 ((K (-1))) (fun (v7 : Int) =>
  (K v7)) N (v1.length : Int) 0)

def slices_IndexFunc_lock_Lock_lock_Lock (N : Nat) (v1 : (List (Int × ((List UInt8) × ((List UInt8) × ((List UInt8) × (Int × Unit))))))) (v2 : Int) (v3 : (List UInt8)) (v4 : (List UInt8)) (v5 : (List UInt8)) (v6 : Int) : Option (Int × Unit) := slices_IndexFunc_lock_Lock_lock_Lock_cps N _ (fun a0 => some (a0, ())) v1 v2 v3 v4 v5 v6

/-! slices.ContainsFunc[[]frankpledge/lock.Lock,frankpledge/lock.Lock] -/
def slices_ContainsFunc_lock_Lock_lock_Lock_cps (N : Nat) (R : Type) (K : Bool → Option R) (v1 : (List (Int × ((List UInt8) × ((List UInt8) × ((List UInt8) × (Int × Unit))))))) (v2 : Int) (v3 : (List UInt8)) (v4 : (List UInt8)) (v5 : (List UInt8)) (v6 : Int) : Option R :=
  (Option.bind (slices_IndexFunc_lock_Lock_lock_Lock N v1 v2 v3 v4 v5 v6) fun (v7 : Int × Unit) =>
  (K (decide (0 ≤ v7.1))))

def slices_ContainsFunc_lock_Lock_lock_Lock (N : Nat) (v1 : (List (Int × ((List UInt8) × ((List UInt8) × ((List UInt8) × (Int × Unit))))))) (v2 : Int) (v3 : (List UInt8)) (v4 : (List UInt8)) (v5 : (List UInt8)) (v6 : Int) : Option (Bool × Unit) := slices_ContainsFunc_lock_Lock_lock_Lock_cps N _ (fun a0 => some (a0, ())) v1 v2 v3 v4 v5 v6

/-! (frankpledge/lock.Lock).covers -/
def lock_Lock_covers_cps (N : Nat) (R : Type) (K : Bool → Option R) (v1 : Int) (v2 : (List UInt8)) (v3 : (List UInt8)) (v4 : (List UInt8)) (v5 : Int) (v6 : Int) (v7 : (List UInt8)) (v8 : (List UInt8)) (v9 : (List UInt8)) (v10 : Int) : Option R :=
  (bif (!(decide (v1 = v6))) then
  (K false)
  else
  (bif (!(decide (v2 = v7))) then
  (K false)
  else
  (bif (!(decide (v5 = v10))) then
  (bif (!(decide (v5 = 2))) then
  (K false)
  else
  (Option.bind (bytes_Compare N v3 v8) fun (v11 : Int × Unit) =>
  (bif (decide (v11.1 ≤ 0)) then
  (bif (decide ((v4.length : Int) = 0)) then
  (K true)
  else
  (bif (decide (0 < (v9.length : Int))) then
  (Option.bind (bytes_Compare N v9 v4) fun (v12 : Int × Unit) =>
  (K (decide (v12.1 ≤ 0))))
  else
  (K false)))
  else
  (K false))))
  else
  (Option.bind (bytes_Compare N v3 v8) fun (v13 : Int × Unit) =>
  (bif (decide (v13.1 ≤ 0)) then
  (bif (decide ((v4.length : Int) = 0)) then
  (K true)
  else
  (bif (decide (0 < (v9.length : Int))) then
  (Option.bind (bytes_Compare N v9 v4) fun (v14 : Int × Unit) =>
  (K (decide (v14.1 ≤ 0))))
  else
  (K false)))
  else
  (K false))))))

def lock_Lock_covers (N : Nat) (v1 : Int) (v2 : (List UInt8)) (v3 : (List UInt8)) (v4 : (List UInt8)) (v5 : Int) (v6 : Int) (v7 : (List UInt8)) (v8 : (List UInt8)) (v9 : (List UInt8)) (v10 : Int) : Option (Bool × Unit) := lock_Lock_covers_cps N _ (fun a0 => some (a0, ())) v1 v2 v3 v4 v5 v6 v7 v8 v9 v10

/-! (*frankpledge/lock.Locks).Ask$2 -/
def lock_Locks_Ask_c2_cps (N : Nat) (R : Type) (K : Bool → Option R) (v1 : Int) (v2 : (List UInt8)) (v3 : (List UInt8)) (v4 : (List UInt8)) (v5 : Int) (v6 : Int) (v7 : (List UInt8)) (v8 : (List UInt8)) (v9 : (List UInt8)) (v10 : Int) : Option R :=
  (Option.bind (lock_Lock_covers N v1 v2 v3 v4 v5 v6 v7 v8 v9 v10) fun (v11 : Bool × Unit) =>
  (K v11.1))

def lock_Locks_Ask_c2 (N : Nat) (v1 : Int) (v2 : (List UInt8)) (v3 : (List UInt8)) (v4 : (List UInt8)) (v5 : Int) (v6 : Int) (v7 : (List UInt8)) (v8 : (List UInt8)) (v9 : (List UInt8)) (v10 : Int) : Option (Bool × Unit) := lock_Locks_Ask_c2_cps N _ (fun a0 => some (a0, ())) v1 v2 v3 v4 v5 v6 v7 v8 v9 v10

/-! slices.IndexFunc[[]frankpledge/lock.Lock,frankpledge/lock.Lock] -/
def slices_IndexFunc_lock_Lock_lock_Lock_1_l0B (N : Nat) (R : Type) (v10 : (List (Int × ((List UInt8) × ((List UInt8) × ((List UInt8) × (Int × Unit))))))) (v11 : Int) (v12 : (List UInt8)) (v13 : (List UInt8)) (v14 : (List UInt8)) (v15 : Int) (rec : Int → Int → Option R) (k0 : Option R) (k1 : Int → Option R) (v8 : Int) (v9 : Int) : Option R :=
  (bif (decide (v9 < v8)) then
  (Option.bind (nth v10 v9) fun (_ : (Int × ((List UInt8) × ((List UInt8) × ((List UInt8) × (Int × Unit)))))) =>
  (Option.bind (v10[(Int.toNat v9)]?) fun (v16 : (Int × ((List UInt8) × ((List UInt8) × ((List UInt8) × (Int × Unit)))))) =>
  (Option.bind (lock_Locks_Ask_c2 N v16.1 v16.2.1 v16.2.2.1 v16.2.2.2.1 v16.2.2.2.2.1 v11 v12 v13 v14 v15) fun (v17 : Bool × Unit) =>
  (bif v17.1 then
  (k1 v9)
  else
  (rec v8 (IntKind.wrap .i64 (v9 + 1)))))))
  else
  k0)

def slices_IndexFunc_lock_Lock_lock_Lock_1_l0 (N : Nat) (R : Type) (v10 : (List (Int × ((List UInt8) × ((List UInt8) × ((List UInt8) × (Int × Unit))))))) (v11 : Int) (v12 : (List UInt8)) (v13 : (List UInt8)) (v14 : (List UInt8)) (v15 : Int) (k0 : Option R) (k1 : Int → Option R) : Nat → Int → Int → Option R
  | 0 => fun _ _ => none
  | n + 1 => slices_IndexFunc_lock_Lock_lock_Lock_1_l0B N R v10 v11 v12 v13 v14 v15 (slices_IndexFunc_lock_Lock_lock_Lock_1_l0 N R v10 v11 v12 v13 v14 v15 k0 k1 n) k0 k1

def slices_IndexFunc_lock_Lock_lock_Lock_1_cps (N : Nat) (R : Type) (K : Int → Option R) (v1 : (List (Int × ((List UInt8) × ((List UInt8) × ((List UInt8) × (Int × Unit))))))) (v2 : Int) (v3 : (List UInt8)) (v4 : (List UInt8)) (v5 : (List UInt8)) (v6 : Int) : Option R :=
  (slices_IndexFunc_lock_Lock_lock_Lock_1_l0 N _ v1 v2 v3 v4 v5 v6 ((K (-1))) (fun (v7 : Int) =>
  (K v7)) N (v1.length : Int) 0)

def slices_IndexFunc_lock_Lock_lock_Lock_1 (N : Nat) (v1 : (List (Int × ((List UInt8) × ((List UInt8) × ((List UInt8) × (Int × Unit))))))) (v2 : Int) (v3 : (List UInt8)) (v4 : (List UInt8)) (v5 : (List UInt8)) (v6 : Int) : Option (Int × Unit) := slices_IndexFunc_lock_Lock_lock_Lock_1_cps N _ (fun a0 => some (a0, ())) v1 v2 v3 v4 v5 v6

/-! slices.ContainsFunc[[]frankpledge/lock.Lock,frankpledge/lock.Lock] -/
def slices_ContainsFunc_lock_Lock_lock_Lock_1_cps (N : Nat) (R : Type) (K : Bool → Option R) (v1 : (List (Int × ((List UInt8) × ((List UInt8) × ((List UInt8) × (Int × Unit))))))) (v2 : Int) (v3 : (List UInt8)) (v4 : (List UInt8)) (v5 : (List UInt8)) (v6 : Int) : Option R :=
  (Option.bind (slices_IndexFunc_lock_Lock_lock_Lock_1 N v1 v2 v3 v4 v5 v6) fun (v7 : Int × Unit) =>
  (K (decide (0 ≤ v7.1))))

def slices_ContainsFunc_lock_Lock_lock_Lock_1 (N : Nat) (v1 : (List (Int × ((List UInt8) × ((List UInt8) × ((List UInt8) × (Int × Unit))))))) (v2 : Int) (v3 : (List UInt8)) (v4 : (List UInt8)) (v5 : (List UInt8)) (v6 : Int) : Option (Bool × Unit) := slices_ContainsFunc_lock_Lock_lock_Lock_1_cps N _ (fun a0 => some (a0, ())) v1 v2 v3 v4 v5 v6

/-! bytes.Clone -/
def bytes_Clone_cps (N : Nat) (R : Type) (K : (List UInt8) → Option R) (v1 : (List UInt8)) : Option R :=
  (bif (room 1 (([] : List UInt8).length + v1.length)) then
  (K ([] ++ v1))
  else
  none)

def bytes_Clone (N : Nat) (v1 : (List UInt8)) : Option ((List UInt8) × Unit) := bytes_Clone_cps N _ (fun a0 => some (a0, ())) v1

/-! bytes.Clone -/
def bytes_Clone_1_cps (N : Nat) (R : Type) (K : Option R)  : Option R :=
  K

def bytes_Clone_1 (N : Nat)  : Option (Unit) := bytes_Clone_1_cps N _ (some ()) 

/-! (frankpledge/lock.Lock).copied -/
def lock_Lock_copied_cps (N : Nat) (R : Type) (K : Int → (List UInt8) → (List UInt8) → (List UInt8) → Int → Option R) (v1 : Int) (v2 : (List UInt8)) (v3 : (List UInt8)) (v4 : (List UInt8)) (v5 : Int) : Option R :=
  (Option.bind (bytes_Clone N v3) fun (v6 : (List UInt8) × Unit) =>
  (Option.bind (bytes_Clone N v4) fun (v7 : (List UInt8) × Unit) =>
  (K v1 v2 v6.1 v7.1 v5)))

def lock_Lock_copied (N : Nat) (v1 : Int) (v2 : (List UInt8)) (v3 : (List UInt8)) (v4 : (List UInt8)) (v5 : Int) : Option (Int × (List UInt8) × (List UInt8) × (List UInt8) × Int × Unit) := lock_Lock_copied_cps N _ (fun a0 a1 a2 a3 a4 => some (a0, (a1, (a2, (a3, (a4, ())))))) v1 v2 v3 v4 v5

/-! frankpledge/lock.Clash -/
def lock_Clash_cps (N : Nat) (R : Type) (K : Bool → Option R) (v1 : Int) (v2 : (List UInt8)) (v3 : (List UInt8)) (v4 : (List UInt8)) (v5 : Int) (v6 : Int) (v7 : (List UInt8)) (v8 : (List UInt8)) (v9 : (List UInt8)) (v10 : Int) : Option R :=
  (bif (decide (v1 = v6)) then
  (K false)
  else
  (bif (!(decide (v2 = v7))) then
  (K false)
  else
  (bif (decide (v5 = 1)) then
  (bif (decide (v10 = 1)) then
  (K false)
  else
  (Option.bind (bytes_Compare N v8 v3) fun (v11 : Int × Unit) =>
  (bif (decide (0 < v11.1)) then
  (Option.bind (lock_ahead N v8 v4) fun (v12 : Bool × Unit) =>
  (bif v12.1 then
  (Option.bind (lock_ahead N v8 v9) fun (v13 : Bool × Unit) =>
  (K v13.1))
  else
  (K false)))
  else
  (Option.bind (lock_ahead N v3 v4) fun (v14 : Bool × Unit) =>
  (bif v14.1 then
  (Option.bind (lock_ahead N v3 v9) fun (v15 : Bool × Unit) =>
  (K v15.1))
  else
  (K false))))))
  else
  (Option.bind (bytes_Compare N v8 v3) fun (v16 : Int × Unit) =>
  (bif (decide (0 < v16.1)) then
  (Option.bind (lock_ahead N v8 v4) fun (v17 : Bool × Unit) =>
  (bif v17.1 then
  (Option.bind (lock_ahead N v8 v9) fun (v18 : Bool × Unit) =>
  (K v18.1))
  else
  (K false)))
  else
  (Option.bind (lock_ahead N v3 v4) fun (v19 : Bool × Unit) =>
  (bif v19.1 then
  (Option.bind (lock_ahead N v3 v9) fun (v20 : Bool × Unit) =>
  (K v20.1))
  else
  (K false))))))))

def lock_Clash (N : Nat) (v1 : Int) (v2 : (List UInt8)) (v3 : (List UInt8)) (v4 : (List UInt8)) (v5 : Int) (v6 : Int) (v7 : (List UInt8)) (v8 : (List UInt8)) (v9 : (List UInt8)) (v10 : Int) : Option (Bool × Unit) := lock_Clash_cps N _ (fun a0 => some (a0, ())) v1 v2 v3 v4 v5 v6 v7 v8 v9 v10

/-! frankpledge/lock.clashes$1 -/
def lock_clashes_c1_cps (N : Nat) (R : Type) (K : Bool → Option R) (v1 : Int) (v2 : (List UInt8)) (v3 : (List UInt8)) (v4 : (List UInt8)) (v5 : Int) (v6 : Int) (v7 : (List UInt8)) (v8 : (List UInt8)) (v9 : (List UInt8)) (v10 : Int) : Option R :=
  (Option.bind (lock_Clash N v6 v7 v8 v9 v10 v1 v2 v3 v4 v5) fun (v11 : Bool × Unit) =>
  (K v11.1))

def lock_clashes_c1 (N : Nat) (v1 : Int) (v2 : (List UInt8)) (v3 : (List UInt8)) (v4 : (List UInt8)) (v5 : Int) (v6 : Int) (v7 : (List UInt8)) (v8 : (List UInt8)) (v9 : (List UInt8)) (v10 : Int) : Option (Bool × Unit) := lock_clashes_c1_cps N _ (fun a0 => some (a0, ())) v1 v2 v3 v4 v5 v6 v7 v8 v9 v10

/-! slices.IndexFunc[[]frankpledge/lock.Lock,frankpledge/lock.Lock] -/
def slices_IndexFunc_lock_Lock_lock_Lock_2_l0B (N : Nat) (R : Type) (v10 : (List (Int × ((List UInt8) × ((List UInt8) × ((List UInt8) × (Int × Unit))))))) (v11 : Int) (v12 : (List UInt8)) (v13 : (List UInt8)) (v14 : (List UInt8)) (v15 : Int) (rec : Int → Int → Option R) (k0 : Option R) (k1 : Int → Option R) (v8 : Int) (v9 : Int) : Option R :=
  (bif (decide (v9 < v8)) then
  (Option.bind (nth v10 v9) fun (_ : (Int × ((List UInt8) × ((List UInt8) × ((List UInt8) × (Int × Unit)))))) =>
  (Option.bind (v10[(Int.toNat v9)]?) fun (v16 : (Int × ((List UInt8) × ((List UInt8) × ((List UInt8) × (Int × Unit)))))) =>
  (Option.bind (lock_clashes_c1 N v16.1 v16.2.1 v16.2.2.1 v16.2.2.2.1 v16.2.2.2.2.1 v11 v12 v13 v14 v15) fun (v17 : Bool × Unit) =>
  (bif v17.1 then
  (k1 v9)
  else
  (rec v8 (IntKind.wrap .i64 (v9 + 1)))))))
  else
  k0)

def slices_IndexFunc_lock_Lock_lock_Lock_2_l0 (N : Nat) (R : Type) (v10 : (List (Int × ((List UInt8) × ((List UInt8) × ((List UInt8) × (Int × Unit))))))) (v11 : Int) (v12 : (List UInt8)) (v13 : (List UInt8)) (v14 : (List UInt8)) (v15 : Int) (k0 : Option R) (k1 : Int → Option R) : Nat → Int → Int → Option R
  | 0 => fun _ _ => none
  | n + 1 => slices_IndexFunc_lock_Lock_lock_Lock_2_l0B N R v10 v11 v12 v13 v14 v15 (slices_IndexFunc_lock_Lock_lock_Lock_2_l0 N R v10 v11 v12 v13 v14 v15 k0 k1 n) k0 k1

def slices_IndexFunc_lock_Lock_lock_Lock_2_cps (N : Nat) (R : Type) (K : Int → Option R) (v1 : (List (Int × ((List UInt8) × ((List UInt8) × ((List UInt8) × (Int × Unit))))))) (v2 : Int) (v3 : (List UInt8)) (v4 : (List UInt8)) (v5 : (List UInt8)) (v6 : Int) : Option R :=
  (slices_IndexFunc_lock_Lock_lock_Lock_2_l0 N _ v1 v2 v3 v4 v5 v6 ((K (-1))) (fun (v7 : Int) =>
  (K v7)) N (v1.length : Int) 0)

def slices_IndexFunc_lock_Lock_lock_Lock_2 (N : Nat) (v1 : (List (Int × ((List UInt8) × ((List UInt8) × ((List UInt8) × (Int × Unit))))))) (v2 : Int) (v3 : (List UInt8)) (v4 : (List UInt8)) (v5 : (List UInt8)) (v6 : Int) : Option (Int × Unit) := slices_IndexFunc_lock_Lock_lock_Lock_2_cps N _ (fun a0 => some (a0, ())) v1 v2 v3 v4 v5 v6

/-! slices.ContainsFunc[[]frankpledge/lock.Lock,frankpledge/lock.Lock] -/
def slices_ContainsFunc_lock_Lock_lock_Lock_2_cps (N : Nat) (R : Type) (K : Bool → Option R) (v1 : (List (Int × ((List UInt8) × ((List UInt8) × ((List UInt8) × (Int × Unit))))))) (v2 : Int) (v3 : (List UInt8)) (v4 : (List UInt8)) (v5 : (List UInt8)) (v6 : Int) : Option R :=
  (Option.bind (slices_IndexFunc_lock_Lock_lock_Lock_2 N v1 v2 v3 v4 v5 v6) fun (v7 : Int × Unit) =>
  (K (decide (0 ≤ v7.1))))

def slices_ContainsFunc_lock_Lock_lock_Lock_2 (N : Nat) (v1 : (List (Int × ((List UInt8) × ((List UInt8) × ((List UInt8) × (Int × Unit))))))) (v2 : Int) (v3 : (List UInt8)) (v4 : (List UInt8)) (v5 : (List UInt8)) (v6 : Int) : Option (Bool × Unit) := slices_ContainsFunc_lock_Lock_lock_Lock_2_cps N _ (fun a0 => some (a0, ())) v1 v2 v3 v4 v5 v6

/-! frankpledge/lock.clashes -/
def lock_clashes_cps (N : Nat) (R : Type) (K : Bool → Option R) (v1 : Int) (v2 : (List UInt8)) (v3 : (List UInt8)) (v4 : (List UInt8)) (v5 : Int) (v6 : (List (Int × ((List UInt8) × ((List UInt8) × ((List UInt8) × (Int × Unit))))))) : Option R :=
  (Option.bind (slices_ContainsFunc_lock_Lock_lock_Lock_2 N v6 v1 v2 v3 v4 v5) fun (v7 : Bool × Unit) =>
  (K v7.1))

def lock_clashes (N : Nat) (v1 : Int) (v2 : (List UInt8)) (v3 : (List UInt8)) (v4 : (List UInt8)) (v5 : Int) (v6 : (List (Int × ((List UInt8) × ((List UInt8) × ((List UInt8) × (Int × Unit))))))) : Option (Bool × Unit) := lock_clashes_cps N _ (fun a0 => some (a0, ())) v1 v2 v3 v4 v5 v6

/-! (*frankpledge/lock.Locks).Ask -/
def lock_Locks_Ask_cps (N : Nat) (R : Type) (K : Bool → Int → (List (Int × ((List UInt8) × ((List UInt8) × ((List UInt8) × (Int × Unit)))))) → (List (Int × ((List UInt8) × ((List UInt8) × ((List UInt8) × (Int × Unit)))))) → Option R) (v1 : Int) (v2 : (List UInt8)) (v3 : (List UInt8)) (v4 : (List UInt8)) (v5 : Int) (v6 : (List (Int × ((List UInt8) × ((List UInt8) × ((List UInt8) × (Int × Unit))))))) (v7 : (List (Int × ((List UInt8) × ((List UInt8) × ((List UInt8) × (Int × Unit))))))) : Option R :=
  (Option.bind (lock_Lock_right N v1 v2 v3 v4 v5) fun (v8 : Bool × Unit) =>
  (bif (!v8.1) then
  (K false 1 v6 v7)
  else
  (Option.bind (slices_ContainsFunc_lock_Lock_lock_Lock N v7 v1 v2 v3 v4 v5) fun (v9 : Bool × Unit) =>
  (bif v9.1 then
  (K false 92 v6 v7)
  else
  (Option.bind (slices_ContainsFunc_lock_Lock_lock_Lock_1 N v6 v1 v2 v3 v4 v5) fun (v10 : Bool × Unit) =>
  (bif v10.1 then
  (K true 0 v6 v7)
  else
  (bif (decide (1024 ≤ (IntKind.wrap .i64 ((v6.length : Int) + (v7.length : Int))))) then
  (K false 62 v6 v7)
  else
  (Option.bind (lock_Lock_copied N v1 v2 v3 v4 v5) fun (v11 : Int × (List UInt8) × (List UInt8) × (List UInt8) × Int × Unit) =>
  (Option.bind (lock_clashes N v11.1 v11.2.1 v11.2.2.1 v11.2.2.2.1 v11.2.2.2.2.1 v6) fun (v12 : Bool × Unit) =>
  (bif v12.1 then
  (bif (room 80 (v7.length + ([(v11.1, (v11.2.1, (v11.2.2.1, (v11.2.2.2.1, (v11.2.2.2.2.1, ())))))] : (List (Int × ((List UInt8) × ((List UInt8) × ((List UInt8) × (Int × Unit))))))).length)) then
  (K false 0 v6 (v7 ++ ([(v11.1, (v11.2.1, (v11.2.2.1, (v11.2.2.2.1, (v11.2.2.2.2.1, ())))))] : (List (Int × ((List UInt8) × ((List UInt8) × ((List UInt8) × (Int × Unit)))))))))
  else
  none)
  else
  (Option.bind (lock_clashes N v11.1 v11.2.1 v11.2.2.1 v11.2.2.2.1 v11.2.2.2.2.1 v7) fun (v13 : Bool × Unit) =>
  (bif v13.1 then
  (bif (room 80 (v7.length + ([(v11.1, (v11.2.1, (v11.2.2.1, (v11.2.2.2.1, (v11.2.2.2.2.1, ())))))] : (List (Int × ((List UInt8) × ((List UInt8) × ((List UInt8) × (Int × Unit))))))).length)) then
  (K false 0 v6 (v7 ++ ([(v11.1, (v11.2.1, (v11.2.2.1, (v11.2.2.2.1, (v11.2.2.2.2.1, ())))))] : (List (Int × ((List UInt8) × ((List UInt8) × ((List UInt8) × (Int × Unit)))))))))
  else
  none)
  else
  (bif (room 80 (v6.length + ([(v11.1, (v11.2.1, (v11.2.2.1, (v11.2.2.2.1, (v11.2.2.2.2.1, ())))))] : (List (Int × ((List UInt8) × ((List UInt8) × ((List UInt8) × (Int × Unit))))))).length)) then
  (K true 0 (v6 ++ ([(v11.1, (v11.2.1, (v11.2.2.1, (v11.2.2.2.1, (v11.2.2.2.2.1, ())))))] : (List (Int × ((List UInt8) × ((List UInt8) × ((List UInt8) × (Int × Unit)))))))) v7)
  else
  none)))))))))))))

def lock_Locks_Ask (N : Nat) (v1 : Int) (v2 : (List UInt8)) (v3 : (List UInt8)) (v4 : (List UInt8)) (v5 : Int) (v6 : (List (Int × ((List UInt8) × ((List UInt8) × ((List UInt8) × (Int × Unit))))))) (v7 : (List (Int × ((List UInt8) × ((List UInt8) × ((List UInt8) × (Int × Unit))))))) : Option (Bool × Int × (List (Int × ((List UInt8) × ((List UInt8) × ((List UInt8) × (Int × Unit)))))) × (List (Int × ((List UInt8) × ((List UInt8) × ((List UInt8) × (Int × Unit)))))) × Unit) := lock_Locks_Ask_cps N _ (fun a0 a1 a2 a3 => some (a0, (a1, (a2, (a3, ()))))) v1 v2 v3 v4 v5 v6 v7

/-! (*frankpledge/lock.Locks).Ask -/
def lock_Locks_Ask_1_cps (N : Nat) (R : Type) (K : Bool → Int → (List (Int × ((List UInt8) × ((List UInt8) × ((List UInt8) × (Int × Unit)))))) → (List (Int × ((List UInt8) × ((List UInt8) × ((List UInt8) × (Int × Unit)))))) → Option R) (v1 : Int) (v2 : (List UInt8)) (v3 : (List UInt8)) (v4 : (List UInt8)) (v5 : Int) (v6 : (List (Int × ((List UInt8) × ((List UInt8) × ((List UInt8) × (Int × Unit))))))) (v7 : (List (Int × ((List UInt8) × ((List UInt8) × ((List UInt8) × (Int × Unit))))))) : Option R :=
  (Option.bind (lock_Lock_right N v1 v2 v3 v4 v5) fun (v8 : Bool × Unit) =>
  (bif (!v8.1) then
  (K false 1 v6 v7)
  else
  (Option.bind (slices_ContainsFunc_lock_Lock_lock_Lock N v7 v1 v2 v3 v4 v5) fun (v9 : Bool × Unit) =>
  (bif v9.1 then
  (K false 92 v6 v7)
  else
  (Option.bind (slices_ContainsFunc_lock_Lock_lock_Lock_1 N v6 v1 v2 v3 v4 v5) fun (v10 : Bool × Unit) =>
  (bif v10.1 then
  (K true 0 v6 v7)
  else
  (bif (decide (1024 ≤ (IntKind.wrap .i64 ((v6.length : Int) + (v7.length : Int))))) then
  (K false 62 v6 v7)
  else
  (Option.bind (lock_Lock_copied N v1 v2 v3 v4 v5) fun (v11 : Int × (List UInt8) × (List UInt8) × (List UInt8) × Int × Unit) =>
  (Option.bind (lock_clashes N v11.1 v11.2.1 v11.2.2.1 v11.2.2.2.1 v11.2.2.2.2.1 v6) fun (v12 : Bool × Unit) =>
  (bif v12.1 then
  (bif (room 80 (v7.length + ([(v11.1, (v11.2.1, (v11.2.2.1, (v11.2.2.2.1, (v11.2.2.2.2.1, ())))))] : (List (Int × ((List UInt8) × ((List UInt8) × ((List UInt8) × (Int × Unit))))))).length)) then
  (K false 0 v6 (v7 ++ ([(v11.1, (v11.2.1, (v11.2.2.1, (v11.2.2.2.1, (v11.2.2.2.2.1, ())))))] : (List (Int × ((List UInt8) × ((List UInt8) × ((List UInt8) × (Int × Unit)))))))))
  else
  none)
  else
  (Option.bind (lock_clashes N v11.1 v11.2.1 v11.2.2.1 v11.2.2.2.1 v11.2.2.2.2.1 v7) fun (v13 : Bool × Unit) =>
  (bif v13.1 then
  (bif (room 80 (v7.length + ([(v11.1, (v11.2.1, (v11.2.2.1, (v11.2.2.2.1, (v11.2.2.2.2.1, ())))))] : (List (Int × ((List UInt8) × ((List UInt8) × ((List UInt8) × (Int × Unit))))))).length)) then
  (K false 0 v6 (v7 ++ ([(v11.1, (v11.2.1, (v11.2.2.1, (v11.2.2.2.1, (v11.2.2.2.2.1, ())))))] : (List (Int × ((List UInt8) × ((List UInt8) × ((List UInt8) × (Int × Unit)))))))))
  else
  none)
  else
  (bif (room 80 (v6.length + ([(v11.1, (v11.2.1, (v11.2.2.1, (v11.2.2.2.1, (v11.2.2.2.2.1, ())))))] : (List (Int × ((List UInt8) × ((List UInt8) × ((List UInt8) × (Int × Unit))))))).length)) then
  (K true 0 (v6 ++ ([(v11.1, (v11.2.1, (v11.2.2.1, (v11.2.2.2.1, (v11.2.2.2.2.1, ())))))] : (List (Int × ((List UInt8) × ((List UInt8) × ((List UInt8) × (Int × Unit)))))))) v7)
  else
  none)))))))))))))

def lock_Locks_Ask_1 (N : Nat) (v1 : Int) (v2 : (List UInt8)) (v3 : (List UInt8)) (v4 : (List UInt8)) (v5 : Int) (v6 : (List (Int × ((List UInt8) × ((List UInt8) × ((List UInt8) × (Int × Unit))))))) (v7 : (List (Int × ((List UInt8) × ((List UInt8) × ((List UInt8) × (Int × Unit))))))) : Option (Bool × Int × (List (Int × ((List UInt8) × ((List UInt8) × ((List UInt8) × (Int × Unit)))))) × (List (Int × ((List UInt8) × ((List UInt8) × ((List UInt8) × (Int × Unit)))))) × Unit) := lock_Locks_Ask_1_cps N _ (fun a0 a1 a2 a3 => some (a0, (a1, (a2, (a3, ()))))) v1 v2 v3 v4 v5 v6 v7

/-! frankpledge/lock.without$1 -/
def lock_without_c1_cps (N : Nat) (R : Type) (K : Bool → Option R) (v1 : Int) (v2 : (List UInt8)) (v3 : (List UInt8)) (v4 : (List UInt8)) (v5 : Int) (v6 : Int) : Option R :=
  (K (decide (v1 = v6)))

def lock_without_c1 (N : Nat) (v1 : Int) (v2 : (List UInt8)) (v3 : (List UInt8)) (v4 : (List UInt8)) (v5 : Int) (v6 : Int) : Option (Bool × Unit) := lock_without_c1_cps N _ (fun a0 => some (a0, ())) v1 v2 v3 v4 v5 v6

/-! slices.IndexFunc[[]frankpledge/lock.Lock,frankpledge/lock.Lock] -/
def slices_IndexFunc_lock_Lock_lock_Lock_3_l0B (N : Nat) (R : Type) (v6 : (List (Int × ((List UInt8) × ((List UInt8) × ((List UInt8) × (Int × Unit))))))) (v7 : Int) (rec : Int → Int → Option R) (k0 : Option R) (k1 : Int → Option R) (v4 : Int) (v5 : Int) : Option R :=
  (bif (decide (v5 < v4)) then
  (Option.bind (nth v6 v5) fun (_ : (Int × ((List UInt8) × ((List UInt8) × ((List UInt8) × (Int × Unit)))))) =>
  (Option.bind (v6[(Int.toNat v5)]?) fun (v8 : (Int × ((List UInt8) × ((List UInt8) × ((List UInt8) × (Int × Unit)))))) =>
  (Option.bind (lock_without_c1 N v8.1 v8.2.1 v8.2.2.1 v8.2.2.2.1 v8.2.2.2.2.1 v7) fun (v9 : Bool × Unit) =>
  (bif v9.1 then
  (k1 v5)
  else
  (rec v4 (IntKind.wrap .i64 (v5 + 1)))))))
  else
  k0)

def slices_IndexFunc_lock_Lock_lock_Lock_3_l0 (N : Nat) (R : Type) (v6 : (List (Int × ((List UInt8) × ((List UInt8) × ((List UInt8) × (Int × Unit))))))) (v7 : Int) (k0 : Option R) (k1 : Int → Option R) : Nat → Int → Int → Option R
  | 0 => fun _ _ => none
  | n + 1 => slices_IndexFunc_lock_Lock_lock_Lock_3_l0B N R v6 v7 (slices_IndexFunc_lock_Lock_lock_Lock_3_l0 N R v6 v7 k0 k1 n) k0 k1

def slices_IndexFunc_lock_Lock_lock_Lock_3_cps (N : Nat) (R : Type) (K : Int → Option R) (v1 : (List (Int × ((List UInt8) × ((List UInt8) × ((List UInt8) × (Int × Unit))))))) (v2 : Int) : Option R :=
  (slices_IndexFunc_lock_Lock_lock_Lock_3_l0 N _ v1 v2 ((K (-1))) (fun (v3 : Int) =>
  (K v3)) N (v1.length : Int) 0)

def slices_IndexFunc_lock_Lock_lock_Lock_3 (N : Nat) (v1 : (List (Int × ((List UInt8) × ((List UInt8) × ((List UInt8) × (Int × Unit))))))) (v2 : Int) : Option (Int × Unit) := slices_IndexFunc_lock_Lock_lock_Lock_3_cps N _ (fun a0 => some (a0, ())) v1 v2

/-! slices.DeleteFunc[[]frankpledge/lock.Lock,frankpledge/lock.Lock] -/
def slices_DeleteFunc_lock_Lock_lock_Lock_l0B (N : Nat) (R : Type) (v8 : Int) (rec : Int → Int → (List (Int × ((List UInt8) × ((List UInt8) × ((List UInt8) × (Int × Unit)))))) → Option R) (k0 : Int → (List (Int × ((List UInt8) × ((List UInt8) × ((List UInt8) × (Int × Unit)))))) → Option R) (v6 : Int) (v7 : Int) (v9 : (List (Int × ((List UInt8) × ((List UInt8) × ((List UInt8) × (Int × Unit))))))) : Option R :=
  (bif (decide (v7 < (v9.length : Int))) then
  (Option.bind (nth v9 v7) fun (_ : (Int × ((List UInt8) × ((List UInt8) × ((List UInt8) × (Int × Unit)))))) =>
  (Option.bind (v9[(Int.toNat v7)]?) fun (v10 : (Int × ((List UInt8) × ((List UInt8) × ((List UInt8) × (Int × Unit)))))) =>
  (Option.bind (lock_without_c1 N v10.1 v10.2.1 v10.2.2.1 v10.2.2.2.1 v10.2.2.2.2.1 v8) fun (v11 : Bool × Unit) =>
  (bif (!v11.1) then
  (Option.bind (nth v9 v6) fun (_ : (Int × ((List UInt8) × ((List UInt8) × ((List UInt8) × (Int × Unit)))))) =>
  (Option.bind (v9[(Int.toNat v6)]?) fun (v12 : (Int × ((List UInt8) × ((List UInt8) × ((List UInt8) × (Int × Unit)))))) =>
  (rec (IntKind.wrap .i64 (v6 + 1)) (IntKind.wrap .i64 (v7 + 1)) (List.set v9 (Int.toNat v6) (v10.1, (v10.2.1, (v10.2.2.1, (v10.2.2.2.1, (v10.2.2.2.2.1, ())))))))))
  else
  (rec v6 (IntKind.wrap .i64 (v7 + 1)) v9)))))
  else
  (k0 v6 v9))

def slices_DeleteFunc_lock_Lock_lock_Lock_l0 (N : Nat) (R : Type) (v8 : Int) (k0 : Int → (List (Int × ((List UInt8) × ((List UInt8) × ((List UInt8) × (Int × Unit)))))) → Option R) : Nat → Int → Int → (List (Int × ((List UInt8) × ((List UInt8) × ((List UInt8) × (Int × Unit)))))) → Option R
  | 0 => fun _ _ _ => none
  | n + 1 => slices_DeleteFunc_lock_Lock_lock_Lock_l0B N R v8 (slices_DeleteFunc_lock_Lock_lock_Lock_l0 N R v8 k0 n) k0

def slices_DeleteFunc_lock_Lock_lock_Lock_cps (N : Nat) (R : Type) (K : Int → (List (Int × ((List UInt8) × ((List UInt8) × ((List UInt8) × (Int × Unit)))))) → Option R) (v1 : (List (Int × ((List UInt8) × ((List UInt8) × ((List UInt8) × (Int × Unit))))))) (v2 : Int) : Option R :=
  (Option.bind (slices_IndexFunc_lock_Lock_lock_Lock_3 N v1 v2) fun (v3 : Int × Unit) =>
  (bif (decide (v3.1 = (-1))) then
  (K v2 v1)
  else
  (slices_DeleteFunc_lock_Lock_lock_Lock_l0 N _ v2 (fun (v4 : Int) (v5 : (List (Int × ((List UInt8) × ((List UInt8) × ((List UInt8) × (Int × Unit))))))) =>
  (bif (decide (0 ≤ v4 ∧ v4 ≤ ((v5.length : Nat) : Int))) then
  (bif (Nat.ble ((Int.toNat v4) + (v5.length - (Int.toNat v4))) v5.length) then
  (bif (decide (0 ≤ v4 ∧ v4 ≤ (((List.take (Int.toNat v4) v5 ++ (List.replicate (v5.length - (Int.toNat v4)) (0, ([], ([], ([], (0, ()))))) ++ List.drop ((Int.toNat v4) + (v5.length - (Int.toNat v4))) v5)).length : Nat) : Int))) then
  (K v2 (List.take (Int.toNat v4) (List.take (Int.toNat v4) v5 ++ (List.replicate (v5.length - (Int.toNat v4)) (0, ([], ([], ([], (0, ()))))) ++ List.drop ((Int.toNat v4) + (v5.length - (Int.toNat v4))) v5))))
  else
  none)
  else
  none)
  else
  none)) N v3.1 (IntKind.wrap .i64 (v3.1 + 1)) v1)))

def slices_DeleteFunc_lock_Lock_lock_Lock (N : Nat) (v1 : (List (Int × ((List UInt8) × ((List UInt8) × ((List UInt8) × (Int × Unit))))))) (v2 : Int) : Option (Int × (List (Int × ((List UInt8) × ((List UInt8) × ((List UInt8) × (Int × Unit)))))) × Unit) := slices_DeleteFunc_lock_Lock_lock_Lock_cps N _ (fun a0 a1 => some (a0, (a1, ()))) v1 v2

/-! frankpledge/lock.without -/
def lock_without_cps (N : Nat) (R : Type) (K : (List (Int × ((List UInt8) × ((List UInt8) × ((List UInt8) × (Int × Unit)))))) → Option R) (v1 : Int) (v2 : (List (Int × ((List UInt8) × ((List UInt8) × ((List UInt8) × (Int × Unit))))))) : Option R :=
  (Option.bind (slices_DeleteFunc_lock_Lock_lock_Lock N v2 v1) fun (v3 : Int × (List (Int × ((List UInt8) × ((List UInt8) × ((List UInt8) × (Int × Unit)))))) × Unit) =>
  (K v3.2.1))

def lock_without (N : Nat) (v1 : Int) (v2 : (List (Int × ((List UInt8) × ((List UInt8) × ((List UInt8) × (Int × Unit))))))) : Option ((List (Int × ((List UInt8) × ((List UInt8) × ((List UInt8) × (Int × Unit)))))) × Unit) := lock_without_cps N _ (fun a0 => some (a0, ())) v1 v2

/-! (*frankpledge/lock.Locks).look -/
def lock_Locks_look_l0B (N : Nat) (R : Type) (v10 : (List (Int × ((List UInt8) × ((List UInt8) × ((List UInt8) × (Int × Unit))))))) (rec : (List Int) → Int → Int → (List (Int × ((List UInt8) × ((List UInt8) × ((List UInt8) × (Int × Unit)))))) → (List (Int × ((List UInt8) × ((List UInt8) × ((List UInt8) × (Int × Unit)))))) → Option R) (k0 : (List Int) → (List (Int × ((List UInt8) × ((List UInt8) × ((List UInt8) × (Int × Unit)))))) → (List (Int × ((List UInt8) × ((List UInt8) × ((List UInt8) × (Int × Unit)))))) → Option R) (v6 : (List Int)) (v7 : Int) (v8 : Int) (v9 : (List (Int × ((List UInt8) × ((List UInt8) × ((List UInt8) × (Int × Unit))))))) (v11 : (List (Int × ((List UInt8) × ((List UInt8) × ((List UInt8) × (Int × Unit))))))) : Option R :=
  (bif (decide (v8 < v7)) then
  (Option.bind (nth v10 v8) fun (_ : (Int × ((List UInt8) × ((List UInt8) × ((List UInt8) × (Int × Unit)))))) =>
  (Option.bind (v10[(Int.toNat v8)]?) fun (v12 : (Int × ((List UInt8) × ((List UInt8) × ((List UInt8) × (Int × Unit)))))) =>
  (Option.bind (lock_clashes N v12.1 v12.2.1 v12.2.2.1 v12.2.2.2.1 v12.2.2.2.2.1 v11) fun (v13 : Bool × Unit) =>
  (bif v13.1 then
  (bif (room 80 (v9.length + ([(v12.1, (v12.2.1, (v12.2.2.1, (v12.2.2.2.1, (v12.2.2.2.2.1, ())))))] : (List (Int × ((List UInt8) × ((List UInt8) × ((List UInt8) × (Int × Unit))))))).length)) then
  (rec v6 v7 (IntKind.wrap .i64 (v8 + 1)) (v9 ++ ([(v12.1, (v12.2.1, (v12.2.2.1, (v12.2.2.2.1, (v12.2.2.2.2.1, ())))))] : (List (Int × ((List UInt8) × ((List UInt8) × ((List UInt8) × (Int × Unit)))))))) v11)
  else
  none)
  else
  (Option.bind (lock_clashes N v12.1 v12.2.1 v12.2.2.1 v12.2.2.2.1 v12.2.2.2.2.1 v9) fun (v14 : Bool × Unit) =>
  (bif v14.1 then
  (bif (room 80 (v9.length + ([(v12.1, (v12.2.1, (v12.2.2.1, (v12.2.2.2.1, (v12.2.2.2.2.1, ())))))] : (List (Int × ((List UInt8) × ((List UInt8) × ((List UInt8) × (Int × Unit))))))).length)) then
  (rec v6 v7 (IntKind.wrap .i64 (v8 + 1)) (v9 ++ ([(v12.1, (v12.2.1, (v12.2.2.1, (v12.2.2.2.1, (v12.2.2.2.2.1, ())))))] : (List (Int × ((List UInt8) × ((List UInt8) × ((List UInt8) × (Int × Unit)))))))) v11)
  else
  none)
  else
  (bif (room 80 (v11.length + ([(v12.1, (v12.2.1, (v12.2.2.1, (v12.2.2.2.1, (v12.2.2.2.2.1, ())))))] : (List (Int × ((List UInt8) × ((List UInt8) × ((List UInt8) × (Int × Unit))))))).length)) then
  (bif (room 8 (v6.length + ([v12.1] : (List Int)).length)) then
  (rec (v6 ++ ([v12.1] : (List Int))) v7 (IntKind.wrap .i64 (v8 + 1)) v9 (v11 ++ ([(v12.1, (v12.2.1, (v12.2.2.1, (v12.2.2.2.1, (v12.2.2.2.2.1, ())))))] : (List (Int × ((List UInt8) × ((List UInt8) × ((List UInt8) × (Int × Unit)))))))))
  else
  none)
  else
  none)))))))
  else
  (k0 v6 v9 v11))

def lock_Locks_look_l0 (N : Nat) (R : Type) (v10 : (List (Int × ((List UInt8) × ((List UInt8) × ((List UInt8) × (Int × Unit))))))) (k0 : (List Int) → (List (Int × ((List UInt8) × ((List UInt8) × ((List UInt8) × (Int × Unit)))))) → (List (Int × ((List UInt8) × ((List UInt8) × ((List UInt8) × (Int × Unit)))))) → Option R) : Nat → (List Int) → Int → Int → (List (Int × ((List UInt8) × ((List UInt8) × ((List UInt8) × (Int × Unit)))))) → (List (Int × ((List UInt8) × ((List UInt8) × ((List UInt8) × (Int × Unit)))))) → Option R
  | 0 => fun _ _ _ _ _ => none
  | n + 1 => lock_Locks_look_l0B N R v10 (lock_Locks_look_l0 N R v10 k0 n) k0

def lock_Locks_look_cps (N : Nat) (R : Type) (K : (List Int) → (List (Int × ((List UInt8) × ((List UInt8) × ((List UInt8) × (Int × Unit)))))) → (List (Int × ((List UInt8) × ((List UInt8) × ((List UInt8) × (Int × Unit)))))) → Option R) (v1 : (List (Int × ((List UInt8) × ((List UInt8) × ((List UInt8) × (Int × Unit))))))) (v2 : (List (Int × ((List UInt8) × ((List UInt8) × ((List UInt8) × (Int × Unit))))))) : Option R :=
  (lock_Locks_look_l0 N _ v2 (fun (v3 : (List Int)) (v4 : (List (Int × ((List UInt8) × ((List UInt8) × ((List UInt8) × (Int × Unit))))))) (v5 : (List (Int × ((List UInt8) × ((List UInt8) × ((List UInt8) × (Int × Unit))))))) =>
  (K v3 v5 v4)) N [] (v2.length : Int) 0 [] v1)

def lock_Locks_look (N : Nat) (v1 : (List (Int × ((List UInt8) × ((List UInt8) × ((List UInt8) × (Int × Unit))))))) (v2 : (List (Int × ((List UInt8) × ((List UInt8) × ((List UInt8) × (Int × Unit))))))) : Option ((List Int) × (List (Int × ((List UInt8) × ((List UInt8) × ((List UInt8) × (Int × Unit)))))) × (List (Int × ((List UInt8) × ((List UInt8) × ((List UInt8) × (Int × Unit)))))) × Unit) := lock_Locks_look_cps N _ (fun a0 a1 a2 => some (a0, (a1, (a2, ())))) v1 v2

/-! (*frankpledge/lock.Locks).Cancel -/
def lock_Locks_Cancel_cps (N : Nat) (R : Type) (K : (List Int) → (List (Int × ((List UInt8) × ((List UInt8) × ((List UInt8) × (Int × Unit)))))) → (List (Int × ((List UInt8) × ((List UInt8) × ((List UInt8) × (Int × Unit)))))) → Option R) (v1 : Int) (v2 : (List (Int × ((List UInt8) × ((List UInt8) × ((List UInt8) × (Int × Unit))))))) (v3 : (List (Int × ((List UInt8) × ((List UInt8) × ((List UInt8) × (Int × Unit))))))) : Option R :=
  (Option.bind (lock_without N v1 v3) fun (v4 : (List (Int × ((List UInt8) × ((List UInt8) × ((List UInt8) × (Int × Unit)))))) × Unit) =>
  (Option.bind (lock_Locks_look N v2 v4.1) fun (v5 : (List Int) × (List (Int × ((List UInt8) × ((List UInt8) × ((List UInt8) × (Int × Unit)))))) × (List (Int × ((List UInt8) × ((List UInt8) × ((List UInt8) × (Int × Unit)))))) × Unit) =>
  (K v5.1 v5.2.1 v5.2.2.1)))

def lock_Locks_Cancel (N : Nat) (v1 : Int) (v2 : (List (Int × ((List UInt8) × ((List UInt8) × ((List UInt8) × (Int × Unit))))))) (v3 : (List (Int × ((List UInt8) × ((List UInt8) × ((List UInt8) × (Int × Unit))))))) : Option ((List Int) × (List (Int × ((List UInt8) × ((List UInt8) × ((List UInt8) × (Int × Unit)))))) × (List (Int × ((List UInt8) × ((List UInt8) × ((List UInt8) × (Int × Unit)))))) × Unit) := lock_Locks_Cancel_cps N _ (fun a0 a1 a2 => some (a0, (a1, (a2, ())))) v1 v2 v3

/-! (*frankpledge/lock.Locks).Drop -/
def lock_Locks_Drop_cps (N : Nat) (R : Type) (K : (List Int) → (List (Int × ((List UInt8) × ((List UInt8) × ((List UInt8) × (Int × Unit)))))) → (List (Int × ((List UInt8) × ((List UInt8) × ((List UInt8) × (Int × Unit)))))) → Option R) (v1 : Int) (v2 : (List (Int × ((List UInt8) × ((List UInt8) × ((List UInt8) × (Int × Unit))))))) (v3 : (List (Int × ((List UInt8) × ((List UInt8) × ((List UInt8) × (Int × Unit))))))) : Option R :=
  (Option.bind (lock_without N v1 v2) fun (v4 : (List (Int × ((List UInt8) × ((List UInt8) × ((List UInt8) × (Int × Unit)))))) × Unit) =>
  (Option.bind (lock_Locks_Cancel N v1 v4.1 v3) fun (v5 : (List Int) × (List (Int × ((List UInt8) × ((List UInt8) × ((List UInt8) × (Int × Unit)))))) × (List (Int × ((List UInt8) × ((List UInt8) × ((List UInt8) × (Int × Unit)))))) × Unit) =>
  (K v5.1 v5.2.1 v5.2.2.1)))

def lock_Locks_Drop (N : Nat) (v1 : Int) (v2 : (List (Int × ((List UInt8) × ((List UInt8) × ((List UInt8) × (Int × Unit))))))) (v3 : (List (Int × ((List UInt8) × ((List UInt8) × ((List UInt8) × (Int × Unit))))))) : Option ((List Int) × (List (Int × ((List UInt8) × ((List UInt8) × ((List UInt8) × (Int × Unit)))))) × (List (Int × ((List UInt8) × ((List UInt8) × ((List UInt8) × (Int × Unit)))))) × Unit) := lock_Locks_Drop_cps N _ (fun a0 a1 a2 => some (a0, (a1, (a2, ())))) v1 v2 v3

/-! (*frankpledge/lock.Locks).Waiting -/
def lock_Locks_Waiting_l0B (N : Nat) (R : Type) (v7 : (List (Int × ((List UInt8) × ((List UInt8) × ((List UInt8) × (Int × Unit))))))) (v8 : (List (Int × ((List UInt8) × ((List UInt8) × ((List UInt8) × (Int × Unit))))))) (rec : (List (Int × ((List UInt8) × ((List UInt8) × ((List UInt8) × (Int × Unit)))))) → Int → Int → Option R) (k0 : (List (Int × ((List UInt8) × ((List UInt8) × ((List UInt8) × (Int × Unit)))))) → Option R) (v4 : (List (Int × ((List UInt8) × ((List UInt8) × ((List UInt8) × (Int × Unit))))))) (v5 : Int) (v6 : Int) : Option R :=
  (bif (decide (v6 < v5)) then
  (Option.bind (nth v8 v6) fun (_ : (Int × ((List UInt8) × ((List UInt8) × ((List UInt8) × (Int × Unit)))))) =>
  (Option.bind (v8[(Int.toNat v6)]?) fun (v9 : (Int × ((List UInt8) × ((List UInt8) × ((List UInt8) × (Int × Unit)))))) =>
  (Option.bind (lock_Lock_copied N v9.1 v9.2.1 v9.2.2.1 v9.2.2.2.1 v9.2.2.2.2.1) fun (v10 : Int × (List UInt8) × (List UInt8) × (List UInt8) × Int × Unit) =>
  (bif (room 80 (v4.length + ([(v10.1, (v10.2.1, (v10.2.2.1, (v10.2.2.2.1, (v10.2.2.2.2.1, ())))))] : (List (Int × ((List UInt8) × ((List UInt8) × ((List UInt8) × (Int × Unit))))))).length)) then
  (rec (v4 ++ ([(v10.1, (v10.2.1, (v10.2.2.1, (v10.2.2.2.1, (v10.2.2.2.2.1, ())))))] : (List (Int × ((List UInt8) × ((List UInt8) × ((List UInt8) × (Int × Unit)))))))) v5 (IntKind.wrap .i64 (v6 + 1)))
  else
  none))))
  else
  (k0 v4))

def lock_Locks_Waiting_l0 (N : Nat) (R : Type) (v7 : (List (Int × ((List UInt8) × ((List UInt8) × ((List UInt8) × (Int × Unit))))))) (v8 : (List (Int × ((List UInt8) × ((List UInt8) × ((List UInt8) × (Int × Unit))))))) (k0 : (List (Int × ((List UInt8) × ((List UInt8) × ((List UInt8) × (Int × Unit)))))) → Option R) : Nat → (List (Int × ((List UInt8) × ((List UInt8) × ((List UInt8) × (Int × Unit)))))) → Int → Int → Option R
  | 0 => fun _ _ _ => none
  | n + 1 => lock_Locks_Waiting_l0B N R v7 v8 (lock_Locks_Waiting_l0 N R v7 v8 k0 n) k0

def lock_Locks_Waiting_cps (N : Nat) (R : Type) (K : (List (Int × ((List UInt8) × ((List UInt8) × ((List UInt8) × (Int × Unit)))))) → Option R) (v1 : (List (Int × ((List UInt8) × ((List UInt8) × ((List UInt8) × (Int × Unit))))))) (v2 : (List (Int × ((List UInt8) × ((List UInt8) × ((List UInt8) × (Int × Unit))))))) : Option R :=
  (lock_Locks_Waiting_l0 N _ v1 v2 (fun (v3 : (List (Int × ((List UInt8) × ((List UInt8) × ((List UInt8) × (Int × Unit))))))) =>
  (K v3)) N [] (v2.length : Int) 0)

def lock_Locks_Waiting (N : Nat) (v1 : (List (Int × ((List UInt8) × ((List UInt8) × ((List UInt8) × (Int × Unit))))))) (v2 : (List (Int × ((List UInt8) × ((List UInt8) × ((List UInt8) × (Int × Unit))))))) : Option ((List (Int × ((List UInt8) × ((List UInt8) × ((List UInt8) × (Int × Unit)))))) × Unit) := lock_Locks_Waiting_cps N _ (fun a0 => some (a0, ())) v1 v2

/-! frankpledge/frankpledgelaw09.alive -/
def law09_alive_cps (N : Nat) (R : Type) (K : Bool → Option R)  : Option R :=
  (Option.bind (lock_New N) fun (v1 : (List (Int × ((List UInt8) × ((List UInt8) × ((List UInt8) × (Int × Unit)))))) × (List (Int × ((List UInt8) × ((List UInt8) × ((List UInt8) × (Int × Unit)))))) × Unit) =>
  (Option.bind (lock_Locks_Ask N 1 [116] [97] [99] 2 v1.1 v1.2.1) fun (v2 : Bool × Int × (List (Int × ((List UInt8) × ((List UInt8) × ((List UInt8) × (Int × Unit)))))) × (List (Int × ((List UInt8) × ((List UInt8) × ((List UInt8) × (Int × Unit)))))) × Unit) =>
  (Option.bind (lock_Locks_Ask_1 N 2 [116] [98] [] 1 v2.2.2.1 v2.2.2.2.1) fun (v3 : Bool × Int × (List (Int × ((List UInt8) × ((List UInt8) × ((List UInt8) × (Int × Unit)))))) × (List (Int × ((List UInt8) × ((List UInt8) × ((List UInt8) × (Int × Unit)))))) × Unit) =>
  (Option.bind (lock_Locks_Drop N 1 v3.2.2.1 v3.2.2.2.1) fun (v4 : (List Int) × (List (Int × ((List UInt8) × ((List UInt8) × ((List UInt8) × (Int × Unit)))))) × (List (Int × ((List UInt8) × ((List UInt8) × ((List UInt8) × (Int × Unit)))))) × Unit) =>
  (bif (decide (v2.2.1 = 0)) then
  (bif (decide (v3.2.1 = 0)) then
  (bif v2.1 then
  (bif (!v3.1) then
  (bif (decide ((v4.1.length : Int) = 1)) then
  (Option.bind (nth v4.1 0) fun (v5 : Int) =>
  (bif (decide (v5 = 2)) then
  (Option.bind (lock_Locks_Waiting N v4.2.1 v4.2.2.1) fun (v6 : (List (Int × ((List UInt8) × ((List UInt8) × ((List UInt8) × (Int × Unit)))))) × Unit) =>
  (K (decide ((v6.1.length : Int) = 0))))
  else
  (K false)))
  else
  (K false))
  else
  (K false))
  else
  (K false))
  else
  (K false))
  else
  (K false))))))

def law09_alive (N : Nat)  : Option (Bool × Unit) := law09_alive_cps N _ (fun a0 => some (a0, ())) 

/-! frankpledge/frankpledgelaw09.told -/
def law09_told_cps (N : Nat) (R : Type) (K : Int → (List UInt8) → (List UInt8) → (List UInt8) → Int → Option R) (v1 : Int) (v2 : (List UInt8)) (v3 : (List UInt8)) (v4 : (List UInt8)) (v5 : Int) : Option R :=
  (K v1 v2 v3 v4 v5)

def law09_told (N : Nat) (v1 : Int) (v2 : (List UInt8)) (v3 : (List UInt8)) (v4 : (List UInt8)) (v5 : Int) : Option (Int × (List UInt8) × (List UInt8) × (List UInt8) × Int × Unit) := law09_told_cps N _ (fun a0 a1 a2 a3 a4 => some (a0, (a1, (a2, (a3, (a4, ())))))) v1 v2 v3 v4 v5

/-! frankpledge/frankpledgeref09.Right -/
def ref09_Right_cps (N : Nat) (R : Type) (K : Bool → Option R) (v1 : Int) (v2 : (List UInt8)) (v3 : (List UInt8)) (v4 : (List UInt8)) (v5 : Int) : Option R :=
  (bif (decide (v4 = [])) then
  (bif (decide (v5 = 1)) then
  (K true)
  else
  (K (decide (v5 = 2))))
  else
  (bif (Op.bytesLess v3 v4) then
  (bif (decide (v5 = 1)) then
  (K true)
  else
  (K (decide (v5 = 2))))
  else
  (K false)))

def ref09_Right (N : Nat) (v1 : Int) (v2 : (List UInt8)) (v3 : (List UInt8)) (v4 : (List UInt8)) (v5 : Int) : Option (Bool × Unit) := ref09_Right_cps N _ (fun a0 => some (a0, ())) v1 v2 v3 v4 v5

/-! frankpledge/frankpledgeref08.In -/
def ref08_In_cps (N : Nat) (R : Type) (K : Bool → Option R) (v1 : (List UInt8)) (v2 : (List UInt8)) (v3 : (List UInt8)) : Option R :=
  (bif (!(Op.bytesLess v1 v2)) then
  (bif (decide (v3 = [])) then
  (K true)
  else
  (K (Op.bytesLess v1 v3)))
  else
  (K false))

def ref08_In (N : Nat) (v1 : (List UInt8)) (v2 : (List UInt8)) (v3 : (List UInt8)) : Option (Bool × Unit) := ref08_In_cps N _ (fun a0 => some (a0, ())) v1 v2 v3

/-! frankpledge/frankpledgeref09.meet -/
def ref09_meet_cps (N : Nat) (R : Type) (K : Bool → Option R) (v1 : Int) (v2 : (List UInt8)) (v3 : (List UInt8)) (v4 : (List UInt8)) (v5 : Int) (v6 : Int) (v7 : (List UInt8)) (v8 : (List UInt8)) (v9 : (List UInt8)) (v10 : Int) : Option R :=
  (bif (Op.bytesLess v3 v8) then
  (Option.bind (ref08_In N v8 v3 v4) fun (v11 : Bool × Unit) =>
  (Option.bind (ref08_In N v8 v8 v9) fun (v12 : Bool × Unit) =>
  (bif v11.1 then
  (K v12.1)
  else
  (K false))))
  else
  (Option.bind (ref08_In N v3 v3 v4) fun (v13 : Bool × Unit) =>
  (Option.bind (ref08_In N v3 v8 v9) fun (v14 : Bool × Unit) =>
  (bif v13.1 then
  (K v14.1)
  else
  (K false)))))

def ref09_meet (N : Nat) (v1 : Int) (v2 : (List UInt8)) (v3 : (List UInt8)) (v4 : (List UInt8)) (v5 : Int) (v6 : Int) (v7 : (List UInt8)) (v8 : (List UInt8)) (v9 : (List UInt8)) (v10 : Int) : Option (Bool × Unit) := ref09_meet_cps N _ (fun a0 => some (a0, ())) v1 v2 v3 v4 v5 v6 v7 v8 v9 v10

/-! frankpledge/frankpledgeref09.Clash -/
def ref09_Clash_cps (N : Nat) (R : Type) (K : Bool → Option R) (v1 : Int) (v2 : (List UInt8)) (v3 : (List UInt8)) (v4 : (List UInt8)) (v5 : Int) (v6 : Int) (v7 : (List UInt8)) (v8 : (List UInt8)) (v9 : (List UInt8)) (v10 : Int) : Option R :=
  (Option.bind (ref09_meet N v1 v2 v3 v4 v5 v6 v7 v8 v9 v10) fun (v11 : Bool × Unit) =>
  (bif (!(decide (v1 = v6))) then
  (bif (decide (v2 = v7)) then
  (bif v11.1 then
  (bif (!(decide (v5 = 1))) then
  (K true)
  else
  (K (!(decide (v10 = 1)))))
  else
  (K false))
  else
  (K false))
  else
  (K false)))

def ref09_Clash (N : Nat) (v1 : Int) (v2 : (List UInt8)) (v3 : (List UInt8)) (v4 : (List UInt8)) (v5 : Int) (v6 : Int) (v7 : (List UInt8)) (v8 : (List UInt8)) (v9 : (List UInt8)) (v10 : Int) : Option (Bool × Unit) := ref09_Clash_cps N _ (fun a0 => some (a0, ())) v1 v2 v3 v4 v5 v6 v7 v8 v9 v10

/-! frankpledge/frankpledgeref09.clashes -/
def ref09_clashes_l0B (N : Nat) (R : Type) (rec : (List (Int × ((List UInt8) × ((List UInt8) × ((List UInt8) × (Int × Unit)))))) → Int → Int → (List UInt8) → (List UInt8) → (List UInt8) → Int → Option R) (k0 : Int → (List UInt8) → (List UInt8) → (List UInt8) → Int → Option R) (k1 : Bool → Int → (List UInt8) → (List UInt8) → (List UInt8) → Int → Option R) (v18 : (List (Int × ((List UInt8) × ((List UInt8) × ((List UInt8) × (Int × Unit))))))) (v19 : Int) (v20 : Int) (v21 : (List UInt8)) (v22 : (List UInt8)) (v23 : (List UInt8)) (v24 : Int) : Option R :=
  (bif (decide (v19 < (v18.length : Int))) then
  (Option.bind (nth v18 v19) fun (v25 : (Int × ((List UInt8) × ((List UInt8) × ((List UInt8) × (Int × Unit)))))) =>
  (Option.bind (ref09_Clash N v25.1 v25.2.1 v25.2.2.1 v25.2.2.2.1 v25.2.2.2.2.1 v20 v21 v22 v23 v24) fun (v26 : Bool × Unit) =>
  (bif v26.1 then
  (k1 true v20 v21 v22 v23 v24)
  else
  (rec v18 (IntKind.wrap .i64 (v19 + 1)) v20 v21 v22 v23 v24))))
  else
  (k0 v20 v21 v22 v23 v24))

def ref09_clashes_l0 (N : Nat) (R : Type) (k0 : Int → (List UInt8) → (List UInt8) → (List UInt8) → Int → Option R) (k1 : Bool → Int → (List UInt8) → (List UInt8) → (List UInt8) → Int → Option R) : Nat → (List (Int × ((List UInt8) × ((List UInt8) × ((List UInt8) × (Int × Unit)))))) → Int → Int → (List UInt8) → (List UInt8) → (List UInt8) → Int → Option R
  | 0 => fun _ _ _ _ _ _ _ => none
  | n + 1 => ref09_clashes_l0B N R (ref09_clashes_l0 N R k0 k1 n) k0 k1

def ref09_clashes_cps (N : Nat) (R : Type) (K : Bool → Option R) (v1 : (List (Int × ((List UInt8) × ((List UInt8) × ((List UInt8) × (Int × Unit))))))) (v2 : Int) (v3 : (List UInt8)) (v4 : (List UInt8)) (v5 : (List UInt8)) (v6 : Int) : Option R :=
  (ref09_clashes_l0 N _ (fun (v7 : Int) (v8 : (List UInt8)) (v9 : (List UInt8)) (v10 : (List UInt8)) (v11 : Int) =>
  (K false)) (fun (v12 : Bool) (v13 : Int) (v14 : (List UInt8)) (v15 : (List UInt8)) (v16 : (List UInt8)) (v17 : Int) =>
  (K v12)) N v1 0 v2 v3 v4 v5 v6)

def ref09_clashes (N : Nat) (v1 : (List (Int × ((List UInt8) × ((List UInt8) × ((List UInt8) × (Int × Unit))))))) (v2 : Int) (v3 : (List UInt8)) (v4 : (List UInt8)) (v5 : (List UInt8)) (v6 : Int) : Option (Bool × Unit) := ref09_clashes_cps N _ (fun a0 => some (a0, ())) v1 v2 v3 v4 v5 v6

/-! (*frankpledge/frankpledgeref09.Locks).Ask -/
def ref09_Locks_Ask_l1B (N : Nat) (R : Type) (rec : Int → Int → (List UInt8) → (List UInt8) → (List UInt8) → Int → Option R) (k0 : Int → (List UInt8) → (List UInt8) → (List UInt8) → Int → Option R) (v25 : Int) (v26 : Int) (v27 : (List UInt8)) (v28 : (List UInt8)) (v29 : (List UInt8)) (v30 : Int) : Option R :=
  (bif (decide (v25 < 0)) then
  none
  else
  (k0 v26 v27 v28 v29 v30))

def ref09_Locks_Ask_l1 (N : Nat) (R : Type) (k0 : Int → (List UInt8) → (List UInt8) → (List UInt8) → Int → Option R) : Nat → Int → Int → (List UInt8) → (List UInt8) → (List UInt8) → Int → Option R
  | 0 => fun _ _ _ _ _ _ => none
  | n + 1 => ref09_Locks_Ask_l1B N R (ref09_Locks_Ask_l1 N R k0 n) k0

def ref09_Locks_Ask_l0B (N : Nat) (R : Type) (rec : Int → Int → (List UInt8) → (List UInt8) → (List UInt8) → Int → Option R) (k0 : Int → (List UInt8) → (List UInt8) → (List UInt8) → Int → Option R) (v19 : Int) (v20 : Int) (v21 : (List UInt8)) (v22 : (List UInt8)) (v23 : (List UInt8)) (v24 : Int) : Option R :=
  (bif (decide (v19 < 0)) then
  none
  else
  (k0 v20 v21 v22 v23 v24))

def ref09_Locks_Ask_l0 (N : Nat) (R : Type) (k0 : Int → (List UInt8) → (List UInt8) → (List UInt8) → Int → Option R) : Nat → Int → Int → (List UInt8) → (List UInt8) → (List UInt8) → Int → Option R
  | 0 => fun _ _ _ _ _ _ => none
  | n + 1 => ref09_Locks_Ask_l0B N R (ref09_Locks_Ask_l0 N R k0 n) k0

def ref09_Locks_Ask_cps (N : Nat) (R : Type) (K : Bool → Int → (List (Int × ((List UInt8) × ((List UInt8) × ((List UInt8) × (Int × Unit)))))) → (List (Int × ((List UInt8) × ((List UInt8) × ((List UInt8) × (Int × Unit)))))) → Option R) (v1 : Int) (v2 : (List UInt8)) (v3 : (List UInt8)) (v4 : (List UInt8)) (v5 : Int) : Option R :=
  (Option.bind (ref09_Right N v1 v2 v3 v4 v5) fun (v6 : Bool × Unit) =>
  (bif (!v6.1) then
  (K false 1 [] [])
  else
  (ref09_Locks_Ask_l0 N _ (fun (v7 : Int) (v8 : (List UInt8)) (v9 : (List UInt8)) (v10 : (List UInt8)) (v11 : Int) =>
  (ref09_Locks_Ask_l1 N _ (fun (v12 : Int) (v13 : (List UInt8)) (v14 : (List UInt8)) (v15 : (List UInt8)) (v16 : Int) =>
  (Option.bind (ref09_clashes N [] v12 v13 v14 v15 v16) fun (v17 : Bool × Unit) =>
  (Option.bind (ref09_clashes N [] v12 v13 v14 v15 v16) fun (v18 : Bool × Unit) =>
  (bif v17.1 then
  (bif (room 64 (([] : (List (Int × ((List UInt8) × ((List UInt8) × ((List UInt8) × (Int × Unit))))))).length + ([] : (List (Int × ((List UInt8) × ((List UInt8) × ((List UInt8) × (Int × Unit))))))).length)) then
  (bif (room 64 ((([] : (List (Int × ((List UInt8) × ((List UInt8) × ((List UInt8) × (Int × Unit))))))) ++ ([] : (List (Int × ((List UInt8) × ((List UInt8) × ((List UInt8) × (Int × Unit)))))))).length + ([(v12, (v13, (v14, (v15, (v16, ())))))] : (List (Int × ((List UInt8) × ((List UInt8) × ((List UInt8) × (Int × Unit))))))).length)) then
  (K false 0 [] ((([] : (List (Int × ((List UInt8) × ((List UInt8) × ((List UInt8) × (Int × Unit))))))) ++ ([] : (List (Int × ((List UInt8) × ((List UInt8) × ((List UInt8) × (Int × Unit)))))))) ++ ([(v12, (v13, (v14, (v15, (v16, ())))))] : (List (Int × ((List UInt8) × ((List UInt8) × ((List UInt8) × (Int × Unit)))))))))
  else
  none)
  else
  none)
  else
  (bif v18.1 then
  (bif (room 64 (([] : (List (Int × ((List UInt8) × ((List UInt8) × ((List UInt8) × (Int × Unit))))))).length + ([] : (List (Int × ((List UInt8) × ((List UInt8) × ((List UInt8) × (Int × Unit))))))).length)) then
  (bif (room 64 ((([] : (List (Int × ((List UInt8) × ((List UInt8) × ((List UInt8) × (Int × Unit))))))) ++ ([] : (List (Int × ((List UInt8) × ((List UInt8) × ((List UInt8) × (Int × Unit)))))))).length + ([(v12, (v13, (v14, (v15, (v16, ())))))] : (List (Int × ((List UInt8) × ((List UInt8) × ((List UInt8) × (Int × Unit))))))).length)) then
  (K false 0 [] ((([] : (List (Int × ((List UInt8) × ((List UInt8) × ((List UInt8) × (Int × Unit))))))) ++ ([] : (List (Int × ((List UInt8) × ((List UInt8) × ((List UInt8) × (Int × Unit)))))))) ++ ([(v12, (v13, (v14, (v15, (v16, ())))))] : (List (Int × ((List UInt8) × ((List UInt8) × ((List UInt8) × (Int × Unit)))))))))
  else
  none)
  else
  none)
  else
  (bif (room 64 (([] : (List (Int × ((List UInt8) × ((List UInt8) × ((List UInt8) × (Int × Unit))))))).length + ([] : (List (Int × ((List UInt8) × ((List UInt8) × ((List UInt8) × (Int × Unit))))))).length)) then
  (bif (room 64 ((([] : (List (Int × ((List UInt8) × ((List UInt8) × ((List UInt8) × (Int × Unit))))))) ++ ([] : (List (Int × ((List UInt8) × ((List UInt8) × ((List UInt8) × (Int × Unit)))))))).length + ([(v12, (v13, (v14, (v15, (v16, ())))))] : (List (Int × ((List UInt8) × ((List UInt8) × ((List UInt8) × (Int × Unit))))))).length)) then
  (K true 0 ((([] : (List (Int × ((List UInt8) × ((List UInt8) × ((List UInt8) × (Int × Unit))))))) ++ ([] : (List (Int × ((List UInt8) × ((List UInt8) × ((List UInt8) × (Int × Unit)))))))) ++ ([(v12, (v13, (v14, (v15, (v16, ())))))] : (List (Int × ((List UInt8) × ((List UInt8) × ((List UInt8) × (Int × Unit)))))))) [])
  else
  none)
  else
  none)))))) N 0 v7 v8 v9 v10 v11)) N 0 v1 v2 v3 v4 v5)))

def ref09_Locks_Ask (N : Nat) (v1 : Int) (v2 : (List UInt8)) (v3 : (List UInt8)) (v4 : (List UInt8)) (v5 : Int) : Option (Bool × Int × (List (Int × ((List UInt8) × ((List UInt8) × ((List UInt8) × (Int × Unit)))))) × (List (Int × ((List UInt8) × ((List UInt8) × ((List UInt8) × (Int × Unit)))))) × Unit) := ref09_Locks_Ask_cps N _ (fun a0 a1 a2 a3 => some (a0, (a1, (a2, (a3, ()))))) v1 v2 v3 v4 v5

/-! frankpledge/frankpledgelaw09.all -/
def law09_all_l0B (N : Nat) (R : Type) (rec : (List (Int × ((List UInt8) × ((List UInt8) × ((List UInt8) × (Int × Unit)))))) → (List (Int × ((List UInt8) × ((List UInt8) × ((List UInt8) × (Int × Unit)))))) → Int → Option R) (k0 : (List (Int × ((List UInt8) × ((List UInt8) × ((List UInt8) × (Int × Unit)))))) → Option R) (v3 : (List (Int × ((List UInt8) × ((List UInt8) × ((List UInt8) × (Int × Unit))))))) (v4 : (List (Int × ((List UInt8) × ((List UInt8) × ((List UInt8) × (Int × Unit))))))) (v5 : Int) : Option R :=
  (bif (decide (v5 < (v3.length : Int))) then
  (Option.bind (nth v3 v5) fun (v6 : (Int × ((List UInt8) × ((List UInt8) × ((List UInt8) × (Int × Unit)))))) =>
  (Option.bind (law09_told N v6.1 v6.2.1 v6.2.2.1 v6.2.2.2.1 v6.2.2.2.2.1) fun (v7 : Int × (List UInt8) × (List UInt8) × (List UInt8) × Int × Unit) =>
  (bif (room 64 (v4.length + ([(v7.1, (v7.2.1, (v7.2.2.1, (v7.2.2.2.1, (v7.2.2.2.2.1, ())))))] : (List (Int × ((List UInt8) × ((List UInt8) × ((List UInt8) × (Int × Unit))))))).length)) then
  (rec v3 (v4 ++ ([(v7.1, (v7.2.1, (v7.2.2.1, (v7.2.2.2.1, (v7.2.2.2.2.1, ())))))] : (List (Int × ((List UInt8) × ((List UInt8) × ((List UInt8) × (Int × Unit)))))))) (IntKind.wrap .i64 (v5 + 1)))
  else
  none)))
  else
  (k0 v4))

def law09_all_l0 (N : Nat) (R : Type) (k0 : (List (Int × ((List UInt8) × ((List UInt8) × ((List UInt8) × (Int × Unit)))))) → Option R) : Nat → (List (Int × ((List UInt8) × ((List UInt8) × ((List UInt8) × (Int × Unit)))))) → (List (Int × ((List UInt8) × ((List UInt8) × ((List UInt8) × (Int × Unit)))))) → Int → Option R
  | 0 => fun _ _ _ => none
  | n + 1 => law09_all_l0B N R (law09_all_l0 N R k0 n) k0

def law09_all_cps (N : Nat) (R : Type) (K : (List (Int × ((List UInt8) × ((List UInt8) × ((List UInt8) × (Int × Unit)))))) → Option R) (v1 : (List (Int × ((List UInt8) × ((List UInt8) × ((List UInt8) × (Int × Unit))))))) : Option R :=
  (law09_all_l0 N _ (fun (v2 : (List (Int × ((List UInt8) × ((List UInt8) × ((List UInt8) × (Int × Unit))))))) =>
  (K v2)) N v1 [] 0)

def law09_all (N : Nat) (v1 : (List (Int × ((List UInt8) × ((List UInt8) × ((List UInt8) × (Int × Unit))))))) : Option ((List (Int × ((List UInt8) × ((List UInt8) × ((List UInt8) × (Int × Unit)))))) × Unit) := law09_all_cps N _ (fun a0 => some (a0, ())) v1

/-! frankpledge/frankpledgeref09.Same -/
def ref09_Same_l0B (N : Nat) (R : Type) (rec : (List (Int × ((List UInt8) × ((List UInt8) × ((List UInt8) × (Int × Unit)))))) → (List (Int × ((List UInt8) × ((List UInt8) × ((List UInt8) × (Int × Unit)))))) → Int → Option R) (k0 : Option R) (k1 : Bool → Option R) (v4 : (List (Int × ((List UInt8) × ((List UInt8) × ((List UInt8) × (Int × Unit))))))) (v5 : (List (Int × ((List UInt8) × ((List UInt8) × ((List UInt8) × (Int × Unit))))))) (v6 : Int) : Option R :=
  (bif (decide (v6 < (v4.length : Int))) then
  (Option.bind (nth v4 v6) fun (v7 : (Int × ((List UInt8) × ((List UInt8) × ((List UInt8) × (Int × Unit)))))) =>
  (Option.bind (nth v5 v6) fun (v8 : (Int × ((List UInt8) × ((List UInt8) × ((List UInt8) × (Int × Unit)))))) =>
  (bif (!((decide (v7.1 = v8.1)) && ((decide (v7.2.1 = v8.2.1)) && ((decide (v7.2.2.1 = v8.2.2.1)) && ((decide (v7.2.2.2.1 = v8.2.2.2.1)) && (decide (v7.2.2.2.2.1 = v8.2.2.2.2.1))))))) then
  (k1 false)
  else
  (rec v4 v5 (IntKind.wrap .i64 (v6 + 1))))))
  else
  k0)

def ref09_Same_l0 (N : Nat) (R : Type) (k0 : Option R) (k1 : Bool → Option R) : Nat → (List (Int × ((List UInt8) × ((List UInt8) × ((List UInt8) × (Int × Unit)))))) → (List (Int × ((List UInt8) × ((List UInt8) × ((List UInt8) × (Int × Unit)))))) → Int → Option R
  | 0 => fun _ _ _ => none
  | n + 1 => ref09_Same_l0B N R (ref09_Same_l0 N R k0 k1 n) k0 k1

def ref09_Same_cps (N : Nat) (R : Type) (K : Bool → Option R) (v1 : (List (Int × ((List UInt8) × ((List UInt8) × ((List UInt8) × (Int × Unit))))))) (v2 : (List (Int × ((List UInt8) × ((List UInt8) × ((List UInt8) × (Int × Unit))))))) : Option R :=
  (bif (!(decide ((v1.length : Int) = (v2.length : Int)))) then
  (K false)
  else
  (ref09_Same_l0 N _ ((K true)) (fun (v3 : Bool) =>
  (K v3)) N v1 v2 0))

def ref09_Same (N : Nat) (v1 : (List (Int × ((List UInt8) × ((List UInt8) × ((List UInt8) × (Int × Unit))))))) (v2 : (List (Int × ((List UInt8) × ((List UInt8) × ((List UInt8) × (Int × Unit))))))) : Option (Bool × Unit) := ref09_Same_cps N _ (fun a0 => some (a0, ())) v1 v2

/-! (*frankpledge/lock.Locks).Granted -/
def lock_Locks_Granted_l0B (N : Nat) (R : Type) (v9 : (List (Int × ((List UInt8) × ((List UInt8) × ((List UInt8) × (Int × Unit))))))) (v10 : (List (Int × ((List UInt8) × ((List UInt8) × ((List UInt8) × (Int × Unit))))))) (rec : Int → (List (Int × ((List UInt8) × ((List UInt8) × ((List UInt8) × (Int × Unit)))))) → Int → Int → Option R) (k0 : (List (Int × ((List UInt8) × ((List UInt8) × ((List UInt8) × (Int × Unit)))))) → Option R) (v5 : Int) (v6 : (List (Int × ((List UInt8) × ((List UInt8) × ((List UInt8) × (Int × Unit))))))) (v7 : Int) (v8 : Int) : Option R :=
  (bif (decide (v8 < v7)) then
  (Option.bind (nth v9 v8) fun (_ : (Int × ((List UInt8) × ((List UInt8) × ((List UInt8) × (Int × Unit)))))) =>
  (Option.bind (v9[(Int.toNat v8)]?) fun (v11 : (Int × ((List UInt8) × ((List UInt8) × ((List UInt8) × (Int × Unit)))))) =>
  (bif (decide (v11.1 = v5)) then
  (Option.bind (lock_Lock_copied N v11.1 v11.2.1 v11.2.2.1 v11.2.2.2.1 v11.2.2.2.2.1) fun (v12 : Int × (List UInt8) × (List UInt8) × (List UInt8) × Int × Unit) =>
  (bif (room 80 (v6.length + ([(v12.1, (v12.2.1, (v12.2.2.1, (v12.2.2.2.1, (v12.2.2.2.2.1, ())))))] : (List (Int × ((List UInt8) × ((List UInt8) × ((List UInt8) × (Int × Unit))))))).length)) then
  (rec v5 (v6 ++ ([(v12.1, (v12.2.1, (v12.2.2.1, (v12.2.2.2.1, (v12.2.2.2.2.1, ())))))] : (List (Int × ((List UInt8) × ((List UInt8) × ((List UInt8) × (Int × Unit)))))))) v7 (IntKind.wrap .i64 (v8 + 1)))
  else
  none))
  else
  (rec v5 v6 v7 (IntKind.wrap .i64 (v8 + 1))))))
  else
  (k0 v6))

def lock_Locks_Granted_l0 (N : Nat) (R : Type) (v9 : (List (Int × ((List UInt8) × ((List UInt8) × ((List UInt8) × (Int × Unit))))))) (v10 : (List (Int × ((List UInt8) × ((List UInt8) × ((List UInt8) × (Int × Unit))))))) (k0 : (List (Int × ((List UInt8) × ((List UInt8) × ((List UInt8) × (Int × Unit)))))) → Option R) : Nat → Int → (List (Int × ((List UInt8) × ((List UInt8) × ((List UInt8) × (Int × Unit)))))) → Int → Int → Option R
  | 0 => fun _ _ _ _ => none
  | n + 1 => lock_Locks_Granted_l0B N R v9 v10 (lock_Locks_Granted_l0 N R v9 v10 k0 n) k0

def lock_Locks_Granted_cps (N : Nat) (R : Type) (K : (List (Int × ((List UInt8) × ((List UInt8) × ((List UInt8) × (Int × Unit)))))) → Option R) (v1 : Int) (v2 : (List (Int × ((List UInt8) × ((List UInt8) × ((List UInt8) × (Int × Unit))))))) (v3 : (List (Int × ((List UInt8) × ((List UInt8) × ((List UInt8) × (Int × Unit))))))) : Option R :=
  (lock_Locks_Granted_l0 N _ v2 v3 (fun (v4 : (List (Int × ((List UInt8) × ((List UInt8) × ((List UInt8) × (Int × Unit))))))) =>
  (K v4)) N v1 [] (v2.length : Int) 0)

def lock_Locks_Granted (N : Nat) (v1 : Int) (v2 : (List (Int × ((List UInt8) × ((List UInt8) × ((List UInt8) × (Int × Unit))))))) (v3 : (List (Int × ((List UInt8) × ((List UInt8) × ((List UInt8) × (Int × Unit))))))) : Option ((List (Int × ((List UInt8) × ((List UInt8) × ((List UInt8) × (Int × Unit)))))) × Unit) := lock_Locks_Granted_cps N _ (fun a0 => some (a0, ())) v1 v2 v3

/-! (*frankpledge/frankpledgeref09.Locks).Granted -/
def ref09_Locks_Granted_l0B (N : Nat) (R : Type) (rec : Int → (List (Int × ((List UInt8) × ((List UInt8) × ((List UInt8) × (Int × Unit)))))) → Int → (List (Int × ((List UInt8) × ((List UInt8) × ((List UInt8) × (Int × Unit)))))) → (List (Int × ((List UInt8) × ((List UInt8) × ((List UInt8) × (Int × Unit)))))) → Option R) (k0 : (List (Int × ((List UInt8) × ((List UInt8) × ((List UInt8) × (Int × Unit)))))) → (List (Int × ((List UInt8) × ((List UInt8) × ((List UInt8) × (Int × Unit)))))) → (List (Int × ((List UInt8) × ((List UInt8) × ((List UInt8) × (Int × Unit)))))) → Option R) (v7 : Int) (v8 : (List (Int × ((List UInt8) × ((List UInt8) × ((List UInt8) × (Int × Unit))))))) (v9 : Int) (v10 : (List (Int × ((List UInt8) × ((List UInt8) × ((List UInt8) × (Int × Unit))))))) (v11 : (List (Int × ((List UInt8) × ((List UInt8) × ((List UInt8) × (Int × Unit))))))) : Option R :=
  (bif (decide (v9 < (v10.length : Int))) then
  (Option.bind (nth v10 v9) fun (v12 : (Int × ((List UInt8) × ((List UInt8) × ((List UInt8) × (Int × Unit)))))) =>
  (bif (decide (v12.1 = v7)) then
  (Option.bind (nth v10 v9) fun (v13 : (Int × ((List UInt8) × ((List UInt8) × ((List UInt8) × (Int × Unit)))))) =>
  (bif (room 64 (v8.length + ([(v13.1, (v13.2.1, (v13.2.2.1, (v13.2.2.2.1, (v13.2.2.2.2.1, ())))))] : (List (Int × ((List UInt8) × ((List UInt8) × ((List UInt8) × (Int × Unit))))))).length)) then
  (rec v7 (v8 ++ ([(v13.1, (v13.2.1, (v13.2.2.1, (v13.2.2.2.1, (v13.2.2.2.2.1, ())))))] : (List (Int × ((List UInt8) × ((List UInt8) × ((List UInt8) × (Int × Unit)))))))) (IntKind.wrap .i64 (v9 + 1)) v10 v11)
  else
  none))
  else
  (rec v7 v8 (IntKind.wrap .i64 (v9 + 1)) v10 v11)))
  else
  (k0 v8 v10 v11))

def ref09_Locks_Granted_l0 (N : Nat) (R : Type) (k0 : (List (Int × ((List UInt8) × ((List UInt8) × ((List UInt8) × (Int × Unit)))))) → (List (Int × ((List UInt8) × ((List UInt8) × ((List UInt8) × (Int × Unit)))))) → (List (Int × ((List UInt8) × ((List UInt8) × ((List UInt8) × (Int × Unit)))))) → Option R) : Nat → Int → (List (Int × ((List UInt8) × ((List UInt8) × ((List UInt8) × (Int × Unit)))))) → Int → (List (Int × ((List UInt8) × ((List UInt8) × ((List UInt8) × (Int × Unit)))))) → (List (Int × ((List UInt8) × ((List UInt8) × ((List UInt8) × (Int × Unit)))))) → Option R
  | 0 => fun _ _ _ _ _ => none
  | n + 1 => ref09_Locks_Granted_l0B N R (ref09_Locks_Granted_l0 N R k0 n) k0

def ref09_Locks_Granted_cps (N : Nat) (R : Type) (K : (List (Int × ((List UInt8) × ((List UInt8) × ((List UInt8) × (Int × Unit)))))) → (List (Int × ((List UInt8) × ((List UInt8) × ((List UInt8) × (Int × Unit)))))) → (List (Int × ((List UInt8) × ((List UInt8) × ((List UInt8) × (Int × Unit)))))) → Option R) (v1 : Int) (v2 : (List (Int × ((List UInt8) × ((List UInt8) × ((List UInt8) × (Int × Unit))))))) (v3 : (List (Int × ((List UInt8) × ((List UInt8) × ((List UInt8) × (Int × Unit))))))) : Option R :=
  (ref09_Locks_Granted_l0 N _ (fun (v4 : (List (Int × ((List UInt8) × ((List UInt8) × ((List UInt8) × (Int × Unit))))))) (v5 : (List (Int × ((List UInt8) × ((List UInt8) × ((List UInt8) × (Int × Unit))))))) (v6 : (List (Int × ((List UInt8) × ((List UInt8) × ((List UInt8) × (Int × Unit))))))) =>
  (K v4 v5 v6)) N v1 [] 0 v2 v3)

def ref09_Locks_Granted (N : Nat) (v1 : Int) (v2 : (List (Int × ((List UInt8) × ((List UInt8) × ((List UInt8) × (Int × Unit))))))) (v3 : (List (Int × ((List UInt8) × ((List UInt8) × ((List UInt8) × (Int × Unit))))))) : Option ((List (Int × ((List UInt8) × ((List UInt8) × ((List UInt8) × (Int × Unit)))))) × (List (Int × ((List UInt8) × ((List UInt8) × ((List UInt8) × (Int × Unit)))))) × (List (Int × ((List UInt8) × ((List UInt8) × ((List UInt8) × (Int × Unit)))))) × Unit) := ref09_Locks_Granted_cps N _ (fun a0 a1 a2 => some (a0, (a1, (a2, ())))) v1 v2 v3

/-! frankpledge/frankpledgeref09.without -/
def ref09_without_l0B (N : Nat) (R : Type) (rec : (List (Int × ((List UInt8) × ((List UInt8) × ((List UInt8) × (Int × Unit)))))) → Int → (List (Int × ((List UInt8) × ((List UInt8) × ((List UInt8) × (Int × Unit)))))) → Int → Option R) (k0 : (List (Int × ((List UInt8) × ((List UInt8) × ((List UInt8) × (Int × Unit)))))) → Option R) (v4 : (List (Int × ((List UInt8) × ((List UInt8) × ((List UInt8) × (Int × Unit))))))) (v5 : Int) (v6 : (List (Int × ((List UInt8) × ((List UInt8) × ((List UInt8) × (Int × Unit))))))) (v7 : Int) : Option R :=
  (bif (decide (v7 < (v4.length : Int))) then
  (Option.bind (nth v4 v7) fun (v8 : (Int × ((List UInt8) × ((List UInt8) × ((List UInt8) × (Int × Unit)))))) =>
  (bif (!(decide (v8.1 = v5))) then
  (Option.bind (nth v4 v7) fun (v9 : (Int × ((List UInt8) × ((List UInt8) × ((List UInt8) × (Int × Unit)))))) =>
  (bif (room 64 (v6.length + ([(v9.1, (v9.2.1, (v9.2.2.1, (v9.2.2.2.1, (v9.2.2.2.2.1, ())))))] : (List (Int × ((List UInt8) × ((List UInt8) × ((List UInt8) × (Int × Unit))))))).length)) then
  (rec v4 v5 (v6 ++ ([(v9.1, (v9.2.1, (v9.2.2.1, (v9.2.2.2.1, (v9.2.2.2.2.1, ())))))] : (List (Int × ((List UInt8) × ((List UInt8) × ((List UInt8) × (Int × Unit)))))))) (IntKind.wrap .i64 (v7 + 1)))
  else
  none))
  else
  (rec v4 v5 v6 (IntKind.wrap .i64 (v7 + 1)))))
  else
  (k0 v6))

def ref09_without_l0 (N : Nat) (R : Type) (k0 : (List (Int × ((List UInt8) × ((List UInt8) × ((List UInt8) × (Int × Unit)))))) → Option R) : Nat → (List (Int × ((List UInt8) × ((List UInt8) × ((List UInt8) × (Int × Unit)))))) → Int → (List (Int × ((List UInt8) × ((List UInt8) × ((List UInt8) × (Int × Unit)))))) → Int → Option R
  | 0 => fun _ _ _ _ => none
  | n + 1 => ref09_without_l0B N R (ref09_without_l0 N R k0 n) k0

def ref09_without_cps (N : Nat) (R : Type) (K : (List (Int × ((List UInt8) × ((List UInt8) × ((List UInt8) × (Int × Unit)))))) → Option R) (v1 : (List (Int × ((List UInt8) × ((List UInt8) × ((List UInt8) × (Int × Unit))))))) (v2 : Int) : Option R :=
  (ref09_without_l0 N _ (fun (v3 : (List (Int × ((List UInt8) × ((List UInt8) × ((List UInt8) × (Int × Unit))))))) =>
  (K v3)) N v1 v2 [] 0)

def ref09_without (N : Nat) (v1 : (List (Int × ((List UInt8) × ((List UInt8) × ((List UInt8) × (Int × Unit))))))) (v2 : Int) : Option ((List (Int × ((List UInt8) × ((List UInt8) × ((List UInt8) × (Int × Unit)))))) × Unit) := ref09_without_cps N _ (fun a0 => some (a0, ())) v1 v2

/-! frankpledge/frankpledgeref09.clashes -/
def ref09_clashes_1_l0B (N : Nat) (R : Type) (rec : (List (Int × ((List UInt8) × ((List UInt8) × ((List UInt8) × (Int × Unit)))))) → Int → Int → (List UInt8) → (List UInt8) → (List UInt8) → Int → Option R) (k0 : Int → (List UInt8) → (List UInt8) → (List UInt8) → Int → Option R) (k1 : Bool → Int → (List UInt8) → (List UInt8) → (List UInt8) → Int → Option R) (v18 : (List (Int × ((List UInt8) × ((List UInt8) × ((List UInt8) × (Int × Unit))))))) (v19 : Int) (v20 : Int) (v21 : (List UInt8)) (v22 : (List UInt8)) (v23 : (List UInt8)) (v24 : Int) : Option R :=
  (bif (decide (v19 < (v18.length : Int))) then
  (Option.bind (nth v18 v19) fun (v25 : (Int × ((List UInt8) × ((List UInt8) × ((List UInt8) × (Int × Unit)))))) =>
  (Option.bind (ref09_Clash N v25.1 v25.2.1 v25.2.2.1 v25.2.2.2.1 v25.2.2.2.2.1 v20 v21 v22 v23 v24) fun (v26 : Bool × Unit) =>
  (bif v26.1 then
  (k1 true v20 v21 v22 v23 v24)
  else
  (rec v18 (IntKind.wrap .i64 (v19 + 1)) v20 v21 v22 v23 v24))))
  else
  (k0 v20 v21 v22 v23 v24))

def ref09_clashes_1_l0 (N : Nat) (R : Type) (k0 : Int → (List UInt8) → (List UInt8) → (List UInt8) → Int → Option R) (k1 : Bool → Int → (List UInt8) → (List UInt8) → (List UInt8) → Int → Option R) : Nat → (List (Int × ((List UInt8) × ((List UInt8) × ((List UInt8) × (Int × Unit)))))) → Int → Int → (List UInt8) → (List UInt8) → (List UInt8) → Int → Option R
  | 0 => fun _ _ _ _ _ _ _ => none
  | n + 1 => ref09_clashes_1_l0B N R (ref09_clashes_1_l0 N R k0 k1 n) k0 k1

def ref09_clashes_1_cps (N : Nat) (R : Type) (K : Bool → Option R) (v1 : (List (Int × ((List UInt8) × ((List UInt8) × ((List UInt8) × (Int × Unit))))))) (v2 : Int) (v3 : (List UInt8)) (v4 : (List UInt8)) (v5 : (List UInt8)) (v6 : Int) : Option R :=
  (ref09_clashes_1_l0 N _ (fun (v7 : Int) (v8 : (List UInt8)) (v9 : (List UInt8)) (v10 : (List UInt8)) (v11 : Int) =>
  (K false)) (fun (v12 : Bool) (v13 : Int) (v14 : (List UInt8)) (v15 : (List UInt8)) (v16 : (List UInt8)) (v17 : Int) =>
  (K v12)) N v1 0 v2 v3 v4 v5 v6)

def ref09_clashes_1 (N : Nat) (v1 : (List (Int × ((List UInt8) × ((List UInt8) × ((List UInt8) × (Int × Unit))))))) (v2 : Int) (v3 : (List UInt8)) (v4 : (List UInt8)) (v5 : (List UInt8)) (v6 : Int) : Option (Bool × Unit) := ref09_clashes_1_cps N _ (fun a0 => some (a0, ())) v1 v2 v3 v4 v5 v6

/-! (*frankpledge/frankpledgeref09.Locks).look -/
def ref09_Locks_look_l0B (N : Nat) (R : Type) (rec : (List Int) → (List (Int × ((List UInt8) × ((List UInt8) × ((List UInt8) × (Int × Unit)))))) → Int → (List (Int × ((List UInt8) × ((List UInt8) × ((List UInt8) × (Int × Unit)))))) → (List (Int × ((List UInt8) × ((List UInt8) × ((List UInt8) × (Int × Unit)))))) → Option R) (k0 : (List Int) → (List (Int × ((List UInt8) × ((List UInt8) × ((List UInt8) × (Int × Unit)))))) → (List (Int × ((List UInt8) × ((List UInt8) × ((List UInt8) × (Int × Unit)))))) → (List (Int × ((List UInt8) × ((List UInt8) × ((List UInt8) × (Int × Unit)))))) → Option R) (v7 : (List Int)) (v8 : (List (Int × ((List UInt8) × ((List UInt8) × ((List UInt8) × (Int × Unit))))))) (v9 : Int) (v10 : (List (Int × ((List UInt8) × ((List UInt8) × ((List UInt8) × (Int × Unit))))))) (v11 : (List (Int × ((List UInt8) × ((List UInt8) × ((List UInt8) × (Int × Unit))))))) : Option R :=
  (bif (decide (v9 < (v11.length : Int))) then
  (Option.bind (nth v11 v9) fun (v12 : (Int × ((List UInt8) × ((List UInt8) × ((List UInt8) × (Int × Unit)))))) =>
  (Option.bind (ref09_clashes_1 N v10 v12.1 v12.2.1 v12.2.2.1 v12.2.2.2.1 v12.2.2.2.2.1) fun (v13 : Bool × Unit) =>
  (Option.bind (nth v11 v9) fun (v14 : (Int × ((List UInt8) × ((List UInt8) × ((List UInt8) × (Int × Unit)))))) =>
  (Option.bind (ref09_clashes_1 N v8 v14.1 v14.2.1 v14.2.2.1 v14.2.2.2.1 v14.2.2.2.2.1) fun (v15 : Bool × Unit) =>
  (bif v13.1 then
  (Option.bind (nth v11 v9) fun (v16 : (Int × ((List UInt8) × ((List UInt8) × ((List UInt8) × (Int × Unit)))))) =>
  (bif (room 64 (v8.length + ([(v16.1, (v16.2.1, (v16.2.2.1, (v16.2.2.2.1, (v16.2.2.2.2.1, ())))))] : (List (Int × ((List UInt8) × ((List UInt8) × ((List UInt8) × (Int × Unit))))))).length)) then
  (rec v7 (v8 ++ ([(v16.1, (v16.2.1, (v16.2.2.1, (v16.2.2.2.1, (v16.2.2.2.2.1, ())))))] : (List (Int × ((List UInt8) × ((List UInt8) × ((List UInt8) × (Int × Unit)))))))) (IntKind.wrap .i64 (v9 + 1)) v10 v11)
  else
  none))
  else
  (bif v15.1 then
  (Option.bind (nth v11 v9) fun (v17 : (Int × ((List UInt8) × ((List UInt8) × ((List UInt8) × (Int × Unit)))))) =>
  (bif (room 64 (v8.length + ([(v17.1, (v17.2.1, (v17.2.2.1, (v17.2.2.2.1, (v17.2.2.2.2.1, ())))))] : (List (Int × ((List UInt8) × ((List UInt8) × ((List UInt8) × (Int × Unit))))))).length)) then
  (rec v7 (v8 ++ ([(v17.1, (v17.2.1, (v17.2.2.1, (v17.2.2.2.1, (v17.2.2.2.2.1, ())))))] : (List (Int × ((List UInt8) × ((List UInt8) × ((List UInt8) × (Int × Unit)))))))) (IntKind.wrap .i64 (v9 + 1)) v10 v11)
  else
  none))
  else
  (bif (room 64 (([] : (List (Int × ((List UInt8) × ((List UInt8) × ((List UInt8) × (Int × Unit))))))).length + v10.length)) then
  (Option.bind (nth v11 v9) fun (v18 : (Int × ((List UInt8) × ((List UInt8) × ((List UInt8) × (Int × Unit)))))) =>
  (bif (room 64 ((([] : (List (Int × ((List UInt8) × ((List UInt8) × ((List UInt8) × (Int × Unit))))))) ++ v10).length + ([(v18.1, (v18.2.1, (v18.2.2.1, (v18.2.2.2.1, (v18.2.2.2.2.1, ())))))] : (List (Int × ((List UInt8) × ((List UInt8) × ((List UInt8) × (Int × Unit))))))).length)) then
  (Option.bind (nth v11 v9) fun (v19 : (Int × ((List UInt8) × ((List UInt8) × ((List UInt8) × (Int × Unit)))))) =>
  (bif (room 8 (v7.length + ([v19.1] : (List Int)).length)) then
  (rec (v7 ++ ([v19.1] : (List Int))) v8 (IntKind.wrap .i64 (v9 + 1)) ((([] : (List (Int × ((List UInt8) × ((List UInt8) × ((List UInt8) × (Int × Unit))))))) ++ v10) ++ ([(v18.1, (v18.2.1, (v18.2.2.1, (v18.2.2.2.1, (v18.2.2.2.2.1, ())))))] : (List (Int × ((List UInt8) × ((List UInt8) × ((List UInt8) × (Int × Unit)))))))) v11)
  else
  none))
  else
  none))
  else
  none)))))))
  else
  (k0 v7 v8 v10 v11))

def ref09_Locks_look_l0 (N : Nat) (R : Type) (k0 : (List Int) → (List (Int × ((List UInt8) × ((List UInt8) × ((List UInt8) × (Int × Unit)))))) → (List (Int × ((List UInt8) × ((List UInt8) × ((List UInt8) × (Int × Unit)))))) → (List (Int × ((List UInt8) × ((List UInt8) × ((List UInt8) × (Int × Unit)))))) → Option R) : Nat → (List Int) → (List (Int × ((List UInt8) × ((List UInt8) × ((List UInt8) × (Int × Unit)))))) → Int → (List (Int × ((List UInt8) × ((List UInt8) × ((List UInt8) × (Int × Unit)))))) → (List (Int × ((List UInt8) × ((List UInt8) × ((List UInt8) × (Int × Unit)))))) → Option R
  | 0 => fun _ _ _ _ _ => none
  | n + 1 => ref09_Locks_look_l0B N R (ref09_Locks_look_l0 N R k0 n) k0

def ref09_Locks_look_cps (N : Nat) (R : Type) (K : (List Int) → (List (Int × ((List UInt8) × ((List UInt8) × ((List UInt8) × (Int × Unit)))))) → (List (Int × ((List UInt8) × ((List UInt8) × ((List UInt8) × (Int × Unit)))))) → Option R) (v1 : (List (Int × ((List UInt8) × ((List UInt8) × ((List UInt8) × (Int × Unit))))))) (v2 : (List (Int × ((List UInt8) × ((List UInt8) × ((List UInt8) × (Int × Unit))))))) : Option R :=
  (ref09_Locks_look_l0 N _ (fun (v3 : (List Int)) (v4 : (List (Int × ((List UInt8) × ((List UInt8) × ((List UInt8) × (Int × Unit))))))) (v5 : (List (Int × ((List UInt8) × ((List UInt8) × ((List UInt8) × (Int × Unit))))))) (v6 : (List (Int × ((List UInt8) × ((List UInt8) × ((List UInt8) × (Int × Unit))))))) =>
  (K v3 v5 v4)) N [] [] 0 v1 v2)

def ref09_Locks_look (N : Nat) (v1 : (List (Int × ((List UInt8) × ((List UInt8) × ((List UInt8) × (Int × Unit))))))) (v2 : (List (Int × ((List UInt8) × ((List UInt8) × ((List UInt8) × (Int × Unit))))))) : Option ((List Int) × (List (Int × ((List UInt8) × ((List UInt8) × ((List UInt8) × (Int × Unit)))))) × (List (Int × ((List UInt8) × ((List UInt8) × ((List UInt8) × (Int × Unit)))))) × Unit) := ref09_Locks_look_cps N _ (fun a0 a1 a2 => some (a0, (a1, (a2, ())))) v1 v2

/-! (*frankpledge/frankpledgeref09.Locks).Drop -/
def ref09_Locks_Drop_cps (N : Nat) (R : Type) (K : (List Int) → (List (Int × ((List UInt8) × ((List UInt8) × ((List UInt8) × (Int × Unit)))))) → (List (Int × ((List UInt8) × ((List UInt8) × ((List UInt8) × (Int × Unit)))))) → Option R) (v1 : Int) : Option R :=
  (Option.bind (ref09_without N [] v1) fun (v2 : (List (Int × ((List UInt8) × ((List UInt8) × ((List UInt8) × (Int × Unit)))))) × Unit) =>
  (Option.bind (ref09_without N [] v1) fun (v3 : (List (Int × ((List UInt8) × ((List UInt8) × ((List UInt8) × (Int × Unit)))))) × Unit) =>
  (Option.bind (ref09_Locks_look N v2.1 v3.1) fun (v4 : (List Int) × (List (Int × ((List UInt8) × ((List UInt8) × ((List UInt8) × (Int × Unit)))))) × (List (Int × ((List UInt8) × ((List UInt8) × ((List UInt8) × (Int × Unit)))))) × Unit) =>
  (K v4.1 v4.2.1 v4.2.2.1))))

def ref09_Locks_Drop (N : Nat) (v1 : Int) : Option ((List Int) × (List (Int × ((List UInt8) × ((List UInt8) × ((List UInt8) × (Int × Unit)))))) × (List (Int × ((List UInt8) × ((List UInt8) × ((List UInt8) × (Int × Unit)))))) × Unit) := ref09_Locks_Drop_cps N _ (fun a0 a1 a2 => some (a0, (a1, (a2, ())))) v1

/-! (*frankpledge/frankpledgeref09.Locks).look -/
def ref09_Locks_look_1_l0B (N : Nat) (R : Type) (rec : (List Int) → (List (Int × ((List UInt8) × ((List UInt8) × ((List UInt8) × (Int × Unit)))))) → Int → (List (Int × ((List UInt8) × ((List UInt8) × ((List UInt8) × (Int × Unit)))))) → (List (Int × ((List UInt8) × ((List UInt8) × ((List UInt8) × (Int × Unit)))))) → Option R) (k0 : (List Int) → (List (Int × ((List UInt8) × ((List UInt8) × ((List UInt8) × (Int × Unit)))))) → (List (Int × ((List UInt8) × ((List UInt8) × ((List UInt8) × (Int × Unit)))))) → (List (Int × ((List UInt8) × ((List UInt8) × ((List UInt8) × (Int × Unit)))))) → Option R) (v6 : (List Int)) (v7 : (List (Int × ((List UInt8) × ((List UInt8) × ((List UInt8) × (Int × Unit))))))) (v8 : Int) (v9 : (List (Int × ((List UInt8) × ((List UInt8) × ((List UInt8) × (Int × Unit))))))) (v10 : (List (Int × ((List UInt8) × ((List UInt8) × ((List UInt8) × (Int × Unit))))))) : Option R :=
  (bif (decide (v8 < (v10.length : Int))) then
  (Option.bind (nth v10 v8) fun (v11 : (Int × ((List UInt8) × ((List UInt8) × ((List UInt8) × (Int × Unit)))))) =>
  (Option.bind (ref09_clashes_1 N v9 v11.1 v11.2.1 v11.2.2.1 v11.2.2.2.1 v11.2.2.2.2.1) fun (v12 : Bool × Unit) =>
  (Option.bind (nth v10 v8) fun (v13 : (Int × ((List UInt8) × ((List UInt8) × ((List UInt8) × (Int × Unit)))))) =>
  (Option.bind (ref09_clashes_1 N v7 v13.1 v13.2.1 v13.2.2.1 v13.2.2.2.1 v13.2.2.2.2.1) fun (v14 : Bool × Unit) =>
  (bif v12.1 then
  (Option.bind (nth v10 v8) fun (v15 : (Int × ((List UInt8) × ((List UInt8) × ((List UInt8) × (Int × Unit)))))) =>
  (bif (room 64 (v7.length + ([(v15.1, (v15.2.1, (v15.2.2.1, (v15.2.2.2.1, (v15.2.2.2.2.1, ())))))] : (List (Int × ((List UInt8) × ((List UInt8) × ((List UInt8) × (Int × Unit))))))).length)) then
  (rec v6 (v7 ++ ([(v15.1, (v15.2.1, (v15.2.2.1, (v15.2.2.2.1, (v15.2.2.2.2.1, ())))))] : (List (Int × ((List UInt8) × ((List UInt8) × ((List UInt8) × (Int × Unit)))))))) (IntKind.wrap .i64 (v8 + 1)) v9 v10)
  else
  none))
  else
  (bif v14.1 then
  (Option.bind (nth v10 v8) fun (v16 : (Int × ((List UInt8) × ((List UInt8) × ((List UInt8) × (Int × Unit)))))) =>
  (bif (room 64 (v7.length + ([(v16.1, (v16.2.1, (v16.2.2.1, (v16.2.2.2.1, (v16.2.2.2.2.1, ())))))] : (List (Int × ((List UInt8) × ((List UInt8) × ((List UInt8) × (Int × Unit))))))).length)) then
  (rec v6 (v7 ++ ([(v16.1, (v16.2.1, (v16.2.2.1, (v16.2.2.2.1, (v16.2.2.2.2.1, ())))))] : (List (Int × ((List UInt8) × ((List UInt8) × ((List UInt8) × (Int × Unit)))))))) (IntKind.wrap .i64 (v8 + 1)) v9 v10)
  else
  none))
  else
  (bif (room 64 (([] : (List (Int × ((List UInt8) × ((List UInt8) × ((List UInt8) × (Int × Unit))))))).length + v9.length)) then
  (Option.bind (nth v10 v8) fun (v17 : (Int × ((List UInt8) × ((List UInt8) × ((List UInt8) × (Int × Unit)))))) =>
  (bif (room 64 ((([] : (List (Int × ((List UInt8) × ((List UInt8) × ((List UInt8) × (Int × Unit))))))) ++ v9).length + ([(v17.1, (v17.2.1, (v17.2.2.1, (v17.2.2.2.1, (v17.2.2.2.2.1, ())))))] : (List (Int × ((List UInt8) × ((List UInt8) × ((List UInt8) × (Int × Unit))))))).length)) then
  (Option.bind (nth v10 v8) fun (v18 : (Int × ((List UInt8) × ((List UInt8) × ((List UInt8) × (Int × Unit)))))) =>
  (bif (room 8 (v6.length + ([v18.1] : (List Int)).length)) then
  (rec (v6 ++ ([v18.1] : (List Int))) v7 (IntKind.wrap .i64 (v8 + 1)) ((([] : (List (Int × ((List UInt8) × ((List UInt8) × ((List UInt8) × (Int × Unit))))))) ++ v9) ++ ([(v17.1, (v17.2.1, (v17.2.2.1, (v17.2.2.2.1, (v17.2.2.2.2.1, ())))))] : (List (Int × ((List UInt8) × ((List UInt8) × ((List UInt8) × (Int × Unit)))))))) v10)
  else
  none))
  else
  none))
  else
  none)))))))
  else
  (k0 v6 v7 v9 v10))

def ref09_Locks_look_1_l0 (N : Nat) (R : Type) (k0 : (List Int) → (List (Int × ((List UInt8) × ((List UInt8) × ((List UInt8) × (Int × Unit)))))) → (List (Int × ((List UInt8) × ((List UInt8) × ((List UInt8) × (Int × Unit)))))) → (List (Int × ((List UInt8) × ((List UInt8) × ((List UInt8) × (Int × Unit)))))) → Option R) : Nat → (List Int) → (List (Int × ((List UInt8) × ((List UInt8) × ((List UInt8) × (Int × Unit)))))) → Int → (List (Int × ((List UInt8) × ((List UInt8) × ((List UInt8) × (Int × Unit)))))) → (List (Int × ((List UInt8) × ((List UInt8) × ((List UInt8) × (Int × Unit)))))) → Option R
  | 0 => fun _ _ _ _ _ => none
  | n + 1 => ref09_Locks_look_1_l0B N R (ref09_Locks_look_1_l0 N R k0 n) k0

def ref09_Locks_look_1_cps (N : Nat) (R : Type) (K : (List Int) → (List (Int × ((List UInt8) × ((List UInt8) × ((List UInt8) × (Int × Unit)))))) → (List (Int × ((List UInt8) × ((List UInt8) × ((List UInt8) × (Int × Unit)))))) → Option R) (v1 : (List (Int × ((List UInt8) × ((List UInt8) × ((List UInt8) × (Int × Unit))))))) : Option R :=
  (ref09_Locks_look_1_l0 N _ (fun (v2 : (List Int)) (v3 : (List (Int × ((List UInt8) × ((List UInt8) × ((List UInt8) × (Int × Unit))))))) (v4 : (List (Int × ((List UInt8) × ((List UInt8) × ((List UInt8) × (Int × Unit))))))) (v5 : (List (Int × ((List UInt8) × ((List UInt8) × ((List UInt8) × (Int × Unit))))))) =>
  (K v2 v4 v3)) N [] [] 0 [] v1)

def ref09_Locks_look_1 (N : Nat) (v1 : (List (Int × ((List UInt8) × ((List UInt8) × ((List UInt8) × (Int × Unit))))))) : Option ((List Int) × (List (Int × ((List UInt8) × ((List UInt8) × ((List UInt8) × (Int × Unit)))))) × (List (Int × ((List UInt8) × ((List UInt8) × ((List UInt8) × (Int × Unit)))))) × Unit) := ref09_Locks_look_1_cps N _ (fun a0 a1 a2 => some (a0, (a1, (a2, ())))) v1

/-! (*frankpledge/frankpledgeref09.Locks).Cancel -/
def ref09_Locks_Cancel_cps (N : Nat) (R : Type) (K : (List Int) → (List (Int × ((List UInt8) × ((List UInt8) × ((List UInt8) × (Int × Unit)))))) → (List (Int × ((List UInt8) × ((List UInt8) × ((List UInt8) × (Int × Unit)))))) → Option R) (v1 : Int) : Option R :=
  (Option.bind (ref09_without N [] v1) fun (v2 : (List (Int × ((List UInt8) × ((List UInt8) × ((List UInt8) × (Int × Unit)))))) × Unit) =>
  (Option.bind (ref09_Locks_look_1 N v2.1) fun (v3 : (List Int) × (List (Int × ((List UInt8) × ((List UInt8) × ((List UInt8) × (Int × Unit)))))) × (List (Int × ((List UInt8) × ((List UInt8) × ((List UInt8) × (Int × Unit)))))) × Unit) =>
  (K v3.1 v3.2.1 v3.2.2.1)))

def ref09_Locks_Cancel (N : Nat) (v1 : Int) : Option ((List Int) × (List (Int × ((List UInt8) × ((List UInt8) × ((List UInt8) × (Int × Unit)))))) × (List (Int × ((List UInt8) × ((List UInt8) × ((List UInt8) × (Int × Unit)))))) × Unit) := ref09_Locks_Cancel_cps N _ (fun a0 a1 a2 => some (a0, (a1, (a2, ())))) v1

/-! frankpledge/frankpledgeref09.covers -/
def ref09_covers_cps (N : Nat) (R : Type) (K : Bool → Option R) (v1 : Int) (v2 : (List UInt8)) (v3 : (List UInt8)) (v4 : (List UInt8)) (v5 : Int) (v6 : Int) (v7 : (List UInt8)) (v8 : (List UInt8)) (v9 : (List UInt8)) (v10 : Int) : Option R :=
  (bif (decide (v1 = v6)) then
  (bif (decide (v2 = v7)) then
  (bif (!(Op.bytesLess v8 v3)) then
  (bif (decide (v4 = [])) then
  (bif (decide (v5 = v10)) then
  (K true)
  else
  (K (decide (v5 = 2))))
  else
  (bif (!(decide (v9 = []))) then
  (bif (!(Op.bytesLess v4 v9)) then
  (bif (decide (v5 = v10)) then
  (K true)
  else
  (K (decide (v5 = 2))))
  else
  (K false))
  else
  (K false)))
  else
  (K false))
  else
  (K false))
  else
  (K false))

def ref09_covers (N : Nat) (v1 : Int) (v2 : (List UInt8)) (v3 : (List UInt8)) (v4 : (List UInt8)) (v5 : Int) (v6 : Int) (v7 : (List UInt8)) (v8 : (List UInt8)) (v9 : (List UInt8)) (v10 : Int) : Option (Bool × Unit) := ref09_covers_cps N _ (fun a0 => some (a0, ())) v1 v2 v3 v4 v5 v6 v7 v8 v9 v10

/-! (*frankpledge/frankpledgeref09.Locks).Ask -/
def ref09_Locks_Ask_1_l1B (N : Nat) (R : Type) (rec : Int → (List (Int × ((List UInt8) × ((List UInt8) × ((List UInt8) × (Int × Unit)))))) → (List (Int × ((List UInt8) × ((List UInt8) × ((List UInt8) × (Int × Unit)))))) → Int → (List UInt8) → (List UInt8) → (List UInt8) → Int → Option R) (k0 : (List (Int × ((List UInt8) × ((List UInt8) × ((List UInt8) × (Int × Unit)))))) → (List (Int × ((List UInt8) × ((List UInt8) × ((List UInt8) × (Int × Unit)))))) → Int → (List UInt8) → (List UInt8) → (List UInt8) → Int → Option R) (k1 : Bool → Int → (List (Int × ((List UInt8) × ((List UInt8) × ((List UInt8) × (Int × Unit)))))) → (List (Int × ((List UInt8) × ((List UInt8) × ((List UInt8) × (Int × Unit)))))) → Int → (List UInt8) → (List UInt8) → (List UInt8) → Int → Option R) (v52 : Int) (v53 : (List (Int × ((List UInt8) × ((List UInt8) × ((List UInt8) × (Int × Unit))))))) (v54 : (List (Int × ((List UInt8) × ((List UInt8) × ((List UInt8) × (Int × Unit))))))) (v55 : Int) (v56 : (List UInt8)) (v57 : (List UInt8)) (v58 : (List UInt8)) (v59 : Int) : Option R :=
  (bif (decide (v52 < (v53.length : Int))) then
  (Option.bind (nth v53 v52) fun (v60 : (Int × ((List UInt8) × ((List UInt8) × ((List UInt8) × (Int × Unit)))))) =>
  (Option.bind (ref09_covers N v60.1 v60.2.1 v60.2.2.1 v60.2.2.2.1 v60.2.2.2.2.1 v55 v56 v57 v58 v59) fun (v61 : Bool × Unit) =>
  (bif v61.1 then
  (k1 true 0 v53 v54 v55 v56 v57 v58 v59)
  else
  (rec (IntKind.wrap .i64 (v52 + 1)) v53 v54 v55 v56 v57 v58 v59))))
  else
  (k0 v53 v54 v55 v56 v57 v58 v59))

def ref09_Locks_Ask_1_l1 (N : Nat) (R : Type) (k0 : (List (Int × ((List UInt8) × ((List UInt8) × ((List UInt8) × (Int × Unit)))))) → (List (Int × ((List UInt8) × ((List UInt8) × ((List UInt8) × (Int × Unit)))))) → Int → (List UInt8) → (List UInt8) → (List UInt8) → Int → Option R) (k1 : Bool → Int → (List (Int × ((List UInt8) × ((List UInt8) × ((List UInt8) × (Int × Unit)))))) → (List (Int × ((List UInt8) × ((List UInt8) × ((List UInt8) × (Int × Unit)))))) → Int → (List UInt8) → (List UInt8) → (List UInt8) → Int → Option R) : Nat → Int → (List (Int × ((List UInt8) × ((List UInt8) × ((List UInt8) × (Int × Unit)))))) → (List (Int × ((List UInt8) × ((List UInt8) × ((List UInt8) × (Int × Unit)))))) → Int → (List UInt8) → (List UInt8) → (List UInt8) → Int → Option R
  | 0 => fun _ _ _ _ _ _ _ _ => none
  | n + 1 => ref09_Locks_Ask_1_l1B N R (ref09_Locks_Ask_1_l1 N R k0 k1 n) k0 k1

def ref09_Locks_Ask_1_l0B (N : Nat) (R : Type) (rec : Int → (List (Int × ((List UInt8) × ((List UInt8) × ((List UInt8) × (Int × Unit)))))) → (List (Int × ((List UInt8) × ((List UInt8) × ((List UInt8) × (Int × Unit)))))) → Int → (List UInt8) → (List UInt8) → (List UInt8) → Int → Option R) (k0 : (List (Int × ((List UInt8) × ((List UInt8) × ((List UInt8) × (Int × Unit)))))) → (List (Int × ((List UInt8) × ((List UInt8) × ((List UInt8) × (Int × Unit)))))) → Int → (List UInt8) → (List UInt8) → (List UInt8) → Int → Option R) (k1 : Bool → Int → (List (Int × ((List UInt8) × ((List UInt8) × ((List UInt8) × (Int × Unit)))))) → (List (Int × ((List UInt8) × ((List UInt8) × ((List UInt8) × (Int × Unit)))))) → Int → (List UInt8) → (List UInt8) → (List UInt8) → Int → Option R) (v43 : Int) (v44 : (List (Int × ((List UInt8) × ((List UInt8) × ((List UInt8) × (Int × Unit))))))) (v45 : (List (Int × ((List UInt8) × ((List UInt8) × ((List UInt8) × (Int × Unit))))))) (v46 : Int) (v47 : (List UInt8)) (v48 : (List UInt8)) (v49 : (List UInt8)) (v50 : Int) : Option R :=
  (bif (decide (v43 < (v45.length : Int))) then
  (Option.bind (nth v45 v43) fun (v51 : (Int × ((List UInt8) × ((List UInt8) × ((List UInt8) × (Int × Unit)))))) =>
  (bif (decide (v51.1 = v46)) then
  (k1 false 92 v44 v45 v46 v47 v48 v49 v50)
  else
  (rec (IntKind.wrap .i64 (v43 + 1)) v44 v45 v46 v47 v48 v49 v50)))
  else
  (k0 v44 v45 v46 v47 v48 v49 v50))

def ref09_Locks_Ask_1_l0 (N : Nat) (R : Type) (k0 : (List (Int × ((List UInt8) × ((List UInt8) × ((List UInt8) × (Int × Unit)))))) → (List (Int × ((List UInt8) × ((List UInt8) × ((List UInt8) × (Int × Unit)))))) → Int → (List UInt8) → (List UInt8) → (List UInt8) → Int → Option R) (k1 : Bool → Int → (List (Int × ((List UInt8) × ((List UInt8) × ((List UInt8) × (Int × Unit)))))) → (List (Int × ((List UInt8) × ((List UInt8) × ((List UInt8) × (Int × Unit)))))) → Int → (List UInt8) → (List UInt8) → (List UInt8) → Int → Option R) : Nat → Int → (List (Int × ((List UInt8) × ((List UInt8) × ((List UInt8) × (Int × Unit)))))) → (List (Int × ((List UInt8) × ((List UInt8) × ((List UInt8) × (Int × Unit)))))) → Int → (List UInt8) → (List UInt8) → (List UInt8) → Int → Option R
  | 0 => fun _ _ _ _ _ _ _ _ => none
  | n + 1 => ref09_Locks_Ask_1_l0B N R (ref09_Locks_Ask_1_l0 N R k0 k1 n) k0 k1

def ref09_Locks_Ask_1_cps (N : Nat) (R : Type) (K : Bool → Int → (List (Int × ((List UInt8) × ((List UInt8) × ((List UInt8) × (Int × Unit)))))) → (List (Int × ((List UInt8) × ((List UInt8) × ((List UInt8) × (Int × Unit)))))) → Option R) (v1 : Int) (v2 : (List UInt8)) (v3 : (List UInt8)) (v4 : (List UInt8)) (v5 : Int) (v6 : (List (Int × ((List UInt8) × ((List UInt8) × ((List UInt8) × (Int × Unit))))))) (v7 : (List (Int × ((List UInt8) × ((List UInt8) × ((List UInt8) × (Int × Unit))))))) : Option R :=
  (Option.bind (ref09_Right N v1 v2 v3 v4 v5) fun (v8 : Bool × Unit) =>
  (bif (!v8.1) then
  (K false 1 v6 v7)
  else
  (ref09_Locks_Ask_1_l0 N _ (fun (v9 : (List (Int × ((List UInt8) × ((List UInt8) × ((List UInt8) × (Int × Unit))))))) (v10 : (List (Int × ((List UInt8) × ((List UInt8) × ((List UInt8) × (Int × Unit))))))) (v11 : Int) (v12 : (List UInt8)) (v13 : (List UInt8)) (v14 : (List UInt8)) (v15 : Int) =>
  (ref09_Locks_Ask_1_l1 N _ (fun (v16 : (List (Int × ((List UInt8) × ((List UInt8) × ((List UInt8) × (Int × Unit))))))) (v17 : (List (Int × ((List UInt8) × ((List UInt8) × ((List UInt8) × (Int × Unit))))))) (v18 : Int) (v19 : (List UInt8)) (v20 : (List UInt8)) (v21 : (List UInt8)) (v22 : Int) =>
  (bif (decide (1024 ≤ (IntKind.wrap .i64 ((v16.length : Int) + (v17.length : Int))))) then
  (K false 62 v16 v17)
  else
  (Option.bind (ref09_clashes_1 N v16 v18 v19 v20 v21 v22) fun (v23 : Bool × Unit) =>
  (Option.bind (ref09_clashes_1 N v17 v18 v19 v20 v21 v22) fun (v24 : Bool × Unit) =>
  (bif v23.1 then
  (bif (room 64 (([] : (List (Int × ((List UInt8) × ((List UInt8) × ((List UInt8) × (Int × Unit))))))).length + v17.length)) then
  (bif (room 64 ((([] : (List (Int × ((List UInt8) × ((List UInt8) × ((List UInt8) × (Int × Unit))))))) ++ v17).length + ([(v18, (v19, (v20, (v21, (v22, ())))))] : (List (Int × ((List UInt8) × ((List UInt8) × ((List UInt8) × (Int × Unit))))))).length)) then
  (K false 0 v16 ((([] : (List (Int × ((List UInt8) × ((List UInt8) × ((List UInt8) × (Int × Unit))))))) ++ v17) ++ ([(v18, (v19, (v20, (v21, (v22, ())))))] : (List (Int × ((List UInt8) × ((List UInt8) × ((List UInt8) × (Int × Unit)))))))))
  else
  none)
  else
  none)
  else
  (bif v24.1 then
  (bif (room 64 (([] : (List (Int × ((List UInt8) × ((List UInt8) × ((List UInt8) × (Int × Unit))))))).length + v17.length)) then
  (bif (room 64 ((([] : (List (Int × ((List UInt8) × ((List UInt8) × ((List UInt8) × (Int × Unit))))))) ++ v17).length + ([(v18, (v19, (v20, (v21, (v22, ())))))] : (List (Int × ((List UInt8) × ((List UInt8) × ((List UInt8) × (Int × Unit))))))).length)) then
  (K false 0 v16 ((([] : (List (Int × ((List UInt8) × ((List UInt8) × ((List UInt8) × (Int × Unit))))))) ++ v17) ++ ([(v18, (v19, (v20, (v21, (v22, ())))))] : (List (Int × ((List UInt8) × ((List UInt8) × ((List UInt8) × (Int × Unit)))))))))
  else
  none)
  else
  none)
  else
  (bif (room 64 (([] : (List (Int × ((List UInt8) × ((List UInt8) × ((List UInt8) × (Int × Unit))))))).length + v16.length)) then
  (bif (room 64 ((([] : (List (Int × ((List UInt8) × ((List UInt8) × ((List UInt8) × (Int × Unit))))))) ++ v16).length + ([(v18, (v19, (v20, (v21, (v22, ())))))] : (List (Int × ((List UInt8) × ((List UInt8) × ((List UInt8) × (Int × Unit))))))).length)) then
  (K true 0 ((([] : (List (Int × ((List UInt8) × ((List UInt8) × ((List UInt8) × (Int × Unit))))))) ++ v16) ++ ([(v18, (v19, (v20, (v21, (v22, ())))))] : (List (Int × ((List UInt8) × ((List UInt8) × ((List UInt8) × (Int × Unit)))))))) v17)
  else
  none)
  else
  none))))))) (fun (v25 : Bool) (v26 : Int) (v27 : (List (Int × ((List UInt8) × ((List UInt8) × ((List UInt8) × (Int × Unit))))))) (v28 : (List (Int × ((List UInt8) × ((List UInt8) × ((List UInt8) × (Int × Unit))))))) (v29 : Int) (v30 : (List UInt8)) (v31 : (List UInt8)) (v32 : (List UInt8)) (v33 : Int) =>
  (K v25 v26 v27 v28)) N 0 v9 v10 v11 v12 v13 v14 v15)) (fun (v34 : Bool) (v35 : Int) (v36 : (List (Int × ((List UInt8) × ((List UInt8) × ((List UInt8) × (Int × Unit))))))) (v37 : (List (Int × ((List UInt8) × ((List UInt8) × ((List UInt8) × (Int × Unit))))))) (v38 : Int) (v39 : (List UInt8)) (v40 : (List UInt8)) (v41 : (List UInt8)) (v42 : Int) =>
  (K v34 v35 v36 v37)) N 0 v6 v7 v1 v2 v3 v4 v5)))

def ref09_Locks_Ask_1 (N : Nat) (v1 : Int) (v2 : (List UInt8)) (v3 : (List UInt8)) (v4 : (List UInt8)) (v5 : Int) (v6 : (List (Int × ((List UInt8) × ((List UInt8) × ((List UInt8) × (Int × Unit))))))) (v7 : (List (Int × ((List UInt8) × ((List UInt8) × ((List UInt8) × (Int × Unit))))))) : Option (Bool × Int × (List (Int × ((List UInt8) × ((List UInt8) × ((List UInt8) × (Int × Unit)))))) × (List (Int × ((List UInt8) × ((List UInt8) × ((List UInt8) × (Int × Unit)))))) × Unit) := ref09_Locks_Ask_1_cps N _ (fun a0 a1 a2 a3 => some (a0, (a1, (a2, (a3, ()))))) v1 v2 v3 v4 v5 v6 v7

/-! frankpledge/frankpledgeref09.without -/
def ref09_without_1_l0B (N : Nat) (R : Type) (rec : (List (Int × ((List UInt8) × ((List UInt8) × ((List UInt8) × (Int × Unit)))))) → Int → (List (Int × ((List UInt8) × ((List UInt8) × ((List UInt8) × (Int × Unit)))))) → Int → Option R) (k0 : (List (Int × ((List UInt8) × ((List UInt8) × ((List UInt8) × (Int × Unit)))))) → Option R) (v4 : (List (Int × ((List UInt8) × ((List UInt8) × ((List UInt8) × (Int × Unit))))))) (v5 : Int) (v6 : (List (Int × ((List UInt8) × ((List UInt8) × ((List UInt8) × (Int × Unit))))))) (v7 : Int) : Option R :=
  (bif (decide (v7 < (v4.length : Int))) then
  (Option.bind (nth v4 v7) fun (v8 : (Int × ((List UInt8) × ((List UInt8) × ((List UInt8) × (Int × Unit)))))) =>
  (bif (!(decide (v8.1 = v5))) then
  (Option.bind (nth v4 v7) fun (v9 : (Int × ((List UInt8) × ((List UInt8) × ((List UInt8) × (Int × Unit)))))) =>
  (bif (room 64 (v6.length + ([(v9.1, (v9.2.1, (v9.2.2.1, (v9.2.2.2.1, (v9.2.2.2.2.1, ())))))] : (List (Int × ((List UInt8) × ((List UInt8) × ((List UInt8) × (Int × Unit))))))).length)) then
  (rec v4 v5 (v6 ++ ([(v9.1, (v9.2.1, (v9.2.2.1, (v9.2.2.2.1, (v9.2.2.2.2.1, ())))))] : (List (Int × ((List UInt8) × ((List UInt8) × ((List UInt8) × (Int × Unit)))))))) (IntKind.wrap .i64 (v7 + 1)))
  else
  none))
  else
  (rec v4 v5 v6 (IntKind.wrap .i64 (v7 + 1)))))
  else
  (k0 v6))

def ref09_without_1_l0 (N : Nat) (R : Type) (k0 : (List (Int × ((List UInt8) × ((List UInt8) × ((List UInt8) × (Int × Unit)))))) → Option R) : Nat → (List (Int × ((List UInt8) × ((List UInt8) × ((List UInt8) × (Int × Unit)))))) → Int → (List (Int × ((List UInt8) × ((List UInt8) × ((List UInt8) × (Int × Unit)))))) → Int → Option R
  | 0 => fun _ _ _ _ => none
  | n + 1 => ref09_without_1_l0B N R (ref09_without_1_l0 N R k0 n) k0

def ref09_without_1_cps (N : Nat) (R : Type) (K : (List (Int × ((List UInt8) × ((List UInt8) × ((List UInt8) × (Int × Unit)))))) → Option R) (v1 : (List (Int × ((List UInt8) × ((List UInt8) × ((List UInt8) × (Int × Unit))))))) (v2 : Int) : Option R :=
  (ref09_without_1_l0 N _ (fun (v3 : (List (Int × ((List UInt8) × ((List UInt8) × ((List UInt8) × (Int × Unit))))))) =>
  (K v3)) N v1 v2 [] 0)

def ref09_without_1 (N : Nat) (v1 : (List (Int × ((List UInt8) × ((List UInt8) × ((List UInt8) × (Int × Unit))))))) (v2 : Int) : Option ((List (Int × ((List UInt8) × ((List UInt8) × ((List UInt8) × (Int × Unit)))))) × Unit) := ref09_without_1_cps N _ (fun a0 => some (a0, ())) v1 v2

/-! (*frankpledge/frankpledgeref09.Locks).Drop -/
def ref09_Locks_Drop_1_cps (N : Nat) (R : Type) (K : (List Int) → (List (Int × ((List UInt8) × ((List UInt8) × ((List UInt8) × (Int × Unit)))))) → (List (Int × ((List UInt8) × ((List UInt8) × ((List UInt8) × (Int × Unit)))))) → Option R) (v1 : Int) (v2 : (List (Int × ((List UInt8) × ((List UInt8) × ((List UInt8) × (Int × Unit))))))) (v3 : (List (Int × ((List UInt8) × ((List UInt8) × ((List UInt8) × (Int × Unit))))))) : Option R :=
  (Option.bind (ref09_without_1 N v2 v1) fun (v4 : (List (Int × ((List UInt8) × ((List UInt8) × ((List UInt8) × (Int × Unit)))))) × Unit) =>
  (Option.bind (ref09_without_1 N v3 v1) fun (v5 : (List (Int × ((List UInt8) × ((List UInt8) × ((List UInt8) × (Int × Unit)))))) × Unit) =>
  (Option.bind (ref09_Locks_look N v4.1 v5.1) fun (v6 : (List Int) × (List (Int × ((List UInt8) × ((List UInt8) × ((List UInt8) × (Int × Unit)))))) × (List (Int × ((List UInt8) × ((List UInt8) × ((List UInt8) × (Int × Unit)))))) × Unit) =>
  (K v6.1 v6.2.1 v6.2.2.1))))

def ref09_Locks_Drop_1 (N : Nat) (v1 : Int) (v2 : (List (Int × ((List UInt8) × ((List UInt8) × ((List UInt8) × (Int × Unit))))))) (v3 : (List (Int × ((List UInt8) × ((List UInt8) × ((List UInt8) × (Int × Unit))))))) : Option ((List Int) × (List (Int × ((List UInt8) × ((List UInt8) × ((List UInt8) × (Int × Unit)))))) × (List (Int × ((List UInt8) × ((List UInt8) × ((List UInt8) × (Int × Unit)))))) × Unit) := ref09_Locks_Drop_1_cps N _ (fun a0 a1 a2 => some (a0, (a1, (a2, ())))) v1 v2 v3

/-! (*frankpledge/frankpledgeref09.Locks).Cancel -/
def ref09_Locks_Cancel_1_cps (N : Nat) (R : Type) (K : (List Int) → (List (Int × ((List UInt8) × ((List UInt8) × ((List UInt8) × (Int × Unit)))))) → (List (Int × ((List UInt8) × ((List UInt8) × ((List UInt8) × (Int × Unit)))))) → Option R) (v1 : Int) (v2 : (List (Int × ((List UInt8) × ((List UInt8) × ((List UInt8) × (Int × Unit))))))) (v3 : (List (Int × ((List UInt8) × ((List UInt8) × ((List UInt8) × (Int × Unit))))))) : Option R :=
  (Option.bind (ref09_without_1 N v3 v1) fun (v4 : (List (Int × ((List UInt8) × ((List UInt8) × ((List UInt8) × (Int × Unit)))))) × Unit) =>
  (Option.bind (ref09_Locks_look N v2 v4.1) fun (v5 : (List Int) × (List (Int × ((List UInt8) × ((List UInt8) × ((List UInt8) × (Int × Unit)))))) × (List (Int × ((List UInt8) × ((List UInt8) × ((List UInt8) × (Int × Unit)))))) × Unit) =>
  (K v5.1 v5.2.1 v5.2.2.1)))

def ref09_Locks_Cancel_1 (N : Nat) (v1 : Int) (v2 : (List (Int × ((List UInt8) × ((List UInt8) × ((List UInt8) × (Int × Unit))))))) (v3 : (List (Int × ((List UInt8) × ((List UInt8) × ((List UInt8) × (Int × Unit))))))) : Option ((List Int) × (List (Int × ((List UInt8) × ((List UInt8) × ((List UInt8) × (Int × Unit)))))) × (List (Int × ((List UInt8) × ((List UInt8) × ((List UInt8) × (Int × Unit)))))) × Unit) := ref09_Locks_Cancel_1_cps N _ (fun a0 a1 a2 => some (a0, (a1, (a2, ())))) v1 v2 v3

/-! frankpledge/frankpledgelaw09.LockPlays -/
def law09_LockPlays_l4B (N : Nat) (R : Type) (v107 : (List (Int × ((List UInt8) × ((List UInt8) × ((List UInt8) × (Int × Unit))))))) (v108 : (List (Int × ((List UInt8) × ((List UInt8) × ((List UInt8) × (Int × Unit))))))) (rec : (List (Int × ((Int × ((List UInt8) × ((List UInt8) × ((List UInt8) × (Int × Unit))))) × Unit))) → Int → Int → (List (Int × ((List UInt8) × ((List UInt8) × ((List UInt8) × (Int × Unit)))))) → (List (Int × ((List UInt8) × ((List UInt8) × ((List UInt8) × (Int × Unit)))))) → Option R) (k0 : (List (Int × ((Int × ((List UInt8) × ((List UInt8) × ((List UInt8) × (Int × Unit))))) × Unit))) → Int → (List (Int × ((List UInt8) × ((List UInt8) × ((List UInt8) × (Int × Unit)))))) → (List (Int × ((List UInt8) × ((List UInt8) × ((List UInt8) × (Int × Unit)))))) → Option R) (k1 : (List (Int × ((Int × ((List UInt8) × ((List UInt8) × ((List UInt8) × (Int × Unit))))) × Unit))) → Bool → Int → (List (Int × ((List UInt8) × ((List UInt8) × ((List UInt8) × (Int × Unit)))))) → (List (Int × ((List UInt8) × ((List UInt8) × ((List UInt8) × (Int × Unit)))))) → Option R) (v102 : (List (Int × ((Int × ((List UInt8) × ((List UInt8) × ((List UInt8) × (Int × Unit))))) × Unit)))) (v103 : Int) (v104 : Int) (v105 : (List (Int × ((List UInt8) × ((List UInt8) × ((List UInt8) × (Int × Unit))))))) (v106 : (List (Int × ((List UInt8) × ((List UInt8) × ((List UInt8) × (Int × Unit))))))) : Option R :=
  (bif (decide (v104 ≤ v103)) then
  (Option.bind (nth v102 v104) fun (v109 : (Int × ((Int × ((List UInt8) × ((List UInt8) × ((List UInt8) × (Int × Unit))))) × Unit))) =>
  (Option.bind (lock_Locks_Granted N v109.2.1.1 v107 v108) fun (v110 : (List (Int × ((List UInt8) × ((List UInt8) × ((List UInt8) × (Int × Unit)))))) × Unit) =>
  (Option.bind (law09_all N v110.1) fun (v111 : (List (Int × ((List UInt8) × ((List UInt8) × ((List UInt8) × (Int × Unit)))))) × Unit) =>
  (Option.bind (ref09_Locks_Granted N v109.2.1.1 v105 v106) fun (v112 : (List (Int × ((List UInt8) × ((List UInt8) × ((List UInt8) × (Int × Unit)))))) × (List (Int × ((List UInt8) × ((List UInt8) × ((List UInt8) × (Int × Unit)))))) × (List (Int × ((List UInt8) × ((List UInt8) × ((List UInt8) × (Int × Unit)))))) × Unit) =>
  (Option.bind (ref09_Same N v111.1 v112.1) fun (v113 : Bool × Unit) =>
  (bif (!v113.1) then
  (k1 v102 false v103 v112.2.1 v112.2.2.1)
  else
  (rec v102 v103 (IntKind.wrap .i64 (v104 + 1)) v112.2.1 v112.2.2.1)))))))
  else
  (k0 v102 v103 v105 v106))

def law09_LockPlays_l4 (N : Nat) (R : Type) (v107 : (List (Int × ((List UInt8) × ((List UInt8) × ((List UInt8) × (Int × Unit))))))) (v108 : (List (Int × ((List UInt8) × ((List UInt8) × ((List UInt8) × (Int × Unit))))))) (k0 : (List (Int × ((Int × ((List UInt8) × ((List UInt8) × ((List UInt8) × (Int × Unit))))) × Unit))) → Int → (List (Int × ((List UInt8) × ((List UInt8) × ((List UInt8) × (Int × Unit)))))) → (List (Int × ((List UInt8) × ((List UInt8) × ((List UInt8) × (Int × Unit)))))) → Option R) (k1 : (List (Int × ((Int × ((List UInt8) × ((List UInt8) × ((List UInt8) × (Int × Unit))))) × Unit))) → Bool → Int → (List (Int × ((List UInt8) × ((List UInt8) × ((List UInt8) × (Int × Unit)))))) → (List (Int × ((List UInt8) × ((List UInt8) × ((List UInt8) × (Int × Unit)))))) → Option R) : Nat → (List (Int × ((Int × ((List UInt8) × ((List UInt8) × ((List UInt8) × (Int × Unit))))) × Unit))) → Int → Int → (List (Int × ((List UInt8) × ((List UInt8) × ((List UInt8) × (Int × Unit)))))) → (List (Int × ((List UInt8) × ((List UInt8) × ((List UInt8) × (Int × Unit)))))) → Option R
  | 0 => fun _ _ _ _ _ => none
  | n + 1 => law09_LockPlays_l4B N R v107 v108 (law09_LockPlays_l4 N R v107 v108 k0 k1 n) k0 k1

def law09_LockPlays_l3B (N : Nat) (R : Type) (v96 : (List (Int × ((List UInt8) × ((List UInt8) × ((List UInt8) × (Int × Unit))))))) (v97 : (List (Int × ((List UInt8) × ((List UInt8) × ((List UInt8) × (Int × Unit))))))) (v98 : (List (Int × ((List UInt8) × ((List UInt8) × ((List UInt8) × (Int × Unit))))))) (v99 : (List (Int × ((List UInt8) × ((List UInt8) × ((List UInt8) × (Int × Unit))))))) (rec : (List (Int × ((Int × ((List UInt8) × ((List UInt8) × ((List UInt8) × (Int × Unit))))) × Unit))) → Int → (List Int) → (List Int) → Int → Option R) (k0 : (List (Int × ((Int × ((List UInt8) × ((List UInt8) × ((List UInt8) × (Int × Unit))))) × Unit))) → Int → Option R) (k1 : (List (Int × ((Int × ((List UInt8) × ((List UInt8) × ((List UInt8) × (Int × Unit))))) × Unit))) → Bool → Int → Option R) (v91 : (List (Int × ((Int × ((List UInt8) × ((List UInt8) × ((List UInt8) × (Int × Unit))))) × Unit)))) (v92 : Int) (v93 : (List Int)) (v94 : (List Int)) (v95 : Int) : Option R :=
  (bif (decide (v95 < (v93.length : Int))) then
  (Option.bind (nth v93 v95) fun (v100 : Int) =>
  (Option.bind (nth v94 v95) fun (v101 : Int) =>
  (bif (!(decide (v100 = v101))) then
  (k1 v91 false v92)
  else
  (rec v91 v92 v93 v94 (IntKind.wrap .i64 (v95 + 1))))))
  else
  (k0 v91 v92))

def law09_LockPlays_l3 (N : Nat) (R : Type) (v96 : (List (Int × ((List UInt8) × ((List UInt8) × ((List UInt8) × (Int × Unit))))))) (v97 : (List (Int × ((List UInt8) × ((List UInt8) × ((List UInt8) × (Int × Unit))))))) (v98 : (List (Int × ((List UInt8) × ((List UInt8) × ((List UInt8) × (Int × Unit))))))) (v99 : (List (Int × ((List UInt8) × ((List UInt8) × ((List UInt8) × (Int × Unit))))))) (k0 : (List (Int × ((Int × ((List UInt8) × ((List UInt8) × ((List UInt8) × (Int × Unit))))) × Unit))) → Int → Option R) (k1 : (List (Int × ((Int × ((List UInt8) × ((List UInt8) × ((List UInt8) × (Int × Unit))))) × Unit))) → Bool → Int → Option R) : Nat → (List (Int × ((Int × ((List UInt8) × ((List UInt8) × ((List UInt8) × (Int × Unit))))) × Unit))) → Int → (List Int) → (List Int) → Int → Option R
  | 0 => fun _ _ _ _ _ => none
  | n + 1 => law09_LockPlays_l3B N R v96 v97 v98 v99 (law09_LockPlays_l3 N R v96 v97 v98 v99 k0 k1 n) k0 k1

def law09_LockPlays_j2 (N : Nat) (R : Type) (v70 : (List (Int × ((List UInt8) × ((List UInt8) × ((List UInt8) × (Int × Unit))))))) (v71 : (List (Int × ((List UInt8) × ((List UInt8) × ((List UInt8) × (Int × Unit))))))) (v72 : (List (Int × ((List UInt8) × ((List UInt8) × ((List UInt8) × (Int × Unit))))))) (v73 : (List (Int × ((List UInt8) × ((List UInt8) × ((List UInt8) × (Int × Unit))))))) (k0 : (List (Int × ((Int × ((List UInt8) × ((List UInt8) × ((List UInt8) × (Int × Unit))))) × Unit))) → Int → (List (Int × ((List UInt8) × ((List UInt8) × ((List UInt8) × (Int × Unit)))))) → (List (Int × ((List UInt8) × ((List UInt8) × ((List UInt8) × (Int × Unit)))))) → Option R) (k1 : (List (Int × ((Int × ((List UInt8) × ((List UInt8) × ((List UInt8) × (Int × Unit))))) × Unit))) → Bool → Int → (List (Int × ((List UInt8) × ((List UInt8) × ((List UInt8) × (Int × Unit)))))) → (List (Int × ((List UInt8) × ((List UInt8) × ((List UInt8) × (Int × Unit)))))) → Option R) (v65 : (List (Int × ((Int × ((List UInt8) × ((List UInt8) × ((List UInt8) × (Int × Unit))))) × Unit)))) (v66 : Int) (v67 : Bool) (v68 : (List Int)) (v69 : (List Int)) : Option R :=
  (bif (!v67) then
  (k1 v65 false v66 v70 v71)
  else
  (bif (!(decide ((v68.length : Int) = (v69.length : Int)))) then
  (k1 v65 false v66 v70 v71)
  else
  (law09_LockPlays_l3 N _ v70 v71 v72 v73 (fun (v74 : (List (Int × ((Int × ((List UInt8) × ((List UInt8) × ((List UInt8) × (Int × Unit))))) × Unit)))) (v75 : Int) =>
  (Option.bind (lock_Locks_Waiting N v72 v73) fun (v76 : (List (Int × ((List UInt8) × ((List UInt8) × ((List UInt8) × (Int × Unit)))))) × Unit) =>
  (Option.bind (law09_all N v76.1) fun (v77 : (List (Int × ((List UInt8) × ((List UInt8) × ((List UInt8) × (Int × Unit)))))) × Unit) =>
  (Option.bind (ref09_Same N v77.1 v71) fun (v78 : Bool × Unit) =>
  (bif (!v78.1) then
  (k1 v74 false v75 v70 v71)
  else
  (law09_LockPlays_l4 N _ v72 v73 (fun (v79 : (List (Int × ((Int × ((List UInt8) × ((List UInt8) × ((List UInt8) × (Int × Unit))))) × Unit)))) (v80 : Int) (v81 : (List (Int × ((List UInt8) × ((List UInt8) × ((List UInt8) × (Int × Unit))))))) (v82 : (List (Int × ((List UInt8) × ((List UInt8) × ((List UInt8) × (Int × Unit))))))) =>
  (k0 v79 v80 v81 v82)) (fun (v83 : (List (Int × ((Int × ((List UInt8) × ((List UInt8) × ((List UInt8) × (Int × Unit))))) × Unit)))) (v84 : Bool) (v85 : Int) (v86 : (List (Int × ((List UInt8) × ((List UInt8) × ((List UInt8) × (Int × Unit))))))) (v87 : (List (Int × ((List UInt8) × ((List UInt8) × ((List UInt8) × (Int × Unit))))))) =>
  (k1 v83 v84 v85 v86 v87)) N v74 v75 0 v70 v71)))))) (fun (v88 : (List (Int × ((Int × ((List UInt8) × ((List UInt8) × ((List UInt8) × (Int × Unit))))) × Unit)))) (v89 : Bool) (v90 : Int) =>
  (k1 v88 v89 v90 v70 v71)) N v65 v66 v68 v69 0)))

def law09_LockPlays_l0B (N : Nat) (R : Type) (rec : (List (Int × ((Int × ((List UInt8) × ((List UInt8) × ((List UInt8) × (Int × Unit))))) × Unit))) → Int → (List (Int × ((List UInt8) × ((List UInt8) × ((List UInt8) × (Int × Unit)))))) → (List (Int × ((List UInt8) × ((List UInt8) × ((List UInt8) × (Int × Unit)))))) → (List (Int × ((List UInt8) × ((List UInt8) × ((List UInt8) × (Int × Unit)))))) → (List (Int × ((List UInt8) × ((List UInt8) × ((List UInt8) × (Int × Unit)))))) → Option R) (k0 : Option R) (k1 : Bool → Option R) (v5 : (List (Int × ((Int × ((List UInt8) × ((List UInt8) × ((List UInt8) × (Int × Unit))))) × Unit)))) (v6 : Int) (v7 : (List (Int × ((List UInt8) × ((List UInt8) × ((List UInt8) × (Int × Unit))))))) (v8 : (List (Int × ((List UInt8) × ((List UInt8) × ((List UInt8) × (Int × Unit))))))) (v9 : (List (Int × ((List UInt8) × ((List UInt8) × ((List UInt8) × (Int × Unit))))))) (v10 : (List (Int × ((List UInt8) × ((List UInt8) × ((List UInt8) × (Int × Unit))))))) : Option R :=
  (bif (decide (v6 < (v5.length : Int))) then
  (bif (decide (v6 < 60)) then
  (Option.bind (nth v5 v6) fun (v11 : (Int × ((Int × ((List UInt8) × ((List UInt8) × ((List UInt8) × (Int × Unit))))) × Unit))) =>
  (Option.bind (law09_short N v11.2.1.1 v11.2.1.2.1 v11.2.1.2.2.1 v11.2.1.2.2.2.1 v11.2.1.2.2.2.2.1) fun (v12 : Bool × Unit) =>
  (bif (!v12.1) then
  (rec v5 (IntKind.wrap .i64 (v6 + 1)) v7 v8 v9 v10)
  else
  (bif (decide (v11.1 = 1)) then
  (Option.bind (lock_Locks_Ask N v11.2.1.1 v11.2.1.2.1 v11.2.1.2.2.1 v11.2.1.2.2.2.1 v11.2.1.2.2.2.2.1 v9 v10) fun (v13 : Bool × Int × (List (Int × ((List UInt8) × ((List UInt8) × ((List UInt8) × (Int × Unit)))))) × (List (Int × ((List UInt8) × ((List UInt8) × ((List UInt8) × (Int × Unit)))))) × Unit) =>
  (Option.bind (law09_told N v11.2.1.1 v11.2.1.2.1 v11.2.1.2.2.1 v11.2.1.2.2.2.1 v11.2.1.2.2.2.2.1) fun (v14 : Int × (List UInt8) × (List UInt8) × (List UInt8) × Int × Unit) =>
  (Option.bind (ref09_Locks_Ask_1 N v14.1 v14.2.1 v14.2.2.1 v14.2.2.2.1 v14.2.2.2.2.1 v7 v8) fun (v15 : Bool × Int × (List (Int × ((List UInt8) × ((List UInt8) × ((List UInt8) × (Int × Unit)))))) × (List (Int × ((List UInt8) × ((List UInt8) × ((List UInt8) × (Int × Unit)))))) × Unit) =>
  (bif (v13.1 == v15.1) then
  (law09_LockPlays_j2 N _ v15.2.2.1 v15.2.2.2.1 v13.2.2.1 v13.2.2.2.1 (fun (v16 : (List (Int × ((Int × ((List UInt8) × ((List UInt8) × ((List UInt8) × (Int × Unit))))) × Unit)))) (v17 : Int) (v18 : (List (Int × ((List UInt8) × ((List UInt8) × ((List UInt8) × (Int × Unit))))))) (v19 : (List (Int × ((List UInt8) × ((List UInt8) × ((List UInt8) × (Int × Unit))))))) =>
  (rec v16 (IntKind.wrap .i64 (v17 + 1)) v18 v19 v13.2.2.1 v13.2.2.2.1)) (fun (v20 : (List (Int × ((Int × ((List UInt8) × ((List UInt8) × ((List UInt8) × (Int × Unit))))) × Unit)))) (v21 : Bool) (v22 : Int) (v23 : (List (Int × ((List UInt8) × ((List UInt8) × ((List UInt8) × (Int × Unit))))))) (v24 : (List (Int × ((List UInt8) × ((List UInt8) × ((List UInt8) × (Int × Unit))))))) =>
  (k1 v21)) v5 v6 (decide (v13.2.1 = v15.2.1)) [] [])
  else
  (law09_LockPlays_j2 N _ v15.2.2.1 v15.2.2.2.1 v13.2.2.1 v13.2.2.2.1 (fun (v25 : (List (Int × ((Int × ((List UInt8) × ((List UInt8) × ((List UInt8) × (Int × Unit))))) × Unit)))) (v26 : Int) (v27 : (List (Int × ((List UInt8) × ((List UInt8) × ((List UInt8) × (Int × Unit))))))) (v28 : (List (Int × ((List UInt8) × ((List UInt8) × ((List UInt8) × (Int × Unit))))))) =>
  (rec v25 (IntKind.wrap .i64 (v26 + 1)) v27 v28 v13.2.2.1 v13.2.2.2.1)) (fun (v29 : (List (Int × ((Int × ((List UInt8) × ((List UInt8) × ((List UInt8) × (Int × Unit))))) × Unit)))) (v30 : Bool) (v31 : Int) (v32 : (List (Int × ((List UInt8) × ((List UInt8) × ((List UInt8) × (Int × Unit))))))) (v33 : (List (Int × ((List UInt8) × ((List UInt8) × ((List UInt8) × (Int × Unit))))))) =>
  (k1 v30)) v5 v6 false [] [])))))
  else
  (bif (decide (v11.1 = 2)) then
  (Option.bind (lock_Locks_Drop N v11.2.1.1 v9 v10) fun (v34 : (List Int) × (List (Int × ((List UInt8) × ((List UInt8) × ((List UInt8) × (Int × Unit)))))) × (List (Int × ((List UInt8) × ((List UInt8) × ((List UInt8) × (Int × Unit)))))) × Unit) =>
  (Option.bind (ref09_Locks_Drop_1 N v11.2.1.1 v7 v8) fun (v35 : (List Int) × (List (Int × ((List UInt8) × ((List UInt8) × ((List UInt8) × (Int × Unit)))))) × (List (Int × ((List UInt8) × ((List UInt8) × ((List UInt8) × (Int × Unit)))))) × Unit) =>
  (law09_LockPlays_j2 N _ v35.2.1 v35.2.2.1 v34.2.1 v34.2.2.1 (fun (v36 : (List (Int × ((Int × ((List UInt8) × ((List UInt8) × ((List UInt8) × (Int × Unit))))) × Unit)))) (v37 : Int) (v38 : (List (Int × ((List UInt8) × ((List UInt8) × ((List UInt8) × (Int × Unit))))))) (v39 : (List (Int × ((List UInt8) × ((List UInt8) × ((List UInt8) × (Int × Unit))))))) =>
  (rec v36 (IntKind.wrap .i64 (v37 + 1)) v38 v39 v34.2.1 v34.2.2.1)) (fun (v40 : (List (Int × ((Int × ((List UInt8) × ((List UInt8) × ((List UInt8) × (Int × Unit))))) × Unit)))) (v41 : Bool) (v42 : Int) (v43 : (List (Int × ((List UInt8) × ((List UInt8) × ((List UInt8) × (Int × Unit))))))) (v44 : (List (Int × ((List UInt8) × ((List UInt8) × ((List UInt8) × (Int × Unit))))))) =>
  (k1 v41)) v5 v6 true v34.1 v35.1)))
  else
  (bif (decide (v11.1 = 3)) then
  (Option.bind (lock_Locks_Cancel N v11.2.1.1 v9 v10) fun (v45 : (List Int) × (List (Int × ((List UInt8) × ((List UInt8) × ((List UInt8) × (Int × Unit)))))) × (List (Int × ((List UInt8) × ((List UInt8) × ((List UInt8) × (Int × Unit)))))) × Unit) =>
  (Option.bind (ref09_Locks_Cancel_1 N v11.2.1.1 v7 v8) fun (v46 : (List Int) × (List (Int × ((List UInt8) × ((List UInt8) × ((List UInt8) × (Int × Unit)))))) × (List (Int × ((List UInt8) × ((List UInt8) × ((List UInt8) × (Int × Unit)))))) × Unit) =>
  (law09_LockPlays_j2 N _ v46.2.1 v46.2.2.1 v45.2.1 v45.2.2.1 (fun (v47 : (List (Int × ((Int × ((List UInt8) × ((List UInt8) × ((List UInt8) × (Int × Unit))))) × Unit)))) (v48 : Int) (v49 : (List (Int × ((List UInt8) × ((List UInt8) × ((List UInt8) × (Int × Unit))))))) (v50 : (List (Int × ((List UInt8) × ((List UInt8) × ((List UInt8) × (Int × Unit))))))) =>
  (rec v47 (IntKind.wrap .i64 (v48 + 1)) v49 v50 v45.2.1 v45.2.2.1)) (fun (v51 : (List (Int × ((Int × ((List UInt8) × ((List UInt8) × ((List UInt8) × (Int × Unit))))) × Unit)))) (v52 : Bool) (v53 : Int) (v54 : (List (Int × ((List UInt8) × ((List UInt8) × ((List UInt8) × (Int × Unit))))))) (v55 : (List (Int × ((List UInt8) × ((List UInt8) × ((List UInt8) × (Int × Unit))))))) =>
  (k1 v52)) v5 v6 true v45.1 v46.1)))
  else
  (law09_LockPlays_j2 N _ v7 v8 v9 v10 (fun (v56 : (List (Int × ((Int × ((List UInt8) × ((List UInt8) × ((List UInt8) × (Int × Unit))))) × Unit)))) (v57 : Int) (v58 : (List (Int × ((List UInt8) × ((List UInt8) × ((List UInt8) × (Int × Unit))))))) (v59 : (List (Int × ((List UInt8) × ((List UInt8) × ((List UInt8) × (Int × Unit))))))) =>
  (rec v56 (IntKind.wrap .i64 (v57 + 1)) v58 v59 v9 v10)) (fun (v60 : (List (Int × ((Int × ((List UInt8) × ((List UInt8) × ((List UInt8) × (Int × Unit))))) × Unit)))) (v61 : Bool) (v62 : Int) (v63 : (List (Int × ((List UInt8) × ((List UInt8) × ((List UInt8) × (Int × Unit))))))) (v64 : (List (Int × ((List UInt8) × ((List UInt8) × ((List UInt8) × (Int × Unit))))))) =>
  (k1 v61)) v5 v6 true [] [])))))))
  else
  k0)
  else
  k0)

def law09_LockPlays_l0 (N : Nat) (R : Type) (k0 : Option R) (k1 : Bool → Option R) : Nat → (List (Int × ((Int × ((List UInt8) × ((List UInt8) × ((List UInt8) × (Int × Unit))))) × Unit))) → Int → (List (Int × ((List UInt8) × ((List UInt8) × ((List UInt8) × (Int × Unit)))))) → (List (Int × ((List UInt8) × ((List UInt8) × ((List UInt8) × (Int × Unit)))))) → (List (Int × ((List UInt8) × ((List UInt8) × ((List UInt8) × (Int × Unit)))))) → (List (Int × ((List UInt8) × ((List UInt8) × ((List UInt8) × (Int × Unit)))))) → Option R
  | 0 => fun _ _ _ _ _ _ => none
  | n + 1 => law09_LockPlays_l0B N R (law09_LockPlays_l0 N R k0 k1 n) k0 k1

def law09_LockPlays_cps (N : Nat) (R : Type) (K : Bool → Option R) (v1 : (List (Int × ((Int × ((List UInt8) × ((List UInt8) × ((List UInt8) × (Int × Unit))))) × Unit)))) : Option R :=
  (Option.bind (lock_New N) fun (v2 : (List (Int × ((List UInt8) × ((List UInt8) × ((List UInt8) × (Int × Unit)))))) × (List (Int × ((List UInt8) × ((List UInt8) × ((List UInt8) × (Int × Unit)))))) × Unit) =>
  (law09_LockPlays_l0 N _ ((Option.bind (law09_alive N) fun (v3 : Bool × Unit) =>
  (K v3.1))) (fun (v4 : Bool) =>
  (K v4)) N v1 0 [] [] v2.1 v2.2.1))

def law09_LockPlays (N : Nat) (v1 : (List (Int × ((Int × ((List UInt8) × ((List UInt8) × ((List UInt8) × (Int × Unit))))) × Unit)))) : Option (Bool × Unit) := law09_LockPlays_cps N _ (fun a0 => some (a0, ())) v1

/-- What is to be shown of the law LockPlays. -/
def LockPlays_Pure : Prop := ∀ x : denA [(.slice (.pair (.int .i64) (.pair (.pair (.int .i64) (.pair .str (.pair (.slice .byte) (.pair (.slice .byte) (.pair (.int .i64) .unit))))) .unit)))], WfA [(.slice (.pair (.int .i64) (.pair (.pair (.int .i64) (.pair .str (.pair (.slice .byte) (.pair (.slice .byte) (.pair (.int .i64) .unit))))) .unit)))] x → law09_LockPlays big x.1 = some (true, ())

end
end Go.Proofs.Ytkeejnlicagjiab.E
