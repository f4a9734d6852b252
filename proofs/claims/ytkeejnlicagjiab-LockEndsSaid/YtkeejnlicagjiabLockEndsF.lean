/-
  The statement LockEnds of the program is proved: for every input that the row speaks of, the law answers true.
  Conditions: those that the statement's row prints, and no other. This text: pure functions, printed by a program out of the translation.
-/
import Derived.Test.YtkeejnlicagjiabEvA
import Derived.Lib.Bytealg
set_option linter.unusedVariables false
set_option linter.unusedSimpArgs false
/-! Pure functions, printed by wip/gen out of the translation. -/
namespace Go.Proofs.Ytkeejnlicagjiab.E
open Go.Ev
noncomputable section
/-! frankpledge/frankpledgelaw09.short -/
def law09_short_cps (N : Nat) (R : Type) (K : Bool → Option R) (v1 : Int) (v2 : (List UInt8)) (v3 : (List UInt8)) (v4 : (List UInt8)) (v5 : Int) : Option R :=
  (bif (decide ((v3.length : Int) ≤ 40)) then
  (bif (decide ((v4.length : Int) ≤ 40)) then
  (K (decide ((v2.length : Int) ≤ 40)))
  else
  (K false))
  else
  (K false))

def law09_short (N : Nat) (v1 : Int) (v2 : (List UInt8)) (v3 : (List UInt8)) (v4 : (List UInt8)) (v5 : Int) : Option (Bool × Unit) := law09_short_cps N _ (fun a0 => some (a0, ())) v1 v2 v3 v4 v5

/-! frankpledge/lock.New -/
def lock_New_cps (N : Nat) (R : Type) (K : (List (Int × ((List UInt8) × ((List UInt8) × ((List UInt8) × (Int × Unit)))))) → (List (Int × ((List UInt8) × ((List UInt8) × ((List UInt8) × (Int × Unit)))))) → Option R)  : Option R :=
  (K [] [])

def lock_New (N : Nat)  : Option ((List (Int × ((List UInt8) × ((List UInt8) × ((List UInt8) × (Int × Unit)))))) × (List (Int × ((List UInt8) × ((List UInt8) × ((List UInt8) × (Int × Unit)))))) × Unit) := lock_New_cps N _ (fun a0 a1 => some (a0, (a1, ()))) 

/-! internal/bytealg.Compare -/
def bytealg_Compare_cps (N : Nat) (R : Type) (K : Int → Option R) (v1 : (List UInt8)) (v2 : (List UInt8)) : Option R :=
  (K (Lib.compareBytes v1 v2))

def bytealg_Compare (N : Nat) (v1 : (List UInt8)) (v2 : (List UInt8)) : Option (Int × Unit) := bytealg_Compare_cps N _ (fun a0 => some (a0, ())) v1 v2

/-! bytes.Compare -/
def bytes_Compare_cps (N : Nat) (R : Type) (K : Int → Option R) (v1 : (List UInt8)) (v2 : (List UInt8)) : Option R :=
  (Option.bind (bytealg_Compare N v1 v2) fun (v3 : Int × Unit) =>
  (K v3.1))

def bytes_Compare (N : Nat) (v1 : (List UInt8)) (v2 : (List UInt8)) : Option (Int × Unit) := bytes_Compare_cps N _ (fun a0 => some (a0, ())) v1 v2

/-! frankpledge/lock.ahead -/
def lock_ahead_cps (N : Nat) (R : Type) (K : Bool → Option R) (v1 : (List UInt8)) (v2 : (List UInt8)) : Option R :=
  (bif (decide ((v2.length : Int) = 0)) then
  (K true)
  else
  (Option.bind (bytes_Compare N v1 v2) fun (v3 : Int × Unit) =>
  (K (decide (v3.1 < 0)))))

def lock_ahead (N : Nat) (v1 : (List UInt8)) (v2 : (List UInt8)) : Option (Bool × Unit) := lock_ahead_cps N _ (fun a0 => some (a0, ())) v1 v2

/-! (frankpledge/lock.Lock).right -/
def lock_Lock_right_cps (N : Nat) (R : Type) (K : Bool → Option R) (v1 : Int) (v2 : (List UInt8)) (v3 : (List UInt8)) (v4 : (List UInt8)) (v5 : Int) : Option R :=
  (bif (decide (v5 = 1)) then
  (Option.bind (lock_ahead N v3 v4) fun (v6 : Bool × Unit) =>
  (K v6.1))
  else
  (bif (decide (v5 = 2)) then
  (Option.bind (lock_ahead N v3 v4) fun (v7 : Bool × Unit) =>
  (K v7.1))
  else
  (K false)))

def lock_Lock_right (N : Nat) (v1 : Int) (v2 : (List UInt8)) (v3 : (List UInt8)) (v4 : (List UInt8)) (v5 : Int) : Option (Bool × Unit) := lock_Lock_right_cps N _ (fun a0 => some (a0, ())) v1 v2 v3 v4 v5

/-! (*frankpledge/lock.Locks).Ask$1 -/
def lock_Locks_Ask_c1_cps (N : Nat) (R : Type) (K : Bool → Option R) (v1 : Int) (v2 : (List UInt8)) (v3 : (List UInt8)) (v4 : (List UInt8)) (v5 : Int) (v6 : Int) (v7 : (List UInt8)) (v8 : (List UInt8)) (v9 : (List UInt8)) (v10 : Int) : Option R :=
  (K (decide (v1 = v6)))

def lock_Locks_Ask_c1 (N : Nat) (v1 : Int) (v2 : (List UInt8)) (v3 : (List UInt8)) (v4 : (List UInt8)) (v5 : Int) (v6 : Int) (v7 : (List UInt8)) (v8 : (List UInt8)) (v9 : (List UInt8)) (v10 : Int) : Option (Bool × Unit) := lock_Locks_Ask_c1_cps N _ (fun a0 => some (a0, ())) v1 v2 v3 v4 v5 v6 v7 v8 v9 v10

/-! slices.IndexFunc[[]frankpledge/lock.Lock,frankpledge/lock.Lock] -/
def slices_IndexFunc_lock_Lock_lock_Lock_l0B (N : Nat) (R : Type) (v10 : (List (Int × ((List UInt8) × ((List UInt8) × ((List UInt8) × (Int × Unit))))))) (v11 : Int) (v12 : (List UInt8)) (v13 : (List UInt8)) (v14 : (List UInt8)) (v15 : Int) (rec : Int → Int → Option R) (k0 : Option R) (k1 : Int → Option R) (v8 : Int) (v9 : Int) : Option R :=
  (bif (decide (v9 < v8)) then
  (Option.bind (nth v10 v9) fun (_ : (Int × ((List UInt8) × ((List UInt8) × ((List UInt8) × (Int × Unit)))))) =>
  (Option.bind (v10[(Int.toNat v9)]?) fun (v16 : (Int × ((List UInt8) × ((List UInt8) × ((List UInt8) × (Int × Unit)))))) =>
  (Option.bind (lock_Locks_Ask_c1 N v16.1 v16.2.1 v16.2.2.1 v16.2.2.2.1 v16.2.2.2.2.1 v11 v12 v13 v14 v15) fun (v17 : Bool × Unit) =>
  (bif v17.1 then
  (k1 v9)
  else
  (rec v8 (IntKind.wrap .i64 (v9 + 1)))))))
  else
  k0)

def slices_IndexFunc_lock_Lock_lock_Lock_l0 (N : Nat) (R : Type) (v10 : (List (Int × ((List UInt8) × ((List UInt8) × ((List UInt8) × (Int × Unit))))))) (v11 : Int) (v12 : (List UInt8)) (v13 : (List UInt8)) (v14 : (List UInt8)) (v15 : Int) (k0 : Option R) (k1 : Int → Option R) : Nat → Int → Int → Option R
  | 0 => fun _ _ => none
  | n + 1 => slices_IndexFunc_lock_Lock_lock_Lock_l0B N R v10 v11 v12 v13 v14 v15 (slices_IndexFunc_lock_Lock_lock_Lock_l0 N R v10 v11 v12 v13 v14 v15 k0 k1 n) k0 k1

def slices_IndexFunc_lock_Lock_lock_Lock_cps (N : Nat) (R : Type) (K : Int → Option R) (v1 : (List (Int × ((List UInt8) × ((List UInt8) × ((List UInt8) × (Int × Unit))))))) (v2 : Int) (v3 : (List UInt8)) (v4 : (List UInt8)) (v5 : (List UInt8)) (v6 : Int) : Option R :=
  (slices_IndexFunc_lock_Lock_lock_Lock_l0 N _ v1 v2 v3 v4 v5 v6 ((K (-1))) (fun (v7 : Int) =>
  (K v7)) N (v1.length : Int) 0)

def slices_IndexFunc_lock_Lock_lock_Lock (N : Nat) (v1 : (List (Int × ((List UInt8) × ((List UInt8) × ((List UInt8) × (Int × Unit))))))) (v2 : Int) (v3 : (List UInt8)) (v4 : (List UInt8)) (v5 : (List UInt8)) (v6 : Int) : Option (Int × Unit) := slices_IndexFunc_lock_Lock_lock_Lock_cps N _ (fun a0 => some (a0, ())) v1 v2 v3 v4 v5 v6

/-! slices.ContainsFunc[[]frankpledge/lock.Lock,frankpledge/lock.Lock] -/
def slices_ContainsFunc_lock_Lock_lock_Lock_cps (N : Nat) (R : Type) (K : Bool → Option R) (v1 : (List (Int × ((List UInt8) × ((List UInt8) × ((List UInt8) × (Int × Unit))))))) (v2 : Int) (v3 : (List UInt8)) (v4 : (List UInt8)) (v5 : (List UInt8)) (v6 : Int) : Option R :=
  (Option.bind (slices_IndexFunc_lock_Lock_lock_Lock N v1 v2 v3 v4 v5 v6) fun (v7 : Int × Unit) =>
  (K (decide (0 ≤ v7.1))))

def slices_ContainsFunc_lock_Lock_lock_Lock (N : Nat) (v1 : (List (Int × ((List UInt8) × ((List UInt8) × ((List UInt8) × (Int × Unit))))))) (v2 : Int) (v3 : (List UInt8)) (v4 : (List UInt8)) (v5 : (List UInt8)) (v6 : Int) : Option (Bool × Unit) := slices_ContainsFunc_lock_Lock_lock_Lock_cps N _ (fun a0 => some (a0, ())) v1 v2 v3 v4 v5 v6

/-! (frankpledge/lock.Lock).covers -/
def lock_Lock_covers_cps (N : Nat) (R : Type) (K : Bool → Option R) (v1 : Int) (v2 : (List UInt8)) (v3 : (List UInt8)) (v4 : (List UInt8)) (v5 : Int) (v6 : Int) (v7 : (List UInt8)) (v8 : (List UInt8)) (v9 : (List UInt8)) (v10 : Int) : Option R :=
  (bif (!(decide (v1 = v6))) then
  (K false)
  else
  (bif (!(decide (v2 = v7))) then
  (K false)
  else
  (bif (!(decide (v5 = v10))) then
  (bif (!(decide (v5 = 2))) then
  (K false)
  else
  (Option.bind (bytes_Compare N v3 v8) fun (v11 : Int × Unit) =>
  (bif (decide (v11.1 ≤ 0)) then
  (bif (decide ((v4.length : Int) = 0)) then
  (K true)
  else
  (bif (decide (0 < (v9.length : Int))) then
  (Option.bind (bytes_Compare N v9 v4) fun (v12 : Int × Unit) =>
  (K (decide (v12.1 ≤ 0))))
  else
  (K false)))
  else
  (K false))))
  else
  (Option.bind (bytes_Compare N v3 v8) fun (v13 : Int × Unit) =>
  (bif (decide (v13.1 ≤ 0)) then
  (bif (decide ((v4.length : Int) = 0)) then
  (K true)
  else
  (bif (decide (0 < (v9.length : Int))) then
  (Option.bind (bytes_Compare N v9 v4) fun (v14 : Int × Unit) =>
  (K (decide (v14.1 ≤ 0))))
  else
  (K false)))
  else
  (K false))))))

def lock_Lock_covers (N : Nat) (v1 : Int) (v2 : (List UInt8)) (v3 : (List UInt8)) (v4 : (List UInt8)) (v5 : Int) (v6 : Int) (v7 : (List UInt8)) (v8 : (List UInt8)) (v9 : (List UInt8)) (v10 : Int) : Option (Bool × Unit) := lock_Lock_covers_cps N _ (fun a0 => some (a0, ())) v1 v2 v3 v4 v5 v6 v7 v8 v9 v10

/-! (*frankpledge/lock.Locks).Ask$2 -/
def lock_Locks_Ask_c2_cps (N : Nat) (R : Type) (K : Bool → Option R) (v1 : Int) (v2 : (List UInt8)) (v3 : (List UInt8)) (v4 : (List UInt8)) (v5 : Int) (v6 : Int) (v7 : (List UInt8)) (v8 : (List UInt8)) (v9 : (List UInt8)) (v10 : Int) : Option R :=
  (Option.bind (lock_Lock_covers N v1 v2 v3 v4 v5 v6 v7 v8 v9 v10) fun (v11 : Bool × Unit) =>
  (K v11.1))

def lock_Locks_Ask_c2 (N : Nat) (v1 : Int) (v2 : (List UInt8)) (v3 : (List UInt8)) (v4 : (List UInt8)) (v5 : Int) (v6 : Int) (v7 : (List UInt8)) (v8 : (List UInt8)) (v9 : (List UInt8)) (v10 : Int) : Option (Bool × Unit) := lock_Locks_Ask_c2_cps N _ (fun a0 => some (a0, ())) v1 v2 v3 v4 v5 v6 v7 v8 v9 v10

/-! slices.IndexFunc[[]frankpledge/lock.Lock,frankpledge/lock.Lock] -/
def slices_IndexFunc_lock_Lock_lock_Lock_1_l0B (N : Nat) (R : Type) (v10 : (List (Int × ((List UInt8) × ((List UInt8) × ((List UInt8) × (Int × Unit))))))) (v11 : Int) (v12 : (List UInt8)) (v13 : (List UInt8)) (v14 : (List UInt8)) (v15 : Int) (rec : Int → Int → Option R) (k0 : Option R) (k1 : Int → Option R) (v8 : Int) (v9 : Int) : Option R :=
  (bif (decide (v9 < v8)) then
  (Option.bind (nth v10 v9) fun (_ : (Int × ((List UInt8) × ((List UInt8) × ((List UInt8) × (Int × Unit)))))) =>
  (Option.bind (v10[(Int.toNat v9)]?) fun (v16 : (Int × ((List UInt8) × ((List UInt8) × ((List UInt8) × (Int × Unit)))))) =>
  (Option.bind (lock_Locks_Ask_c2 N v16.1 v16.2.1 v16.2.2.1 v16.2.2.2.1 v16.2.2.2.2.1 v11 v12 v13 v14 v15) fun (v17 : Bool × Unit) =>
  (bif v17.1 then
  (k1 v9)
  else
  (rec v8 (IntKind.wrap .i64 (v9 + 1)))))))
  else
  k0)

def slices_IndexFunc_lock_Lock_lock_Lock_1_l0 (N : Nat) (R : Type) (v10 : (List (Int × ((List UInt8) × ((List UInt8) × ((List UInt8) × (Int × Unit))))))) (v11 : Int) (v12 : (List UInt8)) (v13 : (List UInt8)) (v14 : (List UInt8)) (v15 : Int) (k0 : Option R) (k1 : Int → Option R) : Nat → Int → Int → Option R
  | 0 => fun _ _ => none
  | n + 1 => slices_IndexFunc_lock_Lock_lock_Lock_1_l0B N R v10 v11 v12 v13 v14 v15 (slices_IndexFunc_lock_Lock_lock_Lock_1_l0 N R v10 v11 v12 v13 v14 v15 k0 k1 n) k0 k1

def slices_IndexFunc_lock_Lock_lock_Lock_1_cps (N : Nat) (R : Type) (K : Int → Option R) (v1 : (List (Int × ((List UInt8) × ((List UInt8) × ((List UInt8) × (Int × Unit))))))) (v2 : Int) (v3 : (List UInt8)) (v4 : (List UInt8)) (v5 : (List UInt8)) (v6 : Int) : Option R :=
  (slices_IndexFunc_lock_Lock_lock_Lock_1_l0 N _ v1 v2 v3 v4 v5 v6 ((K (-1))) (fun (v7 : Int) =>
  (K v7)) N (v1.length : Int) 0)

def slices_IndexFunc_lock_Lock_lock_Lock_1 (N : Nat) (v1 : (List (Int × ((List UInt8) × ((List UInt8) × ((List UInt8) × (Int × Unit))))))) (v2 : Int) (v3 : (List UInt8)) (v4 : (List UInt8)) (v5 : (List UInt8)) (v6 : Int) : Option (Int × Unit) := slices_IndexFunc_lock_Lock_lock_Lock_1_cps N _ (fun a0 => some (a0, ())) v1 v2 v3 v4 v5 v6

/-! slices.ContainsFunc[[]frankpledge/lock.Lock,frankpledge/lock.Lock] -/
def slices_ContainsFunc_lock_Lock_lock_Lock_1_cps (N : Nat) (R : Type) (K : Bool → Option R) (v1 : (List (Int × ((List UInt8) × ((List UInt8) × ((List UInt8) × (Int × Unit))))))) (v2 : Int) (v3 : (List UInt8)) (v4 : (List UInt8)) (v5 : (List UInt8)) (v6 : Int) : Option R :=
  (Option.bind (slices_IndexFunc_lock_Lock_lock_Lock_1 N v1 v2 v3 v4 v5 v6) fun (v7 : Int × Unit) =>
  (K (decide (0 ≤ v7.1))))

def slices_ContainsFunc_lock_Lock_lock_Lock_1 (N : Nat) (v1 : (List (Int × ((List UInt8) × ((List UInt8) × ((List UInt8) × (Int × Unit))))))) (v2 : Int) (v3 : (List UInt8)) (v4 : (List UInt8)) (v5 : (List UInt8)) (v6 : Int) : Option (Bool × Unit) := slices_ContainsFunc_lock_Lock_lock_Lock_1_cps N _ (fun a0 => some (a0, ())) v1 v2 v3 v4 v5 v6

/-! bytes.Clone -/
def bytes_Clone_cps (N : Nat) (R : Type) (K : (List UInt8) → Option R) (v1 : (List UInt8)) : Option R :=
  (bif (room 1 (([] : List UInt8).length + v1.length)) then
  (K ([] ++ v1))
  else
  none)

def bytes_Clone (N : Nat) (v1 : (List UInt8)) : Option ((List UInt8) × Unit) := bytes_Clone_cps N _ (fun a0 => some (a0, ())) v1

/-! bytes.Clone -/
def bytes_Clone_1_cps (N : Nat) (R : Type) (K : Option R)  : Option R :=
  K

def bytes_Clone_1 (N : Nat)  : Option (Unit) := bytes_Clone_1_cps N _ (some ()) 

/-! (frankpledge/lock.Lock).copied -/
def lock_Lock_copied_cps (N : Nat) (R : Type) (K : Int → (List UInt8) → (List UInt8) → (List UInt8) → Int → Option R) (v1 : Int) (v2 : (List UInt8)) (v3 : (List UInt8)) (v4 : (List UInt8)) (v5 : Int) : Option R :=
  (Option.bind (bytes_Clone N v3) fun (v6 : (List UInt8) × Unit) =>
  (Option.bind (bytes_Clone N v4) fun (v7 : (List UInt8) × Unit) =>
  (K v1 v2 v6.1 v7.1 v5)))

def lock_Lock_copied (N : Nat) (v1 : Int) (v2 : (List UInt8)) (v3 : (List UInt8)) (v4 : (List UInt8)) (v5 : Int) : Option (Int × (List UInt8) × (List UInt8) × (List UInt8) × Int × Unit) := lock_Lock_copied_cps N _ (fun a0 a1 a2 a3 a4 => some (a0, (a1, (a2, (a3, (a4, ())))))) v1 v2 v3 v4 v5

/-! frankpledge/lock.Clash -/
def lock_Clash_cps (N : Nat) (R : Type) (K : Bool → Option R) (v1 : Int) (v2 : (List UInt8)) (v3 : (List UInt8)) (v4 : (List UInt8)) (v5 : Int) (v6 : Int) (v7 : (List UInt8)) (v8 : (List UInt8)) (v9 : (List UInt8)) (v10 : Int) : Option R :=
  (bif (decide (v1 = v6)) then
  (K false)
  else
  (bif (!(decide (v2 = v7))) then
  (K false)
  else
  (bif (decide (v5 = 1)) then
  (bif (decide (v10 = 1)) then
  (K false)
  else
  (Option.bind (bytes_Compare N v8 v3) fun (v11 : Int × Unit) =>
  (bif (decide (0 < v11.1)) then
  (Option.bind (lock_ahead N v8 v4) fun (v12 : Bool × Unit) =>
  (bif v12.1 then
  (Option.bind (lock_ahead N v8 v9) fun (v13 : Bool × Unit) =>
  (K v13.1))
  else
  (K false)))
  else
  (Option.bind (lock_ahead N v3 v4) fun (v14 : Bool × Unit) =>
  (bif v14.1 then
  (Option.bind (lock_ahead N v3 v9) fun (v15 : Bool × Unit) =>
  (K v15.1))
  else
  (K false))))))
  else
  (Option.bind (bytes_Compare N v8 v3) fun (v16 : Int × Unit) =>
  (bif (decide (0 < v16.1)) then
  (Option.bind (lock_ahead N v8 v4) fun (v17 : Bool × Unit) =>
  (bif v17.1 then
  (Option.bind (lock_ahead N v8 v9) fun (v18 : Bool × Unit) =>
  (K v18.1))
  else
  (K false)))
  else
  (Option.bind (lock_ahead N v3 v4) fun (v19 : Bool × Unit) =>
  (bif v19.1 then
  (Option.bind (lock_ahead N v3 v9) fun (v20 : Bool × Unit) =>
  (K v20.1))
  else
  (K false))))))))

def lock_Clash (N : Nat) (v1 : Int) (v2 : (List UInt8)) (v3 : (List UInt8)) (v4 : (List UInt8)) (v5 : Int) (v6 : Int) (v7 : (List UInt8)) (v8 : (List UInt8)) (v9 : (List UInt8)) (v10 : Int) : Option (Bool × Unit) := lock_Clash_cps N _ (fun a0 => some (a0, ())) v1 v2 v3 v4 v5 v6 v7 v8 v9 v10

/-! frankpledge/lock.clashes$1 -/
def lock_clashes_c1_cps (N : Nat) (R : Type) (K : Bool → Option R) (v1 : Int) (v2 : (List UInt8)) (v3 : (List UInt8)) (v4 : (List UInt8)) (v5 : Int) (v6 : Int) (v7 : (List UInt8)) (v8 : (List UInt8)) (v9 : (List UInt8)) (v10 : Int) : Option R :=
  (Option.bind (lock_Clash N v6 v7 v8 v9 v10 v1 v2 v3 v4 v5) fun (v11 : Bool × Unit) =>
  (K v11.1))

def lock_clashes_c1 (N : Nat) (v1 : Int) (v2 : (List UInt8)) (v3 : (List UInt8)) (v4 : (List UInt8)) (v5 : Int) (v6 : Int) (v7 : (List UInt8)) (v8 : (List UInt8)) (v9 : (List UInt8)) (v10 : Int) : Option (Bool × Unit) := lock_clashes_c1_cps N _ (fun a0 => some (a0, ())) v1 v2 v3 v4 v5 v6 v7 v8 v9 v10

/-! slices.IndexFunc[[]frankpledge/lock.Lock,frankpledge/lock.Lock] -/
def slices_IndexFunc_lock_Lock_lock_Lock_2_l0B (N : Nat) (R : Type) (v10 : (List (Int × ((List UInt8) × ((List UInt8) × ((List UInt8) × (Int × Unit))))))) (v11 : Int) (v12 : (List UInt8)) (v13 : (List UInt8)) (v14 : (List UInt8)) (v15 : Int) (rec : Int → Int → Option R) (k0 : Option R) (k1 : Int → Option R) (v8 : Int) (v9 : Int) : Option R :=
  (bif (decide (v9 < v8)) then
  (Option.bind (nth v10 v9) fun (_ : (Int × ((List UInt8) × ((List UInt8) × ((List UInt8) × (Int × Unit)))))) =>
  (Option.bind (v10[(Int.toNat v9)]?) fun (v16 : (Int × ((List UInt8) × ((List UInt8) × ((List UInt8) × (Int × Unit)))))) =>
  (Option.bind (lock_clashes_c1 N v16.1 v16.2.1 v16.2.2.1 v16.2.2.2.1 v16.2.2.2.2.1 v11 v12 v13 v14 v15) fun (v17 : Bool × Unit) =>
  (bif v17.1 then
  (k1 v9)
  else
  (rec v8 (IntKind.wrap .i64 (v9 + 1)))))))
  else
  k0)

def slices_IndexFunc_lock_Lock_lock_Lock_2_l0 (N : Nat) (R : Type) (v10 : (List (Int × ((List UInt8) × ((List UInt8) × ((List UInt8) × (Int × Unit))))))) (v11 : Int) (v12 : (List UInt8)) (v13 : (List UInt8)) (v14 : (List UInt8)) (v15 : Int) (k0 : Option R) (k1 : Int → Option R) : Nat → Int → Int → Option R
  | 0 => fun _ _ => none
  | n + 1 => slices_IndexFunc_lock_Lock_lock_Lock_2_l0B N R v10 v11 v12 v13 v14 v15 (slices_IndexFunc_lock_Lock_lock_Lock_2_l0 N R v10 v11 v12 v13 v14 v15 k0 k1 n) k0 k1

def slices_IndexFunc_lock_Lock_lock_Lock_2_cps (N : Nat) (R : Type) (K : Int → Option R) (v1 : (List (Int × ((List UInt8) × ((List UInt8) × ((List UInt8) × (Int × Unit))))))) (v2 : Int) (v3 : (List UInt8)) (v4 : (List UInt8)) (v5 : (List UInt8)) (v6 : Int) : Option R :=
  (slices_IndexFunc_lock_Lock_lock_Lock_2_l0 N _ v1 v2 v3 v4 v5 v6 ((K (-1))) (fun (v7 : Int) =>
  (K v7)) N (v1.length : Int) 0)

def slices_IndexFunc_lock_Lock_lock_Lock_2 (N : Nat) (v1 : (List (Int × ((List UInt8) × ((List UInt8) × ((List UInt8) × (Int × Unit))))))) (v2 : Int) (v3 : (List UInt8)) (v4 : (List UInt8)) (v5 : (List UInt8)) (v6 : Int) : Option (Int × Unit) := slices_IndexFunc_lock_Lock_lock_Lock_2_cps N _ (fun a0 => some (a0, ())) v1 v2 v3 v4 v5 v6

/-! slices.ContainsFunc[[]frankpledge/lock.Lock,frankpledge/lock.Lock] -/
def slices_ContainsFunc_lock_Lock_lock_Lock_2_cps (N : Nat) (R : Type) (K : Bool → Option R) (v1 : (List (Int × ((List UInt8) × ((List UInt8) × ((List UInt8) × (Int × Unit))))))) (v2 : Int) (v3 : (List UInt8)) (v4 : (List UInt8)) (v5 : (List UInt8)) (v6 : Int) : Option R :=
  (Option.bind (slices_IndexFunc_lock_Lock_lock_Lock_2 N v1 v2 v3 v4 v5 v6) fun (v7 : Int × Unit) =>
  (K (decide (0 ≤ v7.1))))

def slices_ContainsFunc_lock_Lock_lock_Lock_2 (N : Nat) (v1 : (List (Int × ((List UInt8) × ((List UInt8) × ((List UInt8) × (Int × Unit))))))) (v2 : Int) (v3 : (List UInt8)) (v4 : (List UInt8)) (v5 : (List UInt8)) (v6 : Int) : Option (Bool × Unit) := slices_ContainsFunc_lock_Lock_lock_Lock_2_cps N _ (fun a0 => some (a0, ())) v1 v2 v3 v4 v5 v6

/-! frankpledge/lock.clashes -/
def lock_clashes_cps (N : Nat) (R : Type) (K : Bool → Option R) (v1 : Int) (v2 : (List UInt8)) (v3 : (List UInt8)) (v4 : (List UInt8)) (v5 : Int) (v6 : (List (Int × ((List UInt8) × ((List UInt8) × ((List UInt8) × (Int × Unit))))))) : Option R :=
  (Option.bind (slices_ContainsFunc_lock_Lock_lock_Lock_2 N v6 v1 v2 v3 v4 v5) fun (v7 : Bool × Unit) =>
  (K v7.1))

def lock_clashes (N : Nat) (v1 : Int) (v2 : (List UInt8)) (v3 : (List UInt8)) (v4 : (List UInt8)) (v5 : Int) (v6 : (List (Int × ((List UInt8) × ((List UInt8) × ((List UInt8) × (Int × Unit))))))) : Option (Bool × Unit) := lock_clashes_cps N _ (fun a0 => some (a0, ())) v1 v2 v3 v4 v5 v6

/-! (*frankpledge/lock.Locks).Ask -/
def lock_Locks_Ask_cps (N : Nat) (R : Type) (K : Bool → Int → (List (Int × ((List UInt8) × ((List UInt8) × ((List UInt8) × (Int × Unit)))))) → (List (Int × ((List UInt8) × ((List UInt8) × ((List UInt8) × (Int × Unit)))))) → Option R) (v1 : Int) (v2 : (List UInt8)) (v3 : (List UInt8)) (v4 : (List UInt8)) (v5 : Int) (v6 : (List (Int × ((List UInt8) × ((List UInt8) × ((List UInt8) × (Int × Unit))))))) (v7 : (List (Int × ((List UInt8) × ((List UInt8) × ((List UInt8) × (Int × Unit))))))) : Option R :=
  (Option.bind (lock_Lock_right N v1 v2 v3 v4 v5) fun (v8 : Bool × Unit) =>
  (bif (!v8.1) then
  (K false 1 v6 v7)
  else
  (Option.bind (slices_ContainsFunc_lock_Lock_lock_Lock N v7 v1 v2 v3 v4 v5) fun (v9 : Bool × Unit) =>
  (bif v9.1 then
  (K false 92 v6 v7)
  else
  (Option.bind (slices_ContainsFunc_lock_Lock_lock_Lock_1 N v6 v1 v2 v3 v4 v5) fun (v10 : Bool × Unit) =>
  (bif v10.1 then
  (K true 0 v6 v7)
  else
  (bif (decide (1024 ≤ (IntKind.wrap .i64 ((v6.length : Int) + (v7.length : Int))))) then
  (K false 62 v6 v7)
  else
  (Option.bind (lock_Lock_copied N v1 v2 v3 v4 v5) fun (v11 : Int × (List UInt8) × (List UInt8) × (List UInt8) × Int × Unit) =>
  (Option.bind (lock_clashes N v11.1 v11.2.1 v11.2.2.1 v11.2.2.2.1 v11.2.2.2.2.1 v6) fun (v12 : Bool × Unit) =>
  (bif v12.1 then
  (bif (room 80 (v7.length + ([(v11.1, (v11.2.1, (v11.2.2.1, (v11.2.2.2.1, (v11.2.2.2.2.1, ())))))] : (List (Int × ((List UInt8) × ((List UInt8) × ((List UInt8) × (Int × Unit))))))).length)) then
  (K false 0 v6 (v7 ++ ([(v11.1, (v11.2.1, (v11.2.2.1, (v11.2.2.2.1, (v11.2.2.2.2.1, ())))))] : (List (Int × ((List UInt8) × ((List UInt8) × ((List UInt8) × (Int × Unit)))))))))
  else
  none)
  else
  (Option.bind (lock_clashes N v11.1 v11.2.1 v11.2.2.1 v11.2.2.2.1 v11.2.2.2.2.1 v7) fun (v13 : Bool × Unit) =>
  (bif v13.1 then
  (bif (room 80 (v7.length + ([(v11.1, (v11.2.1, (v11.2.2.1, (v11.2.2.2.1, (v11.2.2.2.2.1, ())))))] : (List (Int × ((List UInt8) × ((List UInt8) × ((List UInt8) × (Int × Unit))))))).length)) then
  (K false 0 v6 (v7 ++ ([(v11.1, (v11.2.1, (v11.2.2.1, (v11.2.2.2.1, (v11.2.2.2.2.1, ())))))] : (List (Int × ((List UInt8) × ((List UInt8) × ((List UInt8) × (Int × Unit)))))))))
  else
  none)
  else
  (bif (room 80 (v6.length + ([(v11.1, (v11.2.1, (v11.2.2.1, (v11.2.2.2.1, (v11.2.2.2.2.1, ())))))] : (List (Int × ((List UInt8) × ((List UInt8) × ((List UInt8) × (Int × Unit))))))).length)) then
  (K true 0 (v6 ++ ([(v11.1, (v11.2.1, (v11.2.2.1, (v11.2.2.2.1, (v11.2.2.2.2.1, ())))))] : (List (Int × ((List UInt8) × ((List UInt8) × ((List UInt8) × (Int × Unit)))))))) v7)
  else
  none)))))))))))))

def lock_Locks_Ask (N : Nat) (v1 : Int) (v2 : (List UInt8)) (v3 : (List UInt8)) (v4 : (List UInt8)) (v5 : Int) (v6 : (List (Int × ((List UInt8) × ((List UInt8) × ((List UInt8) × (Int × Unit))))))) (v7 : (List (Int × ((List UInt8) × ((List UInt8) × ((List UInt8) × (Int × Unit))))))) : Option (Bool × Int × (List (Int × ((List UInt8) × ((List UInt8) × ((List UInt8) × (Int × Unit)))))) × (List (Int × ((List UInt8) × ((List UInt8) × ((List UInt8) × (Int × Unit)))))) × Unit) := lock_Locks_Ask_cps N _ (fun a0 a1 a2 a3 => some (a0, (a1, (a2, (a3, ()))))) v1 v2 v3 v4 v5 v6 v7

/-! (*frankpledge/lock.Locks).Ask -/
def lock_Locks_Ask_1_cps (N : Nat) (R : Type) (K : Bool → Int → (List (Int × ((List UInt8) × ((List UInt8) × ((List UInt8) × (Int × Unit)))))) → (List (Int × ((List UInt8) × ((List UInt8) × ((List UInt8) × (Int × Unit)))))) → Option R) (v1 : Int) (v2 : (List UInt8)) (v3 : (List UInt8)) (v4 : (List UInt8)) (v5 : Int) (v6 : (List (Int × ((List UInt8) × ((List UInt8) × ((List UInt8) × (Int × Unit))))))) (v7 : (List (Int × ((List UInt8) × ((List UInt8) × ((List UInt8) × (Int × Unit))))))) : Option R :=
  (Option.bind (lock_Lock_right N v1 v2 v3 v4 v5) fun (v8 : Bool × Unit) =>
  (bif (!v8.1) then
  (K false 1 v6 v7)
  else
  (Option.bind (slices_ContainsFunc_lock_Lock_lock_Lock N v7 v1 v2 v3 v4 v5) fun (v9 : Bool × Unit) =>
  (bif v9.1 then
  (K false 92 v6 v7)
  else
  (Option.bind (slices_ContainsFunc_lock_Lock_lock_Lock_1 N v6 v1 v2 v3 v4 v5) fun (v10 : Bool × Unit) =>
  (bif v10.1 then
  (K true 0 v6 v7)
  else
  (bif (decide (1024 ≤ (IntKind.wrap .i64 ((v6.length : Int) + (v7.length : Int))))) then
  (K false 62 v6 v7)
  else
  (Option.bind (lock_Lock_copied N v1 v2 v3 v4 v5) fun (v11 : Int × (List UInt8) × (List UInt8) × (List UInt8) × Int × Unit) =>
  (Option.bind (lock_clashes N v11.1 v11.2.1 v11.2.2.1 v11.2.2.2.1 v11.2.2.2.2.1 v6) fun (v12 : Bool × Unit) =>
  (bif v12.1 then
  (bif (room 80 (v7.length + ([(v11.1, (v11.2.1, (v11.2.2.1, (v11.2.2.2.1, (v11.2.2.2.2.1, ())))))] : (List (Int × ((List UInt8) × ((List UInt8) × ((List UInt8) × (Int × Unit))))))).length)) then
  (K false 0 v6 (v7 ++ ([(v11.1, (v11.2.1, (v11.2.2.1, (v11.2.2.2.1, (v11.2.2.2.2.1, ())))))] : (List (Int × ((List UInt8) × ((List UInt8) × ((List UInt8) × (Int × Unit)))))))))
  else
  none)
  else
  (Option.bind (lock_clashes N v11.1 v11.2.1 v11.2.2.1 v11.2.2.2.1 v11.2.2.2.2.1 v7) fun (v13 : Bool × Unit) =>
  (bif v13.1 then
  (bif (room 80 (v7.length + ([(v11.1, (v11.2.1, (v11.2.2.1, (v11.2.2.2.1, (v11.2.2.2.2.1, ())))))] : (List (Int × ((List UInt8) × ((List UInt8) × ((List UInt8) × (Int × Unit))))))).length)) then
  (K false 0 v6 (v7 ++ ([(v11.1, (v11.2.1, (v11.2.2.1, (v11.2.2.2.1, (v11.2.2.2.2.1, ())))))] : (List (Int × ((List UInt8) × ((List UInt8) × ((List UInt8) × (Int × Unit)))))))))
  else
  none)
  else
  (bif (room 80 (v6.length + ([(v11.1, (v11.2.1, (v11.2.2.1, (v11.2.2.2.1, (v11.2.2.2.2.1, ())))))] : (List (Int × ((List UInt8) × ((List UInt8) × ((List UInt8) × (Int × Unit))))))).length)) then
  (K true 0 (v6 ++ ([(v11.1, (v11.2.1, (v11.2.2.1, (v11.2.2.2.1, (v11.2.2.2.2.1, ())))))] : (List (Int × ((List UInt8) × ((List UInt8) × ((List UInt8) × (Int × Unit)))))))) v7)
  else
  none)))))))))))))

def lock_Locks_Ask_1 (N : Nat) (v1 : Int) (v2 : (List UInt8)) (v3 : (List UInt8)) (v4 : (List UInt8)) (v5 : Int) (v6 : (List (Int × ((List UInt8) × ((List UInt8) × ((List UInt8) × (Int × Unit))))))) (v7 : (List (Int × ((List UInt8) × ((List UInt8) × ((List UInt8) × (Int × Unit))))))) : Option (Bool × Int × (List (Int × ((List UInt8) × ((List UInt8) × ((List UInt8) × (Int × Unit)))))) × (List (Int × ((List UInt8) × ((List UInt8) × ((List UInt8) × (Int × Unit)))))) × Unit) := lock_Locks_Ask_1_cps N _ (fun a0 a1 a2 a3 => some (a0, (a1, (a2, (a3, ()))))) v1 v2 v3 v4 v5 v6 v7

/-! frankpledge/lock.without$1 -/
def lock_without_c1_cps (N : Nat) (R : Type) (K : Bool → Option R) (v1 : Int) (v2 : (List UInt8)) (v3 : (List UInt8)) (v4 : (List UInt8)) (v5 : Int) (v6 : Int) : Option R :=
  (K (decide (v1 = v6)))

def lock_without_c1 (N : Nat) (v1 : Int) (v2 : (List UInt8)) (v3 : (List UInt8)) (v4 : (List UInt8)) (v5 : Int) (v6 : Int) : Option (Bool × Unit) := lock_without_c1_cps N _ (fun a0 => some (a0, ())) v1 v2 v3 v4 v5 v6

/-! slices.IndexFunc[[]frankpledge/lock.Lock,frankpledge/lock.Lock] -/
def slices_IndexFunc_lock_Lock_lock_Lock_3_l0B (N : Nat) (R : Type) (v6 : (List (Int × ((List UInt8) × ((List UInt8) × ((List UInt8) × (Int × Unit))))))) (v7 : Int) (rec : Int → Int → Option R) (k0 : Option R) (k1 : Int → Option R) (v4 : Int) (v5 : Int) : Option R :=
  (bif (decide (v5 < v4)) then
  (Option.bind (nth v6 v5) fun (_ : (Int × ((List UInt8) × ((List UInt8) × ((List UInt8) × (Int × Unit)))))) =>
  (Option.bind (v6[(Int.toNat v5)]?) fun (v8 : (Int × ((List UInt8) × ((List UInt8) × ((List UInt8) × (Int × Unit)))))) =>
  (Option.bind (lock_without_c1 N v8.1 v8.2.1 v8.2.2.1 v8.2.2.2.1 v8.2.2.2.2.1 v7) fun (v9 : Bool × Unit) =>
  (bif v9.1 then
  (k1 v5)
  else
  (rec v4 (IntKind.wrap .i64 (v5 + 1)))))))
  else
  k0)

def slices_IndexFunc_lock_Lock_lock_Lock_3_l0 (N : Nat) (R : Type) (v6 : (List (Int × ((List UInt8) × ((List UInt8) × ((List UInt8) × (Int × Unit))))))) (v7 : Int) (k0 : Option R) (k1 : Int → Option R) : Nat → Int → Int → Option R
  | 0 => fun _ _ => none
  | n + 1 => slices_IndexFunc_lock_Lock_lock_Lock_3_l0B N R v6 v7 (slices_IndexFunc_lock_Lock_lock_Lock_3_l0 N R v6 v7 k0 k1 n) k0 k1

def slices_IndexFunc_lock_Lock_lock_Lock_3_cps (N : Nat) (R : Type) (K : Int → Option R) (v1 : (List (Int × ((List UInt8) × ((List UInt8) × ((List UInt8) × (Int × Unit))))))) (v2 : Int) : Option R :=
  (slices_IndexFunc_lock_Lock_lock_Lock_3_l0 N _ v1 v2 ((K (-1))) (fun (v3 : Int) =>
  (K v3)) N (v1.length : Int) 0)

def slices_IndexFunc_lock_Lock_lock_Lock_3 (N : Nat) (v1 : (List (Int × ((List UInt8) × ((List UInt8) × ((List UInt8) × (Int × Unit))))))) (v2 : Int) : Option (Int × Unit) := slices_IndexFunc_lock_Lock_lock_Lock_3_cps N _ (fun a0 => some (a0, ())) v1 v2

/-! slices.DeleteFunc[[]frankpledge/lock.Lock,frankpledge/lock.Lock] -/
def slices_DeleteFunc_lock_Lock_lock_Lock_l0B (N : Nat) (R : Type) (v8 : Int) (rec : Int → Int → (List (Int × ((List UInt8) × ((List UInt8) × ((List UInt8) × (Int × Unit)))))) → Option R) (k0 : Int → (List (Int × ((List UInt8) × ((List UInt8) × ((List UInt8) × (Int × Unit)))))) → Option R) (v6 : Int) (v7 : Int) (v9 : (List (Int × ((List UInt8) × ((List UInt8) × ((List UInt8) × (Int × Unit))))))) : Option R :=
  (bif (decide (v7 < (v9.length : Int))) then
  (Option.bind (nth v9 v7) fun (_ : (Int × ((List UInt8) × ((List UInt8) × ((List UInt8) × (Int × Unit)))))) =>
  (Option.bind (v9[(Int.toNat v7)]?) fun (v10 : (Int × ((List UInt8) × ((List UInt8) × ((List UInt8) × (Int × Unit)))))) =>
  (Option.bind (lock_without_c1 N v10.1 v10.2.1 v10.2.2.1 v10.2.2.2.1 v10.2.2.2.2.1 v8) fun (v11 : Bool × Unit) =>
  (bif (!v11.1) then
  (Option.bind (nth v9 v6) fun (_ : (Int × ((List UInt8) × ((List UInt8) × ((List UInt8) × (Int × Unit)))))) =>
  (Option.bind (v9[(Int.toNat v6)]?) fun (v12 : (Int × ((List UInt8) × ((List UInt8) × ((List UInt8) × (Int × Unit)))))) =>
  (rec (IntKind.wrap .i64 (v6 + 1)) (IntKind.wrap .i64 (v7 + 1)) (List.set v9 (Int.toNat v6) (v10.1, (v10.2.1, (v10.2.2.1, (v10.2.2.2.1, (v10.2.2.2.2.1, ())))))))))
  else
  (rec v6 (IntKind.wrap .i64 (v7 + 1)) v9)))))
  else
  (k0 v6 v9))

def slices_DeleteFunc_lock_Lock_lock_Lock_l0 (N : Nat) (R : Type) (v8 : Int) (k0 : Int → (List (Int × ((List UInt8) × ((List UInt8) × ((List UInt8) × (Int × Unit)))))) → Option R) : Nat → Int → Int → (List (Int × ((List UInt8) × ((List UInt8) × ((List UInt8) × (Int × Unit)))))) → Option R
  | 0 => fun _ _ _ => none
  | n + 1 => slices_DeleteFunc_lock_Lock_lock_Lock_l0B N R v8 (slices_DeleteFunc_lock_Lock_lock_Lock_l0 N R v8 k0 n) k0

def slices_DeleteFunc_lock_Lock_lock_Lock_cps (N : Nat) (R : Type) (K : Int → (List (Int × ((List UInt8) × ((List UInt8) × ((List UInt8) × (Int × Unit)))))) → Option R) (v1 : (List (Int × ((List UInt8) × ((List UInt8) × ((List UInt8) × (Int × Unit))))))) (v2 : Int) : Option R :=
  (Option.bind (slices_IndexFunc_lock_Lock_lock_Lock_3 N v1 v2) fun (v3 : Int × Unit) =>
  (bif (decide (v3.1 = (-1))) then
  (K v2 v1)
  else
  (slices_DeleteFunc_lock_Lock_lock_Lock_l0 N _ v2 (fun (v4 : Int) (v5 : (List (Int × ((List UInt8) × ((List UInt8) × ((List UInt8) × (Int × Unit))))))) =>
  (bif (decide (0 ≤ v4 ∧ v4 ≤ ((v5.length : Nat) : Int))) then
  (bif (Nat.ble ((Int.toNat v4) + (v5.length - (Int.toNat v4))) v5.length) then
  (bif (decide (0 ≤ v4 ∧ v4 ≤ (((List.take (Int.toNat v4) v5 ++ (List.replicate (v5.length - (Int.toNat v4)) (0, ([], ([], ([], (0, ()))))) ++ List.drop ((Int.toNat v4) + (v5.length - (Int.toNat v4))) v5)).length : Nat) : Int))) then
  (K v2 (List.take (Int.toNat v4) (List.take (Int.toNat v4) v5 ++ (List.replicate (v5.length - (Int.toNat v4)) (0, ([], ([], ([], (0, ()))))) ++ List.drop ((Int.toNat v4) + (v5.length - (Int.toNat v4))) v5))))
  else
  none)
  else
  none)
  else
  none)) N v3.1 (IntKind.wrap .i64 (v3.1 + 1)) v1)))

def slices_DeleteFunc_lock_Lock_lock_Lock (N : Nat) (v1 : (List (Int × ((List UInt8) × ((List UInt8) × ((List UInt8) × (Int × Unit))))))) (v2 : Int) : Option (Int × (List (Int × ((List UInt8) × ((List UInt8) × ((List UInt8) × (Int × Unit)))))) × Unit) := slices_DeleteFunc_lock_Lock_lock_Lock_cps N _ (fun a0 a1 => some (a0, (a1, ()))) v1 v2

/-! frankpledge/lock.without -/
def lock_without_cps (N : Nat) (R : Type) (K : (List (Int × ((List UInt8) × ((List UInt8) × ((List UInt8) × (Int × Unit)))))) → Option R) (v1 : Int) (v2 : (List (Int × ((List UInt8) × ((List UInt8) × ((List UInt8) × (Int × Unit))))))) : Option R :=
  (Option.bind (slices_DeleteFunc_lock_Lock_lock_Lock N v2 v1) fun (v3 : Int × (List (Int × ((List UInt8) × ((List UInt8) × ((List UInt8) × (Int × Unit)))))) × Unit) =>
  (K v3.2.1))

def lock_without (N : Nat) (v1 : Int) (v2 : (List (Int × ((List UInt8) × ((List UInt8) × ((List UInt8) × (Int × Unit))))))) : Option ((List (Int × ((List UInt8) × ((List UInt8) × ((List UInt8) × (Int × Unit)))))) × Unit) := lock_without_cps N _ (fun a0 => some (a0, ())) v1 v2

/-! (*frankpledge/lock.Locks).look -/
def lock_Locks_look_l0B (N : Nat) (R : Type) (v10 : (List (Int × ((List UInt8) × ((List UInt8) × ((List UInt8) × (Int × Unit))))))) (rec : (List Int) → Int → Int → (List (Int × ((List UInt8) × ((List UInt8) × ((List UInt8) × (Int × Unit)))))) → (List (Int × ((List UInt8) × ((List UInt8) × ((List UInt8) × (Int × Unit)))))) → Option R) (k0 : (List Int) → (List (Int × ((List UInt8) × ((List UInt8) × ((List UInt8) × (Int × Unit)))))) → (List (Int × ((List UInt8) × ((List UInt8) × ((List UInt8) × (Int × Unit)))))) → Option R) (v6 : (List Int)) (v7 : Int) (v8 : Int) (v9 : (List (Int × ((List UInt8) × ((List UInt8) × ((List UInt8) × (Int × Unit))))))) (v11 : (List (Int × ((List UInt8) × ((List UInt8) × ((List UInt8) × (Int × Unit))))))) : Option R :=
  (bif (decide (v8 < v7)) then
  (Option.bind (nth v10 v8) fun (_ : (Int × ((List UInt8) × ((List UInt8) × ((List UInt8) × (Int × Unit)))))) =>
  (Option.bind (v10[(Int.toNat v8)]?) fun (v12 : (Int × ((List UInt8) × ((List UInt8) × ((List UInt8) × (Int × Unit)))))) =>
  (Option.bind (lock_clashes N v12.1 v12.2.1 v12.2.2.1 v12.2.2.2.1 v12.2.2.2.2.1 v11) fun (v13 : Bool × Unit) =>
  (bif v13.1 then
  (bif (room 80 (v9.length + ([(v12.1, (v12.2.1, (v12.2.2.1, (v12.2.2.2.1, (v12.2.2.2.2.1, ())))))] : (List (Int × ((List UInt8) × ((List UInt8) × ((List UInt8) × (Int × Unit))))))).length)) then
  (rec v6 v7 (IntKind.wrap .i64 (v8 + 1)) (v9 ++ ([(v12.1, (v12.2.1, (v12.2.2.1, (v12.2.2.2.1, (v12.2.2.2.2.1, ())))))] : (List (Int × ((List UInt8) × ((List UInt8) × ((List UInt8) × (Int × Unit)))))))) v11)
  else
  none)
  else
  (Option.bind (lock_clashes N v12.1 v12.2.1 v12.2.2.1 v12.2.2.2.1 v12.2.2.2.2.1 v9) fun (v14 : Bool × Unit) =>
  (bif v14.1 then
  (bif (room 80 (v9.length + ([(v12.1, (v12.2.1, (v12.2.2.1, (v12.2.2.2.1, (v12.2.2.2.2.1, ())))))] : (List (Int × ((List UInt8) × ((List UInt8) × ((List UInt8) × (Int × Unit))))))).length)) then
  (rec v6 v7 (IntKind.wrap .i64 (v8 + 1)) (v9 ++ ([(v12.1, (v12.2.1, (v12.2.2.1, (v12.2.2.2.1, (v12.2.2.2.2.1, ())))))] : (List (Int × ((List UInt8) × ((List UInt8) × ((List UInt8) × (Int × Unit)))))))) v11)
  else
  none)
  else
  (bif (room 80 (v11.length + ([(v12.1, (v12.2.1, (v12.2.2.1, (v12.2.2.2.1, (v12.2.2.2.2.1, ())))))] : (List (Int × ((List UInt8) × ((List UInt8) × ((List UInt8) × (Int × Unit))))))).length)) then
  (bif (room 8 (v6.length + ([v12.1] : (List Int)).length)) then
  (rec (v6 ++ ([v12.1] : (List Int))) v7 (IntKind.wrap .i64 (v8 + 1)) v9 (v11 ++ ([(v12.1, (v12.2.1, (v12.2.2.1, (v12.2.2.2.1, (v12.2.2.2.2.1, ())))))] : (List (Int × ((List UInt8) × ((List UInt8) × ((List UInt8) × (Int × Unit)))))))))
  else
  none)
  else
  none)))))))
  else
  (k0 v6 v9 v11))

def lock_Locks_look_l0 (N : Nat) (R : Type) (v10 : (List (Int × ((List UInt8) × ((List UInt8) × ((List UInt8) × (Int × Unit))))))) (k0 : (List Int) → (List (Int × ((List UInt8) × ((List UInt8) × ((List UInt8) × (Int × Unit)))))) → (List (Int × ((List UInt8) × ((List UInt8) × ((List UInt8) × (Int × Unit)))))) → Option R) : Nat → (List Int) → Int → Int → (List (Int × ((List UInt8) × ((List UInt8) × ((List UInt8) × (Int × Unit)))))) → (List (Int × ((List UInt8) × ((List UInt8) × ((List UInt8) × (Int × Unit)))))) → Option R
  | 0 => fun _ _ _ _ _ => none
  | n + 1 => lock_Locks_look_l0B N R v10 (lock_Locks_look_l0 N R v10 k0 n) k0

def lock_Locks_look_cps (N : Nat) (R : Type) (K : (List Int) → (List (Int × ((List UInt8) × ((List UInt8) × ((List UInt8) × (Int × Unit)))))) → (List (Int × ((List UInt8) × ((List UInt8) × ((List UInt8) × (Int × Unit)))))) → Option R) (v1 : (List (Int × ((List UInt8) × ((List UInt8) × ((List UInt8) × (Int × Unit))))))) (v2 : (List (Int × ((List UInt8) × ((List UInt8) × ((List UInt8) × (Int × Unit))))))) : Option R :=
  (lock_Locks_look_l0 N _ v2 (fun (v3 : (List Int)) (v4 : (List (Int × ((List UInt8) × ((List UInt8) × ((List UInt8) × (Int × Unit))))))) (v5 : (List (Int × ((List UInt8) × ((List UInt8) × ((List UInt8) × (Int × Unit))))))) =>
  (K v3 v5 v4)) N [] (v2.length : Int) 0 [] v1)

def lock_Locks_look (N : Nat) (v1 : (List (Int × ((List UInt8) × ((List UInt8) × ((List UInt8) × (Int × Unit))))))) (v2 : (List (Int × ((List UInt8) × ((List UInt8) × ((List UInt8) × (Int × Unit))))))) : Option ((List Int) × (List (Int × ((List UInt8) × ((List UInt8) × ((List UInt8) × (Int × Unit)))))) × (List (Int × ((List UInt8) × ((List UInt8) × ((List UInt8) × (Int × Unit)))))) × Unit) := lock_Locks_look_cps N _ (fun a0 a1 a2 => some (a0, (a1, (a2, ())))) v1 v2

/-! (*frankpledge/lock.Locks).Cancel -/
def lock_Locks_Cancel_cps (N : Nat) (R : Type) (K : (List Int) → (List (Int × ((List UInt8) × ((List UInt8) × ((List UInt8) × (Int × Unit)))))) → (List (Int × ((List UInt8) × ((List UInt8) × ((List UInt8) × (Int × Unit)))))) → Option R) (v1 : Int) (v2 : (List (Int × ((List UInt8) × ((List UInt8) × ((List UInt8) × (Int × Unit))))))) (v3 : (List (Int × ((List UInt8) × ((List UInt8) × ((List UInt8) × (Int × Unit))))))) : Option R :=
  (Option.bind (lock_without N v1 v3) fun (v4 : (List (Int × ((List UInt8) × ((List UInt8) × ((List UInt8) × (Int × Unit)))))) × Unit) =>
  (Option.bind (lock_Locks_look N v2 v4.1) fun (v5 : (List Int) × (List (Int × ((List UInt8) × ((List UInt8) × ((List UInt8) × (Int × Unit)))))) × (List (Int × ((List UInt8) × ((List UInt8) × ((List UInt8) × (Int × Unit)))))) × Unit) =>
  (K v5.1 v5.2.1 v5.2.2.1)))

def lock_Locks_Cancel (N : Nat) (v1 : Int) (v2 : (List (Int × ((List UInt8) × ((List UInt8) × ((List UInt8) × (Int × Unit))))))) (v3 : (List (Int × ((List UInt8) × ((List UInt8) × ((List UInt8) × (Int × Unit))))))) : Option ((List Int) × (List (Int × ((List UInt8) × ((List UInt8) × ((List UInt8) × (Int × Unit)))))) × (List (Int × ((List UInt8) × ((List UInt8) × ((List UInt8) × (Int × Unit)))))) × Unit) := lock_Locks_Cancel_cps N _ (fun a0 a1 a2 => some (a0, (a1, (a2, ())))) v1 v2 v3

/-! (*frankpledge/lock.Locks).Drop -/
def lock_Locks_Drop_cps (N : Nat) (R : Type) (K : (List Int) → (List (Int × ((List UInt8) × ((List UInt8) × ((List UInt8) × (Int × Unit)))))) → (List (Int × ((List UInt8) × ((List UInt8) × ((List UInt8) × (Int × Unit)))))) → Option R) (v1 : Int) (v2 : (List (Int × ((List UInt8) × ((List UInt8) × ((List UInt8) × (Int × Unit))))))) (v3 : (List (Int × ((List UInt8) × ((List UInt8) × ((List UInt8) × (Int × Unit))))))) : Option R :=
  (Option.bind (lock_without N v1 v2) fun (v4 : (List (Int × ((List UInt8) × ((List UInt8) × ((List UInt8) × (Int × Unit)))))) × Unit) =>
  (Option.bind (lock_Locks_Cancel N v1 v4.1 v3) fun (v5 : (List Int) × (List (Int × ((List UInt8) × ((List UInt8) × ((List UInt8) × (Int × Unit)))))) × (List (Int × ((List UInt8) × ((List UInt8) × ((List UInt8) × (Int × Unit)))))) × Unit) =>
  (K v5.1 v5.2.1 v5.2.2.1)))

def lock_Locks_Drop (N : Nat) (v1 : Int) (v2 : (List (Int × ((List UInt8) × ((List UInt8) × ((List UInt8) × (Int × Unit))))))) (v3 : (List (Int × ((List UInt8) × ((List UInt8) × ((List UInt8) × (Int × Unit))))))) : Option ((List Int) × (List (Int × ((List UInt8) × ((List UInt8) × ((List UInt8) × (Int × Unit)))))) × (List (Int × ((List UInt8) × ((List UInt8) × ((List UInt8) × (Int × Unit)))))) × Unit) := lock_Locks_Drop_cps N _ (fun a0 a1 a2 => some (a0, (a1, (a2, ())))) v1 v2 v3

/-! (*frankpledge/lock.Locks).Waiting -/
def lock_Locks_Waiting_l0B (N : Nat) (R : Type) (v7 : (List (Int × ((List UInt8) × ((List UInt8) × ((List UInt8) × (Int × Unit))))))) (v8 : (List (Int × ((List UInt8) × ((List UInt8) × ((List UInt8) × (Int × Unit))))))) (rec : (List (Int × ((List UInt8) × ((List UInt8) × ((List UInt8) × (Int × Unit)))))) → Int → Int → Option R) (k0 : (List (Int × ((List UInt8) × ((List UInt8) × ((List UInt8) × (Int × Unit)))))) → Option R) (v4 : (List (Int × ((List UInt8) × ((List UInt8) × ((List UInt8) × (Int × Unit))))))) (v5 : Int) (v6 : Int) : Option R :=
  (bif (decide (v6 < v5)) then
  (Option.bind (nth v8 v6) fun (_ : (Int × ((List UInt8) × ((List UInt8) × ((List UInt8) × (Int × Unit)))))) =>
  (Option.bind (v8[(Int.toNat v6)]?) fun (v9 : (Int × ((List UInt8) × ((List UInt8) × ((List UInt8) × (Int × Unit)))))) =>
  (Option.bind (lock_Lock_copied N v9.1 v9.2.1 v9.2.2.1 v9.2.2.2.1 v9.2.2.2.2.1) fun (v10 : Int × (List UInt8) × (List UInt8) × (List UInt8) × Int × Unit) =>
  (bif (room 80 (v4.length + ([(v10.1, (v10.2.1, (v10.2.2.1, (v10.2.2.2.1, (v10.2.2.2.2.1, ())))))] : (List (Int × ((List UInt8) × ((List UInt8) × ((List UInt8) × (Int × Unit))))))).length)) then
  (rec (v4 ++ ([(v10.1, (v10.2.1, (v10.2.2.1, (v10.2.2.2.1, (v10.2.2.2.2.1, ())))))] : (List (Int × ((List UInt8) × ((List UInt8) × ((List UInt8) × (Int × Unit)))))))) v5 (IntKind.wrap .i64 (v6 + 1)))
  else
  none))))
  else
  (k0 v4))

def lock_Locks_Waiting_l0 (N : Nat) (R : Type) (v7 : (List (Int × ((List UInt8) × ((List UInt8) × ((List UInt8) × (Int × Unit))))))) (v8 : (List (Int × ((List UInt8) × ((List UInt8) × ((List UInt8) × (Int × Unit))))))) (k0 : (List (Int × ((List UInt8) × ((List UInt8) × ((List UInt8) × (Int × Unit)))))) → Option R) : Nat → (List (Int × ((List UInt8) × ((List UInt8) × ((List UInt8) × (Int × Unit)))))) → Int → Int → Option R
  | 0 => fun _ _ _ => none
  | n + 1 => lock_Locks_Waiting_l0B N R v7 v8 (lock_Locks_Waiting_l0 N R v7 v8 k0 n) k0

def lock_Locks_Waiting_cps (N : Nat) (R : Type) (K : (List (Int × ((List UInt8) × ((List UInt8) × ((List UInt8) × (Int × Unit)))))) → Option R) (v1 : (List (Int × ((List UInt8) × ((List UInt8) × ((List UInt8) × (Int × Unit))))))) (v2 : (List (Int × ((List UInt8) × ((List UInt8) × ((List UInt8) × (Int × Unit))))))) : Option R :=
  (lock_Locks_Waiting_l0 N _ v1 v2 (fun (v3 : (List (Int × ((List UInt8) × ((List UInt8) × ((List UInt8) × (Int × Unit))))))) =>
  (K v3)) N [] (v2.length : Int) 0)

def lock_Locks_Waiting (N : Nat) (v1 : (List (Int × ((List UInt8) × ((List UInt8) × ((List UInt8) × (Int × Unit))))))) (v2 : (List (Int × ((List UInt8) × ((List UInt8) × ((List UInt8) × (Int × Unit))))))) : Option ((List (Int × ((List UInt8) × ((List UInt8) × ((List UInt8) × (Int × Unit)))))) × Unit) := lock_Locks_Waiting_cps N _ (fun a0 => some (a0, ())) v1 v2

/-! frankpledge/frankpledgelaw09.alive -/
def law09_alive_cps (N : Nat) (R : Type) (K : Bool → Option R)  : Option R :=
  (Option.bind (lock_New N) fun (v1 : (List (Int × ((List UInt8) × ((List UInt8) × ((List UInt8) × (Int × Unit)))))) × (List (Int × ((List UInt8) × ((List UInt8) × ((List UInt8) × (Int × Unit)))))) × Unit) =>
  (Option.bind (lock_Locks_Ask N 1 [116] [97] [99] 2 v1.1 v1.2.1) fun (v2 : Bool × Int × (List (Int × ((List UInt8) × ((List UInt8) × ((List UInt8) × (Int × Unit)))))) × (List (Int × ((List UInt8) × ((List UInt8) × ((List UInt8) × (Int × Unit)))))) × Unit) =>
  (Option.bind (lock_Locks_Ask_1 N 2 [116] [98] [] 1 v2.2.2.1 v2.2.2.2.1) fun (v3 : Bool × Int × (List (Int × ((List UInt8) × ((List UInt8) × ((List UInt8) × (Int × Unit)))))) × (List (Int × ((List UInt8) × ((List UInt8) × ((List UInt8) × (Int × Unit)))))) × Unit) =>
  (Option.bind (lock_Locks_Drop N 1 v3.2.2.1 v3.2.2.2.1) fun (v4 : (List Int) × (List (Int × ((List UInt8) × ((List UInt8) × ((List UInt8) × (Int × Unit)))))) × (List (Int × ((List UInt8) × ((List UInt8) × ((List UInt8) × (Int × Unit)))))) × Unit) =>
  (bif (decide (v2.2.1 = 0)) then
  (bif (decide (v3.2.1 = 0)) then
  (bif v2.1 then
  (bif (!v3.1) then
  (bif (decide ((v4.1.length : Int) = 1)) then
  (Option.bind (nth v4.1 0) fun (v5 : Int) =>
  (bif (decide (v5 = 2)) then
  (Option.bind (lock_Locks_Waiting N v4.2.1 v4.2.2.1) fun (v6 : (List (Int × ((List UInt8) × ((List UInt8) × ((List UInt8) × (Int × Unit)))))) × Unit) =>
  (K (decide ((v6.1.length : Int) = 0))))
  else
  (K false)))
  else
  (K false))
  else
  (K false))
  else
  (K false))
  else
  (K false))
  else
  (K false))))))

def law09_alive (N : Nat)  : Option (Bool × Unit) := law09_alive_cps N _ (fun a0 => some (a0, ())) 

/-! (*frankpledge/lock.Locks).Granted -/
def lock_Locks_Granted_l0B (N : Nat) (R : Type) (v9 : (List (Int × ((List UInt8) × ((List UInt8) × ((List UInt8) × (Int × Unit))))))) (v10 : (List (Int × ((List UInt8) × ((List UInt8) × ((List UInt8) × (Int × Unit))))))) (rec : Int → (List (Int × ((List UInt8) × ((List UInt8) × ((List UInt8) × (Int × Unit)))))) → Int → Int → Option R) (k0 : (List (Int × ((List UInt8) × ((List UInt8) × ((List UInt8) × (Int × Unit)))))) → Option R) (v5 : Int) (v6 : (List (Int × ((List UInt8) × ((List UInt8) × ((List UInt8) × (Int × Unit))))))) (v7 : Int) (v8 : Int) : Option R :=
  (bif (decide (v8 < v7)) then
  (Option.bind (nth v9 v8) fun (_ : (Int × ((List UInt8) × ((List UInt8) × ((List UInt8) × (Int × Unit)))))) =>
  (Option.bind (v9[(Int.toNat v8)]?) fun (v11 : (Int × ((List UInt8) × ((List UInt8) × ((List UInt8) × (Int × Unit)))))) =>
  (bif (decide (v11.1 = v5)) then
  (Option.bind (lock_Lock_copied N v11.1 v11.2.1 v11.2.2.1 v11.2.2.2.1 v11.2.2.2.2.1) fun (v12 : Int × (List UInt8) × (List UInt8) × (List UInt8) × Int × Unit) =>
  (bif (room 80 (v6.length + ([(v12.1, (v12.2.1, (v12.2.2.1, (v12.2.2.2.1, (v12.2.2.2.2.1, ())))))] : (List (Int × ((List UInt8) × ((List UInt8) × ((List UInt8) × (Int × Unit))))))).length)) then
  (rec v5 (v6 ++ ([(v12.1, (v12.2.1, (v12.2.2.1, (v12.2.2.2.1, (v12.2.2.2.2.1, ())))))] : (List (Int × ((List UInt8) × ((List UInt8) × ((List UInt8) × (Int × Unit)))))))) v7 (IntKind.wrap .i64 (v8 + 1)))
  else
  none))
  else
  (rec v5 v6 v7 (IntKind.wrap .i64 (v8 + 1))))))
  else
  (k0 v6))

def lock_Locks_Granted_l0 (N : Nat) (R : Type) (v9 : (List (Int × ((List UInt8) × ((List UInt8) × ((List UInt8) × (Int × Unit))))))) (v10 : (List (Int × ((List UInt8) × ((List UInt8) × ((List UInt8) × (Int × Unit))))))) (k0 : (List (Int × ((List UInt8) × ((List UInt8) × ((List UInt8) × (Int × Unit)))))) → Option R) : Nat → Int → (List (Int × ((List UInt8) × ((List UInt8) × ((List UInt8) × (Int × Unit)))))) → Int → Int → Option R
  | 0 => fun _ _ _ _ => none
  | n + 1 => lock_Locks_Granted_l0B N R v9 v10 (lock_Locks_Granted_l0 N R v9 v10 k0 n) k0

def lock_Locks_Granted_cps (N : Nat) (R : Type) (K : (List (Int × ((List UInt8) × ((List UInt8) × ((List UInt8) × (Int × Unit)))))) → Option R) (v1 : Int) (v2 : (List (Int × ((List UInt8) × ((List UInt8) × ((List UInt8) × (Int × Unit))))))) (v3 : (List (Int × ((List UInt8) × ((List UInt8) × ((List UInt8) × (Int × Unit))))))) : Option R :=
  (lock_Locks_Granted_l0 N _ v2 v3 (fun (v4 : (List (Int × ((List UInt8) × ((List UInt8) × ((List UInt8) × (Int × Unit))))))) =>
  (K v4)) N v1 [] (v2.length : Int) 0)

def lock_Locks_Granted (N : Nat) (v1 : Int) (v2 : (List (Int × ((List UInt8) × ((List UInt8) × ((List UInt8) × (Int × Unit))))))) (v3 : (List (Int × ((List UInt8) × ((List UInt8) × ((List UInt8) × (Int × Unit))))))) : Option ((List (Int × ((List UInt8) × ((List UInt8) × ((List UInt8) × (Int × Unit)))))) × Unit) := lock_Locks_Granted_cps N _ (fun a0 => some (a0, ())) v1 v2 v3

/-! frankpledge/frankpledgelaw09.transactions -/
def law09_transactions_l1B (N : Nat) (R : Type) (rec : (List (Int × ((Int × ((List UInt8) × ((List UInt8) × ((List UInt8) × (Int × Unit))))) × Unit))) → (List Int) → Int → Bool → Int → Option R) (k0 : (List (Int × ((Int × ((List UInt8) × ((List UInt8) × ((List UInt8) × (Int × Unit))))) × Unit))) → (List Int) → Int → Bool → Option R) (v11 : (List (Int × ((Int × ((List UInt8) × ((List UInt8) × ((List UInt8) × (Int × Unit))))) × Unit)))) (v12 : (List Int)) (v13 : Int) (v14 : Bool) (v15 : Int) : Option R :=
  (bif (decide (v15 < (v12.length : Int))) then
  (bif v14 then
  (rec v11 v12 v13 true (IntKind.wrap .i64 (v15 + 1)))
  else
  (Option.bind (nth v12 v15) fun (v16 : Int) =>
  (Option.bind (nth v11 v13) fun (v17 : (Int × ((Int × ((List UInt8) × ((List UInt8) × ((List UInt8) × (Int × Unit))))) × Unit))) =>
  (rec v11 v12 v13 (decide (v16 = v17.2.1.1)) (IntKind.wrap .i64 (v15 + 1))))))
  else
  (k0 v11 v12 v13 v14))

def law09_transactions_l1 (N : Nat) (R : Type) (k0 : (List (Int × ((Int × ((List UInt8) × ((List UInt8) × ((List UInt8) × (Int × Unit))))) × Unit))) → (List Int) → Int → Bool → Option R) : Nat → (List (Int × ((Int × ((List UInt8) × ((List UInt8) × ((List UInt8) × (Int × Unit))))) × Unit))) → (List Int) → Int → Bool → Int → Option R
  | 0 => fun _ _ _ _ _ => none
  | n + 1 => law09_transactions_l1B N R (law09_transactions_l1 N R k0 n) k0

def law09_transactions_l0B (N : Nat) (R : Type) (rec : (List (Int × ((Int × ((List UInt8) × ((List UInt8) × ((List UInt8) × (Int × Unit))))) × Unit))) → (List Int) → Int → Option R) (k0 : (List Int) → Option R) (v3 : (List (Int × ((Int × ((List UInt8) × ((List UInt8) × ((List UInt8) × (Int × Unit))))) × Unit)))) (v4 : (List Int)) (v5 : Int) : Option R :=
  (bif (decide (v5 < (v3.length : Int))) then
  (bif (decide (v5 < 60)) then
  (law09_transactions_l1 N _ (fun (v6 : (List (Int × ((Int × ((List UInt8) × ((List UInt8) × ((List UInt8) × (Int × Unit))))) × Unit)))) (v7 : (List Int)) (v8 : Int) (v9 : Bool) =>
  (bif (!v9) then
  (Option.bind (nth v6 v8) fun (v10 : (Int × ((Int × ((List UInt8) × ((List UInt8) × ((List UInt8) × (Int × Unit))))) × Unit))) =>
  (bif (room 8 (v7.length + ([v10.2.1.1] : (List Int)).length)) then
  (rec v6 (v7 ++ ([v10.2.1.1] : (List Int))) (IntKind.wrap .i64 (v8 + 1)))
  else
  none))
  else
  (rec v6 v7 (IntKind.wrap .i64 (v8 + 1))))) N v3 v4 v5 false 0)
  else
  (k0 v4))
  else
  (k0 v4))

def law09_transactions_l0 (N : Nat) (R : Type) (k0 : (List Int) → Option R) : Nat → (List (Int × ((Int × ((List UInt8) × ((List UInt8) × ((List UInt8) × (Int × Unit))))) × Unit))) → (List Int) → Int → Option R
  | 0 => fun _ _ _ => none
  | n + 1 => law09_transactions_l0B N R (law09_transactions_l0 N R k0 n) k0

def law09_transactions_cps (N : Nat) (R : Type) (K : (List Int) → Option R) (v1 : (List (Int × ((Int × ((List UInt8) × ((List UInt8) × ((List UInt8) × (Int × Unit))))) × Unit)))) : Option R :=
  (law09_transactions_l0 N _ (fun (v2 : (List Int)) =>
  (K v2)) N v1 [] 0)

def law09_transactions (N : Nat) (v1 : (List (Int × ((Int × ((List UInt8) × ((List UInt8) × ((List UInt8) × (Int × Unit))))) × Unit)))) : Option ((List Int) × Unit) := law09_transactions_cps N _ (fun a0 => some (a0, ())) v1

/-! frankpledge/frankpledgelaw09.LockEnds -/
def law09_LockEnds_l3B (N : Nat) (R : Type) (v59 : (List (Int × ((List UInt8) × ((List UInt8) × ((List UInt8) × (Int × Unit))))))) (v60 : (List (Int × ((List UInt8) × ((List UInt8) × ((List UInt8) × (Int × Unit))))))) (rec : (List Int) → Int → Int → Option R) (k0 : Int → Option R) (k1 : Bool → Int → Option R) (v56 : (List Int)) (v57 : Int) (v58 : Int) : Option R :=
  (bif (decide (v58 < (v56.length : Int))) then
  (Option.bind (nth v56 v58) fun (v61 : Int) =>
  (Option.bind (lock_Locks_Granted N v61 v59 v60) fun (v62 : (List (Int × ((List UInt8) × ((List UInt8) × ((List UInt8) × (Int × Unit)))))) × Unit) =>
  (bif (!(decide ((v62.1.length : Int) = 0))) then
  (k1 false v57)
  else
  (rec v56 v57 (IntKind.wrap .i64 (v58 + 1))))))
  else
  (k0 v57))

def law09_LockEnds_l3 (N : Nat) (R : Type) (v59 : (List (Int × ((List UInt8) × ((List UInt8) × ((List UInt8) × (Int × Unit))))))) (v60 : (List (Int × ((List UInt8) × ((List UInt8) × ((List UInt8) × (Int × Unit))))))) (k0 : Int → Option R) (k1 : Bool → Int → Option R) : Nat → (List Int) → Int → Int → Option R
  | 0 => fun _ _ _ => none
  | n + 1 => law09_LockEnds_l3B N R v59 v60 (law09_LockEnds_l3 N R v59 v60 k0 k1 n) k0 k1

def law09_LockEnds_l2B (N : Nat) (R : Type) (v52 : (List (Int × ((List UInt8) × ((List UInt8) × ((List UInt8) × (Int × Unit))))))) (v53 : (List (Int × ((List UInt8) × ((List UInt8) × ((List UInt8) × (Int × Unit))))))) (rec : (List Int) → Int → Int → Int → (List (Int × ((List UInt8) × ((List UInt8) × ((List UInt8) × (Int × Unit)))))) → Int → Option R) (k0 : (List Int) → Int → Int → Int → Option R) (v46 : (List Int)) (v47 : Int) (v48 : Int) (v49 : Int) (v50 : (List (Int × ((List UInt8) × ((List UInt8) × ((List UInt8) × (Int × Unit))))))) (v51 : Int) : Option R :=
  (bif (decide (v51 < (v50.length : Int))) then
  (Option.bind (nth v50 v51) fun (v54 : (Int × ((List UInt8) × ((List UInt8) × ((List UInt8) × (Int × Unit)))))) =>
  (Option.bind (nth v46 v48) fun (v55 : Int) =>
  (bif (decide (v54.1 = v55)) then
  (rec v46 v47 v48 (IntKind.wrap .i64 (v49 + 1)) v50 (IntKind.wrap .i64 (v51 + 1)))
  else
  (rec v46 v47 v48 v49 v50 (IntKind.wrap .i64 (v51 + 1))))))
  else
  (k0 v46 v47 v48 v49))

def law09_LockEnds_l2 (N : Nat) (R : Type) (v52 : (List (Int × ((List UInt8) × ((List UInt8) × ((List UInt8) × (Int × Unit))))))) (v53 : (List (Int × ((List UInt8) × ((List UInt8) × ((List UInt8) × (Int × Unit))))))) (k0 : (List Int) → Int → Int → Int → Option R) : Nat → (List Int) → Int → Int → Int → (List (Int × ((List UInt8) × ((List UInt8) × ((List UInt8) × (Int × Unit)))))) → Int → Option R
  | 0 => fun _ _ _ _ _ _ => none
  | n + 1 => law09_LockEnds_l2B N R v52 v53 (law09_LockEnds_l2 N R v52 v53 k0 n) k0

def law09_LockEnds_l1B (N : Nat) (R : Type) (rec : (List Int) → Int → Int → (List (Int × ((List UInt8) × ((List UInt8) × ((List UInt8) × (Int × Unit)))))) → (List (Int × ((List UInt8) × ((List UInt8) × ((List UInt8) × (Int × Unit)))))) → Option R) (k0 : (List Int) → Int → (List (Int × ((List UInt8) × ((List UInt8) × ((List UInt8) × (Int × Unit)))))) → (List (Int × ((List UInt8) × ((List UInt8) × ((List UInt8) × (Int × Unit)))))) → Option R) (k1 : Bool → (List Int) → Int → (List (Int × ((List UInt8) × ((List UInt8) × ((List UInt8) × (Int × Unit)))))) → (List (Int × ((List UInt8) × ((List UInt8) × ((List UInt8) × (Int × Unit)))))) → Option R) (v31 : (List Int)) (v32 : Int) (v33 : Int) (v34 : (List (Int × ((List UInt8) × ((List UInt8) × ((List UInt8) × (Int × Unit))))))) (v35 : (List (Int × ((List UInt8) × ((List UInt8) × ((List UInt8) × (Int × Unit))))))) : Option R :=
  (bif (decide (v33 < (v31.length : Int))) then
  (Option.bind (lock_Locks_Waiting N v34 v35) fun (v36 : (List (Int × ((List UInt8) × ((List UInt8) × ((List UInt8) × (Int × Unit)))))) × Unit) =>
  (law09_LockEnds_l2 N _ v34 v35 (fun (v37 : (List Int)) (v38 : Int) (v39 : Int) (v40 : Int) =>
  (Option.bind (nth v37 v39) fun (v41 : Int) =>
  (Option.bind (lock_Locks_Drop N v41 v34 v35) fun (v42 : (List Int) × (List (Int × ((List UInt8) × ((List UInt8) × ((List UInt8) × (Int × Unit)))))) × (List (Int × ((List UInt8) × ((List UInt8) × ((List UInt8) × (Int × Unit)))))) × Unit) =>
  (Option.bind (nth v37 v39) fun (v43 : Int) =>
  (Option.bind (lock_Locks_Granted N v43 v42.2.1 v42.2.2.1) fun (v44 : (List (Int × ((List UInt8) × ((List UInt8) × ((List UInt8) × (Int × Unit)))))) × Unit) =>
  (bif (!(decide ((v44.1.length : Int) = 0))) then
  (k1 false v37 (IntKind.wrap .i64 ((IntKind.wrap .i64 (v38 - v40)) - (v42.1.length : Int))) v42.2.1 v42.2.2.1)
  else
  (Option.bind (lock_Locks_Waiting N v42.2.1 v42.2.2.1) fun (v45 : (List (Int × ((List UInt8) × ((List UInt8) × ((List UInt8) × (Int × Unit)))))) × Unit) =>
  (bif (!(decide ((v45.1.length : Int) = (IntKind.wrap .i64 ((IntKind.wrap .i64 (v38 - v40)) - (v42.1.length : Int)))))) then
  (k1 false v37 (IntKind.wrap .i64 ((IntKind.wrap .i64 (v38 - v40)) - (v42.1.length : Int))) v42.2.1 v42.2.2.1)
  else
  (rec v37 (IntKind.wrap .i64 ((IntKind.wrap .i64 (v38 - v40)) - (v42.1.length : Int))) (IntKind.wrap .i64 (v39 + 1)) v42.2.1 v42.2.2.1))))))))) N v31 v32 v33 0 v36.1 0))
  else
  (k0 v31 v32 v34 v35))

def law09_LockEnds_l1 (N : Nat) (R : Type) (k0 : (List Int) → Int → (List (Int × ((List UInt8) × ((List UInt8) × ((List UInt8) × (Int × Unit)))))) → (List (Int × ((List UInt8) × ((List UInt8) × ((List UInt8) × (Int × Unit)))))) → Option R) (k1 : Bool → (List Int) → Int → (List (Int × ((List UInt8) × ((List UInt8) × ((List UInt8) × (Int × Unit)))))) → (List (Int × ((List UInt8) × ((List UInt8) × ((List UInt8) × (Int × Unit)))))) → Option R) : Nat → (List Int) → Int → Int → (List (Int × ((List UInt8) × ((List UInt8) × ((List UInt8) × (Int × Unit)))))) → (List (Int × ((List UInt8) × ((List UInt8) × ((List UInt8) × (Int × Unit)))))) → Option R
  | 0 => fun _ _ _ _ _ => none
  | n + 1 => law09_LockEnds_l1B N R (law09_LockEnds_l1 N R k0 k1 n) k0 k1

def law09_LockEnds_l0B (N : Nat) (R : Type) (rec : (List (Int × ((Int × ((List UInt8) × ((List UInt8) × ((List UInt8) × (Int × Unit))))) × Unit))) → (List Int) → Int → (List (Int × ((List UInt8) × ((List UInt8) × ((List UInt8) × (Int × Unit)))))) → (List (Int × ((List UInt8) × ((List UInt8) × ((List UInt8) × (Int × Unit)))))) → Option R) (k0 : (List Int) → (List (Int × ((List UInt8) × ((List UInt8) × ((List UInt8) × (Int × Unit)))))) → (List (Int × ((List UInt8) × ((List UInt8) × ((List UInt8) × (Int × Unit)))))) → Option R) (v21 : (List (Int × ((Int × ((List UInt8) × ((List UInt8) × ((List UInt8) × (Int × Unit))))) × Unit)))) (v22 : (List Int)) (v23 : Int) (v24 : (List (Int × ((List UInt8) × ((List UInt8) × ((List UInt8) × (Int × Unit))))))) (v25 : (List (Int × ((List UInt8) × ((List UInt8) × ((List UInt8) × (Int × Unit))))))) : Option R :=
  (bif (decide (v23 < (v21.length : Int))) then
  (bif (decide (v23 < 60)) then
  (Option.bind (nth v21 v23) fun (v26 : (Int × ((Int × ((List UInt8) × ((List UInt8) × ((List UInt8) × (Int × Unit))))) × Unit))) =>
  (Option.bind (law09_short N v26.2.1.1 v26.2.1.2.1 v26.2.1.2.2.1 v26.2.1.2.2.2.1 v26.2.1.2.2.2.2.1) fun (v27 : Bool × Unit) =>
  (bif v27.1 then
  (Option.bind (nth v21 v23) fun (v28 : (Int × ((Int × ((List UInt8) × ((List UInt8) × ((List UInt8) × (Int × Unit))))) × Unit))) =>
  (bif (decide (v28.1 = 1)) then
  (Option.bind (nth v21 v23) fun (v29 : (Int × ((Int × ((List UInt8) × ((List UInt8) × ((List UInt8) × (Int × Unit))))) × Unit))) =>
  (Option.bind (lock_Locks_Ask N v29.2.1.1 v29.2.1.2.1 v29.2.1.2.2.1 v29.2.1.2.2.2.1 v29.2.1.2.2.2.2.1 v24 v25) fun (v30 : Bool × Int × (List (Int × ((List UInt8) × ((List UInt8) × ((List UInt8) × (Int × Unit)))))) × (List (Int × ((List UInt8) × ((List UInt8) × ((List UInt8) × (Int × Unit)))))) × Unit) =>
  (rec v21 v22 (IntKind.wrap .i64 (v23 + 1)) v30.2.2.1 v30.2.2.2.1)))
  else
  (rec v21 v22 (IntKind.wrap .i64 (v23 + 1)) v24 v25)))
  else
  (rec v21 v22 (IntKind.wrap .i64 (v23 + 1)) v24 v25))))
  else
  (k0 v22 v24 v25))
  else
  (k0 v22 v24 v25))

def law09_LockEnds_l0 (N : Nat) (R : Type) (k0 : (List Int) → (List (Int × ((List UInt8) × ((List UInt8) × ((List UInt8) × (Int × Unit)))))) → (List (Int × ((List UInt8) × ((List UInt8) × ((List UInt8) × (Int × Unit)))))) → Option R) : Nat → (List (Int × ((Int × ((List UInt8) × ((List UInt8) × ((List UInt8) × (Int × Unit))))) × Unit))) → (List Int) → Int → (List (Int × ((List UInt8) × ((List UInt8) × ((List UInt8) × (Int × Unit)))))) → (List (Int × ((List UInt8) × ((List UInt8) × ((List UInt8) × (Int × Unit)))))) → Option R
  | 0 => fun _ _ _ _ _ => none
  | n + 1 => law09_LockEnds_l0B N R (law09_LockEnds_l0 N R k0 n) k0

def law09_LockEnds_cps (N : Nat) (R : Type) (K : Bool → Option R) (v1 : (List (Int × ((Int × ((List UInt8) × ((List UInt8) × ((List UInt8) × (Int × Unit))))) × Unit)))) : Option R :=
  (Option.bind (lock_New N) fun (v2 : (List (Int × ((List UInt8) × ((List UInt8) × ((List UInt8) × (Int × Unit)))))) × (List (Int × ((List UInt8) × ((List UInt8) × ((List UInt8) × (Int × Unit)))))) × Unit) =>
  (Option.bind (law09_transactions N v1) fun (v3 : (List Int) × Unit) =>
  (law09_LockEnds_l0 N _ (fun (v4 : (List Int)) (v5 : (List (Int × ((List UInt8) × ((List UInt8) × ((List UInt8) × (Int × Unit))))))) (v6 : (List (Int × ((List UInt8) × ((List UInt8) × ((List UInt8) × (Int × Unit))))))) =>
  (Option.bind (lock_Locks_Waiting N v5 v6) fun (v7 : (List (Int × ((List UInt8) × ((List UInt8) × ((List UInt8) × (Int × Unit)))))) × Unit) =>
  (law09_LockEnds_l1 N _ (fun (v8 : (List Int)) (v9 : Int) (v10 : (List (Int × ((List UInt8) × ((List UInt8) × ((List UInt8) × (Int × Unit))))))) (v11 : (List (Int × ((List UInt8) × ((List UInt8) × ((List UInt8) × (Int × Unit))))))) =>
  (law09_LockEnds_l3 N _ v10 v11 (fun (v12 : Int) =>
  (Option.bind (law09_alive N) fun (v13 : Bool × Unit) =>
  (bif v13.1 then
  (K (decide (v12 = 0)))
  else
  (K false)))) (fun (v14 : Bool) (v15 : Int) =>
  (K v14)) N v8 v9 0)) (fun (v16 : Bool) (v17 : (List Int)) (v18 : Int) (v19 : (List (Int × ((List UInt8) × ((List UInt8) × ((List UInt8) × (Int × Unit))))))) (v20 : (List (Int × ((List UInt8) × ((List UInt8) × ((List UInt8) × (Int × Unit))))))) =>
  (K v16)) N v4 (v7.1.length : Int) 0 v5 v6))) N v1 v3.1 0 v2.1 v2.2.1)))

def law09_LockEnds (N : Nat) (v1 : (List (Int × ((Int × ((List UInt8) × ((List UInt8) × ((List UInt8) × (Int × Unit))))) × Unit)))) : Option (Bool × Unit) := law09_LockEnds_cps N _ (fun a0 => some (a0, ())) v1

/-- What is to be shown of the law LockEnds. -/
def LockEnds_Pure : Prop := ∀ x : denA [(.slice (.pair (.int .i64) (.pair (.pair (.int .i64) (.pair .str (.pair (.slice .byte) (.pair (.slice .byte) (.pair (.int .i64) .unit))))) .unit)))], WfA [(.slice (.pair (.int .i64) (.pair (.pair (.int .i64) (.pair .str (.pair (.slice .byte) (.pair (.slice .byte) (.pair (.int .i64) .unit))))) .unit)))] x → law09_LockEnds big x.1 = some (true, ())

end
end Go.Proofs.Ytkeejnlicagjiab.E
