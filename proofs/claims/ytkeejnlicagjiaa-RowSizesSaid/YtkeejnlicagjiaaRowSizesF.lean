/-
  The statement RowSizes of the program is proved: for every input that the row speaks of, the law answers true.
  Conditions: those that the statement's row prints, and no other. This text: pure functions, printed by a program out of the translation.
-/
import Derived.Test.YtkeejnlicagjiaaEvA
set_option linter.unusedVariables false
set_option linter.unusedSimpArgs false
/-! Pure functions, printed by wip/gen out of the translation. -/
namespace Go.Proofs.Ytkeejnlicagjiaa.E
open Go.Ev
noncomputable section
/-! frankpledge/frankpledgelaw05.few -/
def law05_few_l0B (N : Nat) (R : Type) (rec : (List (Int × (Int × ((List UInt8) × Unit)))) → Int → Option R) (k0 : Option R) (k1 : Bool → Option R) (v3 : (List (Int × (Int × ((List UInt8) × Unit))))) (v4 : Int) : Option R :=
  (bif (decide (v4 < (v3.length : Int))) then
  (bif (decide (v4 = 20)) then
  (k1 false)
  else
  (Option.bind (nth v3 v4) fun (v5 : (Int × (Int × ((List UInt8) × Unit)))) =>
  (bif (decide (500 < (v5.2.2.1.length : Int))) then
  (k1 false)
  else
  (rec v3 (IntKind.wrap .i64 (v4 + 1))))))
  else
  k0)

def law05_few_l0 (N : Nat) (R : Type) (k0 : Option R) (k1 : Bool → Option R) : Nat → (List (Int × (Int × ((List UInt8) × Unit)))) → Int → Option R
  | 0 => fun _ _ => none
  | n + 1 => law05_few_l0B N R (law05_few_l0 N R k0 k1 n) k0 k1

def law05_few_cps (N : Nat) (R : Type) (K : Bool → Option R) (v1 : (List (Int × (Int × ((List UInt8) × Unit))))) : Option R :=
  (law05_few_l0 N _ ((K true)) (fun (v2 : Bool) =>
  (K v2)) N v1 0)

def law05_few (N : Nat) (v1 : (List (Int × (Int × ((List UInt8) × Unit))))) : Option (Bool × Unit) := law05_few_cps N _ (fun a0 => some (a0, ())) v1

/-! frankpledge/value.Right -/
def value_Right_cps (N : Nat) (R : Type) (K : Bool → Option R) (v1 : Int) (v2 : Int) (v3 : (List UInt8)) : Option R :=
  (bif (decide (v1 = 1)) then
  (bif (decide (v2 = 1)) then
  (K (decide (v3 = [])))
  else
  (bif (decide (v2 = 0)) then
  (K (decide (v3 = [])))
  else
  (K false)))
  else
  (bif (decide (v1 = 0)) then
  (bif (decide (v2 = 0)) then
  (K (decide (v3 = [])))
  else
  (K false))
  else
  (bif (decide (v1 = 2)) then
  (K (decide (v3 = [])))
  else
  (bif (decide (v1 = 3)) then
  (K (decide (v3 = [])))
  else
  (bif (decide (v1 = 4)) then
  (bif (decide (v2 = 0)) then
  (K (decide ((v3.length : Int) ≤ 200)))
  else
  (K false))
  else
  (bif (decide (v1 = 5)) then
  (bif (decide (v2 = 0)) then
  (K (decide ((v3.length : Int) ≤ 200)))
  else
  (K false))
  else
  (K false)))))))

def value_Right (N : Nat) (v1 : Int) (v2 : Int) (v3 : (List UInt8)) : Option (Bool × Unit) := value_Right_cps N _ (fun a0 => some (a0, ())) v1 v2 v3

/-! frankpledge/row.Short -/
def row_Short_l0B (N : Nat) (R : Type) (rec : Int → (List UInt8) → Option R) (k0 : Int → (List UInt8) → Option R) (v4 : Int) (v5 : (List UInt8)) : Option R :=
  (bif (decide (127 < v4)) then
  (bif (room 1 (v5.length + [(UInt8.ofNat (Int.toNat (Ev.bits .or .u8 (IntKind.wrap .u8 v4) 128)))].length)) then
  (rec (Ev.shr .u64 v4 7) (v5 ++ [(UInt8.ofNat (Int.toNat (Ev.bits .or .u8 (IntKind.wrap .u8 v4) 128)))]))
  else
  none)
  else
  (k0 v4 v5))

def row_Short_l0 (N : Nat) (R : Type) (k0 : Int → (List UInt8) → Option R) : Nat → Int → (List UInt8) → Option R
  | 0 => fun _ _ => none
  | n + 1 => row_Short_l0B N R (row_Short_l0 N R k0 n) k0

def row_Short_cps (N : Nat) (R : Type) (K : (List UInt8) → Option R) (v1 : Int) : Option R :=
  (row_Short_l0 N _ (fun (v2 : Int) (v3 : (List UInt8)) =>
  (bif (room 1 (v3.length + [(UInt8.ofNat (Int.toNat (IntKind.wrap .u8 v2)))].length)) then
  (K (v3 ++ [(UInt8.ofNat (Int.toNat (IntKind.wrap .u8 v2)))]))
  else
  none)) N (Ev.bits .xor .u64 (Ev.shl .u64 (IntKind.wrap .u64 v1) 1) (IntKind.wrap .u64 (Ev.shr .i64 v1 63))) [])

def row_Short (N : Nat) (v1 : Int) : Option ((List UInt8) × Unit) := row_Short_cps N _ (fun a0 => some (a0, ())) v1

/-! frankpledge/row.Encode -/
def row_Encode_l0B (N : Nat) (R : Type) (rec : (List UInt8) → (List (Int × (Int × ((List UInt8) × Unit)))) → Int → Int → Option R) (k0 : (List UInt8) → Option R) (k1 : Int → (List UInt8) → Option R) (v5 : (List UInt8)) (v6 : (List (Int × (Int × ((List UInt8) × Unit))))) (v7 : Int) (v8 : Int) : Option R :=
  (bif (decide (v8 < v7)) then
  (Option.bind (nth v6 v8) fun (v9 : (Int × (Int × ((List UInt8) × Unit)))) =>
  (Option.bind (value_Right N v9.1 v9.2.1 v9.2.2.1) fun (v10 : Bool × Unit) =>
  (bif (!v10.1) then
  (k1 51 v5)
  else
  (bif (room 1 (v5.length + [(UInt8.ofNat (Int.toNat (IntKind.wrap .u8 v9.1)))].length)) then
  (bif (decide (v9.1 = 1)) then
  (bif (room 1 ((v5 ++ [(UInt8.ofNat (Int.toNat (IntKind.wrap .u8 v9.1)))]).length + [(UInt8.ofNat (Int.toNat (IntKind.wrap .u8 v9.2.1)))].length)) then
  (rec ((v5 ++ [(UInt8.ofNat (Int.toNat (IntKind.wrap .u8 v9.1)))]) ++ [(UInt8.ofNat (Int.toNat (IntKind.wrap .u8 v9.2.1)))]) v6 v7 (IntKind.wrap .i64 (v8 + 1)))
  else
  none)
  else
  (bif (decide (v9.1 = 2)) then
  (Option.bind (row_Short N v9.2.1) fun (v11 : (List UInt8) × Unit) =>
  (bif (room 1 ((v5 ++ [(UInt8.ofNat (Int.toNat (IntKind.wrap .u8 v9.1)))]).length + v11.1.length)) then
  (rec ((v5 ++ [(UInt8.ofNat (Int.toNat (IntKind.wrap .u8 v9.1)))]) ++ v11.1) v6 v7 (IntKind.wrap .i64 (v8 + 1)))
  else
  none))
  else
  (bif (decide (v9.1 = 3)) then
  (Option.bind (row_Short N v9.2.1) fun (v12 : (List UInt8) × Unit) =>
  (bif (room 1 ((v5 ++ [(UInt8.ofNat (Int.toNat (IntKind.wrap .u8 v9.1)))]).length + v12.1.length)) then
  (rec ((v5 ++ [(UInt8.ofNat (Int.toNat (IntKind.wrap .u8 v9.1)))]) ++ v12.1) v6 v7 (IntKind.wrap .i64 (v8 + 1)))
  else
  none))
  else
  (bif (decide (v9.1 = 4)) then
  (Option.bind (row_Short N (v9.2.2.1.length : Int)) fun (v13 : (List UInt8) × Unit) =>
  (bif (room 1 ((v5 ++ [(UInt8.ofNat (Int.toNat (IntKind.wrap .u8 v9.1)))]).length + v13.1.length)) then
  (bif (room 1 (((v5 ++ [(UInt8.ofNat (Int.toNat (IntKind.wrap .u8 v9.1)))]) ++ v13.1).length + v9.2.2.1.length)) then
  (rec (((v5 ++ [(UInt8.ofNat (Int.toNat (IntKind.wrap .u8 v9.1)))]) ++ v13.1) ++ v9.2.2.1) v6 v7 (IntKind.wrap .i64 (v8 + 1)))
  else
  none)
  else
  none))
  else
  (bif (decide (v9.1 = 5)) then
  (Option.bind (row_Short N (v9.2.2.1.length : Int)) fun (v14 : (List UInt8) × Unit) =>
  (bif (room 1 ((v5 ++ [(UInt8.ofNat (Int.toNat (IntKind.wrap .u8 v9.1)))]).length + v14.1.length)) then
  (bif (room 1 (((v5 ++ [(UInt8.ofNat (Int.toNat (IntKind.wrap .u8 v9.1)))]) ++ v14.1).length + v9.2.2.1.length)) then
  (rec (((v5 ++ [(UInt8.ofNat (Int.toNat (IntKind.wrap .u8 v9.1)))]) ++ v14.1) ++ v9.2.2.1) v6 v7 (IntKind.wrap .i64 (v8 + 1)))
  else
  none)
  else
  none))
  else
  (rec (v5 ++ [(UInt8.ofNat (Int.toNat (IntKind.wrap .u8 v9.1)))]) v6 v7 (IntKind.wrap .i64 (v8 + 1))))))))
  else
  none))))
  else
  (k0 v5))

def row_Encode_l0 (N : Nat) (R : Type) (k0 : (List UInt8) → Option R) (k1 : Int → (List UInt8) → Option R) : Nat → (List UInt8) → (List (Int × (Int × ((List UInt8) × Unit)))) → Int → Int → Option R
  | 0 => fun _ _ _ _ => none
  | n + 1 => row_Encode_l0B N R (row_Encode_l0 N R k0 k1 n) k0 k1

def row_Encode_cps (N : Nat) (R : Type) (K : (List UInt8) → Int → Option R) (v1 : (List (Int × (Int × ((List UInt8) × Unit))))) : Option R :=
  (bif (decide (16 < (v1.length : Int))) then
  (K [] 51)
  else
  (row_Encode_l0 N _ (fun (v2 : (List UInt8)) =>
  (K v2 0)) (fun (v3 : Int) (v4 : (List UInt8)) =>
  (K [] v3)) N [(UInt8.ofNat (Int.toNat (IntKind.wrap .u8 (v1.length : Int))))] v1 (v1.length : Int) 0))

def row_Encode (N : Nat) (v1 : (List (Int × (Int × ((List UInt8) × Unit))))) : Option ((List UInt8) × Int × Unit) := row_Encode_cps N _ (fun a0 a1 => some (a0, (a1, ()))) v1

/-! frankpledge/frankpledgelaw05.alive -/
def law05_alive_cps (N : Nat) (R : Type) (K : Bool → Option R)  : Option R :=
  (Option.bind (row_Encode N [(2, ((-65), ([], ()))), (4, (0, ([97], ())))]) fun (v1 : (List UInt8) × Int × Unit) =>
  (bif (decide (v1.2.1 = 0)) then
  (K (decide (v1.1 = [2, 2, 129, 1, 4, 2, 97])))
  else
  (K false)))

def law05_alive (N : Nat)  : Option (Bool × Unit) := law05_alive_cps N _ (fun a0 => some (a0, ())) 

/-! frankpledge/frankpledgelaw05.RowSizes -/
def law05_RowSizes_l0B (N : Nat) (R : Type) (rec : (List (Int × (Int × ((List UInt8) × Unit)))) → (List UInt8) → Int → Int → Option R) (k0 : (List (Int × (Int × ((List UInt8) × Unit)))) → (List UInt8) → Int → Option R) (v11 : (List (Int × (Int × ((List UInt8) × Unit))))) (v12 : (List UInt8)) (v13 : Int) (v14 : Int) : Option R :=
  (bif (decide (v14 < (v11.length : Int))) then
  (Option.bind (nth v11 v14) fun (v15 : (Int × (Int × ((List UInt8) × Unit)))) =>
  (bif (decide (v15.1 = 1)) then
  (rec v11 v12 (IntKind.wrap .i64 ((IntKind.wrap .i64 (v13 + 1)) + 1)) (IntKind.wrap .i64 (v14 + 1)))
  else
  (bif (decide (v15.1 = 2)) then
  (Option.bind (nth v11 v14) fun (v16 : (Int × (Int × ((List UInt8) × Unit)))) =>
  (Option.bind (row_Short N v16.2.1) fun (v17 : (List UInt8) × Unit) =>
  (rec v11 v12 (IntKind.wrap .i64 ((IntKind.wrap .i64 (v13 + 1)) + (v17.1.length : Int))) (IntKind.wrap .i64 (v14 + 1)))))
  else
  (bif (decide (v15.1 = 3)) then
  (Option.bind (nth v11 v14) fun (v18 : (Int × (Int × ((List UInt8) × Unit)))) =>
  (Option.bind (row_Short N v18.2.1) fun (v19 : (List UInt8) × Unit) =>
  (rec v11 v12 (IntKind.wrap .i64 ((IntKind.wrap .i64 (v13 + 1)) + (v19.1.length : Int))) (IntKind.wrap .i64 (v14 + 1)))))
  else
  (bif (decide (v15.1 = 4)) then
  (Option.bind (nth v11 v14) fun (v20 : (Int × (Int × ((List UInt8) × Unit)))) =>
  (Option.bind (row_Short N (v20.2.2.1.length : Int)) fun (v21 : (List UInt8) × Unit) =>
  (Option.bind (nth v11 v14) fun (v22 : (Int × (Int × ((List UInt8) × Unit)))) =>
  (rec v11 v12 (IntKind.wrap .i64 ((IntKind.wrap .i64 ((IntKind.wrap .i64 (v13 + 1)) + (v21.1.length : Int))) + (v22.2.2.1.length : Int))) (IntKind.wrap .i64 (v14 + 1))))))
  else
  (bif (decide (v15.1 = 5)) then
  (Option.bind (nth v11 v14) fun (v23 : (Int × (Int × ((List UInt8) × Unit)))) =>
  (Option.bind (row_Short N (v23.2.2.1.length : Int)) fun (v24 : (List UInt8) × Unit) =>
  (Option.bind (nth v11 v14) fun (v25 : (Int × (Int × ((List UInt8) × Unit)))) =>
  (rec v11 v12 (IntKind.wrap .i64 ((IntKind.wrap .i64 ((IntKind.wrap .i64 (v13 + 1)) + (v24.1.length : Int))) + (v25.2.2.1.length : Int))) (IntKind.wrap .i64 (v14 + 1))))))
  else
  (rec v11 v12 (IntKind.wrap .i64 (v13 + 1)) (IntKind.wrap .i64 (v14 + 1)))))))))
  else
  (k0 v11 v12 v13))

def law05_RowSizes_l0 (N : Nat) (R : Type) (k0 : (List (Int × (Int × ((List UInt8) × Unit)))) → (List UInt8) → Int → Option R) : Nat → (List (Int × (Int × ((List UInt8) × Unit)))) → (List UInt8) → Int → Int → Option R
  | 0 => fun _ _ _ _ => none
  | n + 1 => law05_RowSizes_l0B N R (law05_RowSizes_l0 N R k0 n) k0

def law05_RowSizes_cps (N : Nat) (R : Type) (K : Bool → Option R) (v1 : (List (Int × (Int × ((List UInt8) × Unit))))) : Option R :=
  (Option.bind (law05_few N v1) fun (v2 : Bool × Unit) =>
  (Option.bind (row_Encode N v1) fun (v3 : (List UInt8) × Int × Unit) =>
  (bif (!v2.1) then
  (Option.bind (law05_alive N) fun (v4 : Bool × Unit) =>
  (K v4.1))
  else
  (bif (!(decide (v3.2.1 = 0))) then
  (Option.bind (law05_alive N) fun (v5 : Bool × Unit) =>
  (K v5.1))
  else
  (law05_RowSizes_l0 N _ (fun (v6 : (List (Int × (Int × ((List UInt8) × Unit))))) (v7 : (List UInt8)) (v8 : Int) =>
  (Option.bind (law05_alive N) fun (v9 : Bool × Unit) =>
  (bif v9.1 then
  (bif (decide ((v7.length : Int) = v8)) then
  (Option.bind (nth v7 0) fun (v10 : UInt8) =>
  (K (decide ((IntKind.wrap .i64 (v10.toNat : Int)) = (v6.length : Int)))))
  else
  (K false))
  else
  (K false)))) N v1 v3.1 1 0)))))

def law05_RowSizes (N : Nat) (v1 : (List (Int × (Int × ((List UInt8) × Unit))))) : Option (Bool × Unit) := law05_RowSizes_cps N _ (fun a0 => some (a0, ())) v1

/-- What is to be shown of the law RowSizes. -/
def RowSizes_Pure : Prop := ∀ x : denA [(.slice (.pair (.int .i64) (.pair (.int .i64) (.pair .str .unit))))], WfA [(.slice (.pair (.int .i64) (.pair (.int .i64) (.pair .str .unit))))] x → law05_RowSizes big x.1 = some (true, ())

end
end Go.Proofs.Ytkeejnlicagjiaa.E
