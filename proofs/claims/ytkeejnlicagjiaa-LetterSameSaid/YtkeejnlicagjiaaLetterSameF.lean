/-
  The statement LetterSame of the program is proved: for every input that the row speaks of, the law answers true.
  Conditions: those that the statement's row prints, and no other. This text: pure functions, printed by a program out of the translation.
-/
import Derived.Test.YtkeejnlicagjiaaEvA
set_option linter.unusedVariables false
set_option linter.unusedSimpArgs false
/-! Pure functions, printed by wip/gen out of the translation. -/
namespace Go.Proofs.Ytkeejnlicagjiaa.E
open Go.Ev
noncomputable section
/-! frankpledge/letter.node -/
def letter_node_cps (N : Nat) (R : Type) (K : Bool → Option R) (v1 : Int) : Option R :=
  (bif (decide (0 ≤ v1)) then
  (K (decide (v1 < 16)))
  else
  (K false))

def letter_node (N : Nat) (v1 : Int) : Option (Bool × Unit) := letter_node_cps N _ (fun a0 => some (a0, ())) v1

/-! frankpledge/letter.Right$1 -/
def letter_Right_1_cps (N : Nat) (R : Type) (K : Bool → Int → Option R) (v1 : Int) (v2 : Int) : Option R :=
  (Option.bind (letter_node N v1) fun (v3 : Bool × Unit) =>
  (bif (!v3.1) then
  (K true v1)
  else
  (K (decide (v1 ≤ v2)) v1)))

def letter_Right_1 (N : Nat) (v1 : Int) (v2 : Int) : Option (Bool × Int × Unit) := letter_Right_1_cps N _ (fun a0 a1 => some (a0, (a1, ()))) v1 v2

/-! slices.IndexFunc[[]int,int] -/
def slices_IndexFunc_int_int_l0B (N : Nat) (R : Type) (rec : (List Int) → Int → Int → Int → Option R) (k0 : Int → Option R) (k1 : Int → Int → Option R) (v6 : (List Int)) (v7 : Int) (v8 : Int) (v9 : Int) : Option R :=
  (bif (decide (v8 < v7)) then
  (Option.bind (nth v6 v8) fun (v10 : Int) =>
  (Option.bind (letter_Right_1 N v10 v9) fun (v11 : Bool × Int × Unit) =>
  (bif v11.1 then
  (k1 v8 v11.2.1)
  else
  (rec v6 v7 (IntKind.wrap .i64 (v8 + 1)) v11.2.1))))
  else
  (k0 v9))

def slices_IndexFunc_int_int_l0 (N : Nat) (R : Type) (k0 : Int → Option R) (k1 : Int → Int → Option R) : Nat → (List Int) → Int → Int → Int → Option R
  | 0 => fun _ _ _ _ => none
  | n + 1 => slices_IndexFunc_int_int_l0B N R (slices_IndexFunc_int_int_l0 N R k0 k1 n) k0 k1

def slices_IndexFunc_int_int_cps (N : Nat) (R : Type) (K : Int → Int → Option R) (v1 : (List Int)) (v2 : Int) : Option R :=
  (slices_IndexFunc_int_int_l0 N _ (fun (v3 : Int) =>
  (K (-1) v3)) (fun (v4 : Int) (v5 : Int) =>
  (K v4 v5)) N v1 (v1.length : Int) 0 v2)

def slices_IndexFunc_int_int (N : Nat) (v1 : (List Int)) (v2 : Int) : Option (Int × Int × Unit) := slices_IndexFunc_int_int_cps N _ (fun a0 a1 => some (a0, (a1, ()))) v1 v2

/-! slices.ContainsFunc[[]int,int] -/
def slices_ContainsFunc_int_int_cps (N : Nat) (R : Type) (K : Bool → Int → Option R) (v1 : (List Int)) (v2 : Int) : Option R :=
  (Option.bind (slices_IndexFunc_int_int N v1 v2) fun (v3 : Int × Int × Unit) =>
  (K (decide (0 ≤ v3.1)) v3.2.1))

def slices_ContainsFunc_int_int (N : Nat) (v1 : (List Int)) (v2 : Int) : Option (Bool × Int × Unit) := slices_ContainsFunc_int_int_cps N _ (fun a0 a1 => some (a0, (a1, ()))) v1 v2

/-! frankpledge/letter.Right -/
def letter_Right_cps (N : Nat) (R : Type) (K : Bool → Option R) (v1 : Int) (v2 : Int) (v3 : Int) (v4 : Int) (v5 : (List Int)) : Option R :=
  (bif (decide (v1 < 1)) then
  (K false)
  else
  (bif (decide (8 < v1)) then
  (K false)
  else
  (Option.bind (letter_node N v2) fun (v6 : Bool × Unit) =>
  (bif (!v6.1) then
  (K false)
  else
  (Option.bind (letter_node N v3) fun (v7 : Bool × Unit) =>
  (bif (!v7.1) then
  (K false)
  else
  (bif (decide (v4 < 0)) then
  (K false)
  else
  (bif (decide (1099511627776 < v4)) then
  (K false)
  else
  (bif (!(decide (v1 = 1))) then
  (K (decide ((v5.length : Int) = 0)))
  else
  (Option.bind (slices_ContainsFunc_int_int N v5 (-1)) fun (v8 : Bool × Int × Unit) =>
  (K (!v8.1))))))))))))

def letter_Right (N : Nat) (v1 : Int) (v2 : Int) (v3 : Int) (v4 : Int) (v5 : (List Int)) : Option (Bool × Unit) := letter_Right_cps N _ (fun a0 => some (a0, ())) v1 v2 v3 v4 v5

/-! frankpledge/value.Right -/
def value_Right_cps (N : Nat) (R : Type) (K : Bool → Option R) (v1 : Int) (v2 : Int) (v3 : (List UInt8)) : Option R :=
  (bif (decide (v1 = 1)) then
  (bif (decide (v2 = 1)) then
  (K (decide (v3 = [])))
  else
  (bif (decide (v2 = 0)) then
  (K (decide (v3 = [])))
  else
  (K false)))
  else
  (bif (decide (v1 = 0)) then
  (bif (decide (v2 = 0)) then
  (K (decide (v3 = [])))
  else
  (K false))
  else
  (bif (decide (v1 = 2)) then
  (K (decide (v3 = [])))
  else
  (bif (decide (v1 = 3)) then
  (K (decide (v3 = [])))
  else
  (bif (decide (v1 = 4)) then
  (bif (decide (v2 = 0)) then
  (K (decide ((v3.length : Int) ≤ 200)))
  else
  (K false))
  else
  (bif (decide (v1 = 5)) then
  (bif (decide (v2 = 0)) then
  (K (decide ((v3.length : Int) ≤ 200)))
  else
  (K false))
  else
  (K false)))))))

def value_Right (N : Nat) (v1 : Int) (v2 : Int) (v3 : (List UInt8)) : Option (Bool × Unit) := value_Right_cps N _ (fun a0 => some (a0, ())) v1 v2 v3

/-! frankpledge/row.Short -/
def row_Short_l0B (N : Nat) (R : Type) (rec : Int → (List UInt8) → Option R) (k0 : Int → (List UInt8) → Option R) (v4 : Int) (v5 : (List UInt8)) : Option R :=
  (bif (decide (127 < v4)) then
  (bif (room 1 (v5.length + ([(UInt8.ofNat (Int.toNat (Ev.bits .or .u8 (IntKind.wrap .u8 v4) 128)))] : (List UInt8)).length)) then
  (rec (Ev.shr .u64 v4 7) (v5 ++ ([(UInt8.ofNat (Int.toNat (Ev.bits .or .u8 (IntKind.wrap .u8 v4) 128)))] : (List UInt8))))
  else
  none)
  else
  (k0 v4 v5))

def row_Short_l0 (N : Nat) (R : Type) (k0 : Int → (List UInt8) → Option R) : Nat → Int → (List UInt8) → Option R
  | 0 => fun _ _ => none
  | n + 1 => row_Short_l0B N R (row_Short_l0 N R k0 n) k0

def row_Short_cps (N : Nat) (R : Type) (K : (List UInt8) → Option R) (v1 : Int) : Option R :=
  (row_Short_l0 N _ (fun (v2 : Int) (v3 : (List UInt8)) =>
  (bif (room 1 (v3.length + ([(UInt8.ofNat (Int.toNat (IntKind.wrap .u8 v2)))] : (List UInt8)).length)) then
  (K (v3 ++ ([(UInt8.ofNat (Int.toNat (IntKind.wrap .u8 v2)))] : (List UInt8))))
  else
  none)) N (Ev.bits .xor .u64 (Ev.shl .u64 (IntKind.wrap .u64 v1) 1) (IntKind.wrap .u64 (Ev.shr .i64 v1 63))) [])

def row_Short (N : Nat) (v1 : Int) : Option ((List UInt8) × Unit) := row_Short_cps N _ (fun a0 => some (a0, ())) v1

/-! frankpledge/row.Encode -/
def row_Encode_l0B (N : Nat) (R : Type) (rec : (List UInt8) → (List (Int × (Int × ((List UInt8) × Unit)))) → Int → Int → Option R) (k0 : (List UInt8) → Option R) (k1 : Int → (List UInt8) → Option R) (v5 : (List UInt8)) (v6 : (List (Int × (Int × ((List UInt8) × Unit))))) (v7 : Int) (v8 : Int) : Option R :=
  (bif (decide (v8 < v7)) then
  (Option.bind (nth v6 v8) fun (v9 : (Int × (Int × ((List UInt8) × Unit)))) =>
  (Option.bind (value_Right N v9.1 v9.2.1 v9.2.2.1) fun (v10 : Bool × Unit) =>
  (bif (!v10.1) then
  (k1 51 v5)
  else
  (bif (room 1 (v5.length + ([(UInt8.ofNat (Int.toNat (IntKind.wrap .u8 v9.1)))] : (List UInt8)).length)) then
  (bif (decide (v9.1 = 1)) then
  (bif (room 1 ((v5 ++ ([(UInt8.ofNat (Int.toNat (IntKind.wrap .u8 v9.1)))] : (List UInt8))).length + ([(UInt8.ofNat (Int.toNat (IntKind.wrap .u8 v9.2.1)))] : (List UInt8)).length)) then
  (rec ((v5 ++ ([(UInt8.ofNat (Int.toNat (IntKind.wrap .u8 v9.1)))] : (List UInt8))) ++ ([(UInt8.ofNat (Int.toNat (IntKind.wrap .u8 v9.2.1)))] : (List UInt8))) v6 v7 (IntKind.wrap .i64 (v8 + 1)))
  else
  none)
  else
  (bif (decide (v9.1 = 2)) then
  (Option.bind (row_Short N v9.2.1) fun (v11 : (List UInt8) × Unit) =>
  (bif (room 1 ((v5 ++ ([(UInt8.ofNat (Int.toNat (IntKind.wrap .u8 v9.1)))] : (List UInt8))).length + v11.1.length)) then
  (rec ((v5 ++ ([(UInt8.ofNat (Int.toNat (IntKind.wrap .u8 v9.1)))] : (List UInt8))) ++ v11.1) v6 v7 (IntKind.wrap .i64 (v8 + 1)))
  else
  none))
  else
  (bif (decide (v9.1 = 3)) then
  (Option.bind (row_Short N v9.2.1) fun (v12 : (List UInt8) × Unit) =>
  (bif (room 1 ((v5 ++ ([(UInt8.ofNat (Int.toNat (IntKind.wrap .u8 v9.1)))] : (List UInt8))).length + v12.1.length)) then
  (rec ((v5 ++ ([(UInt8.ofNat (Int.toNat (IntKind.wrap .u8 v9.1)))] : (List UInt8))) ++ v12.1) v6 v7 (IntKind.wrap .i64 (v8 + 1)))
  else
  none))
  else
  (bif (decide (v9.1 = 4)) then
  (Option.bind (row_Short N (v9.2.2.1.length : Int)) fun (v13 : (List UInt8) × Unit) =>
  (bif (room 1 ((v5 ++ ([(UInt8.ofNat (Int.toNat (IntKind.wrap .u8 v9.1)))] : (List UInt8))).length + v13.1.length)) then
  (bif (room 1 (((v5 ++ ([(UInt8.ofNat (Int.toNat (IntKind.wrap .u8 v9.1)))] : (List UInt8))) ++ v13.1).length + v9.2.2.1.length)) then
  (rec (((v5 ++ ([(UInt8.ofNat (Int.toNat (IntKind.wrap .u8 v9.1)))] : (List UInt8))) ++ v13.1) ++ v9.2.2.1) v6 v7 (IntKind.wrap .i64 (v8 + 1)))
  else
  none)
  else
  none))
  else
  (bif (decide (v9.1 = 5)) then
  (Option.bind (row_Short N (v9.2.2.1.length : Int)) fun (v14 : (List UInt8) × Unit) =>
  (bif (room 1 ((v5 ++ ([(UInt8.ofNat (Int.toNat (IntKind.wrap .u8 v9.1)))] : (List UInt8))).length + v14.1.length)) then
  (bif (room 1 (((v5 ++ ([(UInt8.ofNat (Int.toNat (IntKind.wrap .u8 v9.1)))] : (List UInt8))) ++ v14.1).length + v9.2.2.1.length)) then
  (rec (((v5 ++ ([(UInt8.ofNat (Int.toNat (IntKind.wrap .u8 v9.1)))] : (List UInt8))) ++ v14.1) ++ v9.2.2.1) v6 v7 (IntKind.wrap .i64 (v8 + 1)))
  else
  none)
  else
  none))
  else
  (rec (v5 ++ ([(UInt8.ofNat (Int.toNat (IntKind.wrap .u8 v9.1)))] : (List UInt8))) v6 v7 (IntKind.wrap .i64 (v8 + 1))))))))
  else
  none))))
  else
  (k0 v5))

def row_Encode_l0 (N : Nat) (R : Type) (k0 : (List UInt8) → Option R) (k1 : Int → (List UInt8) → Option R) : Nat → (List UInt8) → (List (Int × (Int × ((List UInt8) × Unit)))) → Int → Int → Option R
  | 0 => fun _ _ _ _ => none
  | n + 1 => row_Encode_l0B N R (row_Encode_l0 N R k0 k1 n) k0 k1

def row_Encode_cps (N : Nat) (R : Type) (K : (List UInt8) → Int → Option R) (v1 : (List (Int × (Int × ((List UInt8) × Unit))))) : Option R :=
  (bif (decide (16 < (v1.length : Int))) then
  (K [] 51)
  else
  (row_Encode_l0 N _ (fun (v2 : (List UInt8)) =>
  (K v2 0)) (fun (v3 : Int) (v4 : (List UInt8)) =>
  (K [] v3)) N ([(UInt8.ofNat (Int.toNat (IntKind.wrap .u8 (v1.length : Int))))] : (List UInt8)) v1 (v1.length : Int) 0))

def row_Encode (N : Nat) (v1 : (List (Int × (Int × ((List UInt8) × Unit))))) : Option ((List UInt8) × Int × Unit) := row_Encode_cps N _ (fun a0 a1 => some (a0, (a1, ()))) v1

/-! frankpledge/letter.Encode -/
def letter_Encode_l1B (N : Nat) (R : Type) (rec : (List (Int × (Int × ((List UInt8) × Unit)))) → (List Int) → Int → Int → Int → Int → Int → Int → (List Int) → Option R) (k0 : (List (Int × (Int × ((List UInt8) × Unit)))) → Int → Int → Int → Int → (List Int) → Option R) (v30 : (List (Int × (Int × ((List UInt8) × Unit))))) (v31 : (List Int)) (v32 : Int) (v33 : Int) (v34 : Int) (v35 : Int) (v36 : Int) (v37 : Int) (v38 : (List Int)) : Option R :=
  (bif (decide (v33 < v32)) then
  (Option.bind (nth v31 v33) fun (v39 : Int) =>
  (bif (room 32 (v30.length + ([(2, (v39, ([], ())))] : (List (Int × (Int × ((List UInt8) × Unit))))).length)) then
  (rec (v30 ++ ([(2, (v39, ([], ())))] : (List (Int × (Int × ((List UInt8) × Unit)))))) v31 v32 (IntKind.wrap .i64 (v33 + 1)) v34 v35 v36 v37 v38)
  else
  none))
  else
  (k0 v30 v34 v35 v36 v37 v38))

def letter_Encode_l1 (N : Nat) (R : Type) (k0 : (List (Int × (Int × ((List UInt8) × Unit)))) → Int → Int → Int → Int → (List Int) → Option R) : Nat → (List (Int × (Int × ((List UInt8) × Unit)))) → (List Int) → Int → Int → Int → Int → Int → Int → (List Int) → Option R
  | 0 => fun _ _ _ _ _ _ _ _ _ => none
  | n + 1 => letter_Encode_l1B N R (letter_Encode_l1 N R k0 n) k0

def letter_Encode_l0B (N : Nat) (R : Type) (rec : Int → (List Int) → Int → Int → Int → Int → Int → Int → (List Int) → Option R) (k0 : Int → Int → Int → Int → Int → (List Int) → Option R) (v20 : Int) (v21 : (List Int)) (v22 : Int) (v23 : Int) (v24 : Int) (v25 : Int) (v26 : Int) (v27 : Int) (v28 : (List Int)) : Option R :=
  (bif (decide (v23 < v22)) then
  (Option.bind (nth v21 v23) fun (v29 : Int) =>
  (bif (decide (0 ≤ v29)) then
  (rec (Ev.bits .or .i64 v20 (Ev.shl .i64 1 v29)) v21 v22 (IntKind.wrap .i64 (v23 + 1)) v24 v25 v26 v27 v28)
  else
  none))
  else
  (k0 v20 v24 v25 v26 v27 v28))

def letter_Encode_l0 (N : Nat) (R : Type) (k0 : Int → Int → Int → Int → Int → (List Int) → Option R) : Nat → Int → (List Int) → Int → Int → Int → Int → Int → Int → (List Int) → Option R
  | 0 => fun _ _ _ _ _ _ _ _ _ => none
  | n + 1 => letter_Encode_l0B N R (letter_Encode_l0 N R k0 n) k0

def letter_Encode_cps (N : Nat) (R : Type) (K : (List UInt8) → Int → Option R) (v1 : Int) (v2 : Int) (v3 : Int) (v4 : Int) (v5 : (List Int)) : Option R :=
  (Option.bind (letter_Right N v1 v2 v3 v4 v5) fun (v6 : Bool × Unit) =>
  (bif (!v6.1) then
  (K [] 111)
  else
  (letter_Encode_l0 N _ (fun (v7 : Int) (v8 : Int) (v9 : Int) (v10 : Int) (v11 : Int) (v12 : (List Int)) =>
  (letter_Encode_l1 N _ (fun (v13 : (List (Int × (Int × ((List UInt8) × Unit))))) (v14 : Int) (v15 : Int) (v16 : Int) (v17 : Int) (v18 : (List Int)) =>
  (Option.bind (row_Encode N v13) fun (v19 : (List UInt8) × Int × Unit) =>
  (K v19.1 v19.2.1))) N [] ([v8, v9, v10, v11, v7] : (List Int)) (([v8, v9, v10, v11, v7] : (List Int)).length : Int) 0 v8 v9 v10 v11 v12)) N 0 v5 (v5.length : Int) 0 v1 v2 v3 v4 v5)))

def letter_Encode (N : Nat) (v1 : Int) (v2 : Int) (v3 : Int) (v4 : Int) (v5 : (List Int)) : Option ((List UInt8) × Int × Unit) := letter_Encode_cps N _ (fun a0 a1 => some (a0, (a1, ()))) v1 v2 v3 v4 v5

/-! frankpledge/frankpledgelaw11.alive -/
def law11_alive_cps (N : Nat) (R : Type) (K : Bool → Option R)  : Option R :=
  (Option.bind (letter_Encode N 1 1 2 3 ([0, 2] : (List Int))) fun (v1 : (List UInt8) × Int × Unit) =>
  (bif (decide (v1.2.1 = 0)) then
  (K (decide (v1.1 = [5, 2, 2, 2, 2, 2, 4, 2, 6, 2, 10])))
  else
  (K false)))

def law11_alive (N : Nat)  : Option (Bool × Unit) := law11_alive_cps N _ (fun a0 => some (a0, ())) 

/-! slices.Equal[[]int,int] -/
def slices_Equal_int_int_l0B (N : Nat) (R : Type) (rec : (List Int) → (List Int) → Int → Int → Option R) (k0 : Option R) (k1 : Bool → Option R) (v4 : (List Int)) (v5 : (List Int)) (v6 : Int) (v7 : Int) : Option R :=
  (bif (decide (v7 < v6)) then
  (Option.bind (nth v4 v7) fun (v8 : Int) =>
  (Option.bind (nth v5 v7) fun (v9 : Int) =>
  (bif (!(decide (v8 = v9))) then
  (k1 false)
  else
  (rec v4 v5 v6 (IntKind.wrap .i64 (v7 + 1))))))
  else
  k0)

def slices_Equal_int_int_l0 (N : Nat) (R : Type) (k0 : Option R) (k1 : Bool → Option R) : Nat → (List Int) → (List Int) → Int → Int → Option R
  | 0 => fun _ _ _ _ => none
  | n + 1 => slices_Equal_int_int_l0B N R (slices_Equal_int_int_l0 N R k0 k1 n) k0 k1

def slices_Equal_int_int_cps (N : Nat) (R : Type) (K : Bool → Option R) (v1 : (List Int)) (v2 : (List Int)) : Option R :=
  (bif (!(decide ((v1.length : Int) = (v2.length : Int)))) then
  (K false)
  else
  (slices_Equal_int_int_l0 N _ ((K true)) (fun (v3 : Bool) =>
  (K v3)) N v1 v2 (v1.length : Int) 0))

def slices_Equal_int_int (N : Nat) (v1 : (List Int)) (v2 : (List Int)) : Option (Bool × Unit) := slices_Equal_int_int_cps N _ (fun a0 => some (a0, ())) v1 v2

/-! frankpledge/letter.Same -/
def letter_Same_cps (N : Nat) (R : Type) (K : Bool → Option R) (v1 : Int) (v2 : Int) (v3 : Int) (v4 : Int) (v5 : (List Int)) (v6 : Int) (v7 : Int) (v8 : Int) (v9 : Int) (v10 : (List Int)) : Option R :=
  (bif (decide (v1 = v6)) then
  (bif (decide (v2 = v7)) then
  (bif (decide (v3 = v8)) then
  (bif (decide (v4 = v9)) then
  (Option.bind (slices_Equal_int_int N v5 v10) fun (v11 : Bool × Unit) =>
  (K v11.1))
  else
  (K false))
  else
  (K false))
  else
  (K false))
  else
  (K false))

def letter_Same (N : Nat) (v1 : Int) (v2 : Int) (v3 : Int) (v4 : Int) (v5 : (List Int)) (v6 : Int) (v7 : Int) (v8 : Int) (v9 : Int) (v10 : (List Int)) : Option (Bool × Unit) := letter_Same_cps N _ (fun a0 => some (a0, ())) v1 v2 v3 v4 v5 v6 v7 v8 v9 v10

/-! frankpledge/frankpledgeref11.Same -/
def ref11_Same_l0B (N : Nat) (R : Type) (rec : Int → Int → Int → Int → Int → (List Int) → Int → Int → Int → Int → (List Int) → Option R) (k0 : Int → Int → Int → Int → (List Int) → Int → Int → Int → Int → (List Int) → Option R) (k1 : Bool → Int → Int → Int → Int → (List Int) → Int → Int → Int → Int → (List Int) → Option R) (v32 : Int) (v33 : Int) (v34 : Int) (v35 : Int) (v36 : Int) (v37 : (List Int)) (v38 : Int) (v39 : Int) (v40 : Int) (v41 : Int) (v42 : (List Int)) : Option R :=
  (bif (decide (v32 < (v37.length : Int))) then
  (Option.bind (nth v37 v32) fun (v43 : Int) =>
  (Option.bind (nth v42 v32) fun (v44 : Int) =>
  (bif (!(decide (v43 = v44))) then
  (k1 false v33 v34 v35 v36 v37 v38 v39 v40 v41 v42)
  else
  (rec (IntKind.wrap .i64 (v32 + 1)) v33 v34 v35 v36 v37 v38 v39 v40 v41 v42))))
  else
  (k0 v33 v34 v35 v36 v37 v38 v39 v40 v41 v42))

def ref11_Same_l0 (N : Nat) (R : Type) (k0 : Int → Int → Int → Int → (List Int) → Int → Int → Int → Int → (List Int) → Option R) (k1 : Bool → Int → Int → Int → Int → (List Int) → Int → Int → Int → Int → (List Int) → Option R) : Nat → Int → Int → Int → Int → Int → (List Int) → Int → Int → Int → Int → (List Int) → Option R
  | 0 => fun _ _ _ _ _ _ _ _ _ _ _ => none
  | n + 1 => ref11_Same_l0B N R (ref11_Same_l0 N R k0 k1 n) k0 k1

def ref11_Same_cps (N : Nat) (R : Type) (K : Bool → Option R) (v1 : Int) (v2 : Int) (v3 : Int) (v4 : Int) (v5 : (List Int)) (v6 : Int) (v7 : Int) (v8 : Int) (v9 : Int) (v10 : (List Int)) : Option R :=
  (bif (!(decide (v1 = v6))) then
  (K false)
  else
  (bif (!(decide (v2 = v7))) then
  (K false)
  else
  (bif (!(decide (v3 = v8))) then
  (K false)
  else
  (bif (!(decide (v4 = v9))) then
  (K false)
  else
  (bif (!(decide ((v5.length : Int) = (v10.length : Int)))) then
  (K false)
  else
  (ref11_Same_l0 N _ (fun (v11 : Int) (v12 : Int) (v13 : Int) (v14 : Int) (v15 : (List Int)) (v16 : Int) (v17 : Int) (v18 : Int) (v19 : Int) (v20 : (List Int)) =>
  (K true)) (fun (v21 : Bool) (v22 : Int) (v23 : Int) (v24 : Int) (v25 : Int) (v26 : (List Int)) (v27 : Int) (v28 : Int) (v29 : Int) (v30 : Int) (v31 : (List Int)) =>
  (K v21)) N 0 v1 v2 v3 v4 v5 v6 v7 v8 v9 v10))))))

def ref11_Same (N : Nat) (v1 : Int) (v2 : Int) (v3 : Int) (v4 : Int) (v5 : (List Int)) (v6 : Int) (v7 : Int) (v8 : Int) (v9 : Int) (v10 : (List Int)) : Option (Bool × Unit) := ref11_Same_cps N _ (fun a0 => some (a0, ())) v1 v2 v3 v4 v5 v6 v7 v8 v9 v10

/-! frankpledge/frankpledgelaw11.LetterSame -/
def law11_LetterSame_cps (N : Nat) (R : Type) (K : Bool → Option R) (v1 : Int) (v2 : Int) (v3 : Int) (v4 : Int) (v5 : (List Int)) (v6 : Int) (v7 : Int) (v8 : Int) (v9 : Int) (v10 : (List Int)) : Option R :=
  (bif (decide (300 < (v5.length : Int))) then
  (Option.bind (law11_alive N) fun (v11 : Bool × Unit) =>
  (K v11.1))
  else
  (bif (decide (300 < (v10.length : Int))) then
  (Option.bind (law11_alive N) fun (v12 : Bool × Unit) =>
  (K v12.1))
  else
  (Option.bind (letter_Same N v1 v2 v3 v4 v5 v6 v7 v8 v9 v10) fun (v13 : Bool × Unit) =>
  (Option.bind (ref11_Same N v1 v2 v3 v4 v5 v6 v7 v8 v9 v10) fun (v14 : Bool × Unit) =>
  (bif (!(v13.1 == v14.1)) then
  (K false)
  else
  (Option.bind (letter_Same N v6 v7 v8 v9 v10 v1 v2 v3 v4 v5) fun (v15 : Bool × Unit) =>
  (bif (!(v13.1 == v15.1)) then
  (K false)
  else
  (Option.bind (letter_Same N v1 v2 v3 v4 v5 v1 v2 v3 v4 v5) fun (v16 : Bool × Unit) =>
  (bif (!v16.1) then
  (K false)
  else
  (Option.bind (letter_Encode N v1 v2 v3 v4 v5) fun (v17 : (List UInt8) × Int × Unit) =>
  (Option.bind (letter_Encode N v6 v7 v8 v9 v10) fun (v18 : (List UInt8) × Int × Unit) =>
  (Option.bind (law11_alive N) fun (v19 : Bool × Unit) =>
  (bif v19.1 then
  (bif (!(decide (v17.2.1 = 0))) then
  (K true)
  else
  (bif (!(decide (v18.2.1 = 0))) then
  (K true)
  else
  (K (v13.1 == (decide (v17.1 = v18.1))))))
  else
  (K false))))))))))))))

def law11_LetterSame (N : Nat) (v1 : Int) (v2 : Int) (v3 : Int) (v4 : Int) (v5 : (List Int)) (v6 : Int) (v7 : Int) (v8 : Int) (v9 : Int) (v10 : (List Int)) : Option (Bool × Unit) := law11_LetterSame_cps N _ (fun a0 => some (a0, ())) v1 v2 v3 v4 v5 v6 v7 v8 v9 v10

/-- What is to be shown of the law LetterSame. -/
def LetterSame_Pure : Prop := ∀ x : denA [(.pair (.int .i64) (.pair (.int .i64) (.pair (.int .i64) (.pair (.int .i64) (.pair (.slice (.int .i64)) .unit))))), (.pair (.int .i64) (.pair (.int .i64) (.pair (.int .i64) (.pair (.int .i64) (.pair (.slice (.int .i64)) .unit)))))], WfA [(.pair (.int .i64) (.pair (.int .i64) (.pair (.int .i64) (.pair (.int .i64) (.pair (.slice (.int .i64)) .unit))))), (.pair (.int .i64) (.pair (.int .i64) (.pair (.int .i64) (.pair (.int .i64) (.pair (.slice (.int .i64)) .unit)))))] x → law11_LetterSame big x.1.1 x.1.2.1 x.1.2.2.1 x.1.2.2.2.1 x.1.2.2.2.2.1 x.2.1.1 x.2.1.2.1 x.2.1.2.2.1 x.2.1.2.2.2.1 x.2.1.2.2.2.2.1 = some (true, ())

end
end Go.Proofs.Ytkeejnlicagjiaa.E
