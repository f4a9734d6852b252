/-
  The statement LetterBack of the program is proved: for every input that the row speaks of, the law answers true.
  Conditions: those that the statement's row prints, and no other. This text: pure functions, printed by a program out of the translation.
-/
import Derived.Test.YtfeidmgfninmmaaEvA
set_option linter.unusedVariables false
set_option linter.unusedSimpArgs false
/-! Pure functions, printed by wip/gen out of the translation. -/
namespace Go.Proofs.Ytfeidmgfninmmaa.E
open Go.Ev
noncomputable section
def bs0 : List UInt8 := [0, 1, 2, 2, 3, 3, 3, 3, 4, 4, 4, 4, 4, 4, 4, 4, 5, 5, 5, 5, 5, 5, 5, 5, 5, 5, 5, 5, 5, 5, 5, 5, 6, 6, 6, 6, 6, 6, 6, 6, 6, 6, 6, 6, 6, 6, 6, 6, 6, 6, 6, 6, 6, 6, 6, 6, 6, 6, 6, 6, 6, 6, 6, 6, 7, 7, 7, 7, 7, 7, 7, 7, 7, 7, 7, 7, 7, 7, 7, 7, 7, 7, 7, 7, 7, 7, 7, 7, 7, 7, 7, 7, 7, 7, 7, 7, 7, 7, 7, 7, 7, 7, 7, 7, 7, 7, 7, 7, 7, 7, 7, 7, 7, 7, 7, 7, 7, 7, 7, 7, 7, 7, 7, 7, 7, 7, 7, 7, 8, 8, 8, 8, 8, 8, 8, 8, 8, 8, 8, 8, 8, 8, 8, 8, 8, 8, 8, 8, 8, 8, 8, 8, 8, 8, 8, 8, 8, 8, 8, 8, 8, 8, 8, 8, 8, 8, 8, 8, 8, 8, 8, 8, 8, 8, 8, 8, 8, 8, 8, 8, 8, 8, 8, 8, 8, 8, 8, 8, 8, 8, 8, 8, 8, 8, 8, 8, 8, 8, 8, 8, 8, 8, 8, 8, 8, 8, 8, 8, 8, 8, 8, 8, 8, 8, 8, 8, 8, 8, 8, 8, 8, 8, 8, 8, 8, 8, 8, 8, 8, 8, 8, 8, 8, 8, 8, 8, 8, 8, 8, 8, 8, 8, 8, 8, 8, 8, 8, 8, 8, 8, 8, 8, 8, 8, 8, 8]
/-! frankpledge/letter.node -/
def letter_node_cps (N : Nat) (R : Type) (K : Bool → Option R) (v1 : Int) : Option R :=
  (bif (decide (0 ≤ v1)) then
  (K (decide (v1 < 16)))
  else
  (K false))

def letter_node (N : Nat) (v1 : Int) : Option (Bool × Unit) := letter_node_cps N _ (fun a0 => some (a0, ())) v1

/-! frankpledge/letter.Right$1 -/
def letter_Right_1_cps (N : Nat) (R : Type) (K : Bool → Int → Option R) (v1 : Int) (v2 : Int) : Option R :=
  (Option.bind (letter_node N v1) fun (v3 : Bool × Unit) =>
  (bif (!v3.1) then
  (K true v1)
  else
  (K (decide (v1 ≤ v2)) v1)))

def letter_Right_1 (N : Nat) (v1 : Int) (v2 : Int) : Option (Bool × Int × Unit) := letter_Right_1_cps N _ (fun a0 a1 => some (a0, (a1, ()))) v1 v2

/-! slices.IndexFunc[[]int,int] -/
def slices_IndexFunc_int_int_l0B (N : Nat) (R : Type) (rec : (List Int) → Int → Int → Int → Option R) (k0 : Int → Option R) (k1 : Int → Int → Option R) (v6 : (List Int)) (v7 : Int) (v8 : Int) (v9 : Int) : Option R :=
  (bif (decide (v8 < v7)) then
  (Option.bind (nth v6 v8) fun (v10 : Int) =>
  (Option.bind (letter_Right_1 N v10 v9) fun (v11 : Bool × Int × Unit) =>
  (bif v11.1 then
  (k1 v8 v11.2.1)
  else
  (rec v6 v7 (IntKind.wrap .i64 (v8 + 1)) v11.2.1))))
  else
  (k0 v9))

def slices_IndexFunc_int_int_l0 (N : Nat) (R : Type) (k0 : Int → Option R) (k1 : Int → Int → Option R) : Nat → (List Int) → Int → Int → Int → Option R
  | 0 => fun _ _ _ _ => none
  | n + 1 => slices_IndexFunc_int_int_l0B N R (slices_IndexFunc_int_int_l0 N R k0 k1 n) k0 k1

def slices_IndexFunc_int_int_cps (N : Nat) (R : Type) (K : Int → Int → Option R) (v1 : (List Int)) (v2 : Int) : Option R :=
  (slices_IndexFunc_int_int_l0 N _ (fun (v3 : Int) =>
  (K (-1) v3)) (fun (v4 : Int) (v5 : Int) =>
  (K v4 v5)) N v1 (v1.length : Int) 0 v2)

def slices_IndexFunc_int_int (N : Nat) (v1 : (List Int)) (v2 : Int) : Option (Int × Int × Unit) := slices_IndexFunc_int_int_cps N _ (fun a0 a1 => some (a0, (a1, ()))) v1 v2

/-! slices.ContainsFunc[[]int,int] -/
def slices_ContainsFunc_int_int_cps (N : Nat) (R : Type) (K : Bool → Int → Option R) (v1 : (List Int)) (v2 : Int) : Option R :=
  (Option.bind (slices_IndexFunc_int_int N v1 v2) fun (v3 : Int × Int × Unit) =>
  (K (decide (0 ≤ v3.1)) v3.2.1))

def slices_ContainsFunc_int_int (N : Nat) (v1 : (List Int)) (v2 : Int) : Option (Bool × Int × Unit) := slices_ContainsFunc_int_int_cps N _ (fun a0 a1 => some (a0, (a1, ()))) v1 v2

/-! frankpledge/letter.Right -/
def letter_Right_cps (N : Nat) (R : Type) (K : Bool → Option R) (v1 : Int) (v2 : Int) (v3 : Int) (v4 : Int) (v5 : (List Int)) : Option R :=
  (bif (decide (v1 < 1)) then
  (K false)
  else
  (bif (decide (8 < v1)) then
  (K false)
  else
  (Option.bind (letter_node N v2) fun (v6 : Bool × Unit) =>
  (bif (!v6.1) then
  (K false)
  else
  (Option.bind (letter_node N v3) fun (v7 : Bool × Unit) =>
  (bif (!v7.1) then
  (K false)
  else
  (bif (decide (v4 < 0)) then
  (K false)
  else
  (bif (decide (1099511627776 < v4)) then
  (K false)
  else
  (bif (!(decide (v1 = 1))) then
  (K (decide ((v5.length : Int) = 0)))
  else
  (Option.bind (slices_ContainsFunc_int_int N v5 (-1)) fun (v8 : Bool × Int × Unit) =>
  (K (!v8.1))))))))))))

def letter_Right (N : Nat) (v1 : Int) (v2 : Int) (v3 : Int) (v4 : Int) (v5 : (List Int)) : Option (Bool × Unit) := letter_Right_cps N _ (fun a0 => some (a0, ())) v1 v2 v3 v4 v5

/-! frankpledge/value.Right -/
def value_Right_cps (N : Nat) (R : Type) (K : Bool → Option R) (v1 : Int) (v2 : Int) (v3 : (List UInt8)) : Option R :=
  (bif (decide (v1 = 1)) then
  (bif (decide (v2 = 1)) then
  (K (decide (v3 = [])))
  else
  (bif (decide (v2 = 0)) then
  (K (decide (v3 = [])))
  else
  (K false)))
  else
  (bif (decide (v1 = 0)) then
  (bif (decide (v2 = 0)) then
  (K (decide (v3 = [])))
  else
  (K false))
  else
  (bif (decide (v1 = 2)) then
  (K (decide (v3 = [])))
  else
  (bif (decide (v1 = 3)) then
  (K (decide (v3 = [])))
  else
  (bif (decide (v1 = 4)) then
  (bif (decide (v2 = 0)) then
  (K (decide ((v3.length : Int) ≤ 200)))
  else
  (K false))
  else
  (bif (decide (v1 = 5)) then
  (bif (decide (v2 = 0)) then
  (K (decide ((v3.length : Int) ≤ 200)))
  else
  (K false))
  else
  (K false)))))))

def value_Right (N : Nat) (v1 : Int) (v2 : Int) (v3 : (List UInt8)) : Option (Bool × Unit) := value_Right_cps N _ (fun a0 => some (a0, ())) v1 v2 v3

/-! frankpledge/row.Short -/
def row_Short_l0B (N : Nat) (R : Type) (rec : Int → (List UInt8) → Option R) (k0 : Int → (List UInt8) → Option R) (v4 : Int) (v5 : (List UInt8)) : Option R :=
  (bif (decide (127 < v4)) then
  (bif (room 1 (v5.length + ([(UInt8.ofNat (Int.toNat (Ev.bits .or .u8 (IntKind.wrap .u8 v4) 128)))] : (List UInt8)).length)) then
  (rec (Ev.shr .u64 v4 7) (v5 ++ ([(UInt8.ofNat (Int.toNat (Ev.bits .or .u8 (IntKind.wrap .u8 v4) 128)))] : (List UInt8))))
  else
  none)
  else
  (k0 v4 v5))

def row_Short_l0 (N : Nat) (R : Type) (k0 : Int → (List UInt8) → Option R) : Nat → Int → (List UInt8) → Option R
  | 0 => fun _ _ => none
  | n + 1 => row_Short_l0B N R (row_Short_l0 N R k0 n) k0

def row_Short_cps (N : Nat) (R : Type) (K : (List UInt8) → Option R) (v1 : Int) : Option R :=
  (row_Short_l0 N _ (fun (v2 : Int) (v3 : (List UInt8)) =>
  (bif (room 1 (v3.length + ([(UInt8.ofNat (Int.toNat (IntKind.wrap .u8 v2)))] : (List UInt8)).length)) then
  (K (v3 ++ ([(UInt8.ofNat (Int.toNat (IntKind.wrap .u8 v2)))] : (List UInt8))))
  else
  none)) N (Ev.bits .xor .u64 (Ev.shl .u64 (IntKind.wrap .u64 v1) 1) (IntKind.wrap .u64 (Ev.shr .i64 v1 63))) [])

def row_Short (N : Nat) (v1 : Int) : Option ((List UInt8) × Unit) := row_Short_cps N _ (fun a0 => some (a0, ())) v1

/-! frankpledge/row.Encode -/
def row_Encode_l0B (N : Nat) (R : Type) (rec : (List UInt8) → (List (Int × (Int × ((List UInt8) × Unit)))) → Int → Int → Option R) (k0 : (List UInt8) → Option R) (k1 : Int → (List UInt8) → Option R) (v5 : (List UInt8)) (v6 : (List (Int × (Int × ((List UInt8) × Unit))))) (v7 : Int) (v8 : Int) : Option R :=
  (bif (decide (v8 < v7)) then
  (Option.bind (nth v6 v8) fun (v9 : (Int × (Int × ((List UInt8) × Unit)))) =>
  (Option.bind (value_Right N v9.1 v9.2.1 v9.2.2.1) fun (v10 : Bool × Unit) =>
  (bif (!v10.1) then
  (k1 51 v5)
  else
  (bif (room 1 (v5.length + ([(UInt8.ofNat (Int.toNat (IntKind.wrap .u8 v9.1)))] : (List UInt8)).length)) then
  (bif (decide (v9.1 = 1)) then
  (bif (room 1 ((v5 ++ ([(UInt8.ofNat (Int.toNat (IntKind.wrap .u8 v9.1)))] : (List UInt8))).length + ([(UInt8.ofNat (Int.toNat (IntKind.wrap .u8 v9.2.1)))] : (List UInt8)).length)) then
  (rec ((v5 ++ ([(UInt8.ofNat (Int.toNat (IntKind.wrap .u8 v9.1)))] : (List UInt8))) ++ ([(UInt8.ofNat (Int.toNat (IntKind.wrap .u8 v9.2.1)))] : (List UInt8))) v6 v7 (IntKind.wrap .i64 (v8 + 1)))
  else
  none)
  else
  (bif (decide (v9.1 = 2)) then
  (Option.bind (row_Short N v9.2.1) fun (v11 : (List UInt8) × Unit) =>
  (bif (room 1 ((v5 ++ ([(UInt8.ofNat (Int.toNat (IntKind.wrap .u8 v9.1)))] : (List UInt8))).length + v11.1.length)) then
  (rec ((v5 ++ ([(UInt8.ofNat (Int.toNat (IntKind.wrap .u8 v9.1)))] : (List UInt8))) ++ v11.1) v6 v7 (IntKind.wrap .i64 (v8 + 1)))
  else
  none))
  else
  (bif (decide (v9.1 = 3)) then
  (Option.bind (row_Short N v9.2.1) fun (v12 : (List UInt8) × Unit) =>
  (bif (room 1 ((v5 ++ ([(UInt8.ofNat (Int.toNat (IntKind.wrap .u8 v9.1)))] : (List UInt8))).length + v12.1.length)) then
  (rec ((v5 ++ ([(UInt8.ofNat (Int.toNat (IntKind.wrap .u8 v9.1)))] : (List UInt8))) ++ v12.1) v6 v7 (IntKind.wrap .i64 (v8 + 1)))
  else
  none))
  else
  (bif (decide (v9.1 = 4)) then
  (Option.bind (row_Short N (v9.2.2.1.length : Int)) fun (v13 : (List UInt8) × Unit) =>
  (bif (room 1 ((v5 ++ ([(UInt8.ofNat (Int.toNat (IntKind.wrap .u8 v9.1)))] : (List UInt8))).length + v13.1.length)) then
  (bif (room 1 (((v5 ++ ([(UInt8.ofNat (Int.toNat (IntKind.wrap .u8 v9.1)))] : (List UInt8))) ++ v13.1).length + v9.2.2.1.length)) then
  (rec (((v5 ++ ([(UInt8.ofNat (Int.toNat (IntKind.wrap .u8 v9.1)))] : (List UInt8))) ++ v13.1) ++ v9.2.2.1) v6 v7 (IntKind.wrap .i64 (v8 + 1)))
  else
  none)
  else
  none))
  else
  (bif (decide (v9.1 = 5)) then
  (Option.bind (row_Short N (v9.2.2.1.length : Int)) fun (v14 : (List UInt8) × Unit) =>
  (bif (room 1 ((v5 ++ ([(UInt8.ofNat (Int.toNat (IntKind.wrap .u8 v9.1)))] : (List UInt8))).length + v14.1.length)) then
  (bif (room 1 (((v5 ++ ([(UInt8.ofNat (Int.toNat (IntKind.wrap .u8 v9.1)))] : (List UInt8))) ++ v14.1).length + v9.2.2.1.length)) then
  (rec (((v5 ++ ([(UInt8.ofNat (Int.toNat (IntKind.wrap .u8 v9.1)))] : (List UInt8))) ++ v14.1) ++ v9.2.2.1) v6 v7 (IntKind.wrap .i64 (v8 + 1)))
  else
  none)
  else
  none))
  else
  (rec (v5 ++ ([(UInt8.ofNat (Int.toNat (IntKind.wrap .u8 v9.1)))] : (List UInt8))) v6 v7 (IntKind.wrap .i64 (v8 + 1))))))))
  else
  none))))
  else
  (k0 v5))

def row_Encode_l0 (N : Nat) (R : Type) (k0 : (List UInt8) → Option R) (k1 : Int → (List UInt8) → Option R) : Nat → (List UInt8) → (List (Int × (Int × ((List UInt8) × Unit)))) → Int → Int → Option R
  | 0 => fun _ _ _ _ => none
  | n + 1 => row_Encode_l0B N R (row_Encode_l0 N R k0 k1 n) k0 k1

def row_Encode_cps (N : Nat) (R : Type) (K : (List UInt8) → Int → Option R) (v1 : (List (Int × (Int × ((List UInt8) × Unit))))) : Option R :=
  (bif (decide (16 < (v1.length : Int))) then
  (K [] 51)
  else
  (row_Encode_l0 N _ (fun (v2 : (List UInt8)) =>
  (K v2 0)) (fun (v3 : Int) (v4 : (List UInt8)) =>
  (K [] v3)) N ([(UInt8.ofNat (Int.toNat (IntKind.wrap .u8 (v1.length : Int))))] : (List UInt8)) v1 (v1.length : Int) 0))

def row_Encode (N : Nat) (v1 : (List (Int × (Int × ((List UInt8) × Unit))))) : Option ((List UInt8) × Int × Unit) := row_Encode_cps N _ (fun a0 a1 => some (a0, (a1, ()))) v1

/-! frankpledge/letter.Encode -/
def letter_Encode_l1B (N : Nat) (R : Type) (rec : (List (Int × (Int × ((List UInt8) × Unit)))) → (List Int) → Int → Int → Int → Int → Int → Int → (List Int) → Option R) (k0 : (List (Int × (Int × ((List UInt8) × Unit)))) → Int → Int → Int → Int → (List Int) → Option R) (v30 : (List (Int × (Int × ((List UInt8) × Unit))))) (v31 : (List Int)) (v32 : Int) (v33 : Int) (v34 : Int) (v35 : Int) (v36 : Int) (v37 : Int) (v38 : (List Int)) : Option R :=
  (bif (decide (v33 < v32)) then
  (Option.bind (nth v31 v33) fun (v39 : Int) =>
  (bif (room 32 (v30.length + ([(2, (v39, ([], ())))] : (List (Int × (Int × ((List UInt8) × Unit))))).length)) then
  (rec (v30 ++ ([(2, (v39, ([], ())))] : (List (Int × (Int × ((List UInt8) × Unit)))))) v31 v32 (IntKind.wrap .i64 (v33 + 1)) v34 v35 v36 v37 v38)
  else
  none))
  else
  (k0 v30 v34 v35 v36 v37 v38))

def letter_Encode_l1 (N : Nat) (R : Type) (k0 : (List (Int × (Int × ((List UInt8) × Unit)))) → Int → Int → Int → Int → (List Int) → Option R) : Nat → (List (Int × (Int × ((List UInt8) × Unit)))) → (List Int) → Int → Int → Int → Int → Int → Int → (List Int) → Option R
  | 0 => fun _ _ _ _ _ _ _ _ _ => none
  | n + 1 => letter_Encode_l1B N R (letter_Encode_l1 N R k0 n) k0

def letter_Encode_l0B (N : Nat) (R : Type) (rec : Int → (List Int) → Int → Int → Int → Int → Int → Int → (List Int) → Option R) (k0 : Int → Int → Int → Int → Int → (List Int) → Option R) (v20 : Int) (v21 : (List Int)) (v22 : Int) (v23 : Int) (v24 : Int) (v25 : Int) (v26 : Int) (v27 : Int) (v28 : (List Int)) : Option R :=
  (bif (decide (v23 < v22)) then
  (Option.bind (nth v21 v23) fun (v29 : Int) =>
  (bif (decide (0 ≤ v29)) then
  (rec (Ev.bits .or .i64 v20 (Ev.shl .i64 1 v29)) v21 v22 (IntKind.wrap .i64 (v23 + 1)) v24 v25 v26 v27 v28)
  else
  none))
  else
  (k0 v20 v24 v25 v26 v27 v28))

def letter_Encode_l0 (N : Nat) (R : Type) (k0 : Int → Int → Int → Int → Int → (List Int) → Option R) : Nat → Int → (List Int) → Int → Int → Int → Int → Int → Int → (List Int) → Option R
  | 0 => fun _ _ _ _ _ _ _ _ _ => none
  | n + 1 => letter_Encode_l0B N R (letter_Encode_l0 N R k0 n) k0

def letter_Encode_cps (N : Nat) (R : Type) (K : (List UInt8) → Int → Option R) (v1 : Int) (v2 : Int) (v3 : Int) (v4 : Int) (v5 : (List Int)) : Option R :=
  (Option.bind (letter_Right N v1 v2 v3 v4 v5) fun (v6 : Bool × Unit) =>
  (bif (!v6.1) then
  (K [] 111)
  else
  (letter_Encode_l0 N _ (fun (v7 : Int) (v8 : Int) (v9 : Int) (v10 : Int) (v11 : Int) (v12 : (List Int)) =>
  (letter_Encode_l1 N _ (fun (v13 : (List (Int × (Int × ((List UInt8) × Unit))))) (v14 : Int) (v15 : Int) (v16 : Int) (v17 : Int) (v18 : (List Int)) =>
  (Option.bind (row_Encode N v13) fun (v19 : (List UInt8) × Int × Unit) =>
  (K v19.1 v19.2.1))) N [] ([v8, v9, v10, v11, v7] : (List Int)) (([v8, v9, v10, v11, v7] : (List Int)).length : Int) 0 v8 v9 v10 v11 v12)) N 0 v5 (v5.length : Int) 0 v1 v2 v3 v4 v5)))

def letter_Encode (N : Nat) (v1 : Int) (v2 : Int) (v3 : Int) (v4 : Int) (v5 : (List Int)) : Option ((List UInt8) × Int × Unit) := letter_Encode_cps N _ (fun a0 a1 => some (a0, (a1, ()))) v1 v2 v3 v4 v5

/-! frankpledge/frankpledgelaw11.alive -/
def law11_alive_cps (N : Nat) (R : Type) (K : Bool → Option R)  : Option R :=
  (Option.bind (letter_Encode N 1 1 2 3 ([0, 2] : (List Int))) fun (v1 : (List UInt8) × Int × Unit) =>
  (bif (decide (v1.2.1 = 0)) then
  (K (decide (v1.1 = [5, 2, 2, 2, 2, 2, 4, 2, 6, 2, 10])))
  else
  (K false)))

def law11_alive (N : Nat)  : Option (Bool × Unit) := law11_alive_cps N _ (fun a0 => some (a0, ())) 

/-! frankpledge/frankpledgeref11.Right -/
def ref11_Right_l0B (N : Nat) (R : Type) (rec : Int → Int → Int → Int → Int → (List Int) → Option R) (k0 : Int → Int → Int → Int → (List Int) → Option R) (k1 : Bool → Int → Int → Int → Int → (List Int) → Option R) (v17 : Int) (v18 : Int) (v19 : Int) (v20 : Int) (v21 : Int) (v22 : (List Int)) : Option R :=
  (bif (decide (v17 < (v22.length : Int))) then
  (Option.bind (nth v22 v17) fun (v23 : Int) =>
  (bif (decide (v23 < 0)) then
  (k1 false v18 v19 v20 v21 v22)
  else
  (Option.bind (nth v22 v17) fun (v24 : Int) =>
  (bif (decide (16 ≤ v24)) then
  (k1 false v18 v19 v20 v21 v22)
  else
  (bif (decide (0 < v17)) then
  (Option.bind (nth v22 (IntKind.wrap .i64 (v17 - 1))) fun (v25 : Int) =>
  (Option.bind (nth v22 v17) fun (v26 : Int) =>
  (bif (decide (v26 ≤ v25)) then
  (k1 false v18 v19 v20 v21 v22)
  else
  (rec (IntKind.wrap .i64 (v17 + 1)) v18 v19 v20 v21 v22))))
  else
  (rec (IntKind.wrap .i64 (v17 + 1)) v18 v19 v20 v21 v22))))))
  else
  (k0 v18 v19 v20 v21 v22))

def ref11_Right_l0 (N : Nat) (R : Type) (k0 : Int → Int → Int → Int → (List Int) → Option R) (k1 : Bool → Int → Int → Int → Int → (List Int) → Option R) : Nat → Int → Int → Int → Int → Int → (List Int) → Option R
  | 0 => fun _ _ _ _ _ _ => none
  | n + 1 => ref11_Right_l0B N R (ref11_Right_l0 N R k0 k1 n) k0 k1

def ref11_Right_cps (N : Nat) (R : Type) (K : Bool → Option R) (v1 : Int) (v2 : Int) (v3 : Int) (v4 : Int) (v5 : (List Int)) : Option R :=
  (bif (decide (v1 < 1)) then
  (K false)
  else
  (bif (decide (8 < v1)) then
  (K false)
  else
  (bif (decide (v2 < 0)) then
  (K false)
  else
  (bif (decide (16 ≤ v2)) then
  (K false)
  else
  (bif (decide (v3 < 0)) then
  (K false)
  else
  (bif (decide (16 ≤ v3)) then
  (K false)
  else
  (bif (decide (v4 < 0)) then
  (K false)
  else
  (bif (decide (1099511627776 < v4)) then
  (K false)
  else
  (ref11_Right_l0 N _ (fun (v6 : Int) (v7 : Int) (v8 : Int) (v9 : Int) (v10 : (List Int)) =>
  (bif (decide (v6 = 1)) then
  (K true)
  else
  (K (decide ((v10.length : Int) = 0))))) (fun (v11 : Bool) (v12 : Int) (v13 : Int) (v14 : Int) (v15 : Int) (v16 : (List Int)) =>
  (K v11)) N 0 v1 v2 v3 v4 v5)))))))))

def ref11_Right (N : Nat) (v1 : Int) (v2 : Int) (v3 : Int) (v4 : Int) (v5 : (List Int)) : Option (Bool × Unit) := ref11_Right_cps N _ (fun a0 => some (a0, ())) v1 v2 v3 v4 v5

/-! frankpledge/frankpledgeref02.Right -/
def ref02_Right_cps (N : Nat) (R : Type) (K : Bool → Option R) (v1 : Int) (v2 : Int) (v3 : (List UInt8)) : Option R :=
  (bif (decide (v1 = 0)) then
  (bif (decide (v2 = 0)) then
  (K (decide (v3 = [])))
  else
  (K false))
  else
  (bif (decide (v1 = 1)) then
  (bif (decide (v2 = 0)) then
  (K (decide (v3 = [])))
  else
  (bif (decide (v2 = 1)) then
  (K (decide (v3 = [])))
  else
  (K false)))
  else
  (bif (decide (v1 = 2)) then
  (K (decide (v3 = [])))
  else
  (bif (decide (v1 = 3)) then
  (K (decide (v3 = [])))
  else
  (bif (decide (v1 = 4)) then
  (bif (decide (v2 = 0)) then
  (K (decide ((v3.length : Int) ≤ 200)))
  else
  (K false))
  else
  (bif (decide (v1 = 5)) then
  (bif (decide (v2 = 0)) then
  (K (decide ((v3.length : Int) ≤ 200)))
  else
  (K false))
  else
  (K false)))))))

def ref02_Right (N : Nat) (v1 : Int) (v2 : Int) (v3 : (List UInt8)) : Option (Bool × Unit) := ref02_Right_cps N _ (fun a0 => some (a0, ())) v1 v2 v3

/-! frankpledge/frankpledgeref05.Short -/
def ref05_Short_l0B (N : Nat) (R : Type) (rec : Int → (List UInt8) → Option R) (k0 : Int → (List UInt8) → Option R) (v6 : Int) (v7 : (List UInt8)) : Option R :=
  (bif (decide (128 ≤ v6)) then
  (bif (room 1 (v7.length + ([(UInt8.ofNat (Int.toNat (IntKind.wrap .u8 (IntKind.wrap .u64 ((Int.tmod v6 128) + 128)))))] : (List UInt8)).length)) then
  (rec (IntKind.wrap .u64 (Int.tdiv v6 128)) (v7 ++ ([(UInt8.ofNat (Int.toNat (IntKind.wrap .u8 (IntKind.wrap .u64 ((Int.tmod v6 128) + 128)))))] : (List UInt8))))
  else
  none)
  else
  (k0 v6 v7))

def ref05_Short_l0 (N : Nat) (R : Type) (k0 : Int → (List UInt8) → Option R) : Nat → Int → (List UInt8) → Option R
  | 0 => fun _ _ => none
  | n + 1 => ref05_Short_l0B N R (ref05_Short_l0 N R k0 n) k0

def ref05_Short_cps (N : Nat) (R : Type) (K : (List UInt8) → Option R) (v1 : Int) : Option R :=
  (bif (decide (v1 < 0)) then
  (ref05_Short_l0 N _ (fun (v2 : Int) (v3 : (List UInt8)) =>
  (bif (room 1 (v3.length + ([(UInt8.ofNat (Int.toNat (IntKind.wrap .u8 v2)))] : (List UInt8)).length)) then
  (K (v3 ++ ([(UInt8.ofNat (Int.toNat (IntKind.wrap .u8 v2)))] : (List UInt8))))
  else
  none)) N (IntKind.wrap .u64 ((IntKind.wrap .u64 (2 * (IntKind.wrap .u64 (IntKind.wrap .i64 (0 - (IntKind.wrap .i64 (v1 + 1))))))) + 1)) [])
  else
  (ref05_Short_l0 N _ (fun (v4 : Int) (v5 : (List UInt8)) =>
  (bif (room 1 (v5.length + ([(UInt8.ofNat (Int.toNat (IntKind.wrap .u8 v4)))] : (List UInt8)).length)) then
  (K (v5 ++ ([(UInt8.ofNat (Int.toNat (IntKind.wrap .u8 v4)))] : (List UInt8))))
  else
  none)) N (IntKind.wrap .u64 (2 * (IntKind.wrap .u64 v1))) []))

def ref05_Short (N : Nat) (v1 : Int) : Option ((List UInt8) × Unit) := ref05_Short_cps N _ (fun a0 => some (a0, ())) v1

/-! frankpledge/frankpledgeref05.Encode -/
def ref05_Encode_l0B (N : Nat) (R : Type) (rec : (List (Int × (Int × ((List UInt8) × Unit)))) → (List UInt8) → Int → Option R) (k0 : (List UInt8) → Option R) (k1 : Int → (List UInt8) → Option R) (v5 : (List (Int × (Int × ((List UInt8) × Unit))))) (v6 : (List UInt8)) (v7 : Int) : Option R :=
  (bif (decide (v7 < (v5.length : Int))) then
  (Option.bind (nth v5 v7) fun (v8 : (Int × (Int × ((List UInt8) × Unit)))) =>
  (Option.bind (ref02_Right N v8.1 v8.2.1 v8.2.2.1) fun (v9 : Bool × Unit) =>
  (bif (!v9.1) then
  (k1 51 v6)
  else
  (bif (room 1 (v6.length + ([(UInt8.ofNat (Int.toNat (IntKind.wrap .u8 v8.1)))] : (List UInt8)).length)) then
  (bif (decide (v8.1 = 1)) then
  (bif (room 1 ((v6 ++ ([(UInt8.ofNat (Int.toNat (IntKind.wrap .u8 v8.1)))] : (List UInt8))).length + ([(UInt8.ofNat (Int.toNat (IntKind.wrap .u8 v8.2.1)))] : (List UInt8)).length)) then
  (rec v5 ((v6 ++ ([(UInt8.ofNat (Int.toNat (IntKind.wrap .u8 v8.1)))] : (List UInt8))) ++ ([(UInt8.ofNat (Int.toNat (IntKind.wrap .u8 v8.2.1)))] : (List UInt8))) (IntKind.wrap .i64 (v7 + 1)))
  else
  none)
  else
  (bif (decide (v8.1 = 2)) then
  (Option.bind (ref05_Short N v8.2.1) fun (v10 : (List UInt8) × Unit) =>
  (bif (room 1 ((v6 ++ ([(UInt8.ofNat (Int.toNat (IntKind.wrap .u8 v8.1)))] : (List UInt8))).length + v10.1.length)) then
  (rec v5 ((v6 ++ ([(UInt8.ofNat (Int.toNat (IntKind.wrap .u8 v8.1)))] : (List UInt8))) ++ v10.1) (IntKind.wrap .i64 (v7 + 1)))
  else
  none))
  else
  (bif (decide (v8.1 = 3)) then
  (Option.bind (ref05_Short N v8.2.1) fun (v11 : (List UInt8) × Unit) =>
  (bif (room 1 ((v6 ++ ([(UInt8.ofNat (Int.toNat (IntKind.wrap .u8 v8.1)))] : (List UInt8))).length + v11.1.length)) then
  (rec v5 ((v6 ++ ([(UInt8.ofNat (Int.toNat (IntKind.wrap .u8 v8.1)))] : (List UInt8))) ++ v11.1) (IntKind.wrap .i64 (v7 + 1)))
  else
  none))
  else
  (bif (decide (v8.1 = 4)) then
  (Option.bind (ref05_Short N (v8.2.2.1.length : Int)) fun (v12 : (List UInt8) × Unit) =>
  (bif (room 1 ((v6 ++ ([(UInt8.ofNat (Int.toNat (IntKind.wrap .u8 v8.1)))] : (List UInt8))).length + v12.1.length)) then
  (bif (room 1 (((v6 ++ ([(UInt8.ofNat (Int.toNat (IntKind.wrap .u8 v8.1)))] : (List UInt8))) ++ v12.1).length + v8.2.2.1.length)) then
  (rec v5 (((v6 ++ ([(UInt8.ofNat (Int.toNat (IntKind.wrap .u8 v8.1)))] : (List UInt8))) ++ v12.1) ++ v8.2.2.1) (IntKind.wrap .i64 (v7 + 1)))
  else
  none)
  else
  none))
  else
  (bif (decide (v8.1 = 5)) then
  (Option.bind (ref05_Short N (v8.2.2.1.length : Int)) fun (v13 : (List UInt8) × Unit) =>
  (bif (room 1 ((v6 ++ ([(UInt8.ofNat (Int.toNat (IntKind.wrap .u8 v8.1)))] : (List UInt8))).length + v13.1.length)) then
  (bif (room 1 (((v6 ++ ([(UInt8.ofNat (Int.toNat (IntKind.wrap .u8 v8.1)))] : (List UInt8))) ++ v13.1).length + v8.2.2.1.length)) then
  (rec v5 (((v6 ++ ([(UInt8.ofNat (Int.toNat (IntKind.wrap .u8 v8.1)))] : (List UInt8))) ++ v13.1) ++ v8.2.2.1) (IntKind.wrap .i64 (v7 + 1)))
  else
  none)
  else
  none))
  else
  (rec v5 (v6 ++ ([(UInt8.ofNat (Int.toNat (IntKind.wrap .u8 v8.1)))] : (List UInt8))) (IntKind.wrap .i64 (v7 + 1))))))))
  else
  none))))
  else
  (k0 v6))

def ref05_Encode_l0 (N : Nat) (R : Type) (k0 : (List UInt8) → Option R) (k1 : Int → (List UInt8) → Option R) : Nat → (List (Int × (Int × ((List UInt8) × Unit)))) → (List UInt8) → Int → Option R
  | 0 => fun _ _ _ => none
  | n + 1 => ref05_Encode_l0B N R (ref05_Encode_l0 N R k0 k1 n) k0 k1

def ref05_Encode_cps (N : Nat) (R : Type) (K : (List UInt8) → Int → Option R) (v1 : (List (Int × (Int × ((List UInt8) × Unit))))) : Option R :=
  (bif (decide (16 < (v1.length : Int))) then
  (K [] 51)
  else
  (ref05_Encode_l0 N _ (fun (v2 : (List UInt8)) =>
  (K v2 0)) (fun (v3 : Int) (v4 : (List UInt8)) =>
  (K [] v3)) N v1 ([(UInt8.ofNat (Int.toNat (IntKind.wrap .u8 (v1.length : Int))))] : (List UInt8)) 0))

def ref05_Encode (N : Nat) (v1 : (List (Int × (Int × ((List UInt8) × Unit))))) : Option ((List UInt8) × Int × Unit) := ref05_Encode_cps N _ (fun a0 a1 => some (a0, (a1, ()))) v1

/-! frankpledge/frankpledgeref11.Encode -/
def ref11_Encode_l1B (N : Nat) (R : Type) (rec : (List Int) → (List (Int × (Int × ((List UInt8) × Unit)))) → Int → Int → Int → Int → Int → (List Int) → Option R) (k0 : (List (Int × (Int × ((List UInt8) × Unit)))) → Int → Int → Int → Int → (List Int) → Option R) (v28 : (List Int)) (v29 : (List (Int × (Int × ((List UInt8) × Unit))))) (v30 : Int) (v31 : Int) (v32 : Int) (v33 : Int) (v34 : Int) (v35 : (List Int)) : Option R :=
  (bif (decide (v30 < (v28.length : Int))) then
  (Option.bind (nth v28 v30) fun (v36 : Int) =>
  (bif (room 32 (v29.length + ([(2, (v36, ([], ())))] : (List (Int × (Int × ((List UInt8) × Unit))))).length)) then
  (rec v28 (v29 ++ ([(2, (v36, ([], ())))] : (List (Int × (Int × ((List UInt8) × Unit)))))) (IntKind.wrap .i64 (v30 + 1)) v31 v32 v33 v34 v35)
  else
  none))
  else
  (k0 v29 v31 v32 v33 v34 v35))

def ref11_Encode_l1 (N : Nat) (R : Type) (k0 : (List (Int × (Int × ((List UInt8) × Unit)))) → Int → Int → Int → Int → (List Int) → Option R) : Nat → (List Int) → (List (Int × (Int × ((List UInt8) × Unit)))) → Int → Int → Int → Int → Int → (List Int) → Option R
  | 0 => fun _ _ _ _ _ _ _ _ => none
  | n + 1 => ref11_Encode_l1B N R (ref11_Encode_l1 N R k0 n) k0

def ref11_Encode_l0B (N : Nat) (R : Type) (rec : Int → Int → Int → Int → Int → Int → (List Int) → Option R) (k0 : Int → Int → Int → Int → Int → (List Int) → Option R) (v20 : Int) (v21 : Int) (v22 : Int) (v23 : Int) (v24 : Int) (v25 : Int) (v26 : (List Int)) : Option R :=
  (bif (decide (v21 < (v26.length : Int))) then
  (Option.bind (nth v26 v21) fun (v27 : Int) =>
  (bif (decide (0 ≤ (IntKind.wrap .u64 v27))) then
  (rec (IntKind.wrap .i64 (v20 + (Ev.shl .i64 1 (IntKind.wrap .u64 v27)))) (IntKind.wrap .i64 (v21 + 1)) v22 v23 v24 v25 v26)
  else
  none))
  else
  (k0 v20 v22 v23 v24 v25 v26))

def ref11_Encode_l0 (N : Nat) (R : Type) (k0 : Int → Int → Int → Int → Int → (List Int) → Option R) : Nat → Int → Int → Int → Int → Int → Int → (List Int) → Option R
  | 0 => fun _ _ _ _ _ _ _ => none
  | n + 1 => ref11_Encode_l0B N R (ref11_Encode_l0 N R k0 n) k0

def ref11_Encode_cps (N : Nat) (R : Type) (K : (List UInt8) → Int → Option R) (v1 : Int) (v2 : Int) (v3 : Int) (v4 : Int) (v5 : (List Int)) : Option R :=
  (Option.bind (ref11_Right N v1 v2 v3 v4 v5) fun (v6 : Bool × Unit) =>
  (bif (!v6.1) then
  (K [] 111)
  else
  (ref11_Encode_l0 N _ (fun (v7 : Int) (v8 : Int) (v9 : Int) (v10 : Int) (v11 : Int) (v12 : (List Int)) =>
  (ref11_Encode_l1 N _ (fun (v13 : (List (Int × (Int × ((List UInt8) × Unit))))) (v14 : Int) (v15 : Int) (v16 : Int) (v17 : Int) (v18 : (List Int)) =>
  (Option.bind (ref05_Encode N v13) fun (v19 : (List UInt8) × Int × Unit) =>
  (K v19.1 0))) N ([v8, v9, v10, v11, v7] : (List Int)) [] 0 v8 v9 v10 v11 v12)) N 0 0 v1 v2 v3 v4 v5)))

def ref11_Encode (N : Nat) (v1 : Int) (v2 : Int) (v3 : Int) (v4 : Int) (v5 : (List Int)) : Option ((List UInt8) × Int × Unit) := ref11_Encode_cps N _ (fun a0 a1 => some (a0, (a1, ()))) v1 v2 v3 v4 v5

/-! frankpledge/row.Decode$1 -/
def row_Decode_1_cps (N : Nat) (R : Type) (K : (List UInt8) → Bool → (List UInt8) → Option R) (v1 : Int) (v2 : Bool) (v3 : (List UInt8)) : Option R :=
  (bif v2 then
  (bif (decide (0 ≤ v1)) then
  (bif (!(decide (v1 ≤ (v3.length : Int)))) then
  (K [0] (decide (v1 ≤ (v3.length : Int))) v3)
  else
  (bif (decide (0 ≤ v1 ∧ v1 ≤ ((v3.length : Nat) : Int))) then
  (bif (decide (0 ≤ v1 ∧ v1 ≤ ((v3.length : Nat) : Int))) then
  (K (List.drop 0 (List.take (Int.toNat v1) v3)) (decide (v1 ≤ (v3.length : Int))) (List.drop (Int.toNat v1) (List.take v3.length v3)))
  else
  none)
  else
  none))
  else
  (K [0] false v3))
  else
  (K [0] false v3))

def row_Decode_1 (N : Nat) (v1 : Int) (v2 : Bool) (v3 : (List UInt8)) : Option ((List UInt8) × Bool × (List UInt8) × Unit) := row_Decode_1_cps N _ (fun a0 a1 a2 => some (a0, (a1, (a2, ())))) v1 v2 v3

/-! math/bits.Len64 -/
def bits_Len64_cps (N : Nat) (R : Type) (K : Int → Option R) (v1 : Int) : Option R :=
  (bif (decide (4294967296 ≤ v1)) then
  (bif (decide (65536 ≤ (Ev.shr .u64 v1 32))) then
  (bif (decide (256 ≤ (Ev.shr .u64 (Ev.shr .u64 v1 32) 16))) then
  (Option.bind (nth (bs0 : List UInt8) (IntKind.wrap .u8 (Ev.shr .u64 (Ev.shr .u64 (Ev.shr .u64 v1 32) 16) 8))) fun (v2 : UInt8) =>
  (K (IntKind.wrap .i64 (56 + (IntKind.wrap .i64 (v2.toNat : Int))))))
  else
  (Option.bind (nth (bs0 : List UInt8) (IntKind.wrap .u8 (Ev.shr .u64 (Ev.shr .u64 v1 32) 16))) fun (v3 : UInt8) =>
  (K (IntKind.wrap .i64 (48 + (IntKind.wrap .i64 (v3.toNat : Int)))))))
  else
  (bif (decide (256 ≤ (Ev.shr .u64 v1 32))) then
  (Option.bind (nth (bs0 : List UInt8) (IntKind.wrap .u8 (Ev.shr .u64 (Ev.shr .u64 v1 32) 8))) fun (v4 : UInt8) =>
  (K (IntKind.wrap .i64 (40 + (IntKind.wrap .i64 (v4.toNat : Int))))))
  else
  (Option.bind (nth (bs0 : List UInt8) (IntKind.wrap .u8 (Ev.shr .u64 v1 32))) fun (v5 : UInt8) =>
  (K (IntKind.wrap .i64 (32 + (IntKind.wrap .i64 (v5.toNat : Int))))))))
  else
  (bif (decide (65536 ≤ v1)) then
  (bif (decide (256 ≤ (Ev.shr .u64 v1 16))) then
  (Option.bind (nth (bs0 : List UInt8) (IntKind.wrap .u8 (Ev.shr .u64 (Ev.shr .u64 v1 16) 8))) fun (v6 : UInt8) =>
  (K (IntKind.wrap .i64 (24 + (IntKind.wrap .i64 (v6.toNat : Int))))))
  else
  (Option.bind (nth (bs0 : List UInt8) (IntKind.wrap .u8 (Ev.shr .u64 v1 16))) fun (v7 : UInt8) =>
  (K (IntKind.wrap .i64 (16 + (IntKind.wrap .i64 (v7.toNat : Int)))))))
  else
  (bif (decide (256 ≤ v1)) then
  (Option.bind (nth (bs0 : List UInt8) (IntKind.wrap .u8 (Ev.shr .u64 v1 8))) fun (v8 : UInt8) =>
  (K (IntKind.wrap .i64 (8 + (IntKind.wrap .i64 (v8.toNat : Int))))))
  else
  (Option.bind (nth (bs0 : List UInt8) (IntKind.wrap .u8 v1)) fun (v9 : UInt8) =>
  (K (IntKind.wrap .i64 (0 + (IntKind.wrap .i64 (v9.toNat : Int)))))))))

def bits_Len64 (N : Nat) (v1 : Int) : Option (Int × Unit) := bits_Len64_cps N _ (fun a0 => some (a0, ())) v1

/-! frankpledge/row.Long -/
def row_Long_l0B (N : Nat) (R : Type) (rec : Int → (List UInt8) → Int → Int → Option R) (k0 : Option R) (k1 : Int → Int → Bool → Option R) (v5 : Int) (v6 : (List UInt8)) (v7 : Int) (v8 : Int) : Option R :=
  (bif (decide (v8 < v7)) then
  (Option.bind (nth v6 v8) fun (v9 : UInt8) =>
  (Option.bind (bits_Len64 N (IntKind.wrap .u64 (Ev.bits .and .u8 (v9.toNat : Int) 127))) fun (v10 : Int × Unit) =>
  (bif (decide (64 < (IntKind.wrap .i64 (v10.1 + (IntKind.wrap .i64 (7 * v8)))))) then
  (k1 0 0 false)
  else
  (bif (decide (0 ≤ (IntKind.wrap .i64 (7 * v8)))) then
  (bif (decide ((v9.toNat : Int) < 128)) then
  (bif (decide ((v9.toNat : Int) = 0)) then
  (bif (decide (0 < v8)) then
  k0
  else
  (k1 (Ev.bits .xor .i64 (IntKind.wrap .i64 (Ev.shr .u64 (Ev.bits .or .u64 v5 (Ev.shl .u64 (IntKind.wrap .u64 (Ev.bits .and .u8 (v9.toNat : Int) 127)) (IntKind.wrap .i64 (7 * v8)))) 1)) (IntKind.wrap .i64 (0 - (IntKind.wrap .i64 (Ev.bits .and .u64 (Ev.bits .or .u64 v5 (Ev.shl .u64 (IntKind.wrap .u64 (Ev.bits .and .u8 (v9.toNat : Int) 127)) (IntKind.wrap .i64 (7 * v8)))) 1))))) (IntKind.wrap .i64 (v8 + 1)) true))
  else
  (k1 (Ev.bits .xor .i64 (IntKind.wrap .i64 (Ev.shr .u64 (Ev.bits .or .u64 v5 (Ev.shl .u64 (IntKind.wrap .u64 (Ev.bits .and .u8 (v9.toNat : Int) 127)) (IntKind.wrap .i64 (7 * v8)))) 1)) (IntKind.wrap .i64 (0 - (IntKind.wrap .i64 (Ev.bits .and .u64 (Ev.bits .or .u64 v5 (Ev.shl .u64 (IntKind.wrap .u64 (Ev.bits .and .u8 (v9.toNat : Int) 127)) (IntKind.wrap .i64 (7 * v8)))) 1))))) (IntKind.wrap .i64 (v8 + 1)) true))
  else
  (bif (decide (v8 = 9)) then
  k0
  else
  (rec (Ev.bits .or .u64 v5 (Ev.shl .u64 (IntKind.wrap .u64 (Ev.bits .and .u8 (v9.toNat : Int) 127)) (IntKind.wrap .i64 (7 * v8)))) v6 v7 (IntKind.wrap .i64 (v8 + 1)))))
  else
  none))))
  else
  k0)

def row_Long_l0 (N : Nat) (R : Type) (k0 : Option R) (k1 : Int → Int → Bool → Option R) : Nat → Int → (List UInt8) → Int → Int → Option R
  | 0 => fun _ _ _ _ => none
  | n + 1 => row_Long_l0B N R (row_Long_l0 N R k0 k1 n) k0 k1

def row_Long_cps (N : Nat) (R : Type) (K : Int → Int → Bool → Option R) (v1 : (List UInt8)) : Option R :=
  (row_Long_l0 N _ ((K 0 0 false)) (fun (v2 : Int) (v3 : Int) (v4 : Bool) =>
  (K v2 v3 v4)) N 0 v1 (v1.length : Int) 0)

def row_Long (N : Nat) (v1 : (List UInt8)) : Option (Int × Int × Bool × Unit) := row_Long_cps N _ (fun a0 a1 a2 => some (a0, (a1, (a2, ())))) v1

/-! frankpledge/row.Decode$2 -/
def row_Decode_2_cps (N : Nat) (R : Type) (K : Int → (List UInt8) → Bool → Option R) (v1 : (List UInt8)) (v2 : Bool) : Option R :=
  (Option.bind (row_Long N v1) fun (v3 : Int × Int × Bool × Unit) =>
  (bif v2 then
  (Option.bind (row_Decode_1 N v3.2.1 v3.2.2.1 v1) fun (v4 : (List UInt8) × Bool × (List UInt8) × Unit) =>
  (K v3.1 v4.2.2.1 v4.2.1))
  else
  (Option.bind (row_Decode_1 N v3.2.1 false v1) fun (v5 : (List UInt8) × Bool × (List UInt8) × Unit) =>
  (K v3.1 v5.2.2.1 v5.2.1))))

def row_Decode_2 (N : Nat) (v1 : (List UInt8)) (v2 : Bool) : Option (Int × (List UInt8) × Bool × Unit) := row_Decode_2_cps N _ (fun a0 a1 a2 => some (a0, (a1, (a2, ())))) v1 v2

/-! frankpledge/row.Decode -/
def row_Decode_r1 (N : Nat) (R : Type) (k0 : (List (Int × (Int × ((List UInt8) × Unit)))) → Int → (List UInt8) → Bool → Int → Int → (List UInt8) → Option R) (v37 : (List (Int × (Int × ((List UInt8) × Unit))))) (v38 : Int) (v39 : (List UInt8)) (v40 : Bool) (v41 : Int) (v42 : Int) (v43 : (List UInt8)) : Option R :=
  (Option.bind (row_Decode_2 N v39 v40) fun (v44 : Int × (List UInt8) × Bool × Unit) =>
  (Option.bind (row_Decode_1 N v44.1 v44.2.2.1 v44.2.1) fun (v45 : (List UInt8) × Bool × (List UInt8) × Unit) =>
  (k0 v37 v38 v45.2.2.1 v45.2.1 v41 v42 v45.1)))

def row_Decode_l0B (N : Nat) (R : Type) (rec : (List (Int × (Int × ((List UInt8) × Unit)))) → Int → (List UInt8) → Bool → Option R) (k0 : (List (Int × (Int × ((List UInt8) × Unit)))) → (List UInt8) → Bool → Option R) (v7 : (List (Int × (Int × ((List UInt8) × Unit))))) (v8 : Int) (v9 : (List UInt8)) (v10 : Bool) : Option R :=
  (bif v10 then
  (bif (decide (0 < v8)) then
  (Option.bind (row_Decode_1 N 1 v10 v9) fun (v11 : (List UInt8) × Bool × (List UInt8) × Unit) =>
  (Option.bind (nth v11.1 0) fun (v12 : UInt8) =>
  (bif (decide ((IntKind.wrap .i64 (v12.toNat : Int)) = 1)) then
  (Option.bind (row_Decode_1 N 1 v11.2.1 v11.2.2.1) fun (v13 : (List UInt8) × Bool × (List UInt8) × Unit) =>
  (Option.bind (nth v13.1 0) fun (v14 : UInt8) =>
  (bif v13.2.1 then
  (Option.bind (value_Right N (IntKind.wrap .i64 (v12.toNat : Int)) (IntKind.wrap .i64 (v14.toNat : Int)) []) fun (v15 : Bool × Unit) =>
  (bif v15.1 then
  (bif (room 32 (v7.length + ([((IntKind.wrap .i64 (v12.toNat : Int)), ((IntKind.wrap .i64 (v14.toNat : Int)), ([], ())))] : (List (Int × (Int × ((List UInt8) × Unit))))).length)) then
  (rec (v7 ++ ([((IntKind.wrap .i64 (v12.toNat : Int)), ((IntKind.wrap .i64 (v14.toNat : Int)), ([], ())))] : (List (Int × (Int × ((List UInt8) × Unit)))))) (IntKind.wrap .u8 (v8 - 1)) v13.2.2.1 (decide ((v7.length : Int) < 16)))
  else
  none)
  else
  (bif (room 32 (v7.length + ([((IntKind.wrap .i64 (v12.toNat : Int)), ((IntKind.wrap .i64 (v14.toNat : Int)), ([], ())))] : (List (Int × (Int × ((List UInt8) × Unit))))).length)) then
  (rec (v7 ++ ([((IntKind.wrap .i64 (v12.toNat : Int)), ((IntKind.wrap .i64 (v14.toNat : Int)), ([], ())))] : (List (Int × (Int × ((List UInt8) × Unit)))))) (IntKind.wrap .u8 (v8 - 1)) v13.2.2.1 false)
  else
  none)))
  else
  (bif (room 32 (v7.length + ([((IntKind.wrap .i64 (v12.toNat : Int)), ((IntKind.wrap .i64 (v14.toNat : Int)), ([], ())))] : (List (Int × (Int × ((List UInt8) × Unit))))).length)) then
  (rec (v7 ++ ([((IntKind.wrap .i64 (v12.toNat : Int)), ((IntKind.wrap .i64 (v14.toNat : Int)), ([], ())))] : (List (Int × (Int × ((List UInt8) × Unit)))))) (IntKind.wrap .u8 (v8 - 1)) v13.2.2.1 false)
  else
  none))))
  else
  (bif (decide ((IntKind.wrap .i64 (v12.toNat : Int)) = 2)) then
  (Option.bind (row_Decode_2 N v11.2.2.1 v11.2.1) fun (v16 : Int × (List UInt8) × Bool × Unit) =>
  (bif v16.2.2.1 then
  (Option.bind (value_Right N (IntKind.wrap .i64 (v12.toNat : Int)) v16.1 []) fun (v17 : Bool × Unit) =>
  (bif v17.1 then
  (bif (room 32 (v7.length + ([((IntKind.wrap .i64 (v12.toNat : Int)), (v16.1, ([], ())))] : (List (Int × (Int × ((List UInt8) × Unit))))).length)) then
  (rec (v7 ++ ([((IntKind.wrap .i64 (v12.toNat : Int)), (v16.1, ([], ())))] : (List (Int × (Int × ((List UInt8) × Unit)))))) (IntKind.wrap .u8 (v8 - 1)) v16.2.1 (decide ((v7.length : Int) < 16)))
  else
  none)
  else
  (bif (room 32 (v7.length + ([((IntKind.wrap .i64 (v12.toNat : Int)), (v16.1, ([], ())))] : (List (Int × (Int × ((List UInt8) × Unit))))).length)) then
  (rec (v7 ++ ([((IntKind.wrap .i64 (v12.toNat : Int)), (v16.1, ([], ())))] : (List (Int × (Int × ((List UInt8) × Unit)))))) (IntKind.wrap .u8 (v8 - 1)) v16.2.1 false)
  else
  none)))
  else
  (bif (room 32 (v7.length + ([((IntKind.wrap .i64 (v12.toNat : Int)), (v16.1, ([], ())))] : (List (Int × (Int × ((List UInt8) × Unit))))).length)) then
  (rec (v7 ++ ([((IntKind.wrap .i64 (v12.toNat : Int)), (v16.1, ([], ())))] : (List (Int × (Int × ((List UInt8) × Unit)))))) (IntKind.wrap .u8 (v8 - 1)) v16.2.1 false)
  else
  none)))
  else
  (bif (decide ((IntKind.wrap .i64 (v12.toNat : Int)) = 3)) then
  (Option.bind (row_Decode_2 N v11.2.2.1 v11.2.1) fun (v18 : Int × (List UInt8) × Bool × Unit) =>
  (bif v18.2.2.1 then
  (Option.bind (value_Right N (IntKind.wrap .i64 (v12.toNat : Int)) v18.1 []) fun (v19 : Bool × Unit) =>
  (bif v19.1 then
  (bif (room 32 (v7.length + ([((IntKind.wrap .i64 (v12.toNat : Int)), (v18.1, ([], ())))] : (List (Int × (Int × ((List UInt8) × Unit))))).length)) then
  (rec (v7 ++ ([((IntKind.wrap .i64 (v12.toNat : Int)), (v18.1, ([], ())))] : (List (Int × (Int × ((List UInt8) × Unit)))))) (IntKind.wrap .u8 (v8 - 1)) v18.2.1 (decide ((v7.length : Int) < 16)))
  else
  none)
  else
  (bif (room 32 (v7.length + ([((IntKind.wrap .i64 (v12.toNat : Int)), (v18.1, ([], ())))] : (List (Int × (Int × ((List UInt8) × Unit))))).length)) then
  (rec (v7 ++ ([((IntKind.wrap .i64 (v12.toNat : Int)), (v18.1, ([], ())))] : (List (Int × (Int × ((List UInt8) × Unit)))))) (IntKind.wrap .u8 (v8 - 1)) v18.2.1 false)
  else
  none)))
  else
  (bif (room 32 (v7.length + ([((IntKind.wrap .i64 (v12.toNat : Int)), (v18.1, ([], ())))] : (List (Int × (Int × ((List UInt8) × Unit))))).length)) then
  (rec (v7 ++ ([((IntKind.wrap .i64 (v12.toNat : Int)), (v18.1, ([], ())))] : (List (Int × (Int × ((List UInt8) × Unit)))))) (IntKind.wrap .u8 (v8 - 1)) v18.2.1 false)
  else
  none)))
  else
  (bif (decide ((IntKind.wrap .i64 (v12.toNat : Int)) = 4)) then
  (row_Decode_r1 N _ (fun (v20 : (List (Int × (Int × ((List UInt8) × Unit))))) (v21 : Int) (v22 : (List UInt8)) (v23 : Bool) (v24 : Int) (v25 : Int) (v26 : (List UInt8)) =>
  (bif v23 then
  (Option.bind (value_Right N v24 v25 v26) fun (v27 : Bool × Unit) =>
  (bif v27.1 then
  (bif (room 32 (v20.length + ([(v24, (v25, (v26, ())))] : (List (Int × (Int × ((List UInt8) × Unit))))).length)) then
  (rec (v20 ++ ([(v24, (v25, (v26, ())))] : (List (Int × (Int × ((List UInt8) × Unit)))))) (IntKind.wrap .u8 (v21 - 1)) v22 (decide ((v20.length : Int) < 16)))
  else
  none)
  else
  (bif (room 32 (v20.length + ([(v24, (v25, (v26, ())))] : (List (Int × (Int × ((List UInt8) × Unit))))).length)) then
  (rec (v20 ++ ([(v24, (v25, (v26, ())))] : (List (Int × (Int × ((List UInt8) × Unit)))))) (IntKind.wrap .u8 (v21 - 1)) v22 false)
  else
  none)))
  else
  (bif (room 32 (v20.length + ([(v24, (v25, (v26, ())))] : (List (Int × (Int × ((List UInt8) × Unit))))).length)) then
  (rec (v20 ++ ([(v24, (v25, (v26, ())))] : (List (Int × (Int × ((List UInt8) × Unit)))))) (IntKind.wrap .u8 (v21 - 1)) v22 false)
  else
  none))) v7 v8 v11.2.2.1 v11.2.1 (IntKind.wrap .i64 (v12.toNat : Int)) 0 [])
  else
  (bif (decide ((IntKind.wrap .i64 (v12.toNat : Int)) = 5)) then
  (row_Decode_r1 N _ (fun (v28 : (List (Int × (Int × ((List UInt8) × Unit))))) (v29 : Int) (v30 : (List UInt8)) (v31 : Bool) (v32 : Int) (v33 : Int) (v34 : (List UInt8)) =>
  (bif v31 then
  (Option.bind (value_Right N v32 v33 v34) fun (v35 : Bool × Unit) =>
  (bif v35.1 then
  (bif (room 32 (v28.length + ([(v32, (v33, (v34, ())))] : (List (Int × (Int × ((List UInt8) × Unit))))).length)) then
  (rec (v28 ++ ([(v32, (v33, (v34, ())))] : (List (Int × (Int × ((List UInt8) × Unit)))))) (IntKind.wrap .u8 (v29 - 1)) v30 (decide ((v28.length : Int) < 16)))
  else
  none)
  else
  (bif (room 32 (v28.length + ([(v32, (v33, (v34, ())))] : (List (Int × (Int × ((List UInt8) × Unit))))).length)) then
  (rec (v28 ++ ([(v32, (v33, (v34, ())))] : (List (Int × (Int × ((List UInt8) × Unit)))))) (IntKind.wrap .u8 (v29 - 1)) v30 false)
  else
  none)))
  else
  (bif (room 32 (v28.length + ([(v32, (v33, (v34, ())))] : (List (Int × (Int × ((List UInt8) × Unit))))).length)) then
  (rec (v28 ++ ([(v32, (v33, (v34, ())))] : (List (Int × (Int × ((List UInt8) × Unit)))))) (IntKind.wrap .u8 (v29 - 1)) v30 false)
  else
  none))) v7 v8 v11.2.2.1 v11.2.1 (IntKind.wrap .i64 (v12.toNat : Int)) 0 [])
  else
  (bif v11.2.1 then
  (Option.bind (value_Right N (IntKind.wrap .i64 (v12.toNat : Int)) 0 []) fun (v36 : Bool × Unit) =>
  (bif v36.1 then
  (bif (room 32 (v7.length + ([((IntKind.wrap .i64 (v12.toNat : Int)), (0, ([], ())))] : (List (Int × (Int × ((List UInt8) × Unit))))).length)) then
  (rec (v7 ++ ([((IntKind.wrap .i64 (v12.toNat : Int)), (0, ([], ())))] : (List (Int × (Int × ((List UInt8) × Unit)))))) (IntKind.wrap .u8 (v8 - 1)) v11.2.2.1 (decide ((v7.length : Int) < 16)))
  else
  none)
  else
  (bif (room 32 (v7.length + ([((IntKind.wrap .i64 (v12.toNat : Int)), (0, ([], ())))] : (List (Int × (Int × ((List UInt8) × Unit))))).length)) then
  (rec (v7 ++ ([((IntKind.wrap .i64 (v12.toNat : Int)), (0, ([], ())))] : (List (Int × (Int × ((List UInt8) × Unit)))))) (IntKind.wrap .u8 (v8 - 1)) v11.2.2.1 false)
  else
  none)))
  else
  (bif (room 32 (v7.length + ([((IntKind.wrap .i64 (v12.toNat : Int)), (0, ([], ())))] : (List (Int × (Int × ((List UInt8) × Unit))))).length)) then
  (rec (v7 ++ ([((IntKind.wrap .i64 (v12.toNat : Int)), (0, ([], ())))] : (List (Int × (Int × ((List UInt8) × Unit)))))) (IntKind.wrap .u8 (v8 - 1)) v11.2.2.1 false)
  else
  none)))))))))
  else
  (k0 v7 v9 v10))
  else
  (k0 v7 v9 v10))

def row_Decode_l0 (N : Nat) (R : Type) (k0 : (List (Int × (Int × ((List UInt8) × Unit)))) → (List UInt8) → Bool → Option R) : Nat → (List (Int × (Int × ((List UInt8) × Unit)))) → Int → (List UInt8) → Bool → Option R
  | 0 => fun _ _ _ _ => none
  | n + 1 => row_Decode_l0B N R (row_Decode_l0 N R k0 n) k0

def row_Decode_cps (N : Nat) (R : Type) (K : (List (Int × (Int × ((List UInt8) × Unit)))) → Int → Option R) (v1 : (List UInt8)) : Option R :=
  (Option.bind (row_Decode_1 N 1 true v1) fun (v2 : (List UInt8) × Bool × (List UInt8) × Unit) =>
  (Option.bind (nth v2.1 0) fun (v3 : UInt8) =>
  (row_Decode_l0 N _ (fun (v4 : (List (Int × (Int × ((List UInt8) × Unit))))) (v5 : (List UInt8)) (v6 : Bool) =>
  (bif (!v6) then
  (K [] 51)
  else
  (bif (decide (0 < (v5.length : Int))) then
  (K [] 51)
  else
  (K v4 0)))) N [] (v3.toNat : Int) v2.2.2.1 v2.2.1)))

def row_Decode (N : Nat) (v1 : (List UInt8)) : Option ((List (Int × (Int × ((List UInt8) × Unit)))) × Int × Unit) := row_Decode_cps N _ (fun a0 a1 => some (a0, (a1, ()))) v1

/-! frankpledge/letter.Decode -/
def letter_Decode_l1B (N : Nat) (R : Type) (rec : (List (Int × (Int × ((List UInt8) × Unit)))) → Int → Int → Int → Int → Int → Int → Int → Int → Int → (List Int) → Option R) (k0 : (List (Int × (Int × ((List UInt8) × Unit)))) → Int → Int → Int → Int → Int → Int → Int → Int → (List Int) → Option R) (v40 : (List (Int × (Int × ((List UInt8) × Unit))))) (v41 : Int) (v42 : Int) (v43 : Int) (v44 : Int) (v45 : Int) (v46 : Int) (v47 : Int) (v48 : Int) (v49 : Int) (v50 : (List Int)) : Option R :=
  (bif (decide (v41 < 16)) then
  (Option.bind (nth v40 4) fun (v51 : (Int × (Int × ((List UInt8) × Unit)))) =>
  (bif (decide (0 ≤ v41)) then
  (bif (decide ((Ev.bits .and .i64 (Ev.shr .i64 v51.2.1 v41) 1) = 1)) then
  (bif (room 8 (v50.length + ([v41] : (List Int)).length)) then
  (rec v40 (IntKind.wrap .i64 (v41 + 1)) v42 v43 v44 v45 v46 v47 v48 v49 (v50 ++ ([v41] : (List Int))))
  else
  none)
  else
  (rec v40 (IntKind.wrap .i64 (v41 + 1)) v42 v43 v44 v45 v46 v47 v48 v49 v50))
  else
  none))
  else
  (k0 v40 v42 v43 v44 v45 v46 v47 v48 v49 v50))

def letter_Decode_l1 (N : Nat) (R : Type) (k0 : (List (Int × (Int × ((List UInt8) × Unit)))) → Int → Int → Int → Int → Int → Int → Int → Int → (List Int) → Option R) : Nat → (List (Int × (Int × ((List UInt8) × Unit)))) → Int → Int → Int → Int → Int → Int → Int → Int → Int → (List Int) → Option R
  | 0 => fun _ _ _ _ _ _ _ _ _ _ _ => none
  | n + 1 => letter_Decode_l1B N R (letter_Decode_l1 N R k0 n) k0

def letter_Decode_l0B (N : Nat) (R : Type) (rec : (List (Int × (Int × ((List UInt8) × Unit)))) → (List (Int × (Int × ((List UInt8) × Unit)))) → Int → Int → Int → Int → Int → Int → Option R) (k0 : (List (Int × (Int × ((List UInt8) × Unit)))) → Int → Int → Int → Int → Option R) (k1 : Int → (List (Int × (Int × ((List UInt8) × Unit)))) → Int → Int → Int → Int → Option R) (v31 : (List (Int × (Int × ((List UInt8) × Unit))))) (v32 : (List (Int × (Int × ((List UInt8) × Unit))))) (v33 : Int) (v34 : Int) (v35 : Int) (v36 : Int) (v37 : Int) (v38 : Int) : Option R :=
  (bif (decide (v34 < v33)) then
  (Option.bind (nth v32 v34) fun (v39 : (Int × (Int × ((List UInt8) × Unit)))) =>
  (bif (!(decide (v39.1 = 2))) then
  (k1 111 v31 0 0 0 0)
  else
  (rec v31 v32 v33 (IntKind.wrap .i64 (v34 + 1)) v35 v36 v37 v38)))
  else
  (k0 v31 v35 v36 v37 v38))

def letter_Decode_l0 (N : Nat) (R : Type) (k0 : (List (Int × (Int × ((List UInt8) × Unit)))) → Int → Int → Int → Int → Option R) (k1 : Int → (List (Int × (Int × ((List UInt8) × Unit)))) → Int → Int → Int → Int → Option R) : Nat → (List (Int × (Int × ((List UInt8) × Unit)))) → (List (Int × (Int × ((List UInt8) × Unit)))) → Int → Int → Int → Int → Int → Int → Option R
  | 0 => fun _ _ _ _ _ _ _ _ => none
  | n + 1 => letter_Decode_l0B N R (letter_Decode_l0 N R k0 k1 n) k0 k1

def letter_Decode_cps (N : Nat) (R : Type) (K : Int → Int → Int → Int → (List Int) → Int → Option R) (v1 : (List UInt8)) : Option R :=
  (Option.bind (row_Decode N v1) fun (v2 : (List (Int × (Int × ((List UInt8) × Unit)))) × Int × Unit) =>
  (bif (!(decide (v2.2.1 = 0))) then
  (K 0 0 0 0 [] 111)
  else
  (bif (!(decide ((v2.1.length : Int) = 5))) then
  (K 0 0 0 0 [] 111)
  else
  (letter_Decode_l0 N _ (fun (v3 : (List (Int × (Int × ((List UInt8) × Unit))))) (v4 : Int) (v5 : Int) (v6 : Int) (v7 : Int) =>
  (Option.bind (nth v3 0) fun (v8 : (Int × (Int × ((List UInt8) × Unit)))) =>
  (Option.bind (nth v3 1) fun (v9 : (Int × (Int × ((List UInt8) × Unit)))) =>
  (Option.bind (nth v3 2) fun (v10 : (Int × (Int × ((List UInt8) × Unit)))) =>
  (Option.bind (nth v3 3) fun (v11 : (Int × (Int × ((List UInt8) × Unit)))) =>
  (letter_Decode_l1 N _ (fun (v12 : (List (Int × (Int × ((List UInt8) × Unit))))) (v13 : Int) (v14 : Int) (v15 : Int) (v16 : Int) (v17 : Int) (v18 : Int) (v19 : Int) (v20 : Int) (v21 : (List Int)) =>
  (Option.bind (letter_Right N v17 v18 v19 v20 v21) fun (v22 : Bool × Unit) =>
  (bif (!v22.1) then
  (K 0 0 0 0 [] 111)
  else
  (Option.bind (nth v12 4) fun (v23 : (Int × (Int × ((List UInt8) × Unit)))) =>
  (bif (decide (v23.2.1 < 0)) then
  (K 0 0 0 0 [] 111)
  else
  (Option.bind (nth v12 4) fun (v24 : (Int × (Int × ((List UInt8) × Unit)))) =>
  (bif (decide (65536 ≤ v24.2.1)) then
  (K 0 0 0 0 [] 111)
  else
  (K v17 v18 v19 v20 v21 0)))))))) N v3 0 v4 v5 v6 v7 v8.2.1 v9.2.1 v10.2.1 v11.2.1 [])))))) (fun (v25 : Int) (v26 : (List (Int × (Int × ((List UInt8) × Unit))))) (v27 : Int) (v28 : Int) (v29 : Int) (v30 : Int) =>
  (K v27 v28 v29 v30 [] v25)) N v2.1 v2.1 (v2.1.length : Int) 0 0 0 0 0))))

def letter_Decode (N : Nat) (v1 : (List UInt8)) : Option (Int × Int × Int × Int × (List Int) × Int × Unit) := letter_Decode_cps N _ (fun a0 a1 a2 a3 a4 a5 => some (a0, (a1, (a2, (a3, (a4, (a5, ()))))))) v1

/-! frankpledge/frankpledgeref05.Long -/
def ref05_Long_l0B (N : Nat) (R : Type) (rec : (List UInt8) → Int → Int → Option R) (k0 : Option R) (k1 : Int → Int → Bool → Option R) (v5 : (List UInt8)) (v6 : Int) (v7 : Int) : Option R :=
  (bif (decide (v7 < (v5.length : Int))) then
  (bif (decide (v7 < 10)) then
  (Option.bind (nth v5 v7) fun (v8 : UInt8) =>
  (bif (decide (0 ≤ (IntKind.wrap .u64 (IntKind.wrap .i64 (7 * v7))))) then
  (Option.bind (nth v5 v7) fun (v9 : UInt8) =>
  (bif (decide (128 ≤ (v9.toNat : Int))) then
  (rec v5 (IntKind.wrap .u64 (v6 + (Ev.shl .u64 (IntKind.wrap .u64 (Int.tmod (v8.toNat : Int) 128)) (IntKind.wrap .u64 (IntKind.wrap .i64 (7 * v7)))))) (IntKind.wrap .i64 (v7 + 1)))
  else
  (bif (decide ((Int.tmod (IntKind.wrap .u64 (v6 + (Ev.shl .u64 (IntKind.wrap .u64 (Int.tmod (v8.toNat : Int) 128)) (IntKind.wrap .u64 (IntKind.wrap .i64 (7 * v7)))))) 2) = 1)) then
  (Option.bind (ref05_Short N (IntKind.wrap .i64 ((IntKind.wrap .i64 (0 - (IntKind.wrap .i64 (IntKind.wrap .u64 (Int.tdiv (IntKind.wrap .u64 (v6 + (Ev.shl .u64 (IntKind.wrap .u64 (Int.tmod (v8.toNat : Int) 128)) (IntKind.wrap .u64 (IntKind.wrap .i64 (7 * v7)))))) 2))))) - 1))) fun (v10 : (List UInt8) × Unit) =>
  (bif (decide (0 ≤ (IntKind.wrap .i64 (v7 + 1)) ∧ (IntKind.wrap .i64 (v7 + 1)) ≤ ((v5.length : Nat) : Int))) then
  (bif (!(decide (v10.1 = (List.drop 0 (List.take (Int.toNat (IntKind.wrap .i64 (v7 + 1))) v5))))) then
  (k1 0 0 false)
  else
  (k1 (IntKind.wrap .i64 ((IntKind.wrap .i64 (0 - (IntKind.wrap .i64 (IntKind.wrap .u64 (Int.tdiv (IntKind.wrap .u64 (v6 + (Ev.shl .u64 (IntKind.wrap .u64 (Int.tmod (v8.toNat : Int) 128)) (IntKind.wrap .u64 (IntKind.wrap .i64 (7 * v7)))))) 2))))) - 1)) (IntKind.wrap .i64 (v7 + 1)) true))
  else
  none))
  else
  (Option.bind (ref05_Short N (IntKind.wrap .i64 (IntKind.wrap .u64 (Int.tdiv (IntKind.wrap .u64 (v6 + (Ev.shl .u64 (IntKind.wrap .u64 (Int.tmod (v8.toNat : Int) 128)) (IntKind.wrap .u64 (IntKind.wrap .i64 (7 * v7)))))) 2)))) fun (v11 : (List UInt8) × Unit) =>
  (bif (decide (0 ≤ (IntKind.wrap .i64 (v7 + 1)) ∧ (IntKind.wrap .i64 (v7 + 1)) ≤ ((v5.length : Nat) : Int))) then
  (bif (!(decide (v11.1 = (List.drop 0 (List.take (Int.toNat (IntKind.wrap .i64 (v7 + 1))) v5))))) then
  (k1 0 0 false)
  else
  (k1 (IntKind.wrap .i64 (IntKind.wrap .u64 (Int.tdiv (IntKind.wrap .u64 (v6 + (Ev.shl .u64 (IntKind.wrap .u64 (Int.tmod (v8.toNat : Int) 128)) (IntKind.wrap .u64 (IntKind.wrap .i64 (7 * v7)))))) 2))) (IntKind.wrap .i64 (v7 + 1)) true))
  else
  none)))))
  else
  none))
  else
  k0)
  else
  k0)

def ref05_Long_l0 (N : Nat) (R : Type) (k0 : Option R) (k1 : Int → Int → Bool → Option R) : Nat → (List UInt8) → Int → Int → Option R
  | 0 => fun _ _ _ => none
  | n + 1 => ref05_Long_l0B N R (ref05_Long_l0 N R k0 k1 n) k0 k1

def ref05_Long_cps (N : Nat) (R : Type) (K : Int → Int → Bool → Option R) (v1 : (List UInt8)) : Option R :=
  (ref05_Long_l0 N _ ((K 0 0 false)) (fun (v2 : Int) (v3 : Int) (v4 : Bool) =>
  (K v2 v3 v4)) N v1 0 0)

def ref05_Long (N : Nat) (v1 : (List UInt8)) : Option (Int × Int × Bool × Unit) := ref05_Long_cps N _ (fun a0 a1 a2 => some (a0, (a1, (a2, ())))) v1

/-! frankpledge/frankpledgeref05.take -/
def ref05_take_cps (N : Nat) (R : Type) (K : Int → Int → (List UInt8) → Int → Option R) (v1 : (List UInt8)) : Option R :=
  (bif (decide ((v1.length : Int) = 0)) then
  (K 0 0 [] 0)
  else
  (Option.bind (nth v1 0) fun (v2 : UInt8) =>
  (bif (decide ((IntKind.wrap .i64 (v2.toNat : Int)) = 0)) then
  (K (IntKind.wrap .i64 (v2.toNat : Int)) 0 [] 1)
  else
  (bif (decide ((IntKind.wrap .i64 (v2.toNat : Int)) = 1)) then
  (bif (decide (1 < (v1.length : Int))) then
  (Option.bind (nth v1 1) fun (v3 : UInt8) =>
  (K (IntKind.wrap .i64 (v2.toNat : Int)) (IntKind.wrap .i64 (v3.toNat : Int)) [] 2))
  else
  (K (IntKind.wrap .i64 (v2.toNat : Int)) 0 [] 0))
  else
  (bif (decide ((IntKind.wrap .i64 (v2.toNat : Int)) = 2)) then
  (bif (decide (0 ≤ (1 : Int) ∧ (1 : Int) ≤ ((v1.length : Nat) : Int))) then
  (Option.bind (ref05_Long N (List.drop 1 (List.take v1.length v1))) fun (v4 : Int × Int × Bool × Unit) =>
  (bif v4.2.2.1 then
  (K (IntKind.wrap .i64 (v2.toNat : Int)) v4.1 [] (IntKind.wrap .i64 (1 + v4.2.1)))
  else
  (K (IntKind.wrap .i64 (v2.toNat : Int)) 0 [] 0)))
  else
  none)
  else
  (bif (decide ((IntKind.wrap .i64 (v2.toNat : Int)) = 3)) then
  (bif (decide (0 ≤ (1 : Int) ∧ (1 : Int) ≤ ((v1.length : Nat) : Int))) then
  (Option.bind (ref05_Long N (List.drop 1 (List.take v1.length v1))) fun (v5 : Int × Int × Bool × Unit) =>
  (bif v5.2.2.1 then
  (K (IntKind.wrap .i64 (v2.toNat : Int)) v5.1 [] (IntKind.wrap .i64 (1 + v5.2.1)))
  else
  (K (IntKind.wrap .i64 (v2.toNat : Int)) 0 [] 0)))
  else
  none)
  else
  (bif (decide ((IntKind.wrap .i64 (v2.toNat : Int)) = 4)) then
  (bif (decide (0 ≤ (1 : Int) ∧ (1 : Int) ≤ ((v1.length : Nat) : Int))) then
  (Option.bind (ref05_Long N (List.drop 1 (List.take v1.length v1))) fun (v6 : Int × Int × Bool × Unit) =>
  (bif v6.2.2.1 then
  (bif (decide (0 ≤ v6.1)) then
  (bif (decide (v6.1 ≤ (IntKind.wrap .i64 ((IntKind.wrap .i64 ((v1.length : Int) - 1)) - v6.2.1)))) then
  (bif (decide (0 ≤ (IntKind.wrap .i64 ((IntKind.wrap .i64 (1 + v6.2.1)) + v6.1)) ∧ (IntKind.wrap .i64 ((IntKind.wrap .i64 (1 + v6.2.1)) + v6.1)) ≤ ((v1.length : Nat) : Int))) then
  (bif (decide (0 ≤ (IntKind.wrap .i64 (1 + v6.2.1)) ∧ (IntKind.wrap .i64 (1 + v6.2.1)) ≤ (((Int.toNat (IntKind.wrap .i64 ((IntKind.wrap .i64 (1 + v6.2.1)) + v6.1))) : Nat) : Int))) then
  (K (IntKind.wrap .i64 (v2.toNat : Int)) 0 (List.drop (Int.toNat (IntKind.wrap .i64 (1 + v6.2.1))) (List.take (Int.toNat (IntKind.wrap .i64 ((IntKind.wrap .i64 (1 + v6.2.1)) + v6.1))) v1)) (IntKind.wrap .i64 ((IntKind.wrap .i64 (1 + v6.2.1)) + v6.1)))
  else
  none)
  else
  none)
  else
  (K (IntKind.wrap .i64 (v2.toNat : Int)) 0 [] 0))
  else
  (K (IntKind.wrap .i64 (v2.toNat : Int)) 0 [] 0))
  else
  (K (IntKind.wrap .i64 (v2.toNat : Int)) 0 [] 0)))
  else
  none)
  else
  (bif (decide ((IntKind.wrap .i64 (v2.toNat : Int)) = 5)) then
  (bif (decide (0 ≤ (1 : Int) ∧ (1 : Int) ≤ ((v1.length : Nat) : Int))) then
  (Option.bind (ref05_Long N (List.drop 1 (List.take v1.length v1))) fun (v7 : Int × Int × Bool × Unit) =>
  (bif v7.2.2.1 then
  (bif (decide (0 ≤ v7.1)) then
  (bif (decide (v7.1 ≤ (IntKind.wrap .i64 ((IntKind.wrap .i64 ((v1.length : Int) - 1)) - v7.2.1)))) then
  (bif (decide (0 ≤ (IntKind.wrap .i64 ((IntKind.wrap .i64 (1 + v7.2.1)) + v7.1)) ∧ (IntKind.wrap .i64 ((IntKind.wrap .i64 (1 + v7.2.1)) + v7.1)) ≤ ((v1.length : Nat) : Int))) then
  (bif (decide (0 ≤ (IntKind.wrap .i64 (1 + v7.2.1)) ∧ (IntKind.wrap .i64 (1 + v7.2.1)) ≤ (((Int.toNat (IntKind.wrap .i64 ((IntKind.wrap .i64 (1 + v7.2.1)) + v7.1))) : Nat) : Int))) then
  (K (IntKind.wrap .i64 (v2.toNat : Int)) 0 (List.drop (Int.toNat (IntKind.wrap .i64 (1 + v7.2.1))) (List.take (Int.toNat (IntKind.wrap .i64 ((IntKind.wrap .i64 (1 + v7.2.1)) + v7.1))) v1)) (IntKind.wrap .i64 ((IntKind.wrap .i64 (1 + v7.2.1)) + v7.1)))
  else
  none)
  else
  none)
  else
  (K (IntKind.wrap .i64 (v2.toNat : Int)) 0 [] 0))
  else
  (K (IntKind.wrap .i64 (v2.toNat : Int)) 0 [] 0))
  else
  (K (IntKind.wrap .i64 (v2.toNat : Int)) 0 [] 0)))
  else
  none)
  else
  (K (IntKind.wrap .i64 (v2.toNat : Int)) 0 [] 0)))))))))

def ref05_take (N : Nat) (v1 : (List UInt8)) : Option (Int × Int × (List UInt8) × Int × Unit) := ref05_take_cps N _ (fun a0 a1 a2 a3 => some (a0, (a1, (a2, (a3, ()))))) v1

/-! frankpledge/frankpledgeref05.Decode -/
def ref05_Decode_l0B (N : Nat) (R : Type) (rec : (List UInt8) → (List (Int × (Int × ((List UInt8) × Unit)))) → Int → Int → Option R) (k0 : (List UInt8) → (List (Int × (Int × ((List UInt8) × Unit)))) → Option R) (k1 : (List UInt8) → Int → (List (Int × (Int × ((List UInt8) × Unit)))) → Option R) (v8 : (List UInt8)) (v9 : (List (Int × (Int × ((List UInt8) × Unit))))) (v10 : Int) (v11 : Int) : Option R :=
  (Option.bind (nth v8 0) fun (v12 : UInt8) =>
  (bif (decide (v11 < (IntKind.wrap .i64 (v12.toNat : Int)))) then
  (bif (decide (0 ≤ v10 ∧ v10 ≤ ((v8.length : Nat) : Int))) then
  (Option.bind (ref05_take N (List.drop (Int.toNat v10) (List.take v8.length v8))) fun (v13 : Int × Int × (List UInt8) × Int × Unit) =>
  (bif (decide (v13.2.2.2.1 = 0)) then
  (k1 v8 51 v9)
  else
  (bif (room 32 (v9.length + ([(v13.1, (v13.2.1, (v13.2.2.1, ())))] : (List (Int × (Int × ((List UInt8) × Unit))))).length)) then
  (rec v8 (v9 ++ ([(v13.1, (v13.2.1, (v13.2.2.1, ())))] : (List (Int × (Int × ((List UInt8) × Unit)))))) (IntKind.wrap .i64 (v10 + v13.2.2.2.1)) (IntKind.wrap .i64 (v11 + 1)))
  else
  none)))
  else
  none)
  else
  (k0 v8 v9)))

def ref05_Decode_l0 (N : Nat) (R : Type) (k0 : (List UInt8) → (List (Int × (Int × ((List UInt8) × Unit)))) → Option R) (k1 : (List UInt8) → Int → (List (Int × (Int × ((List UInt8) × Unit)))) → Option R) : Nat → (List UInt8) → (List (Int × (Int × ((List UInt8) × Unit)))) → Int → Int → Option R
  | 0 => fun _ _ _ _ => none
  | n + 1 => ref05_Decode_l0B N R (ref05_Decode_l0 N R k0 k1 n) k0 k1

def ref05_Decode_cps (N : Nat) (R : Type) (K : (List (Int × (Int × ((List UInt8) × Unit)))) → Int → Option R) (v1 : (List UInt8)) : Option R :=
  (bif (decide ((v1.length : Int) = 0)) then
  (K [] 51)
  else
  (ref05_Decode_l0 N _ (fun (v2 : (List UInt8)) (v3 : (List (Int × (Int × ((List UInt8) × Unit))))) =>
  (Option.bind (ref05_Encode N v3) fun (v4 : (List UInt8) × Int × Unit) =>
  (bif (!(decide (v4.2.1 = 0))) then
  (K [] 51)
  else
  (bif (!(decide (v4.1 = v2))) then
  (K [] 51)
  else
  (K v3 0))))) (fun (v5 : (List UInt8)) (v6 : Int) (v7 : (List (Int × (Int × ((List UInt8) × Unit))))) =>
  (K [] v6)) N v1 [] 1 0))

def ref05_Decode (N : Nat) (v1 : (List UInt8)) : Option ((List (Int × (Int × ((List UInt8) × Unit)))) × Int × Unit) := ref05_Decode_cps N _ (fun a0 a1 => some (a0, (a1, ()))) v1

/-! frankpledge/frankpledgeref11.Decode -/
def ref11_Decode_l0B (N : Nat) (R : Type) (rec : (List UInt8) → (List (Int × (Int × ((List UInt8) × Unit)))) → Int → Int → Int → Int → Int → Int → Int → Int → Int → (List Int) → Option R) (k0 : (List UInt8) → Int → Int → Int → Int → Int → Int → Int → Int → (List Int) → Option R) (v18 : (List UInt8)) (v19 : (List (Int × (Int × ((List UInt8) × Unit))))) (v20 : Int) (v21 : Int) (v22 : Int) (v23 : Int) (v24 : Int) (v25 : Int) (v26 : Int) (v27 : Int) (v28 : Int) (v29 : (List Int)) : Option R :=
  (bif (decide (v20 < 16)) then
  (Option.bind (nth v19 4) fun (v30 : (Int × (Int × ((List UInt8) × Unit)))) =>
  (bif (decide (0 ≤ (IntKind.wrap .u64 v20))) then
  (bif (!(decide ((Int.tmod (Ev.shr .i64 v30.2.1 (IntKind.wrap .u64 v20)) 2) = 0))) then
  (bif (room 8 (v29.length + ([v20] : (List Int)).length)) then
  (rec v18 v19 (IntKind.wrap .i64 (v20 + 1)) v21 v22 v23 v24 v25 v26 v27 v28 (v29 ++ ([v20] : (List Int))))
  else
  none)
  else
  (rec v18 v19 (IntKind.wrap .i64 (v20 + 1)) v21 v22 v23 v24 v25 v26 v27 v28 v29))
  else
  none))
  else
  (k0 v18 v21 v22 v23 v24 v25 v26 v27 v28 v29))

def ref11_Decode_l0 (N : Nat) (R : Type) (k0 : (List UInt8) → Int → Int → Int → Int → Int → Int → Int → Int → (List Int) → Option R) : Nat → (List UInt8) → (List (Int × (Int × ((List UInt8) × Unit)))) → Int → Int → Int → Int → Int → Int → Int → Int → Int → (List Int) → Option R
  | 0 => fun _ _ _ _ _ _ _ _ _ _ _ _ => none
  | n + 1 => ref11_Decode_l0B N R (ref11_Decode_l0 N R k0 n) k0

def ref11_Decode_cps (N : Nat) (R : Type) (K : Int → Int → Int → Int → (List Int) → Int → Option R) (v1 : (List UInt8)) : Option R :=
  (Option.bind (ref05_Decode N v1) fun (v2 : (List (Int × (Int × ((List UInt8) × Unit)))) × Int × Unit) =>
  (bif (!(decide (v2.2.1 = 0))) then
  (K 0 0 0 0 [] 111)
  else
  (bif (!(decide ((v2.1.length : Int) = 5))) then
  (K 0 0 0 0 [] 111)
  else
  (Option.bind (nth v2.1 0) fun (v3 : (Int × (Int × ((List UInt8) × Unit)))) =>
  (Option.bind (nth v2.1 1) fun (v4 : (Int × (Int × ((List UInt8) × Unit)))) =>
  (Option.bind (nth v2.1 2) fun (v5 : (Int × (Int × ((List UInt8) × Unit)))) =>
  (Option.bind (nth v2.1 3) fun (v6 : (Int × (Int × ((List UInt8) × Unit)))) =>
  (ref11_Decode_l0 N _ (fun (v7 : (List UInt8)) (v8 : Int) (v9 : Int) (v10 : Int) (v11 : Int) (v12 : Int) (v13 : Int) (v14 : Int) (v15 : Int) (v16 : (List Int)) =>
  (Option.bind (ref11_Encode N v12 v13 v14 v15 v16) fun (v17 : (List UInt8) × Int × Unit) =>
  (bif (!(decide (v17.2.1 = 0))) then
  (K 0 0 0 0 [] 111)
  else
  (bif (!(decide (v17.1 = v7))) then
  (K 0 0 0 0 [] 111)
  else
  (K v12 v13 v14 v15 v16 0))))) N v1 v2.1 0 0 0 0 0 v3.2.1 v4.2.1 v5.2.1 v6.2.1 []))))))))

def ref11_Decode (N : Nat) (v1 : (List UInt8)) : Option (Int × Int × Int × Int × (List Int) × Int × Unit) := ref11_Decode_cps N _ (fun a0 a1 a2 a3 a4 a5 => some (a0, (a1, (a2, (a3, (a4, (a5, ()))))))) v1

/-! frankpledge/frankpledgeref11.Same -/
def ref11_Same_l0B (N : Nat) (R : Type) (rec : Int → Int → Int → Int → Int → (List Int) → Int → Int → Int → Int → (List Int) → Option R) (k0 : Int → Int → Int → Int → (List Int) → Int → Int → Int → Int → (List Int) → Option R) (k1 : Bool → Int → Int → Int → Int → (List Int) → Int → Int → Int → Int → (List Int) → Option R) (v32 : Int) (v33 : Int) (v34 : Int) (v35 : Int) (v36 : Int) (v37 : (List Int)) (v38 : Int) (v39 : Int) (v40 : Int) (v41 : Int) (v42 : (List Int)) : Option R :=
  (bif (decide (v32 < (v37.length : Int))) then
  (Option.bind (nth v37 v32) fun (v43 : Int) =>
  (Option.bind (nth v42 v32) fun (v44 : Int) =>
  (bif (!(decide (v43 = v44))) then
  (k1 false v33 v34 v35 v36 v37 v38 v39 v40 v41 v42)
  else
  (rec (IntKind.wrap .i64 (v32 + 1)) v33 v34 v35 v36 v37 v38 v39 v40 v41 v42))))
  else
  (k0 v33 v34 v35 v36 v37 v38 v39 v40 v41 v42))

def ref11_Same_l0 (N : Nat) (R : Type) (k0 : Int → Int → Int → Int → (List Int) → Int → Int → Int → Int → (List Int) → Option R) (k1 : Bool → Int → Int → Int → Int → (List Int) → Int → Int → Int → Int → (List Int) → Option R) : Nat → Int → Int → Int → Int → Int → (List Int) → Int → Int → Int → Int → (List Int) → Option R
  | 0 => fun _ _ _ _ _ _ _ _ _ _ _ => none
  | n + 1 => ref11_Same_l0B N R (ref11_Same_l0 N R k0 k1 n) k0 k1

def ref11_Same_cps (N : Nat) (R : Type) (K : Bool → Option R) (v1 : Int) (v2 : Int) (v3 : Int) (v4 : Int) (v5 : (List Int)) (v6 : Int) (v7 : Int) (v8 : Int) (v9 : Int) (v10 : (List Int)) : Option R :=
  (bif (!(decide (v1 = v6))) then
  (K false)
  else
  (bif (!(decide (v2 = v7))) then
  (K false)
  else
  (bif (!(decide (v3 = v8))) then
  (K false)
  else
  (bif (!(decide (v4 = v9))) then
  (K false)
  else
  (bif (!(decide ((v5.length : Int) = (v10.length : Int)))) then
  (K false)
  else
  (ref11_Same_l0 N _ (fun (v11 : Int) (v12 : Int) (v13 : Int) (v14 : Int) (v15 : (List Int)) (v16 : Int) (v17 : Int) (v18 : Int) (v19 : Int) (v20 : (List Int)) =>
  (K true)) (fun (v21 : Bool) (v22 : Int) (v23 : Int) (v24 : Int) (v25 : Int) (v26 : (List Int)) (v27 : Int) (v28 : Int) (v29 : Int) (v30 : Int) (v31 : (List Int)) =>
  (K v21)) N 0 v1 v2 v3 v4 v5 v6 v7 v8 v9 v10))))))

def ref11_Same (N : Nat) (v1 : Int) (v2 : Int) (v3 : Int) (v4 : Int) (v5 : (List Int)) (v6 : Int) (v7 : Int) (v8 : Int) (v9 : Int) (v10 : (List Int)) : Option (Bool × Unit) := ref11_Same_cps N _ (fun a0 => some (a0, ())) v1 v2 v3 v4 v5 v6 v7 v8 v9 v10

/-! frankpledge/frankpledgelaw11.LetterEncodes -/
def law11_LetterEncodes_cps (N : Nat) (R : Type) (K : Bool → Option R) (v1 : Int) (v2 : Int) (v3 : Int) (v4 : Int) (v5 : (List Int)) (v6 : (List UInt8)) : Option R :=
  (bif (decide (300 < (v5.length : Int))) then
  (Option.bind (law11_alive N) fun (v7 : Bool × Unit) =>
  (K v7.1))
  else
  (bif (decide (300 < (v6.length : Int))) then
  (Option.bind (law11_alive N) fun (v8 : Bool × Unit) =>
  (K v8.1))
  else
  (Option.bind (letter_Encode N v1 v2 v3 v4 v5) fun (v9 : (List UInt8) × Int × Unit) =>
  (Option.bind (ref11_Encode N v1 v2 v3 v4 v5) fun (v10 : (List UInt8) × Int × Unit) =>
  (Option.bind (letter_Decode N v6) fun (v11 : Int × Int × Int × Int × (List Int) × Int × Unit) =>
  (Option.bind (ref11_Decode N v6) fun (v12 : Int × Int × Int × Int × (List Int) × Int × Unit) =>
  (Option.bind (ref11_Same N v11.1 v11.2.1 v11.2.2.1 v11.2.2.2.1 v11.2.2.2.2.1 v12.1 v12.2.1 v12.2.2.1 v12.2.2.2.1 v12.2.2.2.2.1) fun (v13 : Bool × Unit) =>
  (Option.bind (law11_alive N) fun (v14 : Bool × Unit) =>
  (bif v14.1 then
  (Option.bind (letter_Right N v1 v2 v3 v4 v5) fun (v15 : Bool × Unit) =>
  (Option.bind (ref11_Right N v1 v2 v3 v4 v5) fun (v16 : Bool × Unit) =>
  (bif (v15.1 == v16.1) then
  (bif (decide (v9.1 = v10.1)) then
  (bif (decide (v9.2.1 = v10.2.1)) then
  (bif v13.1 then
  (K (decide (v11.2.2.2.2.2.1 = v12.2.2.2.2.2.1)))
  else
  (K false))
  else
  (K false))
  else
  (K false))
  else
  (K false))))
  else
  (K false))))))))))

def law11_LetterEncodes (N : Nat) (v1 : Int) (v2 : Int) (v3 : Int) (v4 : Int) (v5 : (List Int)) (v6 : (List UInt8)) : Option (Bool × Unit) := law11_LetterEncodes_cps N _ (fun a0 => some (a0, ())) v1 v2 v3 v4 v5 v6

/-! slices.Equal[[]int,int] -/
def slices_Equal_int_int_l0B (N : Nat) (R : Type) (rec : (List Int) → (List Int) → Int → Int → Option R) (k0 : Option R) (k1 : Bool → Option R) (v4 : (List Int)) (v5 : (List Int)) (v6 : Int) (v7 : Int) : Option R :=
  (bif (decide (v7 < v6)) then
  (Option.bind (nth v4 v7) fun (v8 : Int) =>
  (Option.bind (nth v5 v7) fun (v9 : Int) =>
  (bif (!(decide (v8 = v9))) then
  (k1 false)
  else
  (rec v4 v5 v6 (IntKind.wrap .i64 (v7 + 1))))))
  else
  k0)

def slices_Equal_int_int_l0 (N : Nat) (R : Type) (k0 : Option R) (k1 : Bool → Option R) : Nat → (List Int) → (List Int) → Int → Int → Option R
  | 0 => fun _ _ _ _ => none
  | n + 1 => slices_Equal_int_int_l0B N R (slices_Equal_int_int_l0 N R k0 k1 n) k0 k1

def slices_Equal_int_int_cps (N : Nat) (R : Type) (K : Bool → Option R) (v1 : (List Int)) (v2 : (List Int)) : Option R :=
  (bif (!(decide ((v1.length : Int) = (v2.length : Int)))) then
  (K false)
  else
  (slices_Equal_int_int_l0 N _ ((K true)) (fun (v3 : Bool) =>
  (K v3)) N v1 v2 (v1.length : Int) 0))

def slices_Equal_int_int (N : Nat) (v1 : (List Int)) (v2 : (List Int)) : Option (Bool × Unit) := slices_Equal_int_int_cps N _ (fun a0 => some (a0, ())) v1 v2

/-! frankpledge/letter.Same -/
def letter_Same_cps (N : Nat) (R : Type) (K : Bool → Option R) (v1 : Int) (v2 : Int) (v3 : Int) (v4 : Int) (v5 : (List Int)) (v6 : Int) (v7 : Int) (v8 : Int) (v9 : Int) (v10 : (List Int)) : Option R :=
  (bif (decide (v1 = v6)) then
  (bif (decide (v2 = v7)) then
  (bif (decide (v3 = v8)) then
  (bif (decide (v4 = v9)) then
  (Option.bind (slices_Equal_int_int N v5 v10) fun (v11 : Bool × Unit) =>
  (K v11.1))
  else
  (K false))
  else
  (K false))
  else
  (K false))
  else
  (K false))

def letter_Same (N : Nat) (v1 : Int) (v2 : Int) (v3 : Int) (v4 : Int) (v5 : (List Int)) (v6 : Int) (v7 : Int) (v8 : Int) (v9 : Int) (v10 : (List Int)) : Option (Bool × Unit) := letter_Same_cps N _ (fun a0 => some (a0, ())) v1 v2 v3 v4 v5 v6 v7 v8 v9 v10

/-! frankpledge/frankpledgelaw11.LetterBack -/
def law11_LetterBack_j0 (N : Nat) (R : Type) (k0 : Bool → Int → Int → Int → Int → (List Int) → Option R) (v17 : (List UInt8)) (v18 : (List UInt8)) (v19 : Int) (v20 : Int) (v21 : Int) (v22 : Int) (v23 : (List Int)) : Option R :=
  (Option.bind (letter_Decode N v17) fun (v24 : Int × Int × Int × Int × (List Int) × Int × Unit) =>
  (bif (decide (v24.2.2.2.2.2.1 = 0)) then
  (Option.bind (letter_Encode N v24.1 v24.2.1 v24.2.2.1 v24.2.2.2.1 v24.2.2.2.2.1) fun (v25 : (List UInt8) × Int × Unit) =>
  (bif (!(decide (v25.2.1 = 0))) then
  (k0 false v19 v20 v21 v22 v23)
  else
  (bif (!(decide (v25.1 = v17))) then
  (k0 false v19 v20 v21 v22 v23)
  else
  (Option.bind (letter_Right N v24.1 v24.2.1 v24.2.2.1 v24.2.2.2.1 v24.2.2.2.2.1) fun (v26 : Bool × Unit) =>
  (bif (!v26.1) then
  (k0 false v19 v20 v21 v22 v23)
  else
  (Option.bind (letter_Encode N v19 v20 v21 v22 v23) fun (v27 : (List UInt8) × Int × Unit) =>
  (bif (!(decide (v27.2.1 = 0))) then
  (Option.bind (law11_alive N) fun (v28 : Bool × Unit) =>
  (bif v28.1 then
  (Option.bind (letter_Right N v19 v20 v21 v22 v23) fun (v29 : Bool × Unit) =>
  (k0 (!v29.1) v19 v20 v21 v22 v23))
  else
  (k0 false v19 v20 v21 v22 v23)))
  else
  (Option.bind (letter_Decode N v27.1) fun (v30 : Int × Int × Int × Int × (List Int) × Int × Unit) =>
  (bif (decide (0 ≤ (IntKind.wrap .i64 ((v27.1.length : Int) - 1)) ∧ (IntKind.wrap .i64 ((v27.1.length : Int) - 1)) ≤ ((v27.1.length : Nat) : Int))) then
  (Option.bind (letter_Decode N (List.drop 0 (List.take (Int.toNat (IntKind.wrap .i64 ((v27.1.length : Int) - 1))) v27.1))) fun (v31 : Int × Int × Int × Int × (List Int) × Int × Unit) =>
  (bif (room 1 (([] : List UInt8).length + v27.1.length)) then
  (bif (room 1 (([] ++ v27.1).length + v18.length)) then
  (Option.bind (letter_Decode N (([] ++ v27.1) ++ v18)) fun (v32 : Int × Int × Int × Int × (List Int) × Int × Unit) =>
  (Option.bind (law11_alive N) fun (v33 : Bool × Unit) =>
  (bif v33.1 then
  (bif (decide (v30.2.2.2.2.2.1 = 0)) then
  (Option.bind (letter_Same N v30.1 v30.2.1 v30.2.2.1 v30.2.2.2.1 v30.2.2.2.2.1 v19 v20 v21 v22 v23) fun (v34 : Bool × Unit) =>
  (bif v34.1 then
  (bif (decide (v31.2.2.2.2.2.1 = 111)) then
  (k0 ((decide (v32.2.2.2.2.2.1 = 0)) == (decide ((v18.length : Int) = 0))) v19 v20 v21 v22 v23)
  else
  (k0 false v19 v20 v21 v22 v23))
  else
  (k0 false v19 v20 v21 v22 v23)))
  else
  (k0 false v19 v20 v21 v22 v23))
  else
  (k0 false v19 v20 v21 v22 v23))))
  else
  none)
  else
  none))
  else
  none)))))))))
  else
  (Option.bind (letter_Encode N v19 v20 v21 v22 v23) fun (v35 : (List UInt8) × Int × Unit) =>
  (bif (!(decide (v35.2.1 = 0))) then
  (Option.bind (law11_alive N) fun (v36 : Bool × Unit) =>
  (bif v36.1 then
  (Option.bind (letter_Right N v19 v20 v21 v22 v23) fun (v37 : Bool × Unit) =>
  (k0 (!v37.1) v19 v20 v21 v22 v23))
  else
  (k0 false v19 v20 v21 v22 v23)))
  else
  (Option.bind (letter_Decode N v35.1) fun (v38 : Int × Int × Int × Int × (List Int) × Int × Unit) =>
  (bif (decide (0 ≤ (IntKind.wrap .i64 ((v35.1.length : Int) - 1)) ∧ (IntKind.wrap .i64 ((v35.1.length : Int) - 1)) ≤ ((v35.1.length : Nat) : Int))) then
  (Option.bind (letter_Decode N (List.drop 0 (List.take (Int.toNat (IntKind.wrap .i64 ((v35.1.length : Int) - 1))) v35.1))) fun (v39 : Int × Int × Int × Int × (List Int) × Int × Unit) =>
  (bif (room 1 (([] : List UInt8).length + v35.1.length)) then
  (bif (room 1 (([] ++ v35.1).length + v18.length)) then
  (Option.bind (letter_Decode N (([] ++ v35.1) ++ v18)) fun (v40 : Int × Int × Int × Int × (List Int) × Int × Unit) =>
  (Option.bind (law11_alive N) fun (v41 : Bool × Unit) =>
  (bif v41.1 then
  (bif (decide (v38.2.2.2.2.2.1 = 0)) then
  (Option.bind (letter_Same N v38.1 v38.2.1 v38.2.2.1 v38.2.2.2.1 v38.2.2.2.2.1 v19 v20 v21 v22 v23) fun (v42 : Bool × Unit) =>
  (bif v42.1 then
  (bif (decide (v39.2.2.2.2.2.1 = 111)) then
  (k0 ((decide (v40.2.2.2.2.2.1 = 0)) == (decide ((v18.length : Int) = 0))) v19 v20 v21 v22 v23)
  else
  (k0 false v19 v20 v21 v22 v23))
  else
  (k0 false v19 v20 v21 v22 v23)))
  else
  (k0 false v19 v20 v21 v22 v23))
  else
  (k0 false v19 v20 v21 v22 v23))))
  else
  none)
  else
  none))
  else
  none))))))

def law11_LetterBack_cps (N : Nat) (R : Type) (K : Bool → Option R) (v1 : Int) (v2 : Int) (v3 : Int) (v4 : Int) (v5 : (List Int)) (v6 : (List UInt8)) (v7 : (List UInt8)) : Option R :=
  (bif (decide (300 < (v5.length : Int))) then
  (Option.bind (law11_alive N) fun (v8 : Bool × Unit) =>
  (K v8.1))
  else
  (bif (decide (300 < (v6.length : Int))) then
  (Option.bind (law11_alive N) fun (v9 : Bool × Unit) =>
  (K v9.1))
  else
  (bif (decide (300 < (v7.length : Int))) then
  (Option.bind (law11_alive N) fun (v10 : Bool × Unit) =>
  (K v10.1))
  else
  (law11_LetterBack_j0 N _ (fun (v11 : Bool) (v12 : Int) (v13 : Int) (v14 : Int) (v15 : Int) (v16 : (List Int)) =>
  (K v11)) v6 v7 v1 v2 v3 v4 v5))))

def law11_LetterBack (N : Nat) (v1 : Int) (v2 : Int) (v3 : Int) (v4 : Int) (v5 : (List Int)) (v6 : (List UInt8)) (v7 : (List UInt8)) : Option (Bool × Unit) := law11_LetterBack_cps N _ (fun a0 => some (a0, ())) v1 v2 v3 v4 v5 v6 v7

/-! frankpledge/frankpledgelaw11.LetterBits -/
def law11_LetterBits_l1B (N : Nat) (R : Type) (rec : Int → Int → Int → Int → Int → Int → Int → (List Int) → Option R) (k0 : Int → Int → Int → Int → Int → (List Int) → Option R) (v25 : Int) (v26 : Int) (v27 : Int) (v28 : Int) (v29 : Int) (v30 : Int) (v31 : Int) (v32 : (List Int)) : Option R :=
  (bif (decide (v27 < 16)) then
  (bif (decide (0 ≤ (IntKind.wrap .u64 v27))) then
  (bif (decide ((Int.tmod (Ev.shr .i64 v25 (IntKind.wrap .u64 v27)) 2) = 1)) then
  (bif (room 8 (v32.length + ([v27] : (List Int)).length)) then
  (rec v25 v26 (IntKind.wrap .i64 (v27 + 1)) v28 v29 v30 v31 (v32 ++ ([v27] : (List Int))))
  else
  none)
  else
  (rec v25 v26 (IntKind.wrap .i64 (v27 + 1)) v28 v29 v30 v31 v32))
  else
  none)
  else
  (k0 v26 v28 v29 v30 v31 v32))

def law11_LetterBits_l1 (N : Nat) (R : Type) (k0 : Int → Int → Int → Int → Int → (List Int) → Option R) : Nat → Int → Int → Int → Int → Int → Int → Int → (List Int) → Option R
  | 0 => fun _ _ _ _ _ _ _ _ => none
  | n + 1 => law11_LetterBits_l1B N R (law11_LetterBits_l1 N R k0 n) k0

def law11_LetterBits_j0 (N : Nat) (R : Type) (k0 : Bool → Option R) (v9 : Int) (v10 : Int) (v11 : Int) : Option R :=
  (law11_LetterBits_l1 N _ (fun (v12 : Int) (v13 : Int) (v14 : Int) (v15 : Int) (v16 : Int) (v17 : (List Int)) =>
  (Option.bind (letter_Encode N v13 v14 v15 v16 v17) fun (v18 : (List UInt8) × Int × Unit) =>
  (Option.bind (letter_Decode N v18.1) fun (v19 : Int × Int × Int × Int × (List Int) × Int × Unit) =>
  (bif (!(decide (v18.2.1 = 0))) then
  (k0 false)
  else
  (bif (!(decide (v19.2.2.2.2.2.1 = 0))) then
  (k0 false)
  else
  (Option.bind (letter_Same N v19.1 v19.2.1 v19.2.2.1 v19.2.2.2.1 v19.2.2.2.2.1 v13 v14 v15 v16 v17) fun (v20 : Bool × Unit) =>
  (bif (!v20.1) then
  (k0 false)
  else
  (bif (!(decide ((v19.2.2.2.2.1.length : Int) = (v17.length : Int)))) then
  (k0 false)
  else
  (Option.bind (letter_Right N v12 v14 v15 v16 v17) fun (v21 : Bool × Unit) =>
  (bif (room 8 (([] : List UInt8).length + v17.length)) then
  (bif (room 8 (([] ++ v17).length + ([0] : (List Int)).length)) then
  (Option.bind (letter_Right N 1 v14 v15 v16 (([] ++ v17) ++ ([0] : (List Int)))) fun (v22 : Bool × Unit) =>
  (bif (decide (1 ≤ v12)) then
  (Option.bind (law11_alive N) fun (v23 : Bool × Unit) =>
  (bif v23.1 then
  (bif (decide (v12 = 1)) then
  (bif (v21.1 == true) then
  (k0 (v22.1 == (decide ((v17.length : Int) = 0))))
  else
  (k0 false))
  else
  (bif (decide (v12 ≤ 8)) then
  (bif (v21.1 == (decide ((v17.length : Int) = 0))) then
  (k0 (v22.1 == (decide ((v17.length : Int) = 0))))
  else
  (k0 false))
  else
  (bif (v21.1 == false) then
  (k0 (v22.1 == (decide ((v17.length : Int) = 0))))
  else
  (k0 false))))
  else
  (k0 false)))
  else
  (Option.bind (law11_alive N) fun (v24 : Bool × Unit) =>
  (bif v24.1 then
  (bif (decide (v12 = 1)) then
  (bif (v21.1 == true) then
  (k0 (v22.1 == (decide ((v17.length : Int) = 0))))
  else
  (k0 false))
  else
  (bif (v21.1 == false) then
  (k0 (v22.1 == (decide ((v17.length : Int) = 0))))
  else
  (k0 false)))
  else
  (k0 false)))))
  else
  none)
  else
  none)))))))))) N v9 v11 0 1 v10 0 5 [])

def law11_LetterBits_cps (N : Nat) (R : Type) (K : Bool → Option R) (v1 : Int) (v2 : Int) (v3 : Int) : Option R :=
  (bif (decide (v1 < 0)) then
  (Option.bind (law11_alive N) fun (v4 : Bool × Unit) =>
  (K v4.1))
  else
  (bif (decide (65536 ≤ v1)) then
  (Option.bind (law11_alive N) fun (v5 : Bool × Unit) =>
  (K v5.1))
  else
  (bif (decide (v2 < 0)) then
  (Option.bind (law11_alive N) fun (v6 : Bool × Unit) =>
  (K v6.1))
  else
  (bif (decide (16 ≤ v2)) then
  (Option.bind (law11_alive N) fun (v7 : Bool × Unit) =>
  (K v7.1))
  else
  (law11_LetterBits_j0 N _ (fun (v8 : Bool) =>
  (K v8)) v1 v2 v3)))))

def law11_LetterBits (N : Nat) (v1 : Int) (v2 : Int) (v3 : Int) : Option (Bool × Unit) := law11_LetterBits_cps N _ (fun a0 => some (a0, ())) v1 v2 v3

/-- What is to be shown of the law LetterBack. -/
def LetterBack_Pure : Prop := ∀ x : denA [(.pair (.int .i64) (.pair (.int .i64) (.pair (.int .i64) (.pair (.int .i64) (.pair (.slice (.int .i64)) .unit))))), (.slice .byte), (.slice .byte)], WfA [(.pair (.int .i64) (.pair (.int .i64) (.pair (.int .i64) (.pair (.int .i64) (.pair (.slice (.int .i64)) .unit))))), (.slice .byte), (.slice .byte)] x → law11_LetterBack big x.1.1 x.1.2.1 x.1.2.2.1 x.1.2.2.2.1 x.1.2.2.2.2.1 x.2.1 x.2.2.1 = some (true, ())

end
end Go.Proofs.Ytfeidmgfninmmaa.E
