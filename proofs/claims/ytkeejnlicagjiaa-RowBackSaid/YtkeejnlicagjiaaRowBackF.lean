/-
  The statement RowBack of the program is proved: for every input that the row speaks of, the law answers true.
  Conditions: those that the statement's row prints, and no other. This text: pure functions, printed by a program out of the translation.
-/
import Derived.Test.YtkeejnlicagjiaaEvA
set_option linter.unusedVariables false
set_option linter.unusedSimpArgs false
/-! Pure functions, printed by wip/gen out of the translation. -/
namespace Go.Proofs.Ytkeejnlicagjiaa.E
open Go.Ev
noncomputable section
def bs0 : List UInt8 := [0, 1, 2, 2, 3, 3, 3, 3, 4, 4, 4, 4, 4, 4, 4, 4, 5, 5, 5, 5, 5, 5, 5, 5, 5, 5, 5, 5, 5, 5, 5, 5, 6, 6, 6, 6, 6, 6, 6, 6, 6, 6, 6, 6, 6, 6, 6, 6, 6, 6, 6, 6, 6, 6, 6, 6, 6, 6, 6, 6, 6, 6, 6, 6, 7, 7, 7, 7, 7, 7, 7, 7, 7, 7, 7, 7, 7, 7, 7, 7, 7, 7, 7, 7, 7, 7, 7, 7, 7, 7, 7, 7, 7, 7, 7, 7, 7, 7, 7, 7, 7, 7, 7, 7, 7, 7, 7, 7, 7, 7, 7, 7, 7, 7, 7, 7, 7, 7, 7, 7, 7, 7, 7, 7, 7, 7, 7, 7, 8, 8, 8, 8, 8, 8, 8, 8, 8, 8, 8, 8, 8, 8, 8, 8, 8, 8, 8, 8, 8, 8, 8, 8, 8, 8, 8, 8, 8, 8, 8, 8, 8, 8, 8, 8, 8, 8, 8, 8, 8, 8, 8, 8, 8, 8, 8, 8, 8, 8, 8, 8, 8, 8, 8, 8, 8, 8, 8, 8, 8, 8, 8, 8, 8, 8, 8, 8, 8, 8, 8, 8, 8, 8, 8, 8, 8, 8, 8, 8, 8, 8, 8, 8, 8, 8, 8, 8, 8, 8, 8, 8, 8, 8, 8, 8, 8, 8, 8, 8, 8, 8, 8, 8, 8, 8, 8, 8, 8, 8, 8, 8, 8, 8, 8, 8, 8, 8, 8, 8, 8, 8, 8, 8, 8, 8, 8, 8]
/-! frankpledge/frankpledgelaw05.few -/
def law05_few_l0B (N : Nat) (R : Type) (rec : (List (Int × (Int × ((List UInt8) × Unit)))) → Int → Option R) (k0 : Option R) (k1 : Bool → Option R) (v3 : (List (Int × (Int × ((List UInt8) × Unit))))) (v4 : Int) : Option R :=
  (bif (decide (v4 < (v3.length : Int))) then
  (bif (decide (v4 = 20)) then
  (k1 false)
  else
  (Option.bind (nth v3 v4) fun (v5 : (Int × (Int × ((List UInt8) × Unit)))) =>
  (bif (decide (500 < (v5.2.2.1.length : Int))) then
  (k1 false)
  else
  (rec v3 (IntKind.wrap .i64 (v4 + 1))))))
  else
  k0)

def law05_few_l0 (N : Nat) (R : Type) (k0 : Option R) (k1 : Bool → Option R) : Nat → (List (Int × (Int × ((List UInt8) × Unit)))) → Int → Option R
  | 0 => fun _ _ => none
  | n + 1 => law05_few_l0B N R (law05_few_l0 N R k0 k1 n) k0 k1

def law05_few_cps (N : Nat) (R : Type) (K : Bool → Option R) (v1 : (List (Int × (Int × ((List UInt8) × Unit))))) : Option R :=
  (law05_few_l0 N _ ((K true)) (fun (v2 : Bool) =>
  (K v2)) N v1 0)

def law05_few (N : Nat) (v1 : (List (Int × (Int × ((List UInt8) × Unit))))) : Option (Bool × Unit) := law05_few_cps N _ (fun a0 => some (a0, ())) v1

/-! frankpledge/value.Right -/
def value_Right_cps (N : Nat) (R : Type) (K : Bool → Option R) (v1 : Int) (v2 : Int) (v3 : (List UInt8)) : Option R :=
  (bif (decide (v1 = 1)) then
  (bif (decide (v2 = 1)) then
  (K (decide (v3 = [])))
  else
  (bif (decide (v2 = 0)) then
  (K (decide (v3 = [])))
  else
  (K false)))
  else
  (bif (decide (v1 = 0)) then
  (bif (decide (v2 = 0)) then
  (K (decide (v3 = [])))
  else
  (K false))
  else
  (bif (decide (v1 = 2)) then
  (K (decide (v3 = [])))
  else
  (bif (decide (v1 = 3)) then
  (K (decide (v3 = [])))
  else
  (bif (decide (v1 = 4)) then
  (bif (decide (v2 = 0)) then
  (K (decide ((v3.length : Int) ≤ 200)))
  else
  (K false))
  else
  (bif (decide (v1 = 5)) then
  (bif (decide (v2 = 0)) then
  (K (decide ((v3.length : Int) ≤ 200)))
  else
  (K false))
  else
  (K false)))))))

def value_Right (N : Nat) (v1 : Int) (v2 : Int) (v3 : (List UInt8)) : Option (Bool × Unit) := value_Right_cps N _ (fun a0 => some (a0, ())) v1 v2 v3

/-! frankpledge/row.Short -/
def row_Short_l0B (N : Nat) (R : Type) (rec : Int → (List UInt8) → Option R) (k0 : Int → (List UInt8) → Option R) (v4 : Int) (v5 : (List UInt8)) : Option R :=
  (bif (decide (127 < v4)) then
  (bif (room 1 (v5.length + ([(UInt8.ofNat (Int.toNat (Ev.bits .or .u8 (IntKind.wrap .u8 v4) 128)))] : (List UInt8)).length)) then
  (rec (Ev.shr .u64 v4 7) (v5 ++ ([(UInt8.ofNat (Int.toNat (Ev.bits .or .u8 (IntKind.wrap .u8 v4) 128)))] : (List UInt8))))
  else
  none)
  else
  (k0 v4 v5))

def row_Short_l0 (N : Nat) (R : Type) (k0 : Int → (List UInt8) → Option R) : Nat → Int → (List UInt8) → Option R
  | 0 => fun _ _ => none
  | n + 1 => row_Short_l0B N R (row_Short_l0 N R k0 n) k0

def row_Short_cps (N : Nat) (R : Type) (K : (List UInt8) → Option R) (v1 : Int) : Option R :=
  (row_Short_l0 N _ (fun (v2 : Int) (v3 : (List UInt8)) =>
  (bif (room 1 (v3.length + ([(UInt8.ofNat (Int.toNat (IntKind.wrap .u8 v2)))] : (List UInt8)).length)) then
  (K (v3 ++ ([(UInt8.ofNat (Int.toNat (IntKind.wrap .u8 v2)))] : (List UInt8))))
  else
  none)) N (Ev.bits .xor .u64 (Ev.shl .u64 (IntKind.wrap .u64 v1) 1) (IntKind.wrap .u64 (Ev.shr .i64 v1 63))) [])

def row_Short (N : Nat) (v1 : Int) : Option ((List UInt8) × Unit) := row_Short_cps N _ (fun a0 => some (a0, ())) v1

/-! frankpledge/row.Encode -/
def row_Encode_l0B (N : Nat) (R : Type) (rec : (List UInt8) → (List (Int × (Int × ((List UInt8) × Unit)))) → Int → Int → Option R) (k0 : (List UInt8) → Option R) (k1 : Int → (List UInt8) → Option R) (v5 : (List UInt8)) (v6 : (List (Int × (Int × ((List UInt8) × Unit))))) (v7 : Int) (v8 : Int) : Option R :=
  (bif (decide (v8 < v7)) then
  (Option.bind (nth v6 v8) fun (v9 : (Int × (Int × ((List UInt8) × Unit)))) =>
  (Option.bind (value_Right N v9.1 v9.2.1 v9.2.2.1) fun (v10 : Bool × Unit) =>
  (bif (!v10.1) then
  (k1 51 v5)
  else
  (bif (room 1 (v5.length + ([(UInt8.ofNat (Int.toNat (IntKind.wrap .u8 v9.1)))] : (List UInt8)).length)) then
  (bif (decide (v9.1 = 1)) then
  (bif (room 1 ((v5 ++ ([(UInt8.ofNat (Int.toNat (IntKind.wrap .u8 v9.1)))] : (List UInt8))).length + ([(UInt8.ofNat (Int.toNat (IntKind.wrap .u8 v9.2.1)))] : (List UInt8)).length)) then
  (rec ((v5 ++ ([(UInt8.ofNat (Int.toNat (IntKind.wrap .u8 v9.1)))] : (List UInt8))) ++ ([(UInt8.ofNat (Int.toNat (IntKind.wrap .u8 v9.2.1)))] : (List UInt8))) v6 v7 (IntKind.wrap .i64 (v8 + 1)))
  else
  none)
  else
  (bif (decide (v9.1 = 2)) then
  (Option.bind (row_Short N v9.2.1) fun (v11 : (List UInt8) × Unit) =>
  (bif (room 1 ((v5 ++ ([(UInt8.ofNat (Int.toNat (IntKind.wrap .u8 v9.1)))] : (List UInt8))).length + v11.1.length)) then
  (rec ((v5 ++ ([(UInt8.ofNat (Int.toNat (IntKind.wrap .u8 v9.1)))] : (List UInt8))) ++ v11.1) v6 v7 (IntKind.wrap .i64 (v8 + 1)))
  else
  none))
  else
  (bif (decide (v9.1 = 3)) then
  (Option.bind (row_Short N v9.2.1) fun (v12 : (List UInt8) × Unit) =>
  (bif (room 1 ((v5 ++ ([(UInt8.ofNat (Int.toNat (IntKind.wrap .u8 v9.1)))] : (List UInt8))).length + v12.1.length)) then
  (rec ((v5 ++ ([(UInt8.ofNat (Int.toNat (IntKind.wrap .u8 v9.1)))] : (List UInt8))) ++ v12.1) v6 v7 (IntKind.wrap .i64 (v8 + 1)))
  else
  none))
  else
  (bif (decide (v9.1 = 4)) then
  (Option.bind (row_Short N (v9.2.2.1.length : Int)) fun (v13 : (List UInt8) × Unit) =>
  (bif (room 1 ((v5 ++ ([(UInt8.ofNat (Int.toNat (IntKind.wrap .u8 v9.1)))] : (List UInt8))).length + v13.1.length)) then
  (bif (room 1 (((v5 ++ ([(UInt8.ofNat (Int.toNat (IntKind.wrap .u8 v9.1)))] : (List UInt8))) ++ v13.1).length + v9.2.2.1.length)) then
  (rec (((v5 ++ ([(UInt8.ofNat (Int.toNat (IntKind.wrap .u8 v9.1)))] : (List UInt8))) ++ v13.1) ++ v9.2.2.1) v6 v7 (IntKind.wrap .i64 (v8 + 1)))
  else
  none)
  else
  none))
  else
  (bif (decide (v9.1 = 5)) then
  (Option.bind (row_Short N (v9.2.2.1.length : Int)) fun (v14 : (List UInt8) × Unit) =>
  (bif (room 1 ((v5 ++ ([(UInt8.ofNat (Int.toNat (IntKind.wrap .u8 v9.1)))] : (List UInt8))).length + v14.1.length)) then
  (bif (room 1 (((v5 ++ ([(UInt8.ofNat (Int.toNat (IntKind.wrap .u8 v9.1)))] : (List UInt8))) ++ v14.1).length + v9.2.2.1.length)) then
  (rec (((v5 ++ ([(UInt8.ofNat (Int.toNat (IntKind.wrap .u8 v9.1)))] : (List UInt8))) ++ v14.1) ++ v9.2.2.1) v6 v7 (IntKind.wrap .i64 (v8 + 1)))
  else
  none)
  else
  none))
  else
  (rec (v5 ++ ([(UInt8.ofNat (Int.toNat (IntKind.wrap .u8 v9.1)))] : (List UInt8))) v6 v7 (IntKind.wrap .i64 (v8 + 1))))))))
  else
  none))))
  else
  (k0 v5))

def row_Encode_l0 (N : Nat) (R : Type) (k0 : (List UInt8) → Option R) (k1 : Int → (List UInt8) → Option R) : Nat → (List UInt8) → (List (Int × (Int × ((List UInt8) × Unit)))) → Int → Int → Option R
  | 0 => fun _ _ _ _ => none
  | n + 1 => row_Encode_l0B N R (row_Encode_l0 N R k0 k1 n) k0 k1

def row_Encode_cps (N : Nat) (R : Type) (K : (List UInt8) → Int → Option R) (v1 : (List (Int × (Int × ((List UInt8) × Unit))))) : Option R :=
  (bif (decide (16 < (v1.length : Int))) then
  (K [] 51)
  else
  (row_Encode_l0 N _ (fun (v2 : (List UInt8)) =>
  (K v2 0)) (fun (v3 : Int) (v4 : (List UInt8)) =>
  (K [] v3)) N ([(UInt8.ofNat (Int.toNat (IntKind.wrap .u8 (v1.length : Int))))] : (List UInt8)) v1 (v1.length : Int) 0))

def row_Encode (N : Nat) (v1 : (List (Int × (Int × ((List UInt8) × Unit))))) : Option ((List UInt8) × Int × Unit) := row_Encode_cps N _ (fun a0 a1 => some (a0, (a1, ()))) v1

/-! frankpledge/frankpledgelaw05.alive -/
def law05_alive_cps (N : Nat) (R : Type) (K : Bool → Option R)  : Option R :=
  (Option.bind (row_Encode N ([(2, ((-65), ([], ()))), (4, (0, ([97], ())))] : (List (Int × (Int × ((List UInt8) × Unit)))))) fun (v1 : (List UInt8) × Int × Unit) =>
  (bif (decide (v1.2.1 = 0)) then
  (K (decide (v1.1 = [2, 2, 129, 1, 4, 2, 97])))
  else
  (K false)))

def law05_alive (N : Nat)  : Option (Bool × Unit) := law05_alive_cps N _ (fun a0 => some (a0, ())) 

/-! frankpledge/row.Decode$1 -/
def row_Decode_1_cps (N : Nat) (R : Type) (K : (List UInt8) → Bool → (List UInt8) → Option R) (v1 : Int) (v2 : Bool) (v3 : (List UInt8)) : Option R :=
  (bif v2 then
  (bif (decide (0 ≤ v1)) then
  (bif (!(decide (v1 ≤ (v3.length : Int)))) then
  (K [0] (decide (v1 ≤ (v3.length : Int))) v3)
  else
  (bif (decide (0 ≤ v1 ∧ v1 ≤ ((v3.length : Nat) : Int))) then
  (bif (decide (0 ≤ v1 ∧ v1 ≤ ((v3.length : Nat) : Int))) then
  (K (List.drop 0 (List.take (Int.toNat v1) v3)) (decide (v1 ≤ (v3.length : Int))) (List.drop (Int.toNat v1) (List.take v3.length v3)))
  else
  none)
  else
  none))
  else
  (K [0] false v3))
  else
  (K [0] false v3))

def row_Decode_1 (N : Nat) (v1 : Int) (v2 : Bool) (v3 : (List UInt8)) : Option ((List UInt8) × Bool × (List UInt8) × Unit) := row_Decode_1_cps N _ (fun a0 a1 a2 => some (a0, (a1, (a2, ())))) v1 v2 v3

/-! math/bits.Len64 -/
def bits_Len64_cps (N : Nat) (R : Type) (K : Int → Option R) (v1 : Int) : Option R :=
  (bif (decide (4294967296 ≤ v1)) then
  (bif (decide (65536 ≤ (Ev.shr .u64 v1 32))) then
  (bif (decide (256 ≤ (Ev.shr .u64 (Ev.shr .u64 v1 32) 16))) then
  (Option.bind (nth (bs0 : List UInt8) (IntKind.wrap .u8 (Ev.shr .u64 (Ev.shr .u64 (Ev.shr .u64 v1 32) 16) 8))) fun (v2 : UInt8) =>
  (K (IntKind.wrap .i64 (56 + (IntKind.wrap .i64 (v2.toNat : Int))))))
  else
  (Option.bind (nth (bs0 : List UInt8) (IntKind.wrap .u8 (Ev.shr .u64 (Ev.shr .u64 v1 32) 16))) fun (v3 : UInt8) =>
  (K (IntKind.wrap .i64 (48 + (IntKind.wrap .i64 (v3.toNat : Int)))))))
  else
  (bif (decide (256 ≤ (Ev.shr .u64 v1 32))) then
  (Option.bind (nth (bs0 : List UInt8) (IntKind.wrap .u8 (Ev.shr .u64 (Ev.shr .u64 v1 32) 8))) fun (v4 : UInt8) =>
  (K (IntKind.wrap .i64 (40 + (IntKind.wrap .i64 (v4.toNat : Int))))))
  else
  (Option.bind (nth (bs0 : List UInt8) (IntKind.wrap .u8 (Ev.shr .u64 v1 32))) fun (v5 : UInt8) =>
  (K (IntKind.wrap .i64 (32 + (IntKind.wrap .i64 (v5.toNat : Int))))))))
  else
  (bif (decide (65536 ≤ v1)) then
  (bif (decide (256 ≤ (Ev.shr .u64 v1 16))) then
  (Option.bind (nth (bs0 : List UInt8) (IntKind.wrap .u8 (Ev.shr .u64 (Ev.shr .u64 v1 16) 8))) fun (v6 : UInt8) =>
  (K (IntKind.wrap .i64 (24 + (IntKind.wrap .i64 (v6.toNat : Int))))))
  else
  (Option.bind (nth (bs0 : List UInt8) (IntKind.wrap .u8 (Ev.shr .u64 v1 16))) fun (v7 : UInt8) =>
  (K (IntKind.wrap .i64 (16 + (IntKind.wrap .i64 (v7.toNat : Int)))))))
  else
  (bif (decide (256 ≤ v1)) then
  (Option.bind (nth (bs0 : List UInt8) (IntKind.wrap .u8 (Ev.shr .u64 v1 8))) fun (v8 : UInt8) =>
  (K (IntKind.wrap .i64 (8 + (IntKind.wrap .i64 (v8.toNat : Int))))))
  else
  (Option.bind (nth (bs0 : List UInt8) (IntKind.wrap .u8 v1)) fun (v9 : UInt8) =>
  (K (IntKind.wrap .i64 (0 + (IntKind.wrap .i64 (v9.toNat : Int)))))))))

def bits_Len64 (N : Nat) (v1 : Int) : Option (Int × Unit) := bits_Len64_cps N _ (fun a0 => some (a0, ())) v1

/-! frankpledge/row.Long -/
def row_Long_l0B (N : Nat) (R : Type) (rec : Int → (List UInt8) → Int → Int → Option R) (k0 : Option R) (k1 : Int → Int → Bool → Option R) (v5 : Int) (v6 : (List UInt8)) (v7 : Int) (v8 : Int) : Option R :=
  (bif (decide (v8 < v7)) then
  (Option.bind (nth v6 v8) fun (v9 : UInt8) =>
  (Option.bind (bits_Len64 N (IntKind.wrap .u64 (Ev.bits .and .u8 (v9.toNat : Int) 127))) fun (v10 : Int × Unit) =>
  (bif (decide (64 < (IntKind.wrap .i64 (v10.1 + (IntKind.wrap .i64 (7 * v8)))))) then
  (k1 0 0 false)
  else
  (bif (decide (0 ≤ (IntKind.wrap .i64 (7 * v8)))) then
  (bif (decide ((v9.toNat : Int) < 128)) then
  (bif (decide ((v9.toNat : Int) = 0)) then
  (bif (decide (0 < v8)) then
  k0
  else
  (k1 (Ev.bits .xor .i64 (IntKind.wrap .i64 (Ev.shr .u64 (Ev.bits .or .u64 v5 (Ev.shl .u64 (IntKind.wrap .u64 (Ev.bits .and .u8 (v9.toNat : Int) 127)) (IntKind.wrap .i64 (7 * v8)))) 1)) (IntKind.wrap .i64 (0 - (IntKind.wrap .i64 (Ev.bits .and .u64 (Ev.bits .or .u64 v5 (Ev.shl .u64 (IntKind.wrap .u64 (Ev.bits .and .u8 (v9.toNat : Int) 127)) (IntKind.wrap .i64 (7 * v8)))) 1))))) (IntKind.wrap .i64 (v8 + 1)) true))
  else
  (k1 (Ev.bits .xor .i64 (IntKind.wrap .i64 (Ev.shr .u64 (Ev.bits .or .u64 v5 (Ev.shl .u64 (IntKind.wrap .u64 (Ev.bits .and .u8 (v9.toNat : Int) 127)) (IntKind.wrap .i64 (7 * v8)))) 1)) (IntKind.wrap .i64 (0 - (IntKind.wrap .i64 (Ev.bits .and .u64 (Ev.bits .or .u64 v5 (Ev.shl .u64 (IntKind.wrap .u64 (Ev.bits .and .u8 (v9.toNat : Int) 127)) (IntKind.wrap .i64 (7 * v8)))) 1))))) (IntKind.wrap .i64 (v8 + 1)) true))
  else
  (bif (decide (v8 = 9)) then
  k0
  else
  (rec (Ev.bits .or .u64 v5 (Ev.shl .u64 (IntKind.wrap .u64 (Ev.bits .and .u8 (v9.toNat : Int) 127)) (IntKind.wrap .i64 (7 * v8)))) v6 v7 (IntKind.wrap .i64 (v8 + 1)))))
  else
  none))))
  else
  k0)

def row_Long_l0 (N : Nat) (R : Type) (k0 : Option R) (k1 : Int → Int → Bool → Option R) : Nat → Int → (List UInt8) → Int → Int → Option R
  | 0 => fun _ _ _ _ => none
  | n + 1 => row_Long_l0B N R (row_Long_l0 N R k0 k1 n) k0 k1

def row_Long_cps (N : Nat) (R : Type) (K : Int → Int → Bool → Option R) (v1 : (List UInt8)) : Option R :=
  (row_Long_l0 N _ ((K 0 0 false)) (fun (v2 : Int) (v3 : Int) (v4 : Bool) =>
  (K v2 v3 v4)) N 0 v1 (v1.length : Int) 0)

def row_Long (N : Nat) (v1 : (List UInt8)) : Option (Int × Int × Bool × Unit) := row_Long_cps N _ (fun a0 a1 a2 => some (a0, (a1, (a2, ())))) v1

/-! frankpledge/row.Decode$2 -/
def row_Decode_2_cps (N : Nat) (R : Type) (K : Int → (List UInt8) → Bool → Option R) (v1 : (List UInt8)) (v2 : Bool) : Option R :=
  (Option.bind (row_Long N v1) fun (v3 : Int × Int × Bool × Unit) =>
  (bif v2 then
  (Option.bind (row_Decode_1 N v3.2.1 v3.2.2.1 v1) fun (v4 : (List UInt8) × Bool × (List UInt8) × Unit) =>
  (K v3.1 v4.2.2.1 v4.2.1))
  else
  (Option.bind (row_Decode_1 N v3.2.1 false v1) fun (v5 : (List UInt8) × Bool × (List UInt8) × Unit) =>
  (K v3.1 v5.2.2.1 v5.2.1))))

def row_Decode_2 (N : Nat) (v1 : (List UInt8)) (v2 : Bool) : Option (Int × (List UInt8) × Bool × Unit) := row_Decode_2_cps N _ (fun a0 a1 a2 => some (a0, (a1, (a2, ())))) v1 v2

/-! frankpledge/row.Decode -/
def row_Decode_r1 (N : Nat) (R : Type) (k0 : (List (Int × (Int × ((List UInt8) × Unit)))) → Int → (List UInt8) → Bool → Int → Int → (List UInt8) → Option R) (v37 : (List (Int × (Int × ((List UInt8) × Unit))))) (v38 : Int) (v39 : (List UInt8)) (v40 : Bool) (v41 : Int) (v42 : Int) (v43 : (List UInt8)) : Option R :=
  (Option.bind (row_Decode_2 N v39 v40) fun (v44 : Int × (List UInt8) × Bool × Unit) =>
  (Option.bind (row_Decode_1 N v44.1 v44.2.2.1 v44.2.1) fun (v45 : (List UInt8) × Bool × (List UInt8) × Unit) =>
  (k0 v37 v38 v45.2.2.1 v45.2.1 v41 v42 v45.1)))

def row_Decode_l0B (N : Nat) (R : Type) (rec : (List (Int × (Int × ((List UInt8) × Unit)))) → Int → (List UInt8) → Bool → Option R) (k0 : (List (Int × (Int × ((List UInt8) × Unit)))) → (List UInt8) → Bool → Option R) (v7 : (List (Int × (Int × ((List UInt8) × Unit))))) (v8 : Int) (v9 : (List UInt8)) (v10 : Bool) : Option R :=
  (bif v10 then
  (bif (decide (0 < v8)) then
  (Option.bind (row_Decode_1 N 1 v10 v9) fun (v11 : (List UInt8) × Bool × (List UInt8) × Unit) =>
  (Option.bind (nth v11.1 0) fun (v12 : UInt8) =>
  (bif (decide ((IntKind.wrap .i64 (v12.toNat : Int)) = 1)) then
  (Option.bind (row_Decode_1 N 1 v11.2.1 v11.2.2.1) fun (v13 : (List UInt8) × Bool × (List UInt8) × Unit) =>
  (Option.bind (nth v13.1 0) fun (v14 : UInt8) =>
  (bif v13.2.1 then
  (Option.bind (value_Right N (IntKind.wrap .i64 (v12.toNat : Int)) (IntKind.wrap .i64 (v14.toNat : Int)) []) fun (v15 : Bool × Unit) =>
  (bif v15.1 then
  (bif (room 32 (v7.length + ([((IntKind.wrap .i64 (v12.toNat : Int)), ((IntKind.wrap .i64 (v14.toNat : Int)), ([], ())))] : (List (Int × (Int × ((List UInt8) × Unit))))).length)) then
  (rec (v7 ++ ([((IntKind.wrap .i64 (v12.toNat : Int)), ((IntKind.wrap .i64 (v14.toNat : Int)), ([], ())))] : (List (Int × (Int × ((List UInt8) × Unit)))))) (IntKind.wrap .u8 (v8 - 1)) v13.2.2.1 (decide ((v7.length : Int) < 16)))
  else
  none)
  else
  (bif (room 32 (v7.length + ([((IntKind.wrap .i64 (v12.toNat : Int)), ((IntKind.wrap .i64 (v14.toNat : Int)), ([], ())))] : (List (Int × (Int × ((List UInt8) × Unit))))).length)) then
  (rec (v7 ++ ([((IntKind.wrap .i64 (v12.toNat : Int)), ((IntKind.wrap .i64 (v14.toNat : Int)), ([], ())))] : (List (Int × (Int × ((List UInt8) × Unit)))))) (IntKind.wrap .u8 (v8 - 1)) v13.2.2.1 false)
  else
  none)))
  else
  (bif (room 32 (v7.length + ([((IntKind.wrap .i64 (v12.toNat : Int)), ((IntKind.wrap .i64 (v14.toNat : Int)), ([], ())))] : (List (Int × (Int × ((List UInt8) × Unit))))).length)) then
  (rec (v7 ++ ([((IntKind.wrap .i64 (v12.toNat : Int)), ((IntKind.wrap .i64 (v14.toNat : Int)), ([], ())))] : (List (Int × (Int × ((List UInt8) × Unit)))))) (IntKind.wrap .u8 (v8 - 1)) v13.2.2.1 false)
  else
  none))))
  else
  (bif (decide ((IntKind.wrap .i64 (v12.toNat : Int)) = 2)) then
  (Option.bind (row_Decode_2 N v11.2.2.1 v11.2.1) fun (v16 : Int × (List UInt8) × Bool × Unit) =>
  (bif v16.2.2.1 then
  (Option.bind (value_Right N (IntKind.wrap .i64 (v12.toNat : Int)) v16.1 []) fun (v17 : Bool × Unit) =>
  (bif v17.1 then
  (bif (room 32 (v7.length + ([((IntKind.wrap .i64 (v12.toNat : Int)), (v16.1, ([], ())))] : (List (Int × (Int × ((List UInt8) × Unit))))).length)) then
  (rec (v7 ++ ([((IntKind.wrap .i64 (v12.toNat : Int)), (v16.1, ([], ())))] : (List (Int × (Int × ((List UInt8) × Unit)))))) (IntKind.wrap .u8 (v8 - 1)) v16.2.1 (decide ((v7.length : Int) < 16)))
  else
  none)
  else
  (bif (room 32 (v7.length + ([((IntKind.wrap .i64 (v12.toNat : Int)), (v16.1, ([], ())))] : (List (Int × (Int × ((List UInt8) × Unit))))).length)) then
  (rec (v7 ++ ([((IntKind.wrap .i64 (v12.toNat : Int)), (v16.1, ([], ())))] : (List (Int × (Int × ((List UInt8) × Unit)))))) (IntKind.wrap .u8 (v8 - 1)) v16.2.1 false)
  else
  none)))
  else
  (bif (room 32 (v7.length + ([((IntKind.wrap .i64 (v12.toNat : Int)), (v16.1, ([], ())))] : (List (Int × (Int × ((List UInt8) × Unit))))).length)) then
  (rec (v7 ++ ([((IntKind.wrap .i64 (v12.toNat : Int)), (v16.1, ([], ())))] : (List (Int × (Int × ((List UInt8) × Unit)))))) (IntKind.wrap .u8 (v8 - 1)) v16.2.1 false)
  else
  none)))
  else
  (bif (decide ((IntKind.wrap .i64 (v12.toNat : Int)) = 3)) then
  (Option.bind (row_Decode_2 N v11.2.2.1 v11.2.1) fun (v18 : Int × (List UInt8) × Bool × Unit) =>
  (bif v18.2.2.1 then
  (Option.bind (value_Right N (IntKind.wrap .i64 (v12.toNat : Int)) v18.1 []) fun (v19 : Bool × Unit) =>
  (bif v19.1 then
  (bif (room 32 (v7.length + ([((IntKind.wrap .i64 (v12.toNat : Int)), (v18.1, ([], ())))] : (List (Int × (Int × ((List UInt8) × Unit))))).length)) then
  (rec (v7 ++ ([((IntKind.wrap .i64 (v12.toNat : Int)), (v18.1, ([], ())))] : (List (Int × (Int × ((List UInt8) × Unit)))))) (IntKind.wrap .u8 (v8 - 1)) v18.2.1 (decide ((v7.length : Int) < 16)))
  else
  none)
  else
  (bif (room 32 (v7.length + ([((IntKind.wrap .i64 (v12.toNat : Int)), (v18.1, ([], ())))] : (List (Int × (Int × ((List UInt8) × Unit))))).length)) then
  (rec (v7 ++ ([((IntKind.wrap .i64 (v12.toNat : Int)), (v18.1, ([], ())))] : (List (Int × (Int × ((List UInt8) × Unit)))))) (IntKind.wrap .u8 (v8 - 1)) v18.2.1 false)
  else
  none)))
  else
  (bif (room 32 (v7.length + ([((IntKind.wrap .i64 (v12.toNat : Int)), (v18.1, ([], ())))] : (List (Int × (Int × ((List UInt8) × Unit))))).length)) then
  (rec (v7 ++ ([((IntKind.wrap .i64 (v12.toNat : Int)), (v18.1, ([], ())))] : (List (Int × (Int × ((List UInt8) × Unit)))))) (IntKind.wrap .u8 (v8 - 1)) v18.2.1 false)
  else
  none)))
  else
  (bif (decide ((IntKind.wrap .i64 (v12.toNat : Int)) = 4)) then
  (row_Decode_r1 N _ (fun (v20 : (List (Int × (Int × ((List UInt8) × Unit))))) (v21 : Int) (v22 : (List UInt8)) (v23 : Bool) (v24 : Int) (v25 : Int) (v26 : (List UInt8)) =>
  (bif v23 then
  (Option.bind (value_Right N v24 v25 v26) fun (v27 : Bool × Unit) =>
  (bif v27.1 then
  (bif (room 32 (v20.length + ([(v24, (v25, (v26, ())))] : (List (Int × (Int × ((List UInt8) × Unit))))).length)) then
  (rec (v20 ++ ([(v24, (v25, (v26, ())))] : (List (Int × (Int × ((List UInt8) × Unit)))))) (IntKind.wrap .u8 (v21 - 1)) v22 (decide ((v20.length : Int) < 16)))
  else
  none)
  else
  (bif (room 32 (v20.length + ([(v24, (v25, (v26, ())))] : (List (Int × (Int × ((List UInt8) × Unit))))).length)) then
  (rec (v20 ++ ([(v24, (v25, (v26, ())))] : (List (Int × (Int × ((List UInt8) × Unit)))))) (IntKind.wrap .u8 (v21 - 1)) v22 false)
  else
  none)))
  else
  (bif (room 32 (v20.length + ([(v24, (v25, (v26, ())))] : (List (Int × (Int × ((List UInt8) × Unit))))).length)) then
  (rec (v20 ++ ([(v24, (v25, (v26, ())))] : (List (Int × (Int × ((List UInt8) × Unit)))))) (IntKind.wrap .u8 (v21 - 1)) v22 false)
  else
  none))) v7 v8 v11.2.2.1 v11.2.1 (IntKind.wrap .i64 (v12.toNat : Int)) 0 [])
  else
  (bif (decide ((IntKind.wrap .i64 (v12.toNat : Int)) = 5)) then
  (row_Decode_r1 N _ (fun (v28 : (List (Int × (Int × ((List UInt8) × Unit))))) (v29 : Int) (v30 : (List UInt8)) (v31 : Bool) (v32 : Int) (v33 : Int) (v34 : (List UInt8)) =>
  (bif v31 then
  (Option.bind (value_Right N v32 v33 v34) fun (v35 : Bool × Unit) =>
  (bif v35.1 then
  (bif (room 32 (v28.length + ([(v32, (v33, (v34, ())))] : (List (Int × (Int × ((List UInt8) × Unit))))).length)) then
  (rec (v28 ++ ([(v32, (v33, (v34, ())))] : (List (Int × (Int × ((List UInt8) × Unit)))))) (IntKind.wrap .u8 (v29 - 1)) v30 (decide ((v28.length : Int) < 16)))
  else
  none)
  else
  (bif (room 32 (v28.length + ([(v32, (v33, (v34, ())))] : (List (Int × (Int × ((List UInt8) × Unit))))).length)) then
  (rec (v28 ++ ([(v32, (v33, (v34, ())))] : (List (Int × (Int × ((List UInt8) × Unit)))))) (IntKind.wrap .u8 (v29 - 1)) v30 false)
  else
  none)))
  else
  (bif (room 32 (v28.length + ([(v32, (v33, (v34, ())))] : (List (Int × (Int × ((List UInt8) × Unit))))).length)) then
  (rec (v28 ++ ([(v32, (v33, (v34, ())))] : (List (Int × (Int × ((List UInt8) × Unit)))))) (IntKind.wrap .u8 (v29 - 1)) v30 false)
  else
  none))) v7 v8 v11.2.2.1 v11.2.1 (IntKind.wrap .i64 (v12.toNat : Int)) 0 [])
  else
  (bif v11.2.1 then
  (Option.bind (value_Right N (IntKind.wrap .i64 (v12.toNat : Int)) 0 []) fun (v36 : Bool × Unit) =>
  (bif v36.1 then
  (bif (room 32 (v7.length + ([((IntKind.wrap .i64 (v12.toNat : Int)), (0, ([], ())))] : (List (Int × (Int × ((List UInt8) × Unit))))).length)) then
  (rec (v7 ++ ([((IntKind.wrap .i64 (v12.toNat : Int)), (0, ([], ())))] : (List (Int × (Int × ((List UInt8) × Unit)))))) (IntKind.wrap .u8 (v8 - 1)) v11.2.2.1 (decide ((v7.length : Int) < 16)))
  else
  none)
  else
  (bif (room 32 (v7.length + ([((IntKind.wrap .i64 (v12.toNat : Int)), (0, ([], ())))] : (List (Int × (Int × ((List UInt8) × Unit))))).length)) then
  (rec (v7 ++ ([((IntKind.wrap .i64 (v12.toNat : Int)), (0, ([], ())))] : (List (Int × (Int × ((List UInt8) × Unit)))))) (IntKind.wrap .u8 (v8 - 1)) v11.2.2.1 false)
  else
  none)))
  else
  (bif (room 32 (v7.length + ([((IntKind.wrap .i64 (v12.toNat : Int)), (0, ([], ())))] : (List (Int × (Int × ((List UInt8) × Unit))))).length)) then
  (rec (v7 ++ ([((IntKind.wrap .i64 (v12.toNat : Int)), (0, ([], ())))] : (List (Int × (Int × ((List UInt8) × Unit)))))) (IntKind.wrap .u8 (v8 - 1)) v11.2.2.1 false)
  else
  none)))))))))
  else
  (k0 v7 v9 v10))
  else
  (k0 v7 v9 v10))

def row_Decode_l0 (N : Nat) (R : Type) (k0 : (List (Int × (Int × ((List UInt8) × Unit)))) → (List UInt8) → Bool → Option R) : Nat → (List (Int × (Int × ((List UInt8) × Unit)))) → Int → (List UInt8) → Bool → Option R
  | 0 => fun _ _ _ _ => none
  | n + 1 => row_Decode_l0B N R (row_Decode_l0 N R k0 n) k0

def row_Decode_cps (N : Nat) (R : Type) (K : (List (Int × (Int × ((List UInt8) × Unit)))) → Int → Option R) (v1 : (List UInt8)) : Option R :=
  (Option.bind (row_Decode_1 N 1 true v1) fun (v2 : (List UInt8) × Bool × (List UInt8) × Unit) =>
  (Option.bind (nth v2.1 0) fun (v3 : UInt8) =>
  (row_Decode_l0 N _ (fun (v4 : (List (Int × (Int × ((List UInt8) × Unit))))) (v5 : (List UInt8)) (v6 : Bool) =>
  (bif (!v6) then
  (K [] 51)
  else
  (bif (decide (0 < (v5.length : Int))) then
  (K [] 51)
  else
  (K v4 0)))) N [] (v3.toNat : Int) v2.2.2.1 v2.2.1)))

def row_Decode (N : Nat) (v1 : (List UInt8)) : Option ((List (Int × (Int × ((List UInt8) × Unit)))) × Int × Unit) := row_Decode_cps N _ (fun a0 a1 => some (a0, (a1, ()))) v1

/-! frankpledge/frankpledgeref02.Same -/
def ref02_Same_l0B (N : Nat) (R : Type) (rec : (List (Int × (Int × ((List UInt8) × Unit)))) → (List (Int × (Int × ((List UInt8) × Unit)))) → Int → Option R) (k0 : Option R) (k1 : Bool → Option R) (v4 : (List (Int × (Int × ((List UInt8) × Unit))))) (v5 : (List (Int × (Int × ((List UInt8) × Unit))))) (v6 : Int) : Option R :=
  (bif (decide (v6 < (v4.length : Int))) then
  (Option.bind (nth v4 v6) fun (v7 : (Int × (Int × ((List UInt8) × Unit)))) =>
  (Option.bind (nth v5 v6) fun (v8 : (Int × (Int × ((List UInt8) × Unit)))) =>
  (bif (!((decide (v7.1 = v8.1)) && ((decide (v7.2.1 = v8.2.1)) && (decide (v7.2.2.1 = v8.2.2.1))))) then
  (k1 false)
  else
  (rec v4 v5 (IntKind.wrap .i64 (v6 + 1))))))
  else
  k0)

def ref02_Same_l0 (N : Nat) (R : Type) (k0 : Option R) (k1 : Bool → Option R) : Nat → (List (Int × (Int × ((List UInt8) × Unit)))) → (List (Int × (Int × ((List UInt8) × Unit)))) → Int → Option R
  | 0 => fun _ _ _ => none
  | n + 1 => ref02_Same_l0B N R (ref02_Same_l0 N R k0 k1 n) k0 k1

def ref02_Same_cps (N : Nat) (R : Type) (K : Bool → Option R) (v1 : (List (Int × (Int × ((List UInt8) × Unit))))) (v2 : (List (Int × (Int × ((List UInt8) × Unit))))) : Option R :=
  (bif (!(decide ((v1.length : Int) = (v2.length : Int)))) then
  (K false)
  else
  (ref02_Same_l0 N _ ((K true)) (fun (v3 : Bool) =>
  (K v3)) N v1 v2 0))

def ref02_Same (N : Nat) (v1 : (List (Int × (Int × ((List UInt8) × Unit))))) (v2 : (List (Int × (Int × ((List UInt8) × Unit))))) : Option (Bool × Unit) := ref02_Same_cps N _ (fun a0 => some (a0, ())) v1 v2

/-! frankpledge/frankpledgelaw05.RowBack -/
def law05_RowBack_l3B (N : Nat) (R : Type) (rec : (List UInt8) → (List UInt8) → Bool → Int → Bool → Int → Option R) (k0 : (List UInt8) → (List UInt8) → Bool → Int → Bool → Option R) (k1 : (List UInt8) → Bool → (List UInt8) → Bool → Int → Bool → Option R) (v48 : (List UInt8)) (v49 : (List UInt8)) (v50 : Bool) (v51 : Int) (v52 : Bool) (v53 : Int) : Option R :=
  (bif (decide (v53 < (v49.length : Int))) then
  (bif (decide (0 ≤ v53 ∧ v53 ≤ ((v49.length : Nat) : Int))) then
  (Option.bind (row_Decode N (List.drop 0 (List.take (Int.toNat v53) v49))) fun (v54 : (List (Int × (Int × ((List UInt8) × Unit)))) × Int × Unit) =>
  (bif (!(decide (v54.2.1 = 51))) then
  (k1 v48 false v49 v50 v51 v52)
  else
  (rec v48 v49 v50 v51 v52 (IntKind.wrap .i64 (v53 + 1)))))
  else
  none)
  else
  (k0 v48 v49 v50 v51 v52))

def law05_RowBack_l3 (N : Nat) (R : Type) (k0 : (List UInt8) → (List UInt8) → Bool → Int → Bool → Option R) (k1 : (List UInt8) → Bool → (List UInt8) → Bool → Int → Bool → Option R) : Nat → (List UInt8) → (List UInt8) → Bool → Int → Bool → Int → Option R
  | 0 => fun _ _ _ _ _ _ => none
  | n + 1 => law05_RowBack_l3B N R (law05_RowBack_l3 N R k0 k1 n) k0 k1

def law05_RowBack_l2B (N : Nat) (R : Type) (rec : (List (Int × (Int × ((List UInt8) × Unit)))) → (List UInt8) → (List UInt8) → Int → Bool → Int → Option R) (k0 : (List (Int × (Int × ((List UInt8) × Unit)))) → (List UInt8) → (List UInt8) → Int → Bool → Option R) (v40 : (List (Int × (Int × ((List UInt8) × Unit))))) (v41 : (List UInt8)) (v42 : (List UInt8)) (v43 : Int) (v44 : Bool) (v45 : Int) : Option R :=
  (bif (decide (v45 < (v40.length : Int))) then
  (bif v44 then
  (Option.bind (nth v40 v45) fun (v46 : (Int × (Int × ((List UInt8) × Unit)))) =>
  (Option.bind (value_Right N v46.1 v46.2.1 v46.2.2.1) fun (v47 : Bool × Unit) =>
  (rec v40 v41 v42 v43 v47.1 (IntKind.wrap .i64 (v45 + 1)))))
  else
  (rec v40 v41 v42 v43 false (IntKind.wrap .i64 (v45 + 1))))
  else
  (k0 v40 v41 v42 v43 v44))

def law05_RowBack_l2 (N : Nat) (R : Type) (k0 : (List (Int × (Int × ((List UInt8) × Unit)))) → (List UInt8) → (List UInt8) → Int → Bool → Option R) : Nat → (List (Int × (Int × ((List UInt8) × Unit)))) → (List UInt8) → (List UInt8) → Int → Bool → Int → Option R
  | 0 => fun _ _ _ _ _ _ => none
  | n + 1 => law05_RowBack_l2B N R (law05_RowBack_l2 N R k0 n) k0

def law05_RowBack_j1 (N : Nat) (R : Type) (k0 : Bool → Option R) (v16 : (List (Int × (Int × ((List UInt8) × Unit))))) (v17 : (List UInt8)) : Option R :=
  (Option.bind (row_Encode N v16) fun (v18 : (List UInt8) × Int × Unit) =>
  (law05_RowBack_l2 N _ (fun (v19 : (List (Int × (Int × ((List UInt8) × Unit))))) (v20 : (List UInt8)) (v21 : (List UInt8)) (v22 : Int) (v23 : Bool) =>
  (bif (!(decide (v22 = 0))) then
  (Option.bind (law05_alive N) fun (v24 : Bool × Unit) =>
  (bif v24.1 then
  (bif (!v23) then
  (k0 (decide (v22 = 51)))
  else
  (k0 false))
  else
  (k0 false)))
  else
  (Option.bind (row_Decode N v21) fun (v25 : (List (Int × (Int × ((List UInt8) × Unit)))) × Int × Unit) =>
  (Option.bind (ref02_Same N v25.1 v19) fun (v26 : Bool × Unit) =>
  (law05_RowBack_l3 N _ (fun (v27 : (List UInt8)) (v28 : (List UInt8)) (v29 : Bool) (v30 : Int) (v31 : Bool) =>
  (bif (room 1 (([] : List UInt8).length + v28.length)) then
  (bif (room 1 (([] ++ v28).length + v27.length)) then
  (Option.bind (row_Decode N (([] ++ v28) ++ v27)) fun (v32 : (List (Int × (Int × ((List UInt8) × Unit)))) × Int × Unit) =>
  (Option.bind (law05_alive N) fun (v33 : Bool × Unit) =>
  (bif v33.1 then
  (bif v29 then
  (bif (decide (v30 = 0)) then
  (bif v31 then
  (k0 ((decide (v32.2.1 = 0)) == (decide ((v27.length : Int) = 0))))
  else
  (k0 false))
  else
  (k0 false))
  else
  (k0 false))
  else
  (k0 false))))
  else
  none)
  else
  none)) (fun (v34 : (List UInt8)) (v35 : Bool) (v36 : (List UInt8)) (v37 : Bool) (v38 : Int) (v39 : Bool) =>
  (k0 v35)) N v20 v21 v23 v25.2.1 v26.1 0))))) N v16 v17 v18.1 v18.2.1 (decide ((v16.length : Int) ≤ 16)) 0))

def law05_RowBack_j0 (N : Nat) (R : Type) (k0 : Bool → Option R) (v9 : (List (Int × (Int × ((List UInt8) × Unit))))) (v10 : (List UInt8)) (v11 : (List UInt8)) : Option R :=
  (Option.bind (row_Decode N v10) fun (v12 : (List (Int × (Int × ((List UInt8) × Unit)))) × Int × Unit) =>
  (bif (decide (v12.2.1 = 0)) then
  (Option.bind (row_Encode N v12.1) fun (v13 : (List UInt8) × Int × Unit) =>
  (bif (!(decide (v13.2.1 = 0))) then
  (k0 false)
  else
  (bif (!(decide (v13.1 = v10))) then
  (k0 false)
  else
  (law05_RowBack_j1 N _ (fun (v14 : Bool) =>
  (k0 v14)) v9 v11))))
  else
  (law05_RowBack_j1 N _ (fun (v15 : Bool) =>
  (k0 v15)) v9 v11)))

def law05_RowBack_cps (N : Nat) (R : Type) (K : Bool → Option R) (v1 : (List (Int × (Int × ((List UInt8) × Unit))))) (v2 : (List UInt8)) (v3 : (List UInt8)) : Option R :=
  (Option.bind (law05_few N v1) fun (v4 : Bool × Unit) =>
  (bif (!v4.1) then
  (Option.bind (law05_alive N) fun (v5 : Bool × Unit) =>
  (K v5.1))
  else
  (bif (decide (5000 < (v2.length : Int))) then
  (Option.bind (law05_alive N) fun (v6 : Bool × Unit) =>
  (K v6.1))
  else
  (bif (decide (100 < (v3.length : Int))) then
  (Option.bind (law05_alive N) fun (v7 : Bool × Unit) =>
  (K v7.1))
  else
  (law05_RowBack_j0 N _ (fun (v8 : Bool) =>
  (K v8)) v1 v2 v3)))))

def law05_RowBack (N : Nat) (v1 : (List (Int × (Int × ((List UInt8) × Unit))))) (v2 : (List UInt8)) (v3 : (List UInt8)) : Option (Bool × Unit) := law05_RowBack_cps N _ (fun a0 => some (a0, ())) v1 v2 v3

/-- What is to be shown of the law RowBack. -/
def RowBack_Pure : Prop := ∀ x : denA [(.slice (.pair (.int .i64) (.pair (.int .i64) (.pair .str .unit)))), (.slice .byte), (.slice .byte)], WfA [(.slice (.pair (.int .i64) (.pair (.int .i64) (.pair .str .unit)))), (.slice .byte), (.slice .byte)] x → law05_RowBack big x.1 x.2.1 x.2.2.1 = some (true, ())

end
end Go.Proofs.Ytkeejnlicagjiaa.E
