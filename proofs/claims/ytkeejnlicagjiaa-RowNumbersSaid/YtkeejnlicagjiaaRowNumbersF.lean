/-
  The statement RowNumbers of the program is proved: for every input that the row speaks of, the law answers true.
  Conditions: those that the statement's row prints, and no other. This text: pure functions, printed by a program out of the translation.
-/
import Derived.Test.YtkeejnlicagjiaaEvA
set_option linter.unusedVariables false
set_option linter.unusedSimpArgs false
/-! Pure functions, printed by wip/gen out of the translation. -/
namespace Go.Proofs.Ytkeejnlicagjiaa.E
open Go.Ev
noncomputable section
def bs0 : List UInt8 := [0, 1, 2, 2, 3, 3, 3, 3, 4, 4, 4, 4, 4, 4, 4, 4, 5, 5, 5, 5, 5, 5, 5, 5, 5, 5, 5, 5, 5, 5, 5, 5, 6, 6, 6, 6, 6, 6, 6, 6, 6, 6, 6, 6, 6, 6, 6, 6, 6, 6, 6, 6, 6, 6, 6, 6, 6, 6, 6, 6, 6, 6, 6, 6, 7, 7, 7, 7, 7, 7, 7, 7, 7, 7, 7, 7, 7, 7, 7, 7, 7, 7, 7, 7, 7, 7, 7, 7, 7, 7, 7, 7, 7, 7, 7, 7, 7, 7, 7, 7, 7, 7, 7, 7, 7, 7, 7, 7, 7, 7, 7, 7, 7, 7, 7, 7, 7, 7, 7, 7, 7, 7, 7, 7, 7, 7, 7, 7, 8, 8, 8, 8, 8, 8, 8, 8, 8, 8, 8, 8, 8, 8, 8, 8, 8, 8, 8, 8, 8, 8, 8, 8, 8, 8, 8, 8, 8, 8, 8, 8, 8, 8, 8, 8, 8, 8, 8, 8, 8, 8, 8, 8, 8, 8, 8, 8, 8, 8, 8, 8, 8, 8, 8, 8, 8, 8, 8, 8, 8, 8, 8, 8, 8, 8, 8, 8, 8, 8, 8, 8, 8, 8, 8, 8, 8, 8, 8, 8, 8, 8, 8, 8, 8, 8, 8, 8, 8, 8, 8, 8, 8, 8, 8, 8, 8, 8, 8, 8, 8, 8, 8, 8, 8, 8, 8, 8, 8, 8, 8, 8, 8, 8, 8, 8, 8, 8, 8, 8, 8, 8, 8, 8, 8, 8, 8, 8]
/-! frankpledge/value.Right -/
def value_Right_cps (N : Nat) (R : Type) (K : Bool → Option R) (v1 : Int) (v2 : Int) (v3 : (List UInt8)) : Option R :=
  (bif (decide (v1 = 1)) then
  (bif (decide (v2 = 1)) then
  (K (decide (v3 = [])))
  else
  (bif (decide (v2 = 0)) then
  (K (decide (v3 = [])))
  else
  (K false)))
  else
  (bif (decide (v1 = 0)) then
  (bif (decide (v2 = 0)) then
  (K (decide (v3 = [])))
  else
  (K false))
  else
  (bif (decide (v1 = 2)) then
  (K (decide (v3 = [])))
  else
  (bif (decide (v1 = 3)) then
  (K (decide (v3 = [])))
  else
  (bif (decide (v1 = 4)) then
  (bif (decide (v2 = 0)) then
  (K (decide ((v3.length : Int) ≤ 200)))
  else
  (K false))
  else
  (bif (decide (v1 = 5)) then
  (bif (decide (v2 = 0)) then
  (K (decide ((v3.length : Int) ≤ 200)))
  else
  (K false))
  else
  (K false)))))))

def value_Right (N : Nat) (v1 : Int) (v2 : Int) (v3 : (List UInt8)) : Option (Bool × Unit) := value_Right_cps N _ (fun a0 => some (a0, ())) v1 v2 v3

/-! frankpledge/row.Short -/
def row_Short_l0B (N : Nat) (R : Type) (rec : Int → (List UInt8) → Option R) (k0 : Int → (List UInt8) → Option R) (v4 : Int) (v5 : (List UInt8)) : Option R :=
  (bif (decide (127 < v4)) then
  (bif (room 1 (v5.length + [(UInt8.ofNat (Int.toNat (Ev.bits .or .u8 (IntKind.wrap .u8 v4) 128)))].length)) then
  (rec (Ev.shr .u64 v4 7) (v5 ++ [(UInt8.ofNat (Int.toNat (Ev.bits .or .u8 (IntKind.wrap .u8 v4) 128)))]))
  else
  none)
  else
  (k0 v4 v5))

def row_Short_l0 (N : Nat) (R : Type) (k0 : Int → (List UInt8) → Option R) : Nat → Int → (List UInt8) → Option R
  | 0 => fun _ _ => none
  | n + 1 => row_Short_l0B N R (row_Short_l0 N R k0 n) k0

def row_Short_cps (N : Nat) (R : Type) (K : (List UInt8) → Option R) (v1 : Int) : Option R :=
  (row_Short_l0 N _ (fun (v2 : Int) (v3 : (List UInt8)) =>
  (bif (room 1 (v3.length + [(UInt8.ofNat (Int.toNat (IntKind.wrap .u8 v2)))].length)) then
  (K (v3 ++ [(UInt8.ofNat (Int.toNat (IntKind.wrap .u8 v2)))]))
  else
  none)) N (Ev.bits .xor .u64 (Ev.shl .u64 (IntKind.wrap .u64 v1) 1) (IntKind.wrap .u64 (Ev.shr .i64 v1 63))) [])

def row_Short (N : Nat) (v1 : Int) : Option ((List UInt8) × Unit) := row_Short_cps N _ (fun a0 => some (a0, ())) v1

/-! frankpledge/row.Encode -/
def row_Encode_l0B (N : Nat) (R : Type) (rec : (List UInt8) → (List (Int × (Int × ((List UInt8) × Unit)))) → Int → Int → Option R) (k0 : (List UInt8) → Option R) (k1 : Int → (List UInt8) → Option R) (v5 : (List UInt8)) (v6 : (List (Int × (Int × ((List UInt8) × Unit))))) (v7 : Int) (v8 : Int) : Option R :=
  (bif (decide (v8 < v7)) then
  (Option.bind (nth v6 v8) fun (v9 : (Int × (Int × ((List UInt8) × Unit)))) =>
  (Option.bind (value_Right N v9.1 v9.2.1 v9.2.2.1) fun (v10 : Bool × Unit) =>
  (bif (!v10.1) then
  (k1 51 v5)
  else
  (bif (room 1 (v5.length + [(UInt8.ofNat (Int.toNat (IntKind.wrap .u8 v9.1)))].length)) then
  (bif (decide (v9.1 = 1)) then
  (bif (room 1 ((v5 ++ [(UInt8.ofNat (Int.toNat (IntKind.wrap .u8 v9.1)))]).length + [(UInt8.ofNat (Int.toNat (IntKind.wrap .u8 v9.2.1)))].length)) then
  (rec ((v5 ++ [(UInt8.ofNat (Int.toNat (IntKind.wrap .u8 v9.1)))]) ++ [(UInt8.ofNat (Int.toNat (IntKind.wrap .u8 v9.2.1)))]) v6 v7 (IntKind.wrap .i64 (v8 + 1)))
  else
  none)
  else
  (bif (decide (v9.1 = 2)) then
  (Option.bind (row_Short N v9.2.1) fun (v11 : (List UInt8) × Unit) =>
  (bif (room 1 ((v5 ++ [(UInt8.ofNat (Int.toNat (IntKind.wrap .u8 v9.1)))]).length + v11.1.length)) then
  (rec ((v5 ++ [(UInt8.ofNat (Int.toNat (IntKind.wrap .u8 v9.1)))]) ++ v11.1) v6 v7 (IntKind.wrap .i64 (v8 + 1)))
  else
  none))
  else
  (bif (decide (v9.1 = 3)) then
  (Option.bind (row_Short N v9.2.1) fun (v12 : (List UInt8) × Unit) =>
  (bif (room 1 ((v5 ++ [(UInt8.ofNat (Int.toNat (IntKind.wrap .u8 v9.1)))]).length + v12.1.length)) then
  (rec ((v5 ++ [(UInt8.ofNat (Int.toNat (IntKind.wrap .u8 v9.1)))]) ++ v12.1) v6 v7 (IntKind.wrap .i64 (v8 + 1)))
  else
  none))
  else
  (bif (decide (v9.1 = 4)) then
  (Option.bind (row_Short N (v9.2.2.1.length : Int)) fun (v13 : (List UInt8) × Unit) =>
  (bif (room 1 ((v5 ++ [(UInt8.ofNat (Int.toNat (IntKind.wrap .u8 v9.1)))]).length + v13.1.length)) then
  (bif (room 1 (((v5 ++ [(UInt8.ofNat (Int.toNat (IntKind.wrap .u8 v9.1)))]) ++ v13.1).length + v9.2.2.1.length)) then
  (rec (((v5 ++ [(UInt8.ofNat (Int.toNat (IntKind.wrap .u8 v9.1)))]) ++ v13.1) ++ v9.2.2.1) v6 v7 (IntKind.wrap .i64 (v8 + 1)))
  else
  none)
  else
  none))
  else
  (bif (decide (v9.1 = 5)) then
  (Option.bind (row_Short N (v9.2.2.1.length : Int)) fun (v14 : (List UInt8) × Unit) =>
  (bif (room 1 ((v5 ++ [(UInt8.ofNat (Int.toNat (IntKind.wrap .u8 v9.1)))]).length + v14.1.length)) then
  (bif (room 1 (((v5 ++ [(UInt8.ofNat (Int.toNat (IntKind.wrap .u8 v9.1)))]) ++ v14.1).length + v9.2.2.1.length)) then
  (rec (((v5 ++ [(UInt8.ofNat (Int.toNat (IntKind.wrap .u8 v9.1)))]) ++ v14.1) ++ v9.2.2.1) v6 v7 (IntKind.wrap .i64 (v8 + 1)))
  else
  none)
  else
  none))
  else
  (rec (v5 ++ [(UInt8.ofNat (Int.toNat (IntKind.wrap .u8 v9.1)))]) v6 v7 (IntKind.wrap .i64 (v8 + 1))))))))
  else
  none))))
  else
  (k0 v5))

def row_Encode_l0 (N : Nat) (R : Type) (k0 : (List UInt8) → Option R) (k1 : Int → (List UInt8) → Option R) : Nat → (List UInt8) → (List (Int × (Int × ((List UInt8) × Unit)))) → Int → Int → Option R
  | 0 => fun _ _ _ _ => none
  | n + 1 => row_Encode_l0B N R (row_Encode_l0 N R k0 k1 n) k0 k1

def row_Encode_cps (N : Nat) (R : Type) (K : (List UInt8) → Int → Option R) (v1 : (List (Int × (Int × ((List UInt8) × Unit))))) : Option R :=
  (bif (decide (16 < (v1.length : Int))) then
  (K [] 51)
  else
  (row_Encode_l0 N _ (fun (v2 : (List UInt8)) =>
  (K v2 0)) (fun (v3 : Int) (v4 : (List UInt8)) =>
  (K [] v3)) N [(UInt8.ofNat (Int.toNat (IntKind.wrap .u8 (v1.length : Int))))] v1 (v1.length : Int) 0))

def row_Encode (N : Nat) (v1 : (List (Int × (Int × ((List UInt8) × Unit))))) : Option ((List UInt8) × Int × Unit) := row_Encode_cps N _ (fun a0 a1 => some (a0, (a1, ()))) v1

/-! frankpledge/frankpledgelaw05.alive -/
def law05_alive_cps (N : Nat) (R : Type) (K : Bool → Option R)  : Option R :=
  (Option.bind (row_Encode N [(2, ((-65), ([], ()))), (4, (0, ([97], ())))]) fun (v1 : (List UInt8) × Int × Unit) =>
  (bif (decide (v1.2.1 = 0)) then
  (K (decide (v1.1 = [2, 2, 129, 1, 4, 2, 97])))
  else
  (K false)))

def law05_alive (N : Nat)  : Option (Bool × Unit) := law05_alive_cps N _ (fun a0 => some (a0, ())) 

/-! math/bits.Len64 -/
def bits_Len64_cps (N : Nat) (R : Type) (K : Int → Option R) (v1 : Int) : Option R :=
  (bif (decide (4294967296 ≤ v1)) then
  (bif (decide (65536 ≤ (Ev.shr .u64 v1 32))) then
  (bif (decide (256 ≤ (Ev.shr .u64 (Ev.shr .u64 v1 32) 16))) then
  (Option.bind (nth (bs0 : List UInt8) (IntKind.wrap .u8 (Ev.shr .u64 (Ev.shr .u64 (Ev.shr .u64 v1 32) 16) 8))) fun (v2 : UInt8) =>
  (K (IntKind.wrap .i64 (56 + (IntKind.wrap .i64 (v2.toNat : Int))))))
  else
  (Option.bind (nth (bs0 : List UInt8) (IntKind.wrap .u8 (Ev.shr .u64 (Ev.shr .u64 v1 32) 16))) fun (v3 : UInt8) =>
  (K (IntKind.wrap .i64 (48 + (IntKind.wrap .i64 (v3.toNat : Int)))))))
  else
  (bif (decide (256 ≤ (Ev.shr .u64 v1 32))) then
  (Option.bind (nth (bs0 : List UInt8) (IntKind.wrap .u8 (Ev.shr .u64 (Ev.shr .u64 v1 32) 8))) fun (v4 : UInt8) =>
  (K (IntKind.wrap .i64 (40 + (IntKind.wrap .i64 (v4.toNat : Int))))))
  else
  (Option.bind (nth (bs0 : List UInt8) (IntKind.wrap .u8 (Ev.shr .u64 v1 32))) fun (v5 : UInt8) =>
  (K (IntKind.wrap .i64 (32 + (IntKind.wrap .i64 (v5.toNat : Int))))))))
  else
  (bif (decide (65536 ≤ v1)) then
  (bif (decide (256 ≤ (Ev.shr .u64 v1 16))) then
  (Option.bind (nth (bs0 : List UInt8) (IntKind.wrap .u8 (Ev.shr .u64 (Ev.shr .u64 v1 16) 8))) fun (v6 : UInt8) =>
  (K (IntKind.wrap .i64 (24 + (IntKind.wrap .i64 (v6.toNat : Int))))))
  else
  (Option.bind (nth (bs0 : List UInt8) (IntKind.wrap .u8 (Ev.shr .u64 v1 16))) fun (v7 : UInt8) =>
  (K (IntKind.wrap .i64 (16 + (IntKind.wrap .i64 (v7.toNat : Int)))))))
  else
  (bif (decide (256 ≤ v1)) then
  (Option.bind (nth (bs0 : List UInt8) (IntKind.wrap .u8 (Ev.shr .u64 v1 8))) fun (v8 : UInt8) =>
  (K (IntKind.wrap .i64 (8 + (IntKind.wrap .i64 (v8.toNat : Int))))))
  else
  (Option.bind (nth (bs0 : List UInt8) (IntKind.wrap .u8 v1)) fun (v9 : UInt8) =>
  (K (IntKind.wrap .i64 (0 + (IntKind.wrap .i64 (v9.toNat : Int)))))))))

def bits_Len64 (N : Nat) (v1 : Int) : Option (Int × Unit) := bits_Len64_cps N _ (fun a0 => some (a0, ())) v1

/-! frankpledge/row.Long -/
def row_Long_l0B (N : Nat) (R : Type) (rec : Int → (List UInt8) → Int → Int → Option R) (k0 : Option R) (k1 : Int → Int → Bool → Option R) (v5 : Int) (v6 : (List UInt8)) (v7 : Int) (v8 : Int) : Option R :=
  (bif (decide (v8 < v7)) then
  (Option.bind (nth v6 v8) fun (v9 : UInt8) =>
  (Option.bind (bits_Len64 N (IntKind.wrap .u64 (Ev.bits .and .u8 (v9.toNat : Int) 127))) fun (v10 : Int × Unit) =>
  (bif (decide (64 < (IntKind.wrap .i64 (v10.1 + (IntKind.wrap .i64 (7 * v8)))))) then
  (k1 0 0 false)
  else
  (bif (decide (0 ≤ (IntKind.wrap .i64 (7 * v8)))) then
  (bif (decide ((v9.toNat : Int) < 128)) then
  (bif (decide ((v9.toNat : Int) = 0)) then
  (bif (decide (0 < v8)) then
  k0
  else
  (k1 (Ev.bits .xor .i64 (IntKind.wrap .i64 (Ev.shr .u64 (Ev.bits .or .u64 v5 (Ev.shl .u64 (IntKind.wrap .u64 (Ev.bits .and .u8 (v9.toNat : Int) 127)) (IntKind.wrap .i64 (7 * v8)))) 1)) (IntKind.wrap .i64 (0 - (IntKind.wrap .i64 (Ev.bits .and .u64 (Ev.bits .or .u64 v5 (Ev.shl .u64 (IntKind.wrap .u64 (Ev.bits .and .u8 (v9.toNat : Int) 127)) (IntKind.wrap .i64 (7 * v8)))) 1))))) (IntKind.wrap .i64 (v8 + 1)) true))
  else
  (k1 (Ev.bits .xor .i64 (IntKind.wrap .i64 (Ev.shr .u64 (Ev.bits .or .u64 v5 (Ev.shl .u64 (IntKind.wrap .u64 (Ev.bits .and .u8 (v9.toNat : Int) 127)) (IntKind.wrap .i64 (7 * v8)))) 1)) (IntKind.wrap .i64 (0 - (IntKind.wrap .i64 (Ev.bits .and .u64 (Ev.bits .or .u64 v5 (Ev.shl .u64 (IntKind.wrap .u64 (Ev.bits .and .u8 (v9.toNat : Int) 127)) (IntKind.wrap .i64 (7 * v8)))) 1))))) (IntKind.wrap .i64 (v8 + 1)) true))
  else
  (bif (decide (v8 = 9)) then
  k0
  else
  (rec (Ev.bits .or .u64 v5 (Ev.shl .u64 (IntKind.wrap .u64 (Ev.bits .and .u8 (v9.toNat : Int) 127)) (IntKind.wrap .i64 (7 * v8)))) v6 v7 (IntKind.wrap .i64 (v8 + 1)))))
  else
  none))))
  else
  k0)

def row_Long_l0 (N : Nat) (R : Type) (k0 : Option R) (k1 : Int → Int → Bool → Option R) : Nat → Int → (List UInt8) → Int → Int → Option R
  | 0 => fun _ _ _ _ => none
  | n + 1 => row_Long_l0B N R (row_Long_l0 N R k0 k1 n) k0 k1

def row_Long_cps (N : Nat) (R : Type) (K : Int → Int → Bool → Option R) (v1 : (List UInt8)) : Option R :=
  (row_Long_l0 N _ ((K 0 0 false)) (fun (v2 : Int) (v3 : Int) (v4 : Bool) =>
  (K v2 v3 v4)) N 0 v1 (v1.length : Int) 0)

def row_Long (N : Nat) (v1 : (List UInt8)) : Option (Int × Int × Bool × Unit) := row_Long_cps N _ (fun a0 a1 a2 => some (a0, (a1, (a2, ())))) v1

/-! frankpledge/frankpledgelaw05.RowNumbers -/
def law05_RowNumbers_l0B (N : Nat) (R : Type) (rec : Int → Int → (List UInt8) → Int → Int → Bool → Int → Option R) (k0 : Int → Int → (List UInt8) → Int → Int → Bool → Option R) (k1 : Int → Int → Bool → (List UInt8) → Int → Int → Bool → Option R) (v26 : Int) (v27 : Int) (v28 : (List UInt8)) (v29 : Int) (v30 : Int) (v31 : Bool) (v32 : Int) : Option R :=
  (bif (decide (v32 < (v28.length : Int))) then
  (bif (decide (0 ≤ v32 ∧ v32 ≤ ((v28.length : Nat) : Int))) then
  (Option.bind (row_Long N (List.drop 0 (List.take (Int.toNat v32) v28))) fun (v33 : Int × Int × Bool × Unit) =>
  (bif v33.2.2.1 then
  (k1 v26 v27 false v28 v29 v30 v31)
  else
  (rec v26 v27 v28 v29 v30 v31 (IntKind.wrap .i64 (v32 + 1)))))
  else
  none)
  else
  (k0 v26 v27 v28 v29 v30 v31))

def law05_RowNumbers_l0 (N : Nat) (R : Type) (k0 : Int → Int → (List UInt8) → Int → Int → Bool → Option R) (k1 : Int → Int → Bool → (List UInt8) → Int → Int → Bool → Option R) : Nat → Int → Int → (List UInt8) → Int → Int → Bool → Int → Option R
  | 0 => fun _ _ _ _ _ _ _ => none
  | n + 1 => law05_RowNumbers_l0B N R (law05_RowNumbers_l0 N R k0 k1 n) k0 k1

def law05_RowNumbers_cps (N : Nat) (R : Type) (K : Bool → Option R) (v1 : Int) (v2 : Int) (v3 : (List UInt8)) : Option R :=
  (bif (decide (100 < (v3.length : Int))) then
  (Option.bind (law05_alive N) fun (v4 : Bool × Unit) =>
  (K v4.1))
  else
  (Option.bind (row_Short N v1) fun (v5 : (List UInt8) × Unit) =>
  (bif (room 1 (([] : List UInt8).length + v5.1.length)) then
  (bif (room 1 (([] ++ v5.1).length + v3.length)) then
  (Option.bind (row_Long N (([] ++ v5.1) ++ v3)) fun (v6 : Int × Int × Bool × Unit) =>
  (law05_RowNumbers_l0 N _ (fun (v7 : Int) (v8 : Int) (v9 : (List UInt8)) (v10 : Int) (v11 : Int) (v12 : Bool) =>
  (Option.bind (row_Short N v8) fun (v13 : (List UInt8) × Unit) =>
  (bif (decide (0 ≤ v7)) then
  (bif (decide (v7 ≤ v8)) then
  (Option.bind (law05_alive N) fun (v14 : Bool × Unit) =>
  (bif v14.1 then
  (bif v12 then
  (bif (decide (v10 = v7)) then
  (bif (decide (v11 = (v9.length : Int))) then
  (bif (decide (1 ≤ (v9.length : Int))) then
  (bif (decide ((v9.length : Int) ≤ 10)) then
  (K (decide ((v9.length : Int) ≤ (v13.1.length : Int))))
  else
  (K false))
  else
  (K false))
  else
  (K false))
  else
  (K false))
  else
  (K false))
  else
  (K false)))
  else
  (bif (decide (v7 < 0)) then
  (Option.bind (law05_alive N) fun (v15 : Bool × Unit) =>
  (bif v15.1 then
  (bif v12 then
  (bif (decide (v10 = v7)) then
  (bif (decide (v11 = (v9.length : Int))) then
  (bif (decide (1 ≤ (v9.length : Int))) then
  (bif (decide ((v9.length : Int) ≤ 10)) then
  (bif (!(decide (v8 ≤ v7))) then
  (K true)
  else
  (K (decide ((v9.length : Int) ≤ (v13.1.length : Int)))))
  else
  (K false))
  else
  (K false))
  else
  (K false))
  else
  (K false))
  else
  (K false))
  else
  (K false)))
  else
  (Option.bind (law05_alive N) fun (v16 : Bool × Unit) =>
  (bif v16.1 then
  (bif v12 then
  (bif (decide (v10 = v7)) then
  (bif (decide (v11 = (v9.length : Int))) then
  (bif (decide (1 ≤ (v9.length : Int))) then
  (bif (decide ((v9.length : Int) ≤ 10)) then
  (K true)
  else
  (K false))
  else
  (K false))
  else
  (K false))
  else
  (K false))
  else
  (K false))
  else
  (K false)))))
  else
  (bif (decide (v7 < 0)) then
  (Option.bind (law05_alive N) fun (v17 : Bool × Unit) =>
  (bif v17.1 then
  (bif v12 then
  (bif (decide (v10 = v7)) then
  (bif (decide (v11 = (v9.length : Int))) then
  (bif (decide (1 ≤ (v9.length : Int))) then
  (bif (decide ((v9.length : Int) ≤ 10)) then
  (bif (!(decide (v8 ≤ v7))) then
  (K true)
  else
  (K (decide ((v9.length : Int) ≤ (v13.1.length : Int)))))
  else
  (K false))
  else
  (K false))
  else
  (K false))
  else
  (K false))
  else
  (K false))
  else
  (K false)))
  else
  (Option.bind (law05_alive N) fun (v18 : Bool × Unit) =>
  (bif v18.1 then
  (bif v12 then
  (bif (decide (v10 = v7)) then
  (bif (decide (v11 = (v9.length : Int))) then
  (bif (decide (1 ≤ (v9.length : Int))) then
  (bif (decide ((v9.length : Int) ≤ 10)) then
  (K true)
  else
  (K false))
  else
  (K false))
  else
  (K false))
  else
  (K false))
  else
  (K false))
  else
  (K false))))))) (fun (v19 : Int) (v20 : Int) (v21 : Bool) (v22 : (List UInt8)) (v23 : Int) (v24 : Int) (v25 : Bool) =>
  (K v21)) N v1 v2 v5.1 v6.1 v6.2.1 v6.2.2.1 0))
  else
  none)
  else
  none)))

def law05_RowNumbers (N : Nat) (v1 : Int) (v2 : Int) (v3 : (List UInt8)) : Option (Bool × Unit) := law05_RowNumbers_cps N _ (fun a0 => some (a0, ())) v1 v2 v3

/-- What is to be shown of the law RowNumbers. -/
def RowNumbers_Pure : Prop := ∀ x : denA [(.int .i64), (.int .i64), (.slice .byte)], WfA [(.int .i64), (.int .i64), (.slice .byte)] x → law05_RowNumbers big x.1 x.2.1 x.2.2.1 = some (true, ())

end
end Go.Proofs.Ytkeejnlicagjiaa.E
