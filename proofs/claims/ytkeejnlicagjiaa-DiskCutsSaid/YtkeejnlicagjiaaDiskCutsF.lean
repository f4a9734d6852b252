/-
  The statement DiskCuts of the program is proved: for every input that the row speaks of, the law answers true.
  Conditions: those that the statement's row prints, and no other. This text: pure functions, printed by a program out of the translation.
-/
import Derived.Test.YtkeejnlicagjiaaEvA
set_option linter.unusedVariables false
set_option linter.unusedSimpArgs false
/-! Pure functions, printed by wip/gen out of the translation. -/
namespace Go.Proofs.Ytkeejnlicagjiaa.E
open Go.Ev
noncomputable section
/-! frankpledge/disk.New -/
def disk_New_cps (N : Nat) (R : Type) (K : Int → Int → Option R)  : Option R :=
  (K 0 0)

def disk_New (N : Nat)  : Option (Int × Int × Unit) := disk_New_cps N _ (fun a0 a1 => some (a0, (a1, ()))) 

/-! (*frankpledge/disk.Disk).End -/
def disk_Disk_End_cps (N : Nat) (R : Type) (K : Int → Option R) (v1 : Int) (v2 : Int) : Option R :=
  (K (IntKind.wrap .i64 (v1 + 0)))

def disk_Disk_End (N : Nat) (v1 : Int) (v2 : Int) : Option (Int × Unit) := disk_Disk_End_cps N _ (fun a0 => some (a0, ())) v1 v2

/-! (*frankpledge/disk.Disk).Append -/
def disk_Disk_Append_cps (N : Nat) (R : Type) (K : Int → Int → (List UInt8) → Int → Int → Option R) (v1 : (List UInt8)) (v2 : Int) (v3 : Int) : Option R :=
  (bif (decide (1048576 < (v1.length : Int))) then
  (K 0 62 [] v2 v3)
  else
  (Option.bind (disk_Disk_End N v2 v3) fun (v4 : Int × Unit) =>
  (bif (room 1 v1.length) then
  (K v4.1 0 v1 v2 v3)
  else
  none)))

def disk_Disk_Append (N : Nat) (v1 : (List UInt8)) (v2 : Int) (v3 : Int) : Option (Int × Int × (List UInt8) × Int × Int × Unit) := disk_Disk_Append_cps N _ (fun a0 a1 a2 a3 a4 => some (a0, (a1, (a2, (a3, (a4, ())))))) v1 v2 v3

/-! (*frankpledge/disk.Disk).End -/
def disk_Disk_End_1_cps (N : Nat) (R : Type) (K : Int → Option R) (v1 : (List UInt8)) (v2 : Int) (v3 : Int) : Option R :=
  (K (IntKind.wrap .i64 (v2 + (v1.length : Int))))

def disk_Disk_End_1 (N : Nat) (v1 : (List UInt8)) (v2 : Int) (v3 : Int) : Option (Int × Unit) := disk_Disk_End_1_cps N _ (fun a0 => some (a0, ())) v1 v2 v3

/-! (*frankpledge/disk.Disk).Append -/
def disk_Disk_Append_1_cps (N : Nat) (R : Type) (K : Int → Int → (List UInt8) → Int → Int → Option R) (v1 : (List UInt8)) (v2 : (List UInt8)) (v3 : Int) (v4 : Int) : Option R :=
  (bif (decide ((IntKind.wrap .i64 (1048576 - (v2.length : Int))) < (v1.length : Int))) then
  (K 0 62 v2 v3 v4)
  else
  (Option.bind (disk_Disk_End_1 N v2 v3 v4) fun (v5 : Int × Unit) =>
  (bif (room 1 (v2.length + v1.length)) then
  (K v5.1 0 (v2 ++ v1) v3 v4)
  else
  none)))

def disk_Disk_Append_1 (N : Nat) (v1 : (List UInt8)) (v2 : (List UInt8)) (v3 : Int) (v4 : Int) : Option (Int × Int × (List UInt8) × Int × Int × Unit) := disk_Disk_Append_1_cps N _ (fun a0 a1 a2 a3 a4 => some (a0, (a1, (a2, (a3, (a4, ())))))) v1 v2 v3 v4

/-! bytes.Clone -/
def bytes_Clone_cps (N : Nat) (R : Type) (K : (List UInt8) → Option R) (v1 : (List UInt8)) : Option R :=
  (bif (room 1 (([] : List UInt8).length + v1.length)) then
  (K ([] ++ v1))
  else
  none)

def bytes_Clone (N : Nat) (v1 : (List UInt8)) : Option ((List UInt8) × Unit) := bytes_Clone_cps N _ (fun a0 => some (a0, ())) v1

/-! bytes.Clone -/
def bytes_Clone_1_cps (N : Nat) (R : Type) (K : Option R)  : Option R :=
  K

def bytes_Clone_1 (N : Nat)  : Option (Unit) := bytes_Clone_1_cps N _ (some ()) 

/-! (*frankpledge/disk.Disk).Read -/
def disk_Disk_Read_cps (N : Nat) (R : Type) (K : (List UInt8) → Int → Option R) (v1 : Int) (v2 : Int) (v3 : (List UInt8)) (v4 : Int) (v5 : Int) : Option R :=
  (bif (decide (v1 < v4)) then
  (K [] 61)
  else
  (bif (decide (v2 < v1)) then
  (K [] 61)
  else
  (Option.bind (disk_Disk_End_1 N v3 v4 v5) fun (v6 : Int × Unit) =>
  (bif (decide (v6.1 < v2)) then
  (K [] 61)
  else
  (bif (decide (0 ≤ (IntKind.wrap .i64 (v2 - v4)) ∧ (IntKind.wrap .i64 (v2 - v4)) ≤ ((v3.length : Nat) : Int))) then
  (bif (decide (0 ≤ (IntKind.wrap .i64 (v1 - v4)) ∧ (IntKind.wrap .i64 (v1 - v4)) ≤ (((Int.toNat (IntKind.wrap .i64 (v2 - v4))) : Nat) : Int))) then
  (Option.bind (bytes_Clone N (List.drop (Int.toNat (IntKind.wrap .i64 (v1 - v4))) (List.take (Int.toNat (IntKind.wrap .i64 (v2 - v4))) v3))) fun (v7 : (List UInt8) × Unit) =>
  (K v7.1 0))
  else
  none)
  else
  none)))))

def disk_Disk_Read (N : Nat) (v1 : Int) (v2 : Int) (v3 : (List UInt8)) (v4 : Int) (v5 : Int) : Option ((List UInt8) × Int × Unit) := disk_Disk_Read_cps N _ (fun a0 a1 => some (a0, (a1, ()))) v1 v2 v3 v4 v5

/-! (*frankpledge/disk.Disk).Safe -/
def disk_Disk_Safe_cps (N : Nat) (R : Type) (K : Int → Option R) (v1 : (List UInt8)) (v2 : Int) (v3 : Int) : Option R :=
  (K (IntKind.wrap .i64 (v2 + v3)))

def disk_Disk_Safe (N : Nat) (v1 : (List UInt8)) (v2 : Int) (v3 : Int) : Option (Int × Unit) := disk_Disk_Safe_cps N _ (fun a0 => some (a0, ())) v1 v2 v3

/-! frankpledge/frankpledgelaw06.alive -/
def law06_alive_cps (N : Nat) (R : Type) (K : Bool → Option R)  : Option R :=
  (Option.bind (disk_New N) fun (v1 : Int × Int × Unit) =>
  (Option.bind (disk_Disk_Append N [97, 98, 99] v1.1 v1.2.1) fun (v2 : Int × Int × (List UInt8) × Int × Int × Unit) =>
  (Option.bind (disk_Disk_Append_1 N [100, 101] v2.2.2.1 v2.2.2.2.1 v2.2.2.2.2.1) fun (v3 : Int × Int × (List UInt8) × Int × Int × Unit) =>
  (Option.bind (disk_Disk_Read N 2 4 v3.2.2.1 v3.2.2.2.1 v3.2.2.2.2.1) fun (v4 : (List UInt8) × Int × Unit) =>
  (bif (decide (v2.2.1 = 0)) then
  (bif (decide (v3.2.1 = 0)) then
  (bif (decide (v4.2.1 = 0)) then
  (bif (decide (v2.1 = 0)) then
  (bif (decide (v3.1 = 3)) then
  (bif (decide (v4.1 = [99, 100])) then
  (Option.bind (disk_Disk_End_1 N v3.2.2.1 v3.2.2.2.1 v3.2.2.2.2.1) fun (v5 : Int × Unit) =>
  (bif (decide (v5.1 = 5)) then
  (Option.bind (disk_Disk_Safe N v3.2.2.1 v3.2.2.2.1 v3.2.2.2.2.1) fun (v6 : Int × Unit) =>
  (K (decide (v6.1 = 0))))
  else
  (K false)))
  else
  (K false))
  else
  (K false))
  else
  (K false))
  else
  (K false))
  else
  (K false))
  else
  (K false))))))

def law06_alive (N : Nat)  : Option (Bool × Unit) := law06_alive_cps N _ (fun a0 => some (a0, ())) 

/-! frankpledge/frankpledgeref06.Pick -/
def ref06_Pick_cps (N : Nat) (R : Type) (K : Int → Option R) (v1 : Int) (v2 : Int) : Option R :=
  (bif (decide (v1 < 0)) then
  (bif (decide (v2 = 0)) then
  none
  else
  (K (Int.tmod (IntKind.wrap .i64 (0 - (IntKind.wrap .i64 (v1 + 1)))) v2)))
  else
  (bif (decide (v2 = 0)) then
  none
  else
  (K (Int.tmod v1 v2))))

def ref06_Pick (N : Nat) (v1 : Int) (v2 : Int) : Option (Int × Unit) := ref06_Pick_cps N _ (fun a0 => some (a0, ())) v1 v2

/-! (*frankpledge/disk.Disk).Cut -/
def disk_Disk_Cut_cps (N : Nat) (R : Type) (K : Int → (List UInt8) → Int → Int → Option R) (v1 : Int) (v2 : (List UInt8)) (v3 : Int) (v4 : Int) : Option R :=
  (bif (decide (v1 < v3)) then
  (K 1 v2 v3 v4)
  else
  (Option.bind (disk_Disk_End_1 N v2 v3 v4) fun (v5 : Int × Unit) =>
  (bif (decide (v5.1 < v1)) then
  (K 1 v2 v3 v4)
  else
  (bif (decide ((IntKind.wrap .i64 (v1 - v3)) = (IntKind.wrap .i64 (v1 - v3)))) then
  (bif (decide (0 ≤ (IntKind.wrap .i64 (v1 - v3)) ∧ (IntKind.wrap .i64 (v1 - v3)) ≤ ((v2.length : Nat) : Int))) then
  (K 0 (List.drop 0 (List.take (Int.toNat (IntKind.wrap .i64 (v1 - v3))) v2)) v3 (IntKind.wrap .i64 (v1 - v3)))
  else
  none)
  else
  none))))

def disk_Disk_Cut (N : Nat) (v1 : Int) (v2 : (List UInt8)) (v3 : Int) (v4 : Int) : Option (Int × (List UInt8) × Int × Int × Unit) := disk_Disk_Cut_cps N _ (fun a0 a1 a2 a3 => some (a0, (a1, (a2, (a3, ()))))) v1 v2 v3 v4

/-! (*frankpledge/disk.Disk).End -/
def disk_Disk_End_2_cps (N : Nat) (R : Type) (K : Int → Option R) (v1 : (List UInt8)) (v2 : Int) (v3 : Int) : Option R :=
  (K (IntKind.wrap .i64 (v2 + (v1.length : Int))))

def disk_Disk_End_2 (N : Nat) (v1 : (List UInt8)) (v2 : Int) (v3 : Int) : Option (Int × Unit) := disk_Disk_End_2_cps N _ (fun a0 => some (a0, ())) v1 v2 v3

/-! (*frankpledge/disk.Disk).Append -/
def disk_Disk_Append_2_cps (N : Nat) (R : Type) (K : Int → Int → (List UInt8) → Int → Int → Option R) (v1 : (List UInt8)) (v2 : (List UInt8)) (v3 : Int) (v4 : Int) : Option R :=
  (bif (decide ((IntKind.wrap .i64 (1048576 - (v2.length : Int))) < (v1.length : Int))) then
  (K 0 62 v2 v3 v4)
  else
  (Option.bind (disk_Disk_End_2 N v2 v3 v4) fun (v5 : Int × Unit) =>
  (bif (room 1 (v2.length + v1.length)) then
  (K v5.1 0 (v2 ++ v1) v3 v4)
  else
  none)))

def disk_Disk_Append_2 (N : Nat) (v1 : (List UInt8)) (v2 : (List UInt8)) (v3 : Int) (v4 : Int) : Option (Int × Int × (List UInt8) × Int × Int × Unit) := disk_Disk_Append_2_cps N _ (fun a0 a1 a2 a3 a4 => some (a0, (a1, (a2, (a3, (a4, ())))))) v1 v2 v3 v4

/-! (*frankpledge/disk.Disk).Read -/
def disk_Disk_Read_1_cps (N : Nat) (R : Type) (K : (List UInt8) → Int → Option R) (v1 : Int) (v2 : Int) (v3 : (List UInt8)) (v4 : Int) (v5 : Int) : Option R :=
  (bif (decide (v1 < v4)) then
  (K [] 61)
  else
  (bif (decide (v2 < v1)) then
  (K [] 61)
  else
  (Option.bind (disk_Disk_End_2 N v3 v4 v5) fun (v6 : Int × Unit) =>
  (bif (decide (v6.1 < v2)) then
  (K [] 61)
  else
  (bif (decide (0 ≤ (IntKind.wrap .i64 (v2 - v4)) ∧ (IntKind.wrap .i64 (v2 - v4)) ≤ ((v3.length : Nat) : Int))) then
  (bif (decide (0 ≤ (IntKind.wrap .i64 (v1 - v4)) ∧ (IntKind.wrap .i64 (v1 - v4)) ≤ (((Int.toNat (IntKind.wrap .i64 (v2 - v4))) : Nat) : Int))) then
  (Option.bind (bytes_Clone N (List.drop (Int.toNat (IntKind.wrap .i64 (v1 - v4))) (List.take (Int.toNat (IntKind.wrap .i64 (v2 - v4))) v3))) fun (v7 : (List UInt8) × Unit) =>
  (K v7.1 0))
  else
  none)
  else
  none)))))

def disk_Disk_Read_1 (N : Nat) (v1 : Int) (v2 : Int) (v3 : (List UInt8)) (v4 : Int) (v5 : Int) : Option ((List UInt8) × Int × Unit) := disk_Disk_Read_1_cps N _ (fun a0 a1 => some (a0, (a1, ()))) v1 v2 v3 v4 v5

/-! frankpledge/disk.round -/
def disk_round_cps (N : Nat) (R : Type) (K : Int → Option R) (v1 : Int) (v2 : Int) : Option R :=
  (bif (decide (v1 < 0)) then
  (bif (decide (v2 = 0)) then
  none
  else
  (K (Int.tmod (IntKind.wrap .i64 (0 - (IntKind.wrap .i64 (v1 + 1)))) v2)))
  else
  (bif (decide (v2 = 0)) then
  none
  else
  (K (Int.tmod v1 v2))))

def disk_round (N : Nat) (v1 : Int) (v2 : Int) : Option (Int × Unit) := disk_round_cps N _ (fun a0 => some (a0, ())) v1 v2

/-! (*frankpledge/disk.Disk).Power -/
def disk_Disk_Power_cps (N : Nat) (R : Type) (K : (List UInt8) → Int → Int → (List UInt8) → Int → Int → Option R) (v1 : Int) (v2 : (List UInt8)) (v3 : Int) (v4 : Int) : Option R :=
  (Option.bind (disk_round N v1 (IntKind.wrap .i64 ((IntKind.wrap .i64 ((v2.length : Int) - v4)) + 1))) fun (v5 : Int × Unit) =>
  (bif (decide (0 ≤ (IntKind.wrap .i64 (v4 + v5.1)) ∧ (IntKind.wrap .i64 (v4 + v5.1)) ≤ ((v2.length : Nat) : Int))) then
  (Option.bind (bytes_Clone N (List.drop 0 (List.take (Int.toNat (IntKind.wrap .i64 (v4 + v5.1))) v2))) fun (v6 : (List UInt8) × Unit) =>
  (K v2 v3 v4 v6.1 v3 (IntKind.wrap .i64 (v4 + v5.1))))
  else
  none))

def disk_Disk_Power (N : Nat) (v1 : Int) (v2 : (List UInt8)) (v3 : Int) (v4 : Int) : Option ((List UInt8) × Int × Int × (List UInt8) × Int × Int × Unit) := disk_Disk_Power_cps N _ (fun a0 a1 a2 a3 a4 a5 => some (a0, (a1, (a2, (a3, (a4, (a5, ()))))))) v1 v2 v3 v4

/-! (*frankpledge/disk.Disk).Safe -/
def disk_Disk_Safe_1_cps (N : Nat) (R : Type) (K : Int → Option R) (v1 : (List UInt8)) (v2 : Int) (v3 : Int) : Option R :=
  (K (IntKind.wrap .i64 (v2 + v3)))

def disk_Disk_Safe_1 (N : Nat) (v1 : (List UInt8)) (v2 : Int) (v3 : Int) : Option (Int × Unit) := disk_Disk_Safe_1_cps N _ (fun a0 => some (a0, ())) v1 v2 v3

/-! (*frankpledge/disk.Disk).Cut -/
def disk_Disk_Cut_1_cps (N : Nat) (R : Type) (K : Int → (List UInt8) → Int → Int → Option R) (v1 : Int) (v2 : (List UInt8)) (v3 : Int) (v4 : Int) : Option R :=
  (bif (decide (v1 < v3)) then
  (K 1 v2 v3 v4)
  else
  (Option.bind (disk_Disk_End_2 N v2 v3 v4) fun (v5 : Int × Unit) =>
  (bif (decide (v5.1 < v1)) then
  (K 1 v2 v3 v4)
  else
  (bif (decide ((IntKind.wrap .i64 (v1 - v3)) = (IntKind.wrap .i64 (v1 - v3)))) then
  (bif (decide (0 ≤ (IntKind.wrap .i64 (v1 - v3)) ∧ (IntKind.wrap .i64 (v1 - v3)) ≤ ((v2.length : Nat) : Int))) then
  (K 0 (List.drop 0 (List.take (Int.toNat (IntKind.wrap .i64 (v1 - v3))) v2)) v3 (IntKind.wrap .i64 (v1 - v3)))
  else
  none)
  else
  none))))

def disk_Disk_Cut_1 (N : Nat) (v1 : Int) (v2 : (List UInt8)) (v3 : Int) (v4 : Int) : Option (Int × (List UInt8) × Int × Int × Unit) := disk_Disk_Cut_1_cps N _ (fun a0 a1 a2 a3 => some (a0, (a1, (a2, (a3, ()))))) v1 v2 v3 v4

/-! frankpledge/frankpledgelaw06.DiskCuts -/
def law06_DiskCuts_j0 (N : Nat) (R : Type) (k0 : Bool → (List UInt8) → Int → Int → Option R) (v11 : (List UInt8)) (v12 : (List UInt8)) (v13 : Int) (v14 : Int) (v15 : Int) : Option R :=
  (Option.bind (disk_Disk_Append N v11 v14 v15) fun (v16 : Int × Int × (List UInt8) × Int × Int × Unit) =>
  (Option.bind (ref06_Pick N v13 (IntKind.wrap .i64 ((v11.length : Int) + 1))) fun (v17 : Int × Unit) =>
  (Option.bind (disk_Disk_Cut N v17.1 v16.2.2.1 v16.2.2.2.1 v16.2.2.2.2.1) fun (v18 : Int × (List UInt8) × Int × Int × Unit) =>
  (Option.bind (disk_Disk_Append_2 N v12 v18.2.1 v18.2.2.1 v18.2.2.2.1) fun (v19 : Int × Int × (List UInt8) × Int × Int × Unit) =>
  (Option.bind (disk_Disk_End_2 N v19.2.2.1 v19.2.2.2.1 v19.2.2.2.2.1) fun (v20 : Int × Unit) =>
  (Option.bind (disk_Disk_Read_1 N 0 v20.1 v19.2.2.1 v19.2.2.2.1 v19.2.2.2.2.1) fun (v21 : (List UInt8) × Int × Unit) =>
  (Option.bind (disk_Disk_End_2 N v19.2.2.1 v19.2.2.2.1 v19.2.2.2.2.1) fun (v22 : Int × Unit) =>
  (Option.bind (disk_Disk_Read_1 N 0 (IntKind.wrap .i64 (v22.1 + 1)) v19.2.2.1 v19.2.2.2.1 v19.2.2.2.2.1) fun (v23 : (List UInt8) × Int × Unit) =>
  (Option.bind (disk_Disk_Power N 0 v19.2.2.1 v19.2.2.2.1 v19.2.2.2.2.1) fun (v24 : (List UInt8) × Int × Int × (List UInt8) × Int × Int × Unit) =>
  (Option.bind (law06_alive N) fun (v25 : Bool × Unit) =>
  (bif v25.1 then
  (bif (decide (v18.1 = 0)) then
  (bif (decide (v19.2.1 = 0)) then
  (bif (decide (v21.2.1 = 0)) then
  (bif (decide (v23.2.1 = 61)) then
  (bif (decide (v19.1 = v17.1)) then
  (bif (decide (0 ≤ v17.1 ∧ v17.1 ≤ ((v11.length : Nat) : Int))) then
  (bif (room 1 ((List.drop 0 (List.take (Int.toNat v17.1) v11)).length + v12.length)) then
  (bif (decide (v21.1 = ((List.drop 0 (List.take (Int.toNat v17.1) v11)) ++ v12))) then
  (Option.bind (disk_Disk_Safe_1 N v24.1 v24.2.1 v24.2.2.1) fun (v26 : Int × Unit) =>
  (bif (decide (v26.1 = v17.1)) then
  (Option.bind (disk_Disk_End_1 N v24.2.2.2.1 v24.2.2.2.2.1 v24.2.2.2.2.2.1) fun (v27 : Int × Unit) =>
  (bif (decide (v27.1 = v17.1)) then
  (Option.bind (disk_Disk_End_2 N v24.1 v24.2.1 v24.2.2.1) fun (v28 : Int × Unit) =>
  (Option.bind (disk_Disk_Cut_1 N (IntKind.wrap .i64 (v28.1 + 1)) v24.1 v24.2.1 v24.2.2.1) fun (v29 : Int × (List UInt8) × Int × Int × Unit) =>
  (bif (decide (v29.1 = 1)) then
  (Option.bind (disk_Disk_Cut_1 N (-1) v29.2.1 v29.2.2.1 v29.2.2.2.1) fun (v30 : Int × (List UInt8) × Int × Int × Unit) =>
  (k0 (decide (v30.1 = 1)) v30.2.1 v30.2.2.1 v30.2.2.2.1))
  else
  (k0 false v29.2.1 v29.2.2.1 v29.2.2.2.1))))
  else
  (k0 false v24.1 v24.2.1 v24.2.2.1)))
  else
  (k0 false v24.1 v24.2.1 v24.2.2.1)))
  else
  (k0 false v24.1 v24.2.1 v24.2.2.1))
  else
  none)
  else
  none)
  else
  (k0 false v24.1 v24.2.1 v24.2.2.1))
  else
  (k0 false v24.1 v24.2.1 v24.2.2.1))
  else
  (k0 false v24.1 v24.2.1 v24.2.2.1))
  else
  (k0 false v24.1 v24.2.1 v24.2.2.1))
  else
  (k0 false v24.1 v24.2.1 v24.2.2.1))
  else
  (k0 false v24.1 v24.2.1 v24.2.2.1))))))))))))

def law06_DiskCuts_cps (N : Nat) (R : Type) (K : Bool → Option R) (v1 : (List UInt8)) (v2 : (List UInt8)) (v3 : Int) : Option R :=
  (Option.bind (disk_New N) fun (v4 : Int × Int × Unit) =>
  (bif (decide (300 < (v1.length : Int))) then
  (Option.bind (law06_alive N) fun (v5 : Bool × Unit) =>
  (K v5.1))
  else
  (bif (decide (300 < (v2.length : Int))) then
  (Option.bind (law06_alive N) fun (v6 : Bool × Unit) =>
  (K v6.1))
  else
  (law06_DiskCuts_j0 N _ (fun (v7 : Bool) (v8 : (List UInt8)) (v9 : Int) (v10 : Int) =>
  (K v7)) v1 v2 v3 v4.1 v4.2.1))))

def law06_DiskCuts (N : Nat) (v1 : (List UInt8)) (v2 : (List UInt8)) (v3 : Int) : Option (Bool × Unit) := law06_DiskCuts_cps N _ (fun a0 => some (a0, ())) v1 v2 v3

/-- What is to be shown of the law DiskCuts. -/
def DiskCuts_Pure : Prop := ∀ x : denA [(.slice .byte), (.slice .byte), (.int .i64)], WfA [(.slice .byte), (.slice .byte), (.int .i64)] x → law06_DiskCuts big x.1 x.2.1 x.2.2.1 = some (true, ())

end
end Go.Proofs.Ytkeejnlicagjiaa.E
