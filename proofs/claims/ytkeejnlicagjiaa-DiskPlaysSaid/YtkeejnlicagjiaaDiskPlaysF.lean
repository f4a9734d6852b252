/-
  The statement DiskPlays of the program is proved: for every input that the row speaks of, the law answers true.
  Conditions: those that the statement's row prints, and no other. This text: pure functions, printed by a program out of the translation.
-/
import Derived.Test.YtkeejnlicagjiaaEvA
set_option linter.unusedVariables false
set_option linter.unusedSimpArgs false
/-! Pure functions, printed by wip/gen out of the translation. -/
namespace Go.Proofs.Ytkeejnlicagjiaa.E
open Go.Ev
noncomputable section
/-! frankpledge/disk.New -/
def disk_New_cps (N : Nat) (R : Type) (K : Int → Int → Option R)  : Option R :=
  (K 0 0)

def disk_New (N : Nat)  : Option (Int × Int × Unit) := disk_New_cps N _ (fun a0 a1 => some (a0, (a1, ()))) 

/-! (*frankpledge/disk.Disk).End -/
def disk_Disk_End_cps (N : Nat) (R : Type) (K : Int → Option R) (v1 : Int) (v2 : Int) : Option R :=
  (K (IntKind.wrap .i64 (v1 + 0)))

def disk_Disk_End (N : Nat) (v1 : Int) (v2 : Int) : Option (Int × Unit) := disk_Disk_End_cps N _ (fun a0 => some (a0, ())) v1 v2

/-! (*frankpledge/disk.Disk).End -/
def disk_Disk_End_1_cps (N : Nat) (R : Type) (K : Int → Option R) (v1 : (List UInt8)) (v2 : Int) (v3 : Int) : Option R :=
  (K (IntKind.wrap .i64 (v2 + (v1.length : Int))))

def disk_Disk_End_1 (N : Nat) (v1 : (List UInt8)) (v2 : Int) (v3 : Int) : Option (Int × Unit) := disk_Disk_End_1_cps N _ (fun a0 => some (a0, ())) v1 v2 v3

/-! (*frankpledge/disk.Disk).Safe -/
def disk_Disk_Safe_cps (N : Nat) (R : Type) (K : Int → Option R) (v1 : (List UInt8)) (v2 : Int) (v3 : Int) : Option R :=
  (K (IntKind.wrap .i64 (v2 + v3)))

def disk_Disk_Safe (N : Nat) (v1 : (List UInt8)) (v2 : Int) (v3 : Int) : Option (Int × Unit) := disk_Disk_Safe_cps N _ (fun a0 => some (a0, ())) v1 v2 v3

/-! bytes.Clone -/
def bytes_Clone_cps (N : Nat) (R : Type) (K : (List UInt8) → Option R) (v1 : (List UInt8)) : Option R :=
  (bif (room 1 (([] : List UInt8).length + v1.length)) then
  (K ([] ++ v1))
  else
  none)

def bytes_Clone (N : Nat) (v1 : (List UInt8)) : Option ((List UInt8) × Unit) := bytes_Clone_cps N _ (fun a0 => some (a0, ())) v1

/-! bytes.Clone -/
def bytes_Clone_1_cps (N : Nat) (R : Type) (K : Option R)  : Option R :=
  K

def bytes_Clone_1 (N : Nat)  : Option (Unit) := bytes_Clone_1_cps N _ (some ()) 

/-! (*frankpledge/disk.Disk).Read -/
def disk_Disk_Read_cps (N : Nat) (R : Type) (K : (List UInt8) → Int → Option R) (v1 : Int) (v2 : Int) (v3 : (List UInt8)) (v4 : Int) (v5 : Int) : Option R :=
  (bif (decide (v1 < v4)) then
  (K [] 61)
  else
  (bif (decide (v2 < v1)) then
  (K [] 61)
  else
  (Option.bind (disk_Disk_End_1 N v3 v4 v5) fun (v6 : Int × Unit) =>
  (bif (decide (v6.1 < v2)) then
  (K [] 61)
  else
  (bif (decide (0 ≤ (IntKind.wrap .i64 (v2 - v4)) ∧ (IntKind.wrap .i64 (v2 - v4)) ≤ ((v3.length : Nat) : Int))) then
  (bif (decide (0 ≤ (IntKind.wrap .i64 (v1 - v4)) ∧ (IntKind.wrap .i64 (v1 - v4)) ≤ (((Int.toNat (IntKind.wrap .i64 (v2 - v4))) : Nat) : Int))) then
  (Option.bind (bytes_Clone N (List.drop (Int.toNat (IntKind.wrap .i64 (v1 - v4))) (List.take (Int.toNat (IntKind.wrap .i64 (v2 - v4))) v3))) fun (v7 : (List UInt8) × Unit) =>
  (K v7.1 0))
  else
  none)
  else
  none)))))

def disk_Disk_Read (N : Nat) (v1 : Int) (v2 : Int) (v3 : (List UInt8)) (v4 : Int) (v5 : Int) : Option ((List UInt8) × Int × Unit) := disk_Disk_Read_cps N _ (fun a0 a1 => some (a0, (a1, ()))) v1 v2 v3 v4 v5

/-! (*frankpledge/frankpledgeref06.Disk).Read -/
def ref06_Disk_Read_cps (N : Nat) (R : Type) (K : (List UInt8) → Int → Option R) (v1 : Int) (v2 : Int) (v3 : (List UInt8)) (v4 : Int) (v5 : Int) (v6 : Int) : Option R :=
  (bif (decide (v1 < v4)) then
  (K [] 61)
  else
  (bif (decide (v2 < v1)) then
  (K [] 61)
  else
  (bif (decide (v5 < v2)) then
  (K [] 61)
  else
  (bif (decide (0 ≤ v2 ∧ v2 ≤ ((v3.length : Nat) : Int))) then
  (bif (decide (0 ≤ v1 ∧ v1 ≤ (((Int.toNat v2) : Nat) : Int))) then
  (bif (room 1 (([] : List UInt8).length + (List.drop (Int.toNat v1) (List.take (Int.toNat v2) v3)).length)) then
  (K ([] ++ (List.drop (Int.toNat v1) (List.take (Int.toNat v2) v3))) 0)
  else
  none)
  else
  none)
  else
  none))))

def ref06_Disk_Read (N : Nat) (v1 : Int) (v2 : Int) (v3 : (List UInt8)) (v4 : Int) (v5 : Int) (v6 : Int) : Option ((List UInt8) × Int × Unit) := ref06_Disk_Read_cps N _ (fun a0 a1 => some (a0, (a1, ()))) v1 v2 v3 v4 v5 v6

/-! frankpledge/disk.round -/
def disk_round_cps (N : Nat) (R : Type) (K : Int → Option R) (v1 : Int) (v2 : Int) : Option R :=
  (bif (decide (v1 < 0)) then
  (bif (decide (v2 = 0)) then
  none
  else
  (K (Int.tmod (IntKind.wrap .i64 (0 - (IntKind.wrap .i64 (v1 + 1)))) v2)))
  else
  (bif (decide (v2 = 0)) then
  none
  else
  (K (Int.tmod v1 v2))))

def disk_round (N : Nat) (v1 : Int) (v2 : Int) : Option (Int × Unit) := disk_round_cps N _ (fun a0 => some (a0, ())) v1 v2

/-! frankpledge/frankpledgeref06.Pick -/
def ref06_Pick_cps (N : Nat) (R : Type) (K : Int → Option R) (v1 : Int) (v2 : Int) : Option R :=
  (bif (decide (v1 < 0)) then
  (bif (decide (v2 = 0)) then
  none
  else
  (K (Int.tmod (IntKind.wrap .i64 (0 - (IntKind.wrap .i64 (v1 + 1)))) v2)))
  else
  (bif (decide (v2 = 0)) then
  none
  else
  (K (Int.tmod v1 v2))))

def ref06_Pick (N : Nat) (v1 : Int) (v2 : Int) : Option (Int × Unit) := ref06_Pick_cps N _ (fun a0 => some (a0, ())) v1 v2

/-! (*frankpledge/frankpledgeref06.Disk).Append -/
def ref06_Disk_Append_1_cps (N : Nat) (R : Type) (K : Int → Int → (List UInt8) → Int → Int → Int → Option R) (v1 : (List UInt8)) (v2 : (List UInt8)) (v3 : Int) (v4 : Int) (v5 : Int) : Option R :=
  (bif (decide (1048576 < (v1.length : Int))) then
  (K 0 62 v2 v3 v4 v5)
  else
  (bif (decide (1048576 < (IntKind.wrap .i64 ((IntKind.wrap .i64 (v4 - v3)) + (v1.length : Int))))) then
  (K 0 62 v2 v3 v4 v5)
  else
  (bif (decide (0 ≤ v4 ∧ v4 ≤ ((v2.length : Nat) : Int))) then
  (bif (room 1 (([] : List UInt8).length + (List.drop 0 (List.take (Int.toNat v4) v2)).length)) then
  (bif (room 1 (([] ++ (List.drop 0 (List.take (Int.toNat v4) v2))).length + v1.length)) then
  (K v4 0 (([] ++ (List.drop 0 (List.take (Int.toNat v4) v2))) ++ v1) v3 (IntKind.wrap .i64 (v4 + (v1.length : Int))) v5)
  else
  none)
  else
  none)
  else
  none)))

def ref06_Disk_Append_1 (N : Nat) (v1 : (List UInt8)) (v2 : (List UInt8)) (v3 : Int) (v4 : Int) (v5 : Int) : Option (Int × Int × (List UInt8) × Int × Int × Int × Unit) := ref06_Disk_Append_1_cps N _ (fun a0 a1 a2 a3 a4 a5 => some (a0, (a1, (a2, (a3, (a4, (a5, ()))))))) v1 v2 v3 v4 v5

/-! (*frankpledge/frankpledgeref06.Disk).Sync -/
def ref06_Disk_Sync_1_cps (N : Nat) (R : Type) (K : Int → (List UInt8) → Int → Int → Int → Option R) (v1 : (List UInt8)) (v2 : Int) (v3 : Int) (v4 : Int) : Option R :=
  (K 0 v1 v2 v3 v3)

def ref06_Disk_Sync_1 (N : Nat) (v1 : (List UInt8)) (v2 : Int) (v3 : Int) (v4 : Int) : Option (Int × (List UInt8) × Int × Int × Int × Unit) := ref06_Disk_Sync_1_cps N _ (fun a0 a1 a2 a3 a4 => some (a0, (a1, (a2, (a3, (a4, ())))))) v1 v2 v3 v4

/-! (*frankpledge/frankpledgeref06.Disk).Drop -/
def ref06_Disk_Drop_1_cps (N : Nat) (R : Type) (K : Int → (List UInt8) → Int → Int → Int → Option R) (v1 : Int) (v2 : (List UInt8)) (v3 : Int) (v4 : Int) (v5 : Int) : Option R :=
  (bif (decide (v1 < v3)) then
  (K 1 v2 v3 v4 v5)
  else
  (bif (decide (v5 < v1)) then
  (K 1 v2 v3 v4 v5)
  else
  (K 0 v2 v1 v4 v5)))

def ref06_Disk_Drop_1 (N : Nat) (v1 : Int) (v2 : (List UInt8)) (v3 : Int) (v4 : Int) (v5 : Int) : Option (Int × (List UInt8) × Int × Int × Int × Unit) := ref06_Disk_Drop_1_cps N _ (fun a0 a1 a2 a3 a4 => some (a0, (a1, (a2, (a3, (a4, ())))))) v1 v2 v3 v4 v5

/-! (*frankpledge/frankpledgeref06.Disk).Cut -/
def ref06_Disk_Cut_1_cps (N : Nat) (R : Type) (K : Int → (List UInt8) → Int → Int → Int → Option R) (v1 : Int) (v2 : (List UInt8)) (v3 : Int) (v4 : Int) (v5 : Int) : Option R :=
  (bif (decide (v1 < v3)) then
  (K 1 v2 v3 v4 v5)
  else
  (bif (decide (v4 < v1)) then
  (K 1 v2 v3 v4 v5)
  else
  (K 0 v2 v3 v1 v1)))

def ref06_Disk_Cut_1 (N : Nat) (v1 : Int) (v2 : (List UInt8)) (v3 : Int) (v4 : Int) (v5 : Int) : Option (Int × (List UInt8) × Int × Int × Int × Unit) := ref06_Disk_Cut_1_cps N _ (fun a0 a1 a2 a3 a4 => some (a0, (a1, (a2, (a3, (a4, ())))))) v1 v2 v3 v4 v5

/-! (*frankpledge/disk.Disk).Begin -/
def disk_Disk_Begin_1_cps (N : Nat) (R : Type) (K : Int → Option R) (v1 : (List UInt8)) (v2 : Int) (v3 : Int) : Option R :=
  (K v2)

def disk_Disk_Begin_1 (N : Nat) (v1 : (List UInt8)) (v2 : Int) (v3 : Int) : Option (Int × Unit) := disk_Disk_Begin_1_cps N _ (fun a0 => some (a0, ())) v1 v2 v3

/-! (*frankpledge/disk.Disk).End -/
def disk_Disk_End_2_cps (N : Nat) (R : Type) (K : Int → Option R) (v1 : (List UInt8)) (v2 : Int) (v3 : Int) : Option R :=
  (K (IntKind.wrap .i64 (v2 + (v1.length : Int))))

def disk_Disk_End_2 (N : Nat) (v1 : (List UInt8)) (v2 : Int) (v3 : Int) : Option (Int × Unit) := disk_Disk_End_2_cps N _ (fun a0 => some (a0, ())) v1 v2 v3

/-! (*frankpledge/disk.Disk).Safe -/
def disk_Disk_Safe_2_cps (N : Nat) (R : Type) (K : Int → Option R) (v1 : (List UInt8)) (v2 : Int) (v3 : Int) : Option R :=
  (K (IntKind.wrap .i64 (v2 + v3)))

def disk_Disk_Safe_2 (N : Nat) (v1 : (List UInt8)) (v2 : Int) (v3 : Int) : Option (Int × Unit) := disk_Disk_Safe_2_cps N _ (fun a0 => some (a0, ())) v1 v2 v3

/-! (*frankpledge/disk.Disk).Read -/
def disk_Disk_Read_2_cps (N : Nat) (R : Type) (K : (List UInt8) → Int → Option R) (v1 : Int) (v2 : Int) (v3 : (List UInt8)) (v4 : Int) (v5 : Int) : Option R :=
  (bif (decide (v1 < v4)) then
  (K [] 61)
  else
  (bif (decide (v2 < v1)) then
  (K [] 61)
  else
  (Option.bind (disk_Disk_End_2 N v3 v4 v5) fun (v6 : Int × Unit) =>
  (bif (decide (v6.1 < v2)) then
  (K [] 61)
  else
  (bif (decide (0 ≤ (IntKind.wrap .i64 (v2 - v4)) ∧ (IntKind.wrap .i64 (v2 - v4)) ≤ ((v3.length : Nat) : Int))) then
  (bif (decide (0 ≤ (IntKind.wrap .i64 (v1 - v4)) ∧ (IntKind.wrap .i64 (v1 - v4)) ≤ (((Int.toNat (IntKind.wrap .i64 (v2 - v4))) : Nat) : Int))) then
  (Option.bind (bytes_Clone N (List.drop (Int.toNat (IntKind.wrap .i64 (v1 - v4))) (List.take (Int.toNat (IntKind.wrap .i64 (v2 - v4))) v3))) fun (v7 : (List UInt8) × Unit) =>
  (K v7.1 0))
  else
  none)
  else
  none)))))

def disk_Disk_Read_2 (N : Nat) (v1 : Int) (v2 : Int) (v3 : (List UInt8)) (v4 : Int) (v5 : Int) : Option ((List UInt8) × Int × Unit) := disk_Disk_Read_2_cps N _ (fun a0 a1 => some (a0, (a1, ()))) v1 v2 v3 v4 v5

/-! (*frankpledge/frankpledgeref06.Disk).Power -/
def ref06_Disk_Power_1_cps (N : Nat) (R : Type) (K : (List UInt8) → Int → Int → Int → (List UInt8) → Int → Int → Int → Option R) (v1 : Int) (v2 : (List UInt8)) (v3 : Int) (v4 : Int) (v5 : Int) : Option R :=
  (Option.bind (ref06_Pick N v1 (IntKind.wrap .i64 ((IntKind.wrap .i64 (v4 - v5)) + 1))) fun (v6 : Int × Unit) =>
  (bif (decide (0 ≤ (IntKind.wrap .i64 (v5 + v6.1)) ∧ (IntKind.wrap .i64 (v5 + v6.1)) ≤ ((v2.length : Nat) : Int))) then
  (bif (room 1 (([] : List UInt8).length + (List.drop 0 (List.take (Int.toNat (IntKind.wrap .i64 (v5 + v6.1))) v2)).length)) then
  (K v2 v3 v4 v5 ([] ++ (List.drop 0 (List.take (Int.toNat (IntKind.wrap .i64 (v5 + v6.1))) v2))) v3 (IntKind.wrap .i64 (v5 + v6.1)) (IntKind.wrap .i64 (v5 + v6.1)))
  else
  none)
  else
  none))

def ref06_Disk_Power_1 (N : Nat) (v1 : Int) (v2 : (List UInt8)) (v3 : Int) (v4 : Int) (v5 : Int) : Option ((List UInt8) × Int × Int × Int × (List UInt8) × Int × Int × Int × Unit) := ref06_Disk_Power_1_cps N _ (fun a0 a1 a2 a3 a4 a5 a6 a7 => some (a0, (a1, (a2, (a3, (a4, (a5, (a6, (a7, ()))))))))) v1 v2 v3 v4 v5

/-! (*frankpledge/disk.Disk).Append -/
def disk_Disk_Append_2_cps (N : Nat) (R : Type) (K : Int → Int → (List UInt8) → Int → Int → (List UInt8) → Option R) (v1 : (List UInt8)) (v2 : Int) (v3 : Int) (v4 : (List UInt8)) : Option R :=
  (bif (decide ((IntKind.wrap .i64 (1048576 - (v1.length : Int))) < (v4.length : Int))) then
  (K 0 62 v1 v2 v3 v4)
  else
  (Option.bind (disk_Disk_End_2 N v1 v2 v3) fun (v5 : Int × Unit) =>
  (bif (room 1 (v1.length + v4.length)) then
  (K v5.1 0 (v1 ++ v4) v2 v3 v4)
  else
  none)))

def disk_Disk_Append_2 (N : Nat) (v1 : (List UInt8)) (v2 : Int) (v3 : Int) (v4 : (List UInt8)) : Option (Int × Int × (List UInt8) × Int × Int × (List UInt8) × Unit) := disk_Disk_Append_2_cps N _ (fun a0 a1 a2 a3 a4 a5 => some (a0, (a1, (a2, (a3, (a4, (a5, ()))))))) v1 v2 v3 v4

/-! (*frankpledge/disk.Disk).Sync -/
def disk_Disk_Sync_2_cps (N : Nat) (R : Type) (K : Int → (List UInt8) → Int → Int → Option R) (v1 : (List UInt8)) (v2 : Int) (v3 : Int) : Option R :=
  (K 0 v1 v2 (v1.length : Int))

def disk_Disk_Sync_2 (N : Nat) (v1 : (List UInt8)) (v2 : Int) (v3 : Int) : Option (Int × (List UInt8) × Int × Int × Unit) := disk_Disk_Sync_2_cps N _ (fun a0 a1 a2 a3 => some (a0, (a1, (a2, (a3, ()))))) v1 v2 v3

/-! (*frankpledge/disk.Disk).Drop -/
def disk_Disk_Drop_2_cps (N : Nat) (R : Type) (K : Int → (List UInt8) → Int → Int → Option R) (v1 : Int) (v2 : (List UInt8)) (v3 : Int) (v4 : Int) : Option R :=
  (bif (decide (v1 < v3)) then
  (K 1 v2 v3 v4)
  else
  (Option.bind (disk_Disk_Safe_2 N v2 v3 v4) fun (v5 : Int × Unit) =>
  (bif (decide (v5.1 < v1)) then
  (K 1 v2 v3 v4)
  else
  (bif (decide (0 ≤ (IntKind.wrap .i64 (v1 - v3)) ∧ (IntKind.wrap .i64 (v1 - v3)) ≤ ((v2.length : Nat) : Int))) then
  (Option.bind (bytes_Clone N (List.drop (Int.toNat (IntKind.wrap .i64 (v1 - v3))) (List.take v2.length v2))) fun (v6 : (List UInt8) × Unit) =>
  (K 0 v6.1 v1 (IntKind.wrap .i64 (v4 - (IntKind.wrap .i64 (v1 - v3))))))
  else
  none))))

def disk_Disk_Drop_2 (N : Nat) (v1 : Int) (v2 : (List UInt8)) (v3 : Int) (v4 : Int) : Option (Int × (List UInt8) × Int × Int × Unit) := disk_Disk_Drop_2_cps N _ (fun a0 a1 a2 a3 => some (a0, (a1, (a2, (a3, ()))))) v1 v2 v3 v4

/-! (*frankpledge/disk.Disk).Cut -/
def disk_Disk_Cut_2_cps (N : Nat) (R : Type) (K : Int → (List UInt8) → Int → Int → Option R) (v1 : Int) (v2 : (List UInt8)) (v3 : Int) (v4 : Int) : Option R :=
  (bif (decide (v1 < v3)) then
  (K 1 v2 v3 v4)
  else
  (Option.bind (disk_Disk_End_2 N v2 v3 v4) fun (v5 : Int × Unit) =>
  (bif (decide (v5.1 < v1)) then
  (K 1 v2 v3 v4)
  else
  (bif (decide ((IntKind.wrap .i64 (v1 - v3)) = (IntKind.wrap .i64 (v1 - v3)))) then
  (bif (decide (0 ≤ (IntKind.wrap .i64 (v1 - v3)) ∧ (IntKind.wrap .i64 (v1 - v3)) ≤ ((v2.length : Nat) : Int))) then
  (K 0 (List.drop 0 (List.take (Int.toNat (IntKind.wrap .i64 (v1 - v3))) v2)) v3 (IntKind.wrap .i64 (v1 - v3)))
  else
  none)
  else
  none))))

def disk_Disk_Cut_2 (N : Nat) (v1 : Int) (v2 : (List UInt8)) (v3 : Int) (v4 : Int) : Option (Int × (List UInt8) × Int × Int × Unit) := disk_Disk_Cut_2_cps N _ (fun a0 a1 a2 a3 => some (a0, (a1, (a2, (a3, ()))))) v1 v2 v3 v4

/-! (*frankpledge/disk.Disk).Power -/
def disk_Disk_Power_2_cps (N : Nat) (R : Type) (K : (List UInt8) → Int → Int → (List UInt8) → Int → Int → Option R) (v1 : Int) (v2 : (List UInt8)) (v3 : Int) (v4 : Int) : Option R :=
  (Option.bind (disk_round N v1 (IntKind.wrap .i64 ((IntKind.wrap .i64 ((v2.length : Int) - v4)) + 1))) fun (v5 : Int × Unit) =>
  (bif (decide (0 ≤ (IntKind.wrap .i64 (v4 + v5.1)) ∧ (IntKind.wrap .i64 (v4 + v5.1)) ≤ ((v2.length : Nat) : Int))) then
  (Option.bind (bytes_Clone N (List.drop 0 (List.take (Int.toNat (IntKind.wrap .i64 (v4 + v5.1))) v2))) fun (v6 : (List UInt8) × Unit) =>
  (K v2 v3 v4 v6.1 v3 (IntKind.wrap .i64 (v4 + v5.1))))
  else
  none))

def disk_Disk_Power_2 (N : Nat) (v1 : Int) (v2 : (List UInt8)) (v3 : Int) (v4 : Int) : Option ((List UInt8) × Int × Int × (List UInt8) × Int × Int × Unit) := disk_Disk_Power_2_cps N _ (fun a0 a1 a2 a3 a4 a5 => some (a0, (a1, (a2, (a3, (a4, (a5, ()))))))) v1 v2 v3 v4

/-! (*frankpledge/disk.Disk).Append -/
def disk_Disk_Append_3_cps (N : Nat) (R : Type) (K : Int → Int → (List UInt8) → Int → Int → Option R) (v1 : (List UInt8)) (v2 : Int) (v3 : Int) : Option R :=
  (bif (decide (1048576 < (v1.length : Int))) then
  (K 0 62 [] v2 v3)
  else
  (Option.bind (disk_Disk_End N v2 v3) fun (v4 : Int × Unit) =>
  (bif (room 1 v1.length) then
  (K v4.1 0 v1 v2 v3)
  else
  none)))

def disk_Disk_Append_3 (N : Nat) (v1 : (List UInt8)) (v2 : Int) (v3 : Int) : Option (Int × Int × (List UInt8) × Int × Int × Unit) := disk_Disk_Append_3_cps N _ (fun a0 a1 a2 a3 a4 => some (a0, (a1, (a2, (a3, (a4, ())))))) v1 v2 v3

/-! (*frankpledge/disk.Disk).Append -/
def disk_Disk_Append_4_cps (N : Nat) (R : Type) (K : Int → Int → (List UInt8) → Int → Int → Option R) (v1 : (List UInt8)) (v2 : (List UInt8)) (v3 : Int) (v4 : Int) : Option R :=
  (bif (decide ((IntKind.wrap .i64 (1048576 - (v2.length : Int))) < (v1.length : Int))) then
  (K 0 62 v2 v3 v4)
  else
  (Option.bind (disk_Disk_End_1 N v2 v3 v4) fun (v5 : Int × Unit) =>
  (bif (room 1 (v2.length + v1.length)) then
  (K v5.1 0 (v2 ++ v1) v3 v4)
  else
  none)))

def disk_Disk_Append_4 (N : Nat) (v1 : (List UInt8)) (v2 : (List UInt8)) (v3 : Int) (v4 : Int) : Option (Int × Int × (List UInt8) × Int × Int × Unit) := disk_Disk_Append_4_cps N _ (fun a0 a1 a2 a3 a4 => some (a0, (a1, (a2, (a3, (a4, ())))))) v1 v2 v3 v4

/-! frankpledge/frankpledgelaw06.alive -/
def law06_alive_cps (N : Nat) (R : Type) (K : Bool → Option R)  : Option R :=
  (Option.bind (disk_New N) fun (v1 : Int × Int × Unit) =>
  (Option.bind (disk_Disk_Append_3 N [97, 98, 99] v1.1 v1.2.1) fun (v2 : Int × Int × (List UInt8) × Int × Int × Unit) =>
  (Option.bind (disk_Disk_Append_4 N [100, 101] v2.2.2.1 v2.2.2.2.1 v2.2.2.2.2.1) fun (v3 : Int × Int × (List UInt8) × Int × Int × Unit) =>
  (Option.bind (disk_Disk_Read N 2 4 v3.2.2.1 v3.2.2.2.1 v3.2.2.2.2.1) fun (v4 : (List UInt8) × Int × Unit) =>
  (bif (decide (v2.2.1 = 0)) then
  (bif (decide (v3.2.1 = 0)) then
  (bif (decide (v4.2.1 = 0)) then
  (bif (decide (v2.1 = 0)) then
  (bif (decide (v3.1 = 3)) then
  (bif (decide (v4.1 = [99, 100])) then
  (Option.bind (disk_Disk_End_1 N v3.2.2.1 v3.2.2.2.1 v3.2.2.2.2.1) fun (v5 : Int × Unit) =>
  (bif (decide (v5.1 = 5)) then
  (Option.bind (disk_Disk_Safe N v3.2.2.1 v3.2.2.2.1 v3.2.2.2.2.1) fun (v6 : Int × Unit) =>
  (K (decide (v6.1 = 0))))
  else
  (K false)))
  else
  (K false))
  else
  (K false))
  else
  (K false))
  else
  (K false))
  else
  (K false))
  else
  (K false))))))

def law06_alive (N : Nat)  : Option (Bool × Unit) := law06_alive_cps N _ (fun a0 => some (a0, ())) 

/-! frankpledge/frankpledgelaw06.DiskPlays -/
def law06_DiskPlays_r4 (N : Nat) (R : Type) (v153 : (List UInt8)) (v154 : Int) (v155 : Int) (v156 : (List UInt8)) (v157 : Int) (v158 : Int) (v159 : Int) (v160 : Int) (v161 : Int) (v162 : Int) (v163 : (List UInt8)) (k0 : (List (Int × (Int × (Int × ((List UInt8) × Unit))))) → Int → Bool → (List UInt8) → Int → Int → (List UInt8) → Int → Int → Int → Option R) (v151 : (List (Int × (Int × (Int × ((List UInt8) × Unit)))))) (v152 : Int) : Option R :=
  (Option.bind (disk_Disk_Cut_2 N v161 v153 v154 v155) fun (v164 : Int × (List UInt8) × Int × Int × Unit) =>
  (Option.bind (ref06_Disk_Cut_1 N v161 v156 v157 v158 v159) fun (v165 : Int × (List UInt8) × Int × Int × Int × Unit) =>
  (k0 v151 v152 (decide (v164.1 = v165.1)) v164.2.1 v164.2.2.1 v164.2.2.2.1 v165.2.1 v165.2.2.1 v165.2.2.2.1 v165.2.2.2.2.1)))

def law06_DiskPlays_r3 (N : Nat) (R : Type) (v138 : (List UInt8)) (v139 : Int) (v140 : Int) (v141 : (List UInt8)) (v142 : Int) (v143 : Int) (v144 : Int) (v145 : Int) (v146 : Int) (v147 : Int) (v148 : (List UInt8)) (k0 : (List (Int × (Int × (Int × ((List UInt8) × Unit))))) → Int → Bool → (List UInt8) → Int → Int → (List UInt8) → Int → Int → Int → Option R) (v136 : (List (Int × (Int × (Int × ((List UInt8) × Unit)))))) (v137 : Int) : Option R :=
  (Option.bind (disk_Disk_Drop_2 N v146 v138 v139 v140) fun (v149 : Int × (List UInt8) × Int × Int × Unit) =>
  (Option.bind (ref06_Disk_Drop_1 N v146 v141 v142 v143 v144) fun (v150 : Int × (List UInt8) × Int × Int × Int × Unit) =>
  (k0 v136 v137 (decide (v149.1 = v150.1)) v149.2.1 v149.2.2.1 v149.2.2.2.1 v150.2.1 v150.2.2.1 v150.2.2.2.1 v150.2.2.2.2.1)))

def law06_DiskPlays_j2 (N : Nat) (R : Type) (v124 : (List UInt8)) (v125 : Int) (v126 : Int) (v127 : (List UInt8)) (v128 : Int) (v129 : Int) (v130 : Int) (k0 : (List (Int × (Int × (Int × ((List UInt8) × Unit))))) → Int → Option R) (k1 : (List (Int × (Int × (Int × ((List UInt8) × Unit))))) → Bool → Int → Option R) (v121 : (List (Int × (Int × (Int × ((List UInt8) × Unit)))))) (v122 : Int) (v123 : Bool) : Option R :=
  (bif (!v123) then
  (k1 v121 false v122)
  else
  (Option.bind (disk_Disk_Begin_1 N v124 v125 v126) fun (v131 : Int × Unit) =>
  (bif (!(decide (v131.1 = v128))) then
  (k1 v121 false v122)
  else
  (Option.bind (disk_Disk_End_2 N v124 v125 v126) fun (v132 : Int × Unit) =>
  (bif (!(decide (v132.1 = v129))) then
  (k1 v121 false v122)
  else
  (Option.bind (disk_Disk_Safe_2 N v124 v125 v126) fun (v133 : Int × Unit) =>
  (bif (!(decide (v133.1 = v130))) then
  (k1 v121 false v122)
  else
  (Option.bind (disk_Disk_Read_2 N v128 v129 v124 v125 v126) fun (v134 : (List UInt8) × Int × Unit) =>
  (Option.bind (ref06_Disk_Read N v128 v129 v127 v128 v129 v130) fun (v135 : (List UInt8) × Int × Unit) =>
  (bif (!(decide (v134.2.1 = 0))) then
  (k1 v121 false v122)
  else
  (bif (!(decide (v134.1 = v135.1))) then
  (k1 v121 false v122)
  else
  (k0 v121 v122))))))))))))

def law06_DiskPlays_l1B (N : Nat) (R : Type) (v111 : (List UInt8)) (v112 : Int) (v113 : Int) (v114 : (List UInt8)) (v115 : Int) (v116 : Int) (v117 : Int) (rec : (List (Int × (Int × (Int × ((List UInt8) × Unit))))) → Int → Bool → Int → (List UInt8) → Option R) (k0 : (List (Int × (Int × (Int × ((List UInt8) × Unit))))) → Int → Bool → Option R) (v107 : (List (Int × (Int × (Int × ((List UInt8) × Unit)))))) (v108 : Int) (v109 : Bool) (v110 : Int) (v118 : (List UInt8)) : Option R :=
  (bif (decide (v110 < (v118.length : Int))) then
  (Option.bind (nth v118 v110) fun (_ : UInt8) =>
  (Option.bind (v118[(Int.toNat v110)]?) fun (v119 : UInt8) =>
  (Option.bind (nth v118 v110) fun (_ : UInt8) =>
  (Option.bind (v118[(Int.toNat v110)]?) fun (v120 : UInt8) =>
  (rec v107 v108 v109 (IntKind.wrap .i64 (v110 + 1)) (List.set v118 (Int.toNat v110) (UInt8.ofNat (Int.toNat (Ev.bits .xor .u8 (v119.toNat : Int) 255)))))))))
  else
  (k0 v107 v108 v109))

def law06_DiskPlays_l1 (N : Nat) (R : Type) (v111 : (List UInt8)) (v112 : Int) (v113 : Int) (v114 : (List UInt8)) (v115 : Int) (v116 : Int) (v117 : Int) (k0 : (List (Int × (Int × (Int × ((List UInt8) × Unit))))) → Int → Bool → Option R) : Nat → (List (Int × (Int × (Int × ((List UInt8) × Unit))))) → Int → Bool → Int → (List UInt8) → Option R
  | 0 => fun _ _ _ _ _ => none
  | n + 1 => law06_DiskPlays_l1B N R v111 v112 v113 v114 v115 v116 v117 (law06_DiskPlays_l1 N R v111 v112 v113 v114 v115 v116 v117 k0 n) k0

def law06_DiskPlays_l0B (N : Nat) (R : Type) (rec : (List (Int × (Int × (Int × ((List UInt8) × Unit))))) → Int → (List UInt8) → Int → Int → (List UInt8) → Int → Int → Int → Option R) (k0 : Option R) (k1 : Bool → Option R) (v5 : (List (Int × (Int × (Int × ((List UInt8) × Unit)))))) (v6 : Int) (v7 : (List UInt8)) (v8 : Int) (v9 : Int) (v10 : (List UInt8)) (v11 : Int) (v12 : Int) (v13 : Int) : Option R :=
  (bif (decide (v6 < (v5.length : Int))) then
  (bif (decide (v6 < 60)) then
  (Option.bind (nth v5 v6) fun (v14 : (Int × (Int × (Int × ((List UInt8) × Unit))))) =>
  (bif (decide (300 < (v14.2.2.2.1.length : Int))) then
  (rec v5 (IntKind.wrap .i64 (v6 + 1)) v7 v8 v9 v10 v11 v12 v13)
  else
  (bif (decide (v14.1 = 1)) then
  (bif (room 1 (([] : (List UInt8)).length + v14.2.2.2.1.length)) then
  (Option.bind (disk_Disk_Append_2 N v7 v8 v9 (([] : (List UInt8)) ++ v14.2.2.2.1)) fun (v15 : Int × Int × (List UInt8) × Int × Int × (List UInt8) × Unit) =>
  (Option.bind (ref06_Disk_Append_1 N v14.2.2.2.1 v10 v11 v12 v13) fun (v16 : Int × Int × (List UInt8) × Int × Int × Int × Unit) =>
  (bif (decide (v15.1 = v16.1)) then
  (law06_DiskPlays_l1 N _ v15.2.2.1 v15.2.2.2.1 v15.2.2.2.2.1 v16.2.2.1 v16.2.2.2.1 v16.2.2.2.2.1 v16.2.2.2.2.2.1 (fun (v17 : (List (Int × (Int × (Int × ((List UInt8) × Unit)))))) (v18 : Int) (v19 : Bool) =>
  (law06_DiskPlays_j2 N _ v15.2.2.1 v15.2.2.2.1 v15.2.2.2.2.1 v16.2.2.1 v16.2.2.2.1 v16.2.2.2.2.1 v16.2.2.2.2.2.1 (fun (v20 : (List (Int × (Int × (Int × ((List UInt8) × Unit)))))) (v21 : Int) =>
  (rec v20 (IntKind.wrap .i64 (v21 + 1)) v15.2.2.1 v15.2.2.2.1 v15.2.2.2.2.1 v16.2.2.1 v16.2.2.2.1 v16.2.2.2.2.1 v16.2.2.2.2.2.1)) (fun (v22 : (List (Int × (Int × (Int × ((List UInt8) × Unit)))))) (v23 : Bool) (v24 : Int) =>
  (k1 v23)) v17 v18 v19)) N v5 v6 (decide (v15.2.1 = v16.2.1)) 0 v15.2.2.2.2.2.1)
  else
  (law06_DiskPlays_l1 N _ v15.2.2.1 v15.2.2.2.1 v15.2.2.2.2.1 v16.2.2.1 v16.2.2.2.1 v16.2.2.2.2.1 v16.2.2.2.2.2.1 (fun (v25 : (List (Int × (Int × (Int × ((List UInt8) × Unit)))))) (v26 : Int) (v27 : Bool) =>
  (law06_DiskPlays_j2 N _ v15.2.2.1 v15.2.2.2.1 v15.2.2.2.2.1 v16.2.2.1 v16.2.2.2.1 v16.2.2.2.2.1 v16.2.2.2.2.2.1 (fun (v28 : (List (Int × (Int × (Int × ((List UInt8) × Unit)))))) (v29 : Int) =>
  (rec v28 (IntKind.wrap .i64 (v29 + 1)) v15.2.2.1 v15.2.2.2.1 v15.2.2.2.2.1 v16.2.2.1 v16.2.2.2.1 v16.2.2.2.2.1 v16.2.2.2.2.2.1)) (fun (v30 : (List (Int × (Int × (Int × ((List UInt8) × Unit)))))) (v31 : Bool) (v32 : Int) =>
  (k1 v31)) v25 v26 v27)) N v5 v6 false 0 v15.2.2.2.2.2.1))))
  else
  none)
  else
  (bif (decide (v14.1 = 2)) then
  (Option.bind (disk_Disk_Sync_2 N v7 v8 v9) fun (v33 : Int × (List UInt8) × Int × Int × Unit) =>
  (Option.bind (ref06_Disk_Sync_1 N v10 v11 v12 v13) fun (v34 : Int × (List UInt8) × Int × Int × Int × Unit) =>
  (law06_DiskPlays_j2 N _ v33.2.1 v33.2.2.1 v33.2.2.2.1 v34.2.1 v34.2.2.1 v34.2.2.2.1 v34.2.2.2.2.1 (fun (v35 : (List (Int × (Int × (Int × ((List UInt8) × Unit)))))) (v36 : Int) =>
  (rec v35 (IntKind.wrap .i64 (v36 + 1)) v33.2.1 v33.2.2.1 v33.2.2.2.1 v34.2.1 v34.2.2.1 v34.2.2.2.1 v34.2.2.2.2.1)) (fun (v37 : (List (Int × (Int × (Int × ((List UInt8) × Unit)))))) (v38 : Bool) (v39 : Int) =>
  (k1 v38)) v5 v6 (decide (v33.1 = v34.1)))))
  else
  (bif (decide (v14.1 = 3)) then
  (law06_DiskPlays_r3 N _ v7 v8 v9 v10 v11 v12 v13 v14.1 v14.2.1 v14.2.2.1 v14.2.2.2.1 (fun (v40 : (List (Int × (Int × (Int × ((List UInt8) × Unit)))))) (v41 : Int) (v42 : Bool) (v43 : (List UInt8)) (v44 : Int) (v45 : Int) (v46 : (List UInt8)) (v47 : Int) (v48 : Int) (v49 : Int) =>
  (law06_DiskPlays_j2 N _ v43 v44 v45 v46 v47 v48 v49 (fun (v50 : (List (Int × (Int × (Int × ((List UInt8) × Unit)))))) (v51 : Int) =>
  (rec v50 (IntKind.wrap .i64 (v51 + 1)) v43 v44 v45 v46 v47 v48 v49)) (fun (v52 : (List (Int × (Int × (Int × ((List UInt8) × Unit)))))) (v53 : Bool) (v54 : Int) =>
  (k1 v53)) v40 v41 v42)) v5 v6)
  else
  (bif (decide (v14.1 = 4)) then
  (law06_DiskPlays_r4 N _ v7 v8 v9 v10 v11 v12 v13 v14.1 v14.2.1 v14.2.2.1 v14.2.2.2.1 (fun (v55 : (List (Int × (Int × (Int × ((List UInt8) × Unit)))))) (v56 : Int) (v57 : Bool) (v58 : (List UInt8)) (v59 : Int) (v60 : Int) (v61 : (List UInt8)) (v62 : Int) (v63 : Int) (v64 : Int) =>
  (law06_DiskPlays_j2 N _ v58 v59 v60 v61 v62 v63 v64 (fun (v65 : (List (Int × (Int × (Int × ((List UInt8) × Unit)))))) (v66 : Int) =>
  (rec v65 (IntKind.wrap .i64 (v66 + 1)) v58 v59 v60 v61 v62 v63 v64)) (fun (v67 : (List (Int × (Int × (Int × ((List UInt8) × Unit)))))) (v68 : Bool) (v69 : Int) =>
  (k1 v68)) v55 v56 v57)) v5 v6)
  else
  (bif (decide (v14.1 = 5)) then
  (Option.bind (disk_Disk_Read_2 N v14.2.1 v14.2.2.1 v7 v8 v9) fun (v70 : (List UInt8) × Int × Unit) =>
  (Option.bind (ref06_Disk_Read N v14.2.1 v14.2.2.1 v10 v11 v12 v13) fun (v71 : (List UInt8) × Int × Unit) =>
  (bif (decide (v70.1 = v71.1)) then
  (law06_DiskPlays_j2 N _ v7 v8 v9 v10 v11 v12 v13 (fun (v72 : (List (Int × (Int × (Int × ((List UInt8) × Unit)))))) (v73 : Int) =>
  (rec v72 (IntKind.wrap .i64 (v73 + 1)) v7 v8 v9 v10 v11 v12 v13)) (fun (v74 : (List (Int × (Int × (Int × ((List UInt8) × Unit)))))) (v75 : Bool) (v76 : Int) =>
  (k1 v75)) v5 v6 (decide (v70.2.1 = v71.2.1)))
  else
  (law06_DiskPlays_j2 N _ v7 v8 v9 v10 v11 v12 v13 (fun (v77 : (List (Int × (Int × (Int × ((List UInt8) × Unit)))))) (v78 : Int) =>
  (rec v77 (IntKind.wrap .i64 (v78 + 1)) v7 v8 v9 v10 v11 v12 v13)) (fun (v79 : (List (Int × (Int × (Int × ((List UInt8) × Unit)))))) (v80 : Bool) (v81 : Int) =>
  (k1 v80)) v5 v6 false))))
  else
  (bif (decide (v14.1 = 6)) then
  (Option.bind (disk_Disk_Power_2 N v14.2.1 v7 v8 v9) fun (v82 : (List UInt8) × Int × Int × (List UInt8) × Int × Int × Unit) =>
  (Option.bind (ref06_Disk_Power_1 N v14.2.1 v10 v11 v12 v13) fun (v83 : (List UInt8) × Int × Int × Int × (List UInt8) × Int × Int × Int × Unit) =>
  (Option.bind (disk_Disk_Read_2 N v83.2.1 v83.2.2.1 v82.1 v82.2.1 v82.2.2.1) fun (v84 : (List UInt8) × Int × Unit) =>
  (Option.bind (ref06_Disk_Read N v83.2.1 v83.2.2.1 v83.1 v83.2.1 v83.2.2.1 v83.2.2.2.1) fun (v85 : (List UInt8) × Int × Unit) =>
  (bif (decide (v84.2.1 = 0)) then
  (bif (decide (v84.1 = v85.1)) then
  (Option.bind (disk_Disk_Safe_2 N v82.1 v82.2.1 v82.2.2.1) fun (v86 : Int × Unit) =>
  (law06_DiskPlays_j2 N _ v82.2.2.2.1 v82.2.2.2.2.1 v82.2.2.2.2.2.1 v83.2.2.2.2.1 v83.2.2.2.2.2.1 v83.2.2.2.2.2.2.1 v83.2.2.2.2.2.2.2.1 (fun (v87 : (List (Int × (Int × (Int × ((List UInt8) × Unit)))))) (v88 : Int) =>
  (rec v87 (IntKind.wrap .i64 (v88 + 1)) v82.2.2.2.1 v82.2.2.2.2.1 v82.2.2.2.2.2.1 v83.2.2.2.2.1 v83.2.2.2.2.2.1 v83.2.2.2.2.2.2.1 v83.2.2.2.2.2.2.2.1)) (fun (v89 : (List (Int × (Int × (Int × ((List UInt8) × Unit)))))) (v90 : Bool) (v91 : Int) =>
  (k1 v90)) v5 v6 (decide (v86.1 = v83.2.2.2.1))))
  else
  (law06_DiskPlays_j2 N _ v82.2.2.2.1 v82.2.2.2.2.1 v82.2.2.2.2.2.1 v83.2.2.2.2.1 v83.2.2.2.2.2.1 v83.2.2.2.2.2.2.1 v83.2.2.2.2.2.2.2.1 (fun (v92 : (List (Int × (Int × (Int × ((List UInt8) × Unit)))))) (v93 : Int) =>
  (rec v92 (IntKind.wrap .i64 (v93 + 1)) v82.2.2.2.1 v82.2.2.2.2.1 v82.2.2.2.2.2.1 v83.2.2.2.2.1 v83.2.2.2.2.2.1 v83.2.2.2.2.2.2.1 v83.2.2.2.2.2.2.2.1)) (fun (v94 : (List (Int × (Int × (Int × ((List UInt8) × Unit)))))) (v95 : Bool) (v96 : Int) =>
  (k1 v95)) v5 v6 false))
  else
  (law06_DiskPlays_j2 N _ v82.2.2.2.1 v82.2.2.2.2.1 v82.2.2.2.2.2.1 v83.2.2.2.2.1 v83.2.2.2.2.2.1 v83.2.2.2.2.2.2.1 v83.2.2.2.2.2.2.2.1 (fun (v97 : (List (Int × (Int × (Int × ((List UInt8) × Unit)))))) (v98 : Int) =>
  (rec v97 (IntKind.wrap .i64 (v98 + 1)) v82.2.2.2.1 v82.2.2.2.2.1 v82.2.2.2.2.2.1 v83.2.2.2.2.1 v83.2.2.2.2.2.1 v83.2.2.2.2.2.2.1 v83.2.2.2.2.2.2.2.1)) (fun (v99 : (List (Int × (Int × (Int × ((List UInt8) × Unit)))))) (v100 : Bool) (v101 : Int) =>
  (k1 v100)) v5 v6 false))))))
  else
  (law06_DiskPlays_j2 N _ v7 v8 v9 v10 v11 v12 v13 (fun (v102 : (List (Int × (Int × (Int × ((List UInt8) × Unit)))))) (v103 : Int) =>
  (rec v102 (IntKind.wrap .i64 (v103 + 1)) v7 v8 v9 v10 v11 v12 v13)) (fun (v104 : (List (Int × (Int × (Int × ((List UInt8) × Unit)))))) (v105 : Bool) (v106 : Int) =>
  (k1 v105)) v5 v6 true)))))))))
  else
  k0)
  else
  k0)

def law06_DiskPlays_l0 (N : Nat) (R : Type) (k0 : Option R) (k1 : Bool → Option R) : Nat → (List (Int × (Int × (Int × ((List UInt8) × Unit))))) → Int → (List UInt8) → Int → Int → (List UInt8) → Int → Int → Int → Option R
  | 0 => fun _ _ _ _ _ _ _ _ _ => none
  | n + 1 => law06_DiskPlays_l0B N R (law06_DiskPlays_l0 N R k0 k1 n) k0 k1

def law06_DiskPlays_cps (N : Nat) (R : Type) (K : Bool → Option R) (v1 : (List (Int × (Int × (Int × ((List UInt8) × Unit)))))) : Option R :=
  (Option.bind (disk_New N) fun (v2 : Int × Int × Unit) =>
  (law06_DiskPlays_l0 N _ ((Option.bind (law06_alive N) fun (v3 : Bool × Unit) =>
  (K v3.1))) (fun (v4 : Bool) =>
  (K v4)) N v1 0 [] v2.1 v2.2.1 [] 0 0 0))

def law06_DiskPlays (N : Nat) (v1 : (List (Int × (Int × (Int × ((List UInt8) × Unit)))))) : Option (Bool × Unit) := law06_DiskPlays_cps N _ (fun a0 => some (a0, ())) v1

/-- What is to be shown of the law DiskPlays. -/
def DiskPlays_Pure : Prop := ∀ x : denA [(.slice (.pair (.int .i64) (.pair (.int .i64) (.pair (.int .i64) (.pair (.slice .byte) .unit)))))], WfA [(.slice (.pair (.int .i64) (.pair (.int .i64) (.pair (.int .i64) (.pair (.slice .byte) .unit)))))] x → law06_DiskPlays big x.1 = some (true, ())

end
end Go.Proofs.Ytkeejnlicagjiaa.E
