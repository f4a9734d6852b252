/-
  The statement DiskOffsets of the program is proved: for every input that the row speaks of, the law answers true.
  Conditions: those that the statement's row prints, and no other. This text: pure functions, printed by a program out of the translation.
-/
import Derived.Test.YtkeejnlicagjiaaEvA
set_option linter.unusedVariables false
set_option linter.unusedSimpArgs false
/-! Pure functions, printed by wip/gen out of the translation. -/
namespace Go.Proofs.Ytkeejnlicagjiaa.E
open Go.Ev
noncomputable section
/-! frankpledge/disk.New -/
def disk_New_cps (N : Nat) (R : Type) (K : Int → Int → Option R)  : Option R :=
  (K 0 0)

def disk_New (N : Nat)  : Option (Int × Int × Unit) := disk_New_cps N _ (fun a0 a1 => some (a0, (a1, ()))) 

/-! (*frankpledge/disk.Disk).End -/
def disk_Disk_End_cps (N : Nat) (R : Type) (K : Int → Option R) (v1 : Int) (v2 : Int) : Option R :=
  (K (IntKind.wrap .i64 (v1 + 0)))

def disk_Disk_End (N : Nat) (v1 : Int) (v2 : Int) : Option (Int × Unit) := disk_Disk_End_cps N _ (fun a0 => some (a0, ())) v1 v2

/-! (*frankpledge/disk.Disk).Append -/
def disk_Disk_Append_cps (N : Nat) (R : Type) (K : Int → Int → (List UInt8) → Int → Int → Option R) (v1 : (List UInt8)) (v2 : Int) (v3 : Int) : Option R :=
  (bif (decide (1048576 < (v1.length : Int))) then
  (K 0 62 [] v2 v3)
  else
  (Option.bind (disk_Disk_End N v2 v3) fun (v4 : Int × Unit) =>
  (bif (room 1 v1.length) then
  (K v4.1 0 v1 v2 v3)
  else
  none)))

def disk_Disk_Append (N : Nat) (v1 : (List UInt8)) (v2 : Int) (v3 : Int) : Option (Int × Int × (List UInt8) × Int × Int × Unit) := disk_Disk_Append_cps N _ (fun a0 a1 a2 a3 a4 => some (a0, (a1, (a2, (a3, (a4, ())))))) v1 v2 v3

/-! (*frankpledge/disk.Disk).End -/
def disk_Disk_End_1_cps (N : Nat) (R : Type) (K : Int → Option R) (v1 : (List UInt8)) (v2 : Int) (v3 : Int) : Option R :=
  (K (IntKind.wrap .i64 (v2 + (v1.length : Int))))

def disk_Disk_End_1 (N : Nat) (v1 : (List UInt8)) (v2 : Int) (v3 : Int) : Option (Int × Unit) := disk_Disk_End_1_cps N _ (fun a0 => some (a0, ())) v1 v2 v3

/-! (*frankpledge/disk.Disk).Append -/
def disk_Disk_Append_1_cps (N : Nat) (R : Type) (K : Int → Int → (List UInt8) → Int → Int → Option R) (v1 : (List UInt8)) (v2 : (List UInt8)) (v3 : Int) (v4 : Int) : Option R :=
  (bif (decide ((IntKind.wrap .i64 (1048576 - (v2.length : Int))) < (v1.length : Int))) then
  (K 0 62 v2 v3 v4)
  else
  (Option.bind (disk_Disk_End_1 N v2 v3 v4) fun (v5 : Int × Unit) =>
  (bif (room 1 (v2.length + v1.length)) then
  (K v5.1 0 (v2 ++ v1) v3 v4)
  else
  none)))

def disk_Disk_Append_1 (N : Nat) (v1 : (List UInt8)) (v2 : (List UInt8)) (v3 : Int) (v4 : Int) : Option (Int × Int × (List UInt8) × Int × Int × Unit) := disk_Disk_Append_1_cps N _ (fun a0 a1 a2 a3 a4 => some (a0, (a1, (a2, (a3, (a4, ())))))) v1 v2 v3 v4

/-! bytes.Clone -/
def bytes_Clone_cps (N : Nat) (R : Type) (K : (List UInt8) → Option R) (v1 : (List UInt8)) : Option R :=
  (bif (room 1 (([] : List UInt8).length + v1.length)) then
  (K ([] ++ v1))
  else
  none)

def bytes_Clone (N : Nat) (v1 : (List UInt8)) : Option ((List UInt8) × Unit) := bytes_Clone_cps N _ (fun a0 => some (a0, ())) v1

/-! bytes.Clone -/
def bytes_Clone_1_cps (N : Nat) (R : Type) (K : Option R)  : Option R :=
  K

def bytes_Clone_1 (N : Nat)  : Option (Unit) := bytes_Clone_1_cps N _ (some ()) 

/-! (*frankpledge/disk.Disk).Read -/
def disk_Disk_Read_cps (N : Nat) (R : Type) (K : (List UInt8) → Int → Option R) (v1 : Int) (v2 : Int) (v3 : (List UInt8)) (v4 : Int) (v5 : Int) : Option R :=
  (bif (decide (v1 < v4)) then
  (K [] 61)
  else
  (bif (decide (v2 < v1)) then
  (K [] 61)
  else
  (Option.bind (disk_Disk_End_1 N v3 v4 v5) fun (v6 : Int × Unit) =>
  (bif (decide (v6.1 < v2)) then
  (K [] 61)
  else
  (bif (decide (0 ≤ (IntKind.wrap .i64 (v2 - v4)) ∧ (IntKind.wrap .i64 (v2 - v4)) ≤ ((v3.length : Nat) : Int))) then
  (bif (decide (0 ≤ (IntKind.wrap .i64 (v1 - v4)) ∧ (IntKind.wrap .i64 (v1 - v4)) ≤ (((Int.toNat (IntKind.wrap .i64 (v2 - v4))) : Nat) : Int))) then
  (Option.bind (bytes_Clone N (List.drop (Int.toNat (IntKind.wrap .i64 (v1 - v4))) (List.take (Int.toNat (IntKind.wrap .i64 (v2 - v4))) v3))) fun (v7 : (List UInt8) × Unit) =>
  (K v7.1 0))
  else
  none)
  else
  none)))))

def disk_Disk_Read (N : Nat) (v1 : Int) (v2 : Int) (v3 : (List UInt8)) (v4 : Int) (v5 : Int) : Option ((List UInt8) × Int × Unit) := disk_Disk_Read_cps N _ (fun a0 a1 => some (a0, (a1, ()))) v1 v2 v3 v4 v5

/-! (*frankpledge/disk.Disk).Safe -/
def disk_Disk_Safe_cps (N : Nat) (R : Type) (K : Int → Option R) (v1 : (List UInt8)) (v2 : Int) (v3 : Int) : Option R :=
  (K (IntKind.wrap .i64 (v2 + v3)))

def disk_Disk_Safe (N : Nat) (v1 : (List UInt8)) (v2 : Int) (v3 : Int) : Option (Int × Unit) := disk_Disk_Safe_cps N _ (fun a0 => some (a0, ())) v1 v2 v3

/-! frankpledge/frankpledgelaw06.alive -/
def law06_alive_cps (N : Nat) (R : Type) (K : Bool → Option R)  : Option R :=
  (Option.bind (disk_New N) fun (v1 : Int × Int × Unit) =>
  (Option.bind (disk_Disk_Append N [97, 98, 99] v1.1 v1.2.1) fun (v2 : Int × Int × (List UInt8) × Int × Int × Unit) =>
  (Option.bind (disk_Disk_Append_1 N [100, 101] v2.2.2.1 v2.2.2.2.1 v2.2.2.2.2.1) fun (v3 : Int × Int × (List UInt8) × Int × Int × Unit) =>
  (Option.bind (disk_Disk_Read N 2 4 v3.2.2.1 v3.2.2.2.1 v3.2.2.2.2.1) fun (v4 : (List UInt8) × Int × Unit) =>
  (bif (decide (v2.2.1 = 0)) then
  (bif (decide (v3.2.1 = 0)) then
  (bif (decide (v4.2.1 = 0)) then
  (bif (decide (v2.1 = 0)) then
  (bif (decide (v3.1 = 3)) then
  (bif (decide (v4.1 = [99, 100])) then
  (Option.bind (disk_Disk_End_1 N v3.2.2.1 v3.2.2.2.1 v3.2.2.2.2.1) fun (v5 : Int × Unit) =>
  (bif (decide (v5.1 = 5)) then
  (Option.bind (disk_Disk_Safe N v3.2.2.1 v3.2.2.2.1 v3.2.2.2.2.1) fun (v6 : Int × Unit) =>
  (K (decide (v6.1 = 0))))
  else
  (K false)))
  else
  (K false))
  else
  (K false))
  else
  (K false))
  else
  (K false))
  else
  (K false))
  else
  (K false))))))

def law06_alive (N : Nat)  : Option (Bool × Unit) := law06_alive_cps N _ (fun a0 => some (a0, ())) 

/-! (*frankpledge/disk.Disk).Sync -/
def disk_Disk_Sync_cps (N : Nat) (R : Type) (K : Int → (List UInt8) → Int → Int → Option R) (v1 : (List UInt8)) (v2 : Int) (v3 : Int) : Option R :=
  (K 0 v1 v2 (v1.length : Int))

def disk_Disk_Sync (N : Nat) (v1 : (List UInt8)) (v2 : Int) (v3 : Int) : Option (Int × (List UInt8) × Int × Int × Unit) := disk_Disk_Sync_cps N _ (fun a0 a1 a2 a3 => some (a0, (a1, (a2, (a3, ()))))) v1 v2 v3

/-! frankpledge/disk.round -/
def disk_round_cps (N : Nat) (R : Type) (K : Int → Option R) (v1 : Int) (v2 : Int) : Option R :=
  (bif (decide (v1 < 0)) then
  (bif (decide (v2 = 0)) then
  none
  else
  (K (Int.tmod (IntKind.wrap .i64 (0 - (IntKind.wrap .i64 (v1 + 1)))) v2)))
  else
  (bif (decide (v2 = 0)) then
  none
  else
  (K (Int.tmod v1 v2))))

def disk_round (N : Nat) (v1 : Int) (v2 : Int) : Option (Int × Unit) := disk_round_cps N _ (fun a0 => some (a0, ())) v1 v2

/-! (*frankpledge/disk.Disk).Power -/
def disk_Disk_Power_cps (N : Nat) (R : Type) (K : (List UInt8) → Int → Int → (List UInt8) → Int → Int → Option R) (v1 : Int) (v2 : (List UInt8)) (v3 : Int) (v4 : Int) : Option R :=
  (Option.bind (disk_round N v1 (IntKind.wrap .i64 ((IntKind.wrap .i64 ((v2.length : Int) - v4)) + 1))) fun (v5 : Int × Unit) =>
  (bif (decide (0 ≤ (IntKind.wrap .i64 (v4 + v5.1)) ∧ (IntKind.wrap .i64 (v4 + v5.1)) ≤ ((v2.length : Nat) : Int))) then
  (Option.bind (bytes_Clone N (List.drop 0 (List.take (Int.toNat (IntKind.wrap .i64 (v4 + v5.1))) v2))) fun (v6 : (List UInt8) × Unit) =>
  (K v2 v3 v4 v6.1 v3 (IntKind.wrap .i64 (v4 + v5.1))))
  else
  none))

def disk_Disk_Power (N : Nat) (v1 : Int) (v2 : (List UInt8)) (v3 : Int) (v4 : Int) : Option ((List UInt8) × Int × Int × (List UInt8) × Int × Int × Unit) := disk_Disk_Power_cps N _ (fun a0 a1 a2 a3 a4 a5 => some (a0, (a1, (a2, (a3, (a4, (a5, ()))))))) v1 v2 v3 v4

/-! frankpledge/frankpledgeref06.Pick -/
def ref06_Pick_cps (N : Nat) (R : Type) (K : Int → Option R) (v1 : Int) (v2 : Int) : Option R :=
  (bif (decide (v1 < 0)) then
  (bif (decide (v2 = 0)) then
  none
  else
  (K (Int.tmod (IntKind.wrap .i64 (0 - (IntKind.wrap .i64 (v1 + 1)))) v2)))
  else
  (bif (decide (v2 = 0)) then
  none
  else
  (K (Int.tmod v1 v2))))

def ref06_Pick (N : Nat) (v1 : Int) (v2 : Int) : Option (Int × Unit) := ref06_Pick_cps N _ (fun a0 => some (a0, ())) v1 v2

/-! frankpledge/frankpledgelaw06.DiskSafe -/
def law06_DiskSafe_j0 (N : Nat) (R : Type) (k0 : Bool → Int → Int → (List UInt8) → Int → Int → Option R) (v14 : (List UInt8)) (v15 : (List UInt8)) (v16 : Int) (v17 : Int) (v18 : Int) (v19 : Int) : Option R :=
  (Option.bind (disk_Disk_Append N v14 v18 v19) fun (v20 : Int × Int × (List UInt8) × Int × Int × Unit) =>
  (Option.bind (disk_Disk_Sync N v20.2.2.1 v20.2.2.2.1 v20.2.2.2.2.1) fun (v21 : Int × (List UInt8) × Int × Int × Unit) =>
  (Option.bind (disk_Disk_Append_1 N v15 v21.2.1 v21.2.2.1 v21.2.2.2.1) fun (v22 : Int × Int × (List UInt8) × Int × Int × Unit) =>
  (Option.bind (disk_Disk_Power N v16 v22.2.2.1 v22.2.2.2.1 v22.2.2.2.2.1) fun (v23 : (List UInt8) × Int × Int × (List UInt8) × Int × Int × Unit) =>
  (Option.bind (ref06_Pick N v16 (IntKind.wrap .i64 ((v15.length : Int) + 1))) fun (v24 : Int × Unit) =>
  (Option.bind (disk_Disk_End_1 N v23.2.2.2.1 v23.2.2.2.2.1 v23.2.2.2.2.2.1) fun (v25 : Int × Unit) =>
  (Option.bind (disk_Disk_Read N 0 v25.1 v23.2.2.2.1 v23.2.2.2.2.1 v23.2.2.2.2.2.1) fun (v26 : (List UInt8) × Int × Unit) =>
  (Option.bind (disk_Disk_Power N v17 v23.2.2.2.1 v23.2.2.2.2.1 v23.2.2.2.2.2.1) fun (v27 : (List UInt8) × Int × Int × (List UInt8) × Int × Int × Unit) =>
  (Option.bind (disk_Disk_End_1 N v27.2.2.2.1 v27.2.2.2.2.1 v27.2.2.2.2.2.1) fun (v28 : Int × Unit) =>
  (Option.bind (disk_Disk_Read N 0 v28.1 v27.2.2.2.1 v27.2.2.2.2.1 v27.2.2.2.2.2.1) fun (v29 : (List UInt8) × Int × Unit) =>
  (Option.bind (law06_alive N) fun (v30 : Bool × Unit) =>
  (bif v30.1 then
  (bif (decide (v22.2.1 = 0)) then
  (bif (decide (v26.2.1 = 0)) then
  (bif (decide (v29.2.1 = 0)) then
  (bif (decide (v22.1 = (v14.length : Int))) then
  (Option.bind (disk_Disk_End_1 N v27.1 v27.2.1 v27.2.2.1) fun (v31 : Int × Unit) =>
  (bif (decide (v31.1 = (IntKind.wrap .i64 ((v14.length : Int) + v24.1)))) then
  (bif (decide (0 ≤ v24.1 ∧ v24.1 ≤ ((v15.length : Nat) : Int))) then
  (bif (room 1 (v14.length + (List.drop 0 (List.take (Int.toNat v24.1) v15)).length)) then
  (bif (decide (v26.1 = (v14 ++ (List.drop 0 (List.take (Int.toNat v24.1) v15))))) then
  (bif (decide (v29.1 = v26.1)) then
  (Option.bind (disk_Disk_Safe N v27.1 v27.2.1 v27.2.2.1) fun (v32 : Int × Unit) =>
  (Option.bind (disk_Disk_End_1 N v27.1 v27.2.1 v27.2.2.1) fun (v33 : Int × Unit) =>
  (bif (decide (v32.1 = v33.1)) then
  (Option.bind (disk_Disk_End_1 N v23.1 v23.2.1 v23.2.2.1) fun (v34 : Int × Unit) =>
  (k0 (decide (v34.1 = (IntKind.wrap .i64 ((v14.length : Int) + (v15.length : Int))))) v16 v17 v23.1 v23.2.1 v23.2.2.1))
  else
  (k0 false v16 v17 v23.1 v23.2.1 v23.2.2.1))))
  else
  (k0 false v16 v17 v23.1 v23.2.1 v23.2.2.1))
  else
  (k0 false v16 v17 v23.1 v23.2.1 v23.2.2.1))
  else
  none)
  else
  none)
  else
  (k0 false v16 v17 v23.1 v23.2.1 v23.2.2.1)))
  else
  (k0 false v16 v17 v23.1 v23.2.1 v23.2.2.1))
  else
  (k0 false v16 v17 v23.1 v23.2.1 v23.2.2.1))
  else
  (k0 false v16 v17 v23.1 v23.2.1 v23.2.2.1))
  else
  (k0 false v16 v17 v23.1 v23.2.1 v23.2.2.1))
  else
  (k0 false v16 v17 v23.1 v23.2.1 v23.2.2.1)))))))))))))

def law06_DiskSafe_cps (N : Nat) (R : Type) (K : Bool → Option R) (v1 : (List UInt8)) (v2 : (List UInt8)) (v3 : Int) (v4 : Int) : Option R :=
  (Option.bind (disk_New N) fun (v5 : Int × Int × Unit) =>
  (bif (decide (300 < (v1.length : Int))) then
  (Option.bind (law06_alive N) fun (v6 : Bool × Unit) =>
  (K v6.1))
  else
  (bif (decide (300 < (v2.length : Int))) then
  (Option.bind (law06_alive N) fun (v7 : Bool × Unit) =>
  (K v7.1))
  else
  (law06_DiskSafe_j0 N _ (fun (v8 : Bool) (v9 : Int) (v10 : Int) (v11 : (List UInt8)) (v12 : Int) (v13 : Int) =>
  (K v8)) v1 v2 v3 v4 v5.1 v5.2.1))))

def law06_DiskSafe (N : Nat) (v1 : (List UInt8)) (v2 : (List UInt8)) (v3 : Int) (v4 : Int) : Option (Bool × Unit) := law06_DiskSafe_cps N _ (fun a0 => some (a0, ())) v1 v2 v3 v4

/-! (*frankpledge/disk.Disk).Begin -/
def disk_Disk_Begin_cps (N : Nat) (R : Type) (K : Int → Option R) (v1 : (List UInt8)) (v2 : Int) (v3 : Int) : Option R :=
  (K v2)

def disk_Disk_Begin (N : Nat) (v1 : (List UInt8)) (v2 : Int) (v3 : Int) : Option (Int × Unit) := disk_Disk_Begin_cps N _ (fun a0 => some (a0, ())) v1 v2 v3

/-! (*frankpledge/disk.Disk).Drop -/
def disk_Disk_Drop_j0 (N : Nat) (R : Type) (k0 : Int → (List UInt8) → Int → Int → Option R) (v10 : Int) (v11 : (List UInt8)) (v12 : Int) (v13 : Int) : Option R :=
  (bif (decide (0 ≤ (IntKind.wrap .i64 (v10 - v12)) ∧ (IntKind.wrap .i64 (v10 - v12)) ≤ ((v11.length : Nat) : Int))) then
  (Option.bind (bytes_Clone N (List.drop (Int.toNat (IntKind.wrap .i64 (v10 - v12))) (List.take v11.length v11))) fun (v14 : (List UInt8) × Unit) =>
  (k0 0 v14.1 v10 (IntKind.wrap .i64 (v13 - (IntKind.wrap .i64 (v10 - v12))))))
  else
  none)

def disk_Disk_Drop_cps (N : Nat) (R : Type) (K : Int → (List UInt8) → Int → Int → Option R) (v1 : Int) (v2 : (List UInt8)) (v3 : Int) (v4 : Int) : Option R :=
  (bif (decide (v1 < v3)) then
  (K 1 v2 v3 v4)
  else
  (Option.bind (disk_Disk_Safe N v2 v3 v4) fun (v5 : Int × Unit) =>
  (bif (decide (v5.1 < v1)) then
  (K 1 v2 v3 v4)
  else
  (disk_Disk_Drop_j0 N _ (fun (v6 : Int) (v7 : (List UInt8)) (v8 : Int) (v9 : Int) =>
  (K v6 v7 v8 v9)) v1 v2 v3 v4))))

def disk_Disk_Drop (N : Nat) (v1 : Int) (v2 : (List UInt8)) (v3 : Int) (v4 : Int) : Option (Int × (List UInt8) × Int × Int × Unit) := disk_Disk_Drop_cps N _ (fun a0 a1 a2 a3 => some (a0, (a1, (a2, (a3, ()))))) v1 v2 v3 v4

/-! frankpledge/frankpledgelaw06.DiskOffsets -/
def law06_DiskOffsets_j4 (N : Nat) (R : Type) (k0 : (List (Int × (Int × (Int × ((List UInt8) × Unit))))) → (List UInt8) → Int → (List UInt8) → Int → Int → Int → Int → Int → (List UInt8) → Option R) (k1 : (List (Int × (Int × (Int × ((List UInt8) × Unit))))) → Bool → (List UInt8) → Int → (List UInt8) → Int → Int → Int → Int → Int → (List UInt8) → Option R) (v322 : (List (Int × (Int × (Int × ((List UInt8) × Unit)))))) (v323 : (List UInt8)) (v324 : Int) (v325 : (List UInt8)) (v326 : Int) (v327 : Int) (v328 : Int) (v329 : Int) (v330 : Int) (v331 : (List UInt8)) : Option R :=
  (Option.bind (disk_Disk_Begin N v325 v326 v327) fun (v332 : Int × Unit) =>
  (Option.bind (disk_Disk_End_1 N v325 v326 v327) fun (v333 : Int × Unit) =>
  (Option.bind (disk_Disk_Read N v332.1 v333.1 v325 v326 v327) fun (v334 : (List UInt8) × Int × Unit) =>
  (Option.bind (disk_Disk_Begin N v325 v326 v327) fun (v335 : Int × Unit) =>
  (Option.bind (disk_Disk_End_1 N v325 v326 v327) fun (v336 : Int × Unit) =>
  (Option.bind (disk_Disk_Read N (IntKind.wrap .i64 (v335.1 - 1)) v336.1 v325 v326 v327) fun (v337 : (List UInt8) × Int × Unit) =>
  (bif (!(decide (v334.2.1 = 0))) then
  (k1 v322 false v323 v324 v325 v326 v327 v328 v329 v330 v331)
  else
  (bif (!(decide (v337.2.1 = 61))) then
  (k1 v322 false v323 v324 v325 v326 v327 v328 v329 v330 v331)
  else
  (Option.bind (disk_Disk_End_1 N v325 v326 v327) fun (v338 : Int × Unit) =>
  (bif (!(decide (v338.1 = (v323.length : Int)))) then
  (k1 v322 false v323 v324 v325 v326 v327 v328 v329 v330 v331)
  else
  (Option.bind (disk_Disk_Begin N v325 v326 v327) fun (v339 : Int × Unit) =>
  (bif (decide (0 ≤ v339.1 ∧ v339.1 ≤ ((v323.length : Nat) : Int))) then
  (bif (!(decide (v334.1 = (List.drop (Int.toNat v339.1) (List.take v323.length v323))))) then
  (k1 v322 false v323 v324 v325 v326 v327 v328 v329 v330 v331)
  else
  (k0 v322 v323 v324 v325 v326 v327 v328 v329 v330 v331))
  else
  none))))))))))))

def law06_DiskOffsets_j3 (N : Nat) (R : Type) (k0 : (List (Int × (Int × (Int × ((List UInt8) × Unit))))) → (List UInt8) → Int → (List UInt8) → Int → Int → Int → Int → Int → (List UInt8) → Option R) (k1 : (List (Int × (Int × (Int × ((List UInt8) × Unit))))) → Bool → (List UInt8) → Int → (List UInt8) → Int → Int → Int → Int → Int → (List UInt8) → Option R) (v114 : (List (Int × (Int × (Int × ((List UInt8) × Unit)))))) (v115 : (List UInt8)) (v116 : Int) (v117 : (List UInt8)) (v118 : Int) (v119 : Int) (v120 : Int) (v121 : Int) (v122 : Int) (v123 : (List UInt8)) : Option R :=
  (bif (decide (v120 = 3)) then
  (Option.bind (disk_Disk_Begin N v117 v118 v119) fun (v124 : Int × Unit) =>
  (Option.bind (disk_Disk_Drop N v121 v117 v118 v119) fun (v125 : Int × (List UInt8) × Int × Int × Unit) =>
  (bif (decide (v125.1 = 0)) then
  (Option.bind (disk_Disk_Begin N v125.2.1 v125.2.2.1 v125.2.2.2.1) fun (v126 : Int × Unit) =>
  (bif (!(decide (v126.1 = v121))) then
  (k1 v114 false v115 v116 v125.2.1 v125.2.2.1 v125.2.2.2.1 v120 v121 v122 v123)
  else
  (bif (!(decide (v125.1 = 0))) then
  (Option.bind (disk_Disk_Begin N v125.2.1 v125.2.2.1 v125.2.2.2.1) fun (v127 : Int × Unit) =>
  (bif (!(decide (v127.1 = v124.1))) then
  (k1 v114 false v115 v116 v125.2.1 v125.2.2.1 v125.2.2.2.1 v120 v121 v122 v123)
  else
  (bif (decide (v124.1 ≤ v121)) then
  (Option.bind (disk_Disk_Safe N v125.2.1 v125.2.2.1 v125.2.2.2.1) fun (v128 : Int × Unit) =>
  (bif (!((decide (v125.1 = 0)) == (decide (v121 ≤ v128.1)))) then
  (k1 v114 false v115 v116 v125.2.1 v125.2.2.1 v125.2.2.2.1 v120 v121 v122 v123)
  else
  (law06_DiskOffsets_j4 N _ (fun (v129 : (List (Int × (Int × (Int × ((List UInt8) × Unit)))))) (v130 : (List UInt8)) (v131 : Int) (v132 : (List UInt8)) (v133 : Int) (v134 : Int) (v135 : Int) (v136 : Int) (v137 : Int) (v138 : (List UInt8)) =>
  (k0 v129 v130 v131 v132 v133 v134 v135 v136 v137 v138)) (fun (v139 : (List (Int × (Int × (Int × ((List UInt8) × Unit)))))) (v140 : Bool) (v141 : (List UInt8)) (v142 : Int) (v143 : (List UInt8)) (v144 : Int) (v145 : Int) (v146 : Int) (v147 : Int) (v148 : Int) (v149 : (List UInt8)) =>
  (k1 v139 v140 v141 v142 v143 v144 v145 v146 v147 v148 v149)) v114 v115 v116 v125.2.1 v125.2.2.1 v125.2.2.2.1 v120 v121 v122 v123)))
  else
  (bif (!((decide (v125.1 = 0)) == false)) then
  (k1 v114 false v115 v116 v125.2.1 v125.2.2.1 v125.2.2.2.1 v120 v121 v122 v123)
  else
  (law06_DiskOffsets_j4 N _ (fun (v150 : (List (Int × (Int × (Int × ((List UInt8) × Unit)))))) (v151 : (List UInt8)) (v152 : Int) (v153 : (List UInt8)) (v154 : Int) (v155 : Int) (v156 : Int) (v157 : Int) (v158 : Int) (v159 : (List UInt8)) =>
  (k0 v150 v151 v152 v153 v154 v155 v156 v157 v158 v159)) (fun (v160 : (List (Int × (Int × (Int × ((List UInt8) × Unit)))))) (v161 : Bool) (v162 : (List UInt8)) (v163 : Int) (v164 : (List UInt8)) (v165 : Int) (v166 : Int) (v167 : Int) (v168 : Int) (v169 : Int) (v170 : (List UInt8)) =>
  (k1 v160 v161 v162 v163 v164 v165 v166 v167 v168 v169 v170)) v114 v115 v116 v125.2.1 v125.2.2.1 v125.2.2.2.1 v120 v121 v122 v123)))))
  else
  (bif (decide (v124.1 ≤ v121)) then
  (Option.bind (disk_Disk_Safe N v125.2.1 v125.2.2.1 v125.2.2.2.1) fun (v171 : Int × Unit) =>
  (bif (!((decide (v125.1 = 0)) == (decide (v121 ≤ v171.1)))) then
  (k1 v114 false v115 v116 v125.2.1 v125.2.2.1 v125.2.2.2.1 v120 v121 v122 v123)
  else
  (law06_DiskOffsets_j4 N _ (fun (v172 : (List (Int × (Int × (Int × ((List UInt8) × Unit)))))) (v173 : (List UInt8)) (v174 : Int) (v175 : (List UInt8)) (v176 : Int) (v177 : Int) (v178 : Int) (v179 : Int) (v180 : Int) (v181 : (List UInt8)) =>
  (k0 v172 v173 v174 v175 v176 v177 v178 v179 v180 v181)) (fun (v182 : (List (Int × (Int × (Int × ((List UInt8) × Unit)))))) (v183 : Bool) (v184 : (List UInt8)) (v185 : Int) (v186 : (List UInt8)) (v187 : Int) (v188 : Int) (v189 : Int) (v190 : Int) (v191 : Int) (v192 : (List UInt8)) =>
  (k1 v182 v183 v184 v185 v186 v187 v188 v189 v190 v191 v192)) v114 v115 v116 v125.2.1 v125.2.2.1 v125.2.2.2.1 v120 v121 v122 v123)))
  else
  (bif (!((decide (v125.1 = 0)) == false)) then
  (k1 v114 false v115 v116 v125.2.1 v125.2.2.1 v125.2.2.2.1 v120 v121 v122 v123)
  else
  (law06_DiskOffsets_j4 N _ (fun (v193 : (List (Int × (Int × (Int × ((List UInt8) × Unit)))))) (v194 : (List UInt8)) (v195 : Int) (v196 : (List UInt8)) (v197 : Int) (v198 : Int) (v199 : Int) (v200 : Int) (v201 : Int) (v202 : (List UInt8)) =>
  (k0 v193 v194 v195 v196 v197 v198 v199 v200 v201 v202)) (fun (v203 : (List (Int × (Int × (Int × ((List UInt8) × Unit)))))) (v204 : Bool) (v205 : (List UInt8)) (v206 : Int) (v207 : (List UInt8)) (v208 : Int) (v209 : Int) (v210 : Int) (v211 : Int) (v212 : Int) (v213 : (List UInt8)) =>
  (k1 v203 v204 v205 v206 v207 v208 v209 v210 v211 v212 v213)) v114 v115 v116 v125.2.1 v125.2.2.1 v125.2.2.2.1 v120 v121 v122 v123))))))
  else
  (bif (!(decide (v125.1 = 0))) then
  (Option.bind (disk_Disk_Begin N v125.2.1 v125.2.2.1 v125.2.2.2.1) fun (v214 : Int × Unit) =>
  (bif (!(decide (v214.1 = v124.1))) then
  (k1 v114 false v115 v116 v125.2.1 v125.2.2.1 v125.2.2.2.1 v120 v121 v122 v123)
  else
  (bif (decide (v124.1 ≤ v121)) then
  (Option.bind (disk_Disk_Safe N v125.2.1 v125.2.2.1 v125.2.2.2.1) fun (v215 : Int × Unit) =>
  (bif (!((decide (v125.1 = 0)) == (decide (v121 ≤ v215.1)))) then
  (k1 v114 false v115 v116 v125.2.1 v125.2.2.1 v125.2.2.2.1 v120 v121 v122 v123)
  else
  (law06_DiskOffsets_j4 N _ (fun (v216 : (List (Int × (Int × (Int × ((List UInt8) × Unit)))))) (v217 : (List UInt8)) (v218 : Int) (v219 : (List UInt8)) (v220 : Int) (v221 : Int) (v222 : Int) (v223 : Int) (v224 : Int) (v225 : (List UInt8)) =>
  (k0 v216 v217 v218 v219 v220 v221 v222 v223 v224 v225)) (fun (v226 : (List (Int × (Int × (Int × ((List UInt8) × Unit)))))) (v227 : Bool) (v228 : (List UInt8)) (v229 : Int) (v230 : (List UInt8)) (v231 : Int) (v232 : Int) (v233 : Int) (v234 : Int) (v235 : Int) (v236 : (List UInt8)) =>
  (k1 v226 v227 v228 v229 v230 v231 v232 v233 v234 v235 v236)) v114 v115 v116 v125.2.1 v125.2.2.1 v125.2.2.2.1 v120 v121 v122 v123)))
  else
  (bif (!((decide (v125.1 = 0)) == false)) then
  (k1 v114 false v115 v116 v125.2.1 v125.2.2.1 v125.2.2.2.1 v120 v121 v122 v123)
  else
  (law06_DiskOffsets_j4 N _ (fun (v237 : (List (Int × (Int × (Int × ((List UInt8) × Unit)))))) (v238 : (List UInt8)) (v239 : Int) (v240 : (List UInt8)) (v241 : Int) (v242 : Int) (v243 : Int) (v244 : Int) (v245 : Int) (v246 : (List UInt8)) =>
  (k0 v237 v238 v239 v240 v241 v242 v243 v244 v245 v246)) (fun (v247 : (List (Int × (Int × (Int × ((List UInt8) × Unit)))))) (v248 : Bool) (v249 : (List UInt8)) (v250 : Int) (v251 : (List UInt8)) (v252 : Int) (v253 : Int) (v254 : Int) (v255 : Int) (v256 : Int) (v257 : (List UInt8)) =>
  (k1 v247 v248 v249 v250 v251 v252 v253 v254 v255 v256 v257)) v114 v115 v116 v125.2.1 v125.2.2.1 v125.2.2.2.1 v120 v121 v122 v123)))))
  else
  (bif (decide (v124.1 ≤ v121)) then
  (Option.bind (disk_Disk_Safe N v125.2.1 v125.2.2.1 v125.2.2.2.1) fun (v258 : Int × Unit) =>
  (bif (!((decide (v125.1 = 0)) == (decide (v121 ≤ v258.1)))) then
  (k1 v114 false v115 v116 v125.2.1 v125.2.2.1 v125.2.2.2.1 v120 v121 v122 v123)
  else
  (law06_DiskOffsets_j4 N _ (fun (v259 : (List (Int × (Int × (Int × ((List UInt8) × Unit)))))) (v260 : (List UInt8)) (v261 : Int) (v262 : (List UInt8)) (v263 : Int) (v264 : Int) (v265 : Int) (v266 : Int) (v267 : Int) (v268 : (List UInt8)) =>
  (k0 v259 v260 v261 v262 v263 v264 v265 v266 v267 v268)) (fun (v269 : (List (Int × (Int × (Int × ((List UInt8) × Unit)))))) (v270 : Bool) (v271 : (List UInt8)) (v272 : Int) (v273 : (List UInt8)) (v274 : Int) (v275 : Int) (v276 : Int) (v277 : Int) (v278 : Int) (v279 : (List UInt8)) =>
  (k1 v269 v270 v271 v272 v273 v274 v275 v276 v277 v278 v279)) v114 v115 v116 v125.2.1 v125.2.2.1 v125.2.2.2.1 v120 v121 v122 v123)))
  else
  (bif (!((decide (v125.1 = 0)) == false)) then
  (k1 v114 false v115 v116 v125.2.1 v125.2.2.1 v125.2.2.2.1 v120 v121 v122 v123)
  else
  (law06_DiskOffsets_j4 N _ (fun (v280 : (List (Int × (Int × (Int × ((List UInt8) × Unit)))))) (v281 : (List UInt8)) (v282 : Int) (v283 : (List UInt8)) (v284 : Int) (v285 : Int) (v286 : Int) (v287 : Int) (v288 : Int) (v289 : (List UInt8)) =>
  (k0 v280 v281 v282 v283 v284 v285 v286 v287 v288 v289)) (fun (v290 : (List (Int × (Int × (Int × ((List UInt8) × Unit)))))) (v291 : Bool) (v292 : (List UInt8)) (v293 : Int) (v294 : (List UInt8)) (v295 : Int) (v296 : Int) (v297 : Int) (v298 : Int) (v299 : Int) (v300 : (List UInt8)) =>
  (k1 v290 v291 v292 v293 v294 v295 v296 v297 v298 v299 v300)) v114 v115 v116 v125.2.1 v125.2.2.1 v125.2.2.2.1 v120 v121 v122 v123)))))))
  else
  (law06_DiskOffsets_j4 N _ (fun (v301 : (List (Int × (Int × (Int × ((List UInt8) × Unit)))))) (v302 : (List UInt8)) (v303 : Int) (v304 : (List UInt8)) (v305 : Int) (v306 : Int) (v307 : Int) (v308 : Int) (v309 : Int) (v310 : (List UInt8)) =>
  (k0 v301 v302 v303 v304 v305 v306 v307 v308 v309 v310)) (fun (v311 : (List (Int × (Int × (Int × ((List UInt8) × Unit)))))) (v312 : Bool) (v313 : (List UInt8)) (v314 : Int) (v315 : (List UInt8)) (v316 : Int) (v317 : Int) (v318 : Int) (v319 : Int) (v320 : Int) (v321 : (List UInt8)) =>
  (k1 v311 v312 v313 v314 v315 v316 v317 v318 v319 v320 v321)) v114 v115 v116 v117 v118 v119 v120 v121 v122 v123))

def law06_DiskOffsets_j2 (N : Nat) (R : Type) (k0 : (List (Int × (Int × (Int × ((List UInt8) × Unit))))) → (List UInt8) → Int → (List UInt8) → Int → Int → Int → Int → Int → (List UInt8) → Option R) (k1 : (List (Int × (Int × (Int × ((List UInt8) × Unit))))) → Bool → (List UInt8) → Int → (List UInt8) → Int → Int → Int → Int → Int → (List UInt8) → Option R) (v61 : (List (Int × (Int × (Int × ((List UInt8) × Unit)))))) (v62 : (List UInt8)) (v63 : Int) (v64 : (List UInt8)) (v65 : Int) (v66 : Int) (v67 : Int) (v68 : Int) (v69 : Int) (v70 : (List UInt8)) : Option R :=
  (bif (decide (v67 = 2)) then
  (Option.bind (disk_Disk_Sync N v64 v65 v66) fun (v71 : Int × (List UInt8) × Int × Int × Unit) =>
  (law06_DiskOffsets_j3 N _ (fun (v72 : (List (Int × (Int × (Int × ((List UInt8) × Unit)))))) (v73 : (List UInt8)) (v74 : Int) (v75 : (List UInt8)) (v76 : Int) (v77 : Int) (v78 : Int) (v79 : Int) (v80 : Int) (v81 : (List UInt8)) =>
  (k0 v72 v73 v74 v75 v76 v77 v78 v79 v80 v81)) (fun (v82 : (List (Int × (Int × (Int × ((List UInt8) × Unit)))))) (v83 : Bool) (v84 : (List UInt8)) (v85 : Int) (v86 : (List UInt8)) (v87 : Int) (v88 : Int) (v89 : Int) (v90 : Int) (v91 : Int) (v92 : (List UInt8)) =>
  (k1 v82 v83 v84 v85 v86 v87 v88 v89 v90 v91 v92)) v61 v62 v63 v71.2.1 v71.2.2.1 v71.2.2.2.1 v67 v68 v69 v70))
  else
  (law06_DiskOffsets_j3 N _ (fun (v93 : (List (Int × (Int × (Int × ((List UInt8) × Unit)))))) (v94 : (List UInt8)) (v95 : Int) (v96 : (List UInt8)) (v97 : Int) (v98 : Int) (v99 : Int) (v100 : Int) (v101 : Int) (v102 : (List UInt8)) =>
  (k0 v93 v94 v95 v96 v97 v98 v99 v100 v101 v102)) (fun (v103 : (List (Int × (Int × (Int × ((List UInt8) × Unit)))))) (v104 : Bool) (v105 : (List UInt8)) (v106 : Int) (v107 : (List UInt8)) (v108 : Int) (v109 : Int) (v110 : Int) (v111 : Int) (v112 : Int) (v113 : (List UInt8)) =>
  (k1 v103 v104 v105 v106 v107 v108 v109 v110 v111 v112 v113)) v61 v62 v63 v64 v65 v66 v67 v68 v69 v70))

def law06_DiskOffsets_l0B (N : Nat) (R : Type) (rec : (List (Int × (Int × (Int × ((List UInt8) × Unit))))) → (List UInt8) → Int → (List UInt8) → Int → Int → Option R) (k0 : (List UInt8) → Int → Int → Option R) (k1 : Bool → (List UInt8) → Int → Int → Option R) (v11 : (List (Int × (Int × (Int × ((List UInt8) × Unit)))))) (v12 : (List UInt8)) (v13 : Int) (v14 : (List UInt8)) (v15 : Int) (v16 : Int) : Option R :=
  (bif (decide (v13 < (v11.length : Int))) then
  (bif (decide (v13 < 60)) then
  (Option.bind (nth v11 v13) fun (v17 : (Int × (Int × (Int × ((List UInt8) × Unit))))) =>
  (bif (decide (300 < (v17.2.2.2.1.length : Int))) then
  (rec v11 v12 (IntKind.wrap .i64 (v13 + 1)) v14 v15 v16)
  else
  (bif (decide (v17.1 = 1)) then
  (Option.bind (disk_Disk_Append_1 N v17.2.2.2.1 v14 v15 v16) fun (v18 : Int × Int × (List UInt8) × Int × Int × Unit) =>
  (bif (!(decide (v18.2.1 = 0))) then
  (k1 false v18.2.2.1 v18.2.2.2.1 v18.2.2.2.2.1)
  else
  (bif (!(decide (v18.1 = (v12.length : Int)))) then
  (k1 false v18.2.2.1 v18.2.2.2.1 v18.2.2.2.2.1)
  else
  (bif (room 1 (v12.length + v17.2.2.2.1.length)) then
  (law06_DiskOffsets_j2 N _ (fun (v19 : (List (Int × (Int × (Int × ((List UInt8) × Unit)))))) (v20 : (List UInt8)) (v21 : Int) (v22 : (List UInt8)) (v23 : Int) (v24 : Int) (v25 : Int) (v26 : Int) (v27 : Int) (v28 : (List UInt8)) =>
  (rec v19 v20 (IntKind.wrap .i64 (v21 + 1)) v22 v23 v24)) (fun (v29 : (List (Int × (Int × (Int × ((List UInt8) × Unit)))))) (v30 : Bool) (v31 : (List UInt8)) (v32 : Int) (v33 : (List UInt8)) (v34 : Int) (v35 : Int) (v36 : Int) (v37 : Int) (v38 : Int) (v39 : (List UInt8)) =>
  (k1 v30 v33 v34 v35)) v11 (v12 ++ v17.2.2.2.1) v13 v18.2.2.1 v18.2.2.2.1 v18.2.2.2.2.1 v17.1 v17.2.1 v17.2.2.1 v17.2.2.2.1)
  else
  none))))
  else
  (law06_DiskOffsets_j2 N _ (fun (v40 : (List (Int × (Int × (Int × ((List UInt8) × Unit)))))) (v41 : (List UInt8)) (v42 : Int) (v43 : (List UInt8)) (v44 : Int) (v45 : Int) (v46 : Int) (v47 : Int) (v48 : Int) (v49 : (List UInt8)) =>
  (rec v40 v41 (IntKind.wrap .i64 (v42 + 1)) v43 v44 v45)) (fun (v50 : (List (Int × (Int × (Int × ((List UInt8) × Unit)))))) (v51 : Bool) (v52 : (List UInt8)) (v53 : Int) (v54 : (List UInt8)) (v55 : Int) (v56 : Int) (v57 : Int) (v58 : Int) (v59 : Int) (v60 : (List UInt8)) =>
  (k1 v51 v54 v55 v56)) v11 v12 v13 v14 v15 v16 v17.1 v17.2.1 v17.2.2.1 v17.2.2.2.1))))
  else
  (k0 v14 v15 v16))
  else
  (k0 v14 v15 v16))

def law06_DiskOffsets_l0 (N : Nat) (R : Type) (k0 : (List UInt8) → Int → Int → Option R) (k1 : Bool → (List UInt8) → Int → Int → Option R) : Nat → (List (Int × (Int × (Int × ((List UInt8) × Unit))))) → (List UInt8) → Int → (List UInt8) → Int → Int → Option R
  | 0 => fun _ _ _ _ _ _ => none
  | n + 1 => law06_DiskOffsets_l0B N R (law06_DiskOffsets_l0 N R k0 k1 n) k0 k1

def law06_DiskOffsets_cps (N : Nat) (R : Type) (K : Bool → Option R) (v1 : (List (Int × (Int × (Int × ((List UInt8) × Unit)))))) : Option R :=
  (Option.bind (disk_New N) fun (v2 : Int × Int × Unit) =>
  (law06_DiskOffsets_l0 N _ (fun (v3 : (List UInt8)) (v4 : Int) (v5 : Int) =>
  (Option.bind (law06_alive N) fun (v6 : Bool × Unit) =>
  (K v6.1))) (fun (v7 : Bool) (v8 : (List UInt8)) (v9 : Int) (v10 : Int) =>
  (K v7)) N v1 [] 0 [] v2.1 v2.2.1))

def law06_DiskOffsets (N : Nat) (v1 : (List (Int × (Int × (Int × ((List UInt8) × Unit)))))) : Option (Bool × Unit) := law06_DiskOffsets_cps N _ (fun a0 => some (a0, ())) v1

/-! (*frankpledge/disk.Disk).Append -/
def disk_Disk_Append_2_cps (N : Nat) (R : Type) (K : Int → Int → Option R) (v1 : (List UInt8)) : Option R :=
  (K 0 1)

def disk_Disk_Append_2 (N : Nat) (v1 : (List UInt8)) : Option (Int × Int × Unit) := disk_Disk_Append_2_cps N _ (fun a0 a1 => some (a0, (a1, ()))) v1

/-! (*frankpledge/disk.Disk).Read -/
def disk_Disk_Read_1_cps (N : Nat) (R : Type) (K : Int → Option R) (v1 : Int) (v2 : Int) : Option R :=
  (K 1)

def disk_Disk_Read_1 (N : Nat) (v1 : Int) (v2 : Int) : Option (Int × Unit) := disk_Disk_Read_1_cps N _ (fun a0 => some (a0, ())) v1 v2

/-! (*frankpledge/disk.Disk).Sync -/
def disk_Disk_Sync_1_cps (N : Nat) (R : Type) (K : Int → Option R)  : Option R :=
  (K 1)

def disk_Disk_Sync_1 (N : Nat)  : Option (Int × Unit) := disk_Disk_Sync_1_cps N _ (fun a0 => some (a0, ())) 

/-! (*frankpledge/disk.Disk).Drop -/
def disk_Disk_Drop_1_cps (N : Nat) (R : Type) (K : Int → Option R) (v1 : Int) : Option R :=
  (K 1)

def disk_Disk_Drop_1 (N : Nat) (v1 : Int) : Option (Int × Unit) := disk_Disk_Drop_1_cps N _ (fun a0 => some (a0, ())) v1

/-! (*frankpledge/disk.Disk).Cut -/
def disk_Disk_Cut_cps (N : Nat) (R : Type) (K : Int → Option R) (v1 : Int) : Option R :=
  (K 1)

def disk_Disk_Cut (N : Nat) (v1 : Int) : Option (Int × Unit) := disk_Disk_Cut_cps N _ (fun a0 => some (a0, ())) v1

/-! (*frankpledge/disk.Disk).Begin -/
def disk_Disk_Begin_1_cps (N : Nat) (R : Type) (K : Int → Option R)  : Option R :=
  (K 0)

def disk_Disk_Begin_1 (N : Nat)  : Option (Int × Unit) := disk_Disk_Begin_1_cps N _ (fun a0 => some (a0, ())) 

/-! (*frankpledge/disk.Disk).End -/
def disk_Disk_End_2_cps (N : Nat) (R : Type) (K : Int → Option R)  : Option R :=
  (K 0)

def disk_Disk_End_2 (N : Nat)  : Option (Int × Unit) := disk_Disk_End_2_cps N _ (fun a0 => some (a0, ())) 

/-! (*frankpledge/disk.Disk).Safe -/
def disk_Disk_Safe_1_cps (N : Nat) (R : Type) (K : Int → Option R)  : Option R :=
  (K 0)

def disk_Disk_Safe_1 (N : Nat)  : Option (Int × Unit) := disk_Disk_Safe_1_cps N _ (fun a0 => some (a0, ())) 

/-! (*frankpledge/disk.Disk).Power -/
def disk_Disk_Power_1_cps (N : Nat) (R : Type) (K : Option R) (v1 : Int) : Option R :=
  K

def disk_Disk_Power_1 (N : Nat) (v1 : Int) : Option (Unit) := disk_Disk_Power_1_cps N _ (some ()) v1

/-! frankpledge/frankpledgelaw06.DiskNil -/
def law06_DiskNil_cps (N : Nat) (R : Type) (K : Bool → Option R) (v1 : Int) (v2 : Int) (v3 : Int) (v4 : (List UInt8)) : Option R :=
  (Option.bind (disk_Disk_Append_2 N v4) fun (v5 : Int × Int × Unit) =>
  (Option.bind (disk_Disk_Read_1 N v2 v3) fun (v6 : Int × Unit) =>
  (Option.bind (law06_alive N) fun (v7 : Bool × Unit) =>
  (bif v7.1 then
  (bif (decide (v5.1 = 0)) then
  (bif (decide (v5.2.1 = 1)) then
  (bif (decide (v6.1 = 1)) then
  (Option.bind (disk_Disk_Sync_1 N) fun (v8 : Int × Unit) =>
  (bif (decide (v8.1 = 1)) then
  (Option.bind (disk_Disk_Drop_1 N v2) fun (v9 : Int × Unit) =>
  (bif (decide (v9.1 = 1)) then
  (Option.bind (disk_Disk_Cut N v2) fun (v10 : Int × Unit) =>
  (bif (decide (v10.1 = 1)) then
  (Option.bind (disk_Disk_Begin_1 N) fun (v11 : Int × Unit) =>
  (bif (decide (v11.1 = 0)) then
  (Option.bind (disk_Disk_End_2 N) fun (v12 : Int × Unit) =>
  (bif (decide (v12.1 = 0)) then
  (Option.bind (disk_Disk_Safe_1 N) fun (v13 : Int × Unit) =>
  (bif (decide (v13.1 = 0)) then
  (Option.bind (disk_Disk_Power_1 N v2) fun (v14 : Unit) =>
  (K true))
  else
  (K false)))
  else
  (K false)))
  else
  (K false)))
  else
  (K false)))
  else
  (K false)))
  else
  (K false)))
  else
  (K false))
  else
  (K false))
  else
  (K false))
  else
  (K false)))))

def law06_DiskNil (N : Nat) (v1 : Int) (v2 : Int) (v3 : Int) (v4 : (List UInt8)) : Option (Bool × Unit) := law06_DiskNil_cps N _ (fun a0 => some (a0, ())) v1 v2 v3 v4

/-- What is to be shown of the law DiskOffsets. -/
def DiskOffsets_Pure : Prop := ∀ x : denA [(.slice (.pair (.int .i64) (.pair (.int .i64) (.pair (.int .i64) (.pair (.slice .byte) .unit)))))], WfA [(.slice (.pair (.int .i64) (.pair (.int .i64) (.pair (.int .i64) (.pair (.slice .byte) .unit)))))] x → law06_DiskOffsets big x.1 = some (true, ())

end
end Go.Proofs.Ytkeejnlicagjiaa.E
