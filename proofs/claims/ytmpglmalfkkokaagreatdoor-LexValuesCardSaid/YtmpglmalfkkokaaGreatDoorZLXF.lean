/-
  Pure functions, printed by a program out of the translation.
  Conditions: those that each statement prints, and no other.
-/
import Derived.Test.YtmpglmalfkkokaaGreatDoorEvA
import Derived.Lib.Bytealg
import Derived.Test.YtmpglmalfkkokaaGreatDoorEvL
set_option linter.unusedVariables false
set_option linter.unusedSimpArgs false
/-! Pure functions, printed by wip/gen out of the translation. -/
namespace Go.Proofs.YtmpglmalfkkokaaGreatDoor.E
open Go.Ev
noncomputable section
/-! frankpledge/value.Right -/
def value_Right_cps (N : Nat) (R : Type) (K : Bool → Option R) (v1 : Int) (v2 : Int) (v3 : (List UInt8)) : Option R :=
  (bif (decide (v1 = 1)) then
  (bif (decide (v2 = 1)) then
  (K (decide (v3 = [])))
  else
  (bif (decide (v2 = 0)) then
  (K (decide (v3 = [])))
  else
  (K false)))
  else
  (bif (decide (v1 = 0)) then
  (bif (decide (v2 = 0)) then
  (K (decide (v3 = [])))
  else
  (K false))
  else
  (bif (decide (v1 = 2)) then
  (K (decide (v3 = [])))
  else
  (bif (decide (v1 = 3)) then
  (K (decide (v3 = [])))
  else
  (bif (decide (v1 = 4)) then
  (bif (decide (v2 = 0)) then
  (K (decide ((v3.length : Int) ≤ 200)))
  else
  (K false))
  else
  (bif (decide (v1 = 5)) then
  (bif (decide (v2 = 0)) then
  (K (decide ((v3.length : Int) ≤ 200)))
  else
  (K false))
  else
  (K false)))))))

def value_Right (N : Nat) (v1 : Int) (v2 : Int) (v3 : (List UInt8)) : Option (Bool × Unit) := value_Right_cps N _ (fun a0 => some (a0, ())) v1 v2 v3

/-! internal/strconv.FormatBool -/
def strconv_FormatBool__cps (N : Nat) (R : Type) (K : (List UInt8) → Option R) (v1 : Bool) : Option R :=
  (bif v1 then
  (K [116, 114, 117, 101])
  else
  (K [102, 97, 108, 115, 101]))

def strconv_FormatBool_ (N : Nat) (v1 : Bool) : Option ((List UInt8) × Unit) := strconv_FormatBool__cps N _ (fun a0 => some (a0, ())) v1

/-! strconv.FormatBool -/
def strconv_FormatBool_cps (N : Nat) (R : Type) (K : (List UInt8) → Option R) (v1 : Bool) : Option R :=
  (Option.bind (strconv_FormatBool_ N v1) fun (v2 : (List UInt8) × Unit) =>
  (K v2.1))

def strconv_FormatBool (N : Nat) (v1 : Bool) : Option ((List UInt8) × Unit) := strconv_FormatBool_cps N _ (fun a0 => some (a0, ())) v1

/-! strconv.FormatInt -/
def strconv_FormatInt_cps (N : Nat) (R : Type) (K : (List UInt8) → Option R) (v1 : Int) (v2 : Int) : Option R :=
  (bif (decide (v2 = 10)) then (K (Lib.itoa v1)) else none)

def strconv_FormatInt (N : Nat) (v1 : Int) (v2 : Int) : Option ((List UInt8) × Unit) := strconv_FormatInt_cps N _ (fun a0 => some (a0, ())) v1 v2

/-! internal/stringslite.HasPrefix -/
def stringslite_HasPrefix_cps (N : Nat) (R : Type) (K : Bool → Option R) (v1 : (List UInt8)) (v2 : (List UInt8)) : Option R :=
  (bif (decide ((v2.length : Int) ≤ (v1.length : Int))) then
  (bif (decide (0 ≤ (v2.length : Int) ∧ (v2.length : Int) ≤ ((v1.length : Nat) : Int))) then
  (K (decide ((List.drop 0 (List.take (Int.toNat (v2.length : Int)) v1)) = v2)))
  else
  none)
  else
  (K false))

def stringslite_HasPrefix (N : Nat) (v1 : (List UInt8)) (v2 : (List UInt8)) : Option (Bool × Unit) := stringslite_HasPrefix_cps N _ (fun a0 => some (a0, ())) v1 v2

/-! internal/stringslite.CutPrefix -/
def stringslite_CutPrefix_cps (N : Nat) (R : Type) (K : (List UInt8) → Bool → Option R) (v1 : (List UInt8)) (v2 : (List UInt8)) : Option R :=
  (Option.bind (stringslite_HasPrefix N v1 v2) fun (v3 : Bool × Unit) =>
  (bif (!v3.1) then
  (K v1 false)
  else
  (bif (decide (0 ≤ (v2.length : Int) ∧ (v2.length : Int) ≤ ((v1.length : Nat) : Int))) then
  (K (List.drop (Int.toNat (v2.length : Int)) (List.take v1.length v1)) true)
  else
  none)))

def stringslite_CutPrefix (N : Nat) (v1 : (List UInt8)) (v2 : (List UInt8)) : Option ((List UInt8) × Bool × Unit) := stringslite_CutPrefix_cps N _ (fun a0 a1 => some (a0, (a1, ()))) v1 v2

/-! strings.CutPrefix -/
def strings_CutPrefix_cps (N : Nat) (R : Type) (K : (List UInt8) → Bool → Option R) (v1 : (List UInt8)) (v2 : (List UInt8)) : Option R :=
  (Option.bind (stringslite_CutPrefix N v1 v2) fun (v3 : (List UInt8) × Bool × Unit) =>
  (K v3.1 v3.2.1))

def strings_CutPrefix (N : Nat) (v1 : (List UInt8)) (v2 : (List UInt8)) : Option ((List UInt8) × Bool × Unit) := strings_CutPrefix_cps N _ (fun a0 a1 => some (a0, (a1, ()))) v1 v2

/-! strings.Repeat -/
def strings_Repeat_cps (N : Nat) (R : Type) (K : (List UInt8) → Option R) (v1 : (List UInt8)) (v2 : Int) : Option R :=
  (bif (decide (0 ≤ v2 ∧ v1.length * (Int.toNat v2) ≤ 140737488355328)) then (K (Lib.repeatL v1 (Int.toNat v2))) else none)

def strings_Repeat (N : Nat) (v1 : (List UInt8)) (v2 : Int) : Option ((List UInt8) × Unit) := strings_Repeat_cps N _ (fun a0 => some (a0, ())) v1 v2

/-! strings.ReplaceAll -/
def strings_ReplaceAll_cps (N : Nat) (R : Type) (K : (List UInt8) → Option R) (v1 : (List UInt8)) (v2 : (List UInt8)) (v3 : (List UInt8)) : Option R :=
  (bif (decide (v1.length < 4294967281 ∧ 1 ≤ v2.length ∧ v1.length + Lib.count v1 v2 * v3.length ≤ 140737488355328)) then (K (Lib.replaceAll v1 v2 v3)) else none)

def strings_ReplaceAll (N : Nat) (v1 : (List UInt8)) (v2 : (List UInt8)) (v3 : (List UInt8)) : Option ((List UInt8) × Unit) := strings_ReplaceAll_cps N _ (fun a0 => some (a0, ())) v1 v2 v3

/-! frankpledge/value.Text -/
def value_Text_l1B (N : Nat) (R : Type) (rec : (List UInt8) → (List UInt8) → Int → Int → Int → Int → (List UInt8) → Option R) (k0 : (List UInt8) → Int → Int → (List UInt8) → Option R) (v28 : (List UInt8)) (v29 : (List UInt8)) (v30 : Int) (v31 : Int) (v32 : Int) (v33 : Int) (v34 : (List UInt8)) : Option R :=
  (bif (decide (v31 < v30)) then
  (Option.bind (nth v29 v31) fun (v35 : UInt8) =>
  (Option.bind (nth ([48, 49, 50, 51, 52, 53, 54, 55, 56, 57, 97, 98, 99, 100, 101, 102] : List UInt8) (Ev.shr .u8 (v35.toNat : Int) 4)) fun (v36 : UInt8) =>
  (Option.bind (nth ([48, 49, 50, 51, 52, 53, 54, 55, 56, 57, 97, 98, 99, 100, 101, 102] : List UInt8) (Ev.bits .and .u8 (v35.toNat : Int) 15)) fun (v37 : UInt8) =>
  (bif (room 1 (v28.length + ([(UInt8.ofNat (Int.toNat (v36.toNat : Int))), (UInt8.ofNat (Int.toNat (v37.toNat : Int)))] : (List UInt8)).length)) then
  (rec (v28 ++ ([(UInt8.ofNat (Int.toNat (v36.toNat : Int))), (UInt8.ofNat (Int.toNat (v37.toNat : Int)))] : (List UInt8))) v29 v30 (IntKind.wrap .i64 (v31 + 1)) v32 v33 v34)
  else
  none))))
  else
  (k0 v28 v32 v33 v34))

def value_Text_l1 (N : Nat) (R : Type) (k0 : (List UInt8) → Int → Int → (List UInt8) → Option R) : Nat → (List UInt8) → (List UInt8) → Int → Int → Int → Int → (List UInt8) → Option R
  | 0 => fun _ _ _ _ _ _ _ => none
  | n + 1 => value_Text_l1B N R (value_Text_l1 N R k0 n) k0

def value_Text_j0 (N : Nat) (R : Type) (k0 : (List UInt8) → Int → Int → (List UInt8) → Option R) (v23 : (List UInt8)) (v24 : Bool) (v25 : Int) (v26 : Int) (v27 : (List UInt8)) : Option R :=
  (bif (decide (0 ≤ (IntKind.wrap .i64 ((v23.length : Int) - 4)) ∧ (IntKind.wrap .i64 ((v23.length : Int) - 4)) ≤ ((v23.length : Nat) : Int))) then
  (bif (room 1 ((List.drop 0 (List.take (Int.toNat (IntKind.wrap .i64 ((v23.length : Int) - 4))) v23)).length + ([46] : List UInt8).length)) then
  (bif (decide (0 ≤ (IntKind.wrap .i64 ((v23.length : Int) - 4)) ∧ (IntKind.wrap .i64 ((v23.length : Int) - 4)) ≤ ((v23.length : Nat) : Int))) then
  (bif (room 1 (((List.drop 0 (List.take (Int.toNat (IntKind.wrap .i64 ((v23.length : Int) - 4))) v23)) ++ [46]).length + (List.drop (Int.toNat (IntKind.wrap .i64 ((v23.length : Int) - 4))) (List.take v23.length v23)).length)) then
  (bif v24 then
  (bif (room 1 (([45] : List UInt8).length + (((List.drop 0 (List.take (Int.toNat (IntKind.wrap .i64 ((v23.length : Int) - 4))) v23)) ++ [46]) ++ (List.drop (Int.toNat (IntKind.wrap .i64 ((v23.length : Int) - 4))) (List.take v23.length v23))).length)) then
  (k0 ([45] ++ (((List.drop 0 (List.take (Int.toNat (IntKind.wrap .i64 ((v23.length : Int) - 4))) v23)) ++ [46]) ++ (List.drop (Int.toNat (IntKind.wrap .i64 ((v23.length : Int) - 4))) (List.take v23.length v23)))) v25 v26 v27)
  else
  none)
  else
  (k0 (((List.drop 0 (List.take (Int.toNat (IntKind.wrap .i64 ((v23.length : Int) - 4))) v23)) ++ [46]) ++ (List.drop (Int.toNat (IntKind.wrap .i64 ((v23.length : Int) - 4))) (List.take v23.length v23))) v25 v26 v27))
  else
  none)
  else
  none)
  else
  none)
  else
  none)

def value_Text_cps (N : Nat) (R : Type) (K : (List UInt8) → Option R) (v1 : Int) (v2 : Int) (v3 : (List UInt8)) : Option R :=
  (Option.bind (value_Right N v1 v2 v3) fun (v4 : Bool × Unit) =>
  (bif (!v4.1) then
  (K [63])
  else
  (bif (decide (v1 = 0)) then
  (K [110, 117, 108, 108])
  else
  (bif (decide (v1 = 1)) then
  (Option.bind (strconv_FormatBool N (decide (v2 = 1))) fun (v5 : (List UInt8) × Unit) =>
  (K v5.1))
  else
  (bif (decide (v1 = 2)) then
  (Option.bind (strconv_FormatInt N v2 10) fun (v6 : (List UInt8) × Unit) =>
  (K v6.1))
  else
  (bif (decide (v1 = 3)) then
  (Option.bind (strconv_FormatInt N v2 10) fun (v7 : (List UInt8) × Unit) =>
  (Option.bind (strings_CutPrefix N v7.1 [45]) fun (v8 : (List UInt8) × Bool × Unit) =>
  (bif (decide ((v8.1.length : Int) < 5)) then
  (Option.bind (strings_Repeat N [48] (IntKind.wrap .i64 (5 - (v8.1.length : Int)))) fun (v9 : (List UInt8) × Unit) =>
  (bif (room 1 (v9.1.length + v8.1.length)) then
  (value_Text_j0 N _ (fun (v10 : (List UInt8)) (v11 : Int) (v12 : Int) (v13 : (List UInt8)) =>
  (K v10)) (v9.1 ++ v8.1) v8.2.1 v1 v2 v3)
  else
  none))
  else
  (value_Text_j0 N _ (fun (v14 : (List UInt8)) (v15 : Int) (v16 : Int) (v17 : (List UInt8)) =>
  (K v14)) v8.1 v8.2.1 v1 v2 v3))))
  else
  (bif (decide (v1 = 5)) then
  (value_Text_l1 N _ (fun (v18 : (List UInt8)) (v19 : Int) (v20 : Int) (v21 : (List UInt8)) =>
  (bif (room 1 (([120, 39] : List UInt8).length + v18.length)) then
  (bif (room 1 (([120, 39] ++ v18).length + ([39] : List UInt8).length)) then
  (K (([120, 39] ++ v18) ++ [39]))
  else
  none)
  else
  none)) N [] v3 (v3.length : Int) 0 v1 v2 v3)
  else
  (Option.bind (strings_ReplaceAll N v3 [39] [39, 39]) fun (v22 : (List UInt8) × Unit) =>
  (bif (room 1 (([39] : List UInt8).length + v22.1.length)) then
  (bif (room 1 (([39] ++ v22.1).length + ([39] : List UInt8).length)) then
  (K (([39] ++ v22.1) ++ [39]))
  else
  none)
  else
  none)))))))))

def value_Text (N : Nat) (v1 : Int) (v2 : Int) (v3 : (List UInt8)) : Option ((List UInt8) × Unit) := value_Text_cps N _ (fun a0 => some (a0, ())) v1 v2 v3

/-! frankpledge/fault.New -/
def fault_New_cps (N : Nat) (R : Type) (K : Err → Option R) (v1 : Int) (v2 : Int) : Option R :=
  (bif (decide (v1 = 0)) then
  (K Err.nil)
  else
  (K (Err.fault v1 v2 Err.nil)))

def fault_New (N : Nat) (v1 : Int) (v2 : Int) : Option (Err × Unit) := fault_New_cps N _ (fun a0 => some (a0, ())) v1 v2

/-! frankpledge/lex.of -/
def lex_of_cps (N : Nat) (R : Type) (K : Int → Option R) (v1 : Int) : Option R :=
  (bif (decide (97 ≤ v1)) then
  (bif (decide (v1 ≤ 122)) then
  (K 2)
  else
  (bif (decide (65 ≤ v1)) then
  (bif (decide (v1 ≤ 90)) then
  (K 2)
  else
  (bif (decide (48 ≤ v1)) then
  (bif (decide (v1 ≤ 57)) then
  (K 3)
  else
  (bif (decide (v1 = 32)) then
  (K 1)
  else
  (bif (decide (v1 = 9)) then
  (K 1)
  else
  (bif (decide (v1 = 10)) then
  (K 1)
  else
  (bif (decide (v1 = 13)) then
  (K 1)
  else
  (bif (decide (v1 = 95)) then
  (K 4)
  else
  (K 0)))))))
  else
  (bif (decide (v1 = 32)) then
  (K 1)
  else
  (bif (decide (v1 = 9)) then
  (K 1)
  else
  (bif (decide (v1 = 10)) then
  (K 1)
  else
  (bif (decide (v1 = 13)) then
  (K 1)
  else
  (bif (decide (v1 = 95)) then
  (K 4)
  else
  (K 0))))))))
  else
  (bif (decide (48 ≤ v1)) then
  (bif (decide (v1 ≤ 57)) then
  (K 3)
  else
  (bif (decide (v1 = 32)) then
  (K 1)
  else
  (bif (decide (v1 = 9)) then
  (K 1)
  else
  (bif (decide (v1 = 10)) then
  (K 1)
  else
  (bif (decide (v1 = 13)) then
  (K 1)
  else
  (bif (decide (v1 = 95)) then
  (K 4)
  else
  (K 0)))))))
  else
  (bif (decide (v1 = 32)) then
  (K 1)
  else
  (bif (decide (v1 = 9)) then
  (K 1)
  else
  (bif (decide (v1 = 10)) then
  (K 1)
  else
  (bif (decide (v1 = 13)) then
  (K 1)
  else
  (bif (decide (v1 = 95)) then
  (K 4)
  else
  (K 0)))))))))
  else
  (bif (decide (65 ≤ v1)) then
  (bif (decide (v1 ≤ 90)) then
  (K 2)
  else
  (bif (decide (48 ≤ v1)) then
  (bif (decide (v1 ≤ 57)) then
  (K 3)
  else
  (bif (decide (v1 = 32)) then
  (K 1)
  else
  (bif (decide (v1 = 9)) then
  (K 1)
  else
  (bif (decide (v1 = 10)) then
  (K 1)
  else
  (bif (decide (v1 = 13)) then
  (K 1)
  else
  (bif (decide (v1 = 95)) then
  (K 4)
  else
  (K 0)))))))
  else
  (bif (decide (v1 = 32)) then
  (K 1)
  else
  (bif (decide (v1 = 9)) then
  (K 1)
  else
  (bif (decide (v1 = 10)) then
  (K 1)
  else
  (bif (decide (v1 = 13)) then
  (K 1)
  else
  (bif (decide (v1 = 95)) then
  (K 4)
  else
  (K 0))))))))
  else
  (bif (decide (48 ≤ v1)) then
  (bif (decide (v1 ≤ 57)) then
  (K 3)
  else
  (bif (decide (v1 = 32)) then
  (K 1)
  else
  (bif (decide (v1 = 9)) then
  (K 1)
  else
  (bif (decide (v1 = 10)) then
  (K 1)
  else
  (bif (decide (v1 = 13)) then
  (K 1)
  else
  (bif (decide (v1 = 95)) then
  (K 4)
  else
  (K 0)))))))
  else
  (bif (decide (v1 = 32)) then
  (K 1)
  else
  (bif (decide (v1 = 9)) then
  (K 1)
  else
  (bif (decide (v1 = 10)) then
  (K 1)
  else
  (bif (decide (v1 = 13)) then
  (K 1)
  else
  (bif (decide (v1 = 95)) then
  (K 4)
  else
  (K 0)))))))))

def lex_of (N : Nat) (v1 : Int) : Option (Int × Unit) := lex_of_cps N _ (fun a0 => some (a0, ())) v1

/-! frankpledge/lex.quoted -/
def lex_quoted_l0B (N : Nat) (R : Type) (rec : (List UInt8) → (List UInt8) → Int → Option R) (k0 : Option R) (k1 : (List UInt8) → Int → Option R) (v4 : (List UInt8)) (v5 : (List UInt8)) (v6 : Int) : Option R :=
  (bif (decide (v6 < (v4.length : Int))) then
  (Option.bind (nth v4 v6) fun (v7 : UInt8) =>
  (bif (decide ((v7.toNat : Int) = 39)) then
  (bif (decide ((IntKind.wrap .i64 (v6 + 1)) = (v4.length : Int))) then
  (k1 v5 (IntKind.wrap .i64 (v6 + 1)))
  else
  (Option.bind (nth v4 (IntKind.wrap .i64 (v6 + 1))) fun (v8 : UInt8) =>
  (bif (!(decide ((v8.toNat : Int) = 39))) then
  (k1 v5 (IntKind.wrap .i64 (v6 + 1)))
  else
  (Option.bind (nth v4 (IntKind.wrap .i64 (v6 + 1))) fun (v9 : UInt8) =>
  (bif (room 1 (v5.length + ([(UInt8.ofNat (Int.toNat (v9.toNat : Int)))] : (List UInt8)).length)) then
  (rec v4 (v5 ++ ([(UInt8.ofNat (Int.toNat (v9.toNat : Int)))] : (List UInt8))) (IntKind.wrap .i64 ((IntKind.wrap .i64 (v6 + 1)) + 1)))
  else
  none)))))
  else
  (Option.bind (nth v4 v6) fun (v10 : UInt8) =>
  (bif (room 1 (v5.length + ([(UInt8.ofNat (Int.toNat (v10.toNat : Int)))] : (List UInt8)).length)) then
  (rec v4 (v5 ++ ([(UInt8.ofNat (Int.toNat (v10.toNat : Int)))] : (List UInt8))) (IntKind.wrap .i64 (v6 + 1)))
  else
  none))))
  else
  k0)

def lex_quoted_l0 (N : Nat) (R : Type) (k0 : Option R) (k1 : (List UInt8) → Int → Option R) : Nat → (List UInt8) → (List UInt8) → Int → Option R
  | 0 => fun _ _ _ => none
  | n + 1 => lex_quoted_l0B N R (lex_quoted_l0 N R k0 k1 n) k0 k1

def lex_quoted_cps (N : Nat) (R : Type) (K : (List UInt8) → Int → Option R) (v1 : (List UInt8)) : Option R :=
  (lex_quoted_l0 N _ ((K [] 0)) (fun (v2 : (List UInt8)) (v3 : Int) =>
  (K v2 v3)) N v1 [] 1)

def lex_quoted (N : Nat) (v1 : (List UInt8)) : Option ((List UInt8) × Int × Unit) := lex_quoted_cps N _ (fun a0 a1 => some (a0, (a1, ()))) v1

/-! internal/bytealg.IndexByteString -/
def bytealg_IndexByteString_cps (N : Nat) (R : Type) (K : Int → Option R) (v1 : (List UInt8)) (v2 : Int) : Option R :=
  (K (Lib.indexByte v1 (Int.toNat v2).toUInt8))

def bytealg_IndexByteString (N : Nat) (v1 : (List UInt8)) (v2 : Int) : Option (Int × Unit) := bytealg_IndexByteString_cps N _ (fun a0 => some (a0, ())) v1 v2

/-! internal/stringslite.IndexByte -/
def stringslite_IndexByte_cps (N : Nat) (R : Type) (K : Int → Option R) (v1 : (List UInt8)) (v2 : Int) : Option R :=
  (Option.bind (bytealg_IndexByteString N v1 v2) fun (v3 : Int × Unit) =>
  (K v3.1))

def stringslite_IndexByte (N : Nat) (v1 : (List UInt8)) (v2 : Int) : Option (Int × Unit) := stringslite_IndexByte_cps N _ (fun a0 => some (a0, ())) v1 v2

/-! strings.IndexByte -/
def strings_IndexByte_cps (N : Nat) (R : Type) (K : Int → Option R) (v1 : (List UInt8)) (v2 : Int) : Option R :=
  (Option.bind (stringslite_IndexByte N v1 v2) fun (v3 : Int × Unit) =>
  (K v3.1))

def strings_IndexByte (N : Nat) (v1 : (List UInt8)) (v2 : Int) : Option (Int × Unit) := strings_IndexByte_cps N _ (fun a0 => some (a0, ())) v1 v2

/-! frankpledge/lex.hex -/
def lex_hex_cps (N : Nat) (R : Type) (K : Int → Option R) (v1 : Int) : Option R :=
  (bif (decide (65 ≤ v1)) then
  (bif (decide (v1 ≤ 70)) then
  (Option.bind (strings_IndexByte N [48, 49, 50, 51, 52, 53, 54, 55, 56, 57, 97, 98, 99, 100, 101, 102] (IntKind.wrap .u8 (v1 + 32))) fun (v2 : Int × Unit) =>
  (K v2.1))
  else
  (Option.bind (strings_IndexByte N [48, 49, 50, 51, 52, 53, 54, 55, 56, 57, 97, 98, 99, 100, 101, 102] v1) fun (v3 : Int × Unit) =>
  (K v3.1)))
  else
  (Option.bind (strings_IndexByte N [48, 49, 50, 51, 52, 53, 54, 55, 56, 57, 97, 98, 99, 100, 101, 102] v1) fun (v4 : Int × Unit) =>
  (K v4.1)))

def lex_hex (N : Nat) (v1 : Int) : Option (Int × Unit) := lex_hex_cps N _ (fun a0 => some (a0, ())) v1

/-! frankpledge/lex.raw -/
def lex_raw_l1B (N : Nat) (R : Type) (rec : (List UInt8) → (List UInt8) → Int → (List UInt8) → Int → (List UInt8) → Int → Int → (List UInt8) → Int → Option R) (k0 : (List UInt8) → Int → (List UInt8) → Int → (List UInt8) → Int → Int → (List UInt8) → Int → Option R) (k1 : (List UInt8) → Int → (List UInt8) → Int → (List UInt8) → Int → Int → (List UInt8) → Int → Option R) (v36 : (List UInt8)) (v37 : (List UInt8)) (v38 : Int) (v39 : (List UInt8)) (v40 : Int) (v41 : (List UInt8)) (v42 : Int) (v43 : Int) (v44 : (List UInt8)) (v45 : Int) : Option R :=
  (bif (!(decide (v37 = []))) then
  (Option.bind (nth v37 0) fun (v46 : UInt8) =>
  (Option.bind (lex_hex N (v46.toNat : Int)) fun (v47 : Int × Unit) =>
  (Option.bind (nth v37 1) fun (v48 : UInt8) =>
  (Option.bind (lex_hex N (v48.toNat : Int)) fun (v49 : Int × Unit) =>
  (bif (decide (v47.1 < 0)) then
  (k1 v36 v38 v39 0 [] 0 0 [] 0)
  else
  (bif (decide (v49.1 < 0)) then
  (k1 v36 v38 v39 0 [] 0 0 [] 0)
  else
  (bif (room 1 (v39.length + ([(UInt8.ofNat (Int.toNat (IntKind.wrap .u8 (Ev.bits .or .i64 (Ev.shl .i64 v47.1 4) v49.1))))] : (List UInt8)).length)) then
  (bif (decide (0 ≤ (2 : Int) ∧ (2 : Int) ≤ ((v37.length : Nat) : Int))) then
  (rec v36 (List.drop 2 (List.take v37.length v37)) v38 (v39 ++ ([(UInt8.ofNat (Int.toNat (IntKind.wrap .u8 (Ev.bits .or .i64 (Ev.shl .i64 v47.1 4) v49.1))))] : (List UInt8))) v40 v41 v42 v43 v44 v45)
  else
  none)
  else
  none)))))))
  else
  (k0 v36 v38 v39 v40 v41 v42 v43 v44 v45))

def lex_raw_l1 (N : Nat) (R : Type) (k0 : (List UInt8) → Int → (List UInt8) → Int → (List UInt8) → Int → Int → (List UInt8) → Int → Option R) (k1 : (List UInt8) → Int → (List UInt8) → Int → (List UInt8) → Int → Int → (List UInt8) → Int → Option R) : Nat → (List UInt8) → (List UInt8) → Int → (List UInt8) → Int → (List UInt8) → Int → Int → (List UInt8) → Int → Option R
  | 0 => fun _ _ _ _ _ _ _ _ _ _ => none
  | n + 1 => lex_raw_l1B N R (lex_raw_l1 N R k0 k1 n) k0 k1

def lex_raw_j0 (N : Nat) (R : Type) (k0 : Int → (List UInt8) → Int → Int → (List UInt8) → Int → Option R) (v9 : (List UInt8)) (v10 : (List UInt8)) (v11 : Int) (v12 : Int) (v13 : (List UInt8)) (v14 : Int) (v15 : Int) (v16 : (List UInt8)) (v17 : Int) : Option R :=
  (lex_raw_l1 N _ (fun (v18 : (List UInt8)) (v19 : Int) (v20 : (List UInt8)) (v21 : Int) (v22 : (List UInt8)) (v23 : Int) (v24 : Int) (v25 : (List UInt8)) (v26 : Int) =>
  (bif (decide (0 ≤ (IntKind.wrap .i64 (v19 + 1)) ∧ (IntKind.wrap .i64 (v19 + 1)) ≤ ((v18.length : Nat) : Int))) then
  (k0 4 (List.drop 0 (List.take (Int.toNat (IntKind.wrap .i64 (v19 + 1))) v18)) 5 0 v20 0)
  else
  none)) (fun (v27 : (List UInt8)) (v28 : Int) (v29 : (List UInt8)) (v30 : Int) (v31 : (List UInt8)) (v32 : Int) (v33 : Int) (v34 : (List UInt8)) (v35 : Int) =>
  (k0 v30 v31 v32 v33 v34 v35)) N v9 v10 v11 [] v12 v13 v14 v15 v16 v17)

def lex_raw_cps (N : Nat) (R : Type) (K : Int → (List UInt8) → Int → Int → (List UInt8) → Int → Option R) (v1 : (List UInt8)) : Option R :=
  (bif (decide (0 ≤ (1 : Int) ∧ (1 : Int) ≤ ((v1.length : Nat) : Int))) then
  (Option.bind (lex_quoted N (List.drop 1 (List.take v1.length v1))) fun (v2 : (List UInt8) × Int × Unit) =>
  (bif (decide (v2.2.1 = 0)) then
  (K 0 [] 0 0 [] 0)
  else
  (bif (decide ((Int.tmod (v2.1.length : Int) 2) = 1)) then
  (K 0 [] 0 0 [] 0)
  else
  (bif (decide (400 < (v2.1.length : Int))) then
  (K 0 [] 0 0 [] 0)
  else
  (lex_raw_j0 N _ (fun (v3 : Int) (v4 : (List UInt8)) (v5 : Int) (v6 : Int) (v7 : (List UInt8)) (v8 : Int) =>
  (K v3 v4 v5 v6 v7 v8)) v1 v2.1 v2.2.1 0 [] 0 0 [] 0)))))
  else
  none)

def lex_raw (N : Nat) (v1 : (List UInt8)) : Option (Int × (List UInt8) × Int × Int × (List UInt8) × Int × Unit) := lex_raw_cps N _ (fun a0 a1 a2 a3 a4 a5 => some (a0, (a1, (a2, (a3, (a4, (a5, ()))))))) v1

/-! frankpledge/lex.isPart -/
def lex_isPart_cps (N : Nat) (R : Type) (K : Bool → Option R) (v1 : Int) : Option R :=
  (K (decide (2 ≤ v1)))

def lex_isPart (N : Nat) (v1 : Int) : Option (Bool × Unit) := lex_isPart_cps N _ (fun a0 => some (a0, ())) v1

/-! frankpledge/lex.span -/
def lex_span_l0B (N : Nat) (R : Type) (rec : (List UInt8) → Int → Option R) (k0 : Int → Option R) (v3 : (List UInt8)) (v4 : Int) : Option R :=
  (bif (decide (v4 < (v3.length : Int))) then
  (Option.bind (nth v3 v4) fun (v5 : UInt8) =>
  (Option.bind (lex_of N (v5.toNat : Int)) fun (v6 : Int × Unit) =>
  (Option.bind (lex_isPart N v6.1) fun (v7 : Bool × Unit) =>
  (bif v7.1 then
  (rec v3 (IntKind.wrap .i64 (v4 + 1)))
  else
  (k0 v4)))))
  else
  (k0 v4))

def lex_span_l0 (N : Nat) (R : Type) (k0 : Int → Option R) : Nat → (List UInt8) → Int → Option R
  | 0 => fun _ _ => none
  | n + 1 => lex_span_l0B N R (lex_span_l0 N R k0 n) k0

def lex_span_cps (N : Nat) (R : Type) (K : Int → Option R) (v1 : (List UInt8)) : Option R :=
  (lex_span_l0 N _ (fun (v2 : Int) =>
  (K v2)) N v1 0)

def lex_span (N : Nat) (v1 : (List UInt8)) : Option (Int × Unit) := lex_span_cps N _ (fun a0 => some (a0, ())) v1

/-! strings.ToLower -/
def strings_ToLower_cps (N : Nat) (R : Type) (K : (List UInt8) → Option R) (v1 : (List UInt8)) : Option R :=
  (bif (decide (v1.length ≤ 140737488355328) && List.all v1 (fun b => decide (b.toNat < 128))) then (K (Lib.toLowerA v1)) else none)

def strings_ToLower (N : Nat) (v1 : (List UInt8)) : Option ((List UInt8) × Unit) := strings_ToLower_cps N _ (fun a0 => some (a0, ())) v1

/-! frankpledge/lex.isFigure -/
def lex_isFigure_cps (N : Nat) (R : Type) (K : Bool → Option R) (v1 : Int) : Option R :=
  (K (decide (v1 = 3)))

def lex_isFigure (N : Nat) (v1 : Int) : Option (Bool × Unit) := lex_isFigure_cps N _ (fun a0 => some (a0, ())) v1

/-! frankpledge/lex.span -/
def lex_span_1_l0B (N : Nat) (R : Type) (rec : (List UInt8) → Int → Option R) (k0 : Int → Option R) (v3 : (List UInt8)) (v4 : Int) : Option R :=
  (bif (decide (v4 < (v3.length : Int))) then
  (Option.bind (nth v3 v4) fun (v5 : UInt8) =>
  (Option.bind (lex_of N (v5.toNat : Int)) fun (v6 : Int × Unit) =>
  (Option.bind (lex_isFigure N v6.1) fun (v7 : Bool × Unit) =>
  (bif v7.1 then
  (rec v3 (IntKind.wrap .i64 (v4 + 1)))
  else
  (k0 v4)))))
  else
  (k0 v4))

def lex_span_1_l0 (N : Nat) (R : Type) (k0 : Int → Option R) : Nat → (List UInt8) → Int → Option R
  | 0 => fun _ _ => none
  | n + 1 => lex_span_1_l0B N R (lex_span_1_l0 N R k0 n) k0

def lex_span_1_cps (N : Nat) (R : Type) (K : Int → Option R) (v1 : (List UInt8)) : Option R :=
  (lex_span_1_l0 N _ (fun (v2 : Int) =>
  (K v2)) N v1 0)

def lex_span_1 (N : Nat) (v1 : (List UInt8)) : Option (Int × Unit) := lex_span_1_cps N _ (fun a0 => some (a0, ())) v1

/-! strings.HasPrefix -/
def strings_HasPrefix_cps (N : Nat) (R : Type) (K : Bool → Option R) (v1 : (List UInt8)) (v2 : (List UInt8)) : Option R :=
  (Option.bind (stringslite_HasPrefix N v1 v2) fun (v3 : Bool × Unit) =>
  (K v3.1))

def strings_HasPrefix (N : Nat) (v1 : (List UInt8)) (v2 : (List UInt8)) : Option (Bool × Unit) := strings_HasPrefix_cps N _ (fun a0 => some (a0, ())) v1 v2

/-! strconv.ParseInt -/
def strconv_ParseInt_cps (N : Nat) (R : Type) (K : Int → Err → Option R) (v1 : (List UInt8)) (v2 : Int) (v3 : Int) : Option R :=
  (bif (decide (v2 = 10 ∧ v3 = 64 ∧ v1.length ≤ 281474976710656)) then (K (parseV v1) (parseE v1)) else none)

def strconv_ParseInt (N : Nat) (v1 : (List UInt8)) (v2 : Int) (v3 : Int) : Option (Int × Err × Unit) := strconv_ParseInt_cps N _ (fun a0 a1 => some (a0, (a1, ()))) v1 v2 v3

/-! frankpledge/lex.number -/
def lex_number_j2 (N : Nat) (R : Type) (k0 : Int → (List UInt8) → Int → Int → (List UInt8) → Int → Option R) (v59 : (List UInt8)) (v60 : Int) (v61 : (List UInt8)) (v62 : Int) (v63 : Int) (v64 : (List UInt8)) (v65 : Int) (v66 : Int) (v67 : (List UInt8)) (v68 : Int) : Option R :=
  (Option.bind (strconv_ParseInt N v61 10 64) fun (v69 : Int × Err × Unit) =>
  (bif (!(Err.isNil v69.2.1)) then
  (k0 0 [] 0 0 [] 0)
  else
  (bif (decide (0 ≤ v60 ∧ v60 ≤ ((v59.length : Nat) : Int))) then
  (k0 2 (List.drop 0 (List.take (Int.toNat v60) v59)) v62 v69.1 [] 0)
  else
  none)))

def lex_number_j1 (N : Nat) (R : Type) (k0 : Int → (List UInt8) → Int → Int → (List UInt8) → Int → Option R) (v40 : (List UInt8)) (v41 : Int) (v42 : (List UInt8)) (v43 : (List UInt8)) (v44 : Int) (v45 : Int) (v46 : (List UInt8)) (v47 : Int) (v48 : Int) (v49 : (List UInt8)) (v50 : Int) : Option R :=
  (Option.bind (strings_HasPrefix N v43 [46]) fun (v51 : Bool × Unit) =>
  (bif v51.1 then
  (k0 0 [] 0 0 [] 0)
  else
  (Option.bind (lex_span N v43) fun (v52 : Int × Unit) =>
  (bif (decide (0 < v52.1)) then
  (k0 0 [] 0 0 [] 0)
  else
  (lex_number_j2 N _ (fun (v53 : Int) (v54 : (List UInt8)) (v55 : Int) (v56 : Int) (v57 : (List UInt8)) (v58 : Int) =>
  (k0 v53 v54 v55 v56 v57 v58)) v40 v41 v42 v44 v45 v46 v47 v48 v49 v50)))))

def lex_number_j0 (N : Nat) (R : Type) (k0 : (List UInt8) → Int → (List UInt8) → (List UInt8) → Int → Int → (List UInt8) → Int → Int → (List UInt8) → Int → Option R) (v28 : (List UInt8)) (v29 : Int) (v30 : (List UInt8)) (v31 : (List UInt8)) (v32 : Int) (v33 : Int) (v34 : (List UInt8)) (v35 : Int) (v36 : Int) (v37 : (List UInt8)) (v38 : Int) : Option R :=
  (bif (decide (0 ≤ (IntKind.wrap .i64 (1 + v32)) ∧ (IntKind.wrap .i64 (1 + v32)) ≤ ((v31.length : Nat) : Int))) then
  (bif (decide (0 ≤ (1 : Int) ∧ (1 : Int) ≤ (((Int.toNat (IntKind.wrap .i64 (1 + v32))) : Nat) : Int))) then
  (Option.bind (strings_Repeat N [48] (IntKind.wrap .i64 (4 - v32))) fun (v39 : (List UInt8) × Unit) =>
  (bif (room 1 ((List.drop 1 (List.take (Int.toNat (IntKind.wrap .i64 (1 + v32))) v31)).length + v39.1.length)) then
  (bif (room 1 (v30.length + ((List.drop 1 (List.take (Int.toNat (IntKind.wrap .i64 (1 + v32))) v31)) ++ v39.1).length)) then
  (bif (decide (0 ≤ (IntKind.wrap .i64 (1 + v32)) ∧ (IntKind.wrap .i64 (1 + v32)) ≤ ((v31.length : Nat) : Int))) then
  (k0 v28 (IntKind.wrap .i64 ((IntKind.wrap .i64 (v29 + 1)) + v32)) (v30 ++ ((List.drop 1 (List.take (Int.toNat (IntKind.wrap .i64 (1 + v32))) v31)) ++ v39.1)) (List.drop (Int.toNat (IntKind.wrap .i64 (1 + v32))) (List.take v31.length v31)) 3 v33 v34 v35 v36 v37 v38)
  else
  none)
  else
  none)
  else
  none))
  else
  none)
  else
  none)

def lex_number_cps (N : Nat) (R : Type) (K : Int → (List UInt8) → Int → Int → (List UInt8) → Int → Option R) (v1 : (List UInt8)) : Option R :=
  (Option.bind (lex_span_1 N v1) fun (v2 : Int × Unit) =>
  (bif (decide (0 ≤ v2.1 ∧ v2.1 ≤ ((v1.length : Nat) : Int))) then
  (bif (decide (0 ≤ v2.1 ∧ v2.1 ≤ ((v1.length : Nat) : Int))) then
  (Option.bind (strings_HasPrefix N (List.drop (Int.toNat v2.1) (List.take v1.length v1)) [46]) fun (v3 : Bool × Unit) =>
  (bif v3.1 then
  (bif (decide (0 ≤ (1 : Int) ∧ (1 : Int) ≤ (((List.drop (Int.toNat v2.1) (List.take v1.length v1)).length : Nat) : Int))) then
  (Option.bind (lex_span_1 N (List.drop 1 (List.take (List.drop (Int.toNat v2.1) (List.take v1.length v1)).length (List.drop (Int.toNat v2.1) (List.take v1.length v1))))) fun (v4 : Int × Unit) =>
  (bif (decide (v4.1 = 0)) then
  (K 0 [] 0 0 [] 0)
  else
  (bif (decide (4 < v4.1)) then
  (K 0 [] 0 0 [] 0)
  else
  (lex_number_j0 N _ (fun (v5 : (List UInt8)) (v6 : Int) (v7 : (List UInt8)) (v8 : (List UInt8)) (v9 : Int) (v10 : Int) (v11 : (List UInt8)) (v12 : Int) (v13 : Int) (v14 : (List UInt8)) (v15 : Int) =>
  (lex_number_j1 N _ (fun (v16 : Int) (v17 : (List UInt8)) (v18 : Int) (v19 : Int) (v20 : (List UInt8)) (v21 : Int) =>
  (K v16 v17 v18 v19 v20 v21)) v5 v6 v7 v8 v9 v10 v11 v12 v13 v14 v15)) v1 v2.1 (List.drop 0 (List.take (Int.toNat v2.1) v1)) (List.drop (Int.toNat v2.1) (List.take v1.length v1)) v4.1 0 [] 0 0 [] 0))))
  else
  none)
  else
  (lex_number_j1 N _ (fun (v22 : Int) (v23 : (List UInt8)) (v24 : Int) (v25 : Int) (v26 : (List UInt8)) (v27 : Int) =>
  (K v22 v23 v24 v25 v26 v27)) v1 v2.1 (List.drop 0 (List.take (Int.toNat v2.1) v1)) (List.drop (Int.toNat v2.1) (List.take v1.length v1)) 2 0 [] 0 0 [] 0)))
  else
  none)
  else
  none))

def lex_number (N : Nat) (v1 : (List UInt8)) : Option (Int × (List UInt8) × Int × Int × (List UInt8) × Int × Unit) := lex_number_cps N _ (fun a0 a1 a2 a3 a4 a5 => some (a0, (a1, (a2, (a3, (a4, (a5, ()))))))) v1

/-! frankpledge/lex.text -/
def lex_text_cps (N : Nat) (R : Type) (K : Int → (List UInt8) → Int → Int → (List UInt8) → Int → Option R) (v1 : (List UInt8)) : Option R :=
  (Option.bind (lex_quoted N v1) fun (v2 : (List UInt8) × Int × Unit) =>
  (bif (decide (v2.2.1 = 0)) then
  (K 0 [] 0 0 [] 0)
  else
  (bif (decide (200 < (v2.1.length : Int))) then
  (K 0 [] 0 0 [] 0)
  else
  (bif (decide (0 ≤ v2.2.1 ∧ v2.2.1 ≤ ((v1.length : Nat) : Int))) then
  (K 3 (List.drop 0 (List.take (Int.toNat v2.2.1) v1)) 4 0 v2.1 0)
  else
  none))))

def lex_text (N : Nat) (v1 : (List UInt8)) : Option (Int × (List UInt8) × Int × Int × (List UInt8) × Int × Unit) := lex_text_cps N _ (fun a0 a1 a2 a3 a4 a5 => some (a0, (a1, (a2, (a3, (a4, (a5, ()))))))) v1

/-! frankpledge/lex.sign -/
def lex_sign_l0B (N : Nat) (R : Type) (rec : (List UInt8) → (List (List UInt8)) → Int → Int → Int → (List UInt8) → Int → Int → (List UInt8) → Int → Option R) (k0 : (List UInt8) → Int → (List UInt8) → Int → Int → (List UInt8) → Int → Option R) (k1 : (List UInt8) → Int → (List UInt8) → Int → Int → (List UInt8) → Int → Option R) (v18 : (List UInt8)) (v19 : (List (List UInt8))) (v20 : Int) (v21 : Int) (v22 : Int) (v23 : (List UInt8)) (v24 : Int) (v25 : Int) (v26 : (List UInt8)) (v27 : Int) : Option R :=
  (bif (decide (v21 < v20)) then
  (Option.bind (nth v19 v21) fun (v28 : (List UInt8)) =>
  (Option.bind (strings_HasPrefix N v18 v28) fun (v29 : Bool × Unit) =>
  (bif v29.1 then
  (k1 v18 5 v28 0 0 [] 0)
  else
  (rec v18 v19 v20 (IntKind.wrap .i64 (v21 + 1)) v22 v23 v24 v25 v26 v27))))
  else
  (k0 v18 v22 v23 v24 v25 v26 v27))

def lex_sign_l0 (N : Nat) (R : Type) (k0 : (List UInt8) → Int → (List UInt8) → Int → Int → (List UInt8) → Int → Option R) (k1 : (List UInt8) → Int → (List UInt8) → Int → Int → (List UInt8) → Int → Option R) : Nat → (List UInt8) → (List (List UInt8)) → Int → Int → Int → (List UInt8) → Int → Int → (List UInt8) → Int → Option R
  | 0 => fun _ _ _ _ _ _ _ _ _ _ => none
  | n + 1 => lex_sign_l0B N R (lex_sign_l0 N R k0 k1 n) k0 k1

def lex_sign_cps (N : Nat) (R : Type) (K : Int → (List UInt8) → Int → Int → (List UInt8) → Int → Option R) (v1 : (List UInt8)) : Option R :=
  (lex_sign_l0 N _ (fun (v2 : (List UInt8)) (v3 : Int) (v4 : (List UInt8)) (v5 : Int) (v6 : Int) (v7 : (List UInt8)) (v8 : Int) =>
  (Option.bind (nth v2 0) fun (v9 : UInt8) =>
  (Option.bind (strings_IndexByte N [40, 41, 44, 42, 43, 45, 47, 61, 60, 62, 46, 59] (v9.toNat : Int)) fun (v10 : Int × Unit) =>
  (bif (decide (0 ≤ v10.1)) then
  (bif (decide (0 ≤ (1 : Int) ∧ (1 : Int) ≤ ((v2.length : Nat) : Int))) then
  (K 5 (List.drop 0 (List.take 1 v2)) 0 0 [] 0)
  else
  none)
  else
  (K 0 [] 0 0 [] 0))))) (fun (v11 : (List UInt8)) (v12 : Int) (v13 : (List UInt8)) (v14 : Int) (v15 : Int) (v16 : (List UInt8)) (v17 : Int) =>
  (K v12 v13 v14 v15 v16 v17)) N v1 ([[60, 61], [62, 61], [60, 62]] : (List (List UInt8))) (([[60, 61], [62, 61], [60, 62]] : (List (List UInt8))).length : Int) 0 0 [] 0 0 [] 0)

def lex_sign (N : Nat) (v1 : (List UInt8)) : Option (Int × (List UInt8) × Int × Int × (List UInt8) × Int × Unit) := lex_sign_cps N _ (fun a0 a1 a2 a3 a4 a5 => some (a0, (a1, (a2, (a3, (a4, (a5, ()))))))) v1

/-! frankpledge/lex.next -/
def lex_next_cps (N : Nat) (R : Type) (K : Int → (List UInt8) → Int → Int → (List UInt8) → Int → Option R) (v1 : (List UInt8)) : Option R :=
  (Option.bind (nth v1 0) fun (v2 : UInt8) =>
  (Option.bind (lex_of N (v2.toNat : Int)) fun (v3 : Int × Unit) =>
  (bif (decide (v3.1 = 2)) then
  (bif (decide (1 < (v1.length : Int))) then
  (Option.bind (nth v1 1) fun (v4 : UInt8) =>
  (bif (decide ((v4.toNat : Int) = 39)) then
  (Option.bind (nth v1 0) fun (v5 : UInt8) =>
  (bif (decide ((v5.toNat : Int) = 120)) then
  (Option.bind (lex_raw N v1) fun (v6 : Int × (List UInt8) × Int × Int × (List UInt8) × Int × Unit) =>
  (K v6.1 v6.2.1 v6.2.2.1 v6.2.2.2.1 v6.2.2.2.2.1 v6.2.2.2.2.2.1))
  else
  (Option.bind (nth v1 0) fun (v7 : UInt8) =>
  (bif (decide ((v7.toNat : Int) = 88)) then
  (Option.bind (lex_raw N v1) fun (v8 : Int × (List UInt8) × Int × Int × (List UInt8) × Int × Unit) =>
  (K v8.1 v8.2.1 v8.2.2.1 v8.2.2.2.1 v8.2.2.2.2.1 v8.2.2.2.2.2.1))
  else
  (Option.bind (lex_span N v1) fun (v9 : Int × Unit) =>
  (bif (decide (0 ≤ v9.1 ∧ v9.1 ≤ ((v1.length : Nat) : Int))) then
  (Option.bind (strings_ToLower N (List.drop 0 (List.take (Int.toNat v9.1) v1))) fun (v10 : (List UInt8) × Unit) =>
  (K 1 v10.1 0 0 [] 0))
  else
  none))))))
  else
  (Option.bind (lex_span N v1) fun (v11 : Int × Unit) =>
  (bif (decide (0 ≤ v11.1 ∧ v11.1 ≤ ((v1.length : Nat) : Int))) then
  (Option.bind (strings_ToLower N (List.drop 0 (List.take (Int.toNat v11.1) v1))) fun (v12 : (List UInt8) × Unit) =>
  (K 1 v12.1 0 0 [] 0))
  else
  none))))
  else
  (Option.bind (lex_span N v1) fun (v13 : Int × Unit) =>
  (bif (decide (0 ≤ v13.1 ∧ v13.1 ≤ ((v1.length : Nat) : Int))) then
  (Option.bind (strings_ToLower N (List.drop 0 (List.take (Int.toNat v13.1) v1))) fun (v14 : (List UInt8) × Unit) =>
  (K 1 v14.1 0 0 [] 0))
  else
  none)))
  else
  (bif (decide (v3.1 = 3)) then
  (Option.bind (lex_number N v1) fun (v15 : Int × (List UInt8) × Int × Int × (List UInt8) × Int × Unit) =>
  (K v15.1 v15.2.1 v15.2.2.1 v15.2.2.2.1 v15.2.2.2.2.1 v15.2.2.2.2.2.1))
  else
  (Option.bind (nth v1 0) fun (v16 : UInt8) =>
  (bif (decide ((v16.toNat : Int) = 39)) then
  (Option.bind (lex_text N v1) fun (v17 : Int × (List UInt8) × Int × Int × (List UInt8) × Int × Unit) =>
  (K v17.1 v17.2.1 v17.2.2.1 v17.2.2.2.1 v17.2.2.2.2.1 v17.2.2.2.2.2.1))
  else
  (Option.bind (lex_sign N v1) fun (v18 : Int × (List UInt8) × Int × Int × (List UInt8) × Int × Unit) =>
  (K v18.1 v18.2.1 v18.2.2.1 v18.2.2.2.1 v18.2.2.2.2.1 v18.2.2.2.2.2.1))))))))

def lex_next (N : Nat) (v1 : (List UInt8)) : Option (Int × (List UInt8) × Int × Int × (List UInt8) × Int × Unit) := lex_next_cps N _ (fun a0 a1 a2 a3 a4 a5 => some (a0, (a1, (a2, (a3, (a4, (a5, ()))))))) v1

/-! frankpledge/lex.Lex -/
def lex_Lex_l0B (N : Nat) (R : Type) (rec : (List UInt8) → (List (Int × ((List UInt8) × ((Int × (Int × ((List UInt8) × Unit))) × (Int × Unit))))) → Int → Option R) (k0 : (List UInt8) → (List (Int × ((List UInt8) × ((Int × (Int × ((List UInt8) × Unit))) × (Int × Unit))))) → Option R) (k1 : (List UInt8) → Err → (List (Int × ((List UInt8) × ((Int × (Int × ((List UInt8) × Unit))) × (Int × Unit))))) → Option R) (v8 : (List UInt8)) (v9 : (List (Int × ((List UInt8) × ((Int × (Int × ((List UInt8) × Unit))) × (Int × Unit)))))) (v10 : Int) : Option R :=
  (bif (decide (v10 < (v8.length : Int))) then
  (Option.bind (nth v8 v10) fun (v11 : UInt8) =>
  (Option.bind (lex_of N (v11.toNat : Int)) fun (v12 : Int × Unit) =>
  (bif (decide (v12.1 = 1)) then
  (rec v8 v9 (IntKind.wrap .i64 (v10 + 1)))
  else
  (bif (decide (0 ≤ v10 ∧ v10 ≤ ((v8.length : Nat) : Int))) then
  (Option.bind (lex_next N (List.drop (Int.toNat v10) (List.take v8.length v8))) fun (v13 : Int × (List UInt8) × Int × Int × (List UInt8) × Int × Unit) =>
  (bif (decide (v13.2.1 = [])) then
  (Option.bind (fault_New N 161 v10) fun (v14 : Err × Unit) =>
  (k1 v8 v14.1 v9))
  else
  (bif (room 64 (v9.length + ([(v13.1, (v13.2.1, ((v13.2.2.1, (v13.2.2.2.1, (v13.2.2.2.2.1, ()))), (v10, ()))))] : (List (Int × ((List UInt8) × ((Int × (Int × ((List UInt8) × Unit))) × (Int × Unit)))))).length)) then
  (rec v8 (v9 ++ ([(v13.1, (v13.2.1, ((v13.2.2.1, (v13.2.2.2.1, (v13.2.2.2.2.1, ()))), (v10, ()))))] : (List (Int × ((List UInt8) × ((Int × (Int × ((List UInt8) × Unit))) × (Int × Unit))))))) (IntKind.wrap .i64 (v10 + (v13.2.1.length : Int))))
  else
  none)))
  else
  none))))
  else
  (k0 v8 v9))

def lex_Lex_l0 (N : Nat) (R : Type) (k0 : (List UInt8) → (List (Int × ((List UInt8) × ((Int × (Int × ((List UInt8) × Unit))) × (Int × Unit))))) → Option R) (k1 : (List UInt8) → Err → (List (Int × ((List UInt8) × ((Int × (Int × ((List UInt8) × Unit))) × (Int × Unit))))) → Option R) : Nat → (List UInt8) → (List (Int × ((List UInt8) × ((Int × (Int × ((List UInt8) × Unit))) × (Int × Unit))))) → Int → Option R
  | 0 => fun _ _ _ => none
  | n + 1 => lex_Lex_l0B N R (lex_Lex_l0 N R k0 k1 n) k0 k1

def lex_Lex_cps (N : Nat) (R : Type) (K : (List (Int × ((List UInt8) × ((Int × (Int × ((List UInt8) × Unit))) × (Int × Unit))))) → Err → Option R) (v1 : (List UInt8)) : Option R :=
  (bif (decide (1000 < (v1.length : Int))) then
  (Option.bind (fault_New N 161 0) fun (v2 : Err × Unit) =>
  (K [] v2.1))
  else
  (lex_Lex_l0 N _ (fun (v3 : (List UInt8)) (v4 : (List (Int × ((List UInt8) × ((Int × (Int × ((List UInt8) × Unit))) × (Int × Unit)))))) =>
  (bif (room 64 (v4.length + ([(6, ([], ((0, (0, ([], ()))), ((v3.length : Int), ()))))] : (List (Int × ((List UInt8) × ((Int × (Int × ((List UInt8) × Unit))) × (Int × Unit)))))).length)) then
  (K (v4 ++ ([(6, ([], ((0, (0, ([], ()))), ((v3.length : Int), ()))))] : (List (Int × ((List UInt8) × ((Int × (Int × ((List UInt8) × Unit))) × (Int × Unit))))))) Err.nil)
  else
  none)) (fun (v5 : (List UInt8)) (v6 : Err) (v7 : (List (Int × ((List UInt8) × ((Int × (Int × ((List UInt8) × Unit))) × (Int × Unit)))))) =>
  (K [] v6)) N v1 [] 0))

def lex_Lex (N : Nat) (v1 : (List UInt8)) : Option ((List (Int × ((List UInt8) × ((Int × (Int × ((List UInt8) × Unit))) × (Int × Unit))))) × Err × Unit) := lex_Lex_cps N _ (fun a0 a1 => some (a0, (a1, ()))) v1

/-! frankpledge/frankpledgelaw16.alive -/
def law16_alive_cps (N : Nat) (R : Type) (K : Bool → Option R)  : Option R :=
  (Option.bind (lex_Lex N [65, 60, 61, 49, 46, 53, 32, 39, 105, 116, 39, 39, 115, 39]) fun (v1 : (List (Int × ((List UInt8) × ((Int × (Int × ((List UInt8) × Unit))) × (Int × Unit))))) × Err × Unit) =>
  (bif (Err.isNil v1.2.1) then
  (bif (decide ((v1.1.length : Int) = 5)) then
  (Option.bind (nth v1.1 0) fun (v2 : (Int × ((List UInt8) × ((Int × (Int × ((List UInt8) × Unit))) × (Int × Unit))))) =>
  (bif (decide (v2.2.1 = [97])) then
  (Option.bind (nth v1.1 1) fun (v3 : (Int × ((List UInt8) × ((Int × (Int × ((List UInt8) × Unit))) × (Int × Unit))))) =>
  (bif (decide (v3.2.1 = [60, 61])) then
  (Option.bind (nth v1.1 2) fun (v4 : (Int × ((List UInt8) × ((Int × (Int × ((List UInt8) × Unit))) × (Int × Unit))))) =>
  (bif (decide (v4.2.2.1.2.1 = 15000)) then
  (Option.bind (nth v1.1 3) fun (v5 : (Int × ((List UInt8) × ((Int × (Int × ((List UInt8) × Unit))) × (Int × Unit))))) =>
  (bif (decide (v5.2.2.1.2.2.1 = [105, 116, 39, 115])) then
  (Option.bind (nth v1.1 4) fun (v6 : (Int × ((List UInt8) × ((Int × (Int × ((List UInt8) × Unit))) × (Int × Unit))))) =>
  (K (decide (v6.1 = 6))))
  else
  (K false)))
  else
  (K false)))
  else
  (K false)))
  else
  (K false)))
  else
  (K false))
  else
  (K false)))

def law16_alive (N : Nat)  : Option (Bool × Unit) := law16_alive_cps N _ (fun a0 => some (a0, ())) 

/-! frankpledge/fault.At -/
def fault_At_cps (N : Nat) (R : Type) (K : Int → Option R) (v1 : Err) : Option R :=
  (bif (errOk v1) then (K (errAt v1)) else none)

def fault_At (N : Nat) (v1 : Err) : Option (Int × Unit) := fault_At_cps N _ (fun a0 => some (a0, ())) v1

/-! frankpledge/frankpledgelaw16.LexValues -/
def law16_LexValues_j1 (N : Nat) (R : Type) (k0 : Bool → Int → Int → (List UInt8) → Option R) (v28 : (List UInt8)) (v29 : (List UInt8)) (v30 : Int) (v31 : Int) (v32 : (List UInt8)) : Option R :=
  (bif (room 1 (v29.length + ([32] : List UInt8).length)) then
  (bif (room 1 ((v29 ++ [32]).length + v28.length)) then
  (Option.bind (lex_Lex N ((v29 ++ [32]) ++ v28)) fun (v33 : (List (Int × ((List UInt8) × ((Int × (Int × ((List UInt8) × Unit))) × (Int × Unit))))) × Err × Unit) =>
  (bif (!(Err.isNil v33.2.1)) then
  (Option.bind (law16_alive N) fun (v34 : Bool × Unit) =>
  (bif v34.1 then
  (Option.bind (fault_At N v33.2.1) fun (v35 : Int × Unit) =>
  (bif (decide ((v29.length : Int) < v35.1)) then
  (k0 true v30 v31 v32)
  else
  (k0 (decide (1000 < (IntKind.wrap .i64 ((IntKind.wrap .i64 ((v29.length : Int) + 1)) + (v28.length : Int))))) v30 v31 v32)))
  else
  (k0 (decide (1000 < (IntKind.wrap .i64 ((IntKind.wrap .i64 ((v29.length : Int) + 1)) + (v28.length : Int))))) v30 v31 v32)))
  else
  (Option.bind (law16_alive N) fun (v36 : Bool × Unit) =>
  (bif v36.1 then
  (bif (decide (1 < (v33.1.length : Int))) then
  (Option.bind (nth v33.1 0) fun (v37 : (Int × ((List UInt8) × ((Int × (Int × ((List UInt8) × Unit))) × (Int × Unit))))) =>
  (k0 ((decide (v37.2.2.1.1 = v30)) && ((decide (v37.2.2.1.2.1 = v31)) && (decide (v37.2.2.1.2.2.1 = v32)))) v30 v31 v32))
  else
  (k0 false v30 v31 v32))
  else
  (k0 false v30 v31 v32)))))
  else
  none)
  else
  none)

def law16_LexValues_j0 (N : Nat) (R : Type) (k0 : Bool → Int → Int → (List UInt8) → Option R) (v15 : (List UInt8)) (v16 : (List UInt8)) (v17 : Int) (v18 : Int) (v19 : (List UInt8)) : Option R :=
  (Option.bind (lex_Lex N v16) fun (v20 : (List (Int × ((List UInt8) × ((Int × (Int × ((List UInt8) × Unit))) × (Int × Unit))))) × Err × Unit) =>
  (bif (!(Err.isNil v20.2.1)) then
  (k0 false v17 v18 v19)
  else
  (bif (!(decide ((v20.1.length : Int) = 2))) then
  (k0 false v17 v18 v19)
  else
  (Option.bind (nth v20.1 0) fun (v21 : (Int × ((List UInt8) × ((Int × (Int × ((List UInt8) × Unit))) × (Int × Unit))))) =>
  (bif (!((decide (v21.2.2.1.1 = v17)) && ((decide (v21.2.2.1.2.1 = v18)) && (decide (v21.2.2.1.2.2.1 = v19))))) then
  (k0 false v17 v18 v19)
  else
  (Option.bind (nth v20.1 0) fun (v22 : (Int × ((List UInt8) × ((Int × (Int × ((List UInt8) × Unit))) × (Int × Unit))))) =>
  (bif (!(decide (v22.2.2.2.1 = 0))) then
  (k0 false v17 v18 v19)
  else
  (Option.bind (nth v20.1 0) fun (v23 : (Int × ((List UInt8) × ((Int × (Int × ((List UInt8) × Unit))) × (Int × Unit))))) =>
  (bif (!(decide (v23.2.1 = v16))) then
  (k0 false v17 v18 v19)
  else
  (law16_LexValues_j1 N _ (fun (v24 : Bool) (v25 : Int) (v26 : Int) (v27 : (List UInt8)) =>
  (k0 v24 v25 v26 v27)) v15 v16 v17 v18 v19))))))))))

def law16_LexValues_cps (N : Nat) (R : Type) (K : Bool → Option R) (v1 : Int) (v2 : Int) (v3 : (List UInt8)) (v4 : (List UInt8)) : Option R :=
  (Option.bind (value_Text N v1 v2 v3) fun (v5 : (List UInt8) × Unit) =>
  (bif (decide (400 < (v4.length : Int))) then
  (Option.bind (law16_alive N) fun (v6 : Bool × Unit) =>
  (K v6.1))
  else
  (Option.bind (value_Right N v1 v2 v3) fun (v7 : Bool × Unit) =>
  (bif (!v7.1) then
  (Option.bind (law16_alive N) fun (v8 : Bool × Unit) =>
  (K v8.1))
  else
  (bif (decide (v1 < 2)) then
  (Option.bind (law16_alive N) fun (v9 : Bool × Unit) =>
  (K v9.1))
  else
  (bif (decide (v2 < 0)) then
  (Option.bind (law16_alive N) fun (v10 : Bool × Unit) =>
  (K v10.1))
  else
  (law16_LexValues_j0 N _ (fun (v11 : Bool) (v12 : Int) (v13 : Int) (v14 : (List UInt8)) =>
  (K v11)) v4 v5.1 v1 v2 v3)))))))

def law16_LexValues (N : Nat) (v1 : Int) (v2 : Int) (v3 : (List UInt8)) (v4 : (List UInt8)) : Option (Bool × Unit) := law16_LexValues_cps N _ (fun a0 => some (a0, ())) v1 v2 v3 v4

/-- What is to be shown of the law LexValues. -/
def LexValues_Pure : Prop := ∀ x : denA [(.pair (.int .i64) (.pair (.int .i64) (.pair .str .unit))), .str], WfA [(.pair (.int .i64) (.pair (.int .i64) (.pair .str .unit))), .str] x → law16_LexValues big x.1.1 x.1.2.1 x.1.2.2.1 x.2.1 = some (true, ())


end
end Go.Proofs.YtmpglmalfkkokaaGreatDoor.E
