/-
  Pure functions, printed by a program out of the translation.
  Conditions: those that each statement prints, and no other.
-/
import Derived.Test.YtbikfekdakigiaaGreatDoorGPKFa
import Derived.Test.YtbikfekdakigiaaGreatDoorEvA
import Derived.Lib.Bytealg
import Derived.Test.YtbikfekdakigiaaGreatDoorEvL
set_option linter.unusedVariables false
set_option linter.unusedSimpArgs false
namespace Go.Proofs.YtbikfekdakigiaaGreatDoor.E
open Go.Ev
noncomputable section
/-! frankpledge/value.Right -/
def value_Right_cps (N : Nat) (R : Type) (K : Bool → Option R) (v1 : Int) (v2 : Int) (v3 : (List UInt8)) : Option R :=
  (bif (decide (v1 = 1)) then
  (bif (decide (v2 = 1)) then
  (K (decide (v3 = [])))
  else
  (bif (decide (v2 = 0)) then
  (K (decide (v3 = [])))
  else
  (K false)))
  else
  (bif (decide (v1 = 0)) then
  (bif (decide (v2 = 0)) then
  (K (decide (v3 = [])))
  else
  (K false))
  else
  (bif (decide (v1 = 2)) then
  (K (decide (v3 = [])))
  else
  (bif (decide (v1 = 3)) then
  (K (decide (v3 = [])))
  else
  (bif (decide (v1 = 4)) then
  (bif (decide (v2 = 0)) then
  (K (decide ((v3.length : Int) ≤ 200)))
  else
  (K false))
  else
  (bif (decide (v1 = 5)) then
  (bif (decide (v2 = 0)) then
  (K (decide ((v3.length : Int) ≤ 200)))
  else
  (K false))
  else
  (K false)))))))

def value_Right (N : Nat) (v1 : Int) (v2 : Int) (v3 : (List UInt8)) : Option (Bool × Unit) := value_Right_cps N _ (fun a0 => some (a0, ())) v1 v2 v3

/-! internal/strconv.FormatBool -/
def strconv_FormatBool__cps (N : Nat) (R : Type) (K : (List UInt8) → Option R) (v1 : Bool) : Option R :=
  (bif v1 then
  (K [116, 114, 117, 101])
  else
  (K [102, 97, 108, 115, 101]))

def strconv_FormatBool_ (N : Nat) (v1 : Bool) : Option ((List UInt8) × Unit) := strconv_FormatBool__cps N _ (fun a0 => some (a0, ())) v1

/-! strconv.FormatBool -/
def strconv_FormatBool_cps (N : Nat) (R : Type) (K : (List UInt8) → Option R) (v1 : Bool) : Option R :=
  (Option.bind (strconv_FormatBool_ N v1) fun v2 =>
  (K v2.1))

def strconv_FormatBool (N : Nat) (v1 : Bool) : Option ((List UInt8) × Unit) := strconv_FormatBool_cps N _ (fun a0 => some (a0, ())) v1

/-! strconv.FormatInt -/
def strconv_FormatInt_cps (N : Nat) (R : Type) (K : (List UInt8) → Option R) (v1 : Int) (v2 : Int) : Option R :=
  (bif (decide (v2 = 10)) then (K (Lib.itoa v1)) else none)

def strconv_FormatInt (N : Nat) (v1 : Int) (v2 : Int) : Option ((List UInt8) × Unit) := strconv_FormatInt_cps N _ (fun a0 => some (a0, ())) v1 v2

/-! internal/stringslite.CutPrefix -/
def stringslite_CutPrefix_cps (N : Nat) (R : Type) (K : (List UInt8) → Bool → Option R) (v1 : (List UInt8)) (v2 : (List UInt8)) : Option R :=
  (Option.bind (stringslite_HasPrefix N v1 v2) fun v3 =>
  (bif (!v3.1) then
  (K v1 false)
  else
  (bif (decide (0 ≤ (v2.length : Int) ∧ (v2.length : Int) ≤ ((v1.length : Nat) : Int))) then
  (K (List.drop (Int.toNat (v2.length : Int)) (List.take v1.length v1)) true)
  else
  none)))

def stringslite_CutPrefix (N : Nat) (v1 : (List UInt8)) (v2 : (List UInt8)) : Option ((List UInt8) × Bool × Unit) := stringslite_CutPrefix_cps N _ (fun a0 a1 => some (a0, (a1, ()))) v1 v2

/-! strings.CutPrefix -/
def strings_CutPrefix_cps (N : Nat) (R : Type) (K : (List UInt8) → Bool → Option R) (v1 : (List UInt8)) (v2 : (List UInt8)) : Option R :=
  (Option.bind (stringslite_CutPrefix N v1 v2) fun v3 =>
  (K v3.1 v3.2.1))

def strings_CutPrefix (N : Nat) (v1 : (List UInt8)) (v2 : (List UInt8)) : Option ((List UInt8) × Bool × Unit) := strings_CutPrefix_cps N _ (fun a0 a1 => some (a0, (a1, ()))) v1 v2

/-! strings.ReplaceAll -/
def strings_ReplaceAll_cps (N : Nat) (R : Type) (K : (List UInt8) → Option R) (v1 : (List UInt8)) (v2 : (List UInt8)) (v3 : (List UInt8)) : Option R :=
  (bif (decide (v1.length < 4294967281 ∧ 1 ≤ v2.length ∧ v1.length + Lib.count v1 v2 * v3.length ≤ 140737488355328)) then (K (Lib.replaceAll v1 v2 v3)) else none)

def strings_ReplaceAll (N : Nat) (v1 : (List UInt8)) (v2 : (List UInt8)) (v3 : (List UInt8)) : Option ((List UInt8) × Unit) := strings_ReplaceAll_cps N _ (fun a0 => some (a0, ())) v1 v2 v3

/-! frankpledge/value.Text -/
def value_Text_l1B (N : Nat) (R : Type) (rec : (List UInt8) → (List UInt8) → Int → Int → Int → Int → (List UInt8) → Option R) (k0 : (List UInt8) → Int → Int → (List UInt8) → Option R) (v28 : (List UInt8)) (v29 : (List UInt8)) (v30 : Int) (v31 : Int) (v32 : Int) (v33 : Int) (v34 : (List UInt8)) : Option R :=
  (bif (decide (v31 < v30)) then
  (Option.bind (nth v29 v31) fun v35 =>
  (Option.bind (nth ([48, 49, 50, 51, 52, 53, 54, 55, 56, 57, 97, 98, 99, 100, 101, 102] : List UInt8) (Ev.shr .u8 (v35.toNat : Int) 4)) fun v36 =>
  (Option.bind (nth ([48, 49, 50, 51, 52, 53, 54, 55, 56, 57, 97, 98, 99, 100, 101, 102] : List UInt8) (Ev.bits .and .u8 (v35.toNat : Int) 15)) fun v37 =>
  (bif (room 1 (v28.length + ([(UInt8.ofNat (Int.toNat (v36.toNat : Int))), (UInt8.ofNat (Int.toNat (v37.toNat : Int)))] : (List UInt8)).length)) then
  (rec (v28 ++ ([(UInt8.ofNat (Int.toNat (v36.toNat : Int))), (UInt8.ofNat (Int.toNat (v37.toNat : Int)))] : (List UInt8))) v29 v30 (IntKind.wrap .i64 (v31 + 1)) v32 v33 v34)
  else
  none))))
  else
  (k0 v28 v32 v33 v34))

def value_Text_l1 (N : Nat) (R : Type) (k0 : (List UInt8) → Int → Int → (List UInt8) → Option R) : Nat → (List UInt8) → (List UInt8) → Int → Int → Int → Int → (List UInt8) → Option R
  | 0 => fun _ _ _ _ _ _ _ => none
  | n + 1 => value_Text_l1B N R (value_Text_l1 N R k0 n) k0

def value_Text_j0 (N : Nat) (R : Type) (k0 : (List UInt8) → Int → Int → (List UInt8) → Option R) (v23 : (List UInt8)) (v24 : Bool) (v25 : Int) (v26 : Int) (v27 : (List UInt8)) : Option R :=
  (bif (decide (0 ≤ (IntKind.wrap .i64 ((v23.length : Int) - 4)) ∧ (IntKind.wrap .i64 ((v23.length : Int) - 4)) ≤ ((v23.length : Nat) : Int))) then
  (bif (room 1 ((List.drop 0 (List.take (Int.toNat (IntKind.wrap .i64 ((v23.length : Int) - 4))) v23)).length + ([46] : List UInt8).length)) then
  (bif (decide (0 ≤ (IntKind.wrap .i64 ((v23.length : Int) - 4)) ∧ (IntKind.wrap .i64 ((v23.length : Int) - 4)) ≤ ((v23.length : Nat) : Int))) then
  (bif (room 1 (((List.drop 0 (List.take (Int.toNat (IntKind.wrap .i64 ((v23.length : Int) - 4))) v23)) ++ [46]).length + (List.drop (Int.toNat (IntKind.wrap .i64 ((v23.length : Int) - 4))) (List.take v23.length v23)).length)) then
  (bif v24 then
  (bif (room 1 (([45] : List UInt8).length + (((List.drop 0 (List.take (Int.toNat (IntKind.wrap .i64 ((v23.length : Int) - 4))) v23)) ++ [46]) ++ (List.drop (Int.toNat (IntKind.wrap .i64 ((v23.length : Int) - 4))) (List.take v23.length v23))).length)) then
  (k0 ([45] ++ (((List.drop 0 (List.take (Int.toNat (IntKind.wrap .i64 ((v23.length : Int) - 4))) v23)) ++ [46]) ++ (List.drop (Int.toNat (IntKind.wrap .i64 ((v23.length : Int) - 4))) (List.take v23.length v23)))) v25 v26 v27)
  else
  none)
  else
  (k0 (((List.drop 0 (List.take (Int.toNat (IntKind.wrap .i64 ((v23.length : Int) - 4))) v23)) ++ [46]) ++ (List.drop (Int.toNat (IntKind.wrap .i64 ((v23.length : Int) - 4))) (List.take v23.length v23))) v25 v26 v27))
  else
  none)
  else
  none)
  else
  none)
  else
  none)

def value_Text_cps (N : Nat) (R : Type) (K : (List UInt8) → Option R) (v1 : Int) (v2 : Int) (v3 : (List UInt8)) : Option R :=
  (Option.bind (value_Right N v1 v2 v3) fun v4 =>
  (bif (!v4.1) then
  (K [63])
  else
  (bif (decide (v1 = 0)) then
  (K [110, 117, 108, 108])
  else
  (bif (decide (v1 = 1)) then
  (Option.bind (strconv_FormatBool N (decide (v2 = 1))) fun v5 =>
  (K v5.1))
  else
  (bif (decide (v1 = 2)) then
  (Option.bind (strconv_FormatInt N v2 10) fun v6 =>
  (K v6.1))
  else
  (bif (decide (v1 = 3)) then
  (Option.bind (strconv_FormatInt N v2 10) fun v7 =>
  (Option.bind (strings_CutPrefix N v7.1 [45]) fun v8 =>
  (bif (decide ((v8.1.length : Int) < 5)) then
  (Option.bind (strings_Repeat N [48] (IntKind.wrap .i64 (5 - (v8.1.length : Int)))) fun v9 =>
  (bif (room 1 (v9.1.length + v8.1.length)) then
  (value_Text_j0 N _ (fun v10 v11 v12 v13 =>
  (K v10)) (v9.1 ++ v8.1) v8.2.1 v1 v2 v3)
  else
  none))
  else
  (value_Text_j0 N _ (fun v14 v15 v16 v17 =>
  (K v14)) v8.1 v8.2.1 v1 v2 v3))))
  else
  (bif (decide (v1 = 5)) then
  (value_Text_l1 N _ (fun v18 v19 v20 v21 =>
  (bif (room 1 (([120, 39] : List UInt8).length + v18.length)) then
  (bif (room 1 (([120, 39] ++ v18).length + ([39] : List UInt8).length)) then
  (K (([120, 39] ++ v18) ++ [39]))
  else
  none)
  else
  none)) N [] v3 (v3.length : Int) 0 v1 v2 v3)
  else
  (Option.bind (strings_ReplaceAll N v3 [39] [39, 39]) fun v22 =>
  (bif (room 1 (([39] : List UInt8).length + v22.1.length)) then
  (bif (room 1 (([39] ++ v22.1).length + ([39] : List UInt8).length)) then
  (K (([39] ++ v22.1) ++ [39]))
  else
  none)
  else
  none)))))))))

def value_Text (N : Nat) (v1 : Int) (v2 : Int) (v3 : (List UInt8)) : Option ((List UInt8) × Unit) := value_Text_cps N _ (fun a0 => some (a0, ())) v1 v2 v3

/-! The functions about law17_written: they call one another. -/
set_option warn.classDefReducibility false
class Z_law17_written where
  r_law17_written : Int → Int → Int → (List UInt8) → (List UInt8) → (List UInt8) → Int → (List Ex) → Int → Int → Option ((List UInt8) × Unit)

section
variable [Z_law17_written]
/- frankpledge/frankpledgelaw17.written -/
def law17_written_o_j1 (N : Nat) (R : Type) (k0 : (List UInt8) → Int → Int → Int → (List UInt8) → (List UInt8) → (List UInt8) → Int → (List Ex) → Int → Int → Option R) (v58 : (List (List UInt8))) (v59 : Int) (v60 : Int) (v61 : Int) (v62 : (List UInt8)) (v63 : (List UInt8)) (v64 : (List UInt8)) (v65 : Int) (v66 : (List Ex)) (v67 : Int) (v68 : Int) : Option R :=
  (Option.bind (nth v58 0) fun v69 =>
  (bif (room 1 (v69.length + ([32] : List UInt8).length)) then
  (Option.bind (nth ([[43], [45], [42], [47], [], [61], [60, 62], [60], [60, 61], [62], [62, 61], [97, 110, 100], [111, 114]] : (List (List UInt8))) (IntKind.wrap .i64 (v59 - 3))) fun v70 =>
  (bif (room 1 ((v69 ++ [32]).length + v70.length)) then
  (bif (room 1 (((v69 ++ [32]) ++ v70).length + ([32] : List UInt8).length)) then
  (Option.bind (nth v58 1) fun v71 =>
  (bif (room 1 ((((v69 ++ [32]) ++ v70) ++ [32]).length + v71.length)) then
  (k0 ((((v69 ++ [32]) ++ v70) ++ [32]) ++ v71) v59 v60 v61 v62 v63 v64 v65 v66 v67 v68)
  else
  none))
  else
  none)
  else
  none))
  else
  none))

def law17_written_o_l0B (N : Nat) (R : Type) (rec : (List (List UInt8)) → Int → Int → Int → Int → (List UInt8) → (List UInt8) → (List UInt8) → Int → (List Ex) → Int → Int → Option R) (k0 : (List (List UInt8)) → Int → Int → Int → (List UInt8) → (List UInt8) → (List UInt8) → Int → (List Ex) → Int → Int → Option R) (v44 : (List (List UInt8))) (v45 : Int) (v46 : Int) (v47 : Int) (v48 : Int) (v49 : (List UInt8)) (v50 : (List UInt8)) (v51 : (List UInt8)) (v52 : Int) (v53 : (List Ex)) (v54 : Int) (v55 : Int) : Option R :=
  (bif (decide (v45 < (v53.length : Int))) then
  (Option.bind (nth v53 v45) fun v56 =>
  (Option.bind (Z_law17_written.r_law17_written (Ex.op v56) (Ex.vk v56) (Ex.vn v56) (Ex.vs v56) (Ex.tab v56) (Ex.name v56) (Ex.num v56) (Ex.kids v56) (Ex.kind v56) (Ex.at_ v56)) fun v57 =>
  (bif (room 1 (([40] : List UInt8).length + v57.1.length)) then
  (bif (room 1 (([40] ++ v57.1).length + ([41] : List UInt8).length)) then
  (bif (room 16 (v44.length + ([(([40] ++ v57.1) ++ [41])] : (List (List UInt8))).length)) then
  (rec (v44 ++ ([(([40] ++ v57.1) ++ [41])] : (List (List UInt8)))) (IntKind.wrap .i64 (v45 + 1)) v46 v47 v48 v49 v50 v51 v52 v53 v54 v55)
  else
  none)
  else
  none)
  else
  none)))
  else
  (k0 v44 v46 v47 v48 v49 v50 v51 v52 v53 v54 v55))

def law17_written_o_l0 (N : Nat) (R : Type) (k0 : (List (List UInt8)) → Int → Int → Int → (List UInt8) → (List UInt8) → (List UInt8) → Int → (List Ex) → Int → Int → Option R) : Nat → (List (List UInt8)) → Int → Int → Int → Int → (List UInt8) → (List UInt8) → (List UInt8) → Int → (List Ex) → Int → Int → Option R
  | 0 => fun _ _ _ _ _ _ _ _ _ _ _ _ => none
  | n + 1 => law17_written_o_l0B N R (law17_written_o_l0 N R k0 n) k0

def law17_written_o_cps (N : Nat) (R : Type) (K : (List UInt8) → Option R) (v1 : Int) (v2 : Int) (v3 : Int) (v4 : (List UInt8)) (v5 : (List UInt8)) (v6 : (List UInt8)) (v7 : Int) (v8 : (List Ex)) (v9 : Int) (v10 : Int) : Option R :=
  (law17_written_o_l0 N _ (fun v11 v12 v13 v14 v15 v16 v17 v18 v19 v20 v21 =>
  (bif (decide (v12 = 1)) then
  (Option.bind (value_Text N v13 v14 v15) fun v22 =>
  (K v22.1))
  else
  (bif (decide (v12 = 2)) then
  (bif (!(decide (v16 = []))) then
  (bif (room 1 (v16.length + ([46] : List UInt8).length)) then
  (bif (room 1 ((v16 ++ [46]).length + v17.length)) then
  (K ((v16 ++ [46]) ++ v17))
  else
  none)
  else
  none)
  else
  (K v17))
  else
  (bif (decide (v12 = 7)) then
  (Option.bind (nth v11 0) fun v23 =>
  (bif (room 1 (([45, 32] : List UInt8).length + v23.length)) then
  (K ([45, 32] ++ v23))
  else
  none))
  else
  (bif (decide (v12 = 16)) then
  (Option.bind (nth v11 0) fun v24 =>
  (bif (room 1 (([110, 111, 116, 32] : List UInt8).length + v24.length)) then
  (K ([110, 111, 116, 32] ++ v24))
  else
  none))
  else
  (bif (decide (v12 = 17)) then
  (Option.bind (nth v11 0) fun v25 =>
  (bif (room 1 (v25.length + ([32, 105, 115, 32, 110, 117, 108, 108] : List UInt8).length)) then
  (K (v25 ++ [32, 105, 115, 32, 110, 117, 108, 108]))
  else
  none))
  else
  (bif (decide (v12 = 18)) then
  (bif (decide ((v11.length : Int) = 0)) then
  (K [99, 111, 117, 110, 116, 40, 42, 41])
  else
  (Option.bind (nth v11 0) fun v26 =>
  (bif (room 1 (([99, 111, 117, 110, 116] : List UInt8).length + v26.length)) then
  (K ([99, 111, 117, 110, 116] ++ v26))
  else
  none)))
  else
  (bif (decide (v12 = 19)) then
  (Option.bind (nth ([[115, 117, 109], [109, 105, 110], [109, 97, 120]] : (List (List UInt8))) (IntKind.wrap .i64 (v12 - 19))) fun v27 =>
  (Option.bind (nth v11 0) fun v28 =>
  (bif (room 1 (v27.length + v28.length)) then
  (K (v27 ++ v28))
  else
  none)))
  else
  (bif (decide (v12 = 20)) then
  (Option.bind (nth ([[115, 117, 109], [109, 105, 110], [109, 97, 120]] : (List (List UInt8))) (IntKind.wrap .i64 (v12 - 19))) fun v29 =>
  (Option.bind (nth v11 0) fun v30 =>
  (bif (room 1 (v29.length + v30.length)) then
  (K (v29 ++ v30))
  else
  none)))
  else
  (bif (decide (v12 = 21)) then
  (Option.bind (nth ([[115, 117, 109], [109, 105, 110], [109, 97, 120]] : (List (List UInt8))) (IntKind.wrap .i64 (v12 - 19))) fun v31 =>
  (Option.bind (nth v11 0) fun v32 =>
  (bif (room 1 (v31.length + v32.length)) then
  (K (v31 ++ v32))
  else
  none)))
  else
  (law17_written_o_j1 N _ (fun v33 v34 v35 v36 v37 v38 v39 v40 v41 v42 v43 =>
  (K v33)) v11 v12 v13 v14 v15 v16 v17 v18 v19 v20 v21))))))))))) N [] 0 v1 v2 v3 v4 v5 v6 v7 v8 v9 v10)

def law17_written_o (N : Nat) (v1 : Int) (v2 : Int) (v3 : Int) (v4 : (List UInt8)) (v5 : (List UInt8)) (v6 : (List UInt8)) (v7 : Int) (v8 : (List Ex)) (v9 : Int) (v10 : Int) : Option ((List UInt8) × Unit) := law17_written_o_cps N _ (fun a0 => some (a0, ())) v1 v2 v3 v4 v5 v6 v7 v8 v9 v10

end
def Z_law17_written_at (N : Nat) : Nat → Z_law17_written
  | 0 => { r_law17_written := fun _ _ _ _ _ _ _ _ _ _ => none }
  | n + 1 => letI : Z_law17_written := Z_law17_written_at N n; { r_law17_written := (fun a0 a1 a2 a3 a4 a5 a6 a7 a8 a9 => law17_written_o N a0 a1 a2 a3 a4 a5 a6 a7 a8 a9) }

def law17_written (N : Nat) (v1 : Int) (v2 : Int) (v3 : Int) (v4 : (List UInt8)) (v5 : (List UInt8)) (v6 : (List UInt8)) (v7 : Int) (v8 : (List Ex)) (v9 : Int) (v10 : Int) : Option ((List UInt8) × Unit) := letI : Z_law17_written := Z_law17_written_at N N; law17_written_o N v1 v2 v3 v4 v5 v6 v7 v8 v9 v10

/-! frankpledge/parse.Expression -/
def parse_Expression_cps (N : Nat) (R : Type) (K : Int → Int → Int → (List UInt8) → (List UInt8) → (List UInt8) → Int → (List Ex) → Int → Int → Err → Option R) (v1 : (List UInt8)) : Option R :=
  (Option.bind (lex_Lex N v1) fun v2 =>
  (bif (!(Err.isNil v2.2.1)) then
  (Option.bind (fault_At N v2.2.1) fun v3 =>
  (Option.bind (fault_Wrap N v2.2.1 171 v3.1) fun v4 =>
  (bif (!(Err.isNil v4.1)) then
  (K 0 0 0 [] [] [] 0 [] 0 0 v4.1)
  else
  none)))
  else
  (bif (!(Err.isNil Err.nil)) then
  (K 0 0 0 [] [] [] 0 [] 0 0 Err.nil)
  else
  (Option.bind (parse_parser_whole N v2.1 0 Err.nil) fun v5 =>
  (Option.bind (parse_parser_ended N v5.2.2.2.2.2.2.2.2.2.2.1 v5.2.2.2.2.2.2.2.2.2.2.2.1 v5.2.2.2.2.2.2.2.2.2.2.2.2.1) fun v6 =>
  (bif (!(Err.isNil v6.1)) then
  (K 0 0 0 [] [] [] 0 [] 0 0 v6.1)
  else
  (K v5.1 v5.2.1 v5.2.2.1 v5.2.2.2.1 v5.2.2.2.2.1 v5.2.2.2.2.2.1 v5.2.2.2.2.2.2.1 v5.2.2.2.2.2.2.2.1 v5.2.2.2.2.2.2.2.2.1 v5.2.2.2.2.2.2.2.2.2.1 Err.nil)))))))

def parse_Expression (N : Nat) (v1 : (List UInt8)) : Option (Int × Int × Int × (List UInt8) × (List UInt8) × (List UInt8) × Int × (List Ex) × Int × Int × Err × Unit) := parse_Expression_cps N _ (fun a0 a1 a2 a3 a4 a5 a6 a7 a8 a9 a10 => some (a0, (a1, (a2, (a3, (a4, (a5, (a6, (a7, (a8, (a9, (a10, ())))))))))))) v1

/-! The functions about ref17_Same: they call one another. -/
set_option warn.classDefReducibility false
class Z_ref17_Same where
  r_ref17_Same : Int → Int → Int → (List UInt8) → (List UInt8) → (List UInt8) → Int → (List Ex) → Int → Int → Int → Int → Int → (List UInt8) → (List UInt8) → (List UInt8) → Int → (List Ex) → Int → Int → Bool → Option (Bool × Unit)

section
variable [Z_ref17_Same]
/- frankpledge/frankpledgeref17.SameList -/
def ref17_SameList_o_l0B (N : Nat) (R : Type) (rec : (List Ex) → (List Ex) → Bool → Int → Option R) (k0 : Option R) (k1 : Bool → Option R) (v5 : (List Ex)) (v6 : (List Ex)) (v7 : Bool) (v8 : Int) : Option R :=
  (bif (decide (v8 < (v5.length : Int))) then
  (Option.bind (nth v5 v8) fun v9 =>
  (Option.bind (nth v6 v8) fun v10 =>
  (Option.bind (Z_ref17_Same.r_ref17_Same (Ex.op v9) (Ex.vk v9) (Ex.vn v9) (Ex.vs v9) (Ex.tab v9) (Ex.name v9) (Ex.num v9) (Ex.kids v9) (Ex.kind v9) (Ex.at_ v9) (Ex.op v10) (Ex.vk v10) (Ex.vn v10) (Ex.vs v10) (Ex.tab v10) (Ex.name v10) (Ex.num v10) (Ex.kids v10) (Ex.kind v10) (Ex.at_ v10) v7) fun v11 =>
  (bif (!v11.1) then
  (k1 false)
  else
  (rec v5 v6 v7 (IntKind.wrap .i64 (v8 + 1)))))))
  else
  k0)

def ref17_SameList_o_l0 (N : Nat) (R : Type) (k0 : Option R) (k1 : Bool → Option R) : Nat → (List Ex) → (List Ex) → Bool → Int → Option R
  | 0 => fun _ _ _ _ => none
  | n + 1 => ref17_SameList_o_l0B N R (ref17_SameList_o_l0 N R k0 k1 n) k0 k1

def ref17_SameList_o_cps (N : Nat) (R : Type) (K : Bool → Option R) (v1 : (List Ex)) (v2 : (List Ex)) (v3 : Bool) : Option R :=
  (bif (!(decide ((v1.length : Int) = (v2.length : Int)))) then
  (K false)
  else
  (ref17_SameList_o_l0 N _ ((K true)) (fun v4 =>
  (K v4)) N v1 v2 v3 0))

def ref17_SameList_o (N : Nat) (v1 : (List Ex)) (v2 : (List Ex)) (v3 : Bool) : Option (Bool × Unit) := ref17_SameList_o_cps N _ (fun a0 => some (a0, ())) v1 v2 v3

/- frankpledge/frankpledgeref17.Same -/
def ref17_Same_o_cps (N : Nat) (R : Type) (K : Bool → Option R) (v1 : Int) (v2 : Int) (v3 : Int) (v4 : (List UInt8)) (v5 : (List UInt8)) (v6 : (List UInt8)) (v7 : Int) (v8 : (List Ex)) (v9 : Int) (v10 : Int) (v11 : Int) (v12 : Int) (v13 : Int) (v14 : (List UInt8)) (v15 : (List UInt8)) (v16 : (List UInt8)) (v17 : Int) (v18 : (List Ex)) (v19 : Int) (v20 : Int) (v21 : Bool) : Option R :=
  (bif (!(decide (v1 = v11))) then
  (K false)
  else
  (bif (!((decide (v2 = v12)) && ((decide (v3 = v13)) && (decide (v4 = v14))))) then
  (K false)
  else
  (bif (!(decide (v5 = v15))) then
  (K false)
  else
  (bif (!(decide (v6 = v16))) then
  (K false)
  else
  (bif (!(decide (v7 = v17))) then
  (K false)
  else
  (bif (!(decide (v9 = v19))) then
  (K false)
  else
  (bif v21 then
  (bif (!(decide (v10 = v20))) then
  (K false)
  else
  (bif (!(decide ((v8.length : Int) = (v18.length : Int)))) then
  (K false)
  else
  (Option.bind (ref17_SameList_o N v8 v18 v21) fun v22 =>
  (K v22.1))))
  else
  (bif (!(decide ((v8.length : Int) = (v18.length : Int)))) then
  (K false)
  else
  (Option.bind (ref17_SameList_o N v8 v18 v21) fun v23 =>
  (K v23.1))))))))))

def ref17_Same_o (N : Nat) (v1 : Int) (v2 : Int) (v3 : Int) (v4 : (List UInt8)) (v5 : (List UInt8)) (v6 : (List UInt8)) (v7 : Int) (v8 : (List Ex)) (v9 : Int) (v10 : Int) (v11 : Int) (v12 : Int) (v13 : Int) (v14 : (List UInt8)) (v15 : (List UInt8)) (v16 : (List UInt8)) (v17 : Int) (v18 : (List Ex)) (v19 : Int) (v20 : Int) (v21 : Bool) : Option (Bool × Unit) := ref17_Same_o_cps N _ (fun a0 => some (a0, ())) v1 v2 v3 v4 v5 v6 v7 v8 v9 v10 v11 v12 v13 v14 v15 v16 v17 v18 v19 v20 v21

end
def Z_ref17_Same_at (N : Nat) : Nat → Z_ref17_Same
  | 0 => { r_ref17_Same := fun _ _ _ _ _ _ _ _ _ _ _ _ _ _ _ _ _ _ _ _ _ => none }
  | n + 1 => letI : Z_ref17_Same := Z_ref17_Same_at N n; { r_ref17_Same := (fun a0 a1 a2 a3 a4 a5 a6 a7 a8 a9 a10 a11 a12 a13 a14 a15 a16 a17 a18 a19 a20 => ref17_Same_o N a0 a1 a2 a3 a4 a5 a6 a7 a8 a9 a10 a11 a12 a13 a14 a15 a16 a17 a18 a19 a20) }

def ref17_SameList (N : Nat) (v1 : (List Ex)) (v2 : (List Ex)) (v3 : Bool) : Option (Bool × Unit) := letI : Z_ref17_Same := Z_ref17_Same_at N N; ref17_SameList_o N v1 v2 v3

def ref17_Same (N : Nat) (v1 : Int) (v2 : Int) (v3 : Int) (v4 : (List UInt8)) (v5 : (List UInt8)) (v6 : (List UInt8)) (v7 : Int) (v8 : (List Ex)) (v9 : Int) (v10 : Int) (v11 : Int) (v12 : Int) (v13 : Int) (v14 : (List UInt8)) (v15 : (List UInt8)) (v16 : (List UInt8)) (v17 : Int) (v18 : (List Ex)) (v19 : Int) (v20 : Int) (v21 : Bool) : Option (Bool × Unit) := letI : Z_ref17_Same := Z_ref17_Same_at N N; ref17_Same_o N v1 v2 v3 v4 v5 v6 v7 v8 v9 v10 v11 v12 v13 v14 v15 v16 v17 v18 v19 v20 v21

/-! The functions about parse_Deep: they call one another. -/
set_option warn.classDefReducibility false
class Z_parse_Deep where
  r_parse_Deep : Int → Int → Int → (List UInt8) → (List UInt8) → (List UInt8) → Int → (List Ex) → Int → Int → Option (Int × Unit)

section
variable [Z_parse_Deep]
/- frankpledge/parse.Deep -/
def parse_Deep_o_l0B (N : Nat) (R : Type) (rec : Int → (List Ex) → Int → Int → Int → Int → Int → (List UInt8) → (List UInt8) → (List UInt8) → Int → (List Ex) → Int → Int → Option R) (k0 : Int → Int → Int → Int → (List UInt8) → (List UInt8) → (List UInt8) → Int → (List Ex) → Int → Int → Option R) (v22 : Int) (v23 : (List Ex)) (v24 : Int) (v25 : Int) (v26 : Int) (v27 : Int) (v28 : Int) (v29 : (List UInt8)) (v30 : (List UInt8)) (v31 : (List UInt8)) (v32 : Int) (v33 : (List Ex)) (v34 : Int) (v35 : Int) : Option R :=
  (bif (decide (v25 < v24)) then
  (Option.bind (nth v23 v25) fun v36 =>
  (Option.bind (Z_parse_Deep.r_parse_Deep (Ex.op v36) (Ex.vk v36) (Ex.vn v36) (Ex.vs v36) (Ex.tab v36) (Ex.name v36) (Ex.num v36) (Ex.kids v36) (Ex.kind v36) (Ex.at_ v36)) fun v37 =>
  (rec (maxI v22 v37.1) v23 v24 (IntKind.wrap .i64 (v25 + 1)) v26 v27 v28 v29 v30 v31 v32 v33 v34 v35)))
  else
  (k0 v22 v26 v27 v28 v29 v30 v31 v32 v33 v34 v35))

def parse_Deep_o_l0 (N : Nat) (R : Type) (k0 : Int → Int → Int → Int → (List UInt8) → (List UInt8) → (List UInt8) → Int → (List Ex) → Int → Int → Option R) : Nat → Int → (List Ex) → Int → Int → Int → Int → Int → (List UInt8) → (List UInt8) → (List UInt8) → Int → (List Ex) → Int → Int → Option R
  | 0 => fun _ _ _ _ _ _ _ _ _ _ _ _ _ _ => none
  | n + 1 => parse_Deep_o_l0B N R (parse_Deep_o_l0 N R k0 n) k0

def parse_Deep_o_cps (N : Nat) (R : Type) (K : Int → Option R) (v1 : Int) (v2 : Int) (v3 : Int) (v4 : (List UInt8)) (v5 : (List UInt8)) (v6 : (List UInt8)) (v7 : Int) (v8 : (List Ex)) (v9 : Int) (v10 : Int) : Option R :=
  (parse_Deep_o_l0 N _ (fun v11 v12 v13 v14 v15 v16 v17 v18 v19 v20 v21 =>
  (bif (decide (v12 = 0)) then
  (bif (decide ((v19.length : Int) = 0)) then
  (K 0)
  else
  (K (IntKind.wrap .i64 (v11 + 1))))
  else
  (K (IntKind.wrap .i64 (v11 + 1))))) N 0 v8 (v8.length : Int) 0 v1 v2 v3 v4 v5 v6 v7 v8 v9 v10)

def parse_Deep_o (N : Nat) (v1 : Int) (v2 : Int) (v3 : Int) (v4 : (List UInt8)) (v5 : (List UInt8)) (v6 : (List UInt8)) (v7 : Int) (v8 : (List Ex)) (v9 : Int) (v10 : Int) : Option (Int × Unit) := parse_Deep_o_cps N _ (fun a0 => some (a0, ())) v1 v2 v3 v4 v5 v6 v7 v8 v9 v10

end
def Z_parse_Deep_at (N : Nat) : Nat → Z_parse_Deep
  | 0 => { r_parse_Deep := fun _ _ _ _ _ _ _ _ _ _ => none }
  | n + 1 => letI : Z_parse_Deep := Z_parse_Deep_at N n; { r_parse_Deep := (fun a0 a1 a2 a3 a4 a5 a6 a7 a8 a9 => parse_Deep_o N a0 a1 a2 a3 a4 a5 a6 a7 a8 a9) }

def parse_Deep (N : Nat) (v1 : Int) (v2 : Int) (v3 : Int) (v4 : (List UInt8)) (v5 : (List UInt8)) (v6 : (List UInt8)) (v7 : Int) (v8 : (List Ex)) (v9 : Int) (v10 : Int) : Option (Int × Unit) := letI : Z_parse_Deep := Z_parse_Deep_at N N; parse_Deep_o N v1 v2 v3 v4 v5 v6 v7 v8 v9 v10

/-! frankpledge/frankpledgelaw17.ParseBack -/
def law17_ParseBack_j1 (N : Nat) (R : Type) (k0 : Bool → Int → Int → Int → (List UInt8) → (List UInt8) → (List UInt8) → Int → (List Ex) → Int → Int → Int → Int → Int → (List UInt8) → (List UInt8) → (List UInt8) → Int → (List Ex) → Int → Int → Int → (List UInt8) → (List UInt8) → Int → Int → Int → (List UInt8) → (List UInt8) → (List UInt8) → Int → (List Ex) → Int → Int → Int → Int → Int → (List UInt8) → (List UInt8) → (List UInt8) → Int → (List Ex) → Int → Int → (List Ex) → (List Ex) → (List (Ex × (Bool × Unit))) → Int → (List (List Ex)) → (List ((List UInt8) × (Ex × (Int × Unit)))) → Int → Option R) (v66 : Int) (v67 : Int) (v68 : Int) (v69 : (List UInt8)) (v70 : (List UInt8)) (v71 : (List UInt8)) (v72 : Int) (v73 : (List Ex)) (v74 : Int) (v75 : Int) (v76 : Int) (v77 : Int) (v78 : Int) (v79 : (List UInt8)) (v80 : (List UInt8)) (v81 : (List UInt8)) (v82 : Int) (v83 : (List Ex)) (v84 : Int) (v85 : Int) (v86 : Int) (v87 : (List UInt8)) (v88 : (List UInt8)) (v89 : Int) (v90 : Int) (v91 : Int) (v92 : (List UInt8)) (v93 : (List UInt8)) (v94 : (List UInt8)) (v95 : Int) (v96 : (List Ex)) (v97 : Int) (v98 : Int) (v99 : Int) (v100 : Int) (v101 : Int) (v102 : (List UInt8)) (v103 : (List UInt8)) (v104 : (List UInt8)) (v105 : Int) (v106 : (List Ex)) (v107 : Int) (v108 : Int) (v109 : (List Ex)) (v110 : (List Ex)) (v111 : (List (Ex × (Bool × Unit)))) (v112 : Int) (v113 : (List (List Ex))) (v114 : (List ((List UInt8) × (Ex × (Int × Unit))))) (v115 : Int) : Option R :=
  (Option.bind (nth v109 0) fun v116 =>
  (Option.bind (ref17_Same N (Ex.op v116) (Ex.vk v116) (Ex.vn v116) (Ex.vs v116) (Ex.tab v116) (Ex.name v116) (Ex.num v116) (Ex.kids v116) (Ex.kind v116) (Ex.at_ v116) v66 v67 v68 v69 v70 v71 v72 v73 v74 v75 false) fun v117 =>
  (Option.bind (ref17_Same N v99 v100 v101 v102 v103 v104 v105 v106 v107 v108 v66 v67 v68 v69 v70 v71 v72 v73 v74 v75 false) fun v118 =>
  (Option.bind (law17_alive N) fun v119 =>
  (bif v119.1 then
  (bif v117.1 then
  (bif v118.1 then
  (Option.bind (parse_Deep N v76 v77 v78 v79 v80 v81 v82 v83 v84 v85) fun v120 =>
  (Option.bind (parse_Deep N v66 v67 v68 v69 v70 v71 v72 v73 v74 v75) fun v121 =>
  (k0 (decide (v120.1 = v121.1)) v66 v67 v68 v69 v70 v71 v72 v73 v74 v75 v76 v77 v78 v79 v80 v81 v82 v83 v84 v85 v86 v87 v88 v89 v90 v91 v92 v93 v94 v95 v96 v97 v98 v99 v100 v101 v102 v103 v104 v105 v106 v107 v108 v109 v110 v111 v112 v113 v114 v115)))
  else
  (k0 false v66 v67 v68 v69 v70 v71 v72 v73 v74 v75 v76 v77 v78 v79 v80 v81 v82 v83 v84 v85 v86 v87 v88 v89 v90 v91 v92 v93 v94 v95 v96 v97 v98 v99 v100 v101 v102 v103 v104 v105 v106 v107 v108 v109 v110 v111 v112 v113 v114 v115))
  else
  (k0 false v66 v67 v68 v69 v70 v71 v72 v73 v74 v75 v76 v77 v78 v79 v80 v81 v82 v83 v84 v85 v86 v87 v88 v89 v90 v91 v92 v93 v94 v95 v96 v97 v98 v99 v100 v101 v102 v103 v104 v105 v106 v107 v108 v109 v110 v111 v112 v113 v114 v115))
  else
  (k0 false v66 v67 v68 v69 v70 v71 v72 v73 v74 v75 v76 v77 v78 v79 v80 v81 v82 v83 v84 v85 v86 v87 v88 v89 v90 v91 v92 v93 v94 v95 v96 v97 v98 v99 v100 v101 v102 v103 v104 v105 v106 v107 v108 v109 v110 v111 v112 v113 v114 v115))))))

def law17_ParseBack_l0B (N : Nat) (R : Type) (rec : (List (Int × (Int × ((List UInt8) × (Bool × Unit))))) → Int → Option R) (k0 : (List (Int × (Int × ((List UInt8) × (Bool × Unit))))) → Option R) (k1 : (List (Int × (Int × ((List UInt8) × (Bool × Unit))))) → Bool → Option R) (v62 : (List (Int × (Int × ((List UInt8) × (Bool × Unit)))))) (v63 : Int) : Option R :=
  (bif (decide (v63 < (v62.length : Int))) then
  (Option.bind (nth v62 v63) fun v64 =>
  (bif (decide (20 < (v64.2.2.1.length : Int))) then
  (Option.bind (law17_alive N) fun v65 =>
  (k1 v62 v65.1))
  else
  (rec v62 (IntKind.wrap .i64 (v63 + 1)))))
  else
  (k0 v62))

def law17_ParseBack_l0 (N : Nat) (R : Type) (k0 : (List (Int × (Int × ((List UInt8) × (Bool × Unit))))) → Option R) (k1 : (List (Int × (Int × ((List UInt8) × (Bool × Unit))))) → Bool → Option R) : Nat → (List (Int × (Int × ((List UInt8) × (Bool × Unit))))) → Int → Option R
  | 0 => fun _ _ => none
  | n + 1 => law17_ParseBack_l0B N R (law17_ParseBack_l0 N R k0 k1 n) k0 k1

def law17_ParseBack_cps (N : Nat) (R : Type) (K : Bool → Option R) (v1 : (List (Int × (Int × ((List UInt8) × (Bool × Unit)))))) : Option R :=
  (law17_ParseBack_l0 N _ (fun v2 =>
  (Option.bind (law17_built N v2 8) fun v3 =>
  (Option.bind (law17_written N v3.1 v3.2.1 v3.2.2.1 v3.2.2.2.1 v3.2.2.2.2.1 v3.2.2.2.2.2.1 v3.2.2.2.2.2.2.1 v3.2.2.2.2.2.2.2.1 v3.2.2.2.2.2.2.2.2.1 v3.2.2.2.2.2.2.2.2.2.1) fun v4 =>
  (bif (decide (450 < (v4.1.length : Int))) then
  (Option.bind (law17_alive N) fun v5 =>
  (K v5.1))
  else
  (Option.bind (parse_Expression N v4.1) fun v6 =>
  (bif (room 1 (([115, 101, 108, 101, 99, 116, 32] : List UInt8).length + v4.1.length)) then
  (bif (room 1 (([115, 101, 108, 101, 99, 116, 32] ++ v4.1).length + ([32, 102, 114, 111, 109, 32, 116, 32, 119, 104, 101, 114, 101, 32] : List UInt8).length)) then
  (bif (room 1 ((([115, 101, 108, 101, 99, 116, 32] ++ v4.1) ++ [32, 102, 114, 111, 109, 32, 116, 32, 119, 104, 101, 114, 101, 32]).length + v4.1.length)) then
  (Option.bind (parse_Parse N ((([115, 101, 108, 101, 99, 116, 32] ++ v4.1) ++ [32, 102, 114, 111, 109, 32, 116, 32, 119, 104, 101, 114, 101, 32]) ++ v4.1)) fun v7 =>
  (Option.bind (ref17_Same N v6.1 v6.2.1 v6.2.2.1 v6.2.2.2.1 v6.2.2.2.2.1 v6.2.2.2.2.2.1 v6.2.2.2.2.2.2.1 v6.2.2.2.2.2.2.2.1 v6.2.2.2.2.2.2.2.2.1 v6.2.2.2.2.2.2.2.2.2.1 v3.1 v3.2.1 v3.2.2.1 v3.2.2.2.1 v3.2.2.2.2.1 v3.2.2.2.2.2.1 v3.2.2.2.2.2.2.1 v3.2.2.2.2.2.2.2.1 v3.2.2.2.2.2.2.2.2.1 v3.2.2.2.2.2.2.2.2.2.1 false) fun v8 =>
  (bif (!(Err.isNil v6.2.2.2.2.2.2.2.2.2.2.1)) then
  (K false)
  else
  (bif (!(Err.isNil v7.2.2.2.2.2.2.2.2.2.2.2.2.2.2.2.2.2.2.2.2.2.2.2.2.2.2.2.2.2.2.1)) then
  (K false)
  else
  (bif (!v8.1) then
  (K false)
  else
  (bif (!(decide ((v7.2.2.2.2.2.2.2.2.2.2.2.2.2.2.2.2.2.2.2.2.2.2.2.1.length : Int) = 1))) then
  (K false)
  else
  (law17_ParseBack_j1 N _ (fun v9 v10 v11 v12 v13 v14 v15 v16 v17 v18 v19 v20 v21 v22 v23 v24 v25 v26 v27 v28 v29 v30 v31 v32 v33 v34 v35 v36 v37 v38 v39 v40 v41 v42 v43 v44 v45 v46 v47 v48 v49 v50 v51 v52 v53 v54 v55 v56 v57 v58 v59 =>
  (K v9)) v3.1 v3.2.1 v3.2.2.1 v3.2.2.2.1 v3.2.2.2.2.1 v3.2.2.2.2.2.1 v3.2.2.2.2.2.2.1 v3.2.2.2.2.2.2.2.1 v3.2.2.2.2.2.2.2.2.1 v3.2.2.2.2.2.2.2.2.2.1 v6.1 v6.2.1 v6.2.2.1 v6.2.2.2.1 v6.2.2.2.2.1 v6.2.2.2.2.2.1 v6.2.2.2.2.2.2.1 v6.2.2.2.2.2.2.2.1 v6.2.2.2.2.2.2.2.2.1 v6.2.2.2.2.2.2.2.2.2.1 v7.1 v7.2.1 v7.2.2.1 v7.2.2.2.1 v7.2.2.2.2.1 v7.2.2.2.2.2.1 v7.2.2.2.2.2.2.1 v7.2.2.2.2.2.2.2.1 v7.2.2.2.2.2.2.2.2.1 v7.2.2.2.2.2.2.2.2.2.1 v7.2.2.2.2.2.2.2.2.2.2.1 v7.2.2.2.2.2.2.2.2.2.2.2.1 v7.2.2.2.2.2.2.2.2.2.2.2.2.1 v7.2.2.2.2.2.2.2.2.2.2.2.2.2.1 v7.2.2.2.2.2.2.2.2.2.2.2.2.2.2.1 v7.2.2.2.2.2.2.2.2.2.2.2.2.2.2.2.1 v7.2.2.2.2.2.2.2.2.2.2.2.2.2.2.2.2.1 v7.2.2.2.2.2.2.2.2.2.2.2.2.2.2.2.2.2.1 v7.2.2.2.2.2.2.2.2.2.2.2.2.2.2.2.2.2.2.1 v7.2.2.2.2.2.2.2.2.2.2.2.2.2.2.2.2.2.2.2.1 v7.2.2.2.2.2.2.2.2.2.2.2.2.2.2.2.2.2.2.2.2.1 v7.2.2.2.2.2.2.2.2.2.2.2.2.2.2.2.2.2.2.2.2.2.1 v7.2.2.2.2.2.2.2.2.2.2.2.2.2.2.2.2.2.2.2.2.2.2.1 v7.2.2.2.2.2.2.2.2.2.2.2.2.2.2.2.2.2.2.2.2.2.2.2.1 v7.2.2.2.2.2.2.2.2.2.2.2.2.2.2.2.2.2.2.2.2.2.2.2.2.1 v7.2.2.2.2.2.2.2.2.2.2.2.2.2.2.2.2.2.2.2.2.2.2.2.2.2.1 v7.2.2.2.2.2.2.2.2.2.2.2.2.2.2.2.2.2.2.2.2.2.2.2.2.2.2.1 v7.2.2.2.2.2.2.2.2.2.2.2.2.2.2.2.2.2.2.2.2.2.2.2.2.2.2.2.1 v7.2.2.2.2.2.2.2.2.2.2.2.2.2.2.2.2.2.2.2.2.2.2.2.2.2.2.2.2.1 v7.2.2.2.2.2.2.2.2.2.2.2.2.2.2.2.2.2.2.2.2.2.2.2.2.2.2.2.2.2.1)))))))
  else
  none)
  else
  none)
  else
  none)))))) (fun v60 v61 =>
  (K v61)) N v1 0)

def law17_ParseBack (N : Nat) (v1 : (List (Int × (Int × ((List UInt8) × (Bool × Unit)))))) : Option (Bool × Unit) := law17_ParseBack_cps N _ (fun a0 => some (a0, ())) v1

/-- What is to be shown of the law ParseBack. -/
def ParseBack_Pure : Prop := ∀ x : denA [(.slice (.pair (.int .i64) (.pair (.int .i64) (.pair .str (.pair .bool .unit)))))], WfA [(.slice (.pair (.int .i64) (.pair (.int .i64) (.pair .str (.pair .bool .unit)))))] x → law17_ParseBack big x.1 = some (true, ())


end
end Go.Proofs.YtbikfekdakigiaaGreatDoor.E
