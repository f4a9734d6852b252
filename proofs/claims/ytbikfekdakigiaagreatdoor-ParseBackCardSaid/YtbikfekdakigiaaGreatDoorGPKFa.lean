/-
  Pure functions, printed by a program out of the translation.
  Conditions: those that each statement prints, and no other.
-/
import Derived.Test.YtbikfekdakigiaaGreatDoorEvA
import Derived.Lib.Bytealg
import Derived.Test.YtbikfekdakigiaaGreatDoorEvL
set_option linter.unusedVariables false
set_option linter.unusedSimpArgs false
/-! Pure functions, printed by wip/gen out of the translation. -/
namespace Go.Proofs.YtbikfekdakigiaaGreatDoor.E
open Go.Ev
noncomputable section
abbrev Q0 : Type := List (Int × ((List UInt8) × ((Int × (Int × ((List UInt8) × Unit))) × (Int × Unit))))
abbrev Q1 : Type := Int × Int × Int × (List UInt8) × (List UInt8) × (List UInt8) × Int × (List Ex) × Int × Int × Q0 × Int × Err × Unit
def bs0 : List UInt8 := [115, 101, 108, 101, 99, 116, 32, 97, 32, 43, 32, 49, 32, 102, 114, 111, 109, 32, 116, 32, 119, 104, 101, 114, 101, 32, 110, 111, 116, 32, 98, 32, 108, 105, 109, 105, 116, 32, 51]
/-! frankpledge/fault.New -/
def fault_New_cps (N : Nat) (R : Type) (K : Err → Option R) (v1 : Int) (v2 : Int) : Option R :=
  (bif (decide (v1 = 0)) then
  (K Err.nil)
  else
  (K (Err.fault v1 v2 Err.nil)))

def fault_New (N : Nat) (v1 : Int) (v2 : Int) : Option (Err × Unit) := fault_New_cps N _ (fun a0 => some (a0, ())) v1 v2

/-! frankpledge/lex.of -/
def lex_of_cps (N : Nat) (R : Type) (K : Int → Option R) (v1 : Int) : Option R :=
  (bif (decide (97 ≤ v1)) then
  (bif (decide (v1 ≤ 122)) then
  (K 2)
  else
  (bif (decide (65 ≤ v1)) then
  (bif (decide (v1 ≤ 90)) then
  (K 2)
  else
  (bif (decide (48 ≤ v1)) then
  (bif (decide (v1 ≤ 57)) then
  (K 3)
  else
  (bif (decide (v1 = 32)) then
  (K 1)
  else
  (bif (decide (v1 = 9)) then
  (K 1)
  else
  (bif (decide (v1 = 10)) then
  (K 1)
  else
  (bif (decide (v1 = 13)) then
  (K 1)
  else
  (bif (decide (v1 = 95)) then
  (K 4)
  else
  (K 0)))))))
  else
  (bif (decide (v1 = 32)) then
  (K 1)
  else
  (bif (decide (v1 = 9)) then
  (K 1)
  else
  (bif (decide (v1 = 10)) then
  (K 1)
  else
  (bif (decide (v1 = 13)) then
  (K 1)
  else
  (bif (decide (v1 = 95)) then
  (K 4)
  else
  (K 0))))))))
  else
  (bif (decide (48 ≤ v1)) then
  (bif (decide (v1 ≤ 57)) then
  (K 3)
  else
  (bif (decide (v1 = 32)) then
  (K 1)
  else
  (bif (decide (v1 = 9)) then
  (K 1)
  else
  (bif (decide (v1 = 10)) then
  (K 1)
  else
  (bif (decide (v1 = 13)) then
  (K 1)
  else
  (bif (decide (v1 = 95)) then
  (K 4)
  else
  (K 0)))))))
  else
  (bif (decide (v1 = 32)) then
  (K 1)
  else
  (bif (decide (v1 = 9)) then
  (K 1)
  else
  (bif (decide (v1 = 10)) then
  (K 1)
  else
  (bif (decide (v1 = 13)) then
  (K 1)
  else
  (bif (decide (v1 = 95)) then
  (K 4)
  else
  (K 0)))))))))
  else
  (bif (decide (65 ≤ v1)) then
  (bif (decide (v1 ≤ 90)) then
  (K 2)
  else
  (bif (decide (48 ≤ v1)) then
  (bif (decide (v1 ≤ 57)) then
  (K 3)
  else
  (bif (decide (v1 = 32)) then
  (K 1)
  else
  (bif (decide (v1 = 9)) then
  (K 1)
  else
  (bif (decide (v1 = 10)) then
  (K 1)
  else
  (bif (decide (v1 = 13)) then
  (K 1)
  else
  (bif (decide (v1 = 95)) then
  (K 4)
  else
  (K 0)))))))
  else
  (bif (decide (v1 = 32)) then
  (K 1)
  else
  (bif (decide (v1 = 9)) then
  (K 1)
  else
  (bif (decide (v1 = 10)) then
  (K 1)
  else
  (bif (decide (v1 = 13)) then
  (K 1)
  else
  (bif (decide (v1 = 95)) then
  (K 4)
  else
  (K 0))))))))
  else
  (bif (decide (48 ≤ v1)) then
  (bif (decide (v1 ≤ 57)) then
  (K 3)
  else
  (bif (decide (v1 = 32)) then
  (K 1)
  else
  (bif (decide (v1 = 9)) then
  (K 1)
  else
  (bif (decide (v1 = 10)) then
  (K 1)
  else
  (bif (decide (v1 = 13)) then
  (K 1)
  else
  (bif (decide (v1 = 95)) then
  (K 4)
  else
  (K 0)))))))
  else
  (bif (decide (v1 = 32)) then
  (K 1)
  else
  (bif (decide (v1 = 9)) then
  (K 1)
  else
  (bif (decide (v1 = 10)) then
  (K 1)
  else
  (bif (decide (v1 = 13)) then
  (K 1)
  else
  (bif (decide (v1 = 95)) then
  (K 4)
  else
  (K 0)))))))))

def lex_of (N : Nat) (v1 : Int) : Option (Int × Unit) := lex_of_cps N _ (fun a0 => some (a0, ())) v1

/-! frankpledge/lex.quoted -/
def lex_quoted_l0B (N : Nat) (R : Type) (rec : (List UInt8) → (List UInt8) → Int → Option R) (k0 : Option R) (k1 : (List UInt8) → Int → Option R) (v4 : (List UInt8)) (v5 : (List UInt8)) (v6 : Int) : Option R :=
  (bif (decide (v6 < (v4.length : Int))) then
  (Option.bind (nth v4 v6) fun v7 =>
  (bif (decide ((v7.toNat : Int) = 39)) then
  (bif (decide ((IntKind.wrap .i64 (v6 + 1)) = (v4.length : Int))) then
  (k1 v5 (IntKind.wrap .i64 (v6 + 1)))
  else
  (Option.bind (nth v4 (IntKind.wrap .i64 (v6 + 1))) fun v8 =>
  (bif (!(decide ((v8.toNat : Int) = 39))) then
  (k1 v5 (IntKind.wrap .i64 (v6 + 1)))
  else
  (Option.bind (nth v4 (IntKind.wrap .i64 (v6 + 1))) fun v9 =>
  (bif (room 1 (v5.length + ([(UInt8.ofNat (Int.toNat (v9.toNat : Int)))] : (List UInt8)).length)) then
  (rec v4 (v5 ++ ([(UInt8.ofNat (Int.toNat (v9.toNat : Int)))] : (List UInt8))) (IntKind.wrap .i64 ((IntKind.wrap .i64 (v6 + 1)) + 1)))
  else
  none)))))
  else
  (Option.bind (nth v4 v6) fun v10 =>
  (bif (room 1 (v5.length + ([(UInt8.ofNat (Int.toNat (v10.toNat : Int)))] : (List UInt8)).length)) then
  (rec v4 (v5 ++ ([(UInt8.ofNat (Int.toNat (v10.toNat : Int)))] : (List UInt8))) (IntKind.wrap .i64 (v6 + 1)))
  else
  none))))
  else
  k0)

def lex_quoted_l0 (N : Nat) (R : Type) (k0 : Option R) (k1 : (List UInt8) → Int → Option R) : Nat → (List UInt8) → (List UInt8) → Int → Option R
  | 0 => fun _ _ _ => none
  | n + 1 => lex_quoted_l0B N R (lex_quoted_l0 N R k0 k1 n) k0 k1

def lex_quoted_cps (N : Nat) (R : Type) (K : (List UInt8) → Int → Option R) (v1 : (List UInt8)) : Option R :=
  (lex_quoted_l0 N _ ((K [] 0)) (fun v2 v3 =>
  (K v2 v3)) N v1 [] 1)

def lex_quoted (N : Nat) (v1 : (List UInt8)) : Option ((List UInt8) × Int × Unit) := lex_quoted_cps N _ (fun a0 a1 => some (a0, (a1, ()))) v1

/-! internal/bytealg.IndexByteString -/
def bytealg_IndexByteString_cps (N : Nat) (R : Type) (K : Int → Option R) (v1 : (List UInt8)) (v2 : Int) : Option R :=
  (K (Lib.indexByte v1 (Int.toNat v2).toUInt8))

def bytealg_IndexByteString (N : Nat) (v1 : (List UInt8)) (v2 : Int) : Option (Int × Unit) := bytealg_IndexByteString_cps N _ (fun a0 => some (a0, ())) v1 v2

/-! internal/stringslite.IndexByte -/
def stringslite_IndexByte_cps (N : Nat) (R : Type) (K : Int → Option R) (v1 : (List UInt8)) (v2 : Int) : Option R :=
  (Option.bind (bytealg_IndexByteString N v1 v2) fun v3 =>
  (K v3.1))

def stringslite_IndexByte (N : Nat) (v1 : (List UInt8)) (v2 : Int) : Option (Int × Unit) := stringslite_IndexByte_cps N _ (fun a0 => some (a0, ())) v1 v2

/-! strings.IndexByte -/
def strings_IndexByte_cps (N : Nat) (R : Type) (K : Int → Option R) (v1 : (List UInt8)) (v2 : Int) : Option R :=
  (Option.bind (stringslite_IndexByte N v1 v2) fun v3 =>
  (K v3.1))

def strings_IndexByte (N : Nat) (v1 : (List UInt8)) (v2 : Int) : Option (Int × Unit) := strings_IndexByte_cps N _ (fun a0 => some (a0, ())) v1 v2

/-! frankpledge/lex.hex -/
def lex_hex_cps (N : Nat) (R : Type) (K : Int → Option R) (v1 : Int) : Option R :=
  (bif (decide (65 ≤ v1)) then
  (bif (decide (v1 ≤ 70)) then
  (Option.bind (strings_IndexByte N [48, 49, 50, 51, 52, 53, 54, 55, 56, 57, 97, 98, 99, 100, 101, 102] (IntKind.wrap .u8 (v1 + 32))) fun v2 =>
  (K v2.1))
  else
  (Option.bind (strings_IndexByte N [48, 49, 50, 51, 52, 53, 54, 55, 56, 57, 97, 98, 99, 100, 101, 102] v1) fun v3 =>
  (K v3.1)))
  else
  (Option.bind (strings_IndexByte N [48, 49, 50, 51, 52, 53, 54, 55, 56, 57, 97, 98, 99, 100, 101, 102] v1) fun v4 =>
  (K v4.1)))

def lex_hex (N : Nat) (v1 : Int) : Option (Int × Unit) := lex_hex_cps N _ (fun a0 => some (a0, ())) v1

/-! frankpledge/lex.raw -/
def lex_raw_l1B (N : Nat) (R : Type) (rec : (List UInt8) → (List UInt8) → Int → (List UInt8) → Int → (List UInt8) → Int → Int → (List UInt8) → Int → Option R) (k0 : (List UInt8) → Int → (List UInt8) → Int → (List UInt8) → Int → Int → (List UInt8) → Int → Option R) (k1 : (List UInt8) → Int → (List UInt8) → Int → (List UInt8) → Int → Int → (List UInt8) → Int → Option R) (v36 : (List UInt8)) (v37 : (List UInt8)) (v38 : Int) (v39 : (List UInt8)) (v40 : Int) (v41 : (List UInt8)) (v42 : Int) (v43 : Int) (v44 : (List UInt8)) (v45 : Int) : Option R :=
  (bif (!(decide (v37 = []))) then
  (Option.bind (nth v37 0) fun v46 =>
  (Option.bind (lex_hex N (v46.toNat : Int)) fun v47 =>
  (Option.bind (nth v37 1) fun v48 =>
  (Option.bind (lex_hex N (v48.toNat : Int)) fun v49 =>
  (bif (decide (v47.1 < 0)) then
  (k1 v36 v38 v39 0 [] 0 0 [] 0)
  else
  (bif (decide (v49.1 < 0)) then
  (k1 v36 v38 v39 0 [] 0 0 [] 0)
  else
  (bif (room 1 (v39.length + ([(UInt8.ofNat (Int.toNat (IntKind.wrap .u8 (Ev.bits .or .i64 (Ev.shl .i64 v47.1 4) v49.1))))] : (List UInt8)).length)) then
  (bif (decide (0 ≤ (2 : Int) ∧ (2 : Int) ≤ ((v37.length : Nat) : Int))) then
  (rec v36 (List.drop 2 (List.take v37.length v37)) v38 (v39 ++ ([(UInt8.ofNat (Int.toNat (IntKind.wrap .u8 (Ev.bits .or .i64 (Ev.shl .i64 v47.1 4) v49.1))))] : (List UInt8))) v40 v41 v42 v43 v44 v45)
  else
  none)
  else
  none)))))))
  else
  (k0 v36 v38 v39 v40 v41 v42 v43 v44 v45))

def lex_raw_l1 (N : Nat) (R : Type) (k0 : (List UInt8) → Int → (List UInt8) → Int → (List UInt8) → Int → Int → (List UInt8) → Int → Option R) (k1 : (List UInt8) → Int → (List UInt8) → Int → (List UInt8) → Int → Int → (List UInt8) → Int → Option R) : Nat → (List UInt8) → (List UInt8) → Int → (List UInt8) → Int → (List UInt8) → Int → Int → (List UInt8) → Int → Option R
  | 0 => fun _ _ _ _ _ _ _ _ _ _ => none
  | n + 1 => lex_raw_l1B N R (lex_raw_l1 N R k0 k1 n) k0 k1

def lex_raw_j0 (N : Nat) (R : Type) (k0 : Int → (List UInt8) → Int → Int → (List UInt8) → Int → Option R) (v9 : (List UInt8)) (v10 : (List UInt8)) (v11 : Int) (v12 : Int) (v13 : (List UInt8)) (v14 : Int) (v15 : Int) (v16 : (List UInt8)) (v17 : Int) : Option R :=
  (lex_raw_l1 N _ (fun v18 v19 v20 v21 v22 v23 v24 v25 v26 =>
  (bif (decide (0 ≤ (IntKind.wrap .i64 (v19 + 1)) ∧ (IntKind.wrap .i64 (v19 + 1)) ≤ ((v18.length : Nat) : Int))) then
  (k0 4 (List.drop 0 (List.take (Int.toNat (IntKind.wrap .i64 (v19 + 1))) v18)) 5 0 v20 0)
  else
  none)) (fun v27 v28 v29 v30 v31 v32 v33 v34 v35 =>
  (k0 v30 v31 v32 v33 v34 v35)) N v9 v10 v11 [] v12 v13 v14 v15 v16 v17)

def lex_raw_cps (N : Nat) (R : Type) (K : Int → (List UInt8) → Int → Int → (List UInt8) → Int → Option R) (v1 : (List UInt8)) : Option R :=
  (bif (decide (0 ≤ (1 : Int) ∧ (1 : Int) ≤ ((v1.length : Nat) : Int))) then
  (Option.bind (lex_quoted N (List.drop 1 (List.take v1.length v1))) fun v2 =>
  (bif (decide (v2.2.1 = 0)) then
  (K 0 [] 0 0 [] 0)
  else
  (bif (decide ((Int.tmod (v2.1.length : Int) 2) = 1)) then
  (K 0 [] 0 0 [] 0)
  else
  (bif (decide (400 < (v2.1.length : Int))) then
  (K 0 [] 0 0 [] 0)
  else
  (lex_raw_j0 N _ (fun v3 v4 v5 v6 v7 v8 =>
  (K v3 v4 v5 v6 v7 v8)) v1 v2.1 v2.2.1 0 [] 0 0 [] 0)))))
  else
  none)

def lex_raw (N : Nat) (v1 : (List UInt8)) : Option (Int × (List UInt8) × Int × Int × (List UInt8) × Int × Unit) := lex_raw_cps N _ (fun a0 a1 a2 a3 a4 a5 => some (a0, (a1, (a2, (a3, (a4, (a5, ()))))))) v1

/-! frankpledge/lex.isPart -/
def lex_isPart_cps (N : Nat) (R : Type) (K : Bool → Option R) (v1 : Int) : Option R :=
  (K (decide (2 ≤ v1)))

def lex_isPart (N : Nat) (v1 : Int) : Option (Bool × Unit) := lex_isPart_cps N _ (fun a0 => some (a0, ())) v1

/-! frankpledge/lex.span -/
def lex_span_l0B (N : Nat) (R : Type) (rec : (List UInt8) → Int → Option R) (k0 : Int → Option R) (v3 : (List UInt8)) (v4 : Int) : Option R :=
  (bif (decide (v4 < (v3.length : Int))) then
  (Option.bind (nth v3 v4) fun v5 =>
  (Option.bind (lex_of N (v5.toNat : Int)) fun v6 =>
  (Option.bind (lex_isPart N v6.1) fun v7 =>
  (bif v7.1 then
  (rec v3 (IntKind.wrap .i64 (v4 + 1)))
  else
  (k0 v4)))))
  else
  (k0 v4))

def lex_span_l0 (N : Nat) (R : Type) (k0 : Int → Option R) : Nat → (List UInt8) → Int → Option R
  | 0 => fun _ _ => none
  | n + 1 => lex_span_l0B N R (lex_span_l0 N R k0 n) k0

def lex_span_cps (N : Nat) (R : Type) (K : Int → Option R) (v1 : (List UInt8)) : Option R :=
  (lex_span_l0 N _ (fun v2 =>
  (K v2)) N v1 0)

def lex_span (N : Nat) (v1 : (List UInt8)) : Option (Int × Unit) := lex_span_cps N _ (fun a0 => some (a0, ())) v1

/-! strings.ToLower -/
def strings_ToLower_cps (N : Nat) (R : Type) (K : (List UInt8) → Option R) (v1 : (List UInt8)) : Option R :=
  (bif (decide (v1.length ≤ 140737488355328) && List.all v1 (fun b => decide (b.toNat < 128))) then (K (Lib.toLowerA v1)) else none)

def strings_ToLower (N : Nat) (v1 : (List UInt8)) : Option ((List UInt8) × Unit) := strings_ToLower_cps N _ (fun a0 => some (a0, ())) v1

/-! frankpledge/lex.isFigure -/
def lex_isFigure_cps (N : Nat) (R : Type) (K : Bool → Option R) (v1 : Int) : Option R :=
  (K (decide (v1 = 3)))

def lex_isFigure (N : Nat) (v1 : Int) : Option (Bool × Unit) := lex_isFigure_cps N _ (fun a0 => some (a0, ())) v1

/-! frankpledge/lex.span -/
def lex_span_1_l0B (N : Nat) (R : Type) (rec : (List UInt8) → Int → Option R) (k0 : Int → Option R) (v3 : (List UInt8)) (v4 : Int) : Option R :=
  (bif (decide (v4 < (v3.length : Int))) then
  (Option.bind (nth v3 v4) fun v5 =>
  (Option.bind (lex_of N (v5.toNat : Int)) fun v6 =>
  (Option.bind (lex_isFigure N v6.1) fun v7 =>
  (bif v7.1 then
  (rec v3 (IntKind.wrap .i64 (v4 + 1)))
  else
  (k0 v4)))))
  else
  (k0 v4))

def lex_span_1_l0 (N : Nat) (R : Type) (k0 : Int → Option R) : Nat → (List UInt8) → Int → Option R
  | 0 => fun _ _ => none
  | n + 1 => lex_span_1_l0B N R (lex_span_1_l0 N R k0 n) k0

def lex_span_1_cps (N : Nat) (R : Type) (K : Int → Option R) (v1 : (List UInt8)) : Option R :=
  (lex_span_1_l0 N _ (fun v2 =>
  (K v2)) N v1 0)

def lex_span_1 (N : Nat) (v1 : (List UInt8)) : Option (Int × Unit) := lex_span_1_cps N _ (fun a0 => some (a0, ())) v1

/-! internal/stringslite.HasPrefix -/
def stringslite_HasPrefix_cps (N : Nat) (R : Type) (K : Bool → Option R) (v1 : (List UInt8)) (v2 : (List UInt8)) : Option R :=
  (bif (decide ((v2.length : Int) ≤ (v1.length : Int))) then
  (bif (decide (0 ≤ (v2.length : Int) ∧ (v2.length : Int) ≤ ((v1.length : Nat) : Int))) then
  (K (decide ((List.drop 0 (List.take (Int.toNat (v2.length : Int)) v1)) = v2)))
  else
  none)
  else
  (K false))

def stringslite_HasPrefix (N : Nat) (v1 : (List UInt8)) (v2 : (List UInt8)) : Option (Bool × Unit) := stringslite_HasPrefix_cps N _ (fun a0 => some (a0, ())) v1 v2

/-! strings.HasPrefix -/
def strings_HasPrefix_cps (N : Nat) (R : Type) (K : Bool → Option R) (v1 : (List UInt8)) (v2 : (List UInt8)) : Option R :=
  (Option.bind (stringslite_HasPrefix N v1 v2) fun v3 =>
  (K v3.1))

def strings_HasPrefix (N : Nat) (v1 : (List UInt8)) (v2 : (List UInt8)) : Option (Bool × Unit) := strings_HasPrefix_cps N _ (fun a0 => some (a0, ())) v1 v2

/-! strings.Repeat -/
def strings_Repeat_cps (N : Nat) (R : Type) (K : (List UInt8) → Option R) (v1 : (List UInt8)) (v2 : Int) : Option R :=
  (bif (decide (0 ≤ v2 ∧ v1.length * (Int.toNat v2) ≤ 140737488355328)) then (K (Lib.repeatL v1 (Int.toNat v2))) else none)

def strings_Repeat (N : Nat) (v1 : (List UInt8)) (v2 : Int) : Option ((List UInt8) × Unit) := strings_Repeat_cps N _ (fun a0 => some (a0, ())) v1 v2

/-! strconv.ParseInt -/
def strconv_ParseInt_cps (N : Nat) (R : Type) (K : Int → Err → Option R) (v1 : (List UInt8)) (v2 : Int) (v3 : Int) : Option R :=
  (bif (decide (v2 = 10 ∧ v3 = 64 ∧ v1.length ≤ 281474976710656)) then (K (parseV v1) (parseE v1)) else none)

def strconv_ParseInt (N : Nat) (v1 : (List UInt8)) (v2 : Int) (v3 : Int) : Option (Int × Err × Unit) := strconv_ParseInt_cps N _ (fun a0 a1 => some (a0, (a1, ()))) v1 v2 v3

/-! frankpledge/lex.number -/
def lex_number_j2 (N : Nat) (R : Type) (k0 : Int → (List UInt8) → Int → Int → (List UInt8) → Int → Option R) (v59 : (List UInt8)) (v60 : Int) (v61 : (List UInt8)) (v62 : Int) (v63 : Int) (v64 : (List UInt8)) (v65 : Int) (v66 : Int) (v67 : (List UInt8)) (v68 : Int) : Option R :=
  (Option.bind (strconv_ParseInt N v61 10 64) fun v69 =>
  (bif (!(Err.isNil v69.2.1)) then
  (k0 0 [] 0 0 [] 0)
  else
  (bif (decide (0 ≤ v60 ∧ v60 ≤ ((v59.length : Nat) : Int))) then
  (k0 2 (List.drop 0 (List.take (Int.toNat v60) v59)) v62 v69.1 [] 0)
  else
  none)))

def lex_number_j1 (N : Nat) (R : Type) (k0 : Int → (List UInt8) → Int → Int → (List UInt8) → Int → Option R) (v40 : (List UInt8)) (v41 : Int) (v42 : (List UInt8)) (v43 : (List UInt8)) (v44 : Int) (v45 : Int) (v46 : (List UInt8)) (v47 : Int) (v48 : Int) (v49 : (List UInt8)) (v50 : Int) : Option R :=
  (Option.bind (strings_HasPrefix N v43 [46]) fun v51 =>
  (bif v51.1 then
  (k0 0 [] 0 0 [] 0)
  else
  (Option.bind (lex_span N v43) fun v52 =>
  (bif (decide (0 < v52.1)) then
  (k0 0 [] 0 0 [] 0)
  else
  (lex_number_j2 N _ (fun v53 v54 v55 v56 v57 v58 =>
  (k0 v53 v54 v55 v56 v57 v58)) v40 v41 v42 v44 v45 v46 v47 v48 v49 v50)))))

def lex_number_j0 (N : Nat) (R : Type) (k0 : (List UInt8) → Int → (List UInt8) → (List UInt8) → Int → Int → (List UInt8) → Int → Int → (List UInt8) → Int → Option R) (v28 : (List UInt8)) (v29 : Int) (v30 : (List UInt8)) (v31 : (List UInt8)) (v32 : Int) (v33 : Int) (v34 : (List UInt8)) (v35 : Int) (v36 : Int) (v37 : (List UInt8)) (v38 : Int) : Option R :=
  (bif (decide (0 ≤ (IntKind.wrap .i64 (1 + v32)) ∧ (IntKind.wrap .i64 (1 + v32)) ≤ ((v31.length : Nat) : Int))) then
  (bif (decide (0 ≤ (1 : Int) ∧ (1 : Int) ≤ (((Int.toNat (IntKind.wrap .i64 (1 + v32))) : Nat) : Int))) then
  (Option.bind (strings_Repeat N [48] (IntKind.wrap .i64 (4 - v32))) fun v39 =>
  (bif (room 1 ((List.drop 1 (List.take (Int.toNat (IntKind.wrap .i64 (1 + v32))) v31)).length + v39.1.length)) then
  (bif (room 1 (v30.length + ((List.drop 1 (List.take (Int.toNat (IntKind.wrap .i64 (1 + v32))) v31)) ++ v39.1).length)) then
  (bif (decide (0 ≤ (IntKind.wrap .i64 (1 + v32)) ∧ (IntKind.wrap .i64 (1 + v32)) ≤ ((v31.length : Nat) : Int))) then
  (k0 v28 (IntKind.wrap .i64 ((IntKind.wrap .i64 (v29 + 1)) + v32)) (v30 ++ ((List.drop 1 (List.take (Int.toNat (IntKind.wrap .i64 (1 + v32))) v31)) ++ v39.1)) (List.drop (Int.toNat (IntKind.wrap .i64 (1 + v32))) (List.take v31.length v31)) 3 v33 v34 v35 v36 v37 v38)
  else
  none)
  else
  none)
  else
  none))
  else
  none)
  else
  none)

def lex_number_cps (N : Nat) (R : Type) (K : Int → (List UInt8) → Int → Int → (List UInt8) → Int → Option R) (v1 : (List UInt8)) : Option R :=
  (Option.bind (lex_span_1 N v1) fun v2 =>
  (bif (decide (0 ≤ v2.1 ∧ v2.1 ≤ ((v1.length : Nat) : Int))) then
  (bif (decide (0 ≤ v2.1 ∧ v2.1 ≤ ((v1.length : Nat) : Int))) then
  (Option.bind (strings_HasPrefix N (List.drop (Int.toNat v2.1) (List.take v1.length v1)) [46]) fun v3 =>
  (bif v3.1 then
  (bif (decide (0 ≤ (1 : Int) ∧ (1 : Int) ≤ (((List.drop (Int.toNat v2.1) (List.take v1.length v1)).length : Nat) : Int))) then
  (Option.bind (lex_span_1 N (List.drop 1 (List.take (List.drop (Int.toNat v2.1) (List.take v1.length v1)).length (List.drop (Int.toNat v2.1) (List.take v1.length v1))))) fun v4 =>
  (bif (decide (v4.1 = 0)) then
  (K 0 [] 0 0 [] 0)
  else
  (bif (decide (4 < v4.1)) then
  (K 0 [] 0 0 [] 0)
  else
  (lex_number_j0 N _ (fun v5 v6 v7 v8 v9 v10 v11 v12 v13 v14 v15 =>
  (lex_number_j1 N _ (fun v16 v17 v18 v19 v20 v21 =>
  (K v16 v17 v18 v19 v20 v21)) v5 v6 v7 v8 v9 v10 v11 v12 v13 v14 v15)) v1 v2.1 (List.drop 0 (List.take (Int.toNat v2.1) v1)) (List.drop (Int.toNat v2.1) (List.take v1.length v1)) v4.1 0 [] 0 0 [] 0))))
  else
  none)
  else
  (lex_number_j1 N _ (fun v22 v23 v24 v25 v26 v27 =>
  (K v22 v23 v24 v25 v26 v27)) v1 v2.1 (List.drop 0 (List.take (Int.toNat v2.1) v1)) (List.drop (Int.toNat v2.1) (List.take v1.length v1)) 2 0 [] 0 0 [] 0)))
  else
  none)
  else
  none))

def lex_number (N : Nat) (v1 : (List UInt8)) : Option (Int × (List UInt8) × Int × Int × (List UInt8) × Int × Unit) := lex_number_cps N _ (fun a0 a1 a2 a3 a4 a5 => some (a0, (a1, (a2, (a3, (a4, (a5, ()))))))) v1

/-! frankpledge/lex.text -/
def lex_text_cps (N : Nat) (R : Type) (K : Int → (List UInt8) → Int → Int → (List UInt8) → Int → Option R) (v1 : (List UInt8)) : Option R :=
  (Option.bind (lex_quoted N v1) fun v2 =>
  (bif (decide (v2.2.1 = 0)) then
  (K 0 [] 0 0 [] 0)
  else
  (bif (decide (200 < (v2.1.length : Int))) then
  (K 0 [] 0 0 [] 0)
  else
  (bif (decide (0 ≤ v2.2.1 ∧ v2.2.1 ≤ ((v1.length : Nat) : Int))) then
  (K 3 (List.drop 0 (List.take (Int.toNat v2.2.1) v1)) 4 0 v2.1 0)
  else
  none))))

def lex_text (N : Nat) (v1 : (List UInt8)) : Option (Int × (List UInt8) × Int × Int × (List UInt8) × Int × Unit) := lex_text_cps N _ (fun a0 a1 a2 a3 a4 a5 => some (a0, (a1, (a2, (a3, (a4, (a5, ()))))))) v1

/-! frankpledge/lex.sign -/
def lex_sign_l0B (N : Nat) (R : Type) (rec : (List UInt8) → (List (List UInt8)) → Int → Int → Int → (List UInt8) → Int → Int → (List UInt8) → Int → Option R) (k0 : (List UInt8) → Int → (List UInt8) → Int → Int → (List UInt8) → Int → Option R) (k1 : (List UInt8) → Int → (List UInt8) → Int → Int → (List UInt8) → Int → Option R) (v18 : (List UInt8)) (v19 : (List (List UInt8))) (v20 : Int) (v21 : Int) (v22 : Int) (v23 : (List UInt8)) (v24 : Int) (v25 : Int) (v26 : (List UInt8)) (v27 : Int) : Option R :=
  (bif (decide (v21 < v20)) then
  (Option.bind (nth v19 v21) fun v28 =>
  (Option.bind (strings_HasPrefix N v18 v28) fun v29 =>
  (bif v29.1 then
  (k1 v18 5 v28 0 0 [] 0)
  else
  (rec v18 v19 v20 (IntKind.wrap .i64 (v21 + 1)) v22 v23 v24 v25 v26 v27))))
  else
  (k0 v18 v22 v23 v24 v25 v26 v27))

def lex_sign_l0 (N : Nat) (R : Type) (k0 : (List UInt8) → Int → (List UInt8) → Int → Int → (List UInt8) → Int → Option R) (k1 : (List UInt8) → Int → (List UInt8) → Int → Int → (List UInt8) → Int → Option R) : Nat → (List UInt8) → (List (List UInt8)) → Int → Int → Int → (List UInt8) → Int → Int → (List UInt8) → Int → Option R
  | 0 => fun _ _ _ _ _ _ _ _ _ _ => none
  | n + 1 => lex_sign_l0B N R (lex_sign_l0 N R k0 k1 n) k0 k1

def lex_sign_cps (N : Nat) (R : Type) (K : Int → (List UInt8) → Int → Int → (List UInt8) → Int → Option R) (v1 : (List UInt8)) : Option R :=
  (lex_sign_l0 N _ (fun v2 v3 v4 v5 v6 v7 v8 =>
  (Option.bind (nth v2 0) fun v9 =>
  (Option.bind (strings_IndexByte N [40, 41, 44, 42, 43, 45, 47, 61, 60, 62, 46, 59] (v9.toNat : Int)) fun v10 =>
  (bif (decide (0 ≤ v10.1)) then
  (bif (decide (0 ≤ (1 : Int) ∧ (1 : Int) ≤ ((v2.length : Nat) : Int))) then
  (K 5 (List.drop 0 (List.take 1 v2)) 0 0 [] 0)
  else
  none)
  else
  (K 0 [] 0 0 [] 0))))) (fun v11 v12 v13 v14 v15 v16 v17 =>
  (K v12 v13 v14 v15 v16 v17)) N v1 ([[60, 61], [62, 61], [60, 62]] : (List (List UInt8))) (([[60, 61], [62, 61], [60, 62]] : (List (List UInt8))).length : Int) 0 0 [] 0 0 [] 0)

def lex_sign (N : Nat) (v1 : (List UInt8)) : Option (Int × (List UInt8) × Int × Int × (List UInt8) × Int × Unit) := lex_sign_cps N _ (fun a0 a1 a2 a3 a4 a5 => some (a0, (a1, (a2, (a3, (a4, (a5, ()))))))) v1

/-! frankpledge/lex.next -/
def lex_next_cps (N : Nat) (R : Type) (K : Int → (List UInt8) → Int → Int → (List UInt8) → Int → Option R) (v1 : (List UInt8)) : Option R :=
  (Option.bind (nth v1 0) fun v2 =>
  (Option.bind (lex_of N (v2.toNat : Int)) fun v3 =>
  (bif (decide (v3.1 = 2)) then
  (bif (decide (1 < (v1.length : Int))) then
  (Option.bind (nth v1 1) fun v4 =>
  (bif (decide ((v4.toNat : Int) = 39)) then
  (Option.bind (nth v1 0) fun v5 =>
  (bif (decide ((v5.toNat : Int) = 120)) then
  (Option.bind (lex_raw N v1) fun v6 =>
  (K v6.1 v6.2.1 v6.2.2.1 v6.2.2.2.1 v6.2.2.2.2.1 v6.2.2.2.2.2.1))
  else
  (Option.bind (nth v1 0) fun v7 =>
  (bif (decide ((v7.toNat : Int) = 88)) then
  (Option.bind (lex_raw N v1) fun v8 =>
  (K v8.1 v8.2.1 v8.2.2.1 v8.2.2.2.1 v8.2.2.2.2.1 v8.2.2.2.2.2.1))
  else
  (Option.bind (lex_span N v1) fun v9 =>
  (bif (decide (0 ≤ v9.1 ∧ v9.1 ≤ ((v1.length : Nat) : Int))) then
  (Option.bind (strings_ToLower N (List.drop 0 (List.take (Int.toNat v9.1) v1))) fun v10 =>
  (K 1 v10.1 0 0 [] 0))
  else
  none))))))
  else
  (Option.bind (lex_span N v1) fun v11 =>
  (bif (decide (0 ≤ v11.1 ∧ v11.1 ≤ ((v1.length : Nat) : Int))) then
  (Option.bind (strings_ToLower N (List.drop 0 (List.take (Int.toNat v11.1) v1))) fun v12 =>
  (K 1 v12.1 0 0 [] 0))
  else
  none))))
  else
  (Option.bind (lex_span N v1) fun v13 =>
  (bif (decide (0 ≤ v13.1 ∧ v13.1 ≤ ((v1.length : Nat) : Int))) then
  (Option.bind (strings_ToLower N (List.drop 0 (List.take (Int.toNat v13.1) v1))) fun v14 =>
  (K 1 v14.1 0 0 [] 0))
  else
  none)))
  else
  (bif (decide (v3.1 = 3)) then
  (Option.bind (lex_number N v1) fun v15 =>
  (K v15.1 v15.2.1 v15.2.2.1 v15.2.2.2.1 v15.2.2.2.2.1 v15.2.2.2.2.2.1))
  else
  (Option.bind (nth v1 0) fun v16 =>
  (bif (decide ((v16.toNat : Int) = 39)) then
  (Option.bind (lex_text N v1) fun v17 =>
  (K v17.1 v17.2.1 v17.2.2.1 v17.2.2.2.1 v17.2.2.2.2.1 v17.2.2.2.2.2.1))
  else
  (Option.bind (lex_sign N v1) fun v18 =>
  (K v18.1 v18.2.1 v18.2.2.1 v18.2.2.2.1 v18.2.2.2.2.1 v18.2.2.2.2.2.1))))))))

def lex_next (N : Nat) (v1 : (List UInt8)) : Option (Int × (List UInt8) × Int × Int × (List UInt8) × Int × Unit) := lex_next_cps N _ (fun a0 a1 a2 a3 a4 a5 => some (a0, (a1, (a2, (a3, (a4, (a5, ()))))))) v1

/-! frankpledge/lex.Lex -/
def lex_Lex_l0B (N : Nat) (R : Type) (rec : (List UInt8) → Q0 → Int → Option R) (k0 : (List UInt8) → Q0 → Option R) (k1 : (List UInt8) → Err → Q0 → Option R) (v8 : (List UInt8)) (v9 : Q0) (v10 : Int) : Option R :=
  (bif (decide (v10 < (v8.length : Int))) then
  (Option.bind (nth v8 v10) fun v11 =>
  (Option.bind (lex_of N (v11.toNat : Int)) fun v12 =>
  (bif (decide (v12.1 = 1)) then
  (rec v8 v9 (IntKind.wrap .i64 (v10 + 1)))
  else
  (bif (decide (0 ≤ v10 ∧ v10 ≤ ((v8.length : Nat) : Int))) then
  (Option.bind (lex_next N (List.drop (Int.toNat v10) (List.take v8.length v8))) fun v13 =>
  (bif (decide (v13.2.1 = [])) then
  (Option.bind (fault_New N 161 v10) fun v14 =>
  (k1 v8 v14.1 v9))
  else
  (bif (room 64 (v9.length + ([(v13.1, (v13.2.1, ((v13.2.2.1, (v13.2.2.2.1, (v13.2.2.2.2.1, ()))), (v10, ()))))] : Q0).length)) then
  (rec v8 (v9 ++ ([(v13.1, (v13.2.1, ((v13.2.2.1, (v13.2.2.2.1, (v13.2.2.2.2.1, ()))), (v10, ()))))] : Q0)) (IntKind.wrap .i64 (v10 + (v13.2.1.length : Int))))
  else
  none)))
  else
  none))))
  else
  (k0 v8 v9))

def lex_Lex_l0 (N : Nat) (R : Type) (k0 : (List UInt8) → Q0 → Option R) (k1 : (List UInt8) → Err → Q0 → Option R) : Nat → (List UInt8) → Q0 → Int → Option R
  | 0 => fun _ _ _ => none
  | n + 1 => lex_Lex_l0B N R (lex_Lex_l0 N R k0 k1 n) k0 k1

def lex_Lex_cps (N : Nat) (R : Type) (K : Q0 → Err → Option R) (v1 : (List UInt8)) : Option R :=
  (bif (decide (1000 < (v1.length : Int))) then
  (Option.bind (fault_New N 161 0) fun v2 =>
  (K [] v2.1))
  else
  (lex_Lex_l0 N _ (fun v3 v4 =>
  (bif (room 64 (v4.length + ([(6, ([], ((0, (0, ([], ()))), ((v3.length : Int), ()))))] : Q0).length)) then
  (K (v4 ++ ([(6, ([], ((0, (0, ([], ()))), ((v3.length : Int), ()))))] : Q0)) Err.nil)
  else
  none)) (fun v5 v6 v7 =>
  (K [] v6)) N v1 [] 0))

def lex_Lex (N : Nat) (v1 : (List UInt8)) : Option (Q0 × Err × Unit) := lex_Lex_cps N _ (fun a0 a1 => some (a0, (a1, ()))) v1

/-! frankpledge/fault.At -/
def fault_At_cps (N : Nat) (R : Type) (K : Int → Option R) (v1 : Err) : Option R :=
  (bif (errOk v1) then (K (errAt v1)) else none)

def fault_At (N : Nat) (v1 : Err) : Option (Int × Unit) := fault_At_cps N _ (fun a0 => some (a0, ())) v1

/-! frankpledge/fault.Wrap -/
def fault_Wrap_cps (N : Nat) (R : Type) (K : Err → Option R) (v1 : Err) (v2 : Int) (v3 : Int) : Option R :=
  (bif (Err.isNil v1) then
  (K v1)
  else
  (bif (decide (v2 = 0)) then
  (K v1)
  else
  (K (Err.fault v2 v3 v1))))

def fault_Wrap (N : Nat) (v1 : Err) (v2 : Int) (v3 : Int) : Option (Err × Unit) := fault_Wrap_cps N _ (fun a0 => some (a0, ())) v1 v2 v3

/-! (*frankpledge/parse.parser).is -/
def parse_parser_is_cps (N : Nat) (R : Type) (K : Bool → Option R) (v1 : (List UInt8)) (v2 : Q0) (v3 : Int) (v4 : Err) : Option R :=
  (Option.bind (nth v2 0) fun v5 =>
  (bif (Err.isNil v4) then
  (bif (decide (v5.1 = 1)) then
  (K (decide (v5.2.1 = v1)))
  else
  (bif (decide (v5.1 = 5)) then
  (K (decide (v5.2.1 = v1)))
  else
  (K false)))
  else
  (K false)))

def parse_parser_is (N : Nat) (v1 : (List UInt8)) (v2 : Q0) (v3 : Int) (v4 : Err) : Option (Bool × Unit) := parse_parser_is_cps N _ (fun a0 => some (a0, ())) v1 v2 v3 v4

/-! (*frankpledge/parse.parser).next -/
def parse_parser_next_cps (N : Nat) (R : Type) (K : Int → (List UInt8) → Int → Int → (List UInt8) → Int → Q0 → Int → Err → Option R) (v1 : Q0) (v2 : Int) (v3 : Err) : Option R :=
  (Option.bind (nth v1 0) fun v4 =>
  (bif (decide (0 ≤ (1 : Int) ∧ (1 : Int) ≤ ((v1.length : Nat) : Int))) then
  (K v4.1 v4.2.1 v4.2.2.1.1 v4.2.2.1.2.1 v4.2.2.1.2.2.1 v4.2.2.2.1 (List.drop 1 (List.take v1.length v1)) v2 v3)
  else
  none))

def parse_parser_next (N : Nat) (v1 : Q0) (v2 : Int) (v3 : Err) : Option (Int × (List UInt8) × Int × Int × (List UInt8) × Int × Q0 × Int × Err × Unit) := parse_parser_next_cps N _ (fun a0 a1 a2 a3 a4 a5 a6 a7 a8 => some (a0, (a1, (a2, (a3, (a4, (a5, (a6, (a7, (a8, ())))))))))) v1 v2 v3

/-! (*frankpledge/parse.parser).take -/
def parse_parser_take_cps (N : Nat) (R : Type) (K : Bool → Q0 → Int → Err → Option R) (v1 : (List UInt8)) (v2 : Q0) (v3 : Int) (v4 : Err) : Option R :=
  (Option.bind (parse_parser_is N v1 v2 v3 v4) fun v5 =>
  (bif v5.1 then
  (Option.bind (parse_parser_next N v2 v3 v4) fun v6 =>
  (K v5.1 v6.2.2.2.2.2.2.1 v6.2.2.2.2.2.2.2.1 v6.2.2.2.2.2.2.2.2.1))
  else
  (K v5.1 v2 v3 v4)))

def parse_parser_take (N : Nat) (v1 : (List UInt8)) (v2 : Q0) (v3 : Int) (v4 : Err) : Option (Bool × Q0 × Int × Err × Unit) := parse_parser_take_cps N _ (fun a0 a1 a2 a3 => some (a0, (a1, (a2, (a3, ()))))) v1 v2 v3 v4

/-! (*frankpledge/parse.parser).at -/
def parse_parser_at_cps (N : Nat) (R : Type) (K : Int → Option R) (v1 : Q0) (v2 : Int) (v3 : Err) : Option R :=
  (Option.bind (nth v1 0) fun v4 =>
  (K v4.2.2.2.1))

def parse_parser_at (N : Nat) (v1 : Q0) (v2 : Int) (v3 : Err) : Option (Int × Unit) := parse_parser_at_cps N _ (fun a0 => some (a0, ())) v1 v2 v3

/-! (*frankpledge/parse.parser).fail -/
def parse_parser_fail_cps (N : Nat) (R : Type) (K : Q0 → Int → Err → Option R) (v1 : Int) (v2 : Q0) (v3 : Int) (v4 : Err) : Option R :=
  (bif (Err.isNil v4) then
  (Option.bind (parse_parser_at N v2 v3 v4) fun v5 =>
  (Option.bind (fault_New N v1 v5.1) fun v6 =>
  (K v2 v3 v6.1)))
  else
  (K v2 v3 v4))

def parse_parser_fail (N : Nat) (v1 : Int) (v2 : Q0) (v3 : Int) (v4 : Err) : Option (Q0 × Int × Err × Unit) := parse_parser_fail_cps N _ (fun a0 a1 a2 => some (a0, (a1, (a2, ())))) v1 v2 v3 v4

/-! (*frankpledge/parse.parser).want -/
def parse_parser_want_l0B (N : Nat) (R : Type) (rec : (List (List UInt8)) → Int → Int → Q0 → Int → Err → Option R) (k0 : Q0 → Int → Err → Option R) (v8 : (List (List UInt8))) (v9 : Int) (v10 : Int) (v11 : Q0) (v12 : Int) (v13 : Err) : Option R :=
  (bif (decide (v10 < v9)) then
  (Option.bind (nth v8 v10) fun v14 =>
  (Option.bind (parse_parser_take N v14 v11 v12 v13) fun v15 =>
  (bif (!v15.1) then
  (Option.bind (parse_parser_fail N 171 v15.2.1 v15.2.2.1 v15.2.2.2.1) fun v16 =>
  (rec v8 v9 (IntKind.wrap .i64 (v10 + 1)) v16.1 v16.2.1 v16.2.2.1))
  else
  (rec v8 v9 (IntKind.wrap .i64 (v10 + 1)) v15.2.1 v15.2.2.1 v15.2.2.2.1))))
  else
  (k0 v11 v12 v13))

def parse_parser_want_l0 (N : Nat) (R : Type) (k0 : Q0 → Int → Err → Option R) : Nat → (List (List UInt8)) → Int → Int → Q0 → Int → Err → Option R
  | 0 => fun _ _ _ _ _ _ => none
  | n + 1 => parse_parser_want_l0B N R (parse_parser_want_l0 N R k0 n) k0

def parse_parser_want_cps (N : Nat) (R : Type) (K : Q0 → Int → Err → Option R) (v1 : (List (List UInt8))) (v2 : Q0) (v3 : Int) (v4 : Err) : Option R :=
  (parse_parser_want_l0 N _ (fun v5 v6 v7 =>
  (K v5 v6 v7)) N v1 (v1.length : Int) 0 v2 v3 v4)

def parse_parser_want (N : Nat) (v1 : (List (List UInt8))) (v2 : Q0) (v3 : Int) (v4 : Err) : Option (Q0 × Int × Err × Unit) := parse_parser_want_cps N _ (fun a0 a1 a2 => some (a0, (a1, (a2, ())))) v1 v2 v3 v4

/-! frankpledge/parse.comparison -/
def parse_comparison_cps (N : Nat) (R : Type) (K : Int → Option R) (v1 : (List UInt8)) : Option R :=
  (bif (decide (v1 = [61])) then
  (K 8)
  else
  (bif (decide (v1 = [60, 62])) then
  (K 9)
  else
  (bif (decide (v1 = [60])) then
  (K 10)
  else
  (bif (decide (v1 = [60, 61])) then
  (K 11)
  else
  (bif (decide (v1 = [62])) then
  (K 12)
  else
  (bif (decide (v1 = [62, 61])) then
  (K 13)
  else
  (K 0)))))))

def parse_comparison (N : Nat) (v1 : (List UInt8)) : Option (Int × Unit) := parse_comparison_cps N _ (fun a0 => some (a0, ())) v1

/-! slices.Index[[]string,string] -/
def slices_Index_string_string_l0B (N : Nat) (R : Type) (rec : (List (List UInt8)) → (List UInt8) → Int → Int → Option R) (k0 : Option R) (k1 : Int → Option R) (v4 : (List (List UInt8))) (v5 : (List UInt8)) (v6 : Int) (v7 : Int) : Option R :=
  (bif (decide (v7 < v6)) then
  (Option.bind (nth v4 v7) fun v8 =>
  (bif (decide (v5 = v8)) then
  (k1 v7)
  else
  (rec v4 v5 v6 (IntKind.wrap .i64 (v7 + 1)))))
  else
  k0)

def slices_Index_string_string_l0 (N : Nat) (R : Type) (k0 : Option R) (k1 : Int → Option R) : Nat → (List (List UInt8)) → (List UInt8) → Int → Int → Option R
  | 0 => fun _ _ _ _ => none
  | n + 1 => slices_Index_string_string_l0B N R (slices_Index_string_string_l0 N R k0 k1 n) k0 k1

def slices_Index_string_string_cps (N : Nat) (R : Type) (K : Int → Option R) (v1 : (List (List UInt8))) (v2 : (List UInt8)) : Option R :=
  (slices_Index_string_string_l0 N _ ((K (-1))) (fun v3 =>
  (K v3)) N v1 v2 (v1.length : Int) 0)

def slices_Index_string_string (N : Nat) (v1 : (List (List UInt8))) (v2 : (List UInt8)) : Option (Int × Unit) := slices_Index_string_string_cps N _ (fun a0 => some (a0, ())) v1 v2

/-! slices.Contains[[]string,string] -/
def slices_Contains_string_string_cps (N : Nat) (R : Type) (K : Bool → Option R) (v1 : (List (List UInt8))) (v2 : (List UInt8)) : Option R :=
  (Option.bind (slices_Index_string_string N v1 v2) fun v3 =>
  (K (decide (0 ≤ v3.1))))

def slices_Contains_string_string (N : Nat) (v1 : (List (List UInt8))) (v2 : (List UInt8)) : Option (Bool × Unit) := slices_Contains_string_string_cps N _ (fun a0 => some (a0, ())) v1 v2

/-! frankpledge/parse.reserved -/
def parse_reserved_cps (N : Nat) (R : Type) (K : Bool → Option R) (v1 : (List UInt8)) : Option R :=
  (Option.bind (slices_Contains_string_string N ([[115, 101, 108, 101, 99, 116], [102, 114, 111, 109], [106, 111, 105, 110], [111, 110], [119, 104, 101, 114, 101], [103, 114, 111, 117, 112], [98, 121], [111, 114, 100, 101, 114], [97, 115, 99], [100, 101, 115, 99], [108, 105, 109, 105, 116], [105, 110, 115, 101, 114, 116], [105, 110, 116, 111], [118, 97, 108, 117, 101, 115], [117, 112, 100, 97, 116, 101], [115, 101, 116], [100, 101, 108, 101, 116, 101], [97, 110, 100], [111, 114], [110, 111, 116], [105, 115], [110, 117, 108, 108], [116, 114, 117, 101], [102, 97, 108, 115, 101], [99, 111, 117, 110, 116], [115, 117, 109], [109, 105, 110], [109, 97, 120]] : (List (List UInt8))) v1) fun v2 =>
  (K v2.1))

def parse_reserved (N : Nat) (v1 : (List UInt8)) : Option (Bool × Unit) := parse_reserved_cps N _ (fun a0 => some (a0, ())) v1

/-! (*frankpledge/parse.parser).name -/
def parse_parser_name_cps (N : Nat) (R : Type) (K : (List UInt8) → Q0 → Int → Err → Option R) (v1 : Q0) (v2 : Int) (v3 : Err) : Option R :=
  (bif (!(Err.isNil v3)) then
  (Option.bind (parse_parser_fail N 171 v1 v2 v3) fun v4 =>
  (K [] v4.1 v4.2.1 v4.2.2.1))
  else
  (Option.bind (nth v1 0) fun v5 =>
  (bif (!(decide (v5.1 = 1))) then
  (Option.bind (parse_parser_fail N 171 v1 v2 v3) fun v6 =>
  (K [] v6.1 v6.2.1 v6.2.2.1))
  else
  (Option.bind (nth v1 0) fun v7 =>
  (Option.bind (parse_reserved N v7.2.1) fun v8 =>
  (bif v8.1 then
  (Option.bind (parse_parser_fail N 171 v1 v2 v3) fun v9 =>
  (K [] v9.1 v9.2.1 v9.2.2.1))
  else
  (Option.bind (parse_parser_next N v1 v2 v3) fun v10 =>
  (K v10.2.1 v10.2.2.2.2.2.2.1 v10.2.2.2.2.2.2.2.1 v10.2.2.2.2.2.2.2.2.1))))))))

def parse_parser_name (N : Nat) (v1 : Q0) (v2 : Int) (v3 : Err) : Option ((List UInt8) × Q0 × Int × Err × Unit) := parse_parser_name_cps N _ (fun a0 a1 a2 a3 => some (a0, (a1, (a2, (a3, ()))))) v1 v2 v3

/-! frankpledge/parse.op -/
def parse_op_j0 (N : Nat) (R : Type) (k0 : Int → Int → (List UInt8) → Int → Int → (List UInt8) → Int → Option R) (v22 : Int) (v23 : Int) (v24 : (List UInt8)) (v25 : Int) (v26 : Int) (v27 : (List UInt8)) (v28 : Int) : Option R :=
  (bif (decide (v22 = 0)) then
  (bif (decide (v24 = [111, 114])) then
  (k0 15 v23 v24 v25 v26 v27 v28)
  else
  (k0 0 v23 v24 v25 v26 v27 v28))
  else
  (bif (decide (v22 = 1)) then
  (bif (decide (v24 = [97, 110, 100])) then
  (k0 14 v23 v24 v25 v26 v27 v28)
  else
  (k0 0 v23 v24 v25 v26 v27 v28))
  else
  (bif (decide (v22 = 3)) then
  (bif (decide (v24 = [43])) then
  (k0 3 v23 v24 v25 v26 v27 v28)
  else
  (bif (decide (v24 = [45])) then
  (k0 4 v23 v24 v25 v26 v27 v28)
  else
  (k0 0 v23 v24 v25 v26 v27 v28)))
  else
  (bif (decide (v22 = 4)) then
  (bif (decide (v24 = [42])) then
  (k0 5 v23 v24 v25 v26 v27 v28)
  else
  (bif (decide (v24 = [47])) then
  (k0 6 v23 v24 v25 v26 v27 v28)
  else
  (k0 0 v23 v24 v25 v26 v27 v28)))
  else
  (k0 0 v23 v24 v25 v26 v27 v28)))))

def parse_op_cps (N : Nat) (R : Type) (K : Int → Option R) (v1 : Int) (v2 : (List UInt8)) (v3 : Int) (v4 : Int) (v5 : (List UInt8)) (v6 : Int) (v7 : Int) : Option R :=
  (bif (!(decide (v1 = 1))) then
  (bif (!(decide (v1 = 5))) then
  (K 0)
  else
  (parse_op_j0 N _ (fun v8 v9 v10 v11 v12 v13 v14 =>
  (K v8)) v7 v1 v2 v3 v4 v5 v6))
  else
  (parse_op_j0 N _ (fun v15 v16 v17 v18 v19 v20 v21 =>
  (K v15)) v7 v1 v2 v3 v4 v5 v6))

def parse_op (N : Nat) (v1 : Int) (v2 : (List UInt8)) (v3 : Int) (v4 : Int) (v5 : (List UInt8)) (v6 : Int) (v7 : Int) : Option (Int × Unit) := parse_op_cps N _ (fun a0 => some (a0, ())) v1 v2 v3 v4 v5 v6 v7

/-! The functions about parse_parser_whole: they call one another. -/
set_option warn.classDefReducibility false
class Z_parse_parser_whole where
  r_parse_parser_not : Q0 → Int → Err → Option Q1
  r_parse_parser_sign : Q0 → Int → Err → Option Q1
  r_parse_parser_expr : Int → Q0 → Int → Err → Option Q1
  r_parse_parser_whole : Q0 → Int → Err → Option Q1

section
variable [Z_parse_parser_whole]
/- (*frankpledge/parse.parser).test -/
def parse_parser_test_o_r0 (N : Nat) (R : Type) (k0 : Q0 → Int → Err → Int → Int → Int → (List UInt8) → (List UInt8) → (List UInt8) → Int → (List Ex) → Int → Int → Int → Int → Int → (List UInt8) → (List UInt8) → (List UInt8) → Int → (List Ex) → Int → Int → Int → (List UInt8) → Int → Int → (List UInt8) → Int → Option R) (v40 : Int) (v41 : Q0) (v42 : Int) (v43 : Err) (v44 : Int) (v45 : Int) (v46 : Int) (v47 : (List UInt8)) (v48 : (List UInt8)) (v49 : (List UInt8)) (v50 : Int) (v51 : Int) (v52 : Int) (v53 : Int) (v54 : Int) (v55 : Int) (v56 : (List UInt8)) (v57 : (List UInt8)) (v58 : (List UInt8)) (v59 : Int) (v60 : (List Ex)) (v61 : Int) (v62 : Int) (v63 : Int) (v64 : (List UInt8)) (v65 : Int) (v66 : Int) (v67 : (List UInt8)) (v68 : Int) : Option R :=
  (Option.bind (Z_parse_parser_whole.r_parse_parser_expr 3 v41 v42 v43) fun v69 =>
  (k0 v69.2.2.2.2.2.2.2.2.2.2.1 v69.2.2.2.2.2.2.2.2.2.2.2.1 v69.2.2.2.2.2.2.2.2.2.2.2.2.1 v40 0 0 [] [] [] 0 ([(Ex.mk v53 v54 v55 v56 v57 v58 v59 v60 v61 v62), (Ex.mk v69.1 v69.2.1 v69.2.2.1 v69.2.2.2.1 v69.2.2.2.2.1 v69.2.2.2.2.2.1 v69.2.2.2.2.2.2.1 v69.2.2.2.2.2.2.2.1 v69.2.2.2.2.2.2.2.2.1 v69.2.2.2.2.2.2.2.2.2.1)] : (List Ex)) 0 v68 v53 v54 v55 v56 v57 v58 v59 v60 v61 v62 v63 v64 v65 v66 v67 v68))

def parse_parser_test_o_cps (N : Nat) (R : Type) (K : Int → Int → Int → (List UInt8) → (List UInt8) → (List UInt8) → Int → (List Ex) → Int → Int → Q0 → Int → Err → Option R) (v1 : Q0) (v2 : Int) (v3 : Err) : Option R :=
  (Option.bind (Z_parse_parser_whole.r_parse_parser_expr 3 v1 v2 v3) fun v4 =>
  (bif (!(Err.isNil v4.2.2.2.2.2.2.2.2.2.2.2.2.1)) then
  (K v4.1 v4.2.1 v4.2.2.1 v4.2.2.2.1 v4.2.2.2.2.1 v4.2.2.2.2.2.1 v4.2.2.2.2.2.2.1 v4.2.2.2.2.2.2.2.1 v4.2.2.2.2.2.2.2.2.1 v4.2.2.2.2.2.2.2.2.2.1 v4.2.2.2.2.2.2.2.2.2.2.1 v4.2.2.2.2.2.2.2.2.2.2.2.1 v4.2.2.2.2.2.2.2.2.2.2.2.2.1)
  else
  (Option.bind (nth v4.2.2.2.2.2.2.2.2.2.2.1 0) fun v5 =>
  (Option.bind (parse_parser_take N [105, 115] v4.2.2.2.2.2.2.2.2.2.2.1 v4.2.2.2.2.2.2.2.2.2.2.2.1 v4.2.2.2.2.2.2.2.2.2.2.2.2.1) fun v6 =>
  (bif v6.1 then
  (Option.bind (parse_parser_take N [110, 111, 116] v6.2.1 v6.2.2.1 v6.2.2.2.1) fun v7 =>
  (Option.bind (parse_parser_want N ([[110, 117, 108, 108]] : (List (List UInt8))) v7.2.1 v7.2.2.1 v7.2.2.2.1) fun v8 =>
  (bif v7.1 then
  (K 16 0 0 [] [] [] 0 ([(Ex.mk 17 0 0 [] [] [] 0 ([(Ex.mk v4.1 v4.2.1 v4.2.2.1 v4.2.2.2.1 v4.2.2.2.2.1 v4.2.2.2.2.2.1 v4.2.2.2.2.2.2.1 v4.2.2.2.2.2.2.2.1 v4.2.2.2.2.2.2.2.2.1 v4.2.2.2.2.2.2.2.2.2.1)] : (List Ex)) 0 v5.2.2.2.1)] : (List Ex)) 0 v5.2.2.2.1 v8.1 v8.2.1 v8.2.2.1)
  else
  (K 17 0 0 [] [] [] 0 ([(Ex.mk v4.1 v4.2.1 v4.2.2.1 v4.2.2.2.1 v4.2.2.2.2.1 v4.2.2.2.2.2.1 v4.2.2.2.2.2.2.1 v4.2.2.2.2.2.2.2.1 v4.2.2.2.2.2.2.2.2.1 v4.2.2.2.2.2.2.2.2.2.1)] : (List Ex)) 0 v5.2.2.2.1 v8.1 v8.2.1 v8.2.2.1))))
  else
  (Option.bind (parse_comparison N v5.2.1) fun v9 =>
  (bif (decide (v5.1 = 5)) then
  (bif (!(decide (v9.1 = 0))) then
  (Option.bind (parse_parser_next N v6.2.1 v6.2.2.1 v6.2.2.2.1) fun v10 =>
  (parse_parser_test_o_r0 N _ (fun v11 v12 v13 v14 v15 v16 v17 v18 v19 v20 v21 v22 v23 v24 v25 v26 v27 v28 v29 v30 v31 v32 v33 v34 v35 v36 v37 v38 v39 =>
  (K v14 v15 v16 v17 v18 v19 v20 v21 v22 v23 v11 v12 v13)) v9.1 v10.2.2.2.2.2.2.1 v10.2.2.2.2.2.2.2.1 v10.2.2.2.2.2.2.2.2.1 0 0 0 [] [] [] 0 0 0 v4.1 v4.2.1 v4.2.2.1 v4.2.2.2.1 v4.2.2.2.2.1 v4.2.2.2.2.2.1 v4.2.2.2.2.2.2.1 v4.2.2.2.2.2.2.2.1 v4.2.2.2.2.2.2.2.2.1 v4.2.2.2.2.2.2.2.2.2.1 v5.1 v5.2.1 v5.2.2.1.1 v5.2.2.1.2.1 v5.2.2.1.2.2.1 v5.2.2.2.1))
  else
  (K v4.1 v4.2.1 v4.2.2.1 v4.2.2.2.1 v4.2.2.2.2.1 v4.2.2.2.2.2.1 v4.2.2.2.2.2.2.1 v4.2.2.2.2.2.2.2.1 v4.2.2.2.2.2.2.2.2.1 v4.2.2.2.2.2.2.2.2.2.1 v6.2.1 v6.2.2.1 v6.2.2.2.1))
  else
  (K v4.1 v4.2.1 v4.2.2.1 v4.2.2.2.1 v4.2.2.2.2.1 v4.2.2.2.2.2.1 v4.2.2.2.2.2.2.1 v4.2.2.2.2.2.2.2.1 v4.2.2.2.2.2.2.2.2.1 v4.2.2.2.2.2.2.2.2.2.1 v6.2.1 v6.2.2.1 v6.2.2.2.1))))))))

def parse_parser_test_o (N : Nat) (v1 : Q0) (v2 : Int) (v3 : Err) : Option Q1 := parse_parser_test_o_cps N _ (fun a0 a1 a2 a3 a4 a5 a6 a7 a8 a9 a10 a11 a12 => some (a0, (a1, (a2, (a3, (a4, (a5, (a6, (a7, (a8, (a9, (a10, (a11, (a12, ())))))))))))))) v1 v2 v3

/- (*frankpledge/parse.parser).within -/
def parse_parser_within_o_cps (N : Nat) (R : Type) (K : Int → Int → Int → (List UInt8) → (List UInt8) → (List UInt8) → Int → (List Ex) → Int → Int → Q0 → Int → Err → Option R) (v1 : Q0) (v2 : Int) (v3 : Err) : Option R :=
  (bif (decide (64 ≤ v2)) then
  (Option.bind (parse_parser_fail N 172 v1 v2 v3) fun v4 =>
  (bif (!(Err.isNil v4.2.2.1)) then
  (K 0 0 0 [] [] [] 0 [] 0 0 v4.1 v4.2.1 v4.2.2.1)
  else
  (Option.bind (Z_parse_parser_whole.r_parse_parser_not v4.1 (IntKind.wrap .i64 (v4.2.1 + 1)) v4.2.2.1) fun v5 =>
  (K v5.1 v5.2.1 v5.2.2.1 v5.2.2.2.1 v5.2.2.2.2.1 v5.2.2.2.2.2.1 v5.2.2.2.2.2.2.1 v5.2.2.2.2.2.2.2.1 v5.2.2.2.2.2.2.2.2.1 v5.2.2.2.2.2.2.2.2.2.1 v5.2.2.2.2.2.2.2.2.2.2.1 (IntKind.wrap .i64 (v5.2.2.2.2.2.2.2.2.2.2.2.1 - 1)) v5.2.2.2.2.2.2.2.2.2.2.2.2.1))))
  else
  (bif (!(Err.isNil v3)) then
  (K 0 0 0 [] [] [] 0 [] 0 0 v1 v2 v3)
  else
  (Option.bind (Z_parse_parser_whole.r_parse_parser_not v1 (IntKind.wrap .i64 (v2 + 1)) v3) fun v6 =>
  (K v6.1 v6.2.1 v6.2.2.1 v6.2.2.2.1 v6.2.2.2.2.1 v6.2.2.2.2.2.1 v6.2.2.2.2.2.2.1 v6.2.2.2.2.2.2.2.1 v6.2.2.2.2.2.2.2.2.1 v6.2.2.2.2.2.2.2.2.2.1 v6.2.2.2.2.2.2.2.2.2.2.1 (IntKind.wrap .i64 (v6.2.2.2.2.2.2.2.2.2.2.2.1 - 1)) v6.2.2.2.2.2.2.2.2.2.2.2.2.1))))

def parse_parser_within_o (N : Nat) (v1 : Q0) (v2 : Int) (v3 : Err) : Option Q1 := parse_parser_within_o_cps N _ (fun a0 a1 a2 a3 a4 a5 a6 a7 a8 a9 a10 a11 a12 => some (a0, (a1, (a2, (a3, (a4, (a5, (a6, (a7, (a8, (a9, (a10, (a11, (a12, ())))))))))))))) v1 v2 v3

/- (*frankpledge/parse.parser).not -/
def parse_parser_not_o_cps (N : Nat) (R : Type) (K : Int → Int → Int → (List UInt8) → (List UInt8) → (List UInt8) → Int → (List Ex) → Int → Int → Q0 → Int → Err → Option R) (v1 : Q0) (v2 : Int) (v3 : Err) : Option R :=
  (Option.bind (parse_parser_is N [110, 111, 116] v1 v2 v3) fun v4 =>
  (bif (!v4.1) then
  (Option.bind (parse_parser_test_o N v1 v2 v3) fun v5 =>
  (K v5.1 v5.2.1 v5.2.2.1 v5.2.2.2.1 v5.2.2.2.2.1 v5.2.2.2.2.2.1 v5.2.2.2.2.2.2.1 v5.2.2.2.2.2.2.2.1 v5.2.2.2.2.2.2.2.2.1 v5.2.2.2.2.2.2.2.2.2.1 v5.2.2.2.2.2.2.2.2.2.2.1 v5.2.2.2.2.2.2.2.2.2.2.2.1 v5.2.2.2.2.2.2.2.2.2.2.2.2.1))
  else
  (Option.bind (parse_parser_next N v1 v2 v3) fun v6 =>
  (Option.bind (parse_parser_within_o N v6.2.2.2.2.2.2.1 v6.2.2.2.2.2.2.2.1 v6.2.2.2.2.2.2.2.2.1) fun v7 =>
  (K 16 0 0 [] [] [] 0 ([(Ex.mk v7.1 v7.2.1 v7.2.2.1 v7.2.2.2.1 v7.2.2.2.2.1 v7.2.2.2.2.2.1 v7.2.2.2.2.2.2.1 v7.2.2.2.2.2.2.2.1 v7.2.2.2.2.2.2.2.2.1 v7.2.2.2.2.2.2.2.2.2.1)] : (List Ex)) 0 v6.2.2.2.2.2.1 v7.2.2.2.2.2.2.2.2.2.2.1 v7.2.2.2.2.2.2.2.2.2.2.2.1 v7.2.2.2.2.2.2.2.2.2.2.2.2.1)))))

def parse_parser_not_o (N : Nat) (v1 : Q0) (v2 : Int) (v3 : Err) : Option Q1 := parse_parser_not_o_cps N _ (fun a0 a1 a2 a3 a4 a5 a6 a7 a8 a9 a10 a11 a12 => some (a0, (a1, (a2, (a3, (a4, (a5, (a6, (a7, (a8, (a9, (a10, (a11, (a12, ())))))))))))))) v1 v2 v3

/- (*frankpledge/parse.parser).within -/
def parse_parser_within_1_o_cps (N : Nat) (R : Type) (K : Int → Int → Int → (List UInt8) → (List UInt8) → (List UInt8) → Int → (List Ex) → Int → Int → Q0 → Int → Err → Option R) (v1 : Q0) (v2 : Int) (v3 : Err) : Option R :=
  (bif (decide (64 ≤ v2)) then
  (Option.bind (parse_parser_fail N 172 v1 v2 v3) fun v4 =>
  (bif (!(Err.isNil v4.2.2.1)) then
  (K 0 0 0 [] [] [] 0 [] 0 0 v4.1 v4.2.1 v4.2.2.1)
  else
  (Option.bind (Z_parse_parser_whole.r_parse_parser_whole v4.1 (IntKind.wrap .i64 (v4.2.1 + 1)) v4.2.2.1) fun v5 =>
  (K v5.1 v5.2.1 v5.2.2.1 v5.2.2.2.1 v5.2.2.2.2.1 v5.2.2.2.2.2.1 v5.2.2.2.2.2.2.1 v5.2.2.2.2.2.2.2.1 v5.2.2.2.2.2.2.2.2.1 v5.2.2.2.2.2.2.2.2.2.1 v5.2.2.2.2.2.2.2.2.2.2.1 (IntKind.wrap .i64 (v5.2.2.2.2.2.2.2.2.2.2.2.1 - 1)) v5.2.2.2.2.2.2.2.2.2.2.2.2.1))))
  else
  (bif (!(Err.isNil v3)) then
  (K 0 0 0 [] [] [] 0 [] 0 0 v1 v2 v3)
  else
  (Option.bind (Z_parse_parser_whole.r_parse_parser_whole v1 (IntKind.wrap .i64 (v2 + 1)) v3) fun v6 =>
  (K v6.1 v6.2.1 v6.2.2.1 v6.2.2.2.1 v6.2.2.2.2.1 v6.2.2.2.2.2.1 v6.2.2.2.2.2.2.1 v6.2.2.2.2.2.2.2.1 v6.2.2.2.2.2.2.2.2.1 v6.2.2.2.2.2.2.2.2.2.1 v6.2.2.2.2.2.2.2.2.2.2.1 (IntKind.wrap .i64 (v6.2.2.2.2.2.2.2.2.2.2.2.1 - 1)) v6.2.2.2.2.2.2.2.2.2.2.2.2.1))))

def parse_parser_within_1_o (N : Nat) (v1 : Q0) (v2 : Int) (v3 : Err) : Option Q1 := parse_parser_within_1_o_cps N _ (fun a0 a1 a2 a3 a4 a5 a6 a7 a8 a9 a10 a11 a12 => some (a0, (a1, (a2, (a3, (a4, (a5, (a6, (a7, (a8, (a9, (a10, (a11, (a12, ())))))))))))))) v1 v2 v3

/- (*frankpledge/parse.parser).inner -/
def parse_parser_inner_o_cps (N : Nat) (R : Type) (K : Int → Int → Int → (List UInt8) → (List UInt8) → (List UInt8) → Int → (List Ex) → Int → Int → Q0 → Int → Err → Option R) (v1 : Q0) (v2 : Int) (v3 : Err) : Option R :=
  (Option.bind (parse_parser_want N ([[40]] : (List (List UInt8))) v1 v2 v3) fun v4 =>
  (Option.bind (parse_parser_within_1_o N v4.1 v4.2.1 v4.2.2.1) fun v5 =>
  (Option.bind (parse_parser_want N ([[41]] : (List (List UInt8))) v5.2.2.2.2.2.2.2.2.2.2.1 v5.2.2.2.2.2.2.2.2.2.2.2.1 v5.2.2.2.2.2.2.2.2.2.2.2.2.1) fun v6 =>
  (K v5.1 v5.2.1 v5.2.2.1 v5.2.2.2.1 v5.2.2.2.2.1 v5.2.2.2.2.2.1 v5.2.2.2.2.2.2.1 v5.2.2.2.2.2.2.2.1 v5.2.2.2.2.2.2.2.2.1 v5.2.2.2.2.2.2.2.2.2.1 v6.1 v6.2.1 v6.2.2.1))))

def parse_parser_inner_o (N : Nat) (v1 : Q0) (v2 : Int) (v3 : Err) : Option Q1 := parse_parser_inner_o_cps N _ (fun a0 a1 a2 a3 a4 a5 a6 a7 a8 a9 a10 a11 a12 => some (a0, (a1, (a2, (a3, (a4, (a5, (a6, (a7, (a8, (a9, (a10, (a11, (a12, ())))))))))))))) v1 v2 v3

/- (*frankpledge/parse.parser).word -/
def parse_parser_word_o_r1 (N : Nat) (R : Type) (k0 : Q0 → Int → Err → Int → (List UInt8) → Int → Int → (List UInt8) → Int → Int → Int → Int → (List UInt8) → (List UInt8) → (List UInt8) → Int → (List Ex) → Int → Int → Int → Int → Int → (List UInt8) → (List UInt8) → (List UInt8) → Int → Int → Int → Int → Int → Int → (List UInt8) → (List UInt8) → (List UInt8) → Int → Int → Int → Option R) (v415 : Q0) (v416 : Int) (v417 : Err) (v418 : Int) (v419 : (List UInt8)) (v420 : Int) (v421 : Int) (v422 : (List UInt8)) (v423 : Int) (v424 : Int) (v425 : Int) (v426 : Int) (v427 : (List UInt8)) (v428 : (List UInt8)) (v429 : (List UInt8)) (v430 : Int) (v431 : (List Ex)) (v432 : Int) (v433 : Int) (v434 : Int) (v435 : Int) (v436 : Int) (v437 : (List UInt8)) (v438 : (List UInt8)) (v439 : (List UInt8)) (v440 : Int) (v441 : Int) (v442 : Int) (v443 : Int) (v444 : Int) (v445 : Int) (v446 : (List UInt8)) (v447 : (List UInt8)) (v448 : (List UInt8)) (v449 : Int) (v450 : Int) (v451 : Int) : Option R :=
  (Option.bind (parse_parser_name N v415 v416 v417) fun v452 =>
  (k0 v452.2.1 v452.2.2.1 v452.2.2.2.1 v418 v419 v420 v421 v422 v423 v424 v425 v426 v427 v428 v429 v430 v431 v432 v433 v434 v435 v436 v437 v438 v439 v440 v441 v442 v443 v444 v445 v446 v448 v452.1 v449 v450 v451))

def parse_parser_word_o_j0 (N : Nat) (R : Type) (k0 : Q0 → Int → Err → Int → (List UInt8) → Int → Int → (List UInt8) → Int → Int → Int → Int → (List UInt8) → (List UInt8) → (List UInt8) → Int → (List Ex) → Int → Int → Int → Int → Int → (List UInt8) → (List UInt8) → (List UInt8) → Int → Int → Int → Int → Int → Int → (List UInt8) → (List UInt8) → (List UInt8) → Int → Int → Int → Option R) (k1 : Q0 → Int → Err → Int → (List UInt8) → Int → Int → (List UInt8) → Int → Int → Int → Int → (List UInt8) → (List UInt8) → (List UInt8) → Int → (List Ex) → Int → Int → Int → Int → Int → (List UInt8) → (List UInt8) → (List UInt8) → Int → Int → Int → Int → Int → Int → (List UInt8) → (List UInt8) → (List UInt8) → Int → Int → Int → Option R) (v376 : Bool) (v377 : Q0) (v378 : Int) (v379 : Err) (v380 : Int) (v381 : (List UInt8)) (v382 : Int) (v383 : Int) (v384 : (List UInt8)) (v385 : Int) (v386 : Int) (v387 : Int) (v388 : Int) (v389 : (List UInt8)) (v390 : (List UInt8)) (v391 : (List UInt8)) (v392 : Int) (v393 : (List Ex)) (v394 : Int) (v395 : Int) (v396 : Int) (v397 : Int) (v398 : Int) (v399 : (List UInt8)) (v400 : (List UInt8)) (v401 : (List UInt8)) (v402 : Int) (v403 : Int) (v404 : Int) (v405 : Int) (v406 : Int) (v407 : Int) (v408 : (List UInt8)) (v409 : (List UInt8)) (v410 : (List UInt8)) (v411 : Int) (v412 : Int) (v413 : Int) : Option R :=
  (bif v376 then
  (bif (decide (0 ≤ (3 : Int) ∧ (3 : Int) ≤ ((v377.length : Nat) : Int))) then
  (Option.bind (parse_parser_want N ([[41]] : (List (List UInt8))) (List.drop 3 (List.take v377.length v377)) v378 v379) fun v414 =>
  (k1 v414.1 v414.2.1 v414.2.2.1 v380 v381 v382 v383 v384 v385 v386 v387 v388 v389 v390 v391 v392 v393 v394 v395 18 v406 v407 v408 v409 v410 v411 v412 v413 18 v406 v407 v408 v409 v410 v411 v412 v413))
  else
  none)
  else
  (k0 v377 v378 v379 v380 v381 v382 v383 v384 v385 v386 v387 v388 v389 v390 v391 v392 v393 v394 v395 v396 v397 v398 v399 v400 v401 v402 v403 v404 v405 v406 v407 v408 v409 v410 v411 v412 v413))

def parse_parser_word_o_cps (N : Nat) (R : Type) (K : Int → Int → Int → (List UInt8) → (List UInt8) → (List UInt8) → Int → (List Ex) → Int → Int → Q0 → Int → Err → Option R) (v1 : Int) (v2 : (List UInt8)) (v3 : Int) (v4 : Int) (v5 : (List UInt8)) (v6 : Int) (v7 : Int) (v8 : Int) (v9 : Int) (v10 : (List UInt8)) (v11 : (List UInt8)) (v12 : (List UInt8)) (v13 : Int) (v14 : (List Ex)) (v15 : Int) (v16 : Int) (v17 : Q0) (v18 : Int) (v19 : Err) : Option R :=
  (bif (decide (v2 = [116, 114, 117, 101])) then
  (Option.bind (parse_parser_next N v17 v18 v19) fun v20 =>
  (K v7 1 1 v10 v11 v12 v13 v14 v15 v16 v20.2.2.2.2.2.2.1 v20.2.2.2.2.2.2.2.1 v20.2.2.2.2.2.2.2.2.1))
  else
  (bif (decide (v2 = [102, 97, 108, 115, 101])) then
  (Option.bind (parse_parser_next N v17 v18 v19) fun v21 =>
  (K v7 1 v9 v10 v11 v12 v13 v14 v15 v16 v21.2.2.2.2.2.2.1 v21.2.2.2.2.2.2.2.1 v21.2.2.2.2.2.2.2.2.1))
  else
  (bif (decide (v2 = [110, 117, 108, 108])) then
  (Option.bind (parse_parser_next N v17 v18 v19) fun v22 =>
  (K v7 v8 v9 v10 v11 v12 v13 v14 v15 v16 v22.2.2.2.2.2.2.1 v22.2.2.2.2.2.2.2.1 v22.2.2.2.2.2.2.2.2.1))
  else
  (bif (decide (v2 = [99, 111, 117, 110, 116])) then
  (Option.bind (nth v17 1) fun v23 =>
  (bif (decide (v23.1 = 5)) then
  (Option.bind (nth v17 1) fun v24 =>
  (bif (decide (v24.2.1 = [40])) then
  (Option.bind (nth v17 2) fun v25 =>
  (bif (decide (v25.1 = 5)) then
  (Option.bind (nth v17 2) fun v26 =>
  (parse_parser_word_o_j0 N _ (fun v27 v28 v29 v30 v31 v32 v33 v34 v35 v36 v37 v38 v39 v40 v41 v42 v43 v44 v45 v46 v47 v48 v49 v50 v51 v52 v53 v54 v55 v56 v57 v58 v59 v60 v61 v62 v63 =>
  (Option.bind (parse_parser_next N v27 v28 v29) fun v64 =>
  (Option.bind (parse_parser_inner_o N v64.2.2.2.2.2.2.1 v64.2.2.2.2.2.2.2.1 v64.2.2.2.2.2.2.2.2.1) fun v65 =>
  (K 18 v56 v57 v58 v59 v60 v61 ([(Ex.mk v65.1 v65.2.1 v65.2.2.1 v65.2.2.2.1 v65.2.2.2.2.1 v65.2.2.2.2.2.1 v65.2.2.2.2.2.2.1 v65.2.2.2.2.2.2.2.1 v65.2.2.2.2.2.2.2.2.1 v65.2.2.2.2.2.2.2.2.2.1)] : (List Ex)) v62 v63 v65.2.2.2.2.2.2.2.2.2.2.1 v65.2.2.2.2.2.2.2.2.2.2.2.1 v65.2.2.2.2.2.2.2.2.2.2.2.2.1)))) (fun v66 v67 v68 v69 v70 v71 v72 v73 v74 v75 v76 v77 v78 v79 v80 v81 v82 v83 v84 v85 v86 v87 v88 v89 v90 v91 v92 v93 v94 v95 v96 v97 v98 v99 v100 v101 v102 =>
  (K v85 v86 v87 v88 v89 v90 v91 [] v92 v93 v66 v67 v68)) (decide (v26.2.1 = [42])) v17 v18 v19 v1 v2 v3 v4 v5 v6 v7 v8 v9 v10 v11 v12 v13 v14 v15 v16 0 0 0 [] [] [] 0 0 0 0 0 0 [] [] [] 0 0 v6))
  else
  (parse_parser_word_o_j0 N _ (fun v103 v104 v105 v106 v107 v108 v109 v110 v111 v112 v113 v114 v115 v116 v117 v118 v119 v120 v121 v122 v123 v124 v125 v126 v127 v128 v129 v130 v131 v132 v133 v134 v135 v136 v137 v138 v139 =>
  (Option.bind (parse_parser_next N v103 v104 v105) fun v140 =>
  (Option.bind (parse_parser_inner_o N v140.2.2.2.2.2.2.1 v140.2.2.2.2.2.2.2.1 v140.2.2.2.2.2.2.2.2.1) fun v141 =>
  (K 18 v132 v133 v134 v135 v136 v137 ([(Ex.mk v141.1 v141.2.1 v141.2.2.1 v141.2.2.2.1 v141.2.2.2.2.1 v141.2.2.2.2.2.1 v141.2.2.2.2.2.2.1 v141.2.2.2.2.2.2.2.1 v141.2.2.2.2.2.2.2.2.1 v141.2.2.2.2.2.2.2.2.2.1)] : (List Ex)) v138 v139 v141.2.2.2.2.2.2.2.2.2.2.1 v141.2.2.2.2.2.2.2.2.2.2.2.1 v141.2.2.2.2.2.2.2.2.2.2.2.2.1)))) (fun v142 v143 v144 v145 v146 v147 v148 v149 v150 v151 v152 v153 v154 v155 v156 v157 v158 v159 v160 v161 v162 v163 v164 v165 v166 v167 v168 v169 v170 v171 v172 v173 v174 v175 v176 v177 v178 =>
  (K v161 v162 v163 v164 v165 v166 v167 [] v168 v169 v142 v143 v144)) false v17 v18 v19 v1 v2 v3 v4 v5 v6 v7 v8 v9 v10 v11 v12 v13 v14 v15 v16 0 0 0 [] [] [] 0 0 0 0 0 0 [] [] [] 0 0 v6)))
  else
  (parse_parser_word_o_j0 N _ (fun v179 v180 v181 v182 v183 v184 v185 v186 v187 v188 v189 v190 v191 v192 v193 v194 v195 v196 v197 v198 v199 v200 v201 v202 v203 v204 v205 v206 v207 v208 v209 v210 v211 v212 v213 v214 v215 =>
  (Option.bind (parse_parser_next N v179 v180 v181) fun v216 =>
  (Option.bind (parse_parser_inner_o N v216.2.2.2.2.2.2.1 v216.2.2.2.2.2.2.2.1 v216.2.2.2.2.2.2.2.2.1) fun v217 =>
  (K 18 v208 v209 v210 v211 v212 v213 ([(Ex.mk v217.1 v217.2.1 v217.2.2.1 v217.2.2.2.1 v217.2.2.2.2.1 v217.2.2.2.2.2.1 v217.2.2.2.2.2.2.1 v217.2.2.2.2.2.2.2.1 v217.2.2.2.2.2.2.2.2.1 v217.2.2.2.2.2.2.2.2.2.1)] : (List Ex)) v214 v215 v217.2.2.2.2.2.2.2.2.2.2.1 v217.2.2.2.2.2.2.2.2.2.2.2.1 v217.2.2.2.2.2.2.2.2.2.2.2.2.1)))) (fun v218 v219 v220 v221 v222 v223 v224 v225 v226 v227 v228 v229 v230 v231 v232 v233 v234 v235 v236 v237 v238 v239 v240 v241 v242 v243 v244 v245 v246 v247 v248 v249 v250 v251 v252 v253 v254 =>
  (K v237 v238 v239 v240 v241 v242 v243 [] v244 v245 v218 v219 v220)) false v17 v18 v19 v1 v2 v3 v4 v5 v6 v7 v8 v9 v10 v11 v12 v13 v14 v15 v16 0 0 0 [] [] [] 0 0 0 0 0 0 [] [] [] 0 0 v6)))
  else
  (parse_parser_word_o_j0 N _ (fun v255 v256 v257 v258 v259 v260 v261 v262 v263 v264 v265 v266 v267 v268 v269 v270 v271 v272 v273 v274 v275 v276 v277 v278 v279 v280 v281 v282 v283 v284 v285 v286 v287 v288 v289 v290 v291 =>
  (Option.bind (parse_parser_next N v255 v256 v257) fun v292 =>
  (Option.bind (parse_parser_inner_o N v292.2.2.2.2.2.2.1 v292.2.2.2.2.2.2.2.1 v292.2.2.2.2.2.2.2.2.1) fun v293 =>
  (K 18 v284 v285 v286 v287 v288 v289 ([(Ex.mk v293.1 v293.2.1 v293.2.2.1 v293.2.2.2.1 v293.2.2.2.2.1 v293.2.2.2.2.2.1 v293.2.2.2.2.2.2.1 v293.2.2.2.2.2.2.2.1 v293.2.2.2.2.2.2.2.2.1 v293.2.2.2.2.2.2.2.2.2.1)] : (List Ex)) v290 v291 v293.2.2.2.2.2.2.2.2.2.2.1 v293.2.2.2.2.2.2.2.2.2.2.2.1 v293.2.2.2.2.2.2.2.2.2.2.2.2.1)))) (fun v294 v295 v296 v297 v298 v299 v300 v301 v302 v303 v304 v305 v306 v307 v308 v309 v310 v311 v312 v313 v314 v315 v316 v317 v318 v319 v320 v321 v322 v323 v324 v325 v326 v327 v328 v329 v330 =>
  (K v313 v314 v315 v316 v317 v318 v319 [] v320 v321 v294 v295 v296)) false v17 v18 v19 v1 v2 v3 v4 v5 v6 v7 v8 v9 v10 v11 v12 v13 v14 v15 v16 0 0 0 [] [] [] 0 0 0 0 0 0 [] [] [] 0 0 v6)))
  else
  (bif (decide (v2 = [115, 117, 109])) then
  (Option.bind (parse_parser_next N v17 v18 v19) fun v331 =>
  (Option.bind (parse_parser_inner_o N v331.2.2.2.2.2.2.1 v331.2.2.2.2.2.2.2.1 v331.2.2.2.2.2.2.2.2.1) fun v332 =>
  (K 19 0 0 [] [] [] 0 ([(Ex.mk v332.1 v332.2.1 v332.2.2.1 v332.2.2.2.1 v332.2.2.2.2.1 v332.2.2.2.2.2.1 v332.2.2.2.2.2.2.1 v332.2.2.2.2.2.2.2.1 v332.2.2.2.2.2.2.2.2.1 v332.2.2.2.2.2.2.2.2.2.1)] : (List Ex)) 0 v6 v332.2.2.2.2.2.2.2.2.2.2.1 v332.2.2.2.2.2.2.2.2.2.2.2.1 v332.2.2.2.2.2.2.2.2.2.2.2.2.1)))
  else
  (bif (decide (v2 = [109, 105, 110])) then
  (Option.bind (parse_parser_next N v17 v18 v19) fun v333 =>
  (Option.bind (parse_parser_inner_o N v333.2.2.2.2.2.2.1 v333.2.2.2.2.2.2.2.1 v333.2.2.2.2.2.2.2.2.1) fun v334 =>
  (K 20 0 0 [] [] [] 0 ([(Ex.mk v334.1 v334.2.1 v334.2.2.1 v334.2.2.2.1 v334.2.2.2.2.1 v334.2.2.2.2.2.1 v334.2.2.2.2.2.2.1 v334.2.2.2.2.2.2.2.1 v334.2.2.2.2.2.2.2.2.1 v334.2.2.2.2.2.2.2.2.2.1)] : (List Ex)) 0 v6 v334.2.2.2.2.2.2.2.2.2.2.1 v334.2.2.2.2.2.2.2.2.2.2.2.1 v334.2.2.2.2.2.2.2.2.2.2.2.2.1)))
  else
  (bif (decide (v2 = [109, 97, 120])) then
  (Option.bind (parse_parser_next N v17 v18 v19) fun v335 =>
  (Option.bind (parse_parser_inner_o N v335.2.2.2.2.2.2.1 v335.2.2.2.2.2.2.2.1 v335.2.2.2.2.2.2.2.2.1) fun v336 =>
  (K 21 0 0 [] [] [] 0 ([(Ex.mk v336.1 v336.2.1 v336.2.2.1 v336.2.2.2.1 v336.2.2.2.2.1 v336.2.2.2.2.2.1 v336.2.2.2.2.2.2.1 v336.2.2.2.2.2.2.2.1 v336.2.2.2.2.2.2.2.2.1 v336.2.2.2.2.2.2.2.2.2.1)] : (List Ex)) 0 v6 v336.2.2.2.2.2.2.2.2.2.2.1 v336.2.2.2.2.2.2.2.2.2.2.2.1 v336.2.2.2.2.2.2.2.2.2.2.2.2.1)))
  else
  (Option.bind (parse_parser_name N v17 v18 v19) fun v337 =>
  (Option.bind (parse_parser_take N [46] v337.2.1 v337.2.2.1 v337.2.2.2.1) fun v338 =>
  (bif v338.1 then
  (parse_parser_word_o_r1 N _ (fun v339 v340 v341 v342 v343 v344 v345 v346 v347 v348 v349 v350 v351 v352 v353 v354 v355 v356 v357 v358 v359 v360 v361 v362 v363 v364 v365 v366 v367 v368 v369 v370 v371 v372 v373 v374 v375 =>
  (K v367 v368 v369 v370 v371 v372 v373 [] v374 v375 v339 v340 v341)) v338.2.1 v338.2.2.1 v338.2.2.2.1 v1 v2 v3 v4 v5 v6 v7 v8 v9 v10 v11 v12 v13 v14 v15 v16 0 0 0 [] [] [] 0 0 0 2 0 0 [] [] v337.1 0 0 v6)
  else
  (K 2 0 0 [] [] v337.1 0 [] 0 v6 v338.2.1 v338.2.2.1 v338.2.2.2.1)))))))))))

def parse_parser_word_o (N : Nat) (v1 : Int) (v2 : (List UInt8)) (v3 : Int) (v4 : Int) (v5 : (List UInt8)) (v6 : Int) (v7 : Int) (v8 : Int) (v9 : Int) (v10 : (List UInt8)) (v11 : (List UInt8)) (v12 : (List UInt8)) (v13 : Int) (v14 : (List Ex)) (v15 : Int) (v16 : Int) (v17 : Q0) (v18 : Int) (v19 : Err) : Option Q1 := parse_parser_word_o_cps N _ (fun a0 a1 a2 a3 a4 a5 a6 a7 a8 a9 a10 a11 a12 => some (a0, (a1, (a2, (a3, (a4, (a5, (a6, (a7, (a8, (a9, (a10, (a11, (a12, ())))))))))))))) v1 v2 v3 v4 v5 v6 v7 v8 v9 v10 v11 v12 v13 v14 v15 v16 v17 v18 v19

/- (*frankpledge/parse.parser).one -/
def parse_parser_one_o_cps (N : Nat) (R : Type) (K : Int → Int → Int → (List UInt8) → (List UInt8) → (List UInt8) → Int → (List Ex) → Int → Int → Q0 → Int → Err → Option R) (v1 : Q0) (v2 : Int) (v3 : Err) : Option R :=
  (bif (!(Err.isNil v3)) then
  (K 0 0 0 [] [] [] 0 [] 0 0 v1 v2 v3)
  else
  (Option.bind (nth v1 0) fun v4 =>
  (bif (decide (v4.1 = 2)) then
  (Option.bind (parse_parser_next N v1 v2 v3) fun v5 =>
  (K 1 v4.2.2.1.1 v4.2.2.1.2.1 v4.2.2.1.2.2.1 [] [] 0 [] 0 v4.2.2.2.1 v5.2.2.2.2.2.2.1 v5.2.2.2.2.2.2.2.1 v5.2.2.2.2.2.2.2.2.1))
  else
  (bif (decide (v4.1 = 3)) then
  (Option.bind (parse_parser_next N v1 v2 v3) fun v6 =>
  (K 1 v4.2.2.1.1 v4.2.2.1.2.1 v4.2.2.1.2.2.1 [] [] 0 [] 0 v4.2.2.2.1 v6.2.2.2.2.2.2.1 v6.2.2.2.2.2.2.2.1 v6.2.2.2.2.2.2.2.2.1))
  else
  (bif (decide (v4.1 = 4)) then
  (Option.bind (parse_parser_next N v1 v2 v3) fun v7 =>
  (K 1 v4.2.2.1.1 v4.2.2.1.2.1 v4.2.2.1.2.2.1 [] [] 0 [] 0 v4.2.2.2.1 v7.2.2.2.2.2.2.1 v7.2.2.2.2.2.2.2.1 v7.2.2.2.2.2.2.2.2.1))
  else
  (bif (decide (v4.1 = 5)) then
  (bif (decide (v4.2.1 = [40])) then
  (Option.bind (parse_parser_inner_o N v1 v2 v3) fun v8 =>
  (K v8.1 v8.2.1 v8.2.2.1 v8.2.2.2.1 v8.2.2.2.2.1 v8.2.2.2.2.2.1 v8.2.2.2.2.2.2.1 v8.2.2.2.2.2.2.2.1 v8.2.2.2.2.2.2.2.2.1 v8.2.2.2.2.2.2.2.2.2.1 v8.2.2.2.2.2.2.2.2.2.2.1 v8.2.2.2.2.2.2.2.2.2.2.2.1 v8.2.2.2.2.2.2.2.2.2.2.2.2.1))
  else
  (Option.bind (parse_parser_fail N 171 v1 v2 v3) fun v9 =>
  (K 0 0 0 [] [] [] 0 [] 0 0 v9.1 v9.2.1 v9.2.2.1)))
  else
  (bif (decide (v4.1 = 1)) then
  (Option.bind (parse_parser_word_o N v4.1 v4.2.1 v4.2.2.1.1 v4.2.2.1.2.1 v4.2.2.1.2.2.1 v4.2.2.2.1 1 v4.2.2.1.1 v4.2.2.1.2.1 v4.2.2.1.2.2.1 [] [] 0 [] 0 v4.2.2.2.1 v1 v2 v3) fun v10 =>
  (K v10.1 v10.2.1 v10.2.2.1 v10.2.2.2.1 v10.2.2.2.2.1 v10.2.2.2.2.2.1 v10.2.2.2.2.2.2.1 v10.2.2.2.2.2.2.2.1 v10.2.2.2.2.2.2.2.2.1 v10.2.2.2.2.2.2.2.2.2.1 v10.2.2.2.2.2.2.2.2.2.2.1 v10.2.2.2.2.2.2.2.2.2.2.2.1 v10.2.2.2.2.2.2.2.2.2.2.2.2.1))
  else
  (Option.bind (parse_parser_fail N 171 v1 v2 v3) fun v11 =>
  (K 0 0 0 [] [] [] 0 [] 0 0 v11.1 v11.2.1 v11.2.2.1)))))))))

def parse_parser_one_o (N : Nat) (v1 : Q0) (v2 : Int) (v3 : Err) : Option Q1 := parse_parser_one_o_cps N _ (fun a0 a1 a2 a3 a4 a5 a6 a7 a8 a9 a10 a11 a12 => some (a0, (a1, (a2, (a3, (a4, (a5, (a6, (a7, (a8, (a9, (a10, (a11, (a12, ())))))))))))))) v1 v2 v3

/- (*frankpledge/parse.parser).within -/
def parse_parser_within_2_o_cps (N : Nat) (R : Type) (K : Int → Int → Int → (List UInt8) → (List UInt8) → (List UInt8) → Int → (List Ex) → Int → Int → Q0 → Int → Err → Option R) (v1 : Q0) (v2 : Int) (v3 : Err) : Option R :=
  (bif (decide (64 ≤ v2)) then
  (Option.bind (parse_parser_fail N 172 v1 v2 v3) fun v4 =>
  (bif (!(Err.isNil v4.2.2.1)) then
  (K 0 0 0 [] [] [] 0 [] 0 0 v4.1 v4.2.1 v4.2.2.1)
  else
  (Option.bind (Z_parse_parser_whole.r_parse_parser_sign v4.1 (IntKind.wrap .i64 (v4.2.1 + 1)) v4.2.2.1) fun v5 =>
  (K v5.1 v5.2.1 v5.2.2.1 v5.2.2.2.1 v5.2.2.2.2.1 v5.2.2.2.2.2.1 v5.2.2.2.2.2.2.1 v5.2.2.2.2.2.2.2.1 v5.2.2.2.2.2.2.2.2.1 v5.2.2.2.2.2.2.2.2.2.1 v5.2.2.2.2.2.2.2.2.2.2.1 (IntKind.wrap .i64 (v5.2.2.2.2.2.2.2.2.2.2.2.1 - 1)) v5.2.2.2.2.2.2.2.2.2.2.2.2.1))))
  else
  (bif (!(Err.isNil v3)) then
  (K 0 0 0 [] [] [] 0 [] 0 0 v1 v2 v3)
  else
  (Option.bind (Z_parse_parser_whole.r_parse_parser_sign v1 (IntKind.wrap .i64 (v2 + 1)) v3) fun v6 =>
  (K v6.1 v6.2.1 v6.2.2.1 v6.2.2.2.1 v6.2.2.2.2.1 v6.2.2.2.2.2.1 v6.2.2.2.2.2.2.1 v6.2.2.2.2.2.2.2.1 v6.2.2.2.2.2.2.2.2.1 v6.2.2.2.2.2.2.2.2.2.1 v6.2.2.2.2.2.2.2.2.2.2.1 (IntKind.wrap .i64 (v6.2.2.2.2.2.2.2.2.2.2.2.1 - 1)) v6.2.2.2.2.2.2.2.2.2.2.2.2.1))))

def parse_parser_within_2_o (N : Nat) (v1 : Q0) (v2 : Int) (v3 : Err) : Option Q1 := parse_parser_within_2_o_cps N _ (fun a0 a1 a2 a3 a4 a5 a6 a7 a8 a9 a10 a11 a12 => some (a0, (a1, (a2, (a3, (a4, (a5, (a6, (a7, (a8, (a9, (a10, (a11, (a12, ())))))))))))))) v1 v2 v3

/- (*frankpledge/parse.parser).sign -/
def parse_parser_sign_o_cps (N : Nat) (R : Type) (K : Int → Int → Int → (List UInt8) → (List UInt8) → (List UInt8) → Int → (List Ex) → Int → Int → Q0 → Int → Err → Option R) (v1 : Q0) (v2 : Int) (v3 : Err) : Option R :=
  (Option.bind (parse_parser_is N [45] v1 v2 v3) fun v4 =>
  (bif (!v4.1) then
  (Option.bind (parse_parser_one_o N v1 v2 v3) fun v5 =>
  (K v5.1 v5.2.1 v5.2.2.1 v5.2.2.2.1 v5.2.2.2.2.1 v5.2.2.2.2.2.1 v5.2.2.2.2.2.2.1 v5.2.2.2.2.2.2.2.1 v5.2.2.2.2.2.2.2.2.1 v5.2.2.2.2.2.2.2.2.2.1 v5.2.2.2.2.2.2.2.2.2.2.1 v5.2.2.2.2.2.2.2.2.2.2.2.1 v5.2.2.2.2.2.2.2.2.2.2.2.2.1))
  else
  (Option.bind (parse_parser_next N v1 v2 v3) fun v6 =>
  (Option.bind (parse_parser_within_2_o N v6.2.2.2.2.2.2.1 v6.2.2.2.2.2.2.2.1 v6.2.2.2.2.2.2.2.2.1) fun v7 =>
  (K 7 0 0 [] [] [] 0 ([(Ex.mk v7.1 v7.2.1 v7.2.2.1 v7.2.2.2.1 v7.2.2.2.2.1 v7.2.2.2.2.2.1 v7.2.2.2.2.2.2.1 v7.2.2.2.2.2.2.2.1 v7.2.2.2.2.2.2.2.2.1 v7.2.2.2.2.2.2.2.2.2.1)] : (List Ex)) 0 v6.2.2.2.2.2.1 v7.2.2.2.2.2.2.2.2.2.2.1 v7.2.2.2.2.2.2.2.2.2.2.2.1 v7.2.2.2.2.2.2.2.2.2.2.2.2.1)))))

def parse_parser_sign_o (N : Nat) (v1 : Q0) (v2 : Int) (v3 : Err) : Option Q1 := parse_parser_sign_o_cps N _ (fun a0 a1 a2 a3 a4 a5 a6 a7 a8 a9 a10 a11 a12 => some (a0, (a1, (a2, (a3, (a4, (a5, (a6, (a7, (a8, (a9, (a10, (a11, (a12, ())))))))))))))) v1 v2 v3

/- (*frankpledge/parse.parser).expr -/
def parse_parser_expr_o_r1 (N : Nat) (R : Type) (k0 : Int → Q0 → Int → Err → Int → Int → Int → (List UInt8) → (List UInt8) → (List UInt8) → Int → Int → Int → Int → Int → Int → (List UInt8) → (List UInt8) → (List UInt8) → Int → (List Ex) → Int → Int → Option R) (v79 : Int) (v80 : Int) (v81 : Int) (v82 : Q0) (v83 : Int) (v84 : Err) (v85 : Int) (v86 : Int) (v87 : Int) (v88 : (List UInt8)) (v89 : (List UInt8)) (v90 : (List UInt8)) (v91 : Int) (v92 : Int) (v93 : Int) (v94 : Int) (v95 : Int) (v96 : Int) (v97 : (List UInt8)) (v98 : (List UInt8)) (v99 : (List UInt8)) (v100 : Int) (v101 : (List Ex)) (v102 : Int) (v103 : Int) : Option R :=
  (Option.bind (Z_parse_parser_whole.r_parse_parser_expr (IntKind.wrap .i64 (v79 + 1)) v82 v83 v84) fun v104 =>
  (k0 v79 v104.2.2.2.2.2.2.2.2.2.2.1 v104.2.2.2.2.2.2.2.2.2.2.2.1 v104.2.2.2.2.2.2.2.2.2.2.2.2.1 v85 v86 v87 v88 v89 v90 v91 v92 v93 v80 0 0 [] [] [] 0 ([(Ex.mk v94 v95 v96 v97 v98 v99 v100 v101 v102 v103), (Ex.mk v104.1 v104.2.1 v104.2.2.1 v104.2.2.2.1 v104.2.2.2.2.1 v104.2.2.2.2.2.1 v104.2.2.2.2.2.2.1 v104.2.2.2.2.2.2.2.1 v104.2.2.2.2.2.2.2.2.1 v104.2.2.2.2.2.2.2.2.2.1)] : (List Ex)) 0 v81))

def parse_parser_expr_o_l0B (N : Nat) (R : Type) (rec : Int → Q0 → Int → Err → Int → Int → Int → (List UInt8) → (List UInt8) → (List UInt8) → Int → Int → Int → Int → Int → Int → (List UInt8) → (List UInt8) → (List UInt8) → Int → (List Ex) → Int → Int → Option R) (k0 : Q0 → Int → Err → Int → Int → Int → (List UInt8) → (List UInt8) → (List UInt8) → Int → Int → Int → Int → Int → Int → (List UInt8) → (List UInt8) → (List UInt8) → Int → (List Ex) → Int → Int → Option R) (v30 : Int) (v31 : Q0) (v32 : Int) (v33 : Err) (v34 : Int) (v35 : Int) (v36 : Int) (v37 : (List UInt8)) (v38 : (List UInt8)) (v39 : (List UInt8)) (v40 : Int) (v41 : Int) (v42 : Int) (v43 : Int) (v44 : Int) (v45 : Int) (v46 : (List UInt8)) (v47 : (List UInt8)) (v48 : (List UInt8)) (v49 : Int) (v50 : (List Ex)) (v51 : Int) (v52 : Int) : Option R :=
  (bif (Err.isNil v33) then
  (Option.bind (nth v31 0) fun v53 =>
  (Option.bind (parse_op N v53.1 v53.2.1 v53.2.2.1.1 v53.2.2.1.2.1 v53.2.2.1.2.2.1 v53.2.2.2.1 v30) fun v54 =>
  (bif (decide (v54.1 = 0)) then
  (k0 v31 v32 v33 v34 v35 v36 v37 v38 v39 v40 v41 v42 v43 v44 v45 v46 v47 v48 v49 v50 v51 v52)
  else
  (Option.bind (parse_parser_next N v31 v32 v33) fun v55 =>
  (parse_parser_expr_o_r1 N _ (fun v56 v57 v58 v59 v60 v61 v62 v63 v64 v65 v66 v67 v68 v69 v70 v71 v72 v73 v74 v75 v76 v77 v78 =>
  (rec v56 v57 v58 v59 v60 v61 v62 v63 v64 v65 v66 v67 v68 v69 v70 v71 v72 v73 v74 v75 v76 v77 v78)) v30 v54.1 v55.2.2.2.2.2.1 v55.2.2.2.2.2.2.1 v55.2.2.2.2.2.2.2.1 v55.2.2.2.2.2.2.2.2.1 v34 v35 v36 v37 v38 v39 v40 v41 v42 v43 v44 v45 v46 v47 v48 v49 v50 v51 v52)))))
  else
  (k0 v31 v32 v33 v34 v35 v36 v37 v38 v39 v40 v41 v42 v43 v44 v45 v46 v47 v48 v49 v50 v51 v52))

def parse_parser_expr_o_l0 (N : Nat) (R : Type) (k0 : Q0 → Int → Err → Int → Int → Int → (List UInt8) → (List UInt8) → (List UInt8) → Int → Int → Int → Int → Int → Int → (List UInt8) → (List UInt8) → (List UInt8) → Int → (List Ex) → Int → Int → Option R) : Nat → Int → Q0 → Int → Err → Int → Int → Int → (List UInt8) → (List UInt8) → (List UInt8) → Int → Int → Int → Int → Int → Int → (List UInt8) → (List UInt8) → (List UInt8) → Int → (List Ex) → Int → Int → Option R
  | 0 => fun _ _ _ _ _ _ _ _ _ _ _ _ _ _ _ _ _ _ _ _ _ _ _ => none
  | n + 1 => parse_parser_expr_o_l0B N R (parse_parser_expr_o_l0 N R k0 n) k0

def parse_parser_expr_o_cps (N : Nat) (R : Type) (K : Int → Int → Int → (List UInt8) → (List UInt8) → (List UInt8) → Int → (List Ex) → Int → Int → Q0 → Int → Err → Option R) (v1 : Int) (v2 : Q0) (v3 : Int) (v4 : Err) : Option R :=
  (bif (decide (v1 = 2)) then
  (Option.bind (parse_parser_not_o N v2 v3 v4) fun v5 =>
  (K v5.1 v5.2.1 v5.2.2.1 v5.2.2.2.1 v5.2.2.2.2.1 v5.2.2.2.2.2.1 v5.2.2.2.2.2.2.1 v5.2.2.2.2.2.2.2.1 v5.2.2.2.2.2.2.2.2.1 v5.2.2.2.2.2.2.2.2.2.1 v5.2.2.2.2.2.2.2.2.2.2.1 v5.2.2.2.2.2.2.2.2.2.2.2.1 v5.2.2.2.2.2.2.2.2.2.2.2.2.1))
  else
  (bif (decide (v1 = 5)) then
  (Option.bind (parse_parser_sign_o N v2 v3 v4) fun v6 =>
  (K v6.1 v6.2.1 v6.2.2.1 v6.2.2.2.1 v6.2.2.2.2.1 v6.2.2.2.2.2.1 v6.2.2.2.2.2.2.1 v6.2.2.2.2.2.2.2.1 v6.2.2.2.2.2.2.2.2.1 v6.2.2.2.2.2.2.2.2.2.1 v6.2.2.2.2.2.2.2.2.2.2.1 v6.2.2.2.2.2.2.2.2.2.2.2.1 v6.2.2.2.2.2.2.2.2.2.2.2.2.1))
  else
  (Option.bind (Z_parse_parser_whole.r_parse_parser_expr (IntKind.wrap .i64 (v1 + 1)) v2 v3 v4) fun v7 =>
  (parse_parser_expr_o_l0 N _ (fun v8 v9 v10 v11 v12 v13 v14 v15 v16 v17 v18 v19 v20 v21 v22 v23 v24 v25 v26 v27 v28 v29 =>
  (K v20 v21 v22 v23 v24 v25 v26 v27 v28 v29 v8 v9 v10)) N v1 v7.2.2.2.2.2.2.2.2.2.2.1 v7.2.2.2.2.2.2.2.2.2.2.2.1 v7.2.2.2.2.2.2.2.2.2.2.2.2.1 0 0 0 [] [] [] 0 0 0 v7.1 v7.2.1 v7.2.2.1 v7.2.2.2.1 v7.2.2.2.2.1 v7.2.2.2.2.2.1 v7.2.2.2.2.2.2.1 v7.2.2.2.2.2.2.2.1 v7.2.2.2.2.2.2.2.2.1 v7.2.2.2.2.2.2.2.2.2.1))))

def parse_parser_expr_o (N : Nat) (v1 : Int) (v2 : Q0) (v3 : Int) (v4 : Err) : Option Q1 := parse_parser_expr_o_cps N _ (fun a0 a1 a2 a3 a4 a5 a6 a7 a8 a9 a10 a11 a12 => some (a0, (a1, (a2, (a3, (a4, (a5, (a6, (a7, (a8, (a9, (a10, (a11, (a12, ())))))))))))))) v1 v2 v3 v4

/- (*frankpledge/parse.parser).whole -/
def parse_parser_whole_o_cps (N : Nat) (R : Type) (K : Int → Int → Int → (List UInt8) → (List UInt8) → (List UInt8) → Int → (List Ex) → Int → Int → Q0 → Int → Err → Option R) (v1 : Q0) (v2 : Int) (v3 : Err) : Option R :=
  (Option.bind (parse_parser_expr_o N 0 v1 v2 v3) fun v4 =>
  (K v4.1 v4.2.1 v4.2.2.1 v4.2.2.2.1 v4.2.2.2.2.1 v4.2.2.2.2.2.1 v4.2.2.2.2.2.2.1 v4.2.2.2.2.2.2.2.1 v4.2.2.2.2.2.2.2.2.1 v4.2.2.2.2.2.2.2.2.2.1 v4.2.2.2.2.2.2.2.2.2.2.1 v4.2.2.2.2.2.2.2.2.2.2.2.1 v4.2.2.2.2.2.2.2.2.2.2.2.2.1))

def parse_parser_whole_o (N : Nat) (v1 : Q0) (v2 : Int) (v3 : Err) : Option Q1 := parse_parser_whole_o_cps N _ (fun a0 a1 a2 a3 a4 a5 a6 a7 a8 a9 a10 a11 a12 => some (a0, (a1, (a2, (a3, (a4, (a5, (a6, (a7, (a8, (a9, (a10, (a11, (a12, ())))))))))))))) v1 v2 v3

end
def Z_parse_parser_whole_at (N : Nat) : Nat → Z_parse_parser_whole
  | 0 => { r_parse_parser_not := fun _ _ _ => none, r_parse_parser_sign := fun _ _ _ => none, r_parse_parser_expr := fun _ _ _ _ => none, r_parse_parser_whole := fun _ _ _ => none }
  | n + 1 => letI : Z_parse_parser_whole := Z_parse_parser_whole_at N n; { r_parse_parser_not := (fun a0 a1 a2 => parse_parser_not_o N a0 a1 a2), r_parse_parser_sign := (fun a0 a1 a2 => parse_parser_sign_o N a0 a1 a2), r_parse_parser_expr := (fun a0 a1 a2 a3 => parse_parser_expr_o N a0 a1 a2 a3), r_parse_parser_whole := (fun a0 a1 a2 => parse_parser_whole_o N a0 a1 a2) }

def parse_parser_test (N : Nat) (v1 : Q0) (v2 : Int) (v3 : Err) : Option Q1 := letI : Z_parse_parser_whole := Z_parse_parser_whole_at N N; parse_parser_test_o N v1 v2 v3

def parse_parser_within (N : Nat) (v1 : Q0) (v2 : Int) (v3 : Err) : Option Q1 := letI : Z_parse_parser_whole := Z_parse_parser_whole_at N N; parse_parser_within_o N v1 v2 v3

def parse_parser_not (N : Nat) (v1 : Q0) (v2 : Int) (v3 : Err) : Option Q1 := letI : Z_parse_parser_whole := Z_parse_parser_whole_at N N; parse_parser_not_o N v1 v2 v3

def parse_parser_within_1 (N : Nat) (v1 : Q0) (v2 : Int) (v3 : Err) : Option Q1 := letI : Z_parse_parser_whole := Z_parse_parser_whole_at N N; parse_parser_within_1_o N v1 v2 v3

def parse_parser_inner (N : Nat) (v1 : Q0) (v2 : Int) (v3 : Err) : Option Q1 := letI : Z_parse_parser_whole := Z_parse_parser_whole_at N N; parse_parser_inner_o N v1 v2 v3

def parse_parser_word (N : Nat) (v1 : Int) (v2 : (List UInt8)) (v3 : Int) (v4 : Int) (v5 : (List UInt8)) (v6 : Int) (v7 : Int) (v8 : Int) (v9 : Int) (v10 : (List UInt8)) (v11 : (List UInt8)) (v12 : (List UInt8)) (v13 : Int) (v14 : (List Ex)) (v15 : Int) (v16 : Int) (v17 : Q0) (v18 : Int) (v19 : Err) : Option Q1 := letI : Z_parse_parser_whole := Z_parse_parser_whole_at N N; parse_parser_word_o N v1 v2 v3 v4 v5 v6 v7 v8 v9 v10 v11 v12 v13 v14 v15 v16 v17 v18 v19

def parse_parser_one (N : Nat) (v1 : Q0) (v2 : Int) (v3 : Err) : Option Q1 := letI : Z_parse_parser_whole := Z_parse_parser_whole_at N N; parse_parser_one_o N v1 v2 v3

def parse_parser_within_2 (N : Nat) (v1 : Q0) (v2 : Int) (v3 : Err) : Option Q1 := letI : Z_parse_parser_whole := Z_parse_parser_whole_at N N; parse_parser_within_2_o N v1 v2 v3

def parse_parser_sign (N : Nat) (v1 : Q0) (v2 : Int) (v3 : Err) : Option Q1 := letI : Z_parse_parser_whole := Z_parse_parser_whole_at N N; parse_parser_sign_o N v1 v2 v3

def parse_parser_expr (N : Nat) (v1 : Int) (v2 : Q0) (v3 : Int) (v4 : Err) : Option Q1 := letI : Z_parse_parser_whole := Z_parse_parser_whole_at N N; parse_parser_expr_o N v1 v2 v3 v4

def parse_parser_whole (N : Nat) (v1 : Q0) (v2 : Int) (v3 : Err) : Option Q1 := letI : Z_parse_parser_whole := Z_parse_parser_whole_at N N; parse_parser_whole_o N v1 v2 v3

/-! (*frankpledge/parse.parser).list -/
def parse_parser_list_l0B (N : Nat) (R : Type) (rec : (List Ex) → Q0 → Int → Err → Option R) (k0 : (List Ex) → Q0 → Int → Err → Option R) (v9 : (List Ex)) (v10 : Q0) (v11 : Int) (v12 : Err) : Option R :=
  (Option.bind (parse_parser_take N [44] v10 v11 v12) fun v13 =>
  (bif v13.1 then
  (Option.bind (parse_parser_whole N v13.2.1 v13.2.2.1 v13.2.2.2.1) fun v14 =>
  (bif (room 120 (v9.length + ([(Ex.mk v14.1 v14.2.1 v14.2.2.1 v14.2.2.2.1 v14.2.2.2.2.1 v14.2.2.2.2.2.1 v14.2.2.2.2.2.2.1 v14.2.2.2.2.2.2.2.1 v14.2.2.2.2.2.2.2.2.1 v14.2.2.2.2.2.2.2.2.2.1)] : (List Ex)).length)) then
  (rec (v9 ++ ([(Ex.mk v14.1 v14.2.1 v14.2.2.1 v14.2.2.2.1 v14.2.2.2.2.1 v14.2.2.2.2.2.1 v14.2.2.2.2.2.2.1 v14.2.2.2.2.2.2.2.1 v14.2.2.2.2.2.2.2.2.1 v14.2.2.2.2.2.2.2.2.2.1)] : (List Ex))) v14.2.2.2.2.2.2.2.2.2.2.1 v14.2.2.2.2.2.2.2.2.2.2.2.1 v14.2.2.2.2.2.2.2.2.2.2.2.2.1)
  else
  none))
  else
  (k0 v9 v13.2.1 v13.2.2.1 v13.2.2.2.1)))

def parse_parser_list_l0 (N : Nat) (R : Type) (k0 : (List Ex) → Q0 → Int → Err → Option R) : Nat → (List Ex) → Q0 → Int → Err → Option R
  | 0 => fun _ _ _ _ => none
  | n + 1 => parse_parser_list_l0B N R (parse_parser_list_l0 N R k0 n) k0

def parse_parser_list_cps (N : Nat) (R : Type) (K : (List Ex) → Q0 → Int → Err → Option R) (v1 : Q0) (v2 : Int) (v3 : Err) : Option R :=
  (Option.bind (parse_parser_whole N v1 v2 v3) fun v4 =>
  (parse_parser_list_l0 N _ (fun v5 v6 v7 v8 =>
  (K v5 v6 v7 v8)) N ([(Ex.mk v4.1 v4.2.1 v4.2.2.1 v4.2.2.2.1 v4.2.2.2.2.1 v4.2.2.2.2.2.1 v4.2.2.2.2.2.2.1 v4.2.2.2.2.2.2.2.1 v4.2.2.2.2.2.2.2.2.1 v4.2.2.2.2.2.2.2.2.2.1)] : (List Ex)) v4.2.2.2.2.2.2.2.2.2.2.1 v4.2.2.2.2.2.2.2.2.2.2.2.1 v4.2.2.2.2.2.2.2.2.2.2.2.2.1))

def parse_parser_list (N : Nat) (v1 : Q0) (v2 : Int) (v3 : Err) : Option ((List Ex) × Q0 × Int × Err × Unit) := parse_parser_list_cps N _ (fun a0 a1 a2 a3 => some (a0, (a1, (a2, (a3, ()))))) v1 v2 v3

/-! (*frankpledge/parse.parser).table -/
def parse_parser_table_cps (N : Nat) (R : Type) (K : Q0 → Int → Err → Int → (List UInt8) → (List UInt8) → Int → Int → Int → (List UInt8) → (List UInt8) → (List UInt8) → Int → Int → Int → Int → Int → Int → (List UInt8) → (List UInt8) → (List UInt8) → Int → Int → Int → (List Ex) → Int → Int → Option R) (v1 : Q0) (v2 : Int) (v3 : Err) (v4 : Int) (v5 : (List UInt8)) (v6 : (List UInt8)) (v7 : Int) (v8 : Int) (v9 : Int) (v10 : (List UInt8)) (v11 : (List UInt8)) (v12 : (List UInt8)) (v13 : Int) (v14 : Int) (v15 : Int) (v16 : Int) (v17 : Int) (v18 : Int) (v19 : (List UInt8)) (v20 : (List UInt8)) (v21 : (List UInt8)) (v22 : Int) (v23 : Int) (v24 : Int) (v25 : (List Ex)) (v26 : Int) (v27 : Int) : Option R :=
  (Option.bind (parse_parser_at N v1 v2 v3) fun v28 =>
  (Option.bind (parse_parser_name N v1 v2 v3) fun v29 =>
  (K v29.2.1 v29.2.2.1 v29.2.2.2.1 v4 v29.1 v6 v7 v8 v9 v10 v11 v12 v13 v14 v15 v16 v17 v18 v19 v20 v21 v22 v23 v24 v25 v26 v28.1)))

def parse_parser_table (N : Nat) (v1 : Q0) (v2 : Int) (v3 : Err) (v4 : Int) (v5 : (List UInt8)) (v6 : (List UInt8)) (v7 : Int) (v8 : Int) (v9 : Int) (v10 : (List UInt8)) (v11 : (List UInt8)) (v12 : (List UInt8)) (v13 : Int) (v14 : Int) (v15 : Int) (v16 : Int) (v17 : Int) (v18 : Int) (v19 : (List UInt8)) (v20 : (List UInt8)) (v21 : (List UInt8)) (v22 : Int) (v23 : Int) (v24 : Int) (v25 : (List Ex)) (v26 : Int) (v27 : Int) : Option (Q0 × Int × Err × Int × (List UInt8) × (List UInt8) × Int × Int × Int × (List UInt8) × (List UInt8) × (List UInt8) × Int × Int × Int × Int × Int × Int × (List UInt8) × (List UInt8) × (List UInt8) × Int × Int × Int × (List Ex) × Int × Int × Unit) := parse_parser_table_cps N _ (fun a0 a1 a2 a3 a4 a5 a6 a7 a8 a9 a10 a11 a12 a13 a14 a15 a16 a17 a18 a19 a20 a21 a22 a23 a24 a25 a26 => some (a0, (a1, (a2, (a3, (a4, (a5, (a6, (a7, (a8, (a9, (a10, (a11, (a12, (a13, (a14, (a15, (a16, (a17, (a18, (a19, (a20, (a21, (a22, (a23, (a24, (a25, (a26, ())))))))))))))))))))))))))))) v1 v2 v3 v4 v5 v6 v7 v8 v9 v10 v11 v12 v13 v14 v15 v16 v17 v18 v19 v20 v21 v22 v23 v24 v25 v26 v27

/-! (*frankpledge/parse.parser).where -/
def parse_parser_where_cps (N : Nat) (R : Type) (K : Int → Int → Int → (List UInt8) → (List UInt8) → (List UInt8) → Int → (List Ex) → Int → Int → Q0 → Int → Err → Option R) (v1 : (List UInt8)) (v2 : Q0) (v3 : Int) (v4 : Err) : Option R :=
  (Option.bind (parse_parser_take N v1 v2 v3 v4) fun v5 =>
  (bif v5.1 then
  (Option.bind (parse_parser_whole N v5.2.1 v5.2.2.1 v5.2.2.2.1) fun v6 =>
  (K v6.1 v6.2.1 v6.2.2.1 v6.2.2.2.1 v6.2.2.2.2.1 v6.2.2.2.2.2.1 v6.2.2.2.2.2.2.1 v6.2.2.2.2.2.2.2.1 v6.2.2.2.2.2.2.2.2.1 v6.2.2.2.2.2.2.2.2.2.1 v6.2.2.2.2.2.2.2.2.2.2.1 v6.2.2.2.2.2.2.2.2.2.2.2.1 v6.2.2.2.2.2.2.2.2.2.2.2.2.1))
  else
  (K 0 0 0 [] [] [] 0 [] 0 0 v5.2.1 v5.2.2.1 v5.2.2.2.1)))

def parse_parser_where (N : Nat) (v1 : (List UInt8)) (v2 : Q0) (v3 : Int) (v4 : Err) : Option Q1 := parse_parser_where_cps N _ (fun a0 a1 a2 a3 a4 a5 a6 a7 a8 a9 a10 a11 a12 => some (a0, (a1, (a2, (a3, (a4, (a5, (a6, (a7, (a8, (a9, (a10, (a11, (a12, ())))))))))))))) v1 v2 v3 v4

/-! (*frankpledge/parse.parser).selects -/
def parse_parser_selects_j5 (N : Nat) (R : Type) (k0 : Q0 → Int → Err → Int → (List UInt8) → (List UInt8) → Int → Int → Int → (List UInt8) → (List UInt8) → (List UInt8) → Int → (List Ex) → Int → Int → Int → Int → Int → (List UInt8) → (List UInt8) → (List UInt8) → Int → (List Ex) → Int → Int → (List Ex) → (List Ex) → (List (Ex × (Bool × Unit))) → Int → Int → Option R) (k1 : Q0 → Int → Err → Int → (List UInt8) → (List UInt8) → Int → Int → Int → (List UInt8) → (List UInt8) → (List UInt8) → Int → (List Ex) → Int → Int → Int → Int → Int → (List UInt8) → (List UInt8) → (List UInt8) → Int → (List Ex) → Int → Int → (List Ex) → (List Ex) → (List (Ex × (Bool × Unit))) → Int → Int → Option R) (v816 : Q0) (v817 : Int) (v818 : Err) (v819 : Int) (v820 : (List UInt8)) (v821 : (List UInt8)) (v822 : Int) (v823 : Int) (v824 : Int) (v825 : (List UInt8)) (v826 : (List UInt8)) (v827 : (List UInt8)) (v828 : Int) (v829 : (List Ex)) (v830 : Int) (v831 : Int) (v832 : Int) (v833 : Int) (v834 : Int) (v835 : (List UInt8)) (v836 : (List UInt8)) (v837 : (List UInt8)) (v838 : Int) (v839 : (List Ex)) (v840 : Int) (v841 : Int) (v842 : (List Ex)) (v843 : (List Ex)) (v844 : (List (Ex × (Bool × Unit)))) (v845 : Int) (v846 : Int) : Option R :=
  (Option.bind (parse_parser_take N [108, 105, 109, 105, 116] v816 v817 v818) fun v847 =>
  (bif v847.1 then
  (Option.bind (nth v847.2.1 0) fun v848 =>
  (bif (Err.isNil v847.2.2.2.1) then
  (bif (decide (v848.1 = 2)) then
  (bif (decide (v848.2.2.1.1 = 2)) then
  (Option.bind (parse_parser_next N v847.2.1 v847.2.2.1 v847.2.2.2.1) fun v849 =>
  (k1 v849.2.2.2.2.2.2.1 v849.2.2.2.2.2.2.2.1 v849.2.2.2.2.2.2.2.2.1 v819 v820 v821 v822 v823 v824 v825 v826 v827 v828 v829 v830 v831 v832 v833 v834 v835 v836 v837 v838 v839 v840 v841 v842 v843 v844 v849.2.2.2.1 v846))
  else
  (Option.bind (parse_parser_fail N 171 v847.2.1 v847.2.2.1 v847.2.2.2.1) fun v850 =>
  (k0 v850.1 v850.2.1 v850.2.2.1 v819 v820 v821 v822 v823 v824 v825 v826 v827 v828 v829 v830 v831 v832 v833 v834 v835 v836 v837 v838 v839 v840 v841 v842 v843 v844 v845 v846)))
  else
  (Option.bind (parse_parser_fail N 171 v847.2.1 v847.2.2.1 v847.2.2.2.1) fun v851 =>
  (k0 v851.1 v851.2.1 v851.2.2.1 v819 v820 v821 v822 v823 v824 v825 v826 v827 v828 v829 v830 v831 v832 v833 v834 v835 v836 v837 v838 v839 v840 v841 v842 v843 v844 v845 v846)))
  else
  (Option.bind (parse_parser_fail N 171 v847.2.1 v847.2.2.1 v847.2.2.2.1) fun v852 =>
  (k0 v852.1 v852.2.1 v852.2.2.1 v819 v820 v821 v822 v823 v824 v825 v826 v827 v828 v829 v830 v831 v832 v833 v834 v835 v836 v837 v838 v839 v840 v841 v842 v843 v844 v845 v846))))
  else
  (k0 v847.2.1 v847.2.2.1 v847.2.2.2.1 v819 v820 v821 v822 v823 v824 v825 v826 v827 v828 v829 v830 v831 v832 v833 v834 v835 v836 v837 v838 v839 v840 v841 v842 v843 v844 v845 v846)))

def parse_parser_selects_r4 (N : Nat) (R : Type) (k0 : Q0 → Int → Err → Int → (List UInt8) → (List UInt8) → Int → Int → Int → (List UInt8) → (List UInt8) → (List UInt8) → Int → (List Ex) → Int → Int → Int → Int → Int → (List UInt8) → (List UInt8) → (List UInt8) → Int → (List Ex) → Int → Int → (List Ex) → (List Ex) → (List (Ex × (Bool × Unit))) → Int → Int → Int → Int → Int → (List UInt8) → (List UInt8) → (List UInt8) → Int → (List Ex) → Int → Int → Bool → Option R) (v774 : Q0) (v775 : Int) (v776 : Err) (v777 : Int) (v778 : (List UInt8)) (v779 : (List UInt8)) (v780 : Int) (v781 : Int) (v782 : Int) (v783 : (List UInt8)) (v784 : (List UInt8)) (v785 : (List UInt8)) (v786 : Int) (v787 : (List Ex)) (v788 : Int) (v789 : Int) (v790 : Int) (v791 : Int) (v792 : Int) (v793 : (List UInt8)) (v794 : (List UInt8)) (v795 : (List UInt8)) (v796 : Int) (v797 : (List Ex)) (v798 : Int) (v799 : Int) (v800 : (List Ex)) (v801 : (List Ex)) (v802 : (List (Ex × (Bool × Unit)))) (v803 : Int) (v804 : Int) (v805 : Int) (v806 : Int) (v807 : Int) (v808 : (List UInt8)) (v809 : (List UInt8)) (v810 : (List UInt8)) (v811 : Int) (v812 : (List Ex)) (v813 : Int) (v814 : Int) (v815 : Bool) : Option R :=
  (bif (room 128 (v802.length + ([((Ex.mk v805 v806 v807 v808 v809 v810 v811 v812 v813 v814), (v815, ()))] : (List (Ex × (Bool × Unit)))).length)) then
  (k0 v774 v775 v776 v777 v778 v779 v780 v781 v782 v783 v784 v785 v786 v787 v788 v789 v790 v791 v792 v793 v794 v795 v796 v797 v798 v799 v800 v801 (v802 ++ ([((Ex.mk v805 v806 v807 v808 v809 v810 v811 v812 v813 v814), (v815, ()))] : (List (Ex × (Bool × Unit))))) v803 v804 v805 v806 v807 v808 v809 v810 v811 v812 v813 v814 v815)
  else
  none)

def parse_parser_selects_l3B (N : Nat) (R : Type) (rec : Bool → Q0 → Int → Err → Int → (List UInt8) → (List UInt8) → Int → Int → Int → (List UInt8) → (List UInt8) → (List UInt8) → Int → (List Ex) → Int → Int → Int → Int → Int → (List UInt8) → (List UInt8) → (List UInt8) → Int → (List Ex) → Int → Int → (List Ex) → (List Ex) → (List (Ex × (Bool × Unit))) → Int → Int → Option R) (k0 : Q0 → Int → Err → Int → (List UInt8) → (List UInt8) → Int → Int → Int → (List UInt8) → (List UInt8) → (List UInt8) → Int → (List Ex) → Int → Int → Int → Int → Int → (List UInt8) → (List UInt8) → (List UInt8) → Int → (List Ex) → Int → Int → (List Ex) → (List Ex) → (List (Ex × (Bool × Unit))) → Int → Int → Option R) (v653 : Bool) (v654 : Q0) (v655 : Int) (v656 : Err) (v657 : Int) (v658 : (List UInt8)) (v659 : (List UInt8)) (v660 : Int) (v661 : Int) (v662 : Int) (v663 : (List UInt8)) (v664 : (List UInt8)) (v665 : (List UInt8)) (v666 : Int) (v667 : (List Ex)) (v668 : Int) (v669 : Int) (v670 : Int) (v671 : Int) (v672 : Int) (v673 : (List UInt8)) (v674 : (List UInt8)) (v675 : (List UInt8)) (v676 : Int) (v677 : (List Ex)) (v678 : Int) (v679 : Int) (v680 : (List Ex)) (v681 : (List Ex)) (v682 : (List (Ex × (Bool × Unit)))) (v683 : Int) (v684 : Int) : Option R :=
  (bif v653 then
  (Option.bind (parse_parser_whole N v654 v655 v656) fun v685 =>
  (Option.bind (parse_parser_take N [97, 115, 99] v685.2.2.2.2.2.2.2.2.2.2.1 v685.2.2.2.2.2.2.2.2.2.2.2.1 v685.2.2.2.2.2.2.2.2.2.2.2.2.1) fun v686 =>
  (bif (!v686.1) then
  (Option.bind (parse_parser_take N [100, 101, 115, 99] v686.2.1 v686.2.2.1 v686.2.2.2.1) fun v687 =>
  (parse_parser_selects_r4 N _ (fun v688 v689 v690 v691 v692 v693 v694 v695 v696 v697 v698 v699 v700 v701 v702 v703 v704 v705 v706 v707 v708 v709 v710 v711 v712 v713 v714 v715 v716 v717 v718 v719 v720 v721 v722 v723 v724 v725 v726 v727 v728 v729 =>
  (Option.bind (parse_parser_take N [44] v688 v689 v690) fun v730 =>
  (rec v730.1 v730.2.1 v730.2.2.1 v730.2.2.2.1 v691 v692 v693 v694 v695 v696 v697 v698 v699 v700 v701 v702 v703 v704 v705 v706 v707 v708 v709 v710 v711 v712 v713 v714 v715 v716 v717 v718))) v687.2.1 v687.2.2.1 v687.2.2.2.1 v657 v658 v659 v660 v661 v662 v663 v664 v665 v666 v667 v668 v669 v670 v671 v672 v673 v674 v675 v676 v677 v678 v679 v680 v681 v682 v683 v684 v685.1 v685.2.1 v685.2.2.1 v685.2.2.2.1 v685.2.2.2.2.1 v685.2.2.2.2.2.1 v685.2.2.2.2.2.2.1 v685.2.2.2.2.2.2.2.1 v685.2.2.2.2.2.2.2.2.1 v685.2.2.2.2.2.2.2.2.2.1 v687.1))
  else
  (parse_parser_selects_r4 N _ (fun v731 v732 v733 v734 v735 v736 v737 v738 v739 v740 v741 v742 v743 v744 v745 v746 v747 v748 v749 v750 v751 v752 v753 v754 v755 v756 v757 v758 v759 v760 v761 v762 v763 v764 v765 v766 v767 v768 v769 v770 v771 v772 =>
  (Option.bind (parse_parser_take N [44] v731 v732 v733) fun v773 =>
  (rec v773.1 v773.2.1 v773.2.2.1 v773.2.2.2.1 v734 v735 v736 v737 v738 v739 v740 v741 v742 v743 v744 v745 v746 v747 v748 v749 v750 v751 v752 v753 v754 v755 v756 v757 v758 v759 v760 v761))) v686.2.1 v686.2.2.1 v686.2.2.2.1 v657 v658 v659 v660 v661 v662 v663 v664 v665 v666 v667 v668 v669 v670 v671 v672 v673 v674 v675 v676 v677 v678 v679 v680 v681 v682 v683 v684 v685.1 v685.2.1 v685.2.2.1 v685.2.2.2.1 v685.2.2.2.2.1 v685.2.2.2.2.2.1 v685.2.2.2.2.2.2.1 v685.2.2.2.2.2.2.2.1 v685.2.2.2.2.2.2.2.2.1 v685.2.2.2.2.2.2.2.2.2.1 false))))
  else
  (k0 v654 v655 v656 v657 v658 v659 v660 v661 v662 v663 v664 v665 v666 v667 v668 v669 v670 v671 v672 v673 v674 v675 v676 v677 v678 v679 v680 v681 v682 v683 v684))

def parse_parser_selects_l3 (N : Nat) (R : Type) (k0 : Q0 → Int → Err → Int → (List UInt8) → (List UInt8) → Int → Int → Int → (List UInt8) → (List UInt8) → (List UInt8) → Int → (List Ex) → Int → Int → Int → Int → Int → (List UInt8) → (List UInt8) → (List UInt8) → Int → (List Ex) → Int → Int → (List Ex) → (List Ex) → (List (Ex × (Bool × Unit))) → Int → Int → Option R) : Nat → Bool → Q0 → Int → Err → Int → (List UInt8) → (List UInt8) → Int → Int → Int → (List UInt8) → (List UInt8) → (List UInt8) → Int → (List Ex) → Int → Int → Int → Int → Int → (List UInt8) → (List UInt8) → (List UInt8) → Int → (List Ex) → Int → Int → (List Ex) → (List Ex) → (List (Ex × (Bool × Unit))) → Int → Int → Option R
  | 0 => fun _ _ _ _ _ _ _ _ _ _ _ _ _ _ _ _ _ _ _ _ _ _ _ _ _ _ _ _ _ _ _ _ => none
  | n + 1 => parse_parser_selects_l3B N R (parse_parser_selects_l3 N R k0 n) k0

def parse_parser_selects_j2 (N : Nat) (R : Type) (k0 : Q0 → Int → Err → Int → (List UInt8) → (List UInt8) → Int → Int → Int → (List UInt8) → (List UInt8) → (List UInt8) → Int → (List Ex) → Int → Int → Int → Int → Int → (List UInt8) → (List UInt8) → (List UInt8) → Int → (List Ex) → Int → Int → (List Ex) → (List Ex) → (List (Ex × (Bool × Unit))) → Int → Int → Option R) (k1 : Q0 → Int → Err → Int → (List UInt8) → (List UInt8) → Int → Int → Int → (List UInt8) → (List UInt8) → (List UInt8) → Int → (List Ex) → Int → Int → Int → Int → Int → (List UInt8) → (List UInt8) → (List UInt8) → Int → (List Ex) → Int → Int → (List Ex) → (List Ex) → (List (Ex × (Bool × Unit))) → Int → Int → Option R) (v466 : Q0) (v467 : Int) (v468 : Err) (v469 : Int) (v470 : (List UInt8)) (v471 : (List UInt8)) (v472 : Int) (v473 : Int) (v474 : Int) (v475 : (List UInt8)) (v476 : (List UInt8)) (v477 : (List UInt8)) (v478 : Int) (v479 : (List Ex)) (v480 : Int) (v481 : Int) (v482 : Int) (v483 : Int) (v484 : Int) (v485 : (List UInt8)) (v486 : (List UInt8)) (v487 : (List UInt8)) (v488 : Int) (v489 : (List Ex)) (v490 : Int) (v491 : Int) (v492 : (List Ex)) (v493 : (List Ex)) (v494 : Int) (v495 : Int) : Option R :=
  (Option.bind (parse_parser_take N [111, 114, 100, 101, 114] v466 v467 v468) fun v496 =>
  (bif v496.1 then
  (Option.bind (parse_parser_want N ([[98, 121]] : (List (List UInt8))) v496.2.1 v496.2.2.1 v496.2.2.2.1) fun v497 =>
  (parse_parser_selects_l3 N _ (fun v498 v499 v500 v501 v502 v503 v504 v505 v506 v507 v508 v509 v510 v511 v512 v513 v514 v515 v516 v517 v518 v519 v520 v521 v522 v523 v524 v525 v526 v527 v528 =>
  (parse_parser_selects_j5 N _ (fun v529 v530 v531 v532 v533 v534 v535 v536 v537 v538 v539 v540 v541 v542 v543 v544 v545 v546 v547 v548 v549 v550 v551 v552 v553 v554 v555 v556 v557 v558 v559 =>
  (k0 v529 v530 v531 v532 v533 v534 v535 v536 v537 v538 v539 v540 v541 v542 v543 v544 v545 v546 v547 v548 v549 v550 v551 v552 v553 v554 v555 v556 v557 v558 v559)) (fun v560 v561 v562 v563 v564 v565 v566 v567 v568 v569 v570 v571 v572 v573 v574 v575 v576 v577 v578 v579 v580 v581 v582 v583 v584 v585 v586 v587 v588 v589 v590 =>
  (k1 v560 v561 v562 v563 v564 v565 v566 v567 v568 v569 v570 v571 v572 v573 v574 v575 v576 v577 v578 v579 v580 v581 v582 v583 v584 v585 v586 v587 v588 v589 v590)) v498 v499 v500 v501 v502 v503 v504 v505 v506 v507 v508 v509 v510 v511 v512 v513 v514 v515 v516 v517 v518 v519 v520 v521 v522 v523 v524 v525 v526 v527 v528)) N true v497.1 v497.2.1 v497.2.2.1 v469 v470 v471 v472 v473 v474 v475 v476 v477 v478 v479 v480 v481 v482 v483 v484 v485 v486 v487 v488 v489 v490 v491 v492 v493 [] v494 v495))
  else
  (parse_parser_selects_j5 N _ (fun v591 v592 v593 v594 v595 v596 v597 v598 v599 v600 v601 v602 v603 v604 v605 v606 v607 v608 v609 v610 v611 v612 v613 v614 v615 v616 v617 v618 v619 v620 v621 =>
  (k0 v591 v592 v593 v594 v595 v596 v597 v598 v599 v600 v601 v602 v603 v604 v605 v606 v607 v608 v609 v610 v611 v612 v613 v614 v615 v616 v617 v618 v619 v620 v621)) (fun v622 v623 v624 v625 v626 v627 v628 v629 v630 v631 v632 v633 v634 v635 v636 v637 v638 v639 v640 v641 v642 v643 v644 v645 v646 v647 v648 v649 v650 v651 v652 =>
  (k1 v622 v623 v624 v625 v626 v627 v628 v629 v630 v631 v632 v633 v634 v635 v636 v637 v638 v639 v640 v641 v642 v643 v644 v645 v646 v647 v648 v649 v650 v651 v652)) v496.2.1 v496.2.2.1 v496.2.2.2.1 v469 v470 v471 v472 v473 v474 v475 v476 v477 v478 v479 v480 v481 v482 v483 v484 v485 v486 v487 v488 v489 v490 v491 v492 v493 [] v494 v495)))

def parse_parser_selects_j1 (N : Nat) (R : Type) (k0 : Q0 → Int → Err → Int → (List UInt8) → (List UInt8) → Int → Int → Int → (List UInt8) → (List UInt8) → (List UInt8) → Int → (List Ex) → Int → Int → Int → Int → Int → (List UInt8) → (List UInt8) → (List UInt8) → Int → (List Ex) → Int → Int → (List Ex) → (List Ex) → (List (Ex × (Bool × Unit))) → Int → Int → Option R) (k1 : Q0 → Int → Err → Int → (List UInt8) → (List UInt8) → Int → Int → Int → (List UInt8) → (List UInt8) → (List UInt8) → Int → (List Ex) → Int → Int → Int → Int → Int → (List UInt8) → (List UInt8) → (List UInt8) → Int → (List Ex) → Int → Int → (List Ex) → (List Ex) → (List (Ex × (Bool × Unit))) → Int → Int → Option R) (v310 : Q0) (v311 : Int) (v312 : Err) (v313 : Int) (v314 : (List UInt8)) (v315 : (List UInt8)) (v316 : Int) (v317 : Int) (v318 : Int) (v319 : (List UInt8)) (v320 : (List UInt8)) (v321 : (List UInt8)) (v322 : Int) (v323 : (List Ex)) (v324 : Int) (v325 : Int) (v326 : Int) (v327 : Int) (v328 : Int) (v329 : (List UInt8)) (v330 : (List UInt8)) (v331 : (List UInt8)) (v332 : Int) (v333 : Int) (v334 : Int) (v335 : (List Ex)) (v336 : Int) (v337 : Int) : Option R :=
  (Option.bind (parse_parser_where N [119, 104, 101, 114, 101] v310 v311 v312) fun v338 =>
  (Option.bind (parse_parser_take N [103, 114, 111, 117, 112] v338.2.2.2.2.2.2.2.2.2.2.1 v338.2.2.2.2.2.2.2.2.2.2.2.1 v338.2.2.2.2.2.2.2.2.2.2.2.2.1) fun v339 =>
  (bif v339.1 then
  (Option.bind (parse_parser_want N ([[98, 121]] : (List (List UInt8))) v339.2.1 v339.2.2.1 v339.2.2.2.1) fun v340 =>
  (Option.bind (parse_parser_list N v340.1 v340.2.1 v340.2.2.1) fun v341 =>
  (parse_parser_selects_j2 N _ (fun v342 v343 v344 v345 v346 v347 v348 v349 v350 v351 v352 v353 v354 v355 v356 v357 v358 v359 v360 v361 v362 v363 v364 v365 v366 v367 v368 v369 v370 v371 v372 =>
  (k0 v342 v343 v344 v345 v346 v347 v348 v349 v350 v351 v352 v353 v354 v355 v356 v357 v358 v359 v360 v361 v362 v363 v364 v365 v366 v367 v368 v369 v370 v371 v372)) (fun v373 v374 v375 v376 v377 v378 v379 v380 v381 v382 v383 v384 v385 v386 v387 v388 v389 v390 v391 v392 v393 v394 v395 v396 v397 v398 v399 v400 v401 v402 v403 =>
  (k1 v373 v374 v375 v376 v377 v378 v379 v380 v381 v382 v383 v384 v385 v386 v387 v388 v389 v390 v391 v392 v393 v394 v395 v396 v397 v398 v399 v400 v401 v402 v403)) v341.2.1 v341.2.2.1 v341.2.2.2.1 v313 v314 v315 v316 v317 v318 v319 v320 v321 v322 v323 v324 v325 v338.1 v338.2.1 v338.2.2.1 v338.2.2.2.1 v338.2.2.2.2.1 v338.2.2.2.2.2.1 v338.2.2.2.2.2.2.1 v338.2.2.2.2.2.2.2.1 v338.2.2.2.2.2.2.2.2.1 v338.2.2.2.2.2.2.2.2.2.1 v335 v341.1 v336 v337)))
  else
  (parse_parser_selects_j2 N _ (fun v404 v405 v406 v407 v408 v409 v410 v411 v412 v413 v414 v415 v416 v417 v418 v419 v420 v421 v422 v423 v424 v425 v426 v427 v428 v429 v430 v431 v432 v433 v434 =>
  (k0 v404 v405 v406 v407 v408 v409 v410 v411 v412 v413 v414 v415 v416 v417 v418 v419 v420 v421 v422 v423 v424 v425 v426 v427 v428 v429 v430 v431 v432 v433 v434)) (fun v435 v436 v437 v438 v439 v440 v441 v442 v443 v444 v445 v446 v447 v448 v449 v450 v451 v452 v453 v454 v455 v456 v457 v458 v459 v460 v461 v462 v463 v464 v465 =>
  (k1 v435 v436 v437 v438 v439 v440 v441 v442 v443 v444 v445 v446 v447 v448 v449 v450 v451 v452 v453 v454 v455 v456 v457 v458 v459 v460 v461 v462 v463 v464 v465)) v339.2.1 v339.2.2.1 v339.2.2.2.1 v313 v314 v315 v316 v317 v318 v319 v320 v321 v322 v323 v324 v325 v338.1 v338.2.1 v338.2.2.1 v338.2.2.2.1 v338.2.2.2.2.1 v338.2.2.2.2.2.1 v338.2.2.2.2.2.2.1 v338.2.2.2.2.2.2.2.1 v338.2.2.2.2.2.2.2.2.1 v338.2.2.2.2.2.2.2.2.2.1 v335 [] v336 v337))))

def parse_parser_selects_j0 (N : Nat) (R : Type) (k0 : Q0 → Int → Err → Int → (List UInt8) → (List UInt8) → Int → Int → Int → (List UInt8) → (List UInt8) → (List UInt8) → Int → (List Ex) → Int → Int → Int → Int → Int → (List UInt8) → (List UInt8) → (List UInt8) → Int → (List Ex) → Int → Int → (List Ex) → (List Ex) → (List (Ex × (Bool × Unit))) → Int → Int → Option R) (k1 : Q0 → Int → Err → Int → (List UInt8) → (List UInt8) → Int → Int → Int → (List UInt8) → (List UInt8) → (List UInt8) → Int → (List Ex) → Int → Int → Int → Int → Int → (List UInt8) → (List UInt8) → (List UInt8) → Int → (List Ex) → Int → Int → (List Ex) → (List Ex) → (List (Ex × (Bool × Unit))) → Int → Int → Option R) (v153 : Q0) (v154 : Int) (v155 : Err) (v156 : Int) (v157 : (List UInt8)) (v158 : (List UInt8)) (v159 : Int) (v160 : Int) (v161 : Int) (v162 : (List UInt8)) (v163 : (List UInt8)) (v164 : (List UInt8)) (v165 : Int) (v166 : Int) (v167 : Int) (v168 : Int) (v169 : Int) (v170 : Int) (v171 : (List UInt8)) (v172 : (List UInt8)) (v173 : (List UInt8)) (v174 : Int) (v175 : Int) (v176 : Int) (v177 : (List Ex)) (v178 : Int) (v179 : Int) : Option R :=
  (Option.bind (parse_parser_want N ([[102, 114, 111, 109]] : (List (List UInt8))) v153 v154 v155) fun v180 =>
  (Option.bind (parse_parser_table N v180.1 v180.2.1 v180.2.2.1 v156 v157 v158 v159 v160 v161 v162 v163 v164 v165 v166 v167 v168 v169 v170 v171 v172 v173 v174 v175 v176 v177 v178 v179) fun v181 =>
  (Option.bind (parse_parser_take N [106, 111, 105, 110] v181.1 v181.2.1 v181.2.2.1) fun v182 =>
  (bif v182.1 then
  (Option.bind (parse_parser_name N v182.2.1 v182.2.2.1 v182.2.2.2.1) fun v183 =>
  (Option.bind (parse_parser_want N ([[111, 110]] : (List (List UInt8))) v183.2.1 v183.2.2.1 v183.2.2.2.1) fun v184 =>
  (Option.bind (parse_parser_whole N v184.1 v184.2.1 v184.2.2.1) fun v185 =>
  (parse_parser_selects_j1 N _ (fun v186 v187 v188 v189 v190 v191 v192 v193 v194 v195 v196 v197 v198 v199 v200 v201 v202 v203 v204 v205 v206 v207 v208 v209 v210 v211 v212 v213 v214 v215 v216 =>
  (k0 v186 v187 v188 v189 v190 v191 v192 v193 v194 v195 v196 v197 v198 v199 v200 v201 v202 v203 v204 v205 v206 v207 v208 v209 v210 v211 v212 v213 v214 v215 v216)) (fun v217 v218 v219 v220 v221 v222 v223 v224 v225 v226 v227 v228 v229 v230 v231 v232 v233 v234 v235 v236 v237 v238 v239 v240 v241 v242 v243 v244 v245 v246 v247 =>
  (k1 v217 v218 v219 v220 v221 v222 v223 v224 v225 v226 v227 v228 v229 v230 v231 v232 v233 v234 v235 v236 v237 v238 v239 v240 v241 v242 v243 v244 v245 v246 v247)) v185.2.2.2.2.2.2.2.2.2.2.1 v185.2.2.2.2.2.2.2.2.2.2.2.1 v185.2.2.2.2.2.2.2.2.2.2.2.2.1 v181.2.2.2.1 v181.2.2.2.2.1 v183.1 v185.1 v185.2.1 v185.2.2.1 v185.2.2.2.1 v185.2.2.2.2.1 v185.2.2.2.2.2.1 v185.2.2.2.2.2.2.1 v185.2.2.2.2.2.2.2.1 v185.2.2.2.2.2.2.2.2.1 v185.2.2.2.2.2.2.2.2.2.1 v181.2.2.2.2.2.2.2.2.2.2.2.2.2.2.2.1 v181.2.2.2.2.2.2.2.2.2.2.2.2.2.2.2.2.1 v181.2.2.2.2.2.2.2.2.2.2.2.2.2.2.2.2.2.1 v181.2.2.2.2.2.2.2.2.2.2.2.2.2.2.2.2.2.2.1 v181.2.2.2.2.2.2.2.2.2.2.2.2.2.2.2.2.2.2.2.1 v181.2.2.2.2.2.2.2.2.2.2.2.2.2.2.2.2.2.2.2.2.1 v181.2.2.2.2.2.2.2.2.2.2.2.2.2.2.2.2.2.2.2.2.2.1 v181.2.2.2.2.2.2.2.2.2.2.2.2.2.2.2.2.2.2.2.2.2.2.1 v181.2.2.2.2.2.2.2.2.2.2.2.2.2.2.2.2.2.2.2.2.2.2.2.1 v181.2.2.2.2.2.2.2.2.2.2.2.2.2.2.2.2.2.2.2.2.2.2.2.2.1 v181.2.2.2.2.2.2.2.2.2.2.2.2.2.2.2.2.2.2.2.2.2.2.2.2.2.1 v181.2.2.2.2.2.2.2.2.2.2.2.2.2.2.2.2.2.2.2.2.2.2.2.2.2.2.1))))
  else
  (parse_parser_selects_j1 N _ (fun v248 v249 v250 v251 v252 v253 v254 v255 v256 v257 v258 v259 v260 v261 v262 v263 v264 v265 v266 v267 v268 v269 v270 v271 v272 v273 v274 v275 v276 v277 v278 =>
  (k0 v248 v249 v250 v251 v252 v253 v254 v255 v256 v257 v258 v259 v260 v261 v262 v263 v264 v265 v266 v267 v268 v269 v270 v271 v272 v273 v274 v275 v276 v277 v278)) (fun v279 v280 v281 v282 v283 v284 v285 v286 v287 v288 v289 v290 v291 v292 v293 v294 v295 v296 v297 v298 v299 v300 v301 v302 v303 v304 v305 v306 v307 v308 v309 =>
  (k1 v279 v280 v281 v282 v283 v284 v285 v286 v287 v288 v289 v290 v291 v292 v293 v294 v295 v296 v297 v298 v299 v300 v301 v302 v303 v304 v305 v306 v307 v308 v309)) v182.2.1 v182.2.2.1 v182.2.2.2.1 v181.2.2.2.1 v181.2.2.2.2.1 v181.2.2.2.2.2.1 v181.2.2.2.2.2.2.1 v181.2.2.2.2.2.2.2.1 v181.2.2.2.2.2.2.2.2.1 v181.2.2.2.2.2.2.2.2.2.1 v181.2.2.2.2.2.2.2.2.2.2.1 v181.2.2.2.2.2.2.2.2.2.2.2.1 v181.2.2.2.2.2.2.2.2.2.2.2.2.1 [] v181.2.2.2.2.2.2.2.2.2.2.2.2.2.1 v181.2.2.2.2.2.2.2.2.2.2.2.2.2.2.1 v181.2.2.2.2.2.2.2.2.2.2.2.2.2.2.2.1 v181.2.2.2.2.2.2.2.2.2.2.2.2.2.2.2.2.1 v181.2.2.2.2.2.2.2.2.2.2.2.2.2.2.2.2.2.1 v181.2.2.2.2.2.2.2.2.2.2.2.2.2.2.2.2.2.2.1 v181.2.2.2.2.2.2.2.2.2.2.2.2.2.2.2.2.2.2.2.1 v181.2.2.2.2.2.2.2.2.2.2.2.2.2.2.2.2.2.2.2.2.1 v181.2.2.2.2.2.2.2.2.2.2.2.2.2.2.2.2.2.2.2.2.2.1 v181.2.2.2.2.2.2.2.2.2.2.2.2.2.2.2.2.2.2.2.2.2.2.1 v181.2.2.2.2.2.2.2.2.2.2.2.2.2.2.2.2.2.2.2.2.2.2.2.1 v181.2.2.2.2.2.2.2.2.2.2.2.2.2.2.2.2.2.2.2.2.2.2.2.2.1 v181.2.2.2.2.2.2.2.2.2.2.2.2.2.2.2.2.2.2.2.2.2.2.2.2.2.1 v181.2.2.2.2.2.2.2.2.2.2.2.2.2.2.2.2.2.2.2.2.2.2.2.2.2.2.1)))))

def parse_parser_selects_cps (N : Nat) (R : Type) (K : Q0 → Int → Err → Int → (List UInt8) → (List UInt8) → Int → Int → Int → (List UInt8) → (List UInt8) → (List UInt8) → Int → (List Ex) → Int → Int → Int → Int → Int → (List UInt8) → (List UInt8) → (List UInt8) → Int → (List Ex) → Int → Int → (List Ex) → (List Ex) → (List (Ex × (Bool × Unit))) → Int → Int → Option R) (v1 : Q0) (v2 : Int) (v3 : Err) (v4 : Int) (v5 : (List UInt8)) (v6 : (List UInt8)) (v7 : Int) (v8 : Int) (v9 : Int) (v10 : (List UInt8)) (v11 : (List UInt8)) (v12 : (List UInt8)) (v13 : Int) (v14 : Int) (v15 : Int) (v16 : Int) (v17 : Int) (v18 : Int) (v19 : (List UInt8)) (v20 : (List UInt8)) (v21 : (List UInt8)) (v22 : Int) (v23 : Int) (v24 : Int) (v25 : Int) (v26 : Int) : Option R :=
  (Option.bind (parse_parser_take N [42] v1 v2 v3) fun v27 =>
  (bif (!v27.1) then
  (Option.bind (parse_parser_list N v27.2.1 v27.2.2.1 v27.2.2.2.1) fun v28 =>
  (parse_parser_selects_j0 N _ (fun v29 v30 v31 v32 v33 v34 v35 v36 v37 v38 v39 v40 v41 v42 v43 v44 v45 v46 v47 v48 v49 v50 v51 v52 v53 v54 v55 v56 v57 v58 v59 =>
  (K v29 v30 v31 v32 v33 v34 v35 v36 v37 v38 v39 v40 v41 v42 v43 v44 v45 v46 v47 v48 v49 v50 v51 v52 v53 v54 v55 v56 v57 v58 v59)) (fun v60 v61 v62 v63 v64 v65 v66 v67 v68 v69 v70 v71 v72 v73 v74 v75 v76 v77 v78 v79 v80 v81 v82 v83 v84 v85 v86 v87 v88 v89 v90 =>
  (K v60 v61 v62 v63 v64 v65 v66 v67 v68 v69 v70 v71 v72 v73 v74 v75 v76 v77 v78 v79 v80 v81 v82 v83 v84 v85 v86 v87 v88 v89 v90)) v28.2.1 v28.2.2.1 v28.2.2.2.1 v4 v5 v6 v7 v8 v9 v10 v11 v12 v13 v14 v15 v16 v17 v18 v19 v20 v21 v22 v23 v24 v28.1 v25 v26))
  else
  (parse_parser_selects_j0 N _ (fun v91 v92 v93 v94 v95 v96 v97 v98 v99 v100 v101 v102 v103 v104 v105 v106 v107 v108 v109 v110 v111 v112 v113 v114 v115 v116 v117 v118 v119 v120 v121 =>
  (K v91 v92 v93 v94 v95 v96 v97 v98 v99 v100 v101 v102 v103 v104 v105 v106 v107 v108 v109 v110 v111 v112 v113 v114 v115 v116 v117 v118 v119 v120 v121)) (fun v122 v123 v124 v125 v126 v127 v128 v129 v130 v131 v132 v133 v134 v135 v136 v137 v138 v139 v140 v141 v142 v143 v144 v145 v146 v147 v148 v149 v150 v151 v152 =>
  (K v122 v123 v124 v125 v126 v127 v128 v129 v130 v131 v132 v133 v134 v135 v136 v137 v138 v139 v140 v141 v142 v143 v144 v145 v146 v147 v148 v149 v150 v151 v152)) v27.2.1 v27.2.2.1 v27.2.2.2.1 v4 v5 v6 v7 v8 v9 v10 v11 v12 v13 v14 v15 v16 v17 v18 v19 v20 v21 v22 v23 v24 [] v25 v26)))

def parse_parser_selects (N : Nat) (v1 : Q0) (v2 : Int) (v3 : Err) (v4 : Int) (v5 : (List UInt8)) (v6 : (List UInt8)) (v7 : Int) (v8 : Int) (v9 : Int) (v10 : (List UInt8)) (v11 : (List UInt8)) (v12 : (List UInt8)) (v13 : Int) (v14 : Int) (v15 : Int) (v16 : Int) (v17 : Int) (v18 : Int) (v19 : (List UInt8)) (v20 : (List UInt8)) (v21 : (List UInt8)) (v22 : Int) (v23 : Int) (v24 : Int) (v25 : Int) (v26 : Int) : Option (Q0 × Int × Err × Int × (List UInt8) × (List UInt8) × Int × Int × Int × (List UInt8) × (List UInt8) × (List UInt8) × Int × (List Ex) × Int × Int × Int × Int × Int × (List UInt8) × (List UInt8) × (List UInt8) × Int × (List Ex) × Int × Int × (List Ex) × (List Ex) × (List (Ex × (Bool × Unit))) × Int × Int × Unit) := parse_parser_selects_cps N _ (fun a0 a1 a2 a3 a4 a5 a6 a7 a8 a9 a10 a11 a12 a13 a14 a15 a16 a17 a18 a19 a20 a21 a22 a23 a24 a25 a26 a27 a28 a29 a30 => some (a0, (a1, (a2, (a3, (a4, (a5, (a6, (a7, (a8, (a9, (a10, (a11, (a12, (a13, (a14, (a15, (a16, (a17, (a18, (a19, (a20, (a21, (a22, (a23, (a24, (a25, (a26, (a27, (a28, (a29, (a30, ())))))))))))))))))))))))))))))))) v1 v2 v3 v4 v5 v6 v7 v8 v9 v10 v11 v12 v13 v14 v15 v16 v17 v18 v19 v20 v21 v22 v23 v24 v25 v26

/-! (*frankpledge/parse.parser).ended -/
def parse_parser_ended_cps (N : Nat) (R : Type) (K : Err → Q0 → Int → Err → Option R) (v1 : Q0) (v2 : Int) (v3 : Err) : Option R :=
  (Option.bind (nth v1 0) fun v4 =>
  (bif (!(decide (v4.1 = 6))) then
  (Option.bind (parse_parser_fail N 171 v1 v2 v3) fun v5 =>
  (K v5.2.2.1 v5.1 v5.2.1 v5.2.2.1))
  else
  (K v3 v1 v2 v3)))

def parse_parser_ended (N : Nat) (v1 : Q0) (v2 : Int) (v3 : Err) : Option (Err × Q0 × Int × Err × Unit) := parse_parser_ended_cps N _ (fun a0 a1 a2 a3 => some (a0, (a1, (a2, (a3, ()))))) v1 v2 v3

/-! (*frankpledge/parse.parser).table -/
def parse_parser_table_1_cps (N : Nat) (R : Type) (K : Q0 → Int → Err → Int → (List UInt8) → (List UInt8) → Int → Int → Int → (List UInt8) → (List UInt8) → (List UInt8) → Int → Int → Int → Int → Int → Int → (List UInt8) → (List UInt8) → (List UInt8) → Int → Int → Int → Int → Int → Option R) (v1 : Q0) (v2 : Int) (v3 : Err) (v4 : Int) (v5 : (List UInt8)) (v6 : (List UInt8)) (v7 : Int) (v8 : Int) (v9 : Int) (v10 : (List UInt8)) (v11 : (List UInt8)) (v12 : (List UInt8)) (v13 : Int) (v14 : Int) (v15 : Int) (v16 : Int) (v17 : Int) (v18 : Int) (v19 : (List UInt8)) (v20 : (List UInt8)) (v21 : (List UInt8)) (v22 : Int) (v23 : Int) (v24 : Int) (v25 : Int) (v26 : Int) : Option R :=
  (Option.bind (parse_parser_at N v1 v2 v3) fun v27 =>
  (Option.bind (parse_parser_name N v1 v2 v3) fun v28 =>
  (K v28.2.1 v28.2.2.1 v28.2.2.2.1 v4 v28.1 v6 v7 v8 v9 v10 v11 v12 v13 v14 v15 v16 v17 v18 v19 v20 v21 v22 v23 v24 v25 v27.1)))

def parse_parser_table_1 (N : Nat) (v1 : Q0) (v2 : Int) (v3 : Err) (v4 : Int) (v5 : (List UInt8)) (v6 : (List UInt8)) (v7 : Int) (v8 : Int) (v9 : Int) (v10 : (List UInt8)) (v11 : (List UInt8)) (v12 : (List UInt8)) (v13 : Int) (v14 : Int) (v15 : Int) (v16 : Int) (v17 : Int) (v18 : Int) (v19 : (List UInt8)) (v20 : (List UInt8)) (v21 : (List UInt8)) (v22 : Int) (v23 : Int) (v24 : Int) (v25 : Int) (v26 : Int) : Option (Q0 × Int × Err × Int × (List UInt8) × (List UInt8) × Int × Int × Int × (List UInt8) × (List UInt8) × (List UInt8) × Int × Int × Int × Int × Int × Int × (List UInt8) × (List UInt8) × (List UInt8) × Int × Int × Int × Int × Int × Unit) := parse_parser_table_1_cps N _ (fun a0 a1 a2 a3 a4 a5 a6 a7 a8 a9 a10 a11 a12 a13 a14 a15 a16 a17 a18 a19 a20 a21 a22 a23 a24 a25 => some (a0, (a1, (a2, (a3, (a4, (a5, (a6, (a7, (a8, (a9, (a10, (a11, (a12, (a13, (a14, (a15, (a16, (a17, (a18, (a19, (a20, (a21, (a22, (a23, (a24, (a25, ()))))))))))))))))))))))))))) v1 v2 v3 v4 v5 v6 v7 v8 v9 v10 v11 v12 v13 v14 v15 v16 v17 v18 v19 v20 v21 v22 v23 v24 v25 v26

/-! (*frankpledge/parse.parser).inserts -/
def parse_parser_inserts_r1 (N : Nat) (R : Type) (k0 : Q0 → Int → Err → Int → (List UInt8) → (List UInt8) → Int → Int → Int → (List UInt8) → (List UInt8) → (List UInt8) → Int → Int → Int → Int → Int → Int → (List UInt8) → (List UInt8) → (List UInt8) → Int → Int → Int → Int → (List (List Ex)) → Int → Option R) (v142 : Q0) (v143 : Int) (v144 : Err) (v145 : Int) (v146 : (List UInt8)) (v147 : (List UInt8)) (v148 : Int) (v149 : Int) (v150 : Int) (v151 : (List UInt8)) (v152 : (List UInt8)) (v153 : (List UInt8)) (v154 : Int) (v155 : Int) (v156 : Int) (v157 : Int) (v158 : Int) (v159 : Int) (v160 : (List UInt8)) (v161 : (List UInt8)) (v162 : (List UInt8)) (v163 : Int) (v164 : Int) (v165 : Int) (v166 : Int) (v167 : (List (List Ex))) (v168 : Int) : Option R :=
  (Option.bind (parse_parser_list N v142 v143 v144) fun v169 =>
  (bif (room 24 (v167.length + ([v169.1] : (List (List Ex))).length)) then
  (k0 v169.2.1 v169.2.2.1 v169.2.2.2.1 v145 v146 v147 v148 v149 v150 v151 v152 v153 v154 v155 v156 v157 v158 v159 v160 v161 v162 v163 v164 v165 v166 (v167 ++ ([v169.1] : (List (List Ex)))) v168)
  else
  none))

def parse_parser_inserts_l0B (N : Nat) (R : Type) (rec : Bool → Q0 → Int → Err → Int → (List UInt8) → (List UInt8) → Int → Int → Int → (List UInt8) → (List UInt8) → (List UInt8) → Int → Int → Int → Int → Int → Int → (List UInt8) → (List UInt8) → (List UInt8) → Int → Int → Int → Int → (List (List Ex)) → Int → Option R) (k0 : Q0 → Int → Err → Int → (List UInt8) → (List UInt8) → Int → Int → Int → (List UInt8) → (List UInt8) → (List UInt8) → Int → Int → Int → Int → Int → Int → (List UInt8) → (List UInt8) → (List UInt8) → Int → Int → Int → Int → (List (List Ex)) → Int → Option R) (k1 : Q0 → Int → Err → Int → (List UInt8) → (List UInt8) → Int → Int → Int → (List UInt8) → (List UInt8) → (List UInt8) → Int → Int → Int → Int → Int → Int → (List UInt8) → (List UInt8) → (List UInt8) → Int → Int → Int → Int → (List (List Ex)) → Int → Option R) (v84 : Bool) (v85 : Q0) (v86 : Int) (v87 : Err) (v88 : Int) (v89 : (List UInt8)) (v90 : (List UInt8)) (v91 : Int) (v92 : Int) (v93 : Int) (v94 : (List UInt8)) (v95 : (List UInt8)) (v96 : (List UInt8)) (v97 : Int) (v98 : Int) (v99 : Int) (v100 : Int) (v101 : Int) (v102 : Int) (v103 : (List UInt8)) (v104 : (List UInt8)) (v105 : (List UInt8)) (v106 : Int) (v107 : Int) (v108 : Int) (v109 : Int) (v110 : (List (List Ex))) (v111 : Int) : Option R :=
  (bif v84 then
  (Option.bind (parse_parser_want N ([[40]] : (List (List UInt8))) v85 v86 v87) fun v112 =>
  (bif (!(Err.isNil v112.2.2.1)) then
  (k1 v112.1 v112.2.1 v112.2.2.1 v88 v89 v90 v91 v92 v93 v94 v95 v96 v97 v98 v99 v100 v101 v102 v103 v104 v105 v106 v107 v108 v109 v110 v111)
  else
  (parse_parser_inserts_r1 N _ (fun v113 v114 v115 v116 v117 v118 v119 v120 v121 v122 v123 v124 v125 v126 v127 v128 v129 v130 v131 v132 v133 v134 v135 v136 v137 v138 v139 =>
  (Option.bind (parse_parser_want N ([[41]] : (List (List UInt8))) v113 v114 v115) fun v140 =>
  (Option.bind (parse_parser_take N [44] v140.1 v140.2.1 v140.2.2.1) fun v141 =>
  (rec v141.1 v141.2.1 v141.2.2.1 v141.2.2.2.1 v116 v117 v118 v119 v120 v121 v122 v123 v124 v125 v126 v127 v128 v129 v130 v131 v132 v133 v134 v135 v136 v137 v138 v139)))) v112.1 v112.2.1 v112.2.2.1 v88 v89 v90 v91 v92 v93 v94 v95 v96 v97 v98 v99 v100 v101 v102 v103 v104 v105 v106 v107 v108 v109 v110 v111)))
  else
  (k0 v85 v86 v87 v88 v89 v90 v91 v92 v93 v94 v95 v96 v97 v98 v99 v100 v101 v102 v103 v104 v105 v106 v107 v108 v109 v110 v111))

def parse_parser_inserts_l0 (N : Nat) (R : Type) (k0 : Q0 → Int → Err → Int → (List UInt8) → (List UInt8) → Int → Int → Int → (List UInt8) → (List UInt8) → (List UInt8) → Int → Int → Int → Int → Int → Int → (List UInt8) → (List UInt8) → (List UInt8) → Int → Int → Int → Int → (List (List Ex)) → Int → Option R) (k1 : Q0 → Int → Err → Int → (List UInt8) → (List UInt8) → Int → Int → Int → (List UInt8) → (List UInt8) → (List UInt8) → Int → Int → Int → Int → Int → Int → (List UInt8) → (List UInt8) → (List UInt8) → Int → Int → Int → Int → (List (List Ex)) → Int → Option R) : Nat → Bool → Q0 → Int → Err → Int → (List UInt8) → (List UInt8) → Int → Int → Int → (List UInt8) → (List UInt8) → (List UInt8) → Int → Int → Int → Int → Int → Int → (List UInt8) → (List UInt8) → (List UInt8) → Int → Int → Int → Int → (List (List Ex)) → Int → Option R
  | 0 => fun _ _ _ _ _ _ _ _ _ _ _ _ _ _ _ _ _ _ _ _ _ _ _ _ _ _ _ _ => none
  | n + 1 => parse_parser_inserts_l0B N R (parse_parser_inserts_l0 N R k0 k1 n) k0 k1

def parse_parser_inserts_cps (N : Nat) (R : Type) (K : Q0 → Int → Err → Int → (List UInt8) → (List UInt8) → Int → Int → Int → (List UInt8) → (List UInt8) → (List UInt8) → Int → Int → Int → Int → Int → Int → (List UInt8) → (List UInt8) → (List UInt8) → Int → Int → Int → Int → (List (List Ex)) → Int → Option R) (v1 : Q0) (v2 : Int) (v3 : Err) (v4 : Int) (v5 : (List UInt8)) (v6 : (List UInt8)) (v7 : Int) (v8 : Int) (v9 : Int) (v10 : (List UInt8)) (v11 : (List UInt8)) (v12 : (List UInt8)) (v13 : Int) (v14 : Int) (v15 : Int) (v16 : Int) (v17 : Int) (v18 : Int) (v19 : (List UInt8)) (v20 : (List UInt8)) (v21 : (List UInt8)) (v22 : Int) (v23 : Int) (v24 : Int) (v25 : Int) (v26 : Int) : Option R :=
  (Option.bind (parse_parser_want N ([[105, 110, 116, 111]] : (List (List UInt8))) v1 v2 v3) fun v27 =>
  (Option.bind (parse_parser_table_1 N v27.1 v27.2.1 v27.2.2.1 v4 v5 v6 v7 v8 v9 v10 v11 v12 v13 v14 v15 v16 v17 v18 v19 v20 v21 v22 v23 v24 v25 v26) fun v28 =>
  (Option.bind (parse_parser_want N ([[118, 97, 108, 117, 101, 115]] : (List (List UInt8))) v28.1 v28.2.1 v28.2.2.1) fun v29 =>
  (parse_parser_inserts_l0 N _ (fun v30 v31 v32 v33 v34 v35 v36 v37 v38 v39 v40 v41 v42 v43 v44 v45 v46 v47 v48 v49 v50 v51 v52 v53 v54 v55 v56 =>
  (K v30 v31 v32 v33 v34 v35 v36 v37 v38 v39 v40 v41 v42 v43 v44 v45 v46 v47 v48 v49 v50 v51 v52 v53 v54 v55 v56)) (fun v57 v58 v59 v60 v61 v62 v63 v64 v65 v66 v67 v68 v69 v70 v71 v72 v73 v74 v75 v76 v77 v78 v79 v80 v81 v82 v83 =>
  (K v57 v58 v59 v60 v61 v62 v63 v64 v65 v66 v67 v68 v69 v70 v71 v72 v73 v74 v75 v76 v77 v78 v79 v80 v81 v82 v83)) N true v29.1 v29.2.1 v29.2.2.1 v28.2.2.2.1 v28.2.2.2.2.1 v28.2.2.2.2.2.1 v28.2.2.2.2.2.2.1 v28.2.2.2.2.2.2.2.1 v28.2.2.2.2.2.2.2.2.1 v28.2.2.2.2.2.2.2.2.2.1 v28.2.2.2.2.2.2.2.2.2.2.1 v28.2.2.2.2.2.2.2.2.2.2.2.1 v28.2.2.2.2.2.2.2.2.2.2.2.2.1 v28.2.2.2.2.2.2.2.2.2.2.2.2.2.1 v28.2.2.2.2.2.2.2.2.2.2.2.2.2.2.1 v28.2.2.2.2.2.2.2.2.2.2.2.2.2.2.2.1 v28.2.2.2.2.2.2.2.2.2.2.2.2.2.2.2.2.1 v28.2.2.2.2.2.2.2.2.2.2.2.2.2.2.2.2.2.1 v28.2.2.2.2.2.2.2.2.2.2.2.2.2.2.2.2.2.2.1 v28.2.2.2.2.2.2.2.2.2.2.2.2.2.2.2.2.2.2.2.1 v28.2.2.2.2.2.2.2.2.2.2.2.2.2.2.2.2.2.2.2.2.1 v28.2.2.2.2.2.2.2.2.2.2.2.2.2.2.2.2.2.2.2.2.2.1 v28.2.2.2.2.2.2.2.2.2.2.2.2.2.2.2.2.2.2.2.2.2.2.1 v28.2.2.2.2.2.2.2.2.2.2.2.2.2.2.2.2.2.2.2.2.2.2.2.1 v28.2.2.2.2.2.2.2.2.2.2.2.2.2.2.2.2.2.2.2.2.2.2.2.2.1 [] v28.2.2.2.2.2.2.2.2.2.2.2.2.2.2.2.2.2.2.2.2.2.2.2.2.2.1))))

def parse_parser_inserts (N : Nat) (v1 : Q0) (v2 : Int) (v3 : Err) (v4 : Int) (v5 : (List UInt8)) (v6 : (List UInt8)) (v7 : Int) (v8 : Int) (v9 : Int) (v10 : (List UInt8)) (v11 : (List UInt8)) (v12 : (List UInt8)) (v13 : Int) (v14 : Int) (v15 : Int) (v16 : Int) (v17 : Int) (v18 : Int) (v19 : (List UInt8)) (v20 : (List UInt8)) (v21 : (List UInt8)) (v22 : Int) (v23 : Int) (v24 : Int) (v25 : Int) (v26 : Int) : Option (Q0 × Int × Err × Int × (List UInt8) × (List UInt8) × Int × Int × Int × (List UInt8) × (List UInt8) × (List UInt8) × Int × Int × Int × Int × Int × Int × (List UInt8) × (List UInt8) × (List UInt8) × Int × Int × Int × Int × (List (List Ex)) × Int × Unit) := parse_parser_inserts_cps N _ (fun a0 a1 a2 a3 a4 a5 a6 a7 a8 a9 a10 a11 a12 a13 a14 a15 a16 a17 a18 a19 a20 a21 a22 a23 a24 a25 a26 => some (a0, (a1, (a2, (a3, (a4, (a5, (a6, (a7, (a8, (a9, (a10, (a11, (a12, (a13, (a14, (a15, (a16, (a17, (a18, (a19, (a20, (a21, (a22, (a23, (a24, (a25, (a26, ())))))))))))))))))))))))))))) v1 v2 v3 v4 v5 v6 v7 v8 v9 v10 v11 v12 v13 v14 v15 v16 v17 v18 v19 v20 v21 v22 v23 v24 v25 v26

/-! (*frankpledge/parse.parser).updates -/
def parse_parser_updates_r1 (N : Nat) (R : Type) (k0 : Q0 → Int → Err → Int → (List UInt8) → (List UInt8) → Int → Int → Int → (List UInt8) → (List UInt8) → (List UInt8) → Int → Int → Int → Int → Int → Int → (List UInt8) → (List UInt8) → (List UInt8) → Int → Int → Int → Int → (List ((List UInt8) × (Ex × (Int × Unit)))) → Int → (List UInt8) → Int → Int → Int → (List UInt8) → (List UInt8) → (List UInt8) → Int → (List Ex) → Int → Int → Int → Option R) (v129 : Q0) (v130 : Int) (v131 : Err) (v132 : Int) (v133 : (List UInt8)) (v134 : (List UInt8)) (v135 : Int) (v136 : Int) (v137 : Int) (v138 : (List UInt8)) (v139 : (List UInt8)) (v140 : (List UInt8)) (v141 : Int) (v142 : Int) (v143 : Int) (v144 : Int) (v145 : Int) (v146 : Int) (v147 : (List UInt8)) (v148 : (List UInt8)) (v149 : (List UInt8)) (v150 : Int) (v151 : Int) (v152 : Int) (v153 : Int) (v154 : (List ((List UInt8) × (Ex × (Int × Unit))))) (v155 : Int) (v156 : (List UInt8)) (v157 : Int) (v158 : Int) (v159 : Int) (v160 : (List UInt8)) (v161 : (List UInt8)) (v162 : (List UInt8)) (v163 : Int) (v164 : (List Ex)) (v165 : Int) (v166 : Int) (v167 : Int) : Option R :=
  (bif (room 144 (v154.length + ([(v156, ((Ex.mk v157 v158 v159 v160 v161 v162 v163 v164 v165 v166), (v167, ())))] : (List ((List UInt8) × (Ex × (Int × Unit))))).length)) then
  (k0 v129 v130 v131 v132 v133 v134 v135 v136 v137 v138 v139 v140 v141 v142 v143 v144 v145 v146 v147 v148 v149 v150 v151 v152 v153 (v154 ++ ([(v156, ((Ex.mk v157 v158 v159 v160 v161 v162 v163 v164 v165 v166), (v167, ())))] : (List ((List UInt8) × (Ex × (Int × Unit)))))) v155 v156 v157 v158 v159 v160 v161 v162 v163 v164 v165 v166 v167)
  else
  none)

def parse_parser_updates_l0B (N : Nat) (R : Type) (rec : Bool → Q0 → Int → Err → Int → (List UInt8) → (List UInt8) → Int → Int → Int → (List UInt8) → (List UInt8) → (List UInt8) → Int → Int → Int → Int → Int → Int → (List UInt8) → (List UInt8) → (List UInt8) → Int → Int → Int → Int → (List ((List UInt8) × (Ex × (Int × Unit)))) → Int → Option R) (k0 : Q0 → Int → Err → Int → (List UInt8) → (List UInt8) → Int → Int → Int → (List UInt8) → (List UInt8) → (List UInt8) → Int → Int → Int → Int → Int → Int → (List UInt8) → (List UInt8) → (List UInt8) → Int → Int → Int → Int → (List ((List UInt8) × (Ex × (Int × Unit)))) → Int → Option R) (v57 : Bool) (v58 : Q0) (v59 : Int) (v60 : Err) (v61 : Int) (v62 : (List UInt8)) (v63 : (List UInt8)) (v64 : Int) (v65 : Int) (v66 : Int) (v67 : (List UInt8)) (v68 : (List UInt8)) (v69 : (List UInt8)) (v70 : Int) (v71 : Int) (v72 : Int) (v73 : Int) (v74 : Int) (v75 : Int) (v76 : (List UInt8)) (v77 : (List UInt8)) (v78 : (List UInt8)) (v79 : Int) (v80 : Int) (v81 : Int) (v82 : Int) (v83 : (List ((List UInt8) × (Ex × (Int × Unit))))) (v84 : Int) : Option R :=
  (bif v57 then
  (Option.bind (parse_parser_at N v58 v59 v60) fun v85 =>
  (Option.bind (parse_parser_name N v58 v59 v60) fun v86 =>
  (Option.bind (parse_parser_want N ([[61]] : (List (List UInt8))) v86.2.1 v86.2.2.1 v86.2.2.2.1) fun v87 =>
  (Option.bind (parse_parser_whole N v87.1 v87.2.1 v87.2.2.1) fun v88 =>
  (parse_parser_updates_r1 N _ (fun v89 v90 v91 v92 v93 v94 v95 v96 v97 v98 v99 v100 v101 v102 v103 v104 v105 v106 v107 v108 v109 v110 v111 v112 v113 v114 v115 v116 v117 v118 v119 v120 v121 v122 v123 v124 v125 v126 v127 =>
  (Option.bind (parse_parser_take N [44] v89 v90 v91) fun v128 =>
  (rec v128.1 v128.2.1 v128.2.2.1 v128.2.2.2.1 v92 v93 v94 v95 v96 v97 v98 v99 v100 v101 v102 v103 v104 v105 v106 v107 v108 v109 v110 v111 v112 v113 v114 v115))) v88.2.2.2.2.2.2.2.2.2.2.1 v88.2.2.2.2.2.2.2.2.2.2.2.1 v88.2.2.2.2.2.2.2.2.2.2.2.2.1 v61 v62 v63 v64 v65 v66 v67 v68 v69 v70 v71 v72 v73 v74 v75 v76 v77 v78 v79 v80 v81 v82 v83 v84 v86.1 v88.1 v88.2.1 v88.2.2.1 v88.2.2.2.1 v88.2.2.2.2.1 v88.2.2.2.2.2.1 v88.2.2.2.2.2.2.1 v88.2.2.2.2.2.2.2.1 v88.2.2.2.2.2.2.2.2.1 v88.2.2.2.2.2.2.2.2.2.1 v85.1)))))
  else
  (k0 v58 v59 v60 v61 v62 v63 v64 v65 v66 v67 v68 v69 v70 v71 v72 v73 v74 v75 v76 v77 v78 v79 v80 v81 v82 v83 v84))

def parse_parser_updates_l0 (N : Nat) (R : Type) (k0 : Q0 → Int → Err → Int → (List UInt8) → (List UInt8) → Int → Int → Int → (List UInt8) → (List UInt8) → (List UInt8) → Int → Int → Int → Int → Int → Int → (List UInt8) → (List UInt8) → (List UInt8) → Int → Int → Int → Int → (List ((List UInt8) × (Ex × (Int × Unit)))) → Int → Option R) : Nat → Bool → Q0 → Int → Err → Int → (List UInt8) → (List UInt8) → Int → Int → Int → (List UInt8) → (List UInt8) → (List UInt8) → Int → Int → Int → Int → Int → Int → (List UInt8) → (List UInt8) → (List UInt8) → Int → Int → Int → Int → (List ((List UInt8) × (Ex × (Int × Unit)))) → Int → Option R
  | 0 => fun _ _ _ _ _ _ _ _ _ _ _ _ _ _ _ _ _ _ _ _ _ _ _ _ _ _ _ _ => none
  | n + 1 => parse_parser_updates_l0B N R (parse_parser_updates_l0 N R k0 n) k0

def parse_parser_updates_cps (N : Nat) (R : Type) (K : Q0 → Int → Err → Int → (List UInt8) → (List UInt8) → Int → Int → Int → (List UInt8) → (List UInt8) → (List UInt8) → Int → Int → Int → Int → Int → Int → (List UInt8) → (List UInt8) → (List UInt8) → Int → (List Ex) → Int → Int → Int → (List ((List UInt8) × (Ex × (Int × Unit)))) → Int → Option R) (v1 : Q0) (v2 : Int) (v3 : Err) (v4 : Int) (v5 : (List UInt8)) (v6 : (List UInt8)) (v7 : Int) (v8 : Int) (v9 : Int) (v10 : (List UInt8)) (v11 : (List UInt8)) (v12 : (List UInt8)) (v13 : Int) (v14 : Int) (v15 : Int) (v16 : Int) (v17 : Int) (v18 : Int) (v19 : (List UInt8)) (v20 : (List UInt8)) (v21 : (List UInt8)) (v22 : Int) (v23 : Int) (v24 : Int) (v25 : Int) (v26 : Int) : Option R :=
  (Option.bind (parse_parser_table_1 N v1 v2 v3 v4 v5 v6 v7 v8 v9 v10 v11 v12 v13 v14 v15 v16 v17 v18 v19 v20 v21 v22 v23 v24 v25 v26) fun v27 =>
  (Option.bind (parse_parser_want N ([[115, 101, 116]] : (List (List UInt8))) v27.1 v27.2.1 v27.2.2.1) fun v28 =>
  (parse_parser_updates_l0 N _ (fun v29 v30 v31 v32 v33 v34 v35 v36 v37 v38 v39 v40 v41 v42 v43 v44 v45 v46 v47 v48 v49 v50 v51 v52 v53 v54 v55 =>
  (Option.bind (parse_parser_where N [119, 104, 101, 114, 101] v29 v30 v31) fun v56 =>
  (K v56.2.2.2.2.2.2.2.2.2.2.1 v56.2.2.2.2.2.2.2.2.2.2.2.1 v56.2.2.2.2.2.2.2.2.2.2.2.2.1 v32 v33 v34 v35 v36 v37 v38 v39 v40 v41 v42 v43 v56.1 v56.2.1 v56.2.2.1 v56.2.2.2.1 v56.2.2.2.2.1 v56.2.2.2.2.2.1 v56.2.2.2.2.2.2.1 v56.2.2.2.2.2.2.2.1 v56.2.2.2.2.2.2.2.2.1 v56.2.2.2.2.2.2.2.2.2.1 v53 v54 v55))) N true v28.1 v28.2.1 v28.2.2.1 v27.2.2.2.1 v27.2.2.2.2.1 v27.2.2.2.2.2.1 v27.2.2.2.2.2.2.1 v27.2.2.2.2.2.2.2.1 v27.2.2.2.2.2.2.2.2.1 v27.2.2.2.2.2.2.2.2.2.1 v27.2.2.2.2.2.2.2.2.2.2.1 v27.2.2.2.2.2.2.2.2.2.2.2.1 v27.2.2.2.2.2.2.2.2.2.2.2.2.1 v27.2.2.2.2.2.2.2.2.2.2.2.2.2.1 v27.2.2.2.2.2.2.2.2.2.2.2.2.2.2.1 v27.2.2.2.2.2.2.2.2.2.2.2.2.2.2.2.1 v27.2.2.2.2.2.2.2.2.2.2.2.2.2.2.2.2.1 v27.2.2.2.2.2.2.2.2.2.2.2.2.2.2.2.2.2.1 v27.2.2.2.2.2.2.2.2.2.2.2.2.2.2.2.2.2.2.1 v27.2.2.2.2.2.2.2.2.2.2.2.2.2.2.2.2.2.2.2.1 v27.2.2.2.2.2.2.2.2.2.2.2.2.2.2.2.2.2.2.2.2.1 v27.2.2.2.2.2.2.2.2.2.2.2.2.2.2.2.2.2.2.2.2.2.1 v27.2.2.2.2.2.2.2.2.2.2.2.2.2.2.2.2.2.2.2.2.2.2.1 v27.2.2.2.2.2.2.2.2.2.2.2.2.2.2.2.2.2.2.2.2.2.2.2.1 v27.2.2.2.2.2.2.2.2.2.2.2.2.2.2.2.2.2.2.2.2.2.2.2.2.1 [] v27.2.2.2.2.2.2.2.2.2.2.2.2.2.2.2.2.2.2.2.2.2.2.2.2.2.1)))

def parse_parser_updates (N : Nat) (v1 : Q0) (v2 : Int) (v3 : Err) (v4 : Int) (v5 : (List UInt8)) (v6 : (List UInt8)) (v7 : Int) (v8 : Int) (v9 : Int) (v10 : (List UInt8)) (v11 : (List UInt8)) (v12 : (List UInt8)) (v13 : Int) (v14 : Int) (v15 : Int) (v16 : Int) (v17 : Int) (v18 : Int) (v19 : (List UInt8)) (v20 : (List UInt8)) (v21 : (List UInt8)) (v22 : Int) (v23 : Int) (v24 : Int) (v25 : Int) (v26 : Int) : Option (Q0 × Int × Err × Int × (List UInt8) × (List UInt8) × Int × Int × Int × (List UInt8) × (List UInt8) × (List UInt8) × Int × Int × Int × Int × Int × Int × (List UInt8) × (List UInt8) × (List UInt8) × Int × (List Ex) × Int × Int × Int × (List ((List UInt8) × (Ex × (Int × Unit)))) × Int × Unit) := parse_parser_updates_cps N _ (fun a0 a1 a2 a3 a4 a5 a6 a7 a8 a9 a10 a11 a12 a13 a14 a15 a16 a17 a18 a19 a20 a21 a22 a23 a24 a25 a26 a27 => some (a0, (a1, (a2, (a3, (a4, (a5, (a6, (a7, (a8, (a9, (a10, (a11, (a12, (a13, (a14, (a15, (a16, (a17, (a18, (a19, (a20, (a21, (a22, (a23, (a24, (a25, (a26, (a27, ()))))))))))))))))))))))))))))) v1 v2 v3 v4 v5 v6 v7 v8 v9 v10 v11 v12 v13 v14 v15 v16 v17 v18 v19 v20 v21 v22 v23 v24 v25 v26

/-! frankpledge/parse.Parse -/
def parse_Parse_cps (N : Nat) (R : Type) (K : Int → (List UInt8) → (List UInt8) → Int → Int → Int → (List UInt8) → (List UInt8) → (List UInt8) → Int → (List Ex) → Int → Int → Int → Int → Int → (List UInt8) → (List UInt8) → (List UInt8) → Int → (List Ex) → Int → Int → (List Ex) → (List Ex) → (List (Ex × (Bool × Unit))) → Int → (List (List Ex)) → (List ((List UInt8) × (Ex × (Int × Unit)))) → Int → Err → Option R) (v1 : (List UInt8)) : Option R :=
  (Option.bind (lex_Lex N v1) fun v2 =>
  (bif (!(Err.isNil v2.2.1)) then
  (Option.bind (fault_At N v2.2.1) fun v3 =>
  (Option.bind (fault_Wrap N v2.2.1 171 v3.1) fun v4 =>
  (bif (!(Err.isNil v4.1)) then
  (K 0 [] [] 0 0 0 [] [] [] 0 [] 0 0 0 0 0 [] [] [] 0 [] 0 0 [] [] [] 0 [] [] 0 v4.1)
  else
  none)))
  else
  (bif (!(Err.isNil Err.nil)) then
  (K 0 [] [] 0 0 0 [] [] [] 0 [] 0 0 0 0 0 [] [] [] 0 [] 0 0 [] [] [] 0 [] [] 0 Err.nil)
  else
  (Option.bind (parse_parser_take N [115, 101, 108, 101, 99, 116] v2.1 0 Err.nil) fun v5 =>
  (bif v5.1 then
  (Option.bind (parse_parser_selects N v5.2.1 v5.2.2.1 v5.2.2.2.1 1 [] [] 0 0 0 [] [] [] 0 0 0 0 0 0 [] [] [] 0 0 0 (-1) 0) fun v6 =>
  (Option.bind (parse_parser_take N [59] v6.1 v6.2.1 v6.2.2.1) fun v7 =>
  (Option.bind (parse_parser_ended N v7.2.1 v7.2.2.1 v7.2.2.2.1) fun v8 =>
  (bif (!(Err.isNil v8.1)) then
  (K 0 [] [] 0 0 0 [] [] [] 0 [] 0 0 0 0 0 [] [] [] 0 [] 0 0 [] [] [] 0 [] [] 0 v8.1)
  else
  (K v6.2.2.2.1 v6.2.2.2.2.1 v6.2.2.2.2.2.1 v6.2.2.2.2.2.2.1 v6.2.2.2.2.2.2.2.1 v6.2.2.2.2.2.2.2.2.1 v6.2.2.2.2.2.2.2.2.2.1 v6.2.2.2.2.2.2.2.2.2.2.1 v6.2.2.2.2.2.2.2.2.2.2.2.1 v6.2.2.2.2.2.2.2.2.2.2.2.2.1 v6.2.2.2.2.2.2.2.2.2.2.2.2.2.1 v6.2.2.2.2.2.2.2.2.2.2.2.2.2.2.1 v6.2.2.2.2.2.2.2.2.2.2.2.2.2.2.2.1 v6.2.2.2.2.2.2.2.2.2.2.2.2.2.2.2.2.1 v6.2.2.2.2.2.2.2.2.2.2.2.2.2.2.2.2.2.1 v6.2.2.2.2.2.2.2.2.2.2.2.2.2.2.2.2.2.2.1 v6.2.2.2.2.2.2.2.2.2.2.2.2.2.2.2.2.2.2.2.1 v6.2.2.2.2.2.2.2.2.2.2.2.2.2.2.2.2.2.2.2.2.1 v6.2.2.2.2.2.2.2.2.2.2.2.2.2.2.2.2.2.2.2.2.2.1 v6.2.2.2.2.2.2.2.2.2.2.2.2.2.2.2.2.2.2.2.2.2.2.1 v6.2.2.2.2.2.2.2.2.2.2.2.2.2.2.2.2.2.2.2.2.2.2.2.1 v6.2.2.2.2.2.2.2.2.2.2.2.2.2.2.2.2.2.2.2.2.2.2.2.2.1 v6.2.2.2.2.2.2.2.2.2.2.2.2.2.2.2.2.2.2.2.2.2.2.2.2.2.1 v6.2.2.2.2.2.2.2.2.2.2.2.2.2.2.2.2.2.2.2.2.2.2.2.2.2.2.1 v6.2.2.2.2.2.2.2.2.2.2.2.2.2.2.2.2.2.2.2.2.2.2.2.2.2.2.2.1 v6.2.2.2.2.2.2.2.2.2.2.2.2.2.2.2.2.2.2.2.2.2.2.2.2.2.2.2.2.1 v6.2.2.2.2.2.2.2.2.2.2.2.2.2.2.2.2.2.2.2.2.2.2.2.2.2.2.2.2.2.1 [] [] v6.2.2.2.2.2.2.2.2.2.2.2.2.2.2.2.2.2.2.2.2.2.2.2.2.2.2.2.2.2.2.1 Err.nil)))))
  else
  (Option.bind (parse_parser_take N [105, 110, 115, 101, 114, 116] v5.2.1 v5.2.2.1 v5.2.2.2.1) fun v9 =>
  (bif v9.1 then
  (Option.bind (parse_parser_inserts N v9.2.1 v9.2.2.1 v9.2.2.2.1 2 [] [] 0 0 0 [] [] [] 0 0 0 0 0 0 [] [] [] 0 0 0 (-1) 0) fun v10 =>
  (Option.bind (parse_parser_take N [59] v10.1 v10.2.1 v10.2.2.1) fun v11 =>
  (Option.bind (parse_parser_ended N v11.2.1 v11.2.2.1 v11.2.2.2.1) fun v12 =>
  (bif (!(Err.isNil v12.1)) then
  (K 0 [] [] 0 0 0 [] [] [] 0 [] 0 0 0 0 0 [] [] [] 0 [] 0 0 [] [] [] 0 [] [] 0 v12.1)
  else
  (K v10.2.2.2.1 v10.2.2.2.2.1 v10.2.2.2.2.2.1 v10.2.2.2.2.2.2.1 v10.2.2.2.2.2.2.2.1 v10.2.2.2.2.2.2.2.2.1 v10.2.2.2.2.2.2.2.2.2.1 v10.2.2.2.2.2.2.2.2.2.2.1 v10.2.2.2.2.2.2.2.2.2.2.2.1 v10.2.2.2.2.2.2.2.2.2.2.2.2.1 [] v10.2.2.2.2.2.2.2.2.2.2.2.2.2.1 v10.2.2.2.2.2.2.2.2.2.2.2.2.2.2.1 v10.2.2.2.2.2.2.2.2.2.2.2.2.2.2.2.1 v10.2.2.2.2.2.2.2.2.2.2.2.2.2.2.2.2.1 v10.2.2.2.2.2.2.2.2.2.2.2.2.2.2.2.2.2.1 v10.2.2.2.2.2.2.2.2.2.2.2.2.2.2.2.2.2.2.1 v10.2.2.2.2.2.2.2.2.2.2.2.2.2.2.2.2.2.2.2.1 v10.2.2.2.2.2.2.2.2.2.2.2.2.2.2.2.2.2.2.2.2.1 v10.2.2.2.2.2.2.2.2.2.2.2.2.2.2.2.2.2.2.2.2.2.1 [] v10.2.2.2.2.2.2.2.2.2.2.2.2.2.2.2.2.2.2.2.2.2.2.1 v10.2.2.2.2.2.2.2.2.2.2.2.2.2.2.2.2.2.2.2.2.2.2.2.1 [] [] [] v10.2.2.2.2.2.2.2.2.2.2.2.2.2.2.2.2.2.2.2.2.2.2.2.2.1 v10.2.2.2.2.2.2.2.2.2.2.2.2.2.2.2.2.2.2.2.2.2.2.2.2.2.1 [] v10.2.2.2.2.2.2.2.2.2.2.2.2.2.2.2.2.2.2.2.2.2.2.2.2.2.2.1 Err.nil)))))
  else
  (Option.bind (parse_parser_take N [117, 112, 100, 97, 116, 101] v9.2.1 v9.2.2.1 v9.2.2.2.1) fun v13 =>
  (bif v13.1 then
  (Option.bind (parse_parser_updates N v13.2.1 v13.2.2.1 v13.2.2.2.1 3 [] [] 0 0 0 [] [] [] 0 0 0 0 0 0 [] [] [] 0 0 0 (-1) 0) fun v14 =>
  (Option.bind (parse_parser_take N [59] v14.1 v14.2.1 v14.2.2.1) fun v15 =>
  (Option.bind (parse_parser_ended N v15.2.1 v15.2.2.1 v15.2.2.2.1) fun v16 =>
  (bif (!(Err.isNil v16.1)) then
  (K 0 [] [] 0 0 0 [] [] [] 0 [] 0 0 0 0 0 [] [] [] 0 [] 0 0 [] [] [] 0 [] [] 0 v16.1)
  else
  (K v14.2.2.2.1 v14.2.2.2.2.1 v14.2.2.2.2.2.1 v14.2.2.2.2.2.2.1 v14.2.2.2.2.2.2.2.1 v14.2.2.2.2.2.2.2.2.1 v14.2.2.2.2.2.2.2.2.2.1 v14.2.2.2.2.2.2.2.2.2.2.1 v14.2.2.2.2.2.2.2.2.2.2.2.1 v14.2.2.2.2.2.2.2.2.2.2.2.2.1 [] v14.2.2.2.2.2.2.2.2.2.2.2.2.2.1 v14.2.2.2.2.2.2.2.2.2.2.2.2.2.2.1 v14.2.2.2.2.2.2.2.2.2.2.2.2.2.2.2.1 v14.2.2.2.2.2.2.2.2.2.2.2.2.2.2.2.2.1 v14.2.2.2.2.2.2.2.2.2.2.2.2.2.2.2.2.2.1 v14.2.2.2.2.2.2.2.2.2.2.2.2.2.2.2.2.2.2.1 v14.2.2.2.2.2.2.2.2.2.2.2.2.2.2.2.2.2.2.2.1 v14.2.2.2.2.2.2.2.2.2.2.2.2.2.2.2.2.2.2.2.2.1 v14.2.2.2.2.2.2.2.2.2.2.2.2.2.2.2.2.2.2.2.2.2.1 v14.2.2.2.2.2.2.2.2.2.2.2.2.2.2.2.2.2.2.2.2.2.2.1 v14.2.2.2.2.2.2.2.2.2.2.2.2.2.2.2.2.2.2.2.2.2.2.2.1 v14.2.2.2.2.2.2.2.2.2.2.2.2.2.2.2.2.2.2.2.2.2.2.2.2.1 [] [] [] v14.2.2.2.2.2.2.2.2.2.2.2.2.2.2.2.2.2.2.2.2.2.2.2.2.2.1 [] v14.2.2.2.2.2.2.2.2.2.2.2.2.2.2.2.2.2.2.2.2.2.2.2.2.2.2.1 v14.2.2.2.2.2.2.2.2.2.2.2.2.2.2.2.2.2.2.2.2.2.2.2.2.2.2.2.1 Err.nil)))))
  else
  (Option.bind (parse_parser_take N [100, 101, 108, 101, 116, 101] v13.2.1 v13.2.2.1 v13.2.2.2.1) fun v17 =>
  (bif v17.1 then
  (Option.bind (parse_parser_want N ([[102, 114, 111, 109]] : (List (List UInt8))) v17.2.1 v17.2.2.1 v17.2.2.2.1) fun v18 =>
  (Option.bind (parse_parser_table_1 N v18.1 v18.2.1 v18.2.2.1 4 [] [] 0 0 0 [] [] [] 0 0 0 0 0 0 [] [] [] 0 0 0 (-1) 0) fun v19 =>
  (Option.bind (parse_parser_where N [119, 104, 101, 114, 101] v19.1 v19.2.1 v19.2.2.1) fun v20 =>
  (Option.bind (parse_parser_take N [59] v20.2.2.2.2.2.2.2.2.2.2.1 v20.2.2.2.2.2.2.2.2.2.2.2.1 v20.2.2.2.2.2.2.2.2.2.2.2.2.1) fun v21 =>
  (Option.bind (parse_parser_ended N v21.2.1 v21.2.2.1 v21.2.2.2.1) fun v22 =>
  (bif (!(Err.isNil v22.1)) then
  (K 0 [] [] 0 0 0 [] [] [] 0 [] 0 0 0 0 0 [] [] [] 0 [] 0 0 [] [] [] 0 [] [] 0 v22.1)
  else
  (K v19.2.2.2.1 v19.2.2.2.2.1 v19.2.2.2.2.2.1 v19.2.2.2.2.2.2.1 v19.2.2.2.2.2.2.2.1 v19.2.2.2.2.2.2.2.2.1 v19.2.2.2.2.2.2.2.2.2.1 v19.2.2.2.2.2.2.2.2.2.2.1 v19.2.2.2.2.2.2.2.2.2.2.2.1 v19.2.2.2.2.2.2.2.2.2.2.2.2.1 [] v19.2.2.2.2.2.2.2.2.2.2.2.2.2.1 v19.2.2.2.2.2.2.2.2.2.2.2.2.2.2.1 v20.1 v20.2.1 v20.2.2.1 v20.2.2.2.1 v20.2.2.2.2.1 v20.2.2.2.2.2.1 v20.2.2.2.2.2.2.1 v20.2.2.2.2.2.2.2.1 v20.2.2.2.2.2.2.2.2.1 v20.2.2.2.2.2.2.2.2.2.1 [] [] [] v19.2.2.2.2.2.2.2.2.2.2.2.2.2.2.2.2.2.2.2.2.2.2.2.2.1 [] [] v19.2.2.2.2.2.2.2.2.2.2.2.2.2.2.2.2.2.2.2.2.2.2.2.2.2.1 Err.nil)))))))
  else
  (Option.bind (parse_parser_fail N 171 v17.2.1 v17.2.2.1 v17.2.2.2.1) fun v23 =>
  (Option.bind (parse_parser_take N [59] v23.1 v23.2.1 v23.2.2.1) fun v24 =>
  (Option.bind (parse_parser_ended N v24.2.1 v24.2.2.1 v24.2.2.2.1) fun v25 =>
  (bif (!(Err.isNil v25.1)) then
  (K 0 [] [] 0 0 0 [] [] [] 0 [] 0 0 0 0 0 [] [] [] 0 [] 0 0 [] [] [] 0 [] [] 0 v25.1)
  else
  (K 0 [] [] 0 0 0 [] [] [] 0 [] 0 0 0 0 0 [] [] [] 0 [] 0 0 [] [] [] (-1) [] [] 0 Err.nil))))))))))))))))

def parse_Parse (N : Nat) (v1 : (List UInt8)) : Option (Int × (List UInt8) × (List UInt8) × Int × Int × Int × (List UInt8) × (List UInt8) × (List UInt8) × Int × (List Ex) × Int × Int × Int × Int × Int × (List UInt8) × (List UInt8) × (List UInt8) × Int × (List Ex) × Int × Int × (List Ex) × (List Ex) × (List (Ex × (Bool × Unit))) × Int × (List (List Ex)) × (List ((List UInt8) × (Ex × (Int × Unit)))) × Int × Err × Unit) := parse_Parse_cps N _ (fun a0 a1 a2 a3 a4 a5 a6 a7 a8 a9 a10 a11 a12 a13 a14 a15 a16 a17 a18 a19 a20 a21 a22 a23 a24 a25 a26 a27 a28 a29 a30 => some (a0, (a1, (a2, (a3, (a4, (a5, (a6, (a7, (a8, (a9, (a10, (a11, (a12, (a13, (a14, (a15, (a16, (a17, (a18, (a19, (a20, (a21, (a22, (a23, (a24, (a25, (a26, (a27, (a28, (a29, (a30, ())))))))))))))))))))))))))))))))) v1

/-! frankpledge/fault.Code -/
def fault_Code_cps (N : Nat) (R : Type) (K : Int → Option R) (v1 : Err) : Option R :=
  (bif (errOk v1) then (K (errCode v1)) else none)

def fault_Code (N : Nat) (v1 : Err) : Option (Int × Unit) := fault_Code_cps N _ (fun a0 => some (a0, ())) v1

/-! frankpledge/frankpledgelaw17.alive -/
def law17_alive_cps (N : Nat) (R : Type) (K : Bool → Option R)  : Option R :=
  (Option.bind (parse_Parse N bs0) fun v1 =>
  (Option.bind (parse_Parse N [115, 101, 108, 101, 99, 116, 32, 97, 32, 102, 114, 111, 109]) fun v2 =>
  (bif (Err.isNil v1.2.2.2.2.2.2.2.2.2.2.2.2.2.2.2.2.2.2.2.2.2.2.2.2.2.2.2.2.2.2.1) then
  (bif (decide (v1.2.1 = [116])) then
  (bif (decide (v1.2.2.2.2.2.2.2.2.2.2.2.2.2.2.2.2.2.2.2.2.2.2.2.2.2.2.1 = 3)) then
  (bif (decide ((v1.2.2.2.2.2.2.2.2.2.2.2.2.2.2.2.2.2.2.2.2.2.2.2.1.length : Int) = 1)) then
  (Option.bind (nth v1.2.2.2.2.2.2.2.2.2.2.2.2.2.2.2.2.2.2.2.2.2.2.2.1 0) fun v3 =>
  (bif (decide ((Ex.op v3) = 3)) then
  (bif (decide (v1.2.2.2.2.2.2.2.2.2.2.2.2.2.1 = 16)) then
  (Option.bind (fault_Code N v2.2.2.2.2.2.2.2.2.2.2.2.2.2.2.2.2.2.2.2.2.2.2.2.2.2.2.2.2.2.2.1) fun v4 =>
  (bif (decide (v4.1 = 171)) then
  (Option.bind (fault_At N v2.2.2.2.2.2.2.2.2.2.2.2.2.2.2.2.2.2.2.2.2.2.2.2.2.2.2.2.2.2.2.1) fun v5 =>
  (K (decide (v5.1 = 13))))
  else
  (K false)))
  else
  (K false))
  else
  (K false)))
  else
  (K false))
  else
  (K false))
  else
  (K false))
  else
  (K false))))

def law17_alive (N : Nat)  : Option (Bool × Unit) := law17_alive_cps N _ (fun a0 => some (a0, ())) 

/-! The functions about law17_built: they call one another. -/
set_option warn.classDefReducibility false
class Z_law17_built where
  r_law17_built : (List (Int × (Int × ((List UInt8) × (Bool × Unit))))) → Int → Option (Int × Int × Int × (List UInt8) × (List UInt8) × (List UInt8) × Int × (List Ex) × Int × Int × (List (Int × (Int × ((List UInt8) × (Bool × Unit))))) × Unit)

section
variable [Z_law17_built]
/- frankpledge/frankpledgelaw17.built -/
def law17_built_o_l4B (N : Nat) (R : Type) (rec : (List (Int × (Int × ((List UInt8) × (Bool × Unit))))) → Int → Int → Int → Int → Int → Int → (List UInt8) → (List UInt8) → (List UInt8) → Int → Int → Int → Int → Int → (List UInt8) → Bool → Int → Int → Int → (List UInt8) → (List UInt8) → (List UInt8) → Int → (List Ex) → Int → Int → Option R) (k0 : (List (Int × (Int × ((List UInt8) × (Bool × Unit))))) → Int → Int → Int → (List UInt8) → (List UInt8) → (List UInt8) → Int → Int → Int → Int → Int → (List UInt8) → Bool → Int → Int → Int → (List UInt8) → (List UInt8) → (List UInt8) → Int → (List Ex) → Int → Int → Option R) (v470 : (List (Int × (Int × ((List UInt8) × (Bool × Unit)))))) (v471 : Int) (v472 : Int) (v473 : Int) (v474 : Int) (v475 : Int) (v476 : Int) (v477 : (List UInt8)) (v478 : (List UInt8)) (v479 : (List UInt8)) (v480 : Int) (v481 : Int) (v482 : Int) (v483 : Int) (v484 : Int) (v485 : (List UInt8)) (v486 : Bool) (v487 : Int) (v488 : Int) (v489 : Int) (v490 : (List UInt8)) (v491 : (List UInt8)) (v492 : (List UInt8)) (v493 : Int) (v494 : (List Ex)) (v495 : Int) (v496 : Int) : Option R :=
  (bif (decide (v473 < v472)) then
  (Option.bind (Z_law17_built.r_law17_built v470 (IntKind.wrap .i64 (v471 - 1))) fun v497 =>
  (bif (room 120 (v494.length + ([(Ex.mk v497.1 v497.2.1 v497.2.2.1 v497.2.2.2.1 v497.2.2.2.2.1 v497.2.2.2.2.2.1 v497.2.2.2.2.2.2.1 v497.2.2.2.2.2.2.2.1 v497.2.2.2.2.2.2.2.2.1 v497.2.2.2.2.2.2.2.2.2.1)] : (List Ex)).length)) then
  (rec v497.2.2.2.2.2.2.2.2.2.2.1 v471 v472 (IntKind.wrap .i64 (v473 + 1)) v474 v475 v476 v477 v478 v479 v480 v481 v482 v483 v484 v485 v486 v487 v488 v489 v490 v491 v492 v493 (v494 ++ ([(Ex.mk v497.1 v497.2.1 v497.2.2.1 v497.2.2.2.1 v497.2.2.2.2.1 v497.2.2.2.2.2.1 v497.2.2.2.2.2.2.1 v497.2.2.2.2.2.2.2.1 v497.2.2.2.2.2.2.2.2.1 v497.2.2.2.2.2.2.2.2.2.1)] : (List Ex))) v495 v496)
  else
  none))
  else
  (k0 v470 v474 v475 v476 v477 v478 v479 v480 v481 v482 v483 v484 v485 v486 v487 v488 v489 v490 v491 v492 v493 v494 v495 v496))

def law17_built_o_l4 (N : Nat) (R : Type) (k0 : (List (Int × (Int × ((List UInt8) × (Bool × Unit))))) → Int → Int → Int → (List UInt8) → (List UInt8) → (List UInt8) → Int → Int → Int → Int → Int → (List UInt8) → Bool → Int → Int → Int → (List UInt8) → (List UInt8) → (List UInt8) → Int → (List Ex) → Int → Int → Option R) : Nat → (List (Int × (Int × ((List UInt8) × (Bool × Unit))))) → Int → Int → Int → Int → Int → Int → (List UInt8) → (List UInt8) → (List UInt8) → Int → Int → Int → Int → Int → (List UInt8) → Bool → Int → Int → Int → (List UInt8) → (List UInt8) → (List UInt8) → Int → (List Ex) → Int → Int → Option R
  | 0 => fun _ _ _ _ _ _ _ _ _ _ _ _ _ _ _ _ _ _ _ _ _ _ _ _ _ _ _ => none
  | n + 1 => law17_built_o_l4B N R (law17_built_o_l4 N R k0 n) k0

def law17_built_o_j3 (N : Nat) (R : Type) (k0 : (List (Int × (Int × ((List UInt8) × (Bool × Unit))))) → Int → Int → Int → (List UInt8) → (List UInt8) → (List UInt8) → Int → (List Ex) → Int → Int → Int → Int → (List UInt8) → Bool → Int → Int → Int → (List UInt8) → (List UInt8) → (List UInt8) → Int → (List Ex) → Int → Int → Option R) (v421 : (List (Int × (Int × ((List UInt8) × (Bool × Unit)))))) (v422 : Int) (v423 : Int) (v424 : Int) (v425 : Int) (v426 : Int) (v427 : (List UInt8)) (v428 : (List UInt8)) (v429 : (List UInt8)) (v430 : Int) (v431 : Int) (v432 : Int) (v433 : Int) (v434 : Int) (v435 : (List UInt8)) (v436 : Bool) (v437 : Int) (v438 : Int) (v439 : Int) (v440 : (List UInt8)) (v441 : (List UInt8)) (v442 : (List UInt8)) (v443 : Int) (v444 : Int) (v445 : Int) : Option R :=
  (law17_built_o_l4 N _ (fun v446 v447 v448 v449 v450 v451 v452 v453 v454 v455 v456 v457 v458 v459 v460 v461 v462 v463 v464 v465 v466 v467 v468 v469 =>
  (k0 v446 v460 v461 v462 v463 v464 v465 v466 v467 v468 v469 v456 v457 v458 v459 v460 v461 v462 v463 v464 v465 v466 v467 v468 v469)) N v421 v422 v423 0 v424 v425 v426 v427 v428 v429 v430 v431 v432 v433 v434 v435 v436 v437 v438 v439 v440 v441 v442 v443 [] v444 v445)

def law17_built_o_j2 (N : Nat) (R : Type) (k0 : (List (Int × (Int × ((List UInt8) × (Bool × Unit))))) → Int → Int → Int → (List UInt8) → (List UInt8) → (List UInt8) → Int → (List Ex) → Int → Int → Int → Int → (List UInt8) → Bool → Option R) (v127 : (List (Int × (Int × ((List UInt8) × (Bool × Unit)))))) (v128 : Int) (v129 : Int) (v130 : Int) (v131 : Int) (v132 : Int) (v133 : Int) (v134 : (List UInt8)) (v135 : (List UInt8)) (v136 : (List UInt8)) (v137 : Int) (v138 : Int) (v139 : Int) (v140 : Int) (v141 : Int) (v142 : (List UInt8)) (v143 : Bool) : Option R :=
  (bif (decide (v130 = 1)) then
  (Option.bind (nth ([(0, (0, ([], ()))), (1, (1, ([], ()))), (2, (v129, ([], ()))), (3, (v129, ([], ()))), (4, (0, (v142, ()))), (5, (0, (v142, ())))] : (List (Int × (Int × ((List UInt8) × Unit))))) (Int.tmod v129 6)) fun v144 =>
  (law17_built_o_j3 N _ (fun v145 v146 v147 v148 v149 v150 v151 v152 v153 v154 v155 v156 v157 v158 v159 v160 v161 v162 v163 v164 v165 v166 v167 v168 v169 =>
  (k0 v145 v146 v147 v148 v149 v150 v151 v152 v153 v154 v155 v156 v157 v158 v159)) v127 v128 0 v131 v132 v133 v134 v135 v136 v137 v138 v139 v140 v141 v142 v143 v130 v144.1 v144.2.1 v144.2.2.1 [] [] 0 0 0))
  else
  (bif (decide (v130 = 2)) then
  (Option.bind (nth ([[97], [98, 95, 49], [99, 111, 108, 117]] : (List (List UInt8))) (Int.tmod v129 3)) fun v170 =>
  (bif v143 then
  (law17_built_o_j3 N _ (fun v171 v172 v173 v174 v175 v176 v177 v178 v179 v180 v181 v182 v183 v184 v185 v186 v187 v188 v189 v190 v191 v192 v193 v194 v195 =>
  (k0 v171 v172 v173 v174 v175 v176 v177 v178 v179 v180 v181 v182 v183 v184 v185)) v127 v128 0 v131 v132 v133 v134 v135 v136 v137 v138 v139 v140 v141 v142 v143 v130 0 0 [] [116] v170 0 0 0)
  else
  (law17_built_o_j3 N _ (fun v196 v197 v198 v199 v200 v201 v202 v203 v204 v205 v206 v207 v208 v209 v210 v211 v212 v213 v214 v215 v216 v217 v218 v219 v220 =>
  (k0 v196 v197 v198 v199 v200 v201 v202 v203 v204 v205 v206 v207 v208 v209 v210)) v127 v128 0 v131 v132 v133 v134 v135 v136 v137 v138 v139 v140 v141 v142 v143 v130 0 0 [] [] v170 0 0 0)))
  else
  (bif (decide (v130 = 7)) then
  (law17_built_o_j3 N _ (fun v221 v222 v223 v224 v225 v226 v227 v228 v229 v230 v231 v232 v233 v234 v235 v236 v237 v238 v239 v240 v241 v242 v243 v244 v245 =>
  (k0 v221 v222 v223 v224 v225 v226 v227 v228 v229 v230 v231 v232 v233 v234 v235)) v127 v128 1 v131 v132 v133 v134 v135 v136 v137 v138 v139 v140 v141 v142 v143 v130 0 0 [] [] [] 0 0 0)
  else
  (bif (decide (v130 = 16)) then
  (law17_built_o_j3 N _ (fun v246 v247 v248 v249 v250 v251 v252 v253 v254 v255 v256 v257 v258 v259 v260 v261 v262 v263 v264 v265 v266 v267 v268 v269 v270 =>
  (k0 v246 v247 v248 v249 v250 v251 v252 v253 v254 v255 v256 v257 v258 v259 v260)) v127 v128 1 v131 v132 v133 v134 v135 v136 v137 v138 v139 v140 v141 v142 v143 v130 0 0 [] [] [] 0 0 0)
  else
  (bif (decide (v130 = 17)) then
  (law17_built_o_j3 N _ (fun v271 v272 v273 v274 v275 v276 v277 v278 v279 v280 v281 v282 v283 v284 v285 v286 v287 v288 v289 v290 v291 v292 v293 v294 v295 =>
  (k0 v271 v272 v273 v274 v275 v276 v277 v278 v279 v280 v281 v282 v283 v284 v285)) v127 v128 1 v131 v132 v133 v134 v135 v136 v137 v138 v139 v140 v141 v142 v143 v130 0 0 [] [] [] 0 0 0)
  else
  (bif (decide (v130 = 19)) then
  (law17_built_o_j3 N _ (fun v296 v297 v298 v299 v300 v301 v302 v303 v304 v305 v306 v307 v308 v309 v310 v311 v312 v313 v314 v315 v316 v317 v318 v319 v320 =>
  (k0 v296 v297 v298 v299 v300 v301 v302 v303 v304 v305 v306 v307 v308 v309 v310)) v127 v128 1 v131 v132 v133 v134 v135 v136 v137 v138 v139 v140 v141 v142 v143 v130 0 0 [] [] [] 0 0 0)
  else
  (bif (decide (v130 = 20)) then
  (law17_built_o_j3 N _ (fun v321 v322 v323 v324 v325 v326 v327 v328 v329 v330 v331 v332 v333 v334 v335 v336 v337 v338 v339 v340 v341 v342 v343 v344 v345 =>
  (k0 v321 v322 v323 v324 v325 v326 v327 v328 v329 v330 v331 v332 v333 v334 v335)) v127 v128 1 v131 v132 v133 v134 v135 v136 v137 v138 v139 v140 v141 v142 v143 v130 0 0 [] [] [] 0 0 0)
  else
  (bif (decide (v130 = 21)) then
  (law17_built_o_j3 N _ (fun v346 v347 v348 v349 v350 v351 v352 v353 v354 v355 v356 v357 v358 v359 v360 v361 v362 v363 v364 v365 v366 v367 v368 v369 v370 =>
  (k0 v346 v347 v348 v349 v350 v351 v352 v353 v354 v355 v356 v357 v358 v359 v360)) v127 v128 1 v131 v132 v133 v134 v135 v136 v137 v138 v139 v140 v141 v142 v143 v130 0 0 [] [] [] 0 0 0)
  else
  (bif (decide (v130 = 18)) then
  (law17_built_o_j3 N _ (fun v371 v372 v373 v374 v375 v376 v377 v378 v379 v380 v381 v382 v383 v384 v385 v386 v387 v388 v389 v390 v391 v392 v393 v394 v395 =>
  (k0 v371 v372 v373 v374 v375 v376 v377 v378 v379 v380 v381 v382 v383 v384 v385)) v127 v128 (Int.tmod v129 2) v131 v132 v133 v134 v135 v136 v137 v138 v139 v140 v141 v142 v143 v130 0 0 [] [] [] 0 0 0)
  else
  (law17_built_o_j3 N _ (fun v396 v397 v398 v399 v400 v401 v402 v403 v404 v405 v406 v407 v408 v409 v410 v411 v412 v413 v414 v415 v416 v417 v418 v419 v420 =>
  (k0 v396 v397 v398 v399 v400 v401 v402 v403 v404 v405 v406 v407 v408 v409 v410)) v127 v128 2 v131 v132 v133 v134 v135 v136 v137 v138 v139 v140 v141 v142 v143 v130 0 0 [] [] [] 0 0 0))))))))))

def law17_built_o_j1 (N : Nat) (R : Type) (k0 : (List (Int × (Int × ((List UInt8) × (Bool × Unit))))) → Int → Int → Int → (List UInt8) → (List UInt8) → (List UInt8) → Int → (List Ex) → Int → Int → Int → Int → (List UInt8) → Bool → Option R) (v80 : (List (Int × (Int × ((List UInt8) × (Bool × Unit)))))) (v81 : Int) (v82 : Int) (v83 : Int) (v84 : Int) (v85 : Int) (v86 : Int) (v87 : (List UInt8)) (v88 : (List UInt8)) (v89 : (List UInt8)) (v90 : Int) (v91 : Int) (v92 : Int) (v93 : Int) (v94 : Int) (v95 : (List UInt8)) (v96 : Bool) : Option R :=
  (bif (decide (v81 = 0)) then
  (law17_built_o_j2 N _ (fun v97 v98 v99 v100 v101 v102 v103 v104 v105 v106 v107 v108 v109 v110 v111 =>
  (k0 v97 v98 v99 v100 v101 v102 v103 v104 v105 v106 v107 v108 v109 v110 v111)) v80 v81 v82 1 v84 v85 v86 v87 v88 v89 v90 v91 v92 v93 v94 v95 v96)
  else
  (law17_built_o_j2 N _ (fun v112 v113 v114 v115 v116 v117 v118 v119 v120 v121 v122 v123 v124 v125 v126 =>
  (k0 v112 v113 v114 v115 v116 v117 v118 v119 v120 v121 v122 v123 v124 v125 v126)) v80 v81 v82 (IntKind.wrap .i64 (1 + (Int.tmod v83 21))) v84 v85 v86 v87 v88 v89 v90 v91 v92 v93 v94 v95 v96))

def law17_built_o_j0 (N : Nat) (R : Type) (k0 : (List (Int × (Int × ((List UInt8) × (Bool × Unit))))) → Int → Int → Int → (List UInt8) → (List UInt8) → (List UInt8) → Int → (List Ex) → Int → Int → Int → Int → (List UInt8) → Bool → Option R) (v34 : (List (Int × (Int × ((List UInt8) × (Bool × Unit)))))) (v35 : Int) (v36 : Int) (v37 : Int) (v38 : Int) (v39 : Int) (v40 : (List UInt8)) (v41 : (List UInt8)) (v42 : (List UInt8)) (v43 : Int) (v44 : Int) (v45 : Int) (v46 : Int) (v47 : Int) (v48 : (List UInt8)) (v49 : Bool) : Option R :=
  (bif (decide (v46 < 0)) then
  (law17_built_o_j1 N _ (fun v50 v51 v52 v53 v54 v55 v56 v57 v58 v59 v60 v61 v62 v63 v64 =>
  (k0 v50 v51 v52 v53 v54 v55 v56 v57 v58 v59 v60 v61 v62 v63 v64)) v34 v35 v36 (IntKind.wrap .i64 (0 - (IntKind.wrap .i64 (v46 + 1)))) v37 v38 v39 v40 v41 v42 v43 v44 v45 v46 v47 v48 v49)
  else
  (law17_built_o_j1 N _ (fun v65 v66 v67 v68 v69 v70 v71 v72 v73 v74 v75 v76 v77 v78 v79 =>
  (k0 v65 v66 v67 v68 v69 v70 v71 v72 v73 v74 v75 v76 v77 v78 v79)) v34 v35 v36 v46 v37 v38 v39 v40 v41 v42 v43 v44 v45 v46 v47 v48 v49))

def law17_built_o_cps (N : Nat) (R : Type) (K : Int → Int → Int → (List UInt8) → (List UInt8) → (List UInt8) → Int → (List Ex) → Int → Int → (List (Int × (Int × ((List UInt8) × (Bool × Unit))))) → Option R) (v1 : (List (Int × (Int × ((List UInt8) × (Bool × Unit)))))) (v2 : Int) : Option R :=
  (bif (decide ((v1.length : Int) = 0)) then
  (K 1 0 0 [] [] [] 0 [] 0 0 [])
  else
  (Option.bind (nth v1 0) fun v3 =>
  (bif (decide (0 ≤ (1 : Int) ∧ (1 : Int) ≤ ((v1.length : Nat) : Int))) then
  (bif (decide (v3.2.1 < 0)) then
  (law17_built_o_j0 N _ (fun v4 v5 v6 v7 v8 v9 v10 v11 v12 v13 v14 v15 v16 v17 v18 =>
  (K v5 v6 v7 v8 v9 v10 v11 v12 v13 v14 v4)) (List.drop 1 (List.take v1.length v1)) v2 (IntKind.wrap .i64 (0 - (IntKind.wrap .i64 (v3.2.1 + 1)))) 0 0 0 [] [] [] 0 0 0 v3.1 v3.2.1 v3.2.2.1 v3.2.2.2.1)
  else
  (law17_built_o_j0 N _ (fun v19 v20 v21 v22 v23 v24 v25 v26 v27 v28 v29 v30 v31 v32 v33 =>
  (K v20 v21 v22 v23 v24 v25 v26 v27 v28 v29 v19)) (List.drop 1 (List.take v1.length v1)) v2 v3.2.1 0 0 0 [] [] [] 0 0 0 v3.1 v3.2.1 v3.2.2.1 v3.2.2.2.1))
  else
  none)))

def law17_built_o (N : Nat) (v1 : (List (Int × (Int × ((List UInt8) × (Bool × Unit)))))) (v2 : Int) : Option (Int × Int × Int × (List UInt8) × (List UInt8) × (List UInt8) × Int × (List Ex) × Int × Int × (List (Int × (Int × ((List UInt8) × (Bool × Unit))))) × Unit) := law17_built_o_cps N _ (fun a0 a1 a2 a3 a4 a5 a6 a7 a8 a9 a10 => some (a0, (a1, (a2, (a3, (a4, (a5, (a6, (a7, (a8, (a9, (a10, ())))))))))))) v1 v2

end
def Z_law17_built_at (N : Nat) : Nat → Z_law17_built
  | 0 => { r_law17_built := fun _ _ => none }
  | n + 1 => letI : Z_law17_built := Z_law17_built_at N n; { r_law17_built := (fun a0 a1 => law17_built_o N a0 a1) }

def law17_built (N : Nat) (v1 : (List (Int × (Int × ((List UInt8) × (Bool × Unit)))))) (v2 : Int) : Option (Int × Int × Int × (List UInt8) × (List UInt8) × (List UInt8) × Int × (List Ex) × Int × Int × (List (Int × (Int × ((List UInt8) × (Bool × Unit))))) × Unit) := letI : Z_law17_built := Z_law17_built_at N N; law17_built_o N v1 v2


end
end Go.Proofs.YtbikfekdakigiaaGreatDoor.E
