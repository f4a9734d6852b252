/-
  Pure functions, printed by a program out of the translation.
  Conditions: those that each statement prints, and no other.
-/
import Derived.Test.YtmpglmalfkkokaaDoorEvA
import Derived.Lib.Bytealg
import Derived.Test.YtmpglmalfkkokaaDoorEvL
set_option linter.unusedVariables false
set_option linter.unusedSimpArgs false
/-! Pure functions, printed by wip/gen out of the translation. -/
namespace Go.Proofs.YtmpglmalfkkokaaDoor.E
open Go.Ev
noncomputable section
/-! frankpledge/fault.New -/
def fault_New_cps (N : Nat) (R : Type) (K : Err → Option R) (v1 : Int) (v2 : Int) : Option R :=
  (bif (decide (v1 = 0)) then
  (K Err.nil)
  else
  (K (Err.fault v1 v2 Err.nil)))

def fault_New (N : Nat) (v1 : Int) (v2 : Int) : Option (Err × Unit) := fault_New_cps N _ (fun a0 => some (a0, ())) v1 v2

/-! frankpledge/lex.of -/
def lex_of_cps (N : Nat) (R : Type) (K : Int → Option R) (v1 : Int) : Option R :=
  (bif (decide (97 ≤ v1)) then
  (bif (decide (v1 ≤ 122)) then
  (K 2)
  else
  (bif (decide (65 ≤ v1)) then
  (bif (decide (v1 ≤ 90)) then
  (K 2)
  else
  (bif (decide (48 ≤ v1)) then
  (bif (decide (v1 ≤ 57)) then
  (K 3)
  else
  (bif (decide (v1 = 32)) then
  (K 1)
  else
  (bif (decide (v1 = 9)) then
  (K 1)
  else
  (bif (decide (v1 = 10)) then
  (K 1)
  else
  (bif (decide (v1 = 13)) then
  (K 1)
  else
  (bif (decide (v1 = 95)) then
  (K 4)
  else
  (K 0)))))))
  else
  (bif (decide (v1 = 32)) then
  (K 1)
  else
  (bif (decide (v1 = 9)) then
  (K 1)
  else
  (bif (decide (v1 = 10)) then
  (K 1)
  else
  (bif (decide (v1 = 13)) then
  (K 1)
  else
  (bif (decide (v1 = 95)) then
  (K 4)
  else
  (K 0))))))))
  else
  (bif (decide (48 ≤ v1)) then
  (bif (decide (v1 ≤ 57)) then
  (K 3)
  else
  (bif (decide (v1 = 32)) then
  (K 1)
  else
  (bif (decide (v1 = 9)) then
  (K 1)
  else
  (bif (decide (v1 = 10)) then
  (K 1)
  else
  (bif (decide (v1 = 13)) then
  (K 1)
  else
  (bif (decide (v1 = 95)) then
  (K 4)
  else
  (K 0)))))))
  else
  (bif (decide (v1 = 32)) then
  (K 1)
  else
  (bif (decide (v1 = 9)) then
  (K 1)
  else
  (bif (decide (v1 = 10)) then
  (K 1)
  else
  (bif (decide (v1 = 13)) then
  (K 1)
  else
  (bif (decide (v1 = 95)) then
  (K 4)
  else
  (K 0)))))))))
  else
  (bif (decide (65 ≤ v1)) then
  (bif (decide (v1 ≤ 90)) then
  (K 2)
  else
  (bif (decide (48 ≤ v1)) then
  (bif (decide (v1 ≤ 57)) then
  (K 3)
  else
  (bif (decide (v1 = 32)) then
  (K 1)
  else
  (bif (decide (v1 = 9)) then
  (K 1)
  else
  (bif (decide (v1 = 10)) then
  (K 1)
  else
  (bif (decide (v1 = 13)) then
  (K 1)
  else
  (bif (decide (v1 = 95)) then
  (K 4)
  else
  (K 0)))))))
  else
  (bif (decide (v1 = 32)) then
  (K 1)
  else
  (bif (decide (v1 = 9)) then
  (K 1)
  else
  (bif (decide (v1 = 10)) then
  (K 1)
  else
  (bif (decide (v1 = 13)) then
  (K 1)
  else
  (bif (decide (v1 = 95)) then
  (K 4)
  else
  (K 0))))))))
  else
  (bif (decide (48 ≤ v1)) then
  (bif (decide (v1 ≤ 57)) then
  (K 3)
  else
  (bif (decide (v1 = 32)) then
  (K 1)
  else
  (bif (decide (v1 = 9)) then
  (K 1)
  else
  (bif (decide (v1 = 10)) then
  (K 1)
  else
  (bif (decide (v1 = 13)) then
  (K 1)
  else
  (bif (decide (v1 = 95)) then
  (K 4)
  else
  (K 0)))))))
  else
  (bif (decide (v1 = 32)) then
  (K 1)
  else
  (bif (decide (v1 = 9)) then
  (K 1)
  else
  (bif (decide (v1 = 10)) then
  (K 1)
  else
  (bif (decide (v1 = 13)) then
  (K 1)
  else
  (bif (decide (v1 = 95)) then
  (K 4)
  else
  (K 0)))))))))

def lex_of (N : Nat) (v1 : Int) : Option (Int × Unit) := lex_of_cps N _ (fun a0 => some (a0, ())) v1

/-! frankpledge/lex.quoted -/
def lex_quoted_l0B (N : Nat) (R : Type) (rec : (List UInt8) → (List UInt8) → Int → Option R) (k0 : Option R) (k1 : (List UInt8) → Int → Option R) (v4 : (List UInt8)) (v5 : (List UInt8)) (v6 : Int) : Option R :=
  (bif (decide (v6 < (v4.length : Int))) then
  (Option.bind (nth v4 v6) fun (v7 : UInt8) =>
  (bif (decide ((v7.toNat : Int) = 39)) then
  (bif (decide ((IntKind.wrap .i64 (v6 + 1)) = (v4.length : Int))) then
  (k1 v5 (IntKind.wrap .i64 (v6 + 1)))
  else
  (Option.bind (nth v4 (IntKind.wrap .i64 (v6 + 1))) fun (v8 : UInt8) =>
  (bif (!(decide ((v8.toNat : Int) = 39))) then
  (k1 v5 (IntKind.wrap .i64 (v6 + 1)))
  else
  (Option.bind (nth v4 (IntKind.wrap .i64 (v6 + 1))) fun (v9 : UInt8) =>
  (bif (room 1 (v5.length + ([(UInt8.ofNat (Int.toNat (v9.toNat : Int)))] : (List UInt8)).length)) then
  (rec v4 (v5 ++ ([(UInt8.ofNat (Int.toNat (v9.toNat : Int)))] : (List UInt8))) (IntKind.wrap .i64 ((IntKind.wrap .i64 (v6 + 1)) + 1)))
  else
  none)))))
  else
  (Option.bind (nth v4 v6) fun (v10 : UInt8) =>
  (bif (room 1 (v5.length + ([(UInt8.ofNat (Int.toNat (v10.toNat : Int)))] : (List UInt8)).length)) then
  (rec v4 (v5 ++ ([(UInt8.ofNat (Int.toNat (v10.toNat : Int)))] : (List UInt8))) (IntKind.wrap .i64 (v6 + 1)))
  else
  none))))
  else
  k0)

def lex_quoted_l0 (N : Nat) (R : Type) (k0 : Option R) (k1 : (List UInt8) → Int → Option R) : Nat → (List UInt8) → (List UInt8) → Int → Option R
  | 0 => fun _ _ _ => none
  | n + 1 => lex_quoted_l0B N R (lex_quoted_l0 N R k0 k1 n) k0 k1

def lex_quoted_cps (N : Nat) (R : Type) (K : (List UInt8) → Int → Option R) (v1 : (List UInt8)) : Option R :=
  (lex_quoted_l0 N _ ((K [] 0)) (fun (v2 : (List UInt8)) (v3 : Int) =>
  (K v2 v3)) N v1 [] 1)

def lex_quoted (N : Nat) (v1 : (List UInt8)) : Option ((List UInt8) × Int × Unit) := lex_quoted_cps N _ (fun a0 a1 => some (a0, (a1, ()))) v1

/-! internal/bytealg.IndexByteString -/
def bytealg_IndexByteString_cps (N : Nat) (R : Type) (K : Int → Option R) (v1 : (List UInt8)) (v2 : Int) : Option R :=
  (K (Lib.indexByte v1 (Int.toNat v2).toUInt8))

def bytealg_IndexByteString (N : Nat) (v1 : (List UInt8)) (v2 : Int) : Option (Int × Unit) := bytealg_IndexByteString_cps N _ (fun a0 => some (a0, ())) v1 v2

/-! internal/stringslite.IndexByte -/
def stringslite_IndexByte_cps (N : Nat) (R : Type) (K : Int → Option R) (v1 : (List UInt8)) (v2 : Int) : Option R :=
  (Option.bind (bytealg_IndexByteString N v1 v2) fun (v3 : Int × Unit) =>
  (K v3.1))

def stringslite_IndexByte (N : Nat) (v1 : (List UInt8)) (v2 : Int) : Option (Int × Unit) := stringslite_IndexByte_cps N _ (fun a0 => some (a0, ())) v1 v2

/-! strings.IndexByte -/
def strings_IndexByte_cps (N : Nat) (R : Type) (K : Int → Option R) (v1 : (List UInt8)) (v2 : Int) : Option R :=
  (Option.bind (stringslite_IndexByte N v1 v2) fun (v3 : Int × Unit) =>
  (K v3.1))

def strings_IndexByte (N : Nat) (v1 : (List UInt8)) (v2 : Int) : Option (Int × Unit) := strings_IndexByte_cps N _ (fun a0 => some (a0, ())) v1 v2

/-! frankpledge/lex.hex -/
def lex_hex_cps (N : Nat) (R : Type) (K : Int → Option R) (v1 : Int) : Option R :=
  (bif (decide (65 ≤ v1)) then
  (bif (decide (v1 ≤ 70)) then
  (Option.bind (strings_IndexByte N [48, 49, 50, 51, 52, 53, 54, 55, 56, 57, 97, 98, 99, 100, 101, 102] (IntKind.wrap .u8 (v1 + 32))) fun (v2 : Int × Unit) =>
  (K v2.1))
  else
  (Option.bind (strings_IndexByte N [48, 49, 50, 51, 52, 53, 54, 55, 56, 57, 97, 98, 99, 100, 101, 102] v1) fun (v3 : Int × Unit) =>
  (K v3.1)))
  else
  (Option.bind (strings_IndexByte N [48, 49, 50, 51, 52, 53, 54, 55, 56, 57, 97, 98, 99, 100, 101, 102] v1) fun (v4 : Int × Unit) =>
  (K v4.1)))

def lex_hex (N : Nat) (v1 : Int) : Option (Int × Unit) := lex_hex_cps N _ (fun a0 => some (a0, ())) v1

/-! frankpledge/lex.raw -/
def lex_raw_l1B (N : Nat) (R : Type) (rec : (List UInt8) → (List UInt8) → Int → (List UInt8) → Int → (List UInt8) → Int → Int → (List UInt8) → Int → Option R) (k0 : (List UInt8) → Int → (List UInt8) → Int → (List UInt8) → Int → Int → (List UInt8) → Int → Option R) (k1 : (List UInt8) → Int → (List UInt8) → Int → (List UInt8) → Int → Int → (List UInt8) → Int → Option R) (v36 : (List UInt8)) (v37 : (List UInt8)) (v38 : Int) (v39 : (List UInt8)) (v40 : Int) (v41 : (List UInt8)) (v42 : Int) (v43 : Int) (v44 : (List UInt8)) (v45 : Int) : Option R :=
  (bif (!(decide (v37 = []))) then
  (Option.bind (nth v37 0) fun (v46 : UInt8) =>
  (Option.bind (lex_hex N (v46.toNat : Int)) fun (v47 : Int × Unit) =>
  (Option.bind (nth v37 1) fun (v48 : UInt8) =>
  (Option.bind (lex_hex N (v48.toNat : Int)) fun (v49 : Int × Unit) =>
  (bif (decide (v47.1 < 0)) then
  (k1 v36 v38 v39 0 [] 0 0 [] 0)
  else
  (bif (decide (v49.1 < 0)) then
  (k1 v36 v38 v39 0 [] 0 0 [] 0)
  else
  (bif (room 1 (v39.length + ([(UInt8.ofNat (Int.toNat (IntKind.wrap .u8 (Ev.bits .or .i64 (Ev.shl .i64 v47.1 4) v49.1))))] : (List UInt8)).length)) then
  (bif (decide (0 ≤ (2 : Int) ∧ (2 : Int) ≤ ((v37.length : Nat) : Int))) then
  (rec v36 (List.drop 2 (List.take v37.length v37)) v38 (v39 ++ ([(UInt8.ofNat (Int.toNat (IntKind.wrap .u8 (Ev.bits .or .i64 (Ev.shl .i64 v47.1 4) v49.1))))] : (List UInt8))) v40 v41 v42 v43 v44 v45)
  else
  none)
  else
  none)))))))
  else
  (k0 v36 v38 v39 v40 v41 v42 v43 v44 v45))

def lex_raw_l1 (N : Nat) (R : Type) (k0 : (List UInt8) → Int → (List UInt8) → Int → (List UInt8) → Int → Int → (List UInt8) → Int → Option R) (k1 : (List UInt8) → Int → (List UInt8) → Int → (List UInt8) → Int → Int → (List UInt8) → Int → Option R) : Nat → (List UInt8) → (List UInt8) → Int → (List UInt8) → Int → (List UInt8) → Int → Int → (List UInt8) → Int → Option R
  | 0 => fun _ _ _ _ _ _ _ _ _ _ => none
  | n + 1 => lex_raw_l1B N R (lex_raw_l1 N R k0 k1 n) k0 k1

def lex_raw_j0 (N : Nat) (R : Type) (k0 : Int → (List UInt8) → Int → Int → (List UInt8) → Int → Option R) (v9 : (List UInt8)) (v10 : (List UInt8)) (v11 : Int) (v12 : Int) (v13 : (List UInt8)) (v14 : Int) (v15 : Int) (v16 : (List UInt8)) (v17 : Int) : Option R :=
  (lex_raw_l1 N _ (fun (v18 : (List UInt8)) (v19 : Int) (v20 : (List UInt8)) (v21 : Int) (v22 : (List UInt8)) (v23 : Int) (v24 : Int) (v25 : (List UInt8)) (v26 : Int) =>
  (bif (decide (0 ≤ (IntKind.wrap .i64 (v19 + 1)) ∧ (IntKind.wrap .i64 (v19 + 1)) ≤ ((v18.length : Nat) : Int))) then
  (k0 4 (List.drop 0 (List.take (Int.toNat (IntKind.wrap .i64 (v19 + 1))) v18)) 5 0 v20 0)
  else
  none)) (fun (v27 : (List UInt8)) (v28 : Int) (v29 : (List UInt8)) (v30 : Int) (v31 : (List UInt8)) (v32 : Int) (v33 : Int) (v34 : (List UInt8)) (v35 : Int) =>
  (k0 v30 v31 v32 v33 v34 v35)) N v9 v10 v11 [] v12 v13 v14 v15 v16 v17)

def lex_raw_cps (N : Nat) (R : Type) (K : Int → (List UInt8) → Int → Int → (List UInt8) → Int → Option R) (v1 : (List UInt8)) : Option R :=
  (bif (decide (0 ≤ (1 : Int) ∧ (1 : Int) ≤ ((v1.length : Nat) : Int))) then
  (Option.bind (lex_quoted N (List.drop 1 (List.take v1.length v1))) fun (v2 : (List UInt8) × Int × Unit) =>
  (bif (decide (v2.2.1 = 0)) then
  (K 0 [] 0 0 [] 0)
  else
  (bif (decide ((Int.tmod (v2.1.length : Int) 2) = 1)) then
  (K 0 [] 0 0 [] 0)
  else
  (bif (decide (400 < (v2.1.length : Int))) then
  (K 0 [] 0 0 [] 0)
  else
  (lex_raw_j0 N _ (fun (v3 : Int) (v4 : (List UInt8)) (v5 : Int) (v6 : Int) (v7 : (List UInt8)) (v8 : Int) =>
  (K v3 v4 v5 v6 v7 v8)) v1 v2.1 v2.2.1 0 [] 0 0 [] 0)))))
  else
  none)

def lex_raw (N : Nat) (v1 : (List UInt8)) : Option (Int × (List UInt8) × Int × Int × (List UInt8) × Int × Unit) := lex_raw_cps N _ (fun a0 a1 a2 a3 a4 a5 => some (a0, (a1, (a2, (a3, (a4, (a5, ()))))))) v1

/-! frankpledge/lex.isPart -/
def lex_isPart_cps (N : Nat) (R : Type) (K : Bool → Option R) (v1 : Int) : Option R :=
  (K (decide (2 ≤ v1)))

def lex_isPart (N : Nat) (v1 : Int) : Option (Bool × Unit) := lex_isPart_cps N _ (fun a0 => some (a0, ())) v1

/-! frankpledge/lex.span -/
def lex_span_l0B (N : Nat) (R : Type) (rec : (List UInt8) → Int → Option R) (k0 : Int → Option R) (v3 : (List UInt8)) (v4 : Int) : Option R :=
  (bif (decide (v4 < (v3.length : Int))) then
  (Option.bind (nth v3 v4) fun (v5 : UInt8) =>
  (Option.bind (lex_of N (v5.toNat : Int)) fun (v6 : Int × Unit) =>
  (Option.bind (lex_isPart N v6.1) fun (v7 : Bool × Unit) =>
  (bif v7.1 then
  (rec v3 (IntKind.wrap .i64 (v4 + 1)))
  else
  (k0 v4)))))
  else
  (k0 v4))

def lex_span_l0 (N : Nat) (R : Type) (k0 : Int → Option R) : Nat → (List UInt8) → Int → Option R
  | 0 => fun _ _ => none
  | n + 1 => lex_span_l0B N R (lex_span_l0 N R k0 n) k0

def lex_span_cps (N : Nat) (R : Type) (K : Int → Option R) (v1 : (List UInt8)) : Option R :=
  (lex_span_l0 N _ (fun (v2 : Int) =>
  (K v2)) N v1 0)

def lex_span (N : Nat) (v1 : (List UInt8)) : Option (Int × Unit) := lex_span_cps N _ (fun a0 => some (a0, ())) v1

/-! strings.ToLower -/
def strings_ToLower_cps (N : Nat) (R : Type) (K : (List UInt8) → Option R) (v1 : (List UInt8)) : Option R :=
  (bif (decide (v1.length ≤ 140737488355328) && List.all v1 (fun b => decide (b.toNat < 128))) then (K (Lib.toLowerA v1)) else none)

def strings_ToLower (N : Nat) (v1 : (List UInt8)) : Option ((List UInt8) × Unit) := strings_ToLower_cps N _ (fun a0 => some (a0, ())) v1

/-! frankpledge/lex.isFigure -/
def lex_isFigure_cps (N : Nat) (R : Type) (K : Bool → Option R) (v1 : Int) : Option R :=
  (K (decide (v1 = 3)))

def lex_isFigure (N : Nat) (v1 : Int) : Option (Bool × Unit) := lex_isFigure_cps N _ (fun a0 => some (a0, ())) v1

/-! frankpledge/lex.span -/
def lex_span_1_l0B (N : Nat) (R : Type) (rec : (List UInt8) → Int → Option R) (k0 : Int → Option R) (v3 : (List UInt8)) (v4 : Int) : Option R :=
  (bif (decide (v4 < (v3.length : Int))) then
  (Option.bind (nth v3 v4) fun (v5 : UInt8) =>
  (Option.bind (lex_of N (v5.toNat : Int)) fun (v6 : Int × Unit) =>
  (Option.bind (lex_isFigure N v6.1) fun (v7 : Bool × Unit) =>
  (bif v7.1 then
  (rec v3 (IntKind.wrap .i64 (v4 + 1)))
  else
  (k0 v4)))))
  else
  (k0 v4))

def lex_span_1_l0 (N : Nat) (R : Type) (k0 : Int → Option R) : Nat → (List UInt8) → Int → Option R
  | 0 => fun _ _ => none
  | n + 1 => lex_span_1_l0B N R (lex_span_1_l0 N R k0 n) k0

def lex_span_1_cps (N : Nat) (R : Type) (K : Int → Option R) (v1 : (List UInt8)) : Option R :=
  (lex_span_1_l0 N _ (fun (v2 : Int) =>
  (K v2)) N v1 0)

def lex_span_1 (N : Nat) (v1 : (List UInt8)) : Option (Int × Unit) := lex_span_1_cps N _ (fun a0 => some (a0, ())) v1

/-! internal/stringslite.HasPrefix -/
def stringslite_HasPrefix_cps (N : Nat) (R : Type) (K : Bool → Option R) (v1 : (List UInt8)) (v2 : (List UInt8)) : Option R :=
  (bif (decide ((v2.length : Int) ≤ (v1.length : Int))) then
  (bif (decide (0 ≤ (v2.length : Int) ∧ (v2.length : Int) ≤ ((v1.length : Nat) : Int))) then
  (K (decide ((List.drop 0 (List.take (Int.toNat (v2.length : Int)) v1)) = v2)))
  else
  none)
  else
  (K false))

def stringslite_HasPrefix (N : Nat) (v1 : (List UInt8)) (v2 : (List UInt8)) : Option (Bool × Unit) := stringslite_HasPrefix_cps N _ (fun a0 => some (a0, ())) v1 v2

/-! strings.HasPrefix -/
def strings_HasPrefix_cps (N : Nat) (R : Type) (K : Bool → Option R) (v1 : (List UInt8)) (v2 : (List UInt8)) : Option R :=
  (Option.bind (stringslite_HasPrefix N v1 v2) fun (v3 : Bool × Unit) =>
  (K v3.1))

def strings_HasPrefix (N : Nat) (v1 : (List UInt8)) (v2 : (List UInt8)) : Option (Bool × Unit) := strings_HasPrefix_cps N _ (fun a0 => some (a0, ())) v1 v2

/-! strings.Repeat -/
def strings_Repeat_cps (N : Nat) (R : Type) (K : (List UInt8) → Option R) (v1 : (List UInt8)) (v2 : Int) : Option R :=
  (bif (decide (0 ≤ v2 ∧ v1.length * (Int.toNat v2) ≤ 140737488355328)) then (K (Lib.repeatL v1 (Int.toNat v2))) else none)

def strings_Repeat (N : Nat) (v1 : (List UInt8)) (v2 : Int) : Option ((List UInt8) × Unit) := strings_Repeat_cps N _ (fun a0 => some (a0, ())) v1 v2

/-! strconv.ParseInt -/
def strconv_ParseInt_cps (N : Nat) (R : Type) (K : Int → Err → Option R) (v1 : (List UInt8)) (v2 : Int) (v3 : Int) : Option R :=
  (bif (decide (v2 = 10 ∧ v3 = 64 ∧ v1.length ≤ 281474976710656)) then (K (parseV v1) (parseE v1)) else none)

def strconv_ParseInt (N : Nat) (v1 : (List UInt8)) (v2 : Int) (v3 : Int) : Option (Int × Err × Unit) := strconv_ParseInt_cps N _ (fun a0 a1 => some (a0, (a1, ()))) v1 v2 v3

/-! frankpledge/lex.number -/
def lex_number_j2 (N : Nat) (R : Type) (k0 : Int → (List UInt8) → Int → Int → (List UInt8) → Int → Option R) (v59 : (List UInt8)) (v60 : Int) (v61 : (List UInt8)) (v62 : Int) (v63 : Int) (v64 : (List UInt8)) (v65 : Int) (v66 : Int) (v67 : (List UInt8)) (v68 : Int) : Option R :=
  (Option.bind (strconv_ParseInt N v61 10 64) fun (v69 : Int × Err × Unit) =>
  (bif (!(Err.isNil v69.2.1)) then
  (k0 0 [] 0 0 [] 0)
  else
  (bif (decide (0 ≤ v60 ∧ v60 ≤ ((v59.length : Nat) : Int))) then
  (k0 2 (List.drop 0 (List.take (Int.toNat v60) v59)) v62 v69.1 [] 0)
  else
  none)))

def lex_number_j1 (N : Nat) (R : Type) (k0 : Int → (List UInt8) → Int → Int → (List UInt8) → Int → Option R) (v40 : (List UInt8)) (v41 : Int) (v42 : (List UInt8)) (v43 : (List UInt8)) (v44 : Int) (v45 : Int) (v46 : (List UInt8)) (v47 : Int) (v48 : Int) (v49 : (List UInt8)) (v50 : Int) : Option R :=
  (Option.bind (strings_HasPrefix N v43 [46]) fun (v51 : Bool × Unit) =>
  (bif v51.1 then
  (k0 0 [] 0 0 [] 0)
  else
  (Option.bind (lex_span N v43) fun (v52 : Int × Unit) =>
  (bif (decide (0 < v52.1)) then
  (k0 0 [] 0 0 [] 0)
  else
  (lex_number_j2 N _ (fun (v53 : Int) (v54 : (List UInt8)) (v55 : Int) (v56 : Int) (v57 : (List UInt8)) (v58 : Int) =>
  (k0 v53 v54 v55 v56 v57 v58)) v40 v41 v42 v44 v45 v46 v47 v48 v49 v50)))))

def lex_number_j0 (N : Nat) (R : Type) (k0 : (List UInt8) → Int → (List UInt8) → (List UInt8) → Int → Int → (List UInt8) → Int → Int → (List UInt8) → Int → Option R) (v28 : (List UInt8)) (v29 : Int) (v30 : (List UInt8)) (v31 : (List UInt8)) (v32 : Int) (v33 : Int) (v34 : (List UInt8)) (v35 : Int) (v36 : Int) (v37 : (List UInt8)) (v38 : Int) : Option R :=
  (bif (decide (0 ≤ (IntKind.wrap .i64 (1 + v32)) ∧ (IntKind.wrap .i64 (1 + v32)) ≤ ((v31.length : Nat) : Int))) then
  (bif (decide (0 ≤ (1 : Int) ∧ (1 : Int) ≤ (((Int.toNat (IntKind.wrap .i64 (1 + v32))) : Nat) : Int))) then
  (Option.bind (strings_Repeat N [48] (IntKind.wrap .i64 (4 - v32))) fun (v39 : (List UInt8) × Unit) =>
  (bif (room 1 ((List.drop 1 (List.take (Int.toNat (IntKind.wrap .i64 (1 + v32))) v31)).length + v39.1.length)) then
  (bif (room 1 (v30.length + ((List.drop 1 (List.take (Int.toNat (IntKind.wrap .i64 (1 + v32))) v31)) ++ v39.1).length)) then
  (bif (decide (0 ≤ (IntKind.wrap .i64 (1 + v32)) ∧ (IntKind.wrap .i64 (1 + v32)) ≤ ((v31.length : Nat) : Int))) then
  (k0 v28 (IntKind.wrap .i64 ((IntKind.wrap .i64 (v29 + 1)) + v32)) (v30 ++ ((List.drop 1 (List.take (Int.toNat (IntKind.wrap .i64 (1 + v32))) v31)) ++ v39.1)) (List.drop (Int.toNat (IntKind.wrap .i64 (1 + v32))) (List.take v31.length v31)) 3 v33 v34 v35 v36 v37 v38)
  else
  none)
  else
  none)
  else
  none))
  else
  none)
  else
  none)

def lex_number_cps (N : Nat) (R : Type) (K : Int → (List UInt8) → Int → Int → (List UInt8) → Int → Option R) (v1 : (List UInt8)) : Option R :=
  (Option.bind (lex_span_1 N v1) fun (v2 : Int × Unit) =>
  (bif (decide (0 ≤ v2.1 ∧ v2.1 ≤ ((v1.length : Nat) : Int))) then
  (bif (decide (0 ≤ v2.1 ∧ v2.1 ≤ ((v1.length : Nat) : Int))) then
  (Option.bind (strings_HasPrefix N (List.drop (Int.toNat v2.1) (List.take v1.length v1)) [46]) fun (v3 : Bool × Unit) =>
  (bif v3.1 then
  (bif (decide (0 ≤ (1 : Int) ∧ (1 : Int) ≤ (((List.drop (Int.toNat v2.1) (List.take v1.length v1)).length : Nat) : Int))) then
  (Option.bind (lex_span_1 N (List.drop 1 (List.take (List.drop (Int.toNat v2.1) (List.take v1.length v1)).length (List.drop (Int.toNat v2.1) (List.take v1.length v1))))) fun (v4 : Int × Unit) =>
  (bif (decide (v4.1 = 0)) then
  (K 0 [] 0 0 [] 0)
  else
  (bif (decide (4 < v4.1)) then
  (K 0 [] 0 0 [] 0)
  else
  (lex_number_j0 N _ (fun (v5 : (List UInt8)) (v6 : Int) (v7 : (List UInt8)) (v8 : (List UInt8)) (v9 : Int) (v10 : Int) (v11 : (List UInt8)) (v12 : Int) (v13 : Int) (v14 : (List UInt8)) (v15 : Int) =>
  (lex_number_j1 N _ (fun (v16 : Int) (v17 : (List UInt8)) (v18 : Int) (v19 : Int) (v20 : (List UInt8)) (v21 : Int) =>
  (K v16 v17 v18 v19 v20 v21)) v5 v6 v7 v8 v9 v10 v11 v12 v13 v14 v15)) v1 v2.1 (List.drop 0 (List.take (Int.toNat v2.1) v1)) (List.drop (Int.toNat v2.1) (List.take v1.length v1)) v4.1 0 [] 0 0 [] 0))))
  else
  none)
  else
  (lex_number_j1 N _ (fun (v22 : Int) (v23 : (List UInt8)) (v24 : Int) (v25 : Int) (v26 : (List UInt8)) (v27 : Int) =>
  (K v22 v23 v24 v25 v26 v27)) v1 v2.1 (List.drop 0 (List.take (Int.toNat v2.1) v1)) (List.drop (Int.toNat v2.1) (List.take v1.length v1)) 2 0 [] 0 0 [] 0)))
  else
  none)
  else
  none))

def lex_number (N : Nat) (v1 : (List UInt8)) : Option (Int × (List UInt8) × Int × Int × (List UInt8) × Int × Unit) := lex_number_cps N _ (fun a0 a1 a2 a3 a4 a5 => some (a0, (a1, (a2, (a3, (a4, (a5, ()))))))) v1

/-! frankpledge/lex.text -/
def lex_text_cps (N : Nat) (R : Type) (K : Int → (List UInt8) → Int → Int → (List UInt8) → Int → Option R) (v1 : (List UInt8)) : Option R :=
  (Option.bind (lex_quoted N v1) fun (v2 : (List UInt8) × Int × Unit) =>
  (bif (decide (v2.2.1 = 0)) then
  (K 0 [] 0 0 [] 0)
  else
  (bif (decide (200 < (v2.1.length : Int))) then
  (K 0 [] 0 0 [] 0)
  else
  (bif (decide (0 ≤ v2.2.1 ∧ v2.2.1 ≤ ((v1.length : Nat) : Int))) then
  (K 3 (List.drop 0 (List.take (Int.toNat v2.2.1) v1)) 4 0 v2.1 0)
  else
  none))))

def lex_text (N : Nat) (v1 : (List UInt8)) : Option (Int × (List UInt8) × Int × Int × (List UInt8) × Int × Unit) := lex_text_cps N _ (fun a0 a1 a2 a3 a4 a5 => some (a0, (a1, (a2, (a3, (a4, (a5, ()))))))) v1

/-! frankpledge/lex.sign -/
def lex_sign_l0B (N : Nat) (R : Type) (rec : (List UInt8) → (List (List UInt8)) → Int → Int → Int → (List UInt8) → Int → Int → (List UInt8) → Int → Option R) (k0 : (List UInt8) → Int → (List UInt8) → Int → Int → (List UInt8) → Int → Option R) (k1 : (List UInt8) → Int → (List UInt8) → Int → Int → (List UInt8) → Int → Option R) (v18 : (List UInt8)) (v19 : (List (List UInt8))) (v20 : Int) (v21 : Int) (v22 : Int) (v23 : (List UInt8)) (v24 : Int) (v25 : Int) (v26 : (List UInt8)) (v27 : Int) : Option R :=
  (bif (decide (v21 < v20)) then
  (Option.bind (nth v19 v21) fun (v28 : (List UInt8)) =>
  (Option.bind (strings_HasPrefix N v18 v28) fun (v29 : Bool × Unit) =>
  (bif v29.1 then
  (k1 v18 5 v28 0 0 [] 0)
  else
  (rec v18 v19 v20 (IntKind.wrap .i64 (v21 + 1)) v22 v23 v24 v25 v26 v27))))
  else
  (k0 v18 v22 v23 v24 v25 v26 v27))

def lex_sign_l0 (N : Nat) (R : Type) (k0 : (List UInt8) → Int → (List UInt8) → Int → Int → (List UInt8) → Int → Option R) (k1 : (List UInt8) → Int → (List UInt8) → Int → Int → (List UInt8) → Int → Option R) : Nat → (List UInt8) → (List (List UInt8)) → Int → Int → Int → (List UInt8) → Int → Int → (List UInt8) → Int → Option R
  | 0 => fun _ _ _ _ _ _ _ _ _ _ => none
  | n + 1 => lex_sign_l0B N R (lex_sign_l0 N R k0 k1 n) k0 k1

def lex_sign_cps (N : Nat) (R : Type) (K : Int → (List UInt8) → Int → Int → (List UInt8) → Int → Option R) (v1 : (List UInt8)) : Option R :=
  (lex_sign_l0 N _ (fun (v2 : (List UInt8)) (v3 : Int) (v4 : (List UInt8)) (v5 : Int) (v6 : Int) (v7 : (List UInt8)) (v8 : Int) =>
  (Option.bind (nth v2 0) fun (v9 : UInt8) =>
  (Option.bind (strings_IndexByte N [40, 41, 44, 42, 43, 45, 47, 61, 60, 62, 46, 59] (v9.toNat : Int)) fun (v10 : Int × Unit) =>
  (bif (decide (0 ≤ v10.1)) then
  (bif (decide (0 ≤ (1 : Int) ∧ (1 : Int) ≤ ((v2.length : Nat) : Int))) then
  (K 5 (List.drop 0 (List.take 1 v2)) 0 0 [] 0)
  else
  none)
  else
  (K 0 [] 0 0 [] 0))))) (fun (v11 : (List UInt8)) (v12 : Int) (v13 : (List UInt8)) (v14 : Int) (v15 : Int) (v16 : (List UInt8)) (v17 : Int) =>
  (K v12 v13 v14 v15 v16 v17)) N v1 ([[60, 61], [62, 61], [60, 62]] : (List (List UInt8))) (([[60, 61], [62, 61], [60, 62]] : (List (List UInt8))).length : Int) 0 0 [] 0 0 [] 0)

def lex_sign (N : Nat) (v1 : (List UInt8)) : Option (Int × (List UInt8) × Int × Int × (List UInt8) × Int × Unit) := lex_sign_cps N _ (fun a0 a1 a2 a3 a4 a5 => some (a0, (a1, (a2, (a3, (a4, (a5, ()))))))) v1

/-! frankpledge/lex.next -/
def lex_next_cps (N : Nat) (R : Type) (K : Int → (List UInt8) → Int → Int → (List UInt8) → Int → Option R) (v1 : (List UInt8)) : Option R :=
  (Option.bind (nth v1 0) fun (v2 : UInt8) =>
  (Option.bind (lex_of N (v2.toNat : Int)) fun (v3 : Int × Unit) =>
  (bif (decide (v3.1 = 2)) then
  (bif (decide (1 < (v1.length : Int))) then
  (Option.bind (nth v1 1) fun (v4 : UInt8) =>
  (bif (decide ((v4.toNat : Int) = 39)) then
  (Option.bind (nth v1 0) fun (v5 : UInt8) =>
  (bif (decide ((v5.toNat : Int) = 120)) then
  (Option.bind (lex_raw N v1) fun (v6 : Int × (List UInt8) × Int × Int × (List UInt8) × Int × Unit) =>
  (K v6.1 v6.2.1 v6.2.2.1 v6.2.2.2.1 v6.2.2.2.2.1 v6.2.2.2.2.2.1))
  else
  (Option.bind (nth v1 0) fun (v7 : UInt8) =>
  (bif (decide ((v7.toNat : Int) = 88)) then
  (Option.bind (lex_raw N v1) fun (v8 : Int × (List UInt8) × Int × Int × (List UInt8) × Int × Unit) =>
  (K v8.1 v8.2.1 v8.2.2.1 v8.2.2.2.1 v8.2.2.2.2.1 v8.2.2.2.2.2.1))
  else
  (Option.bind (lex_span N v1) fun (v9 : Int × Unit) =>
  (bif (decide (0 ≤ v9.1 ∧ v9.1 ≤ ((v1.length : Nat) : Int))) then
  (Option.bind (strings_ToLower N (List.drop 0 (List.take (Int.toNat v9.1) v1))) fun (v10 : (List UInt8) × Unit) =>
  (K 1 v10.1 0 0 [] 0))
  else
  none))))))
  else
  (Option.bind (lex_span N v1) fun (v11 : Int × Unit) =>
  (bif (decide (0 ≤ v11.1 ∧ v11.1 ≤ ((v1.length : Nat) : Int))) then
  (Option.bind (strings_ToLower N (List.drop 0 (List.take (Int.toNat v11.1) v1))) fun (v12 : (List UInt8) × Unit) =>
  (K 1 v12.1 0 0 [] 0))
  else
  none))))
  else
  (Option.bind (lex_span N v1) fun (v13 : Int × Unit) =>
  (bif (decide (0 ≤ v13.1 ∧ v13.1 ≤ ((v1.length : Nat) : Int))) then
  (Option.bind (strings_ToLower N (List.drop 0 (List.take (Int.toNat v13.1) v1))) fun (v14 : (List UInt8) × Unit) =>
  (K 1 v14.1 0 0 [] 0))
  else
  none)))
  else
  (bif (decide (v3.1 = 3)) then
  (Option.bind (lex_number N v1) fun (v15 : Int × (List UInt8) × Int × Int × (List UInt8) × Int × Unit) =>
  (K v15.1 v15.2.1 v15.2.2.1 v15.2.2.2.1 v15.2.2.2.2.1 v15.2.2.2.2.2.1))
  else
  (Option.bind (nth v1 0) fun (v16 : UInt8) =>
  (bif (decide ((v16.toNat : Int) = 39)) then
  (Option.bind (lex_text N v1) fun (v17 : Int × (List UInt8) × Int × Int × (List UInt8) × Int × Unit) =>
  (K v17.1 v17.2.1 v17.2.2.1 v17.2.2.2.1 v17.2.2.2.2.1 v17.2.2.2.2.2.1))
  else
  (Option.bind (lex_sign N v1) fun (v18 : Int × (List UInt8) × Int × Int × (List UInt8) × Int × Unit) =>
  (K v18.1 v18.2.1 v18.2.2.1 v18.2.2.2.1 v18.2.2.2.2.1 v18.2.2.2.2.2.1))))))))

def lex_next (N : Nat) (v1 : (List UInt8)) : Option (Int × (List UInt8) × Int × Int × (List UInt8) × Int × Unit) := lex_next_cps N _ (fun a0 a1 a2 a3 a4 a5 => some (a0, (a1, (a2, (a3, (a4, (a5, ()))))))) v1

/-! frankpledge/lex.Lex -/
def lex_Lex_l0B (N : Nat) (R : Type) (rec : (List UInt8) → (List (Int × ((List UInt8) × ((Int × (Int × ((List UInt8) × Unit))) × (Int × Unit))))) → Int → Option R) (k0 : (List UInt8) → (List (Int × ((List UInt8) × ((Int × (Int × ((List UInt8) × Unit))) × (Int × Unit))))) → Option R) (k1 : (List UInt8) → Err → (List (Int × ((List UInt8) × ((Int × (Int × ((List UInt8) × Unit))) × (Int × Unit))))) → Option R) (v8 : (List UInt8)) (v9 : (List (Int × ((List UInt8) × ((Int × (Int × ((List UInt8) × Unit))) × (Int × Unit)))))) (v10 : Int) : Option R :=
  (bif (decide (v10 < (v8.length : Int))) then
  (Option.bind (nth v8 v10) fun (v11 : UInt8) =>
  (Option.bind (lex_of N (v11.toNat : Int)) fun (v12 : Int × Unit) =>
  (bif (decide (v12.1 = 1)) then
  (rec v8 v9 (IntKind.wrap .i64 (v10 + 1)))
  else
  (bif (decide (0 ≤ v10 ∧ v10 ≤ ((v8.length : Nat) : Int))) then
  (Option.bind (lex_next N (List.drop (Int.toNat v10) (List.take v8.length v8))) fun (v13 : Int × (List UInt8) × Int × Int × (List UInt8) × Int × Unit) =>
  (bif (decide (v13.2.1 = [])) then
  (Option.bind (fault_New N 161 v10) fun (v14 : Err × Unit) =>
  (k1 v8 v14.1 v9))
  else
  (bif (room 64 (v9.length + ([(v13.1, (v13.2.1, ((v13.2.2.1, (v13.2.2.2.1, (v13.2.2.2.2.1, ()))), (v10, ()))))] : (List (Int × ((List UInt8) × ((Int × (Int × ((List UInt8) × Unit))) × (Int × Unit)))))).length)) then
  (rec v8 (v9 ++ ([(v13.1, (v13.2.1, ((v13.2.2.1, (v13.2.2.2.1, (v13.2.2.2.2.1, ()))), (v10, ()))))] : (List (Int × ((List UInt8) × ((Int × (Int × ((List UInt8) × Unit))) × (Int × Unit))))))) (IntKind.wrap .i64 (v10 + (v13.2.1.length : Int))))
  else
  none)))
  else
  none))))
  else
  (k0 v8 v9))

def lex_Lex_l0 (N : Nat) (R : Type) (k0 : (List UInt8) → (List (Int × ((List UInt8) × ((Int × (Int × ((List UInt8) × Unit))) × (Int × Unit))))) → Option R) (k1 : (List UInt8) → Err → (List (Int × ((List UInt8) × ((Int × (Int × ((List UInt8) × Unit))) × (Int × Unit))))) → Option R) : Nat → (List UInt8) → (List (Int × ((List UInt8) × ((Int × (Int × ((List UInt8) × Unit))) × (Int × Unit))))) → Int → Option R
  | 0 => fun _ _ _ => none
  | n + 1 => lex_Lex_l0B N R (lex_Lex_l0 N R k0 k1 n) k0 k1

def lex_Lex_cps (N : Nat) (R : Type) (K : (List (Int × ((List UInt8) × ((Int × (Int × ((List UInt8) × Unit))) × (Int × Unit))))) → Err → Option R) (v1 : (List UInt8)) : Option R :=
  (bif (decide (1000 < (v1.length : Int))) then
  (Option.bind (fault_New N 161 0) fun (v2 : Err × Unit) =>
  (K [] v2.1))
  else
  (lex_Lex_l0 N _ (fun (v3 : (List UInt8)) (v4 : (List (Int × ((List UInt8) × ((Int × (Int × ((List UInt8) × Unit))) × (Int × Unit)))))) =>
  (bif (room 64 (v4.length + ([(6, ([], ((0, (0, ([], ()))), ((v3.length : Int), ()))))] : (List (Int × ((List UInt8) × ((Int × (Int × ((List UInt8) × Unit))) × (Int × Unit)))))).length)) then
  (K (v4 ++ ([(6, ([], ((0, (0, ([], ()))), ((v3.length : Int), ()))))] : (List (Int × ((List UInt8) × ((Int × (Int × ((List UInt8) × Unit))) × (Int × Unit))))))) Err.nil)
  else
  none)) (fun (v5 : (List UInt8)) (v6 : Err) (v7 : (List (Int × ((List UInt8) × ((Int × (Int × ((List UInt8) × Unit))) × (Int × Unit)))))) =>
  (K [] v6)) N v1 [] 0))

def lex_Lex (N : Nat) (v1 : (List UInt8)) : Option ((List (Int × ((List UInt8) × ((Int × (Int × ((List UInt8) × Unit))) × (Int × Unit))))) × Err × Unit) := lex_Lex_cps N _ (fun a0 a1 => some (a0, (a1, ()))) v1

/-! frankpledge/frankpledgelaw16.alive -/
def law16_alive_cps (N : Nat) (R : Type) (K : Bool → Option R)  : Option R :=
  (Option.bind (lex_Lex N [65, 60, 61, 49, 46, 53, 32, 39, 105, 116, 39, 39, 115, 39]) fun (v1 : (List (Int × ((List UInt8) × ((Int × (Int × ((List UInt8) × Unit))) × (Int × Unit))))) × Err × Unit) =>
  (bif (Err.isNil v1.2.1) then
  (bif (decide ((v1.1.length : Int) = 5)) then
  (Option.bind (nth v1.1 0) fun (v2 : (Int × ((List UInt8) × ((Int × (Int × ((List UInt8) × Unit))) × (Int × Unit))))) =>
  (bif (decide (v2.2.1 = [97])) then
  (Option.bind (nth v1.1 1) fun (v3 : (Int × ((List UInt8) × ((Int × (Int × ((List UInt8) × Unit))) × (Int × Unit))))) =>
  (bif (decide (v3.2.1 = [60, 61])) then
  (Option.bind (nth v1.1 2) fun (v4 : (Int × ((List UInt8) × ((Int × (Int × ((List UInt8) × Unit))) × (Int × Unit))))) =>
  (bif (decide (v4.2.2.1.2.1 = 15000)) then
  (Option.bind (nth v1.1 3) fun (v5 : (Int × ((List UInt8) × ((Int × (Int × ((List UInt8) × Unit))) × (Int × Unit))))) =>
  (bif (decide (v5.2.2.1.2.2.1 = [105, 116, 39, 115])) then
  (Option.bind (nth v1.1 4) fun (v6 : (Int × ((List UInt8) × ((Int × (Int × ((List UInt8) × Unit))) × (Int × Unit))))) =>
  (K (decide (v6.1 = 6))))
  else
  (K false)))
  else
  (K false)))
  else
  (K false)))
  else
  (K false)))
  else
  (K false))
  else
  (K false)))

def law16_alive (N : Nat)  : Option (Bool × Unit) := law16_alive_cps N _ (fun a0 => some (a0, ())) 

/-! frankpledge/frankpledgelaw16.low -/
def law16_low_cps (N : Nat) (R : Type) (K : Int → Option R) (v1 : Int) : Option R :=
  (bif (decide (65 ≤ v1)) then
  (bif (decide (v1 ≤ 90)) then
  (K (IntKind.wrap .u8 (v1 + 32)))
  else
  (K v1))
  else
  (K v1))

def law16_low (N : Nat) (v1 : Int) : Option (Int × Unit) := law16_low_cps N _ (fun a0 => some (a0, ())) v1

/-! frankpledge/frankpledgelaw16.LexPlaces -/
def law16_LexPlaces_l4B (N : Nat) (R : Type) (rec : (List UInt8) → (List (Int × ((List UInt8) × ((Int × (Int × ((List UInt8) × Unit))) × (Int × Unit))))) → Int → Int → Int → Int → (List UInt8) → Int → Int → (List UInt8) → Int → Option R) (k0 : (List UInt8) → (List (Int × ((List UInt8) × ((Int × (Int × ((List UInt8) × Unit))) × (Int × Unit))))) → Int → Int → Int → (List UInt8) → Int → Int → (List UInt8) → Int → Option R) (k1 : (List UInt8) → Bool → (List (Int × ((List UInt8) × ((Int × (Int × ((List UInt8) × Unit))) × (Int × Unit))))) → Int → Int → Int → (List UInt8) → Int → Int → (List UInt8) → Int → Option R) (v108 : (List UInt8)) (v109 : (List (Int × ((List UInt8) × ((Int × (Int × ((List UInt8) × Unit))) × (Int × Unit)))))) (v110 : Int) (v111 : Int) (v112 : Int) (v113 : Int) (v114 : (List UInt8)) (v115 : Int) (v116 : Int) (v117 : (List UInt8)) (v118 : Int) : Option R :=
  (bif (decide (v112 < (v114.length : Int))) then
  (Option.bind (nth v108 (IntKind.wrap .i64 (v118 + v112))) fun (v119 : UInt8) =>
  (bif (decide (v113 = 1)) then
  (Option.bind (law16_low N (v119.toNat : Int)) fun (v120 : Int × Unit) =>
  (Option.bind (nth v114 v112) fun (v121 : UInt8) =>
  (bif (!(decide (v120.1 = (v121.toNat : Int)))) then
  (k1 v108 false v109 v110 v111 v113 v114 v115 v116 v117 v118)
  else
  (rec v108 v109 v110 v111 (IntKind.wrap .i64 (v112 + 1)) v113 v114 v115 v116 v117 v118))))
  else
  (Option.bind (nth v114 v112) fun (v122 : UInt8) =>
  (bif (!(decide ((v119.toNat : Int) = (v122.toNat : Int)))) then
  (k1 v108 false v109 v110 v111 v113 v114 v115 v116 v117 v118)
  else
  (rec v108 v109 v110 v111 (IntKind.wrap .i64 (v112 + 1)) v113 v114 v115 v116 v117 v118)))))
  else
  (k0 v108 v109 v110 v111 v113 v114 v115 v116 v117 v118))

def law16_LexPlaces_l4 (N : Nat) (R : Type) (k0 : (List UInt8) → (List (Int × ((List UInt8) × ((Int × (Int × ((List UInt8) × Unit))) × (Int × Unit))))) → Int → Int → Int → (List UInt8) → Int → Int → (List UInt8) → Int → Option R) (k1 : (List UInt8) → Bool → (List (Int × ((List UInt8) × ((Int × (Int × ((List UInt8) × Unit))) × (Int × Unit))))) → Int → Int → Int → (List UInt8) → Int → Int → (List UInt8) → Int → Option R) : Nat → (List UInt8) → (List (Int × ((List UInt8) × ((Int × (Int × ((List UInt8) × Unit))) × (Int × Unit))))) → Int → Int → Int → Int → (List UInt8) → Int → Int → (List UInt8) → Int → Option R
  | 0 => fun _ _ _ _ _ _ _ _ _ _ _ => none
  | n + 1 => law16_LexPlaces_l4B N R (law16_LexPlaces_l4 N R k0 k1 n) k0 k1

def law16_LexPlaces_l3B (N : Nat) (R : Type) (rec : (List UInt8) → (List (Int × ((List UInt8) × ((Int × (Int × ((List UInt8) × Unit))) × (Int × Unit))))) → Int → Int → Int → Int → (List UInt8) → Int → Int → (List UInt8) → Int → Option R) (k0 : (List UInt8) → (List (Int × ((List UInt8) × ((Int × (Int × ((List UInt8) × Unit))) × (Int × Unit))))) → Int → Int → Int → (List UInt8) → Int → Int → (List UInt8) → Int → Option R) (k1 : (List UInt8) → Bool → (List (Int × ((List UInt8) × ((Int × (Int × ((List UInt8) × Unit))) × (Int × Unit))))) → Int → Int → Int → (List UInt8) → Int → Int → (List UInt8) → Int → Option R) (v93 : (List UInt8)) (v94 : (List (Int × ((List UInt8) × ((Int × (Int × ((List UInt8) × Unit))) × (Int × Unit)))))) (v95 : Int) (v96 : Int) (v97 : Int) (v98 : Int) (v99 : (List UInt8)) (v100 : Int) (v101 : Int) (v102 : (List UInt8)) (v103 : Int) : Option R :=
  (bif (decide (v97 < v103)) then
  (Option.bind (nth v93 v97) fun (v104 : UInt8) =>
  (bif (!(decide ((v104.toNat : Int) = 32))) then
  (Option.bind (nth v93 v97) fun (v105 : UInt8) =>
  (bif (!(decide ((v105.toNat : Int) = 9))) then
  (Option.bind (nth v93 v97) fun (v106 : UInt8) =>
  (bif (!(decide ((v106.toNat : Int) = 10))) then
  (Option.bind (nth v93 v97) fun (v107 : UInt8) =>
  (bif (!(decide ((v107.toNat : Int) = 13))) then
  (k1 v93 false v94 v95 v96 v98 v99 v100 v101 v102 v103)
  else
  (rec v93 v94 v95 v96 (IntKind.wrap .i64 (v97 + 1)) v98 v99 v100 v101 v102 v103)))
  else
  (rec v93 v94 v95 v96 (IntKind.wrap .i64 (v97 + 1)) v98 v99 v100 v101 v102 v103)))
  else
  (rec v93 v94 v95 v96 (IntKind.wrap .i64 (v97 + 1)) v98 v99 v100 v101 v102 v103)))
  else
  (rec v93 v94 v95 v96 (IntKind.wrap .i64 (v97 + 1)) v98 v99 v100 v101 v102 v103)))
  else
  (k0 v93 v94 v95 v96 v98 v99 v100 v101 v102 v103))

def law16_LexPlaces_l3 (N : Nat) (R : Type) (k0 : (List UInt8) → (List (Int × ((List UInt8) × ((Int × (Int × ((List UInt8) × Unit))) × (Int × Unit))))) → Int → Int → Int → (List UInt8) → Int → Int → (List UInt8) → Int → Option R) (k1 : (List UInt8) → Bool → (List (Int × ((List UInt8) × ((Int × (Int × ((List UInt8) × Unit))) × (Int × Unit))))) → Int → Int → Int → (List UInt8) → Int → Int → (List UInt8) → Int → Option R) : Nat → (List UInt8) → (List (Int × ((List UInt8) × ((Int × (Int × ((List UInt8) × Unit))) × (Int × Unit))))) → Int → Int → Int → Int → (List UInt8) → Int → Int → (List UInt8) → Int → Option R
  | 0 => fun _ _ _ _ _ _ _ _ _ _ _ => none
  | n + 1 => law16_LexPlaces_l3B N R (law16_LexPlaces_l3 N R k0 k1 n) k0 k1

def law16_LexPlaces_j2 (N : Nat) (R : Type) (k0 : (List UInt8) → (List (Int × ((List UInt8) × ((Int × (Int × ((List UInt8) × Unit))) × (Int × Unit))))) → Int → Int → Int → (List UInt8) → Int → Int → (List UInt8) → Int → Option R) (k1 : (List UInt8) → Bool → (List (Int × ((List UInt8) × ((Int × (Int × ((List UInt8) × Unit))) × (Int × Unit))))) → Int → Int → Int → (List UInt8) → Int → Int → (List UInt8) → Int → Option R) (v41 : (List UInt8)) (v42 : (List (Int × ((List UInt8) × ((Int × (Int × ((List UInt8) × Unit))) × (Int × Unit)))))) (v43 : Int) (v44 : Int) (v45 : Int) (v46 : (List UInt8)) (v47 : Int) (v48 : Int) (v49 : (List UInt8)) (v50 : Int) : Option R :=
  (law16_LexPlaces_l3 N _ (fun (v51 : (List UInt8)) (v52 : (List (Int × ((List UInt8) × ((Int × (Int × ((List UInt8) × Unit))) × (Int × Unit)))))) (v53 : Int) (v54 : Int) (v55 : Int) (v56 : (List UInt8)) (v57 : Int) (v58 : Int) (v59 : (List UInt8)) (v60 : Int) =>
  (law16_LexPlaces_l4 N _ (fun (v61 : (List UInt8)) (v62 : (List (Int × ((List UInt8) × ((Int × (Int × ((List UInt8) × Unit))) × (Int × Unit)))))) (v63 : Int) (v64 : Int) (v65 : Int) (v66 : (List UInt8)) (v67 : Int) (v68 : Int) (v69 : (List UInt8)) (v70 : Int) =>
  (k0 v61 v62 (IntKind.wrap .i64 (v70 + (v66.length : Int))) v64 v65 v66 v67 v68 v69 v70)) (fun (v71 : (List UInt8)) (v72 : Bool) (v73 : (List (Int × ((List UInt8) × ((Int × (Int × ((List UInt8) × Unit))) × (Int × Unit)))))) (v74 : Int) (v75 : Int) (v76 : Int) (v77 : (List UInt8)) (v78 : Int) (v79 : Int) (v80 : (List UInt8)) (v81 : Int) =>
  (k1 v71 v72 v73 v74 v75 v76 v77 v78 v79 v80 v81)) N v51 v52 v53 v54 0 v55 v56 v57 v58 v59 v60)) (fun (v82 : (List UInt8)) (v83 : Bool) (v84 : (List (Int × ((List UInt8) × ((Int × (Int × ((List UInt8) × Unit))) × (Int × Unit)))))) (v85 : Int) (v86 : Int) (v87 : Int) (v88 : (List UInt8)) (v89 : Int) (v90 : Int) (v91 : (List UInt8)) (v92 : Int) =>
  (k1 v82 v83 v84 v85 v86 v87 v88 v89 v90 v91 v92)) N v41 v42 v43 v44 v43 v45 v46 v47 v48 v49 v50)

def law16_LexPlaces_l1B (N : Nat) (R : Type) (rec : (List UInt8) → (List (Int × ((List UInt8) × ((Int × (Int × ((List UInt8) × Unit))) × (Int × Unit))))) → Int → Int → Option R) (k0 : (List UInt8) → Int → Option R) (k1 : (List UInt8) → Bool → Int → Option R) (v15 : (List UInt8)) (v16 : (List (Int × ((List UInt8) × ((Int × (Int × ((List UInt8) × Unit))) × (Int × Unit)))))) (v17 : Int) (v18 : Int) : Option R :=
  (bif (decide (v18 < (v16.length : Int))) then
  (Option.bind (nth v16 v18) fun (v19 : (Int × ((List UInt8) × ((Int × (Int × ((List UInt8) × Unit))) × (Int × Unit))))) =>
  (bif (decide (v19.2.2.2.1 < v17)) then
  (k1 v15 false v17)
  else
  (bif (decide ((v15.length : Int) < v19.2.2.2.1)) then
  (k1 v15 false v17)
  else
  (bif (decide ((v15.length : Int) < (IntKind.wrap .i64 (v19.2.2.2.1 + (v19.2.1.length : Int))))) then
  (k1 v15 false v17)
  else
  (bif (!((decide (v19.1 = 6)) == (decide (v18 = (IntKind.wrap .i64 ((v16.length : Int) - 1)))))) then
  (k1 v15 false v17)
  else
  (law16_LexPlaces_j2 N _ (fun (v20 : (List UInt8)) (v21 : (List (Int × ((List UInt8) × ((Int × (Int × ((List UInt8) × Unit))) × (Int × Unit)))))) (v22 : Int) (v23 : Int) (v24 : Int) (v25 : (List UInt8)) (v26 : Int) (v27 : Int) (v28 : (List UInt8)) (v29 : Int) =>
  (rec v20 v21 v22 (IntKind.wrap .i64 (v23 + 1)))) (fun (v30 : (List UInt8)) (v31 : Bool) (v32 : (List (Int × ((List UInt8) × ((Int × (Int × ((List UInt8) × Unit))) × (Int × Unit)))))) (v33 : Int) (v34 : Int) (v35 : Int) (v36 : (List UInt8)) (v37 : Int) (v38 : Int) (v39 : (List UInt8)) (v40 : Int) =>
  (k1 v30 v31 v33)) v15 v16 v17 v18 v19.1 v19.2.1 v19.2.2.1.1 v19.2.2.1.2.1 v19.2.2.1.2.2.1 v19.2.2.2.1))))))
  else
  (k0 v15 v17))

def law16_LexPlaces_l1 (N : Nat) (R : Type) (k0 : (List UInt8) → Int → Option R) (k1 : (List UInt8) → Bool → Int → Option R) : Nat → (List UInt8) → (List (Int × ((List UInt8) × ((Int × (Int × ((List UInt8) × Unit))) × (Int × Unit))))) → Int → Int → Option R
  | 0 => fun _ _ _ _ => none
  | n + 1 => law16_LexPlaces_l1B N R (law16_LexPlaces_l1 N R k0 k1 n) k0 k1

def law16_LexPlaces_j0 (N : Nat) (R : Type) (k0 : Bool → Int → Option R) (v7 : (List UInt8)) (v8 : (List (Int × ((List UInt8) × ((Int × (Int × ((List UInt8) × Unit))) × (Int × Unit)))))) : Option R :=
  (law16_LexPlaces_l1 N _ (fun (v9 : (List UInt8)) (v10 : Int) =>
  (Option.bind (law16_alive N) fun (v11 : Bool × Unit) =>
  (bif v11.1 then
  (k0 (decide (v10 = (v9.length : Int))) v10)
  else
  (k0 false v10)))) (fun (v12 : (List UInt8)) (v13 : Bool) (v14 : Int) =>
  (k0 v13 v14)) N v7 v8 0 0)

def law16_LexPlaces_cps (N : Nat) (R : Type) (K : Bool → Option R) (v1 : (List UInt8)) : Option R :=
  (Option.bind (lex_Lex N v1) fun (v2 : (List (Int × ((List UInt8) × ((Int × (Int × ((List UInt8) × Unit))) × (Int × Unit))))) × Err × Unit) =>
  (bif (decide (1200 < (v1.length : Int))) then
  (Option.bind (law16_alive N) fun (v3 : Bool × Unit) =>
  (K v3.1))
  else
  (bif (!(Err.isNil v2.2.1)) then
  (Option.bind (law16_alive N) fun (v4 : Bool × Unit) =>
  (K v4.1))
  else
  (law16_LexPlaces_j0 N _ (fun (v5 : Bool) (v6 : Int) =>
  (K v5)) v1 v2.1))))

def law16_LexPlaces (N : Nat) (v1 : (List UInt8)) : Option (Bool × Unit) := law16_LexPlaces_cps N _ (fun a0 => some (a0, ())) v1

/-! frankpledge/frankpledgelaw16.LexAgain -/
def law16_LexAgain_l3B (N : Nat) (R : Type) (rec : (List (Int × ((List UInt8) × ((Int × (Int × ((List UInt8) × Unit))) × (Int × Unit))))) → (List (Int × ((List UInt8) × ((Int × (Int × ((List UInt8) × Unit))) × (Int × Unit))))) → Int → Option R) (k0 : Option R) (k1 : Bool → Option R) (v19 : (List (Int × ((List UInt8) × ((Int × (Int × ((List UInt8) × Unit))) × (Int × Unit)))))) (v20 : (List (Int × ((List UInt8) × ((Int × (Int × ((List UInt8) × Unit))) × (Int × Unit)))))) (v21 : Int) : Option R :=
  (bif (decide (v21 < (v19.length : Int))) then
  (Option.bind (nth v20 v21) fun (v22 : (Int × ((List UInt8) × ((Int × (Int × ((List UInt8) × Unit))) × (Int × Unit))))) =>
  (Option.bind (nth v19 v21) fun (v23 : (Int × ((List UInt8) × ((Int × (Int × ((List UInt8) × Unit))) × (Int × Unit))))) =>
  (bif (!(decide (v22.1 = v23.1))) then
  (k1 false)
  else
  (Option.bind (nth v20 v21) fun (v24 : (Int × ((List UInt8) × ((Int × (Int × ((List UInt8) × Unit))) × (Int × Unit))))) =>
  (Option.bind (nth v19 v21) fun (v25 : (Int × ((List UInt8) × ((Int × (Int × ((List UInt8) × Unit))) × (Int × Unit))))) =>
  (bif (!(decide (v24.2.1 = v25.2.1))) then
  (k1 false)
  else
  (Option.bind (nth v20 v21) fun (v26 : (Int × ((List UInt8) × ((Int × (Int × ((List UInt8) × Unit))) × (Int × Unit))))) =>
  (Option.bind (nth v19 v21) fun (v27 : (Int × ((List UInt8) × ((Int × (Int × ((List UInt8) × Unit))) × (Int × Unit))))) =>
  (bif (!((decide (v26.2.2.1.1 = v27.2.2.1.1)) && ((decide (v26.2.2.1.2.1 = v27.2.2.1.2.1)) && (decide (v26.2.2.1.2.2.1 = v27.2.2.1.2.2.1))))) then
  (k1 false)
  else
  (rec v19 v20 (IntKind.wrap .i64 (v21 + 1))))))))))))
  else
  k0)

def law16_LexAgain_l3 (N : Nat) (R : Type) (k0 : Option R) (k1 : Bool → Option R) : Nat → (List (Int × ((List UInt8) × ((Int × (Int × ((List UInt8) × Unit))) × (Int × Unit))))) → (List (Int × ((List UInt8) × ((Int × (Int × ((List UInt8) × Unit))) × (Int × Unit))))) → Int → Option R
  | 0 => fun _ _ _ => none
  | n + 1 => law16_LexAgain_l3B N R (law16_LexAgain_l3 N R k0 k1 n) k0 k1

def law16_LexAgain_j2 (N : Nat) (R : Type) (k0 : Bool → Option R) (v15 : (List (Int × ((List UInt8) × ((Int × (Int × ((List UInt8) × Unit))) × (Int × Unit)))))) (v16 : (List (Int × ((List UInt8) × ((Int × (Int × ((List UInt8) × Unit))) × (Int × Unit)))))) : Option R :=
  (law16_LexAgain_l3 N _ ((Option.bind (law16_alive N) fun (v17 : Bool × Unit) =>
  (k0 v17.1))) (fun (v18 : Bool) =>
  (k0 v18)) N v15 v16 0)

def law16_LexAgain_l1B (N : Nat) (R : Type) (rec : (List (Int × ((List UInt8) × ((Int × (Int × ((List UInt8) × Unit))) × (Int × Unit))))) → (List UInt8) → Int → Option R) (k0 : (List (Int × ((List UInt8) × ((Int × (Int × ((List UInt8) × Unit))) × (Int × Unit))))) → (List UInt8) → Option R) (v11 : (List (Int × ((List UInt8) × ((Int × (Int × ((List UInt8) × Unit))) × (Int × Unit)))))) (v12 : (List UInt8)) (v13 : Int) : Option R :=
  (bif (decide (v13 < (v11.length : Int))) then
  (Option.bind (nth v11 v13) fun (v14 : (Int × ((List UInt8) × ((Int × (Int × ((List UInt8) × Unit))) × (Int × Unit))))) =>
  (bif (room 1 (v12.length + v14.2.1.length)) then
  (bif (room 1 ((v12 ++ v14.2.1).length + ([32] : List UInt8).length)) then
  (rec v11 ((v12 ++ v14.2.1) ++ [32]) (IntKind.wrap .i64 (v13 + 1)))
  else
  none)
  else
  none))
  else
  (k0 v11 v12))

def law16_LexAgain_l1 (N : Nat) (R : Type) (k0 : (List (Int × ((List UInt8) × ((Int × (Int × ((List UInt8) × Unit))) × (Int × Unit))))) → (List UInt8) → Option R) : Nat → (List (Int × ((List UInt8) × ((Int × (Int × ((List UInt8) × Unit))) × (Int × Unit))))) → (List UInt8) → Int → Option R
  | 0 => fun _ _ _ => none
  | n + 1 => law16_LexAgain_l1B N R (law16_LexAgain_l1 N R k0 n) k0

def law16_LexAgain_j0 (N : Nat) (R : Type) (k0 : Bool → Option R) (v6 : (List (Int × ((List UInt8) × ((Int × (Int × ((List UInt8) × Unit))) × (Int × Unit)))))) : Option R :=
  (law16_LexAgain_l1 N _ (fun (v7 : (List (Int × ((List UInt8) × ((Int × (Int × ((List UInt8) × Unit))) × (Int × Unit)))))) (v8 : (List UInt8)) =>
  (Option.bind (lex_Lex N v8) fun (v9 : (List (Int × ((List UInt8) × ((Int × (Int × ((List UInt8) × Unit))) × (Int × Unit))))) × Err × Unit) =>
  (bif (!(Err.isNil v9.2.1)) then
  (k0 false)
  else
  (bif (!(decide ((v9.1.length : Int) = (v7.length : Int)))) then
  (k0 false)
  else
  (law16_LexAgain_j2 N _ (fun (v10 : Bool) =>
  (k0 v10)) v7 v9.1))))) N v6 [] 0)

def law16_LexAgain_cps (N : Nat) (R : Type) (K : Bool → Option R) (v1 : (List UInt8)) : Option R :=
  (Option.bind (lex_Lex N v1) fun (v2 : (List (Int × ((List UInt8) × ((Int × (Int × ((List UInt8) × Unit))) × (Int × Unit))))) × Err × Unit) =>
  (bif (decide (400 < (v1.length : Int))) then
  (Option.bind (law16_alive N) fun (v3 : Bool × Unit) =>
  (K v3.1))
  else
  (bif (!(Err.isNil v2.2.1)) then
  (Option.bind (law16_alive N) fun (v4 : Bool × Unit) =>
  (K v4.1))
  else
  (law16_LexAgain_j0 N _ (fun (v5 : Bool) =>
  (K v5)) v2.1))))

def law16_LexAgain (N : Nat) (v1 : (List UInt8)) : Option (Bool × Unit) := law16_LexAgain_cps N _ (fun a0 => some (a0, ())) v1

/-! frankpledge/frankpledgelaw16.LexJoined -/
def law16_LexJoined_l2B (N : Nat) (R : Type) (rec : (List UInt8) → (List (Int × ((List UInt8) × ((Int × (Int × ((List UInt8) × Unit))) × (Int × Unit))))) → (List (Int × ((List UInt8) × ((Int × (Int × ((List UInt8) × Unit))) × (Int × Unit))))) → (List (Int × ((List UInt8) × ((Int × (Int × ((List UInt8) × Unit))) × (Int × Unit))))) → Int → Option R) (k0 : Option R) (k1 : Bool → Option R) (v22 : (List UInt8)) (v23 : (List (Int × ((List UInt8) × ((Int × (Int × ((List UInt8) × Unit))) × (Int × Unit)))))) (v24 : (List (Int × ((List UInt8) × ((Int × (Int × ((List UInt8) × Unit))) × (Int × Unit)))))) (v25 : (List (Int × ((List UInt8) × ((Int × (Int × ((List UInt8) × Unit))) × (Int × Unit)))))) (v26 : Int) : Option R :=
  (bif (decide (v26 < (v25.length : Int))) then
  (Option.bind (nth v25 v26) fun (v27 : (Int × ((List UInt8) × ((Int × (Int × ((List UInt8) × Unit))) × (Int × Unit))))) =>
  (bif (decide (v26 < (IntKind.wrap .i64 ((v23.length : Int) - 1)))) then
  (Option.bind (nth v23 v26) fun (v28 : (Int × ((List UInt8) × ((Int × (Int × ((List UInt8) × Unit))) × (Int × Unit))))) =>
  (bif (!((decide (v27.1 = v28.1)) && ((decide (v27.2.1 = v28.2.1)) && ((decide (v27.2.2.1.1 = v28.2.2.1.1)) && ((decide (v27.2.2.1.2.1 = v28.2.2.1.2.1)) && ((decide (v27.2.2.1.2.2.1 = v28.2.2.1.2.2.1)) && (decide (v27.2.2.2.1 = v28.2.2.2.1)))))))) then
  (k1 false)
  else
  (rec v22 v23 v24 v25 (IntKind.wrap .i64 (v26 + 1)))))
  else
  (Option.bind (nth v24 (IntKind.wrap .i64 ((IntKind.wrap .i64 (v26 - (v23.length : Int))) + 1))) fun (v29 : (Int × ((List UInt8) × ((Int × (Int × ((List UInt8) × Unit))) × (Int × Unit))))) =>
  (bif (!((decide (v27.1 = v29.1)) && ((decide (v27.2.1 = v29.2.1)) && ((decide (v27.2.2.1.1 = v29.2.2.1.1)) && ((decide (v27.2.2.1.2.1 = v29.2.2.1.2.1)) && ((decide (v27.2.2.1.2.2.1 = v29.2.2.1.2.2.1)) && (decide (v27.2.2.2.1 = (IntKind.wrap .i64 ((IntKind.wrap .i64 (v29.2.2.2.1 + (v22.length : Int))) + 1)))))))))) then
  (k1 false)
  else
  (rec v22 v23 v24 v25 (IntKind.wrap .i64 (v26 + 1)))))))
  else
  k0)

def law16_LexJoined_l2 (N : Nat) (R : Type) (k0 : Option R) (k1 : Bool → Option R) : Nat → (List UInt8) → (List (Int × ((List UInt8) × ((Int × (Int × ((List UInt8) × Unit))) × (Int × Unit))))) → (List (Int × ((List UInt8) × ((Int × (Int × ((List UInt8) × Unit))) × (Int × Unit))))) → (List (Int × ((List UInt8) × ((Int × (Int × ((List UInt8) × Unit))) × (Int × Unit))))) → Int → Option R
  | 0 => fun _ _ _ _ _ => none
  | n + 1 => law16_LexJoined_l2B N R (law16_LexJoined_l2 N R k0 k1 n) k0 k1

def law16_LexJoined_j1 (N : Nat) (R : Type) (k0 : Bool → Option R) (v16 : (List UInt8)) (v17 : (List (Int × ((List UInt8) × ((Int × (Int × ((List UInt8) × Unit))) × (Int × Unit)))))) (v18 : (List (Int × ((List UInt8) × ((Int × (Int × ((List UInt8) × Unit))) × (Int × Unit)))))) (v19 : (List (Int × ((List UInt8) × ((Int × (Int × ((List UInt8) × Unit))) × (Int × Unit)))))) : Option R :=
  (law16_LexJoined_l2 N _ ((Option.bind (law16_alive N) fun (v20 : Bool × Unit) =>
  (k0 v20.1))) (fun (v21 : Bool) =>
  (k0 v21)) N v16 v17 v18 v19 0)

def law16_LexJoined_j0 (N : Nat) (R : Type) (k0 : Bool → Option R) (v10 : (List UInt8)) (v11 : (List UInt8)) (v12 : (List (Int × ((List UInt8) × ((Int × (Int × ((List UInt8) × Unit))) × (Int × Unit)))))) (v13 : (List (Int × ((List UInt8) × ((Int × (Int × ((List UInt8) × Unit))) × (Int × Unit)))))) : Option R :=
  (bif (room 1 (v10.length + ([32] : List UInt8).length)) then
  (bif (room 1 ((v10 ++ [32]).length + v11.length)) then
  (Option.bind (lex_Lex N ((v10 ++ [32]) ++ v11)) fun (v14 : (List (Int × ((List UInt8) × ((Int × (Int × ((List UInt8) × Unit))) × (Int × Unit))))) × Err × Unit) =>
  (bif (!(Err.isNil v14.2.1)) then
  (k0 false)
  else
  (bif (!(decide ((v14.1.length : Int) = (IntKind.wrap .i64 ((IntKind.wrap .i64 ((v12.length : Int) - 1)) + (v13.length : Int)))))) then
  (k0 false)
  else
  (law16_LexJoined_j1 N _ (fun (v15 : Bool) =>
  (k0 v15)) v10 v12 v13 v14.1))))
  else
  none)
  else
  none)

def law16_LexJoined_cps (N : Nat) (R : Type) (K : Bool → Option R) (v1 : (List UInt8)) (v2 : (List UInt8)) : Option R :=
  (Option.bind (lex_Lex N v1) fun (v3 : (List (Int × ((List UInt8) × ((Int × (Int × ((List UInt8) × Unit))) × (Int × Unit))))) × Err × Unit) =>
  (Option.bind (lex_Lex N v2) fun (v4 : (List (Int × ((List UInt8) × ((Int × (Int × ((List UInt8) × Unit))) × (Int × Unit))))) × Err × Unit) =>
  (bif (decide (400 < (v1.length : Int))) then
  (Option.bind (law16_alive N) fun (v5 : Bool × Unit) =>
  (K v5.1))
  else
  (bif (decide (400 < (v2.length : Int))) then
  (Option.bind (law16_alive N) fun (v6 : Bool × Unit) =>
  (K v6.1))
  else
  (bif (!(Err.isNil v3.2.1)) then
  (Option.bind (law16_alive N) fun (v7 : Bool × Unit) =>
  (K v7.1))
  else
  (bif (!(Err.isNil v4.2.1)) then
  (Option.bind (law16_alive N) fun (v8 : Bool × Unit) =>
  (K v8.1))
  else
  (law16_LexJoined_j0 N _ (fun (v9 : Bool) =>
  (K v9)) v1 v2 v3.1 v4.1)))))))

def law16_LexJoined (N : Nat) (v1 : (List UInt8)) (v2 : (List UInt8)) : Option (Bool × Unit) := law16_LexJoined_cps N _ (fun a0 => some (a0, ())) v1 v2

/-! frankpledge/frankpledgelaw16.LexCases -/
def law16_LexCases_l4B (N : Nat) (R : Type) (rec : (List (Int × ((List UInt8) × ((Int × (Int × ((List UInt8) × Unit))) × (Int × Unit))))) → (List (Int × ((List UInt8) × ((Int × (Int × ((List UInt8) × Unit))) × (Int × Unit))))) → Int → Option R) (k0 : Option R) (k1 : Bool → Option R) (v93 : (List (Int × ((List UInt8) × ((Int × (Int × ((List UInt8) × Unit))) × (Int × Unit)))))) (v94 : (List (Int × ((List UInt8) × ((Int × (Int × ((List UInt8) × Unit))) × (Int × Unit)))))) (v95 : Int) : Option R :=
  (bif (decide (v95 < (v93.length : Int))) then
  (Option.bind (nth v93 v95) fun (v96 : (Int × ((List UInt8) × ((Int × (Int × ((List UInt8) × Unit))) × (Int × Unit))))) =>
  (Option.bind (nth v94 v95) fun (v97 : (Int × ((List UInt8) × ((Int × (Int × ((List UInt8) × Unit))) × (Int × Unit))))) =>
  (bif (!((decide (v96.1 = v97.1)) && ((decide (v96.2.1 = v97.2.1)) && ((decide (v96.2.2.1.1 = v97.2.2.1.1)) && ((decide (v96.2.2.1.2.1 = v97.2.2.1.2.1)) && ((decide (v96.2.2.1.2.2.1 = v97.2.2.1.2.2.1)) && (decide (v96.2.2.2.1 = v97.2.2.2.1)))))))) then
  (k1 false)
  else
  (rec v93 v94 (IntKind.wrap .i64 (v95 + 1))))))
  else
  k0)

def law16_LexCases_l4 (N : Nat) (R : Type) (k0 : Option R) (k1 : Bool → Option R) : Nat → (List (Int × ((List UInt8) × ((Int × (Int × ((List UInt8) × Unit))) × (Int × Unit))))) → (List (Int × ((List UInt8) × ((Int × (Int × ((List UInt8) × Unit))) × (Int × Unit))))) → Int → Option R
  | 0 => fun _ _ _ => none
  | n + 1 => law16_LexCases_l4B N R (law16_LexCases_l4 N R k0 k1 n) k0 k1

def law16_LexCases_j3 (N : Nat) (R : Type) (k0 : Bool → Option R) (v89 : (List (Int × ((List UInt8) × ((Int × (Int × ((List UInt8) × Unit))) × (Int × Unit)))))) (v90 : (List (Int × ((List UInt8) × ((Int × (Int × ((List UInt8) × Unit))) × (Int × Unit)))))) : Option R :=
  (law16_LexCases_l4 N _ ((Option.bind (law16_alive N) fun (v91 : Bool × Unit) =>
  (k0 v91.1))) (fun (v92 : Bool) =>
  (k0 v92)) N v89 v90 0)

def law16_LexCases_j2 (N : Nat) (R : Type) (k0 : (List UInt8) → (List UInt8) → (List UInt8) → Int → Int → Option R) (v83 : (List UInt8)) (v84 : (List UInt8)) (v85 : (List UInt8)) (v86 : Int) (v87 : Int) (v88 : Int) : Option R :=
  (bif (room 1 (v84.length + ([(UInt8.ofNat (Int.toNat v88))] : (List UInt8)).length)) then
  (bif (decide (97 ≤ v88)) then
  (bif (decide (v88 ≤ 122)) then
  (bif (room 1 (v85.length + ([(UInt8.ofNat (Int.toNat (IntKind.wrap .u8 (v88 - 32))))] : (List UInt8)).length)) then
  (k0 v83 (v84 ++ ([(UInt8.ofNat (Int.toNat v88))] : (List UInt8))) (v85 ++ ([(UInt8.ofNat (Int.toNat (IntKind.wrap .u8 (v88 - 32))))] : (List UInt8))) v86 v87)
  else
  none)
  else
  (bif (room 1 (v85.length + ([(UInt8.ofNat (Int.toNat v88))] : (List UInt8)).length)) then
  (k0 v83 (v84 ++ ([(UInt8.ofNat (Int.toNat v88))] : (List UInt8))) (v85 ++ ([(UInt8.ofNat (Int.toNat v88))] : (List UInt8))) v86 v87)
  else
  none))
  else
  (bif (room 1 (v85.length + ([(UInt8.ofNat (Int.toNat v88))] : (List UInt8)).length)) then
  (k0 v83 (v84 ++ ([(UInt8.ofNat (Int.toNat v88))] : (List UInt8))) (v85 ++ ([(UInt8.ofNat (Int.toNat v88))] : (List UInt8))) v86 v87)
  else
  none))
  else
  none)

def law16_LexCases_j1 (N : Nat) (R : Type) (k0 : (List UInt8) → (List UInt8) → (List UInt8) → Int → Int → Option R) (k1 : (List UInt8) → Bool → (List UInt8) → (List UInt8) → Int → Int → Option R) (v54 : (List UInt8)) (v55 : (List UInt8)) (v56 : (List UInt8)) (v57 : Int) (v58 : Int) (v59 : Int) : Option R :=
  (bif (!(decide (v59 = 32))) then
  (bif (decide (v58 = 0)) then
  (bif (decide (v59 = 95)) then
  (Option.bind (law16_alive N) fun (v60 : Bool × Unit) =>
  (k1 v54 v60.1 v55 v56 v57 v58))
  else
  (law16_LexCases_j2 N _ (fun (v61 : (List UInt8)) (v62 : (List UInt8)) (v63 : (List UInt8)) (v64 : Int) (v65 : Int) =>
  (k0 v61 v62 v63 v64 v65)) v54 v55 v56 (IntKind.wrap .i64 (v57 + 1)) v58 v59))
  else
  (Option.bind (nth v54 (IntKind.wrap .i64 (v58 - 1))) fun (v66 : UInt8) =>
  (bif (decide ((v66.toNat : Int) = 32)) then
  (bif (decide (v59 = 95)) then
  (Option.bind (law16_alive N) fun (v67 : Bool × Unit) =>
  (k1 v54 v67.1 v55 v56 v57 v58))
  else
  (law16_LexCases_j2 N _ (fun (v68 : (List UInt8)) (v69 : (List UInt8)) (v70 : (List UInt8)) (v71 : Int) (v72 : Int) =>
  (k0 v68 v69 v70 v71 v72)) v54 v55 v56 (IntKind.wrap .i64 (v57 + 1)) v58 v59))
  else
  (law16_LexCases_j2 N _ (fun (v73 : (List UInt8)) (v74 : (List UInt8)) (v75 : (List UInt8)) (v76 : Int) (v77 : Int) =>
  (k0 v73 v74 v75 v76 v77)) v54 v55 v56 v57 v58 v59))))
  else
  (law16_LexCases_j2 N _ (fun (v78 : (List UInt8)) (v79 : (List UInt8)) (v80 : (List UInt8)) (v81 : Int) (v82 : Int) =>
  (k0 v78 v79 v80 v81 v82)) v54 v55 v56 v57 v58 v59))

def law16_LexCases_l0B (N : Nat) (R : Type) (rec : (List UInt8) → (List UInt8) → (List UInt8) → Int → Int → Option R) (k0 : (List UInt8) → (List UInt8) → Int → Option R) (k1 : Bool → (List UInt8) → (List UInt8) → Int → Option R) (v13 : (List UInt8)) (v14 : (List UInt8)) (v15 : (List UInt8)) (v16 : Int) (v17 : Int) : Option R :=
  (bif (decide (v17 < (v13.length : Int))) then
  (Option.bind (nth v13 v17) fun (v18 : UInt8) =>
  (bif (!(decide ((v18.toNat : Int) = 32))) then
  (bif (!(decide ((v18.toNat : Int) = 95))) then
  (bif (decide ((v18.toNat : Int) < 97)) then
  (Option.bind (law16_alive N) fun (v19 : Bool × Unit) =>
  (k1 v19.1 v14 v15 v16))
  else
  (bif (decide (122 < (v18.toNat : Int))) then
  (Option.bind (law16_alive N) fun (v20 : Bool × Unit) =>
  (k1 v20.1 v14 v15 v16))
  else
  (law16_LexCases_j1 N _ (fun (v21 : (List UInt8)) (v22 : (List UInt8)) (v23 : (List UInt8)) (v24 : Int) (v25 : Int) =>
  (rec v21 v22 v23 v24 (IntKind.wrap .i64 (v25 + 1)))) (fun (v26 : (List UInt8)) (v27 : Bool) (v28 : (List UInt8)) (v29 : (List UInt8)) (v30 : Int) (v31 : Int) =>
  (k1 v27 v28 v29 v30)) v13 v14 v15 v16 v17 (v18.toNat : Int))))
  else
  (law16_LexCases_j1 N _ (fun (v32 : (List UInt8)) (v33 : (List UInt8)) (v34 : (List UInt8)) (v35 : Int) (v36 : Int) =>
  (rec v32 v33 v34 v35 (IntKind.wrap .i64 (v36 + 1)))) (fun (v37 : (List UInt8)) (v38 : Bool) (v39 : (List UInt8)) (v40 : (List UInt8)) (v41 : Int) (v42 : Int) =>
  (k1 v38 v39 v40 v41)) v13 v14 v15 v16 v17 (v18.toNat : Int)))
  else
  (law16_LexCases_j1 N _ (fun (v43 : (List UInt8)) (v44 : (List UInt8)) (v45 : (List UInt8)) (v46 : Int) (v47 : Int) =>
  (rec v43 v44 v45 v46 (IntKind.wrap .i64 (v47 + 1)))) (fun (v48 : (List UInt8)) (v49 : Bool) (v50 : (List UInt8)) (v51 : (List UInt8)) (v52 : Int) (v53 : Int) =>
  (k1 v49 v50 v51 v52)) v13 v14 v15 v16 v17 (v18.toNat : Int))))
  else
  (k0 v14 v15 v16))

def law16_LexCases_l0 (N : Nat) (R : Type) (k0 : (List UInt8) → (List UInt8) → Int → Option R) (k1 : Bool → (List UInt8) → (List UInt8) → Int → Option R) : Nat → (List UInt8) → (List UInt8) → (List UInt8) → Int → Int → Option R
  | 0 => fun _ _ _ _ _ => none
  | n + 1 => law16_LexCases_l0B N R (law16_LexCases_l0 N R k0 k1 n) k0 k1

def law16_LexCases_cps (N : Nat) (R : Type) (K : Bool → Option R) (v1 : (List UInt8)) : Option R :=
  (bif (decide (400 < (v1.length : Int))) then
  (Option.bind (law16_alive N) fun (v2 : Bool × Unit) =>
  (K v2.1))
  else
  (law16_LexCases_l0 N _ (fun (v3 : (List UInt8)) (v4 : (List UInt8)) (v5 : Int) =>
  (Option.bind (lex_Lex N v3) fun (v6 : (List (Int × ((List UInt8) × ((Int × (Int × ((List UInt8) × Unit))) × (Int × Unit))))) × Err × Unit) =>
  (Option.bind (lex_Lex N v4) fun (v7 : (List (Int × ((List UInt8) × ((Int × (Int × ((List UInt8) × Unit))) × (Int × Unit))))) × Err × Unit) =>
  (bif (!(Err.isNil v6.2.1)) then
  (K false)
  else
  (bif (!(Err.isNil v7.2.1)) then
  (K false)
  else
  (bif (!(decide ((v6.1.length : Int) = (IntKind.wrap .i64 (v5 + 1))))) then
  (K false)
  else
  (bif (!(decide ((v7.1.length : Int) = (IntKind.wrap .i64 (v5 + 1))))) then
  (K false)
  else
  (law16_LexCases_j3 N _ (fun (v8 : Bool) =>
  (K v8)) v6.1 v7.1)))))))) (fun (v9 : Bool) (v10 : (List UInt8)) (v11 : (List UInt8)) (v12 : Int) =>
  (K v9)) N v1 [] [] 0 0))

def law16_LexCases (N : Nat) (v1 : (List UInt8)) : Option (Bool × Unit) := law16_LexCases_cps N _ (fun a0 => some (a0, ())) v1

/-- What is to be shown of the law LexPlaces. -/
def LexPlaces_Pure : Prop := ∀ x : denA [.str], WfA [.str] x → law16_LexPlaces big x.1 = some (true, ())

/-- What is to be shown of the law LexAgain. -/
def LexAgain_Pure : Prop := ∀ x : denA [.str], WfA [.str] x → law16_LexAgain big x.1 = some (true, ())

/-- What is to be shown of the law LexJoined. -/
def LexJoined_Pure : Prop := ∀ x : denA [.str, .str], WfA [.str, .str] x → law16_LexJoined big x.1 x.2.1 = some (true, ())

/-- What is to be shown of the law LexCases. -/
def LexCases_Pure : Prop := ∀ x : denA [.str], WfA [.str] x → law16_LexCases big x.1 = some (true, ())


end
end Go.Proofs.YtmpglmalfkkokaaDoor.E
