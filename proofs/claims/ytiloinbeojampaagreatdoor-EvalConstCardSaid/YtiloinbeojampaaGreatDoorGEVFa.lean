/-
  Pure functions, printed by a program out of the translation.
  Conditions: those that each statement prints, and no other.
-/
import Derived.Test.YtiloinbeojampaaGreatDoorEvA
import Derived.Lib.Bytealg
import Derived.Test.YtiloinbeojampaaGreatDoorEvL
set_option linter.unusedVariables false
set_option linter.unusedSimpArgs false
/-! Pure functions, printed by wip/gen out of the translation. -/
namespace Go.Proofs.YtiloinbeojampaaGreatDoor.E
open Go.Ev
noncomputable section
abbrev Q0 : Type := List (Int × ((List UInt8) × ((Int × (Int × ((List UInt8) × Unit))) × (Int × Unit))))
abbrev Q1 : Type := List (Int × (Int × ((List UInt8) × Unit)))
abbrev Q2 : Type := Int × Int × Int × (List UInt8) × (List UInt8) × (List UInt8) × Int × (List Ex) × Int × Int × Q0 × Int × Err × Unit
abbrev Q3 : Go.Ev.Ty := (.pair (.int .i64) (.pair (.int .i64) (.pair .str .unit)))
def bs0 : List UInt8 := [49, 32, 43, 32, 50, 32, 42, 32, 51, 32, 45, 32, 56, 32, 47, 32, 51]
def bs1 : List UInt8 := [0, 1, 2, 2, 3, 3, 3, 3, 4, 4, 4, 4, 4, 4, 4, 4, 5, 5, 5, 5, 5, 5, 5, 5, 5, 5, 5, 5, 5, 5, 5, 5, 6, 6, 6, 6, 6, 6, 6, 6, 6, 6, 6, 6, 6, 6, 6, 6, 6, 6, 6, 6, 6, 6, 6, 6, 6, 6, 6, 6, 6, 6, 6, 6, 7, 7, 7, 7, 7, 7, 7, 7, 7, 7, 7, 7, 7, 7, 7, 7, 7, 7, 7, 7, 7, 7, 7, 7, 7, 7, 7, 7, 7, 7, 7, 7, 7, 7, 7, 7, 7, 7, 7, 7, 7, 7, 7, 7, 7, 7, 7, 7, 7, 7, 7, 7, 7, 7, 7, 7, 7, 7, 7, 7, 7, 7, 7, 7, 8, 8, 8, 8, 8, 8, 8, 8, 8, 8, 8, 8, 8, 8, 8, 8, 8, 8, 8, 8, 8, 8, 8, 8, 8, 8, 8, 8, 8, 8, 8, 8, 8, 8, 8, 8, 8, 8, 8, 8, 8, 8, 8, 8, 8, 8, 8, 8, 8, 8, 8, 8, 8, 8, 8, 8, 8, 8, 8, 8, 8, 8, 8, 8, 8, 8, 8, 8, 8, 8, 8, 8, 8, 8, 8, 8, 8, 8, 8, 8, 8, 8, 8, 8, 8, 8, 8, 8, 8, 8, 8, 8, 8, 8, 8, 8, 8, 8, 8, 8, 8, 8, 8, 8, 8, 8, 8, 8, 8, 8, 8, 8, 8, 8, 8, 8, 8, 8, 8, 8, 8, 8, 8, 8, 8, 8, 8, 8]
/-! frankpledge/fault.New -/
def fault_New_cps (N : Nat) (R : Type) (K : Err → Option R) (v1 : Int) (v2 : Int) : Option R :=
  (bif (decide (v1 = 0)) then
  (K Err.nil)
  else
  (K (Err.fault v1 v2 Err.nil)))

def fault_New (N : Nat) (v1 : Int) (v2 : Int) : Option (Err × Unit) := fault_New_cps N _ (fun a0 => some (a0, ())) v1 v2

/-! frankpledge/lex.of -/
def lex_of_cps (N : Nat) (R : Type) (K : Int → Option R) (v1 : Int) : Option R :=
  (bif (decide (97 ≤ v1)) then
  (bif (decide (v1 ≤ 122)) then
  (K 2)
  else
  (bif (decide (65 ≤ v1)) then
  (bif (decide (v1 ≤ 90)) then
  (K 2)
  else
  (bif (decide (48 ≤ v1)) then
  (bif (decide (v1 ≤ 57)) then
  (K 3)
  else
  (bif (decide (v1 = 32)) then
  (K 1)
  else
  (bif (decide (v1 = 9)) then
  (K 1)
  else
  (bif (decide (v1 = 10)) then
  (K 1)
  else
  (bif (decide (v1 = 13)) then
  (K 1)
  else
  (bif (decide (v1 = 95)) then
  (K 4)
  else
  (K 0)))))))
  else
  (bif (decide (v1 = 32)) then
  (K 1)
  else
  (bif (decide (v1 = 9)) then
  (K 1)
  else
  (bif (decide (v1 = 10)) then
  (K 1)
  else
  (bif (decide (v1 = 13)) then
  (K 1)
  else
  (bif (decide (v1 = 95)) then
  (K 4)
  else
  (K 0))))))))
  else
  (bif (decide (48 ≤ v1)) then
  (bif (decide (v1 ≤ 57)) then
  (K 3)
  else
  (bif (decide (v1 = 32)) then
  (K 1)
  else
  (bif (decide (v1 = 9)) then
  (K 1)
  else
  (bif (decide (v1 = 10)) then
  (K 1)
  else
  (bif (decide (v1 = 13)) then
  (K 1)
  else
  (bif (decide (v1 = 95)) then
  (K 4)
  else
  (K 0)))))))
  else
  (bif (decide (v1 = 32)) then
  (K 1)
  else
  (bif (decide (v1 = 9)) then
  (K 1)
  else
  (bif (decide (v1 = 10)) then
  (K 1)
  else
  (bif (decide (v1 = 13)) then
  (K 1)
  else
  (bif (decide (v1 = 95)) then
  (K 4)
  else
  (K 0)))))))))
  else
  (bif (decide (65 ≤ v1)) then
  (bif (decide (v1 ≤ 90)) then
  (K 2)
  else
  (bif (decide (48 ≤ v1)) then
  (bif (decide (v1 ≤ 57)) then
  (K 3)
  else
  (bif (decide (v1 = 32)) then
  (K 1)
  else
  (bif (decide (v1 = 9)) then
  (K 1)
  else
  (bif (decide (v1 = 10)) then
  (K 1)
  else
  (bif (decide (v1 = 13)) then
  (K 1)
  else
  (bif (decide (v1 = 95)) then
  (K 4)
  else
  (K 0)))))))
  else
  (bif (decide (v1 = 32)) then
  (K 1)
  else
  (bif (decide (v1 = 9)) then
  (K 1)
  else
  (bif (decide (v1 = 10)) then
  (K 1)
  else
  (bif (decide (v1 = 13)) then
  (K 1)
  else
  (bif (decide (v1 = 95)) then
  (K 4)
  else
  (K 0))))))))
  else
  (bif (decide (48 ≤ v1)) then
  (bif (decide (v1 ≤ 57)) then
  (K 3)
  else
  (bif (decide (v1 = 32)) then
  (K 1)
  else
  (bif (decide (v1 = 9)) then
  (K 1)
  else
  (bif (decide (v1 = 10)) then
  (K 1)
  else
  (bif (decide (v1 = 13)) then
  (K 1)
  else
  (bif (decide (v1 = 95)) then
  (K 4)
  else
  (K 0)))))))
  else
  (bif (decide (v1 = 32)) then
  (K 1)
  else
  (bif (decide (v1 = 9)) then
  (K 1)
  else
  (bif (decide (v1 = 10)) then
  (K 1)
  else
  (bif (decide (v1 = 13)) then
  (K 1)
  else
  (bif (decide (v1 = 95)) then
  (K 4)
  else
  (K 0)))))))))

def lex_of (N : Nat) (v1 : Int) : Option (Int × Unit) := lex_of_cps N _ (fun a0 => some (a0, ())) v1

/-! frankpledge/lex.quoted -/
def lex_quoted_l0B (N : Nat) (R : Type) (rec : (List UInt8) → (List UInt8) → Int → Option R) (k0 : Option R) (k1 : (List UInt8) → Int → Option R) (v4 : (List UInt8)) (v5 : (List UInt8)) (v6 : Int) : Option R :=
  (bif (decide (v6 < (v4.length : Int))) then
  (Option.bind (nth v4 v6) fun v7 =>
  (bif (decide ((v7.toNat : Int) = 39)) then
  (bif (decide ((IntKind.wrap .i64 (v6 + 1)) = (v4.length : Int))) then
  (k1 v5 (IntKind.wrap .i64 (v6 + 1)))
  else
  (Option.bind (nth v4 (IntKind.wrap .i64 (v6 + 1))) fun v8 =>
  (bif (!(decide ((v8.toNat : Int) = 39))) then
  (k1 v5 (IntKind.wrap .i64 (v6 + 1)))
  else
  (Option.bind (nth v4 (IntKind.wrap .i64 (v6 + 1))) fun v9 =>
  (bif (room 1 (v5.length + ([(UInt8.ofNat (Int.toNat (v9.toNat : Int)))] : (List UInt8)).length)) then
  (rec v4 (v5 ++ ([(UInt8.ofNat (Int.toNat (v9.toNat : Int)))] : (List UInt8))) (IntKind.wrap .i64 ((IntKind.wrap .i64 (v6 + 1)) + 1)))
  else
  none)))))
  else
  (Option.bind (nth v4 v6) fun v10 =>
  (bif (room 1 (v5.length + ([(UInt8.ofNat (Int.toNat (v10.toNat : Int)))] : (List UInt8)).length)) then
  (rec v4 (v5 ++ ([(UInt8.ofNat (Int.toNat (v10.toNat : Int)))] : (List UInt8))) (IntKind.wrap .i64 (v6 + 1)))
  else
  none))))
  else
  k0)

def lex_quoted_l0 (N : Nat) (R : Type) (k0 : Option R) (k1 : (List UInt8) → Int → Option R) : Nat → (List UInt8) → (List UInt8) → Int → Option R
  | 0 => fun _ _ _ => none
  | n + 1 => lex_quoted_l0B N R (lex_quoted_l0 N R k0 k1 n) k0 k1

def lex_quoted_cps (N : Nat) (R : Type) (K : (List UInt8) → Int → Option R) (v1 : (List UInt8)) : Option R :=
  (lex_quoted_l0 N _ ((K [] 0)) (fun v2 v3 =>
  (K v2 v3)) N v1 [] 1)

def lex_quoted (N : Nat) (v1 : (List UInt8)) : Option ((List UInt8) × Int × Unit) := lex_quoted_cps N _ (fun a0 a1 => some (a0, (a1, ()))) v1

/-! internal/bytealg.IndexByteString -/
def bytealg_IndexByteString_cps (N : Nat) (R : Type) (K : Int → Option R) (v1 : (List UInt8)) (v2 : Int) : Option R :=
  (K (Lib.indexByte v1 (Int.toNat v2).toUInt8))

def bytealg_IndexByteString (N : Nat) (v1 : (List UInt8)) (v2 : Int) : Option (Int × Unit) := bytealg_IndexByteString_cps N _ (fun a0 => some (a0, ())) v1 v2

/-! internal/stringslite.IndexByte -/
def stringslite_IndexByte_cps (N : Nat) (R : Type) (K : Int → Option R) (v1 : (List UInt8)) (v2 : Int) : Option R :=
  (Option.bind (bytealg_IndexByteString N v1 v2) fun v3 =>
  (K v3.1))

def stringslite_IndexByte (N : Nat) (v1 : (List UInt8)) (v2 : Int) : Option (Int × Unit) := stringslite_IndexByte_cps N _ (fun a0 => some (a0, ())) v1 v2

/-! strings.IndexByte -/
def strings_IndexByte_cps (N : Nat) (R : Type) (K : Int → Option R) (v1 : (List UInt8)) (v2 : Int) : Option R :=
  (Option.bind (stringslite_IndexByte N v1 v2) fun v3 =>
  (K v3.1))

def strings_IndexByte (N : Nat) (v1 : (List UInt8)) (v2 : Int) : Option (Int × Unit) := strings_IndexByte_cps N _ (fun a0 => some (a0, ())) v1 v2

/-! frankpledge/lex.hex -/
def lex_hex_cps (N : Nat) (R : Type) (K : Int → Option R) (v1 : Int) : Option R :=
  (bif (decide (65 ≤ v1)) then
  (bif (decide (v1 ≤ 70)) then
  (Option.bind (strings_IndexByte N [48, 49, 50, 51, 52, 53, 54, 55, 56, 57, 97, 98, 99, 100, 101, 102] (IntKind.wrap .u8 (v1 + 32))) fun v2 =>
  (K v2.1))
  else
  (Option.bind (strings_IndexByte N [48, 49, 50, 51, 52, 53, 54, 55, 56, 57, 97, 98, 99, 100, 101, 102] v1) fun v3 =>
  (K v3.1)))
  else
  (Option.bind (strings_IndexByte N [48, 49, 50, 51, 52, 53, 54, 55, 56, 57, 97, 98, 99, 100, 101, 102] v1) fun v4 =>
  (K v4.1)))

def lex_hex (N : Nat) (v1 : Int) : Option (Int × Unit) := lex_hex_cps N _ (fun a0 => some (a0, ())) v1

/-! frankpledge/lex.raw -/
def lex_raw_l1B (N : Nat) (R : Type) (rec : (List UInt8) → (List UInt8) → Int → (List UInt8) → Int → (List UInt8) → Int → Int → (List UInt8) → Int → Option R) (k0 : (List UInt8) → Int → (List UInt8) → Int → (List UInt8) → Int → Int → (List UInt8) → Int → Option R) (k1 : (List UInt8) → Int → (List UInt8) → Int → (List UInt8) → Int → Int → (List UInt8) → Int → Option R) (v36 : (List UInt8)) (v37 : (List UInt8)) (v38 : Int) (v39 : (List UInt8)) (v40 : Int) (v41 : (List UInt8)) (v42 : Int) (v43 : Int) (v44 : (List UInt8)) (v45 : Int) : Option R :=
  (bif (!(decide (v37 = []))) then
  (Option.bind (nth v37 0) fun v46 =>
  (Option.bind (lex_hex N (v46.toNat : Int)) fun v47 =>
  (Option.bind (nth v37 1) fun v48 =>
  (Option.bind (lex_hex N (v48.toNat : Int)) fun v49 =>
  (bif (decide (v47.1 < 0)) then
  (k1 v36 v38 v39 0 [] 0 0 [] 0)
  else
  (bif (decide (v49.1 < 0)) then
  (k1 v36 v38 v39 0 [] 0 0 [] 0)
  else
  (bif (room 1 (v39.length + ([(UInt8.ofNat (Int.toNat (IntKind.wrap .u8 (Ev.bits .or .i64 (Ev.shl .i64 v47.1 4) v49.1))))] : (List UInt8)).length)) then
  (bif (decide (0 ≤ (2 : Int) ∧ (2 : Int) ≤ ((v37.length : Nat) : Int))) then
  (rec v36 (List.drop 2 (List.take v37.length v37)) v38 (v39 ++ ([(UInt8.ofNat (Int.toNat (IntKind.wrap .u8 (Ev.bits .or .i64 (Ev.shl .i64 v47.1 4) v49.1))))] : (List UInt8))) v40 v41 v42 v43 v44 v45)
  else
  none)
  else
  none)))))))
  else
  (k0 v36 v38 v39 v40 v41 v42 v43 v44 v45))

def lex_raw_l1 (N : Nat) (R : Type) (k0 : (List UInt8) → Int → (List UInt8) → Int → (List UInt8) → Int → Int → (List UInt8) → Int → Option R) (k1 : (List UInt8) → Int → (List UInt8) → Int → (List UInt8) → Int → Int → (List UInt8) → Int → Option R) : Nat → (List UInt8) → (List UInt8) → Int → (List UInt8) → Int → (List UInt8) → Int → Int → (List UInt8) → Int → Option R
  | 0 => fun _ _ _ _ _ _ _ _ _ _ => none
  | n + 1 => lex_raw_l1B N R (lex_raw_l1 N R k0 k1 n) k0 k1

def lex_raw_j0 (N : Nat) (R : Type) (k0 : Int → (List UInt8) → Int → Int → (List UInt8) → Int → Option R) (v9 : (List UInt8)) (v10 : (List UInt8)) (v11 : Int) (v12 : Int) (v13 : (List UInt8)) (v14 : Int) (v15 : Int) (v16 : (List UInt8)) (v17 : Int) : Option R :=
  (lex_raw_l1 N _ (fun v18 v19 v20 v21 v22 v23 v24 v25 v26 =>
  (bif (decide (0 ≤ (IntKind.wrap .i64 (v19 + 1)) ∧ (IntKind.wrap .i64 (v19 + 1)) ≤ ((v18.length : Nat) : Int))) then
  (k0 4 (List.drop 0 (List.take (Int.toNat (IntKind.wrap .i64 (v19 + 1))) v18)) 5 0 v20 0)
  else
  none)) (fun v27 v28 v29 v30 v31 v32 v33 v34 v35 =>
  (k0 v30 v31 v32 v33 v34 v35)) N v9 v10 v11 [] v12 v13 v14 v15 v16 v17)

def lex_raw_cps (N : Nat) (R : Type) (K : Int → (List UInt8) → Int → Int → (List UInt8) → Int → Option R) (v1 : (List UInt8)) : Option R :=
  (bif (decide (0 ≤ (1 : Int) ∧ (1 : Int) ≤ ((v1.length : Nat) : Int))) then
  (Option.bind (lex_quoted N (List.drop 1 (List.take v1.length v1))) fun v2 =>
  (bif (decide (v2.2.1 = 0)) then
  (K 0 [] 0 0 [] 0)
  else
  (bif (decide ((Int.tmod (v2.1.length : Int) 2) = 1)) then
  (K 0 [] 0 0 [] 0)
  else
  (bif (decide (400 < (v2.1.length : Int))) then
  (K 0 [] 0 0 [] 0)
  else
  (lex_raw_j0 N _ (fun v3 v4 v5 v6 v7 v8 =>
  (K v3 v4 v5 v6 v7 v8)) v1 v2.1 v2.2.1 0 [] 0 0 [] 0)))))
  else
  none)

def lex_raw (N : Nat) (v1 : (List UInt8)) : Option (Int × (List UInt8) × Int × Int × (List UInt8) × Int × Unit) := lex_raw_cps N _ (fun a0 a1 a2 a3 a4 a5 => some (a0, (a1, (a2, (a3, (a4, (a5, ()))))))) v1

/-! frankpledge/lex.isPart -/
def lex_isPart_cps (N : Nat) (R : Type) (K : Bool → Option R) (v1 : Int) : Option R :=
  (K (decide (2 ≤ v1)))

def lex_isPart (N : Nat) (v1 : Int) : Option (Bool × Unit) := lex_isPart_cps N _ (fun a0 => some (a0, ())) v1

/-! frankpledge/lex.span -/
def lex_span_l0B (N : Nat) (R : Type) (rec : (List UInt8) → Int → Option R) (k0 : Int → Option R) (v3 : (List UInt8)) (v4 : Int) : Option R :=
  (bif (decide (v4 < (v3.length : Int))) then
  (Option.bind (nth v3 v4) fun v5 =>
  (Option.bind (lex_of N (v5.toNat : Int)) fun v6 =>
  (Option.bind (lex_isPart N v6.1) fun v7 =>
  (bif v7.1 then
  (rec v3 (IntKind.wrap .i64 (v4 + 1)))
  else
  (k0 v4)))))
  else
  (k0 v4))

def lex_span_l0 (N : Nat) (R : Type) (k0 : Int → Option R) : Nat → (List UInt8) → Int → Option R
  | 0 => fun _ _ => none
  | n + 1 => lex_span_l0B N R (lex_span_l0 N R k0 n) k0

def lex_span_cps (N : Nat) (R : Type) (K : Int → Option R) (v1 : (List UInt8)) : Option R :=
  (lex_span_l0 N _ (fun v2 =>
  (K v2)) N v1 0)

def lex_span (N : Nat) (v1 : (List UInt8)) : Option (Int × Unit) := lex_span_cps N _ (fun a0 => some (a0, ())) v1

/-! strings.ToLower -/
def strings_ToLower_cps (N : Nat) (R : Type) (K : (List UInt8) → Option R) (v1 : (List UInt8)) : Option R :=
  (bif (decide (v1.length ≤ 140737488355328) && List.all v1 (fun b => decide (b.toNat < 128))) then (K (Lib.toLowerA v1)) else none)

def strings_ToLower (N : Nat) (v1 : (List UInt8)) : Option ((List UInt8) × Unit) := strings_ToLower_cps N _ (fun a0 => some (a0, ())) v1

/-! frankpledge/lex.isFigure -/
def lex_isFigure_cps (N : Nat) (R : Type) (K : Bool → Option R) (v1 : Int) : Option R :=
  (K (decide (v1 = 3)))

def lex_isFigure (N : Nat) (v1 : Int) : Option (Bool × Unit) := lex_isFigure_cps N _ (fun a0 => some (a0, ())) v1

/-! frankpledge/lex.span -/
def lex_span_1_l0B (N : Nat) (R : Type) (rec : (List UInt8) → Int → Option R) (k0 : Int → Option R) (v3 : (List UInt8)) (v4 : Int) : Option R :=
  (bif (decide (v4 < (v3.length : Int))) then
  (Option.bind (nth v3 v4) fun v5 =>
  (Option.bind (lex_of N (v5.toNat : Int)) fun v6 =>
  (Option.bind (lex_isFigure N v6.1) fun v7 =>
  (bif v7.1 then
  (rec v3 (IntKind.wrap .i64 (v4 + 1)))
  else
  (k0 v4)))))
  else
  (k0 v4))

def lex_span_1_l0 (N : Nat) (R : Type) (k0 : Int → Option R) : Nat → (List UInt8) → Int → Option R
  | 0 => fun _ _ => none
  | n + 1 => lex_span_1_l0B N R (lex_span_1_l0 N R k0 n) k0

def lex_span_1_cps (N : Nat) (R : Type) (K : Int → Option R) (v1 : (List UInt8)) : Option R :=
  (lex_span_1_l0 N _ (fun v2 =>
  (K v2)) N v1 0)

def lex_span_1 (N : Nat) (v1 : (List UInt8)) : Option (Int × Unit) := lex_span_1_cps N _ (fun a0 => some (a0, ())) v1

/-! internal/stringslite.HasPrefix -/
def stringslite_HasPrefix_cps (N : Nat) (R : Type) (K : Bool → Option R) (v1 : (List UInt8)) (v2 : (List UInt8)) : Option R :=
  (bif (decide ((v2.length : Int) ≤ (v1.length : Int))) then
  (bif (decide (0 ≤ (v2.length : Int) ∧ (v2.length : Int) ≤ ((v1.length : Nat) : Int))) then
  (K (decide ((List.drop 0 (List.take (Int.toNat (v2.length : Int)) v1)) = v2)))
  else
  none)
  else
  (K false))

def stringslite_HasPrefix (N : Nat) (v1 : (List UInt8)) (v2 : (List UInt8)) : Option (Bool × Unit) := stringslite_HasPrefix_cps N _ (fun a0 => some (a0, ())) v1 v2

/-! strings.HasPrefix -/
def strings_HasPrefix_cps (N : Nat) (R : Type) (K : Bool → Option R) (v1 : (List UInt8)) (v2 : (List UInt8)) : Option R :=
  (Option.bind (stringslite_HasPrefix N v1 v2) fun v3 =>
  (K v3.1))

def strings_HasPrefix (N : Nat) (v1 : (List UInt8)) (v2 : (List UInt8)) : Option (Bool × Unit) := strings_HasPrefix_cps N _ (fun a0 => some (a0, ())) v1 v2

/-! strings.Repeat -/
def strings_Repeat_cps (N : Nat) (R : Type) (K : (List UInt8) → Option R) (v1 : (List UInt8)) (v2 : Int) : Option R :=
  (bif (decide (0 ≤ v2 ∧ v1.length * (Int.toNat v2) ≤ 140737488355328)) then (K (Lib.repeatL v1 (Int.toNat v2))) else none)

def strings_Repeat (N : Nat) (v1 : (List UInt8)) (v2 : Int) : Option ((List UInt8) × Unit) := strings_Repeat_cps N _ (fun a0 => some (a0, ())) v1 v2

/-! strconv.ParseInt -/
def strconv_ParseInt_cps (N : Nat) (R : Type) (K : Int → Err → Option R) (v1 : (List UInt8)) (v2 : Int) (v3 : Int) : Option R :=
  (bif (decide (v2 = 10 ∧ v3 = 64 ∧ v1.length ≤ 281474976710656)) then (K (parseV v1) (parseE v1)) else none)

def strconv_ParseInt (N : Nat) (v1 : (List UInt8)) (v2 : Int) (v3 : Int) : Option (Int × Err × Unit) := strconv_ParseInt_cps N _ (fun a0 a1 => some (a0, (a1, ()))) v1 v2 v3

/-! frankpledge/lex.number -/
def lex_number_j2 (N : Nat) (R : Type) (k0 : Int → (List UInt8) → Int → Int → (List UInt8) → Int → Option R) (v59 : (List UInt8)) (v60 : Int) (v61 : (List UInt8)) (v62 : Int) (v63 : Int) (v64 : (List UInt8)) (v65 : Int) (v66 : Int) (v67 : (List UInt8)) (v68 : Int) : Option R :=
  (Option.bind (strconv_ParseInt N v61 10 64) fun v69 =>
  (bif (!(Err.isNil v69.2.1)) then
  (k0 0 [] 0 0 [] 0)
  else
  (bif (decide (0 ≤ v60 ∧ v60 ≤ ((v59.length : Nat) : Int))) then
  (k0 2 (List.drop 0 (List.take (Int.toNat v60) v59)) v62 v69.1 [] 0)
  else
  none)))

def lex_number_j1 (N : Nat) (R : Type) (k0 : Int → (List UInt8) → Int → Int → (List UInt8) → Int → Option R) (v40 : (List UInt8)) (v41 : Int) (v42 : (List UInt8)) (v43 : (List UInt8)) (v44 : Int) (v45 : Int) (v46 : (List UInt8)) (v47 : Int) (v48 : Int) (v49 : (List UInt8)) (v50 : Int) : Option R :=
  (Option.bind (strings_HasPrefix N v43 [46]) fun v51 =>
  (bif v51.1 then
  (k0 0 [] 0 0 [] 0)
  else
  (Option.bind (lex_span N v43) fun v52 =>
  (bif (decide (0 < v52.1)) then
  (k0 0 [] 0 0 [] 0)
  else
  (lex_number_j2 N _ (fun v53 v54 v55 v56 v57 v58 =>
  (k0 v53 v54 v55 v56 v57 v58)) v40 v41 v42 v44 v45 v46 v47 v48 v49 v50)))))

def lex_number_j0 (N : Nat) (R : Type) (k0 : (List UInt8) → Int → (List UInt8) → (List UInt8) → Int → Int → (List UInt8) → Int → Int → (List UInt8) → Int → Option R) (v28 : (List UInt8)) (v29 : Int) (v30 : (List UInt8)) (v31 : (List UInt8)) (v32 : Int) (v33 : Int) (v34 : (List UInt8)) (v35 : Int) (v36 : Int) (v37 : (List UInt8)) (v38 : Int) : Option R :=
  (bif (decide (0 ≤ (IntKind.wrap .i64 (1 + v32)) ∧ (IntKind.wrap .i64 (1 + v32)) ≤ ((v31.length : Nat) : Int))) then
  (bif (decide (0 ≤ (1 : Int) ∧ (1 : Int) ≤ (((Int.toNat (IntKind.wrap .i64 (1 + v32))) : Nat) : Int))) then
  (Option.bind (strings_Repeat N [48] (IntKind.wrap .i64 (4 - v32))) fun v39 =>
  (bif (room 1 ((List.drop 1 (List.take (Int.toNat (IntKind.wrap .i64 (1 + v32))) v31)).length + v39.1.length)) then
  (bif (room 1 (v30.length + ((List.drop 1 (List.take (Int.toNat (IntKind.wrap .i64 (1 + v32))) v31)) ++ v39.1).length)) then
  (bif (decide (0 ≤ (IntKind.wrap .i64 (1 + v32)) ∧ (IntKind.wrap .i64 (1 + v32)) ≤ ((v31.length : Nat) : Int))) then
  (k0 v28 (IntKind.wrap .i64 ((IntKind.wrap .i64 (v29 + 1)) + v32)) (v30 ++ ((List.drop 1 (List.take (Int.toNat (IntKind.wrap .i64 (1 + v32))) v31)) ++ v39.1)) (List.drop (Int.toNat (IntKind.wrap .i64 (1 + v32))) (List.take v31.length v31)) 3 v33 v34 v35 v36 v37 v38)
  else
  none)
  else
  none)
  else
  none))
  else
  none)
  else
  none)

def lex_number_cps (N : Nat) (R : Type) (K : Int → (List UInt8) → Int → Int → (List UInt8) → Int → Option R) (v1 : (List UInt8)) : Option R :=
  (Option.bind (lex_span_1 N v1) fun v2 =>
  (bif (decide (0 ≤ v2.1 ∧ v2.1 ≤ ((v1.length : Nat) : Int))) then
  (bif (decide (0 ≤ v2.1 ∧ v2.1 ≤ ((v1.length : Nat) : Int))) then
  (Option.bind (strings_HasPrefix N (List.drop (Int.toNat v2.1) (List.take v1.length v1)) [46]) fun v3 =>
  (bif v3.1 then
  (bif (decide (0 ≤ (1 : Int) ∧ (1 : Int) ≤ (((List.drop (Int.toNat v2.1) (List.take v1.length v1)).length : Nat) : Int))) then
  (Option.bind (lex_span_1 N (List.drop 1 (List.take (List.drop (Int.toNat v2.1) (List.take v1.length v1)).length (List.drop (Int.toNat v2.1) (List.take v1.length v1))))) fun v4 =>
  (bif (decide (v4.1 = 0)) then
  (K 0 [] 0 0 [] 0)
  else
  (bif (decide (4 < v4.1)) then
  (K 0 [] 0 0 [] 0)
  else
  (lex_number_j0 N _ (fun v5 v6 v7 v8 v9 v10 v11 v12 v13 v14 v15 =>
  (lex_number_j1 N _ (fun v16 v17 v18 v19 v20 v21 =>
  (K v16 v17 v18 v19 v20 v21)) v5 v6 v7 v8 v9 v10 v11 v12 v13 v14 v15)) v1 v2.1 (List.drop 0 (List.take (Int.toNat v2.1) v1)) (List.drop (Int.toNat v2.1) (List.take v1.length v1)) v4.1 0 [] 0 0 [] 0))))
  else
  none)
  else
  (lex_number_j1 N _ (fun v22 v23 v24 v25 v26 v27 =>
  (K v22 v23 v24 v25 v26 v27)) v1 v2.1 (List.drop 0 (List.take (Int.toNat v2.1) v1)) (List.drop (Int.toNat v2.1) (List.take v1.length v1)) 2 0 [] 0 0 [] 0)))
  else
  none)
  else
  none))

def lex_number (N : Nat) (v1 : (List UInt8)) : Option (Int × (List UInt8) × Int × Int × (List UInt8) × Int × Unit) := lex_number_cps N _ (fun a0 a1 a2 a3 a4 a5 => some (a0, (a1, (a2, (a3, (a4, (a5, ()))))))) v1

/-! frankpledge/lex.text -/
def lex_text_cps (N : Nat) (R : Type) (K : Int → (List UInt8) → Int → Int → (List UInt8) → Int → Option R) (v1 : (List UInt8)) : Option R :=
  (Option.bind (lex_quoted N v1) fun v2 =>
  (bif (decide (v2.2.1 = 0)) then
  (K 0 [] 0 0 [] 0)
  else
  (bif (decide (200 < (v2.1.length : Int))) then
  (K 0 [] 0 0 [] 0)
  else
  (bif (decide (0 ≤ v2.2.1 ∧ v2.2.1 ≤ ((v1.length : Nat) : Int))) then
  (K 3 (List.drop 0 (List.take (Int.toNat v2.2.1) v1)) 4 0 v2.1 0)
  else
  none))))

def lex_text (N : Nat) (v1 : (List UInt8)) : Option (Int × (List UInt8) × Int × Int × (List UInt8) × Int × Unit) := lex_text_cps N _ (fun a0 a1 a2 a3 a4 a5 => some (a0, (a1, (a2, (a3, (a4, (a5, ()))))))) v1

/-! frankpledge/lex.sign -/
def lex_sign_l0B (N : Nat) (R : Type) (rec : (List UInt8) → (List (List UInt8)) → Int → Int → Int → (List UInt8) → Int → Int → (List UInt8) → Int → Option R) (k0 : (List UInt8) → Int → (List UInt8) → Int → Int → (List UInt8) → Int → Option R) (k1 : (List UInt8) → Int → (List UInt8) → Int → Int → (List UInt8) → Int → Option R) (v18 : (List UInt8)) (v19 : (List (List UInt8))) (v20 : Int) (v21 : Int) (v22 : Int) (v23 : (List UInt8)) (v24 : Int) (v25 : Int) (v26 : (List UInt8)) (v27 : Int) : Option R :=
  (bif (decide (v21 < v20)) then
  (Option.bind (nth v19 v21) fun v28 =>
  (Option.bind (strings_HasPrefix N v18 v28) fun v29 =>
  (bif v29.1 then
  (k1 v18 5 v28 0 0 [] 0)
  else
  (rec v18 v19 v20 (IntKind.wrap .i64 (v21 + 1)) v22 v23 v24 v25 v26 v27))))
  else
  (k0 v18 v22 v23 v24 v25 v26 v27))

def lex_sign_l0 (N : Nat) (R : Type) (k0 : (List UInt8) → Int → (List UInt8) → Int → Int → (List UInt8) → Int → Option R) (k1 : (List UInt8) → Int → (List UInt8) → Int → Int → (List UInt8) → Int → Option R) : Nat → (List UInt8) → (List (List UInt8)) → Int → Int → Int → (List UInt8) → Int → Int → (List UInt8) → Int → Option R
  | 0 => fun _ _ _ _ _ _ _ _ _ _ => none
  | n + 1 => lex_sign_l0B N R (lex_sign_l0 N R k0 k1 n) k0 k1

def lex_sign_cps (N : Nat) (R : Type) (K : Int → (List UInt8) → Int → Int → (List UInt8) → Int → Option R) (v1 : (List UInt8)) : Option R :=
  (lex_sign_l0 N _ (fun v2 v3 v4 v5 v6 v7 v8 =>
  (Option.bind (nth v2 0) fun v9 =>
  (Option.bind (strings_IndexByte N [40, 41, 44, 42, 43, 45, 47, 61, 60, 62, 46, 59] (v9.toNat : Int)) fun v10 =>
  (bif (decide (0 ≤ v10.1)) then
  (bif (decide (0 ≤ (1 : Int) ∧ (1 : Int) ≤ ((v2.length : Nat) : Int))) then
  (K 5 (List.drop 0 (List.take 1 v2)) 0 0 [] 0)
  else
  none)
  else
  (K 0 [] 0 0 [] 0))))) (fun v11 v12 v13 v14 v15 v16 v17 =>
  (K v12 v13 v14 v15 v16 v17)) N v1 ([[60, 61], [62, 61], [60, 62]] : (List (List UInt8))) (([[60, 61], [62, 61], [60, 62]] : (List (List UInt8))).length : Int) 0 0 [] 0 0 [] 0)

def lex_sign (N : Nat) (v1 : (List UInt8)) : Option (Int × (List UInt8) × Int × Int × (List UInt8) × Int × Unit) := lex_sign_cps N _ (fun a0 a1 a2 a3 a4 a5 => some (a0, (a1, (a2, (a3, (a4, (a5, ()))))))) v1

/-! frankpledge/lex.next -/
def lex_next_cps (N : Nat) (R : Type) (K : Int → (List UInt8) → Int → Int → (List UInt8) → Int → Option R) (v1 : (List UInt8)) : Option R :=
  (Option.bind (nth v1 0) fun v2 =>
  (Option.bind (lex_of N (v2.toNat : Int)) fun v3 =>
  (bif (decide (v3.1 = 2)) then
  (bif (decide (1 < (v1.length : Int))) then
  (Option.bind (nth v1 1) fun v4 =>
  (bif (decide ((v4.toNat : Int) = 39)) then
  (Option.bind (nth v1 0) fun v5 =>
  (bif (decide ((v5.toNat : Int) = 120)) then
  (Option.bind (lex_raw N v1) fun v6 =>
  (K v6.1 v6.2.1 v6.2.2.1 v6.2.2.2.1 v6.2.2.2.2.1 v6.2.2.2.2.2.1))
  else
  (Option.bind (nth v1 0) fun v7 =>
  (bif (decide ((v7.toNat : Int) = 88)) then
  (Option.bind (lex_raw N v1) fun v8 =>
  (K v8.1 v8.2.1 v8.2.2.1 v8.2.2.2.1 v8.2.2.2.2.1 v8.2.2.2.2.2.1))
  else
  (Option.bind (lex_span N v1) fun v9 =>
  (bif (decide (0 ≤ v9.1 ∧ v9.1 ≤ ((v1.length : Nat) : Int))) then
  (Option.bind (strings_ToLower N (List.drop 0 (List.take (Int.toNat v9.1) v1))) fun v10 =>
  (K 1 v10.1 0 0 [] 0))
  else
  none))))))
  else
  (Option.bind (lex_span N v1) fun v11 =>
  (bif (decide (0 ≤ v11.1 ∧ v11.1 ≤ ((v1.length : Nat) : Int))) then
  (Option.bind (strings_ToLower N (List.drop 0 (List.take (Int.toNat v11.1) v1))) fun v12 =>
  (K 1 v12.1 0 0 [] 0))
  else
  none))))
  else
  (Option.bind (lex_span N v1) fun v13 =>
  (bif (decide (0 ≤ v13.1 ∧ v13.1 ≤ ((v1.length : Nat) : Int))) then
  (Option.bind (strings_ToLower N (List.drop 0 (List.take (Int.toNat v13.1) v1))) fun v14 =>
  (K 1 v14.1 0 0 [] 0))
  else
  none)))
  else
  (bif (decide (v3.1 = 3)) then
  (Option.bind (lex_number N v1) fun v15 =>
  (K v15.1 v15.2.1 v15.2.2.1 v15.2.2.2.1 v15.2.2.2.2.1 v15.2.2.2.2.2.1))
  else
  (Option.bind (nth v1 0) fun v16 =>
  (bif (decide ((v16.toNat : Int) = 39)) then
  (Option.bind (lex_text N v1) fun v17 =>
  (K v17.1 v17.2.1 v17.2.2.1 v17.2.2.2.1 v17.2.2.2.2.1 v17.2.2.2.2.2.1))
  else
  (Option.bind (lex_sign N v1) fun v18 =>
  (K v18.1 v18.2.1 v18.2.2.1 v18.2.2.2.1 v18.2.2.2.2.1 v18.2.2.2.2.2.1))))))))

def lex_next (N : Nat) (v1 : (List UInt8)) : Option (Int × (List UInt8) × Int × Int × (List UInt8) × Int × Unit) := lex_next_cps N _ (fun a0 a1 a2 a3 a4 a5 => some (a0, (a1, (a2, (a3, (a4, (a5, ()))))))) v1

/-! frankpledge/lex.Lex -/
def lex_Lex_l0B (N : Nat) (R : Type) (rec : (List UInt8) → Q0 → Int → Option R) (k0 : (List UInt8) → Q0 → Option R) (k1 : (List UInt8) → Err → Q0 → Option R) (v8 : (List UInt8)) (v9 : Q0) (v10 : Int) : Option R :=
  (bif (decide (v10 < (v8.length : Int))) then
  (Option.bind (nth v8 v10) fun v11 =>
  (Option.bind (lex_of N (v11.toNat : Int)) fun v12 =>
  (bif (decide (v12.1 = 1)) then
  (rec v8 v9 (IntKind.wrap .i64 (v10 + 1)))
  else
  (bif (decide (0 ≤ v10 ∧ v10 ≤ ((v8.length : Nat) : Int))) then
  (Option.bind (lex_next N (List.drop (Int.toNat v10) (List.take v8.length v8))) fun v13 =>
  (bif (decide (v13.2.1 = [])) then
  (Option.bind (fault_New N 161 v10) fun v14 =>
  (k1 v8 v14.1 v9))
  else
  (bif (room 64 (v9.length + ([(v13.1, (v13.2.1, ((v13.2.2.1, (v13.2.2.2.1, (v13.2.2.2.2.1, ()))), (v10, ()))))] : Q0).length)) then
  (rec v8 (v9 ++ ([(v13.1, (v13.2.1, ((v13.2.2.1, (v13.2.2.2.1, (v13.2.2.2.2.1, ()))), (v10, ()))))] : Q0)) (IntKind.wrap .i64 (v10 + (v13.2.1.length : Int))))
  else
  none)))
  else
  none))))
  else
  (k0 v8 v9))

def lex_Lex_l0 (N : Nat) (R : Type) (k0 : (List UInt8) → Q0 → Option R) (k1 : (List UInt8) → Err → Q0 → Option R) : Nat → (List UInt8) → Q0 → Int → Option R
  | 0 => fun _ _ _ => none
  | n + 1 => lex_Lex_l0B N R (lex_Lex_l0 N R k0 k1 n) k0 k1

def lex_Lex_cps (N : Nat) (R : Type) (K : Q0 → Err → Option R) (v1 : (List UInt8)) : Option R :=
  (bif (decide (1000 < (v1.length : Int))) then
  (Option.bind (fault_New N 161 0) fun v2 =>
  (K [] v2.1))
  else
  (lex_Lex_l0 N _ (fun v3 v4 =>
  (bif (room 64 (v4.length + ([(6, ([], ((0, (0, ([], ()))), ((v3.length : Int), ()))))] : Q0).length)) then
  (K (v4 ++ ([(6, ([], ((0, (0, ([], ()))), ((v3.length : Int), ()))))] : Q0)) Err.nil)
  else
  none)) (fun v5 v6 v7 =>
  (K [] v6)) N v1 [] 0))

def lex_Lex (N : Nat) (v1 : (List UInt8)) : Option (Q0 × Err × Unit) := lex_Lex_cps N _ (fun a0 a1 => some (a0, (a1, ()))) v1

/-! frankpledge/fault.At -/
def fault_At_cps (N : Nat) (R : Type) (K : Int → Option R) (v1 : Err) : Option R :=
  (bif (errOk v1) then (K (errAt v1)) else none)

def fault_At (N : Nat) (v1 : Err) : Option (Int × Unit) := fault_At_cps N _ (fun a0 => some (a0, ())) v1

/-! frankpledge/fault.Wrap -/
def fault_Wrap_cps (N : Nat) (R : Type) (K : Err → Option R) (v1 : Err) (v2 : Int) (v3 : Int) : Option R :=
  (bif (Err.isNil v1) then
  (K v1)
  else
  (bif (decide (v2 = 0)) then
  (K v1)
  else
  (K (Err.fault v2 v3 v1))))

def fault_Wrap (N : Nat) (v1 : Err) (v2 : Int) (v3 : Int) : Option (Err × Unit) := fault_Wrap_cps N _ (fun a0 => some (a0, ())) v1 v2 v3

/-! (*frankpledge/parse.parser).is -/
def parse_parser_is_cps (N : Nat) (R : Type) (K : Bool → Option R) (v1 : (List UInt8)) (v2 : Q0) (v3 : Int) (v4 : Err) : Option R :=
  (Option.bind (nth v2 0) fun v5 =>
  (bif (Err.isNil v4) then
  (bif (decide (v5.1 = 1)) then
  (K (decide (v5.2.1 = v1)))
  else
  (bif (decide (v5.1 = 5)) then
  (K (decide (v5.2.1 = v1)))
  else
  (K false)))
  else
  (K false)))

def parse_parser_is (N : Nat) (v1 : (List UInt8)) (v2 : Q0) (v3 : Int) (v4 : Err) : Option (Bool × Unit) := parse_parser_is_cps N _ (fun a0 => some (a0, ())) v1 v2 v3 v4

/-! (*frankpledge/parse.parser).next -/
def parse_parser_next_cps (N : Nat) (R : Type) (K : Int → (List UInt8) → Int → Int → (List UInt8) → Int → Q0 → Int → Err → Option R) (v1 : Q0) (v2 : Int) (v3 : Err) : Option R :=
  (Option.bind (nth v1 0) fun v4 =>
  (bif (decide (0 ≤ (1 : Int) ∧ (1 : Int) ≤ ((v1.length : Nat) : Int))) then
  (K v4.1 v4.2.1 v4.2.2.1.1 v4.2.2.1.2.1 v4.2.2.1.2.2.1 v4.2.2.2.1 (List.drop 1 (List.take v1.length v1)) v2 v3)
  else
  none))

def parse_parser_next (N : Nat) (v1 : Q0) (v2 : Int) (v3 : Err) : Option (Int × (List UInt8) × Int × Int × (List UInt8) × Int × Q0 × Int × Err × Unit) := parse_parser_next_cps N _ (fun a0 a1 a2 a3 a4 a5 a6 a7 a8 => some (a0, (a1, (a2, (a3, (a4, (a5, (a6, (a7, (a8, ())))))))))) v1 v2 v3

/-! (*frankpledge/parse.parser).take -/
def parse_parser_take_cps (N : Nat) (R : Type) (K : Bool → Q0 → Int → Err → Option R) (v1 : (List UInt8)) (v2 : Q0) (v3 : Int) (v4 : Err) : Option R :=
  (Option.bind (parse_parser_is N v1 v2 v3 v4) fun v5 =>
  (bif v5.1 then
  (Option.bind (parse_parser_next N v2 v3 v4) fun v6 =>
  (K v5.1 v6.2.2.2.2.2.2.1 v6.2.2.2.2.2.2.2.1 v6.2.2.2.2.2.2.2.2.1))
  else
  (K v5.1 v2 v3 v4)))

def parse_parser_take (N : Nat) (v1 : (List UInt8)) (v2 : Q0) (v3 : Int) (v4 : Err) : Option (Bool × Q0 × Int × Err × Unit) := parse_parser_take_cps N _ (fun a0 a1 a2 a3 => some (a0, (a1, (a2, (a3, ()))))) v1 v2 v3 v4

/-! (*frankpledge/parse.parser).at -/
def parse_parser_at_cps (N : Nat) (R : Type) (K : Int → Option R) (v1 : Q0) (v2 : Int) (v3 : Err) : Option R :=
  (Option.bind (nth v1 0) fun v4 =>
  (K v4.2.2.2.1))

def parse_parser_at (N : Nat) (v1 : Q0) (v2 : Int) (v3 : Err) : Option (Int × Unit) := parse_parser_at_cps N _ (fun a0 => some (a0, ())) v1 v2 v3

/-! (*frankpledge/parse.parser).fail -/
def parse_parser_fail_cps (N : Nat) (R : Type) (K : Q0 → Int → Err → Option R) (v1 : Int) (v2 : Q0) (v3 : Int) (v4 : Err) : Option R :=
  (bif (Err.isNil v4) then
  (Option.bind (parse_parser_at N v2 v3 v4) fun v5 =>
  (Option.bind (fault_New N v1 v5.1) fun v6 =>
  (K v2 v3 v6.1)))
  else
  (K v2 v3 v4))

def parse_parser_fail (N : Nat) (v1 : Int) (v2 : Q0) (v3 : Int) (v4 : Err) : Option (Q0 × Int × Err × Unit) := parse_parser_fail_cps N _ (fun a0 a1 a2 => some (a0, (a1, (a2, ())))) v1 v2 v3 v4

/-! (*frankpledge/parse.parser).want -/
def parse_parser_want_l0B (N : Nat) (R : Type) (rec : (List (List UInt8)) → Int → Int → Q0 → Int → Err → Option R) (k0 : Q0 → Int → Err → Option R) (v8 : (List (List UInt8))) (v9 : Int) (v10 : Int) (v11 : Q0) (v12 : Int) (v13 : Err) : Option R :=
  (bif (decide (v10 < v9)) then
  (Option.bind (nth v8 v10) fun v14 =>
  (Option.bind (parse_parser_take N v14 v11 v12 v13) fun v15 =>
  (bif (!v15.1) then
  (Option.bind (parse_parser_fail N 171 v15.2.1 v15.2.2.1 v15.2.2.2.1) fun v16 =>
  (rec v8 v9 (IntKind.wrap .i64 (v10 + 1)) v16.1 v16.2.1 v16.2.2.1))
  else
  (rec v8 v9 (IntKind.wrap .i64 (v10 + 1)) v15.2.1 v15.2.2.1 v15.2.2.2.1))))
  else
  (k0 v11 v12 v13))

def parse_parser_want_l0 (N : Nat) (R : Type) (k0 : Q0 → Int → Err → Option R) : Nat → (List (List UInt8)) → Int → Int → Q0 → Int → Err → Option R
  | 0 => fun _ _ _ _ _ _ => none
  | n + 1 => parse_parser_want_l0B N R (parse_parser_want_l0 N R k0 n) k0

def parse_parser_want_cps (N : Nat) (R : Type) (K : Q0 → Int → Err → Option R) (v1 : (List (List UInt8))) (v2 : Q0) (v3 : Int) (v4 : Err) : Option R :=
  (parse_parser_want_l0 N _ (fun v5 v6 v7 =>
  (K v5 v6 v7)) N v1 (v1.length : Int) 0 v2 v3 v4)

def parse_parser_want (N : Nat) (v1 : (List (List UInt8))) (v2 : Q0) (v3 : Int) (v4 : Err) : Option (Q0 × Int × Err × Unit) := parse_parser_want_cps N _ (fun a0 a1 a2 => some (a0, (a1, (a2, ())))) v1 v2 v3 v4

/-! frankpledge/parse.comparison -/
def parse_comparison_cps (N : Nat) (R : Type) (K : Int → Option R) (v1 : (List UInt8)) : Option R :=
  (bif (decide (v1 = [61])) then
  (K 8)
  else
  (bif (decide (v1 = [60, 62])) then
  (K 9)
  else
  (bif (decide (v1 = [60])) then
  (K 10)
  else
  (bif (decide (v1 = [60, 61])) then
  (K 11)
  else
  (bif (decide (v1 = [62])) then
  (K 12)
  else
  (bif (decide (v1 = [62, 61])) then
  (K 13)
  else
  (K 0)))))))

def parse_comparison (N : Nat) (v1 : (List UInt8)) : Option (Int × Unit) := parse_comparison_cps N _ (fun a0 => some (a0, ())) v1

/-! slices.Index[[]string,string] -/
def slices_Index_string_string_l0B (N : Nat) (R : Type) (rec : (List (List UInt8)) → (List UInt8) → Int → Int → Option R) (k0 : Option R) (k1 : Int → Option R) (v4 : (List (List UInt8))) (v5 : (List UInt8)) (v6 : Int) (v7 : Int) : Option R :=
  (bif (decide (v7 < v6)) then
  (Option.bind (nth v4 v7) fun v8 =>
  (bif (decide (v5 = v8)) then
  (k1 v7)
  else
  (rec v4 v5 v6 (IntKind.wrap .i64 (v7 + 1)))))
  else
  k0)

def slices_Index_string_string_l0 (N : Nat) (R : Type) (k0 : Option R) (k1 : Int → Option R) : Nat → (List (List UInt8)) → (List UInt8) → Int → Int → Option R
  | 0 => fun _ _ _ _ => none
  | n + 1 => slices_Index_string_string_l0B N R (slices_Index_string_string_l0 N R k0 k1 n) k0 k1

def slices_Index_string_string_cps (N : Nat) (R : Type) (K : Int → Option R) (v1 : (List (List UInt8))) (v2 : (List UInt8)) : Option R :=
  (slices_Index_string_string_l0 N _ ((K (-1))) (fun v3 =>
  (K v3)) N v1 v2 (v1.length : Int) 0)

def slices_Index_string_string (N : Nat) (v1 : (List (List UInt8))) (v2 : (List UInt8)) : Option (Int × Unit) := slices_Index_string_string_cps N _ (fun a0 => some (a0, ())) v1 v2

/-! slices.Contains[[]string,string] -/
def slices_Contains_string_string_cps (N : Nat) (R : Type) (K : Bool → Option R) (v1 : (List (List UInt8))) (v2 : (List UInt8)) : Option R :=
  (Option.bind (slices_Index_string_string N v1 v2) fun v3 =>
  (K (decide (0 ≤ v3.1))))

def slices_Contains_string_string (N : Nat) (v1 : (List (List UInt8))) (v2 : (List UInt8)) : Option (Bool × Unit) := slices_Contains_string_string_cps N _ (fun a0 => some (a0, ())) v1 v2

/-! frankpledge/parse.reserved -/
def parse_reserved_cps (N : Nat) (R : Type) (K : Bool → Option R) (v1 : (List UInt8)) : Option R :=
  (Option.bind (slices_Contains_string_string N ([[115, 101, 108, 101, 99, 116], [102, 114, 111, 109], [106, 111, 105, 110], [111, 110], [119, 104, 101, 114, 101], [103, 114, 111, 117, 112], [98, 121], [111, 114, 100, 101, 114], [97, 115, 99], [100, 101, 115, 99], [108, 105, 109, 105, 116], [105, 110, 115, 101, 114, 116], [105, 110, 116, 111], [118, 97, 108, 117, 101, 115], [117, 112, 100, 97, 116, 101], [115, 101, 116], [100, 101, 108, 101, 116, 101], [97, 110, 100], [111, 114], [110, 111, 116], [105, 115], [110, 117, 108, 108], [116, 114, 117, 101], [102, 97, 108, 115, 101], [99, 111, 117, 110, 116], [115, 117, 109], [109, 105, 110], [109, 97, 120]] : (List (List UInt8))) v1) fun v2 =>
  (K v2.1))

def parse_reserved (N : Nat) (v1 : (List UInt8)) : Option (Bool × Unit) := parse_reserved_cps N _ (fun a0 => some (a0, ())) v1

/-! (*frankpledge/parse.parser).name -/
def parse_parser_name_cps (N : Nat) (R : Type) (K : (List UInt8) → Q0 → Int → Err → Option R) (v1 : Q0) (v2 : Int) (v3 : Err) : Option R :=
  (bif (!(Err.isNil v3)) then
  (Option.bind (parse_parser_fail N 171 v1 v2 v3) fun v4 =>
  (K [] v4.1 v4.2.1 v4.2.2.1))
  else
  (Option.bind (nth v1 0) fun v5 =>
  (bif (!(decide (v5.1 = 1))) then
  (Option.bind (parse_parser_fail N 171 v1 v2 v3) fun v6 =>
  (K [] v6.1 v6.2.1 v6.2.2.1))
  else
  (Option.bind (nth v1 0) fun v7 =>
  (Option.bind (parse_reserved N v7.2.1) fun v8 =>
  (bif v8.1 then
  (Option.bind (parse_parser_fail N 171 v1 v2 v3) fun v9 =>
  (K [] v9.1 v9.2.1 v9.2.2.1))
  else
  (Option.bind (parse_parser_next N v1 v2 v3) fun v10 =>
  (K v10.2.1 v10.2.2.2.2.2.2.1 v10.2.2.2.2.2.2.2.1 v10.2.2.2.2.2.2.2.2.1))))))))

def parse_parser_name (N : Nat) (v1 : Q0) (v2 : Int) (v3 : Err) : Option ((List UInt8) × Q0 × Int × Err × Unit) := parse_parser_name_cps N _ (fun a0 a1 a2 a3 => some (a0, (a1, (a2, (a3, ()))))) v1 v2 v3

/-! frankpledge/parse.op -/
def parse_op_j0 (N : Nat) (R : Type) (k0 : Int → Int → (List UInt8) → Int → Int → (List UInt8) → Int → Option R) (v22 : Int) (v23 : Int) (v24 : (List UInt8)) (v25 : Int) (v26 : Int) (v27 : (List UInt8)) (v28 : Int) : Option R :=
  (bif (decide (v22 = 0)) then
  (bif (decide (v24 = [111, 114])) then
  (k0 15 v23 v24 v25 v26 v27 v28)
  else
  (k0 0 v23 v24 v25 v26 v27 v28))
  else
  (bif (decide (v22 = 1)) then
  (bif (decide (v24 = [97, 110, 100])) then
  (k0 14 v23 v24 v25 v26 v27 v28)
  else
  (k0 0 v23 v24 v25 v26 v27 v28))
  else
  (bif (decide (v22 = 3)) then
  (bif (decide (v24 = [43])) then
  (k0 3 v23 v24 v25 v26 v27 v28)
  else
  (bif (decide (v24 = [45])) then
  (k0 4 v23 v24 v25 v26 v27 v28)
  else
  (k0 0 v23 v24 v25 v26 v27 v28)))
  else
  (bif (decide (v22 = 4)) then
  (bif (decide (v24 = [42])) then
  (k0 5 v23 v24 v25 v26 v27 v28)
  else
  (bif (decide (v24 = [47])) then
  (k0 6 v23 v24 v25 v26 v27 v28)
  else
  (k0 0 v23 v24 v25 v26 v27 v28)))
  else
  (k0 0 v23 v24 v25 v26 v27 v28)))))

def parse_op_cps (N : Nat) (R : Type) (K : Int → Option R) (v1 : Int) (v2 : (List UInt8)) (v3 : Int) (v4 : Int) (v5 : (List UInt8)) (v6 : Int) (v7 : Int) : Option R :=
  (bif (!(decide (v1 = 1))) then
  (bif (!(decide (v1 = 5))) then
  (K 0)
  else
  (parse_op_j0 N _ (fun v8 v9 v10 v11 v12 v13 v14 =>
  (K v8)) v7 v1 v2 v3 v4 v5 v6))
  else
  (parse_op_j0 N _ (fun v15 v16 v17 v18 v19 v20 v21 =>
  (K v15)) v7 v1 v2 v3 v4 v5 v6))

def parse_op (N : Nat) (v1 : Int) (v2 : (List UInt8)) (v3 : Int) (v4 : Int) (v5 : (List UInt8)) (v6 : Int) (v7 : Int) : Option (Int × Unit) := parse_op_cps N _ (fun a0 => some (a0, ())) v1 v2 v3 v4 v5 v6 v7

/-! The functions about parse_parser_whole: they call one another. -/
set_option warn.classDefReducibility false
class Z_parse_parser_whole where
  r_parse_parser_not : Q0 → Int → Err → Option Q2
  r_parse_parser_sign : Q0 → Int → Err → Option Q2
  r_parse_parser_expr : Int → Q0 → Int → Err → Option Q2
  r_parse_parser_whole : Q0 → Int → Err → Option Q2

section
variable [Z_parse_parser_whole]
/- (*frankpledge/parse.parser).test -/
def parse_parser_test_o_r0 (N : Nat) (R : Type) (k0 : Q0 → Int → Err → Int → Int → Int → (List UInt8) → (List UInt8) → (List UInt8) → Int → (List Ex) → Int → Int → Int → Int → Int → (List UInt8) → (List UInt8) → (List UInt8) → Int → (List Ex) → Int → Int → Int → (List UInt8) → Int → Int → (List UInt8) → Int → Option R) (v40 : Int) (v41 : Q0) (v42 : Int) (v43 : Err) (v44 : Int) (v45 : Int) (v46 : Int) (v47 : (List UInt8)) (v48 : (List UInt8)) (v49 : (List UInt8)) (v50 : Int) (v51 : Int) (v52 : Int) (v53 : Int) (v54 : Int) (v55 : Int) (v56 : (List UInt8)) (v57 : (List UInt8)) (v58 : (List UInt8)) (v59 : Int) (v60 : (List Ex)) (v61 : Int) (v62 : Int) (v63 : Int) (v64 : (List UInt8)) (v65 : Int) (v66 : Int) (v67 : (List UInt8)) (v68 : Int) : Option R :=
  (Option.bind (Z_parse_parser_whole.r_parse_parser_expr 3 v41 v42 v43) fun v69 =>
  (k0 v69.2.2.2.2.2.2.2.2.2.2.1 v69.2.2.2.2.2.2.2.2.2.2.2.1 v69.2.2.2.2.2.2.2.2.2.2.2.2.1 v40 0 0 [] [] [] 0 ([(Ex.mk v53 v54 v55 v56 v57 v58 v59 v60 v61 v62), (Ex.mk v69.1 v69.2.1 v69.2.2.1 v69.2.2.2.1 v69.2.2.2.2.1 v69.2.2.2.2.2.1 v69.2.2.2.2.2.2.1 v69.2.2.2.2.2.2.2.1 v69.2.2.2.2.2.2.2.2.1 v69.2.2.2.2.2.2.2.2.2.1)] : (List Ex)) 0 v68 v53 v54 v55 v56 v57 v58 v59 v60 v61 v62 v63 v64 v65 v66 v67 v68))

def parse_parser_test_o_cps (N : Nat) (R : Type) (K : Int → Int → Int → (List UInt8) → (List UInt8) → (List UInt8) → Int → (List Ex) → Int → Int → Q0 → Int → Err → Option R) (v1 : Q0) (v2 : Int) (v3 : Err) : Option R :=
  (Option.bind (Z_parse_parser_whole.r_parse_parser_expr 3 v1 v2 v3) fun v4 =>
  (bif (!(Err.isNil v4.2.2.2.2.2.2.2.2.2.2.2.2.1)) then
  (K v4.1 v4.2.1 v4.2.2.1 v4.2.2.2.1 v4.2.2.2.2.1 v4.2.2.2.2.2.1 v4.2.2.2.2.2.2.1 v4.2.2.2.2.2.2.2.1 v4.2.2.2.2.2.2.2.2.1 v4.2.2.2.2.2.2.2.2.2.1 v4.2.2.2.2.2.2.2.2.2.2.1 v4.2.2.2.2.2.2.2.2.2.2.2.1 v4.2.2.2.2.2.2.2.2.2.2.2.2.1)
  else
  (Option.bind (nth v4.2.2.2.2.2.2.2.2.2.2.1 0) fun v5 =>
  (Option.bind (parse_parser_take N [105, 115] v4.2.2.2.2.2.2.2.2.2.2.1 v4.2.2.2.2.2.2.2.2.2.2.2.1 v4.2.2.2.2.2.2.2.2.2.2.2.2.1) fun v6 =>
  (bif v6.1 then
  (Option.bind (parse_parser_take N [110, 111, 116] v6.2.1 v6.2.2.1 v6.2.2.2.1) fun v7 =>
  (Option.bind (parse_parser_want N ([[110, 117, 108, 108]] : (List (List UInt8))) v7.2.1 v7.2.2.1 v7.2.2.2.1) fun v8 =>
  (bif v7.1 then
  (K 16 0 0 [] [] [] 0 ([(Ex.mk 17 0 0 [] [] [] 0 ([(Ex.mk v4.1 v4.2.1 v4.2.2.1 v4.2.2.2.1 v4.2.2.2.2.1 v4.2.2.2.2.2.1 v4.2.2.2.2.2.2.1 v4.2.2.2.2.2.2.2.1 v4.2.2.2.2.2.2.2.2.1 v4.2.2.2.2.2.2.2.2.2.1)] : (List Ex)) 0 v5.2.2.2.1)] : (List Ex)) 0 v5.2.2.2.1 v8.1 v8.2.1 v8.2.2.1)
  else
  (K 17 0 0 [] [] [] 0 ([(Ex.mk v4.1 v4.2.1 v4.2.2.1 v4.2.2.2.1 v4.2.2.2.2.1 v4.2.2.2.2.2.1 v4.2.2.2.2.2.2.1 v4.2.2.2.2.2.2.2.1 v4.2.2.2.2.2.2.2.2.1 v4.2.2.2.2.2.2.2.2.2.1)] : (List Ex)) 0 v5.2.2.2.1 v8.1 v8.2.1 v8.2.2.1))))
  else
  (Option.bind (parse_comparison N v5.2.1) fun v9 =>
  (bif (decide (v5.1 = 5)) then
  (bif (!(decide (v9.1 = 0))) then
  (Option.bind (parse_parser_next N v6.2.1 v6.2.2.1 v6.2.2.2.1) fun v10 =>
  (parse_parser_test_o_r0 N _ (fun v11 v12 v13 v14 v15 v16 v17 v18 v19 v20 v21 v22 v23 v24 v25 v26 v27 v28 v29 v30 v31 v32 v33 v34 v35 v36 v37 v38 v39 =>
  (K v14 v15 v16 v17 v18 v19 v20 v21 v22 v23 v11 v12 v13)) v9.1 v10.2.2.2.2.2.2.1 v10.2.2.2.2.2.2.2.1 v10.2.2.2.2.2.2.2.2.1 0 0 0 [] [] [] 0 0 0 v4.1 v4.2.1 v4.2.2.1 v4.2.2.2.1 v4.2.2.2.2.1 v4.2.2.2.2.2.1 v4.2.2.2.2.2.2.1 v4.2.2.2.2.2.2.2.1 v4.2.2.2.2.2.2.2.2.1 v4.2.2.2.2.2.2.2.2.2.1 v5.1 v5.2.1 v5.2.2.1.1 v5.2.2.1.2.1 v5.2.2.1.2.2.1 v5.2.2.2.1))
  else
  (K v4.1 v4.2.1 v4.2.2.1 v4.2.2.2.1 v4.2.2.2.2.1 v4.2.2.2.2.2.1 v4.2.2.2.2.2.2.1 v4.2.2.2.2.2.2.2.1 v4.2.2.2.2.2.2.2.2.1 v4.2.2.2.2.2.2.2.2.2.1 v6.2.1 v6.2.2.1 v6.2.2.2.1))
  else
  (K v4.1 v4.2.1 v4.2.2.1 v4.2.2.2.1 v4.2.2.2.2.1 v4.2.2.2.2.2.1 v4.2.2.2.2.2.2.1 v4.2.2.2.2.2.2.2.1 v4.2.2.2.2.2.2.2.2.1 v4.2.2.2.2.2.2.2.2.2.1 v6.2.1 v6.2.2.1 v6.2.2.2.1))))))))

def parse_parser_test_o (N : Nat) (v1 : Q0) (v2 : Int) (v3 : Err) : Option Q2 := parse_parser_test_o_cps N _ (fun a0 a1 a2 a3 a4 a5 a6 a7 a8 a9 a10 a11 a12 => some (a0, (a1, (a2, (a3, (a4, (a5, (a6, (a7, (a8, (a9, (a10, (a11, (a12, ())))))))))))))) v1 v2 v3

/- (*frankpledge/parse.parser).within -/
def parse_parser_within_o_cps (N : Nat) (R : Type) (K : Int → Int → Int → (List UInt8) → (List UInt8) → (List UInt8) → Int → (List Ex) → Int → Int → Q0 → Int → Err → Option R) (v1 : Q0) (v2 : Int) (v3 : Err) : Option R :=
  (bif (decide (64 ≤ v2)) then
  (Option.bind (parse_parser_fail N 172 v1 v2 v3) fun v4 =>
  (bif (!(Err.isNil v4.2.2.1)) then
  (K 0 0 0 [] [] [] 0 [] 0 0 v4.1 v4.2.1 v4.2.2.1)
  else
  (Option.bind (Z_parse_parser_whole.r_parse_parser_not v4.1 (IntKind.wrap .i64 (v4.2.1 + 1)) v4.2.2.1) fun v5 =>
  (K v5.1 v5.2.1 v5.2.2.1 v5.2.2.2.1 v5.2.2.2.2.1 v5.2.2.2.2.2.1 v5.2.2.2.2.2.2.1 v5.2.2.2.2.2.2.2.1 v5.2.2.2.2.2.2.2.2.1 v5.2.2.2.2.2.2.2.2.2.1 v5.2.2.2.2.2.2.2.2.2.2.1 (IntKind.wrap .i64 (v5.2.2.2.2.2.2.2.2.2.2.2.1 - 1)) v5.2.2.2.2.2.2.2.2.2.2.2.2.1))))
  else
  (bif (!(Err.isNil v3)) then
  (K 0 0 0 [] [] [] 0 [] 0 0 v1 v2 v3)
  else
  (Option.bind (Z_parse_parser_whole.r_parse_parser_not v1 (IntKind.wrap .i64 (v2 + 1)) v3) fun v6 =>
  (K v6.1 v6.2.1 v6.2.2.1 v6.2.2.2.1 v6.2.2.2.2.1 v6.2.2.2.2.2.1 v6.2.2.2.2.2.2.1 v6.2.2.2.2.2.2.2.1 v6.2.2.2.2.2.2.2.2.1 v6.2.2.2.2.2.2.2.2.2.1 v6.2.2.2.2.2.2.2.2.2.2.1 (IntKind.wrap .i64 (v6.2.2.2.2.2.2.2.2.2.2.2.1 - 1)) v6.2.2.2.2.2.2.2.2.2.2.2.2.1))))

def parse_parser_within_o (N : Nat) (v1 : Q0) (v2 : Int) (v3 : Err) : Option Q2 := parse_parser_within_o_cps N _ (fun a0 a1 a2 a3 a4 a5 a6 a7 a8 a9 a10 a11 a12 => some (a0, (a1, (a2, (a3, (a4, (a5, (a6, (a7, (a8, (a9, (a10, (a11, (a12, ())))))))))))))) v1 v2 v3

/- (*frankpledge/parse.parser).not -/
def parse_parser_not_o_cps (N : Nat) (R : Type) (K : Int → Int → Int → (List UInt8) → (List UInt8) → (List UInt8) → Int → (List Ex) → Int → Int → Q0 → Int → Err → Option R) (v1 : Q0) (v2 : Int) (v3 : Err) : Option R :=
  (Option.bind (parse_parser_is N [110, 111, 116] v1 v2 v3) fun v4 =>
  (bif (!v4.1) then
  (Option.bind (parse_parser_test_o N v1 v2 v3) fun v5 =>
  (K v5.1 v5.2.1 v5.2.2.1 v5.2.2.2.1 v5.2.2.2.2.1 v5.2.2.2.2.2.1 v5.2.2.2.2.2.2.1 v5.2.2.2.2.2.2.2.1 v5.2.2.2.2.2.2.2.2.1 v5.2.2.2.2.2.2.2.2.2.1 v5.2.2.2.2.2.2.2.2.2.2.1 v5.2.2.2.2.2.2.2.2.2.2.2.1 v5.2.2.2.2.2.2.2.2.2.2.2.2.1))
  else
  (Option.bind (parse_parser_next N v1 v2 v3) fun v6 =>
  (Option.bind (parse_parser_within_o N v6.2.2.2.2.2.2.1 v6.2.2.2.2.2.2.2.1 v6.2.2.2.2.2.2.2.2.1) fun v7 =>
  (K 16 0 0 [] [] [] 0 ([(Ex.mk v7.1 v7.2.1 v7.2.2.1 v7.2.2.2.1 v7.2.2.2.2.1 v7.2.2.2.2.2.1 v7.2.2.2.2.2.2.1 v7.2.2.2.2.2.2.2.1 v7.2.2.2.2.2.2.2.2.1 v7.2.2.2.2.2.2.2.2.2.1)] : (List Ex)) 0 v6.2.2.2.2.2.1 v7.2.2.2.2.2.2.2.2.2.2.1 v7.2.2.2.2.2.2.2.2.2.2.2.1 v7.2.2.2.2.2.2.2.2.2.2.2.2.1)))))

def parse_parser_not_o (N : Nat) (v1 : Q0) (v2 : Int) (v3 : Err) : Option Q2 := parse_parser_not_o_cps N _ (fun a0 a1 a2 a3 a4 a5 a6 a7 a8 a9 a10 a11 a12 => some (a0, (a1, (a2, (a3, (a4, (a5, (a6, (a7, (a8, (a9, (a10, (a11, (a12, ())))))))))))))) v1 v2 v3

/- (*frankpledge/parse.parser).within -/
def parse_parser_within_1_o_cps (N : Nat) (R : Type) (K : Int → Int → Int → (List UInt8) → (List UInt8) → (List UInt8) → Int → (List Ex) → Int → Int → Q0 → Int → Err → Option R) (v1 : Q0) (v2 : Int) (v3 : Err) : Option R :=
  (bif (decide (64 ≤ v2)) then
  (Option.bind (parse_parser_fail N 172 v1 v2 v3) fun v4 =>
  (bif (!(Err.isNil v4.2.2.1)) then
  (K 0 0 0 [] [] [] 0 [] 0 0 v4.1 v4.2.1 v4.2.2.1)
  else
  (Option.bind (Z_parse_parser_whole.r_parse_parser_whole v4.1 (IntKind.wrap .i64 (v4.2.1 + 1)) v4.2.2.1) fun v5 =>
  (K v5.1 v5.2.1 v5.2.2.1 v5.2.2.2.1 v5.2.2.2.2.1 v5.2.2.2.2.2.1 v5.2.2.2.2.2.2.1 v5.2.2.2.2.2.2.2.1 v5.2.2.2.2.2.2.2.2.1 v5.2.2.2.2.2.2.2.2.2.1 v5.2.2.2.2.2.2.2.2.2.2.1 (IntKind.wrap .i64 (v5.2.2.2.2.2.2.2.2.2.2.2.1 - 1)) v5.2.2.2.2.2.2.2.2.2.2.2.2.1))))
  else
  (bif (!(Err.isNil v3)) then
  (K 0 0 0 [] [] [] 0 [] 0 0 v1 v2 v3)
  else
  (Option.bind (Z_parse_parser_whole.r_parse_parser_whole v1 (IntKind.wrap .i64 (v2 + 1)) v3) fun v6 =>
  (K v6.1 v6.2.1 v6.2.2.1 v6.2.2.2.1 v6.2.2.2.2.1 v6.2.2.2.2.2.1 v6.2.2.2.2.2.2.1 v6.2.2.2.2.2.2.2.1 v6.2.2.2.2.2.2.2.2.1 v6.2.2.2.2.2.2.2.2.2.1 v6.2.2.2.2.2.2.2.2.2.2.1 (IntKind.wrap .i64 (v6.2.2.2.2.2.2.2.2.2.2.2.1 - 1)) v6.2.2.2.2.2.2.2.2.2.2.2.2.1))))

def parse_parser_within_1_o (N : Nat) (v1 : Q0) (v2 : Int) (v3 : Err) : Option Q2 := parse_parser_within_1_o_cps N _ (fun a0 a1 a2 a3 a4 a5 a6 a7 a8 a9 a10 a11 a12 => some (a0, (a1, (a2, (a3, (a4, (a5, (a6, (a7, (a8, (a9, (a10, (a11, (a12, ())))))))))))))) v1 v2 v3

/- (*frankpledge/parse.parser).inner -/
def parse_parser_inner_o_cps (N : Nat) (R : Type) (K : Int → Int → Int → (List UInt8) → (List UInt8) → (List UInt8) → Int → (List Ex) → Int → Int → Q0 → Int → Err → Option R) (v1 : Q0) (v2 : Int) (v3 : Err) : Option R :=
  (Option.bind (parse_parser_want N ([[40]] : (List (List UInt8))) v1 v2 v3) fun v4 =>
  (Option.bind (parse_parser_within_1_o N v4.1 v4.2.1 v4.2.2.1) fun v5 =>
  (Option.bind (parse_parser_want N ([[41]] : (List (List UInt8))) v5.2.2.2.2.2.2.2.2.2.2.1 v5.2.2.2.2.2.2.2.2.2.2.2.1 v5.2.2.2.2.2.2.2.2.2.2.2.2.1) fun v6 =>
  (K v5.1 v5.2.1 v5.2.2.1 v5.2.2.2.1 v5.2.2.2.2.1 v5.2.2.2.2.2.1 v5.2.2.2.2.2.2.1 v5.2.2.2.2.2.2.2.1 v5.2.2.2.2.2.2.2.2.1 v5.2.2.2.2.2.2.2.2.2.1 v6.1 v6.2.1 v6.2.2.1))))

def parse_parser_inner_o (N : Nat) (v1 : Q0) (v2 : Int) (v3 : Err) : Option Q2 := parse_parser_inner_o_cps N _ (fun a0 a1 a2 a3 a4 a5 a6 a7 a8 a9 a10 a11 a12 => some (a0, (a1, (a2, (a3, (a4, (a5, (a6, (a7, (a8, (a9, (a10, (a11, (a12, ())))))))))))))) v1 v2 v3

/- (*frankpledge/parse.parser).word -/
def parse_parser_word_o_r1 (N : Nat) (R : Type) (k0 : Q0 → Int → Err → Int → (List UInt8) → Int → Int → (List UInt8) → Int → Int → Int → Int → (List UInt8) → (List UInt8) → (List UInt8) → Int → (List Ex) → Int → Int → Int → Int → Int → (List UInt8) → (List UInt8) → (List UInt8) → Int → Int → Int → Int → Int → Int → (List UInt8) → (List UInt8) → (List UInt8) → Int → Int → Int → Option R) (v415 : Q0) (v416 : Int) (v417 : Err) (v418 : Int) (v419 : (List UInt8)) (v420 : Int) (v421 : Int) (v422 : (List UInt8)) (v423 : Int) (v424 : Int) (v425 : Int) (v426 : Int) (v427 : (List UInt8)) (v428 : (List UInt8)) (v429 : (List UInt8)) (v430 : Int) (v431 : (List Ex)) (v432 : Int) (v433 : Int) (v434 : Int) (v435 : Int) (v436 : Int) (v437 : (List UInt8)) (v438 : (List UInt8)) (v439 : (List UInt8)) (v440 : Int) (v441 : Int) (v442 : Int) (v443 : Int) (v444 : Int) (v445 : Int) (v446 : (List UInt8)) (v447 : (List UInt8)) (v448 : (List UInt8)) (v449 : Int) (v450 : Int) (v451 : Int) : Option R :=
  (Option.bind (parse_parser_name N v415 v416 v417) fun v452 =>
  (k0 v452.2.1 v452.2.2.1 v452.2.2.2.1 v418 v419 v420 v421 v422 v423 v424 v425 v426 v427 v428 v429 v430 v431 v432 v433 v434 v435 v436 v437 v438 v439 v440 v441 v442 v443 v444 v445 v446 v448 v452.1 v449 v450 v451))

def parse_parser_word_o_j0 (N : Nat) (R : Type) (k0 : Q0 → Int → Err → Int → (List UInt8) → Int → Int → (List UInt8) → Int → Int → Int → Int → (List UInt8) → (List UInt8) → (List UInt8) → Int → (List Ex) → Int → Int → Int → Int → Int → (List UInt8) → (List UInt8) → (List UInt8) → Int → Int → Int → Int → Int → Int → (List UInt8) → (List UInt8) → (List UInt8) → Int → Int → Int → Option R) (k1 : Q0 → Int → Err → Int → (List UInt8) → Int → Int → (List UInt8) → Int → Int → Int → Int → (List UInt8) → (List UInt8) → (List UInt8) → Int → (List Ex) → Int → Int → Int → Int → Int → (List UInt8) → (List UInt8) → (List UInt8) → Int → Int → Int → Int → Int → Int → (List UInt8) → (List UInt8) → (List UInt8) → Int → Int → Int → Option R) (v376 : Bool) (v377 : Q0) (v378 : Int) (v379 : Err) (v380 : Int) (v381 : (List UInt8)) (v382 : Int) (v383 : Int) (v384 : (List UInt8)) (v385 : Int) (v386 : Int) (v387 : Int) (v388 : Int) (v389 : (List UInt8)) (v390 : (List UInt8)) (v391 : (List UInt8)) (v392 : Int) (v393 : (List Ex)) (v394 : Int) (v395 : Int) (v396 : Int) (v397 : Int) (v398 : Int) (v399 : (List UInt8)) (v400 : (List UInt8)) (v401 : (List UInt8)) (v402 : Int) (v403 : Int) (v404 : Int) (v405 : Int) (v406 : Int) (v407 : Int) (v408 : (List UInt8)) (v409 : (List UInt8)) (v410 : (List UInt8)) (v411 : Int) (v412 : Int) (v413 : Int) : Option R :=
  (bif v376 then
  (bif (decide (0 ≤ (3 : Int) ∧ (3 : Int) ≤ ((v377.length : Nat) : Int))) then
  (Option.bind (parse_parser_want N ([[41]] : (List (List UInt8))) (List.drop 3 (List.take v377.length v377)) v378 v379) fun v414 =>
  (k1 v414.1 v414.2.1 v414.2.2.1 v380 v381 v382 v383 v384 v385 v386 v387 v388 v389 v390 v391 v392 v393 v394 v395 18 v406 v407 v408 v409 v410 v411 v412 v413 18 v406 v407 v408 v409 v410 v411 v412 v413))
  else
  none)
  else
  (k0 v377 v378 v379 v380 v381 v382 v383 v384 v385 v386 v387 v388 v389 v390 v391 v392 v393 v394 v395 v396 v397 v398 v399 v400 v401 v402 v403 v404 v405 v406 v407 v408 v409 v410 v411 v412 v413))

def parse_parser_word_o_cps (N : Nat) (R : Type) (K : Int → Int → Int → (List UInt8) → (List UInt8) → (List UInt8) → Int → (List Ex) → Int → Int → Q0 → Int → Err → Option R) (v1 : Int) (v2 : (List UInt8)) (v3 : Int) (v4 : Int) (v5 : (List UInt8)) (v6 : Int) (v7 : Int) (v8 : Int) (v9 : Int) (v10 : (List UInt8)) (v11 : (List UInt8)) (v12 : (List UInt8)) (v13 : Int) (v14 : (List Ex)) (v15 : Int) (v16 : Int) (v17 : Q0) (v18 : Int) (v19 : Err) : Option R :=
  (bif (decide (v2 = [116, 114, 117, 101])) then
  (Option.bind (parse_parser_next N v17 v18 v19) fun v20 =>
  (K v7 1 1 v10 v11 v12 v13 v14 v15 v16 v20.2.2.2.2.2.2.1 v20.2.2.2.2.2.2.2.1 v20.2.2.2.2.2.2.2.2.1))
  else
  (bif (decide (v2 = [102, 97, 108, 115, 101])) then
  (Option.bind (parse_parser_next N v17 v18 v19) fun v21 =>
  (K v7 1 v9 v10 v11 v12 v13 v14 v15 v16 v21.2.2.2.2.2.2.1 v21.2.2.2.2.2.2.2.1 v21.2.2.2.2.2.2.2.2.1))
  else
  (bif (decide (v2 = [110, 117, 108, 108])) then
  (Option.bind (parse_parser_next N v17 v18 v19) fun v22 =>
  (K v7 v8 v9 v10 v11 v12 v13 v14 v15 v16 v22.2.2.2.2.2.2.1 v22.2.2.2.2.2.2.2.1 v22.2.2.2.2.2.2.2.2.1))
  else
  (bif (decide (v2 = [99, 111, 117, 110, 116])) then
  (Option.bind (nth v17 1) fun v23 =>
  (bif (decide (v23.1 = 5)) then
  (Option.bind (nth v17 1) fun v24 =>
  (bif (decide (v24.2.1 = [40])) then
  (Option.bind (nth v17 2) fun v25 =>
  (bif (decide (v25.1 = 5)) then
  (Option.bind (nth v17 2) fun v26 =>
  (parse_parser_word_o_j0 N _ (fun v27 v28 v29 v30 v31 v32 v33 v34 v35 v36 v37 v38 v39 v40 v41 v42 v43 v44 v45 v46 v47 v48 v49 v50 v51 v52 v53 v54 v55 v56 v57 v58 v59 v60 v61 v62 v63 =>
  (Option.bind (parse_parser_next N v27 v28 v29) fun v64 =>
  (Option.bind (parse_parser_inner_o N v64.2.2.2.2.2.2.1 v64.2.2.2.2.2.2.2.1 v64.2.2.2.2.2.2.2.2.1) fun v65 =>
  (K 18 v56 v57 v58 v59 v60 v61 ([(Ex.mk v65.1 v65.2.1 v65.2.2.1 v65.2.2.2.1 v65.2.2.2.2.1 v65.2.2.2.2.2.1 v65.2.2.2.2.2.2.1 v65.2.2.2.2.2.2.2.1 v65.2.2.2.2.2.2.2.2.1 v65.2.2.2.2.2.2.2.2.2.1)] : (List Ex)) v62 v63 v65.2.2.2.2.2.2.2.2.2.2.1 v65.2.2.2.2.2.2.2.2.2.2.2.1 v65.2.2.2.2.2.2.2.2.2.2.2.2.1)))) (fun v66 v67 v68 v69 v70 v71 v72 v73 v74 v75 v76 v77 v78 v79 v80 v81 v82 v83 v84 v85 v86 v87 v88 v89 v90 v91 v92 v93 v94 v95 v96 v97 v98 v99 v100 v101 v102 =>
  (K v85 v86 v87 v88 v89 v90 v91 [] v92 v93 v66 v67 v68)) (decide (v26.2.1 = [42])) v17 v18 v19 v1 v2 v3 v4 v5 v6 v7 v8 v9 v10 v11 v12 v13 v14 v15 v16 0 0 0 [] [] [] 0 0 0 0 0 0 [] [] [] 0 0 v6))
  else
  (parse_parser_word_o_j0 N _ (fun v103 v104 v105 v106 v107 v108 v109 v110 v111 v112 v113 v114 v115 v116 v117 v118 v119 v120 v121 v122 v123 v124 v125 v126 v127 v128 v129 v130 v131 v132 v133 v134 v135 v136 v137 v138 v139 =>
  (Option.bind (parse_parser_next N v103 v104 v105) fun v140 =>
  (Option.bind (parse_parser_inner_o N v140.2.2.2.2.2.2.1 v140.2.2.2.2.2.2.2.1 v140.2.2.2.2.2.2.2.2.1) fun v141 =>
  (K 18 v132 v133 v134 v135 v136 v137 ([(Ex.mk v141.1 v141.2.1 v141.2.2.1 v141.2.2.2.1 v141.2.2.2.2.1 v141.2.2.2.2.2.1 v141.2.2.2.2.2.2.1 v141.2.2.2.2.2.2.2.1 v141.2.2.2.2.2.2.2.2.1 v141.2.2.2.2.2.2.2.2.2.1)] : (List Ex)) v138 v139 v141.2.2.2.2.2.2.2.2.2.2.1 v141.2.2.2.2.2.2.2.2.2.2.2.1 v141.2.2.2.2.2.2.2.2.2.2.2.2.1)))) (fun v142 v143 v144 v145 v146 v147 v148 v149 v150 v151 v152 v153 v154 v155 v156 v157 v158 v159 v160 v161 v162 v163 v164 v165 v166 v167 v168 v169 v170 v171 v172 v173 v174 v175 v176 v177 v178 =>
  (K v161 v162 v163 v164 v165 v166 v167 [] v168 v169 v142 v143 v144)) false v17 v18 v19 v1 v2 v3 v4 v5 v6 v7 v8 v9 v10 v11 v12 v13 v14 v15 v16 0 0 0 [] [] [] 0 0 0 0 0 0 [] [] [] 0 0 v6)))
  else
  (parse_parser_word_o_j0 N _ (fun v179 v180 v181 v182 v183 v184 v185 v186 v187 v188 v189 v190 v191 v192 v193 v194 v195 v196 v197 v198 v199 v200 v201 v202 v203 v204 v205 v206 v207 v208 v209 v210 v211 v212 v213 v214 v215 =>
  (Option.bind (parse_parser_next N v179 v180 v181) fun v216 =>
  (Option.bind (parse_parser_inner_o N v216.2.2.2.2.2.2.1 v216.2.2.2.2.2.2.2.1 v216.2.2.2.2.2.2.2.2.1) fun v217 =>
  (K 18 v208 v209 v210 v211 v212 v213 ([(Ex.mk v217.1 v217.2.1 v217.2.2.1 v217.2.2.2.1 v217.2.2.2.2.1 v217.2.2.2.2.2.1 v217.2.2.2.2.2.2.1 v217.2.2.2.2.2.2.2.1 v217.2.2.2.2.2.2.2.2.1 v217.2.2.2.2.2.2.2.2.2.1)] : (List Ex)) v214 v215 v217.2.2.2.2.2.2.2.2.2.2.1 v217.2.2.2.2.2.2.2.2.2.2.2.1 v217.2.2.2.2.2.2.2.2.2.2.2.2.1)))) (fun v218 v219 v220 v221 v222 v223 v224 v225 v226 v227 v228 v229 v230 v231 v232 v233 v234 v235 v236 v237 v238 v239 v240 v241 v242 v243 v244 v245 v246 v247 v248 v249 v250 v251 v252 v253 v254 =>
  (K v237 v238 v239 v240 v241 v242 v243 [] v244 v245 v218 v219 v220)) false v17 v18 v19 v1 v2 v3 v4 v5 v6 v7 v8 v9 v10 v11 v12 v13 v14 v15 v16 0 0 0 [] [] [] 0 0 0 0 0 0 [] [] [] 0 0 v6)))
  else
  (parse_parser_word_o_j0 N _ (fun v255 v256 v257 v258 v259 v260 v261 v262 v263 v264 v265 v266 v267 v268 v269 v270 v271 v272 v273 v274 v275 v276 v277 v278 v279 v280 v281 v282 v283 v284 v285 v286 v287 v288 v289 v290 v291 =>
  (Option.bind (parse_parser_next N v255 v256 v257) fun v292 =>
  (Option.bind (parse_parser_inner_o N v292.2.2.2.2.2.2.1 v292.2.2.2.2.2.2.2.1 v292.2.2.2.2.2.2.2.2.1) fun v293 =>
  (K 18 v284 v285 v286 v287 v288 v289 ([(Ex.mk v293.1 v293.2.1 v293.2.2.1 v293.2.2.2.1 v293.2.2.2.2.1 v293.2.2.2.2.2.1 v293.2.2.2.2.2.2.1 v293.2.2.2.2.2.2.2.1 v293.2.2.2.2.2.2.2.2.1 v293.2.2.2.2.2.2.2.2.2.1)] : (List Ex)) v290 v291 v293.2.2.2.2.2.2.2.2.2.2.1 v293.2.2.2.2.2.2.2.2.2.2.2.1 v293.2.2.2.2.2.2.2.2.2.2.2.2.1)))) (fun v294 v295 v296 v297 v298 v299 v300 v301 v302 v303 v304 v305 v306 v307 v308 v309 v310 v311 v312 v313 v314 v315 v316 v317 v318 v319 v320 v321 v322 v323 v324 v325 v326 v327 v328 v329 v330 =>
  (K v313 v314 v315 v316 v317 v318 v319 [] v320 v321 v294 v295 v296)) false v17 v18 v19 v1 v2 v3 v4 v5 v6 v7 v8 v9 v10 v11 v12 v13 v14 v15 v16 0 0 0 [] [] [] 0 0 0 0 0 0 [] [] [] 0 0 v6)))
  else
  (bif (decide (v2 = [115, 117, 109])) then
  (Option.bind (parse_parser_next N v17 v18 v19) fun v331 =>
  (Option.bind (parse_parser_inner_o N v331.2.2.2.2.2.2.1 v331.2.2.2.2.2.2.2.1 v331.2.2.2.2.2.2.2.2.1) fun v332 =>
  (K 19 0 0 [] [] [] 0 ([(Ex.mk v332.1 v332.2.1 v332.2.2.1 v332.2.2.2.1 v332.2.2.2.2.1 v332.2.2.2.2.2.1 v332.2.2.2.2.2.2.1 v332.2.2.2.2.2.2.2.1 v332.2.2.2.2.2.2.2.2.1 v332.2.2.2.2.2.2.2.2.2.1)] : (List Ex)) 0 v6 v332.2.2.2.2.2.2.2.2.2.2.1 v332.2.2.2.2.2.2.2.2.2.2.2.1 v332.2.2.2.2.2.2.2.2.2.2.2.2.1)))
  else
  (bif (decide (v2 = [109, 105, 110])) then
  (Option.bind (parse_parser_next N v17 v18 v19) fun v333 =>
  (Option.bind (parse_parser_inner_o N v333.2.2.2.2.2.2.1 v333.2.2.2.2.2.2.2.1 v333.2.2.2.2.2.2.2.2.1) fun v334 =>
  (K 20 0 0 [] [] [] 0 ([(Ex.mk v334.1 v334.2.1 v334.2.2.1 v334.2.2.2.1 v334.2.2.2.2.1 v334.2.2.2.2.2.1 v334.2.2.2.2.2.2.1 v334.2.2.2.2.2.2.2.1 v334.2.2.2.2.2.2.2.2.1 v334.2.2.2.2.2.2.2.2.2.1)] : (List Ex)) 0 v6 v334.2.2.2.2.2.2.2.2.2.2.1 v334.2.2.2.2.2.2.2.2.2.2.2.1 v334.2.2.2.2.2.2.2.2.2.2.2.2.1)))
  else
  (bif (decide (v2 = [109, 97, 120])) then
  (Option.bind (parse_parser_next N v17 v18 v19) fun v335 =>
  (Option.bind (parse_parser_inner_o N v335.2.2.2.2.2.2.1 v335.2.2.2.2.2.2.2.1 v335.2.2.2.2.2.2.2.2.1) fun v336 =>
  (K 21 0 0 [] [] [] 0 ([(Ex.mk v336.1 v336.2.1 v336.2.2.1 v336.2.2.2.1 v336.2.2.2.2.1 v336.2.2.2.2.2.1 v336.2.2.2.2.2.2.1 v336.2.2.2.2.2.2.2.1 v336.2.2.2.2.2.2.2.2.1 v336.2.2.2.2.2.2.2.2.2.1)] : (List Ex)) 0 v6 v336.2.2.2.2.2.2.2.2.2.2.1 v336.2.2.2.2.2.2.2.2.2.2.2.1 v336.2.2.2.2.2.2.2.2.2.2.2.2.1)))
  else
  (Option.bind (parse_parser_name N v17 v18 v19) fun v337 =>
  (Option.bind (parse_parser_take N [46] v337.2.1 v337.2.2.1 v337.2.2.2.1) fun v338 =>
  (bif v338.1 then
  (parse_parser_word_o_r1 N _ (fun v339 v340 v341 v342 v343 v344 v345 v346 v347 v348 v349 v350 v351 v352 v353 v354 v355 v356 v357 v358 v359 v360 v361 v362 v363 v364 v365 v366 v367 v368 v369 v370 v371 v372 v373 v374 v375 =>
  (K v367 v368 v369 v370 v371 v372 v373 [] v374 v375 v339 v340 v341)) v338.2.1 v338.2.2.1 v338.2.2.2.1 v1 v2 v3 v4 v5 v6 v7 v8 v9 v10 v11 v12 v13 v14 v15 v16 0 0 0 [] [] [] 0 0 0 2 0 0 [] [] v337.1 0 0 v6)
  else
  (K 2 0 0 [] [] v337.1 0 [] 0 v6 v338.2.1 v338.2.2.1 v338.2.2.2.1)))))))))))

def parse_parser_word_o (N : Nat) (v1 : Int) (v2 : (List UInt8)) (v3 : Int) (v4 : Int) (v5 : (List UInt8)) (v6 : Int) (v7 : Int) (v8 : Int) (v9 : Int) (v10 : (List UInt8)) (v11 : (List UInt8)) (v12 : (List UInt8)) (v13 : Int) (v14 : (List Ex)) (v15 : Int) (v16 : Int) (v17 : Q0) (v18 : Int) (v19 : Err) : Option Q2 := parse_parser_word_o_cps N _ (fun a0 a1 a2 a3 a4 a5 a6 a7 a8 a9 a10 a11 a12 => some (a0, (a1, (a2, (a3, (a4, (a5, (a6, (a7, (a8, (a9, (a10, (a11, (a12, ())))))))))))))) v1 v2 v3 v4 v5 v6 v7 v8 v9 v10 v11 v12 v13 v14 v15 v16 v17 v18 v19

/- (*frankpledge/parse.parser).one -/
def parse_parser_one_o_cps (N : Nat) (R : Type) (K : Int → Int → Int → (List UInt8) → (List UInt8) → (List UInt8) → Int → (List Ex) → Int → Int → Q0 → Int → Err → Option R) (v1 : Q0) (v2 : Int) (v3 : Err) : Option R :=
  (bif (!(Err.isNil v3)) then
  (K 0 0 0 [] [] [] 0 [] 0 0 v1 v2 v3)
  else
  (Option.bind (nth v1 0) fun v4 =>
  (bif (decide (v4.1 = 2)) then
  (Option.bind (parse_parser_next N v1 v2 v3) fun v5 =>
  (K 1 v4.2.2.1.1 v4.2.2.1.2.1 v4.2.2.1.2.2.1 [] [] 0 [] 0 v4.2.2.2.1 v5.2.2.2.2.2.2.1 v5.2.2.2.2.2.2.2.1 v5.2.2.2.2.2.2.2.2.1))
  else
  (bif (decide (v4.1 = 3)) then
  (Option.bind (parse_parser_next N v1 v2 v3) fun v6 =>
  (K 1 v4.2.2.1.1 v4.2.2.1.2.1 v4.2.2.1.2.2.1 [] [] 0 [] 0 v4.2.2.2.1 v6.2.2.2.2.2.2.1 v6.2.2.2.2.2.2.2.1 v6.2.2.2.2.2.2.2.2.1))
  else
  (bif (decide (v4.1 = 4)) then
  (Option.bind (parse_parser_next N v1 v2 v3) fun v7 =>
  (K 1 v4.2.2.1.1 v4.2.2.1.2.1 v4.2.2.1.2.2.1 [] [] 0 [] 0 v4.2.2.2.1 v7.2.2.2.2.2.2.1 v7.2.2.2.2.2.2.2.1 v7.2.2.2.2.2.2.2.2.1))
  else
  (bif (decide (v4.1 = 5)) then
  (bif (decide (v4.2.1 = [40])) then
  (Option.bind (parse_parser_inner_o N v1 v2 v3) fun v8 =>
  (K v8.1 v8.2.1 v8.2.2.1 v8.2.2.2.1 v8.2.2.2.2.1 v8.2.2.2.2.2.1 v8.2.2.2.2.2.2.1 v8.2.2.2.2.2.2.2.1 v8.2.2.2.2.2.2.2.2.1 v8.2.2.2.2.2.2.2.2.2.1 v8.2.2.2.2.2.2.2.2.2.2.1 v8.2.2.2.2.2.2.2.2.2.2.2.1 v8.2.2.2.2.2.2.2.2.2.2.2.2.1))
  else
  (Option.bind (parse_parser_fail N 171 v1 v2 v3) fun v9 =>
  (K 0 0 0 [] [] [] 0 [] 0 0 v9.1 v9.2.1 v9.2.2.1)))
  else
  (bif (decide (v4.1 = 1)) then
  (Option.bind (parse_parser_word_o N v4.1 v4.2.1 v4.2.2.1.1 v4.2.2.1.2.1 v4.2.2.1.2.2.1 v4.2.2.2.1 1 v4.2.2.1.1 v4.2.2.1.2.1 v4.2.2.1.2.2.1 [] [] 0 [] 0 v4.2.2.2.1 v1 v2 v3) fun v10 =>
  (K v10.1 v10.2.1 v10.2.2.1 v10.2.2.2.1 v10.2.2.2.2.1 v10.2.2.2.2.2.1 v10.2.2.2.2.2.2.1 v10.2.2.2.2.2.2.2.1 v10.2.2.2.2.2.2.2.2.1 v10.2.2.2.2.2.2.2.2.2.1 v10.2.2.2.2.2.2.2.2.2.2.1 v10.2.2.2.2.2.2.2.2.2.2.2.1 v10.2.2.2.2.2.2.2.2.2.2.2.2.1))
  else
  (Option.bind (parse_parser_fail N 171 v1 v2 v3) fun v11 =>
  (K 0 0 0 [] [] [] 0 [] 0 0 v11.1 v11.2.1 v11.2.2.1)))))))))

def parse_parser_one_o (N : Nat) (v1 : Q0) (v2 : Int) (v3 : Err) : Option Q2 := parse_parser_one_o_cps N _ (fun a0 a1 a2 a3 a4 a5 a6 a7 a8 a9 a10 a11 a12 => some (a0, (a1, (a2, (a3, (a4, (a5, (a6, (a7, (a8, (a9, (a10, (a11, (a12, ())))))))))))))) v1 v2 v3

/- (*frankpledge/parse.parser).within -/
def parse_parser_within_2_o_cps (N : Nat) (R : Type) (K : Int → Int → Int → (List UInt8) → (List UInt8) → (List UInt8) → Int → (List Ex) → Int → Int → Q0 → Int → Err → Option R) (v1 : Q0) (v2 : Int) (v3 : Err) : Option R :=
  (bif (decide (64 ≤ v2)) then
  (Option.bind (parse_parser_fail N 172 v1 v2 v3) fun v4 =>
  (bif (!(Err.isNil v4.2.2.1)) then
  (K 0 0 0 [] [] [] 0 [] 0 0 v4.1 v4.2.1 v4.2.2.1)
  else
  (Option.bind (Z_parse_parser_whole.r_parse_parser_sign v4.1 (IntKind.wrap .i64 (v4.2.1 + 1)) v4.2.2.1) fun v5 =>
  (K v5.1 v5.2.1 v5.2.2.1 v5.2.2.2.1 v5.2.2.2.2.1 v5.2.2.2.2.2.1 v5.2.2.2.2.2.2.1 v5.2.2.2.2.2.2.2.1 v5.2.2.2.2.2.2.2.2.1 v5.2.2.2.2.2.2.2.2.2.1 v5.2.2.2.2.2.2.2.2.2.2.1 (IntKind.wrap .i64 (v5.2.2.2.2.2.2.2.2.2.2.2.1 - 1)) v5.2.2.2.2.2.2.2.2.2.2.2.2.1))))
  else
  (bif (!(Err.isNil v3)) then
  (K 0 0 0 [] [] [] 0 [] 0 0 v1 v2 v3)
  else
  (Option.bind (Z_parse_parser_whole.r_parse_parser_sign v1 (IntKind.wrap .i64 (v2 + 1)) v3) fun v6 =>
  (K v6.1 v6.2.1 v6.2.2.1 v6.2.2.2.1 v6.2.2.2.2.1 v6.2.2.2.2.2.1 v6.2.2.2.2.2.2.1 v6.2.2.2.2.2.2.2.1 v6.2.2.2.2.2.2.2.2.1 v6.2.2.2.2.2.2.2.2.2.1 v6.2.2.2.2.2.2.2.2.2.2.1 (IntKind.wrap .i64 (v6.2.2.2.2.2.2.2.2.2.2.2.1 - 1)) v6.2.2.2.2.2.2.2.2.2.2.2.2.1))))

def parse_parser_within_2_o (N : Nat) (v1 : Q0) (v2 : Int) (v3 : Err) : Option Q2 := parse_parser_within_2_o_cps N _ (fun a0 a1 a2 a3 a4 a5 a6 a7 a8 a9 a10 a11 a12 => some (a0, (a1, (a2, (a3, (a4, (a5, (a6, (a7, (a8, (a9, (a10, (a11, (a12, ())))))))))))))) v1 v2 v3

/- (*frankpledge/parse.parser).sign -/
def parse_parser_sign_o_cps (N : Nat) (R : Type) (K : Int → Int → Int → (List UInt8) → (List UInt8) → (List UInt8) → Int → (List Ex) → Int → Int → Q0 → Int → Err → Option R) (v1 : Q0) (v2 : Int) (v3 : Err) : Option R :=
  (Option.bind (parse_parser_is N [45] v1 v2 v3) fun v4 =>
  (bif (!v4.1) then
  (Option.bind (parse_parser_one_o N v1 v2 v3) fun v5 =>
  (K v5.1 v5.2.1 v5.2.2.1 v5.2.2.2.1 v5.2.2.2.2.1 v5.2.2.2.2.2.1 v5.2.2.2.2.2.2.1 v5.2.2.2.2.2.2.2.1 v5.2.2.2.2.2.2.2.2.1 v5.2.2.2.2.2.2.2.2.2.1 v5.2.2.2.2.2.2.2.2.2.2.1 v5.2.2.2.2.2.2.2.2.2.2.2.1 v5.2.2.2.2.2.2.2.2.2.2.2.2.1))
  else
  (Option.bind (parse_parser_next N v1 v2 v3) fun v6 =>
  (Option.bind (parse_parser_within_2_o N v6.2.2.2.2.2.2.1 v6.2.2.2.2.2.2.2.1 v6.2.2.2.2.2.2.2.2.1) fun v7 =>
  (K 7 0 0 [] [] [] 0 ([(Ex.mk v7.1 v7.2.1 v7.2.2.1 v7.2.2.2.1 v7.2.2.2.2.1 v7.2.2.2.2.2.1 v7.2.2.2.2.2.2.1 v7.2.2.2.2.2.2.2.1 v7.2.2.2.2.2.2.2.2.1 v7.2.2.2.2.2.2.2.2.2.1)] : (List Ex)) 0 v6.2.2.2.2.2.1 v7.2.2.2.2.2.2.2.2.2.2.1 v7.2.2.2.2.2.2.2.2.2.2.2.1 v7.2.2.2.2.2.2.2.2.2.2.2.2.1)))))

def parse_parser_sign_o (N : Nat) (v1 : Q0) (v2 : Int) (v3 : Err) : Option Q2 := parse_parser_sign_o_cps N _ (fun a0 a1 a2 a3 a4 a5 a6 a7 a8 a9 a10 a11 a12 => some (a0, (a1, (a2, (a3, (a4, (a5, (a6, (a7, (a8, (a9, (a10, (a11, (a12, ())))))))))))))) v1 v2 v3

/- (*frankpledge/parse.parser).expr -/
def parse_parser_expr_o_r1 (N : Nat) (R : Type) (k0 : Int → Q0 → Int → Err → Int → Int → Int → (List UInt8) → (List UInt8) → (List UInt8) → Int → Int → Int → Int → Int → Int → (List UInt8) → (List UInt8) → (List UInt8) → Int → (List Ex) → Int → Int → Option R) (v79 : Int) (v80 : Int) (v81 : Int) (v82 : Q0) (v83 : Int) (v84 : Err) (v85 : Int) (v86 : Int) (v87 : Int) (v88 : (List UInt8)) (v89 : (List UInt8)) (v90 : (List UInt8)) (v91 : Int) (v92 : Int) (v93 : Int) (v94 : Int) (v95 : Int) (v96 : Int) (v97 : (List UInt8)) (v98 : (List UInt8)) (v99 : (List UInt8)) (v100 : Int) (v101 : (List Ex)) (v102 : Int) (v103 : Int) : Option R :=
  (Option.bind (Z_parse_parser_whole.r_parse_parser_expr (IntKind.wrap .i64 (v79 + 1)) v82 v83 v84) fun v104 =>
  (k0 v79 v104.2.2.2.2.2.2.2.2.2.2.1 v104.2.2.2.2.2.2.2.2.2.2.2.1 v104.2.2.2.2.2.2.2.2.2.2.2.2.1 v85 v86 v87 v88 v89 v90 v91 v92 v93 v80 0 0 [] [] [] 0 ([(Ex.mk v94 v95 v96 v97 v98 v99 v100 v101 v102 v103), (Ex.mk v104.1 v104.2.1 v104.2.2.1 v104.2.2.2.1 v104.2.2.2.2.1 v104.2.2.2.2.2.1 v104.2.2.2.2.2.2.1 v104.2.2.2.2.2.2.2.1 v104.2.2.2.2.2.2.2.2.1 v104.2.2.2.2.2.2.2.2.2.1)] : (List Ex)) 0 v81))

def parse_parser_expr_o_l0B (N : Nat) (R : Type) (rec : Int → Q0 → Int → Err → Int → Int → Int → (List UInt8) → (List UInt8) → (List UInt8) → Int → Int → Int → Int → Int → Int → (List UInt8) → (List UInt8) → (List UInt8) → Int → (List Ex) → Int → Int → Option R) (k0 : Q0 → Int → Err → Int → Int → Int → (List UInt8) → (List UInt8) → (List UInt8) → Int → Int → Int → Int → Int → Int → (List UInt8) → (List UInt8) → (List UInt8) → Int → (List Ex) → Int → Int → Option R) (v30 : Int) (v31 : Q0) (v32 : Int) (v33 : Err) (v34 : Int) (v35 : Int) (v36 : Int) (v37 : (List UInt8)) (v38 : (List UInt8)) (v39 : (List UInt8)) (v40 : Int) (v41 : Int) (v42 : Int) (v43 : Int) (v44 : Int) (v45 : Int) (v46 : (List UInt8)) (v47 : (List UInt8)) (v48 : (List UInt8)) (v49 : Int) (v50 : (List Ex)) (v51 : Int) (v52 : Int) : Option R :=
  (bif (Err.isNil v33) then
  (Option.bind (nth v31 0) fun v53 =>
  (Option.bind (parse_op N v53.1 v53.2.1 v53.2.2.1.1 v53.2.2.1.2.1 v53.2.2.1.2.2.1 v53.2.2.2.1 v30) fun v54 =>
  (bif (decide (v54.1 = 0)) then
  (k0 v31 v32 v33 v34 v35 v36 v37 v38 v39 v40 v41 v42 v43 v44 v45 v46 v47 v48 v49 v50 v51 v52)
  else
  (Option.bind (parse_parser_next N v31 v32 v33) fun v55 =>
  (parse_parser_expr_o_r1 N _ (fun v56 v57 v58 v59 v60 v61 v62 v63 v64 v65 v66 v67 v68 v69 v70 v71 v72 v73 v74 v75 v76 v77 v78 =>
  (rec v56 v57 v58 v59 v60 v61 v62 v63 v64 v65 v66 v67 v68 v69 v70 v71 v72 v73 v74 v75 v76 v77 v78)) v30 v54.1 v55.2.2.2.2.2.1 v55.2.2.2.2.2.2.1 v55.2.2.2.2.2.2.2.1 v55.2.2.2.2.2.2.2.2.1 v34 v35 v36 v37 v38 v39 v40 v41 v42 v43 v44 v45 v46 v47 v48 v49 v50 v51 v52)))))
  else
  (k0 v31 v32 v33 v34 v35 v36 v37 v38 v39 v40 v41 v42 v43 v44 v45 v46 v47 v48 v49 v50 v51 v52))

def parse_parser_expr_o_l0 (N : Nat) (R : Type) (k0 : Q0 → Int → Err → Int → Int → Int → (List UInt8) → (List UInt8) → (List UInt8) → Int → Int → Int → Int → Int → Int → (List UInt8) → (List UInt8) → (List UInt8) → Int → (List Ex) → Int → Int → Option R) : Nat → Int → Q0 → Int → Err → Int → Int → Int → (List UInt8) → (List UInt8) → (List UInt8) → Int → Int → Int → Int → Int → Int → (List UInt8) → (List UInt8) → (List UInt8) → Int → (List Ex) → Int → Int → Option R
  | 0 => fun _ _ _ _ _ _ _ _ _ _ _ _ _ _ _ _ _ _ _ _ _ _ _ => none
  | n + 1 => parse_parser_expr_o_l0B N R (parse_parser_expr_o_l0 N R k0 n) k0

def parse_parser_expr_o_cps (N : Nat) (R : Type) (K : Int → Int → Int → (List UInt8) → (List UInt8) → (List UInt8) → Int → (List Ex) → Int → Int → Q0 → Int → Err → Option R) (v1 : Int) (v2 : Q0) (v3 : Int) (v4 : Err) : Option R :=
  (bif (decide (v1 = 2)) then
  (Option.bind (parse_parser_not_o N v2 v3 v4) fun v5 =>
  (K v5.1 v5.2.1 v5.2.2.1 v5.2.2.2.1 v5.2.2.2.2.1 v5.2.2.2.2.2.1 v5.2.2.2.2.2.2.1 v5.2.2.2.2.2.2.2.1 v5.2.2.2.2.2.2.2.2.1 v5.2.2.2.2.2.2.2.2.2.1 v5.2.2.2.2.2.2.2.2.2.2.1 v5.2.2.2.2.2.2.2.2.2.2.2.1 v5.2.2.2.2.2.2.2.2.2.2.2.2.1))
  else
  (bif (decide (v1 = 5)) then
  (Option.bind (parse_parser_sign_o N v2 v3 v4) fun v6 =>
  (K v6.1 v6.2.1 v6.2.2.1 v6.2.2.2.1 v6.2.2.2.2.1 v6.2.2.2.2.2.1 v6.2.2.2.2.2.2.1 v6.2.2.2.2.2.2.2.1 v6.2.2.2.2.2.2.2.2.1 v6.2.2.2.2.2.2.2.2.2.1 v6.2.2.2.2.2.2.2.2.2.2.1 v6.2.2.2.2.2.2.2.2.2.2.2.1 v6.2.2.2.2.2.2.2.2.2.2.2.2.1))
  else
  (Option.bind (Z_parse_parser_whole.r_parse_parser_expr (IntKind.wrap .i64 (v1 + 1)) v2 v3 v4) fun v7 =>
  (parse_parser_expr_o_l0 N _ (fun v8 v9 v10 v11 v12 v13 v14 v15 v16 v17 v18 v19 v20 v21 v22 v23 v24 v25 v26 v27 v28 v29 =>
  (K v20 v21 v22 v23 v24 v25 v26 v27 v28 v29 v8 v9 v10)) N v1 v7.2.2.2.2.2.2.2.2.2.2.1 v7.2.2.2.2.2.2.2.2.2.2.2.1 v7.2.2.2.2.2.2.2.2.2.2.2.2.1 0 0 0 [] [] [] 0 0 0 v7.1 v7.2.1 v7.2.2.1 v7.2.2.2.1 v7.2.2.2.2.1 v7.2.2.2.2.2.1 v7.2.2.2.2.2.2.1 v7.2.2.2.2.2.2.2.1 v7.2.2.2.2.2.2.2.2.1 v7.2.2.2.2.2.2.2.2.2.1))))

def parse_parser_expr_o (N : Nat) (v1 : Int) (v2 : Q0) (v3 : Int) (v4 : Err) : Option Q2 := parse_parser_expr_o_cps N _ (fun a0 a1 a2 a3 a4 a5 a6 a7 a8 a9 a10 a11 a12 => some (a0, (a1, (a2, (a3, (a4, (a5, (a6, (a7, (a8, (a9, (a10, (a11, (a12, ())))))))))))))) v1 v2 v3 v4

/- (*frankpledge/parse.parser).whole -/
def parse_parser_whole_o_cps (N : Nat) (R : Type) (K : Int → Int → Int → (List UInt8) → (List UInt8) → (List UInt8) → Int → (List Ex) → Int → Int → Q0 → Int → Err → Option R) (v1 : Q0) (v2 : Int) (v3 : Err) : Option R :=
  (Option.bind (parse_parser_expr_o N 0 v1 v2 v3) fun v4 =>
  (K v4.1 v4.2.1 v4.2.2.1 v4.2.2.2.1 v4.2.2.2.2.1 v4.2.2.2.2.2.1 v4.2.2.2.2.2.2.1 v4.2.2.2.2.2.2.2.1 v4.2.2.2.2.2.2.2.2.1 v4.2.2.2.2.2.2.2.2.2.1 v4.2.2.2.2.2.2.2.2.2.2.1 v4.2.2.2.2.2.2.2.2.2.2.2.1 v4.2.2.2.2.2.2.2.2.2.2.2.2.1))

def parse_parser_whole_o (N : Nat) (v1 : Q0) (v2 : Int) (v3 : Err) : Option Q2 := parse_parser_whole_o_cps N _ (fun a0 a1 a2 a3 a4 a5 a6 a7 a8 a9 a10 a11 a12 => some (a0, (a1, (a2, (a3, (a4, (a5, (a6, (a7, (a8, (a9, (a10, (a11, (a12, ())))))))))))))) v1 v2 v3

end
def Z_parse_parser_whole_at (N : Nat) : Nat → Z_parse_parser_whole
  | 0 => { r_parse_parser_not := fun _ _ _ => none, r_parse_parser_sign := fun _ _ _ => none, r_parse_parser_expr := fun _ _ _ _ => none, r_parse_parser_whole := fun _ _ _ => none }
  | n + 1 => letI : Z_parse_parser_whole := Z_parse_parser_whole_at N n; { r_parse_parser_not := (fun a0 a1 a2 => parse_parser_not_o N a0 a1 a2), r_parse_parser_sign := (fun a0 a1 a2 => parse_parser_sign_o N a0 a1 a2), r_parse_parser_expr := (fun a0 a1 a2 a3 => parse_parser_expr_o N a0 a1 a2 a3), r_parse_parser_whole := (fun a0 a1 a2 => parse_parser_whole_o N a0 a1 a2) }

def parse_parser_test (N : Nat) (v1 : Q0) (v2 : Int) (v3 : Err) : Option Q2 := letI : Z_parse_parser_whole := Z_parse_parser_whole_at N N; parse_parser_test_o N v1 v2 v3

def parse_parser_within (N : Nat) (v1 : Q0) (v2 : Int) (v3 : Err) : Option Q2 := letI : Z_parse_parser_whole := Z_parse_parser_whole_at N N; parse_parser_within_o N v1 v2 v3

def parse_parser_not (N : Nat) (v1 : Q0) (v2 : Int) (v3 : Err) : Option Q2 := letI : Z_parse_parser_whole := Z_parse_parser_whole_at N N; parse_parser_not_o N v1 v2 v3

def parse_parser_within_1 (N : Nat) (v1 : Q0) (v2 : Int) (v3 : Err) : Option Q2 := letI : Z_parse_parser_whole := Z_parse_parser_whole_at N N; parse_parser_within_1_o N v1 v2 v3

def parse_parser_inner (N : Nat) (v1 : Q0) (v2 : Int) (v3 : Err) : Option Q2 := letI : Z_parse_parser_whole := Z_parse_parser_whole_at N N; parse_parser_inner_o N v1 v2 v3

def parse_parser_word (N : Nat) (v1 : Int) (v2 : (List UInt8)) (v3 : Int) (v4 : Int) (v5 : (List UInt8)) (v6 : Int) (v7 : Int) (v8 : Int) (v9 : Int) (v10 : (List UInt8)) (v11 : (List UInt8)) (v12 : (List UInt8)) (v13 : Int) (v14 : (List Ex)) (v15 : Int) (v16 : Int) (v17 : Q0) (v18 : Int) (v19 : Err) : Option Q2 := letI : Z_parse_parser_whole := Z_parse_parser_whole_at N N; parse_parser_word_o N v1 v2 v3 v4 v5 v6 v7 v8 v9 v10 v11 v12 v13 v14 v15 v16 v17 v18 v19

def parse_parser_one (N : Nat) (v1 : Q0) (v2 : Int) (v3 : Err) : Option Q2 := letI : Z_parse_parser_whole := Z_parse_parser_whole_at N N; parse_parser_one_o N v1 v2 v3

def parse_parser_within_2 (N : Nat) (v1 : Q0) (v2 : Int) (v3 : Err) : Option Q2 := letI : Z_parse_parser_whole := Z_parse_parser_whole_at N N; parse_parser_within_2_o N v1 v2 v3

def parse_parser_sign (N : Nat) (v1 : Q0) (v2 : Int) (v3 : Err) : Option Q2 := letI : Z_parse_parser_whole := Z_parse_parser_whole_at N N; parse_parser_sign_o N v1 v2 v3

def parse_parser_expr (N : Nat) (v1 : Int) (v2 : Q0) (v3 : Int) (v4 : Err) : Option Q2 := letI : Z_parse_parser_whole := Z_parse_parser_whole_at N N; parse_parser_expr_o N v1 v2 v3 v4

def parse_parser_whole (N : Nat) (v1 : Q0) (v2 : Int) (v3 : Err) : Option Q2 := letI : Z_parse_parser_whole := Z_parse_parser_whole_at N N; parse_parser_whole_o N v1 v2 v3

/-! (*frankpledge/parse.parser).ended -/
def parse_parser_ended_cps (N : Nat) (R : Type) (K : Err → Q0 → Int → Err → Option R) (v1 : Q0) (v2 : Int) (v3 : Err) : Option R :=
  (Option.bind (nth v1 0) fun v4 =>
  (bif (!(decide (v4.1 = 6))) then
  (Option.bind (parse_parser_fail N 171 v1 v2 v3) fun v5 =>
  (K v5.2.2.1 v5.1 v5.2.1 v5.2.2.1))
  else
  (K v3 v1 v2 v3)))

def parse_parser_ended (N : Nat) (v1 : Q0) (v2 : Int) (v3 : Err) : Option (Err × Q0 × Int × Err × Unit) := parse_parser_ended_cps N _ (fun a0 a1 a2 a3 => some (a0, (a1, (a2, (a3, ()))))) v1 v2 v3

/-! frankpledge/parse.Expression -/
def parse_Expression_cps (N : Nat) (R : Type) (K : Int → Int → Int → (List UInt8) → (List UInt8) → (List UInt8) → Int → (List Ex) → Int → Int → Err → Option R) (v1 : (List UInt8)) : Option R :=
  (Option.bind (lex_Lex N v1) fun v2 =>
  (bif (!(Err.isNil v2.2.1)) then
  (Option.bind (fault_At N v2.2.1) fun v3 =>
  (Option.bind (fault_Wrap N v2.2.1 171 v3.1) fun v4 =>
  (bif (!(Err.isNil v4.1)) then
  (K 0 0 0 [] [] [] 0 [] 0 0 v4.1)
  else
  none)))
  else
  (bif (!(Err.isNil Err.nil)) then
  (K 0 0 0 [] [] [] 0 [] 0 0 Err.nil)
  else
  (Option.bind (parse_parser_whole N v2.1 0 Err.nil) fun v5 =>
  (Option.bind (parse_parser_ended N v5.2.2.2.2.2.2.2.2.2.2.1 v5.2.2.2.2.2.2.2.2.2.2.2.1 v5.2.2.2.2.2.2.2.2.2.2.2.2.1) fun v6 =>
  (bif (!(Err.isNil v6.1)) then
  (K 0 0 0 [] [] [] 0 [] 0 0 v6.1)
  else
  (K v5.1 v5.2.1 v5.2.2.1 v5.2.2.2.1 v5.2.2.2.2.1 v5.2.2.2.2.2.1 v5.2.2.2.2.2.2.1 v5.2.2.2.2.2.2.2.1 v5.2.2.2.2.2.2.2.2.1 v5.2.2.2.2.2.2.2.2.2.1 Err.nil)))))))

def parse_Expression (N : Nat) (v1 : (List UInt8)) : Option (Int × Int × Int × (List UInt8) × (List UInt8) × (List UInt8) × Int × (List Ex) × Int × Int × Err × Unit) := parse_Expression_cps N _ (fun a0 a1 a2 a3 a4 a5 a6 a7 a8 a9 a10 => some (a0, (a1, (a2, (a3, (a4, (a5, (a6, (a7, (a8, (a9, (a10, ())))))))))))) v1

/-! frankpledge/eval.kids -/
def eval_kids_cps (N : Nat) (R : Type) (K : Int → Option R) (v1 : Int) : Option R :=
  (bif (decide (v1 = 1)) then
  (K 0)
  else
  (bif (decide (v1 = 2)) then
  (K 0)
  else
  (bif (decide (v1 = 7)) then
  (K 1)
  else
  (bif (decide (v1 = 16)) then
  (K 1)
  else
  (bif (decide (v1 = 17)) then
  (K 1)
  else
  (bif (decide (3 ≤ v1)) then
  (bif (decide (v1 ≤ 15)) then
  (K 2)
  else
  (K (-1)))
  else
  (K (-1))))))))

def eval_kids (N : Nat) (v1 : Int) : Option (Int × Unit) := eval_kids_cps N _ (fun a0 => some (a0, ())) v1

/-! frankpledge/eval.truth -/
def eval_truth_cps (N : Nat) (R : Type) (K : Int → Int → (List UInt8) → Option R) (v1 : Bool) : Option R :=
  (bif v1 then
  (K 1 1 [])
  else
  (K 1 0 []))

def eval_truth (N : Nat) (v1 : Bool) : Option (Int × Int × (List UInt8) × Unit) := eval_truth_cps N _ (fun a0 a1 a2 => some (a0, (a1, (a2, ())))) v1

/-! frankpledge/value.Right -/
def value_Right_cps (N : Nat) (R : Type) (K : Bool → Option R) (v1 : Int) (v2 : Int) (v3 : (List UInt8)) : Option R :=
  (bif (decide (v1 = 1)) then
  (bif (decide (v2 = 1)) then
  (K (decide (v3 = [])))
  else
  (bif (decide (v2 = 0)) then
  (K (decide (v3 = [])))
  else
  (K false)))
  else
  (bif (decide (v1 = 0)) then
  (bif (decide (v2 = 0)) then
  (K (decide (v3 = [])))
  else
  (K false))
  else
  (bif (decide (v1 = 2)) then
  (K (decide (v3 = [])))
  else
  (bif (decide (v1 = 3)) then
  (K (decide (v3 = [])))
  else
  (bif (decide (v1 = 4)) then
  (bif (decide (v2 = 0)) then
  (K (decide ((v3.length : Int) ≤ 200)))
  else
  (K false))
  else
  (bif (decide (v1 = 5)) then
  (bif (decide (v2 = 0)) then
  (K (decide ((v3.length : Int) ≤ 200)))
  else
  (K false))
  else
  (K false)))))))

def value_Right (N : Nat) (v1 : Int) (v2 : Int) (v3 : (List UInt8)) : Option (Bool × Unit) := value_Right_cps N _ (fun a0 => some (a0, ())) v1 v2 v3

/-! frankpledge/value.truth -/
def value_truth_cps (N : Nat) (R : Type) (K : Bool → Option R) (v1 : Int) (v2 : Int) (v3 : (List UInt8)) : Option R :=
  (Option.bind (value_Right N v1 v2 v3) fun v4 =>
  (bif v4.1 then
  (K (decide (v1 ≤ 1)))
  else
  (K false)))

def value_truth (N : Nat) (v1 : Int) (v2 : Int) (v3 : (List UInt8)) : Option (Bool × Unit) := value_truth_cps N _ (fun a0 => some (a0, ())) v1 v2 v3

/-! frankpledge/value.both -/
def value_both_cps (N : Nat) (R : Type) (K : Err → Option R) (v1 : Int) (v2 : Int) (v3 : (List UInt8)) (v4 : Int) (v5 : Int) (v6 : (List UInt8)) : Option R :=
  (Option.bind (value_truth N v1 v2 v3) fun v7 =>
  (bif (!v7.1) then
  (Option.bind (fault_New N 22 0) fun v8 =>
  (K v8.1))
  else
  (Option.bind (value_truth N v4 v5 v6) fun v9 =>
  (bif (!v9.1) then
  (Option.bind (fault_New N 22 1) fun v10 =>
  (K v10.1))
  else
  (K Err.nil)))))

def value_both (N : Nat) (v1 : Int) (v2 : Int) (v3 : (List UInt8)) (v4 : Int) (v5 : Int) (v6 : (List UInt8)) : Option (Err × Unit) := value_both_cps N _ (fun a0 => some (a0, ())) v1 v2 v3 v4 v5 v6

/-! frankpledge/value.decided -/
def value_decided_cps (N : Nat) (R : Type) (K : Int → Int → (List UInt8) → Option R) (v1 : Int) (v2 : Int) (v3 : (List UInt8)) (v4 : Int) (v5 : Int) (v6 : (List UInt8)) (v7 : Int) (v8 : Int) (v9 : (List UInt8)) : Option R :=
  (bif ((decide (v1 = v7)) && ((decide (v2 = v8)) && (decide (v3 = v9)))) then
  (K v7 v8 v9)
  else
  (bif ((decide (v4 = v7)) && ((decide (v5 = v8)) && (decide (v6 = v9)))) then
  (K v7 v8 v9)
  else
  (bif (decide (v1 = 0)) then
  (K v1 v2 v3)
  else
  (K v4 v5 v6))))

def value_decided (N : Nat) (v1 : Int) (v2 : Int) (v3 : (List UInt8)) (v4 : Int) (v5 : Int) (v6 : (List UInt8)) (v7 : Int) (v8 : Int) (v9 : (List UInt8)) : Option (Int × Int × (List UInt8) × Unit) := value_decided_cps N _ (fun a0 a1 a2 => some (a0, (a1, (a2, ())))) v1 v2 v3 v4 v5 v6 v7 v8 v9

/-! frankpledge/value.And -/
def value_And_cps (N : Nat) (R : Type) (K : Int → Int → (List UInt8) → Err → Option R) (v1 : Int) (v2 : Int) (v3 : (List UInt8)) (v4 : Int) (v5 : Int) (v6 : (List UInt8)) : Option R :=
  (Option.bind (value_both N v1 v2 v3 v4 v5 v6) fun v7 =>
  (bif (!(Err.isNil v7.1)) then
  (K 0 0 [] v7.1)
  else
  (Option.bind (value_decided N v1 v2 v3 v4 v5 v6 1 0 []) fun v8 =>
  (K v8.1 v8.2.1 v8.2.2.1 Err.nil))))

def value_And (N : Nat) (v1 : Int) (v2 : Int) (v3 : (List UInt8)) (v4 : Int) (v5 : Int) (v6 : (List UInt8)) : Option (Int × Int × (List UInt8) × Err × Unit) := value_And_cps N _ (fun a0 a1 a2 a3 => some (a0, (a1, (a2, (a3, ()))))) v1 v2 v3 v4 v5 v6

/-! frankpledge/fault.Code -/
def fault_Code_cps (N : Nat) (R : Type) (K : Int → Option R) (v1 : Err) : Option R :=
  (bif (errOk v1) then (K (errCode v1)) else none)

def fault_Code (N : Nat) (v1 : Err) : Option (Int × Unit) := fault_Code_cps N _ (fun a0 => some (a0, ())) v1

/-! frankpledge/value.Or -/
def value_Or_cps (N : Nat) (R : Type) (K : Int → Int → (List UInt8) → Err → Option R) (v1 : Int) (v2 : Int) (v3 : (List UInt8)) (v4 : Int) (v5 : Int) (v6 : (List UInt8)) : Option R :=
  (Option.bind (value_both N v1 v2 v3 v4 v5 v6) fun v7 =>
  (bif (!(Err.isNil v7.1)) then
  (K 0 0 [] v7.1)
  else
  (Option.bind (value_decided N v1 v2 v3 v4 v5 v6 1 1 []) fun v8 =>
  (K v8.1 v8.2.1 v8.2.2.1 Err.nil))))

def value_Or (N : Nat) (v1 : Int) (v2 : Int) (v3 : (List UInt8)) (v4 : Int) (v5 : Int) (v6 : (List UInt8)) : Option (Int × Int × (List UInt8) × Err × Unit) := value_Or_cps N _ (fun a0 a1 a2 a3 => some (a0, (a1, (a2, (a3, ()))))) v1 v2 v3 v4 v5 v6

/-! frankpledge/value.Not -/
def value_Not_cps (N : Nat) (R : Type) (K : Int → Int → (List UInt8) → Err → Option R) (v1 : Int) (v2 : Int) (v3 : (List UInt8)) : Option R :=
  (Option.bind (value_both N v1 v2 v3 v1 v2 v3) fun v4 =>
  (bif (!(Err.isNil v4.1)) then
  (K 0 0 [] v4.1)
  else
  (bif (decide (v1 = 1)) then
  (K v1 (IntKind.wrap .i64 (1 - v2)) v3 Err.nil)
  else
  (K v1 v2 v3 Err.nil))))

def value_Not (N : Nat) (v1 : Int) (v2 : Int) (v3 : (List UInt8)) : Option (Int × Int × (List UInt8) × Err × Unit) := value_Not_cps N _ (fun a0 a1 a2 a3 => some (a0, (a1, (a2, (a3, ()))))) v1 v2 v3

/-! frankpledge/number.numeric -/
def number_numeric_cps (N : Nat) (R : Type) (K : Bool → Option R) (v1 : Int) (v2 : Int) (v3 : (List UInt8)) : Option R :=
  (bif (decide (v1 = 2)) then
  (K true)
  else
  (K (decide (v1 = 3))))

def number_numeric (N : Nat) (v1 : Int) (v2 : Int) (v3 : (List UInt8)) : Option (Bool × Unit) := number_numeric_cps N _ (fun a0 => some (a0, ())) v1 v2 v3

/-! frankpledge/number.reckons -/
def number_reckons_cps (N : Nat) (R : Type) (K : Bool → Option R) (v1 : Int) (v2 : Int) (v3 : (List UInt8)) : Option R :=
  (Option.bind (value_Right N v1 v2 v3) fun v4 =>
  (bif v4.1 then
  (bif (decide (v1 = 0)) then
  (K true)
  else
  (Option.bind (number_numeric N v1 v2 v3) fun v5 =>
  (K v5.1)))
  else
  (K false)))

def number_reckons (N : Nat) (v1 : Int) (v2 : Int) (v3 : (List UInt8)) : Option (Bool × Unit) := number_reckons_cps N _ (fun a0 => some (a0, ())) v1 v2 v3

/-! frankpledge/number.Neg -/
def number_Neg_cps (N : Nat) (R : Type) (K : Int → Int → (List UInt8) → Err → Option R) (v1 : Int) (v2 : Int) (v3 : (List UInt8)) : Option R :=
  (Option.bind (number_reckons N v1 v2 v3) fun v4 =>
  (bif (!v4.1) then
  (Option.bind (fault_New N 22 0) fun v5 =>
  (K 0 0 [] v5.1))
  else
  (bif (decide (v2 = (-9223372036854775808))) then
  (Option.bind (fault_New N 31 2) fun v6 =>
  (K 0 0 [] v6.1))
  else
  (K v1 (IntKind.wrap .i64 (0 - v2)) v3 Err.nil))))

def number_Neg (N : Nat) (v1 : Int) (v2 : Int) (v3 : (List UInt8)) : Option (Int × Int × (List UInt8) × Err × Unit) := number_Neg_cps N _ (fun a0 a1 a2 a3 => some (a0, (a1, (a2, (a3, ()))))) v1 v2 v3

/-! frankpledge/number.size -/
def number_size_cps (N : Nat) (R : Type) (K : Int → Bool → Option R) (v1 : Int) : Option R :=
  (bif (decide (v1 < 0)) then
  (K (IntKind.wrap .u64 (0 - (IntKind.wrap .u64 v1))) true)
  else
  (K (IntKind.wrap .u64 v1) false))

def number_size (N : Nat) (v1 : Int) : Option (Int × Bool × Unit) := number_size_cps N _ (fun a0 a1 => some (a0, (a1, ()))) v1

/-! math/bits.Mul64 -/
def bits_Mul64_cps (N : Nat) (R : Type) (K : Int → Int → Option R) (v1 : Int) (v2 : Int) : Option R :=
  (K (IntKind.wrap .u64 ((IntKind.wrap .u64 ((IntKind.wrap .u64 ((Ev.shr .u64 v1 32) * (Ev.shr .u64 v2 32))) + (Ev.shr .u64 (IntKind.wrap .u64 ((IntKind.wrap .u64 ((Ev.shr .u64 v1 32) * (Ev.bits .and .u64 v2 4294967295))) + (Ev.shr .u64 (IntKind.wrap .u64 ((Ev.bits .and .u64 v1 4294967295) * (Ev.bits .and .u64 v2 4294967295))) 32))) 32))) + (Ev.shr .u64 (IntKind.wrap .u64 ((Ev.bits .and .u64 (IntKind.wrap .u64 ((IntKind.wrap .u64 ((Ev.shr .u64 v1 32) * (Ev.bits .and .u64 v2 4294967295))) + (Ev.shr .u64 (IntKind.wrap .u64 ((Ev.bits .and .u64 v1 4294967295) * (Ev.bits .and .u64 v2 4294967295))) 32))) 4294967295) + (IntKind.wrap .u64 ((Ev.bits .and .u64 v1 4294967295) * (Ev.shr .u64 v2 32))))) 32))) (IntKind.wrap .u64 (v1 * v2)))

def bits_Mul64 (N : Nat) (v1 : Int) (v2 : Int) : Option (Int × Int × Unit) := bits_Mul64_cps N _ (fun a0 a1 => some (a0, (a1, ()))) v1 v2

/-! frankpledge/number.fit -/
def number_fit_cps (N : Nat) (R : Type) (K : Int → Bool → Option R) (v1 : Int) (v2 : Bool) : Option R :=
  (bif v2 then
  (K (IntKind.wrap .i64 (IntKind.wrap .u64 (0 - v1))) (decide (v1 ≤ 9223372036854775808)))
  else
  (K (IntKind.wrap .i64 v1) (decide (v1 ≤ 9223372036854775807))))

def number_fit (N : Nat) (v1 : Int) (v2 : Bool) : Option (Int × Bool × Unit) := number_fit_cps N _ (fun a0 a1 => some (a0, (a1, ()))) v1 v2

/-! frankpledge/number.promoted -/
def number_promoted_cps (N : Nat) (R : Type) (K : Int → Err → Option R) (v1 : Int) (v2 : Int) (v3 : (List UInt8)) (v4 : Int) : Option R :=
  (bif (decide (v1 = 3)) then
  (K v2 Err.nil)
  else
  (Option.bind (number_size N v2) fun v5 =>
  (Option.bind (bits_Mul64 N v5.1 10000) fun v6 =>
  (Option.bind (number_fit N v6.2.1 v5.2.1) fun v7 =>
  (bif (decide (v6.1 = 0)) then
  (bif v7.2.1 then
  (K v7.1 Err.nil)
  else
  (Option.bind (fault_New N 31 v4) fun v8 =>
  (K 0 v8.1)))
  else
  (Option.bind (fault_New N 31 v4) fun v9 =>
  (K 0 v9.1)))))))

def number_promoted (N : Nat) (v1 : Int) (v2 : Int) (v3 : (List UInt8)) (v4 : Int) : Option (Int × Err × Unit) := number_promoted_cps N _ (fun a0 a1 => some (a0, (a1, ()))) v1 v2 v3 v4

/-! frankpledge/number.sum -/
def number_sum_cps (N : Nat) (R : Type) (K : Int → Bool → Option R) (v1 : Int) (v2 : Int) : Option R :=
  (bif (decide (0 ≤ v2)) then
  (bif (decide (v1 ≤ (IntKind.wrap .i64 (v1 + v2)))) then
  (K (IntKind.wrap .i64 (v1 + v2)) true)
  else
  (bif (decide (v2 < 0)) then
  (K (IntKind.wrap .i64 (v1 + v2)) (decide ((IntKind.wrap .i64 (v1 + v2)) < v1)))
  else
  (K (IntKind.wrap .i64 (v1 + v2)) false)))
  else
  (bif (decide (v2 < 0)) then
  (K (IntKind.wrap .i64 (v1 + v2)) (decide ((IntKind.wrap .i64 (v1 + v2)) < v1)))
  else
  (K (IntKind.wrap .i64 (v1 + v2)) false)))

def number_sum (N : Nat) (v1 : Int) (v2 : Int) : Option (Int × Bool × Unit) := number_sum_cps N _ (fun a0 a1 => some (a0, (a1, ()))) v1 v2

/-! math/bits.Len64 -/
def bits_Len64_j1 (N : Nat) (R : Type) (k0 : Int → Option R) (v8 : Int) (v9 : Int) : Option R :=
  (bif (decide (256 ≤ v8)) then
  (Option.bind (nth (bs1 : List UInt8) (IntKind.wrap .u8 (Ev.shr .u64 v8 8))) fun v10 =>
  (k0 (IntKind.wrap .i64 ((IntKind.wrap .i64 (v9 + 8)) + (IntKind.wrap .i64 (v10.toNat : Int))))))
  else
  (Option.bind (nth (bs1 : List UInt8) (IntKind.wrap .u8 v8)) fun v11 =>
  (k0 (IntKind.wrap .i64 (v9 + (IntKind.wrap .i64 (v11.toNat : Int)))))))

def bits_Len64_j0 (N : Nat) (R : Type) (k0 : Int → Option R) (v4 : Int) (v5 : Int) : Option R :=
  (bif (decide (65536 ≤ v4)) then
  (bits_Len64_j1 N _ (fun v6 =>
  (k0 v6)) (Ev.shr .u64 v4 16) (IntKind.wrap .i64 (v5 + 16)))
  else
  (bits_Len64_j1 N _ (fun v7 =>
  (k0 v7)) v4 v5))

def bits_Len64_cps (N : Nat) (R : Type) (K : Int → Option R) (v1 : Int) : Option R :=
  (bif (decide (4294967296 ≤ v1)) then
  (bits_Len64_j0 N _ (fun v2 =>
  (K v2)) (Ev.shr .u64 v1 32) 32)
  else
  (bits_Len64_j0 N _ (fun v3 =>
  (K v3)) v1 0))

def bits_Len64 (N : Nat) (v1 : Int) : Option (Int × Unit) := bits_Len64_cps N _ (fun a0 => some (a0, ())) v1

/-! math/bits.LeadingZeros64 -/
def bits_LeadingZeros64_cps (N : Nat) (R : Type) (K : Int → Option R) (v1 : Int) : Option R :=
  (Option.bind (bits_Len64 N v1) fun v2 =>
  (K (IntKind.wrap .i64 (64 - v2.1))))

def bits_LeadingZeros64 (N : Nat) (v1 : Int) : Option (Int × Unit) := bits_LeadingZeros64_cps N _ (fun a0 => some (a0, ())) v1

/-! math/bits.Div64 -/
def bits_Div64_l3B (N : Nat) (R : Type) (rec : Int → Int → Int → Int → Int → Int → Int → Int → Int → Option R) (k0 : Int → Int → Int → Int → Int → Int → Option R) (v38 : Int) (v39 : Int) (v40 : Int) (v41 : Int) (v42 : Int) (v43 : Int) (v44 : Int) (v45 : Int) (v46 : Int) : Option R :=
  (bif (decide (4294967296 ≤ v46)) then
  (bif (decide (4294967296 ≤ (IntKind.wrap .u64 (v44 + v40)))) then
  (k0 v38 v39 v42 v43 v45 (IntKind.wrap .u64 (v46 - 1)))
  else
  (rec v38 v39 v40 v41 v42 v43 (IntKind.wrap .u64 (v44 + v40)) v45 (IntKind.wrap .u64 (v46 - 1))))
  else
  (bif (decide ((IntKind.wrap .u64 ((IntKind.wrap .u64 (4294967296 * v44)) + v42)) < (IntKind.wrap .u64 (v46 * v41)))) then
  (bif (decide (4294967296 ≤ (IntKind.wrap .u64 (v44 + v40)))) then
  (k0 v38 v39 v42 v43 v45 (IntKind.wrap .u64 (v46 - 1)))
  else
  (rec v38 v39 v40 v41 v42 v43 (IntKind.wrap .u64 (v44 + v40)) v45 (IntKind.wrap .u64 (v46 - 1))))
  else
  (k0 v38 v39 v42 v43 v45 v46)))

def bits_Div64_l3 (N : Nat) (R : Type) (k0 : Int → Int → Int → Int → Int → Int → Option R) : Nat → Int → Int → Int → Int → Int → Int → Int → Int → Int → Option R
  | 0 => fun _ _ _ _ _ _ _ _ _ => none
  | n + 1 => bits_Div64_l3B N R (bits_Div64_l3 N R k0 n) k0

def bits_Div64_l2B (N : Nat) (R : Type) (rec : Int → Int → Int → Int → Int → Int → Int → Int → Int → Option R) (k0 : Int → Int → Int → Int → Int → Int → Int → Int → Option R) (v29 : Int) (v30 : Int) (v31 : Int) (v32 : Int) (v33 : Int) (v34 : Int) (v35 : Int) (v36 : Int) (v37 : Int) : Option R :=
  (bif (decide (4294967296 ≤ v36)) then
  (bif (decide (4294967296 ≤ (IntKind.wrap .u64 (v37 + v31)))) then
  (k0 v29 v30 v31 v32 v33 v34 v35 (IntKind.wrap .u64 (v36 - 1)))
  else
  (rec v29 v30 v31 v32 v33 v34 v35 (IntKind.wrap .u64 (v36 - 1)) (IntKind.wrap .u64 (v37 + v31))))
  else
  (bif (decide ((IntKind.wrap .u64 ((IntKind.wrap .u64 (4294967296 * v37)) + v34)) < (IntKind.wrap .u64 (v36 * v32)))) then
  (bif (decide (4294967296 ≤ (IntKind.wrap .u64 (v37 + v31)))) then
  (k0 v29 v30 v31 v32 v33 v34 v35 (IntKind.wrap .u64 (v36 - 1)))
  else
  (rec v29 v30 v31 v32 v33 v34 v35 (IntKind.wrap .u64 (v36 - 1)) (IntKind.wrap .u64 (v37 + v31))))
  else
  (k0 v29 v30 v31 v32 v33 v34 v35 v36)))

def bits_Div64_l2 (N : Nat) (R : Type) (k0 : Int → Int → Int → Int → Int → Int → Int → Int → Option R) : Nat → Int → Int → Int → Int → Int → Int → Int → Int → Int → Option R
  | 0 => fun _ _ _ _ _ _ _ _ _ => none
  | n + 1 => bits_Div64_l2B N R (bits_Div64_l2 N R k0 n) k0

def bits_Div64_j1 (N : Nat) (R : Type) (k0 : Int → Int → Option R) (v11 : Int) (v12 : Int) (v13 : Int) : Option R :=
  (bif (decide (v11 = 0)) then
  (bif (decide (v13 = 0)) then
  none
  else
  (bif (decide (v13 = 0)) then
  none
  else
  (k0 (IntKind.wrap .u64 (Int.tdiv v12 v13)) (Int.tmod v12 v13))))
  else
  (Option.bind (bits_LeadingZeros64 N v13) fun v14 =>
  (bif (decide (0 ≤ (IntKind.wrap .u64 v14.1))) then
  (bif (decide (0 ≤ (IntKind.wrap .u64 v14.1))) then
  (bif (decide (0 ≤ (IntKind.wrap .u64 (64 - (IntKind.wrap .u64 v14.1))))) then
  (bif (decide (0 ≤ (IntKind.wrap .u64 v14.1))) then
  (bif (decide ((Ev.shr .u64 (Ev.shl .u64 v13 (IntKind.wrap .u64 v14.1)) 32) = 0)) then
  none
  else
  (bits_Div64_l2 N _ (fun v15 v16 v17 v18 v19 v20 v21 v22 =>
  (bif (decide (v17 = 0)) then
  none
  else
  (bits_Div64_l3 N _ (fun v23 v24 v25 v26 v27 v28 =>
  (bif (decide (0 ≤ v24)) then
  (k0 (IntKind.wrap .u64 ((IntKind.wrap .u64 (v26 * 4294967296)) + v28)) (Ev.shr .u64 (IntKind.wrap .u64 ((IntKind.wrap .u64 ((IntKind.wrap .u64 (v27 * 4294967296)) + v25)) - (IntKind.wrap .u64 (v28 * v23)))) v24))
  else
  none)) N v15 v16 v17 v18 v21 v22 (IntKind.wrap .u64 ((IntKind.wrap .u64 ((IntKind.wrap .u64 ((IntKind.wrap .u64 (v19 * 4294967296)) + v20)) - (IntKind.wrap .u64 (v22 * v15)))) - (IntKind.wrap .u64 ((IntKind.wrap .u64 (Int.tdiv (IntKind.wrap .u64 ((IntKind.wrap .u64 ((IntKind.wrap .u64 (v19 * 4294967296)) + v20)) - (IntKind.wrap .u64 (v22 * v15)))) v17)) * v17)))) (IntKind.wrap .u64 ((IntKind.wrap .u64 ((IntKind.wrap .u64 (v19 * 4294967296)) + v20)) - (IntKind.wrap .u64 (v22 * v15)))) (IntKind.wrap .u64 (Int.tdiv (IntKind.wrap .u64 ((IntKind.wrap .u64 ((IntKind.wrap .u64 (v19 * 4294967296)) + v20)) - (IntKind.wrap .u64 (v22 * v15)))) v17))))) N (Ev.shl .u64 v13 (IntKind.wrap .u64 v14.1)) (IntKind.wrap .u64 v14.1) (Ev.shr .u64 (Ev.shl .u64 v13 (IntKind.wrap .u64 v14.1)) 32) (Ev.bits .and .u64 (Ev.shl .u64 v13 (IntKind.wrap .u64 v14.1)) 4294967295) (Ev.bits .or .u64 (Ev.shl .u64 v11 (IntKind.wrap .u64 v14.1)) (Ev.shr .u64 v12 (IntKind.wrap .u64 (64 - (IntKind.wrap .u64 v14.1))))) (Ev.shr .u64 (Ev.shl .u64 v12 (IntKind.wrap .u64 v14.1)) 32) (Ev.bits .and .u64 (Ev.shl .u64 v12 (IntKind.wrap .u64 v14.1)) 4294967295) (IntKind.wrap .u64 (Int.tdiv (Ev.bits .or .u64 (Ev.shl .u64 v11 (IntKind.wrap .u64 v14.1)) (Ev.shr .u64 v12 (IntKind.wrap .u64 (64 - (IntKind.wrap .u64 v14.1))))) (Ev.shr .u64 (Ev.shl .u64 v13 (IntKind.wrap .u64 v14.1)) 32))) (IntKind.wrap .u64 ((Ev.bits .or .u64 (Ev.shl .u64 v11 (IntKind.wrap .u64 v14.1)) (Ev.shr .u64 v12 (IntKind.wrap .u64 (64 - (IntKind.wrap .u64 v14.1))))) - (IntKind.wrap .u64 ((IntKind.wrap .u64 (Int.tdiv (Ev.bits .or .u64 (Ev.shl .u64 v11 (IntKind.wrap .u64 v14.1)) (Ev.shr .u64 v12 (IntKind.wrap .u64 (64 - (IntKind.wrap .u64 v14.1))))) (Ev.shr .u64 (Ev.shl .u64 v13 (IntKind.wrap .u64 v14.1)) 32))) * (Ev.shr .u64 (Ev.shl .u64 v13 (IntKind.wrap .u64 v14.1)) 32)))))))
  else
  none)
  else
  none)
  else
  none)
  else
  none)))

def bits_Div64_j0 (N : Nat) (R : Type) (k0 : Int → Int → Option R) (v6 : Int) (v7 : Int) (v8 : Int) : Option R :=
  (bif (decide (v8 ≤ v6)) then
  none
  else
  (bits_Div64_j1 N _ (fun v9 v10 =>
  (k0 v9 v10)) v6 v7 v8))

def bits_Div64_cps (N : Nat) (R : Type) (K : Int → Int → Option R) (v1 : Int) (v2 : Int) (v3 : Int) : Option R :=
  (bif (decide (v3 = 0)) then
  none
  else
  (bits_Div64_j0 N _ (fun v4 v5 =>
  (K v4 v5)) v1 v2 v3))

def bits_Div64 (N : Nat) (v1 : Int) (v2 : Int) (v3 : Int) : Option (Int × Int × Unit) := bits_Div64_cps N _ (fun a0 a1 => some (a0, (a1, ()))) v1 v2 v3

/-! frankpledge/number.over -/
def number_over_cps (N : Nat) (R : Type) (K : Int → Bool → Option R) (v1 : Int) (v2 : Int) (v3 : Int) : Option R :=
  (Option.bind (number_size N v1) fun v4 =>
  (Option.bind (number_size N v2) fun v5 =>
  (Option.bind (number_size N v3) fun v6 =>
  (Option.bind (bits_Mul64 N v4.1 v5.1) fun v7 =>
  (bif (decide (v6.1 ≤ v7.1)) then
  (K 0 false)
  else
  (Option.bind (bits_Div64 N v7.1 v7.2.1 v6.1) fun v8 =>
  (Option.bind (number_fit N v8.1 (!((!(v4.2.1 == v5.2.1)) == v6.2.1))) fun v9 =>
  (K v9.1 v9.2.1))))))))

def number_over (N : Nat) (v1 : Int) (v2 : Int) (v3 : Int) : Option (Int × Bool × Unit) := number_over_cps N _ (fun a0 a1 => some (a0, (a1, ()))) v1 v2 v3

/-! frankpledge/number.Reckon -/
def number_Reckon_j3 (N : Nat) (R : Type) (k0 : Err → Int → Int → (List UInt8) → Int → Int → (List UInt8) → Int → Int → (List UInt8) → Option R) (v191 : Int) (v192 : Int) (v193 : Int) (v194 : Int) (v195 : Int) (v196 : Int) (v197 : Int) (v198 : (List UInt8)) (v199 : Int) (v200 : Int) (v201 : (List UInt8)) (v202 : Int) (v203 : Int) (v204 : (List UInt8)) : Option R :=
  (bif (decide (v191 = 4)) then
  (bif (decide (v193 = (-9223372036854775808))) then
  (bif (!(decide (v192 < 0))) then
  (Option.bind (fault_New N 31 2) fun v205 =>
  (k0 v205.1 v196 v197 v198 v199 v200 v201 0 0 []))
  else
  (k0 Err.nil v196 v197 v198 v199 v200 v201 v195 (IntKind.wrap .i64 (v192 - v193)) []))
  else
  (Option.bind (number_sum N v192 (IntKind.wrap .i64 (0 - v193))) fun v206 =>
  (bif (!v206.2.1) then
  (Option.bind (fault_New N 31 2) fun v207 =>
  (k0 v207.1 v196 v197 v198 v199 v200 v201 0 0 []))
  else
  (k0 Err.nil v196 v197 v198 v199 v200 v201 v195 v206.1 []))))
  else
  (bif (decide (v191 = 3)) then
  (Option.bind (number_sum N v192 v193) fun v208 =>
  (bif (!v208.2.1) then
  (Option.bind (fault_New N 31 2) fun v209 =>
  (k0 v209.1 v196 v197 v198 v199 v200 v201 0 0 []))
  else
  (k0 Err.nil v196 v197 v198 v199 v200 v201 v195 v208.1 [])))
  else
  (bif (decide (v191 = 5)) then
  (Option.bind (number_over N v192 v193 v194) fun v210 =>
  (bif (!v210.2.1) then
  (Option.bind (fault_New N 31 2) fun v211 =>
  (k0 v211.1 v196 v197 v198 v199 v200 v201 0 0 []))
  else
  (k0 Err.nil v196 v197 v198 v199 v200 v201 v195 v210.1 [])))
  else
  (bif (decide (v191 = 6)) then
  (bif (decide (v193 = 0)) then
  (Option.bind (fault_New N 32 1) fun v212 =>
  (k0 v212.1 v196 v197 v198 v199 v200 v201 0 0 []))
  else
  (Option.bind (number_over N v192 v194 v193) fun v213 =>
  (bif (!v213.2.1) then
  (Option.bind (fault_New N 31 2) fun v214 =>
  (k0 v214.1 v196 v197 v198 v199 v200 v201 0 0 []))
  else
  (k0 Err.nil v196 v197 v198 v199 v200 v201 v195 v213.1 []))))
  else
  (Option.bind (fault_New N 31 2) fun v215 =>
  (k0 v215.1 v196 v197 v198 v199 v200 v201 0 0 []))))))

def number_Reckon_j2 (N : Nat) (R : Type) (k0 : Int → Int → Int → Int → Int → Int → Int → (List UInt8) → Int → Int → (List UInt8) → Int → Int → (List UInt8) → Option R) (k1 : Int → Err → Int → Int → Int → Int → Int → Int → (List UInt8) → Int → Int → (List UInt8) → Int → Int → (List UInt8) → Option R) (v174 : Int) (v175 : Int) (v176 : Int) (v177 : Int) (v178 : Int) (v179 : Bool) (v180 : Int) (v181 : Int) (v182 : (List UInt8)) (v183 : Int) (v184 : Int) (v185 : (List UInt8)) (v186 : Int) (v187 : Int) (v188 : (List UInt8)) : Option R :=
  (bif v179 then
  (Option.bind (number_promoted N v180 v181 v182 0) fun v189 =>
  (bif (!(Err.isNil v189.2.1)) then
  (k1 v174 v189.2.1 v189.1 v176 v177 v178 v180 v181 v182 v183 v184 v185 0 0 [])
  else
  (Option.bind (number_promoted N v183 v184 v185 1) fun v190 =>
  (bif (!(Err.isNil v190.2.1)) then
  (k1 v174 v190.2.1 v189.1 v190.1 v177 v178 v180 v181 v182 v183 v184 v185 0 0 [])
  else
  (k0 v174 v189.1 v190.1 10000 3 v180 v181 v182 v183 v184 v185 v186 v187 v188)))))
  else
  (k0 v174 v175 v176 v177 v178 v180 v181 v182 v183 v184 v185 v186 v187 v188))

def number_Reckon_j1 (N : Nat) (R : Type) (k0 : Err → Int → Int → (List UInt8) → Int → Int → (List UInt8) → Int → Int → (List UInt8) → Option R) (v86 : Int) (v87 : Int) (v88 : Int) (v89 : (List UInt8)) (v90 : Int) (v91 : Int) (v92 : (List UInt8)) (v93 : Int) (v94 : Int) (v95 : (List UInt8)) : Option R :=
  (bif (decide (v87 = 3)) then
  (number_Reckon_j2 N _ (fun v96 v97 v98 v99 v100 v101 v102 v103 v104 v105 v106 v107 v108 v109 =>
  (number_Reckon_j3 N _ (fun v110 v111 v112 v113 v114 v115 v116 v117 v118 v119 =>
  (k0 v110 v111 v112 v113 v114 v115 v116 v117 v118 v119)) v96 v97 v98 v99 v100 v101 v102 v103 v104 v105 v106 v107 v108 v109)) (fun v120 v121 v122 v123 v124 v125 v126 v127 v128 v129 v130 v131 v132 v133 v134 =>
  (k0 v121 v126 v127 v128 v129 v130 v131 v132 v133 v134)) v86 v88 v91 1 2 true v87 v88 v89 v90 v91 v92 v93 v94 v95)
  else
  (number_Reckon_j2 N _ (fun v135 v136 v137 v138 v139 v140 v141 v142 v143 v144 v145 v146 v147 v148 =>
  (number_Reckon_j3 N _ (fun v149 v150 v151 v152 v153 v154 v155 v156 v157 v158 =>
  (k0 v149 v150 v151 v152 v153 v154 v155 v156 v157 v158)) v135 v136 v137 v138 v139 v140 v141 v142 v143 v144 v145 v146 v147 v148)) (fun v159 v160 v161 v162 v163 v164 v165 v166 v167 v168 v169 v170 v171 v172 v173 =>
  (k0 v160 v165 v166 v167 v168 v169 v170 v171 v172 v173)) v86 v88 v91 1 2 (decide (v90 = 3)) v87 v88 v89 v90 v91 v92 v93 v94 v95))

def number_Reckon_j0 (N : Nat) (R : Type) (k0 : Int → Int → Int → (List UInt8) → Int → Int → (List UInt8) → Int → Int → (List UInt8) → Option R) (k1 : Int → Err → Int → Int → (List UInt8) → Int → Int → (List UInt8) → Int → Int → (List UInt8) → Option R) (v70 : Int) (v71 : Bool) (v72 : Int) (v73 : Int) (v74 : (List UInt8)) (v75 : Int) (v76 : Int) (v77 : (List UInt8)) (v78 : Int) (v79 : Int) (v80 : (List UInt8)) : Option R :=
  (bif v71 then
  (Option.bind (fault_New N 1 0) fun v81 =>
  (k1 v70 v81.1 v72 v73 v74 v75 v76 v77 0 0 []))
  else
  (Option.bind (number_reckons N v72 v73 v74) fun v82 =>
  (bif (!v82.1) then
  (Option.bind (fault_New N 22 0) fun v83 =>
  (k1 v70 v83.1 v72 v73 v74 v75 v76 v77 0 0 []))
  else
  (Option.bind (number_reckons N v75 v76 v77) fun v84 =>
  (bif (!v84.1) then
  (Option.bind (fault_New N 22 1) fun v85 =>
  (k1 v70 v85.1 v72 v73 v74 v75 v76 v77 0 0 []))
  else
  (bif (decide (v72 = 0)) then
  (k1 v70 Err.nil v72 v73 v74 v75 v76 v77 0 0 [])
  else
  (bif (decide (v75 = 0)) then
  (k1 v70 Err.nil v72 v73 v74 v75 v76 v77 0 0 [])
  else
  (k0 v70 v72 v73 v74 v75 v76 v77 v78 v79 v80))))))))

def number_Reckon_cps (N : Nat) (R : Type) (K : Int → Int → (List UInt8) → Err → Option R) (v1 : Int) (v2 : Int) (v3 : Int) (v4 : (List UInt8)) (v5 : Int) (v6 : Int) (v7 : (List UInt8)) : Option R :=
  (bif (decide (v1 < 3)) then
  (number_Reckon_j0 N _ (fun v8 v9 v10 v11 v12 v13 v14 v15 v16 v17 =>
  (number_Reckon_j1 N _ (fun v18 v19 v20 v21 v22 v23 v24 v25 v26 v27 =>
  (K v25 v26 v27 v18)) v8 v9 v10 v11 v12 v13 v14 v15 v16 v17)) (fun v28 v29 v30 v31 v32 v33 v34 v35 v36 v37 v38 =>
  (K v36 v37 v38 v29)) v1 true v2 v3 v4 v5 v6 v7 0 0 [])
  else
  (number_Reckon_j0 N _ (fun v39 v40 v41 v42 v43 v44 v45 v46 v47 v48 =>
  (number_Reckon_j1 N _ (fun v49 v50 v51 v52 v53 v54 v55 v56 v57 v58 =>
  (K v56 v57 v58 v49)) v39 v40 v41 v42 v43 v44 v45 v46 v47 v48)) (fun v59 v60 v61 v62 v63 v64 v65 v66 v67 v68 v69 =>
  (K v67 v68 v69 v60)) v1 (decide (6 < v1)) v2 v3 v4 v5 v6 v7 0 0 []))

def number_Reckon (N : Nat) (v1 : Int) (v2 : Int) (v3 : Int) (v4 : (List UInt8)) (v5 : Int) (v6 : Int) (v7 : (List UInt8)) : Option (Int × Int × (List UInt8) × Err × Unit) := number_Reckon_cps N _ (fun a0 a1 a2 a3 => some (a0, (a1, (a2, (a3, ()))))) v1 v2 v3 v4 v5 v6 v7

/-! cmp.isNaN[int64] -/
def cmp_isNaN_int64_cps (N : Nat) (R : Type) (K : Bool → Option R) (v1 : Int) : Option R :=
  (K (!(decide (v1 = v1))))

def cmp_isNaN_int64 (N : Nat) (v1 : Int) : Option (Bool × Unit) := cmp_isNaN_int64_cps N _ (fun a0 => some (a0, ())) v1

/-! cmp.Compare[int64] -/
def cmp_Compare_int64_cps (N : Nat) (R : Type) (K : Int → Option R) (v1 : Int) (v2 : Int) : Option R :=
  (Option.bind (cmp_isNaN_int64 N v1) fun v3 =>
  (Option.bind (cmp_isNaN_int64 N v2) fun v4 =>
  (bif v3.1 then
  (bif v4.1 then
  (K 0)
  else
  (K (-1)))
  else
  (bif v4.1 then
  (K 1)
  else
  (bif (decide (v1 < v2)) then
  (K (-1))
  else
  (bif (decide (v2 < v1)) then
  (K 1)
  else
  (K 0)))))))

def cmp_Compare_int64 (N : Nat) (v1 : Int) (v2 : Int) : Option (Int × Unit) := cmp_Compare_int64_cps N _ (fun a0 => some (a0, ())) v1 v2

/-! The functions about number_order: they call one another. -/
set_option warn.classDefReducibility false
class Z_number_order where
  r_number_order : Int → Int → (List UInt8) → Int → Int → (List UInt8) → Option (Int × Unit)

section
variable [Z_number_order]
/- frankpledge/number.order -/
def number_order_o_cps (N : Nat) (R : Type) (K : Int → Option R) (v1 : Int) (v2 : Int) (v3 : (List UInt8)) (v4 : Int) (v5 : Int) (v6 : (List UInt8)) : Option R :=
  (bif (decide (v1 = v4)) then
  (Option.bind (cmp_Compare_int64 N v2 v5) fun v7 =>
  (K v7.1))
  else
  (bif (decide (v1 = 3)) then
  (Option.bind (Z_number_order.r_number_order v4 v5 v6 v1 v2 v3) fun v8 =>
  (K (IntKind.wrap .i64 (0 - v8.1))))
  else
  (Option.bind (number_promoted N v1 v2 v3 0) fun v9 =>
  (bif (!(Err.isNil v9.2.1)) then
  (Option.bind (cmp_Compare_int64 N v2 0) fun v10 =>
  (K v10.1))
  else
  (Option.bind (cmp_Compare_int64 N v9.1 v5) fun v11 =>
  (K v11.1))))))

def number_order_o (N : Nat) (v1 : Int) (v2 : Int) (v3 : (List UInt8)) (v4 : Int) (v5 : Int) (v6 : (List UInt8)) : Option (Int × Unit) := number_order_o_cps N _ (fun a0 => some (a0, ())) v1 v2 v3 v4 v5 v6

end
def Z_number_order_at (N : Nat) : Nat → Z_number_order
  | 0 => { r_number_order := fun _ _ _ _ _ _ => none }
  | n + 1 => letI : Z_number_order := Z_number_order_at N n; { r_number_order := (fun a0 a1 a2 a3 a4 a5 => number_order_o N a0 a1 a2 a3 a4 a5) }

def number_order (N : Nat) (v1 : Int) (v2 : Int) (v3 : (List UInt8)) (v4 : Int) (v5 : Int) (v6 : (List UInt8)) : Option (Int × Unit) := letI : Z_number_order := Z_number_order_at N N; number_order_o N v1 v2 v3 v4 v5 v6

/-! cmp.isNaN[frankpledge/api.Kind] -/
def cmp_isNaN_api_Kind_cps (N : Nat) (R : Type) (K : Bool → Option R) (v1 : Int) : Option R :=
  (K (!(decide (v1 = v1))))

def cmp_isNaN_api_Kind (N : Nat) (v1 : Int) : Option (Bool × Unit) := cmp_isNaN_api_Kind_cps N _ (fun a0 => some (a0, ())) v1

/-! cmp.Compare[frankpledge/api.Kind] -/
def cmp_Compare_api_Kind_cps (N : Nat) (R : Type) (K : Int → Option R) (v1 : Int) (v2 : Int) : Option R :=
  (Option.bind (cmp_isNaN_api_Kind N v1) fun v3 =>
  (Option.bind (cmp_isNaN_api_Kind N v2) fun v4 =>
  (bif v3.1 then
  (bif v4.1 then
  (K 0)
  else
  (K (-1)))
  else
  (bif v4.1 then
  (K 1)
  else
  (bif (decide (v1 < v2)) then
  (K (-1))
  else
  (bif (decide (v2 < v1)) then
  (K 1)
  else
  (K 0)))))))

def cmp_Compare_api_Kind (N : Nat) (v1 : Int) (v2 : Int) : Option (Int × Unit) := cmp_Compare_api_Kind_cps N _ (fun a0 => some (a0, ())) v1 v2

/-! cmp.isNaN[string] -/
def cmp_isNaN_string_cps (N : Nat) (R : Type) (K : Bool → Option R) (v1 : (List UInt8)) : Option R :=
  (K (!(decide (v1 = v1))))

def cmp_isNaN_string (N : Nat) (v1 : (List UInt8)) : Option (Bool × Unit) := cmp_isNaN_string_cps N _ (fun a0 => some (a0, ())) v1

/-! cmp.Compare[string] -/
def cmp_Compare_string_cps (N : Nat) (R : Type) (K : Int → Option R) (v1 : (List UInt8)) (v2 : (List UInt8)) : Option R :=
  (Option.bind (cmp_isNaN_string N v1) fun v3 =>
  (Option.bind (cmp_isNaN_string N v2) fun v4 =>
  (bif v3.1 then
  (bif v4.1 then
  (K 0)
  else
  (K (-1)))
  else
  (bif v4.1 then
  (K 1)
  else
  (bif (Op.bytesLess v1 v2) then
  (K (-1))
  else
  (bif (Op.bytesLess v2 v1) then
  (K 1)
  else
  (K 0)))))))

def cmp_Compare_string (N : Nat) (v1 : (List UInt8)) (v2 : (List UInt8)) : Option (Int × Unit) := cmp_Compare_string_cps N _ (fun a0 => some (a0, ())) v1 v2

/-! cmp.Or[int] -/
def cmp_Or_int_l0B (N : Nat) (R : Type) (rec : Int → (List Int) → Int → Int → Option R) (k0 : Int → Option R) (k1 : Int → Int → Option R) (v5 : Int) (v6 : (List Int)) (v7 : Int) (v8 : Int) : Option R :=
  (bif (decide (v8 < v7)) then
  (Option.bind (nth v6 v8) fun v9 =>
  (bif (!(decide (v9 = v5))) then
  (k1 v9 v5)
  else
  (rec v5 v6 v7 (IntKind.wrap .i64 (v8 + 1)))))
  else
  (k0 v5))

def cmp_Or_int_l0 (N : Nat) (R : Type) (k0 : Int → Option R) (k1 : Int → Int → Option R) : Nat → Int → (List Int) → Int → Int → Option R
  | 0 => fun _ _ _ _ => none
  | n + 1 => cmp_Or_int_l0B N R (cmp_Or_int_l0 N R k0 k1 n) k0 k1

def cmp_Or_int_cps (N : Nat) (R : Type) (K : Int → Option R) (v1 : (List Int)) : Option R :=
  (cmp_Or_int_l0 N _ (fun v2 =>
  (K v2)) (fun v3 v4 =>
  (K v3)) N 0 v1 (v1.length : Int) 0)

def cmp_Or_int (N : Nat) (v1 : (List Int)) : Option (Int × Unit) := cmp_Or_int_cps N _ (fun a0 => some (a0, ())) v1

/-! frankpledge/value.Order -/
def value_Order_cps (N : Nat) (R : Type) (K : Int → Option R) (v1 : Int) (v2 : Int) (v3 : (List UInt8)) (v4 : Int) (v5 : Int) (v6 : (List UInt8)) : Option R :=
  (Option.bind (cmp_Compare_api_Kind N v1 v4) fun v7 =>
  (Option.bind (cmp_Compare_int64 N v2 v5) fun v8 =>
  (Option.bind (cmp_Compare_string N v3 v6) fun v9 =>
  (Option.bind (cmp_Or_int N ([v7.1, v8.1, v9.1] : (List Int))) fun v10 =>
  (K v10.1)))))

def value_Order (N : Nat) (v1 : Int) (v2 : Int) (v3 : (List UInt8)) (v4 : Int) (v5 : Int) (v6 : (List UInt8)) : Option (Int × Unit) := value_Order_cps N _ (fun a0 => some (a0, ())) v1 v2 v3 v4 v5 v6

/-! frankpledge/number.Sign -/
def number_Sign_j0 (N : Nat) (R : Type) (k0 : Int → Int → (List UInt8) → Int → Int → (List UInt8) → Option R) (k1 : Int → Err → Int → Int → (List UInt8) → Int → Int → (List UInt8) → Option R) (v38 : Bool) (v39 : Int) (v40 : Int) (v41 : (List UInt8)) (v42 : Int) (v43 : Int) (v44 : (List UInt8)) : Option R :=
  (bif v38 then
  (Option.bind (fault_New N 22 0) fun v45 =>
  (k1 0 v45.1 v39 v40 v41 v42 v43 v44))
  else
  (Option.bind (value_Right N v42 v43 v44) fun v46 =>
  (bif (!v46.1) then
  (Option.bind (fault_New N 22 1) fun v47 =>
  (k1 0 v47.1 v39 v40 v41 v42 v43 v44))
  else
  (bif (decide (v42 = 0)) then
  (Option.bind (fault_New N 22 1) fun v48 =>
  (k1 0 v48.1 v39 v40 v41 v42 v43 v44))
  else
  (bif (!(decide (v39 = v42))) then
  (Option.bind (number_numeric N v39 v40 v41) fun v49 =>
  (bif v49.1 then
  (Option.bind (number_numeric N v42 v43 v44) fun v50 =>
  (bif (!v50.1) then
  (Option.bind (fault_New N 22 1) fun v51 =>
  (k1 0 v51.1 v39 v40 v41 v42 v43 v44))
  else
  (Option.bind (number_numeric N v39 v40 v41) fun v52 =>
  (bif v52.1 then
  (Option.bind (number_order N v39 v40 v41 v42 v43 v44) fun v53 =>
  (k1 v53.1 Err.nil v39 v40 v41 v42 v43 v44))
  else
  (k0 v39 v40 v41 v42 v43 v44)))))
  else
  (Option.bind (fault_New N 22 1) fun v54 =>
  (k1 0 v54.1 v39 v40 v41 v42 v43 v44))))
  else
  (Option.bind (number_numeric N v39 v40 v41) fun v55 =>
  (bif v55.1 then
  (Option.bind (number_order N v39 v40 v41 v42 v43 v44) fun v56 =>
  (k1 v56.1 Err.nil v39 v40 v41 v42 v43 v44))
  else
  (k0 v39 v40 v41 v42 v43 v44))))))))

def number_Sign_cps (N : Nat) (R : Type) (K : Int → Err → Option R) (v1 : Int) (v2 : Int) (v3 : (List UInt8)) (v4 : Int) (v5 : Int) (v6 : (List UInt8)) : Option R :=
  (Option.bind (value_Right N v1 v2 v3) fun v7 =>
  (bif (!v7.1) then
  (number_Sign_j0 N _ (fun v8 v9 v10 v11 v12 v13 =>
  (Option.bind (value_Order N v8 v9 v10 v11 v12 v13) fun v14 =>
  (K v14.1 Err.nil))) (fun v15 v16 v17 v18 v19 v20 v21 v22 =>
  (K v15 v16)) true v1 v2 v3 v4 v5 v6)
  else
  (number_Sign_j0 N _ (fun v23 v24 v25 v26 v27 v28 =>
  (Option.bind (value_Order N v23 v24 v25 v26 v27 v28) fun v29 =>
  (K v29.1 Err.nil))) (fun v30 v31 v32 v33 v34 v35 v36 v37 =>
  (K v30 v31)) (decide (v1 = 0)) v1 v2 v3 v4 v5 v6)))

def number_Sign (N : Nat) (v1 : Int) (v2 : Int) (v3 : (List UInt8)) (v4 : Int) (v5 : Int) (v6 : (List UInt8)) : Option (Int × Err × Unit) := number_Sign_cps N _ (fun a0 a1 => some (a0, (a1, ()))) v1 v2 v3 v4 v5 v6

/-! frankpledge/number.Compare -/
def number_Compare_j1 (N : Nat) (R : Type) (k0 : Err → Int → Int → (List UInt8) → Int → Int → (List UInt8) → Int → Int → (List UInt8) → Option R) (v86 : Int) (v87 : Int) (v88 : Int) (v89 : (List UInt8)) (v90 : Int) (v91 : Int) (v92 : (List UInt8)) (v93 : Int) (v94 : Int) (v95 : (List UInt8)) : Option R :=
  (Option.bind (number_Sign N v87 v88 v89 v90 v91 v92) fun v96 =>
  (bif (!(Err.isNil v96.2.1)) then
  (k0 v96.2.1 v87 v88 v89 v90 v91 v92 0 0 [])
  else
  (bif (decide (v86 = 9)) then
  (bif (!(decide (v96.1 = 0))) then
  (k0 Err.nil v87 v88 v89 v90 v91 v92 1 1 [])
  else
  (k0 Err.nil v87 v88 v89 v90 v91 v92 1 0 []))
  else
  (bif (decide (v86 = 11)) then
  (bif (decide (v96.1 = 0)) then
  (k0 Err.nil v87 v88 v89 v90 v91 v92 1 1 [])
  else
  (bif (decide (v96.1 < 0)) then
  (k0 Err.nil v87 v88 v89 v90 v91 v92 1 1 [])
  else
  (k0 Err.nil v87 v88 v89 v90 v91 v92 1 0 [])))
  else
  (bif (decide (v86 = 10)) then
  (bif (decide (v96.1 < 0)) then
  (k0 Err.nil v87 v88 v89 v90 v91 v92 1 1 [])
  else
  (k0 Err.nil v87 v88 v89 v90 v91 v92 1 0 []))
  else
  (bif (decide (v86 = 13)) then
  (bif (decide (v96.1 = 0)) then
  (k0 Err.nil v87 v88 v89 v90 v91 v92 1 1 [])
  else
  (bif (decide (0 < v96.1)) then
  (k0 Err.nil v87 v88 v89 v90 v91 v92 1 1 [])
  else
  (k0 Err.nil v87 v88 v89 v90 v91 v92 1 0 [])))
  else
  (bif (decide (v86 = 12)) then
  (bif (decide (0 < v96.1)) then
  (k0 Err.nil v87 v88 v89 v90 v91 v92 1 1 [])
  else
  (k0 Err.nil v87 v88 v89 v90 v91 v92 1 0 []))
  else
  (bif (decide (v96.1 = 0)) then
  (k0 Err.nil v87 v88 v89 v90 v91 v92 1 1 [])
  else
  (k0 Err.nil v87 v88 v89 v90 v91 v92 1 0 [])))))))))

def number_Compare_j0 (N : Nat) (R : Type) (k0 : Int → Int → Int → (List UInt8) → Int → Int → (List UInt8) → Int → Int → (List UInt8) → Option R) (k1 : Int → Err → Int → Int → (List UInt8) → Int → Int → (List UInt8) → Int → Int → (List UInt8) → Option R) (v70 : Int) (v71 : Bool) (v72 : Int) (v73 : Int) (v74 : (List UInt8)) (v75 : Int) (v76 : Int) (v77 : (List UInt8)) (v78 : Int) (v79 : Int) (v80 : (List UInt8)) : Option R :=
  (bif v71 then
  (Option.bind (fault_New N 1 0) fun v81 =>
  (k1 v70 v81.1 v72 v73 v74 v75 v76 v77 0 0 []))
  else
  (Option.bind (value_Right N v72 v73 v74) fun v82 =>
  (bif (!v82.1) then
  (Option.bind (fault_New N 22 0) fun v83 =>
  (k1 v70 v83.1 v72 v73 v74 v75 v76 v77 0 0 []))
  else
  (Option.bind (value_Right N v75 v76 v77) fun v84 =>
  (bif (!v84.1) then
  (Option.bind (fault_New N 22 1) fun v85 =>
  (k1 v70 v85.1 v72 v73 v74 v75 v76 v77 0 0 []))
  else
  (bif (decide (v72 = 0)) then
  (k1 v70 Err.nil v72 v73 v74 v75 v76 v77 0 0 [])
  else
  (bif (decide (v75 = 0)) then
  (k1 v70 Err.nil v72 v73 v74 v75 v76 v77 0 0 [])
  else
  (k0 v70 v72 v73 v74 v75 v76 v77 v78 v79 v80))))))))

def number_Compare_cps (N : Nat) (R : Type) (K : Int → Int → (List UInt8) → Err → Option R) (v1 : Int) (v2 : Int) (v3 : Int) (v4 : (List UInt8)) (v5 : Int) (v6 : Int) (v7 : (List UInt8)) : Option R :=
  (bif (decide (v1 < 8)) then
  (number_Compare_j0 N _ (fun v8 v9 v10 v11 v12 v13 v14 v15 v16 v17 =>
  (number_Compare_j1 N _ (fun v18 v19 v20 v21 v22 v23 v24 v25 v26 v27 =>
  (K v25 v26 v27 v18)) v8 v9 v10 v11 v12 v13 v14 v15 v16 v17)) (fun v28 v29 v30 v31 v32 v33 v34 v35 v36 v37 v38 =>
  (K v36 v37 v38 v29)) v1 true v2 v3 v4 v5 v6 v7 0 0 [])
  else
  (number_Compare_j0 N _ (fun v39 v40 v41 v42 v43 v44 v45 v46 v47 v48 =>
  (number_Compare_j1 N _ (fun v49 v50 v51 v52 v53 v54 v55 v56 v57 v58 =>
  (K v56 v57 v58 v49)) v39 v40 v41 v42 v43 v44 v45 v46 v47 v48)) (fun v59 v60 v61 v62 v63 v64 v65 v66 v67 v68 v69 =>
  (K v67 v68 v69 v60)) v1 (decide (13 < v1)) v2 v3 v4 v5 v6 v7 0 0 []))

def number_Compare (N : Nat) (v1 : Int) (v2 : Int) (v3 : Int) (v4 : (List UInt8)) (v5 : Int) (v6 : Int) (v7 : (List UInt8)) : Option (Int × Int × (List UInt8) × Err × Unit) := number_Compare_cps N _ (fun a0 a1 a2 a3 => some (a0, (a1, (a2, (a3, ()))))) v1 v2 v3 v4 v5 v6 v7

/-! The functions about eval_Eval_1: they call one another. -/
set_option warn.classDefReducibility false
class Z_eval_Eval_1 where
  r_eval_Eval_1 : Int → Int → Int → (List UInt8) → (List UInt8) → (List UInt8) → Int → (List Ex) → Int → Int → Q1 → Option (Int × Int × (List UInt8) × Err × Unit)

section
variable [Z_eval_Eval_1]
/- frankpledge/eval.Eval -/
def eval_Eval_1_o_j3 (N : Nat) (R : Type) (k0 : Err → Int → Int → Int → (List UInt8) → (List UInt8) → (List UInt8) → Int → (List Ex) → Int → Int → Int → Int → (List UInt8) → Int → Int → (List UInt8) → Int → Int → (List UInt8) → Int → Int → (List UInt8) → Option R) (v431 : Bool) (v432 : Int) (v433 : Int) (v434 : Int) (v435 : (List UInt8)) (v436 : (List UInt8)) (v437 : (List UInt8)) (v438 : Int) (v439 : (List Ex)) (v440 : Int) (v441 : Int) (v442 : Int) (v443 : Int) (v444 : (List UInt8)) (v445 : Int) (v446 : Int) (v447 : (List UInt8)) (v448 : Int) (v449 : Int) (v450 : (List UInt8)) (v451 : Int) (v452 : Int) (v453 : (List UInt8)) : Option R :=
  (bif v431 then
  (Option.bind (number_Reckon N v432 v445 v446 v447 v448 v449 v450) fun v454 =>
  (k0 v454.2.2.2.1 v432 v433 v434 v435 v436 v437 v438 v439 v440 v441 v442 v443 v444 v445 v446 v447 v448 v449 v450 v454.1 v454.2.1 v454.2.2.1))
  else
  (Option.bind (number_Compare N v432 v445 v446 v447 v448 v449 v450) fun v455 =>
  (k0 v455.2.2.2.1 v432 v433 v434 v435 v436 v437 v438 v439 v440 v441 v442 v443 v444 v445 v446 v447 v448 v449 v450 v455.1 v455.2.1 v455.2.2.1)))

def eval_Eval_1_o_r2 (N : Nat) (R : Type) (k0 : Err → Int → Int → Int → (List UInt8) → (List UInt8) → (List UInt8) → Int → (List Ex) → Int → Int → Int → Int → (List UInt8) → Int → Int → (List UInt8) → Int → Int → (List UInt8) → Int → Int → (List UInt8) → Option R) (v406 : Err) (v407 : Int) (v408 : Int) (v409 : Int) (v410 : (List UInt8)) (v411 : (List UInt8)) (v412 : (List UInt8)) (v413 : Int) (v414 : (List Ex)) (v415 : Int) (v416 : Int) (v417 : Int) (v418 : Int) (v419 : (List UInt8)) (v420 : Int) (v421 : Int) (v422 : (List UInt8)) (v423 : Int) (v424 : Int) (v425 : (List UInt8)) (v426 : Int) (v427 : Int) (v428 : (List UInt8)) : Option R :=
  (Option.bind (fault_Code N v406) fun v429 =>
  (Option.bind (fault_Wrap N v406 v429.1 v416) fun v430 =>
  (k0 v430.1 v407 v408 v409 v410 v411 v412 v413 v414 v415 v416 v426 v427 v428 v420 v421 v422 v423 v424 v425 v426 v427 v428)))

def eval_Eval_1_o_l1B (N : Nat) (R : Type) (rec : Q1 → (List Ex) → Int → Int → Int → Int → Int → (List UInt8) → (List UInt8) → (List UInt8) → Int → (List Ex) → Int → Int → Int → Int → (List UInt8) → Int → Int → (List UInt8) → Int → Int → (List UInt8) → Option R) (k0 : Q1 → Int → Int → Int → (List UInt8) → (List UInt8) → (List UInt8) → Int → (List Ex) → Int → Int → Int → Int → (List UInt8) → Int → Int → (List UInt8) → Int → Int → (List UInt8) → Option R) (k1 : Q1 → Err → Int → Int → Int → (List UInt8) → (List UInt8) → (List UInt8) → Int → (List Ex) → Int → Int → Int → Int → (List UInt8) → Int → Int → (List UInt8) → Int → Int → (List UInt8) → Option R) (v381 : Q1) (v382 : (List Ex)) (v383 : Int) (v384 : Int) (v385 : Int) (v386 : Int) (v387 : Int) (v388 : (List UInt8)) (v389 : (List UInt8)) (v390 : (List UInt8)) (v391 : Int) (v392 : (List Ex)) (v393 : Int) (v394 : Int) (v395 : Int) (v396 : Int) (v397 : (List UInt8)) (v398 : Int) (v399 : Int) (v400 : (List UInt8)) (v401 : Int) (v402 : Int) (v403 : (List UInt8)) : Option R :=
  (bif (decide (v384 < v383)) then
  (Option.bind (nth v382 v384) fun v404 =>
  (Option.bind (Z_eval_Eval_1.r_eval_Eval_1 (Ex.op v404) (Ex.vk v404) (Ex.vn v404) (Ex.vs v404) (Ex.tab v404) (Ex.name v404) (Ex.num v404) (Ex.kids v404) (Ex.kind v404) (Ex.at_ v404) v381) fun v405 =>
  (bif (!(Err.isNil v405.2.2.2.1)) then
  (k1 v381 v405.2.2.2.1 v385 v386 v387 v388 v389 v390 v391 v392 v393 v394 0 0 [] v398 v399 v400 v401 v402 v403)
  else
  (bif (decide (v384 = (0 : Int))) then
  (rec v381 v382 v383 (IntKind.wrap .i64 (v384 + 1)) v385 v386 v387 v388 v389 v390 v391 v392 v393 v394 v395 v396 v397 v405.1 v405.2.1 v405.2.2.1 v401 v402 v403)
  else
  (bif (decide (v384 = (1 : Int))) then
  (rec v381 v382 v383 (IntKind.wrap .i64 (v384 + 1)) v385 v386 v387 v388 v389 v390 v391 v392 v393 v394 v395 v396 v397 v398 v399 v400 v405.1 v405.2.1 v405.2.2.1)
  else
  none)))))
  else
  (k0 v381 v385 v386 v387 v388 v389 v390 v391 v392 v393 v394 v395 v396 v397 v398 v399 v400 v401 v402 v403))

def eval_Eval_1_o_l1 (N : Nat) (R : Type) (k0 : Q1 → Int → Int → Int → (List UInt8) → (List UInt8) → (List UInt8) → Int → (List Ex) → Int → Int → Int → Int → (List UInt8) → Int → Int → (List UInt8) → Int → Int → (List UInt8) → Option R) (k1 : Q1 → Err → Int → Int → Int → (List UInt8) → (List UInt8) → (List UInt8) → Int → (List Ex) → Int → Int → Int → Int → (List UInt8) → Int → Int → (List UInt8) → Int → Int → (List UInt8) → Option R) : Nat → Q1 → (List Ex) → Int → Int → Int → Int → Int → (List UInt8) → (List UInt8) → (List UInt8) → Int → (List Ex) → Int → Int → Int → Int → (List UInt8) → Int → Int → (List UInt8) → Int → Int → (List UInt8) → Option R
  | 0 => fun _ _ _ _ _ _ _ _ _ _ _ _ _ _ _ _ _ _ _ _ _ _ _ => none
  | n + 1 => eval_Eval_1_o_l1B N R (eval_Eval_1_o_l1 N R k0 k1 n) k0 k1

def eval_Eval_1_o_j0 (N : Nat) (R : Type) (k0 : Err → Int → Int → Int → (List UInt8) → (List UInt8) → (List UInt8) → Int → (List Ex) → Int → Int → Int → Int → (List UInt8) → Option R) (v44 : Q1) (v45 : Int) (v46 : Int) (v47 : Int) (v48 : (List UInt8)) (v49 : (List UInt8)) (v50 : (List UInt8)) (v51 : Int) (v52 : (List Ex)) (v53 : Int) (v54 : Int) (v55 : Int) (v56 : Int) (v57 : (List UInt8)) : Option R :=
  (eval_Eval_1_o_l1 N _ (fun v58 v59 v60 v61 v62 v63 v64 v65 v66 v67 v68 v69 v70 v71 v72 v73 v74 v75 v76 v77 =>
  (bif (decide (v59 = 1)) then
  (k0 Err.nil v59 v60 v61 v62 v63 v64 v65 v66 v67 v68 v60 v61 v62)
  else
  (bif (decide (v59 = 2)) then
  (Option.bind (nth v58 v65) fun v78 =>
  (k0 Err.nil v59 v60 v61 v62 v63 v64 v65 v66 v67 v68 v78.1 v78.2.1 v78.2.2.1))
  else
  (bif (decide (v59 = 17)) then
  (Option.bind (eval_truth N (decide (v72 = 0))) fun v79 =>
  (k0 Err.nil v59 v60 v61 v62 v63 v64 v65 v66 v67 v68 v79.1 v79.2.1 v79.2.2.1))
  else
  (bif (decide (v59 = 14)) then
  (Option.bind (value_And N v72 v73 v74 v75 v76 v77) fun v80 =>
  (eval_Eval_1_o_r2 N _ (fun v81 v82 v83 v84 v85 v86 v87 v88 v89 v90 v91 v92 v93 v94 v95 v96 v97 v98 v99 v100 v101 v102 v103 =>
  (k0 v81 v82 v83 v84 v85 v86 v87 v88 v89 v90 v91 v92 v93 v94)) v80.2.2.2.1 v59 v60 v61 v62 v63 v64 v65 v66 v67 v68 v69 v70 v71 v72 v73 v74 v75 v76 v77 v80.1 v80.2.1 v80.2.2.1))
  else
  (bif (decide (v59 = 15)) then
  (Option.bind (value_Or N v72 v73 v74 v75 v76 v77) fun v104 =>
  (eval_Eval_1_o_r2 N _ (fun v105 v106 v107 v108 v109 v110 v111 v112 v113 v114 v115 v116 v117 v118 v119 v120 v121 v122 v123 v124 v125 v126 v127 =>
  (k0 v105 v106 v107 v108 v109 v110 v111 v112 v113 v114 v115 v116 v117 v118)) v104.2.2.2.1 v59 v60 v61 v62 v63 v64 v65 v66 v67 v68 v69 v70 v71 v72 v73 v74 v75 v76 v77 v104.1 v104.2.1 v104.2.2.1))
  else
  (bif (decide (v59 = 16)) then
  (Option.bind (value_Not N v72 v73 v74) fun v128 =>
  (eval_Eval_1_o_r2 N _ (fun v129 v130 v131 v132 v133 v134 v135 v136 v137 v138 v139 v140 v141 v142 v143 v144 v145 v146 v147 v148 v149 v150 v151 =>
  (k0 v129 v130 v131 v132 v133 v134 v135 v136 v137 v138 v139 v140 v141 v142)) v128.2.2.2.1 v59 v60 v61 v62 v63 v64 v65 v66 v67 v68 v69 v70 v71 v72 v73 v74 v75 v76 v77 v128.1 v128.2.1 v128.2.2.1))
  else
  (bif (decide (v59 = 7)) then
  (Option.bind (number_Neg N v72 v73 v74) fun v152 =>
  (eval_Eval_1_o_r2 N _ (fun v153 v154 v155 v156 v157 v158 v159 v160 v161 v162 v163 v164 v165 v166 v167 v168 v169 v170 v171 v172 v173 v174 v175 =>
  (k0 v153 v154 v155 v156 v157 v158 v159 v160 v161 v162 v163 v164 v165 v166)) v152.2.2.2.1 v59 v60 v61 v62 v63 v64 v65 v66 v67 v68 v69 v70 v71 v72 v73 v74 v75 v76 v77 v152.1 v152.2.1 v152.2.2.1))
  else
  (bif (decide (v59 = 3)) then
  (eval_Eval_1_o_j3 N _ (fun v176 v177 v178 v179 v180 v181 v182 v183 v184 v185 v186 v187 v188 v189 v190 v191 v192 v193 v194 v195 v196 v197 v198 =>
  (eval_Eval_1_o_r2 N _ (fun v199 v200 v201 v202 v203 v204 v205 v206 v207 v208 v209 v210 v211 v212 v213 v214 v215 v216 v217 v218 v219 v220 v221 =>
  (k0 v199 v200 v201 v202 v203 v204 v205 v206 v207 v208 v209 v210 v211 v212)) v176 v177 v178 v179 v180 v181 v182 v183 v184 v185 v186 v187 v188 v189 v190 v191 v192 v193 v194 v195 v196 v197 v198)) true v59 v60 v61 v62 v63 v64 v65 v66 v67 v68 v69 v70 v71 v72 v73 v74 v75 v76 v77 0 0 [])
  else
  (bif (decide (v59 = 4)) then
  (eval_Eval_1_o_j3 N _ (fun v222 v223 v224 v225 v226 v227 v228 v229 v230 v231 v232 v233 v234 v235 v236 v237 v238 v239 v240 v241 v242 v243 v244 =>
  (eval_Eval_1_o_r2 N _ (fun v245 v246 v247 v248 v249 v250 v251 v252 v253 v254 v255 v256 v257 v258 v259 v260 v261 v262 v263 v264 v265 v266 v267 =>
  (k0 v245 v246 v247 v248 v249 v250 v251 v252 v253 v254 v255 v256 v257 v258)) v222 v223 v224 v225 v226 v227 v228 v229 v230 v231 v232 v233 v234 v235 v236 v237 v238 v239 v240 v241 v242 v243 v244)) true v59 v60 v61 v62 v63 v64 v65 v66 v67 v68 v69 v70 v71 v72 v73 v74 v75 v76 v77 0 0 [])
  else
  (bif (decide (v59 = 5)) then
  (eval_Eval_1_o_j3 N _ (fun v268 v269 v270 v271 v272 v273 v274 v275 v276 v277 v278 v279 v280 v281 v282 v283 v284 v285 v286 v287 v288 v289 v290 =>
  (eval_Eval_1_o_r2 N _ (fun v291 v292 v293 v294 v295 v296 v297 v298 v299 v300 v301 v302 v303 v304 v305 v306 v307 v308 v309 v310 v311 v312 v313 =>
  (k0 v291 v292 v293 v294 v295 v296 v297 v298 v299 v300 v301 v302 v303 v304)) v268 v269 v270 v271 v272 v273 v274 v275 v276 v277 v278 v279 v280 v281 v282 v283 v284 v285 v286 v287 v288 v289 v290)) true v59 v60 v61 v62 v63 v64 v65 v66 v67 v68 v69 v70 v71 v72 v73 v74 v75 v76 v77 0 0 [])
  else
  (eval_Eval_1_o_j3 N _ (fun v314 v315 v316 v317 v318 v319 v320 v321 v322 v323 v324 v325 v326 v327 v328 v329 v330 v331 v332 v333 v334 v335 v336 =>
  (eval_Eval_1_o_r2 N _ (fun v337 v338 v339 v340 v341 v342 v343 v344 v345 v346 v347 v348 v349 v350 v351 v352 v353 v354 v355 v356 v357 v358 v359 =>
  (k0 v337 v338 v339 v340 v341 v342 v343 v344 v345 v346 v347 v348 v349 v350)) v314 v315 v316 v317 v318 v319 v320 v321 v322 v323 v324 v325 v326 v327 v328 v329 v330 v331 v332 v333 v334 v335 v336)) (decide (v59 = 6)) v59 v60 v61 v62 v63 v64 v65 v66 v67 v68 v69 v70 v71 v72 v73 v74 v75 v76 v77 0 0 [])))))))))))) (fun v360 v361 v362 v363 v364 v365 v366 v367 v368 v369 v370 v371 v372 v373 v374 v375 v376 v377 v378 v379 v380 =>
  (k0 v361 v362 v363 v364 v365 v366 v367 v368 v369 v370 v371 v372 v373 v374)) N v44 v52 (v52.length : Int) 0 v45 v46 v47 v48 v49 v50 v51 v52 v53 v54 v55 v56 v57 0 0 [] 0 0 [])

def eval_Eval_1_o_cps (N : Nat) (R : Type) (K : Int → Int → (List UInt8) → Err → Option R) (v1 : Int) (v2 : Int) (v3 : Int) (v4 : (List UInt8)) (v5 : (List UInt8)) (v6 : (List UInt8)) (v7 : Int) (v8 : (List Ex)) (v9 : Int) (v10 : Int) (v11 : Q1) : Option R :=
  (Option.bind (eval_kids N v1) fun v12 =>
  (bif (!(decide (v12.1 = (v8.length : Int)))) then
  (Option.bind (fault_New N 1 v10) fun v13 =>
  (K 0 0 [] v13.1))
  else
  (bif (decide (v1 = 2)) then
  (bif (decide (v7 < 0)) then
  (Option.bind (fault_New N 1 v10) fun v14 =>
  (K 0 0 [] v14.1))
  else
  (bif (decide ((v11.length : Int) ≤ v7)) then
  (Option.bind (fault_New N 1 v10) fun v15 =>
  (K 0 0 [] v15.1))
  else
  (eval_Eval_1_o_j0 N _ (fun v16 v17 v18 v19 v20 v21 v22 v23 v24 v25 v26 v27 v28 v29 =>
  (K v27 v28 v29 v16)) v11 v1 v2 v3 v4 v5 v6 v7 v8 v9 v10 0 0 [])))
  else
  (eval_Eval_1_o_j0 N _ (fun v30 v31 v32 v33 v34 v35 v36 v37 v38 v39 v40 v41 v42 v43 =>
  (K v41 v42 v43 v30)) v11 v1 v2 v3 v4 v5 v6 v7 v8 v9 v10 0 0 []))))

def eval_Eval_1_o (N : Nat) (v1 : Int) (v2 : Int) (v3 : Int) (v4 : (List UInt8)) (v5 : (List UInt8)) (v6 : (List UInt8)) (v7 : Int) (v8 : (List Ex)) (v9 : Int) (v10 : Int) (v11 : Q1) : Option (Int × Int × (List UInt8) × Err × Unit) := eval_Eval_1_o_cps N _ (fun a0 a1 a2 a3 => some (a0, (a1, (a2, (a3, ()))))) v1 v2 v3 v4 v5 v6 v7 v8 v9 v10 v11

end
def Z_eval_Eval_1_at (N : Nat) : Nat → Z_eval_Eval_1
  | 0 => { r_eval_Eval_1 := fun _ _ _ _ _ _ _ _ _ _ _ => none }
  | n + 1 => letI : Z_eval_Eval_1 := Z_eval_Eval_1_at N n; { r_eval_Eval_1 := (fun a0 a1 a2 a3 a4 a5 a6 a7 a8 a9 a10 => eval_Eval_1_o N a0 a1 a2 a3 a4 a5 a6 a7 a8 a9 a10) }

def eval_Eval_1 (N : Nat) (v1 : Int) (v2 : Int) (v3 : Int) (v4 : (List UInt8)) (v5 : (List UInt8)) (v6 : (List UInt8)) (v7 : Int) (v8 : (List Ex)) (v9 : Int) (v10 : Int) (v11 : Q1) : Option (Int × Int × (List UInt8) × Err × Unit) := letI : Z_eval_Eval_1 := Z_eval_Eval_1_at N N; eval_Eval_1_o N v1 v2 v3 v4 v5 v6 v7 v8 v9 v10 v11

/-! frankpledge/eval.Eval -/
def eval_Eval_j3 (N : Nat) (R : Type) (k0 : Err → Int → Int → Int → (List UInt8) → (List UInt8) → (List UInt8) → Int → (List Ex) → Int → Int → Int → Int → (List UInt8) → Int → Int → (List UInt8) → Int → Int → (List UInt8) → Int → Int → (List UInt8) → Option R) (v431 : Bool) (v432 : Int) (v433 : Int) (v434 : Int) (v435 : (List UInt8)) (v436 : (List UInt8)) (v437 : (List UInt8)) (v438 : Int) (v439 : (List Ex)) (v440 : Int) (v441 : Int) (v442 : Int) (v443 : Int) (v444 : (List UInt8)) (v445 : Int) (v446 : Int) (v447 : (List UInt8)) (v448 : Int) (v449 : Int) (v450 : (List UInt8)) (v451 : Int) (v452 : Int) (v453 : (List UInt8)) : Option R :=
  (bif v431 then
  (Option.bind (number_Reckon N v432 v445 v446 v447 v448 v449 v450) fun v454 =>
  (k0 v454.2.2.2.1 v432 v433 v434 v435 v436 v437 v438 v439 v440 v441 v442 v443 v444 v445 v446 v447 v448 v449 v450 v454.1 v454.2.1 v454.2.2.1))
  else
  (Option.bind (number_Compare N v432 v445 v446 v447 v448 v449 v450) fun v455 =>
  (k0 v455.2.2.2.1 v432 v433 v434 v435 v436 v437 v438 v439 v440 v441 v442 v443 v444 v445 v446 v447 v448 v449 v450 v455.1 v455.2.1 v455.2.2.1)))

def eval_Eval_r2 (N : Nat) (R : Type) (k0 : Err → Int → Int → Int → (List UInt8) → (List UInt8) → (List UInt8) → Int → (List Ex) → Int → Int → Int → Int → (List UInt8) → Int → Int → (List UInt8) → Int → Int → (List UInt8) → Int → Int → (List UInt8) → Option R) (v406 : Err) (v407 : Int) (v408 : Int) (v409 : Int) (v410 : (List UInt8)) (v411 : (List UInt8)) (v412 : (List UInt8)) (v413 : Int) (v414 : (List Ex)) (v415 : Int) (v416 : Int) (v417 : Int) (v418 : Int) (v419 : (List UInt8)) (v420 : Int) (v421 : Int) (v422 : (List UInt8)) (v423 : Int) (v424 : Int) (v425 : (List UInt8)) (v426 : Int) (v427 : Int) (v428 : (List UInt8)) : Option R :=
  (Option.bind (fault_Code N v406) fun v429 =>
  (Option.bind (fault_Wrap N v406 v429.1 v416) fun v430 =>
  (k0 v430.1 v407 v408 v409 v410 v411 v412 v413 v414 v415 v416 v426 v427 v428 v420 v421 v422 v423 v424 v425 v426 v427 v428)))

def eval_Eval_l1B (N : Nat) (R : Type) (rec : Q1 → (List Ex) → Int → Int → Int → Int → Int → (List UInt8) → (List UInt8) → (List UInt8) → Int → (List Ex) → Int → Int → Int → Int → (List UInt8) → Int → Int → (List UInt8) → Int → Int → (List UInt8) → Option R) (k0 : Q1 → Int → Int → Int → (List UInt8) → (List UInt8) → (List UInt8) → Int → (List Ex) → Int → Int → Int → Int → (List UInt8) → Int → Int → (List UInt8) → Int → Int → (List UInt8) → Option R) (k1 : Q1 → Err → Int → Int → Int → (List UInt8) → (List UInt8) → (List UInt8) → Int → (List Ex) → Int → Int → Int → Int → (List UInt8) → Int → Int → (List UInt8) → Int → Int → (List UInt8) → Option R) (v381 : Q1) (v382 : (List Ex)) (v383 : Int) (v384 : Int) (v385 : Int) (v386 : Int) (v387 : Int) (v388 : (List UInt8)) (v389 : (List UInt8)) (v390 : (List UInt8)) (v391 : Int) (v392 : (List Ex)) (v393 : Int) (v394 : Int) (v395 : Int) (v396 : Int) (v397 : (List UInt8)) (v398 : Int) (v399 : Int) (v400 : (List UInt8)) (v401 : Int) (v402 : Int) (v403 : (List UInt8)) : Option R :=
  (bif (decide (v384 < v383)) then
  (Option.bind (nth v382 v384) fun v404 =>
  (Option.bind (eval_Eval_1 N (Ex.op v404) (Ex.vk v404) (Ex.vn v404) (Ex.vs v404) (Ex.tab v404) (Ex.name v404) (Ex.num v404) (Ex.kids v404) (Ex.kind v404) (Ex.at_ v404) v381) fun v405 =>
  (bif (!(Err.isNil v405.2.2.2.1)) then
  (k1 v381 v405.2.2.2.1 v385 v386 v387 v388 v389 v390 v391 v392 v393 v394 0 0 [] v398 v399 v400 v401 v402 v403)
  else
  (bif (decide (v384 = (0 : Int))) then
  (rec v381 v382 v383 (IntKind.wrap .i64 (v384 + 1)) v385 v386 v387 v388 v389 v390 v391 v392 v393 v394 v395 v396 v397 v405.1 v405.2.1 v405.2.2.1 v401 v402 v403)
  else
  (bif (decide (v384 = (1 : Int))) then
  (rec v381 v382 v383 (IntKind.wrap .i64 (v384 + 1)) v385 v386 v387 v388 v389 v390 v391 v392 v393 v394 v395 v396 v397 v398 v399 v400 v405.1 v405.2.1 v405.2.2.1)
  else
  none)))))
  else
  (k0 v381 v385 v386 v387 v388 v389 v390 v391 v392 v393 v394 v395 v396 v397 v398 v399 v400 v401 v402 v403))

def eval_Eval_l1 (N : Nat) (R : Type) (k0 : Q1 → Int → Int → Int → (List UInt8) → (List UInt8) → (List UInt8) → Int → (List Ex) → Int → Int → Int → Int → (List UInt8) → Int → Int → (List UInt8) → Int → Int → (List UInt8) → Option R) (k1 : Q1 → Err → Int → Int → Int → (List UInt8) → (List UInt8) → (List UInt8) → Int → (List Ex) → Int → Int → Int → Int → (List UInt8) → Int → Int → (List UInt8) → Int → Int → (List UInt8) → Option R) : Nat → Q1 → (List Ex) → Int → Int → Int → Int → Int → (List UInt8) → (List UInt8) → (List UInt8) → Int → (List Ex) → Int → Int → Int → Int → (List UInt8) → Int → Int → (List UInt8) → Int → Int → (List UInt8) → Option R
  | 0 => fun _ _ _ _ _ _ _ _ _ _ _ _ _ _ _ _ _ _ _ _ _ _ _ => none
  | n + 1 => eval_Eval_l1B N R (eval_Eval_l1 N R k0 k1 n) k0 k1

def eval_Eval_j0 (N : Nat) (R : Type) (k0 : Err → Int → Int → Int → (List UInt8) → (List UInt8) → (List UInt8) → Int → (List Ex) → Int → Int → Int → Int → (List UInt8) → Option R) (v44 : Q1) (v45 : Int) (v46 : Int) (v47 : Int) (v48 : (List UInt8)) (v49 : (List UInt8)) (v50 : (List UInt8)) (v51 : Int) (v52 : (List Ex)) (v53 : Int) (v54 : Int) (v55 : Int) (v56 : Int) (v57 : (List UInt8)) : Option R :=
  (eval_Eval_l1 N _ (fun v58 v59 v60 v61 v62 v63 v64 v65 v66 v67 v68 v69 v70 v71 v72 v73 v74 v75 v76 v77 =>
  (bif (decide (v59 = 1)) then
  (k0 Err.nil v59 v60 v61 v62 v63 v64 v65 v66 v67 v68 v60 v61 v62)
  else
  (bif (decide (v59 = 2)) then
  (Option.bind (nth v58 v65) fun v78 =>
  (k0 Err.nil v59 v60 v61 v62 v63 v64 v65 v66 v67 v68 v78.1 v78.2.1 v78.2.2.1))
  else
  (bif (decide (v59 = 17)) then
  (Option.bind (eval_truth N (decide (v72 = 0))) fun v79 =>
  (k0 Err.nil v59 v60 v61 v62 v63 v64 v65 v66 v67 v68 v79.1 v79.2.1 v79.2.2.1))
  else
  (bif (decide (v59 = 14)) then
  (Option.bind (value_And N v72 v73 v74 v75 v76 v77) fun v80 =>
  (eval_Eval_r2 N _ (fun v81 v82 v83 v84 v85 v86 v87 v88 v89 v90 v91 v92 v93 v94 v95 v96 v97 v98 v99 v100 v101 v102 v103 =>
  (k0 v81 v82 v83 v84 v85 v86 v87 v88 v89 v90 v91 v92 v93 v94)) v80.2.2.2.1 v59 v60 v61 v62 v63 v64 v65 v66 v67 v68 v69 v70 v71 v72 v73 v74 v75 v76 v77 v80.1 v80.2.1 v80.2.2.1))
  else
  (bif (decide (v59 = 15)) then
  (Option.bind (value_Or N v72 v73 v74 v75 v76 v77) fun v104 =>
  (eval_Eval_r2 N _ (fun v105 v106 v107 v108 v109 v110 v111 v112 v113 v114 v115 v116 v117 v118 v119 v120 v121 v122 v123 v124 v125 v126 v127 =>
  (k0 v105 v106 v107 v108 v109 v110 v111 v112 v113 v114 v115 v116 v117 v118)) v104.2.2.2.1 v59 v60 v61 v62 v63 v64 v65 v66 v67 v68 v69 v70 v71 v72 v73 v74 v75 v76 v77 v104.1 v104.2.1 v104.2.2.1))
  else
  (bif (decide (v59 = 16)) then
  (Option.bind (value_Not N v72 v73 v74) fun v128 =>
  (eval_Eval_r2 N _ (fun v129 v130 v131 v132 v133 v134 v135 v136 v137 v138 v139 v140 v141 v142 v143 v144 v145 v146 v147 v148 v149 v150 v151 =>
  (k0 v129 v130 v131 v132 v133 v134 v135 v136 v137 v138 v139 v140 v141 v142)) v128.2.2.2.1 v59 v60 v61 v62 v63 v64 v65 v66 v67 v68 v69 v70 v71 v72 v73 v74 v75 v76 v77 v128.1 v128.2.1 v128.2.2.1))
  else
  (bif (decide (v59 = 7)) then
  (Option.bind (number_Neg N v72 v73 v74) fun v152 =>
  (eval_Eval_r2 N _ (fun v153 v154 v155 v156 v157 v158 v159 v160 v161 v162 v163 v164 v165 v166 v167 v168 v169 v170 v171 v172 v173 v174 v175 =>
  (k0 v153 v154 v155 v156 v157 v158 v159 v160 v161 v162 v163 v164 v165 v166)) v152.2.2.2.1 v59 v60 v61 v62 v63 v64 v65 v66 v67 v68 v69 v70 v71 v72 v73 v74 v75 v76 v77 v152.1 v152.2.1 v152.2.2.1))
  else
  (bif (decide (v59 = 3)) then
  (eval_Eval_j3 N _ (fun v176 v177 v178 v179 v180 v181 v182 v183 v184 v185 v186 v187 v188 v189 v190 v191 v192 v193 v194 v195 v196 v197 v198 =>
  (eval_Eval_r2 N _ (fun v199 v200 v201 v202 v203 v204 v205 v206 v207 v208 v209 v210 v211 v212 v213 v214 v215 v216 v217 v218 v219 v220 v221 =>
  (k0 v199 v200 v201 v202 v203 v204 v205 v206 v207 v208 v209 v210 v211 v212)) v176 v177 v178 v179 v180 v181 v182 v183 v184 v185 v186 v187 v188 v189 v190 v191 v192 v193 v194 v195 v196 v197 v198)) true v59 v60 v61 v62 v63 v64 v65 v66 v67 v68 v69 v70 v71 v72 v73 v74 v75 v76 v77 0 0 [])
  else
  (bif (decide (v59 = 4)) then
  (eval_Eval_j3 N _ (fun v222 v223 v224 v225 v226 v227 v228 v229 v230 v231 v232 v233 v234 v235 v236 v237 v238 v239 v240 v241 v242 v243 v244 =>
  (eval_Eval_r2 N _ (fun v245 v246 v247 v248 v249 v250 v251 v252 v253 v254 v255 v256 v257 v258 v259 v260 v261 v262 v263 v264 v265 v266 v267 =>
  (k0 v245 v246 v247 v248 v249 v250 v251 v252 v253 v254 v255 v256 v257 v258)) v222 v223 v224 v225 v226 v227 v228 v229 v230 v231 v232 v233 v234 v235 v236 v237 v238 v239 v240 v241 v242 v243 v244)) true v59 v60 v61 v62 v63 v64 v65 v66 v67 v68 v69 v70 v71 v72 v73 v74 v75 v76 v77 0 0 [])
  else
  (bif (decide (v59 = 5)) then
  (eval_Eval_j3 N _ (fun v268 v269 v270 v271 v272 v273 v274 v275 v276 v277 v278 v279 v280 v281 v282 v283 v284 v285 v286 v287 v288 v289 v290 =>
  (eval_Eval_r2 N _ (fun v291 v292 v293 v294 v295 v296 v297 v298 v299 v300 v301 v302 v303 v304 v305 v306 v307 v308 v309 v310 v311 v312 v313 =>
  (k0 v291 v292 v293 v294 v295 v296 v297 v298 v299 v300 v301 v302 v303 v304)) v268 v269 v270 v271 v272 v273 v274 v275 v276 v277 v278 v279 v280 v281 v282 v283 v284 v285 v286 v287 v288 v289 v290)) true v59 v60 v61 v62 v63 v64 v65 v66 v67 v68 v69 v70 v71 v72 v73 v74 v75 v76 v77 0 0 [])
  else
  (eval_Eval_j3 N _ (fun v314 v315 v316 v317 v318 v319 v320 v321 v322 v323 v324 v325 v326 v327 v328 v329 v330 v331 v332 v333 v334 v335 v336 =>
  (eval_Eval_r2 N _ (fun v337 v338 v339 v340 v341 v342 v343 v344 v345 v346 v347 v348 v349 v350 v351 v352 v353 v354 v355 v356 v357 v358 v359 =>
  (k0 v337 v338 v339 v340 v341 v342 v343 v344 v345 v346 v347 v348 v349 v350)) v314 v315 v316 v317 v318 v319 v320 v321 v322 v323 v324 v325 v326 v327 v328 v329 v330 v331 v332 v333 v334 v335 v336)) (decide (v59 = 6)) v59 v60 v61 v62 v63 v64 v65 v66 v67 v68 v69 v70 v71 v72 v73 v74 v75 v76 v77 0 0 [])))))))))))) (fun v360 v361 v362 v363 v364 v365 v366 v367 v368 v369 v370 v371 v372 v373 v374 v375 v376 v377 v378 v379 v380 =>
  (k0 v361 v362 v363 v364 v365 v366 v367 v368 v369 v370 v371 v372 v373 v374)) N v44 v52 (v52.length : Int) 0 v45 v46 v47 v48 v49 v50 v51 v52 v53 v54 v55 v56 v57 0 0 [] 0 0 [])

def eval_Eval_cps (N : Nat) (R : Type) (K : Int → Int → (List UInt8) → Err → Option R) (v1 : Int) (v2 : Int) (v3 : Int) (v4 : (List UInt8)) (v5 : (List UInt8)) (v6 : (List UInt8)) (v7 : Int) (v8 : (List Ex)) (v9 : Int) (v10 : Int) (v11 : Q1) : Option R :=
  (Option.bind (eval_kids N v1) fun v12 =>
  (bif (!(decide (v12.1 = (v8.length : Int)))) then
  (Option.bind (fault_New N 1 v10) fun v13 =>
  (K 0 0 [] v13.1))
  else
  (bif (decide (v1 = 2)) then
  (bif (decide (v7 < 0)) then
  (Option.bind (fault_New N 1 v10) fun v14 =>
  (K 0 0 [] v14.1))
  else
  (bif (decide ((v11.length : Int) ≤ v7)) then
  (Option.bind (fault_New N 1 v10) fun v15 =>
  (K 0 0 [] v15.1))
  else
  (eval_Eval_j0 N _ (fun v16 v17 v18 v19 v20 v21 v22 v23 v24 v25 v26 v27 v28 v29 =>
  (K v27 v28 v29 v16)) v11 v1 v2 v3 v4 v5 v6 v7 v8 v9 v10 0 0 [])))
  else
  (eval_Eval_j0 N _ (fun v30 v31 v32 v33 v34 v35 v36 v37 v38 v39 v40 v41 v42 v43 =>
  (K v41 v42 v43 v30)) v11 v1 v2 v3 v4 v5 v6 v7 v8 v9 v10 0 0 []))))

def eval_Eval (N : Nat) (v1 : Int) (v2 : Int) (v3 : Int) (v4 : (List UInt8)) (v5 : (List UInt8)) (v6 : (List UInt8)) (v7 : Int) (v8 : (List Ex)) (v9 : Int) (v10 : Int) (v11 : Q1) : Option (Int × Int × (List UInt8) × Err × Unit) := eval_Eval_cps N _ (fun a0 a1 a2 a3 => some (a0, (a1, (a2, (a3, ()))))) v1 v2 v3 v4 v5 v6 v7 v8 v9 v10 v11

/-! frankpledge/eval.of -/
def eval_of_cps (N : Nat) (R : Type) (K : Int → Int → Option R) (v1 : Int) : Option R :=
  (K (Ev.shr .i64 v1 63) (IntKind.wrap .u64 v1))

def eval_of (N : Nat) (v1 : Int) : Option (Int × Int × Unit) := eval_of_cps N _ (fun a0 a1 => some (a0, (a1, ()))) v1

/-! math/bits.Add64 -/
def bits_Add64_cps (N : Nat) (R : Type) (K : Int → Int → Option R) (v1 : Int) (v2 : Int) (v3 : Int) : Option R :=
  (bif (decide (0 ≤ v3 ∧ v3 ≤ 1)) then (K ((v1 + v2 + v3) % 18446744073709551616) ((v1 + v2 + v3) / 18446744073709551616)) else none)

def bits_Add64 (N : Nat) (v1 : Int) (v2 : Int) (v3 : Int) : Option (Int × Int × Unit) := bits_Add64_cps N _ (fun a0 a1 => some (a0, (a1, ()))) v1 v2 v3

/-! (frankpledge/eval.wide).plus -/
def eval_wide_plus_cps (N : Nat) (R : Type) (K : Int → Int → Option R) (v1 : Int) (v2 : Int) (v3 : Int) (v4 : Int) : Option R :=
  (Option.bind (bits_Add64 N v2 v4 0) fun v5 =>
  (K (IntKind.wrap .i64 ((IntKind.wrap .i64 (v1 + v3)) + (IntKind.wrap .i64 v5.2.1))) v5.1))

def eval_wide_plus (N : Nat) (v1 : Int) (v2 : Int) (v3 : Int) (v4 : Int) : Option (Int × Int × Unit) := eval_wide_plus_cps N _ (fun a0 a1 => some (a0, (a1, ()))) v1 v2 v3 v4

/-! (frankpledge/eval.wide).times -/
def eval_wide_times_cps (N : Nat) (R : Type) (K : Int → Int → Option R) (v1 : Int) (v2 : Int) (v3 : Int) : Option R :=
  (Option.bind (bits_Mul64 N v2 v3) fun v4 =>
  (K (IntKind.wrap .i64 ((IntKind.wrap .i64 (v1 * (IntKind.wrap .i64 v3))) + (IntKind.wrap .i64 v4.1))) v4.2.1))

def eval_wide_times (N : Nat) (v1 : Int) (v2 : Int) (v3 : Int) : Option (Int × Int × Unit) := eval_wide_times_cps N _ (fun a0 a1 => some (a0, (a1, ()))) v1 v2 v3

/-! (frankpledge/eval.wide).fits -/
def eval_wide_fits_cps (N : Nat) (R : Type) (K : Int → Bool → Option R) (v1 : Int) (v2 : Int) : Option R :=
  (K (IntKind.wrap .i64 v2) (decide (v1 = (Ev.shr .i64 (IntKind.wrap .i64 v2) 63))))

def eval_wide_fits (N : Nat) (v1 : Int) (v2 : Int) : Option (Int × Bool × Unit) := eval_wide_fits_cps N _ (fun a0 a1 => some (a0, (a1, ()))) v1 v2

/-! frankpledge/eval.sum -/
def eval_sum_j1 (N : Nat) (R : Type) (k0 : Err → Int → Int → (List UInt8) → Int → Int → Int → Int → Int → Int → (List UInt8) → Option R) (v69 : Int) (v70 : Int) (v71 : (List UInt8)) (v72 : Int) (v73 : Int) (v74 : Int) (v75 : Int) (v76 : Int) (v77 : Int) (v78 : (List UInt8)) : Option R :=
  (Option.bind (eval_wide_fits N v72 v73) fun v79 =>
  (bif (!v79.2.1) then
  (Option.bind (fault_New N 31 (-1)) fun v80 =>
  (k0 v80.1 0 0 [] v72 v73 v74 v75 v76 v77 v78))
  else
  (k0 Err.nil v76 v79.1 v78 v72 v73 v74 v75 v76 v79.1 v78)))

def eval_sum_l0B (N : Nat) (R : Type) (rec : Q1 → Int → Int → Int → Int → (List UInt8) → Int → Int → Int → Int → Int → Int → (List UInt8) → Option R) (k0 : Int → Int → (List UInt8) → Int → Int → Int → Int → Int → Int → (List UInt8) → Option R) (k1 : Err → Int → Int → (List UInt8) → Int → Int → Int → Int → Int → Int → (List UInt8) → Option R) (v48 : Q1) (v49 : Int) (v50 : Int) (v51 : Int) (v52 : Int) (v53 : (List UInt8)) (v54 : Int) (v55 : Int) (v56 : Int) (v57 : Int) (v58 : Int) (v59 : Int) (v60 : (List UInt8)) : Option R :=
  (bif (decide (v50 < v49)) then
  (Option.bind (nth v48 v50) fun v61 =>
  (Option.bind (value_Right N v61.1 v61.2.1 v61.2.2.1) fun v62 =>
  (bif (!v62.1) then
  (Option.bind (fault_New N 22 v50) fun v63 =>
  (k1 v63.1 0 0 [] v54 v55 v56 v57 v58 v59 v60))
  else
  (bif (decide (v61.1 = 0)) then
  (rec v48 v49 (IntKind.wrap .i64 (v50 + 1)) v51 v52 v53 v54 v55 v56 v57 v58 v59 v60)
  else
  (bif (decide (v61.1 = 2)) then
  (Option.bind (eval_of N v61.2.1) fun v64 =>
  (Option.bind (eval_wide_plus N v54 v55 v64.1 v64.2.1) fun v65 =>
  (rec v48 v49 (IntKind.wrap .i64 (v50 + 1)) v51 v52 v53 v65.1 v65.2.1 v56 v57 (maxI v58 v61.1) v59 v60)))
  else
  (bif (decide (v61.1 = 3)) then
  (Option.bind (eval_of N v61.2.1) fun v66 =>
  (Option.bind (eval_wide_plus N v56 v57 v66.1 v66.2.1) fun v67 =>
  (rec v48 v49 (IntKind.wrap .i64 (v50 + 1)) v51 v52 v53 v54 v55 v67.1 v67.2.1 (maxI v58 v61.1) v59 v60)))
  else
  (Option.bind (fault_New N 22 v50) fun v68 =>
  (k1 v68.1 0 0 [] v54 v55 v56 v57 v58 v59 v60))))))))
  else
  (k0 v51 v52 v53 v54 v55 v56 v57 v58 v59 v60))

def eval_sum_l0 (N : Nat) (R : Type) (k0 : Int → Int → (List UInt8) → Int → Int → Int → Int → Int → Int → (List UInt8) → Option R) (k1 : Err → Int → Int → (List UInt8) → Int → Int → Int → Int → Int → Int → (List UInt8) → Option R) : Nat → Q1 → Int → Int → Int → Int → (List UInt8) → Int → Int → Int → Int → Int → Int → (List UInt8) → Option R
  | 0 => fun _ _ _ _ _ _ _ _ _ _ _ _ _ => none
  | n + 1 => eval_sum_l0B N R (eval_sum_l0 N R k0 k1 n) k0 k1

def eval_sum_cps (N : Nat) (R : Type) (K : Int → Int → (List UInt8) → Err → Option R) (v1 : Q1) : Option R :=
  (bif (decide (1000 < (v1.length : Int))) then
  (Option.bind (fault_New N 62 (-1)) fun v2 =>
  (K 0 0 [] v2.1))
  else
  (eval_sum_l0 N _ (fun v3 v4 v5 v6 v7 v8 v9 v10 v11 v12 =>
  (bif (decide (v10 = 3)) then
  (Option.bind (eval_wide_times N v6 v7 10000) fun v13 =>
  (Option.bind (eval_wide_plus N v13.1 v13.2.1 v8 v9) fun v14 =>
  (eval_sum_j1 N _ (fun v15 v16 v17 v18 v19 v20 v21 v22 v23 v24 v25 =>
  (K v16 v17 v18 v15)) v3 v4 v5 v14.1 v14.2.1 v8 v9 v10 v11 v12)))
  else
  (eval_sum_j1 N _ (fun v26 v27 v28 v29 v30 v31 v32 v33 v34 v35 v36 =>
  (K v27 v28 v29 v26)) v3 v4 v5 v6 v7 v8 v9 v10 v11 v12))) (fun v37 v38 v39 v40 v41 v42 v43 v44 v45 v46 v47 =>
  (K v38 v39 v40 v37)) N v1 (v1.length : Int) 0 0 0 [] 0 0 0 0 0 0 []))

def eval_sum (N : Nat) (v1 : Q1) : Option (Int × Int × (List UInt8) × Err × Unit) := eval_sum_cps N _ (fun a0 a1 a2 a3 => some (a0, (a1, (a2, (a3, ()))))) v1


end
end Go.Proofs.YtiloinbeojampaaGreatDoor.E
