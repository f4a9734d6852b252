/-
  Pure functions, printed by a program out of the translation.
  Conditions: those that each statement prints, and no other.
-/
import Derived.Test.YtmpglmalfkkokaaGreatDoorEvA
import Derived.Lib.Bytealg
import Derived.Test.YtmpglmalfkkokaaGreatDoorEvL
set_option linter.unusedVariables false
set_option linter.unusedSimpArgs false
/-! Pure functions, printed by wip/gen out of the translation. -/
namespace Go.Proofs.YtmpglmalfkkokaaGreatDoor.E
open Go.Ev
noncomputable section
/-! internal/stringslite.HasPrefix -/
def stringslite_HasPrefix_cps (N : Nat) (R : Type) (K : Bool → Option R) (v1 : (List UInt8)) (v2 : (List UInt8)) : Option R :=
  (bif (decide ((v2.length : Int) ≤ (v1.length : Int))) then
  (bif (decide (0 ≤ (v2.length : Int) ∧ (v2.length : Int) ≤ ((v1.length : Nat) : Int))) then
  (K (decide ((List.drop 0 (List.take (Int.toNat (v2.length : Int)) v1)) = v2)))
  else
  none)
  else
  (K false))

def stringslite_HasPrefix (N : Nat) (v1 : (List UInt8)) (v2 : (List UInt8)) : Option (Bool × Unit) := stringslite_HasPrefix_cps N _ (fun a0 => some (a0, ())) v1 v2

/-! strings.HasPrefix -/
def strings_HasPrefix_cps (N : Nat) (R : Type) (K : Bool → Option R) (v1 : (List UInt8)) (v2 : (List UInt8)) : Option R :=
  (Option.bind (stringslite_HasPrefix N v1 v2) fun (v3 : Bool × Unit) =>
  (K v3.1))

def strings_HasPrefix (N : Nat) (v1 : (List UInt8)) (v2 : (List UInt8)) : Option (Bool × Unit) := strings_HasPrefix_cps N _ (fun a0 => some (a0, ())) v1 v2

/-! internal/stringslite.HasSuffix -/
def stringslite_HasSuffix_cps (N : Nat) (R : Type) (K : Bool → Option R) (v1 : (List UInt8)) (v2 : (List UInt8)) : Option R :=
  (bif (decide ((v2.length : Int) ≤ (v1.length : Int))) then
  (bif (decide (0 ≤ (IntKind.wrap .i64 ((v1.length : Int) - (v2.length : Int))) ∧ (IntKind.wrap .i64 ((v1.length : Int) - (v2.length : Int))) ≤ ((v1.length : Nat) : Int))) then
  (K (decide ((List.drop (Int.toNat (IntKind.wrap .i64 ((v1.length : Int) - (v2.length : Int)))) (List.take v1.length v1)) = v2)))
  else
  none)
  else
  (K false))

def stringslite_HasSuffix (N : Nat) (v1 : (List UInt8)) (v2 : (List UInt8)) : Option (Bool × Unit) := stringslite_HasSuffix_cps N _ (fun a0 => some (a0, ())) v1 v2

/-! strings.HasSuffix -/
def strings_HasSuffix_cps (N : Nat) (R : Type) (K : Bool → Option R) (v1 : (List UInt8)) (v2 : (List UInt8)) : Option R :=
  (Option.bind (stringslite_HasSuffix N v1 v2) fun (v3 : Bool × Unit) =>
  (K v3.1))

def strings_HasSuffix (N : Nat) (v1 : (List UInt8)) (v2 : (List UInt8)) : Option (Bool × Unit) := strings_HasSuffix_cps N _ (fun a0 => some (a0, ())) v1 v2

/-! internal/bytealg.IndexByteString -/
def bytealg_IndexByteString_cps (N : Nat) (R : Type) (K : Int → Option R) (v1 : (List UInt8)) (v2 : Int) : Option R :=
  (K (Lib.indexByte v1 (Int.toNat v2).toUInt8))

def bytealg_IndexByteString (N : Nat) (v1 : (List UInt8)) (v2 : Int) : Option (Int × Unit) := bytealg_IndexByteString_cps N _ (fun a0 => some (a0, ())) v1 v2

/-! internal/stringslite.IndexByte -/
def stringslite_IndexByte_cps (N : Nat) (R : Type) (K : Int → Option R) (v1 : (List UInt8)) (v2 : Int) : Option R :=
  (Option.bind (bytealg_IndexByteString N v1 v2) fun (v3 : Int × Unit) =>
  (K v3.1))

def stringslite_IndexByte (N : Nat) (v1 : (List UInt8)) (v2 : Int) : Option (Int × Unit) := stringslite_IndexByte_cps N _ (fun a0 => some (a0, ())) v1 v2

/-! strings.IndexByte -/
def strings_IndexByte_cps (N : Nat) (R : Type) (K : Int → Option R) (v1 : (List UInt8)) (v2 : Int) : Option R :=
  (Option.bind (stringslite_IndexByte N v1 v2) fun (v3 : Int × Unit) =>
  (K v3.1))

def strings_IndexByte (N : Nat) (v1 : (List UInt8)) (v2 : Int) : Option (Int × Unit) := strings_IndexByte_cps N _ (fun a0 => some (a0, ())) v1 v2

/-! strings.ReplaceAll -/
def strings_ReplaceAll_cps (N : Nat) (R : Type) (K : (List UInt8) → Option R) (v1 : (List UInt8)) (v2 : (List UInt8)) (v3 : (List UInt8)) : Option R :=
  (bif (decide (v1.length < 4294967281 ∧ 1 ≤ v2.length ∧ v1.length + Lib.count v1 v2 * v3.length ≤ 140737488355328)) then (K (Lib.replaceAll v1 v2 v3)) else none)

def strings_ReplaceAll (N : Nat) (v1 : (List UInt8)) (v2 : (List UInt8)) (v3 : (List UInt8)) : Option ((List UInt8) × Unit) := strings_ReplaceAll_cps N _ (fun a0 => some (a0, ())) v1 v2 v3

/-! strconv.ParseInt -/
def strconv_ParseInt_cps (N : Nat) (R : Type) (K : Int → Err → Option R) (v1 : (List UInt8)) (v2 : Int) (v3 : Int) : Option R :=
  (bif (decide (v2 = 10 ∧ v3 = 64 ∧ v1.length ≤ 281474976710656)) then (K (parseV v1) (parseE v1)) else none)

def strconv_ParseInt (N : Nat) (v1 : (List UInt8)) (v2 : Int) (v3 : Int) : Option (Int × Err × Unit) := strconv_ParseInt_cps N _ (fun a0 a1 => some (a0, (a1, ()))) v1 v2 v3

/-! frankpledge/value.guess -/
def value_guess_j4 (N : Nat) (R : Type) (k0 : (List UInt8) → Int → Int → (List UInt8) → Int → Int → (List UInt8) → Option R) (v143 : (List UInt8)) (v144 : Int) (v145 : Int) (v146 : Int) (v147 : (List UInt8)) (v148 : Int) (v149 : Int) (v150 : (List UInt8)) : Option R :=
  (Option.bind (strconv_ParseInt N v143 10 64) fun (v151 : Int × Err × Unit) =>
  (bif (!(Err.isNil v151.2.1)) then
  (k0 v143 v148 v149 v150 v148 v149 v150)
  else
  (k0 v143 v144 v151.1 [] v148 v149 v150)))

def value_guess_j3 (N : Nat) (R : Type) (k0 : (List UInt8) → Int → Int → (List UInt8) → Int → Int → (List UInt8) → Option R) (v114 : (List UInt8)) (v115 : Int) (v116 : Int) (v117 : (List UInt8)) (v118 : Int) (v119 : Int) (v120 : (List UInt8)) : Option R :=
  (bif (decide (0 < (IntKind.wrap .i64 ((v114.length : Int) - 5)))) then
  (Option.bind (nth v114 (IntKind.wrap .i64 ((v114.length : Int) - 5))) fun (v121 : UInt8) =>
  (bif (decide ((v121.toNat : Int) = 46)) then
  (bif (decide (0 ≤ (IntKind.wrap .i64 ((v114.length : Int) - 5)) ∧ (IntKind.wrap .i64 ((v114.length : Int) - 5)) ≤ ((v114.length : Nat) : Int))) then
  (bif (decide (0 ≤ (IntKind.wrap .i64 ((IntKind.wrap .i64 ((v114.length : Int) - 5)) + 1)) ∧ (IntKind.wrap .i64 ((IntKind.wrap .i64 ((v114.length : Int) - 5)) + 1)) ≤ ((v114.length : Nat) : Int))) then
  (bif (room 1 ((List.drop 0 (List.take (Int.toNat (IntKind.wrap .i64 ((v114.length : Int) - 5))) v114)).length + (List.drop (Int.toNat (IntKind.wrap .i64 ((IntKind.wrap .i64 ((v114.length : Int) - 5)) + 1))) (List.take v114.length v114)).length)) then
  (value_guess_j4 N _ (fun (v122 : (List UInt8)) (v123 : Int) (v124 : Int) (v125 : (List UInt8)) (v126 : Int) (v127 : Int) (v128 : (List UInt8)) =>
  (k0 v122 v123 v124 v125 v126 v127 v128)) ((List.drop 0 (List.take (Int.toNat (IntKind.wrap .i64 ((v114.length : Int) - 5))) v114)) ++ (List.drop (Int.toNat (IntKind.wrap .i64 ((IntKind.wrap .i64 ((v114.length : Int) - 5)) + 1))) (List.take v114.length v114))) 3 v115 v116 v117 v118 v119 v120)
  else
  none)
  else
  none)
  else
  none)
  else
  (value_guess_j4 N _ (fun (v129 : (List UInt8)) (v130 : Int) (v131 : Int) (v132 : (List UInt8)) (v133 : Int) (v134 : Int) (v135 : (List UInt8)) =>
  (k0 v129 v130 v131 v132 v133 v134 v135)) v114 2 v115 v116 v117 v118 v119 v120)))
  else
  (value_guess_j4 N _ (fun (v136 : (List UInt8)) (v137 : Int) (v138 : Int) (v139 : (List UInt8)) (v140 : Int) (v141 : Int) (v142 : (List UInt8)) =>
  (k0 v136 v137 v138 v139 v140 v141 v142)) v114 2 v115 v116 v117 v118 v119 v120))

def value_guess_l2B (N : Nat) (R : Type) (rec : (List UInt8) → (List UInt8) → (List UInt8) → Int → Int → (List UInt8) → Int → Int → (List UInt8) → Option R) (k0 : (List UInt8) → (List UInt8) → Int → Int → (List UInt8) → Int → Int → (List UInt8) → Option R) (v101 : (List UInt8)) (v102 : (List UInt8)) (v103 : (List UInt8)) (v104 : Int) (v105 : Int) (v106 : (List UInt8)) (v107 : Int) (v108 : Int) (v109 : (List UInt8)) : Option R :=
  (bif (decide (1 < (v103.length : Int))) then
  (Option.bind (nth v103 0) fun (v110 : UInt8) =>
  (Option.bind (strings_IndexByte N [48, 49, 50, 51, 52, 53, 54, 55, 56, 57, 97, 98, 99, 100, 101, 102] (v110.toNat : Int)) fun (v111 : Int × Unit) =>
  (Option.bind (nth v103 1) fun (v112 : UInt8) =>
  (Option.bind (strings_IndexByte N [48, 49, 50, 51, 52, 53, 54, 55, 56, 57, 97, 98, 99, 100, 101, 102] (v112.toNat : Int)) fun (v113 : Int × Unit) =>
  (bif (room 1 (v102.length + ([(UInt8.ofNat (Int.toNat (IntKind.wrap .u8 (Ev.bits .or .i64 (Ev.shl .i64 v111.1 4) (Ev.bits .and .i64 v113.1 15)))))] : (List UInt8)).length)) then
  (bif (decide (0 ≤ (2 : Int) ∧ (2 : Int) ≤ ((v103.length : Nat) : Int))) then
  (rec v101 (v102 ++ ([(UInt8.ofNat (Int.toNat (IntKind.wrap .u8 (Ev.bits .or .i64 (Ev.shl .i64 v111.1 4) (Ev.bits .and .i64 v113.1 15)))))] : (List UInt8))) (List.drop 2 (List.take v103.length v103)) v104 v105 v106 v107 v108 v109)
  else
  none)
  else
  none)))))
  else
  (k0 v101 v102 v104 v105 v106 v107 v108 v109))

def value_guess_l2 (N : Nat) (R : Type) (k0 : (List UInt8) → (List UInt8) → Int → Int → (List UInt8) → Int → Int → (List UInt8) → Option R) : Nat → (List UInt8) → (List UInt8) → (List UInt8) → Int → Int → (List UInt8) → Int → Int → (List UInt8) → Option R
  | 0 => fun _ _ _ _ _ _ _ _ _ => none
  | n + 1 => value_guess_l2B N R (value_guess_l2 N R k0 n) k0

def value_guess_j1 (N : Nat) (R : Type) (k0 : (List UInt8) → Int → Int → (List UInt8) → Int → Int → (List UInt8) → Option R) (k1 : (List UInt8) → Int → Int → (List UInt8) → Int → Int → (List UInt8) → Option R) (v82 : (List UInt8)) (v83 : Bool) (v84 : Int) (v85 : Int) (v86 : (List UInt8)) (v87 : Int) (v88 : Int) (v89 : (List UInt8)) : Option R :=
  (bif v83 then
  (bif (decide (0 ≤ (IntKind.wrap .i64 ((v82.length : Int) - 1)) ∧ (IntKind.wrap .i64 ((v82.length : Int) - 1)) ≤ ((v82.length : Nat) : Int))) then
  (bif (decide (0 ≤ (2 : Int) ∧ (2 : Int) ≤ (((Int.toNat (IntKind.wrap .i64 ((v82.length : Int) - 1))) : Nat) : Int))) then
  (value_guess_l2 N _ (fun (v90 : (List UInt8)) (v91 : (List UInt8)) (v92 : Int) (v93 : Int) (v94 : (List UInt8)) (v95 : Int) (v96 : Int) (v97 : (List UInt8)) =>
  (k1 v90 5 0 v91 v95 v96 v97)) N v82 [] (List.drop 2 (List.take (Int.toNat (IntKind.wrap .i64 ((v82.length : Int) - 1))) v82)) v84 v85 v86 v87 v88 v89)
  else
  none)
  else
  none)
  else
  (Option.bind (strings_HasPrefix N v82 [39]) fun (v98 : Bool × Unit) =>
  (bif v98.1 then
  (bif (decide (0 ≤ (1 : Int) ∧ (1 : Int) ≤ ((v82.length : Nat) : Int))) then
  (Option.bind (strings_HasSuffix N (List.drop 1 (List.take v82.length v82)) [39]) fun (v99 : Bool × Unit) =>
  (bif v99.1 then
  (bif (decide (0 ≤ (IntKind.wrap .i64 ((v82.length : Int) - 1)) ∧ (IntKind.wrap .i64 ((v82.length : Int) - 1)) ≤ ((v82.length : Nat) : Int))) then
  (bif (decide (0 ≤ (1 : Int) ∧ (1 : Int) ≤ (((Int.toNat (IntKind.wrap .i64 ((v82.length : Int) - 1))) : Nat) : Int))) then
  (Option.bind (strings_ReplaceAll N (List.drop 1 (List.take (Int.toNat (IntKind.wrap .i64 ((v82.length : Int) - 1))) v82)) [39, 39] [39]) fun (v100 : (List UInt8) × Unit) =>
  (k1 v82 4 0 v100.1 v87 v88 v89))
  else
  none)
  else
  none)
  else
  (k0 v82 v84 v85 v86 v87 v88 v89)))
  else
  none)
  else
  (k0 v82 v84 v85 v86 v87 v88 v89))))

def value_guess_j0 (N : Nat) (R : Type) (k0 : (List UInt8) → Int → Int → (List UInt8) → Int → Int → (List UInt8) → Option R) (k1 : (List UInt8) → Int → Int → (List UInt8) → Int → Int → (List UInt8) → Option R) (v44 : (List UInt8)) (v45 : Bool) (v46 : Int) (v47 : Int) (v48 : (List UInt8)) (v49 : Int) (v50 : Int) (v51 : (List UInt8)) : Option R :=
  (bif v45 then
  (bif (decide (v44 = [116, 114, 117, 101])) then
  (k1 v44 1 1 [] v49 v50 v51)
  else
  (k1 v44 1 0 [] v49 v50 v51))
  else
  (Option.bind (strings_HasPrefix N v44 [120, 39]) fun (v52 : Bool × Unit) =>
  (bif v52.1 then
  (bif (decide (0 ≤ (2 : Int) ∧ (2 : Int) ≤ ((v44.length : Nat) : Int))) then
  (Option.bind (strings_HasSuffix N (List.drop 2 (List.take v44.length v44)) [39]) fun (v53 : Bool × Unit) =>
  (value_guess_j1 N _ (fun (v54 : (List UInt8)) (v55 : Int) (v56 : Int) (v57 : (List UInt8)) (v58 : Int) (v59 : Int) (v60 : (List UInt8)) =>
  (k0 v54 v55 v56 v57 v58 v59 v60)) (fun (v61 : (List UInt8)) (v62 : Int) (v63 : Int) (v64 : (List UInt8)) (v65 : Int) (v66 : Int) (v67 : (List UInt8)) =>
  (k1 v61 v62 v63 v64 v65 v66 v67)) v44 v53.1 v46 v47 v48 v49 v50 v51))
  else
  none)
  else
  (value_guess_j1 N _ (fun (v68 : (List UInt8)) (v69 : Int) (v70 : Int) (v71 : (List UInt8)) (v72 : Int) (v73 : Int) (v74 : (List UInt8)) =>
  (k0 v68 v69 v70 v71 v72 v73 v74)) (fun (v75 : (List UInt8)) (v76 : Int) (v77 : Int) (v78 : (List UInt8)) (v79 : Int) (v80 : Int) (v81 : (List UInt8)) =>
  (k1 v75 v76 v77 v78 v79 v80 v81)) v44 false v46 v47 v48 v49 v50 v51))))

def value_guess_cps (N : Nat) (R : Type) (K : Int → Int → (List UInt8) → Option R) (v1 : (List UInt8)) : Option R :=
  (bif (decide (v1 = [110, 117, 108, 108])) then
  (K 0 0 [])
  else
  (bif (decide (v1 = [116, 114, 117, 101])) then
  (value_guess_j0 N _ (fun (v2 : (List UInt8)) (v3 : Int) (v4 : Int) (v5 : (List UInt8)) (v6 : Int) (v7 : Int) (v8 : (List UInt8)) =>
  (value_guess_j3 N _ (fun (v9 : (List UInt8)) (v10 : Int) (v11 : Int) (v12 : (List UInt8)) (v13 : Int) (v14 : Int) (v15 : (List UInt8)) =>
  (K v10 v11 v12)) v2 v3 v4 v5 v6 v7 v8)) (fun (v16 : (List UInt8)) (v17 : Int) (v18 : Int) (v19 : (List UInt8)) (v20 : Int) (v21 : Int) (v22 : (List UInt8)) =>
  (K v17 v18 v19)) v1 true 0 0 [] 0 1 [])
  else
  (value_guess_j0 N _ (fun (v23 : (List UInt8)) (v24 : Int) (v25 : Int) (v26 : (List UInt8)) (v27 : Int) (v28 : Int) (v29 : (List UInt8)) =>
  (value_guess_j3 N _ (fun (v30 : (List UInt8)) (v31 : Int) (v32 : Int) (v33 : (List UInt8)) (v34 : Int) (v35 : Int) (v36 : (List UInt8)) =>
  (K v31 v32 v33)) v23 v24 v25 v26 v27 v28 v29)) (fun (v37 : (List UInt8)) (v38 : Int) (v39 : Int) (v40 : (List UInt8)) (v41 : Int) (v42 : Int) (v43 : (List UInt8)) =>
  (K v38 v39 v40)) v1 (decide (v1 = [102, 97, 108, 115, 101])) 0 0 [] 0 1 [])))

def value_guess (N : Nat) (v1 : (List UInt8)) : Option (Int × Int × (List UInt8) × Unit) := value_guess_cps N _ (fun a0 a1 a2 => some (a0, (a1, (a2, ())))) v1

/-! frankpledge/value.Right -/
def value_Right_cps (N : Nat) (R : Type) (K : Bool → Option R) (v1 : Int) (v2 : Int) (v3 : (List UInt8)) : Option R :=
  (bif (decide (v1 = 1)) then
  (bif (decide (v2 = 1)) then
  (K (decide (v3 = [])))
  else
  (bif (decide (v2 = 0)) then
  (K (decide (v3 = [])))
  else
  (K false)))
  else
  (bif (decide (v1 = 0)) then
  (bif (decide (v2 = 0)) then
  (K (decide (v3 = [])))
  else
  (K false))
  else
  (bif (decide (v1 = 2)) then
  (K (decide (v3 = [])))
  else
  (bif (decide (v1 = 3)) then
  (K (decide (v3 = [])))
  else
  (bif (decide (v1 = 4)) then
  (bif (decide (v2 = 0)) then
  (K (decide ((v3.length : Int) ≤ 200)))
  else
  (K false))
  else
  (bif (decide (v1 = 5)) then
  (bif (decide (v2 = 0)) then
  (K (decide ((v3.length : Int) ≤ 200)))
  else
  (K false))
  else
  (K false)))))))

def value_Right (N : Nat) (v1 : Int) (v2 : Int) (v3 : (List UInt8)) : Option (Bool × Unit) := value_Right_cps N _ (fun a0 => some (a0, ())) v1 v2 v3

/-! frankpledge/fault.New -/
def fault_New_cps (N : Nat) (R : Type) (K : Err → Option R) (v1 : Int) (v2 : Int) : Option R :=
  (bif (decide (v1 = 0)) then
  (K Err.nil)
  else
  (K (Err.fault v1 v2 Err.nil)))

def fault_New (N : Nat) (v1 : Int) (v2 : Int) : Option (Err × Unit) := fault_New_cps N _ (fun a0 => some (a0, ())) v1 v2

/-! internal/strconv.FormatBool -/
def strconv_FormatBool__cps (N : Nat) (R : Type) (K : (List UInt8) → Option R) (v1 : Bool) : Option R :=
  (bif v1 then
  (K [116, 114, 117, 101])
  else
  (K [102, 97, 108, 115, 101]))

def strconv_FormatBool_ (N : Nat) (v1 : Bool) : Option ((List UInt8) × Unit) := strconv_FormatBool__cps N _ (fun a0 => some (a0, ())) v1

/-! strconv.FormatBool -/
def strconv_FormatBool_cps (N : Nat) (R : Type) (K : (List UInt8) → Option R) (v1 : Bool) : Option R :=
  (Option.bind (strconv_FormatBool_ N v1) fun (v2 : (List UInt8) × Unit) =>
  (K v2.1))

def strconv_FormatBool (N : Nat) (v1 : Bool) : Option ((List UInt8) × Unit) := strconv_FormatBool_cps N _ (fun a0 => some (a0, ())) v1

/-! strconv.FormatInt -/
def strconv_FormatInt_cps (N : Nat) (R : Type) (K : (List UInt8) → Option R) (v1 : Int) (v2 : Int) : Option R :=
  (bif (decide (v2 = 10)) then (K (Lib.itoa v1)) else none)

def strconv_FormatInt (N : Nat) (v1 : Int) (v2 : Int) : Option ((List UInt8) × Unit) := strconv_FormatInt_cps N _ (fun a0 => some (a0, ())) v1 v2

/-! internal/stringslite.CutPrefix -/
def stringslite_CutPrefix_cps (N : Nat) (R : Type) (K : (List UInt8) → Bool → Option R) (v1 : (List UInt8)) (v2 : (List UInt8)) : Option R :=
  (Option.bind (stringslite_HasPrefix N v1 v2) fun (v3 : Bool × Unit) =>
  (bif (!v3.1) then
  (K v1 false)
  else
  (bif (decide (0 ≤ (v2.length : Int) ∧ (v2.length : Int) ≤ ((v1.length : Nat) : Int))) then
  (K (List.drop (Int.toNat (v2.length : Int)) (List.take v1.length v1)) true)
  else
  none)))

def stringslite_CutPrefix (N : Nat) (v1 : (List UInt8)) (v2 : (List UInt8)) : Option ((List UInt8) × Bool × Unit) := stringslite_CutPrefix_cps N _ (fun a0 a1 => some (a0, (a1, ()))) v1 v2

/-! strings.CutPrefix -/
def strings_CutPrefix_cps (N : Nat) (R : Type) (K : (List UInt8) → Bool → Option R) (v1 : (List UInt8)) (v2 : (List UInt8)) : Option R :=
  (Option.bind (stringslite_CutPrefix N v1 v2) fun (v3 : (List UInt8) × Bool × Unit) =>
  (K v3.1 v3.2.1))

def strings_CutPrefix (N : Nat) (v1 : (List UInt8)) (v2 : (List UInt8)) : Option ((List UInt8) × Bool × Unit) := strings_CutPrefix_cps N _ (fun a0 a1 => some (a0, (a1, ()))) v1 v2

/-! strings.Repeat -/
def strings_Repeat_cps (N : Nat) (R : Type) (K : (List UInt8) → Option R) (v1 : (List UInt8)) (v2 : Int) : Option R :=
  (bif (decide (0 ≤ v2 ∧ v1.length * (Int.toNat v2) ≤ 140737488355328)) then (K (Lib.repeatL v1 (Int.toNat v2))) else none)

def strings_Repeat (N : Nat) (v1 : (List UInt8)) (v2 : Int) : Option ((List UInt8) × Unit) := strings_Repeat_cps N _ (fun a0 => some (a0, ())) v1 v2

/-! frankpledge/value.Text -/
def value_Text_l1B (N : Nat) (R : Type) (rec : (List UInt8) → (List UInt8) → Int → Int → Int → Int → (List UInt8) → Option R) (k0 : (List UInt8) → Int → Int → (List UInt8) → Option R) (v28 : (List UInt8)) (v29 : (List UInt8)) (v30 : Int) (v31 : Int) (v32 : Int) (v33 : Int) (v34 : (List UInt8)) : Option R :=
  (bif (decide (v31 < v30)) then
  (Option.bind (nth v29 v31) fun (v35 : UInt8) =>
  (Option.bind (nth ([48, 49, 50, 51, 52, 53, 54, 55, 56, 57, 97, 98, 99, 100, 101, 102] : List UInt8) (Ev.shr .u8 (v35.toNat : Int) 4)) fun (v36 : UInt8) =>
  (Option.bind (nth ([48, 49, 50, 51, 52, 53, 54, 55, 56, 57, 97, 98, 99, 100, 101, 102] : List UInt8) (Ev.bits .and .u8 (v35.toNat : Int) 15)) fun (v37 : UInt8) =>
  (bif (room 1 (v28.length + ([(UInt8.ofNat (Int.toNat (v36.toNat : Int))), (UInt8.ofNat (Int.toNat (v37.toNat : Int)))] : (List UInt8)).length)) then
  (rec (v28 ++ ([(UInt8.ofNat (Int.toNat (v36.toNat : Int))), (UInt8.ofNat (Int.toNat (v37.toNat : Int)))] : (List UInt8))) v29 v30 (IntKind.wrap .i64 (v31 + 1)) v32 v33 v34)
  else
  none))))
  else
  (k0 v28 v32 v33 v34))

def value_Text_l1 (N : Nat) (R : Type) (k0 : (List UInt8) → Int → Int → (List UInt8) → Option R) : Nat → (List UInt8) → (List UInt8) → Int → Int → Int → Int → (List UInt8) → Option R
  | 0 => fun _ _ _ _ _ _ _ => none
  | n + 1 => value_Text_l1B N R (value_Text_l1 N R k0 n) k0

def value_Text_j0 (N : Nat) (R : Type) (k0 : (List UInt8) → Int → Int → (List UInt8) → Option R) (v23 : (List UInt8)) (v24 : Bool) (v25 : Int) (v26 : Int) (v27 : (List UInt8)) : Option R :=
  (bif (decide (0 ≤ (IntKind.wrap .i64 ((v23.length : Int) - 4)) ∧ (IntKind.wrap .i64 ((v23.length : Int) - 4)) ≤ ((v23.length : Nat) : Int))) then
  (bif (room 1 ((List.drop 0 (List.take (Int.toNat (IntKind.wrap .i64 ((v23.length : Int) - 4))) v23)).length + ([46] : List UInt8).length)) then
  (bif (decide (0 ≤ (IntKind.wrap .i64 ((v23.length : Int) - 4)) ∧ (IntKind.wrap .i64 ((v23.length : Int) - 4)) ≤ ((v23.length : Nat) : Int))) then
  (bif (room 1 (((List.drop 0 (List.take (Int.toNat (IntKind.wrap .i64 ((v23.length : Int) - 4))) v23)) ++ [46]).length + (List.drop (Int.toNat (IntKind.wrap .i64 ((v23.length : Int) - 4))) (List.take v23.length v23)).length)) then
  (bif v24 then
  (bif (room 1 (([45] : List UInt8).length + (((List.drop 0 (List.take (Int.toNat (IntKind.wrap .i64 ((v23.length : Int) - 4))) v23)) ++ [46]) ++ (List.drop (Int.toNat (IntKind.wrap .i64 ((v23.length : Int) - 4))) (List.take v23.length v23))).length)) then
  (k0 ([45] ++ (((List.drop 0 (List.take (Int.toNat (IntKind.wrap .i64 ((v23.length : Int) - 4))) v23)) ++ [46]) ++ (List.drop (Int.toNat (IntKind.wrap .i64 ((v23.length : Int) - 4))) (List.take v23.length v23)))) v25 v26 v27)
  else
  none)
  else
  (k0 (((List.drop 0 (List.take (Int.toNat (IntKind.wrap .i64 ((v23.length : Int) - 4))) v23)) ++ [46]) ++ (List.drop (Int.toNat (IntKind.wrap .i64 ((v23.length : Int) - 4))) (List.take v23.length v23))) v25 v26 v27))
  else
  none)
  else
  none)
  else
  none)
  else
  none)

def value_Text_cps (N : Nat) (R : Type) (K : (List UInt8) → Option R) (v1 : Int) (v2 : Int) (v3 : (List UInt8)) : Option R :=
  (Option.bind (value_Right N v1 v2 v3) fun (v4 : Bool × Unit) =>
  (bif (!v4.1) then
  (K [63])
  else
  (bif (decide (v1 = 0)) then
  (K [110, 117, 108, 108])
  else
  (bif (decide (v1 = 1)) then
  (Option.bind (strconv_FormatBool N (decide (v2 = 1))) fun (v5 : (List UInt8) × Unit) =>
  (K v5.1))
  else
  (bif (decide (v1 = 2)) then
  (Option.bind (strconv_FormatInt N v2 10) fun (v6 : (List UInt8) × Unit) =>
  (K v6.1))
  else
  (bif (decide (v1 = 3)) then
  (Option.bind (strconv_FormatInt N v2 10) fun (v7 : (List UInt8) × Unit) =>
  (Option.bind (strings_CutPrefix N v7.1 [45]) fun (v8 : (List UInt8) × Bool × Unit) =>
  (bif (decide ((v8.1.length : Int) < 5)) then
  (Option.bind (strings_Repeat N [48] (IntKind.wrap .i64 (5 - (v8.1.length : Int)))) fun (v9 : (List UInt8) × Unit) =>
  (bif (room 1 (v9.1.length + v8.1.length)) then
  (value_Text_j0 N _ (fun (v10 : (List UInt8)) (v11 : Int) (v12 : Int) (v13 : (List UInt8)) =>
  (K v10)) (v9.1 ++ v8.1) v8.2.1 v1 v2 v3)
  else
  none))
  else
  (value_Text_j0 N _ (fun (v14 : (List UInt8)) (v15 : Int) (v16 : Int) (v17 : (List UInt8)) =>
  (K v14)) v8.1 v8.2.1 v1 v2 v3))))
  else
  (bif (decide (v1 = 5)) then
  (value_Text_l1 N _ (fun (v18 : (List UInt8)) (v19 : Int) (v20 : Int) (v21 : (List UInt8)) =>
  (bif (room 1 (([120, 39] : List UInt8).length + v18.length)) then
  (bif (room 1 (([120, 39] ++ v18).length + ([39] : List UInt8).length)) then
  (K (([120, 39] ++ v18) ++ [39]))
  else
  none)
  else
  none)) N [] v3 (v3.length : Int) 0 v1 v2 v3)
  else
  (Option.bind (strings_ReplaceAll N v3 [39] [39, 39]) fun (v22 : (List UInt8) × Unit) =>
  (bif (room 1 (([39] : List UInt8).length + v22.1.length)) then
  (bif (room 1 (([39] ++ v22.1).length + ([39] : List UInt8).length)) then
  (K (([39] ++ v22.1) ++ [39]))
  else
  none)
  else
  none)))))))))

def value_Text (N : Nat) (v1 : Int) (v2 : Int) (v3 : (List UInt8)) : Option ((List UInt8) × Unit) := value_Text_cps N _ (fun a0 => some (a0, ())) v1 v2 v3

/-! frankpledge/value.Read -/
def value_Read_cps (N : Nat) (R : Type) (K : Int → Int → (List UInt8) → Err → Option R) (v1 : (List UInt8)) : Option R :=
  (Option.bind (value_guess N v1) fun (v2 : Int × Int × (List UInt8) × Unit) =>
  (Option.bind (value_Right N v2.1 v2.2.1 v2.2.2.1) fun (v3 : Bool × Unit) =>
  (bif (!v3.1) then
  (Option.bind (fault_New N 23 0) fun (v4 : Err × Unit) =>
  (K 0 0 [] v4.1))
  else
  (Option.bind (value_Text N v2.1 v2.2.1 v2.2.2.1) fun (v5 : (List UInt8) × Unit) =>
  (bif (!(decide (v5.1 = v1))) then
  (Option.bind (fault_New N 23 0) fun (v6 : Err × Unit) =>
  (K 0 0 [] v6.1))
  else
  (K v2.1 v2.2.1 v2.2.2.1 Err.nil))))))

def value_Read (N : Nat) (v1 : (List UInt8)) : Option (Int × Int × (List UInt8) × Err × Unit) := value_Read_cps N _ (fun a0 a1 a2 a3 => some (a0, (a1, (a2, (a3, ()))))) v1

/-! frankpledge/frankpledgelaw02.alive -/
def law02_alive_cps (N : Nat) (R : Type) (K : Bool → Option R)  : Option R :=
  (Option.bind (value_Read N [45, 49, 46, 50, 53, 48, 48]) fun (v1 : Int × Int × (List UInt8) × Err × Unit) =>
  (bif (Err.isNil v1.2.2.2.1) then
  (bif (decide (v1.1 = 3)) then
  (bif (decide (v1.2.1 = (-12500))) then
  (Option.bind (value_Text N 4 0 [105, 116, 39, 115]) fun (v2 : (List UInt8) × Unit) =>
  (K (decide (v2.1 = [39, 105, 116, 39, 39, 115, 39]))))
  else
  (K false))
  else
  (K false))
  else
  (K false)))

def law02_alive (N : Nat)  : Option (Bool × Unit) := law02_alive_cps N _ (fun a0 => some (a0, ())) 

/-! frankpledge/frankpledgeref02.Of -/
def ref02_Of_cps (N : Nat) (R : Type) (K : Int → Int → (List UInt8) → Option R) (v1 : Int) : Option R :=
  (bif (decide (v1 < 0)) then
  (K 0 0 [])
  else
  (K 1 v1 []))

def ref02_Of (N : Nat) (v1 : Int) : Option (Int × Int × (List UInt8) × Unit) := ref02_Of_cps N _ (fun a0 a1 a2 => some (a0, (a1, (a2, ())))) v1

/-! frankpledge/frankpledgeref02.hex -/
def ref02_hex_l0B (N : Nat) (R : Type) (rec : Int → Int → Option R) (k0 : Option R) (k1 : Int → Option R) (v3 : Int) (v4 : Int) : Option R :=
  (bif (decide (v4 < 16)) then
  (Option.bind (nth ([48, 49, 50, 51, 52, 53, 54, 55, 56, 57, 97, 98, 99, 100, 101, 102] : List UInt8) v4) fun (v5 : UInt8) =>
  (bif (decide ((v5.toNat : Int) = v3)) then
  (k1 v4)
  else
  (rec v3 (IntKind.wrap .i64 (v4 + 1)))))
  else
  k0)

def ref02_hex_l0 (N : Nat) (R : Type) (k0 : Option R) (k1 : Int → Option R) : Nat → Int → Int → Option R
  | 0 => fun _ _ => none
  | n + 1 => ref02_hex_l0B N R (ref02_hex_l0 N R k0 k1 n) k0 k1

def ref02_hex_cps (N : Nat) (R : Type) (K : Int → Option R) (v1 : Int) : Option R :=
  (ref02_hex_l0 N _ ((K (-1))) (fun (v2 : Int) =>
  (K v2)) N v1 0)

def ref02_hex (N : Nat) (v1 : Int) : Option (Int × Unit) := ref02_hex_cps N _ (fun a0 => some (a0, ())) v1

/-! frankpledge/frankpledgeref02.figures -/
def ref02_figures_j2 (N : Nat) (R : Type) (k0 : (List UInt8) → Bool → Int → Int → Int → Option R) (k1 : (List UInt8) → Bool → Int → Bool → Int → Int → Int → Option R) (v38 : (List UInt8)) (v39 : Bool) (v40 : Int) (v41 : Int) (v42 : Int) : Option R :=
  (Option.bind (nth v38 v42) fun (v43 : UInt8) =>
  (bif (decide ((IntKind.wrap .u64 (Int.tdiv (IntKind.wrap .u64 (v41 - (IntKind.wrap .u64 (IntKind.wrap .u8 ((v43.toNat : Int) - 48))))) 10)) < v40)) then
  (k1 v38 v39 0 false v40 v41 v42)
  else
  (k0 v38 v39 (IntKind.wrap .u64 ((IntKind.wrap .u64 (10 * v40)) + (IntKind.wrap .u64 (IntKind.wrap .u8 ((v43.toNat : Int) - 48))))) v41 v42)))

def ref02_figures_l1B (N : Nat) (R : Type) (rec : (List UInt8) → Bool → Int → Int → Int → Option R) (k0 : (List UInt8) → Bool → Int → Option R) (k1 : (List UInt8) → Bool → Int → Bool → Int → Option R) (v19 : (List UInt8)) (v20 : Bool) (v21 : Int) (v22 : Int) (v23 : Int) : Option R :=
  (bif (decide (v23 < (v19.length : Int))) then
  (Option.bind (nth v19 v23) fun (v24 : UInt8) =>
  (bif (decide ((v24.toNat : Int) < 48)) then
  (k1 v19 v20 0 false v21)
  else
  (Option.bind (nth v19 v23) fun (v25 : UInt8) =>
  (bif (decide (57 < (v25.toNat : Int))) then
  (k1 v19 v20 0 false v21)
  else
  (ref02_figures_j2 N _ (fun (v26 : (List UInt8)) (v27 : Bool) (v28 : Int) (v29 : Int) (v30 : Int) =>
  (rec v26 v27 v28 v29 (IntKind.wrap .i64 (v30 + 1)))) (fun (v31 : (List UInt8)) (v32 : Bool) (v33 : Int) (v34 : Bool) (v35 : Int) (v36 : Int) (v37 : Int) =>
  (k1 v31 v32 v33 v34 v35)) v19 v20 v21 v22 v23)))))
  else
  (k0 v19 v20 v21))

def ref02_figures_l1 (N : Nat) (R : Type) (k0 : (List UInt8) → Bool → Int → Option R) (k1 : (List UInt8) → Bool → Int → Bool → Int → Option R) : Nat → (List UInt8) → Bool → Int → Int → Int → Option R
  | 0 => fun _ _ _ _ _ => none
  | n + 1 => ref02_figures_l1B N R (ref02_figures_l1 N R k0 k1 n) k0 k1

def ref02_figures_j0 (N : Nat) (R : Type) (k0 : Int → Bool → Option R) (v7 : (List UInt8)) (v8 : Bool) (v9 : Int) (v10 : Int) : Option R :=
  (ref02_figures_l1 N _ (fun (v11 : (List UInt8)) (v12 : Bool) (v13 : Int) =>
  (bif v12 then
  (bif (decide (0 < v13)) then
  (k0 (IntKind.wrap .i64 ((IntKind.wrap .i64 (0 - (IntKind.wrap .i64 (IntKind.wrap .u64 (v13 - 1))))) - 1)) (decide (0 < (v11.length : Int))))
  else
  (k0 (IntKind.wrap .i64 v13) (decide (0 < (v11.length : Int)))))
  else
  (k0 (IntKind.wrap .i64 v13) (decide (0 < (v11.length : Int)))))) (fun (v14 : (List UInt8)) (v15 : Bool) (v16 : Int) (v17 : Bool) (v18 : Int) =>
  (k0 v16 v17)) N v7 v8 v9 v10 0)

def ref02_figures_cps (N : Nat) (R : Type) (K : Int → Bool → Option R) (v1 : (List UInt8)) (v2 : Bool) : Option R :=
  (bif v2 then
  (ref02_figures_j0 N _ (fun (v3 : Int) (v4 : Bool) =>
  (K v3 v4)) v1 v2 0 9223372036854775808)
  else
  (ref02_figures_j0 N _ (fun (v5 : Int) (v6 : Bool) =>
  (K v5 v6)) v1 v2 0 9223372036854775807))

def ref02_figures (N : Nat) (v1 : (List UInt8)) (v2 : Bool) : Option (Int × Bool × Unit) := ref02_figures_cps N _ (fun a0 a1 => some (a0, (a1, ()))) v1 v2

/-! frankpledge/frankpledgeref02.guess -/
def ref02_guess_r8 (N : Nat) (R : Type) (k0 : Int → Bool → Int → Int → (List UInt8) → Option R) (v137 : Bool) (v138 : (List UInt8)) (v139 : Int) (v140 : Int) (v141 : Int) (v142 : (List UInt8)) : Option R :=
  (bif (decide (0 ≤ v139 ∧ v139 ≤ ((v138.length : Nat) : Int))) then
  (bif (decide (0 ≤ (IntKind.wrap .i64 (v139 + 1)) ∧ (IntKind.wrap .i64 (v139 + 1)) ≤ ((v138.length : Nat) : Int))) then
  (bif (room 1 ((List.drop 0 (List.take (Int.toNat v139) v138)).length + (List.drop (Int.toNat (IntKind.wrap .i64 (v139 + 1))) (List.take v138.length v138)).length)) then
  (Option.bind (ref02_figures N ((List.drop 0 (List.take (Int.toNat v139) v138)) ++ (List.drop (Int.toNat (IntKind.wrap .i64 (v139 + 1))) (List.take v138.length v138))) v137) fun (v143 : Int × Bool × Unit) =>
  (k0 v143.1 v143.2.1 v140 v141 v142))
  else
  none)
  else
  none)
  else
  none)

def ref02_guess_j7 (N : Nat) (R : Type) (k0 : Bool → (List UInt8) → Int → Int → (List UInt8) → Option R) (k1 : Int → Int → (List UInt8) → Option R) (v125 : Bool) (v126 : (List UInt8)) (v127 : Int) (v128 : Bool) (v129 : Int) (v130 : Int) (v131 : (List UInt8)) : Option R :=
  (bif v128 then
  (ref02_guess_r8 N _ (fun (v132 : Int) (v133 : Bool) (v134 : Int) (v135 : Int) (v136 : (List UInt8)) =>
  (bif v133 then
  (k1 3 v132 [])
  else
  (k1 0 1 []))) v125 v126 v127 v129 v130 v131)
  else
  (k0 v125 v126 v129 v130 v131))

def ref02_guess_j6 (N : Nat) (R : Type) (k0 : Int → Int → (List UInt8) → Option R) (v101 : Bool) (v102 : (List UInt8)) (v103 : Int) (v104 : Int) (v105 : (List UInt8)) : Option R :=
  (bif (decide (0 < (IntKind.wrap .i64 ((v102.length : Int) - 5)))) then
  (Option.bind (nth v102 (IntKind.wrap .i64 ((v102.length : Int) - 5))) fun (v106 : UInt8) =>
  (ref02_guess_j7 N _ (fun (v107 : Bool) (v108 : (List UInt8)) (v109 : Int) (v110 : Int) (v111 : (List UInt8)) =>
  (Option.bind (ref02_figures N v108 v107) fun (v112 : Int × Bool × Unit) =>
  (bif v112.2.1 then
  (k0 2 v112.1 [])
  else
  (k0 0 1 [])))) (fun (v113 : Int) (v114 : Int) (v115 : (List UInt8)) =>
  (k0 v113 v114 v115)) v101 v102 (IntKind.wrap .i64 ((v102.length : Int) - 5)) (decide ((v106.toNat : Int) = 46)) v103 v104 v105))
  else
  (ref02_guess_j7 N _ (fun (v116 : Bool) (v117 : (List UInt8)) (v118 : Int) (v119 : Int) (v120 : (List UInt8)) =>
  (Option.bind (ref02_figures N v117 v116) fun (v121 : Int × Bool × Unit) =>
  (bif v121.2.1 then
  (k0 2 v121.1 [])
  else
  (k0 0 1 [])))) (fun (v122 : Int) (v123 : Int) (v124 : (List UInt8)) =>
  (k0 v122 v123 v124)) v101 v102 (IntKind.wrap .i64 ((v102.length : Int) - 5)) false v103 v104 v105))

def ref02_guess_j5 (N : Nat) (R : Type) (k0 : Int → Int → (List UInt8) → Option R) (v90 : (List UInt8)) (v91 : Bool) (v92 : Int) (v93 : Int) (v94 : (List UInt8)) : Option R :=
  (bif v91 then
  (bif (decide (0 ≤ (1 : Int) ∧ (1 : Int) ≤ ((v90.length : Nat) : Int))) then
  (ref02_guess_j6 N _ (fun (v95 : Int) (v96 : Int) (v97 : (List UInt8)) =>
  (k0 v95 v96 v97)) v91 (List.drop 1 (List.take v90.length v90)) v92 v93 v94)
  else
  none)
  else
  (ref02_guess_j6 N _ (fun (v98 : Int) (v99 : Int) (v100 : (List UInt8)) =>
  (k0 v98 v99 v100)) v91 v90 v92 v93 v94))

def ref02_guess_j4 (N : Nat) (R : Type) (k0 : Int → Int → (List UInt8) → Option R) (v79 : (List UInt8)) (v80 : Int) (v81 : Int) (v82 : (List UInt8)) : Option R :=
  (bif (decide (0 < (v79.length : Int))) then
  (Option.bind (nth v79 0) fun (v83 : UInt8) =>
  (ref02_guess_j5 N _ (fun (v84 : Int) (v85 : Int) (v86 : (List UInt8)) =>
  (k0 v84 v85 v86)) v79 (decide ((v83.toNat : Int) = 45)) v80 v81 v82))
  else
  (ref02_guess_j5 N _ (fun (v87 : Int) (v88 : Int) (v89 : (List UInt8)) =>
  (k0 v87 v88 v89)) v79 false v80 v81 v82))

def ref02_guess_l3B (N : Nat) (R : Type) (rec : (List UInt8) → (List UInt8) → Int → Int → Int → (List UInt8) → Option R) (k0 : (List UInt8) → Int → Int → (List UInt8) → Option R) (v72 : (List UInt8)) (v73 : (List UInt8)) (v74 : Int) (v75 : Int) (v76 : Int) (v77 : (List UInt8)) : Option R :=
  (bif (decide ((IntKind.wrap .i64 (v74 + 1)) < (v72.length : Int))) then
  (bif (decide (0 ≤ (IntKind.wrap .i64 (v74 + 1)) ∧ (IntKind.wrap .i64 (v74 + 1)) ≤ ((v72.length : Nat) : Int))) then
  (bif (decide (0 ≤ v74 ∧ v74 ≤ (((Int.toNat (IntKind.wrap .i64 (v74 + 1))) : Nat) : Int))) then
  (bif (room 1 (v73.length + (List.drop (Int.toNat v74) (List.take (Int.toNat (IntKind.wrap .i64 (v74 + 1))) v72)).length)) then
  (Option.bind (nth v72 v74) fun (v78 : UInt8) =>
  (bif (decide ((v78.toNat : Int) = 39)) then
  (rec v72 (v73 ++ (List.drop (Int.toNat v74) (List.take (Int.toNat (IntKind.wrap .i64 (v74 + 1))) v72))) (IntKind.wrap .i64 ((IntKind.wrap .i64 (v74 + 1)) + 1)) v75 v76 v77)
  else
  (rec v72 (v73 ++ (List.drop (Int.toNat v74) (List.take (Int.toNat (IntKind.wrap .i64 (v74 + 1))) v72))) (IntKind.wrap .i64 (v74 + 1)) v75 v76 v77)))
  else
  none)
  else
  none)
  else
  none)
  else
  (k0 v73 v75 v76 v77))

def ref02_guess_l3 (N : Nat) (R : Type) (k0 : (List UInt8) → Int → Int → (List UInt8) → Option R) : Nat → (List UInt8) → (List UInt8) → Int → Int → Int → (List UInt8) → Option R
  | 0 => fun _ _ _ _ _ _ => none
  | n + 1 => ref02_guess_l3B N R (ref02_guess_l3 N R k0 n) k0

def ref02_guess_j2 (N : Nat) (R : Type) (k0 : (List UInt8) → Int → Int → (List UInt8) → Option R) (k1 : Int → Int → (List UInt8) → Option R) (v63 : (List UInt8)) (v64 : Bool) (v65 : Int) (v66 : Int) (v67 : (List UInt8)) : Option R :=
  (bif v64 then
  (ref02_guess_l3 N _ (fun (v68 : (List UInt8)) (v69 : Int) (v70 : Int) (v71 : (List UInt8)) =>
  (k1 4 0 v68)) N v63 [] 1 v65 v66 v67)
  else
  (k0 v63 v65 v66 v67))

def ref02_guess_l1B (N : Nat) (R : Type) (rec : (List UInt8) → (List UInt8) → Int → Int → Int → (List UInt8) → Option R) (k0 : (List UInt8) → Int → Int → (List UInt8) → Option R) (k1 : (List UInt8) → Int → Int → (List UInt8) → Option R) (v53 : (List UInt8)) (v54 : (List UInt8)) (v55 : Int) (v56 : Int) (v57 : Int) (v58 : (List UInt8)) : Option R :=
  (bif (decide ((IntKind.wrap .i64 (v55 + 2)) < (v53.length : Int))) then
  (Option.bind (nth v53 v55) fun (v59 : UInt8) =>
  (Option.bind (ref02_hex N (v59.toNat : Int)) fun (v60 : Int × Unit) =>
  (Option.bind (nth v53 (IntKind.wrap .i64 (v55 + 1))) fun (v61 : UInt8) =>
  (Option.bind (ref02_hex N (v61.toNat : Int)) fun (v62 : Int × Unit) =>
  (bif (decide (v60.1 < 0)) then
  (k1 v54 0 1 [])
  else
  (bif (decide (v62.1 < 0)) then
  (k1 v54 0 1 [])
  else
  (bif (room 1 (v54.length + ([(UInt8.ofNat (Int.toNat (IntKind.wrap .u8 (IntKind.wrap .i64 ((IntKind.wrap .i64 (16 * v60.1)) + v62.1)))))] : (List UInt8)).length)) then
  (rec v53 (v54 ++ ([(UInt8.ofNat (Int.toNat (IntKind.wrap .u8 (IntKind.wrap .i64 ((IntKind.wrap .i64 (16 * v60.1)) + v62.1)))))] : (List UInt8))) (IntKind.wrap .i64 (v55 + 2)) v56 v57 v58)
  else
  none)))))))
  else
  (k0 v54 v56 v57 v58))

def ref02_guess_l1 (N : Nat) (R : Type) (k0 : (List UInt8) → Int → Int → (List UInt8) → Option R) (k1 : (List UInt8) → Int → Int → (List UInt8) → Option R) : Nat → (List UInt8) → (List UInt8) → Int → Int → Int → (List UInt8) → Option R
  | 0 => fun _ _ _ _ _ _ => none
  | n + 1 => ref02_guess_l1B N R (ref02_guess_l1 N R k0 k1 n) k0 k1

def ref02_guess_j0 (N : Nat) (R : Type) (k0 : (List UInt8) → Int → Int → (List UInt8) → Option R) (k1 : Int → Int → (List UInt8) → Option R) (v25 : (List UInt8)) (v26 : Bool) (v27 : Int) (v28 : Int) (v29 : (List UInt8)) : Option R :=
  (bif v26 then
  (ref02_guess_l1 N _ (fun (v30 : (List UInt8)) (v31 : Int) (v32 : Int) (v33 : (List UInt8)) =>
  (k1 5 0 v30)) (fun (v34 : (List UInt8)) (v35 : Int) (v36 : Int) (v37 : (List UInt8)) =>
  (k1 v35 v36 v37)) N v25 [] 2 v27 v28 v29)
  else
  (bif (decide (1 < (v25.length : Int))) then
  (Option.bind (nth v25 0) fun (v38 : UInt8) =>
  (ref02_guess_j2 N _ (fun (v39 : (List UInt8)) (v40 : Int) (v41 : Int) (v42 : (List UInt8)) =>
  (k0 v39 v40 v41 v42)) (fun (v43 : Int) (v44 : Int) (v45 : (List UInt8)) =>
  (k1 v43 v44 v45)) v25 (decide ((v38.toNat : Int) = 39)) v27 v28 v29))
  else
  (ref02_guess_j2 N _ (fun (v46 : (List UInt8)) (v47 : Int) (v48 : Int) (v49 : (List UInt8)) =>
  (k0 v46 v47 v48 v49)) (fun (v50 : Int) (v51 : Int) (v52 : (List UInt8)) =>
  (k1 v50 v51 v52)) v25 false v27 v28 v29)))

def ref02_guess_cps (N : Nat) (R : Type) (K : Int → Int → (List UInt8) → Option R) (v1 : (List UInt8)) : Option R :=
  (bif (decide (v1 = [110, 117, 108, 108])) then
  (K 0 0 [])
  else
  (bif (decide (v1 = [102, 97, 108, 115, 101])) then
  (Option.bind (ref02_Of N 0) fun (v2 : Int × Int × (List UInt8) × Unit) =>
  (K v2.1 v2.2.1 v2.2.2.1))
  else
  (bif (decide (v1 = [116, 114, 117, 101])) then
  (Option.bind (ref02_Of N 1) fun (v3 : Int × Int × (List UInt8) × Unit) =>
  (K v3.1 v3.2.1 v3.2.2.1))
  else
  (bif (decide (2 < (v1.length : Int))) then
  (Option.bind (nth v1 0) fun (v4 : UInt8) =>
  (ref02_guess_j0 N _ (fun (v5 : (List UInt8)) (v6 : Int) (v7 : Int) (v8 : (List UInt8)) =>
  (ref02_guess_j4 N _ (fun (v9 : Int) (v10 : Int) (v11 : (List UInt8)) =>
  (K v9 v10 v11)) v5 v6 v7 v8)) (fun (v12 : Int) (v13 : Int) (v14 : (List UInt8)) =>
  (K v12 v13 v14)) v1 (decide ((v4.toNat : Int) = 120)) 0 0 []))
  else
  (ref02_guess_j0 N _ (fun (v15 : (List UInt8)) (v16 : Int) (v17 : Int) (v18 : (List UInt8)) =>
  (ref02_guess_j4 N _ (fun (v19 : Int) (v20 : Int) (v21 : (List UInt8)) =>
  (K v19 v20 v21)) v15 v16 v17 v18)) (fun (v22 : Int) (v23 : Int) (v24 : (List UInt8)) =>
  (K v22 v23 v24)) v1 false 0 0 [])))))

def ref02_guess (N : Nat) (v1 : (List UInt8)) : Option (Int × Int × (List UInt8) × Unit) := ref02_guess_cps N _ (fun a0 a1 a2 => some (a0, (a1, (a2, ())))) v1

/-! frankpledge/frankpledgeref02.Right -/
def ref02_Right_j0 (N : Nat) (R : Type) (k0 : Int → Int → (List UInt8) → Option R) (k1 : Bool → Int → Int → (List UInt8) → Option R) (v18 : Int) (v19 : Bool) (v20 : Int) (v21 : Int) (v22 : (List UInt8)) : Option R :=
  (bif v19 then
  (k1 (decide (v22 = [])) v20 v21 v22)
  else
  (bif (decide (v18 = 4)) then
  (bif (decide (v21 = 0)) then
  (k1 (decide ((v22.length : Int) ≤ 200)) v20 v21 v22)
  else
  (k1 false v20 v21 v22))
  else
  (bif (decide (v18 = 5)) then
  (bif (decide (v21 = 0)) then
  (k1 (decide ((v22.length : Int) ≤ 200)) v20 v21 v22)
  else
  (k1 false v20 v21 v22))
  else
  (k0 v20 v21 v22))))

def ref02_Right_cps (N : Nat) (R : Type) (K : Bool → Option R) (v1 : Int) (v2 : Int) (v3 : (List UInt8)) : Option R :=
  (bif (decide (v1 = 0)) then
  (bif (decide (v2 = 0)) then
  (K (decide (v3 = [])))
  else
  (K false))
  else
  (bif (decide (v1 = 1)) then
  (bif (decide (v2 = 0)) then
  (K (decide (v3 = [])))
  else
  (bif (decide (v2 = 1)) then
  (K (decide (v3 = [])))
  else
  (K false)))
  else
  (bif (decide (v1 = 2)) then
  (ref02_Right_j0 N _ (fun (v4 : Int) (v5 : Int) (v6 : (List UInt8)) =>
  (K false)) (fun (v7 : Bool) (v8 : Int) (v9 : Int) (v10 : (List UInt8)) =>
  (K v7)) v1 true v1 v2 v3)
  else
  (ref02_Right_j0 N _ (fun (v11 : Int) (v12 : Int) (v13 : (List UInt8)) =>
  (K false)) (fun (v14 : Bool) (v15 : Int) (v16 : Int) (v17 : (List UInt8)) =>
  (K v14)) v1 (decide (v1 = 3)) v1 v2 v3))))

def ref02_Right (N : Nat) (v1 : Int) (v2 : Int) (v3 : (List UInt8)) : Option (Bool × Unit) := ref02_Right_cps N _ (fun a0 => some (a0, ())) v1 v2 v3

/-! frankpledge/frankpledgeref02.size -/
def ref02_size_cps (N : Nat) (R : Type) (K : Int → (List UInt8) → Option R) (v1 : Int) : Option R :=
  (bif (decide (v1 < 0)) then
  (K (IntKind.wrap .u64 ((IntKind.wrap .u64 (IntKind.wrap .i64 (0 - (IntKind.wrap .i64 (v1 + 1))))) + 1)) [45])
  else
  (K (IntKind.wrap .u64 v1) []))

def ref02_size (N : Nat) (v1 : Int) : Option (Int × (List UInt8) × Unit) := ref02_size_cps N _ (fun a0 a1 => some (a0, (a1, ()))) v1

/-! frankpledge/frankpledgeref02.digits -/
def ref02_digits_l0B (N : Nat) (R : Type) (rec : Int → Int → (List UInt8) → Option R) (k0 : (List UInt8) → Option R) (v4 : Int) (v5 : Int) (v6 : (List UInt8)) : Option R :=
  (bif (decide (0 < v4)) then
  (bif (decide (0 ≤ (IntKind.wrap .u64 ((Int.tmod v4 10) + 1)) ∧ (IntKind.wrap .u64 ((Int.tmod v4 10) + 1)) ≤ ((10 : Nat) : Int))) then
  (bif (decide (0 ≤ (Int.tmod v4 10) ∧ (Int.tmod v4 10) ≤ (((Int.toNat (IntKind.wrap .u64 ((Int.tmod v4 10) + 1))) : Nat) : Int))) then
  (bif (room 1 ((List.drop (Int.toNat (Int.tmod v4 10)) (List.take (Int.toNat (IntKind.wrap .u64 ((Int.tmod v4 10) + 1))) ([48, 49, 50, 51, 52, 53, 54, 55, 56, 57] : List UInt8))).length + v6.length)) then
  (rec (IntKind.wrap .u64 (Int.tdiv v4 10)) v5 ((List.drop (Int.toNat (Int.tmod v4 10)) (List.take (Int.toNat (IntKind.wrap .u64 ((Int.tmod v4 10) + 1))) ([48, 49, 50, 51, 52, 53, 54, 55, 56, 57] : List UInt8))) ++ v6))
  else
  none)
  else
  none)
  else
  none)
  else
  (bif (decide ((v6.length : Int) < v5)) then
  (bif (decide (0 ≤ (IntKind.wrap .u64 ((Int.tmod v4 10) + 1)) ∧ (IntKind.wrap .u64 ((Int.tmod v4 10) + 1)) ≤ ((10 : Nat) : Int))) then
  (bif (decide (0 ≤ (Int.tmod v4 10) ∧ (Int.tmod v4 10) ≤ (((Int.toNat (IntKind.wrap .u64 ((Int.tmod v4 10) + 1))) : Nat) : Int))) then
  (bif (room 1 ((List.drop (Int.toNat (Int.tmod v4 10)) (List.take (Int.toNat (IntKind.wrap .u64 ((Int.tmod v4 10) + 1))) ([48, 49, 50, 51, 52, 53, 54, 55, 56, 57] : List UInt8))).length + v6.length)) then
  (rec (IntKind.wrap .u64 (Int.tdiv v4 10)) v5 ((List.drop (Int.toNat (Int.tmod v4 10)) (List.take (Int.toNat (IntKind.wrap .u64 ((Int.tmod v4 10) + 1))) ([48, 49, 50, 51, 52, 53, 54, 55, 56, 57] : List UInt8))) ++ v6))
  else
  none)
  else
  none)
  else
  none)
  else
  (k0 v6)))

def ref02_digits_l0 (N : Nat) (R : Type) (k0 : (List UInt8) → Option R) : Nat → Int → Int → (List UInt8) → Option R
  | 0 => fun _ _ _ => none
  | n + 1 => ref02_digits_l0B N R (ref02_digits_l0 N R k0 n) k0

def ref02_digits_cps (N : Nat) (R : Type) (K : (List UInt8) → Option R) (v1 : Int) (v2 : Int) : Option R :=
  (ref02_digits_l0 N _ (fun (v3 : (List UInt8)) =>
  (K v3)) N v1 v2 [])

def ref02_digits (N : Nat) (v1 : Int) (v2 : Int) : Option ((List UInt8) × Unit) := ref02_digits_cps N _ (fun a0 => some (a0, ())) v1 v2

/-! frankpledge/frankpledgeref02.Text -/
def ref02_Text_l3B (N : Nat) (R : Type) (rec : (List UInt8) → Int → Int → Int → (List UInt8) → Option R) (k0 : (List UInt8) → Int → Int → (List UInt8) → Option R) (v57 : (List UInt8)) (v58 : Int) (v59 : Int) (v60 : Int) (v61 : (List UInt8)) : Option R :=
  (bif (decide (v58 < (v61.length : Int))) then
  (bif (decide (0 ≤ (IntKind.wrap .i64 (v58 + 1)) ∧ (IntKind.wrap .i64 (v58 + 1)) ≤ ((v61.length : Nat) : Int))) then
  (bif (decide (0 ≤ v58 ∧ v58 ≤ (((Int.toNat (IntKind.wrap .i64 (v58 + 1))) : Nat) : Int))) then
  (bif (room 1 (v57.length + (List.drop (Int.toNat v58) (List.take (Int.toNat (IntKind.wrap .i64 (v58 + 1))) v61)).length)) then
  (Option.bind (nth v61 v58) fun (v62 : UInt8) =>
  (bif (decide ((v62.toNat : Int) = 39)) then
  (bif (room 1 ((v57 ++ (List.drop (Int.toNat v58) (List.take (Int.toNat (IntKind.wrap .i64 (v58 + 1))) v61))).length + ([39] : List UInt8).length)) then
  (rec ((v57 ++ (List.drop (Int.toNat v58) (List.take (Int.toNat (IntKind.wrap .i64 (v58 + 1))) v61))) ++ [39]) (IntKind.wrap .i64 (v58 + 1)) v59 v60 v61)
  else
  none)
  else
  (rec (v57 ++ (List.drop (Int.toNat v58) (List.take (Int.toNat (IntKind.wrap .i64 (v58 + 1))) v61))) (IntKind.wrap .i64 (v58 + 1)) v59 v60 v61)))
  else
  none)
  else
  none)
  else
  none)
  else
  (k0 v57 v59 v60 v61))

def ref02_Text_l3 (N : Nat) (R : Type) (k0 : (List UInt8) → Int → Int → (List UInt8) → Option R) : Nat → (List UInt8) → Int → Int → Int → (List UInt8) → Option R
  | 0 => fun _ _ _ _ _ => none
  | n + 1 => ref02_Text_l3B N R (ref02_Text_l3 N R k0 n) k0

def ref02_Text_l2B (N : Nat) (R : Type) (rec : (List UInt8) → Int → Int → Int → (List UInt8) → Option R) (k0 : (List UInt8) → Int → Int → (List UInt8) → Option R) (v48 : (List UInt8)) (v49 : Int) (v50 : Int) (v51 : Int) (v52 : (List UInt8)) : Option R :=
  (bif (decide (v49 < (v52.length : Int))) then
  (Option.bind (nth v52 v49) fun (v53 : UInt8) =>
  (Option.bind (nth v52 v49) fun (v54 : UInt8) =>
  (bif (decide (0 ≤ (IntKind.wrap .u8 ((IntKind.wrap .u8 (Int.tdiv (v54.toNat : Int) 16)) + 1)) ∧ (IntKind.wrap .u8 ((IntKind.wrap .u8 (Int.tdiv (v54.toNat : Int) 16)) + 1)) ≤ ((16 : Nat) : Int))) then
  (bif (decide (0 ≤ (IntKind.wrap .u8 (Int.tdiv (v53.toNat : Int) 16)) ∧ (IntKind.wrap .u8 (Int.tdiv (v53.toNat : Int) 16)) ≤ (((Int.toNat (IntKind.wrap .u8 ((IntKind.wrap .u8 (Int.tdiv (v54.toNat : Int) 16)) + 1))) : Nat) : Int))) then
  (bif (room 1 (v48.length + (List.drop (Int.toNat (IntKind.wrap .u8 (Int.tdiv (v53.toNat : Int) 16))) (List.take (Int.toNat (IntKind.wrap .u8 ((IntKind.wrap .u8 (Int.tdiv (v54.toNat : Int) 16)) + 1))) ([48, 49, 50, 51, 52, 53, 54, 55, 56, 57, 97, 98, 99, 100, 101, 102] : List UInt8))).length)) then
  (Option.bind (nth v52 v49) fun (v55 : UInt8) =>
  (Option.bind (nth v52 v49) fun (v56 : UInt8) =>
  (bif (decide (0 ≤ (IntKind.wrap .u8 ((Int.tmod (v56.toNat : Int) 16) + 1)) ∧ (IntKind.wrap .u8 ((Int.tmod (v56.toNat : Int) 16) + 1)) ≤ ((16 : Nat) : Int))) then
  (bif (decide (0 ≤ (Int.tmod (v55.toNat : Int) 16) ∧ (Int.tmod (v55.toNat : Int) 16) ≤ (((Int.toNat (IntKind.wrap .u8 ((Int.tmod (v56.toNat : Int) 16) + 1))) : Nat) : Int))) then
  (bif (room 1 ((v48 ++ (List.drop (Int.toNat (IntKind.wrap .u8 (Int.tdiv (v53.toNat : Int) 16))) (List.take (Int.toNat (IntKind.wrap .u8 ((IntKind.wrap .u8 (Int.tdiv (v54.toNat : Int) 16)) + 1))) ([48, 49, 50, 51, 52, 53, 54, 55, 56, 57, 97, 98, 99, 100, 101, 102] : List UInt8)))).length + (List.drop (Int.toNat (Int.tmod (v55.toNat : Int) 16)) (List.take (Int.toNat (IntKind.wrap .u8 ((Int.tmod (v56.toNat : Int) 16) + 1))) ([48, 49, 50, 51, 52, 53, 54, 55, 56, 57, 97, 98, 99, 100, 101, 102] : List UInt8))).length)) then
  (rec ((v48 ++ (List.drop (Int.toNat (IntKind.wrap .u8 (Int.tdiv (v53.toNat : Int) 16))) (List.take (Int.toNat (IntKind.wrap .u8 ((IntKind.wrap .u8 (Int.tdiv (v54.toNat : Int) 16)) + 1))) ([48, 49, 50, 51, 52, 53, 54, 55, 56, 57, 97, 98, 99, 100, 101, 102] : List UInt8)))) ++ (List.drop (Int.toNat (Int.tmod (v55.toNat : Int) 16)) (List.take (Int.toNat (IntKind.wrap .u8 ((Int.tmod (v56.toNat : Int) 16) + 1))) ([48, 49, 50, 51, 52, 53, 54, 55, 56, 57, 97, 98, 99, 100, 101, 102] : List UInt8)))) (IntKind.wrap .i64 (v49 + 1)) v50 v51 v52)
  else
  none)
  else
  none)
  else
  none)))
  else
  none)
  else
  none)
  else
  none)))
  else
  (k0 v48 v50 v51 v52))

def ref02_Text_l2 (N : Nat) (R : Type) (k0 : (List UInt8) → Int → Int → (List UInt8) → Option R) : Nat → (List UInt8) → Int → Int → Int → (List UInt8) → Option R
  | 0 => fun _ _ _ _ _ => none
  | n + 1 => ref02_Text_l2B N R (ref02_Text_l2 N R k0 n) k0

def ref02_Text_j1 (N : Nat) (R : Type) (k0 : (List UInt8) → Int → Int → (List UInt8) → Option R) (v37 : Int) (v38 : Int) (v39 : (List UInt8)) : Option R :=
  (bif (decide (v37 = 5)) then
  (ref02_Text_l2 N _ (fun (v40 : (List UInt8)) (v41 : Int) (v42 : Int) (v43 : (List UInt8)) =>
  (bif (room 1 (([120, 39] : List UInt8).length + v40.length)) then
  (bif (room 1 (([120, 39] ++ v40).length + ([39] : List UInt8).length)) then
  (k0 (([120, 39] ++ v40) ++ [39]) v41 v42 v43)
  else
  none)
  else
  none)) N [] 0 v37 v38 v39)
  else
  (ref02_Text_l3 N _ (fun (v44 : (List UInt8)) (v45 : Int) (v46 : Int) (v47 : (List UInt8)) =>
  (bif (room 1 (([39] : List UInt8).length + v44.length)) then
  (bif (room 1 (([39] ++ v44).length + ([39] : List UInt8).length)) then
  (k0 (([39] ++ v44) ++ [39]) v45 v46 v47)
  else
  none)
  else
  none)) N [] 0 v37 v38 v39))

def ref02_Text_j0 (N : Nat) (R : Type) (k0 : Int → Int → (List UInt8) → Option R) (k1 : (List UInt8) → Int → Int → (List UInt8) → Option R) (v28 : Int) (v29 : (List UInt8)) (v30 : Bool) (v31 : Int) (v32 : Int) (v33 : (List UInt8)) : Option R :=
  (bif v30 then
  (k1 [102, 97, 108, 115, 101] v31 v32 v33)
  else
  (bif (decide (v31 = 1)) then
  (k1 [116, 114, 117, 101] v31 v32 v33)
  else
  (bif (decide (v31 = 2)) then
  (Option.bind (ref02_digits N v28 1) fun (v34 : (List UInt8) × Unit) =>
  (bif (room 1 (v29.length + v34.1.length)) then
  (k1 (v29 ++ v34.1) v31 v32 v33)
  else
  none))
  else
  (bif (decide (v31 = 3)) then
  (Option.bind (ref02_digits N (IntKind.wrap .u64 (Int.tdiv v28 10000)) 1) fun (v35 : (List UInt8) × Unit) =>
  (bif (room 1 (v29.length + v35.1.length)) then
  (bif (room 1 ((v29 ++ v35.1).length + ([46] : List UInt8).length)) then
  (Option.bind (ref02_digits N (Int.tmod v28 10000) 4) fun (v36 : (List UInt8) × Unit) =>
  (bif (room 1 (((v29 ++ v35.1) ++ [46]).length + v36.1.length)) then
  (k1 (((v29 ++ v35.1) ++ [46]) ++ v36.1) v31 v32 v33)
  else
  none))
  else
  none)
  else
  none))
  else
  (k0 v31 v32 v33)))))

def ref02_Text_cps (N : Nat) (R : Type) (K : (List UInt8) → Option R) (v1 : Int) (v2 : Int) (v3 : (List UInt8)) : Option R :=
  (Option.bind (ref02_Right N v1 v2 v3) fun (v4 : Bool × Unit) =>
  (Option.bind (ref02_size N v2) fun (v5 : Int × (List UInt8) × Unit) =>
  (bif (!v4.1) then
  (K [63])
  else
  (bif (decide (v1 = 0)) then
  (K [110, 117, 108, 108])
  else
  (bif (decide (v1 = 1)) then
  (ref02_Text_j0 N _ (fun (v6 : Int) (v7 : Int) (v8 : (List UInt8)) =>
  (ref02_Text_j1 N _ (fun (v9 : (List UInt8)) (v10 : Int) (v11 : Int) (v12 : (List UInt8)) =>
  (K v9)) v6 v7 v8)) (fun (v13 : (List UInt8)) (v14 : Int) (v15 : Int) (v16 : (List UInt8)) =>
  (K v13)) v5.1 v5.2.1 (decide (v2 = 0)) v1 v2 v3)
  else
  (ref02_Text_j0 N _ (fun (v17 : Int) (v18 : Int) (v19 : (List UInt8)) =>
  (ref02_Text_j1 N _ (fun (v20 : (List UInt8)) (v21 : Int) (v22 : Int) (v23 : (List UInt8)) =>
  (K v20)) v17 v18 v19)) (fun (v24 : (List UInt8)) (v25 : Int) (v26 : Int) (v27 : (List UInt8)) =>
  (K v24)) v5.1 v5.2.1 false v1 v2 v3))))))

def ref02_Text (N : Nat) (v1 : Int) (v2 : Int) (v3 : (List UInt8)) : Option ((List UInt8) × Unit) := ref02_Text_cps N _ (fun a0 => some (a0, ())) v1 v2 v3

/-! frankpledge/frankpledgeref02.Read -/
def ref02_Read_cps (N : Nat) (R : Type) (K : Int → Int → (List UInt8) → Bool → Option R) (v1 : (List UInt8)) : Option R :=
  (bif (decide (403 < (v1.length : Int))) then
  (K 0 0 [] false)
  else
  (Option.bind (ref02_guess N v1) fun (v2 : Int × Int × (List UInt8) × Unit) =>
  (Option.bind (ref02_Right N v2.1 v2.2.1 v2.2.2.1) fun (v3 : Bool × Unit) =>
  (bif (!v3.1) then
  (K 0 0 [] false)
  else
  (Option.bind (ref02_Text N v2.1 v2.2.1 v2.2.2.1) fun (v4 : (List UInt8) × Unit) =>
  (bif (!(decide (v4.1 = v1))) then
  (K 0 0 [] false)
  else
  (K v2.1 v2.2.1 v2.2.2.1 true)))))))

def ref02_Read (N : Nat) (v1 : (List UInt8)) : Option (Int × Int × (List UInt8) × Bool × Unit) := ref02_Read_cps N _ (fun a0 a1 a2 a3 => some (a0, (a1, (a2, (a3, ()))))) v1

/-! frankpledge/fault.Code -/
def fault_Code_cps (N : Nat) (R : Type) (K : Int → Option R) (v1 : Err) : Option R :=
  (bif (errOk v1) then (K (errCode v1)) else none)

def fault_Code (N : Nat) (v1 : Err) : Option (Int × Unit) := fault_Code_cps N _ (fun a0 => some (a0, ())) v1

/-! frankpledge/fault.At -/
def fault_At_cps (N : Nat) (R : Type) (K : Int → Option R) (v1 : Err) : Option R :=
  (bif (errOk v1) then (K (errAt v1)) else none)

def fault_At (N : Nat) (v1 : Err) : Option (Int × Unit) := fault_At_cps N _ (fun a0 => some (a0, ())) v1

/-! frankpledge/frankpledgelaw02.ValueTexts -/
def law02_ValueTexts_j0 (N : Nat) (R : Type) (k0 : Bool → Int → Int → (List UInt8) → Option R) (v11 : (List UInt8)) (v12 : Int) (v13 : Int) (v14 : (List UInt8)) : Option R :=
  (Option.bind (value_Read N v11) fun (v15 : Int × Int × (List UInt8) × Err × Unit) =>
  (Option.bind (ref02_Read N v11) fun (v16 : Int × Int × (List UInt8) × Bool × Unit) =>
  (bif (!(v16.2.2.2.1 == (Err.isNil v15.2.2.2.1))) then
  (k0 false v12 v13 v14)
  else
  (bif (!v16.2.2.2.1) then
  (Option.bind (fault_Code N v15.2.2.2.1) fun (v17 : Int × Unit) =>
  (bif (!(decide (v17.1 = 23))) then
  (k0 false v12 v13 v14)
  else
  (Option.bind (fault_At N v15.2.2.2.1) fun (v18 : Int × Unit) =>
  (bif (!(decide (v18.1 = 0))) then
  (k0 false v12 v13 v14)
  else
  (Option.bind (law02_alive N) fun (v19 : Bool × Unit) =>
  (bif v19.1 then
  (Option.bind (value_Text N v12 v13 v14) fun (v20 : (List UInt8) × Unit) =>
  (Option.bind (ref02_Text N v12 v13 v14) fun (v21 : (List UInt8) × Unit) =>
  (bif (decide (v20.1 = v21.1)) then
  (k0 ((decide (v15.1 = v16.1)) && ((decide (v15.2.1 = v16.2.1)) && (decide (v15.2.2.1 = v16.2.2.1)))) v12 v13 v14)
  else
  (k0 false v12 v13 v14))))
  else
  (k0 false v12 v13 v14)))))))
  else
  (Option.bind (law02_alive N) fun (v22 : Bool × Unit) =>
  (bif v22.1 then
  (Option.bind (value_Text N v12 v13 v14) fun (v23 : (List UInt8) × Unit) =>
  (Option.bind (ref02_Text N v12 v13 v14) fun (v24 : (List UInt8) × Unit) =>
  (bif (decide (v23.1 = v24.1)) then
  (k0 ((decide (v15.1 = v16.1)) && ((decide (v15.2.1 = v16.2.1)) && (decide (v15.2.2.1 = v16.2.2.1)))) v12 v13 v14)
  else
  (k0 false v12 v13 v14))))
  else
  (k0 false v12 v13 v14)))))))

def law02_ValueTexts_cps (N : Nat) (R : Type) (K : Bool → Option R) (v1 : Int) (v2 : Int) (v3 : (List UInt8)) (v4 : (List UInt8)) : Option R :=
  (bif (decide (500 < (v3.length : Int))) then
  (Option.bind (law02_alive N) fun (v5 : Bool × Unit) =>
  (K v5.1))
  else
  (bif (decide (500 < (v4.length : Int))) then
  (Option.bind (law02_alive N) fun (v6 : Bool × Unit) =>
  (K v6.1))
  else
  (law02_ValueTexts_j0 N _ (fun (v7 : Bool) (v8 : Int) (v9 : Int) (v10 : (List UInt8)) =>
  (K v7)) v4 v1 v2 v3)))

def law02_ValueTexts (N : Nat) (v1 : Int) (v2 : Int) (v3 : (List UInt8)) (v4 : (List UInt8)) : Option (Bool × Unit) := law02_ValueTexts_cps N _ (fun a0 => some (a0, ())) v1 v2 v3 v4

/-- What is to be shown of the law ValueTexts. -/
def ValueTexts_Pure : Prop := ∀ x : denA [(.pair (.int .i64) (.pair (.int .i64) (.pair .str .unit))), .str], WfA [(.pair (.int .i64) (.pair (.int .i64) (.pair .str .unit))), .str] x → law02_ValueTexts big x.1.1 x.1.2.1 x.1.2.2.1 x.2.1 = some (true, ())


end
end Go.Proofs.YtmpglmalfkkokaaGreatDoor.E
