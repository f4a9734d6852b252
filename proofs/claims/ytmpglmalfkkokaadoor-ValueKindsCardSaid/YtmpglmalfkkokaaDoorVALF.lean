/-
  Pure functions, printed by a program out of the translation.
  Conditions: those that each statement prints, and no other.
-/
import Derived.Test.YtmpglmalfkkokaaDoorEvA
import Derived.Lib.Bytealg
import Derived.Test.YtmpglmalfkkokaaDoorEvL
set_option linter.unusedVariables false
set_option linter.unusedSimpArgs false
/-! Pure functions, printed by wip/gen out of the translation. -/
namespace Go.Proofs.YtmpglmalfkkokaaDoor.E
open Go.Ev
noncomputable section
/-! internal/stringslite.HasPrefix -/
def stringslite_HasPrefix_cps (N : Nat) (R : Type) (K : Bool → Option R) (v1 : (List UInt8)) (v2 : (List UInt8)) : Option R :=
  (bif (decide ((v2.length : Int) ≤ (v1.length : Int))) then
  (bif (decide (0 ≤ (v2.length : Int) ∧ (v2.length : Int) ≤ ((v1.length : Nat) : Int))) then
  (K (decide ((List.drop 0 (List.take (Int.toNat (v2.length : Int)) v1)) = v2)))
  else
  none)
  else
  (K false))

def stringslite_HasPrefix (N : Nat) (v1 : (List UInt8)) (v2 : (List UInt8)) : Option (Bool × Unit) := stringslite_HasPrefix_cps N _ (fun a0 => some (a0, ())) v1 v2

/-! strings.HasPrefix -/
def strings_HasPrefix_cps (N : Nat) (R : Type) (K : Bool → Option R) (v1 : (List UInt8)) (v2 : (List UInt8)) : Option R :=
  (Option.bind (stringslite_HasPrefix N v1 v2) fun (v3 : Bool × Unit) =>
  (K v3.1))

def strings_HasPrefix (N : Nat) (v1 : (List UInt8)) (v2 : (List UInt8)) : Option (Bool × Unit) := strings_HasPrefix_cps N _ (fun a0 => some (a0, ())) v1 v2

/-! internal/stringslite.HasSuffix -/
def stringslite_HasSuffix_cps (N : Nat) (R : Type) (K : Bool → Option R) (v1 : (List UInt8)) (v2 : (List UInt8)) : Option R :=
  (bif (decide ((v2.length : Int) ≤ (v1.length : Int))) then
  (bif (decide (0 ≤ (IntKind.wrap .i64 ((v1.length : Int) - (v2.length : Int))) ∧ (IntKind.wrap .i64 ((v1.length : Int) - (v2.length : Int))) ≤ ((v1.length : Nat) : Int))) then
  (K (decide ((List.drop (Int.toNat (IntKind.wrap .i64 ((v1.length : Int) - (v2.length : Int)))) (List.take v1.length v1)) = v2)))
  else
  none)
  else
  (K false))

def stringslite_HasSuffix (N : Nat) (v1 : (List UInt8)) (v2 : (List UInt8)) : Option (Bool × Unit) := stringslite_HasSuffix_cps N _ (fun a0 => some (a0, ())) v1 v2

/-! strings.HasSuffix -/
def strings_HasSuffix_cps (N : Nat) (R : Type) (K : Bool → Option R) (v1 : (List UInt8)) (v2 : (List UInt8)) : Option R :=
  (Option.bind (stringslite_HasSuffix N v1 v2) fun (v3 : Bool × Unit) =>
  (K v3.1))

def strings_HasSuffix (N : Nat) (v1 : (List UInt8)) (v2 : (List UInt8)) : Option (Bool × Unit) := strings_HasSuffix_cps N _ (fun a0 => some (a0, ())) v1 v2

/-! internal/bytealg.IndexByteString -/
def bytealg_IndexByteString_cps (N : Nat) (R : Type) (K : Int → Option R) (v1 : (List UInt8)) (v2 : Int) : Option R :=
  (K (Lib.indexByte v1 (Int.toNat v2).toUInt8))

def bytealg_IndexByteString (N : Nat) (v1 : (List UInt8)) (v2 : Int) : Option (Int × Unit) := bytealg_IndexByteString_cps N _ (fun a0 => some (a0, ())) v1 v2

/-! internal/stringslite.IndexByte -/
def stringslite_IndexByte_cps (N : Nat) (R : Type) (K : Int → Option R) (v1 : (List UInt8)) (v2 : Int) : Option R :=
  (Option.bind (bytealg_IndexByteString N v1 v2) fun (v3 : Int × Unit) =>
  (K v3.1))

def stringslite_IndexByte (N : Nat) (v1 : (List UInt8)) (v2 : Int) : Option (Int × Unit) := stringslite_IndexByte_cps N _ (fun a0 => some (a0, ())) v1 v2

/-! strings.IndexByte -/
def strings_IndexByte_cps (N : Nat) (R : Type) (K : Int → Option R) (v1 : (List UInt8)) (v2 : Int) : Option R :=
  (Option.bind (stringslite_IndexByte N v1 v2) fun (v3 : Int × Unit) =>
  (K v3.1))

def strings_IndexByte (N : Nat) (v1 : (List UInt8)) (v2 : Int) : Option (Int × Unit) := strings_IndexByte_cps N _ (fun a0 => some (a0, ())) v1 v2

/-! strings.ReplaceAll -/
def strings_ReplaceAll_cps (N : Nat) (R : Type) (K : (List UInt8) → Option R) (v1 : (List UInt8)) (v2 : (List UInt8)) (v3 : (List UInt8)) : Option R :=
  (bif (decide (v1.length < 4294967281 ∧ 1 ≤ v2.length ∧ v1.length + Lib.count v1 v2 * v3.length ≤ 140737488355328)) then (K (Lib.replaceAll v1 v2 v3)) else none)

def strings_ReplaceAll (N : Nat) (v1 : (List UInt8)) (v2 : (List UInt8)) (v3 : (List UInt8)) : Option ((List UInt8) × Unit) := strings_ReplaceAll_cps N _ (fun a0 => some (a0, ())) v1 v2 v3

/-! strconv.ParseInt -/
def strconv_ParseInt_cps (N : Nat) (R : Type) (K : Int → Err → Option R) (v1 : (List UInt8)) (v2 : Int) (v3 : Int) : Option R :=
  (bif (decide (v2 = 10 ∧ v3 = 64 ∧ v1.length ≤ 281474976710656)) then (K (parseV v1) (parseE v1)) else none)

def strconv_ParseInt (N : Nat) (v1 : (List UInt8)) (v2 : Int) (v3 : Int) : Option (Int × Err × Unit) := strconv_ParseInt_cps N _ (fun a0 a1 => some (a0, (a1, ()))) v1 v2 v3

/-! frankpledge/value.guess -/
def value_guess_j4 (N : Nat) (R : Type) (k0 : (List UInt8) → Int → Int → (List UInt8) → Int → Int → (List UInt8) → Option R) (v143 : (List UInt8)) (v144 : Int) (v145 : Int) (v146 : Int) (v147 : (List UInt8)) (v148 : Int) (v149 : Int) (v150 : (List UInt8)) : Option R :=
  (Option.bind (strconv_ParseInt N v143 10 64) fun (v151 : Int × Err × Unit) =>
  (bif (!(Err.isNil v151.2.1)) then
  (k0 v143 v148 v149 v150 v148 v149 v150)
  else
  (k0 v143 v144 v151.1 [] v148 v149 v150)))

def value_guess_j3 (N : Nat) (R : Type) (k0 : (List UInt8) → Int → Int → (List UInt8) → Int → Int → (List UInt8) → Option R) (v114 : (List UInt8)) (v115 : Int) (v116 : Int) (v117 : (List UInt8)) (v118 : Int) (v119 : Int) (v120 : (List UInt8)) : Option R :=
  (bif (decide (0 < (IntKind.wrap .i64 ((v114.length : Int) - 5)))) then
  (Option.bind (nth v114 (IntKind.wrap .i64 ((v114.length : Int) - 5))) fun (v121 : UInt8) =>
  (bif (decide ((v121.toNat : Int) = 46)) then
  (bif (decide (0 ≤ (IntKind.wrap .i64 ((v114.length : Int) - 5)) ∧ (IntKind.wrap .i64 ((v114.length : Int) - 5)) ≤ ((v114.length : Nat) : Int))) then
  (bif (decide (0 ≤ (IntKind.wrap .i64 ((IntKind.wrap .i64 ((v114.length : Int) - 5)) + 1)) ∧ (IntKind.wrap .i64 ((IntKind.wrap .i64 ((v114.length : Int) - 5)) + 1)) ≤ ((v114.length : Nat) : Int))) then
  (bif (room 1 ((List.drop 0 (List.take (Int.toNat (IntKind.wrap .i64 ((v114.length : Int) - 5))) v114)).length + (List.drop (Int.toNat (IntKind.wrap .i64 ((IntKind.wrap .i64 ((v114.length : Int) - 5)) + 1))) (List.take v114.length v114)).length)) then
  (value_guess_j4 N _ (fun (v122 : (List UInt8)) (v123 : Int) (v124 : Int) (v125 : (List UInt8)) (v126 : Int) (v127 : Int) (v128 : (List UInt8)) =>
  (k0 v122 v123 v124 v125 v126 v127 v128)) ((List.drop 0 (List.take (Int.toNat (IntKind.wrap .i64 ((v114.length : Int) - 5))) v114)) ++ (List.drop (Int.toNat (IntKind.wrap .i64 ((IntKind.wrap .i64 ((v114.length : Int) - 5)) + 1))) (List.take v114.length v114))) 3 v115 v116 v117 v118 v119 v120)
  else
  none)
  else
  none)
  else
  none)
  else
  (value_guess_j4 N _ (fun (v129 : (List UInt8)) (v130 : Int) (v131 : Int) (v132 : (List UInt8)) (v133 : Int) (v134 : Int) (v135 : (List UInt8)) =>
  (k0 v129 v130 v131 v132 v133 v134 v135)) v114 2 v115 v116 v117 v118 v119 v120)))
  else
  (value_guess_j4 N _ (fun (v136 : (List UInt8)) (v137 : Int) (v138 : Int) (v139 : (List UInt8)) (v140 : Int) (v141 : Int) (v142 : (List UInt8)) =>
  (k0 v136 v137 v138 v139 v140 v141 v142)) v114 2 v115 v116 v117 v118 v119 v120))

def value_guess_l2B (N : Nat) (R : Type) (rec : (List UInt8) → (List UInt8) → (List UInt8) → Int → Int → (List UInt8) → Int → Int → (List UInt8) → Option R) (k0 : (List UInt8) → (List UInt8) → Int → Int → (List UInt8) → Int → Int → (List UInt8) → Option R) (v101 : (List UInt8)) (v102 : (List UInt8)) (v103 : (List UInt8)) (v104 : Int) (v105 : Int) (v106 : (List UInt8)) (v107 : Int) (v108 : Int) (v109 : (List UInt8)) : Option R :=
  (bif (decide (1 < (v103.length : Int))) then
  (Option.bind (nth v103 0) fun (v110 : UInt8) =>
  (Option.bind (strings_IndexByte N [48, 49, 50, 51, 52, 53, 54, 55, 56, 57, 97, 98, 99, 100, 101, 102] (v110.toNat : Int)) fun (v111 : Int × Unit) =>
  (Option.bind (nth v103 1) fun (v112 : UInt8) =>
  (Option.bind (strings_IndexByte N [48, 49, 50, 51, 52, 53, 54, 55, 56, 57, 97, 98, 99, 100, 101, 102] (v112.toNat : Int)) fun (v113 : Int × Unit) =>
  (bif (room 1 (v102.length + ([(UInt8.ofNat (Int.toNat (IntKind.wrap .u8 (Ev.bits .or .i64 (Ev.shl .i64 v111.1 4) (Ev.bits .and .i64 v113.1 15)))))] : (List UInt8)).length)) then
  (bif (decide (0 ≤ (2 : Int) ∧ (2 : Int) ≤ ((v103.length : Nat) : Int))) then
  (rec v101 (v102 ++ ([(UInt8.ofNat (Int.toNat (IntKind.wrap .u8 (Ev.bits .or .i64 (Ev.shl .i64 v111.1 4) (Ev.bits .and .i64 v113.1 15)))))] : (List UInt8))) (List.drop 2 (List.take v103.length v103)) v104 v105 v106 v107 v108 v109)
  else
  none)
  else
  none)))))
  else
  (k0 v101 v102 v104 v105 v106 v107 v108 v109))

def value_guess_l2 (N : Nat) (R : Type) (k0 : (List UInt8) → (List UInt8) → Int → Int → (List UInt8) → Int → Int → (List UInt8) → Option R) : Nat → (List UInt8) → (List UInt8) → (List UInt8) → Int → Int → (List UInt8) → Int → Int → (List UInt8) → Option R
  | 0 => fun _ _ _ _ _ _ _ _ _ => none
  | n + 1 => value_guess_l2B N R (value_guess_l2 N R k0 n) k0

def value_guess_j1 (N : Nat) (R : Type) (k0 : (List UInt8) → Int → Int → (List UInt8) → Int → Int → (List UInt8) → Option R) (k1 : (List UInt8) → Int → Int → (List UInt8) → Int → Int → (List UInt8) → Option R) (v82 : (List UInt8)) (v83 : Bool) (v84 : Int) (v85 : Int) (v86 : (List UInt8)) (v87 : Int) (v88 : Int) (v89 : (List UInt8)) : Option R :=
  (bif v83 then
  (bif (decide (0 ≤ (IntKind.wrap .i64 ((v82.length : Int) - 1)) ∧ (IntKind.wrap .i64 ((v82.length : Int) - 1)) ≤ ((v82.length : Nat) : Int))) then
  (bif (decide (0 ≤ (2 : Int) ∧ (2 : Int) ≤ (((Int.toNat (IntKind.wrap .i64 ((v82.length : Int) - 1))) : Nat) : Int))) then
  (value_guess_l2 N _ (fun (v90 : (List UInt8)) (v91 : (List UInt8)) (v92 : Int) (v93 : Int) (v94 : (List UInt8)) (v95 : Int) (v96 : Int) (v97 : (List UInt8)) =>
  (k1 v90 5 0 v91 v95 v96 v97)) N v82 [] (List.drop 2 (List.take (Int.toNat (IntKind.wrap .i64 ((v82.length : Int) - 1))) v82)) v84 v85 v86 v87 v88 v89)
  else
  none)
  else
  none)
  else
  (Option.bind (strings_HasPrefix N v82 [39]) fun (v98 : Bool × Unit) =>
  (bif v98.1 then
  (bif (decide (0 ≤ (1 : Int) ∧ (1 : Int) ≤ ((v82.length : Nat) : Int))) then
  (Option.bind (strings_HasSuffix N (List.drop 1 (List.take v82.length v82)) [39]) fun (v99 : Bool × Unit) =>
  (bif v99.1 then
  (bif (decide (0 ≤ (IntKind.wrap .i64 ((v82.length : Int) - 1)) ∧ (IntKind.wrap .i64 ((v82.length : Int) - 1)) ≤ ((v82.length : Nat) : Int))) then
  (bif (decide (0 ≤ (1 : Int) ∧ (1 : Int) ≤ (((Int.toNat (IntKind.wrap .i64 ((v82.length : Int) - 1))) : Nat) : Int))) then
  (Option.bind (strings_ReplaceAll N (List.drop 1 (List.take (Int.toNat (IntKind.wrap .i64 ((v82.length : Int) - 1))) v82)) [39, 39] [39]) fun (v100 : (List UInt8) × Unit) =>
  (k1 v82 4 0 v100.1 v87 v88 v89))
  else
  none)
  else
  none)
  else
  (k0 v82 v84 v85 v86 v87 v88 v89)))
  else
  none)
  else
  (k0 v82 v84 v85 v86 v87 v88 v89))))

def value_guess_j0 (N : Nat) (R : Type) (k0 : (List UInt8) → Int → Int → (List UInt8) → Int → Int → (List UInt8) → Option R) (k1 : (List UInt8) → Int → Int → (List UInt8) → Int → Int → (List UInt8) → Option R) (v44 : (List UInt8)) (v45 : Bool) (v46 : Int) (v47 : Int) (v48 : (List UInt8)) (v49 : Int) (v50 : Int) (v51 : (List UInt8)) : Option R :=
  (bif v45 then
  (bif (decide (v44 = [116, 114, 117, 101])) then
  (k1 v44 1 1 [] v49 v50 v51)
  else
  (k1 v44 1 0 [] v49 v50 v51))
  else
  (Option.bind (strings_HasPrefix N v44 [120, 39]) fun (v52 : Bool × Unit) =>
  (bif v52.1 then
  (bif (decide (0 ≤ (2 : Int) ∧ (2 : Int) ≤ ((v44.length : Nat) : Int))) then
  (Option.bind (strings_HasSuffix N (List.drop 2 (List.take v44.length v44)) [39]) fun (v53 : Bool × Unit) =>
  (value_guess_j1 N _ (fun (v54 : (List UInt8)) (v55 : Int) (v56 : Int) (v57 : (List UInt8)) (v58 : Int) (v59 : Int) (v60 : (List UInt8)) =>
  (k0 v54 v55 v56 v57 v58 v59 v60)) (fun (v61 : (List UInt8)) (v62 : Int) (v63 : Int) (v64 : (List UInt8)) (v65 : Int) (v66 : Int) (v67 : (List UInt8)) =>
  (k1 v61 v62 v63 v64 v65 v66 v67)) v44 v53.1 v46 v47 v48 v49 v50 v51))
  else
  none)
  else
  (value_guess_j1 N _ (fun (v68 : (List UInt8)) (v69 : Int) (v70 : Int) (v71 : (List UInt8)) (v72 : Int) (v73 : Int) (v74 : (List UInt8)) =>
  (k0 v68 v69 v70 v71 v72 v73 v74)) (fun (v75 : (List UInt8)) (v76 : Int) (v77 : Int) (v78 : (List UInt8)) (v79 : Int) (v80 : Int) (v81 : (List UInt8)) =>
  (k1 v75 v76 v77 v78 v79 v80 v81)) v44 false v46 v47 v48 v49 v50 v51))))

def value_guess_cps (N : Nat) (R : Type) (K : Int → Int → (List UInt8) → Option R) (v1 : (List UInt8)) : Option R :=
  (bif (decide (v1 = [110, 117, 108, 108])) then
  (K 0 0 [])
  else
  (bif (decide (v1 = [116, 114, 117, 101])) then
  (value_guess_j0 N _ (fun (v2 : (List UInt8)) (v3 : Int) (v4 : Int) (v5 : (List UInt8)) (v6 : Int) (v7 : Int) (v8 : (List UInt8)) =>
  (value_guess_j3 N _ (fun (v9 : (List UInt8)) (v10 : Int) (v11 : Int) (v12 : (List UInt8)) (v13 : Int) (v14 : Int) (v15 : (List UInt8)) =>
  (K v10 v11 v12)) v2 v3 v4 v5 v6 v7 v8)) (fun (v16 : (List UInt8)) (v17 : Int) (v18 : Int) (v19 : (List UInt8)) (v20 : Int) (v21 : Int) (v22 : (List UInt8)) =>
  (K v17 v18 v19)) v1 true 0 0 [] 0 1 [])
  else
  (value_guess_j0 N _ (fun (v23 : (List UInt8)) (v24 : Int) (v25 : Int) (v26 : (List UInt8)) (v27 : Int) (v28 : Int) (v29 : (List UInt8)) =>
  (value_guess_j3 N _ (fun (v30 : (List UInt8)) (v31 : Int) (v32 : Int) (v33 : (List UInt8)) (v34 : Int) (v35 : Int) (v36 : (List UInt8)) =>
  (K v31 v32 v33)) v23 v24 v25 v26 v27 v28 v29)) (fun (v37 : (List UInt8)) (v38 : Int) (v39 : Int) (v40 : (List UInt8)) (v41 : Int) (v42 : Int) (v43 : (List UInt8)) =>
  (K v38 v39 v40)) v1 (decide (v1 = [102, 97, 108, 115, 101])) 0 0 [] 0 1 [])))

def value_guess (N : Nat) (v1 : (List UInt8)) : Option (Int × Int × (List UInt8) × Unit) := value_guess_cps N _ (fun a0 a1 a2 => some (a0, (a1, (a2, ())))) v1

/-! frankpledge/value.Right -/
def value_Right_cps (N : Nat) (R : Type) (K : Bool → Option R) (v1 : Int) (v2 : Int) (v3 : (List UInt8)) : Option R :=
  (bif (decide (v1 = 1)) then
  (bif (decide (v2 = 1)) then
  (K (decide (v3 = [])))
  else
  (bif (decide (v2 = 0)) then
  (K (decide (v3 = [])))
  else
  (K false)))
  else
  (bif (decide (v1 = 0)) then
  (bif (decide (v2 = 0)) then
  (K (decide (v3 = [])))
  else
  (K false))
  else
  (bif (decide (v1 = 2)) then
  (K (decide (v3 = [])))
  else
  (bif (decide (v1 = 3)) then
  (K (decide (v3 = [])))
  else
  (bif (decide (v1 = 4)) then
  (bif (decide (v2 = 0)) then
  (K (decide ((v3.length : Int) ≤ 200)))
  else
  (K false))
  else
  (bif (decide (v1 = 5)) then
  (bif (decide (v2 = 0)) then
  (K (decide ((v3.length : Int) ≤ 200)))
  else
  (K false))
  else
  (K false)))))))

def value_Right (N : Nat) (v1 : Int) (v2 : Int) (v3 : (List UInt8)) : Option (Bool × Unit) := value_Right_cps N _ (fun a0 => some (a0, ())) v1 v2 v3

/-! frankpledge/fault.New -/
def fault_New_cps (N : Nat) (R : Type) (K : Err → Option R) (v1 : Int) (v2 : Int) : Option R :=
  (bif (decide (v1 = 0)) then
  (K Err.nil)
  else
  (K (Err.fault v1 v2 Err.nil)))

def fault_New (N : Nat) (v1 : Int) (v2 : Int) : Option (Err × Unit) := fault_New_cps N _ (fun a0 => some (a0, ())) v1 v2

/-! internal/strconv.FormatBool -/
def strconv_FormatBool__cps (N : Nat) (R : Type) (K : (List UInt8) → Option R) (v1 : Bool) : Option R :=
  (bif v1 then
  (K [116, 114, 117, 101])
  else
  (K [102, 97, 108, 115, 101]))

def strconv_FormatBool_ (N : Nat) (v1 : Bool) : Option ((List UInt8) × Unit) := strconv_FormatBool__cps N _ (fun a0 => some (a0, ())) v1

/-! strconv.FormatBool -/
def strconv_FormatBool_cps (N : Nat) (R : Type) (K : (List UInt8) → Option R) (v1 : Bool) : Option R :=
  (Option.bind (strconv_FormatBool_ N v1) fun (v2 : (List UInt8) × Unit) =>
  (K v2.1))

def strconv_FormatBool (N : Nat) (v1 : Bool) : Option ((List UInt8) × Unit) := strconv_FormatBool_cps N _ (fun a0 => some (a0, ())) v1

/-! strconv.FormatInt -/
def strconv_FormatInt_cps (N : Nat) (R : Type) (K : (List UInt8) → Option R) (v1 : Int) (v2 : Int) : Option R :=
  (bif (decide (v2 = 10)) then (K (Lib.itoa v1)) else none)

def strconv_FormatInt (N : Nat) (v1 : Int) (v2 : Int) : Option ((List UInt8) × Unit) := strconv_FormatInt_cps N _ (fun a0 => some (a0, ())) v1 v2

/-! internal/stringslite.CutPrefix -/
def stringslite_CutPrefix_cps (N : Nat) (R : Type) (K : (List UInt8) → Bool → Option R) (v1 : (List UInt8)) (v2 : (List UInt8)) : Option R :=
  (Option.bind (stringslite_HasPrefix N v1 v2) fun (v3 : Bool × Unit) =>
  (bif (!v3.1) then
  (K v1 false)
  else
  (bif (decide (0 ≤ (v2.length : Int) ∧ (v2.length : Int) ≤ ((v1.length : Nat) : Int))) then
  (K (List.drop (Int.toNat (v2.length : Int)) (List.take v1.length v1)) true)
  else
  none)))

def stringslite_CutPrefix (N : Nat) (v1 : (List UInt8)) (v2 : (List UInt8)) : Option ((List UInt8) × Bool × Unit) := stringslite_CutPrefix_cps N _ (fun a0 a1 => some (a0, (a1, ()))) v1 v2

/-! strings.CutPrefix -/
def strings_CutPrefix_cps (N : Nat) (R : Type) (K : (List UInt8) → Bool → Option R) (v1 : (List UInt8)) (v2 : (List UInt8)) : Option R :=
  (Option.bind (stringslite_CutPrefix N v1 v2) fun (v3 : (List UInt8) × Bool × Unit) =>
  (K v3.1 v3.2.1))

def strings_CutPrefix (N : Nat) (v1 : (List UInt8)) (v2 : (List UInt8)) : Option ((List UInt8) × Bool × Unit) := strings_CutPrefix_cps N _ (fun a0 a1 => some (a0, (a1, ()))) v1 v2

/-! strings.Repeat -/
def strings_Repeat_cps (N : Nat) (R : Type) (K : (List UInt8) → Option R) (v1 : (List UInt8)) (v2 : Int) : Option R :=
  (bif (decide (0 ≤ v2 ∧ v1.length * (Int.toNat v2) ≤ 140737488355328)) then (K (Lib.repeatL v1 (Int.toNat v2))) else none)

def strings_Repeat (N : Nat) (v1 : (List UInt8)) (v2 : Int) : Option ((List UInt8) × Unit) := strings_Repeat_cps N _ (fun a0 => some (a0, ())) v1 v2

/-! frankpledge/value.Text -/
def value_Text_l1B (N : Nat) (R : Type) (rec : (List UInt8) → (List UInt8) → Int → Int → Int → Int → (List UInt8) → Option R) (k0 : (List UInt8) → Int → Int → (List UInt8) → Option R) (v28 : (List UInt8)) (v29 : (List UInt8)) (v30 : Int) (v31 : Int) (v32 : Int) (v33 : Int) (v34 : (List UInt8)) : Option R :=
  (bif (decide (v31 < v30)) then
  (Option.bind (nth v29 v31) fun (v35 : UInt8) =>
  (Option.bind (nth ([48, 49, 50, 51, 52, 53, 54, 55, 56, 57, 97, 98, 99, 100, 101, 102] : List UInt8) (Ev.shr .u8 (v35.toNat : Int) 4)) fun (v36 : UInt8) =>
  (Option.bind (nth ([48, 49, 50, 51, 52, 53, 54, 55, 56, 57, 97, 98, 99, 100, 101, 102] : List UInt8) (Ev.bits .and .u8 (v35.toNat : Int) 15)) fun (v37 : UInt8) =>
  (bif (room 1 (v28.length + ([(UInt8.ofNat (Int.toNat (v36.toNat : Int))), (UInt8.ofNat (Int.toNat (v37.toNat : Int)))] : (List UInt8)).length)) then
  (rec (v28 ++ ([(UInt8.ofNat (Int.toNat (v36.toNat : Int))), (UInt8.ofNat (Int.toNat (v37.toNat : Int)))] : (List UInt8))) v29 v30 (IntKind.wrap .i64 (v31 + 1)) v32 v33 v34)
  else
  none))))
  else
  (k0 v28 v32 v33 v34))

def value_Text_l1 (N : Nat) (R : Type) (k0 : (List UInt8) → Int → Int → (List UInt8) → Option R) : Nat → (List UInt8) → (List UInt8) → Int → Int → Int → Int → (List UInt8) → Option R
  | 0 => fun _ _ _ _ _ _ _ => none
  | n + 1 => value_Text_l1B N R (value_Text_l1 N R k0 n) k0

def value_Text_j0 (N : Nat) (R : Type) (k0 : (List UInt8) → Int → Int → (List UInt8) → Option R) (v23 : (List UInt8)) (v24 : Bool) (v25 : Int) (v26 : Int) (v27 : (List UInt8)) : Option R :=
  (bif (decide (0 ≤ (IntKind.wrap .i64 ((v23.length : Int) - 4)) ∧ (IntKind.wrap .i64 ((v23.length : Int) - 4)) ≤ ((v23.length : Nat) : Int))) then
  (bif (room 1 ((List.drop 0 (List.take (Int.toNat (IntKind.wrap .i64 ((v23.length : Int) - 4))) v23)).length + ([46] : List UInt8).length)) then
  (bif (decide (0 ≤ (IntKind.wrap .i64 ((v23.length : Int) - 4)) ∧ (IntKind.wrap .i64 ((v23.length : Int) - 4)) ≤ ((v23.length : Nat) : Int))) then
  (bif (room 1 (((List.drop 0 (List.take (Int.toNat (IntKind.wrap .i64 ((v23.length : Int) - 4))) v23)) ++ [46]).length + (List.drop (Int.toNat (IntKind.wrap .i64 ((v23.length : Int) - 4))) (List.take v23.length v23)).length)) then
  (bif v24 then
  (bif (room 1 (([45] : List UInt8).length + (((List.drop 0 (List.take (Int.toNat (IntKind.wrap .i64 ((v23.length : Int) - 4))) v23)) ++ [46]) ++ (List.drop (Int.toNat (IntKind.wrap .i64 ((v23.length : Int) - 4))) (List.take v23.length v23))).length)) then
  (k0 ([45] ++ (((List.drop 0 (List.take (Int.toNat (IntKind.wrap .i64 ((v23.length : Int) - 4))) v23)) ++ [46]) ++ (List.drop (Int.toNat (IntKind.wrap .i64 ((v23.length : Int) - 4))) (List.take v23.length v23)))) v25 v26 v27)
  else
  none)
  else
  (k0 (((List.drop 0 (List.take (Int.toNat (IntKind.wrap .i64 ((v23.length : Int) - 4))) v23)) ++ [46]) ++ (List.drop (Int.toNat (IntKind.wrap .i64 ((v23.length : Int) - 4))) (List.take v23.length v23))) v25 v26 v27))
  else
  none)
  else
  none)
  else
  none)
  else
  none)

def value_Text_cps (N : Nat) (R : Type) (K : (List UInt8) → Option R) (v1 : Int) (v2 : Int) (v3 : (List UInt8)) : Option R :=
  (Option.bind (value_Right N v1 v2 v3) fun (v4 : Bool × Unit) =>
  (bif (!v4.1) then
  (K [63])
  else
  (bif (decide (v1 = 0)) then
  (K [110, 117, 108, 108])
  else
  (bif (decide (v1 = 1)) then
  (Option.bind (strconv_FormatBool N (decide (v2 = 1))) fun (v5 : (List UInt8) × Unit) =>
  (K v5.1))
  else
  (bif (decide (v1 = 2)) then
  (Option.bind (strconv_FormatInt N v2 10) fun (v6 : (List UInt8) × Unit) =>
  (K v6.1))
  else
  (bif (decide (v1 = 3)) then
  (Option.bind (strconv_FormatInt N v2 10) fun (v7 : (List UInt8) × Unit) =>
  (Option.bind (strings_CutPrefix N v7.1 [45]) fun (v8 : (List UInt8) × Bool × Unit) =>
  (bif (decide ((v8.1.length : Int) < 5)) then
  (Option.bind (strings_Repeat N [48] (IntKind.wrap .i64 (5 - (v8.1.length : Int)))) fun (v9 : (List UInt8) × Unit) =>
  (bif (room 1 (v9.1.length + v8.1.length)) then
  (value_Text_j0 N _ (fun (v10 : (List UInt8)) (v11 : Int) (v12 : Int) (v13 : (List UInt8)) =>
  (K v10)) (v9.1 ++ v8.1) v8.2.1 v1 v2 v3)
  else
  none))
  else
  (value_Text_j0 N _ (fun (v14 : (List UInt8)) (v15 : Int) (v16 : Int) (v17 : (List UInt8)) =>
  (K v14)) v8.1 v8.2.1 v1 v2 v3))))
  else
  (bif (decide (v1 = 5)) then
  (value_Text_l1 N _ (fun (v18 : (List UInt8)) (v19 : Int) (v20 : Int) (v21 : (List UInt8)) =>
  (bif (room 1 (([120, 39] : List UInt8).length + v18.length)) then
  (bif (room 1 (([120, 39] ++ v18).length + ([39] : List UInt8).length)) then
  (K (([120, 39] ++ v18) ++ [39]))
  else
  none)
  else
  none)) N [] v3 (v3.length : Int) 0 v1 v2 v3)
  else
  (Option.bind (strings_ReplaceAll N v3 [39] [39, 39]) fun (v22 : (List UInt8) × Unit) =>
  (bif (room 1 (([39] : List UInt8).length + v22.1.length)) then
  (bif (room 1 (([39] ++ v22.1).length + ([39] : List UInt8).length)) then
  (K (([39] ++ v22.1) ++ [39]))
  else
  none)
  else
  none)))))))))

def value_Text (N : Nat) (v1 : Int) (v2 : Int) (v3 : (List UInt8)) : Option ((List UInt8) × Unit) := value_Text_cps N _ (fun a0 => some (a0, ())) v1 v2 v3

/-! frankpledge/value.Read -/
def value_Read_cps (N : Nat) (R : Type) (K : Int → Int → (List UInt8) → Err → Option R) (v1 : (List UInt8)) : Option R :=
  (Option.bind (value_guess N v1) fun (v2 : Int × Int × (List UInt8) × Unit) =>
  (Option.bind (value_Right N v2.1 v2.2.1 v2.2.2.1) fun (v3 : Bool × Unit) =>
  (bif (!v3.1) then
  (Option.bind (fault_New N 23 0) fun (v4 : Err × Unit) =>
  (K 0 0 [] v4.1))
  else
  (Option.bind (value_Text N v2.1 v2.2.1 v2.2.2.1) fun (v5 : (List UInt8) × Unit) =>
  (bif (!(decide (v5.1 = v1))) then
  (Option.bind (fault_New N 23 0) fun (v6 : Err × Unit) =>
  (K 0 0 [] v6.1))
  else
  (K v2.1 v2.2.1 v2.2.2.1 Err.nil))))))

def value_Read (N : Nat) (v1 : (List UInt8)) : Option (Int × Int × (List UInt8) × Err × Unit) := value_Read_cps N _ (fun a0 a1 a2 a3 => some (a0, (a1, (a2, (a3, ()))))) v1

/-! frankpledge/frankpledgelaw02.alive -/
def law02_alive_cps (N : Nat) (R : Type) (K : Bool → Option R)  : Option R :=
  (Option.bind (value_Read N [45, 49, 46, 50, 53, 48, 48]) fun (v1 : Int × Int × (List UInt8) × Err × Unit) =>
  (bif (Err.isNil v1.2.2.2.1) then
  (bif (decide (v1.1 = 3)) then
  (bif (decide (v1.2.1 = (-12500))) then
  (Option.bind (value_Text N 4 0 [105, 116, 39, 115]) fun (v2 : (List UInt8) × Unit) =>
  (K (decide (v2.1 = [39, 105, 116, 39, 39, 115, 39]))))
  else
  (K false))
  else
  (K false))
  else
  (K false)))

def law02_alive (N : Nat)  : Option (Bool × Unit) := law02_alive_cps N _ (fun a0 => some (a0, ())) 

/-! frankpledge/frankpledgelaw02.ValueBack -/
def law02_ValueBack_j2 (N : Nat) (R : Type) (k0 : Bool → Int → Int → (List UInt8) → Int → Int → (List UInt8) → Int → Int → (List UInt8) → Option R) (v71 : Int) (v72 : Int) (v73 : (List UInt8)) (v74 : Int) (v75 : Int) (v76 : (List UInt8)) (v77 : Int) (v78 : Int) (v79 : (List UInt8)) : Option R :=
  (Option.bind (value_Text N v71 v72 v73) fun (v80 : (List UInt8) × Unit) =>
  (Option.bind (value_Read N v80.1) fun (v81 : Int × Int × (List UInt8) × Err × Unit) =>
  (Option.bind (law02_alive N) fun (v82 : Bool × Unit) =>
  (bif v82.1 then
  (bif (Err.isNil v81.2.2.2.1) then
  (bif ((decide (v81.1 = v71)) && ((decide (v81.2.1 = v72)) && (decide (v81.2.2.1 = v73)))) then
  (Option.bind (value_Text N v71 v72 v73) fun (v83 : (List UInt8) × Unit) =>
  (Option.bind (value_Text N v74 v75 v76) fun (v84 : (List UInt8) × Unit) =>
  (k0 ((decide (v83.1 = v84.1)) == ((decide (v71 = v74)) && ((decide (v72 = v75)) && (decide (v73 = v76))))) v71 v72 v73 v74 v75 v76 v77 v78 v79)))
  else
  (k0 false v71 v72 v73 v74 v75 v76 v77 v78 v79))
  else
  (k0 false v71 v72 v73 v74 v75 v76 v77 v78 v79))
  else
  (k0 false v71 v72 v73 v74 v75 v76 v77 v78 v79)))))

def law02_ValueBack_j1 (N : Nat) (R : Type) (k0 : Bool → Int → Int → (List UInt8) → Int → Int → (List UInt8) → Int → Int → (List UInt8) → Option R) (v48 : Int) (v49 : Int) (v50 : (List UInt8)) (v51 : Int) (v52 : Int) (v53 : (List UInt8)) (v54 : Int) (v55 : Int) (v56 : (List UInt8)) : Option R :=
  (Option.bind (value_Right N v48 v49 v50) fun (v57 : Bool × Unit) =>
  (bif (!v57.1) then
  (Option.bind (law02_alive N) fun (v58 : Bool × Unit) =>
  (k0 v58.1 v48 v49 v50 v51 v52 v53 v54 v55 v56))
  else
  (Option.bind (value_Right N v51 v52 v53) fun (v59 : Bool × Unit) =>
  (bif (!v59.1) then
  (Option.bind (law02_alive N) fun (v60 : Bool × Unit) =>
  (k0 v60.1 v48 v49 v50 v51 v52 v53 v54 v55 v56))
  else
  (law02_ValueBack_j2 N _ (fun (v61 : Bool) (v62 : Int) (v63 : Int) (v64 : (List UInt8)) (v65 : Int) (v66 : Int) (v67 : (List UInt8)) (v68 : Int) (v69 : Int) (v70 : (List UInt8)) =>
  (k0 v61 v62 v63 v64 v65 v66 v67 v68 v69 v70)) v48 v49 v50 v51 v52 v53 v54 v55 v56)))))

def law02_ValueBack_j0 (N : Nat) (R : Type) (k0 : Bool → Int → Int → (List UInt8) → Int → Int → (List UInt8) → Option R) (v18 : (List UInt8)) (v19 : Int) (v20 : Int) (v21 : (List UInt8)) (v22 : Int) (v23 : Int) (v24 : (List UInt8)) : Option R :=
  (Option.bind (value_Read N v18) fun (v25 : Int × Int × (List UInt8) × Err × Unit) =>
  (bif (Err.isNil v25.2.2.2.1) then
  (Option.bind (value_Text N v25.1 v25.2.1 v25.2.2.1) fun (v26 : (List UInt8) × Unit) =>
  (bif (!(decide (v26.1 = v18))) then
  (k0 false v19 v20 v21 v22 v23 v24)
  else
  (Option.bind (value_Right N v25.1 v25.2.1 v25.2.2.1) fun (v27 : Bool × Unit) =>
  (bif (!v27.1) then
  (k0 false v19 v20 v21 v22 v23 v24)
  else
  (law02_ValueBack_j1 N _ (fun (v28 : Bool) (v29 : Int) (v30 : Int) (v31 : (List UInt8)) (v32 : Int) (v33 : Int) (v34 : (List UInt8)) (v35 : Int) (v36 : Int) (v37 : (List UInt8)) =>
  (k0 v28 v29 v30 v31 v32 v33 v34)) v19 v20 v21 v22 v23 v24 v25.1 v25.2.1 v25.2.2.1)))))
  else
  (law02_ValueBack_j1 N _ (fun (v38 : Bool) (v39 : Int) (v40 : Int) (v41 : (List UInt8)) (v42 : Int) (v43 : Int) (v44 : (List UInt8)) (v45 : Int) (v46 : Int) (v47 : (List UInt8)) =>
  (k0 v38 v39 v40 v41 v42 v43 v44)) v19 v20 v21 v22 v23 v24 v25.1 v25.2.1 v25.2.2.1)))

def law02_ValueBack_cps (N : Nat) (R : Type) (K : Bool → Option R) (v1 : Int) (v2 : Int) (v3 : (List UInt8)) (v4 : Int) (v5 : Int) (v6 : (List UInt8)) (v7 : (List UInt8)) : Option R :=
  (bif (decide (500 < (v3.length : Int))) then
  (Option.bind (law02_alive N) fun (v8 : Bool × Unit) =>
  (K v8.1))
  else
  (bif (decide (500 < (v6.length : Int))) then
  (Option.bind (law02_alive N) fun (v9 : Bool × Unit) =>
  (K v9.1))
  else
  (bif (decide (500 < (v7.length : Int))) then
  (Option.bind (law02_alive N) fun (v10 : Bool × Unit) =>
  (K v10.1))
  else
  (law02_ValueBack_j0 N _ (fun (v11 : Bool) (v12 : Int) (v13 : Int) (v14 : (List UInt8)) (v15 : Int) (v16 : Int) (v17 : (List UInt8)) =>
  (K v11)) v7 v1 v2 v3 v4 v5 v6))))

def law02_ValueBack (N : Nat) (v1 : Int) (v2 : Int) (v3 : (List UInt8)) (v4 : Int) (v5 : Int) (v6 : (List UInt8)) (v7 : (List UInt8)) : Option (Bool × Unit) := law02_ValueBack_cps N _ (fun a0 => some (a0, ())) v1 v2 v3 v4 v5 v6 v7

/-! cmp.isNaN[frankpledge/api.Kind] -/
def cmp_isNaN_api_Kind_cps (N : Nat) (R : Type) (K : Bool → Option R) (v1 : Int) : Option R :=
  (K (!(decide (v1 = v1))))

def cmp_isNaN_api_Kind (N : Nat) (v1 : Int) : Option (Bool × Unit) := cmp_isNaN_api_Kind_cps N _ (fun a0 => some (a0, ())) v1

/-! cmp.Compare[frankpledge/api.Kind] -/
def cmp_Compare_api_Kind_cps (N : Nat) (R : Type) (K : Int → Option R) (v1 : Int) (v2 : Int) : Option R :=
  (Option.bind (cmp_isNaN_api_Kind N v1) fun (v3 : Bool × Unit) =>
  (Option.bind (cmp_isNaN_api_Kind N v2) fun (v4 : Bool × Unit) =>
  (bif v3.1 then
  (bif v4.1 then
  (K 0)
  else
  (K (-1)))
  else
  (bif v4.1 then
  (K 1)
  else
  (bif (decide (v1 < v2)) then
  (K (-1))
  else
  (bif (decide (v2 < v1)) then
  (K 1)
  else
  (K 0)))))))

def cmp_Compare_api_Kind (N : Nat) (v1 : Int) (v2 : Int) : Option (Int × Unit) := cmp_Compare_api_Kind_cps N _ (fun a0 => some (a0, ())) v1 v2

/-! cmp.isNaN[int64] -/
def cmp_isNaN_int64_cps (N : Nat) (R : Type) (K : Bool → Option R) (v1 : Int) : Option R :=
  (K (!(decide (v1 = v1))))

def cmp_isNaN_int64 (N : Nat) (v1 : Int) : Option (Bool × Unit) := cmp_isNaN_int64_cps N _ (fun a0 => some (a0, ())) v1

/-! cmp.Compare[int64] -/
def cmp_Compare_int64_cps (N : Nat) (R : Type) (K : Int → Option R) (v1 : Int) (v2 : Int) : Option R :=
  (Option.bind (cmp_isNaN_int64 N v1) fun (v3 : Bool × Unit) =>
  (Option.bind (cmp_isNaN_int64 N v2) fun (v4 : Bool × Unit) =>
  (bif v3.1 then
  (bif v4.1 then
  (K 0)
  else
  (K (-1)))
  else
  (bif v4.1 then
  (K 1)
  else
  (bif (decide (v1 < v2)) then
  (K (-1))
  else
  (bif (decide (v2 < v1)) then
  (K 1)
  else
  (K 0)))))))

def cmp_Compare_int64 (N : Nat) (v1 : Int) (v2 : Int) : Option (Int × Unit) := cmp_Compare_int64_cps N _ (fun a0 => some (a0, ())) v1 v2

/-! cmp.isNaN[string] -/
def cmp_isNaN_string_cps (N : Nat) (R : Type) (K : Bool → Option R) (v1 : (List UInt8)) : Option R :=
  (K (!(decide (v1 = v1))))

def cmp_isNaN_string (N : Nat) (v1 : (List UInt8)) : Option (Bool × Unit) := cmp_isNaN_string_cps N _ (fun a0 => some (a0, ())) v1

/-! cmp.Compare[string] -/
def cmp_Compare_string_cps (N : Nat) (R : Type) (K : Int → Option R) (v1 : (List UInt8)) (v2 : (List UInt8)) : Option R :=
  (Option.bind (cmp_isNaN_string N v1) fun (v3 : Bool × Unit) =>
  (Option.bind (cmp_isNaN_string N v2) fun (v4 : Bool × Unit) =>
  (bif v3.1 then
  (bif v4.1 then
  (K 0)
  else
  (K (-1)))
  else
  (bif v4.1 then
  (K 1)
  else
  (bif (Op.bytesLess v1 v2) then
  (K (-1))
  else
  (bif (Op.bytesLess v2 v1) then
  (K 1)
  else
  (K 0)))))))

def cmp_Compare_string (N : Nat) (v1 : (List UInt8)) (v2 : (List UInt8)) : Option (Int × Unit) := cmp_Compare_string_cps N _ (fun a0 => some (a0, ())) v1 v2

/-! cmp.Or[int] -/
def cmp_Or_int_l0B (N : Nat) (R : Type) (rec : Int → (List Int) → Int → Int → Option R) (k0 : Int → Option R) (k1 : Int → Int → Option R) (v5 : Int) (v6 : (List Int)) (v7 : Int) (v8 : Int) : Option R :=
  (bif (decide (v8 < v7)) then
  (Option.bind (nth v6 v8) fun (v9 : Int) =>
  (bif (!(decide (v9 = v5))) then
  (k1 v9 v5)
  else
  (rec v5 v6 v7 (IntKind.wrap .i64 (v8 + 1)))))
  else
  (k0 v5))

def cmp_Or_int_l0 (N : Nat) (R : Type) (k0 : Int → Option R) (k1 : Int → Int → Option R) : Nat → Int → (List Int) → Int → Int → Option R
  | 0 => fun _ _ _ _ => none
  | n + 1 => cmp_Or_int_l0B N R (cmp_Or_int_l0 N R k0 k1 n) k0 k1

def cmp_Or_int_cps (N : Nat) (R : Type) (K : Int → Option R) (v1 : (List Int)) : Option R :=
  (cmp_Or_int_l0 N _ (fun (v2 : Int) =>
  (K v2)) (fun (v3 : Int) (v4 : Int) =>
  (K v3)) N 0 v1 (v1.length : Int) 0)

def cmp_Or_int (N : Nat) (v1 : (List Int)) : Option (Int × Unit) := cmp_Or_int_cps N _ (fun a0 => some (a0, ())) v1

/-! frankpledge/value.Order -/
def value_Order_cps (N : Nat) (R : Type) (K : Int → Option R) (v1 : Int) (v2 : Int) (v3 : (List UInt8)) (v4 : Int) (v5 : Int) (v6 : (List UInt8)) : Option R :=
  (Option.bind (cmp_Compare_api_Kind N v1 v4) fun (v7 : Int × Unit) =>
  (Option.bind (cmp_Compare_int64 N v2 v5) fun (v8 : Int × Unit) =>
  (Option.bind (cmp_Compare_string N v3 v6) fun (v9 : Int × Unit) =>
  (Option.bind (cmp_Or_int N ([v7.1, v8.1, v9.1] : (List Int))) fun (v10 : Int × Unit) =>
  (K v10.1)))))

def value_Order (N : Nat) (v1 : Int) (v2 : Int) (v3 : (List UInt8)) (v4 : Int) (v5 : Int) (v6 : (List UInt8)) : Option (Int × Unit) := value_Order_cps N _ (fun a0 => some (a0, ())) v1 v2 v3 v4 v5 v6

/-! frankpledge/frankpledgelaw02.ValueKinds -/
def law02_ValueKinds_j0 (N : Nat) (R : Type) (k0 : Bool → Int → Int → (List UInt8) → Int → Int → (List UInt8) → Option R) (v21 : Int) (v22 : Int) (v23 : (List UInt8)) (v24 : Int) (v25 : Int) (v26 : (List UInt8)) : Option R :=
  (Option.bind (value_Order N v21 v22 v23 v24 v25 v26) fun (v27 : Int × Unit) =>
  (Option.bind (law02_alive N) fun (v28 : Bool × Unit) =>
  (bif v28.1 then
  (bif ((decide (v27.1 < 0)) == (decide (v21 < v24))) then
  (bif (!(decide (v27.1 = 0))) then
  (Option.bind (value_Text N v21 v22 v23) fun (v29 : (List UInt8) × Unit) =>
  (Option.bind (value_Text N v24 v25 v26) fun (v30 : (List UInt8) × Unit) =>
  (bif (!(decide (v29.1 = v30.1))) then
  (bif (!(decide (v21 = 0))) then
  (k0 true v21 v22 v23 v24 v25 v26)
  else
  (k0 (decide (v27.1 < 0)) v21 v22 v23 v24 v25 v26))
  else
  (k0 false v21 v22 v23 v24 v25 v26))))
  else
  (k0 false v21 v22 v23 v24 v25 v26))
  else
  (k0 false v21 v22 v23 v24 v25 v26))
  else
  (k0 false v21 v22 v23 v24 v25 v26))))

def law02_ValueKinds_cps (N : Nat) (R : Type) (K : Bool → Option R) (v1 : Int) (v2 : Int) (v3 : (List UInt8)) (v4 : Int) (v5 : Int) (v6 : (List UInt8)) : Option R :=
  (bif (decide (500 < (v3.length : Int))) then
  (Option.bind (law02_alive N) fun (v7 : Bool × Unit) =>
  (K v7.1))
  else
  (bif (decide (500 < (v6.length : Int))) then
  (Option.bind (law02_alive N) fun (v8 : Bool × Unit) =>
  (K v8.1))
  else
  (Option.bind (value_Right N v1 v2 v3) fun (v9 : Bool × Unit) =>
  (bif (!v9.1) then
  (Option.bind (law02_alive N) fun (v10 : Bool × Unit) =>
  (K v10.1))
  else
  (Option.bind (value_Right N v4 v5 v6) fun (v11 : Bool × Unit) =>
  (bif (!v11.1) then
  (Option.bind (law02_alive N) fun (v12 : Bool × Unit) =>
  (K v12.1))
  else
  (bif (decide (v1 = v4)) then
  (Option.bind (law02_alive N) fun (v13 : Bool × Unit) =>
  (K v13.1))
  else
  (law02_ValueKinds_j0 N _ (fun (v14 : Bool) (v15 : Int) (v16 : Int) (v17 : (List UInt8)) (v18 : Int) (v19 : Int) (v20 : (List UInt8)) =>
  (K v14)) v1 v2 v3 v4 v5 v6))))))))

def law02_ValueKinds (N : Nat) (v1 : Int) (v2 : Int) (v3 : (List UInt8)) (v4 : Int) (v5 : Int) (v6 : (List UInt8)) : Option (Bool × Unit) := law02_ValueKinds_cps N _ (fun a0 => some (a0, ())) v1 v2 v3 v4 v5 v6

/-! frankpledge/value.truth -/
def value_truth_cps (N : Nat) (R : Type) (K : Bool → Option R) (v1 : Int) (v2 : Int) (v3 : (List UInt8)) : Option R :=
  (Option.bind (value_Right N v1 v2 v3) fun (v4 : Bool × Unit) =>
  (bif v4.1 then
  (K (decide (v1 ≤ 1)))
  else
  (K false)))

def value_truth (N : Nat) (v1 : Int) (v2 : Int) (v3 : (List UInt8)) : Option (Bool × Unit) := value_truth_cps N _ (fun a0 => some (a0, ())) v1 v2 v3

/-! frankpledge/value.both -/
def value_both_cps (N : Nat) (R : Type) (K : Err → Option R) (v1 : Int) (v2 : Int) (v3 : (List UInt8)) (v4 : Int) (v5 : Int) (v6 : (List UInt8)) : Option R :=
  (Option.bind (value_truth N v1 v2 v3) fun (v7 : Bool × Unit) =>
  (bif (!v7.1) then
  (Option.bind (fault_New N 22 0) fun (v8 : Err × Unit) =>
  (K v8.1))
  else
  (Option.bind (value_truth N v4 v5 v6) fun (v9 : Bool × Unit) =>
  (bif (!v9.1) then
  (Option.bind (fault_New N 22 1) fun (v10 : Err × Unit) =>
  (K v10.1))
  else
  (K Err.nil)))))

def value_both (N : Nat) (v1 : Int) (v2 : Int) (v3 : (List UInt8)) (v4 : Int) (v5 : Int) (v6 : (List UInt8)) : Option (Err × Unit) := value_both_cps N _ (fun a0 => some (a0, ())) v1 v2 v3 v4 v5 v6

/-! frankpledge/value.decided -/
def value_decided_cps (N : Nat) (R : Type) (K : Int → Int → (List UInt8) → Option R) (v1 : Int) (v2 : Int) (v3 : (List UInt8)) (v4 : Int) (v5 : Int) (v6 : (List UInt8)) (v7 : Int) (v8 : Int) (v9 : (List UInt8)) : Option R :=
  (bif ((decide (v1 = v7)) && ((decide (v2 = v8)) && (decide (v3 = v9)))) then
  (K v7 v8 v9)
  else
  (bif ((decide (v4 = v7)) && ((decide (v5 = v8)) && (decide (v6 = v9)))) then
  (K v7 v8 v9)
  else
  (bif (decide (v1 = 0)) then
  (K v1 v2 v3)
  else
  (K v4 v5 v6))))

def value_decided (N : Nat) (v1 : Int) (v2 : Int) (v3 : (List UInt8)) (v4 : Int) (v5 : Int) (v6 : (List UInt8)) (v7 : Int) (v8 : Int) (v9 : (List UInt8)) : Option (Int × Int × (List UInt8) × Unit) := value_decided_cps N _ (fun a0 a1 a2 => some (a0, (a1, (a2, ())))) v1 v2 v3 v4 v5 v6 v7 v8 v9

/-! frankpledge/value.And -/
def value_And_cps (N : Nat) (R : Type) (K : Int → Int → (List UInt8) → Err → Option R) (v1 : Int) (v2 : Int) (v3 : (List UInt8)) (v4 : Int) (v5 : Int) (v6 : (List UInt8)) : Option R :=
  (Option.bind (value_both N v1 v2 v3 v4 v5 v6) fun (v7 : Err × Unit) =>
  (bif (!(Err.isNil v7.1)) then
  (K 0 0 [] v7.1)
  else
  (Option.bind (value_decided N v1 v2 v3 v4 v5 v6 1 0 []) fun (v8 : Int × Int × (List UInt8) × Unit) =>
  (K v8.1 v8.2.1 v8.2.2.1 Err.nil))))

def value_And (N : Nat) (v1 : Int) (v2 : Int) (v3 : (List UInt8)) (v4 : Int) (v5 : Int) (v6 : (List UInt8)) : Option (Int × Int × (List UInt8) × Err × Unit) := value_And_cps N _ (fun a0 a1 a2 a3 => some (a0, (a1, (a2, (a3, ()))))) v1 v2 v3 v4 v5 v6

/-! frankpledge/value.Not -/
def value_Not_cps (N : Nat) (R : Type) (K : Int → Int → (List UInt8) → Err → Option R) (v1 : Int) (v2 : Int) (v3 : (List UInt8)) : Option R :=
  (Option.bind (value_both N v1 v2 v3 v1 v2 v3) fun (v4 : Err × Unit) =>
  (bif (!(Err.isNil v4.1)) then
  (K 0 0 [] v4.1)
  else
  (bif (decide (v1 = 1)) then
  (K v1 (IntKind.wrap .i64 (1 - v2)) v3 Err.nil)
  else
  (K v1 v2 v3 Err.nil))))

def value_Not (N : Nat) (v1 : Int) (v2 : Int) (v3 : (List UInt8)) : Option (Int × Int × (List UInt8) × Err × Unit) := value_Not_cps N _ (fun a0 a1 a2 a3 => some (a0, (a1, (a2, (a3, ()))))) v1 v2 v3

/-! frankpledge/value.Or -/
def value_Or_cps (N : Nat) (R : Type) (K : Int → Int → (List UInt8) → Err → Option R) (v1 : Int) (v2 : Int) (v3 : (List UInt8)) (v4 : Int) (v5 : Int) (v6 : (List UInt8)) : Option R :=
  (Option.bind (value_both N v1 v2 v3 v4 v5 v6) fun (v7 : Err × Unit) =>
  (bif (!(Err.isNil v7.1)) then
  (K 0 0 [] v7.1)
  else
  (Option.bind (value_decided N v1 v2 v3 v4 v5 v6 1 1 []) fun (v8 : Int × Int × (List UInt8) × Unit) =>
  (K v8.1 v8.2.1 v8.2.2.1 Err.nil))))

def value_Or (N : Nat) (v1 : Int) (v2 : Int) (v3 : (List UInt8)) (v4 : Int) (v5 : Int) (v6 : (List UInt8)) : Option (Int × Int × (List UInt8) × Err × Unit) := value_Or_cps N _ (fun a0 a1 a2 a3 => some (a0, (a1, (a2, (a3, ()))))) v1 v2 v3 v4 v5 v6

/-! frankpledge/frankpledgelaw02.ValueNots -/
def law02_ValueNots_j2 (N : Nat) (R : Type) (k0 : Bool → Int → Int → Int → Int → Int → (List UInt8) → Int → Int → (List UInt8) → Int → Int → (List UInt8) → Int → Int → (List UInt8) → Int → Int → (List UInt8) → Int → Int → (List UInt8) → Int → Int → (List UInt8) → Int → Int → (List UInt8) → Int → Int → (List UInt8) → Int → Int → (List UInt8) → Int → Int → (List UInt8) → Int → Int → (List UInt8) → Option R) (v559 : Bool) (v560 : Bool) (v561 : Int) (v562 : Int) (v563 : Int) (v564 : Int) (v565 : Int) (v566 : (List UInt8)) (v567 : Int) (v568 : Int) (v569 : (List UInt8)) (v570 : Int) (v571 : Int) (v572 : (List UInt8)) (v573 : Int) (v574 : Int) (v575 : (List UInt8)) (v576 : Int) (v577 : Int) (v578 : (List UInt8)) (v579 : Int) (v580 : Int) (v581 : (List UInt8)) (v582 : Int) (v583 : Int) (v584 : (List UInt8)) (v585 : Int) (v586 : Int) (v587 : (List UInt8)) (v588 : Int) (v589 : Int) (v590 : (List UInt8)) (v591 : Int) (v592 : Int) (v593 : (List UInt8)) (v594 : Int) (v595 : Int) (v596 : (List UInt8)) (v597 : Int) (v598 : Int) (v599 : (List UInt8)) : Option R :=
  (Option.bind (law02_alive N) fun (v600 : Bool × Unit) =>
  (bif v600.1 then
  (bif v559 then
  (bif ((decide (v573 = v576)) && ((decide (v574 = v577)) && (decide (v575 = v578)))) then
  (bif ((decide (v579 = v582)) && ((decide (v580 = v583)) && (decide (v581 = v584)))) then
  (bif ((decide (v585 = v594)) && ((decide (v586 = v595)) && (decide (v587 = v596)))) then
  (bif ((decide (v597 = v564)) && ((decide (v598 = v565)) && (decide (v599 = v566)))) then
  (bif (!v560) then
  (k0 true v561 v562 v563 v564 v565 v566 v567 v568 v569 v570 v571 v572 v573 v574 v575 v576 v577 v578 v579 v580 v581 v582 v583 v584 v585 v586 v587 v588 v589 v590 v591 v592 v593 v594 v595 v596 v597 v598 v599)
  else
  (k0 (decide (v573 = 1)) v561 v562 v563 v564 v565 v566 v567 v568 v569 v570 v571 v572 v573 v574 v575 v576 v577 v578 v579 v580 v581 v582 v583 v584 v585 v586 v587 v588 v589 v590 v591 v592 v593 v594 v595 v596 v597 v598 v599))
  else
  (k0 false v561 v562 v563 v564 v565 v566 v567 v568 v569 v570 v571 v572 v573 v574 v575 v576 v577 v578 v579 v580 v581 v582 v583 v584 v585 v586 v587 v588 v589 v590 v591 v592 v593 v594 v595 v596 v597 v598 v599))
  else
  (k0 false v561 v562 v563 v564 v565 v566 v567 v568 v569 v570 v571 v572 v573 v574 v575 v576 v577 v578 v579 v580 v581 v582 v583 v584 v585 v586 v587 v588 v589 v590 v591 v592 v593 v594 v595 v596 v597 v598 v599))
  else
  (k0 false v561 v562 v563 v564 v565 v566 v567 v568 v569 v570 v571 v572 v573 v574 v575 v576 v577 v578 v579 v580 v581 v582 v583 v584 v585 v586 v587 v588 v589 v590 v591 v592 v593 v594 v595 v596 v597 v598 v599))
  else
  (k0 false v561 v562 v563 v564 v565 v566 v567 v568 v569 v570 v571 v572 v573 v574 v575 v576 v577 v578 v579 v580 v581 v582 v583 v584 v585 v586 v587 v588 v589 v590 v591 v592 v593 v594 v595 v596 v597 v598 v599))
  else
  (k0 false v561 v562 v563 v564 v565 v566 v567 v568 v569 v570 v571 v572 v573 v574 v575 v576 v577 v578 v579 v580 v581 v582 v583 v584 v585 v586 v587 v588 v589 v590 v591 v592 v593 v594 v595 v596 v597 v598 v599))
  else
  (k0 false v561 v562 v563 v564 v565 v566 v567 v568 v569 v570 v571 v572 v573 v574 v575 v576 v577 v578 v579 v580 v581 v582 v583 v584 v585 v586 v587 v588 v589 v590 v591 v592 v593 v594 v595 v596 v597 v598 v599)))

def law02_ValueNots_j1 (N : Nat) (R : Type) (k0 : Bool → Int → Int → Int → Int → Int → (List UInt8) → Int → Int → (List UInt8) → Int → Int → (List UInt8) → Int → Int → (List UInt8) → Int → Int → (List UInt8) → Int → Int → (List UInt8) → Int → Int → (List UInt8) → Int → Int → (List UInt8) → Int → Int → (List UInt8) → Int → Int → (List UInt8) → Int → Int → (List UInt8) → Int → Int → (List UInt8) → Option R) (v439 : Bool) (v440 : Int) (v441 : Int) (v442 : Int) (v443 : Int) (v444 : Int) (v445 : (List UInt8)) (v446 : Int) (v447 : Int) (v448 : (List UInt8)) (v449 : Int) (v450 : Int) (v451 : (List UInt8)) (v452 : Int) (v453 : Int) (v454 : (List UInt8)) (v455 : Int) (v456 : Int) (v457 : (List UInt8)) (v458 : Int) (v459 : Int) (v460 : (List UInt8)) (v461 : Int) (v462 : Int) (v463 : (List UInt8)) (v464 : Int) (v465 : Int) (v466 : (List UInt8)) (v467 : Int) (v468 : Int) (v469 : (List UInt8)) (v470 : Int) (v471 : Int) (v472 : (List UInt8)) (v473 : Int) (v474 : Int) (v475 : (List UInt8)) (v476 : Int) (v477 : Int) (v478 : (List UInt8)) : Option R :=
  (bif (decide (v443 = 1)) then
  (law02_ValueNots_j2 N _ (fun (v479 : Bool) (v480 : Int) (v481 : Int) (v482 : Int) (v483 : Int) (v484 : Int) (v485 : (List UInt8)) (v486 : Int) (v487 : Int) (v488 : (List UInt8)) (v489 : Int) (v490 : Int) (v491 : (List UInt8)) (v492 : Int) (v493 : Int) (v494 : (List UInt8)) (v495 : Int) (v496 : Int) (v497 : (List UInt8)) (v498 : Int) (v499 : Int) (v500 : (List UInt8)) (v501 : Int) (v502 : Int) (v503 : (List UInt8)) (v504 : Int) (v505 : Int) (v506 : (List UInt8)) (v507 : Int) (v508 : Int) (v509 : (List UInt8)) (v510 : Int) (v511 : Int) (v512 : (List UInt8)) (v513 : Int) (v514 : Int) (v515 : (List UInt8)) (v516 : Int) (v517 : Int) (v518 : (List UInt8)) =>
  (k0 v479 v480 v481 v482 v483 v484 v485 v486 v487 v488 v489 v490 v491 v492 v493 v494 v495 v496 v497 v498 v499 v500 v501 v502 v503 v504 v505 v506 v507 v508 v509 v510 v511 v512 v513 v514 v515 v516 v517 v518)) v439 (decide (v446 = 1)) v440 v441 v442 v443 v444 v445 v446 v447 v448 v449 v450 v451 v452 v453 v454 v455 v456 v457 v458 v459 v460 v461 v462 v463 v464 v465 v466 v467 v468 v469 v470 v471 v472 v473 v474 v475 v476 v477 v478)
  else
  (law02_ValueNots_j2 N _ (fun (v519 : Bool) (v520 : Int) (v521 : Int) (v522 : Int) (v523 : Int) (v524 : Int) (v525 : (List UInt8)) (v526 : Int) (v527 : Int) (v528 : (List UInt8)) (v529 : Int) (v530 : Int) (v531 : (List UInt8)) (v532 : Int) (v533 : Int) (v534 : (List UInt8)) (v535 : Int) (v536 : Int) (v537 : (List UInt8)) (v538 : Int) (v539 : Int) (v540 : (List UInt8)) (v541 : Int) (v542 : Int) (v543 : (List UInt8)) (v544 : Int) (v545 : Int) (v546 : (List UInt8)) (v547 : Int) (v548 : Int) (v549 : (List UInt8)) (v550 : Int) (v551 : Int) (v552 : (List UInt8)) (v553 : Int) (v554 : Int) (v555 : (List UInt8)) (v556 : Int) (v557 : Int) (v558 : (List UInt8)) =>
  (k0 v519 v520 v521 v522 v523 v524 v525 v526 v527 v528 v529 v530 v531 v532 v533 v534 v535 v536 v537 v538 v539 v540 v541 v542 v543 v544 v545 v546 v547 v548 v549 v550 v551 v552 v553 v554 v555 v556 v557 v558)) v439 false v440 v441 v442 v443 v444 v445 v446 v447 v448 v449 v450 v451 v452 v453 v454 v455 v456 v457 v458 v459 v460 v461 v462 v463 v464 v465 v466 v467 v468 v469 v470 v471 v472 v473 v474 v475 v476 v477 v478))

def law02_ValueNots_l0B (N : Nat) (R : Type) (rec : Int → Int → Int → Int → Int → Int → (List UInt8) → Int → Int → (List UInt8) → Int → Int → (List UInt8) → Option R) (k0 : Int → Int → Int → Int → Int → (List UInt8) → Int → Int → (List UInt8) → Int → Int → (List UInt8) → Option R) (v426 : Int) (v427 : Int) (v428 : Int) (v429 : Int) (v430 : Int) (v431 : Int) (v432 : (List UInt8)) (v433 : Int) (v434 : Int) (v435 : (List UInt8)) (v436 : Int) (v437 : Int) (v438 : (List UInt8)) : Option R :=
  (bif (decide (v426 < 3)) then
  (bif (decide (v426 = (0 : Int))) then
  (bif (decide (0 ≤ v427)) then
  (bif (decide (v426 = (0 : Int))) then
  (bif (decide (v426 = (0 : Int))) then
  (rec (IntKind.wrap .i64 (v426 + 1)) v427 v428 v429 1 (Int.tmod v427 2) [] v433 v434 v435 v436 v437 v438)
  else
  (bif (decide (v426 = (1 : Int))) then
  (rec (IntKind.wrap .i64 (v426 + 1)) v427 v428 v429 v430 v431 v432 1 (Int.tmod v427 2) [] v436 v437 v438)
  else
  (bif (decide (v426 = (2 : Int))) then
  (rec (IntKind.wrap .i64 (v426 + 1)) v427 v428 v429 v430 v431 v432 v433 v434 v435 1 (Int.tmod v427 2) [])
  else
  none)))
  else
  (bif (decide (v426 = (1 : Int))) then
  (bif (decide (v426 = (0 : Int))) then
  (rec (IntKind.wrap .i64 (v426 + 1)) v427 v428 v429 1 (Int.tmod v428 2) [] v433 v434 v435 v436 v437 v438)
  else
  (bif (decide (v426 = (1 : Int))) then
  (rec (IntKind.wrap .i64 (v426 + 1)) v427 v428 v429 v430 v431 v432 1 (Int.tmod v428 2) [] v436 v437 v438)
  else
  (bif (decide (v426 = (2 : Int))) then
  (rec (IntKind.wrap .i64 (v426 + 1)) v427 v428 v429 v430 v431 v432 v433 v434 v435 1 (Int.tmod v428 2) [])
  else
  none)))
  else
  (bif (decide (v426 = (2 : Int))) then
  (bif (decide (v426 = (0 : Int))) then
  (rec (IntKind.wrap .i64 (v426 + 1)) v427 v428 v429 1 (Int.tmod v429 2) [] v433 v434 v435 v436 v437 v438)
  else
  (bif (decide (v426 = (1 : Int))) then
  (rec (IntKind.wrap .i64 (v426 + 1)) v427 v428 v429 v430 v431 v432 1 (Int.tmod v429 2) [] v436 v437 v438)
  else
  (bif (decide (v426 = (2 : Int))) then
  (rec (IntKind.wrap .i64 (v426 + 1)) v427 v428 v429 v430 v431 v432 v433 v434 v435 1 (Int.tmod v429 2) [])
  else
  none)))
  else
  none)))
  else
  (rec (IntKind.wrap .i64 (v426 + 1)) v427 v428 v429 v430 v431 v432 v433 v434 v435 v436 v437 v438))
  else
  (bif (decide (v426 = (1 : Int))) then
  (bif (decide (0 ≤ v428)) then
  (bif (decide (v426 = (0 : Int))) then
  (bif (decide (v426 = (0 : Int))) then
  (rec (IntKind.wrap .i64 (v426 + 1)) v427 v428 v429 1 (Int.tmod v427 2) [] v433 v434 v435 v436 v437 v438)
  else
  (bif (decide (v426 = (1 : Int))) then
  (rec (IntKind.wrap .i64 (v426 + 1)) v427 v428 v429 v430 v431 v432 1 (Int.tmod v427 2) [] v436 v437 v438)
  else
  (bif (decide (v426 = (2 : Int))) then
  (rec (IntKind.wrap .i64 (v426 + 1)) v427 v428 v429 v430 v431 v432 v433 v434 v435 1 (Int.tmod v427 2) [])
  else
  none)))
  else
  (bif (decide (v426 = (1 : Int))) then
  (bif (decide (v426 = (0 : Int))) then
  (rec (IntKind.wrap .i64 (v426 + 1)) v427 v428 v429 1 (Int.tmod v428 2) [] v433 v434 v435 v436 v437 v438)
  else
  (bif (decide (v426 = (1 : Int))) then
  (rec (IntKind.wrap .i64 (v426 + 1)) v427 v428 v429 v430 v431 v432 1 (Int.tmod v428 2) [] v436 v437 v438)
  else
  (bif (decide (v426 = (2 : Int))) then
  (rec (IntKind.wrap .i64 (v426 + 1)) v427 v428 v429 v430 v431 v432 v433 v434 v435 1 (Int.tmod v428 2) [])
  else
  none)))
  else
  (bif (decide (v426 = (2 : Int))) then
  (bif (decide (v426 = (0 : Int))) then
  (rec (IntKind.wrap .i64 (v426 + 1)) v427 v428 v429 1 (Int.tmod v429 2) [] v433 v434 v435 v436 v437 v438)
  else
  (bif (decide (v426 = (1 : Int))) then
  (rec (IntKind.wrap .i64 (v426 + 1)) v427 v428 v429 v430 v431 v432 1 (Int.tmod v429 2) [] v436 v437 v438)
  else
  (bif (decide (v426 = (2 : Int))) then
  (rec (IntKind.wrap .i64 (v426 + 1)) v427 v428 v429 v430 v431 v432 v433 v434 v435 1 (Int.tmod v429 2) [])
  else
  none)))
  else
  none)))
  else
  (rec (IntKind.wrap .i64 (v426 + 1)) v427 v428 v429 v430 v431 v432 v433 v434 v435 v436 v437 v438))
  else
  (bif (decide (v426 = (2 : Int))) then
  (bif (decide (0 ≤ v429)) then
  (bif (decide (v426 = (0 : Int))) then
  (bif (decide (v426 = (0 : Int))) then
  (rec (IntKind.wrap .i64 (v426 + 1)) v427 v428 v429 1 (Int.tmod v427 2) [] v433 v434 v435 v436 v437 v438)
  else
  (bif (decide (v426 = (1 : Int))) then
  (rec (IntKind.wrap .i64 (v426 + 1)) v427 v428 v429 v430 v431 v432 1 (Int.tmod v427 2) [] v436 v437 v438)
  else
  (bif (decide (v426 = (2 : Int))) then
  (rec (IntKind.wrap .i64 (v426 + 1)) v427 v428 v429 v430 v431 v432 v433 v434 v435 1 (Int.tmod v427 2) [])
  else
  none)))
  else
  (bif (decide (v426 = (1 : Int))) then
  (bif (decide (v426 = (0 : Int))) then
  (rec (IntKind.wrap .i64 (v426 + 1)) v427 v428 v429 1 (Int.tmod v428 2) [] v433 v434 v435 v436 v437 v438)
  else
  (bif (decide (v426 = (1 : Int))) then
  (rec (IntKind.wrap .i64 (v426 + 1)) v427 v428 v429 v430 v431 v432 1 (Int.tmod v428 2) [] v436 v437 v438)
  else
  (bif (decide (v426 = (2 : Int))) then
  (rec (IntKind.wrap .i64 (v426 + 1)) v427 v428 v429 v430 v431 v432 v433 v434 v435 1 (Int.tmod v428 2) [])
  else
  none)))
  else
  (bif (decide (v426 = (2 : Int))) then
  (bif (decide (v426 = (0 : Int))) then
  (rec (IntKind.wrap .i64 (v426 + 1)) v427 v428 v429 1 (Int.tmod v429 2) [] v433 v434 v435 v436 v437 v438)
  else
  (bif (decide (v426 = (1 : Int))) then
  (rec (IntKind.wrap .i64 (v426 + 1)) v427 v428 v429 v430 v431 v432 1 (Int.tmod v429 2) [] v436 v437 v438)
  else
  (bif (decide (v426 = (2 : Int))) then
  (rec (IntKind.wrap .i64 (v426 + 1)) v427 v428 v429 v430 v431 v432 v433 v434 v435 1 (Int.tmod v429 2) [])
  else
  none)))
  else
  none)))
  else
  (rec (IntKind.wrap .i64 (v426 + 1)) v427 v428 v429 v430 v431 v432 v433 v434 v435 v436 v437 v438))
  else
  none)))
  else
  (k0 v427 v428 v429 v430 v431 v432 v433 v434 v435 v436 v437 v438))

def law02_ValueNots_l0 (N : Nat) (R : Type) (k0 : Int → Int → Int → Int → Int → (List UInt8) → Int → Int → (List UInt8) → Int → Int → (List UInt8) → Option R) : Nat → Int → Int → Int → Int → Int → Int → (List UInt8) → Int → Int → (List UInt8) → Int → Int → (List UInt8) → Option R
  | 0 => fun _ _ _ _ _ _ _ _ _ _ _ _ _ => none
  | n + 1 => law02_ValueNots_l0B N R (law02_ValueNots_l0 N R k0 n) k0

def law02_ValueNots_cps (N : Nat) (R : Type) (K : Bool → Option R) (v1 : Int) (v2 : Int) (v3 : Int) : Option R :=
  (law02_ValueNots_l0 N _ (fun (v4 : Int) (v5 : Int) (v6 : Int) (v7 : Int) (v8 : Int) (v9 : (List UInt8)) (v10 : Int) (v11 : Int) (v12 : (List UInt8)) (v13 : Int) (v14 : Int) (v15 : (List UInt8)) =>
  (Option.bind (value_And N v7 v8 v9 v10 v11 v12) fun (v16 : Int × Int × (List UInt8) × Err × Unit) =>
  (Option.bind (value_And N v10 v11 v12 v7 v8 v9) fun (v17 : Int × Int × (List UInt8) × Err × Unit) =>
  (Option.bind (value_And N v16.1 v16.2.1 v16.2.2.1 v13 v14 v15) fun (v18 : Int × Int × (List UInt8) × Err × Unit) =>
  (Option.bind (value_And N v10 v11 v12 v13 v14 v15) fun (v19 : Int × Int × (List UInt8) × Err × Unit) =>
  (Option.bind (value_And N v7 v8 v9 v19.1 v19.2.1 v19.2.2.1) fun (v20 : Int × Int × (List UInt8) × Err × Unit) =>
  (Option.bind (value_Not N v16.1 v16.2.1 v16.2.2.1) fun (v21 : Int × Int × (List UInt8) × Err × Unit) =>
  (Option.bind (value_Not N v7 v8 v9) fun (v22 : Int × Int × (List UInt8) × Err × Unit) =>
  (Option.bind (value_Not N v10 v11 v12) fun (v23 : Int × Int × (List UInt8) × Err × Unit) =>
  (Option.bind (value_Or N v22.1 v22.2.1 v22.2.2.1 v23.1 v23.2.1 v23.2.2.1) fun (v24 : Int × Int × (List UInt8) × Err × Unit) =>
  (Option.bind (value_Not N v22.1 v22.2.1 v22.2.2.1) fun (v25 : Int × Int × (List UInt8) × Err × Unit) =>
  (bif (Err.isNil v16.2.2.2.1) then
  (bif (Err.isNil v17.2.2.2.1) then
  (bif (Err.isNil v18.2.2.2.1) then
  (bif (Err.isNil v19.2.2.2.1) then
  (bif (Err.isNil v20.2.2.2.1) then
  (bif (Err.isNil v21.2.2.2.1) then
  (bif (Err.isNil v22.2.2.2.1) then
  (bif (Err.isNil v23.2.2.2.1) then
  (bif (Err.isNil v24.2.2.2.1) then
  (law02_ValueNots_j1 N _ (fun (v26 : Bool) (v27 : Int) (v28 : Int) (v29 : Int) (v30 : Int) (v31 : Int) (v32 : (List UInt8)) (v33 : Int) (v34 : Int) (v35 : (List UInt8)) (v36 : Int) (v37 : Int) (v38 : (List UInt8)) (v39 : Int) (v40 : Int) (v41 : (List UInt8)) (v42 : Int) (v43 : Int) (v44 : (List UInt8)) (v45 : Int) (v46 : Int) (v47 : (List UInt8)) (v48 : Int) (v49 : Int) (v50 : (List UInt8)) (v51 : Int) (v52 : Int) (v53 : (List UInt8)) (v54 : Int) (v55 : Int) (v56 : (List UInt8)) (v57 : Int) (v58 : Int) (v59 : (List UInt8)) (v60 : Int) (v61 : Int) (v62 : (List UInt8)) (v63 : Int) (v64 : Int) (v65 : (List UInt8)) =>
  (K v26)) (Err.isNil v25.2.2.2.1) v4 v5 v6 v7 v8 v9 v10 v11 v12 v13 v14 v15 v16.1 v16.2.1 v16.2.2.1 v17.1 v17.2.1 v17.2.2.1 v18.1 v18.2.1 v18.2.2.1 v20.1 v20.2.1 v20.2.2.1 v21.1 v21.2.1 v21.2.2.1 v22.1 v22.2.1 v22.2.2.1 v23.1 v23.2.1 v23.2.2.1 v24.1 v24.2.1 v24.2.2.1 v25.1 v25.2.1 v25.2.2.1)
  else
  (law02_ValueNots_j1 N _ (fun (v66 : Bool) (v67 : Int) (v68 : Int) (v69 : Int) (v70 : Int) (v71 : Int) (v72 : (List UInt8)) (v73 : Int) (v74 : Int) (v75 : (List UInt8)) (v76 : Int) (v77 : Int) (v78 : (List UInt8)) (v79 : Int) (v80 : Int) (v81 : (List UInt8)) (v82 : Int) (v83 : Int) (v84 : (List UInt8)) (v85 : Int) (v86 : Int) (v87 : (List UInt8)) (v88 : Int) (v89 : Int) (v90 : (List UInt8)) (v91 : Int) (v92 : Int) (v93 : (List UInt8)) (v94 : Int) (v95 : Int) (v96 : (List UInt8)) (v97 : Int) (v98 : Int) (v99 : (List UInt8)) (v100 : Int) (v101 : Int) (v102 : (List UInt8)) (v103 : Int) (v104 : Int) (v105 : (List UInt8)) =>
  (K v66)) false v4 v5 v6 v7 v8 v9 v10 v11 v12 v13 v14 v15 v16.1 v16.2.1 v16.2.2.1 v17.1 v17.2.1 v17.2.2.1 v18.1 v18.2.1 v18.2.2.1 v20.1 v20.2.1 v20.2.2.1 v21.1 v21.2.1 v21.2.2.1 v22.1 v22.2.1 v22.2.2.1 v23.1 v23.2.1 v23.2.2.1 v24.1 v24.2.1 v24.2.2.1 v25.1 v25.2.1 v25.2.2.1))
  else
  (law02_ValueNots_j1 N _ (fun (v106 : Bool) (v107 : Int) (v108 : Int) (v109 : Int) (v110 : Int) (v111 : Int) (v112 : (List UInt8)) (v113 : Int) (v114 : Int) (v115 : (List UInt8)) (v116 : Int) (v117 : Int) (v118 : (List UInt8)) (v119 : Int) (v120 : Int) (v121 : (List UInt8)) (v122 : Int) (v123 : Int) (v124 : (List UInt8)) (v125 : Int) (v126 : Int) (v127 : (List UInt8)) (v128 : Int) (v129 : Int) (v130 : (List UInt8)) (v131 : Int) (v132 : Int) (v133 : (List UInt8)) (v134 : Int) (v135 : Int) (v136 : (List UInt8)) (v137 : Int) (v138 : Int) (v139 : (List UInt8)) (v140 : Int) (v141 : Int) (v142 : (List UInt8)) (v143 : Int) (v144 : Int) (v145 : (List UInt8)) =>
  (K v106)) false v4 v5 v6 v7 v8 v9 v10 v11 v12 v13 v14 v15 v16.1 v16.2.1 v16.2.2.1 v17.1 v17.2.1 v17.2.2.1 v18.1 v18.2.1 v18.2.2.1 v20.1 v20.2.1 v20.2.2.1 v21.1 v21.2.1 v21.2.2.1 v22.1 v22.2.1 v22.2.2.1 v23.1 v23.2.1 v23.2.2.1 v24.1 v24.2.1 v24.2.2.1 v25.1 v25.2.1 v25.2.2.1))
  else
  (law02_ValueNots_j1 N _ (fun (v146 : Bool) (v147 : Int) (v148 : Int) (v149 : Int) (v150 : Int) (v151 : Int) (v152 : (List UInt8)) (v153 : Int) (v154 : Int) (v155 : (List UInt8)) (v156 : Int) (v157 : Int) (v158 : (List UInt8)) (v159 : Int) (v160 : Int) (v161 : (List UInt8)) (v162 : Int) (v163 : Int) (v164 : (List UInt8)) (v165 : Int) (v166 : Int) (v167 : (List UInt8)) (v168 : Int) (v169 : Int) (v170 : (List UInt8)) (v171 : Int) (v172 : Int) (v173 : (List UInt8)) (v174 : Int) (v175 : Int) (v176 : (List UInt8)) (v177 : Int) (v178 : Int) (v179 : (List UInt8)) (v180 : Int) (v181 : Int) (v182 : (List UInt8)) (v183 : Int) (v184 : Int) (v185 : (List UInt8)) =>
  (K v146)) false v4 v5 v6 v7 v8 v9 v10 v11 v12 v13 v14 v15 v16.1 v16.2.1 v16.2.2.1 v17.1 v17.2.1 v17.2.2.1 v18.1 v18.2.1 v18.2.2.1 v20.1 v20.2.1 v20.2.2.1 v21.1 v21.2.1 v21.2.2.1 v22.1 v22.2.1 v22.2.2.1 v23.1 v23.2.1 v23.2.2.1 v24.1 v24.2.1 v24.2.2.1 v25.1 v25.2.1 v25.2.2.1))
  else
  (law02_ValueNots_j1 N _ (fun (v186 : Bool) (v187 : Int) (v188 : Int) (v189 : Int) (v190 : Int) (v191 : Int) (v192 : (List UInt8)) (v193 : Int) (v194 : Int) (v195 : (List UInt8)) (v196 : Int) (v197 : Int) (v198 : (List UInt8)) (v199 : Int) (v200 : Int) (v201 : (List UInt8)) (v202 : Int) (v203 : Int) (v204 : (List UInt8)) (v205 : Int) (v206 : Int) (v207 : (List UInt8)) (v208 : Int) (v209 : Int) (v210 : (List UInt8)) (v211 : Int) (v212 : Int) (v213 : (List UInt8)) (v214 : Int) (v215 : Int) (v216 : (List UInt8)) (v217 : Int) (v218 : Int) (v219 : (List UInt8)) (v220 : Int) (v221 : Int) (v222 : (List UInt8)) (v223 : Int) (v224 : Int) (v225 : (List UInt8)) =>
  (K v186)) false v4 v5 v6 v7 v8 v9 v10 v11 v12 v13 v14 v15 v16.1 v16.2.1 v16.2.2.1 v17.1 v17.2.1 v17.2.2.1 v18.1 v18.2.1 v18.2.2.1 v20.1 v20.2.1 v20.2.2.1 v21.1 v21.2.1 v21.2.2.1 v22.1 v22.2.1 v22.2.2.1 v23.1 v23.2.1 v23.2.2.1 v24.1 v24.2.1 v24.2.2.1 v25.1 v25.2.1 v25.2.2.1))
  else
  (law02_ValueNots_j1 N _ (fun (v226 : Bool) (v227 : Int) (v228 : Int) (v229 : Int) (v230 : Int) (v231 : Int) (v232 : (List UInt8)) (v233 : Int) (v234 : Int) (v235 : (List UInt8)) (v236 : Int) (v237 : Int) (v238 : (List UInt8)) (v239 : Int) (v240 : Int) (v241 : (List UInt8)) (v242 : Int) (v243 : Int) (v244 : (List UInt8)) (v245 : Int) (v246 : Int) (v247 : (List UInt8)) (v248 : Int) (v249 : Int) (v250 : (List UInt8)) (v251 : Int) (v252 : Int) (v253 : (List UInt8)) (v254 : Int) (v255 : Int) (v256 : (List UInt8)) (v257 : Int) (v258 : Int) (v259 : (List UInt8)) (v260 : Int) (v261 : Int) (v262 : (List UInt8)) (v263 : Int) (v264 : Int) (v265 : (List UInt8)) =>
  (K v226)) false v4 v5 v6 v7 v8 v9 v10 v11 v12 v13 v14 v15 v16.1 v16.2.1 v16.2.2.1 v17.1 v17.2.1 v17.2.2.1 v18.1 v18.2.1 v18.2.2.1 v20.1 v20.2.1 v20.2.2.1 v21.1 v21.2.1 v21.2.2.1 v22.1 v22.2.1 v22.2.2.1 v23.1 v23.2.1 v23.2.2.1 v24.1 v24.2.1 v24.2.2.1 v25.1 v25.2.1 v25.2.2.1))
  else
  (law02_ValueNots_j1 N _ (fun (v266 : Bool) (v267 : Int) (v268 : Int) (v269 : Int) (v270 : Int) (v271 : Int) (v272 : (List UInt8)) (v273 : Int) (v274 : Int) (v275 : (List UInt8)) (v276 : Int) (v277 : Int) (v278 : (List UInt8)) (v279 : Int) (v280 : Int) (v281 : (List UInt8)) (v282 : Int) (v283 : Int) (v284 : (List UInt8)) (v285 : Int) (v286 : Int) (v287 : (List UInt8)) (v288 : Int) (v289 : Int) (v290 : (List UInt8)) (v291 : Int) (v292 : Int) (v293 : (List UInt8)) (v294 : Int) (v295 : Int) (v296 : (List UInt8)) (v297 : Int) (v298 : Int) (v299 : (List UInt8)) (v300 : Int) (v301 : Int) (v302 : (List UInt8)) (v303 : Int) (v304 : Int) (v305 : (List UInt8)) =>
  (K v266)) false v4 v5 v6 v7 v8 v9 v10 v11 v12 v13 v14 v15 v16.1 v16.2.1 v16.2.2.1 v17.1 v17.2.1 v17.2.2.1 v18.1 v18.2.1 v18.2.2.1 v20.1 v20.2.1 v20.2.2.1 v21.1 v21.2.1 v21.2.2.1 v22.1 v22.2.1 v22.2.2.1 v23.1 v23.2.1 v23.2.2.1 v24.1 v24.2.1 v24.2.2.1 v25.1 v25.2.1 v25.2.2.1))
  else
  (law02_ValueNots_j1 N _ (fun (v306 : Bool) (v307 : Int) (v308 : Int) (v309 : Int) (v310 : Int) (v311 : Int) (v312 : (List UInt8)) (v313 : Int) (v314 : Int) (v315 : (List UInt8)) (v316 : Int) (v317 : Int) (v318 : (List UInt8)) (v319 : Int) (v320 : Int) (v321 : (List UInt8)) (v322 : Int) (v323 : Int) (v324 : (List UInt8)) (v325 : Int) (v326 : Int) (v327 : (List UInt8)) (v328 : Int) (v329 : Int) (v330 : (List UInt8)) (v331 : Int) (v332 : Int) (v333 : (List UInt8)) (v334 : Int) (v335 : Int) (v336 : (List UInt8)) (v337 : Int) (v338 : Int) (v339 : (List UInt8)) (v340 : Int) (v341 : Int) (v342 : (List UInt8)) (v343 : Int) (v344 : Int) (v345 : (List UInt8)) =>
  (K v306)) false v4 v5 v6 v7 v8 v9 v10 v11 v12 v13 v14 v15 v16.1 v16.2.1 v16.2.2.1 v17.1 v17.2.1 v17.2.2.1 v18.1 v18.2.1 v18.2.2.1 v20.1 v20.2.1 v20.2.2.1 v21.1 v21.2.1 v21.2.2.1 v22.1 v22.2.1 v22.2.2.1 v23.1 v23.2.1 v23.2.2.1 v24.1 v24.2.1 v24.2.2.1 v25.1 v25.2.1 v25.2.2.1))
  else
  (law02_ValueNots_j1 N _ (fun (v346 : Bool) (v347 : Int) (v348 : Int) (v349 : Int) (v350 : Int) (v351 : Int) (v352 : (List UInt8)) (v353 : Int) (v354 : Int) (v355 : (List UInt8)) (v356 : Int) (v357 : Int) (v358 : (List UInt8)) (v359 : Int) (v360 : Int) (v361 : (List UInt8)) (v362 : Int) (v363 : Int) (v364 : (List UInt8)) (v365 : Int) (v366 : Int) (v367 : (List UInt8)) (v368 : Int) (v369 : Int) (v370 : (List UInt8)) (v371 : Int) (v372 : Int) (v373 : (List UInt8)) (v374 : Int) (v375 : Int) (v376 : (List UInt8)) (v377 : Int) (v378 : Int) (v379 : (List UInt8)) (v380 : Int) (v381 : Int) (v382 : (List UInt8)) (v383 : Int) (v384 : Int) (v385 : (List UInt8)) =>
  (K v346)) false v4 v5 v6 v7 v8 v9 v10 v11 v12 v13 v14 v15 v16.1 v16.2.1 v16.2.2.1 v17.1 v17.2.1 v17.2.2.1 v18.1 v18.2.1 v18.2.2.1 v20.1 v20.2.1 v20.2.2.1 v21.1 v21.2.1 v21.2.2.1 v22.1 v22.2.1 v22.2.2.1 v23.1 v23.2.1 v23.2.2.1 v24.1 v24.2.1 v24.2.2.1 v25.1 v25.2.1 v25.2.2.1))
  else
  (law02_ValueNots_j1 N _ (fun (v386 : Bool) (v387 : Int) (v388 : Int) (v389 : Int) (v390 : Int) (v391 : Int) (v392 : (List UInt8)) (v393 : Int) (v394 : Int) (v395 : (List UInt8)) (v396 : Int) (v397 : Int) (v398 : (List UInt8)) (v399 : Int) (v400 : Int) (v401 : (List UInt8)) (v402 : Int) (v403 : Int) (v404 : (List UInt8)) (v405 : Int) (v406 : Int) (v407 : (List UInt8)) (v408 : Int) (v409 : Int) (v410 : (List UInt8)) (v411 : Int) (v412 : Int) (v413 : (List UInt8)) (v414 : Int) (v415 : Int) (v416 : (List UInt8)) (v417 : Int) (v418 : Int) (v419 : (List UInt8)) (v420 : Int) (v421 : Int) (v422 : (List UInt8)) (v423 : Int) (v424 : Int) (v425 : (List UInt8)) =>
  (K v386)) false v4 v5 v6 v7 v8 v9 v10 v11 v12 v13 v14 v15 v16.1 v16.2.1 v16.2.2.1 v17.1 v17.2.1 v17.2.2.1 v18.1 v18.2.1 v18.2.2.1 v20.1 v20.2.1 v20.2.2.1 v21.1 v21.2.1 v21.2.2.1 v22.1 v22.2.1 v22.2.2.1 v23.1 v23.2.1 v23.2.2.1 v24.1 v24.2.1 v24.2.2.1 v25.1 v25.2.1 v25.2.2.1))))))))))))) N 0 v1 v2 v3 0 0 [] 0 0 [] 0 0 [])

def law02_ValueNots (N : Nat) (v1 : Int) (v2 : Int) (v3 : Int) : Option (Bool × Unit) := law02_ValueNots_cps N _ (fun a0 => some (a0, ())) v1 v2 v3

/-! frankpledge/frankpledgelaw02.small -/
def law02_small_cps (N : Nat) (R : Type) (K : Bool → Option R) (v1 : Int) (v2 : Int) (v3 : (List UInt8)) : Option R :=
  (K (decide ((v3.length : Int) ≤ 500)))

def law02_small (N : Nat) (v1 : Int) (v2 : Int) (v3 : (List UInt8)) : Option (Bool × Unit) := law02_small_cps N _ (fun a0 => some (a0, ())) v1 v2 v3

/-! frankpledge/frankpledgeref02.Right -/
def ref02_Right_j0 (N : Nat) (R : Type) (k0 : Int → Int → (List UInt8) → Option R) (k1 : Bool → Int → Int → (List UInt8) → Option R) (v18 : Int) (v19 : Bool) (v20 : Int) (v21 : Int) (v22 : (List UInt8)) : Option R :=
  (bif v19 then
  (k1 (decide (v22 = [])) v20 v21 v22)
  else
  (bif (decide (v18 = 4)) then
  (bif (decide (v21 = 0)) then
  (k1 (decide ((v22.length : Int) ≤ 200)) v20 v21 v22)
  else
  (k1 false v20 v21 v22))
  else
  (bif (decide (v18 = 5)) then
  (bif (decide (v21 = 0)) then
  (k1 (decide ((v22.length : Int) ≤ 200)) v20 v21 v22)
  else
  (k1 false v20 v21 v22))
  else
  (k0 v20 v21 v22))))

def ref02_Right_cps (N : Nat) (R : Type) (K : Bool → Option R) (v1 : Int) (v2 : Int) (v3 : (List UInt8)) : Option R :=
  (bif (decide (v1 = 0)) then
  (bif (decide (v2 = 0)) then
  (K (decide (v3 = [])))
  else
  (K false))
  else
  (bif (decide (v1 = 1)) then
  (bif (decide (v2 = 0)) then
  (K (decide (v3 = [])))
  else
  (bif (decide (v2 = 1)) then
  (K (decide (v3 = [])))
  else
  (K false)))
  else
  (bif (decide (v1 = 2)) then
  (ref02_Right_j0 N _ (fun (v4 : Int) (v5 : Int) (v6 : (List UInt8)) =>
  (K false)) (fun (v7 : Bool) (v8 : Int) (v9 : Int) (v10 : (List UInt8)) =>
  (K v7)) v1 true v1 v2 v3)
  else
  (ref02_Right_j0 N _ (fun (v11 : Int) (v12 : Int) (v13 : (List UInt8)) =>
  (K false)) (fun (v14 : Bool) (v15 : Int) (v16 : Int) (v17 : (List UInt8)) =>
  (K v14)) v1 (decide (v1 = 3)) v1 v2 v3))))

def ref02_Right (N : Nat) (v1 : Int) (v2 : Int) (v3 : (List UInt8)) : Option (Bool × Unit) := ref02_Right_cps N _ (fun a0 => some (a0, ())) v1 v2 v3

/-! frankpledge/frankpledgeref02.Order -/
def ref02_Order_cps (N : Nat) (R : Type) (K : Int → Option R) (v1 : Int) (v2 : Int) (v3 : (List UInt8)) (v4 : Int) (v5 : Int) (v6 : (List UInt8)) : Option R :=
  (bif (decide (v1 < v4)) then
  (K (-1))
  else
  (bif (decide (v4 < v1)) then
  (K 1)
  else
  (bif (decide (v2 < v5)) then
  (K (-1))
  else
  (bif (decide (v5 < v2)) then
  (K 1)
  else
  (bif (Op.bytesLess v3 v6) then
  (K (-1))
  else
  (bif (Op.bytesLess v6 v3) then
  (K 1)
  else
  (K 0)))))))

def ref02_Order (N : Nat) (v1 : Int) (v2 : Int) (v3 : (List UInt8)) (v4 : Int) (v5 : Int) (v6 : (List UInt8)) : Option (Int × Unit) := ref02_Order_cps N _ (fun a0 => some (a0, ())) v1 v2 v3 v4 v5 v6

/-! slices.CompareFunc[[]frankpledge/api.Value,[]frankpledge/api.Value,frankpledge/api.Value,frankpledge/api.Value] -/
def slices_CompareFunc_api_Value_api_Value_api_Value_api_Value_l0B (N : Nat) (R : Type) (rec : (List (Int × (Int × ((List UInt8) × Unit)))) → (List (Int × (Int × ((List UInt8) × Unit)))) → (List (Int × (Int × ((List UInt8) × Unit)))) → Int → Int → Option R) (k0 : (List (Int × (Int × ((List UInt8) × Unit)))) → (List (Int × (Int × ((List UInt8) × Unit)))) → Option R) (k1 : (List (Int × (Int × ((List UInt8) × Unit)))) → (List (Int × (Int × ((List UInt8) × Unit)))) → Int → Option R) (v8 : (List (Int × (Int × ((List UInt8) × Unit))))) (v9 : (List (Int × (Int × ((List UInt8) × Unit))))) (v10 : (List (Int × (Int × ((List UInt8) × Unit))))) (v11 : Int) (v12 : Int) : Option R :=
  (bif (decide (v12 < v11)) then
  (Option.bind (nth v10 v12) fun (v13 : (Int × (Int × ((List UInt8) × Unit)))) =>
  (bif (decide ((v9.length : Int) ≤ v12)) then
  (k1 v8 v9 1)
  else
  (Option.bind (nth v9 v12) fun (v14 : (Int × (Int × ((List UInt8) × Unit)))) =>
  (Option.bind (value_Order N v13.1 v13.2.1 v13.2.2.1 v14.1 v14.2.1 v14.2.2.1) fun (v15 : Int × Unit) =>
  (bif (!(decide (v15.1 = 0))) then
  (k1 v8 v9 v15.1)
  else
  (rec v8 v9 v10 v11 (IntKind.wrap .i64 (v12 + 1))))))))
  else
  (k0 v8 v9))

def slices_CompareFunc_api_Value_api_Value_api_Value_api_Value_l0 (N : Nat) (R : Type) (k0 : (List (Int × (Int × ((List UInt8) × Unit)))) → (List (Int × (Int × ((List UInt8) × Unit)))) → Option R) (k1 : (List (Int × (Int × ((List UInt8) × Unit)))) → (List (Int × (Int × ((List UInt8) × Unit)))) → Int → Option R) : Nat → (List (Int × (Int × ((List UInt8) × Unit)))) → (List (Int × (Int × ((List UInt8) × Unit)))) → (List (Int × (Int × ((List UInt8) × Unit)))) → Int → Int → Option R
  | 0 => fun _ _ _ _ _ => none
  | n + 1 => slices_CompareFunc_api_Value_api_Value_api_Value_api_Value_l0B N R (slices_CompareFunc_api_Value_api_Value_api_Value_api_Value_l0 N R k0 k1 n) k0 k1

def slices_CompareFunc_api_Value_api_Value_api_Value_api_Value_cps (N : Nat) (R : Type) (K : Int → Option R) (v1 : (List (Int × (Int × ((List UInt8) × Unit))))) (v2 : (List (Int × (Int × ((List UInt8) × Unit))))) : Option R :=
  (slices_CompareFunc_api_Value_api_Value_api_Value_api_Value_l0 N _ (fun (v3 : (List (Int × (Int × ((List UInt8) × Unit))))) (v4 : (List (Int × (Int × ((List UInt8) × Unit))))) =>
  (bif (decide ((v3.length : Int) < (v4.length : Int))) then
  (K (-1))
  else
  (K 0))) (fun (v5 : (List (Int × (Int × ((List UInt8) × Unit))))) (v6 : (List (Int × (Int × ((List UInt8) × Unit))))) (v7 : Int) =>
  (K v7)) N v1 v2 v1 (v1.length : Int) 0)

def slices_CompareFunc_api_Value_api_Value_api_Value_api_Value (N : Nat) (v1 : (List (Int × (Int × ((List UInt8) × Unit))))) (v2 : (List (Int × (Int × ((List UInt8) × Unit))))) : Option (Int × Unit) := slices_CompareFunc_api_Value_api_Value_api_Value_api_Value_cps N _ (fun a0 => some (a0, ())) v1 v2

/-! frankpledge/value.Rows -/
def value_Rows_cps (N : Nat) (R : Type) (K : Int → Option R) (v1 : (List (Int × (Int × ((List UInt8) × Unit))))) (v2 : (List (Int × (Int × ((List UInt8) × Unit))))) : Option R :=
  (Option.bind (slices_CompareFunc_api_Value_api_Value_api_Value_api_Value N v1 v2) fun (v3 : Int × Unit) =>
  (K v3.1))

def value_Rows (N : Nat) (v1 : (List (Int × (Int × ((List UInt8) × Unit))))) (v2 : (List (Int × (Int × ((List UInt8) × Unit))))) : Option (Int × Unit) := value_Rows_cps N _ (fun a0 => some (a0, ())) v1 v2

/-! frankpledge/frankpledgeref02.Rows -/
def ref02_Rows_j1 (N : Nat) (R : Type) (k0 : (List (Int × (Int × ((List UInt8) × Unit)))) → (List (Int × (Int × ((List UInt8) × Unit)))) → Int → Option R) (k1 : (List (Int × (Int × ((List UInt8) × Unit)))) → (List (Int × (Int × ((List UInt8) × Unit)))) → Int → Int → Option R) (v18 : (List (Int × (Int × ((List UInt8) × Unit))))) (v19 : (List (Int × (Int × ((List UInt8) × Unit))))) (v20 : Int) : Option R :=
  (Option.bind (nth v18 v20) fun (v21 : (Int × (Int × ((List UInt8) × Unit)))) =>
  (Option.bind (nth v19 v20) fun (v22 : (Int × (Int × ((List UInt8) × Unit)))) =>
  (Option.bind (ref02_Order N v21.1 v21.2.1 v21.2.2.1 v22.1 v22.2.1 v22.2.2.1) fun (v23 : Int × Unit) =>
  (bif (!(decide (v23.1 = 0))) then
  (k1 v18 v19 v23.1 v20)
  else
  (k0 v18 v19 (IntKind.wrap .i64 (v20 + 1)))))))

def ref02_Rows_l0B (N : Nat) (R : Type) (rec : (List (Int × (Int × ((List UInt8) × Unit)))) → (List (Int × (Int × ((List UInt8) × Unit)))) → Int → Option R) (k0 : (List (Int × (Int × ((List UInt8) × Unit)))) → (List (Int × (Int × ((List UInt8) × Unit)))) → Option R) (k1 : (List (Int × (Int × ((List UInt8) × Unit)))) → (List (Int × (Int × ((List UInt8) × Unit)))) → Int → Option R) (v8 : (List (Int × (Int × ((List UInt8) × Unit))))) (v9 : (List (Int × (Int × ((List UInt8) × Unit))))) (v10 : Int) : Option R :=
  (bif (decide (v10 < (v8.length : Int))) then
  (bif (decide (v10 < (v9.length : Int))) then
  (ref02_Rows_j1 N _ (fun (v11 : (List (Int × (Int × ((List UInt8) × Unit))))) (v12 : (List (Int × (Int × ((List UInt8) × Unit))))) (v13 : Int) =>
  (rec v11 v12 v13)) (fun (v14 : (List (Int × (Int × ((List UInt8) × Unit))))) (v15 : (List (Int × (Int × ((List UInt8) × Unit))))) (v16 : Int) (v17 : Int) =>
  (k1 v14 v15 v16)) v8 v9 v10)
  else
  (k0 v8 v9))
  else
  (k0 v8 v9))

def ref02_Rows_l0 (N : Nat) (R : Type) (k0 : (List (Int × (Int × ((List UInt8) × Unit)))) → (List (Int × (Int × ((List UInt8) × Unit)))) → Option R) (k1 : (List (Int × (Int × ((List UInt8) × Unit)))) → (List (Int × (Int × ((List UInt8) × Unit)))) → Int → Option R) : Nat → (List (Int × (Int × ((List UInt8) × Unit)))) → (List (Int × (Int × ((List UInt8) × Unit)))) → Int → Option R
  | 0 => fun _ _ _ => none
  | n + 1 => ref02_Rows_l0B N R (ref02_Rows_l0 N R k0 k1 n) k0 k1

def ref02_Rows_cps (N : Nat) (R : Type) (K : Int → Option R) (v1 : (List (Int × (Int × ((List UInt8) × Unit))))) (v2 : (List (Int × (Int × ((List UInt8) × Unit))))) : Option R :=
  (ref02_Rows_l0 N _ (fun (v3 : (List (Int × (Int × ((List UInt8) × Unit))))) (v4 : (List (Int × (Int × ((List UInt8) × Unit))))) =>
  (bif (decide ((v3.length : Int) < (v4.length : Int))) then
  (K (-1))
  else
  (bif (decide ((v4.length : Int) < (v3.length : Int))) then
  (K 1)
  else
  (K 0)))) (fun (v5 : (List (Int × (Int × ((List UInt8) × Unit))))) (v6 : (List (Int × (Int × ((List UInt8) × Unit))))) (v7 : Int) =>
  (K v7)) N v1 v2 0)

def ref02_Rows (N : Nat) (v1 : (List (Int × (Int × ((List UInt8) × Unit))))) (v2 : (List (Int × (Int × ((List UInt8) × Unit))))) : Option (Int × Unit) := ref02_Rows_cps N _ (fun a0 => some (a0, ())) v1 v2

/-! frankpledge/frankpledgelaw02.ValueOrders -/
def law02_ValueOrders_l2B (N : Nat) (R : Type) (rec : Int → Int → Int → Int → (List UInt8) → Int → Int → (List UInt8) → (List (Int × (Int × ((List UInt8) × Unit)))) → (List (Int × (Int × ((List UInt8) × Unit)))) → Option R) (k0 : Int → Int → Int → (List UInt8) → Int → Int → (List UInt8) → (List (Int × (Int × ((List UInt8) × Unit)))) → (List (Int × (Int × ((List UInt8) × Unit)))) → Option R) (k1 : Bool → Int → Int → Int → (List UInt8) → Int → Int → (List UInt8) → (List (Int × (Int × ((List UInt8) × Unit)))) → (List (Int × (Int × ((List UInt8) × Unit)))) → Option R) (v82 : Int) (v83 : Int) (v84 : Int) (v85 : Int) (v86 : (List UInt8)) (v87 : Int) (v88 : Int) (v89 : (List UInt8)) (v90 : (List (Int × (Int × ((List UInt8) × Unit))))) (v91 : (List (Int × (Int × ((List UInt8) × Unit))))) : Option R :=
  (bif (decide (v82 = (0 : Int))) then
  (bif (decide (v83 < (v90.length : Int))) then
  (bif (decide (v82 = (0 : Int))) then
  (Option.bind (nth v90 v83) fun (v92 : (Int × (Int × ((List UInt8) × Unit)))) =>
  (Option.bind (law02_small N v92.1 v92.2.1 v92.2.2.1) fun (v93 : Bool × Unit) =>
  (bif (!v93.1) then
  (Option.bind (law02_alive N) fun (v94 : Bool × Unit) =>
  (k1 v94.1 v82 v84 v85 v86 v87 v88 v89 v90 v91))
  else
  (rec v82 (IntKind.wrap .i64 (v83 + 1)) v84 v85 v86 v87 v88 v89 v90 v91))))
  else
  (bif (decide (v82 = (1 : Int))) then
  (Option.bind (nth v91 v83) fun (v95 : (Int × (Int × ((List UInt8) × Unit)))) =>
  (Option.bind (law02_small N v95.1 v95.2.1 v95.2.2.1) fun (v96 : Bool × Unit) =>
  (bif (!v96.1) then
  (Option.bind (law02_alive N) fun (v97 : Bool × Unit) =>
  (k1 v97.1 v82 v84 v85 v86 v87 v88 v89 v90 v91))
  else
  (rec v82 (IntKind.wrap .i64 (v83 + 1)) v84 v85 v86 v87 v88 v89 v90 v91))))
  else
  none))
  else
  (k0 v82 v84 v85 v86 v87 v88 v89 v90 v91))
  else
  (bif (decide (v82 = (1 : Int))) then
  (bif (decide (v83 < (v91.length : Int))) then
  (bif (decide (v82 = (0 : Int))) then
  (Option.bind (nth v90 v83) fun (v98 : (Int × (Int × ((List UInt8) × Unit)))) =>
  (Option.bind (law02_small N v98.1 v98.2.1 v98.2.2.1) fun (v99 : Bool × Unit) =>
  (bif (!v99.1) then
  (Option.bind (law02_alive N) fun (v100 : Bool × Unit) =>
  (k1 v100.1 v82 v84 v85 v86 v87 v88 v89 v90 v91))
  else
  (rec v82 (IntKind.wrap .i64 (v83 + 1)) v84 v85 v86 v87 v88 v89 v90 v91))))
  else
  (bif (decide (v82 = (1 : Int))) then
  (Option.bind (nth v91 v83) fun (v101 : (Int × (Int × ((List UInt8) × Unit)))) =>
  (Option.bind (law02_small N v101.1 v101.2.1 v101.2.2.1) fun (v102 : Bool × Unit) =>
  (bif (!v102.1) then
  (Option.bind (law02_alive N) fun (v103 : Bool × Unit) =>
  (k1 v103.1 v82 v84 v85 v86 v87 v88 v89 v90 v91))
  else
  (rec v82 (IntKind.wrap .i64 (v83 + 1)) v84 v85 v86 v87 v88 v89 v90 v91))))
  else
  none))
  else
  (k0 v82 v84 v85 v86 v87 v88 v89 v90 v91))
  else
  none))

def law02_ValueOrders_l2 (N : Nat) (R : Type) (k0 : Int → Int → Int → (List UInt8) → Int → Int → (List UInt8) → (List (Int × (Int × ((List UInt8) × Unit)))) → (List (Int × (Int × ((List UInt8) × Unit)))) → Option R) (k1 : Bool → Int → Int → Int → (List UInt8) → Int → Int → (List UInt8) → (List (Int × (Int × ((List UInt8) × Unit)))) → (List (Int × (Int × ((List UInt8) × Unit)))) → Option R) : Nat → Int → Int → Int → Int → (List UInt8) → Int → Int → (List UInt8) → (List (Int × (Int × ((List UInt8) × Unit)))) → (List (Int × (Int × ((List UInt8) × Unit)))) → Option R
  | 0 => fun _ _ _ _ _ _ _ _ _ _ => none
  | n + 1 => law02_ValueOrders_l2B N R (law02_ValueOrders_l2 N R k0 k1 n) k0 k1

def law02_ValueOrders_l1B (N : Nat) (R : Type) (rec : Int → Int → Int → (List UInt8) → Int → Int → (List UInt8) → (List (Int × (Int × ((List UInt8) × Unit)))) → (List (Int × (Int × ((List UInt8) × Unit)))) → Option R) (k0 : Int → Int → (List UInt8) → Int → Int → (List UInt8) → (List (Int × (Int × ((List UInt8) × Unit)))) → (List (Int × (Int × ((List UInt8) × Unit)))) → Option R) (k1 : Bool → Int → Int → (List UInt8) → Int → Int → (List UInt8) → (List (Int × (Int × ((List UInt8) × Unit)))) → (List (Int × (Int × ((List UInt8) × Unit)))) → Option R) (v54 : Int) (v55 : Int) (v56 : Int) (v57 : (List UInt8)) (v58 : Int) (v59 : Int) (v60 : (List UInt8)) (v61 : (List (Int × (Int × ((List UInt8) × Unit))))) (v62 : (List (Int × (Int × ((List UInt8) × Unit))))) : Option R :=
  (bif (decide (v54 < 2)) then
  (law02_ValueOrders_l2 N _ (fun (v63 : Int) (v64 : Int) (v65 : Int) (v66 : (List UInt8)) (v67 : Int) (v68 : Int) (v69 : (List UInt8)) (v70 : (List (Int × (Int × ((List UInt8) × Unit))))) (v71 : (List (Int × (Int × ((List UInt8) × Unit))))) =>
  (rec (IntKind.wrap .i64 (v63 + 1)) v64 v65 v66 v67 v68 v69 v70 v71)) (fun (v72 : Bool) (v73 : Int) (v74 : Int) (v75 : Int) (v76 : (List UInt8)) (v77 : Int) (v78 : Int) (v79 : (List UInt8)) (v80 : (List (Int × (Int × ((List UInt8) × Unit))))) (v81 : (List (Int × (Int × ((List UInt8) × Unit))))) =>
  (k1 v72 v74 v75 v76 v77 v78 v79 v80 v81)) N v54 0 v55 v56 v57 v58 v59 v60 v61 v62)
  else
  (k0 v55 v56 v57 v58 v59 v60 v61 v62))

def law02_ValueOrders_l1 (N : Nat) (R : Type) (k0 : Int → Int → (List UInt8) → Int → Int → (List UInt8) → (List (Int × (Int × ((List UInt8) × Unit)))) → (List (Int × (Int × ((List UInt8) × Unit)))) → Option R) (k1 : Bool → Int → Int → (List UInt8) → Int → Int → (List UInt8) → (List (Int × (Int × ((List UInt8) × Unit)))) → (List (Int × (Int × ((List UInt8) × Unit)))) → Option R) : Nat → Int → Int → Int → (List UInt8) → Int → Int → (List UInt8) → (List (Int × (Int × ((List UInt8) × Unit)))) → (List (Int × (Int × ((List UInt8) × Unit)))) → Option R
  | 0 => fun _ _ _ _ _ _ _ _ _ => none
  | n + 1 => law02_ValueOrders_l1B N R (law02_ValueOrders_l1 N R k0 k1 n) k0 k1

def law02_ValueOrders_j0 (N : Nat) (R : Type) (k0 : Bool → Int → Int → (List UInt8) → Int → Int → (List UInt8) → (List (Int × (Int × ((List UInt8) × Unit)))) → (List (Int × (Int × ((List UInt8) × Unit)))) → Option R) (v22 : Int) (v23 : Int) (v24 : (List UInt8)) (v25 : Int) (v26 : Int) (v27 : (List UInt8)) (v28 : (List (Int × (Int × ((List UInt8) × Unit))))) (v29 : (List (Int × (Int × ((List UInt8) × Unit))))) : Option R :=
  (law02_ValueOrders_l1 N _ (fun (v30 : Int) (v31 : Int) (v32 : (List UInt8)) (v33 : Int) (v34 : Int) (v35 : (List UInt8)) (v36 : (List (Int × (Int × ((List UInt8) × Unit))))) (v37 : (List (Int × (Int × ((List UInt8) × Unit))))) =>
  (Option.bind (law02_alive N) fun (v38 : Bool × Unit) =>
  (bif v38.1 then
  (Option.bind (value_Right N v30 v31 v32) fun (v39 : Bool × Unit) =>
  (Option.bind (ref02_Right N v30 v31 v32) fun (v40 : Bool × Unit) =>
  (bif (v39.1 == v40.1) then
  (Option.bind (value_Order N v30 v31 v32 v33 v34 v35) fun (v41 : Int × Unit) =>
  (Option.bind (ref02_Order N v30 v31 v32 v33 v34 v35) fun (v42 : Int × Unit) =>
  (bif (decide (v41.1 = v42.1)) then
  (Option.bind (value_Rows N v36 v37) fun (v43 : Int × Unit) =>
  (Option.bind (ref02_Rows N v36 v37) fun (v44 : Int × Unit) =>
  (k0 (decide (v43.1 = v44.1)) v30 v31 v32 v33 v34 v35 v36 v37)))
  else
  (k0 false v30 v31 v32 v33 v34 v35 v36 v37))))
  else
  (k0 false v30 v31 v32 v33 v34 v35 v36 v37))))
  else
  (k0 false v30 v31 v32 v33 v34 v35 v36 v37)))) (fun (v45 : Bool) (v46 : Int) (v47 : Int) (v48 : (List UInt8)) (v49 : Int) (v50 : Int) (v51 : (List UInt8)) (v52 : (List (Int × (Int × ((List UInt8) × Unit))))) (v53 : (List (Int × (Int × ((List UInt8) × Unit))))) =>
  (k0 v45 v46 v47 v48 v49 v50 v51 v52 v53)) N 0 v22 v23 v24 v25 v26 v27 v28 v29)

def law02_ValueOrders_cps (N : Nat) (R : Type) (K : Bool → Option R) (v1 : Int) (v2 : Int) (v3 : (List UInt8)) (v4 : Int) (v5 : Int) (v6 : (List UInt8)) (v7 : (List (Int × (Int × ((List UInt8) × Unit))))) (v8 : (List (Int × (Int × ((List UInt8) × Unit))))) : Option R :=
  (bif (decide (20 < (v7.length : Int))) then
  (Option.bind (law02_alive N) fun (v9 : Bool × Unit) =>
  (K v9.1))
  else
  (bif (decide (20 < (v8.length : Int))) then
  (Option.bind (law02_alive N) fun (v10 : Bool × Unit) =>
  (K v10.1))
  else
  (bif (decide (500 < (v3.length : Int))) then
  (Option.bind (law02_alive N) fun (v11 : Bool × Unit) =>
  (K v11.1))
  else
  (bif (decide (500 < (v6.length : Int))) then
  (Option.bind (law02_alive N) fun (v12 : Bool × Unit) =>
  (K v12.1))
  else
  (law02_ValueOrders_j0 N _ (fun (v13 : Bool) (v14 : Int) (v15 : Int) (v16 : (List UInt8)) (v17 : Int) (v18 : Int) (v19 : (List UInt8)) (v20 : (List (Int × (Int × ((List UInt8) × Unit))))) (v21 : (List (Int × (Int × ((List UInt8) × Unit))))) =>
  (K v13)) v1 v2 v3 v4 v5 v6 v7 v8)))))

def law02_ValueOrders (N : Nat) (v1 : Int) (v2 : Int) (v3 : (List UInt8)) (v4 : Int) (v5 : Int) (v6 : (List UInt8)) (v7 : (List (Int × (Int × ((List UInt8) × Unit))))) (v8 : (List (Int × (Int × ((List UInt8) × Unit))))) : Option (Bool × Unit) := law02_ValueOrders_cps N _ (fun a0 => some (a0, ())) v1 v2 v3 v4 v5 v6 v7 v8

/-! frankpledge/value.Rows -/
def value_Rows_1_cps (N : Nat) (R : Type) (K : Int → Option R) (v1 : (List (Int × (Int × ((List UInt8) × Unit))))) (v2 : (List (Int × (Int × ((List UInt8) × Unit))))) : Option R :=
  (Option.bind (slices_CompareFunc_api_Value_api_Value_api_Value_api_Value N v1 v2) fun (v3 : Int × Unit) =>
  (K v3.1))

def value_Rows_1 (N : Nat) (v1 : (List (Int × (Int × ((List UInt8) × Unit))))) (v2 : (List (Int × (Int × ((List UInt8) × Unit))))) : Option (Int × Unit) := value_Rows_1_cps N _ (fun a0 => some (a0, ())) v1 v2

/-! frankpledge/frankpledgelaw02.ValueLine -/
def law02_ValueLine_j1 (N : Nat) (R : Type) (k0 : Bool → Int → Int → (List UInt8) → Int → Int → (List UInt8) → Int → Int → (List UInt8) → Option R) (v136 : Int) (v137 : Int) (v138 : Int) (v139 : (List UInt8)) (v140 : Int) (v141 : Int) (v142 : (List UInt8)) (v143 : Int) (v144 : Int) (v145 : (List UInt8)) : Option R :=
  (Option.bind (law02_alive N) fun (v146 : Bool × Unit) =>
  (bif v146.1 then
  (Option.bind (value_Rows N ([(v137, (v138, (v139, ()))), (v140, (v141, (v142, ())))] : (List (Int × (Int × ((List UInt8) × Unit))))) ([(v137, (v138, (v139, ()))), (v143, (v144, (v145, ())))] : (List (Int × (Int × ((List UInt8) × Unit)))))) fun (v147 : Int × Unit) =>
  (bif (decide (v147.1 = v136)) then
  (bif (decide (0 ≤ (1 : Int) ∧ (1 : Int) ≤ ((([(v137, (v138, (v139, ()))), (v140, (v141, (v142, ())))] : (List (Int × (Int × ((List UInt8) × Unit))))).length : Nat) : Int))) then
  (Option.bind (value_Rows N ([(v137, (v138, (v139, ()))), (v140, (v141, (v142, ())))] : (List (Int × (Int × ((List UInt8) × Unit))))) (List.drop 0 (List.take 1 ([(v137, (v138, (v139, ()))), (v140, (v141, (v142, ())))] : (List (Int × (Int × ((List UInt8) × Unit)))))))) fun (v148 : Int × Unit) =>
  (bif (decide (v148.1 = 1)) then
  (bif (decide (0 ≤ (1 : Int) ∧ (1 : Int) ≤ ((([(v137, (v138, (v139, ()))), (v140, (v141, (v142, ())))] : (List (Int × (Int × ((List UInt8) × Unit))))).length : Nat) : Int))) then
  (Option.bind (value_Rows N (List.drop 0 (List.take 1 ([(v137, (v138, (v139, ()))), (v140, (v141, (v142, ())))] : (List (Int × (Int × ((List UInt8) × Unit))))))) ([(v137, (v138, (v139, ()))), (v140, (v141, (v142, ())))] : (List (Int × (Int × ((List UInt8) × Unit)))))) fun (v149 : Int × Unit) =>
  (bif (decide (v149.1 = (-1))) then
  (Option.bind (value_Rows_1 N [] []) fun (v150 : Int × Unit) =>
  (k0 (decide (v150.1 = 0)) v137 v138 v139 v140 v141 v142 v143 v144 v145))
  else
  (k0 false v137 v138 v139 v140 v141 v142 v143 v144 v145)))
  else
  none)
  else
  (k0 false v137 v138 v139 v140 v141 v142 v143 v144 v145)))
  else
  none)
  else
  (k0 false v137 v138 v139 v140 v141 v142 v143 v144 v145)))
  else
  (k0 false v137 v138 v139 v140 v141 v142 v143 v144 v145)))

def law02_ValueLine_l0B (N : Nat) (R : Type) (rec : Int → Int → Int → (List UInt8) → Int → Int → (List UInt8) → Int → Int → (List UInt8) → Option R) (k0 : Int → Int → (List UInt8) → Int → Int → (List UInt8) → Int → Int → (List UInt8) → Option R) (k1 : Bool → Int → Int → (List UInt8) → Int → Int → (List UInt8) → Int → Int → (List UInt8) → Option R) (v123 : Int) (v124 : Int) (v125 : Int) (v126 : (List UInt8)) (v127 : Int) (v128 : Int) (v129 : (List UInt8)) (v130 : Int) (v131 : Int) (v132 : (List UInt8)) : Option R :=
  (bif (decide (v123 < 3)) then
  (bif (decide (v123 = (0 : Int))) then
  (bif (decide (500 < (v126.length : Int))) then
  (Option.bind (law02_alive N) fun (v133 : Bool × Unit) =>
  (k1 v133.1 v124 v125 v126 v127 v128 v129 v130 v131 v132))
  else
  (rec (IntKind.wrap .i64 (v123 + 1)) v124 v125 v126 v127 v128 v129 v130 v131 v132))
  else
  (bif (decide (v123 = (1 : Int))) then
  (bif (decide (500 < (v129.length : Int))) then
  (Option.bind (law02_alive N) fun (v134 : Bool × Unit) =>
  (k1 v134.1 v124 v125 v126 v127 v128 v129 v130 v131 v132))
  else
  (rec (IntKind.wrap .i64 (v123 + 1)) v124 v125 v126 v127 v128 v129 v130 v131 v132))
  else
  (bif (decide (v123 = (2 : Int))) then
  (bif (decide (500 < (v132.length : Int))) then
  (Option.bind (law02_alive N) fun (v135 : Bool × Unit) =>
  (k1 v135.1 v124 v125 v126 v127 v128 v129 v130 v131 v132))
  else
  (rec (IntKind.wrap .i64 (v123 + 1)) v124 v125 v126 v127 v128 v129 v130 v131 v132))
  else
  none)))
  else
  (k0 v124 v125 v126 v127 v128 v129 v130 v131 v132))

def law02_ValueLine_l0 (N : Nat) (R : Type) (k0 : Int → Int → (List UInt8) → Int → Int → (List UInt8) → Int → Int → (List UInt8) → Option R) (k1 : Bool → Int → Int → (List UInt8) → Int → Int → (List UInt8) → Int → Int → (List UInt8) → Option R) : Nat → Int → Int → Int → (List UInt8) → Int → Int → (List UInt8) → Int → Int → (List UInt8) → Option R
  | 0 => fun _ _ _ _ _ _ _ _ _ _ => none
  | n + 1 => law02_ValueLine_l0B N R (law02_ValueLine_l0 N R k0 k1 n) k0 k1

def law02_ValueLine_cps (N : Nat) (R : Type) (K : Bool → Option R) (v1 : Int) (v2 : Int) (v3 : (List UInt8)) (v4 : Int) (v5 : Int) (v6 : (List UInt8)) (v7 : Int) (v8 : Int) (v9 : (List UInt8)) : Option R :=
  (law02_ValueLine_l0 N _ (fun (v10 : Int) (v11 : Int) (v12 : (List UInt8)) (v13 : Int) (v14 : Int) (v15 : (List UInt8)) (v16 : Int) (v17 : Int) (v18 : (List UInt8)) =>
  (Option.bind (value_Order N v10 v11 v12 v13 v14 v15) fun (v19 : Int × Unit) =>
  (Option.bind (value_Order N v13 v14 v15 v16 v17 v18) fun (v20 : Int × Unit) =>
  (Option.bind (value_Order N v10 v11 v12 v16 v17 v18) fun (v21 : Int × Unit) =>
  (Option.bind (value_Order N v13 v14 v15 v10 v11 v12) fun (v22 : Int × Unit) =>
  (bif (!(decide (v19.1 = (IntKind.wrap .i64 (0 - v22.1))))) then
  (K false)
  else
  (bif (!((decide (v19.1 = 0)) == ((decide (v10 = v13)) && ((decide (v11 = v14)) && (decide (v12 = v15)))))) then
  (K false)
  else
  (bif (decide (v19.1 ≤ 0)) then
  (bif (decide (v20.1 ≤ 0)) then
  (bif (decide (0 < v21.1)) then
  (K false)
  else
  (bif (decide (v19.1 < 0)) then
  (bif (decide (v20.1 ≤ 0)) then
  (bif (decide (0 ≤ v21.1)) then
  (K false)
  else
  (law02_ValueLine_j1 N _ (fun (v23 : Bool) (v24 : Int) (v25 : Int) (v26 : (List UInt8)) (v27 : Int) (v28 : Int) (v29 : (List UInt8)) (v30 : Int) (v31 : Int) (v32 : (List UInt8)) =>
  (K v23)) v20.1 v10 v11 v12 v13 v14 v15 v16 v17 v18))
  else
  (law02_ValueLine_j1 N _ (fun (v33 : Bool) (v34 : Int) (v35 : Int) (v36 : (List UInt8)) (v37 : Int) (v38 : Int) (v39 : (List UInt8)) (v40 : Int) (v41 : Int) (v42 : (List UInt8)) =>
  (K v33)) v20.1 v10 v11 v12 v13 v14 v15 v16 v17 v18))
  else
  (law02_ValueLine_j1 N _ (fun (v43 : Bool) (v44 : Int) (v45 : Int) (v46 : (List UInt8)) (v47 : Int) (v48 : Int) (v49 : (List UInt8)) (v50 : Int) (v51 : Int) (v52 : (List UInt8)) =>
  (K v43)) v20.1 v10 v11 v12 v13 v14 v15 v16 v17 v18)))
  else
  (bif (decide (v19.1 < 0)) then
  (bif (decide (v20.1 ≤ 0)) then
  (bif (decide (0 ≤ v21.1)) then
  (K false)
  else
  (law02_ValueLine_j1 N _ (fun (v53 : Bool) (v54 : Int) (v55 : Int) (v56 : (List UInt8)) (v57 : Int) (v58 : Int) (v59 : (List UInt8)) (v60 : Int) (v61 : Int) (v62 : (List UInt8)) =>
  (K v53)) v20.1 v10 v11 v12 v13 v14 v15 v16 v17 v18))
  else
  (law02_ValueLine_j1 N _ (fun (v63 : Bool) (v64 : Int) (v65 : Int) (v66 : (List UInt8)) (v67 : Int) (v68 : Int) (v69 : (List UInt8)) (v70 : Int) (v71 : Int) (v72 : (List UInt8)) =>
  (K v63)) v20.1 v10 v11 v12 v13 v14 v15 v16 v17 v18))
  else
  (law02_ValueLine_j1 N _ (fun (v73 : Bool) (v74 : Int) (v75 : Int) (v76 : (List UInt8)) (v77 : Int) (v78 : Int) (v79 : (List UInt8)) (v80 : Int) (v81 : Int) (v82 : (List UInt8)) =>
  (K v73)) v20.1 v10 v11 v12 v13 v14 v15 v16 v17 v18)))
  else
  (bif (decide (v19.1 < 0)) then
  (bif (decide (v20.1 ≤ 0)) then
  (bif (decide (0 ≤ v21.1)) then
  (K false)
  else
  (law02_ValueLine_j1 N _ (fun (v83 : Bool) (v84 : Int) (v85 : Int) (v86 : (List UInt8)) (v87 : Int) (v88 : Int) (v89 : (List UInt8)) (v90 : Int) (v91 : Int) (v92 : (List UInt8)) =>
  (K v83)) v20.1 v10 v11 v12 v13 v14 v15 v16 v17 v18))
  else
  (law02_ValueLine_j1 N _ (fun (v93 : Bool) (v94 : Int) (v95 : Int) (v96 : (List UInt8)) (v97 : Int) (v98 : Int) (v99 : (List UInt8)) (v100 : Int) (v101 : Int) (v102 : (List UInt8)) =>
  (K v93)) v20.1 v10 v11 v12 v13 v14 v15 v16 v17 v18))
  else
  (law02_ValueLine_j1 N _ (fun (v103 : Bool) (v104 : Int) (v105 : Int) (v106 : (List UInt8)) (v107 : Int) (v108 : Int) (v109 : (List UInt8)) (v110 : Int) (v111 : Int) (v112 : (List UInt8)) =>
  (K v103)) v20.1 v10 v11 v12 v13 v14 v15 v16 v17 v18)))))))))) (fun (v113 : Bool) (v114 : Int) (v115 : Int) (v116 : (List UInt8)) (v117 : Int) (v118 : Int) (v119 : (List UInt8)) (v120 : Int) (v121 : Int) (v122 : (List UInt8)) =>
  (K v113)) N 0 v1 v2 v3 v4 v5 v6 v7 v8 v9)

def law02_ValueLine (N : Nat) (v1 : Int) (v2 : Int) (v3 : (List UInt8)) (v4 : Int) (v5 : Int) (v6 : (List UInt8)) (v7 : Int) (v8 : Int) (v9 : (List UInt8)) : Option (Bool × Unit) := law02_ValueLine_cps N _ (fun a0 => some (a0, ())) v1 v2 v3 v4 v5 v6 v7 v8 v9

/-- What is to be shown of the law ValueBack. -/
def ValueBack_Pure : Prop := ∀ x : denA [(.pair (.int .i64) (.pair (.int .i64) (.pair .str .unit))), (.pair (.int .i64) (.pair (.int .i64) (.pair .str .unit))), .str], WfA [(.pair (.int .i64) (.pair (.int .i64) (.pair .str .unit))), (.pair (.int .i64) (.pair (.int .i64) (.pair .str .unit))), .str] x → law02_ValueBack big x.1.1 x.1.2.1 x.1.2.2.1 x.2.1.1 x.2.1.2.1 x.2.1.2.2.1 x.2.2.1 = some (true, ())

/-- What is to be shown of the law ValueKinds. -/
def ValueKinds_Pure : Prop := ∀ x : denA [(.pair (.int .i64) (.pair (.int .i64) (.pair .str .unit))), (.pair (.int .i64) (.pair (.int .i64) (.pair .str .unit)))], WfA [(.pair (.int .i64) (.pair (.int .i64) (.pair .str .unit))), (.pair (.int .i64) (.pair (.int .i64) (.pair .str .unit)))] x → law02_ValueKinds big x.1.1 x.1.2.1 x.1.2.2.1 x.2.1.1 x.2.1.2.1 x.2.1.2.2.1 = some (true, ())

/-- What is to be shown of the law ValueNots. -/
def ValueNots_Pure : Prop := ∀ x : denA [(.pair (.int .i64) (.pair (.int .i64) (.pair (.int .i64) .unit)))], WfA [(.pair (.int .i64) (.pair (.int .i64) (.pair (.int .i64) .unit)))] x → law02_ValueNots big x.1.1 x.1.2.1 x.1.2.2.1 = some (true, ())

/-- What is to be shown of the law ValueOrders. -/
def ValueOrders_Pure : Prop := ∀ x : denA [(.pair (.int .i64) (.pair (.int .i64) (.pair .str .unit))), (.pair (.int .i64) (.pair (.int .i64) (.pair .str .unit))), (.pair (.slice (.pair (.int .i64) (.pair (.int .i64) (.pair .str .unit)))) (.pair (.slice (.pair (.int .i64) (.pair (.int .i64) (.pair .str .unit)))) .unit))], WfA [(.pair (.int .i64) (.pair (.int .i64) (.pair .str .unit))), (.pair (.int .i64) (.pair (.int .i64) (.pair .str .unit))), (.pair (.slice (.pair (.int .i64) (.pair (.int .i64) (.pair .str .unit)))) (.pair (.slice (.pair (.int .i64) (.pair (.int .i64) (.pair .str .unit)))) .unit))] x → law02_ValueOrders big x.1.1 x.1.2.1 x.1.2.2.1 x.2.1.1 x.2.1.2.1 x.2.1.2.2.1 x.2.2.1.1 x.2.2.1.2.1 = some (true, ())

/-- What is to be shown of the law ValueLine. -/
def ValueLine_Pure : Prop := ∀ x : denA [(.pair (.pair (.int .i64) (.pair (.int .i64) (.pair .str .unit))) (.pair (.pair (.int .i64) (.pair (.int .i64) (.pair .str .unit))) (.pair (.pair (.int .i64) (.pair (.int .i64) (.pair .str .unit))) .unit)))], WfA [(.pair (.pair (.int .i64) (.pair (.int .i64) (.pair .str .unit))) (.pair (.pair (.int .i64) (.pair (.int .i64) (.pair .str .unit))) (.pair (.pair (.int .i64) (.pair (.int .i64) (.pair .str .unit))) .unit)))] x → law02_ValueLine big x.1.1.1 x.1.1.2.1 x.1.1.2.2.1 x.1.2.1.1 x.1.2.1.2.1 x.1.2.1.2.2.1 x.1.2.2.1.1 x.1.2.2.1.2.1 x.1.2.2.1.2.2.1 = some (true, ())


end
end Go.Proofs.YtmpglmalfkkokaaDoor.E
