/-
  Pure functions, printed by a program out of the translation.
  Conditions: those that each statement prints, and no other.
-/
import Derived.Test.YtbikfekdakigiaaGreatDoorEvA
import Derived.Lib.Bytealg
import Derived.Test.YtbikfekdakigiaaGreatDoorEvL
set_option linter.unusedVariables false
set_option linter.unusedSimpArgs false
namespace Go.Proofs.YtbikfekdakigiaaGreatDoor.E
open Go.Ev
noncomputable section
abbrev Q0 : Type := List (Int × ((List UInt8) × ((Int × (Int × ((List UInt8) × Unit))) × (Int × Unit))))
abbrev Q1 : Type := Int × Int × Int × (List UInt8) × (List UInt8) × (List UInt8) × Int × (List Ex) × Int × Int × Q0 × Int × Err × Unit
abbrev Q2 : Type := List ((List UInt8) × (Ex × (Int × Unit)))
abbrev Q3 : Go.Ev.Ty := (.pair (.int .i64) (.pair .str (.pair (.pair (.int .i64) (.pair (.int .i64) (.pair .str .unit))) (.pair (.int .i64) .unit))))
def bs0 : List UInt8 := [115, 101, 108, 101, 99, 116, 32, 97, 32, 43, 32, 49, 32, 102, 114, 111, 109, 32, 116, 32, 119, 104, 101, 114, 101, 32, 110, 111, 116, 32, 98, 32, 108, 105, 109, 105, 116, 32, 51]
def r6_blank_cps (N : Nat) (R : Type) (K : Bool → Option R) (v1 : Int) : Option R :=
 (bif (decide (v1 = 32)) then
 (K true)
 else
 (bif (decide (v1 = 9)) then
 (K true)
 else
 (bif (decide (v1 = 10)) then
 (K true)
 else
 (K (decide (v1 = 13))))))
def r6_blank (N : Nat) (v1 : Int) : Option (Bool × Unit) := r6_blank_cps N _ (fun a0 => some (a0, ())) v1
def r6_letter_cps (N : Nat) (R : Type) (K : Bool → Option R) (v1 : Int) : Option R :=
 (bif (decide (97 ≤ v1)) then
 (bif (decide (v1 ≤ 122)) then
 (K true)
 else
 (bif (decide (65 ≤ v1)) then
 (K (decide (v1 ≤ 90)))
 else
 (K false)))
 else
 (bif (decide (65 ≤ v1)) then
 (K (decide (v1 ≤ 90)))
 else
 (K false)))
def r6_letter (N : Nat) (v1 : Int) : Option (Bool × Unit) := r6_letter_cps N _ (fun a0 => some (a0, ())) v1
def r6_figure_cps (N : Nat) (R : Type) (K : Bool → Option R) (v1 : Int) : Option R :=
 (bif (decide (48 ≤ v1)) then
 (K (decide (v1 ≤ 57)))
 else
 (K false))
def r6_figure (N : Nat) (v1 : Int) : Option (Bool × Unit) := r6_figure_cps N _ (fun a0 => some (a0, ())) v1
def r6_quoted_l0B (N : Nat) (R : Type) (rec : (List UInt8) → Int → Option R) (k0 : Option R) (k1 : Int → Option R) (v3 : (List UInt8)) (v4 : Int) : Option R :=
 (bif (decide (v4 < (v3.length : Int))) then
 (Option.bind (nth v3 v4) fun v5 =>
 (bif (!(decide ((v5.toNat : Int) = 39))) then
 (rec v3 (IntKind.wrap .i64 (v4 + 1)))
 else
 (bif (decide ((IntKind.wrap .i64 (v4 + 1)) < (v3.length : Int))) then
 (Option.bind (nth v3 (IntKind.wrap .i64 (v4 + 1))) fun v6 =>
 (bif (decide ((v6.toNat : Int) = 39)) then
 (rec v3 (IntKind.wrap .i64 ((IntKind.wrap .i64 (v4 + 1)) + 1)))
 else
 (k1 (IntKind.wrap .i64 (v4 + 1)))))
 else
 (k1 (IntKind.wrap .i64 (v4 + 1))))))
 else
 k0)
def r6_quoted_l0 (N : Nat) (R : Type) (k0 : Option R) (k1 : Int → Option R) : Nat → (List UInt8) → Int → Option R
 | 0 => fun _ _ => none
 | n + 1 => r6_quoted_l0B N R (r6_quoted_l0 N R k0 k1 n) k0 k1
def r6_quoted_cps (N : Nat) (R : Type) (K : Int → Option R) (v1 : (List UInt8)) : Option R :=
 (r6_quoted_l0 N _ ((K 0)) K N v1 1)
def r6_quoted (N : Nat) (v1 : (List UInt8)) : Option (Int × Unit) := r6_quoted_cps N _ (fun a0 => some (a0, ())) v1
def r6_small_l0B (N : Nat) (R : Type) (rec : (List UInt8) → (List UInt8) → Int → Option R) (k0 : (List UInt8) → Option R) (v3 : (List UInt8)) (v4 : (List UInt8)) (v5 : Int) : Option R :=
 (bif (decide (v5 < (v3.length : Int))) then
 (Option.bind (nth v3 v5) fun v6 =>
 (bif (decide (65 ≤ (v6.toNat : Int))) then
 (bif (decide ((v6.toNat : Int) ≤ 90)) then
 (bif (room 1 (v4.length + ([(UInt8.ofNat (Int.toNat (IntKind.wrap .u8 ((v6.toNat : Int) + 32))))] : (List UInt8)).length)) then
 (rec v3 (v4 ++ ([(UInt8.ofNat (Int.toNat (IntKind.wrap .u8 ((v6.toNat : Int) + 32))))] : (List UInt8))) (IntKind.wrap .i64 (v5 + 1)))
 else
 none)
 else
 (bif (room 1 (v4.length + ([(UInt8.ofNat (Int.toNat (v6.toNat : Int)))] : (List UInt8)).length)) then
 (rec v3 (v4 ++ ([(UInt8.ofNat (Int.toNat (v6.toNat : Int)))] : (List UInt8))) (IntKind.wrap .i64 (v5 + 1)))
 else
 none))
 else
 (bif (room 1 (v4.length + ([(UInt8.ofNat (Int.toNat (v6.toNat : Int)))] : (List UInt8)).length)) then
 (rec v3 (v4 ++ ([(UInt8.ofNat (Int.toNat (v6.toNat : Int)))] : (List UInt8))) (IntKind.wrap .i64 (v5 + 1)))
 else
 none)))
 else
 (k0 v4))
def r6_small_l0 (N : Nat) (R : Type) (k0 : (List UInt8) → Option R) : Nat → (List UInt8) → (List UInt8) → Int → Option R
 | 0 => fun _ _ _ => none
 | n + 1 => r6_small_l0B N R (r6_small_l0 N R k0 n) k0
def r6_small_cps (N : Nat) (R : Type) (K : (List UInt8) → Option R) (v1 : (List UInt8)) : Option R :=
 (r6_small_l0 N _ K N v1 [] 0)
def r6_small (N : Nat) (v1 : (List UInt8)) : Option ((List UInt8) × Unit) := r6_small_cps N _ (fun a0 => some (a0, ())) v1
def r2_Of_cps (N : Nat) (R : Type) (K : Int → Int → (List UInt8) → Option R) (v1 : Int) : Option R :=
 (bif (decide (v1 < 0)) then
 (K 0 0 [])
 else
 (K 1 v1 []))
def r2_Of (N : Nat) (v1 : Int) : Option (Int × Int × (List UInt8) × Unit) := r2_Of_cps N _ (fun a0 a1 a2 => some (a0, (a1, (a2, ())))) v1
def r2_hex_l0B (N : Nat) (R : Type) (rec : Int → Int → Option R) (k0 : Option R) (k1 : Int → Option R) (v3 : Int) (v4 : Int) : Option R :=
 (bif (decide (v4 < 16)) then
 (Option.bind (nth ([48, 49, 50, 51, 52, 53, 54, 55, 56, 57, 97, 98, 99, 100, 101, 102] : List UInt8) v4) fun v5 =>
 (bif (decide ((v5.toNat : Int) = v3)) then
 (k1 v4)
 else
 (rec v3 (IntKind.wrap .i64 (v4 + 1)))))
 else
 k0)
def r2_hex_l0 (N : Nat) (R : Type) (k0 : Option R) (k1 : Int → Option R) : Nat → Int → Int → Option R
 | 0 => fun _ _ => none
 | n + 1 => r2_hex_l0B N R (r2_hex_l0 N R k0 k1 n) k0 k1
def r2_hex_cps (N : Nat) (R : Type) (K : Int → Option R) (v1 : Int) : Option R :=
 (r2_hex_l0 N _ ((K (-1))) K N v1 0)
def r2_hex (N : Nat) (v1 : Int) : Option (Int × Unit) := r2_hex_cps N _ (fun a0 => some (a0, ())) v1
def r2_figures_j2 (N : Nat) (R : Type) (k0 : (List UInt8) → Bool → Int → Int → Int → Option R) (k1 : (List UInt8) → Bool → Int → Bool → Int → Int → Int → Option R) (v38 : (List UInt8)) (v39 : Bool) (v40 : Int) (v41 : Int) (v42 : Int) : Option R :=
 (Option.bind (nth v38 v42) fun v43 =>
 (bif (decide ((IntKind.wrap .u64 (Int.tdiv (IntKind.wrap .u64 (v41 - (IntKind.wrap .u64 (IntKind.wrap .u8 ((v43.toNat : Int) - 48))))) 10)) < v40)) then
 (k1 v38 v39 0 false v40 v41 v42)
 else
 (k0 v38 v39 (IntKind.wrap .u64 ((IntKind.wrap .u64 (10 * v40)) + (IntKind.wrap .u64 (IntKind.wrap .u8 ((v43.toNat : Int) - 48))))) v41 v42)))
def r2_figures_l1B (N : Nat) (R : Type) (rec : (List UInt8) → Bool → Int → Int → Int → Option R) (k0 : (List UInt8) → Bool → Int → Option R) (k1 : (List UInt8) → Bool → Int → Bool → Int → Option R) (v19 : (List UInt8)) (v20 : Bool) (v21 : Int) (v22 : Int) (v23 : Int) : Option R :=
 (bif (decide (v23 < (v19.length : Int))) then
 (Option.bind (nth v19 v23) fun v24 =>
 (bif (decide ((v24.toNat : Int) < 48)) then
 (k1 v19 v20 0 false v21)
 else
 (Option.bind (nth v19 v23) fun v25 =>
 (bif (decide (57 < (v25.toNat : Int))) then
 (k1 v19 v20 0 false v21)
 else
 (r2_figures_j2 N _ (fun v26 v27 v28 v29 v30 =>
 (rec v26 v27 v28 v29 (IntKind.wrap .i64 (v30 + 1)))) (fun v31 v32 v33 v34 v35 v36 v37 =>
 (k1 v31 v32 v33 v34 v35)) v19 v20 v21 v22 v23)))))
 else
 (k0 v19 v20 v21))
def r2_figures_l1 (N : Nat) (R : Type) (k0 : (List UInt8) → Bool → Int → Option R) (k1 : (List UInt8) → Bool → Int → Bool → Int → Option R) : Nat → (List UInt8) → Bool → Int → Int → Int → Option R
 | 0 => fun _ _ _ _ _ => none
 | n + 1 => r2_figures_l1B N R (r2_figures_l1 N R k0 k1 n) k0 k1
def r2_figures_j0 (N : Nat) (R : Type) (k0 : Int → Bool → Option R) (v7 : (List UInt8)) (v8 : Bool) (v9 : Int) (v10 : Int) : Option R :=
 (r2_figures_l1 N _ (fun v11 v12 v13 =>
 (bif v12 then
 (bif (decide (0 < v13)) then
 (k0 (IntKind.wrap .i64 ((IntKind.wrap .i64 (0 - (IntKind.wrap .i64 (IntKind.wrap .u64 (v13 - 1))))) - 1)) (decide (0 < (v11.length : Int))))
 else
 (k0 (IntKind.wrap .i64 v13) (decide (0 < (v11.length : Int)))))
 else
 (k0 (IntKind.wrap .i64 v13) (decide (0 < (v11.length : Int)))))) (fun v14 v15 v16 v17 v18 =>
 (k0 v16 v17)) N v7 v8 v9 v10 0)
def r2_figures_cps (N : Nat) (R : Type) (K : Int → Bool → Option R) (v1 : (List UInt8)) (v2 : Bool) : Option R :=
 (bif v2 then
 (r2_figures_j0 N _ K v1 v2 0 9223372036854775808)
 else
 (r2_figures_j0 N _ K v1 v2 0 9223372036854775807))
def r2_figures (N : Nat) (v1 : (List UInt8)) (v2 : Bool) : Option (Int × Bool × Unit) := r2_figures_cps N _ (fun a0 a1 => some (a0, (a1, ()))) v1 v2
def r2_guess_r8 (N : Nat) (R : Type) (k0 : Int → Bool → Int → Int → (List UInt8) → Option R) (v137 : Bool) (v138 : (List UInt8)) (v139 : Int) (v140 : Int) (v141 : Int) (v142 : (List UInt8)) : Option R :=
 (bif (decide (0 ≤ v139 ∧ v139 ≤ ((v138.length : Nat) : Int))) then
 (bif (decide (0 ≤ (IntKind.wrap .i64 (v139 + 1)) ∧ (IntKind.wrap .i64 (v139 + 1)) ≤ ((v138.length : Nat) : Int))) then
 (bif (room 1 ((List.drop 0 (List.take (Int.toNat v139) v138)).length + (List.drop (Int.toNat (IntKind.wrap .i64 (v139 + 1))) (List.take v138.length v138)).length)) then
 (Option.bind (r2_figures N ((List.drop 0 (List.take (Int.toNat v139) v138)) ++ (List.drop (Int.toNat (IntKind.wrap .i64 (v139 + 1))) (List.take v138.length v138))) v137) fun v143 =>
 (k0 v143.1 v143.2.1 v140 v141 v142))
 else
 none)
 else
 none)
 else
 none)
def r2_guess_j7 (N : Nat) (R : Type) (k0 : Bool → (List UInt8) → Int → Int → (List UInt8) → Option R) (k1 : Int → Int → (List UInt8) → Option R) (v125 : Bool) (v126 : (List UInt8)) (v127 : Int) (v128 : Bool) (v129 : Int) (v130 : Int) (v131 : (List UInt8)) : Option R :=
 (bif v128 then
 (r2_guess_r8 N _ (fun v132 v133 v134 v135 v136 =>
 (bif v133 then
 (k1 3 v132 [])
 else
 (k1 0 1 []))) v125 v126 v127 v129 v130 v131)
 else
 (k0 v125 v126 v129 v130 v131))
def r2_guess_j6 (N : Nat) (R : Type) (k0 : Int → Int → (List UInt8) → Option R) (v101 : Bool) (v102 : (List UInt8)) (v103 : Int) (v104 : Int) (v105 : (List UInt8)) : Option R :=
 (bif (decide (0 < (IntKind.wrap .i64 ((v102.length : Int) - 5)))) then
 (Option.bind (nth v102 (IntKind.wrap .i64 ((v102.length : Int) - 5))) fun v106 =>
 (r2_guess_j7 N _ (fun v107 v108 v109 v110 v111 =>
 (Option.bind (r2_figures N v108 v107) fun v112 =>
 (bif v112.2.1 then
 (k0 2 v112.1 [])
 else
 (k0 0 1 [])))) k0 v101 v102 (IntKind.wrap .i64 ((v102.length : Int) - 5)) (decide ((v106.toNat : Int) = 46)) v103 v104 v105))
 else
 (r2_guess_j7 N _ (fun v116 v117 v118 v119 v120 =>
 (Option.bind (r2_figures N v117 v116) fun v121 =>
 (bif v121.2.1 then
 (k0 2 v121.1 [])
 else
 (k0 0 1 [])))) k0 v101 v102 (IntKind.wrap .i64 ((v102.length : Int) - 5)) false v103 v104 v105))
def r2_guess_j5 (N : Nat) (R : Type) (k0 : Int → Int → (List UInt8) → Option R) (v90 : (List UInt8)) (v91 : Bool) (v92 : Int) (v93 : Int) (v94 : (List UInt8)) : Option R :=
 (bif v91 then
 (bif (decide (0 ≤ (1 : Int) ∧ (1 : Int) ≤ ((v90.length : Nat) : Int))) then
 (r2_guess_j6 N _ k0 v91 (List.drop 1 (List.take v90.length v90)) v92 v93 v94)
 else
 none)
 else
 (r2_guess_j6 N _ k0 v91 v90 v92 v93 v94))
def r2_guess_j4 (N : Nat) (R : Type) (k0 : Int → Int → (List UInt8) → Option R) (v79 : (List UInt8)) (v80 : Int) (v81 : Int) (v82 : (List UInt8)) : Option R :=
 (bif (decide (0 < (v79.length : Int))) then
 (Option.bind (nth v79 0) fun v83 =>
 (r2_guess_j5 N _ k0 v79 (decide ((v83.toNat : Int) = 45)) v80 v81 v82))
 else
 (r2_guess_j5 N _ k0 v79 false v80 v81 v82))
def r2_guess_l3B (N : Nat) (R : Type) (rec : (List UInt8) → (List UInt8) → Int → Int → Int → (List UInt8) → Option R) (k0 : (List UInt8) → Int → Int → (List UInt8) → Option R) (v72 : (List UInt8)) (v73 : (List UInt8)) (v74 : Int) (v75 : Int) (v76 : Int) (v77 : (List UInt8)) : Option R :=
 (bif (decide ((IntKind.wrap .i64 (v74 + 1)) < (v72.length : Int))) then
 (bif (decide (0 ≤ (IntKind.wrap .i64 (v74 + 1)) ∧ (IntKind.wrap .i64 (v74 + 1)) ≤ ((v72.length : Nat) : Int))) then
 (bif (decide (0 ≤ v74 ∧ v74 ≤ (((Int.toNat (IntKind.wrap .i64 (v74 + 1))) : Nat) : Int))) then
 (bif (room 1 (v73.length + (List.drop (Int.toNat v74) (List.take (Int.toNat (IntKind.wrap .i64 (v74 + 1))) v72)).length)) then
 (Option.bind (nth v72 v74) fun v78 =>
 (bif (decide ((v78.toNat : Int) = 39)) then
 (rec v72 (v73 ++ (List.drop (Int.toNat v74) (List.take (Int.toNat (IntKind.wrap .i64 (v74 + 1))) v72))) (IntKind.wrap .i64 ((IntKind.wrap .i64 (v74 + 1)) + 1)) v75 v76 v77)
 else
 (rec v72 (v73 ++ (List.drop (Int.toNat v74) (List.take (Int.toNat (IntKind.wrap .i64 (v74 + 1))) v72))) (IntKind.wrap .i64 (v74 + 1)) v75 v76 v77)))
 else
 none)
 else
 none)
 else
 none)
 else
 (k0 v73 v75 v76 v77))
def r2_guess_l3 (N : Nat) (R : Type) (k0 : (List UInt8) → Int → Int → (List UInt8) → Option R) : Nat → (List UInt8) → (List UInt8) → Int → Int → Int → (List UInt8) → Option R
 | 0 => fun _ _ _ _ _ _ => none
 | n + 1 => r2_guess_l3B N R (r2_guess_l3 N R k0 n) k0
def r2_guess_j2 (N : Nat) (R : Type) (k0 : (List UInt8) → Int → Int → (List UInt8) → Option R) (k1 : Int → Int → (List UInt8) → Option R) (v63 : (List UInt8)) (v64 : Bool) (v65 : Int) (v66 : Int) (v67 : (List UInt8)) : Option R :=
 (bif v64 then
 (r2_guess_l3 N _ (fun v68 v69 v70 v71 =>
 (k1 4 0 v68)) N v63 [] 1 v65 v66 v67)
 else
 (k0 v63 v65 v66 v67))
def r2_guess_l1B (N : Nat) (R : Type) (rec : (List UInt8) → (List UInt8) → Int → Int → Int → (List UInt8) → Option R) (k0 : (List UInt8) → Int → Int → (List UInt8) → Option R) (k1 : (List UInt8) → Int → Int → (List UInt8) → Option R) (v53 : (List UInt8)) (v54 : (List UInt8)) (v55 : Int) (v56 : Int) (v57 : Int) (v58 : (List UInt8)) : Option R :=
 (bif (decide ((IntKind.wrap .i64 (v55 + 2)) < (v53.length : Int))) then
 (Option.bind (nth v53 v55) fun v59 =>
 (Option.bind (r2_hex N (v59.toNat : Int)) fun v60 =>
 (Option.bind (nth v53 (IntKind.wrap .i64 (v55 + 1))) fun v61 =>
 (Option.bind (r2_hex N (v61.toNat : Int)) fun v62 =>
 (bif (decide (v60.1 < 0)) then
 (k1 v54 0 1 [])
 else
 (bif (decide (v62.1 < 0)) then
 (k1 v54 0 1 [])
 else
 (bif (room 1 (v54.length + ([(UInt8.ofNat (Int.toNat (IntKind.wrap .u8 (IntKind.wrap .i64 ((IntKind.wrap .i64 (16 * v60.1)) + v62.1)))))] : (List UInt8)).length)) then
 (rec v53 (v54 ++ ([(UInt8.ofNat (Int.toNat (IntKind.wrap .u8 (IntKind.wrap .i64 ((IntKind.wrap .i64 (16 * v60.1)) + v62.1)))))] : (List UInt8))) (IntKind.wrap .i64 (v55 + 2)) v56 v57 v58)
 else
 none)))))))
 else
 (k0 v54 v56 v57 v58))
def r2_guess_l1 (N : Nat) (R : Type) (k0 : (List UInt8) → Int → Int → (List UInt8) → Option R) (k1 : (List UInt8) → Int → Int → (List UInt8) → Option R) : Nat → (List UInt8) → (List UInt8) → Int → Int → Int → (List UInt8) → Option R
 | 0 => fun _ _ _ _ _ _ => none
 | n + 1 => r2_guess_l1B N R (r2_guess_l1 N R k0 k1 n) k0 k1
def r2_guess_j0 (N : Nat) (R : Type) (k0 : (List UInt8) → Int → Int → (List UInt8) → Option R) (k1 : Int → Int → (List UInt8) → Option R) (v25 : (List UInt8)) (v26 : Bool) (v27 : Int) (v28 : Int) (v29 : (List UInt8)) : Option R :=
 (bif v26 then
 (r2_guess_l1 N _ (fun v30 v31 v32 v33 =>
 (k1 5 0 v30)) (fun v34 v35 v36 v37 =>
 (k1 v35 v36 v37)) N v25 [] 2 v27 v28 v29)
 else
 (bif (decide (1 < (v25.length : Int))) then
 (Option.bind (nth v25 0) fun v38 =>
 (r2_guess_j2 N _ k0 k1 v25 (decide ((v38.toNat : Int) = 39)) v27 v28 v29))
 else
 (r2_guess_j2 N _ k0 k1 v25 false v27 v28 v29)))
def r2_guess_cps (N : Nat) (R : Type) (K : Int → Int → (List UInt8) → Option R) (v1 : (List UInt8)) : Option R :=
 (bif (decide (v1 = [110, 117, 108, 108])) then
 (K 0 0 [])
 else
 (bif (decide (v1 = [102, 97, 108, 115, 101])) then
 (Option.bind (r2_Of N 0) fun v2 =>
 (K v2.1 v2.2.1 v2.2.2.1))
 else
 (bif (decide (v1 = [116, 114, 117, 101])) then
 (Option.bind (r2_Of N 1) fun v3 =>
 (K v3.1 v3.2.1 v3.2.2.1))
 else
 (bif (decide (2 < (v1.length : Int))) then
 (Option.bind (nth v1 0) fun v4 =>
 (r2_guess_j0 N _ (fun v5 v6 v7 v8 =>
 (r2_guess_j4 N _ K v5 v6 v7 v8)) K v1 (decide ((v4.toNat : Int) = 120)) 0 0 []))
 else
 (r2_guess_j0 N _ (fun v15 v16 v17 v18 =>
 (r2_guess_j4 N _ K v15 v16 v17 v18)) K v1 false 0 0 [])))))
def r2_guess (N : Nat) (v1 : (List UInt8)) : Option (Int × Int × (List UInt8) × Unit) := r2_guess_cps N _ (fun a0 a1 a2 => some (a0, (a1, (a2, ())))) v1
def r2_Right_j0 (N : Nat) (R : Type) (k0 : Int → Int → (List UInt8) → Option R) (k1 : Bool → Int → Int → (List UInt8) → Option R) (v18 : Int) (v19 : Bool) (v20 : Int) (v21 : Int) (v22 : (List UInt8)) : Option R :=
 (bif v19 then
 (k1 (decide (v22 = [])) v20 v21 v22)
 else
 (bif (decide (v18 = 4)) then
 (bif (decide (v21 = 0)) then
 (k1 (decide ((v22.length : Int) ≤ 200)) v20 v21 v22)
 else
 (k1 false v20 v21 v22))
 else
 (bif (decide (v18 = 5)) then
 (bif (decide (v21 = 0)) then
 (k1 (decide ((v22.length : Int) ≤ 200)) v20 v21 v22)
 else
 (k1 false v20 v21 v22))
 else
 (k0 v20 v21 v22))))
def r2_Right_cps (N : Nat) (R : Type) (K : Bool → Option R) (v1 : Int) (v2 : Int) (v3 : (List UInt8)) : Option R :=
 (bif (decide (v1 = 0)) then
 (bif (decide (v2 = 0)) then
 (K (decide (v3 = [])))
 else
 (K false))
 else
 (bif (decide (v1 = 1)) then
 (bif (decide (v2 = 0)) then
 (K (decide (v3 = [])))
 else
 (bif (decide (v2 = 1)) then
 (K (decide (v3 = [])))
 else
 (K false)))
 else
 (bif (decide (v1 = 2)) then
 (r2_Right_j0 N _ (fun v4 v5 v6 =>
 (K false)) (fun v7 v8 v9 v10 =>
 (K v7)) v1 true v1 v2 v3)
 else
 (r2_Right_j0 N _ (fun v11 v12 v13 =>
 (K false)) (fun v14 v15 v16 v17 =>
 (K v14)) v1 (decide (v1 = 3)) v1 v2 v3))))
def r2_Right (N : Nat) (v1 : Int) (v2 : Int) (v3 : (List UInt8)) : Option (Bool × Unit) := r2_Right_cps N _ (fun a0 => some (a0, ())) v1 v2 v3
def r2_size_cps (N : Nat) (R : Type) (K : Int → (List UInt8) → Option R) (v1 : Int) : Option R :=
 (bif (decide (v1 < 0)) then
 (K (IntKind.wrap .u64 ((IntKind.wrap .u64 (IntKind.wrap .i64 (0 - (IntKind.wrap .i64 (v1 + 1))))) + 1)) [45])
 else
 (K (IntKind.wrap .u64 v1) []))
def r2_size (N : Nat) (v1 : Int) : Option (Int × (List UInt8) × Unit) := r2_size_cps N _ (fun a0 a1 => some (a0, (a1, ()))) v1
def r2_digits_l0B (N : Nat) (R : Type) (rec : Int → Int → (List UInt8) → Option R) (k0 : (List UInt8) → Option R) (v4 : Int) (v5 : Int) (v6 : (List UInt8)) : Option R :=
 (bif (decide (0 < v4)) then
 (bif (decide (0 ≤ (IntKind.wrap .u64 ((Int.tmod v4 10) + 1)) ∧ (IntKind.wrap .u64 ((Int.tmod v4 10) + 1)) ≤ ((10 : Nat) : Int))) then
 (bif (decide (0 ≤ (Int.tmod v4 10) ∧ (Int.tmod v4 10) ≤ (((Int.toNat (IntKind.wrap .u64 ((Int.tmod v4 10) + 1))) : Nat) : Int))) then
 (bif (room 1 ((List.drop (Int.toNat (Int.tmod v4 10)) (List.take (Int.toNat (IntKind.wrap .u64 ((Int.tmod v4 10) + 1))) ([48, 49, 50, 51, 52, 53, 54, 55, 56, 57] : List UInt8))).length + v6.length)) then
 (rec (IntKind.wrap .u64 (Int.tdiv v4 10)) v5 ((List.drop (Int.toNat (Int.tmod v4 10)) (List.take (Int.toNat (IntKind.wrap .u64 ((Int.tmod v4 10) + 1))) ([48, 49, 50, 51, 52, 53, 54, 55, 56, 57] : List UInt8))) ++ v6))
 else
 none)
 else
 none)
 else
 none)
 else
 (bif (decide ((v6.length : Int) < v5)) then
 (bif (decide (0 ≤ (IntKind.wrap .u64 ((Int.tmod v4 10) + 1)) ∧ (IntKind.wrap .u64 ((Int.tmod v4 10) + 1)) ≤ ((10 : Nat) : Int))) then
 (bif (decide (0 ≤ (Int.tmod v4 10) ∧ (Int.tmod v4 10) ≤ (((Int.toNat (IntKind.wrap .u64 ((Int.tmod v4 10) + 1))) : Nat) : Int))) then
 (bif (room 1 ((List.drop (Int.toNat (Int.tmod v4 10)) (List.take (Int.toNat (IntKind.wrap .u64 ((Int.tmod v4 10) + 1))) ([48, 49, 50, 51, 52, 53, 54, 55, 56, 57] : List UInt8))).length + v6.length)) then
 (rec (IntKind.wrap .u64 (Int.tdiv v4 10)) v5 ((List.drop (Int.toNat (Int.tmod v4 10)) (List.take (Int.toNat (IntKind.wrap .u64 ((Int.tmod v4 10) + 1))) ([48, 49, 50, 51, 52, 53, 54, 55, 56, 57] : List UInt8))) ++ v6))
 else
 none)
 else
 none)
 else
 none)
 else
 (k0 v6)))
def r2_digits_l0 (N : Nat) (R : Type) (k0 : (List UInt8) → Option R) : Nat → Int → Int → (List UInt8) → Option R
 | 0 => fun _ _ _ => none
 | n + 1 => r2_digits_l0B N R (r2_digits_l0 N R k0 n) k0
def r2_digits_cps (N : Nat) (R : Type) (K : (List UInt8) → Option R) (v1 : Int) (v2 : Int) : Option R :=
 (r2_digits_l0 N _ K N v1 v2 [])
def r2_digits (N : Nat) (v1 : Int) (v2 : Int) : Option ((List UInt8) × Unit) := r2_digits_cps N _ (fun a0 => some (a0, ())) v1 v2
def r2_Text_l3B (N : Nat) (R : Type) (rec : (List UInt8) → Int → Int → Int → (List UInt8) → Option R) (k0 : (List UInt8) → Int → Int → (List UInt8) → Option R) (v57 : (List UInt8)) (v58 : Int) (v59 : Int) (v60 : Int) (v61 : (List UInt8)) : Option R :=
 (bif (decide (v58 < (v61.length : Int))) then
 (bif (decide (0 ≤ (IntKind.wrap .i64 (v58 + 1)) ∧ (IntKind.wrap .i64 (v58 + 1)) ≤ ((v61.length : Nat) : Int))) then
 (bif (decide (0 ≤ v58 ∧ v58 ≤ (((Int.toNat (IntKind.wrap .i64 (v58 + 1))) : Nat) : Int))) then
 (bif (room 1 (v57.length + (List.drop (Int.toNat v58) (List.take (Int.toNat (IntKind.wrap .i64 (v58 + 1))) v61)).length)) then
 (Option.bind (nth v61 v58) fun v62 =>
 (bif (decide ((v62.toNat : Int) = 39)) then
 (bif (room 1 ((v57 ++ (List.drop (Int.toNat v58) (List.take (Int.toNat (IntKind.wrap .i64 (v58 + 1))) v61))).length + ([39] : List UInt8).length)) then
 (rec ((v57 ++ (List.drop (Int.toNat v58) (List.take (Int.toNat (IntKind.wrap .i64 (v58 + 1))) v61))) ++ [39]) (IntKind.wrap .i64 (v58 + 1)) v59 v60 v61)
 else
 none)
 else
 (rec (v57 ++ (List.drop (Int.toNat v58) (List.take (Int.toNat (IntKind.wrap .i64 (v58 + 1))) v61))) (IntKind.wrap .i64 (v58 + 1)) v59 v60 v61)))
 else
 none)
 else
 none)
 else
 none)
 else
 (k0 v57 v59 v60 v61))
def r2_Text_l3 (N : Nat) (R : Type) (k0 : (List UInt8) → Int → Int → (List UInt8) → Option R) : Nat → (List UInt8) → Int → Int → Int → (List UInt8) → Option R
 | 0 => fun _ _ _ _ _ => none
 | n + 1 => r2_Text_l3B N R (r2_Text_l3 N R k0 n) k0
def r2_Text_l2B (N : Nat) (R : Type) (rec : (List UInt8) → Int → Int → Int → (List UInt8) → Option R) (k0 : (List UInt8) → Int → Int → (List UInt8) → Option R) (v48 : (List UInt8)) (v49 : Int) (v50 : Int) (v51 : Int) (v52 : (List UInt8)) : Option R :=
 (bif (decide (v49 < (v52.length : Int))) then
 (Option.bind (nth v52 v49) fun v53 =>
 (Option.bind (nth v52 v49) fun v54 =>
 (bif (decide (0 ≤ (IntKind.wrap .u8 ((IntKind.wrap .u8 (Int.tdiv (v54.toNat : Int) 16)) + 1)) ∧ (IntKind.wrap .u8 ((IntKind.wrap .u8 (Int.tdiv (v54.toNat : Int) 16)) + 1)) ≤ ((16 : Nat) : Int))) then
 (bif (decide (0 ≤ (IntKind.wrap .u8 (Int.tdiv (v53.toNat : Int) 16)) ∧ (IntKind.wrap .u8 (Int.tdiv (v53.toNat : Int) 16)) ≤ (((Int.toNat (IntKind.wrap .u8 ((IntKind.wrap .u8 (Int.tdiv (v54.toNat : Int) 16)) + 1))) : Nat) : Int))) then
 (bif (room 1 (v48.length + (List.drop (Int.toNat (IntKind.wrap .u8 (Int.tdiv (v53.toNat : Int) 16))) (List.take (Int.toNat (IntKind.wrap .u8 ((IntKind.wrap .u8 (Int.tdiv (v54.toNat : Int) 16)) + 1))) ([48, 49, 50, 51, 52, 53, 54, 55, 56, 57, 97, 98, 99, 100, 101, 102] : List UInt8))).length)) then
 (Option.bind (nth v52 v49) fun v55 =>
 (Option.bind (nth v52 v49) fun v56 =>
 (bif (decide (0 ≤ (IntKind.wrap .u8 ((Int.tmod (v56.toNat : Int) 16) + 1)) ∧ (IntKind.wrap .u8 ((Int.tmod (v56.toNat : Int) 16) + 1)) ≤ ((16 : Nat) : Int))) then
 (bif (decide (0 ≤ (Int.tmod (v55.toNat : Int) 16) ∧ (Int.tmod (v55.toNat : Int) 16) ≤ (((Int.toNat (IntKind.wrap .u8 ((Int.tmod (v56.toNat : Int) 16) + 1))) : Nat) : Int))) then
 (bif (room 1 ((v48 ++ (List.drop (Int.toNat (IntKind.wrap .u8 (Int.tdiv (v53.toNat : Int) 16))) (List.take (Int.toNat (IntKind.wrap .u8 ((IntKind.wrap .u8 (Int.tdiv (v54.toNat : Int) 16)) + 1))) ([48, 49, 50, 51, 52, 53, 54, 55, 56, 57, 97, 98, 99, 100, 101, 102] : List UInt8)))).length + (List.drop (Int.toNat (Int.tmod (v55.toNat : Int) 16)) (List.take (Int.toNat (IntKind.wrap .u8 ((Int.tmod (v56.toNat : Int) 16) + 1))) ([48, 49, 50, 51, 52, 53, 54, 55, 56, 57, 97, 98, 99, 100, 101, 102] : List UInt8))).length)) then
 (rec ((v48 ++ (List.drop (Int.toNat (IntKind.wrap .u8 (Int.tdiv (v53.toNat : Int) 16))) (List.take (Int.toNat (IntKind.wrap .u8 ((IntKind.wrap .u8 (Int.tdiv (v54.toNat : Int) 16)) + 1))) ([48, 49, 50, 51, 52, 53, 54, 55, 56, 57, 97, 98, 99, 100, 101, 102] : List UInt8)))) ++ (List.drop (Int.toNat (Int.tmod (v55.toNat : Int) 16)) (List.take (Int.toNat (IntKind.wrap .u8 ((Int.tmod (v56.toNat : Int) 16) + 1))) ([48, 49, 50, 51, 52, 53, 54, 55, 56, 57, 97, 98, 99, 100, 101, 102] : List UInt8)))) (IntKind.wrap .i64 (v49 + 1)) v50 v51 v52)
 else
 none)
 else
 none)
 else
 none)))
 else
 none)
 else
 none)
 else
 none)))
 else
 (k0 v48 v50 v51 v52))
def r2_Text_l2 (N : Nat) (R : Type) (k0 : (List UInt8) → Int → Int → (List UInt8) → Option R) : Nat → (List UInt8) → Int → Int → Int → (List UInt8) → Option R
 | 0 => fun _ _ _ _ _ => none
 | n + 1 => r2_Text_l2B N R (r2_Text_l2 N R k0 n) k0
def r2_Text_j1 (N : Nat) (R : Type) (k0 : (List UInt8) → Int → Int → (List UInt8) → Option R) (v37 : Int) (v38 : Int) (v39 : (List UInt8)) : Option R :=
 (bif (decide (v37 = 5)) then
 (r2_Text_l2 N _ (fun v40 v41 v42 v43 =>
 (bif (room 1 (([120, 39] : List UInt8).length + v40.length)) then
 (bif (room 1 (([120, 39] ++ v40).length + ([39] : List UInt8).length)) then
 (k0 (([120, 39] ++ v40) ++ [39]) v41 v42 v43)
 else
 none)
 else
 none)) N [] 0 v37 v38 v39)
 else
 (r2_Text_l3 N _ (fun v44 v45 v46 v47 =>
 (bif (room 1 (([39] : List UInt8).length + v44.length)) then
 (bif (room 1 (([39] ++ v44).length + ([39] : List UInt8).length)) then
 (k0 (([39] ++ v44) ++ [39]) v45 v46 v47)
 else
 none)
 else
 none)) N [] 0 v37 v38 v39))
def r2_Text_j0 (N : Nat) (R : Type) (k0 : Int → Int → (List UInt8) → Option R) (k1 : (List UInt8) → Int → Int → (List UInt8) → Option R) (v28 : Int) (v29 : (List UInt8)) (v30 : Bool) (v31 : Int) (v32 : Int) (v33 : (List UInt8)) : Option R :=
 (bif v30 then
 (k1 [102, 97, 108, 115, 101] v31 v32 v33)
 else
 (bif (decide (v31 = 1)) then
 (k1 [116, 114, 117, 101] v31 v32 v33)
 else
 (bif (decide (v31 = 2)) then
 (Option.bind (r2_digits N v28 1) fun v34 =>
 (bif (room 1 (v29.length + v34.1.length)) then
 (k1 (v29 ++ v34.1) v31 v32 v33)
 else
 none))
 else
 (bif (decide (v31 = 3)) then
 (Option.bind (r2_digits N (IntKind.wrap .u64 (Int.tdiv v28 10000)) 1) fun v35 =>
 (bif (room 1 (v29.length + v35.1.length)) then
 (bif (room 1 ((v29 ++ v35.1).length + ([46] : List UInt8).length)) then
 (Option.bind (r2_digits N (Int.tmod v28 10000) 4) fun v36 =>
 (bif (room 1 (((v29 ++ v35.1) ++ [46]).length + v36.1.length)) then
 (k1 (((v29 ++ v35.1) ++ [46]) ++ v36.1) v31 v32 v33)
 else
 none))
 else
 none)
 else
 none))
 else
 (k0 v31 v32 v33)))))
def r2_Text_cps (N : Nat) (R : Type) (K : (List UInt8) → Option R) (v1 : Int) (v2 : Int) (v3 : (List UInt8)) : Option R :=
 (Option.bind (r2_Right N v1 v2 v3) fun v4 =>
 (Option.bind (r2_size N v2) fun v5 =>
 (bif (!v4.1) then
 (K [63])
 else
 (bif (decide (v1 = 0)) then
 (K [110, 117, 108, 108])
 else
 (bif (decide (v1 = 1)) then
 (r2_Text_j0 N _ (fun v6 v7 v8 =>
 (r2_Text_j1 N _ (fun v9 v10 v11 v12 =>
 (K v9)) v6 v7 v8)) (fun v13 v14 v15 v16 =>
 (K v13)) v5.1 v5.2.1 (decide (v2 = 0)) v1 v2 v3)
 else
 (r2_Text_j0 N _ (fun v17 v18 v19 =>
 (r2_Text_j1 N _ (fun v20 v21 v22 v23 =>
 (K v20)) v17 v18 v19)) (fun v24 v25 v26 v27 =>
 (K v24)) v5.1 v5.2.1 false v1 v2 v3))))))
def r2_Text (N : Nat) (v1 : Int) (v2 : Int) (v3 : (List UInt8)) : Option ((List UInt8) × Unit) := r2_Text_cps N _ (fun a0 => some (a0, ())) v1 v2 v3
def r2_Read_cps (N : Nat) (R : Type) (K : Int → Int → (List UInt8) → Bool → Option R) (v1 : (List UInt8)) : Option R :=
 (bif (decide (403 < (v1.length : Int))) then
 (K 0 0 [] false)
 else
 (Option.bind (r2_guess N v1) fun v2 =>
 (Option.bind (r2_Right N v2.1 v2.2.1 v2.2.2.1) fun v3 =>
 (bif (!v3.1) then
 (K 0 0 [] false)
 else
 (Option.bind (r2_Text N v2.1 v2.2.1 v2.2.2.1) fun v4 =>
 (bif (!(decide (v4.1 = v1))) then
 (K 0 0 [] false)
 else
 (K v2.1 v2.2.1 v2.2.2.1 true)))))))
def r2_Read (N : Nat) (v1 : (List UInt8)) : Option (Int × Int × (List UInt8) × Bool × Unit) := r2_Read_cps N _ (fun a0 a1 a2 a3 => some (a0, (a1, (a2, (a3, ()))))) v1
def r6_bytes_cps (N : Nat) (R : Type) (K : Int → (List UInt8) → Int → Int → (List UInt8) → Int → Option R) (v1 : (List UInt8)) : Option R :=
 (bif (decide (0 ≤ (1 : Int) ∧ (1 : Int) ≤ ((v1.length : Nat) : Int))) then
 (Option.bind (r6_quoted N (List.drop 1 (List.take v1.length v1))) fun v2 =>
 (bif (decide (v2.1 = 0)) then
 (K 0 [] 0 0 [] 0)
 else
 (bif (decide (0 ≤ (IntKind.wrap .i64 (v2.1 + 1)) ∧ (IntKind.wrap .i64 (v2.1 + 1)) ≤ ((v1.length : Nat) : Int))) then
 (Option.bind (r6_small N (List.drop 0 (List.take (Int.toNat (IntKind.wrap .i64 (v2.1 + 1))) v1))) fun v3 =>
 (Option.bind (r2_Read N v3.1) fun v4 =>
 (bif (!v4.2.2.2.1) then
 (K 0 [] 0 0 [] 0)
 else
 (bif (decide (0 ≤ (IntKind.wrap .i64 (v2.1 + 1)) ∧ (IntKind.wrap .i64 (v2.1 + 1)) ≤ ((v1.length : Nat) : Int))) then
 (K 4 (List.drop 0 (List.take (Int.toNat (IntKind.wrap .i64 (v2.1 + 1))) v1)) v4.1 v4.2.1 v4.2.2.1 0)
 else
 none))))
 else
 none)))
 else
 none)
def r6_bytes (N : Nat) (v1 : (List UInt8)) : Option (Int × (List UInt8) × Int × Int × (List UInt8) × Int × Unit) := r6_bytes_cps N _ (fun a0 a1 a2 a3 a4 a5 => some (a0, (a1, (a2, (a3, (a4, (a5, ()))))))) v1
def r6_part_cps (N : Nat) (R : Type) (K : Bool → Option R) (v1 : Int) : Option R :=
 (Option.bind (r6_letter N v1) fun v2 =>
 (Option.bind (r6_figure N v1) fun v3 =>
 (bif v2.1 then
 (K true)
 else
 (bif v3.1 then
 (K true)
 else
 (K (decide (v1 = 95)))))))
def r6_part (N : Nat) (v1 : Int) : Option (Bool × Unit) := r6_part_cps N _ (fun a0 => some (a0, ())) v1
def r6_number_j7 (N : Nat) (R : Type) (k0 : Int → (List UInt8) → Int → Int → (List UInt8) → Int → Option R) (v184 : (List UInt8)) (v185 : Int) (v186 : (List UInt8)) (v187 : Int) (v188 : (List UInt8)) (v189 : Int) (v190 : Int) (v191 : (List UInt8)) (v192 : Int) : Option R :=
 (Option.bind (r2_Read N v186) fun v193 =>
 (bif (!v193.2.2.2.1) then
 (k0 0 [] 0 0 [] 0)
 else
 (bif (decide (0 ≤ v185 ∧ v185 ≤ ((v184.length : Nat) : Int))) then
 (k0 2 (List.drop 0 (List.take (Int.toNat v185) v184)) v193.1 v193.2.1 v193.2.2.1 0)
 else
 none)))
def r6_number_l6B (N : Nat) (R : Type) (rec : (List UInt8) → Int → (List UInt8) → Int → Int → (List UInt8) → Int → Int → (List UInt8) → Int → Option R) (k0 : (List UInt8) → Int → (List UInt8) → Int → (List UInt8) → Int → Int → (List UInt8) → Int → Option R) (v174 : (List UInt8)) (v175 : Int) (v176 : (List UInt8)) (v177 : Int) (v178 : Int) (v179 : (List UInt8)) (v180 : Int) (v181 : Int) (v182 : (List UInt8)) (v183 : Int) : Option R :=
 (bif (decide (v177 < 5)) then
 (bif (room 1 (v176.length + ([48] : List UInt8).length)) then
 (rec v174 v175 (v176 ++ [48]) (IntKind.wrap .i64 (v177 + 1)) v178 v179 v180 v181 v182 v183)
 else
 none)
 else
 (k0 v174 v175 v176 v178 v179 v180 v181 v182 v183))
def r6_number_l6 (N : Nat) (R : Type) (k0 : (List UInt8) → Int → (List UInt8) → Int → (List UInt8) → Int → Int → (List UInt8) → Int → Option R) : Nat → (List UInt8) → Int → (List UInt8) → Int → Int → (List UInt8) → Int → Int → (List UInt8) → Int → Option R
 | 0 => fun _ _ _ _ _ _ _ _ _ _ => none
 | n + 1 => r6_number_l6B N R (r6_number_l6 N R k0 n) k0
def r6_number_l5B (N : Nat) (R : Type) (rec : (List UInt8) → Int → Int → (List UInt8) → Int → (List UInt8) → Int → Int → (List UInt8) → Int → Option R) (k0 : (List UInt8) → Int → Int → (List UInt8) → Int → (List UInt8) → Int → Int → (List UInt8) → Int → Option R) (v163 : (List UInt8)) (v164 : Int) (v165 : Int) (v166 : (List UInt8)) (v167 : Int) (v168 : (List UInt8)) (v169 : Int) (v170 : Int) (v171 : (List UInt8)) (v172 : Int) : Option R :=
 (bif (decide (1 < (v166.length : Int))) then
 (Option.bind (nth v166 0) fun v173 =>
 (bif (decide ((v173.toNat : Int) = 48)) then
 (bif (decide (0 ≤ (1 : Int) ∧ (1 : Int) ≤ ((v166.length : Nat) : Int))) then
 (rec v163 v164 v165 (List.drop 1 (List.take v166.length v166)) v167 v168 v169 v170 v171 v172)
 else
 none)
 else
 (k0 v163 v164 v165 v166 v167 v168 v169 v170 v171 v172)))
 else
 (k0 v163 v164 v165 v166 v167 v168 v169 v170 v171 v172))
def r6_number_l5 (N : Nat) (R : Type) (k0 : (List UInt8) → Int → Int → (List UInt8) → Int → (List UInt8) → Int → Int → (List UInt8) → Int → Option R) : Nat → (List UInt8) → Int → Int → (List UInt8) → Int → (List UInt8) → Int → Int → (List UInt8) → Int → Option R
 | 0 => fun _ _ _ _ _ _ _ _ _ _ => none
 | n + 1 => r6_number_l5B N R (r6_number_l5 N R k0 n) k0
def r6_number_j4 (N : Nat) (R : Type) (k0 : Int → (List UInt8) → Int → Int → (List UInt8) → Int → Option R) (v123 : (List UInt8)) (v124 : Int) (v125 : Int) (v126 : Int) (v127 : (List UInt8)) (v128 : Int) (v129 : Int) (v130 : (List UInt8)) (v131 : Int) : Option R :=
 (bif (decide (0 ≤ v125 ∧ v125 ≤ ((v123.length : Nat) : Int))) then
 (r6_number_l5 N _ (fun v132 v133 v134 v135 v136 v137 v138 v139 v140 v141 =>
 (bif (decide (v134 < v133)) then
 (bif (decide (0 ≤ v133 ∧ v133 ≤ ((v132.length : Nat) : Int))) then
 (bif (decide (0 ≤ v134 ∧ v134 ≤ (((Int.toNat v133) : Nat) : Int))) then
 (bif (room 1 (v135.length + (List.drop (Int.toNat v134) (List.take (Int.toNat v133) v132)).length)) then
 (r6_number_l6 N _ (fun v142 v143 v144 v145 v146 v147 v148 v149 v150 =>
 (r6_number_j7 N _ k0 v142 v143 v144 v145 v146 v147 v148 v149 v150)) N v132 v133 (v135 ++ (List.drop (Int.toNat v134) (List.take (Int.toNat v133) v132))) (IntKind.wrap .i64 (v133 - v134)) v136 v137 v138 v139 v140 v141)
 else
 none)
 else
 none)
 else
 none)
 else
 (r6_number_j7 N _ k0 v132 v133 v135 v136 v137 v138 v139 v140 v141))) N v123 v124 v125 (List.drop 0 (List.take (Int.toNat v125) v123)) v126 v127 v128 v129 v130 v131)
 else
 none)
def r6_number_j3 (N : Nat) (R : Type) (k0 : Int → (List UInt8) → Int → Int → (List UInt8) → Int → Option R) (v99 : (List UInt8)) (v100 : Int) (v101 : Int) (v102 : Int) (v103 : (List UInt8)) (v104 : Int) (v105 : Int) (v106 : (List UInt8)) (v107 : Int) : Option R :=
 (bif (decide (v100 < (v99.length : Int))) then
 (Option.bind (nth v99 v100) fun v108 =>
 (Option.bind (r6_part N (v108.toNat : Int)) fun v109 =>
 (bif v109.1 then
 (k0 0 [] 0 0 [] 0)
 else
 (Option.bind (nth v99 v100) fun v110 =>
 (bif (decide ((v110.toNat : Int) = 46)) then
 (k0 0 [] 0 0 [] 0)
 else
 (r6_number_j4 N _ k0 v99 v100 v101 v102 v103 v104 v105 v106 v107))))))
 else
 (r6_number_j4 N _ k0 v99 v100 v101 v102 v103 v104 v105 v106 v107))
def r6_number_l2B (N : Nat) (R : Type) (rec : (List UInt8) → Int → Int → Int → (List UInt8) → Int → Int → (List UInt8) → Int → Option R) (k0 : (List UInt8) → Int → Int → Int → (List UInt8) → Int → Int → (List UInt8) → Int → Option R) (v88 : (List UInt8)) (v89 : Int) (v90 : Int) (v91 : Int) (v92 : (List UInt8)) (v93 : Int) (v94 : Int) (v95 : (List UInt8)) (v96 : Int) : Option R :=
 (bif (decide (v89 < (v88.length : Int))) then
 (Option.bind (nth v88 v89) fun v97 =>
 (bif (decide (48 ≤ (v97.toNat : Int))) then
 (Option.bind (nth v88 v89) fun v98 =>
 (bif (decide ((v98.toNat : Int) ≤ 57)) then
 (rec v88 (IntKind.wrap .i64 (v89 + 1)) v90 v91 v92 v93 v94 v95 v96)
 else
 (k0 v88 v89 v90 v91 v92 v93 v94 v95 v96)))
 else
 (k0 v88 v89 v90 v91 v92 v93 v94 v95 v96)))
 else
 (k0 v88 v89 v90 v91 v92 v93 v94 v95 v96))
def r6_number_l2 (N : Nat) (R : Type) (k0 : (List UInt8) → Int → Int → Int → (List UInt8) → Int → Int → (List UInt8) → Int → Option R) : Nat → (List UInt8) → Int → Int → Int → (List UInt8) → Int → Int → (List UInt8) → Int → Option R
 | 0 => fun _ _ _ _ _ _ _ _ _ => none
 | n + 1 => r6_number_l2B N R (r6_number_l2 N R k0 n) k0
def r6_number_j1 (N : Nat) (R : Type) (k0 : (List UInt8) → Int → Int → Int → (List UInt8) → Int → Int → (List UInt8) → Int → Option R) (k1 : (List UInt8) → Int → Int → Int → (List UInt8) → Int → Int → (List UInt8) → Int → Option R) (v69 : (List UInt8)) (v70 : Int) (v71 : Int) (v72 : Bool) (v73 : Int) (v74 : (List UInt8)) (v75 : Int) (v76 : Int) (v77 : (List UInt8)) (v78 : Int) : Option R :=
 (bif v72 then
 (r6_number_l2 N _ (fun v79 v80 v81 v82 v83 v84 v85 v86 v87 =>
 (bif (decide (v80 = (IntKind.wrap .i64 (v81 + 1)))) then
 (k1 v79 v80 v81 0 [] 0 0 [] 0)
 else
 (bif (decide ((IntKind.wrap .i64 (v81 + 5)) < v80)) then
 (k1 v79 v80 v81 0 [] 0 0 [] 0)
 else
 (k0 v79 v80 v81 v82 v83 v84 v85 v86 v87)))) N v69 (IntKind.wrap .i64 (v70 + 1)) v71 v73 v74 v75 v76 v77 v78)
 else
 (k0 v69 v70 v71 v73 v74 v75 v76 v77 v78))
def r6_number_l0B (N : Nat) (R : Type) (rec : (List UInt8) → Int → Int → (List UInt8) → Int → Int → (List UInt8) → Int → Option R) (k0 : (List UInt8) → Int → Int → (List UInt8) → Int → Int → (List UInt8) → Int → Option R) (v59 : (List UInt8)) (v60 : Int) (v61 : Int) (v62 : (List UInt8)) (v63 : Int) (v64 : Int) (v65 : (List UInt8)) (v66 : Int) : Option R :=
 (bif (decide (v60 < (v59.length : Int))) then
 (Option.bind (nth v59 v60) fun v67 =>
 (bif (decide (48 ≤ (v67.toNat : Int))) then
 (Option.bind (nth v59 v60) fun v68 =>
 (bif (decide ((v68.toNat : Int) ≤ 57)) then
 (rec v59 (IntKind.wrap .i64 (v60 + 1)) v61 v62 v63 v64 v65 v66)
 else
 (k0 v59 v60 v61 v62 v63 v64 v65 v66)))
 else
 (k0 v59 v60 v61 v62 v63 v64 v65 v66)))
 else
 (k0 v59 v60 v61 v62 v63 v64 v65 v66))
def r6_number_l0 (N : Nat) (R : Type) (k0 : (List UInt8) → Int → Int → (List UInt8) → Int → Int → (List UInt8) → Int → Option R) : Nat → (List UInt8) → Int → Int → (List UInt8) → Int → Int → (List UInt8) → Int → Option R
 | 0 => fun _ _ _ _ _ _ _ _ => none
 | n + 1 => r6_number_l0B N R (r6_number_l0 N R k0 n) k0
def r6_number_cps (N : Nat) (R : Type) (K : Int → (List UInt8) → Int → Int → (List UInt8) → Int → Option R) (v1 : (List UInt8)) : Option R :=
 (r6_number_l0 N _ (fun v2 v3 v4 v5 v6 v7 v8 v9 =>
 (bif (decide (v3 < (v2.length : Int))) then
 (Option.bind (nth v2 v3) fun v10 =>
 (r6_number_j1 N _ (fun v11 v12 v13 v14 v15 v16 v17 v18 v19 =>
 (r6_number_j3 N _ K v11 v12 v13 v14 v15 v16 v17 v18 v19)) (fun v26 v27 v28 v29 v30 v31 v32 v33 v34 =>
 (K v29 v30 v31 v32 v33 v34)) v2 v3 v3 (decide ((v10.toNat : Int) = 46)) v4 v5 v6 v7 v8 v9))
 else
 (r6_number_j1 N _ (fun v35 v36 v37 v38 v39 v40 v41 v42 v43 =>
 (r6_number_j3 N _ K v35 v36 v37 v38 v39 v40 v41 v42 v43)) (fun v50 v51 v52 v53 v54 v55 v56 v57 v58 =>
 (K v53 v54 v55 v56 v57 v58)) v2 v3 v3 false v4 v5 v6 v7 v8 v9))) N v1 0 0 [] 0 0 [] 0)
def r6_number (N : Nat) (v1 : (List UInt8)) : Option (Int × (List UInt8) × Int × Int × (List UInt8) × Int × Unit) := r6_number_cps N _ (fun a0 a1 a2 a3 a4 a5 => some (a0, (a1, (a2, (a3, (a4, (a5, ()))))))) v1
def r6_text_cps (N : Nat) (R : Type) (K : Int → (List UInt8) → Int → Int → (List UInt8) → Int → Option R) (v1 : (List UInt8)) : Option R :=
 (Option.bind (r6_quoted N v1) fun v2 =>
 (bif (decide (v2.1 = 0)) then
 (K 0 [] 0 0 [] 0)
 else
 (bif (decide (0 ≤ v2.1 ∧ v2.1 ≤ ((v1.length : Nat) : Int))) then
 (Option.bind (r2_Read N (List.drop 0 (List.take (Int.toNat v2.1) v1))) fun v3 =>
 (bif (!v3.2.2.2.1) then
 (K 0 [] 0 0 [] 0)
 else
 (bif (decide (0 ≤ v2.1 ∧ v2.1 ≤ ((v1.length : Nat) : Int))) then
 (K 3 (List.drop 0 (List.take (Int.toNat v2.1) v1)) v3.1 v3.2.1 v3.2.2.1 0)
 else
 none)))
 else
 none)))
def r6_text (N : Nat) (v1 : (List UInt8)) : Option (Int × (List UInt8) × Int × Int × (List UInt8) × Int × Unit) := r6_text_cps N _ (fun a0 a1 a2 a3 a4 a5 => some (a0, (a1, (a2, (a3, (a4, (a5, ()))))))) v1
def r6_sign_l0B (N : Nat) (R : Type) (rec : (List UInt8) → (List (List UInt8)) → Int → Int → (List UInt8) → Int → Int → (List UInt8) → Int → Option R) (k0 : Int → (List UInt8) → Int → Int → (List UInt8) → Int → Option R) (k1 : Int → (List UInt8) → Int → Int → (List UInt8) → Int → Option R) (v14 : (List UInt8)) (v15 : (List (List UInt8))) (v16 : Int) (v17 : Int) (v18 : (List UInt8)) (v19 : Int) (v20 : Int) (v21 : (List UInt8)) (v22 : Int) : Option R :=
 (bif (decide (v16 < (v15.length : Int))) then
 (Option.bind (nth v15 v16) fun v23 =>
 (bif (decide ((v23.length : Int) ≤ (v14.length : Int))) then
 (Option.bind (nth v15 v16) fun v24 =>
 (bif (decide (0 ≤ (v24.length : Int) ∧ (v24.length : Int) ≤ ((v14.length : Nat) : Int))) then
 (Option.bind (nth v15 v16) fun v25 =>
 (bif (decide ((List.drop 0 (List.take (Int.toNat (v24.length : Int)) v14)) = v25)) then
 (Option.bind (nth v15 v16) fun v26 =>
 (k1 5 v26 0 0 [] 0))
 else
 (rec v14 v15 (IntKind.wrap .i64 (v16 + 1)) v17 v18 v19 v20 v21 v22)))
 else
 none))
 else
 (rec v14 v15 (IntKind.wrap .i64 (v16 + 1)) v17 v18 v19 v20 v21 v22)))
 else
 (k0 v17 v18 v19 v20 v21 v22))
def r6_sign_l0 (N : Nat) (R : Type) (k0 : Int → (List UInt8) → Int → Int → (List UInt8) → Int → Option R) (k1 : Int → (List UInt8) → Int → Int → (List UInt8) → Int → Option R) : Nat → (List UInt8) → (List (List UInt8)) → Int → Int → (List UInt8) → Int → Int → (List UInt8) → Int → Option R
 | 0 => fun _ _ _ _ _ _ _ _ _ => none
 | n + 1 => r6_sign_l0B N R (r6_sign_l0 N R k0 k1 n) k0 k1
def r6_sign_cps (N : Nat) (R : Type) (K : Int → (List UInt8) → Int → Int → (List UInt8) → Int → Option R) (v1 : (List UInt8)) : Option R :=
 (r6_sign_l0 N _ (fun v2 v3 v4 v5 v6 v7 =>
 (K 0 [] 0 0 [] 0)) K N v1 ([[60, 61], [62, 61], [60, 62], [40], [41], [44], [42], [43], [45], [47], [61], [60], [62], [46], [59]] : (List (List UInt8))) 0 0 [] 0 0 [] 0)
def r6_sign (N : Nat) (v1 : (List UInt8)) : Option (Int × (List UInt8) × Int × Int × (List UInt8) × Int × Unit) := r6_sign_cps N _ (fun a0 a1 a2 a3 a4 a5 => some (a0, (a1, (a2, (a3, (a4, (a5, ()))))))) v1
def r6_next_l1B (N : Nat) (R : Type) (rec : (List UInt8) → Int → Bool → Int → (List UInt8) → Int → Int → (List UInt8) → Int → Option R) (k0 : (List UInt8) → Int → Int → (List UInt8) → Int → Int → (List UInt8) → Int → Option R) (v108 : (List UInt8)) (v109 : Int) (v110 : Bool) (v111 : Int) (v112 : (List UInt8)) (v113 : Int) (v114 : Int) (v115 : (List UInt8)) (v116 : Int) : Option R :=
 (bif v110 then
 (bif (decide ((IntKind.wrap .i64 (v109 + 1)) < (v108.length : Int))) then
 (Option.bind (nth v108 (IntKind.wrap .i64 (v109 + 1))) fun v117 =>
 (Option.bind (r6_part N (v117.toNat : Int)) fun v118 =>
 (rec v108 (IntKind.wrap .i64 (v109 + 1)) v118.1 v111 v112 v113 v114 v115 v116)))
 else
 (rec v108 (IntKind.wrap .i64 (v109 + 1)) false v111 v112 v113 v114 v115 v116))
 else
 (k0 v108 v109 v111 v112 v113 v114 v115 v116))
def r6_next_l1 (N : Nat) (R : Type) (k0 : (List UInt8) → Int → Int → (List UInt8) → Int → Int → (List UInt8) → Int → Option R) : Nat → (List UInt8) → Int → Bool → Int → (List UInt8) → Int → Int → (List UInt8) → Int → Option R
 | 0 => fun _ _ _ _ _ _ _ _ _ => none
 | n + 1 => r6_next_l1B N R (r6_next_l1 N R k0 n) k0
def r6_next_j0 (N : Nat) (R : Type) (k0 : (List UInt8) → Int → (List UInt8) → Int → Int → (List UInt8) → Int → Option R) (k1 : (List UInt8) → Int → (List UInt8) → Int → Int → (List UInt8) → Int → Option R) (v85 : (List UInt8)) (v86 : Bool) (v87 : Bool) (v88 : Bool) (v89 : Int) (v90 : (List UInt8)) (v91 : Int) (v92 : Int) (v93 : (List UInt8)) (v94 : Int) : Option R :=
 (bif v88 then
 (Option.bind (r6_bytes N v85) fun v95 =>
 (k1 v85 v95.1 v95.2.1 v95.2.2.1 v95.2.2.2.1 v95.2.2.2.2.1 v95.2.2.2.2.2.1))
 else
 (bif v86 then
 (r6_next_l1 N _ (fun v96 v97 v98 v99 v100 v101 v102 v103 =>
 (bif (decide (0 ≤ v97 ∧ v97 ≤ ((v96.length : Nat) : Int))) then
 (Option.bind (r6_small N (List.drop 0 (List.take (Int.toNat v97) v96))) fun v104 =>
 (k1 v96 1 v104.1 0 0 [] 0))
 else
 none)) N v85 0 true v89 v90 v91 v92 v93 v94)
 else
 (bif v87 then
 (Option.bind (r6_number N v85) fun v105 =>
 (k1 v85 v105.1 v105.2.1 v105.2.2.1 v105.2.2.2.1 v105.2.2.2.2.1 v105.2.2.2.2.2.1))
 else
 (Option.bind (nth v85 0) fun v106 =>
 (bif (decide ((v106.toNat : Int) = 39)) then
 (Option.bind (r6_text N v85) fun v107 =>
 (k1 v85 v107.1 v107.2.1 v107.2.2.1 v107.2.2.2.1 v107.2.2.2.2.1 v107.2.2.2.2.2.1))
 else
 (k0 v85 v89 v90 v91 v92 v93 v94))))))
def r6_next_cps (N : Nat) (R : Type) (K : Int → (List UInt8) → Int → Int → (List UInt8) → Int → Option R) (v1 : (List UInt8)) : Option R :=
 (Option.bind (nth v1 0) fun v2 =>
 (Option.bind (r6_letter N (v2.toNat : Int)) fun v3 =>
 (Option.bind (nth v1 0) fun v4 =>
 (Option.bind (r6_figure N (v4.toNat : Int)) fun v5 =>
 (Option.bind (nth v1 0) fun v6 =>
 (bif (decide ((v6.toNat : Int) = 120)) then
 (bif (decide (1 < (v1.length : Int))) then
 (Option.bind (nth v1 1) fun v7 =>
 (r6_next_j0 N _ (fun v8 v9 v10 v11 v12 v13 v14 =>
 (Option.bind (r6_sign N v8) fun v15 =>
 (K v15.1 v15.2.1 v15.2.2.1 v15.2.2.2.1 v15.2.2.2.2.1 v15.2.2.2.2.2.1))) (fun v16 v17 v18 v19 v20 v21 v22 =>
 (K v17 v18 v19 v20 v21 v22)) v1 v3.1 v5.1 (decide ((v7.toNat : Int) = 39)) 0 [] 0 0 [] 0))
 else
 (r6_next_j0 N _ (fun v23 v24 v25 v26 v27 v28 v29 =>
 (Option.bind (r6_sign N v23) fun v30 =>
 (K v30.1 v30.2.1 v30.2.2.1 v30.2.2.2.1 v30.2.2.2.2.1 v30.2.2.2.2.2.1))) (fun v31 v32 v33 v34 v35 v36 v37 =>
 (K v32 v33 v34 v35 v36 v37)) v1 v3.1 v5.1 false 0 [] 0 0 [] 0))
 else
 (Option.bind (nth v1 0) fun v38 =>
 (bif (decide ((v38.toNat : Int) = 88)) then
 (bif (decide (1 < (v1.length : Int))) then
 (Option.bind (nth v1 1) fun v39 =>
 (r6_next_j0 N _ (fun v40 v41 v42 v43 v44 v45 v46 =>
 (Option.bind (r6_sign N v40) fun v47 =>
 (K v47.1 v47.2.1 v47.2.2.1 v47.2.2.2.1 v47.2.2.2.2.1 v47.2.2.2.2.2.1))) (fun v48 v49 v50 v51 v52 v53 v54 =>
 (K v49 v50 v51 v52 v53 v54)) v1 v3.1 v5.1 (decide ((v39.toNat : Int) = 39)) 0 [] 0 0 [] 0))
 else
 (r6_next_j0 N _ (fun v55 v56 v57 v58 v59 v60 v61 =>
 (Option.bind (r6_sign N v55) fun v62 =>
 (K v62.1 v62.2.1 v62.2.2.1 v62.2.2.2.1 v62.2.2.2.2.1 v62.2.2.2.2.2.1))) (fun v63 v64 v65 v66 v67 v68 v69 =>
 (K v64 v65 v66 v67 v68 v69)) v1 v3.1 v5.1 false 0 [] 0 0 [] 0))
 else
 (r6_next_j0 N _ (fun v70 v71 v72 v73 v74 v75 v76 =>
 (Option.bind (r6_sign N v70) fun v77 =>
 (K v77.1 v77.2.1 v77.2.2.1 v77.2.2.2.1 v77.2.2.2.2.1 v77.2.2.2.2.2.1))) (fun v78 v79 v80 v81 v82 v83 v84 =>
 (K v79 v80 v81 v82 v83 v84)) v1 v3.1 v5.1 false 0 [] 0 0 [] 0)))))))))
def r6_next (N : Nat) (v1 : (List UInt8)) : Option (Int × (List UInt8) × Int × Int × (List UInt8) × Int × Unit) := r6_next_cps N _ (fun a0 a1 a2 a3 a4 a5 => some (a0, (a1, (a2, (a3, (a4, (a5, ()))))))) v1
def r6_Lex_l0B (N : Nat) (R : Type) (rec : (List UInt8) → Q0 → Int → Option R) (k0 : (List UInt8) → Q0 → Option R) (k1 : (List UInt8) → Int → Bool → Q0 → Option R) (v8 : (List UInt8)) (v9 : Q0) (v10 : Int) : Option R :=
 (bif (decide (v10 < (v8.length : Int))) then
 (Option.bind (nth v8 v10) fun v11 =>
 (Option.bind (r6_blank N (v11.toNat : Int)) fun v12 =>
 (bif v12.1 then
 (rec v8 v9 (IntKind.wrap .i64 (v10 + 1)))
 else
 (bif (decide (0 ≤ v10 ∧ v10 ≤ ((v8.length : Nat) : Int))) then
 (Option.bind (r6_next N (List.drop (Int.toNat v10) (List.take v8.length v8))) fun v13 =>
 (bif (decide (v13.2.1 = [])) then
 (k1 v8 v10 false v9)
 else
 (bif (room 64 (v9.length + ([(v13.1, (v13.2.1, ((v13.2.2.1, (v13.2.2.2.1, (v13.2.2.2.2.1, ()))), (v10, ()))))] : Q0).length)) then
 (rec v8 (v9 ++ ([(v13.1, (v13.2.1, ((v13.2.2.1, (v13.2.2.2.1, (v13.2.2.2.2.1, ()))), (v10, ()))))] : Q0)) (IntKind.wrap .i64 (v10 + (v13.2.1.length : Int))))
 else
 none)))
 else
 none))))
 else
 (k0 v8 v9))
def r6_Lex_l0 (N : Nat) (R : Type) (k0 : (List UInt8) → Q0 → Option R) (k1 : (List UInt8) → Int → Bool → Q0 → Option R) : Nat → (List UInt8) → Q0 → Int → Option R
 | 0 => fun _ _ _ => none
 | n + 1 => r6_Lex_l0B N R (r6_Lex_l0 N R k0 k1 n) k0 k1
def r6_Lex_cps (N : Nat) (R : Type) (K : Q0 → Int → Bool → Option R) (v1 : (List UInt8)) : Option R :=
 (bif (decide (1000 < (v1.length : Int))) then
 (K [] 0 false)
 else
 (r6_Lex_l0 N _ (fun v2 v3 =>
 (bif (room 64 (v3.length + ([(6, ([], ((0, (0, ([], ()))), ((v2.length : Int), ()))))] : Q0).length)) then
 (K (v3 ++ ([(6, ([], ((0, (0, ([], ()))), ((v2.length : Int), ()))))] : Q0)) 0 true)
 else
 none)) (fun v4 v5 v6 v7 =>
 (K [] v5 v6)) N v1 [] 0))
def r6_Lex (N : Nat) (v1 : (List UInt8)) : Option (Q0 × Int × Bool × Unit) := r6_Lex_cps N _ (fun a0 a1 a2 => some (a0, (a1, (a2, ())))) v1
def fault_New_cps (N : Nat) (R : Type) (K : Err → Option R) (v1 : Int) (v2 : Int) : Option R :=
 (bif (decide (v1 = 0)) then
 (K Err.nil)
 else
 (K (Err.fault v1 v2 Err.nil)))
def fault_New (N : Nat) (v1 : Int) (v2 : Int) : Option (Err × Unit) := fault_New_cps N _ (fun a0 => some (a0, ())) v1 v2
def lex_of_cps (N : Nat) (R : Type) (K : Int → Option R) (v1 : Int) : Option R :=
 (bif (decide (97 ≤ v1)) then
 (bif (decide (v1 ≤ 122)) then
 (K 2)
 else
 (bif (decide (65 ≤ v1)) then
 (bif (decide (v1 ≤ 90)) then
 (K 2)
 else
 (bif (decide (48 ≤ v1)) then
 (bif (decide (v1 ≤ 57)) then
 (K 3)
 else
 (bif (decide (v1 = 32)) then
 (K 1)
 else
 (bif (decide (v1 = 9)) then
 (K 1)
 else
 (bif (decide (v1 = 10)) then
 (K 1)
 else
 (bif (decide (v1 = 13)) then
 (K 1)
 else
 (bif (decide (v1 = 95)) then
 (K 4)
 else
 (K 0)))))))
 else
 (bif (decide (v1 = 32)) then
 (K 1)
 else
 (bif (decide (v1 = 9)) then
 (K 1)
 else
 (bif (decide (v1 = 10)) then
 (K 1)
 else
 (bif (decide (v1 = 13)) then
 (K 1)
 else
 (bif (decide (v1 = 95)) then
 (K 4)
 else
 (K 0))))))))
 else
 (bif (decide (48 ≤ v1)) then
 (bif (decide (v1 ≤ 57)) then
 (K 3)
 else
 (bif (decide (v1 = 32)) then
 (K 1)
 else
 (bif (decide (v1 = 9)) then
 (K 1)
 else
 (bif (decide (v1 = 10)) then
 (K 1)
 else
 (bif (decide (v1 = 13)) then
 (K 1)
 else
 (bif (decide (v1 = 95)) then
 (K 4)
 else
 (K 0)))))))
 else
 (bif (decide (v1 = 32)) then
 (K 1)
 else
 (bif (decide (v1 = 9)) then
 (K 1)
 else
 (bif (decide (v1 = 10)) then
 (K 1)
 else
 (bif (decide (v1 = 13)) then
 (K 1)
 else
 (bif (decide (v1 = 95)) then
 (K 4)
 else
 (K 0)))))))))
 else
 (bif (decide (65 ≤ v1)) then
 (bif (decide (v1 ≤ 90)) then
 (K 2)
 else
 (bif (decide (48 ≤ v1)) then
 (bif (decide (v1 ≤ 57)) then
 (K 3)
 else
 (bif (decide (v1 = 32)) then
 (K 1)
 else
 (bif (decide (v1 = 9)) then
 (K 1)
 else
 (bif (decide (v1 = 10)) then
 (K 1)
 else
 (bif (decide (v1 = 13)) then
 (K 1)
 else
 (bif (decide (v1 = 95)) then
 (K 4)
 else
 (K 0)))))))
 else
 (bif (decide (v1 = 32)) then
 (K 1)
 else
 (bif (decide (v1 = 9)) then
 (K 1)
 else
 (bif (decide (v1 = 10)) then
 (K 1)
 else
 (bif (decide (v1 = 13)) then
 (K 1)
 else
 (bif (decide (v1 = 95)) then
 (K 4)
 else
 (K 0))))))))
 else
 (bif (decide (48 ≤ v1)) then
 (bif (decide (v1 ≤ 57)) then
 (K 3)
 else
 (bif (decide (v1 = 32)) then
 (K 1)
 else
 (bif (decide (v1 = 9)) then
 (K 1)
 else
 (bif (decide (v1 = 10)) then
 (K 1)
 else
 (bif (decide (v1 = 13)) then
 (K 1)
 else
 (bif (decide (v1 = 95)) then
 (K 4)
 else
 (K 0)))))))
 else
 (bif (decide (v1 = 32)) then
 (K 1)
 else
 (bif (decide (v1 = 9)) then
 (K 1)
 else
 (bif (decide (v1 = 10)) then
 (K 1)
 else
 (bif (decide (v1 = 13)) then
 (K 1)
 else
 (bif (decide (v1 = 95)) then
 (K 4)
 else
 (K 0)))))))))
def lex_of (N : Nat) (v1 : Int) : Option (Int × Unit) := lex_of_cps N _ (fun a0 => some (a0, ())) v1
def lex_quoted_l0B (N : Nat) (R : Type) (rec : (List UInt8) → (List UInt8) → Int → Option R) (k0 : Option R) (k1 : (List UInt8) → Int → Option R) (v4 : (List UInt8)) (v5 : (List UInt8)) (v6 : Int) : Option R :=
 (bif (decide (v6 < (v4.length : Int))) then
 (Option.bind (nth v4 v6) fun v7 =>
 (bif (decide ((v7.toNat : Int) = 39)) then
 (bif (decide ((IntKind.wrap .i64 (v6 + 1)) = (v4.length : Int))) then
 (k1 v5 (IntKind.wrap .i64 (v6 + 1)))
 else
 (Option.bind (nth v4 (IntKind.wrap .i64 (v6 + 1))) fun v8 =>
 (bif (!(decide ((v8.toNat : Int) = 39))) then
 (k1 v5 (IntKind.wrap .i64 (v6 + 1)))
 else
 (Option.bind (nth v4 (IntKind.wrap .i64 (v6 + 1))) fun v9 =>
 (bif (room 1 (v5.length + ([(UInt8.ofNat (Int.toNat (v9.toNat : Int)))] : (List UInt8)).length)) then
 (rec v4 (v5 ++ ([(UInt8.ofNat (Int.toNat (v9.toNat : Int)))] : (List UInt8))) (IntKind.wrap .i64 ((IntKind.wrap .i64 (v6 + 1)) + 1)))
 else
 none)))))
 else
 (Option.bind (nth v4 v6) fun v10 =>
 (bif (room 1 (v5.length + ([(UInt8.ofNat (Int.toNat (v10.toNat : Int)))] : (List UInt8)).length)) then
 (rec v4 (v5 ++ ([(UInt8.ofNat (Int.toNat (v10.toNat : Int)))] : (List UInt8))) (IntKind.wrap .i64 (v6 + 1)))
 else
 none))))
 else
 k0)
def lex_quoted_l0 (N : Nat) (R : Type) (k0 : Option R) (k1 : (List UInt8) → Int → Option R) : Nat → (List UInt8) → (List UInt8) → Int → Option R
 | 0 => fun _ _ _ => none
 | n + 1 => lex_quoted_l0B N R (lex_quoted_l0 N R k0 k1 n) k0 k1
def lex_quoted_cps (N : Nat) (R : Type) (K : (List UInt8) → Int → Option R) (v1 : (List UInt8)) : Option R :=
 (lex_quoted_l0 N _ ((K [] 0)) K N v1 [] 1)
def lex_quoted (N : Nat) (v1 : (List UInt8)) : Option ((List UInt8) × Int × Unit) := lex_quoted_cps N _ (fun a0 a1 => some (a0, (a1, ()))) v1
def by_IndexByteString_cps (N : Nat) (R : Type) (K : Int → Option R) (v1 : (List UInt8)) (v2 : Int) : Option R :=
 (K (Lib.indexByte v1 (Int.toNat v2).toUInt8))
def by_IndexByteString (N : Nat) (v1 : (List UInt8)) (v2 : Int) : Option (Int × Unit) := by_IndexByteString_cps N _ (fun a0 => some (a0, ())) v1 v2
def stringslite_IndexByte_cps (N : Nat) (R : Type) (K : Int → Option R) (v1 : (List UInt8)) (v2 : Int) : Option R :=
 (Option.bind (by_IndexByteString N v1 v2) fun v3 =>
 (K v3.1))
def stringslite_IndexByte (N : Nat) (v1 : (List UInt8)) (v2 : Int) : Option (Int × Unit) := stringslite_IndexByte_cps N _ (fun a0 => some (a0, ())) v1 v2
def strings_IndexByte_cps (N : Nat) (R : Type) (K : Int → Option R) (v1 : (List UInt8)) (v2 : Int) : Option R :=
 (Option.bind (stringslite_IndexByte N v1 v2) fun v3 =>
 (K v3.1))
def strings_IndexByte (N : Nat) (v1 : (List UInt8)) (v2 : Int) : Option (Int × Unit) := strings_IndexByte_cps N _ (fun a0 => some (a0, ())) v1 v2
def lex_hex_cps (N : Nat) (R : Type) (K : Int → Option R) (v1 : Int) : Option R :=
 (bif (decide (65 ≤ v1)) then
 (bif (decide (v1 ≤ 70)) then
 (Option.bind (strings_IndexByte N [48, 49, 50, 51, 52, 53, 54, 55, 56, 57, 97, 98, 99, 100, 101, 102] (IntKind.wrap .u8 (v1 + 32))) fun v2 =>
 (K v2.1))
 else
 (Option.bind (strings_IndexByte N [48, 49, 50, 51, 52, 53, 54, 55, 56, 57, 97, 98, 99, 100, 101, 102] v1) fun v3 =>
 (K v3.1)))
 else
 (Option.bind (strings_IndexByte N [48, 49, 50, 51, 52, 53, 54, 55, 56, 57, 97, 98, 99, 100, 101, 102] v1) fun v4 =>
 (K v4.1)))
def lex_hex (N : Nat) (v1 : Int) : Option (Int × Unit) := lex_hex_cps N _ (fun a0 => some (a0, ())) v1
def lex_raw_l1B (N : Nat) (R : Type) (rec : (List UInt8) → (List UInt8) → Int → (List UInt8) → Int → (List UInt8) → Int → Int → (List UInt8) → Int → Option R) (k0 : (List UInt8) → Int → (List UInt8) → Int → (List UInt8) → Int → Int → (List UInt8) → Int → Option R) (k1 : (List UInt8) → Int → (List UInt8) → Int → (List UInt8) → Int → Int → (List UInt8) → Int → Option R) (v36 : (List UInt8)) (v37 : (List UInt8)) (v38 : Int) (v39 : (List UInt8)) (v40 : Int) (v41 : (List UInt8)) (v42 : Int) (v43 : Int) (v44 : (List UInt8)) (v45 : Int) : Option R :=
 (bif (!(decide (v37 = []))) then
 (Option.bind (nth v37 0) fun v46 =>
 (Option.bind (lex_hex N (v46.toNat : Int)) fun v47 =>
 (Option.bind (nth v37 1) fun v48 =>
 (Option.bind (lex_hex N (v48.toNat : Int)) fun v49 =>
 (bif (decide (v47.1 < 0)) then
 (k1 v36 v38 v39 0 [] 0 0 [] 0)
 else
 (bif (decide (v49.1 < 0)) then
 (k1 v36 v38 v39 0 [] 0 0 [] 0)
 else
 (bif (room 1 (v39.length + ([(UInt8.ofNat (Int.toNat (IntKind.wrap .u8 (Ev.bits .or .i64 (Ev.shl .i64 v47.1 4) v49.1))))] : (List UInt8)).length)) then
 (bif (decide (0 ≤ (2 : Int) ∧ (2 : Int) ≤ ((v37.length : Nat) : Int))) then
 (rec v36 (List.drop 2 (List.take v37.length v37)) v38 (v39 ++ ([(UInt8.ofNat (Int.toNat (IntKind.wrap .u8 (Ev.bits .or .i64 (Ev.shl .i64 v47.1 4) v49.1))))] : (List UInt8))) v40 v41 v42 v43 v44 v45)
 else
 none)
 else
 none)))))))
 else
 (k0 v36 v38 v39 v40 v41 v42 v43 v44 v45))
def lex_raw_l1 (N : Nat) (R : Type) (k0 : (List UInt8) → Int → (List UInt8) → Int → (List UInt8) → Int → Int → (List UInt8) → Int → Option R) (k1 : (List UInt8) → Int → (List UInt8) → Int → (List UInt8) → Int → Int → (List UInt8) → Int → Option R) : Nat → (List UInt8) → (List UInt8) → Int → (List UInt8) → Int → (List UInt8) → Int → Int → (List UInt8) → Int → Option R
 | 0 => fun _ _ _ _ _ _ _ _ _ _ => none
 | n + 1 => lex_raw_l1B N R (lex_raw_l1 N R k0 k1 n) k0 k1
def lex_raw_j0 (N : Nat) (R : Type) (k0 : Int → (List UInt8) → Int → Int → (List UInt8) → Int → Option R) (v9 : (List UInt8)) (v10 : (List UInt8)) (v11 : Int) (v12 : Int) (v13 : (List UInt8)) (v14 : Int) (v15 : Int) (v16 : (List UInt8)) (v17 : Int) : Option R :=
 (lex_raw_l1 N _ (fun v18 v19 v20 v21 v22 v23 v24 v25 v26 =>
 (bif (decide (0 ≤ (IntKind.wrap .i64 (v19 + 1)) ∧ (IntKind.wrap .i64 (v19 + 1)) ≤ ((v18.length : Nat) : Int))) then
 (k0 4 (List.drop 0 (List.take (Int.toNat (IntKind.wrap .i64 (v19 + 1))) v18)) 5 0 v20 0)
 else
 none)) (fun v27 v28 v29 v30 v31 v32 v33 v34 v35 =>
 (k0 v30 v31 v32 v33 v34 v35)) N v9 v10 v11 [] v12 v13 v14 v15 v16 v17)
def lex_raw_cps (N : Nat) (R : Type) (K : Int → (List UInt8) → Int → Int → (List UInt8) → Int → Option R) (v1 : (List UInt8)) : Option R :=
 (bif (decide (0 ≤ (1 : Int) ∧ (1 : Int) ≤ ((v1.length : Nat) : Int))) then
 (Option.bind (lex_quoted N (List.drop 1 (List.take v1.length v1))) fun v2 =>
 (bif (decide (v2.2.1 = 0)) then
 (K 0 [] 0 0 [] 0)
 else
 (bif (decide ((Int.tmod (v2.1.length : Int) 2) = 1)) then
 (K 0 [] 0 0 [] 0)
 else
 (bif (decide (400 < (v2.1.length : Int))) then
 (K 0 [] 0 0 [] 0)
 else
 (lex_raw_j0 N _ K v1 v2.1 v2.2.1 0 [] 0 0 [] 0)))))
 else
 none)
def lex_raw (N : Nat) (v1 : (List UInt8)) : Option (Int × (List UInt8) × Int × Int × (List UInt8) × Int × Unit) := lex_raw_cps N _ (fun a0 a1 a2 a3 a4 a5 => some (a0, (a1, (a2, (a3, (a4, (a5, ()))))))) v1
def lex_isPart_cps (N : Nat) (R : Type) (K : Bool → Option R) (v1 : Int) : Option R :=
 (K (decide (2 ≤ v1)))
def lex_isPart (N : Nat) (v1 : Int) : Option (Bool × Unit) := lex_isPart_cps N _ (fun a0 => some (a0, ())) v1
def lex_span_l0B (N : Nat) (R : Type) (rec : (List UInt8) → Int → Option R) (k0 : Int → Option R) (v3 : (List UInt8)) (v4 : Int) : Option R :=
 (bif (decide (v4 < (v3.length : Int))) then
 (Option.bind (nth v3 v4) fun v5 =>
 (Option.bind (lex_of N (v5.toNat : Int)) fun v6 =>
 (Option.bind (lex_isPart N v6.1) fun v7 =>
 (bif v7.1 then
 (rec v3 (IntKind.wrap .i64 (v4 + 1)))
 else
 (k0 v4)))))
 else
 (k0 v4))
def lex_span_l0 (N : Nat) (R : Type) (k0 : Int → Option R) : Nat → (List UInt8) → Int → Option R
 | 0 => fun _ _ => none
 | n + 1 => lex_span_l0B N R (lex_span_l0 N R k0 n) k0
def lex_span_cps (N : Nat) (R : Type) (K : Int → Option R) (v1 : (List UInt8)) : Option R :=
 (lex_span_l0 N _ K N v1 0)
def lex_span (N : Nat) (v1 : (List UInt8)) : Option (Int × Unit) := lex_span_cps N _ (fun a0 => some (a0, ())) v1
def strings_ToLower_cps (N : Nat) (R : Type) (K : (List UInt8) → Option R) (v1 : (List UInt8)) : Option R :=
 (bif (decide (v1.length ≤ 140737488355328) && List.all v1 (fun b => decide (b.toNat < 128))) then (K (Lib.toLowerA v1)) else none)
def strings_ToLower (N : Nat) (v1 : (List UInt8)) : Option ((List UInt8) × Unit) := strings_ToLower_cps N _ (fun a0 => some (a0, ())) v1
def lex_isFigure_cps (N : Nat) (R : Type) (K : Bool → Option R) (v1 : Int) : Option R :=
 (K (decide (v1 = 3)))
def lex_isFigure (N : Nat) (v1 : Int) : Option (Bool × Unit) := lex_isFigure_cps N _ (fun a0 => some (a0, ())) v1
def lex_span_1_l0B (N : Nat) (R : Type) (rec : (List UInt8) → Int → Option R) (k0 : Int → Option R) (v3 : (List UInt8)) (v4 : Int) : Option R :=
 (bif (decide (v4 < (v3.length : Int))) then
 (Option.bind (nth v3 v4) fun v5 =>
 (Option.bind (lex_of N (v5.toNat : Int)) fun v6 =>
 (Option.bind (lex_isFigure N v6.1) fun v7 =>
 (bif v7.1 then
 (rec v3 (IntKind.wrap .i64 (v4 + 1)))
 else
 (k0 v4)))))
 else
 (k0 v4))
def lex_span_1_l0 (N : Nat) (R : Type) (k0 : Int → Option R) : Nat → (List UInt8) → Int → Option R
 | 0 => fun _ _ => none
 | n + 1 => lex_span_1_l0B N R (lex_span_1_l0 N R k0 n) k0
def lex_span_1_cps (N : Nat) (R : Type) (K : Int → Option R) (v1 : (List UInt8)) : Option R :=
 (lex_span_1_l0 N _ K N v1 0)
def lex_span_1 (N : Nat) (v1 : (List UInt8)) : Option (Int × Unit) := lex_span_1_cps N _ (fun a0 => some (a0, ())) v1
def stringslite_HasPrefix_cps (N : Nat) (R : Type) (K : Bool → Option R) (v1 : (List UInt8)) (v2 : (List UInt8)) : Option R :=
 (bif (decide ((v2.length : Int) ≤ (v1.length : Int))) then
 (bif (decide (0 ≤ (v2.length : Int) ∧ (v2.length : Int) ≤ ((v1.length : Nat) : Int))) then
 (K (decide ((List.drop 0 (List.take (Int.toNat (v2.length : Int)) v1)) = v2)))
 else
 none)
 else
 (K false))
def stringslite_HasPrefix (N : Nat) (v1 : (List UInt8)) (v2 : (List UInt8)) : Option (Bool × Unit) := stringslite_HasPrefix_cps N _ (fun a0 => some (a0, ())) v1 v2
def strings_HasPrefix_cps (N : Nat) (R : Type) (K : Bool → Option R) (v1 : (List UInt8)) (v2 : (List UInt8)) : Option R :=
 (Option.bind (stringslite_HasPrefix N v1 v2) fun v3 =>
 (K v3.1))
def strings_HasPrefix (N : Nat) (v1 : (List UInt8)) (v2 : (List UInt8)) : Option (Bool × Unit) := strings_HasPrefix_cps N _ (fun a0 => some (a0, ())) v1 v2
def strings_Repeat_cps (N : Nat) (R : Type) (K : (List UInt8) → Option R) (v1 : (List UInt8)) (v2 : Int) : Option R :=
 (bif (decide (0 ≤ v2 ∧ v1.length * (Int.toNat v2) ≤ 140737488355328)) then (K (Lib.repeatL v1 (Int.toNat v2))) else none)
def strings_Repeat (N : Nat) (v1 : (List UInt8)) (v2 : Int) : Option ((List UInt8) × Unit) := strings_Repeat_cps N _ (fun a0 => some (a0, ())) v1 v2
def strconv_ParseInt_cps (N : Nat) (R : Type) (K : Int → Err → Option R) (v1 : (List UInt8)) (v2 : Int) (v3 : Int) : Option R :=
 (bif (decide (v2 = 10 ∧ v3 = 64 ∧ v1.length ≤ 281474976710656)) then (K (parseV v1) (parseE v1)) else none)
def strconv_ParseInt (N : Nat) (v1 : (List UInt8)) (v2 : Int) (v3 : Int) : Option (Int × Err × Unit) := strconv_ParseInt_cps N _ (fun a0 a1 => some (a0, (a1, ()))) v1 v2 v3
def lex_number_j2 (N : Nat) (R : Type) (k0 : Int → (List UInt8) → Int → Int → (List UInt8) → Int → Option R) (v59 : (List UInt8)) (v60 : Int) (v61 : (List UInt8)) (v62 : Int) (v63 : Int) (v64 : (List UInt8)) (v65 : Int) (v66 : Int) (v67 : (List UInt8)) (v68 : Int) : Option R :=
 (Option.bind (strconv_ParseInt N v61 10 64) fun v69 =>
 (bif (!(Err.isNil v69.2.1)) then
 (k0 0 [] 0 0 [] 0)
 else
 (bif (decide (0 ≤ v60 ∧ v60 ≤ ((v59.length : Nat) : Int))) then
 (k0 2 (List.drop 0 (List.take (Int.toNat v60) v59)) v62 v69.1 [] 0)
 else
 none)))
def lex_number_j1 (N : Nat) (R : Type) (k0 : Int → (List UInt8) → Int → Int → (List UInt8) → Int → Option R) (v40 : (List UInt8)) (v41 : Int) (v42 : (List UInt8)) (v43 : (List UInt8)) (v44 : Int) (v45 : Int) (v46 : (List UInt8)) (v47 : Int) (v48 : Int) (v49 : (List UInt8)) (v50 : Int) : Option R :=
 (Option.bind (strings_HasPrefix N v43 [46]) fun v51 =>
 (bif v51.1 then
 (k0 0 [] 0 0 [] 0)
 else
 (Option.bind (lex_span N v43) fun v52 =>
 (bif (decide (0 < v52.1)) then
 (k0 0 [] 0 0 [] 0)
 else
 (lex_number_j2 N _ k0 v40 v41 v42 v44 v45 v46 v47 v48 v49 v50)))))
def lex_number_j0 (N : Nat) (R : Type) (k0 : (List UInt8) → Int → (List UInt8) → (List UInt8) → Int → Int → (List UInt8) → Int → Int → (List UInt8) → Int → Option R) (v28 : (List UInt8)) (v29 : Int) (v30 : (List UInt8)) (v31 : (List UInt8)) (v32 : Int) (v33 : Int) (v34 : (List UInt8)) (v35 : Int) (v36 : Int) (v37 : (List UInt8)) (v38 : Int) : Option R :=
 (bif (decide (0 ≤ (IntKind.wrap .i64 (1 + v32)) ∧ (IntKind.wrap .i64 (1 + v32)) ≤ ((v31.length : Nat) : Int))) then
 (bif (decide (0 ≤ (1 : Int) ∧ (1 : Int) ≤ (((Int.toNat (IntKind.wrap .i64 (1 + v32))) : Nat) : Int))) then
 (Option.bind (strings_Repeat N [48] (IntKind.wrap .i64 (4 - v32))) fun v39 =>
 (bif (room 1 ((List.drop 1 (List.take (Int.toNat (IntKind.wrap .i64 (1 + v32))) v31)).length + v39.1.length)) then
 (bif (room 1 (v30.length + ((List.drop 1 (List.take (Int.toNat (IntKind.wrap .i64 (1 + v32))) v31)) ++ v39.1).length)) then
 (bif (decide (0 ≤ (IntKind.wrap .i64 (1 + v32)) ∧ (IntKind.wrap .i64 (1 + v32)) ≤ ((v31.length : Nat) : Int))) then
 (k0 v28 (IntKind.wrap .i64 ((IntKind.wrap .i64 (v29 + 1)) + v32)) (v30 ++ ((List.drop 1 (List.take (Int.toNat (IntKind.wrap .i64 (1 + v32))) v31)) ++ v39.1)) (List.drop (Int.toNat (IntKind.wrap .i64 (1 + v32))) (List.take v31.length v31)) 3 v33 v34 v35 v36 v37 v38)
 else
 none)
 else
 none)
 else
 none))
 else
 none)
 else
 none)
def lex_number_cps (N : Nat) (R : Type) (K : Int → (List UInt8) → Int → Int → (List UInt8) → Int → Option R) (v1 : (List UInt8)) : Option R :=
 (Option.bind (lex_span_1 N v1) fun v2 =>
 (bif (decide (0 ≤ v2.1 ∧ v2.1 ≤ ((v1.length : Nat) : Int))) then
 (bif (decide (0 ≤ v2.1 ∧ v2.1 ≤ ((v1.length : Nat) : Int))) then
 (Option.bind (strings_HasPrefix N (List.drop (Int.toNat v2.1) (List.take v1.length v1)) [46]) fun v3 =>
 (bif v3.1 then
 (bif (decide (0 ≤ (1 : Int) ∧ (1 : Int) ≤ (((List.drop (Int.toNat v2.1) (List.take v1.length v1)).length : Nat) : Int))) then
 (Option.bind (lex_span_1 N (List.drop 1 (List.take (List.drop (Int.toNat v2.1) (List.take v1.length v1)).length (List.drop (Int.toNat v2.1) (List.take v1.length v1))))) fun v4 =>
 (bif (decide (v4.1 = 0)) then
 (K 0 [] 0 0 [] 0)
 else
 (bif (decide (4 < v4.1)) then
 (K 0 [] 0 0 [] 0)
 else
 (lex_number_j0 N _ (fun v5 v6 v7 v8 v9 v10 v11 v12 v13 v14 v15 =>
 (lex_number_j1 N _ K v5 v6 v7 v8 v9 v10 v11 v12 v13 v14 v15)) v1 v2.1 (List.drop 0 (List.take (Int.toNat v2.1) v1)) (List.drop (Int.toNat v2.1) (List.take v1.length v1)) v4.1 0 [] 0 0 [] 0))))
 else
 none)
 else
 (lex_number_j1 N _ K v1 v2.1 (List.drop 0 (List.take (Int.toNat v2.1) v1)) (List.drop (Int.toNat v2.1) (List.take v1.length v1)) 2 0 [] 0 0 [] 0)))
 else
 none)
 else
 none))
def lex_number (N : Nat) (v1 : (List UInt8)) : Option (Int × (List UInt8) × Int × Int × (List UInt8) × Int × Unit) := lex_number_cps N _ (fun a0 a1 a2 a3 a4 a5 => some (a0, (a1, (a2, (a3, (a4, (a5, ()))))))) v1
def lex_text_cps (N : Nat) (R : Type) (K : Int → (List UInt8) → Int → Int → (List UInt8) → Int → Option R) (v1 : (List UInt8)) : Option R :=
 (Option.bind (lex_quoted N v1) fun v2 =>
 (bif (decide (v2.2.1 = 0)) then
 (K 0 [] 0 0 [] 0)
 else
 (bif (decide (200 < (v2.1.length : Int))) then
 (K 0 [] 0 0 [] 0)
 else
 (bif (decide (0 ≤ v2.2.1 ∧ v2.2.1 ≤ ((v1.length : Nat) : Int))) then
 (K 3 (List.drop 0 (List.take (Int.toNat v2.2.1) v1)) 4 0 v2.1 0)
 else
 none))))
def lex_text (N : Nat) (v1 : (List UInt8)) : Option (Int × (List UInt8) × Int × Int × (List UInt8) × Int × Unit) := lex_text_cps N _ (fun a0 a1 a2 a3 a4 a5 => some (a0, (a1, (a2, (a3, (a4, (a5, ()))))))) v1
def lex_sign_l0B (N : Nat) (R : Type) (rec : (List UInt8) → (List (List UInt8)) → Int → Int → Int → (List UInt8) → Int → Int → (List UInt8) → Int → Option R) (k0 : (List UInt8) → Int → (List UInt8) → Int → Int → (List UInt8) → Int → Option R) (k1 : (List UInt8) → Int → (List UInt8) → Int → Int → (List UInt8) → Int → Option R) (v18 : (List UInt8)) (v19 : (List (List UInt8))) (v20 : Int) (v21 : Int) (v22 : Int) (v23 : (List UInt8)) (v24 : Int) (v25 : Int) (v26 : (List UInt8)) (v27 : Int) : Option R :=
 (bif (decide (v21 < v20)) then
 (Option.bind (nth v19 v21) fun v28 =>
 (Option.bind (strings_HasPrefix N v18 v28) fun v29 =>
 (bif v29.1 then
 (k1 v18 5 v28 0 0 [] 0)
 else
 (rec v18 v19 v20 (IntKind.wrap .i64 (v21 + 1)) v22 v23 v24 v25 v26 v27))))
 else
 (k0 v18 v22 v23 v24 v25 v26 v27))
def lex_sign_l0 (N : Nat) (R : Type) (k0 : (List UInt8) → Int → (List UInt8) → Int → Int → (List UInt8) → Int → Option R) (k1 : (List UInt8) → Int → (List UInt8) → Int → Int → (List UInt8) → Int → Option R) : Nat → (List UInt8) → (List (List UInt8)) → Int → Int → Int → (List UInt8) → Int → Int → (List UInt8) → Int → Option R
 | 0 => fun _ _ _ _ _ _ _ _ _ _ => none
 | n + 1 => lex_sign_l0B N R (lex_sign_l0 N R k0 k1 n) k0 k1
def lex_sign_cps (N : Nat) (R : Type) (K : Int → (List UInt8) → Int → Int → (List UInt8) → Int → Option R) (v1 : (List UInt8)) : Option R :=
 (lex_sign_l0 N _ (fun v2 v3 v4 v5 v6 v7 v8 =>
 (Option.bind (nth v2 0) fun v9 =>
 (Option.bind (strings_IndexByte N [40, 41, 44, 42, 43, 45, 47, 61, 60, 62, 46, 59] (v9.toNat : Int)) fun v10 =>
 (bif (decide (0 ≤ v10.1)) then
 (bif (decide (0 ≤ (1 : Int) ∧ (1 : Int) ≤ ((v2.length : Nat) : Int))) then
 (K 5 (List.drop 0 (List.take 1 v2)) 0 0 [] 0)
 else
 none)
 else
 (K 0 [] 0 0 [] 0))))) (fun v11 v12 v13 v14 v15 v16 v17 =>
 (K v12 v13 v14 v15 v16 v17)) N v1 ([[60, 61], [62, 61], [60, 62]] : (List (List UInt8))) (([[60, 61], [62, 61], [60, 62]] : (List (List UInt8))).length : Int) 0 0 [] 0 0 [] 0)
def lex_sign (N : Nat) (v1 : (List UInt8)) : Option (Int × (List UInt8) × Int × Int × (List UInt8) × Int × Unit) := lex_sign_cps N _ (fun a0 a1 a2 a3 a4 a5 => some (a0, (a1, (a2, (a3, (a4, (a5, ()))))))) v1
def lex_next_cps (N : Nat) (R : Type) (K : Int → (List UInt8) → Int → Int → (List UInt8) → Int → Option R) (v1 : (List UInt8)) : Option R :=
 (Option.bind (nth v1 0) fun v2 =>
 (Option.bind (lex_of N (v2.toNat : Int)) fun v3 =>
 (bif (decide (v3.1 = 2)) then
 (bif (decide (1 < (v1.length : Int))) then
 (Option.bind (nth v1 1) fun v4 =>
 (bif (decide ((v4.toNat : Int) = 39)) then
 (Option.bind (nth v1 0) fun v5 =>
 (bif (decide ((v5.toNat : Int) = 120)) then
 (Option.bind (lex_raw N v1) fun v6 =>
 (K v6.1 v6.2.1 v6.2.2.1 v6.2.2.2.1 v6.2.2.2.2.1 v6.2.2.2.2.2.1))
 else
 (Option.bind (nth v1 0) fun v7 =>
 (bif (decide ((v7.toNat : Int) = 88)) then
 (Option.bind (lex_raw N v1) fun v8 =>
 (K v8.1 v8.2.1 v8.2.2.1 v8.2.2.2.1 v8.2.2.2.2.1 v8.2.2.2.2.2.1))
 else
 (Option.bind (lex_span N v1) fun v9 =>
 (bif (decide (0 ≤ v9.1 ∧ v9.1 ≤ ((v1.length : Nat) : Int))) then
 (Option.bind (strings_ToLower N (List.drop 0 (List.take (Int.toNat v9.1) v1))) fun v10 =>
 (K 1 v10.1 0 0 [] 0))
 else
 none))))))
 else
 (Option.bind (lex_span N v1) fun v11 =>
 (bif (decide (0 ≤ v11.1 ∧ v11.1 ≤ ((v1.length : Nat) : Int))) then
 (Option.bind (strings_ToLower N (List.drop 0 (List.take (Int.toNat v11.1) v1))) fun v12 =>
 (K 1 v12.1 0 0 [] 0))
 else
 none))))
 else
 (Option.bind (lex_span N v1) fun v13 =>
 (bif (decide (0 ≤ v13.1 ∧ v13.1 ≤ ((v1.length : Nat) : Int))) then
 (Option.bind (strings_ToLower N (List.drop 0 (List.take (Int.toNat v13.1) v1))) fun v14 =>
 (K 1 v14.1 0 0 [] 0))
 else
 none)))
 else
 (bif (decide (v3.1 = 3)) then
 (Option.bind (lex_number N v1) fun v15 =>
 (K v15.1 v15.2.1 v15.2.2.1 v15.2.2.2.1 v15.2.2.2.2.1 v15.2.2.2.2.2.1))
 else
 (Option.bind (nth v1 0) fun v16 =>
 (bif (decide ((v16.toNat : Int) = 39)) then
 (Option.bind (lex_text N v1) fun v17 =>
 (K v17.1 v17.2.1 v17.2.2.1 v17.2.2.2.1 v17.2.2.2.2.1 v17.2.2.2.2.2.1))
 else
 (Option.bind (lex_sign N v1) fun v18 =>
 (K v18.1 v18.2.1 v18.2.2.1 v18.2.2.2.1 v18.2.2.2.2.1 v18.2.2.2.2.2.1))))))))
def lex_next (N : Nat) (v1 : (List UInt8)) : Option (Int × (List UInt8) × Int × Int × (List UInt8) × Int × Unit) := lex_next_cps N _ (fun a0 a1 a2 a3 a4 a5 => some (a0, (a1, (a2, (a3, (a4, (a5, ()))))))) v1
def lex_Lex_l0B (N : Nat) (R : Type) (rec : (List UInt8) → Q0 → Int → Option R) (k0 : (List UInt8) → Q0 → Option R) (k1 : (List UInt8) → Err → Q0 → Option R) (v8 : (List UInt8)) (v9 : Q0) (v10 : Int) : Option R :=
 (bif (decide (v10 < (v8.length : Int))) then
 (Option.bind (nth v8 v10) fun v11 =>
 (Option.bind (lex_of N (v11.toNat : Int)) fun v12 =>
 (bif (decide (v12.1 = 1)) then
 (rec v8 v9 (IntKind.wrap .i64 (v10 + 1)))
 else
 (bif (decide (0 ≤ v10 ∧ v10 ≤ ((v8.length : Nat) : Int))) then
 (Option.bind (lex_next N (List.drop (Int.toNat v10) (List.take v8.length v8))) fun v13 =>
 (bif (decide (v13.2.1 = [])) then
 (Option.bind (fault_New N 161 v10) fun v14 =>
 (k1 v8 v14.1 v9))
 else
 (bif (room 64 (v9.length + ([(v13.1, (v13.2.1, ((v13.2.2.1, (v13.2.2.2.1, (v13.2.2.2.2.1, ()))), (v10, ()))))] : Q0).length)) then
 (rec v8 (v9 ++ ([(v13.1, (v13.2.1, ((v13.2.2.1, (v13.2.2.2.1, (v13.2.2.2.2.1, ()))), (v10, ()))))] : Q0)) (IntKind.wrap .i64 (v10 + (v13.2.1.length : Int))))
 else
 none)))
 else
 none))))
 else
 (k0 v8 v9))
def lex_Lex_l0 (N : Nat) (R : Type) (k0 : (List UInt8) → Q0 → Option R) (k1 : (List UInt8) → Err → Q0 → Option R) : Nat → (List UInt8) → Q0 → Int → Option R
 | 0 => fun _ _ _ => none
 | n + 1 => lex_Lex_l0B N R (lex_Lex_l0 N R k0 k1 n) k0 k1
def lex_Lex_cps (N : Nat) (R : Type) (K : Q0 → Err → Option R) (v1 : (List UInt8)) : Option R :=
 (bif (decide (1000 < (v1.length : Int))) then
 (Option.bind (fault_New N 161 0) fun v2 =>
 (K [] v2.1))
 else
 (lex_Lex_l0 N _ (fun v3 v4 =>
 (bif (room 64 (v4.length + ([(6, ([], ((0, (0, ([], ()))), ((v3.length : Int), ()))))] : Q0).length)) then
 (K (v4 ++ ([(6, ([], ((0, (0, ([], ()))), ((v3.length : Int), ()))))] : Q0)) Err.nil)
 else
 none)) (fun v5 v6 v7 =>
 (K [] v6)) N v1 [] 0))
def lex_Lex (N : Nat) (v1 : (List UInt8)) : Option (Q0 × Err × Unit) := lex_Lex_cps N _ (fun a0 a1 => some (a0, (a1, ()))) v1
def fault_At_cps (N : Nat) (R : Type) (K : Int → Option R) (v1 : Err) : Option R :=
 (bif (errOk v1) then (K (errAt v1)) else none)
def fault_At (N : Nat) (v1 : Err) : Option (Int × Unit) := fault_At_cps N _ (fun a0 => some (a0, ())) v1
def fault_Wrap_cps (N : Nat) (R : Type) (K : Err → Option R) (v1 : Err) (v2 : Int) (v3 : Int) : Option R :=
 (bif (Err.isNil v1) then
 (K v1)
 else
 (bif (decide (v2 = 0)) then
 (K v1)
 else
 (K (Err.fault v2 v3 v1))))
def fault_Wrap (N : Nat) (v1 : Err) (v2 : Int) (v3 : Int) : Option (Err × Unit) := fault_Wrap_cps N _ (fun a0 => some (a0, ())) v1 v2 v3
def pq_is_cps (N : Nat) (R : Type) (K : Bool → Option R) (v1 : (List UInt8)) (v2 : Q0) (v3 : Int) (v4 : Err) : Option R :=
 (Option.bind (nth v2 0) fun v5 =>
 (bif (Err.isNil v4) then
 (bif (decide (v5.1 = 1)) then
 (K (decide (v5.2.1 = v1)))
 else
 (bif (decide (v5.1 = 5)) then
 (K (decide (v5.2.1 = v1)))
 else
 (K false)))
 else
 (K false)))
def pq_is (N : Nat) (v1 : (List UInt8)) (v2 : Q0) (v3 : Int) (v4 : Err) : Option (Bool × Unit) := pq_is_cps N _ (fun a0 => some (a0, ())) v1 v2 v3 v4
def pq_next_cps (N : Nat) (R : Type) (K : Int → (List UInt8) → Int → Int → (List UInt8) → Int → Q0 → Int → Err → Option R) (v1 : Q0) (v2 : Int) (v3 : Err) : Option R :=
 (Option.bind (nth v1 0) fun v4 =>
 (bif (decide (0 ≤ (1 : Int) ∧ (1 : Int) ≤ ((v1.length : Nat) : Int))) then
 (K v4.1 v4.2.1 v4.2.2.1.1 v4.2.2.1.2.1 v4.2.2.1.2.2.1 v4.2.2.2.1 (List.drop 1 (List.take v1.length v1)) v2 v3)
 else
 none))
def pq_next (N : Nat) (v1 : Q0) (v2 : Int) (v3 : Err) : Option (Int × (List UInt8) × Int × Int × (List UInt8) × Int × Q0 × Int × Err × Unit) := pq_next_cps N _ (fun a0 a1 a2 a3 a4 a5 a6 a7 a8 => some (a0, (a1, (a2, (a3, (a4, (a5, (a6, (a7, (a8, ())))))))))) v1 v2 v3
def pq_take_cps (N : Nat) (R : Type) (K : Bool → Q0 → Int → Err → Option R) (v1 : (List UInt8)) (v2 : Q0) (v3 : Int) (v4 : Err) : Option R :=
 (Option.bind (pq_is N v1 v2 v3 v4) fun v5 =>
 (bif v5.1 then
 (Option.bind (pq_next N v2 v3 v4) fun v6 =>
 (K v5.1 v6.2.2.2.2.2.2.1 v6.2.2.2.2.2.2.2.1 v6.2.2.2.2.2.2.2.2.1))
 else
 (K v5.1 v2 v3 v4)))
def pq_take (N : Nat) (v1 : (List UInt8)) (v2 : Q0) (v3 : Int) (v4 : Err) : Option (Bool × Q0 × Int × Err × Unit) := pq_take_cps N _ (fun a0 a1 a2 a3 => some (a0, (a1, (a2, (a3, ()))))) v1 v2 v3 v4
def pq_at_cps (N : Nat) (R : Type) (K : Int → Option R) (v1 : Q0) (v2 : Int) (v3 : Err) : Option R :=
 (Option.bind (nth v1 0) fun v4 =>
 (K v4.2.2.2.1))
def pq_at (N : Nat) (v1 : Q0) (v2 : Int) (v3 : Err) : Option (Int × Unit) := pq_at_cps N _ (fun a0 => some (a0, ())) v1 v2 v3
def pq_fail_cps (N : Nat) (R : Type) (K : Q0 → Int → Err → Option R) (v1 : Int) (v2 : Q0) (v3 : Int) (v4 : Err) : Option R :=
 (bif (Err.isNil v4) then
 (Option.bind (pq_at N v2 v3 v4) fun v5 =>
 (Option.bind (fault_New N v1 v5.1) fun v6 =>
 (K v2 v3 v6.1)))
 else
 (K v2 v3 v4))
def pq_fail (N : Nat) (v1 : Int) (v2 : Q0) (v3 : Int) (v4 : Err) : Option (Q0 × Int × Err × Unit) := pq_fail_cps N _ (fun a0 a1 a2 => some (a0, (a1, (a2, ())))) v1 v2 v3 v4
def pq_want_l0B (N : Nat) (R : Type) (rec : (List (List UInt8)) → Int → Int → Q0 → Int → Err → Option R) (k0 : Q0 → Int → Err → Option R) (v8 : (List (List UInt8))) (v9 : Int) (v10 : Int) (v11 : Q0) (v12 : Int) (v13 : Err) : Option R :=
 (bif (decide (v10 < v9)) then
 (Option.bind (nth v8 v10) fun v14 =>
 (Option.bind (pq_take N v14 v11 v12 v13) fun v15 =>
 (bif (!v15.1) then
 (Option.bind (pq_fail N 171 v15.2.1 v15.2.2.1 v15.2.2.2.1) fun v16 =>
 (rec v8 v9 (IntKind.wrap .i64 (v10 + 1)) v16.1 v16.2.1 v16.2.2.1))
 else
 (rec v8 v9 (IntKind.wrap .i64 (v10 + 1)) v15.2.1 v15.2.2.1 v15.2.2.2.1))))
 else
 (k0 v11 v12 v13))
def pq_want_l0 (N : Nat) (R : Type) (k0 : Q0 → Int → Err → Option R) : Nat → (List (List UInt8)) → Int → Int → Q0 → Int → Err → Option R
 | 0 => fun _ _ _ _ _ _ => none
 | n + 1 => pq_want_l0B N R (pq_want_l0 N R k0 n) k0
def pq_want_cps (N : Nat) (R : Type) (K : Q0 → Int → Err → Option R) (v1 : (List (List UInt8))) (v2 : Q0) (v3 : Int) (v4 : Err) : Option R :=
 (pq_want_l0 N _ K N v1 (v1.length : Int) 0 v2 v3 v4)
def pq_want (N : Nat) (v1 : (List (List UInt8))) (v2 : Q0) (v3 : Int) (v4 : Err) : Option (Q0 × Int × Err × Unit) := pq_want_cps N _ (fun a0 a1 a2 => some (a0, (a1, (a2, ())))) v1 v2 v3 v4
def parse_comparison_cps (N : Nat) (R : Type) (K : Int → Option R) (v1 : (List UInt8)) : Option R :=
 (bif (decide (v1 = [61])) then
 (K 8)
 else
 (bif (decide (v1 = [60, 62])) then
 (K 9)
 else
 (bif (decide (v1 = [60])) then
 (K 10)
 else
 (bif (decide (v1 = [60, 61])) then
 (K 11)
 else
 (bif (decide (v1 = [62])) then
 (K 12)
 else
 (bif (decide (v1 = [62, 61])) then
 (K 13)
 else
 (K 0)))))))
def parse_comparison (N : Nat) (v1 : (List UInt8)) : Option (Int × Unit) := parse_comparison_cps N _ (fun a0 => some (a0, ())) v1
def sx__l0B (N : Nat) (R : Type) (rec : (List (List UInt8)) → (List UInt8) → Int → Int → Option R) (k0 : Option R) (k1 : Int → Option R) (v4 : (List (List UInt8))) (v5 : (List UInt8)) (v6 : Int) (v7 : Int) : Option R :=
 (bif (decide (v7 < v6)) then
 (Option.bind (nth v4 v7) fun v8 =>
 (bif (decide (v5 = v8)) then
 (k1 v7)
 else
 (rec v4 v5 v6 (IntKind.wrap .i64 (v7 + 1)))))
 else
 k0)
def sx__l0 (N : Nat) (R : Type) (k0 : Option R) (k1 : Int → Option R) : Nat → (List (List UInt8)) → (List UInt8) → Int → Int → Option R
 | 0 => fun _ _ _ _ => none
 | n + 1 => sx__l0B N R (sx__l0 N R k0 k1 n) k0 k1
def sx__cps (N : Nat) (R : Type) (K : Int → Option R) (v1 : (List (List UInt8))) (v2 : (List UInt8)) : Option R :=
 (sx__l0 N _ ((K (-1))) K N v1 v2 (v1.length : Int) 0)
def sx_ (N : Nat) (v1 : (List (List UInt8))) (v2 : (List UInt8)) : Option (Int × Unit) := sx__cps N _ (fun a0 => some (a0, ())) v1 v2
def slices_Contains_string_string_cps (N : Nat) (R : Type) (K : Bool → Option R) (v1 : (List (List UInt8))) (v2 : (List UInt8)) : Option R :=
 (Option.bind (sx_ N v1 v2) fun v3 =>
 (K (decide (0 ≤ v3.1))))
def slices_Contains_string_string (N : Nat) (v1 : (List (List UInt8))) (v2 : (List UInt8)) : Option (Bool × Unit) := slices_Contains_string_string_cps N _ (fun a0 => some (a0, ())) v1 v2
def parse_reserved_cps (N : Nat) (R : Type) (K : Bool → Option R) (v1 : (List UInt8)) : Option R :=
 (Option.bind (slices_Contains_string_string N ([[115, 101, 108, 101, 99, 116], [102, 114, 111, 109], [106, 111, 105, 110], [111, 110], [119, 104, 101, 114, 101], [103, 114, 111, 117, 112], [98, 121], [111, 114, 100, 101, 114], [97, 115, 99], [100, 101, 115, 99], [108, 105, 109, 105, 116], [105, 110, 115, 101, 114, 116], [105, 110, 116, 111], [118, 97, 108, 117, 101, 115], [117, 112, 100, 97, 116, 101], [115, 101, 116], [100, 101, 108, 101, 116, 101], [97, 110, 100], [111, 114], [110, 111, 116], [105, 115], [110, 117, 108, 108], [116, 114, 117, 101], [102, 97, 108, 115, 101], [99, 111, 117, 110, 116], [115, 117, 109], [109, 105, 110], [109, 97, 120]] : (List (List UInt8))) v1) fun v2 =>
 (K v2.1))
def parse_reserved (N : Nat) (v1 : (List UInt8)) : Option (Bool × Unit) := parse_reserved_cps N _ (fun a0 => some (a0, ())) v1
def pq_name_cps (N : Nat) (R : Type) (K : (List UInt8) → Q0 → Int → Err → Option R) (v1 : Q0) (v2 : Int) (v3 : Err) : Option R :=
 (bif (!(Err.isNil v3)) then
 (Option.bind (pq_fail N 171 v1 v2 v3) fun v4 =>
 (K [] v4.1 v4.2.1 v4.2.2.1))
 else
 (Option.bind (nth v1 0) fun v5 =>
 (bif (!(decide (v5.1 = 1))) then
 (Option.bind (pq_fail N 171 v1 v2 v3) fun v6 =>
 (K [] v6.1 v6.2.1 v6.2.2.1))
 else
 (Option.bind (nth v1 0) fun v7 =>
 (Option.bind (parse_reserved N v7.2.1) fun v8 =>
 (bif v8.1 then
 (Option.bind (pq_fail N 171 v1 v2 v3) fun v9 =>
 (K [] v9.1 v9.2.1 v9.2.2.1))
 else
 (Option.bind (pq_next N v1 v2 v3) fun v10 =>
 (K v10.2.1 v10.2.2.2.2.2.2.1 v10.2.2.2.2.2.2.2.1 v10.2.2.2.2.2.2.2.2.1))))))))
def pq_name (N : Nat) (v1 : Q0) (v2 : Int) (v3 : Err) : Option ((List UInt8) × Q0 × Int × Err × Unit) := pq_name_cps N _ (fun a0 a1 a2 a3 => some (a0, (a1, (a2, (a3, ()))))) v1 v2 v3
def parse_op_j0 (N : Nat) (R : Type) (k0 : Int → Int → (List UInt8) → Int → Int → (List UInt8) → Int → Option R) (v22 : Int) (v23 : Int) (v24 : (List UInt8)) (v25 : Int) (v26 : Int) (v27 : (List UInt8)) (v28 : Int) : Option R :=
 (bif (decide (v22 = 0)) then
 (bif (decide (v24 = [111, 114])) then
 (k0 15 v23 v24 v25 v26 v27 v28)
 else
 (k0 0 v23 v24 v25 v26 v27 v28))
 else
 (bif (decide (v22 = 1)) then
 (bif (decide (v24 = [97, 110, 100])) then
 (k0 14 v23 v24 v25 v26 v27 v28)
 else
 (k0 0 v23 v24 v25 v26 v27 v28))
 else
 (bif (decide (v22 = 3)) then
 (bif (decide (v24 = [43])) then
 (k0 3 v23 v24 v25 v26 v27 v28)
 else
 (bif (decide (v24 = [45])) then
 (k0 4 v23 v24 v25 v26 v27 v28)
 else
 (k0 0 v23 v24 v25 v26 v27 v28)))
 else
 (bif (decide (v22 = 4)) then
 (bif (decide (v24 = [42])) then
 (k0 5 v23 v24 v25 v26 v27 v28)
 else
 (bif (decide (v24 = [47])) then
 (k0 6 v23 v24 v25 v26 v27 v28)
 else
 (k0 0 v23 v24 v25 v26 v27 v28)))
 else
 (k0 0 v23 v24 v25 v26 v27 v28)))))
def parse_op_cps (N : Nat) (R : Type) (K : Int → Option R) (v1 : Int) (v2 : (List UInt8)) (v3 : Int) (v4 : Int) (v5 : (List UInt8)) (v6 : Int) (v7 : Int) : Option R :=
 (bif (!(decide (v1 = 1))) then
 (bif (!(decide (v1 = 5))) then
 (K 0)
 else
 (parse_op_j0 N _ (fun v8 v9 v10 v11 v12 v13 v14 =>
 (K v8)) v7 v1 v2 v3 v4 v5 v6))
 else
 (parse_op_j0 N _ (fun v15 v16 v17 v18 v19 v20 v21 =>
 (K v15)) v7 v1 v2 v3 v4 v5 v6))
def parse_op (N : Nat) (v1 : Int) (v2 : (List UInt8)) (v3 : Int) (v4 : Int) (v5 : (List UInt8)) (v6 : Int) (v7 : Int) : Option (Int × Unit) := parse_op_cps N _ (fun a0 => some (a0, ())) v1 v2 v3 v4 v5 v6 v7
set_option warn.classDefReducibility false
class Z_pq_whole where
 r_pq_not : Q0 → Int → Err → Option Q1
 r_pq_sign : Q0 → Int → Err → Option Q1
 r_pq_expr : Int → Q0 → Int → Err → Option Q1
 r_pq_whole : Q0 → Int → Err → Option Q1
section
variable [Z_pq_whole]
/- (*frankpledge/parse.parser).test -/
def pq_test_o_r0 (N : Nat) (R : Type) (k0 : Q0 → Int → Err → Int → Int → Int → (List UInt8) → (List UInt8) → (List UInt8) → Int → (List Ex) → Int → Int → Int → Int → Int → (List UInt8) → (List UInt8) → (List UInt8) → Int → (List Ex) → Int → Int → Int → (List UInt8) → Int → Int → (List UInt8) → Int → Option R) (v40 : Int) (v41 : Q0) (v42 : Int) (v43 : Err) (v44 : Int) (v45 : Int) (v46 : Int) (v47 : (List UInt8)) (v48 : (List UInt8)) (v49 : (List UInt8)) (v50 : Int) (v51 : Int) (v52 : Int) (v53 : Int) (v54 : Int) (v55 : Int) (v56 : (List UInt8)) (v57 : (List UInt8)) (v58 : (List UInt8)) (v59 : Int) (v60 : (List Ex)) (v61 : Int) (v62 : Int) (v63 : Int) (v64 : (List UInt8)) (v65 : Int) (v66 : Int) (v67 : (List UInt8)) (v68 : Int) : Option R :=
 (Option.bind (Z_pq_whole.r_pq_expr 3 v41 v42 v43) fun v69 =>
 (k0 v69.2.2.2.2.2.2.2.2.2.2.1 v69.2.2.2.2.2.2.2.2.2.2.2.1 v69.2.2.2.2.2.2.2.2.2.2.2.2.1 v40 0 0 [] [] [] 0 ([(Ex.mk v53 v54 v55 v56 v57 v58 v59 v60 v61 v62), (Ex.mk v69.1 v69.2.1 v69.2.2.1 v69.2.2.2.1 v69.2.2.2.2.1 v69.2.2.2.2.2.1 v69.2.2.2.2.2.2.1 v69.2.2.2.2.2.2.2.1 v69.2.2.2.2.2.2.2.2.1 v69.2.2.2.2.2.2.2.2.2.1)] : (List Ex)) 0 v68 v53 v54 v55 v56 v57 v58 v59 v60 v61 v62 v63 v64 v65 v66 v67 v68))
def pq_test_o_cps (N : Nat) (R : Type) (K : Int → Int → Int → (List UInt8) → (List UInt8) → (List UInt8) → Int → (List Ex) → Int → Int → Q0 → Int → Err → Option R) (v1 : Q0) (v2 : Int) (v3 : Err) : Option R :=
 (Option.bind (Z_pq_whole.r_pq_expr 3 v1 v2 v3) fun v4 =>
 (bif (!(Err.isNil v4.2.2.2.2.2.2.2.2.2.2.2.2.1)) then
 (K v4.1 v4.2.1 v4.2.2.1 v4.2.2.2.1 v4.2.2.2.2.1 v4.2.2.2.2.2.1 v4.2.2.2.2.2.2.1 v4.2.2.2.2.2.2.2.1 v4.2.2.2.2.2.2.2.2.1 v4.2.2.2.2.2.2.2.2.2.1 v4.2.2.2.2.2.2.2.2.2.2.1 v4.2.2.2.2.2.2.2.2.2.2.2.1 v4.2.2.2.2.2.2.2.2.2.2.2.2.1)
 else
 (Option.bind (nth v4.2.2.2.2.2.2.2.2.2.2.1 0) fun v5 =>
 (Option.bind (pq_take N [105, 115] v4.2.2.2.2.2.2.2.2.2.2.1 v4.2.2.2.2.2.2.2.2.2.2.2.1 v4.2.2.2.2.2.2.2.2.2.2.2.2.1) fun v6 =>
 (bif v6.1 then
 (Option.bind (pq_take N [110, 111, 116] v6.2.1 v6.2.2.1 v6.2.2.2.1) fun v7 =>
 (Option.bind (pq_want N ([[110, 117, 108, 108]] : (List (List UInt8))) v7.2.1 v7.2.2.1 v7.2.2.2.1) fun v8 =>
 (bif v7.1 then
 (K 16 0 0 [] [] [] 0 ([(Ex.mk 17 0 0 [] [] [] 0 ([(Ex.mk v4.1 v4.2.1 v4.2.2.1 v4.2.2.2.1 v4.2.2.2.2.1 v4.2.2.2.2.2.1 v4.2.2.2.2.2.2.1 v4.2.2.2.2.2.2.2.1 v4.2.2.2.2.2.2.2.2.1 v4.2.2.2.2.2.2.2.2.2.1)] : (List Ex)) 0 v5.2.2.2.1)] : (List Ex)) 0 v5.2.2.2.1 v8.1 v8.2.1 v8.2.2.1)
 else
 (K 17 0 0 [] [] [] 0 ([(Ex.mk v4.1 v4.2.1 v4.2.2.1 v4.2.2.2.1 v4.2.2.2.2.1 v4.2.2.2.2.2.1 v4.2.2.2.2.2.2.1 v4.2.2.2.2.2.2.2.1 v4.2.2.2.2.2.2.2.2.1 v4.2.2.2.2.2.2.2.2.2.1)] : (List Ex)) 0 v5.2.2.2.1 v8.1 v8.2.1 v8.2.2.1))))
 else
 (Option.bind (parse_comparison N v5.2.1) fun v9 =>
 (bif (decide (v5.1 = 5)) then
 (bif (!(decide (v9.1 = 0))) then
 (Option.bind (pq_next N v6.2.1 v6.2.2.1 v6.2.2.2.1) fun v10 =>
 (pq_test_o_r0 N _ (fun v11 v12 v13 v14 v15 v16 v17 v18 v19 v20 v21 v22 v23 v24 v25 v26 v27 v28 v29 v30 v31 v32 v33 v34 v35 v36 v37 v38 v39 =>
 (K v14 v15 v16 v17 v18 v19 v20 v21 v22 v23 v11 v12 v13)) v9.1 v10.2.2.2.2.2.2.1 v10.2.2.2.2.2.2.2.1 v10.2.2.2.2.2.2.2.2.1 0 0 0 [] [] [] 0 0 0 v4.1 v4.2.1 v4.2.2.1 v4.2.2.2.1 v4.2.2.2.2.1 v4.2.2.2.2.2.1 v4.2.2.2.2.2.2.1 v4.2.2.2.2.2.2.2.1 v4.2.2.2.2.2.2.2.2.1 v4.2.2.2.2.2.2.2.2.2.1 v5.1 v5.2.1 v5.2.2.1.1 v5.2.2.1.2.1 v5.2.2.1.2.2.1 v5.2.2.2.1))
 else
 (K v4.1 v4.2.1 v4.2.2.1 v4.2.2.2.1 v4.2.2.2.2.1 v4.2.2.2.2.2.1 v4.2.2.2.2.2.2.1 v4.2.2.2.2.2.2.2.1 v4.2.2.2.2.2.2.2.2.1 v4.2.2.2.2.2.2.2.2.2.1 v6.2.1 v6.2.2.1 v6.2.2.2.1))
 else
 (K v4.1 v4.2.1 v4.2.2.1 v4.2.2.2.1 v4.2.2.2.2.1 v4.2.2.2.2.2.1 v4.2.2.2.2.2.2.1 v4.2.2.2.2.2.2.2.1 v4.2.2.2.2.2.2.2.2.1 v4.2.2.2.2.2.2.2.2.2.1 v6.2.1 v6.2.2.1 v6.2.2.2.1))))))))
def pq_test_o (N : Nat) (v1 : Q0) (v2 : Int) (v3 : Err) : Option Q1 := pq_test_o_cps N _ (fun a0 a1 a2 a3 a4 a5 a6 a7 a8 a9 a10 a11 a12 => some (a0, (a1, (a2, (a3, (a4, (a5, (a6, (a7, (a8, (a9, (a10, (a11, (a12, ())))))))))))))) v1 v2 v3
/- (*frankpledge/parse.parser).within -/
def pq_within_o_cps (N : Nat) (R : Type) (K : Int → Int → Int → (List UInt8) → (List UInt8) → (List UInt8) → Int → (List Ex) → Int → Int → Q0 → Int → Err → Option R) (v1 : Q0) (v2 : Int) (v3 : Err) : Option R :=
 (bif (decide (64 ≤ v2)) then
 (Option.bind (pq_fail N 172 v1 v2 v3) fun v4 =>
 (bif (!(Err.isNil v4.2.2.1)) then
 (K 0 0 0 [] [] [] 0 [] 0 0 v4.1 v4.2.1 v4.2.2.1)
 else
 (Option.bind (Z_pq_whole.r_pq_not v4.1 (IntKind.wrap .i64 (v4.2.1 + 1)) v4.2.2.1) fun v5 =>
 (K v5.1 v5.2.1 v5.2.2.1 v5.2.2.2.1 v5.2.2.2.2.1 v5.2.2.2.2.2.1 v5.2.2.2.2.2.2.1 v5.2.2.2.2.2.2.2.1 v5.2.2.2.2.2.2.2.2.1 v5.2.2.2.2.2.2.2.2.2.1 v5.2.2.2.2.2.2.2.2.2.2.1 (IntKind.wrap .i64 (v5.2.2.2.2.2.2.2.2.2.2.2.1 - 1)) v5.2.2.2.2.2.2.2.2.2.2.2.2.1))))
 else
 (bif (!(Err.isNil v3)) then
 (K 0 0 0 [] [] [] 0 [] 0 0 v1 v2 v3)
 else
 (Option.bind (Z_pq_whole.r_pq_not v1 (IntKind.wrap .i64 (v2 + 1)) v3) fun v6 =>
 (K v6.1 v6.2.1 v6.2.2.1 v6.2.2.2.1 v6.2.2.2.2.1 v6.2.2.2.2.2.1 v6.2.2.2.2.2.2.1 v6.2.2.2.2.2.2.2.1 v6.2.2.2.2.2.2.2.2.1 v6.2.2.2.2.2.2.2.2.2.1 v6.2.2.2.2.2.2.2.2.2.2.1 (IntKind.wrap .i64 (v6.2.2.2.2.2.2.2.2.2.2.2.1 - 1)) v6.2.2.2.2.2.2.2.2.2.2.2.2.1))))
def pq_within_o (N : Nat) (v1 : Q0) (v2 : Int) (v3 : Err) : Option Q1 := pq_within_o_cps N _ (fun a0 a1 a2 a3 a4 a5 a6 a7 a8 a9 a10 a11 a12 => some (a0, (a1, (a2, (a3, (a4, (a5, (a6, (a7, (a8, (a9, (a10, (a11, (a12, ())))))))))))))) v1 v2 v3
/- (*frankpledge/parse.parser).not -/
def pq_not_o_cps (N : Nat) (R : Type) (K : Int → Int → Int → (List UInt8) → (List UInt8) → (List UInt8) → Int → (List Ex) → Int → Int → Q0 → Int → Err → Option R) (v1 : Q0) (v2 : Int) (v3 : Err) : Option R :=
 (Option.bind (pq_is N [110, 111, 116] v1 v2 v3) fun v4 =>
 (bif (!v4.1) then
 (Option.bind (pq_test_o N v1 v2 v3) fun v5 =>
 (K v5.1 v5.2.1 v5.2.2.1 v5.2.2.2.1 v5.2.2.2.2.1 v5.2.2.2.2.2.1 v5.2.2.2.2.2.2.1 v5.2.2.2.2.2.2.2.1 v5.2.2.2.2.2.2.2.2.1 v5.2.2.2.2.2.2.2.2.2.1 v5.2.2.2.2.2.2.2.2.2.2.1 v5.2.2.2.2.2.2.2.2.2.2.2.1 v5.2.2.2.2.2.2.2.2.2.2.2.2.1))
 else
 (Option.bind (pq_next N v1 v2 v3) fun v6 =>
 (Option.bind (pq_within_o N v6.2.2.2.2.2.2.1 v6.2.2.2.2.2.2.2.1 v6.2.2.2.2.2.2.2.2.1) fun v7 =>
 (K 16 0 0 [] [] [] 0 ([(Ex.mk v7.1 v7.2.1 v7.2.2.1 v7.2.2.2.1 v7.2.2.2.2.1 v7.2.2.2.2.2.1 v7.2.2.2.2.2.2.1 v7.2.2.2.2.2.2.2.1 v7.2.2.2.2.2.2.2.2.1 v7.2.2.2.2.2.2.2.2.2.1)] : (List Ex)) 0 v6.2.2.2.2.2.1 v7.2.2.2.2.2.2.2.2.2.2.1 v7.2.2.2.2.2.2.2.2.2.2.2.1 v7.2.2.2.2.2.2.2.2.2.2.2.2.1)))))
def pq_not_o (N : Nat) (v1 : Q0) (v2 : Int) (v3 : Err) : Option Q1 := pq_not_o_cps N _ (fun a0 a1 a2 a3 a4 a5 a6 a7 a8 a9 a10 a11 a12 => some (a0, (a1, (a2, (a3, (a4, (a5, (a6, (a7, (a8, (a9, (a10, (a11, (a12, ())))))))))))))) v1 v2 v3
/- (*frankpledge/parse.parser).within -/
def pq_within_1_o_cps (N : Nat) (R : Type) (K : Int → Int → Int → (List UInt8) → (List UInt8) → (List UInt8) → Int → (List Ex) → Int → Int → Q0 → Int → Err → Option R) (v1 : Q0) (v2 : Int) (v3 : Err) : Option R :=
 (bif (decide (64 ≤ v2)) then
 (Option.bind (pq_fail N 172 v1 v2 v3) fun v4 =>
 (bif (!(Err.isNil v4.2.2.1)) then
 (K 0 0 0 [] [] [] 0 [] 0 0 v4.1 v4.2.1 v4.2.2.1)
 else
 (Option.bind (Z_pq_whole.r_pq_whole v4.1 (IntKind.wrap .i64 (v4.2.1 + 1)) v4.2.2.1) fun v5 =>
 (K v5.1 v5.2.1 v5.2.2.1 v5.2.2.2.1 v5.2.2.2.2.1 v5.2.2.2.2.2.1 v5.2.2.2.2.2.2.1 v5.2.2.2.2.2.2.2.1 v5.2.2.2.2.2.2.2.2.1 v5.2.2.2.2.2.2.2.2.2.1 v5.2.2.2.2.2.2.2.2.2.2.1 (IntKind.wrap .i64 (v5.2.2.2.2.2.2.2.2.2.2.2.1 - 1)) v5.2.2.2.2.2.2.2.2.2.2.2.2.1))))
 else
 (bif (!(Err.isNil v3)) then
 (K 0 0 0 [] [] [] 0 [] 0 0 v1 v2 v3)
 else
 (Option.bind (Z_pq_whole.r_pq_whole v1 (IntKind.wrap .i64 (v2 + 1)) v3) fun v6 =>
 (K v6.1 v6.2.1 v6.2.2.1 v6.2.2.2.1 v6.2.2.2.2.1 v6.2.2.2.2.2.1 v6.2.2.2.2.2.2.1 v6.2.2.2.2.2.2.2.1 v6.2.2.2.2.2.2.2.2.1 v6.2.2.2.2.2.2.2.2.2.1 v6.2.2.2.2.2.2.2.2.2.2.1 (IntKind.wrap .i64 (v6.2.2.2.2.2.2.2.2.2.2.2.1 - 1)) v6.2.2.2.2.2.2.2.2.2.2.2.2.1))))
def pq_within_1_o (N : Nat) (v1 : Q0) (v2 : Int) (v3 : Err) : Option Q1 := pq_within_1_o_cps N _ (fun a0 a1 a2 a3 a4 a5 a6 a7 a8 a9 a10 a11 a12 => some (a0, (a1, (a2, (a3, (a4, (a5, (a6, (a7, (a8, (a9, (a10, (a11, (a12, ())))))))))))))) v1 v2 v3
/- (*frankpledge/parse.parser).inner -/
def pq_inner_o_cps (N : Nat) (R : Type) (K : Int → Int → Int → (List UInt8) → (List UInt8) → (List UInt8) → Int → (List Ex) → Int → Int → Q0 → Int → Err → Option R) (v1 : Q0) (v2 : Int) (v3 : Err) : Option R :=
 (Option.bind (pq_want N ([[40]] : (List (List UInt8))) v1 v2 v3) fun v4 =>
 (Option.bind (pq_within_1_o N v4.1 v4.2.1 v4.2.2.1) fun v5 =>
 (Option.bind (pq_want N ([[41]] : (List (List UInt8))) v5.2.2.2.2.2.2.2.2.2.2.1 v5.2.2.2.2.2.2.2.2.2.2.2.1 v5.2.2.2.2.2.2.2.2.2.2.2.2.1) fun v6 =>
 (K v5.1 v5.2.1 v5.2.2.1 v5.2.2.2.1 v5.2.2.2.2.1 v5.2.2.2.2.2.1 v5.2.2.2.2.2.2.1 v5.2.2.2.2.2.2.2.1 v5.2.2.2.2.2.2.2.2.1 v5.2.2.2.2.2.2.2.2.2.1 v6.1 v6.2.1 v6.2.2.1))))
def pq_inner_o (N : Nat) (v1 : Q0) (v2 : Int) (v3 : Err) : Option Q1 := pq_inner_o_cps N _ (fun a0 a1 a2 a3 a4 a5 a6 a7 a8 a9 a10 a11 a12 => some (a0, (a1, (a2, (a3, (a4, (a5, (a6, (a7, (a8, (a9, (a10, (a11, (a12, ())))))))))))))) v1 v2 v3
/- (*frankpledge/parse.parser).word -/
def pq_word_o_r1 (N : Nat) (R : Type) (k0 : Q0 → Int → Err → Int → (List UInt8) → Int → Int → (List UInt8) → Int → Int → Int → Int → (List UInt8) → (List UInt8) → (List UInt8) → Int → (List Ex) → Int → Int → Int → Int → Int → (List UInt8) → (List UInt8) → (List UInt8) → Int → Int → Int → Int → Int → Int → (List UInt8) → (List UInt8) → (List UInt8) → Int → Int → Int → Option R) (v415 : Q0) (v416 : Int) (v417 : Err) (v418 : Int) (v419 : (List UInt8)) (v420 : Int) (v421 : Int) (v422 : (List UInt8)) (v423 : Int) (v424 : Int) (v425 : Int) (v426 : Int) (v427 : (List UInt8)) (v428 : (List UInt8)) (v429 : (List UInt8)) (v430 : Int) (v431 : (List Ex)) (v432 : Int) (v433 : Int) (v434 : Int) (v435 : Int) (v436 : Int) (v437 : (List UInt8)) (v438 : (List UInt8)) (v439 : (List UInt8)) (v440 : Int) (v441 : Int) (v442 : Int) (v443 : Int) (v444 : Int) (v445 : Int) (v446 : (List UInt8)) (v447 : (List UInt8)) (v448 : (List UInt8)) (v449 : Int) (v450 : Int) (v451 : Int) : Option R :=
 (Option.bind (pq_name N v415 v416 v417) fun v452 =>
 (k0 v452.2.1 v452.2.2.1 v452.2.2.2.1 v418 v419 v420 v421 v422 v423 v424 v425 v426 v427 v428 v429 v430 v431 v432 v433 v434 v435 v436 v437 v438 v439 v440 v441 v442 v443 v444 v445 v446 v448 v452.1 v449 v450 v451))
def pq_word_o_j0 (N : Nat) (R : Type) (k0 : Q0 → Int → Err → Int → (List UInt8) → Int → Int → (List UInt8) → Int → Int → Int → Int → (List UInt8) → (List UInt8) → (List UInt8) → Int → (List Ex) → Int → Int → Int → Int → Int → (List UInt8) → (List UInt8) → (List UInt8) → Int → Int → Int → Int → Int → Int → (List UInt8) → (List UInt8) → (List UInt8) → Int → Int → Int → Option R) (k1 : Q0 → Int → Err → Int → (List UInt8) → Int → Int → (List UInt8) → Int → Int → Int → Int → (List UInt8) → (List UInt8) → (List UInt8) → Int → (List Ex) → Int → Int → Int → Int → Int → (List UInt8) → (List UInt8) → (List UInt8) → Int → Int → Int → Int → Int → Int → (List UInt8) → (List UInt8) → (List UInt8) → Int → Int → Int → Option R) (v376 : Bool) (v377 : Q0) (v378 : Int) (v379 : Err) (v380 : Int) (v381 : (List UInt8)) (v382 : Int) (v383 : Int) (v384 : (List UInt8)) (v385 : Int) (v386 : Int) (v387 : Int) (v388 : Int) (v389 : (List UInt8)) (v390 : (List UInt8)) (v391 : (List UInt8)) (v392 : Int) (v393 : (List Ex)) (v394 : Int) (v395 : Int) (v396 : Int) (v397 : Int) (v398 : Int) (v399 : (List UInt8)) (v400 : (List UInt8)) (v401 : (List UInt8)) (v402 : Int) (v403 : Int) (v404 : Int) (v405 : Int) (v406 : Int) (v407 : Int) (v408 : (List UInt8)) (v409 : (List UInt8)) (v410 : (List UInt8)) (v411 : Int) (v412 : Int) (v413 : Int) : Option R :=
 (bif v376 then
 (bif (decide (0 ≤ (3 : Int) ∧ (3 : Int) ≤ ((v377.length : Nat) : Int))) then
 (Option.bind (pq_want N ([[41]] : (List (List UInt8))) (List.drop 3 (List.take v377.length v377)) v378 v379) fun v414 =>
 (k1 v414.1 v414.2.1 v414.2.2.1 v380 v381 v382 v383 v384 v385 v386 v387 v388 v389 v390 v391 v392 v393 v394 v395 18 v406 v407 v408 v409 v410 v411 v412 v413 18 v406 v407 v408 v409 v410 v411 v412 v413))
 else
 none)
 else
 (k0 v377 v378 v379 v380 v381 v382 v383 v384 v385 v386 v387 v388 v389 v390 v391 v392 v393 v394 v395 v396 v397 v398 v399 v400 v401 v402 v403 v404 v405 v406 v407 v408 v409 v410 v411 v412 v413))
def pq_word_o_cps (N : Nat) (R : Type) (K : Int → Int → Int → (List UInt8) → (List UInt8) → (List UInt8) → Int → (List Ex) → Int → Int → Q0 → Int → Err → Option R) (v1 : Int) (v2 : (List UInt8)) (v3 : Int) (v4 : Int) (v5 : (List UInt8)) (v6 : Int) (v7 : Int) (v8 : Int) (v9 : Int) (v10 : (List UInt8)) (v11 : (List UInt8)) (v12 : (List UInt8)) (v13 : Int) (v14 : (List Ex)) (v15 : Int) (v16 : Int) (v17 : Q0) (v18 : Int) (v19 : Err) : Option R :=
 (bif (decide (v2 = [116, 114, 117, 101])) then
 (Option.bind (pq_next N v17 v18 v19) fun v20 =>
 (K v7 1 1 v10 v11 v12 v13 v14 v15 v16 v20.2.2.2.2.2.2.1 v20.2.2.2.2.2.2.2.1 v20.2.2.2.2.2.2.2.2.1))
 else
 (bif (decide (v2 = [102, 97, 108, 115, 101])) then
 (Option.bind (pq_next N v17 v18 v19) fun v21 =>
 (K v7 1 v9 v10 v11 v12 v13 v14 v15 v16 v21.2.2.2.2.2.2.1 v21.2.2.2.2.2.2.2.1 v21.2.2.2.2.2.2.2.2.1))
 else
 (bif (decide (v2 = [110, 117, 108, 108])) then
 (Option.bind (pq_next N v17 v18 v19) fun v22 =>
 (K v7 v8 v9 v10 v11 v12 v13 v14 v15 v16 v22.2.2.2.2.2.2.1 v22.2.2.2.2.2.2.2.1 v22.2.2.2.2.2.2.2.2.1))
 else
 (bif (decide (v2 = [99, 111, 117, 110, 116])) then
 (Option.bind (nth v17 1) fun v23 =>
 (bif (decide (v23.1 = 5)) then
 (Option.bind (nth v17 1) fun v24 =>
 (bif (decide (v24.2.1 = [40])) then
 (Option.bind (nth v17 2) fun v25 =>
 (bif (decide (v25.1 = 5)) then
 (Option.bind (nth v17 2) fun v26 =>
 (pq_word_o_j0 N _ (fun v27 v28 v29 v30 v31 v32 v33 v34 v35 v36 v37 v38 v39 v40 v41 v42 v43 v44 v45 v46 v47 v48 v49 v50 v51 v52 v53 v54 v55 v56 v57 v58 v59 v60 v61 v62 v63 =>
 (Option.bind (pq_next N v27 v28 v29) fun v64 =>
 (Option.bind (pq_inner_o N v64.2.2.2.2.2.2.1 v64.2.2.2.2.2.2.2.1 v64.2.2.2.2.2.2.2.2.1) fun v65 =>
 (K 18 v56 v57 v58 v59 v60 v61 ([(Ex.mk v65.1 v65.2.1 v65.2.2.1 v65.2.2.2.1 v65.2.2.2.2.1 v65.2.2.2.2.2.1 v65.2.2.2.2.2.2.1 v65.2.2.2.2.2.2.2.1 v65.2.2.2.2.2.2.2.2.1 v65.2.2.2.2.2.2.2.2.2.1)] : (List Ex)) v62 v63 v65.2.2.2.2.2.2.2.2.2.2.1 v65.2.2.2.2.2.2.2.2.2.2.2.1 v65.2.2.2.2.2.2.2.2.2.2.2.2.1)))) (fun v66 v67 v68 v69 v70 v71 v72 v73 v74 v75 v76 v77 v78 v79 v80 v81 v82 v83 v84 v85 v86 v87 v88 v89 v90 v91 v92 v93 v94 v95 v96 v97 v98 v99 v100 v101 v102 =>
 (K v85 v86 v87 v88 v89 v90 v91 [] v92 v93 v66 v67 v68)) (decide (v26.2.1 = [42])) v17 v18 v19 v1 v2 v3 v4 v5 v6 v7 v8 v9 v10 v11 v12 v13 v14 v15 v16 0 0 0 [] [] [] 0 0 0 0 0 0 [] [] [] 0 0 v6))
 else
 (pq_word_o_j0 N _ (fun v103 v104 v105 v106 v107 v108 v109 v110 v111 v112 v113 v114 v115 v116 v117 v118 v119 v120 v121 v122 v123 v124 v125 v126 v127 v128 v129 v130 v131 v132 v133 v134 v135 v136 v137 v138 v139 =>
 (Option.bind (pq_next N v103 v104 v105) fun v140 =>
 (Option.bind (pq_inner_o N v140.2.2.2.2.2.2.1 v140.2.2.2.2.2.2.2.1 v140.2.2.2.2.2.2.2.2.1) fun v141 =>
 (K 18 v132 v133 v134 v135 v136 v137 ([(Ex.mk v141.1 v141.2.1 v141.2.2.1 v141.2.2.2.1 v141.2.2.2.2.1 v141.2.2.2.2.2.1 v141.2.2.2.2.2.2.1 v141.2.2.2.2.2.2.2.1 v141.2.2.2.2.2.2.2.2.1 v141.2.2.2.2.2.2.2.2.2.1)] : (List Ex)) v138 v139 v141.2.2.2.2.2.2.2.2.2.2.1 v141.2.2.2.2.2.2.2.2.2.2.2.1 v141.2.2.2.2.2.2.2.2.2.2.2.2.1)))) (fun v142 v143 v144 v145 v146 v147 v148 v149 v150 v151 v152 v153 v154 v155 v156 v157 v158 v159 v160 v161 v162 v163 v164 v165 v166 v167 v168 v169 v170 v171 v172 v173 v174 v175 v176 v177 v178 =>
 (K v161 v162 v163 v164 v165 v166 v167 [] v168 v169 v142 v143 v144)) false v17 v18 v19 v1 v2 v3 v4 v5 v6 v7 v8 v9 v10 v11 v12 v13 v14 v15 v16 0 0 0 [] [] [] 0 0 0 0 0 0 [] [] [] 0 0 v6)))
 else
 (pq_word_o_j0 N _ (fun v179 v180 v181 v182 v183 v184 v185 v186 v187 v188 v189 v190 v191 v192 v193 v194 v195 v196 v197 v198 v199 v200 v201 v202 v203 v204 v205 v206 v207 v208 v209 v210 v211 v212 v213 v214 v215 =>
 (Option.bind (pq_next N v179 v180 v181) fun v216 =>
 (Option.bind (pq_inner_o N v216.2.2.2.2.2.2.1 v216.2.2.2.2.2.2.2.1 v216.2.2.2.2.2.2.2.2.1) fun v217 =>
 (K 18 v208 v209 v210 v211 v212 v213 ([(Ex.mk v217.1 v217.2.1 v217.2.2.1 v217.2.2.2.1 v217.2.2.2.2.1 v217.2.2.2.2.2.1 v217.2.2.2.2.2.2.1 v217.2.2.2.2.2.2.2.1 v217.2.2.2.2.2.2.2.2.1 v217.2.2.2.2.2.2.2.2.2.1)] : (List Ex)) v214 v215 v217.2.2.2.2.2.2.2.2.2.2.1 v217.2.2.2.2.2.2.2.2.2.2.2.1 v217.2.2.2.2.2.2.2.2.2.2.2.2.1)))) (fun v218 v219 v220 v221 v222 v223 v224 v225 v226 v227 v228 v229 v230 v231 v232 v233 v234 v235 v236 v237 v238 v239 v240 v241 v242 v243 v244 v245 v246 v247 v248 v249 v250 v251 v252 v253 v254 =>
 (K v237 v238 v239 v240 v241 v242 v243 [] v244 v245 v218 v219 v220)) false v17 v18 v19 v1 v2 v3 v4 v5 v6 v7 v8 v9 v10 v11 v12 v13 v14 v15 v16 0 0 0 [] [] [] 0 0 0 0 0 0 [] [] [] 0 0 v6)))
 else
 (pq_word_o_j0 N _ (fun v255 v256 v257 v258 v259 v260 v261 v262 v263 v264 v265 v266 v267 v268 v269 v270 v271 v272 v273 v274 v275 v276 v277 v278 v279 v280 v281 v282 v283 v284 v285 v286 v287 v288 v289 v290 v291 =>
 (Option.bind (pq_next N v255 v256 v257) fun v292 =>
 (Option.bind (pq_inner_o N v292.2.2.2.2.2.2.1 v292.2.2.2.2.2.2.2.1 v292.2.2.2.2.2.2.2.2.1) fun v293 =>
 (K 18 v284 v285 v286 v287 v288 v289 ([(Ex.mk v293.1 v293.2.1 v293.2.2.1 v293.2.2.2.1 v293.2.2.2.2.1 v293.2.2.2.2.2.1 v293.2.2.2.2.2.2.1 v293.2.2.2.2.2.2.2.1 v293.2.2.2.2.2.2.2.2.1 v293.2.2.2.2.2.2.2.2.2.1)] : (List Ex)) v290 v291 v293.2.2.2.2.2.2.2.2.2.2.1 v293.2.2.2.2.2.2.2.2.2.2.2.1 v293.2.2.2.2.2.2.2.2.2.2.2.2.1)))) (fun v294 v295 v296 v297 v298 v299 v300 v301 v302 v303 v304 v305 v306 v307 v308 v309 v310 v311 v312 v313 v314 v315 v316 v317 v318 v319 v320 v321 v322 v323 v324 v325 v326 v327 v328 v329 v330 =>
 (K v313 v314 v315 v316 v317 v318 v319 [] v320 v321 v294 v295 v296)) false v17 v18 v19 v1 v2 v3 v4 v5 v6 v7 v8 v9 v10 v11 v12 v13 v14 v15 v16 0 0 0 [] [] [] 0 0 0 0 0 0 [] [] [] 0 0 v6)))
 else
 (bif (decide (v2 = [115, 117, 109])) then
 (Option.bind (pq_next N v17 v18 v19) fun v331 =>
 (Option.bind (pq_inner_o N v331.2.2.2.2.2.2.1 v331.2.2.2.2.2.2.2.1 v331.2.2.2.2.2.2.2.2.1) fun v332 =>
 (K 19 0 0 [] [] [] 0 ([(Ex.mk v332.1 v332.2.1 v332.2.2.1 v332.2.2.2.1 v332.2.2.2.2.1 v332.2.2.2.2.2.1 v332.2.2.2.2.2.2.1 v332.2.2.2.2.2.2.2.1 v332.2.2.2.2.2.2.2.2.1 v332.2.2.2.2.2.2.2.2.2.1)] : (List Ex)) 0 v6 v332.2.2.2.2.2.2.2.2.2.2.1 v332.2.2.2.2.2.2.2.2.2.2.2.1 v332.2.2.2.2.2.2.2.2.2.2.2.2.1)))
 else
 (bif (decide (v2 = [109, 105, 110])) then
 (Option.bind (pq_next N v17 v18 v19) fun v333 =>
 (Option.bind (pq_inner_o N v333.2.2.2.2.2.2.1 v333.2.2.2.2.2.2.2.1 v333.2.2.2.2.2.2.2.2.1) fun v334 =>
 (K 20 0 0 [] [] [] 0 ([(Ex.mk v334.1 v334.2.1 v334.2.2.1 v334.2.2.2.1 v334.2.2.2.2.1 v334.2.2.2.2.2.1 v334.2.2.2.2.2.2.1 v334.2.2.2.2.2.2.2.1 v334.2.2.2.2.2.2.2.2.1 v334.2.2.2.2.2.2.2.2.2.1)] : (List Ex)) 0 v6 v334.2.2.2.2.2.2.2.2.2.2.1 v334.2.2.2.2.2.2.2.2.2.2.2.1 v334.2.2.2.2.2.2.2.2.2.2.2.2.1)))
 else
 (bif (decide (v2 = [109, 97, 120])) then
 (Option.bind (pq_next N v17 v18 v19) fun v335 =>
 (Option.bind (pq_inner_o N v335.2.2.2.2.2.2.1 v335.2.2.2.2.2.2.2.1 v335.2.2.2.2.2.2.2.2.1) fun v336 =>
 (K 21 0 0 [] [] [] 0 ([(Ex.mk v336.1 v336.2.1 v336.2.2.1 v336.2.2.2.1 v336.2.2.2.2.1 v336.2.2.2.2.2.1 v336.2.2.2.2.2.2.1 v336.2.2.2.2.2.2.2.1 v336.2.2.2.2.2.2.2.2.1 v336.2.2.2.2.2.2.2.2.2.1)] : (List Ex)) 0 v6 v336.2.2.2.2.2.2.2.2.2.2.1 v336.2.2.2.2.2.2.2.2.2.2.2.1 v336.2.2.2.2.2.2.2.2.2.2.2.2.1)))
 else
 (Option.bind (pq_name N v17 v18 v19) fun v337 =>
 (Option.bind (pq_take N [46] v337.2.1 v337.2.2.1 v337.2.2.2.1) fun v338 =>
 (bif v338.1 then
 (pq_word_o_r1 N _ (fun v339 v340 v341 v342 v343 v344 v345 v346 v347 v348 v349 v350 v351 v352 v353 v354 v355 v356 v357 v358 v359 v360 v361 v362 v363 v364 v365 v366 v367 v368 v369 v370 v371 v372 v373 v374 v375 =>
 (K v367 v368 v369 v370 v371 v372 v373 [] v374 v375 v339 v340 v341)) v338.2.1 v338.2.2.1 v338.2.2.2.1 v1 v2 v3 v4 v5 v6 v7 v8 v9 v10 v11 v12 v13 v14 v15 v16 0 0 0 [] [] [] 0 0 0 2 0 0 [] [] v337.1 0 0 v6)
 else
 (K 2 0 0 [] [] v337.1 0 [] 0 v6 v338.2.1 v338.2.2.1 v338.2.2.2.1)))))))))))
def pq_word_o (N : Nat) (v1 : Int) (v2 : (List UInt8)) (v3 : Int) (v4 : Int) (v5 : (List UInt8)) (v6 : Int) (v7 : Int) (v8 : Int) (v9 : Int) (v10 : (List UInt8)) (v11 : (List UInt8)) (v12 : (List UInt8)) (v13 : Int) (v14 : (List Ex)) (v15 : Int) (v16 : Int) (v17 : Q0) (v18 : Int) (v19 : Err) : Option Q1 := pq_word_o_cps N _ (fun a0 a1 a2 a3 a4 a5 a6 a7 a8 a9 a10 a11 a12 => some (a0, (a1, (a2, (a3, (a4, (a5, (a6, (a7, (a8, (a9, (a10, (a11, (a12, ())))))))))))))) v1 v2 v3 v4 v5 v6 v7 v8 v9 v10 v11 v12 v13 v14 v15 v16 v17 v18 v19
/- (*frankpledge/parse.parser).one -/
def pq_one_o_cps (N : Nat) (R : Type) (K : Int → Int → Int → (List UInt8) → (List UInt8) → (List UInt8) → Int → (List Ex) → Int → Int → Q0 → Int → Err → Option R) (v1 : Q0) (v2 : Int) (v3 : Err) : Option R :=
 (bif (!(Err.isNil v3)) then
 (K 0 0 0 [] [] [] 0 [] 0 0 v1 v2 v3)
 else
 (Option.bind (nth v1 0) fun v4 =>
 (bif (decide (v4.1 = 2)) then
 (Option.bind (pq_next N v1 v2 v3) fun v5 =>
 (K 1 v4.2.2.1.1 v4.2.2.1.2.1 v4.2.2.1.2.2.1 [] [] 0 [] 0 v4.2.2.2.1 v5.2.2.2.2.2.2.1 v5.2.2.2.2.2.2.2.1 v5.2.2.2.2.2.2.2.2.1))
 else
 (bif (decide (v4.1 = 3)) then
 (Option.bind (pq_next N v1 v2 v3) fun v6 =>
 (K 1 v4.2.2.1.1 v4.2.2.1.2.1 v4.2.2.1.2.2.1 [] [] 0 [] 0 v4.2.2.2.1 v6.2.2.2.2.2.2.1 v6.2.2.2.2.2.2.2.1 v6.2.2.2.2.2.2.2.2.1))
 else
 (bif (decide (v4.1 = 4)) then
 (Option.bind (pq_next N v1 v2 v3) fun v7 =>
 (K 1 v4.2.2.1.1 v4.2.2.1.2.1 v4.2.2.1.2.2.1 [] [] 0 [] 0 v4.2.2.2.1 v7.2.2.2.2.2.2.1 v7.2.2.2.2.2.2.2.1 v7.2.2.2.2.2.2.2.2.1))
 else
 (bif (decide (v4.1 = 5)) then
 (bif (decide (v4.2.1 = [40])) then
 (Option.bind (pq_inner_o N v1 v2 v3) fun v8 =>
 (K v8.1 v8.2.1 v8.2.2.1 v8.2.2.2.1 v8.2.2.2.2.1 v8.2.2.2.2.2.1 v8.2.2.2.2.2.2.1 v8.2.2.2.2.2.2.2.1 v8.2.2.2.2.2.2.2.2.1 v8.2.2.2.2.2.2.2.2.2.1 v8.2.2.2.2.2.2.2.2.2.2.1 v8.2.2.2.2.2.2.2.2.2.2.2.1 v8.2.2.2.2.2.2.2.2.2.2.2.2.1))
 else
 (Option.bind (pq_fail N 171 v1 v2 v3) fun v9 =>
 (K 0 0 0 [] [] [] 0 [] 0 0 v9.1 v9.2.1 v9.2.2.1)))
 else
 (bif (decide (v4.1 = 1)) then
 (Option.bind (pq_word_o N v4.1 v4.2.1 v4.2.2.1.1 v4.2.2.1.2.1 v4.2.2.1.2.2.1 v4.2.2.2.1 1 v4.2.2.1.1 v4.2.2.1.2.1 v4.2.2.1.2.2.1 [] [] 0 [] 0 v4.2.2.2.1 v1 v2 v3) fun v10 =>
 (K v10.1 v10.2.1 v10.2.2.1 v10.2.2.2.1 v10.2.2.2.2.1 v10.2.2.2.2.2.1 v10.2.2.2.2.2.2.1 v10.2.2.2.2.2.2.2.1 v10.2.2.2.2.2.2.2.2.1 v10.2.2.2.2.2.2.2.2.2.1 v10.2.2.2.2.2.2.2.2.2.2.1 v10.2.2.2.2.2.2.2.2.2.2.2.1 v10.2.2.2.2.2.2.2.2.2.2.2.2.1))
 else
 (Option.bind (pq_fail N 171 v1 v2 v3) fun v11 =>
 (K 0 0 0 [] [] [] 0 [] 0 0 v11.1 v11.2.1 v11.2.2.1)))))))))
def pq_one_o (N : Nat) (v1 : Q0) (v2 : Int) (v3 : Err) : Option Q1 := pq_one_o_cps N _ (fun a0 a1 a2 a3 a4 a5 a6 a7 a8 a9 a10 a11 a12 => some (a0, (a1, (a2, (a3, (a4, (a5, (a6, (a7, (a8, (a9, (a10, (a11, (a12, ())))))))))))))) v1 v2 v3
/- (*frankpledge/parse.parser).within -/
def pq_within_2_o_cps (N : Nat) (R : Type) (K : Int → Int → Int → (List UInt8) → (List UInt8) → (List UInt8) → Int → (List Ex) → Int → Int → Q0 → Int → Err → Option R) (v1 : Q0) (v2 : Int) (v3 : Err) : Option R :=
 (bif (decide (64 ≤ v2)) then
 (Option.bind (pq_fail N 172 v1 v2 v3) fun v4 =>
 (bif (!(Err.isNil v4.2.2.1)) then
 (K 0 0 0 [] [] [] 0 [] 0 0 v4.1 v4.2.1 v4.2.2.1)
 else
 (Option.bind (Z_pq_whole.r_pq_sign v4.1 (IntKind.wrap .i64 (v4.2.1 + 1)) v4.2.2.1) fun v5 =>
 (K v5.1 v5.2.1 v5.2.2.1 v5.2.2.2.1 v5.2.2.2.2.1 v5.2.2.2.2.2.1 v5.2.2.2.2.2.2.1 v5.2.2.2.2.2.2.2.1 v5.2.2.2.2.2.2.2.2.1 v5.2.2.2.2.2.2.2.2.2.1 v5.2.2.2.2.2.2.2.2.2.2.1 (IntKind.wrap .i64 (v5.2.2.2.2.2.2.2.2.2.2.2.1 - 1)) v5.2.2.2.2.2.2.2.2.2.2.2.2.1))))
 else
 (bif (!(Err.isNil v3)) then
 (K 0 0 0 [] [] [] 0 [] 0 0 v1 v2 v3)
 else
 (Option.bind (Z_pq_whole.r_pq_sign v1 (IntKind.wrap .i64 (v2 + 1)) v3) fun v6 =>
 (K v6.1 v6.2.1 v6.2.2.1 v6.2.2.2.1 v6.2.2.2.2.1 v6.2.2.2.2.2.1 v6.2.2.2.2.2.2.1 v6.2.2.2.2.2.2.2.1 v6.2.2.2.2.2.2.2.2.1 v6.2.2.2.2.2.2.2.2.2.1 v6.2.2.2.2.2.2.2.2.2.2.1 (IntKind.wrap .i64 (v6.2.2.2.2.2.2.2.2.2.2.2.1 - 1)) v6.2.2.2.2.2.2.2.2.2.2.2.2.1))))
def pq_within_2_o (N : Nat) (v1 : Q0) (v2 : Int) (v3 : Err) : Option Q1 := pq_within_2_o_cps N _ (fun a0 a1 a2 a3 a4 a5 a6 a7 a8 a9 a10 a11 a12 => some (a0, (a1, (a2, (a3, (a4, (a5, (a6, (a7, (a8, (a9, (a10, (a11, (a12, ())))))))))))))) v1 v2 v3
/- (*frankpledge/parse.parser).sign -/
def pq_sign_o_cps (N : Nat) (R : Type) (K : Int → Int → Int → (List UInt8) → (List UInt8) → (List UInt8) → Int → (List Ex) → Int → Int → Q0 → Int → Err → Option R) (v1 : Q0) (v2 : Int) (v3 : Err) : Option R :=
 (Option.bind (pq_is N [45] v1 v2 v3) fun v4 =>
 (bif (!v4.1) then
 (Option.bind (pq_one_o N v1 v2 v3) fun v5 =>
 (K v5.1 v5.2.1 v5.2.2.1 v5.2.2.2.1 v5.2.2.2.2.1 v5.2.2.2.2.2.1 v5.2.2.2.2.2.2.1 v5.2.2.2.2.2.2.2.1 v5.2.2.2.2.2.2.2.2.1 v5.2.2.2.2.2.2.2.2.2.1 v5.2.2.2.2.2.2.2.2.2.2.1 v5.2.2.2.2.2.2.2.2.2.2.2.1 v5.2.2.2.2.2.2.2.2.2.2.2.2.1))
 else
 (Option.bind (pq_next N v1 v2 v3) fun v6 =>
 (Option.bind (pq_within_2_o N v6.2.2.2.2.2.2.1 v6.2.2.2.2.2.2.2.1 v6.2.2.2.2.2.2.2.2.1) fun v7 =>
 (K 7 0 0 [] [] [] 0 ([(Ex.mk v7.1 v7.2.1 v7.2.2.1 v7.2.2.2.1 v7.2.2.2.2.1 v7.2.2.2.2.2.1 v7.2.2.2.2.2.2.1 v7.2.2.2.2.2.2.2.1 v7.2.2.2.2.2.2.2.2.1 v7.2.2.2.2.2.2.2.2.2.1)] : (List Ex)) 0 v6.2.2.2.2.2.1 v7.2.2.2.2.2.2.2.2.2.2.1 v7.2.2.2.2.2.2.2.2.2.2.2.1 v7.2.2.2.2.2.2.2.2.2.2.2.2.1)))))
def pq_sign_o (N : Nat) (v1 : Q0) (v2 : Int) (v3 : Err) : Option Q1 := pq_sign_o_cps N _ (fun a0 a1 a2 a3 a4 a5 a6 a7 a8 a9 a10 a11 a12 => some (a0, (a1, (a2, (a3, (a4, (a5, (a6, (a7, (a8, (a9, (a10, (a11, (a12, ())))))))))))))) v1 v2 v3
/- (*frankpledge/parse.parser).expr -/
def pq_expr_o_r1 (N : Nat) (R : Type) (k0 : Int → Q0 → Int → Err → Int → Int → Int → (List UInt8) → (List UInt8) → (List UInt8) → Int → Int → Int → Int → Int → Int → (List UInt8) → (List UInt8) → (List UInt8) → Int → (List Ex) → Int → Int → Option R) (v79 : Int) (v80 : Int) (v81 : Int) (v82 : Q0) (v83 : Int) (v84 : Err) (v85 : Int) (v86 : Int) (v87 : Int) (v88 : (List UInt8)) (v89 : (List UInt8)) (v90 : (List UInt8)) (v91 : Int) (v92 : Int) (v93 : Int) (v94 : Int) (v95 : Int) (v96 : Int) (v97 : (List UInt8)) (v98 : (List UInt8)) (v99 : (List UInt8)) (v100 : Int) (v101 : (List Ex)) (v102 : Int) (v103 : Int) : Option R :=
 (Option.bind (Z_pq_whole.r_pq_expr (IntKind.wrap .i64 (v79 + 1)) v82 v83 v84) fun v104 =>
 (k0 v79 v104.2.2.2.2.2.2.2.2.2.2.1 v104.2.2.2.2.2.2.2.2.2.2.2.1 v104.2.2.2.2.2.2.2.2.2.2.2.2.1 v85 v86 v87 v88 v89 v90 v91 v92 v93 v80 0 0 [] [] [] 0 ([(Ex.mk v94 v95 v96 v97 v98 v99 v100 v101 v102 v103), (Ex.mk v104.1 v104.2.1 v104.2.2.1 v104.2.2.2.1 v104.2.2.2.2.1 v104.2.2.2.2.2.1 v104.2.2.2.2.2.2.1 v104.2.2.2.2.2.2.2.1 v104.2.2.2.2.2.2.2.2.1 v104.2.2.2.2.2.2.2.2.2.1)] : (List Ex)) 0 v81))
def pq_expr_o_l0B (N : Nat) (R : Type) (rec : Int → Q0 → Int → Err → Int → Int → Int → (List UInt8) → (List UInt8) → (List UInt8) → Int → Int → Int → Int → Int → Int → (List UInt8) → (List UInt8) → (List UInt8) → Int → (List Ex) → Int → Int → Option R) (k0 : Q0 → Int → Err → Int → Int → Int → (List UInt8) → (List UInt8) → (List UInt8) → Int → Int → Int → Int → Int → Int → (List UInt8) → (List UInt8) → (List UInt8) → Int → (List Ex) → Int → Int → Option R) (v30 : Int) (v31 : Q0) (v32 : Int) (v33 : Err) (v34 : Int) (v35 : Int) (v36 : Int) (v37 : (List UInt8)) (v38 : (List UInt8)) (v39 : (List UInt8)) (v40 : Int) (v41 : Int) (v42 : Int) (v43 : Int) (v44 : Int) (v45 : Int) (v46 : (List UInt8)) (v47 : (List UInt8)) (v48 : (List UInt8)) (v49 : Int) (v50 : (List Ex)) (v51 : Int) (v52 : Int) : Option R :=
 (bif (Err.isNil v33) then
 (Option.bind (nth v31 0) fun v53 =>
 (Option.bind (parse_op N v53.1 v53.2.1 v53.2.2.1.1 v53.2.2.1.2.1 v53.2.2.1.2.2.1 v53.2.2.2.1 v30) fun v54 =>
 (bif (decide (v54.1 = 0)) then
 (k0 v31 v32 v33 v34 v35 v36 v37 v38 v39 v40 v41 v42 v43 v44 v45 v46 v47 v48 v49 v50 v51 v52)
 else
 (Option.bind (pq_next N v31 v32 v33) fun v55 =>
 (pq_expr_o_r1 N _ rec v30 v54.1 v55.2.2.2.2.2.1 v55.2.2.2.2.2.2.1 v55.2.2.2.2.2.2.2.1 v55.2.2.2.2.2.2.2.2.1 v34 v35 v36 v37 v38 v39 v40 v41 v42 v43 v44 v45 v46 v47 v48 v49 v50 v51 v52)))))
 else
 (k0 v31 v32 v33 v34 v35 v36 v37 v38 v39 v40 v41 v42 v43 v44 v45 v46 v47 v48 v49 v50 v51 v52))
def pq_expr_o_l0 (N : Nat) (R : Type) (k0 : Q0 → Int → Err → Int → Int → Int → (List UInt8) → (List UInt8) → (List UInt8) → Int → Int → Int → Int → Int → Int → (List UInt8) → (List UInt8) → (List UInt8) → Int → (List Ex) → Int → Int → Option R) : Nat → Int → Q0 → Int → Err → Int → Int → Int → (List UInt8) → (List UInt8) → (List UInt8) → Int → Int → Int → Int → Int → Int → (List UInt8) → (List UInt8) → (List UInt8) → Int → (List Ex) → Int → Int → Option R
 | 0 => fun _ _ _ _ _ _ _ _ _ _ _ _ _ _ _ _ _ _ _ _ _ _ _ => none
 | n + 1 => pq_expr_o_l0B N R (pq_expr_o_l0 N R k0 n) k0
def pq_expr_o_cps (N : Nat) (R : Type) (K : Int → Int → Int → (List UInt8) → (List UInt8) → (List UInt8) → Int → (List Ex) → Int → Int → Q0 → Int → Err → Option R) (v1 : Int) (v2 : Q0) (v3 : Int) (v4 : Err) : Option R :=
 (bif (decide (v1 = 2)) then
 (Option.bind (pq_not_o N v2 v3 v4) fun v5 =>
 (K v5.1 v5.2.1 v5.2.2.1 v5.2.2.2.1 v5.2.2.2.2.1 v5.2.2.2.2.2.1 v5.2.2.2.2.2.2.1 v5.2.2.2.2.2.2.2.1 v5.2.2.2.2.2.2.2.2.1 v5.2.2.2.2.2.2.2.2.2.1 v5.2.2.2.2.2.2.2.2.2.2.1 v5.2.2.2.2.2.2.2.2.2.2.2.1 v5.2.2.2.2.2.2.2.2.2.2.2.2.1))
 else
 (bif (decide (v1 = 5)) then
 (Option.bind (pq_sign_o N v2 v3 v4) fun v6 =>
 (K v6.1 v6.2.1 v6.2.2.1 v6.2.2.2.1 v6.2.2.2.2.1 v6.2.2.2.2.2.1 v6.2.2.2.2.2.2.1 v6.2.2.2.2.2.2.2.1 v6.2.2.2.2.2.2.2.2.1 v6.2.2.2.2.2.2.2.2.2.1 v6.2.2.2.2.2.2.2.2.2.2.1 v6.2.2.2.2.2.2.2.2.2.2.2.1 v6.2.2.2.2.2.2.2.2.2.2.2.2.1))
 else
 (Option.bind (Z_pq_whole.r_pq_expr (IntKind.wrap .i64 (v1 + 1)) v2 v3 v4) fun v7 =>
 (pq_expr_o_l0 N _ (fun v8 v9 v10 v11 v12 v13 v14 v15 v16 v17 v18 v19 v20 v21 v22 v23 v24 v25 v26 v27 v28 v29 =>
 (K v20 v21 v22 v23 v24 v25 v26 v27 v28 v29 v8 v9 v10)) N v1 v7.2.2.2.2.2.2.2.2.2.2.1 v7.2.2.2.2.2.2.2.2.2.2.2.1 v7.2.2.2.2.2.2.2.2.2.2.2.2.1 0 0 0 [] [] [] 0 0 0 v7.1 v7.2.1 v7.2.2.1 v7.2.2.2.1 v7.2.2.2.2.1 v7.2.2.2.2.2.1 v7.2.2.2.2.2.2.1 v7.2.2.2.2.2.2.2.1 v7.2.2.2.2.2.2.2.2.1 v7.2.2.2.2.2.2.2.2.2.1))))
def pq_expr_o (N : Nat) (v1 : Int) (v2 : Q0) (v3 : Int) (v4 : Err) : Option Q1 := pq_expr_o_cps N _ (fun a0 a1 a2 a3 a4 a5 a6 a7 a8 a9 a10 a11 a12 => some (a0, (a1, (a2, (a3, (a4, (a5, (a6, (a7, (a8, (a9, (a10, (a11, (a12, ())))))))))))))) v1 v2 v3 v4
/- (*frankpledge/parse.parser).whole -/
def pq_whole_o_cps (N : Nat) (R : Type) (K : Int → Int → Int → (List UInt8) → (List UInt8) → (List UInt8) → Int → (List Ex) → Int → Int → Q0 → Int → Err → Option R) (v1 : Q0) (v2 : Int) (v3 : Err) : Option R :=
 (Option.bind (pq_expr_o N 0 v1 v2 v3) fun v4 =>
 (K v4.1 v4.2.1 v4.2.2.1 v4.2.2.2.1 v4.2.2.2.2.1 v4.2.2.2.2.2.1 v4.2.2.2.2.2.2.1 v4.2.2.2.2.2.2.2.1 v4.2.2.2.2.2.2.2.2.1 v4.2.2.2.2.2.2.2.2.2.1 v4.2.2.2.2.2.2.2.2.2.2.1 v4.2.2.2.2.2.2.2.2.2.2.2.1 v4.2.2.2.2.2.2.2.2.2.2.2.2.1))
def pq_whole_o (N : Nat) (v1 : Q0) (v2 : Int) (v3 : Err) : Option Q1 := pq_whole_o_cps N _ (fun a0 a1 a2 a3 a4 a5 a6 a7 a8 a9 a10 a11 a12 => some (a0, (a1, (a2, (a3, (a4, (a5, (a6, (a7, (a8, (a9, (a10, (a11, (a12, ())))))))))))))) v1 v2 v3
end
def Z_pq_whole_at (N : Nat) : Nat → Z_pq_whole
 | 0 => { r_pq_not := fun _ _ _ => none, r_pq_sign := fun _ _ _ => none, r_pq_expr := fun _ _ _ _ => none, r_pq_whole := fun _ _ _ => none }
 | n + 1 => letI : Z_pq_whole := Z_pq_whole_at N n; { r_pq_not := (fun a0 a1 a2 => pq_not_o N a0 a1 a2), r_pq_sign := (fun a0 a1 a2 => pq_sign_o N a0 a1 a2), r_pq_expr := (fun a0 a1 a2 a3 => pq_expr_o N a0 a1 a2 a3), r_pq_whole := (fun a0 a1 a2 => pq_whole_o N a0 a1 a2) }
def pq_test (N : Nat) (v1 : Q0) (v2 : Int) (v3 : Err) : Option Q1 := letI : Z_pq_whole := Z_pq_whole_at N N; pq_test_o N v1 v2 v3
def pq_within (N : Nat) (v1 : Q0) (v2 : Int) (v3 : Err) : Option Q1 := letI : Z_pq_whole := Z_pq_whole_at N N; pq_within_o N v1 v2 v3
def pq_not (N : Nat) (v1 : Q0) (v2 : Int) (v3 : Err) : Option Q1 := letI : Z_pq_whole := Z_pq_whole_at N N; pq_not_o N v1 v2 v3
def pq_within_1 (N : Nat) (v1 : Q0) (v2 : Int) (v3 : Err) : Option Q1 := letI : Z_pq_whole := Z_pq_whole_at N N; pq_within_1_o N v1 v2 v3
def pq_inner (N : Nat) (v1 : Q0) (v2 : Int) (v3 : Err) : Option Q1 := letI : Z_pq_whole := Z_pq_whole_at N N; pq_inner_o N v1 v2 v3
def pq_word (N : Nat) (v1 : Int) (v2 : (List UInt8)) (v3 : Int) (v4 : Int) (v5 : (List UInt8)) (v6 : Int) (v7 : Int) (v8 : Int) (v9 : Int) (v10 : (List UInt8)) (v11 : (List UInt8)) (v12 : (List UInt8)) (v13 : Int) (v14 : (List Ex)) (v15 : Int) (v16 : Int) (v17 : Q0) (v18 : Int) (v19 : Err) : Option Q1 := letI : Z_pq_whole := Z_pq_whole_at N N; pq_word_o N v1 v2 v3 v4 v5 v6 v7 v8 v9 v10 v11 v12 v13 v14 v15 v16 v17 v18 v19
def pq_one (N : Nat) (v1 : Q0) (v2 : Int) (v3 : Err) : Option Q1 := letI : Z_pq_whole := Z_pq_whole_at N N; pq_one_o N v1 v2 v3
def pq_within_2 (N : Nat) (v1 : Q0) (v2 : Int) (v3 : Err) : Option Q1 := letI : Z_pq_whole := Z_pq_whole_at N N; pq_within_2_o N v1 v2 v3
def pq_sign (N : Nat) (v1 : Q0) (v2 : Int) (v3 : Err) : Option Q1 := letI : Z_pq_whole := Z_pq_whole_at N N; pq_sign_o N v1 v2 v3
def pq_expr (N : Nat) (v1 : Int) (v2 : Q0) (v3 : Int) (v4 : Err) : Option Q1 := letI : Z_pq_whole := Z_pq_whole_at N N; pq_expr_o N v1 v2 v3 v4
def pq_whole (N : Nat) (v1 : Q0) (v2 : Int) (v3 : Err) : Option Q1 := letI : Z_pq_whole := Z_pq_whole_at N N; pq_whole_o N v1 v2 v3
def pq_list_l0B (N : Nat) (R : Type) (rec : (List Ex) → Q0 → Int → Err → Option R) (k0 : (List Ex) → Q0 → Int → Err → Option R) (v9 : (List Ex)) (v10 : Q0) (v11 : Int) (v12 : Err) : Option R :=
 (Option.bind (pq_take N [44] v10 v11 v12) fun v13 =>
 (bif v13.1 then
 (Option.bind (pq_whole N v13.2.1 v13.2.2.1 v13.2.2.2.1) fun v14 =>
 (bif (room 120 (v9.length + ([(Ex.mk v14.1 v14.2.1 v14.2.2.1 v14.2.2.2.1 v14.2.2.2.2.1 v14.2.2.2.2.2.1 v14.2.2.2.2.2.2.1 v14.2.2.2.2.2.2.2.1 v14.2.2.2.2.2.2.2.2.1 v14.2.2.2.2.2.2.2.2.2.1)] : (List Ex)).length)) then
 (rec (v9 ++ ([(Ex.mk v14.1 v14.2.1 v14.2.2.1 v14.2.2.2.1 v14.2.2.2.2.1 v14.2.2.2.2.2.1 v14.2.2.2.2.2.2.1 v14.2.2.2.2.2.2.2.1 v14.2.2.2.2.2.2.2.2.1 v14.2.2.2.2.2.2.2.2.2.1)] : (List Ex))) v14.2.2.2.2.2.2.2.2.2.2.1 v14.2.2.2.2.2.2.2.2.2.2.2.1 v14.2.2.2.2.2.2.2.2.2.2.2.2.1)
 else
 none))
 else
 (k0 v9 v13.2.1 v13.2.2.1 v13.2.2.2.1)))
def pq_list_l0 (N : Nat) (R : Type) (k0 : (List Ex) → Q0 → Int → Err → Option R) : Nat → (List Ex) → Q0 → Int → Err → Option R
 | 0 => fun _ _ _ _ => none
 | n + 1 => pq_list_l0B N R (pq_list_l0 N R k0 n) k0
def pq_list_cps (N : Nat) (R : Type) (K : (List Ex) → Q0 → Int → Err → Option R) (v1 : Q0) (v2 : Int) (v3 : Err) : Option R :=
 (Option.bind (pq_whole N v1 v2 v3) fun v4 =>
 (pq_list_l0 N _ K N ([(Ex.mk v4.1 v4.2.1 v4.2.2.1 v4.2.2.2.1 v4.2.2.2.2.1 v4.2.2.2.2.2.1 v4.2.2.2.2.2.2.1 v4.2.2.2.2.2.2.2.1 v4.2.2.2.2.2.2.2.2.1 v4.2.2.2.2.2.2.2.2.2.1)] : (List Ex)) v4.2.2.2.2.2.2.2.2.2.2.1 v4.2.2.2.2.2.2.2.2.2.2.2.1 v4.2.2.2.2.2.2.2.2.2.2.2.2.1))
def pq_list (N : Nat) (v1 : Q0) (v2 : Int) (v3 : Err) : Option ((List Ex) × Q0 × Int × Err × Unit) := pq_list_cps N _ (fun a0 a1 a2 a3 => some (a0, (a1, (a2, (a3, ()))))) v1 v2 v3
def pq_table_cps (N : Nat) (R : Type) (K : Q0 → Int → Err → Int → (List UInt8) → (List UInt8) → Int → Int → Int → (List UInt8) → (List UInt8) → (List UInt8) → Int → Int → Int → Int → Int → Int → (List UInt8) → (List UInt8) → (List UInt8) → Int → Int → Int → (List Ex) → Int → Int → Option R) (v1 : Q0) (v2 : Int) (v3 : Err) (v4 : Int) (v5 : (List UInt8)) (v6 : (List UInt8)) (v7 : Int) (v8 : Int) (v9 : Int) (v10 : (List UInt8)) (v11 : (List UInt8)) (v12 : (List UInt8)) (v13 : Int) (v14 : Int) (v15 : Int) (v16 : Int) (v17 : Int) (v18 : Int) (v19 : (List UInt8)) (v20 : (List UInt8)) (v21 : (List UInt8)) (v22 : Int) (v23 : Int) (v24 : Int) (v25 : (List Ex)) (v26 : Int) (v27 : Int) : Option R :=
 (Option.bind (pq_at N v1 v2 v3) fun v28 =>
 (Option.bind (pq_name N v1 v2 v3) fun v29 =>
 (K v29.2.1 v29.2.2.1 v29.2.2.2.1 v4 v29.1 v6 v7 v8 v9 v10 v11 v12 v13 v14 v15 v16 v17 v18 v19 v20 v21 v22 v23 v24 v25 v26 v28.1)))
def pq_table (N : Nat) (v1 : Q0) (v2 : Int) (v3 : Err) (v4 : Int) (v5 : (List UInt8)) (v6 : (List UInt8)) (v7 : Int) (v8 : Int) (v9 : Int) (v10 : (List UInt8)) (v11 : (List UInt8)) (v12 : (List UInt8)) (v13 : Int) (v14 : Int) (v15 : Int) (v16 : Int) (v17 : Int) (v18 : Int) (v19 : (List UInt8)) (v20 : (List UInt8)) (v21 : (List UInt8)) (v22 : Int) (v23 : Int) (v24 : Int) (v25 : (List Ex)) (v26 : Int) (v27 : Int) : Option (Q0 × Int × Err × Int × (List UInt8) × (List UInt8) × Int × Int × Int × (List UInt8) × (List UInt8) × (List UInt8) × Int × Int × Int × Int × Int × Int × (List UInt8) × (List UInt8) × (List UInt8) × Int × Int × Int × (List Ex) × Int × Int × Unit) := pq_table_cps N _ (fun a0 a1 a2 a3 a4 a5 a6 a7 a8 a9 a10 a11 a12 a13 a14 a15 a16 a17 a18 a19 a20 a21 a22 a23 a24 a25 a26 => some (a0, (a1, (a2, (a3, (a4, (a5, (a6, (a7, (a8, (a9, (a10, (a11, (a12, (a13, (a14, (a15, (a16, (a17, (a18, (a19, (a20, (a21, (a22, (a23, (a24, (a25, (a26, ())))))))))))))))))))))))))))) v1 v2 v3 v4 v5 v6 v7 v8 v9 v10 v11 v12 v13 v14 v15 v16 v17 v18 v19 v20 v21 v22 v23 v24 v25 v26 v27
def pq_where_cps (N : Nat) (R : Type) (K : Int → Int → Int → (List UInt8) → (List UInt8) → (List UInt8) → Int → (List Ex) → Int → Int → Q0 → Int → Err → Option R) (v1 : (List UInt8)) (v2 : Q0) (v3 : Int) (v4 : Err) : Option R :=
 (Option.bind (pq_take N v1 v2 v3 v4) fun v5 =>
 (bif v5.1 then
 (Option.bind (pq_whole N v5.2.1 v5.2.2.1 v5.2.2.2.1) fun v6 =>
 (K v6.1 v6.2.1 v6.2.2.1 v6.2.2.2.1 v6.2.2.2.2.1 v6.2.2.2.2.2.1 v6.2.2.2.2.2.2.1 v6.2.2.2.2.2.2.2.1 v6.2.2.2.2.2.2.2.2.1 v6.2.2.2.2.2.2.2.2.2.1 v6.2.2.2.2.2.2.2.2.2.2.1 v6.2.2.2.2.2.2.2.2.2.2.2.1 v6.2.2.2.2.2.2.2.2.2.2.2.2.1))
 else
 (K 0 0 0 [] [] [] 0 [] 0 0 v5.2.1 v5.2.2.1 v5.2.2.2.1)))
def pq_where (N : Nat) (v1 : (List UInt8)) (v2 : Q0) (v3 : Int) (v4 : Err) : Option Q1 := pq_where_cps N _ (fun a0 a1 a2 a3 a4 a5 a6 a7 a8 a9 a10 a11 a12 => some (a0, (a1, (a2, (a3, (a4, (a5, (a6, (a7, (a8, (a9, (a10, (a11, (a12, ())))))))))))))) v1 v2 v3 v4
end
end Go.Proofs.YtbikfekdakigiaaGreatDoor.E
