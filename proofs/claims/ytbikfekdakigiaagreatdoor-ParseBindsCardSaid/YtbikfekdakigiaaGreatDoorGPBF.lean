/-
  Pure functions, printed by a program out of the translation.
  Conditions: those that each statement prints, and no other.
-/
import Derived.Test.YtbikfekdakigiaaGreatDoorGPBFa
import Derived.Test.YtbikfekdakigiaaGreatDoorEvA
import Derived.Lib.Bytealg
import Derived.Test.YtbikfekdakigiaaGreatDoorEvL
set_option linter.unusedVariables false
set_option linter.unusedSimpArgs false
namespace Go.Proofs.YtbikfekdakigiaaGreatDoor.E
open Go.Ev
noncomputable section
/-! (*frankpledge/parse.parser).inserts -/
def parse_parser_inserts_r1 (N : Nat) (R : Type) (k0 : Q0 → Int → Err → Int → (List UInt8) → (List UInt8) → Int → Int → Int → (List UInt8) → (List UInt8) → (List UInt8) → Int → Int → Int → Int → Int → Int → (List UInt8) → (List UInt8) → (List UInt8) → Int → Int → Int → Int → (List (List Ex)) → Int → Option R) (v142 : Q0) (v143 : Int) (v144 : Err) (v145 : Int) (v146 : (List UInt8)) (v147 : (List UInt8)) (v148 : Int) (v149 : Int) (v150 : Int) (v151 : (List UInt8)) (v152 : (List UInt8)) (v153 : (List UInt8)) (v154 : Int) (v155 : Int) (v156 : Int) (v157 : Int) (v158 : Int) (v159 : Int) (v160 : (List UInt8)) (v161 : (List UInt8)) (v162 : (List UInt8)) (v163 : Int) (v164 : Int) (v165 : Int) (v166 : Int) (v167 : (List (List Ex))) (v168 : Int) : Option R :=
  (Option.bind (parse_parser_list N v142 v143 v144) fun v169 =>
  (bif (room 24 (v167.length + ([v169.1] : (List (List Ex))).length)) then
  (k0 v169.2.1 v169.2.2.1 v169.2.2.2.1 v145 v146 v147 v148 v149 v150 v151 v152 v153 v154 v155 v156 v157 v158 v159 v160 v161 v162 v163 v164 v165 v166 (v167 ++ ([v169.1] : (List (List Ex)))) v168)
  else
  none))

def parse_parser_inserts_l0B (N : Nat) (R : Type) (rec : Bool → Q0 → Int → Err → Int → (List UInt8) → (List UInt8) → Int → Int → Int → (List UInt8) → (List UInt8) → (List UInt8) → Int → Int → Int → Int → Int → Int → (List UInt8) → (List UInt8) → (List UInt8) → Int → Int → Int → Int → (List (List Ex)) → Int → Option R) (k0 : Q0 → Int → Err → Int → (List UInt8) → (List UInt8) → Int → Int → Int → (List UInt8) → (List UInt8) → (List UInt8) → Int → Int → Int → Int → Int → Int → (List UInt8) → (List UInt8) → (List UInt8) → Int → Int → Int → Int → (List (List Ex)) → Int → Option R) (k1 : Q0 → Int → Err → Int → (List UInt8) → (List UInt8) → Int → Int → Int → (List UInt8) → (List UInt8) → (List UInt8) → Int → Int → Int → Int → Int → Int → (List UInt8) → (List UInt8) → (List UInt8) → Int → Int → Int → Int → (List (List Ex)) → Int → Option R) (v84 : Bool) (v85 : Q0) (v86 : Int) (v87 : Err) (v88 : Int) (v89 : (List UInt8)) (v90 : (List UInt8)) (v91 : Int) (v92 : Int) (v93 : Int) (v94 : (List UInt8)) (v95 : (List UInt8)) (v96 : (List UInt8)) (v97 : Int) (v98 : Int) (v99 : Int) (v100 : Int) (v101 : Int) (v102 : Int) (v103 : (List UInt8)) (v104 : (List UInt8)) (v105 : (List UInt8)) (v106 : Int) (v107 : Int) (v108 : Int) (v109 : Int) (v110 : (List (List Ex))) (v111 : Int) : Option R :=
  (bif v84 then
  (Option.bind (parse_parser_want N ([[40]] : (List (List UInt8))) v85 v86 v87) fun v112 =>
  (bif (!(Err.isNil v112.2.2.1)) then
  (k1 v112.1 v112.2.1 v112.2.2.1 v88 v89 v90 v91 v92 v93 v94 v95 v96 v97 v98 v99 v100 v101 v102 v103 v104 v105 v106 v107 v108 v109 v110 v111)
  else
  (parse_parser_inserts_r1 N _ (fun v113 v114 v115 v116 v117 v118 v119 v120 v121 v122 v123 v124 v125 v126 v127 v128 v129 v130 v131 v132 v133 v134 v135 v136 v137 v138 v139 =>
  (Option.bind (parse_parser_want N ([[41]] : (List (List UInt8))) v113 v114 v115) fun v140 =>
  (Option.bind (parse_parser_take N [44] v140.1 v140.2.1 v140.2.2.1) fun v141 =>
  (rec v141.1 v141.2.1 v141.2.2.1 v141.2.2.2.1 v116 v117 v118 v119 v120 v121 v122 v123 v124 v125 v126 v127 v128 v129 v130 v131 v132 v133 v134 v135 v136 v137 v138 v139)))) v112.1 v112.2.1 v112.2.2.1 v88 v89 v90 v91 v92 v93 v94 v95 v96 v97 v98 v99 v100 v101 v102 v103 v104 v105 v106 v107 v108 v109 v110 v111)))
  else
  (k0 v85 v86 v87 v88 v89 v90 v91 v92 v93 v94 v95 v96 v97 v98 v99 v100 v101 v102 v103 v104 v105 v106 v107 v108 v109 v110 v111))

def parse_parser_inserts_l0 (N : Nat) (R : Type) (k0 : Q0 → Int → Err → Int → (List UInt8) → (List UInt8) → Int → Int → Int → (List UInt8) → (List UInt8) → (List UInt8) → Int → Int → Int → Int → Int → Int → (List UInt8) → (List UInt8) → (List UInt8) → Int → Int → Int → Int → (List (List Ex)) → Int → Option R) (k1 : Q0 → Int → Err → Int → (List UInt8) → (List UInt8) → Int → Int → Int → (List UInt8) → (List UInt8) → (List UInt8) → Int → Int → Int → Int → Int → Int → (List UInt8) → (List UInt8) → (List UInt8) → Int → Int → Int → Int → (List (List Ex)) → Int → Option R) : Nat → Bool → Q0 → Int → Err → Int → (List UInt8) → (List UInt8) → Int → Int → Int → (List UInt8) → (List UInt8) → (List UInt8) → Int → Int → Int → Int → Int → Int → (List UInt8) → (List UInt8) → (List UInt8) → Int → Int → Int → Int → (List (List Ex)) → Int → Option R
  | 0 => fun _ _ _ _ _ _ _ _ _ _ _ _ _ _ _ _ _ _ _ _ _ _ _ _ _ _ _ _ => none
  | n + 1 => parse_parser_inserts_l0B N R (parse_parser_inserts_l0 N R k0 k1 n) k0 k1

def parse_parser_inserts_cps (N : Nat) (R : Type) (K : Q0 → Int → Err → Int → (List UInt8) → (List UInt8) → Int → Int → Int → (List UInt8) → (List UInt8) → (List UInt8) → Int → Int → Int → Int → Int → Int → (List UInt8) → (List UInt8) → (List UInt8) → Int → Int → Int → Int → (List (List Ex)) → Int → Option R) (v1 : Q0) (v2 : Int) (v3 : Err) (v4 : Int) (v5 : (List UInt8)) (v6 : (List UInt8)) (v7 : Int) (v8 : Int) (v9 : Int) (v10 : (List UInt8)) (v11 : (List UInt8)) (v12 : (List UInt8)) (v13 : Int) (v14 : Int) (v15 : Int) (v16 : Int) (v17 : Int) (v18 : Int) (v19 : (List UInt8)) (v20 : (List UInt8)) (v21 : (List UInt8)) (v22 : Int) (v23 : Int) (v24 : Int) (v25 : Int) (v26 : Int) : Option R :=
  (Option.bind (parse_parser_want N ([[105, 110, 116, 111]] : (List (List UInt8))) v1 v2 v3) fun v27 =>
  (Option.bind (parse_parser_table_1 N v27.1 v27.2.1 v27.2.2.1 v4 v5 v6 v7 v8 v9 v10 v11 v12 v13 v14 v15 v16 v17 v18 v19 v20 v21 v22 v23 v24 v25 v26) fun v28 =>
  (Option.bind (parse_parser_want N ([[118, 97, 108, 117, 101, 115]] : (List (List UInt8))) v28.1 v28.2.1 v28.2.2.1) fun v29 =>
  (parse_parser_inserts_l0 N _ (fun v30 v31 v32 v33 v34 v35 v36 v37 v38 v39 v40 v41 v42 v43 v44 v45 v46 v47 v48 v49 v50 v51 v52 v53 v54 v55 v56 =>
  (K v30 v31 v32 v33 v34 v35 v36 v37 v38 v39 v40 v41 v42 v43 v44 v45 v46 v47 v48 v49 v50 v51 v52 v53 v54 v55 v56)) (fun v57 v58 v59 v60 v61 v62 v63 v64 v65 v66 v67 v68 v69 v70 v71 v72 v73 v74 v75 v76 v77 v78 v79 v80 v81 v82 v83 =>
  (K v57 v58 v59 v60 v61 v62 v63 v64 v65 v66 v67 v68 v69 v70 v71 v72 v73 v74 v75 v76 v77 v78 v79 v80 v81 v82 v83)) N true v29.1 v29.2.1 v29.2.2.1 v28.2.2.2.1 v28.2.2.2.2.1 v28.2.2.2.2.2.1 v28.2.2.2.2.2.2.1 v28.2.2.2.2.2.2.2.1 v28.2.2.2.2.2.2.2.2.1 v28.2.2.2.2.2.2.2.2.2.1 v28.2.2.2.2.2.2.2.2.2.2.1 v28.2.2.2.2.2.2.2.2.2.2.2.1 v28.2.2.2.2.2.2.2.2.2.2.2.2.1 v28.2.2.2.2.2.2.2.2.2.2.2.2.2.1 v28.2.2.2.2.2.2.2.2.2.2.2.2.2.2.1 v28.2.2.2.2.2.2.2.2.2.2.2.2.2.2.2.1 v28.2.2.2.2.2.2.2.2.2.2.2.2.2.2.2.2.1 v28.2.2.2.2.2.2.2.2.2.2.2.2.2.2.2.2.2.1 v28.2.2.2.2.2.2.2.2.2.2.2.2.2.2.2.2.2.2.1 v28.2.2.2.2.2.2.2.2.2.2.2.2.2.2.2.2.2.2.2.1 v28.2.2.2.2.2.2.2.2.2.2.2.2.2.2.2.2.2.2.2.2.1 v28.2.2.2.2.2.2.2.2.2.2.2.2.2.2.2.2.2.2.2.2.2.1 v28.2.2.2.2.2.2.2.2.2.2.2.2.2.2.2.2.2.2.2.2.2.2.1 v28.2.2.2.2.2.2.2.2.2.2.2.2.2.2.2.2.2.2.2.2.2.2.2.1 v28.2.2.2.2.2.2.2.2.2.2.2.2.2.2.2.2.2.2.2.2.2.2.2.2.1 [] v28.2.2.2.2.2.2.2.2.2.2.2.2.2.2.2.2.2.2.2.2.2.2.2.2.2.1))))

def parse_parser_inserts (N : Nat) (v1 : Q0) (v2 : Int) (v3 : Err) (v4 : Int) (v5 : (List UInt8)) (v6 : (List UInt8)) (v7 : Int) (v8 : Int) (v9 : Int) (v10 : (List UInt8)) (v11 : (List UInt8)) (v12 : (List UInt8)) (v13 : Int) (v14 : Int) (v15 : Int) (v16 : Int) (v17 : Int) (v18 : Int) (v19 : (List UInt8)) (v20 : (List UInt8)) (v21 : (List UInt8)) (v22 : Int) (v23 : Int) (v24 : Int) (v25 : Int) (v26 : Int) : Option (Q0 × Int × Err × Int × (List UInt8) × (List UInt8) × Int × Int × Int × (List UInt8) × (List UInt8) × (List UInt8) × Int × Int × Int × Int × Int × Int × (List UInt8) × (List UInt8) × (List UInt8) × Int × Int × Int × Int × (List (List Ex)) × Int × Unit) := parse_parser_inserts_cps N _ (fun a0 a1 a2 a3 a4 a5 a6 a7 a8 a9 a10 a11 a12 a13 a14 a15 a16 a17 a18 a19 a20 a21 a22 a23 a24 a25 a26 => some (a0, (a1, (a2, (a3, (a4, (a5, (a6, (a7, (a8, (a9, (a10, (a11, (a12, (a13, (a14, (a15, (a16, (a17, (a18, (a19, (a20, (a21, (a22, (a23, (a24, (a25, (a26, ())))))))))))))))))))))))))))) v1 v2 v3 v4 v5 v6 v7 v8 v9 v10 v11 v12 v13 v14 v15 v16 v17 v18 v19 v20 v21 v22 v23 v24 v25 v26

/-! (*frankpledge/parse.parser).updates -/
def parse_parser_updates_r1 (N : Nat) (R : Type) (k0 : Q0 → Int → Err → Int → (List UInt8) → (List UInt8) → Int → Int → Int → (List UInt8) → (List UInt8) → (List UInt8) → Int → Int → Int → Int → Int → Int → (List UInt8) → (List UInt8) → (List UInt8) → Int → Int → Int → Int → (List ((List UInt8) × (Ex × (Int × Unit)))) → Int → (List UInt8) → Int → Int → Int → (List UInt8) → (List UInt8) → (List UInt8) → Int → (List Ex) → Int → Int → Int → Option R) (v129 : Q0) (v130 : Int) (v131 : Err) (v132 : Int) (v133 : (List UInt8)) (v134 : (List UInt8)) (v135 : Int) (v136 : Int) (v137 : Int) (v138 : (List UInt8)) (v139 : (List UInt8)) (v140 : (List UInt8)) (v141 : Int) (v142 : Int) (v143 : Int) (v144 : Int) (v145 : Int) (v146 : Int) (v147 : (List UInt8)) (v148 : (List UInt8)) (v149 : (List UInt8)) (v150 : Int) (v151 : Int) (v152 : Int) (v153 : Int) (v154 : (List ((List UInt8) × (Ex × (Int × Unit))))) (v155 : Int) (v156 : (List UInt8)) (v157 : Int) (v158 : Int) (v159 : Int) (v160 : (List UInt8)) (v161 : (List UInt8)) (v162 : (List UInt8)) (v163 : Int) (v164 : (List Ex)) (v165 : Int) (v166 : Int) (v167 : Int) : Option R :=
  (bif (room 144 (v154.length + ([(v156, ((Ex.mk v157 v158 v159 v160 v161 v162 v163 v164 v165 v166), (v167, ())))] : (List ((List UInt8) × (Ex × (Int × Unit))))).length)) then
  (k0 v129 v130 v131 v132 v133 v134 v135 v136 v137 v138 v139 v140 v141 v142 v143 v144 v145 v146 v147 v148 v149 v150 v151 v152 v153 (v154 ++ ([(v156, ((Ex.mk v157 v158 v159 v160 v161 v162 v163 v164 v165 v166), (v167, ())))] : (List ((List UInt8) × (Ex × (Int × Unit)))))) v155 v156 v157 v158 v159 v160 v161 v162 v163 v164 v165 v166 v167)
  else
  none)

def parse_parser_updates_l0B (N : Nat) (R : Type) (rec : Bool → Q0 → Int → Err → Int → (List UInt8) → (List UInt8) → Int → Int → Int → (List UInt8) → (List UInt8) → (List UInt8) → Int → Int → Int → Int → Int → Int → (List UInt8) → (List UInt8) → (List UInt8) → Int → Int → Int → Int → (List ((List UInt8) × (Ex × (Int × Unit)))) → Int → Option R) (k0 : Q0 → Int → Err → Int → (List UInt8) → (List UInt8) → Int → Int → Int → (List UInt8) → (List UInt8) → (List UInt8) → Int → Int → Int → Int → Int → Int → (List UInt8) → (List UInt8) → (List UInt8) → Int → Int → Int → Int → (List ((List UInt8) × (Ex × (Int × Unit)))) → Int → Option R) (v57 : Bool) (v58 : Q0) (v59 : Int) (v60 : Err) (v61 : Int) (v62 : (List UInt8)) (v63 : (List UInt8)) (v64 : Int) (v65 : Int) (v66 : Int) (v67 : (List UInt8)) (v68 : (List UInt8)) (v69 : (List UInt8)) (v70 : Int) (v71 : Int) (v72 : Int) (v73 : Int) (v74 : Int) (v75 : Int) (v76 : (List UInt8)) (v77 : (List UInt8)) (v78 : (List UInt8)) (v79 : Int) (v80 : Int) (v81 : Int) (v82 : Int) (v83 : (List ((List UInt8) × (Ex × (Int × Unit))))) (v84 : Int) : Option R :=
  (bif v57 then
  (Option.bind (parse_parser_at N v58 v59 v60) fun v85 =>
  (Option.bind (parse_parser_name N v58 v59 v60) fun v86 =>
  (Option.bind (parse_parser_want N ([[61]] : (List (List UInt8))) v86.2.1 v86.2.2.1 v86.2.2.2.1) fun v87 =>
  (Option.bind (parse_parser_whole_1 N v87.1 v87.2.1 v87.2.2.1) fun v88 =>
  (parse_parser_updates_r1 N _ (fun v89 v90 v91 v92 v93 v94 v95 v96 v97 v98 v99 v100 v101 v102 v103 v104 v105 v106 v107 v108 v109 v110 v111 v112 v113 v114 v115 v116 v117 v118 v119 v120 v121 v122 v123 v124 v125 v126 v127 =>
  (Option.bind (parse_parser_take N [44] v89 v90 v91) fun v128 =>
  (rec v128.1 v128.2.1 v128.2.2.1 v128.2.2.2.1 v92 v93 v94 v95 v96 v97 v98 v99 v100 v101 v102 v103 v104 v105 v106 v107 v108 v109 v110 v111 v112 v113 v114 v115))) v88.2.2.2.2.2.2.2.2.2.2.1 v88.2.2.2.2.2.2.2.2.2.2.2.1 v88.2.2.2.2.2.2.2.2.2.2.2.2.1 v61 v62 v63 v64 v65 v66 v67 v68 v69 v70 v71 v72 v73 v74 v75 v76 v77 v78 v79 v80 v81 v82 v83 v84 v86.1 v88.1 v88.2.1 v88.2.2.1 v88.2.2.2.1 v88.2.2.2.2.1 v88.2.2.2.2.2.1 v88.2.2.2.2.2.2.1 v88.2.2.2.2.2.2.2.1 v88.2.2.2.2.2.2.2.2.1 v88.2.2.2.2.2.2.2.2.2.1 v85.1)))))
  else
  (k0 v58 v59 v60 v61 v62 v63 v64 v65 v66 v67 v68 v69 v70 v71 v72 v73 v74 v75 v76 v77 v78 v79 v80 v81 v82 v83 v84))

def parse_parser_updates_l0 (N : Nat) (R : Type) (k0 : Q0 → Int → Err → Int → (List UInt8) → (List UInt8) → Int → Int → Int → (List UInt8) → (List UInt8) → (List UInt8) → Int → Int → Int → Int → Int → Int → (List UInt8) → (List UInt8) → (List UInt8) → Int → Int → Int → Int → (List ((List UInt8) × (Ex × (Int × Unit)))) → Int → Option R) : Nat → Bool → Q0 → Int → Err → Int → (List UInt8) → (List UInt8) → Int → Int → Int → (List UInt8) → (List UInt8) → (List UInt8) → Int → Int → Int → Int → Int → Int → (List UInt8) → (List UInt8) → (List UInt8) → Int → Int → Int → Int → (List ((List UInt8) × (Ex × (Int × Unit)))) → Int → Option R
  | 0 => fun _ _ _ _ _ _ _ _ _ _ _ _ _ _ _ _ _ _ _ _ _ _ _ _ _ _ _ _ => none
  | n + 1 => parse_parser_updates_l0B N R (parse_parser_updates_l0 N R k0 n) k0

def parse_parser_updates_cps (N : Nat) (R : Type) (K : Q0 → Int → Err → Int → (List UInt8) → (List UInt8) → Int → Int → Int → (List UInt8) → (List UInt8) → (List UInt8) → Int → Int → Int → Int → Int → Int → (List UInt8) → (List UInt8) → (List UInt8) → Int → (List Ex) → Int → Int → Int → (List ((List UInt8) × (Ex × (Int × Unit)))) → Int → Option R) (v1 : Q0) (v2 : Int) (v3 : Err) (v4 : Int) (v5 : (List UInt8)) (v6 : (List UInt8)) (v7 : Int) (v8 : Int) (v9 : Int) (v10 : (List UInt8)) (v11 : (List UInt8)) (v12 : (List UInt8)) (v13 : Int) (v14 : Int) (v15 : Int) (v16 : Int) (v17 : Int) (v18 : Int) (v19 : (List UInt8)) (v20 : (List UInt8)) (v21 : (List UInt8)) (v22 : Int) (v23 : Int) (v24 : Int) (v25 : Int) (v26 : Int) : Option R :=
  (Option.bind (parse_parser_table_1 N v1 v2 v3 v4 v5 v6 v7 v8 v9 v10 v11 v12 v13 v14 v15 v16 v17 v18 v19 v20 v21 v22 v23 v24 v25 v26) fun v27 =>
  (Option.bind (parse_parser_want N ([[115, 101, 116]] : (List (List UInt8))) v27.1 v27.2.1 v27.2.2.1) fun v28 =>
  (parse_parser_updates_l0 N _ (fun v29 v30 v31 v32 v33 v34 v35 v36 v37 v38 v39 v40 v41 v42 v43 v44 v45 v46 v47 v48 v49 v50 v51 v52 v53 v54 v55 =>
  (Option.bind (parse_parser_where N [119, 104, 101, 114, 101] v29 v30 v31) fun v56 =>
  (K v56.2.2.2.2.2.2.2.2.2.2.1 v56.2.2.2.2.2.2.2.2.2.2.2.1 v56.2.2.2.2.2.2.2.2.2.2.2.2.1 v32 v33 v34 v35 v36 v37 v38 v39 v40 v41 v42 v43 v56.1 v56.2.1 v56.2.2.1 v56.2.2.2.1 v56.2.2.2.2.1 v56.2.2.2.2.2.1 v56.2.2.2.2.2.2.1 v56.2.2.2.2.2.2.2.1 v56.2.2.2.2.2.2.2.2.1 v56.2.2.2.2.2.2.2.2.2.1 v53 v54 v55))) N true v28.1 v28.2.1 v28.2.2.1 v27.2.2.2.1 v27.2.2.2.2.1 v27.2.2.2.2.2.1 v27.2.2.2.2.2.2.1 v27.2.2.2.2.2.2.2.1 v27.2.2.2.2.2.2.2.2.1 v27.2.2.2.2.2.2.2.2.2.1 v27.2.2.2.2.2.2.2.2.2.2.1 v27.2.2.2.2.2.2.2.2.2.2.2.1 v27.2.2.2.2.2.2.2.2.2.2.2.2.1 v27.2.2.2.2.2.2.2.2.2.2.2.2.2.1 v27.2.2.2.2.2.2.2.2.2.2.2.2.2.2.1 v27.2.2.2.2.2.2.2.2.2.2.2.2.2.2.2.1 v27.2.2.2.2.2.2.2.2.2.2.2.2.2.2.2.2.1 v27.2.2.2.2.2.2.2.2.2.2.2.2.2.2.2.2.2.1 v27.2.2.2.2.2.2.2.2.2.2.2.2.2.2.2.2.2.2.1 v27.2.2.2.2.2.2.2.2.2.2.2.2.2.2.2.2.2.2.2.1 v27.2.2.2.2.2.2.2.2.2.2.2.2.2.2.2.2.2.2.2.2.1 v27.2.2.2.2.2.2.2.2.2.2.2.2.2.2.2.2.2.2.2.2.2.1 v27.2.2.2.2.2.2.2.2.2.2.2.2.2.2.2.2.2.2.2.2.2.2.1 v27.2.2.2.2.2.2.2.2.2.2.2.2.2.2.2.2.2.2.2.2.2.2.2.1 v27.2.2.2.2.2.2.2.2.2.2.2.2.2.2.2.2.2.2.2.2.2.2.2.2.1 [] v27.2.2.2.2.2.2.2.2.2.2.2.2.2.2.2.2.2.2.2.2.2.2.2.2.2.1)))

def parse_parser_updates (N : Nat) (v1 : Q0) (v2 : Int) (v3 : Err) (v4 : Int) (v5 : (List UInt8)) (v6 : (List UInt8)) (v7 : Int) (v8 : Int) (v9 : Int) (v10 : (List UInt8)) (v11 : (List UInt8)) (v12 : (List UInt8)) (v13 : Int) (v14 : Int) (v15 : Int) (v16 : Int) (v17 : Int) (v18 : Int) (v19 : (List UInt8)) (v20 : (List UInt8)) (v21 : (List UInt8)) (v22 : Int) (v23 : Int) (v24 : Int) (v25 : Int) (v26 : Int) : Option (Q0 × Int × Err × Int × (List UInt8) × (List UInt8) × Int × Int × Int × (List UInt8) × (List UInt8) × (List UInt8) × Int × Int × Int × Int × Int × Int × (List UInt8) × (List UInt8) × (List UInt8) × Int × (List Ex) × Int × Int × Int × (List ((List UInt8) × (Ex × (Int × Unit)))) × Int × Unit) := parse_parser_updates_cps N _ (fun a0 a1 a2 a3 a4 a5 a6 a7 a8 a9 a10 a11 a12 a13 a14 a15 a16 a17 a18 a19 a20 a21 a22 a23 a24 a25 a26 a27 => some (a0, (a1, (a2, (a3, (a4, (a5, (a6, (a7, (a8, (a9, (a10, (a11, (a12, (a13, (a14, (a15, (a16, (a17, (a18, (a19, (a20, (a21, (a22, (a23, (a24, (a25, (a26, (a27, ()))))))))))))))))))))))))))))) v1 v2 v3 v4 v5 v6 v7 v8 v9 v10 v11 v12 v13 v14 v15 v16 v17 v18 v19 v20 v21 v22 v23 v24 v25 v26

/-! frankpledge/parse.Parse -/
def parse_Parse_cps (N : Nat) (R : Type) (K : Int → (List UInt8) → (List UInt8) → Int → Int → Int → (List UInt8) → (List UInt8) → (List UInt8) → Int → (List Ex) → Int → Int → Int → Int → Int → (List UInt8) → (List UInt8) → (List UInt8) → Int → (List Ex) → Int → Int → (List Ex) → (List Ex) → (List (Ex × (Bool × Unit))) → Int → (List (List Ex)) → (List ((List UInt8) × (Ex × (Int × Unit)))) → Int → Err → Option R) (v1 : (List UInt8)) : Option R :=
  (Option.bind (lex_Lex N v1) fun v2 =>
  (bif (!(Err.isNil v2.2.1)) then
  (Option.bind (fault_At N v2.2.1) fun v3 =>
  (Option.bind (fault_Wrap N v2.2.1 171 v3.1) fun v4 =>
  (bif (!(Err.isNil v4.1)) then
  (K 0 [] [] 0 0 0 [] [] [] 0 [] 0 0 0 0 0 [] [] [] 0 [] 0 0 [] [] [] 0 [] [] 0 v4.1)
  else
  none)))
  else
  (bif (!(Err.isNil Err.nil)) then
  (K 0 [] [] 0 0 0 [] [] [] 0 [] 0 0 0 0 0 [] [] [] 0 [] 0 0 [] [] [] 0 [] [] 0 Err.nil)
  else
  (Option.bind (parse_parser_take_1 N [115, 101, 108, 101, 99, 116] v2.1 0 Err.nil) fun v5 =>
  (bif v5.1 then
  (Option.bind (parse_parser_selects N v5.2.1 v5.2.2.1 v5.2.2.2.1 1 [] [] 0 0 0 [] [] [] 0 0 0 0 0 0 [] [] [] 0 0 0 (-1) 0) fun v6 =>
  (Option.bind (parse_parser_take N [59] v6.1 v6.2.1 v6.2.2.1) fun v7 =>
  (Option.bind (parse_parser_ended N v7.2.1 v7.2.2.1 v7.2.2.2.1) fun v8 =>
  (bif (!(Err.isNil v8.1)) then
  (K 0 [] [] 0 0 0 [] [] [] 0 [] 0 0 0 0 0 [] [] [] 0 [] 0 0 [] [] [] 0 [] [] 0 v8.1)
  else
  (K v6.2.2.2.1 v6.2.2.2.2.1 v6.2.2.2.2.2.1 v6.2.2.2.2.2.2.1 v6.2.2.2.2.2.2.2.1 v6.2.2.2.2.2.2.2.2.1 v6.2.2.2.2.2.2.2.2.2.1 v6.2.2.2.2.2.2.2.2.2.2.1 v6.2.2.2.2.2.2.2.2.2.2.2.1 v6.2.2.2.2.2.2.2.2.2.2.2.2.1 v6.2.2.2.2.2.2.2.2.2.2.2.2.2.1 v6.2.2.2.2.2.2.2.2.2.2.2.2.2.2.1 v6.2.2.2.2.2.2.2.2.2.2.2.2.2.2.2.1 v6.2.2.2.2.2.2.2.2.2.2.2.2.2.2.2.2.1 v6.2.2.2.2.2.2.2.2.2.2.2.2.2.2.2.2.2.1 v6.2.2.2.2.2.2.2.2.2.2.2.2.2.2.2.2.2.2.1 v6.2.2.2.2.2.2.2.2.2.2.2.2.2.2.2.2.2.2.2.1 v6.2.2.2.2.2.2.2.2.2.2.2.2.2.2.2.2.2.2.2.2.1 v6.2.2.2.2.2.2.2.2.2.2.2.2.2.2.2.2.2.2.2.2.2.1 v6.2.2.2.2.2.2.2.2.2.2.2.2.2.2.2.2.2.2.2.2.2.2.1 v6.2.2.2.2.2.2.2.2.2.2.2.2.2.2.2.2.2.2.2.2.2.2.2.1 v6.2.2.2.2.2.2.2.2.2.2.2.2.2.2.2.2.2.2.2.2.2.2.2.2.1 v6.2.2.2.2.2.2.2.2.2.2.2.2.2.2.2.2.2.2.2.2.2.2.2.2.2.1 v6.2.2.2.2.2.2.2.2.2.2.2.2.2.2.2.2.2.2.2.2.2.2.2.2.2.2.1 v6.2.2.2.2.2.2.2.2.2.2.2.2.2.2.2.2.2.2.2.2.2.2.2.2.2.2.2.1 v6.2.2.2.2.2.2.2.2.2.2.2.2.2.2.2.2.2.2.2.2.2.2.2.2.2.2.2.2.1 v6.2.2.2.2.2.2.2.2.2.2.2.2.2.2.2.2.2.2.2.2.2.2.2.2.2.2.2.2.2.1 [] [] v6.2.2.2.2.2.2.2.2.2.2.2.2.2.2.2.2.2.2.2.2.2.2.2.2.2.2.2.2.2.2.1 Err.nil)))))
  else
  (Option.bind (parse_parser_take N [105, 110, 115, 101, 114, 116] v5.2.1 v5.2.2.1 v5.2.2.2.1) fun v9 =>
  (bif v9.1 then
  (Option.bind (parse_parser_inserts N v9.2.1 v9.2.2.1 v9.2.2.2.1 2 [] [] 0 0 0 [] [] [] 0 0 0 0 0 0 [] [] [] 0 0 0 (-1) 0) fun v10 =>
  (Option.bind (parse_parser_take N [59] v10.1 v10.2.1 v10.2.2.1) fun v11 =>
  (Option.bind (parse_parser_ended N v11.2.1 v11.2.2.1 v11.2.2.2.1) fun v12 =>
  (bif (!(Err.isNil v12.1)) then
  (K 0 [] [] 0 0 0 [] [] [] 0 [] 0 0 0 0 0 [] [] [] 0 [] 0 0 [] [] [] 0 [] [] 0 v12.1)
  else
  (K v10.2.2.2.1 v10.2.2.2.2.1 v10.2.2.2.2.2.1 v10.2.2.2.2.2.2.1 v10.2.2.2.2.2.2.2.1 v10.2.2.2.2.2.2.2.2.1 v10.2.2.2.2.2.2.2.2.2.1 v10.2.2.2.2.2.2.2.2.2.2.1 v10.2.2.2.2.2.2.2.2.2.2.2.1 v10.2.2.2.2.2.2.2.2.2.2.2.2.1 [] v10.2.2.2.2.2.2.2.2.2.2.2.2.2.1 v10.2.2.2.2.2.2.2.2.2.2.2.2.2.2.1 v10.2.2.2.2.2.2.2.2.2.2.2.2.2.2.2.1 v10.2.2.2.2.2.2.2.2.2.2.2.2.2.2.2.2.1 v10.2.2.2.2.2.2.2.2.2.2.2.2.2.2.2.2.2.1 v10.2.2.2.2.2.2.2.2.2.2.2.2.2.2.2.2.2.2.1 v10.2.2.2.2.2.2.2.2.2.2.2.2.2.2.2.2.2.2.2.1 v10.2.2.2.2.2.2.2.2.2.2.2.2.2.2.2.2.2.2.2.2.1 v10.2.2.2.2.2.2.2.2.2.2.2.2.2.2.2.2.2.2.2.2.2.1 [] v10.2.2.2.2.2.2.2.2.2.2.2.2.2.2.2.2.2.2.2.2.2.2.1 v10.2.2.2.2.2.2.2.2.2.2.2.2.2.2.2.2.2.2.2.2.2.2.2.1 [] [] [] v10.2.2.2.2.2.2.2.2.2.2.2.2.2.2.2.2.2.2.2.2.2.2.2.2.1 v10.2.2.2.2.2.2.2.2.2.2.2.2.2.2.2.2.2.2.2.2.2.2.2.2.2.1 [] v10.2.2.2.2.2.2.2.2.2.2.2.2.2.2.2.2.2.2.2.2.2.2.2.2.2.2.1 Err.nil)))))
  else
  (Option.bind (parse_parser_take N [117, 112, 100, 97, 116, 101] v9.2.1 v9.2.2.1 v9.2.2.2.1) fun v13 =>
  (bif v13.1 then
  (Option.bind (parse_parser_updates N v13.2.1 v13.2.2.1 v13.2.2.2.1 3 [] [] 0 0 0 [] [] [] 0 0 0 0 0 0 [] [] [] 0 0 0 (-1) 0) fun v14 =>
  (Option.bind (parse_parser_take N [59] v14.1 v14.2.1 v14.2.2.1) fun v15 =>
  (Option.bind (parse_parser_ended N v15.2.1 v15.2.2.1 v15.2.2.2.1) fun v16 =>
  (bif (!(Err.isNil v16.1)) then
  (K 0 [] [] 0 0 0 [] [] [] 0 [] 0 0 0 0 0 [] [] [] 0 [] 0 0 [] [] [] 0 [] [] 0 v16.1)
  else
  (K v14.2.2.2.1 v14.2.2.2.2.1 v14.2.2.2.2.2.1 v14.2.2.2.2.2.2.1 v14.2.2.2.2.2.2.2.1 v14.2.2.2.2.2.2.2.2.1 v14.2.2.2.2.2.2.2.2.2.1 v14.2.2.2.2.2.2.2.2.2.2.1 v14.2.2.2.2.2.2.2.2.2.2.2.1 v14.2.2.2.2.2.2.2.2.2.2.2.2.1 [] v14.2.2.2.2.2.2.2.2.2.2.2.2.2.1 v14.2.2.2.2.2.2.2.2.2.2.2.2.2.2.1 v14.2.2.2.2.2.2.2.2.2.2.2.2.2.2.2.1 v14.2.2.2.2.2.2.2.2.2.2.2.2.2.2.2.2.1 v14.2.2.2.2.2.2.2.2.2.2.2.2.2.2.2.2.2.1 v14.2.2.2.2.2.2.2.2.2.2.2.2.2.2.2.2.2.2.1 v14.2.2.2.2.2.2.2.2.2.2.2.2.2.2.2.2.2.2.2.1 v14.2.2.2.2.2.2.2.2.2.2.2.2.2.2.2.2.2.2.2.2.1 v14.2.2.2.2.2.2.2.2.2.2.2.2.2.2.2.2.2.2.2.2.2.1 v14.2.2.2.2.2.2.2.2.2.2.2.2.2.2.2.2.2.2.2.2.2.2.1 v14.2.2.2.2.2.2.2.2.2.2.2.2.2.2.2.2.2.2.2.2.2.2.2.1 v14.2.2.2.2.2.2.2.2.2.2.2.2.2.2.2.2.2.2.2.2.2.2.2.2.1 [] [] [] v14.2.2.2.2.2.2.2.2.2.2.2.2.2.2.2.2.2.2.2.2.2.2.2.2.2.1 [] v14.2.2.2.2.2.2.2.2.2.2.2.2.2.2.2.2.2.2.2.2.2.2.2.2.2.2.1 v14.2.2.2.2.2.2.2.2.2.2.2.2.2.2.2.2.2.2.2.2.2.2.2.2.2.2.2.1 Err.nil)))))
  else
  (Option.bind (parse_parser_take N [100, 101, 108, 101, 116, 101] v13.2.1 v13.2.2.1 v13.2.2.2.1) fun v17 =>
  (bif v17.1 then
  (Option.bind (parse_parser_want N ([[102, 114, 111, 109]] : (List (List UInt8))) v17.2.1 v17.2.2.1 v17.2.2.2.1) fun v18 =>
  (Option.bind (parse_parser_table_1 N v18.1 v18.2.1 v18.2.2.1 4 [] [] 0 0 0 [] [] [] 0 0 0 0 0 0 [] [] [] 0 0 0 (-1) 0) fun v19 =>
  (Option.bind (parse_parser_where N [119, 104, 101, 114, 101] v19.1 v19.2.1 v19.2.2.1) fun v20 =>
  (Option.bind (parse_parser_take N [59] v20.2.2.2.2.2.2.2.2.2.2.1 v20.2.2.2.2.2.2.2.2.2.2.2.1 v20.2.2.2.2.2.2.2.2.2.2.2.2.1) fun v21 =>
  (Option.bind (parse_parser_ended N v21.2.1 v21.2.2.1 v21.2.2.2.1) fun v22 =>
  (bif (!(Err.isNil v22.1)) then
  (K 0 [] [] 0 0 0 [] [] [] 0 [] 0 0 0 0 0 [] [] [] 0 [] 0 0 [] [] [] 0 [] [] 0 v22.1)
  else
  (K v19.2.2.2.1 v19.2.2.2.2.1 v19.2.2.2.2.2.1 v19.2.2.2.2.2.2.1 v19.2.2.2.2.2.2.2.1 v19.2.2.2.2.2.2.2.2.1 v19.2.2.2.2.2.2.2.2.2.1 v19.2.2.2.2.2.2.2.2.2.2.1 v19.2.2.2.2.2.2.2.2.2.2.2.1 v19.2.2.2.2.2.2.2.2.2.2.2.2.1 [] v19.2.2.2.2.2.2.2.2.2.2.2.2.2.1 v19.2.2.2.2.2.2.2.2.2.2.2.2.2.2.1 v20.1 v20.2.1 v20.2.2.1 v20.2.2.2.1 v20.2.2.2.2.1 v20.2.2.2.2.2.1 v20.2.2.2.2.2.2.1 v20.2.2.2.2.2.2.2.1 v20.2.2.2.2.2.2.2.2.1 v20.2.2.2.2.2.2.2.2.2.1 [] [] [] v19.2.2.2.2.2.2.2.2.2.2.2.2.2.2.2.2.2.2.2.2.2.2.2.2.1 [] [] v19.2.2.2.2.2.2.2.2.2.2.2.2.2.2.2.2.2.2.2.2.2.2.2.2.2.1 Err.nil)))))))
  else
  (Option.bind (parse_parser_fail N 171 v17.2.1 v17.2.2.1 v17.2.2.2.1) fun v23 =>
  (Option.bind (parse_parser_take N [59] v23.1 v23.2.1 v23.2.2.1) fun v24 =>
  (Option.bind (parse_parser_ended N v24.2.1 v24.2.2.1 v24.2.2.2.1) fun v25 =>
  (bif (!(Err.isNil v25.1)) then
  (K 0 [] [] 0 0 0 [] [] [] 0 [] 0 0 0 0 0 [] [] [] 0 [] 0 0 [] [] [] 0 [] [] 0 v25.1)
  else
  (K 0 [] [] 0 0 0 [] [] [] 0 [] 0 0 0 0 0 [] [] [] 0 [] 0 0 [] [] [] (-1) [] [] 0 Err.nil))))))))))))))))

def parse_Parse (N : Nat) (v1 : (List UInt8)) : Option (Int × (List UInt8) × (List UInt8) × Int × Int × Int × (List UInt8) × (List UInt8) × (List UInt8) × Int × (List Ex) × Int × Int × Int × Int × Int × (List UInt8) × (List UInt8) × (List UInt8) × Int × (List Ex) × Int × Int × (List Ex) × (List Ex) × (List (Ex × (Bool × Unit))) × Int × (List (List Ex)) × (List ((List UInt8) × (Ex × (Int × Unit)))) × Int × Err × Unit) := parse_Parse_cps N _ (fun a0 a1 a2 a3 a4 a5 a6 a7 a8 a9 a10 a11 a12 a13 a14 a15 a16 a17 a18 a19 a20 a21 a22 a23 a24 a25 a26 a27 a28 a29 a30 => some (a0, (a1, (a2, (a3, (a4, (a5, (a6, (a7, (a8, (a9, (a10, (a11, (a12, (a13, (a14, (a15, (a16, (a17, (a18, (a19, (a20, (a21, (a22, (a23, (a24, (a25, (a26, (a27, (a28, (a29, (a30, ())))))))))))))))))))))))))))))))) v1

/-! frankpledge/fault.Code -/
def fault_Code_cps (N : Nat) (R : Type) (K : Int → Option R) (v1 : Err) : Option R :=
  (bif (errOk v1) then (K (errCode v1)) else none)

def fault_Code (N : Nat) (v1 : Err) : Option (Int × Unit) := fault_Code_cps N _ (fun a0 => some (a0, ())) v1

/-! frankpledge/frankpledgelaw17.alive -/
def law17_alive_cps (N : Nat) (R : Type) (K : Bool → Option R)  : Option R :=
  (Option.bind (parse_Parse N bs0) fun v1 =>
  (Option.bind (parse_Parse N [115, 101, 108, 101, 99, 116, 32, 97, 32, 102, 114, 111, 109]) fun v2 =>
  (bif (Err.isNil v1.2.2.2.2.2.2.2.2.2.2.2.2.2.2.2.2.2.2.2.2.2.2.2.2.2.2.2.2.2.2.1) then
  (bif (decide (v1.2.1 = [116])) then
  (bif (decide (v1.2.2.2.2.2.2.2.2.2.2.2.2.2.2.2.2.2.2.2.2.2.2.2.2.2.2.1 = 3)) then
  (bif (decide ((v1.2.2.2.2.2.2.2.2.2.2.2.2.2.2.2.2.2.2.2.2.2.2.2.1.length : Int) = 1)) then
  (Option.bind (nth v1.2.2.2.2.2.2.2.2.2.2.2.2.2.2.2.2.2.2.2.2.2.2.2.1 0) fun v3 =>
  (bif (decide ((Ex.op v3) = 3)) then
  (bif (decide (v1.2.2.2.2.2.2.2.2.2.2.2.2.2.1 = 16)) then
  (Option.bind (fault_Code N v2.2.2.2.2.2.2.2.2.2.2.2.2.2.2.2.2.2.2.2.2.2.2.2.2.2.2.2.2.2.2.1) fun v4 =>
  (bif (decide (v4.1 = 171)) then
  (Option.bind (fault_At N v2.2.2.2.2.2.2.2.2.2.2.2.2.2.2.2.2.2.2.2.2.2.2.2.2.2.2.2.2.2.2.1) fun v5 =>
  (K (decide (v5.1 = 13))))
  else
  (K false)))
  else
  (K false))
  else
  (K false)))
  else
  (K false))
  else
  (K false))
  else
  (K false))
  else
  (K false))))

def law17_alive (N : Nat)  : Option (Bool × Unit) := law17_alive_cps N _ (fun a0 => some (a0, ())) 

/-! frankpledge/frankpledgelaw17.ParseBinds -/
def law17_ParseBinds_j3 (N : Nat) (R : Type) (k0 : Bool → Int → Int → Int → Int → Int → Int → Int → Int → Int → (List UInt8) → (List UInt8) → (List UInt8) → Int → (List Ex) → Int → Int → Option R) (v215 : Int) (v216 : Int) (v217 : Int) (v218 : Int) (v219 : Int) (v220 : Int) (v221 : Int) (v222 : Int) (v223 : Int) (v224 : Int) (v225 : (List UInt8)) (v226 : (List UInt8)) (v227 : (List UInt8)) (v228 : Int) (v229 : (List Ex)) (v230 : Int) (v231 : Int) : Option R :=
  (Option.bind (nth v229 0) fun v232 =>
  (Option.bind (law17_columns N (Ex.op v232) (Ex.vk v232) (Ex.vn v232) (Ex.vs v232) (Ex.tab v232) (Ex.name v232) (Ex.num v232) (Ex.kids v232) (Ex.kind v232) (Ex.at_ v232)) fun v233 =>
  (Option.bind (nth v229 1) fun v234 =>
  (Option.bind (law17_columns N (Ex.op v234) (Ex.vk v234) (Ex.vn v234) (Ex.vs v234) (Ex.tab v234) (Ex.name v234) (Ex.num v234) (Ex.kids v234) (Ex.kind v234) (Ex.at_ v234)) fun v235 =>
  (Option.bind (law17_alive N) fun v236 =>
  (bif v236.1 then
  (bif (decide (0 ≤ (IntKind.wrap .i64 (v215 + 1)) ∧ (IntKind.wrap .i64 (v215 + 1)) ≤ ((4 : Nat) : Int))) then
  (bif (decide (v233.1 = (List.drop 0 (List.take (Int.toNat (IntKind.wrap .i64 (v215 + 1))) ([97, 98, 99, 100] : List UInt8))))) then
  (bif (decide (0 ≤ (IntKind.wrap .i64 (v215 + 1)) ∧ (IntKind.wrap .i64 (v215 + 1)) ≤ ((4 : Nat) : Int))) then
  (k0 (decide (v235.1 = (List.drop (Int.toNat (IntKind.wrap .i64 (v215 + 1))) (List.take 4 ([97, 98, 99, 100] : List UInt8))))) v216 v217 v218 v219 v220 v221 v222 v223 v224 v225 v226 v227 v228 v229 v230 v231)
  else
  none)
  else
  (k0 false v216 v217 v218 v219 v220 v221 v222 v223 v224 v225 v226 v227 v228 v229 v230 v231))
  else
  none)
  else
  (k0 false v216 v217 v218 v219 v220 v221 v222 v223 v224 v225 v226 v227 v228 v229 v230 v231)))))))

def law17_ParseBinds_l2B (N : Nat) (R : Type) (rec : (List Int) → (List Int) → (List UInt8) → Int → Int → Int → Int → Int → Int → Int → Int → Option R) (k0 : (List Int) → (List UInt8) → Int → Int → Int → Int → Int → Int → Int → Option R) (v192 : (List Int)) (v193 : (List Int)) (v194 : (List UInt8)) (v195 : Int) (v196 : Int) (v197 : Int) (v198 : Int) (v199 : Int) (v200 : Int) (v201 : Int) (v202 : Int) : Option R :=
  (bif (decide (v196 < 3)) then
  (bif (decide (v196 = (0 : Int))) then
  (Option.bind (nth v192 v200) fun v203 =>
  (bif (decide (v195 = (0 : Int))) then
  (Option.bind (nth v192 v200) fun v204 =>
  (bif (decide (v203 ≤ v204)) then
  (rec v192 v193 v194 v196 (IntKind.wrap .i64 (v196 + 1)) v197 v198 v199 v200 v201 v202)
  else
  (rec v192 v193 v194 v195 (IntKind.wrap .i64 (v196 + 1)) v197 v198 v199 v200 v201 v202)))
  else
  (bif (decide (v195 = (1 : Int))) then
  (Option.bind (nth v192 v201) fun v205 =>
  (bif (decide (v203 ≤ v205)) then
  (rec v192 v193 v194 v196 (IntKind.wrap .i64 (v196 + 1)) v197 v198 v199 v200 v201 v202)
  else
  (rec v192 v193 v194 v195 (IntKind.wrap .i64 (v196 + 1)) v197 v198 v199 v200 v201 v202)))
  else
  (bif (decide (v195 = (2 : Int))) then
  (Option.bind (nth v192 v202) fun v206 =>
  (bif (decide (v203 ≤ v206)) then
  (rec v192 v193 v194 v196 (IntKind.wrap .i64 (v196 + 1)) v197 v198 v199 v200 v201 v202)
  else
  (rec v192 v193 v194 v195 (IntKind.wrap .i64 (v196 + 1)) v197 v198 v199 v200 v201 v202)))
  else
  none))))
  else
  (bif (decide (v196 = (1 : Int))) then
  (Option.bind (nth v192 v201) fun v207 =>
  (bif (decide (v195 = (0 : Int))) then
  (Option.bind (nth v192 v200) fun v208 =>
  (bif (decide (v207 ≤ v208)) then
  (rec v192 v193 v194 v196 (IntKind.wrap .i64 (v196 + 1)) v197 v198 v199 v200 v201 v202)
  else
  (rec v192 v193 v194 v195 (IntKind.wrap .i64 (v196 + 1)) v197 v198 v199 v200 v201 v202)))
  else
  (bif (decide (v195 = (1 : Int))) then
  (Option.bind (nth v192 v201) fun v209 =>
  (bif (decide (v207 ≤ v209)) then
  (rec v192 v193 v194 v196 (IntKind.wrap .i64 (v196 + 1)) v197 v198 v199 v200 v201 v202)
  else
  (rec v192 v193 v194 v195 (IntKind.wrap .i64 (v196 + 1)) v197 v198 v199 v200 v201 v202)))
  else
  (bif (decide (v195 = (2 : Int))) then
  (Option.bind (nth v192 v202) fun v210 =>
  (bif (decide (v207 ≤ v210)) then
  (rec v192 v193 v194 v196 (IntKind.wrap .i64 (v196 + 1)) v197 v198 v199 v200 v201 v202)
  else
  (rec v192 v193 v194 v195 (IntKind.wrap .i64 (v196 + 1)) v197 v198 v199 v200 v201 v202)))
  else
  none))))
  else
  (bif (decide (v196 = (2 : Int))) then
  (Option.bind (nth v192 v202) fun v211 =>
  (bif (decide (v195 = (0 : Int))) then
  (Option.bind (nth v192 v200) fun v212 =>
  (bif (decide (v211 ≤ v212)) then
  (rec v192 v193 v194 v196 (IntKind.wrap .i64 (v196 + 1)) v197 v198 v199 v200 v201 v202)
  else
  (rec v192 v193 v194 v195 (IntKind.wrap .i64 (v196 + 1)) v197 v198 v199 v200 v201 v202)))
  else
  (bif (decide (v195 = (1 : Int))) then
  (Option.bind (nth v192 v201) fun v213 =>
  (bif (decide (v211 ≤ v213)) then
  (rec v192 v193 v194 v196 (IntKind.wrap .i64 (v196 + 1)) v197 v198 v199 v200 v201 v202)
  else
  (rec v192 v193 v194 v195 (IntKind.wrap .i64 (v196 + 1)) v197 v198 v199 v200 v201 v202)))
  else
  (bif (decide (v195 = (2 : Int))) then
  (Option.bind (nth v192 v202) fun v214 =>
  (bif (decide (v211 ≤ v214)) then
  (rec v192 v193 v194 v196 (IntKind.wrap .i64 (v196 + 1)) v197 v198 v199 v200 v201 v202)
  else
  (rec v192 v193 v194 v195 (IntKind.wrap .i64 (v196 + 1)) v197 v198 v199 v200 v201 v202)))
  else
  none))))
  else
  none)))
  else
  (k0 v193 v194 v195 v197 v198 v199 v200 v201 v202))

def law17_ParseBinds_l2 (N : Nat) (R : Type) (k0 : (List Int) → (List UInt8) → Int → Int → Int → Int → Int → Int → Int → Option R) : Nat → (List Int) → (List Int) → (List UInt8) → Int → Int → Int → Int → Int → Int → Int → Int → Option R
  | 0 => fun _ _ _ _ _ _ _ _ _ _ _ => none
  | n + 1 => law17_ParseBinds_l2B N R (law17_ParseBinds_l2 N R k0 n) k0

def law17_ParseBinds_j1 (N : Nat) (R : Type) (k0 : (List (List UInt8)) → (List Int) → (List Int) → (List (List UInt8)) → (List UInt8) → Int → Int → Int → Int → Int → Int → Int → Option R) (v161 : (List (List UInt8))) (v162 : (List Int)) (v163 : (List Int)) (v164 : (List (List UInt8))) (v165 : (List UInt8)) (v166 : Int) (v167 : Int) (v168 : Int) (v169 : Int) (v170 : Int) (v171 : Int) (v172 : Int) (v173 : Int) : Option R :=
  (bif (decide (v166 = (0 : Int))) then
  (bif (room 1 (v165.length + ([32] : List UInt8).length)) then
  (bif (decide (v166 = (0 : Int))) then
  (Option.bind (nth v161 (Int.tmod v167 6)) fun v174 =>
  (bif (room 1 ((v165 ++ [32]).length + v174.length)) then
  (bif (room 1 (((v165 ++ [32]) ++ v174).length + ([32] : List UInt8).length)) then
  (Option.bind (nth v164 (IntKind.wrap .i64 (v166 + 1))) fun v175 =>
  (bif (room 1 ((((v165 ++ [32]) ++ v174) ++ [32]).length + v175.length)) then
  (k0 v161 v162 v163 v164 ((((v165 ++ [32]) ++ v174) ++ [32]) ++ v175) v166 v168 v169 v170 (Int.tmod v167 6) v172 v173)
  else
  none))
  else
  none)
  else
  none))
  else
  (bif (decide (v166 = (1 : Int))) then
  (Option.bind (nth v161 v172) fun v176 =>
  (bif (room 1 ((v165 ++ [32]).length + v176.length)) then
  (bif (room 1 (((v165 ++ [32]) ++ v176).length + ([32] : List UInt8).length)) then
  (Option.bind (nth v164 (IntKind.wrap .i64 (v166 + 1))) fun v177 =>
  (bif (room 1 ((((v165 ++ [32]) ++ v176) ++ [32]).length + v177.length)) then
  (k0 v161 v162 v163 v164 ((((v165 ++ [32]) ++ v176) ++ [32]) ++ v177) v166 v168 v169 v170 (Int.tmod v167 6) v172 v173)
  else
  none))
  else
  none)
  else
  none))
  else
  (bif (decide (v166 = (2 : Int))) then
  (Option.bind (nth v161 v173) fun v178 =>
  (bif (room 1 ((v165 ++ [32]).length + v178.length)) then
  (bif (room 1 (((v165 ++ [32]) ++ v178).length + ([32] : List UInt8).length)) then
  (Option.bind (nth v164 (IntKind.wrap .i64 (v166 + 1))) fun v179 =>
  (bif (room 1 ((((v165 ++ [32]) ++ v178) ++ [32]).length + v179.length)) then
  (k0 v161 v162 v163 v164 ((((v165 ++ [32]) ++ v178) ++ [32]) ++ v179) v166 v168 v169 v170 (Int.tmod v167 6) v172 v173)
  else
  none))
  else
  none)
  else
  none))
  else
  none)))
  else
  none)
  else
  (bif (decide (v166 = (1 : Int))) then
  (bif (room 1 (v165.length + ([32] : List UInt8).length)) then
  (bif (decide (v166 = (0 : Int))) then
  (Option.bind (nth v161 v171) fun v180 =>
  (bif (room 1 ((v165 ++ [32]).length + v180.length)) then
  (bif (room 1 (((v165 ++ [32]) ++ v180).length + ([32] : List UInt8).length)) then
  (Option.bind (nth v164 (IntKind.wrap .i64 (v166 + 1))) fun v181 =>
  (bif (room 1 ((((v165 ++ [32]) ++ v180) ++ [32]).length + v181.length)) then
  (k0 v161 v162 v163 v164 ((((v165 ++ [32]) ++ v180) ++ [32]) ++ v181) v166 v168 v169 v170 v171 (Int.tmod v167 6) v173)
  else
  none))
  else
  none)
  else
  none))
  else
  (bif (decide (v166 = (1 : Int))) then
  (Option.bind (nth v161 (Int.tmod v167 6)) fun v182 =>
  (bif (room 1 ((v165 ++ [32]).length + v182.length)) then
  (bif (room 1 (((v165 ++ [32]) ++ v182).length + ([32] : List UInt8).length)) then
  (Option.bind (nth v164 (IntKind.wrap .i64 (v166 + 1))) fun v183 =>
  (bif (room 1 ((((v165 ++ [32]) ++ v182) ++ [32]).length + v183.length)) then
  (k0 v161 v162 v163 v164 ((((v165 ++ [32]) ++ v182) ++ [32]) ++ v183) v166 v168 v169 v170 v171 (Int.tmod v167 6) v173)
  else
  none))
  else
  none)
  else
  none))
  else
  (bif (decide (v166 = (2 : Int))) then
  (Option.bind (nth v161 v173) fun v184 =>
  (bif (room 1 ((v165 ++ [32]).length + v184.length)) then
  (bif (room 1 (((v165 ++ [32]) ++ v184).length + ([32] : List UInt8).length)) then
  (Option.bind (nth v164 (IntKind.wrap .i64 (v166 + 1))) fun v185 =>
  (bif (room 1 ((((v165 ++ [32]) ++ v184) ++ [32]).length + v185.length)) then
  (k0 v161 v162 v163 v164 ((((v165 ++ [32]) ++ v184) ++ [32]) ++ v185) v166 v168 v169 v170 v171 (Int.tmod v167 6) v173)
  else
  none))
  else
  none)
  else
  none))
  else
  none)))
  else
  none)
  else
  (bif (decide (v166 = (2 : Int))) then
  (bif (room 1 (v165.length + ([32] : List UInt8).length)) then
  (bif (decide (v166 = (0 : Int))) then
  (Option.bind (nth v161 v171) fun v186 =>
  (bif (room 1 ((v165 ++ [32]).length + v186.length)) then
  (bif (room 1 (((v165 ++ [32]) ++ v186).length + ([32] : List UInt8).length)) then
  (Option.bind (nth v164 (IntKind.wrap .i64 (v166 + 1))) fun v187 =>
  (bif (room 1 ((((v165 ++ [32]) ++ v186) ++ [32]).length + v187.length)) then
  (k0 v161 v162 v163 v164 ((((v165 ++ [32]) ++ v186) ++ [32]) ++ v187) v166 v168 v169 v170 v171 v172 (Int.tmod v167 6))
  else
  none))
  else
  none)
  else
  none))
  else
  (bif (decide (v166 = (1 : Int))) then
  (Option.bind (nth v161 v172) fun v188 =>
  (bif (room 1 ((v165 ++ [32]).length + v188.length)) then
  (bif (room 1 (((v165 ++ [32]) ++ v188).length + ([32] : List UInt8).length)) then
  (Option.bind (nth v164 (IntKind.wrap .i64 (v166 + 1))) fun v189 =>
  (bif (room 1 ((((v165 ++ [32]) ++ v188) ++ [32]).length + v189.length)) then
  (k0 v161 v162 v163 v164 ((((v165 ++ [32]) ++ v188) ++ [32]) ++ v189) v166 v168 v169 v170 v171 v172 (Int.tmod v167 6))
  else
  none))
  else
  none)
  else
  none))
  else
  (bif (decide (v166 = (2 : Int))) then
  (Option.bind (nth v161 (Int.tmod v167 6)) fun v190 =>
  (bif (room 1 ((v165 ++ [32]).length + v190.length)) then
  (bif (room 1 (((v165 ++ [32]) ++ v190).length + ([32] : List UInt8).length)) then
  (Option.bind (nth v164 (IntKind.wrap .i64 (v166 + 1))) fun v191 =>
  (bif (room 1 ((((v165 ++ [32]) ++ v190) ++ [32]).length + v191.length)) then
  (k0 v161 v162 v163 v164 ((((v165 ++ [32]) ++ v190) ++ [32]) ++ v191) v166 v168 v169 v170 v171 v172 (Int.tmod v167 6))
  else
  none))
  else
  none)
  else
  none))
  else
  none)))
  else
  none)
  else
  none)))

def law17_ParseBinds_l0B (N : Nat) (R : Type) (rec : (List (List UInt8)) → (List Int) → (List Int) → (List (List UInt8)) → (List UInt8) → Int → Int → Int → Int → Int → Int → Int → Option R) (k0 : (List Int) → (List Int) → (List UInt8) → Int → Int → Int → Int → Int → Int → Option R) (v77 : (List (List UInt8))) (v78 : (List Int)) (v79 : (List Int)) (v80 : (List (List UInt8))) (v81 : (List UInt8)) (v82 : Int) (v83 : Int) (v84 : Int) (v85 : Int) (v86 : Int) (v87 : Int) (v88 : Int) : Option R :=
  (bif (decide (v82 < 3)) then
  (bif (decide (v82 = (0 : Int))) then
  (bif (decide (v83 < 0)) then
  (law17_ParseBinds_j1 N _ (fun v89 v90 v91 v92 v93 v94 v95 v96 v97 v98 v99 v100 =>
  (rec v89 v90 v91 v92 v93 (IntKind.wrap .i64 (v94 + 1)) v95 v96 v97 v98 v99 v100)) v77 v78 v79 v80 v81 v82 (IntKind.wrap .i64 (0 - (IntKind.wrap .i64 (v83 + 1)))) v83 v84 v85 v86 v87 v88)
  else
  (law17_ParseBinds_j1 N _ (fun v101 v102 v103 v104 v105 v106 v107 v108 v109 v110 v111 v112 =>
  (rec v101 v102 v103 v104 v105 (IntKind.wrap .i64 (v106 + 1)) v107 v108 v109 v110 v111 v112)) v77 v78 v79 v80 v81 v82 v83 v83 v84 v85 v86 v87 v88))
  else
  (bif (decide (v82 = (1 : Int))) then
  (bif (decide (v84 < 0)) then
  (law17_ParseBinds_j1 N _ (fun v113 v114 v115 v116 v117 v118 v119 v120 v121 v122 v123 v124 =>
  (rec v113 v114 v115 v116 v117 (IntKind.wrap .i64 (v118 + 1)) v119 v120 v121 v122 v123 v124)) v77 v78 v79 v80 v81 v82 (IntKind.wrap .i64 (0 - (IntKind.wrap .i64 (v84 + 1)))) v83 v84 v85 v86 v87 v88)
  else
  (law17_ParseBinds_j1 N _ (fun v125 v126 v127 v128 v129 v130 v131 v132 v133 v134 v135 v136 =>
  (rec v125 v126 v127 v128 v129 (IntKind.wrap .i64 (v130 + 1)) v131 v132 v133 v134 v135 v136)) v77 v78 v79 v80 v81 v82 v84 v83 v84 v85 v86 v87 v88))
  else
  (bif (decide (v82 = (2 : Int))) then
  (bif (decide (v85 < 0)) then
  (law17_ParseBinds_j1 N _ (fun v137 v138 v139 v140 v141 v142 v143 v144 v145 v146 v147 v148 =>
  (rec v137 v138 v139 v140 v141 (IntKind.wrap .i64 (v142 + 1)) v143 v144 v145 v146 v147 v148)) v77 v78 v79 v80 v81 v82 (IntKind.wrap .i64 (0 - (IntKind.wrap .i64 (v85 + 1)))) v83 v84 v85 v86 v87 v88)
  else
  (law17_ParseBinds_j1 N _ (fun v149 v150 v151 v152 v153 v154 v155 v156 v157 v158 v159 v160 =>
  (rec v149 v150 v151 v152 v153 (IntKind.wrap .i64 (v154 + 1)) v155 v156 v157 v158 v159 v160)) v77 v78 v79 v80 v81 v82 v85 v83 v84 v85 v86 v87 v88))
  else
  none)))
  else
  (k0 v78 v79 v81 v83 v84 v85 v86 v87 v88))

def law17_ParseBinds_l0 (N : Nat) (R : Type) (k0 : (List Int) → (List Int) → (List UInt8) → Int → Int → Int → Int → Int → Int → Option R) : Nat → (List (List UInt8)) → (List Int) → (List Int) → (List (List UInt8)) → (List UInt8) → Int → Int → Int → Int → Int → Int → Int → Option R
  | 0 => fun _ _ _ _ _ _ _ _ _ _ _ _ => none
  | n + 1 => law17_ParseBinds_l0B N R (law17_ParseBinds_l0 N R k0 n) k0

def law17_ParseBinds_cps (N : Nat) (R : Type) (K : Bool → Option R) (v1 : Int) (v2 : Int) (v3 : Int) : Option R :=
  (law17_ParseBinds_l0 N _ (fun v4 v5 v6 v7 v8 v9 v10 v11 v12 =>
  (law17_ParseBinds_l2 N _ (fun v13 v14 v15 v16 v17 v18 v19 v20 v21 =>
  (Option.bind (parse_Expression N v14) fun v22 =>
  (bif (!(Err.isNil v22.2.2.2.2.2.2.2.2.2.2.1)) then
  (K false)
  else
  (bif (decide (v15 = (0 : Int))) then
  (Option.bind (nth v13 v19) fun v23 =>
  (bif (!(decide (v22.1 = v23))) then
  (K false)
  else
  (bif (!(decide ((v22.2.2.2.2.2.2.2.1.length : Int) = 2))) then
  (K false)
  else
  (law17_ParseBinds_j3 N _ (fun v24 v25 v26 v27 v28 v29 v30 v31 v32 v33 v34 v35 v36 v37 v38 v39 v40 =>
  (K v24)) v15 v16 v17 v18 v19 v20 v21 v22.1 v22.2.1 v22.2.2.1 v22.2.2.2.1 v22.2.2.2.2.1 v22.2.2.2.2.2.1 v22.2.2.2.2.2.2.1 v22.2.2.2.2.2.2.2.1 v22.2.2.2.2.2.2.2.2.1 v22.2.2.2.2.2.2.2.2.2.1))))
  else
  (bif (decide (v15 = (1 : Int))) then
  (Option.bind (nth v13 v20) fun v41 =>
  (bif (!(decide (v22.1 = v41))) then
  (K false)
  else
  (bif (!(decide ((v22.2.2.2.2.2.2.2.1.length : Int) = 2))) then
  (K false)
  else
  (law17_ParseBinds_j3 N _ (fun v42 v43 v44 v45 v46 v47 v48 v49 v50 v51 v52 v53 v54 v55 v56 v57 v58 =>
  (K v42)) v15 v16 v17 v18 v19 v20 v21 v22.1 v22.2.1 v22.2.2.1 v22.2.2.2.1 v22.2.2.2.2.1 v22.2.2.2.2.2.1 v22.2.2.2.2.2.2.1 v22.2.2.2.2.2.2.2.1 v22.2.2.2.2.2.2.2.2.1 v22.2.2.2.2.2.2.2.2.2.1))))
  else
  (bif (decide (v15 = (2 : Int))) then
  (Option.bind (nth v13 v21) fun v59 =>
  (bif (!(decide (v22.1 = v59))) then
  (K false)
  else
  (bif (!(decide ((v22.2.2.2.2.2.2.2.1.length : Int) = 2))) then
  (K false)
  else
  (law17_ParseBinds_j3 N _ (fun v60 v61 v62 v63 v64 v65 v66 v67 v68 v69 v70 v71 v72 v73 v74 v75 v76 =>
  (K v60)) v15 v16 v17 v18 v19 v20 v21 v22.1 v22.2.1 v22.2.2.1 v22.2.2.2.1 v22.2.2.2.2.1 v22.2.2.2.2.2.1 v22.2.2.2.2.2.2.1 v22.2.2.2.2.2.2.2.1 v22.2.2.2.2.2.2.2.2.1 v22.2.2.2.2.2.2.2.2.2.1))))
  else
  none)))))) N v4 v5 v6 0 1 v7 v8 v9 v10 v11 v12)) N ([[111, 114], [97, 110, 100], [43], [45], [42], [47]] : (List (List UInt8))) ([0, 1, 2, 2, 3, 3] : (List Int)) ([15, 14, 3, 4, 5, 6] : (List Int)) ([[97], [98], [99], [100]] : (List (List UInt8))) [97] 0 v1 v2 v3 0 0 0)

def law17_ParseBinds (N : Nat) (v1 : Int) (v2 : Int) (v3 : Int) : Option (Bool × Unit) := law17_ParseBinds_cps N _ (fun a0 => some (a0, ())) v1 v2 v3

/-- What is to be shown of the law ParseBinds. -/
def ParseBinds_Pure : Prop := ∀ x : denA [(.pair (.int .i64) (.pair (.int .i64) (.pair (.int .i64) .unit)))], WfA [(.pair (.int .i64) (.pair (.int .i64) (.pair (.int .i64) .unit)))] x → law17_ParseBinds big x.1.1 x.1.2.1 x.1.2.2.1 = some (true, ())


end
end Go.Proofs.YtbikfekdakigiaaGreatDoor.E
