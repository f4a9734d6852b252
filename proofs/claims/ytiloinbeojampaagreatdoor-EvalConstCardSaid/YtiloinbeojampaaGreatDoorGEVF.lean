/-
  Pure functions, printed by a program out of the translation.
  Conditions: those that each statement prints, and no other.
-/
import Derived.Test.YtiloinbeojampaaGreatDoorGEVFa
import Derived.Test.YtiloinbeojampaaGreatDoorEvA
import Derived.Lib.Bytealg
import Derived.Test.YtiloinbeojampaaGreatDoorEvL
set_option linter.unusedVariables false
set_option linter.unusedSimpArgs false
namespace Go.Proofs.YtiloinbeojampaaGreatDoor.E
open Go.Ev
noncomputable section
/-! frankpledge/eval.Fold -/
def eval_Fold_j2 (N : Nat) (R : Type) (k0 : Int → Int → Int → Q1 → Int → Int → Int → Int → (List UInt8) → Int → Int → (List UInt8) → Int → Int → (List UInt8) → Option R) (k1 : Int → Err → Int → Int → Q1 → Int → Int → Int → Int → (List UInt8) → Int → Int → (List UInt8) → Int → Int → (List UInt8) → Option R) (v86 : Int) (v87 : Int) (v88 : Int) (v89 : Int) (v90 : Q1) (v91 : Int) (v92 : Int) (v93 : Int) (v94 : Int) (v95 : (List UInt8)) (v96 : Int) (v97 : Int) (v98 : (List UInt8)) (v99 : Int) (v100 : Int) (v101 : (List UInt8)) : Option R :=
  (Option.bind (number_Sign N v99 v100 v101 v96 v97 v98) fun v102 =>
  (bif (!(Err.isNil v102.2.1)) then
  (Option.bind (fault_New N 22 v89) fun v103 =>
  (k1 v86 v103.1 v87 v88 v90 v91 v92 0 0 [] v96 v97 v98 v99 v100 v101))
  else
  (bif (decide (v102.1 = v87)) then
  (k0 v86 v87 v88 v90 v91 v92 v93 v94 v95 v99 v100 v101 v99 v100 v101)
  else
  (k0 v86 v87 v88 v90 v91 v92 v93 v94 v95 v96 v97 v98 v99 v100 v101))))

def eval_Fold_l1B (N : Nat) (R : Type) (rec : Int → Int → Int → Q1 → Int → Int → Int → Int → (List UInt8) → Int → Int → (List UInt8) → Option R) (k0 : Int → Int → Int → Int → (List UInt8) → Int → Int → (List UInt8) → Option R) (k1 : Int → Err → Int → Int → Int → (List UInt8) → Int → Int → (List UInt8) → Option R) (v40 : Int) (v41 : Int) (v42 : Int) (v43 : Q1) (v44 : Int) (v45 : Int) (v46 : Int) (v47 : Int) (v48 : (List UInt8)) (v49 : Int) (v50 : Int) (v51 : (List UInt8)) : Option R :=
  (bif (decide (v45 < v44)) then
  (Option.bind (nth v43 v45) fun v52 =>
  (Option.bind (value_Right N v52.1 v52.2.1 v52.2.2.1) fun v53 =>
  (bif (!v53.1) then
  (Option.bind (fault_New N 22 v45) fun v54 =>
  (k1 v40 v54.1 v42 0 0 [] v49 v50 v51))
  else
  (bif (decide (v52.1 = 0)) then
  (rec v40 v41 v42 v43 v44 (IntKind.wrap .i64 (v45 + 1)) v46 v47 v48 v49 v50 v51)
  else
  (bif (decide ((IntKind.wrap .i64 (v42 + 1)) = 1)) then
  (rec v40 v41 (IntKind.wrap .i64 (v42 + 1)) v43 v44 (IntKind.wrap .i64 (v45 + 1)) v46 v47 v48 v52.1 v52.2.1 v52.2.2.1)
  else
  (bif (decide (v40 = 18)) then
  (rec v40 v41 (IntKind.wrap .i64 (v42 + 1)) v43 v44 (IntKind.wrap .i64 (v45 + 1)) v46 v47 v48 v52.1 v52.2.1 v52.2.2.1)
  else
  (eval_Fold_j2 N _ (fun v55 v56 v57 v58 v59 v60 v61 v62 v63 v64 v65 v66 v67 v68 v69 =>
  (rec v55 v56 v57 v58 v59 (IntKind.wrap .i64 (v60 + 1)) v61 v62 v63 v64 v65 v66)) (fun v70 v71 v72 v73 v74 v75 v76 v77 v78 v79 v80 v81 v82 v83 v84 v85 =>
  (k1 v70 v71 v73 v77 v78 v79 v80 v81 v82)) v40 v41 (IntKind.wrap .i64 (v42 + 1)) v45 v43 v44 v45 v46 v47 v48 v49 v50 v51 v52.1 v52.2.1 v52.2.2.1)))))))
  else
  (k0 v40 v42 v46 v47 v48 v49 v50 v51))

def eval_Fold_l1 (N : Nat) (R : Type) (k0 : Int → Int → Int → Int → (List UInt8) → Int → Int → (List UInt8) → Option R) (k1 : Int → Err → Int → Int → Int → (List UInt8) → Int → Int → (List UInt8) → Option R) : Nat → Int → Int → Int → Q1 → Int → Int → Int → Int → (List UInt8) → Int → Int → (List UInt8) → Option R
  | 0 => fun _ _ _ _ _ _ _ _ _ _ _ _ => none
  | n + 1 => eval_Fold_l1B N R (eval_Fold_l1 N R k0 k1 n) k0 k1

def eval_Fold_j0 (N : Nat) (R : Type) (k0 : Err → Int → Int → (List UInt8) → Option R) (v17 : Int) (v18 : Q1) (v19 : Int) (v20 : Int) (v21 : Int) (v22 : (List UInt8)) : Option R :=
  (eval_Fold_l1 N _ (fun v23 v24 v25 v26 v27 v28 v29 v30 =>
  (bif (decide (v23 = 18)) then
  (k0 Err.nil 2 v24 [])
  else
  (k0 Err.nil v28 v29 v30))) (fun v31 v32 v33 v34 v35 v36 v37 v38 v39 =>
  (k0 v32 v34 v35 v36)) N v17 v19 0 v18 (v18.length : Int) 0 v20 v21 v22 0 0 [])

def eval_Fold_cps (N : Nat) (R : Type) (K : Int → Int → (List UInt8) → Err → Option R) (v1 : Int) (v2 : Q1) : Option R :=
  (bif (decide (v1 = 19)) then
  (Option.bind (eval_sum N v2) fun v3 =>
  (K v3.1 v3.2.1 v3.2.2.1 v3.2.2.2.1))
  else
  (bif (decide (v1 = 20)) then
  (eval_Fold_j0 N _ (fun v4 v5 v6 v7 =>
  (K v5 v6 v7 v4)) v1 v2 (-1) 0 0 [])
  else
  (bif (decide (v1 = 21)) then
  (eval_Fold_j0 N _ (fun v8 v9 v10 v11 =>
  (K v9 v10 v11 v8)) v1 v2 1 0 0 [])
  else
  (bif (decide (v1 = 18)) then
  (eval_Fold_j0 N _ (fun v12 v13 v14 v15 =>
  (K v13 v14 v15 v12)) v1 v2 1 0 0 [])
  else
  (Option.bind (fault_New N 1 (-1)) fun v16 =>
  (K 0 0 [] v16.1))))))

def eval_Fold (N : Nat) (v1 : Int) (v2 : Q1) : Option (Int × Int × (List UInt8) × Err × Unit) := eval_Fold_cps N _ (fun a0 a1 a2 a3 => some (a0, (a1, (a2, (a3, ()))))) v1 v2

/-! frankpledge/frankpledgelaw20.alive -/
def law20_alive_cps (N : Nat) (R : Type) (K : Bool → Option R)  : Option R :=
  (Option.bind (parse_Expression N bs0) fun v1 =>
  (Option.bind (eval_Eval N v1.1 v1.2.1 v1.2.2.1 v1.2.2.2.1 v1.2.2.2.2.1 v1.2.2.2.2.2.1 v1.2.2.2.2.2.2.1 v1.2.2.2.2.2.2.2.1 v1.2.2.2.2.2.2.2.2.1 v1.2.2.2.2.2.2.2.2.2.1 []) fun v2 =>
  (Option.bind (eval_Fold N 19 ([(2, (9223372036854775807, ([], ()))), (2, (1, ([], ()))), (2, ((-5), ([], ())))] : Q1)) fun v3 =>
  (bif (Err.isNil v1.2.2.2.2.2.2.2.2.2.2.1) then
  (bif (Err.isNil v2.2.2.2.1) then
  (bif (Err.isNil v3.2.2.2.1) then
  (bif (decide (v2.2.1 = 5)) then
  (bif (decide (v2.1 = 2)) then
  (K (decide (v3.2.1 = 9223372036854775803)))
  else
  (K false))
  else
  (K false))
  else
  (K false))
  else
  (K false))
  else
  (K false)))))

def law20_alive (N : Nat)  : Option (Bool × Unit) := law20_alive_cps N _ (fun a0 => some (a0, ())) 

/-! frankpledge/frankpledgelaw20.EvalOrder -/
def law20_EvalOrder_j6 (N : Nat) (R : Type) (k0 : (List Int) → Int → Q1 → Q1 → Int → Int → Int → (List UInt8) → Int → Int → (List UInt8) → Int → Int → (List UInt8) → Int → Int → (List UInt8) → Option R) (k1 : (List Int) → Int → Bool → Q1 → Q1 → Int → Int → Int → (List UInt8) → Int → Int → (List UInt8) → Int → Int → (List UInt8) → Int → Int → (List UInt8) → Option R) (v606 : (List Int)) (v607 : Int) (v608 : Q1) (v609 : Q1) (v610 : Int) (v611 : Err) (v612 : Bool) (v613 : Int) (v614 : Int) (v615 : (List UInt8)) (v616 : Int) (v617 : Int) (v618 : (List UInt8)) (v619 : Int) (v620 : Int) (v621 : (List UInt8)) (v622 : Int) (v623 : Int) (v624 : (List UInt8)) : Option R :=
  (bif v612 then
  (Option.bind (eval_Fold N v610 ([(v619, (v620, (v621, ()))), (v622, (v623, (v624, ())))] : Q1)) fun v625 =>
  (bif (!((decide (v625.1 = v613)) && ((decide (v625.2.1 = v614)) && (decide (v625.2.2.1 = v615))))) then
  (k1 v606 v607 false v608 v609 v610 v613 v614 v615 v616 v617 v618 v619 v620 v621 v622 v623 v624)
  else
  (Option.bind (fault_Code N v625.2.2.2.1) fun v626 =>
  (Option.bind (fault_Code N v611) fun v627 =>
  (bif (!(decide (v626.1 = v627.1))) then
  (k1 v606 v607 false v608 v609 v610 v613 v614 v615 v616 v617 v618 v619 v620 v621 v622 v623 v624)
  else
  (k0 v606 v607 v608 v609 v610 v613 v614 v615 v616 v617 v618 v619 v620 v621 v622 v623 v624))))))
  else
  (k0 v606 v607 v608 v609 v610 v613 v614 v615 v616 v617 v618 v619 v620 v621 v622 v623 v624))

def law20_EvalOrder_j5 (N : Nat) (R : Type) (k0 : (List Int) → Int → Q1 → Q1 → Int → Int → Int → (List UInt8) → Int → Int → (List UInt8) → Int → Int → (List UInt8) → Int → Int → (List UInt8) → Option R) (k1 : (List Int) → Int → Bool → Q1 → Q1 → Int → Int → Int → (List UInt8) → Int → Int → (List UInt8) → Int → Int → (List UInt8) → Int → Int → (List UInt8) → Option R) (v411 : (List Int)) (v412 : Int) (v413 : Q1) (v414 : Q1) (v415 : Int) (v416 : Err) (v417 : Err) (v418 : Err) (v419 : Int) (v420 : Int) (v421 : (List UInt8)) (v422 : Int) (v423 : Int) (v424 : (List UInt8)) (v425 : Int) (v426 : Int) (v427 : (List UInt8)) (v428 : Int) (v429 : Int) (v430 : (List UInt8)) : Option R :=
  (bif (decide (v415 = 19)) then
  (bif (Err.isNil v417) then
  (bif (Err.isNil v418) then
  (bif (!(decide (v425 = 0))) then
  (law20_EvalOrder_j6 N _ (fun v431 v432 v433 v434 v435 v436 v437 v438 v439 v440 v441 v442 v443 v444 v445 v446 v447 =>
  (k0 v431 v432 v433 v434 v435 v436 v437 v438 v439 v440 v441 v442 v443 v444 v445 v446 v447)) (fun v448 v449 v450 v451 v452 v453 v454 v455 v456 v457 v458 v459 v460 v461 v462 v463 v464 v465 =>
  (k1 v448 v449 v450 v451 v452 v453 v454 v455 v456 v457 v458 v459 v460 v461 v462 v463 v464 v465)) v411 v412 v413 v414 v415 v416 (!(decide (v428 = 0))) v419 v420 v421 v422 v423 v424 v425 v426 v427 v428 v429 v430)
  else
  (law20_EvalOrder_j6 N _ (fun v466 v467 v468 v469 v470 v471 v472 v473 v474 v475 v476 v477 v478 v479 v480 v481 v482 =>
  (k0 v466 v467 v468 v469 v470 v471 v472 v473 v474 v475 v476 v477 v478 v479 v480 v481 v482)) (fun v483 v484 v485 v486 v487 v488 v489 v490 v491 v492 v493 v494 v495 v496 v497 v498 v499 v500 =>
  (k1 v483 v484 v485 v486 v487 v488 v489 v490 v491 v492 v493 v494 v495 v496 v497 v498 v499 v500)) v411 v412 v413 v414 v415 v416 false v419 v420 v421 v422 v423 v424 v425 v426 v427 v428 v429 v430))
  else
  (law20_EvalOrder_j6 N _ (fun v501 v502 v503 v504 v505 v506 v507 v508 v509 v510 v511 v512 v513 v514 v515 v516 v517 =>
  (k0 v501 v502 v503 v504 v505 v506 v507 v508 v509 v510 v511 v512 v513 v514 v515 v516 v517)) (fun v518 v519 v520 v521 v522 v523 v524 v525 v526 v527 v528 v529 v530 v531 v532 v533 v534 v535 =>
  (k1 v518 v519 v520 v521 v522 v523 v524 v525 v526 v527 v528 v529 v530 v531 v532 v533 v534 v535)) v411 v412 v413 v414 v415 v416 false v419 v420 v421 v422 v423 v424 v425 v426 v427 v428 v429 v430))
  else
  (law20_EvalOrder_j6 N _ (fun v536 v537 v538 v539 v540 v541 v542 v543 v544 v545 v546 v547 v548 v549 v550 v551 v552 =>
  (k0 v536 v537 v538 v539 v540 v541 v542 v543 v544 v545 v546 v547 v548 v549 v550 v551 v552)) (fun v553 v554 v555 v556 v557 v558 v559 v560 v561 v562 v563 v564 v565 v566 v567 v568 v569 v570 =>
  (k1 v553 v554 v555 v556 v557 v558 v559 v560 v561 v562 v563 v564 v565 v566 v567 v568 v569 v570)) v411 v412 v413 v414 v415 v416 false v419 v420 v421 v422 v423 v424 v425 v426 v427 v428 v429 v430))
  else
  (law20_EvalOrder_j6 N _ (fun v571 v572 v573 v574 v575 v576 v577 v578 v579 v580 v581 v582 v583 v584 v585 v586 v587 =>
  (k0 v571 v572 v573 v574 v575 v576 v577 v578 v579 v580 v581 v582 v583 v584 v585 v586 v587)) (fun v588 v589 v590 v591 v592 v593 v594 v595 v596 v597 v598 v599 v600 v601 v602 v603 v604 v605 =>
  (k1 v588 v589 v590 v591 v592 v593 v594 v595 v596 v597 v598 v599 v600 v601 v602 v603 v604 v605)) v411 v412 v413 v414 v415 v416 false v419 v420 v421 v422 v423 v424 v425 v426 v427 v428 v429 v430))

def law20_EvalOrder_j4 (N : Nat) (R : Type) (k0 : (List Int) → Int → Q1 → Q1 → Int → Int → Int → (List UInt8) → Int → Int → (List UInt8) → Int → Int → (List UInt8) → Int → Int → (List UInt8) → Option R) (k1 : (List Int) → Int → Bool → Q1 → Q1 → Int → Int → Int → (List UInt8) → Int → Int → (List UInt8) → Int → Int → (List UInt8) → Int → Int → (List UInt8) → Option R) (v111 : (List Int)) (v112 : Int) (v113 : Q1) (v114 : Q1) (v115 : Int) (v116 : Err) (v117 : Err) (v118 : Err) (v119 : Int) (v120 : Int) (v121 : (List UInt8)) (v122 : Int) (v123 : Int) (v124 : (List UInt8)) (v125 : Int) (v126 : Int) (v127 : (List UInt8)) (v128 : Int) (v129 : Int) (v130 : (List UInt8)) : Option R :=
  (bif (decide (v115 = 18)) then
  (bif (!(decide ((IntKind.wrap .i64 (v126 + v129)) = v120))) then
  (k1 v111 v112 false v113 v114 v115 v119 v120 v121 v122 v123 v124 v125 v126 v127 v128 v129 v130)
  else
  (bif (decide (v115 = 20)) then
  (bif (decide (0 < (v111.length : Int))) then
  (bif (!((decide (v119 = v125)) && ((decide (v120 = v126)) && (decide (v121 = v127))))) then
  (bif (!((decide (v119 = v128)) && ((decide (v120 = v129)) && (decide (v121 = v130))))) then
  (k1 v111 v112 false v113 v114 v115 v119 v120 v121 v122 v123 v124 v125 v126 v127 v128 v129 v130)
  else
  (law20_EvalOrder_j5 N _ (fun v131 v132 v133 v134 v135 v136 v137 v138 v139 v140 v141 v142 v143 v144 v145 v146 v147 =>
  (k0 v131 v132 v133 v134 v135 v136 v137 v138 v139 v140 v141 v142 v143 v144 v145 v146 v147)) (fun v148 v149 v150 v151 v152 v153 v154 v155 v156 v157 v158 v159 v160 v161 v162 v163 v164 v165 =>
  (k1 v148 v149 v150 v151 v152 v153 v154 v155 v156 v157 v158 v159 v160 v161 v162 v163 v164 v165)) v111 v112 v113 v114 v115 v116 v117 v118 v119 v120 v121 v122 v123 v124 v125 v126 v127 v128 v129 v130))
  else
  (law20_EvalOrder_j5 N _ (fun v166 v167 v168 v169 v170 v171 v172 v173 v174 v175 v176 v177 v178 v179 v180 v181 v182 =>
  (k0 v166 v167 v168 v169 v170 v171 v172 v173 v174 v175 v176 v177 v178 v179 v180 v181 v182)) (fun v183 v184 v185 v186 v187 v188 v189 v190 v191 v192 v193 v194 v195 v196 v197 v198 v199 v200 =>
  (k1 v183 v184 v185 v186 v187 v188 v189 v190 v191 v192 v193 v194 v195 v196 v197 v198 v199 v200)) v111 v112 v113 v114 v115 v116 v117 v118 v119 v120 v121 v122 v123 v124 v125 v126 v127 v128 v129 v130))
  else
  (law20_EvalOrder_j5 N _ (fun v201 v202 v203 v204 v205 v206 v207 v208 v209 v210 v211 v212 v213 v214 v215 v216 v217 =>
  (k0 v201 v202 v203 v204 v205 v206 v207 v208 v209 v210 v211 v212 v213 v214 v215 v216 v217)) (fun v218 v219 v220 v221 v222 v223 v224 v225 v226 v227 v228 v229 v230 v231 v232 v233 v234 v235 =>
  (k1 v218 v219 v220 v221 v222 v223 v224 v225 v226 v227 v228 v229 v230 v231 v232 v233 v234 v235)) v111 v112 v113 v114 v115 v116 v117 v118 v119 v120 v121 v122 v123 v124 v125 v126 v127 v128 v129 v130))
  else
  (law20_EvalOrder_j5 N _ (fun v236 v237 v238 v239 v240 v241 v242 v243 v244 v245 v246 v247 v248 v249 v250 v251 v252 =>
  (k0 v236 v237 v238 v239 v240 v241 v242 v243 v244 v245 v246 v247 v248 v249 v250 v251 v252)) (fun v253 v254 v255 v256 v257 v258 v259 v260 v261 v262 v263 v264 v265 v266 v267 v268 v269 v270 =>
  (k1 v253 v254 v255 v256 v257 v258 v259 v260 v261 v262 v263 v264 v265 v266 v267 v268 v269 v270)) v111 v112 v113 v114 v115 v116 v117 v118 v119 v120 v121 v122 v123 v124 v125 v126 v127 v128 v129 v130)))
  else
  (bif (decide (v115 = 20)) then
  (bif (decide (0 < (v111.length : Int))) then
  (bif (!((decide (v119 = v125)) && ((decide (v120 = v126)) && (decide (v121 = v127))))) then
  (bif (!((decide (v119 = v128)) && ((decide (v120 = v129)) && (decide (v121 = v130))))) then
  (k1 v111 v112 false v113 v114 v115 v119 v120 v121 v122 v123 v124 v125 v126 v127 v128 v129 v130)
  else
  (law20_EvalOrder_j5 N _ (fun v271 v272 v273 v274 v275 v276 v277 v278 v279 v280 v281 v282 v283 v284 v285 v286 v287 =>
  (k0 v271 v272 v273 v274 v275 v276 v277 v278 v279 v280 v281 v282 v283 v284 v285 v286 v287)) (fun v288 v289 v290 v291 v292 v293 v294 v295 v296 v297 v298 v299 v300 v301 v302 v303 v304 v305 =>
  (k1 v288 v289 v290 v291 v292 v293 v294 v295 v296 v297 v298 v299 v300 v301 v302 v303 v304 v305)) v111 v112 v113 v114 v115 v116 v117 v118 v119 v120 v121 v122 v123 v124 v125 v126 v127 v128 v129 v130))
  else
  (law20_EvalOrder_j5 N _ (fun v306 v307 v308 v309 v310 v311 v312 v313 v314 v315 v316 v317 v318 v319 v320 v321 v322 =>
  (k0 v306 v307 v308 v309 v310 v311 v312 v313 v314 v315 v316 v317 v318 v319 v320 v321 v322)) (fun v323 v324 v325 v326 v327 v328 v329 v330 v331 v332 v333 v334 v335 v336 v337 v338 v339 v340 =>
  (k1 v323 v324 v325 v326 v327 v328 v329 v330 v331 v332 v333 v334 v335 v336 v337 v338 v339 v340)) v111 v112 v113 v114 v115 v116 v117 v118 v119 v120 v121 v122 v123 v124 v125 v126 v127 v128 v129 v130))
  else
  (law20_EvalOrder_j5 N _ (fun v341 v342 v343 v344 v345 v346 v347 v348 v349 v350 v351 v352 v353 v354 v355 v356 v357 =>
  (k0 v341 v342 v343 v344 v345 v346 v347 v348 v349 v350 v351 v352 v353 v354 v355 v356 v357)) (fun v358 v359 v360 v361 v362 v363 v364 v365 v366 v367 v368 v369 v370 v371 v372 v373 v374 v375 =>
  (k1 v358 v359 v360 v361 v362 v363 v364 v365 v366 v367 v368 v369 v370 v371 v372 v373 v374 v375)) v111 v112 v113 v114 v115 v116 v117 v118 v119 v120 v121 v122 v123 v124 v125 v126 v127 v128 v129 v130))
  else
  (law20_EvalOrder_j5 N _ (fun v376 v377 v378 v379 v380 v381 v382 v383 v384 v385 v386 v387 v388 v389 v390 v391 v392 =>
  (k0 v376 v377 v378 v379 v380 v381 v382 v383 v384 v385 v386 v387 v388 v389 v390 v391 v392)) (fun v393 v394 v395 v396 v397 v398 v399 v400 v401 v402 v403 v404 v405 v406 v407 v408 v409 v410 =>
  (k1 v393 v394 v395 v396 v397 v398 v399 v400 v401 v402 v403 v404 v405 v406 v407 v408 v409 v410)) v111 v112 v113 v114 v115 v116 v117 v118 v119 v120 v121 v122 v123 v124 v125 v126 v127 v128 v129 v130)))

def law20_EvalOrder_l3B (N : Nat) (R : Type) (rec : (List Int) → Int → Q1 → Q1 → Int → Option R) (k0 : Option R) (k1 : Bool → Option R) (v30 : (List Int)) (v31 : Int) (v32 : Q1) (v33 : Q1) (v34 : Int) : Option R :=
  (bif (decide (v34 ≤ 21)) then
  (Option.bind (eval_Fold N v34 v32) fun v35 =>
  (Option.bind (eval_Fold N v34 v33) fun v36 =>
  (bif (decide (0 ≤ v31 ∧ v31 ≤ ((v32.length : Nat) : Int))) then
  (Option.bind (eval_Fold N v34 (List.drop 0 (List.take (Int.toNat v31) v32))) fun v37 =>
  (bif (decide (0 ≤ v31 ∧ v31 ≤ ((v32.length : Nat) : Int))) then
  (Option.bind (eval_Fold N v34 (List.drop (Int.toNat v31) (List.take v32.length v32))) fun v38 =>
  (bif (!((decide (v35.1 = v36.1)) && ((decide (v35.2.1 = v36.2.1)) && (decide (v35.2.2.1 = v36.2.2.1))))) then
  (k1 false)
  else
  (Option.bind (fault_Code N v35.2.2.2.1) fun v39 =>
  (Option.bind (fault_Code N v36.2.2.2.1) fun v40 =>
  (bif (!(decide (v39.1 = v40.1))) then
  (k1 false)
  else
  (bif (!(decide (v34 = 19))) then
  (bif (!(Err.isNil v35.2.2.2.1)) then
  (k1 false)
  else
  (bif (!(Err.isNil v37.2.2.2.1)) then
  (k1 false)
  else
  (bif (!(Err.isNil v38.2.2.2.1)) then
  (k1 false)
  else
  (law20_EvalOrder_j4 N _ (fun v41 v42 v43 v44 v45 v46 v47 v48 v49 v50 v51 v52 v53 v54 v55 v56 v57 =>
  (rec v41 v42 v43 v44 (IntKind.wrap .i64 (v45 + 1)))) (fun v58 v59 v60 v61 v62 v63 v64 v65 v66 v67 v68 v69 v70 v71 v72 v73 v74 v75 =>
  (k1 v60)) v30 v31 v32 v33 v34 v35.2.2.2.1 v37.2.2.2.1 v38.2.2.2.1 v35.1 v35.2.1 v35.2.2.1 v36.1 v36.2.1 v36.2.2.1 v37.1 v37.2.1 v37.2.2.1 v38.1 v38.2.1 v38.2.2.1))))
  else
  (law20_EvalOrder_j4 N _ (fun v76 v77 v78 v79 v80 v81 v82 v83 v84 v85 v86 v87 v88 v89 v90 v91 v92 =>
  (rec v76 v77 v78 v79 (IntKind.wrap .i64 (v80 + 1)))) (fun v93 v94 v95 v96 v97 v98 v99 v100 v101 v102 v103 v104 v105 v106 v107 v108 v109 v110 =>
  (k1 v95)) v30 v31 v32 v33 v34 v35.2.2.2.1 v37.2.2.2.1 v38.2.2.2.1 v35.1 v35.2.1 v35.2.2.1 v36.1 v36.2.1 v36.2.2.1 v37.1 v37.2.1 v37.2.2.1 v38.1 v38.2.1 v38.2.2.1)))))))
  else
  none))
  else
  none)))
  else
  k0)

def law20_EvalOrder_l3 (N : Nat) (R : Type) (k0 : Option R) (k1 : Bool → Option R) : Nat → (List Int) → Int → Q1 → Q1 → Int → Option R
  | 0 => fun _ _ _ _ _ => none
  | n + 1 => law20_EvalOrder_l3B N R (law20_EvalOrder_l3 N R k0 k1 n) k0 k1

def law20_EvalOrder_j2 (N : Nat) (R : Type) (k0 : Bool → Option R) (v24 : (List Int)) (v25 : Int) (v26 : Q1) (v27 : Q1) : Option R :=
  (bif (decide ((IntKind.wrap .i64 ((v24.length : Int) + 1)) = 0)) then
  none
  else
  (law20_EvalOrder_l3 N _ ((Option.bind (law20_alive N) fun v28 =>
  (k0 v28.1))) (fun v29 =>
  (k0 v29)) N v24 (Int.tmod v25 (IntKind.wrap .i64 ((v24.length : Int) + 1))) v26 v27 18))

def law20_EvalOrder_l1B (N : Nat) (R : Type) (rec : (List Int) → Int → Int → Q1 → Q1 → Int → Option R) (k0 : (List Int) → Int → Q1 → Q1 → Option R) (v16 : (List Int)) (v17 : Int) (v18 : Int) (v19 : Q1) (v20 : Q1) (v21 : Int) : Option R :=
  (bif (decide (v21 < (v16.length : Int))) then
  (Option.bind (nth v16 v21) fun v22 =>
  (bif (room 32 (v19.length + ([(v18, (v22, ([], ())))] : Q1).length)) then
  (Option.bind (nth v16 (IntKind.wrap .i64 ((IntKind.wrap .i64 ((v16.length : Int) - 1)) - v21))) fun v23 =>
  (bif (room 32 (v20.length + ([(v18, (v23, ([], ())))] : Q1).length)) then
  (rec v16 v17 v18 (v19 ++ ([(v18, (v22, ([], ())))] : Q1)) (v20 ++ ([(v18, (v23, ([], ())))] : Q1)) (IntKind.wrap .i64 (v21 + 1)))
  else
  none))
  else
  none))
  else
  (k0 v16 v17 v19 v20))

def law20_EvalOrder_l1 (N : Nat) (R : Type) (k0 : (List Int) → Int → Q1 → Q1 → Option R) : Nat → (List Int) → Int → Int → Q1 → Q1 → Int → Option R
  | 0 => fun _ _ _ _ _ _ => none
  | n + 1 => law20_EvalOrder_l1B N R (law20_EvalOrder_l1 N R k0 n) k0

def law20_EvalOrder_j0 (N : Nat) (R : Type) (k0 : Bool → Option R) (v7 : (List Int)) (v8 : Int) (v9 : Int) : Option R :=
  (law20_EvalOrder_l1 N _ (fun v10 v11 v12 v13 =>
  (bif (decide (v11 < 0)) then
  (law20_EvalOrder_j2 N _ (fun v14 =>
  (k0 v14)) v10 (IntKind.wrap .i64 (0 - (IntKind.wrap .i64 (v11 + 1)))) v12 v13)
  else
  (law20_EvalOrder_j2 N _ (fun v15 =>
  (k0 v15)) v10 v11 v12 v13))) N v7 v8 v9 [] [] 0)

def law20_EvalOrder_cps (N : Nat) (R : Type) (K : Bool → Option R) (v1 : (List Int)) (v2 : Bool) (v3 : Int) : Option R :=
  (bif (decide (300 < (v1.length : Int))) then
  (Option.bind (law20_alive N) fun v4 =>
  (K v4.1))
  else
  (bif v2 then
  (law20_EvalOrder_j0 N _ (fun v5 =>
  (K v5)) v1 v3 3)
  else
  (law20_EvalOrder_j0 N _ (fun v6 =>
  (K v6)) v1 v3 2)))

def law20_EvalOrder (N : Nat) (v1 : (List Int)) (v2 : Bool) (v3 : Int) : Option (Bool × Unit) := law20_EvalOrder_cps N _ (fun a0 => some (a0, ())) v1 v2 v3

/-! The functions about law20_numbered: they call one another. -/
set_option warn.classDefReducibility false
class Z_law20_numbered where
  r_law20_numbered : Int → Int → Int → (List UInt8) → (List UInt8) → (List UInt8) → Int → (List Ex) → Int → Int → Int → Option (Int × Int × Int × (List UInt8) × (List UInt8) × (List UInt8) × Int × (List Ex) × Int × Int × Unit)

section
variable [Z_law20_numbered]
/- frankpledge/frankpledgelaw20.numbered -/
def law20_numbered_o_l1B (N : Nat) (R : Type) (rec : Int → (List Ex) → Int → Int → Int → Int → (List UInt8) → (List UInt8) → (List UInt8) → Int → (List Ex) → Int → Int → Int → Int → Int → (List UInt8) → (List UInt8) → (List UInt8) → Int → Int → Int → Option R) (k0 : (List Ex) → Int → Int → Int → (List UInt8) → (List UInt8) → (List UInt8) → Int → (List Ex) → Int → Int → Int → Int → Int → (List UInt8) → (List UInt8) → (List UInt8) → Int → Int → Int → Option R) (v153 : Int) (v154 : (List Ex)) (v155 : Int) (v156 : Int) (v157 : Int) (v158 : Int) (v159 : (List UInt8)) (v160 : (List UInt8)) (v161 : (List UInt8)) (v162 : Int) (v163 : (List Ex)) (v164 : Int) (v165 : Int) (v166 : Int) (v167 : Int) (v168 : Int) (v169 : (List UInt8)) (v170 : (List UInt8)) (v171 : (List UInt8)) (v172 : Int) (v173 : Int) (v174 : Int) : Option R :=
  (bif (decide (v155 < (v163.length : Int))) then
  (Option.bind (nth v163 v155) fun v175 =>
  (Option.bind (Z_law20_numbered.r_law20_numbered (Ex.op v175) (Ex.vk v175) (Ex.vn v175) (Ex.vs v175) (Ex.tab v175) (Ex.name v175) (Ex.num v175) (Ex.kids v175) (Ex.kind v175) (Ex.at_ v175) v153) fun v176 =>
  (bif (room 120 (v154.length + ([(Ex.mk v176.1 v176.2.1 v176.2.2.1 v176.2.2.2.1 v176.2.2.2.2.1 v176.2.2.2.2.2.1 v176.2.2.2.2.2.2.1 v176.2.2.2.2.2.2.2.1 v176.2.2.2.2.2.2.2.2.1 v176.2.2.2.2.2.2.2.2.2.1)] : (List Ex)).length)) then
  (rec v153 (v154 ++ ([(Ex.mk v176.1 v176.2.1 v176.2.2.1 v176.2.2.2.1 v176.2.2.2.2.1 v176.2.2.2.2.2.1 v176.2.2.2.2.2.2.1 v176.2.2.2.2.2.2.2.1 v176.2.2.2.2.2.2.2.2.1 v176.2.2.2.2.2.2.2.2.2.1)] : (List Ex))) (IntKind.wrap .i64 (v155 + 1)) v156 v157 v158 v159 v160 v161 v162 v163 v164 v165 v166 v167 v168 v169 v170 v171 v172 v173 v174)
  else
  none)))
  else
  (k0 v154 v156 v157 v158 v159 v160 v161 v162 v163 v164 v165 v166 v167 v168 v169 v170 v171 v172 v173 v174))

def law20_numbered_o_l1 (N : Nat) (R : Type) (k0 : (List Ex) → Int → Int → Int → (List UInt8) → (List UInt8) → (List UInt8) → Int → (List Ex) → Int → Int → Int → Int → Int → (List UInt8) → (List UInt8) → (List UInt8) → Int → Int → Int → Option R) : Nat → Int → (List Ex) → Int → Int → Int → Int → (List UInt8) → (List UInt8) → (List UInt8) → Int → (List Ex) → Int → Int → Int → Int → Int → (List UInt8) → (List UInt8) → (List UInt8) → Int → Int → Int → Option R
  | 0 => fun _ _ _ _ _ _ _ _ _ _ _ _ _ _ _ _ _ _ _ _ _ _ => none
  | n + 1 => law20_numbered_o_l1B N R (law20_numbered_o_l1 N R k0 n) k0

def law20_numbered_o_j0 (N : Nat) (R : Type) (k0 : Int → Int → Int → (List UInt8) → (List UInt8) → (List UInt8) → Int → (List Ex) → Int → Int → Int → Int → Int → (List UInt8) → (List UInt8) → (List UInt8) → Int → (List Ex) → Int → Int → Option R) (v113 : Int) (v114 : Int) (v115 : Int) (v116 : Int) (v117 : (List UInt8)) (v118 : (List UInt8)) (v119 : (List UInt8)) (v120 : Int) (v121 : (List Ex)) (v122 : Int) (v123 : Int) (v124 : Int) (v125 : Int) (v126 : Int) (v127 : (List UInt8)) (v128 : (List UInt8)) (v129 : (List UInt8)) (v130 : Int) (v131 : Int) (v132 : Int) : Option R :=
  (law20_numbered_o_l1 N _ (fun v133 v134 v135 v136 v137 v138 v139 v140 v141 v142 v143 v144 v145 v146 v147 v148 v149 v150 v151 v152 =>
  (k0 v134 v135 v136 v137 v138 v139 v140 v133 v142 v143 v134 v135 v136 v137 v138 v139 v140 v133 v142 v143)) N v113 [] 0 v114 v115 v116 v117 v118 v119 v120 v121 v122 v123 v124 v125 v126 v127 v128 v129 v130 v131 v132)

def law20_numbered_o_cps (N : Nat) (R : Type) (K : Int → Int → Int → (List UInt8) → (List UInt8) → (List UInt8) → Int → (List Ex) → Int → Int → Option R) (v1 : Int) (v2 : Int) (v3 : Int) (v4 : (List UInt8)) (v5 : (List UInt8)) (v6 : (List UInt8)) (v7 : Int) (v8 : (List Ex)) (v9 : Int) (v10 : Int) (v11 : Int) : Option R :=
  (bif (decide (v1 = 2)) then
  (bif (decide (0 < (v6.length : Int))) then
  (bif (decide (0 ≤ v11)) then
  (bif (decide (v11 < 100)) then
  (Option.bind (nth v6 0) fun v12 =>
  (law20_numbered_o_j0 N _ (fun v13 v14 v15 v16 v17 v18 v19 v20 v21 v22 v23 v24 v25 v26 v27 v28 v29 v30 v31 v32 =>
  (K v23 v24 v25 v26 v27 v28 v29 v30 v31 v32)) v11 v1 v2 v3 v4 v5 v6 (IntKind.wrap .i64 ((IntKind.wrap .i64 ((IntKind.wrap .i64 (v12.toNat : Int)) - 97)) + v11)) v8 v9 v10 0 0 0 [] [] [] 0 0 0))
  else
  (law20_numbered_o_j0 N _ (fun v33 v34 v35 v36 v37 v38 v39 v40 v41 v42 v43 v44 v45 v46 v47 v48 v49 v50 v51 v52 =>
  (K v43 v44 v45 v46 v47 v48 v49 v50 v51 v52)) v11 v1 v2 v3 v4 v5 v6 v7 v8 v9 v10 0 0 0 [] [] [] 0 0 0))
  else
  (law20_numbered_o_j0 N _ (fun v53 v54 v55 v56 v57 v58 v59 v60 v61 v62 v63 v64 v65 v66 v67 v68 v69 v70 v71 v72 =>
  (K v63 v64 v65 v66 v67 v68 v69 v70 v71 v72)) v11 v1 v2 v3 v4 v5 v6 v7 v8 v9 v10 0 0 0 [] [] [] 0 0 0))
  else
  (law20_numbered_o_j0 N _ (fun v73 v74 v75 v76 v77 v78 v79 v80 v81 v82 v83 v84 v85 v86 v87 v88 v89 v90 v91 v92 =>
  (K v83 v84 v85 v86 v87 v88 v89 v90 v91 v92)) v11 v1 v2 v3 v4 v5 v6 v7 v8 v9 v10 0 0 0 [] [] [] 0 0 0))
  else
  (law20_numbered_o_j0 N _ (fun v93 v94 v95 v96 v97 v98 v99 v100 v101 v102 v103 v104 v105 v106 v107 v108 v109 v110 v111 v112 =>
  (K v103 v104 v105 v106 v107 v108 v109 v110 v111 v112)) v11 v1 v2 v3 v4 v5 v6 v7 v8 v9 v10 0 0 0 [] [] [] 0 0 0))

def law20_numbered_o (N : Nat) (v1 : Int) (v2 : Int) (v3 : Int) (v4 : (List UInt8)) (v5 : (List UInt8)) (v6 : (List UInt8)) (v7 : Int) (v8 : (List Ex)) (v9 : Int) (v10 : Int) (v11 : Int) : Option (Int × Int × Int × (List UInt8) × (List UInt8) × (List UInt8) × Int × (List Ex) × Int × Int × Unit) := law20_numbered_o_cps N _ (fun a0 a1 a2 a3 a4 a5 a6 a7 a8 a9 => some (a0, (a1, (a2, (a3, (a4, (a5, (a6, (a7, (a8, (a9, ()))))))))))) v1 v2 v3 v4 v5 v6 v7 v8 v9 v10 v11

end
def Z_law20_numbered_at (N : Nat) : Nat → Z_law20_numbered
  | 0 => { r_law20_numbered := fun _ _ _ _ _ _ _ _ _ _ _ => none }
  | n + 1 => letI : Z_law20_numbered := Z_law20_numbered_at N n; { r_law20_numbered := (fun a0 a1 a2 a3 a4 a5 a6 a7 a8 a9 a10 => law20_numbered_o N a0 a1 a2 a3 a4 a5 a6 a7 a8 a9 a10) }

def law20_numbered (N : Nat) (v1 : Int) (v2 : Int) (v3 : Int) (v4 : (List UInt8)) (v5 : (List UInt8)) (v6 : (List UInt8)) (v7 : Int) (v8 : (List Ex)) (v9 : Int) (v10 : Int) (v11 : Int) : Option (Int × Int × Int × (List UInt8) × (List UInt8) × (List UInt8) × Int × (List Ex) × Int × Int × Unit) := letI : Z_law20_numbered := Z_law20_numbered_at N N; law20_numbered_o N v1 v2 v3 v4 v5 v6 v7 v8 v9 v10 v11

/-! frankpledge/frankpledgelaw20.EvalTruths -/
def law20_EvalTruths_l1B (N : Nat) (R : Type) (rec : Q1 → (List (List UInt8)) → Q1 → Int → Int → Int → Option R) (k0 : Q1 → Int → Int → Option R) (k1 : Bool → Q1 → Int → Int → Option R) (v25 : Q1) (v26 : (List (List UInt8))) (v27 : Q1) (v28 : Int) (v29 : Int) (v30 : Int) : Option R :=
  (bif (decide (v28 < (v26.length : Int))) then
  (Option.bind (nth v26 v28) fun v31 =>
  (Option.bind (parse_Expression N v31) fun v32 =>
  (Option.bind (law20_numbered N v32.1 v32.2.1 v32.2.2.1 v32.2.2.2.1 v32.2.2.2.2.1 v32.2.2.2.2.2.1 v32.2.2.2.2.2.2.1 v32.2.2.2.2.2.2.2.1 v32.2.2.2.2.2.2.2.2.1 v32.2.2.2.2.2.2.2.2.2.1 0) fun v33 =>
  (Option.bind (eval_Eval_1 N v33.1 v33.2.1 v33.2.2.1 v33.2.2.2.1 v33.2.2.2.2.1 v33.2.2.2.2.2.1 v33.2.2.2.2.2.2.1 v33.2.2.2.2.2.2.2.1 v33.2.2.2.2.2.2.2.2.1 v33.2.2.2.2.2.2.2.2.2.1 v25) fun v34 =>
  (bif (!(Err.isNil v32.2.2.2.2.2.2.2.2.2.2.1)) then
  (k1 false v27 v29 v30)
  else
  (bif (!(Err.isNil v34.2.2.2.1)) then
  (k1 false v27 v29 v30)
  else
  (bif (room 32 (v27.length + ([(v34.1, (v34.2.1, (v34.2.2.1, ())))] : Q1).length)) then
  (rec v25 v26 (v27 ++ ([(v34.1, (v34.2.1, (v34.2.2.1, ())))] : Q1)) (IntKind.wrap .i64 (v28 + 1)) v29 v30)
  else
  none)))))))
  else
  (k0 v27 v29 v30))

def law20_EvalTruths_l1 (N : Nat) (R : Type) (k0 : Q1 → Int → Int → Option R) (k1 : Bool → Q1 → Int → Int → Option R) : Nat → Q1 → (List (List UInt8)) → Q1 → Int → Int → Int → Option R
  | 0 => fun _ _ _ _ _ _ => none
  | n + 1 => law20_EvalTruths_l1B N R (law20_EvalTruths_l1 N R k0 k1 n) k0 k1

def law20_EvalTruths_l0B (N : Nat) (R : Type) (rec : Q1 → Int → Int → Int → Option R) (k0 : Q1 → Int → Int → Option R) (v21 : Q1) (v22 : Int) (v23 : Int) (v24 : Int) : Option R :=
  (bif (decide (v22 < 2)) then
  (bif (decide (v22 = (0 : Int))) then
  (bif (decide (0 ≤ v23)) then
  (bif (decide (v22 = (0 : Int))) then
  (bif (room 32 (v21.length + ([(1, ((Int.tmod v23 2), ([], ())))] : Q1).length)) then
  (rec (v21 ++ ([(1, ((Int.tmod v23 2), ([], ())))] : Q1)) (IntKind.wrap .i64 (v22 + 1)) v23 v24)
  else
  none)
  else
  (bif (decide (v22 = (1 : Int))) then
  (bif (room 32 (v21.length + ([(1, ((Int.tmod v24 2), ([], ())))] : Q1).length)) then
  (rec (v21 ++ ([(1, ((Int.tmod v24 2), ([], ())))] : Q1)) (IntKind.wrap .i64 (v22 + 1)) v23 v24)
  else
  none)
  else
  none))
  else
  (bif (room 32 (v21.length + ([(0, (0, ([], ())))] : Q1).length)) then
  (rec (v21 ++ ([(0, (0, ([], ())))] : Q1)) (IntKind.wrap .i64 (v22 + 1)) v23 v24)
  else
  none))
  else
  (bif (decide (v22 = (1 : Int))) then
  (bif (decide (0 ≤ v24)) then
  (bif (decide (v22 = (0 : Int))) then
  (bif (room 32 (v21.length + ([(1, ((Int.tmod v23 2), ([], ())))] : Q1).length)) then
  (rec (v21 ++ ([(1, ((Int.tmod v23 2), ([], ())))] : Q1)) (IntKind.wrap .i64 (v22 + 1)) v23 v24)
  else
  none)
  else
  (bif (decide (v22 = (1 : Int))) then
  (bif (room 32 (v21.length + ([(1, ((Int.tmod v24 2), ([], ())))] : Q1).length)) then
  (rec (v21 ++ ([(1, ((Int.tmod v24 2), ([], ())))] : Q1)) (IntKind.wrap .i64 (v22 + 1)) v23 v24)
  else
  none)
  else
  none))
  else
  (bif (room 32 (v21.length + ([(0, (0, ([], ())))] : Q1).length)) then
  (rec (v21 ++ ([(0, (0, ([], ())))] : Q1)) (IntKind.wrap .i64 (v22 + 1)) v23 v24)
  else
  none))
  else
  none))
  else
  (k0 v21 v23 v24))

def law20_EvalTruths_l0 (N : Nat) (R : Type) (k0 : Q1 → Int → Int → Option R) : Nat → Q1 → Int → Int → Int → Option R
  | 0 => fun _ _ _ _ => none
  | n + 1 => law20_EvalTruths_l0B N R (law20_EvalTruths_l0 N R k0 n) k0

def law20_EvalTruths_cps (N : Nat) (R : Type) (K : Bool → Option R) (v1 : Int) (v2 : Int) : Option R :=
  (law20_EvalTruths_l0 N _ (fun v3 v4 v5 =>
  (law20_EvalTruths_l1 N _ (fun v6 v7 v8 =>
  (Option.bind (law20_alive N) fun v9 =>
  (bif v9.1 then
  (Option.bind (nth v6 0) fun v10 =>
  (Option.bind (nth v6 1) fun v11 =>
  (bif ((decide (v10.1 = v11.1)) && ((decide (v10.2.1 = v11.2.1)) && (decide (v10.2.2.1 = v11.2.2.1)))) then
  (Option.bind (nth v6 2) fun v12 =>
  (Option.bind (nth v6 3) fun v13 =>
  (bif ((decide (v12.1 = v13.1)) && ((decide (v12.2.1 = v13.2.1)) && (decide (v12.2.2.1 = v13.2.2.1)))) then
  (Option.bind (nth v6 4) fun v14 =>
  (bif ((decide (0 ≤ v7)) == (decide (v14.1 = 1))) then
  (bif (!(decide (0 ≤ v7))) then
  (K true)
  else
  (Option.bind (nth v6 4) fun v15 =>
  (bif (decide (v15.2.1 = 0)) then
  (Option.bind (nth v6 5) fun v16 =>
  (K (decide (v16.2.1 = 1))))
  else
  (K false))))
  else
  (K false)))
  else
  (K false))))
  else
  (K false))))
  else
  (K false)))) (fun v17 v18 v19 v20 =>
  (K v17)) N v3 ([[110, 111, 116, 32, 40, 97, 32, 97, 110, 100, 32, 98, 41], [110, 111, 116, 32, 97, 32, 111, 114, 32, 110, 111, 116, 32, 98], [110, 111, 116, 32, 40, 97, 32, 111, 114, 32, 98, 41], [110, 111, 116, 32, 97, 32, 97, 110, 100, 32, 110, 111, 116, 32, 98], [97, 32, 97, 110, 100, 32, 110, 111, 116, 32, 97], [97, 32, 111, 114, 32, 110, 111, 116, 32, 97]] : (List (List UInt8))) [] 0 v4 v5)) N [] 0 v1 v2)

def law20_EvalTruths (N : Nat) (v1 : Int) (v2 : Int) : Option (Bool × Unit) := law20_EvalTruths_cps N _ (fun a0 => some (a0, ())) v1 v2

/-! frankpledge/frankpledgelaw20.few -/
def law20_few_l0B (N : Nat) (R : Type) (rec : Q1 → Int → Option R) (k0 : Option R) (k1 : Bool → Option R) (v3 : Q1) (v4 : Int) : Option R :=
  (bif (decide (v4 < (v3.length : Int))) then
  (bif (decide (v4 = 300)) then
  (k1 false)
  else
  (Option.bind (nth v3 v4) fun v5 =>
  (bif (decide (300 < (v5.2.2.1.length : Int))) then
  (k1 false)
  else
  (rec v3 (IntKind.wrap .i64 (v4 + 1))))))
  else
  k0)

def law20_few_l0 (N : Nat) (R : Type) (k0 : Option R) (k1 : Bool → Option R) : Nat → Q1 → Int → Option R
  | 0 => fun _ _ => none
  | n + 1 => law20_few_l0B N R (law20_few_l0 N R k0 k1 n) k0 k1

def law20_few_cps (N : Nat) (R : Type) (K : Bool → Option R) (v1 : Q1) : Option R :=
  (law20_few_l0 N _ ((K true)) (fun v2 =>
  (K v2)) N v1 0)

def law20_few (N : Nat) (v1 : Q1) : Option (Bool × Unit) := law20_few_cps N _ (fun a0 => some (a0, ())) v1

/-! The functions about law20_greatest: they call one another. -/
set_option warn.classDefReducibility false
class Z_law20_greatest where
  r_law20_greatest : Int → Int → Int → (List UInt8) → (List UInt8) → (List UInt8) → Int → (List Ex) → Int → Int → Option (Int × Unit)

section
variable [Z_law20_greatest]
/- frankpledge/frankpledgelaw20.greatest -/
def law20_greatest_o_l1B (N : Nat) (R : Type) (rec : Int → Int → Int → Int → Int → (List UInt8) → (List UInt8) → (List UInt8) → Int → (List Ex) → Int → Int → Option R) (k0 : Int → Int → Int → Int → (List UInt8) → (List UInt8) → (List UInt8) → Int → (List Ex) → Int → Int → Option R) (v55 : Int) (v56 : Int) (v57 : Int) (v58 : Int) (v59 : Int) (v60 : (List UInt8)) (v61 : (List UInt8)) (v62 : (List UInt8)) (v63 : Int) (v64 : (List Ex)) (v65 : Int) (v66 : Int) : Option R :=
  (bif (decide (v56 < (v64.length : Int))) then
  (Option.bind (nth v64 v56) fun v67 =>
  (Option.bind (Z_law20_greatest.r_law20_greatest (Ex.op v67) (Ex.vk v67) (Ex.vn v67) (Ex.vs v67) (Ex.tab v67) (Ex.name v67) (Ex.num v67) (Ex.kids v67) (Ex.kind v67) (Ex.at_ v67)) fun v68 =>
  (rec (maxI v55 v68.1) (IntKind.wrap .i64 (v56 + 1)) v57 v58 v59 v60 v61 v62 v63 v64 v65 v66)))
  else
  (k0 v55 v57 v58 v59 v60 v61 v62 v63 v64 v65 v66))

def law20_greatest_o_l1 (N : Nat) (R : Type) (k0 : Int → Int → Int → Int → (List UInt8) → (List UInt8) → (List UInt8) → Int → (List Ex) → Int → Int → Option R) : Nat → Int → Int → Int → Int → Int → (List UInt8) → (List UInt8) → (List UInt8) → Int → (List Ex) → Int → Int → Option R
  | 0 => fun _ _ _ _ _ _ _ _ _ _ _ _ => none
  | n + 1 => law20_greatest_o_l1B N R (law20_greatest_o_l1 N R k0 n) k0

def law20_greatest_o_j0 (N : Nat) (R : Type) (k0 : Int → Int → Int → Int → (List UInt8) → (List UInt8) → (List UInt8) → Int → (List Ex) → Int → Int → Option R) (v33 : Int) (v34 : Int) (v35 : Int) (v36 : Int) (v37 : (List UInt8)) (v38 : (List UInt8)) (v39 : (List UInt8)) (v40 : Int) (v41 : (List Ex)) (v42 : Int) (v43 : Int) : Option R :=
  (law20_greatest_o_l1 N _ (fun v44 v45 v46 v47 v48 v49 v50 v51 v52 v53 v54 =>
  (k0 v44 v45 v46 v47 v48 v49 v50 v51 v52 v53 v54)) N v33 0 v34 v35 v36 v37 v38 v39 v40 v41 v42 v43)

def law20_greatest_o_cps (N : Nat) (R : Type) (K : Int → Option R) (v1 : Int) (v2 : Int) (v3 : Int) (v4 : (List UInt8)) (v5 : (List UInt8)) (v6 : (List UInt8)) (v7 : Int) (v8 : (List Ex)) (v9 : Int) (v10 : Int) : Option R :=
  (bif (decide (v1 = 2)) then
  (law20_greatest_o_j0 N _ (fun v11 v12 v13 v14 v15 v16 v17 v18 v19 v20 v21 =>
  (K v11)) (maxI (-1) v7) v1 v2 v3 v4 v5 v6 v7 v8 v9 v10)
  else
  (law20_greatest_o_j0 N _ (fun v22 v23 v24 v25 v26 v27 v28 v29 v30 v31 v32 =>
  (K v22)) (-1) v1 v2 v3 v4 v5 v6 v7 v8 v9 v10))

def law20_greatest_o (N : Nat) (v1 : Int) (v2 : Int) (v3 : Int) (v4 : (List UInt8)) (v5 : (List UInt8)) (v6 : (List UInt8)) (v7 : Int) (v8 : (List Ex)) (v9 : Int) (v10 : Int) : Option (Int × Unit) := law20_greatest_o_cps N _ (fun a0 => some (a0, ())) v1 v2 v3 v4 v5 v6 v7 v8 v9 v10

end
def Z_law20_greatest_at (N : Nat) : Nat → Z_law20_greatest
  | 0 => { r_law20_greatest := fun _ _ _ _ _ _ _ _ _ _ => none }
  | n + 1 => letI : Z_law20_greatest := Z_law20_greatest_at N n; { r_law20_greatest := (fun a0 a1 a2 a3 a4 a5 a6 a7 a8 a9 => law20_greatest_o N a0 a1 a2 a3 a4 a5 a6 a7 a8 a9) }

def law20_greatest (N : Nat) (v1 : Int) (v2 : Int) (v3 : Int) (v4 : (List UInt8)) (v5 : (List UInt8)) (v6 : (List UInt8)) (v7 : Int) (v8 : (List Ex)) (v9 : Int) (v10 : Int) : Option (Int × Unit) := letI : Z_law20_greatest := Z_law20_greatest_at N N; law20_greatest_o N v1 v2 v3 v4 v5 v6 v7 v8 v9 v10

/-! frankpledge/frankpledgelaw20.EvalConst -/
def law20_EvalConst_r1 (N : Nat) (R : Type) (k0 : Err → Err → Int → Int → Int → (List UInt8) → (List UInt8) → (List UInt8) → Int → (List Ex) → Int → Int → Int → Int → (List UInt8) → Int → Int → (List UInt8) → Option R) (v61 : Q1) (v62 : Q1) (v63 : Int) (v64 : Err) (v65 : Int) (v66 : Int) (v67 : Int) (v68 : (List UInt8)) (v69 : (List UInt8)) (v70 : (List UInt8)) (v71 : Int) (v72 : (List Ex)) (v73 : Int) (v74 : Int) (v75 : Int) (v76 : Int) (v77 : (List UInt8)) : Option R :=
  (bif (decide (0 ≤ (IntKind.wrap .i64 (v63 + 1)) ∧ (IntKind.wrap .i64 (v63 + 1)) ≤ ((v61.length : Nat) : Int))) then
  (bif (room 32 (([] : Q1).length + (List.drop 0 (List.take (Int.toNat (IntKind.wrap .i64 (v63 + 1))) v61)).length)) then
  (bif (room 32 ((([] : Q1) ++ (List.drop 0 (List.take (Int.toNat (IntKind.wrap .i64 (v63 + 1))) v61))).length + v62.length)) then
  (Option.bind (eval_Eval_1 N v65 v66 v67 v68 v69 v70 v71 v72 v73 v74 ((([] : Q1) ++ (List.drop 0 (List.take (Int.toNat (IntKind.wrap .i64 (v63 + 1))) v61))) ++ v62)) fun v78 =>
  (k0 v64 v78.2.2.2.1 v65 v66 v67 v68 v69 v70 v71 v72 v73 v74 v75 v76 v77 v78.1 v78.2.1 v78.2.2.1))
  else
  none)
  else
  none)
  else
  none)

def law20_EvalConst_j0 (N : Nat) (R : Type) (k0 : Bool → Int → Int → Int → (List UInt8) → (List UInt8) → (List UInt8) → Int → (List Ex) → Int → Int → Option R) (v22 : Q1) (v23 : Q1) (v24 : Int) (v25 : Int) (v26 : Int) (v27 : (List UInt8)) (v28 : (List UInt8)) (v29 : (List UInt8)) (v30 : Int) (v31 : (List Ex)) (v32 : Int) (v33 : Int) : Option R :=
  (Option.bind (law20_numbered N v24 v25 v26 v27 v28 v29 v30 v31 v32 v33 0) fun v34 =>
  (Option.bind (law20_greatest N v34.1 v34.2.1 v34.2.2.1 v34.2.2.2.1 v34.2.2.2.2.1 v34.2.2.2.2.2.1 v34.2.2.2.2.2.2.1 v34.2.2.2.2.2.2.2.1 v34.2.2.2.2.2.2.2.2.1 v34.2.2.2.2.2.2.2.2.2.1) fun v35 =>
  (bif (decide ((v22.length : Int) ≤ v35.1)) then
  (Option.bind (law20_alive N) fun v36 =>
  (k0 v36.1 v34.1 v34.2.1 v34.2.2.1 v34.2.2.2.1 v34.2.2.2.2.1 v34.2.2.2.2.2.1 v34.2.2.2.2.2.2.1 v34.2.2.2.2.2.2.2.1 v34.2.2.2.2.2.2.2.2.1 v34.2.2.2.2.2.2.2.2.2.1))
  else
  (Option.bind (eval_Eval_1 N v34.1 v34.2.1 v34.2.2.1 v34.2.2.2.1 v34.2.2.2.2.1 v34.2.2.2.2.2.1 v34.2.2.2.2.2.2.1 v34.2.2.2.2.2.2.2.1 v34.2.2.2.2.2.2.2.2.1 v34.2.2.2.2.2.2.2.2.2.1 v22) fun v37 =>
  (law20_EvalConst_r1 N _ (fun v38 v39 v40 v41 v42 v43 v44 v45 v46 v47 v48 v49 v50 v51 v52 v53 v54 v55 =>
  (Option.bind (law20_alive N) fun v56 =>
  (bif v56.1 then
  (bif ((decide (v50 = v53)) && ((decide (v51 = v54)) && (decide (v52 = v55)))) then
  (Option.bind (fault_Code N v38) fun v57 =>
  (Option.bind (fault_Code N v39) fun v58 =>
  (bif (decide (v57.1 = v58.1)) then
  (Option.bind (fault_At N v38) fun v59 =>
  (Option.bind (fault_At N v39) fun v60 =>
  (k0 (decide (v59.1 = v60.1)) v40 v41 v42 v43 v44 v45 v46 v47 v48 v49)))
  else
  (k0 false v40 v41 v42 v43 v44 v45 v46 v47 v48 v49))))
  else
  (k0 false v40 v41 v42 v43 v44 v45 v46 v47 v48 v49))
  else
  (k0 false v40 v41 v42 v43 v44 v45 v46 v47 v48 v49)))) v22 v23 v35.1 v37.2.2.2.1 v34.1 v34.2.1 v34.2.2.1 v34.2.2.2.1 v34.2.2.2.2.1 v34.2.2.2.2.2.1 v34.2.2.2.2.2.2.1 v34.2.2.2.2.2.2.2.1 v34.2.2.2.2.2.2.2.2.1 v34.2.2.2.2.2.2.2.2.2.1 v37.1 v37.2.1 v37.2.2.1)))))

def law20_EvalConst_cps (N : Nat) (R : Type) (K : Bool → Option R) (v1 : (List UInt8)) (v2 : Q1) (v3 : Q1) : Option R :=
  (Option.bind (parse_Expression N v1) fun v4 =>
  (Option.bind (law20_few N v2) fun v5 =>
  (Option.bind (law20_few N v3) fun v6 =>
  (bif (decide (1000 < (v1.length : Int))) then
  (Option.bind (law20_alive N) fun v7 =>
  (K v7.1))
  else
  (bif (!(Err.isNil v4.2.2.2.2.2.2.2.2.2.2.1)) then
  (Option.bind (law20_alive N) fun v8 =>
  (K v8.1))
  else
  (bif (!v5.1) then
  (Option.bind (law20_alive N) fun v9 =>
  (K v9.1))
  else
  (bif (!v6.1) then
  (Option.bind (law20_alive N) fun v10 =>
  (K v10.1))
  else
  (law20_EvalConst_j0 N _ (fun v11 v12 v13 v14 v15 v16 v17 v18 v19 v20 v21 =>
  (K v11)) v2 v3 v4.1 v4.2.1 v4.2.2.1 v4.2.2.2.1 v4.2.2.2.2.1 v4.2.2.2.2.2.1 v4.2.2.2.2.2.2.1 v4.2.2.2.2.2.2.2.1 v4.2.2.2.2.2.2.2.2.1 v4.2.2.2.2.2.2.2.2.2.1))))))))

def law20_EvalConst (N : Nat) (v1 : (List UInt8)) (v2 : Q1) (v3 : Q1) : Option (Bool × Unit) := law20_EvalConst_cps N _ (fun a0 => some (a0, ())) v1 v2 v3

/-! frankpledge/eval.Fit -/
def eval_Fit_j1 (N : Nat) (R : Type) (k0 : Int → Int → (List UInt8) → Int → Int → (List UInt8) → Option R) (k1 : Err → Int → Int → (List UInt8) → Int → Int → (List UInt8) → Option R) (v65 : Bool) (v66 : Int) (v67 : Int) (v68 : (List UInt8)) (v69 : Int) (v70 : Int) (v71 : (List UInt8)) : Option R :=
  (bif v65 then
  (Option.bind (fault_New N 22 (-1)) fun v72 =>
  (k1 v72.1 v66 v67 v68 0 0 []))
  else
  (bif (decide (922337203685477 < v67)) then
  (Option.bind (fault_New N 31 (-1)) fun v73 =>
  (k1 v73.1 v66 v67 v68 0 0 []))
  else
  (bif (decide (v67 < (-922337203685477))) then
  (Option.bind (fault_New N 31 (-1)) fun v74 =>
  (k1 v74.1 v66 v67 v68 0 0 []))
  else
  (k0 v66 v67 v68 v69 v70 v71))))

def eval_Fit_j0 (N : Nat) (R : Type) (k0 : Int → Int → (List UInt8) → Int → Int → (List UInt8) → Option R) (k1 : Err → Int → Int → (List UInt8) → Int → Int → (List UInt8) → Option R) (v31 : Int) (v32 : Bool) (v33 : Int) (v34 : Int) (v35 : (List UInt8)) (v36 : Int) (v37 : Int) (v38 : (List UInt8)) : Option R :=
  (bif v32 then
  (k1 Err.nil v33 v34 v35 v33 v34 v35)
  else
  (bif (!(decide (v33 = 2))) then
  (eval_Fit_j1 N _ (fun v39 v40 v41 v42 v43 v44 =>
  (k0 v39 v40 v41 v42 v43 v44)) (fun v45 v46 v47 v48 v49 v50 v51 =>
  (k1 v45 v46 v47 v48 v49 v50 v51)) true v33 v34 v35 v36 v37 v38)
  else
  (eval_Fit_j1 N _ (fun v52 v53 v54 v55 v56 v57 =>
  (k0 v52 v53 v54 v55 v56 v57)) (fun v58 v59 v60 v61 v62 v63 v64 =>
  (k1 v58 v59 v60 v61 v62 v63 v64)) (!(decide (v31 = 3))) v33 v34 v35 v36 v37 v38)))

def eval_Fit_cps (N : Nat) (R : Type) (K : Int → Int → (List UInt8) → Err → Option R) (v1 : Int) (v2 : Int) (v3 : (List UInt8)) (v4 : Int) : Option R :=
  (bif (decide (v1 = v4)) then
  (eval_Fit_j0 N _ (fun v5 v6 v7 v8 v9 v10 =>
  (K 3 (IntKind.wrap .i64 (v6 * 10000)) [] Err.nil)) (fun v11 v12 v13 v14 v15 v16 v17 =>
  (K v15 v16 v17 v11)) v4 true v1 v2 v3 0 0 [])
  else
  (eval_Fit_j0 N _ (fun v18 v19 v20 v21 v22 v23 =>
  (K 3 (IntKind.wrap .i64 (v19 * 10000)) [] Err.nil)) (fun v24 v25 v26 v27 v28 v29 v30 =>
  (K v28 v29 v30 v24)) v4 (decide (v1 = 0)) v1 v2 v3 0 0 []))

def eval_Fit (N : Nat) (v1 : Int) (v2 : Int) (v3 : (List UInt8)) (v4 : Int) : Option (Int × Int × (List UInt8) × Err × Unit) := eval_Fit_cps N _ (fun a0 a1 a2 a3 => some (a0, (a1, (a2, (a3, ()))))) v1 v2 v3 v4

/-! frankpledge/frankpledgelaw20.EvalFits -/
def law20_EvalFits_j3 (N : Nat) (R : Type) (k0 : Bool → Err → Int → Int → (List UInt8) → Int → Int → (List UInt8) → Option R) (v119 : Err) (v120 : Bool) (v121 : Int) (v122 : Int) (v123 : (List UInt8)) (v124 : Int) (v125 : Int) (v126 : (List UInt8)) : Option R :=
  (Option.bind (law20_alive N) fun v127 =>
  (bif v127.1 then
  (bif (!v120) then
  (bif (Err.isNil v119) then
  (k0 true v119 v121 v122 v123 v124 v125 v126)
  else
  (Option.bind (fault_Code N v119) fun v128 =>
  (k0 (decide (v128.1 = 31)) v119 v121 v122 v123 v124 v125 v126)))
  else
  (bif (Err.isNil v119) then
  (bif (decide (v125 = (IntKind.wrap .i64 (v122 * 10000)))) then
  (bif (decide (v124 = 3)) then
  (bif (Err.isNil v119) then
  (k0 true v119 v121 v122 v123 v124 v125 v126)
  else
  (Option.bind (fault_Code N v119) fun v129 =>
  (k0 (decide (v129.1 = 31)) v119 v121 v122 v123 v124 v125 v126)))
  else
  (k0 false v119 v121 v122 v123 v124 v125 v126))
  else
  (k0 false v119 v121 v122 v123 v124 v125 v126))
  else
  (k0 false v119 v121 v122 v123 v124 v125 v126)))
  else
  (k0 false v119 v121 v122 v123 v124 v125 v126)))

def law20_EvalFits_j2 (N : Nat) (R : Type) (k0 : Err → Int → Int → (List UInt8) → Int → Int → (List UInt8) → Option R) (k1 : Bool → Err → Int → Int → (List UInt8) → Int → Int → (List UInt8) → Option R) (v95 : Err) (v96 : Bool) (v97 : Int) (v98 : Int) (v99 : (List UInt8)) (v100 : Int) (v101 : Int) (v102 : (List UInt8)) : Option R :=
  (bif v96 then
  (bif (decide ((-562949953421312) < v98)) then
  (law20_EvalFits_j3 N _ (fun v103 v104 v105 v106 v107 v108 v109 v110 =>
  (k1 v103 v104 v105 v106 v107 v108 v109 v110)) v95 (decide (v98 < 562949953421312)) v97 v98 v99 v100 v101 v102)
  else
  (law20_EvalFits_j3 N _ (fun v111 v112 v113 v114 v115 v116 v117 v118 =>
  (k1 v111 v112 v113 v114 v115 v116 v117 v118)) v95 false v97 v98 v99 v100 v101 v102))
  else
  (k0 v95 v97 v98 v99 v100 v101 v102))

def law20_EvalFits_j1 (N : Nat) (R : Type) (k0 : Err → Int → Int → (List UInt8) → Int → Int → (List UInt8) → Option R) (k1 : Bool → Err → Int → Int → (List UInt8) → Int → Int → (List UInt8) → Option R) (v55 : Int) (v56 : Err) (v57 : Bool) (v58 : Int) (v59 : Int) (v60 : (List UInt8)) (v61 : Int) (v62 : Int) (v63 : (List UInt8)) : Option R :=
  (bif v57 then
  (Option.bind (law20_alive N) fun v64 =>
  (bif v64.1 then
  (bif (Err.isNil v56) then
  (k1 ((decide (v61 = v58)) && ((decide (v62 = v59)) && (decide (v63 = v60)))) v56 v58 v59 v60 v61 v62 v63)
  else
  (k1 false v56 v58 v59 v60 v61 v62 v63))
  else
  (k1 false v56 v58 v59 v60 v61 v62 v63)))
  else
  (bif (decide (v58 = 2)) then
  (law20_EvalFits_j2 N _ (fun v65 v66 v67 v68 v69 v70 v71 =>
  (k0 v65 v66 v67 v68 v69 v70 v71)) (fun v72 v73 v74 v75 v76 v77 v78 v79 =>
  (k1 v72 v73 v74 v75 v76 v77 v78 v79)) v56 (decide (v55 = 3)) v58 v59 v60 v61 v62 v63)
  else
  (law20_EvalFits_j2 N _ (fun v80 v81 v82 v83 v84 v85 v86 =>
  (k0 v80 v81 v82 v83 v84 v85 v86)) (fun v87 v88 v89 v90 v91 v92 v93 v94 =>
  (k1 v87 v88 v89 v90 v91 v92 v93 v94)) v56 false v58 v59 v60 v61 v62 v63)))

def law20_EvalFits_j0 (N : Nat) (R : Type) (k0 : Bool → Err → Int → Int → (List UInt8) → Int → Int → (List UInt8) → Option R) (v16 : Int) (v17 : Int) (v18 : Int) (v19 : (List UInt8)) : Option R :=
  (Option.bind (eval_Fit N v17 v18 v19 v16) fun v20 =>
  (bif (decide (v17 = 0)) then
  (law20_EvalFits_j1 N _ (fun v21 v22 v23 v24 v25 v26 v27 =>
  (Option.bind (law20_alive N) fun v28 =>
  (bif v28.1 then
  (Option.bind (fault_Code N v21) fun v29 =>
  (bif (decide (v29.1 = 22)) then
  (k0 (decide (v25 = 0)) v21 v22 v23 v24 v25 v26 v27)
  else
  (k0 false v21 v22 v23 v24 v25 v26 v27)))
  else
  (k0 false v21 v22 v23 v24 v25 v26 v27)))) (fun v30 v31 v32 v33 v34 v35 v36 v37 =>
  (k0 v30 v31 v32 v33 v34 v35 v36 v37)) v16 v20.2.2.2.1 true v17 v18 v19 v20.1 v20.2.1 v20.2.2.1)
  else
  (law20_EvalFits_j1 N _ (fun v38 v39 v40 v41 v42 v43 v44 =>
  (Option.bind (law20_alive N) fun v45 =>
  (bif v45.1 then
  (Option.bind (fault_Code N v38) fun v46 =>
  (bif (decide (v46.1 = 22)) then
  (k0 (decide (v42 = 0)) v38 v39 v40 v41 v42 v43 v44)
  else
  (k0 false v38 v39 v40 v41 v42 v43 v44)))
  else
  (k0 false v38 v39 v40 v41 v42 v43 v44)))) (fun v47 v48 v49 v50 v51 v52 v53 v54 =>
  (k0 v47 v48 v49 v50 v51 v52 v53 v54)) v16 v20.2.2.2.1 (decide (v17 = v16)) v17 v18 v19 v20.1 v20.2.1 v20.2.2.1)))

def law20_EvalFits_cps (N : Nat) (R : Type) (K : Bool → Option R) (v1 : Int) (v2 : Int) (v3 : (List UInt8)) (v4 : Int) : Option R :=
  (bif (decide (300 < (v3.length : Int))) then
  (Option.bind (law20_alive N) fun v5 =>
  (K v5.1))
  else
  (Option.bind (value_Right N v1 v2 v3) fun v6 =>
  (bif (!v6.1) then
  (Option.bind (law20_alive N) fun v7 =>
  (K v7.1))
  else
  (law20_EvalFits_j0 N _ (fun v8 v9 v10 v11 v12 v13 v14 v15 =>
  (K v8)) v4 v1 v2 v3))))

def law20_EvalFits (N : Nat) (v1 : Int) (v2 : Int) (v3 : (List UInt8)) (v4 : Int) : Option (Bool × Unit) := law20_EvalFits_cps N _ (fun a0 => some (a0, ())) v1 v2 v3 v4

/-- What is to be shown of the law EvalOrder. -/
def EvalOrder_Pure : Prop := ∀ x : denA [(.slice (.int .i64)), .bool, (.int .i64)], WfA [(.slice (.int .i64)), .bool, (.int .i64)] x → law20_EvalOrder big x.1 x.2.1 x.2.2.1 = some (true, ())

/-- What is to be shown of the law EvalTruths. -/
def EvalTruths_Pure : Prop := ∀ x : denA [(.pair (.int .i64) (.pair (.int .i64) .unit))], WfA [(.pair (.int .i64) (.pair (.int .i64) .unit))] x → law20_EvalTruths big x.1.1 x.1.2.1 = some (true, ())

/-- What is to be shown of the law EvalConst. -/
def EvalConst_Pure : Prop := ∀ x : denA [.str, (.slice Q3), (.slice Q3)], WfA [.str, (.slice Q3), (.slice Q3)] x → law20_EvalConst big x.1 x.2.1 x.2.2.1 = some (true, ())

/-- What is to be shown of the law EvalFits. -/
def EvalFits_Pure : Prop := ∀ x : denA [Q3, (.int .i64)], WfA [Q3, (.int .i64)] x → law20_EvalFits big x.1.1 x.1.2.1 x.1.2.2.1 x.2.1 = some (true, ())


end
end Go.Proofs.YtiloinbeojampaaGreatDoor.E
