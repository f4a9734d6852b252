/-
  Pure functions, printed by a program out of the translation.
  Conditions: those that each statement prints, and no other.
-/
import Derived.Test.YtbikfekdakigiaaGreatDoorGPSFa
import Derived.Test.YtbikfekdakigiaaGreatDoorEvA
import Derived.Lib.Bytealg
import Derived.Test.YtbikfekdakigiaaGreatDoorEvL
set_option linter.unusedVariables false
set_option linter.unusedSimpArgs false
namespace Go.Proofs.YtbikfekdakigiaaGreatDoor.E
open Go.Ev
noncomputable section
def pq_selects_j5 (N : Nat) (R : Type) (k0 : Q0 → Int → Err → Int → (List UInt8) → (List UInt8) → Int → Int → Int → (List UInt8) → (List UInt8) → (List UInt8) → Int → (List Ex) → Int → Int → Int → Int → Int → (List UInt8) → (List UInt8) → (List UInt8) → Int → (List Ex) → Int → Int → (List Ex) → (List Ex) → (List (Ex × (Bool × Unit))) → Int → Int → Option R) (k1 : Q0 → Int → Err → Int → (List UInt8) → (List UInt8) → Int → Int → Int → (List UInt8) → (List UInt8) → (List UInt8) → Int → (List Ex) → Int → Int → Int → Int → Int → (List UInt8) → (List UInt8) → (List UInt8) → Int → (List Ex) → Int → Int → (List Ex) → (List Ex) → (List (Ex × (Bool × Unit))) → Int → Int → Option R) (v816 : Q0) (v817 : Int) (v818 : Err) (v819 : Int) (v820 : (List UInt8)) (v821 : (List UInt8)) (v822 : Int) (v823 : Int) (v824 : Int) (v825 : (List UInt8)) (v826 : (List UInt8)) (v827 : (List UInt8)) (v828 : Int) (v829 : (List Ex)) (v830 : Int) (v831 : Int) (v832 : Int) (v833 : Int) (v834 : Int) (v835 : (List UInt8)) (v836 : (List UInt8)) (v837 : (List UInt8)) (v838 : Int) (v839 : (List Ex)) (v840 : Int) (v841 : Int) (v842 : (List Ex)) (v843 : (List Ex)) (v844 : (List (Ex × (Bool × Unit)))) (v845 : Int) (v846 : Int) : Option R :=
 (Option.bind (pq_take N [108, 105, 109, 105, 116] v816 v817 v818) fun v847 =>
 (bif v847.1 then
 (Option.bind (nth v847.2.1 0) fun v848 =>
 (bif (Err.isNil v847.2.2.2.1) then
 (bif (decide (v848.1 = 2)) then
 (bif (decide (v848.2.2.1.1 = 2)) then
 (Option.bind (pq_next N v847.2.1 v847.2.2.1 v847.2.2.2.1) fun v849 =>
 (k1 v849.2.2.2.2.2.2.1 v849.2.2.2.2.2.2.2.1 v849.2.2.2.2.2.2.2.2.1 v819 v820 v821 v822 v823 v824 v825 v826 v827 v828 v829 v830 v831 v832 v833 v834 v835 v836 v837 v838 v839 v840 v841 v842 v843 v844 v849.2.2.2.1 v846))
 else
 (Option.bind (pq_fail N 171 v847.2.1 v847.2.2.1 v847.2.2.2.1) fun v850 =>
 (k0 v850.1 v850.2.1 v850.2.2.1 v819 v820 v821 v822 v823 v824 v825 v826 v827 v828 v829 v830 v831 v832 v833 v834 v835 v836 v837 v838 v839 v840 v841 v842 v843 v844 v845 v846)))
 else
 (Option.bind (pq_fail N 171 v847.2.1 v847.2.2.1 v847.2.2.2.1) fun v851 =>
 (k0 v851.1 v851.2.1 v851.2.2.1 v819 v820 v821 v822 v823 v824 v825 v826 v827 v828 v829 v830 v831 v832 v833 v834 v835 v836 v837 v838 v839 v840 v841 v842 v843 v844 v845 v846)))
 else
 (Option.bind (pq_fail N 171 v847.2.1 v847.2.2.1 v847.2.2.2.1) fun v852 =>
 (k0 v852.1 v852.2.1 v852.2.2.1 v819 v820 v821 v822 v823 v824 v825 v826 v827 v828 v829 v830 v831 v832 v833 v834 v835 v836 v837 v838 v839 v840 v841 v842 v843 v844 v845 v846))))
 else
 (k0 v847.2.1 v847.2.2.1 v847.2.2.2.1 v819 v820 v821 v822 v823 v824 v825 v826 v827 v828 v829 v830 v831 v832 v833 v834 v835 v836 v837 v838 v839 v840 v841 v842 v843 v844 v845 v846)))
def pq_selects_r4 (N : Nat) (R : Type) (k0 : Q0 → Int → Err → Int → (List UInt8) → (List UInt8) → Int → Int → Int → (List UInt8) → (List UInt8) → (List UInt8) → Int → (List Ex) → Int → Int → Int → Int → Int → (List UInt8) → (List UInt8) → (List UInt8) → Int → (List Ex) → Int → Int → (List Ex) → (List Ex) → (List (Ex × (Bool × Unit))) → Int → Int → Int → Int → Int → (List UInt8) → (List UInt8) → (List UInt8) → Int → (List Ex) → Int → Int → Bool → Option R) (v774 : Q0) (v775 : Int) (v776 : Err) (v777 : Int) (v778 : (List UInt8)) (v779 : (List UInt8)) (v780 : Int) (v781 : Int) (v782 : Int) (v783 : (List UInt8)) (v784 : (List UInt8)) (v785 : (List UInt8)) (v786 : Int) (v787 : (List Ex)) (v788 : Int) (v789 : Int) (v790 : Int) (v791 : Int) (v792 : Int) (v793 : (List UInt8)) (v794 : (List UInt8)) (v795 : (List UInt8)) (v796 : Int) (v797 : (List Ex)) (v798 : Int) (v799 : Int) (v800 : (List Ex)) (v801 : (List Ex)) (v802 : (List (Ex × (Bool × Unit)))) (v803 : Int) (v804 : Int) (v805 : Int) (v806 : Int) (v807 : Int) (v808 : (List UInt8)) (v809 : (List UInt8)) (v810 : (List UInt8)) (v811 : Int) (v812 : (List Ex)) (v813 : Int) (v814 : Int) (v815 : Bool) : Option R :=
 (bif (room 128 (v802.length + ([((Ex.mk v805 v806 v807 v808 v809 v810 v811 v812 v813 v814), (v815, ()))] : (List (Ex × (Bool × Unit)))).length)) then
 (k0 v774 v775 v776 v777 v778 v779 v780 v781 v782 v783 v784 v785 v786 v787 v788 v789 v790 v791 v792 v793 v794 v795 v796 v797 v798 v799 v800 v801 (v802 ++ ([((Ex.mk v805 v806 v807 v808 v809 v810 v811 v812 v813 v814), (v815, ()))] : (List (Ex × (Bool × Unit))))) v803 v804 v805 v806 v807 v808 v809 v810 v811 v812 v813 v814 v815)
 else
 none)
def pq_selects_l3B (N : Nat) (R : Type) (rec : Bool → Q0 → Int → Err → Int → (List UInt8) → (List UInt8) → Int → Int → Int → (List UInt8) → (List UInt8) → (List UInt8) → Int → (List Ex) → Int → Int → Int → Int → Int → (List UInt8) → (List UInt8) → (List UInt8) → Int → (List Ex) → Int → Int → (List Ex) → (List Ex) → (List (Ex × (Bool × Unit))) → Int → Int → Option R) (k0 : Q0 → Int → Err → Int → (List UInt8) → (List UInt8) → Int → Int → Int → (List UInt8) → (List UInt8) → (List UInt8) → Int → (List Ex) → Int → Int → Int → Int → Int → (List UInt8) → (List UInt8) → (List UInt8) → Int → (List Ex) → Int → Int → (List Ex) → (List Ex) → (List (Ex × (Bool × Unit))) → Int → Int → Option R) (v653 : Bool) (v654 : Q0) (v655 : Int) (v656 : Err) (v657 : Int) (v658 : (List UInt8)) (v659 : (List UInt8)) (v660 : Int) (v661 : Int) (v662 : Int) (v663 : (List UInt8)) (v664 : (List UInt8)) (v665 : (List UInt8)) (v666 : Int) (v667 : (List Ex)) (v668 : Int) (v669 : Int) (v670 : Int) (v671 : Int) (v672 : Int) (v673 : (List UInt8)) (v674 : (List UInt8)) (v675 : (List UInt8)) (v676 : Int) (v677 : (List Ex)) (v678 : Int) (v679 : Int) (v680 : (List Ex)) (v681 : (List Ex)) (v682 : (List (Ex × (Bool × Unit)))) (v683 : Int) (v684 : Int) : Option R :=
 (bif v653 then
 (Option.bind (pq_whole N v654 v655 v656) fun v685 =>
 (Option.bind (pq_take N [97, 115, 99] v685.2.2.2.2.2.2.2.2.2.2.1 v685.2.2.2.2.2.2.2.2.2.2.2.1 v685.2.2.2.2.2.2.2.2.2.2.2.2.1) fun v686 =>
 (bif (!v686.1) then
 (Option.bind (pq_take N [100, 101, 115, 99] v686.2.1 v686.2.2.1 v686.2.2.2.1) fun v687 =>
 (pq_selects_r4 N _ (fun v688 v689 v690 v691 v692 v693 v694 v695 v696 v697 v698 v699 v700 v701 v702 v703 v704 v705 v706 v707 v708 v709 v710 v711 v712 v713 v714 v715 v716 v717 v718 v719 v720 v721 v722 v723 v724 v725 v726 v727 v728 v729 =>
 (Option.bind (pq_take N [44] v688 v689 v690) fun v730 =>
 (rec v730.1 v730.2.1 v730.2.2.1 v730.2.2.2.1 v691 v692 v693 v694 v695 v696 v697 v698 v699 v700 v701 v702 v703 v704 v705 v706 v707 v708 v709 v710 v711 v712 v713 v714 v715 v716 v717 v718))) v687.2.1 v687.2.2.1 v687.2.2.2.1 v657 v658 v659 v660 v661 v662 v663 v664 v665 v666 v667 v668 v669 v670 v671 v672 v673 v674 v675 v676 v677 v678 v679 v680 v681 v682 v683 v684 v685.1 v685.2.1 v685.2.2.1 v685.2.2.2.1 v685.2.2.2.2.1 v685.2.2.2.2.2.1 v685.2.2.2.2.2.2.1 v685.2.2.2.2.2.2.2.1 v685.2.2.2.2.2.2.2.2.1 v685.2.2.2.2.2.2.2.2.2.1 v687.1))
 else
 (pq_selects_r4 N _ (fun v731 v732 v733 v734 v735 v736 v737 v738 v739 v740 v741 v742 v743 v744 v745 v746 v747 v748 v749 v750 v751 v752 v753 v754 v755 v756 v757 v758 v759 v760 v761 v762 v763 v764 v765 v766 v767 v768 v769 v770 v771 v772 =>
 (Option.bind (pq_take N [44] v731 v732 v733) fun v773 =>
 (rec v773.1 v773.2.1 v773.2.2.1 v773.2.2.2.1 v734 v735 v736 v737 v738 v739 v740 v741 v742 v743 v744 v745 v746 v747 v748 v749 v750 v751 v752 v753 v754 v755 v756 v757 v758 v759 v760 v761))) v686.2.1 v686.2.2.1 v686.2.2.2.1 v657 v658 v659 v660 v661 v662 v663 v664 v665 v666 v667 v668 v669 v670 v671 v672 v673 v674 v675 v676 v677 v678 v679 v680 v681 v682 v683 v684 v685.1 v685.2.1 v685.2.2.1 v685.2.2.2.1 v685.2.2.2.2.1 v685.2.2.2.2.2.1 v685.2.2.2.2.2.2.1 v685.2.2.2.2.2.2.2.1 v685.2.2.2.2.2.2.2.2.1 v685.2.2.2.2.2.2.2.2.2.1 false))))
 else
 (k0 v654 v655 v656 v657 v658 v659 v660 v661 v662 v663 v664 v665 v666 v667 v668 v669 v670 v671 v672 v673 v674 v675 v676 v677 v678 v679 v680 v681 v682 v683 v684))
def pq_selects_l3 (N : Nat) (R : Type) (k0 : Q0 → Int → Err → Int → (List UInt8) → (List UInt8) → Int → Int → Int → (List UInt8) → (List UInt8) → (List UInt8) → Int → (List Ex) → Int → Int → Int → Int → Int → (List UInt8) → (List UInt8) → (List UInt8) → Int → (List Ex) → Int → Int → (List Ex) → (List Ex) → (List (Ex × (Bool × Unit))) → Int → Int → Option R) : Nat → Bool → Q0 → Int → Err → Int → (List UInt8) → (List UInt8) → Int → Int → Int → (List UInt8) → (List UInt8) → (List UInt8) → Int → (List Ex) → Int → Int → Int → Int → Int → (List UInt8) → (List UInt8) → (List UInt8) → Int → (List Ex) → Int → Int → (List Ex) → (List Ex) → (List (Ex × (Bool × Unit))) → Int → Int → Option R
 | 0 => fun _ _ _ _ _ _ _ _ _ _ _ _ _ _ _ _ _ _ _ _ _ _ _ _ _ _ _ _ _ _ _ _ => none
 | n + 1 => pq_selects_l3B N R (pq_selects_l3 N R k0 n) k0
def pq_selects_j2 (N : Nat) (R : Type) (k0 : Q0 → Int → Err → Int → (List UInt8) → (List UInt8) → Int → Int → Int → (List UInt8) → (List UInt8) → (List UInt8) → Int → (List Ex) → Int → Int → Int → Int → Int → (List UInt8) → (List UInt8) → (List UInt8) → Int → (List Ex) → Int → Int → (List Ex) → (List Ex) → (List (Ex × (Bool × Unit))) → Int → Int → Option R) (k1 : Q0 → Int → Err → Int → (List UInt8) → (List UInt8) → Int → Int → Int → (List UInt8) → (List UInt8) → (List UInt8) → Int → (List Ex) → Int → Int → Int → Int → Int → (List UInt8) → (List UInt8) → (List UInt8) → Int → (List Ex) → Int → Int → (List Ex) → (List Ex) → (List (Ex × (Bool × Unit))) → Int → Int → Option R) (v466 : Q0) (v467 : Int) (v468 : Err) (v469 : Int) (v470 : (List UInt8)) (v471 : (List UInt8)) (v472 : Int) (v473 : Int) (v474 : Int) (v475 : (List UInt8)) (v476 : (List UInt8)) (v477 : (List UInt8)) (v478 : Int) (v479 : (List Ex)) (v480 : Int) (v481 : Int) (v482 : Int) (v483 : Int) (v484 : Int) (v485 : (List UInt8)) (v486 : (List UInt8)) (v487 : (List UInt8)) (v488 : Int) (v489 : (List Ex)) (v490 : Int) (v491 : Int) (v492 : (List Ex)) (v493 : (List Ex)) (v494 : Int) (v495 : Int) : Option R :=
 (Option.bind (pq_take N [111, 114, 100, 101, 114] v466 v467 v468) fun v496 =>
 (bif v496.1 then
 (Option.bind (pq_want N ([[98, 121]] : (List (List UInt8))) v496.2.1 v496.2.2.1 v496.2.2.2.1) fun v497 =>
 (pq_selects_l3 N _ (fun v498 v499 v500 v501 v502 v503 v504 v505 v506 v507 v508 v509 v510 v511 v512 v513 v514 v515 v516 v517 v518 v519 v520 v521 v522 v523 v524 v525 v526 v527 v528 =>
 (pq_selects_j5 N _ k0 k1 v498 v499 v500 v501 v502 v503 v504 v505 v506 v507 v508 v509 v510 v511 v512 v513 v514 v515 v516 v517 v518 v519 v520 v521 v522 v523 v524 v525 v526 v527 v528)) N true v497.1 v497.2.1 v497.2.2.1 v469 v470 v471 v472 v473 v474 v475 v476 v477 v478 v479 v480 v481 v482 v483 v484 v485 v486 v487 v488 v489 v490 v491 v492 v493 [] v494 v495))
 else
 (pq_selects_j5 N _ k0 k1 v496.2.1 v496.2.2.1 v496.2.2.2.1 v469 v470 v471 v472 v473 v474 v475 v476 v477 v478 v479 v480 v481 v482 v483 v484 v485 v486 v487 v488 v489 v490 v491 v492 v493 [] v494 v495)))
def pq_selects_j1 (N : Nat) (R : Type) (k0 : Q0 → Int → Err → Int → (List UInt8) → (List UInt8) → Int → Int → Int → (List UInt8) → (List UInt8) → (List UInt8) → Int → (List Ex) → Int → Int → Int → Int → Int → (List UInt8) → (List UInt8) → (List UInt8) → Int → (List Ex) → Int → Int → (List Ex) → (List Ex) → (List (Ex × (Bool × Unit))) → Int → Int → Option R) (k1 : Q0 → Int → Err → Int → (List UInt8) → (List UInt8) → Int → Int → Int → (List UInt8) → (List UInt8) → (List UInt8) → Int → (List Ex) → Int → Int → Int → Int → Int → (List UInt8) → (List UInt8) → (List UInt8) → Int → (List Ex) → Int → Int → (List Ex) → (List Ex) → (List (Ex × (Bool × Unit))) → Int → Int → Option R) (v310 : Q0) (v311 : Int) (v312 : Err) (v313 : Int) (v314 : (List UInt8)) (v315 : (List UInt8)) (v316 : Int) (v317 : Int) (v318 : Int) (v319 : (List UInt8)) (v320 : (List UInt8)) (v321 : (List UInt8)) (v322 : Int) (v323 : (List Ex)) (v324 : Int) (v325 : Int) (v326 : Int) (v327 : Int) (v328 : Int) (v329 : (List UInt8)) (v330 : (List UInt8)) (v331 : (List UInt8)) (v332 : Int) (v333 : Int) (v334 : Int) (v335 : (List Ex)) (v336 : Int) (v337 : Int) : Option R :=
 (Option.bind (pq_where N [119, 104, 101, 114, 101] v310 v311 v312) fun v338 =>
 (Option.bind (pq_take N [103, 114, 111, 117, 112] v338.2.2.2.2.2.2.2.2.2.2.1 v338.2.2.2.2.2.2.2.2.2.2.2.1 v338.2.2.2.2.2.2.2.2.2.2.2.2.1) fun v339 =>
 (bif v339.1 then
 (Option.bind (pq_want N ([[98, 121]] : (List (List UInt8))) v339.2.1 v339.2.2.1 v339.2.2.2.1) fun v340 =>
 (Option.bind (pq_list N v340.1 v340.2.1 v340.2.2.1) fun v341 =>
 (pq_selects_j2 N _ k0 k1 v341.2.1 v341.2.2.1 v341.2.2.2.1 v313 v314 v315 v316 v317 v318 v319 v320 v321 v322 v323 v324 v325 v338.1 v338.2.1 v338.2.2.1 v338.2.2.2.1 v338.2.2.2.2.1 v338.2.2.2.2.2.1 v338.2.2.2.2.2.2.1 v338.2.2.2.2.2.2.2.1 v338.2.2.2.2.2.2.2.2.1 v338.2.2.2.2.2.2.2.2.2.1 v335 v341.1 v336 v337)))
 else
 (pq_selects_j2 N _ k0 k1 v339.2.1 v339.2.2.1 v339.2.2.2.1 v313 v314 v315 v316 v317 v318 v319 v320 v321 v322 v323 v324 v325 v338.1 v338.2.1 v338.2.2.1 v338.2.2.2.1 v338.2.2.2.2.1 v338.2.2.2.2.2.1 v338.2.2.2.2.2.2.1 v338.2.2.2.2.2.2.2.1 v338.2.2.2.2.2.2.2.2.1 v338.2.2.2.2.2.2.2.2.2.1 v335 [] v336 v337))))
def pq_selects_j0 (N : Nat) (R : Type) (k0 : Q0 → Int → Err → Int → (List UInt8) → (List UInt8) → Int → Int → Int → (List UInt8) → (List UInt8) → (List UInt8) → Int → (List Ex) → Int → Int → Int → Int → Int → (List UInt8) → (List UInt8) → (List UInt8) → Int → (List Ex) → Int → Int → (List Ex) → (List Ex) → (List (Ex × (Bool × Unit))) → Int → Int → Option R) (k1 : Q0 → Int → Err → Int → (List UInt8) → (List UInt8) → Int → Int → Int → (List UInt8) → (List UInt8) → (List UInt8) → Int → (List Ex) → Int → Int → Int → Int → Int → (List UInt8) → (List UInt8) → (List UInt8) → Int → (List Ex) → Int → Int → (List Ex) → (List Ex) → (List (Ex × (Bool × Unit))) → Int → Int → Option R) (v153 : Q0) (v154 : Int) (v155 : Err) (v156 : Int) (v157 : (List UInt8)) (v158 : (List UInt8)) (v159 : Int) (v160 : Int) (v161 : Int) (v162 : (List UInt8)) (v163 : (List UInt8)) (v164 : (List UInt8)) (v165 : Int) (v166 : Int) (v167 : Int) (v168 : Int) (v169 : Int) (v170 : Int) (v171 : (List UInt8)) (v172 : (List UInt8)) (v173 : (List UInt8)) (v174 : Int) (v175 : Int) (v176 : Int) (v177 : (List Ex)) (v178 : Int) (v179 : Int) : Option R :=
 (Option.bind (pq_want N ([[102, 114, 111, 109]] : (List (List UInt8))) v153 v154 v155) fun v180 =>
 (Option.bind (pq_table N v180.1 v180.2.1 v180.2.2.1 v156 v157 v158 v159 v160 v161 v162 v163 v164 v165 v166 v167 v168 v169 v170 v171 v172 v173 v174 v175 v176 v177 v178 v179) fun v181 =>
 (Option.bind (pq_take N [106, 111, 105, 110] v181.1 v181.2.1 v181.2.2.1) fun v182 =>
 (bif v182.1 then
 (Option.bind (pq_name N v182.2.1 v182.2.2.1 v182.2.2.2.1) fun v183 =>
 (Option.bind (pq_want N ([[111, 110]] : (List (List UInt8))) v183.2.1 v183.2.2.1 v183.2.2.2.1) fun v184 =>
 (Option.bind (pq_whole N v184.1 v184.2.1 v184.2.2.1) fun v185 =>
 (pq_selects_j1 N _ k0 k1 v185.2.2.2.2.2.2.2.2.2.2.1 v185.2.2.2.2.2.2.2.2.2.2.2.1 v185.2.2.2.2.2.2.2.2.2.2.2.2.1 v181.2.2.2.1 v181.2.2.2.2.1 v183.1 v185.1 v185.2.1 v185.2.2.1 v185.2.2.2.1 v185.2.2.2.2.1 v185.2.2.2.2.2.1 v185.2.2.2.2.2.2.1 v185.2.2.2.2.2.2.2.1 v185.2.2.2.2.2.2.2.2.1 v185.2.2.2.2.2.2.2.2.2.1 v181.2.2.2.2.2.2.2.2.2.2.2.2.2.2.2.1 v181.2.2.2.2.2.2.2.2.2.2.2.2.2.2.2.2.1 v181.2.2.2.2.2.2.2.2.2.2.2.2.2.2.2.2.2.1 v181.2.2.2.2.2.2.2.2.2.2.2.2.2.2.2.2.2.2.1 v181.2.2.2.2.2.2.2.2.2.2.2.2.2.2.2.2.2.2.2.1 v181.2.2.2.2.2.2.2.2.2.2.2.2.2.2.2.2.2.2.2.2.1 v181.2.2.2.2.2.2.2.2.2.2.2.2.2.2.2.2.2.2.2.2.2.1 v181.2.2.2.2.2.2.2.2.2.2.2.2.2.2.2.2.2.2.2.2.2.2.1 v181.2.2.2.2.2.2.2.2.2.2.2.2.2.2.2.2.2.2.2.2.2.2.2.1 v181.2.2.2.2.2.2.2.2.2.2.2.2.2.2.2.2.2.2.2.2.2.2.2.2.1 v181.2.2.2.2.2.2.2.2.2.2.2.2.2.2.2.2.2.2.2.2.2.2.2.2.2.1 v181.2.2.2.2.2.2.2.2.2.2.2.2.2.2.2.2.2.2.2.2.2.2.2.2.2.2.1))))
 else
 (pq_selects_j1 N _ k0 k1 v182.2.1 v182.2.2.1 v182.2.2.2.1 v181.2.2.2.1 v181.2.2.2.2.1 v181.2.2.2.2.2.1 v181.2.2.2.2.2.2.1 v181.2.2.2.2.2.2.2.1 v181.2.2.2.2.2.2.2.2.1 v181.2.2.2.2.2.2.2.2.2.1 v181.2.2.2.2.2.2.2.2.2.2.1 v181.2.2.2.2.2.2.2.2.2.2.2.1 v181.2.2.2.2.2.2.2.2.2.2.2.2.1 [] v181.2.2.2.2.2.2.2.2.2.2.2.2.2.1 v181.2.2.2.2.2.2.2.2.2.2.2.2.2.2.1 v181.2.2.2.2.2.2.2.2.2.2.2.2.2.2.2.1 v181.2.2.2.2.2.2.2.2.2.2.2.2.2.2.2.2.1 v181.2.2.2.2.2.2.2.2.2.2.2.2.2.2.2.2.2.1 v181.2.2.2.2.2.2.2.2.2.2.2.2.2.2.2.2.2.2.1 v181.2.2.2.2.2.2.2.2.2.2.2.2.2.2.2.2.2.2.2.1 v181.2.2.2.2.2.2.2.2.2.2.2.2.2.2.2.2.2.2.2.2.1 v181.2.2.2.2.2.2.2.2.2.2.2.2.2.2.2.2.2.2.2.2.2.1 v181.2.2.2.2.2.2.2.2.2.2.2.2.2.2.2.2.2.2.2.2.2.2.1 v181.2.2.2.2.2.2.2.2.2.2.2.2.2.2.2.2.2.2.2.2.2.2.2.1 v181.2.2.2.2.2.2.2.2.2.2.2.2.2.2.2.2.2.2.2.2.2.2.2.2.1 v181.2.2.2.2.2.2.2.2.2.2.2.2.2.2.2.2.2.2.2.2.2.2.2.2.2.1 v181.2.2.2.2.2.2.2.2.2.2.2.2.2.2.2.2.2.2.2.2.2.2.2.2.2.2.1)))))
def pq_selects_cps (N : Nat) (R : Type) (K : Q0 → Int → Err → Int → (List UInt8) → (List UInt8) → Int → Int → Int → (List UInt8) → (List UInt8) → (List UInt8) → Int → (List Ex) → Int → Int → Int → Int → Int → (List UInt8) → (List UInt8) → (List UInt8) → Int → (List Ex) → Int → Int → (List Ex) → (List Ex) → (List (Ex × (Bool × Unit))) → Int → Int → Option R) (v1 : Q0) (v2 : Int) (v3 : Err) (v4 : Int) (v5 : (List UInt8)) (v6 : (List UInt8)) (v7 : Int) (v8 : Int) (v9 : Int) (v10 : (List UInt8)) (v11 : (List UInt8)) (v12 : (List UInt8)) (v13 : Int) (v14 : Int) (v15 : Int) (v16 : Int) (v17 : Int) (v18 : Int) (v19 : (List UInt8)) (v20 : (List UInt8)) (v21 : (List UInt8)) (v22 : Int) (v23 : Int) (v24 : Int) (v25 : Int) (v26 : Int) : Option R :=
 (Option.bind (pq_take N [42] v1 v2 v3) fun v27 =>
 (bif (!v27.1) then
 (Option.bind (pq_list N v27.2.1 v27.2.2.1 v27.2.2.2.1) fun v28 =>
 (pq_selects_j0 N _ K K v28.2.1 v28.2.2.1 v28.2.2.2.1 v4 v5 v6 v7 v8 v9 v10 v11 v12 v13 v14 v15 v16 v17 v18 v19 v20 v21 v22 v23 v24 v28.1 v25 v26))
 else
 (pq_selects_j0 N _ K K v27.2.1 v27.2.2.1 v27.2.2.2.1 v4 v5 v6 v7 v8 v9 v10 v11 v12 v13 v14 v15 v16 v17 v18 v19 v20 v21 v22 v23 v24 [] v25 v26)))
def pq_selects (N : Nat) (v1 : Q0) (v2 : Int) (v3 : Err) (v4 : Int) (v5 : (List UInt8)) (v6 : (List UInt8)) (v7 : Int) (v8 : Int) (v9 : Int) (v10 : (List UInt8)) (v11 : (List UInt8)) (v12 : (List UInt8)) (v13 : Int) (v14 : Int) (v15 : Int) (v16 : Int) (v17 : Int) (v18 : Int) (v19 : (List UInt8)) (v20 : (List UInt8)) (v21 : (List UInt8)) (v22 : Int) (v23 : Int) (v24 : Int) (v25 : Int) (v26 : Int) : Option (Q0 × Int × Err × Int × (List UInt8) × (List UInt8) × Int × Int × Int × (List UInt8) × (List UInt8) × (List UInt8) × Int × (List Ex) × Int × Int × Int × Int × Int × (List UInt8) × (List UInt8) × (List UInt8) × Int × (List Ex) × Int × Int × (List Ex) × (List Ex) × (List (Ex × (Bool × Unit))) × Int × Int × Unit) := pq_selects_cps N _ (fun a0 a1 a2 a3 a4 a5 a6 a7 a8 a9 a10 a11 a12 a13 a14 a15 a16 a17 a18 a19 a20 a21 a22 a23 a24 a25 a26 a27 a28 a29 a30 => some (a0, (a1, (a2, (a3, (a4, (a5, (a6, (a7, (a8, (a9, (a10, (a11, (a12, (a13, (a14, (a15, (a16, (a17, (a18, (a19, (a20, (a21, (a22, (a23, (a24, (a25, (a26, (a27, (a28, (a29, (a30, ())))))))))))))))))))))))))))))))) v1 v2 v3 v4 v5 v6 v7 v8 v9 v10 v11 v12 v13 v14 v15 v16 v17 v18 v19 v20 v21 v22 v23 v24 v25 v26
def pq_ended_cps (N : Nat) (R : Type) (K : Err → Q0 → Int → Err → Option R) (v1 : Q0) (v2 : Int) (v3 : Err) : Option R :=
 (Option.bind (nth v1 0) fun v4 =>
 (bif (!(decide (v4.1 = 6))) then
 (Option.bind (pq_fail N 171 v1 v2 v3) fun v5 =>
 (K v5.2.2.1 v5.1 v5.2.1 v5.2.2.1))
 else
 (K v3 v1 v2 v3)))
def pq_ended (N : Nat) (v1 : Q0) (v2 : Int) (v3 : Err) : Option (Err × Q0 × Int × Err × Unit) := pq_ended_cps N _ (fun a0 a1 a2 a3 => some (a0, (a1, (a2, (a3, ()))))) v1 v2 v3
def pq_table_1_cps (N : Nat) (R : Type) (K : Q0 → Int → Err → Int → (List UInt8) → (List UInt8) → Int → Int → Int → (List UInt8) → (List UInt8) → (List UInt8) → Int → Int → Int → Int → Int → Int → (List UInt8) → (List UInt8) → (List UInt8) → Int → Int → Int → Int → Int → Option R) (v1 : Q0) (v2 : Int) (v3 : Err) (v4 : Int) (v5 : (List UInt8)) (v6 : (List UInt8)) (v7 : Int) (v8 : Int) (v9 : Int) (v10 : (List UInt8)) (v11 : (List UInt8)) (v12 : (List UInt8)) (v13 : Int) (v14 : Int) (v15 : Int) (v16 : Int) (v17 : Int) (v18 : Int) (v19 : (List UInt8)) (v20 : (List UInt8)) (v21 : (List UInt8)) (v22 : Int) (v23 : Int) (v24 : Int) (v25 : Int) (v26 : Int) : Option R :=
 (Option.bind (pq_at N v1 v2 v3) fun v27 =>
 (Option.bind (pq_name N v1 v2 v3) fun v28 =>
 (K v28.2.1 v28.2.2.1 v28.2.2.2.1 v4 v28.1 v6 v7 v8 v9 v10 v11 v12 v13 v14 v15 v16 v17 v18 v19 v20 v21 v22 v23 v24 v25 v27.1)))
def pq_table_1 (N : Nat) (v1 : Q0) (v2 : Int) (v3 : Err) (v4 : Int) (v5 : (List UInt8)) (v6 : (List UInt8)) (v7 : Int) (v8 : Int) (v9 : Int) (v10 : (List UInt8)) (v11 : (List UInt8)) (v12 : (List UInt8)) (v13 : Int) (v14 : Int) (v15 : Int) (v16 : Int) (v17 : Int) (v18 : Int) (v19 : (List UInt8)) (v20 : (List UInt8)) (v21 : (List UInt8)) (v22 : Int) (v23 : Int) (v24 : Int) (v25 : Int) (v26 : Int) : Option (Q0 × Int × Err × Int × (List UInt8) × (List UInt8) × Int × Int × Int × (List UInt8) × (List UInt8) × (List UInt8) × Int × Int × Int × Int × Int × Int × (List UInt8) × (List UInt8) × (List UInt8) × Int × Int × Int × Int × Int × Unit) := pq_table_1_cps N _ (fun a0 a1 a2 a3 a4 a5 a6 a7 a8 a9 a10 a11 a12 a13 a14 a15 a16 a17 a18 a19 a20 a21 a22 a23 a24 a25 => some (a0, (a1, (a2, (a3, (a4, (a5, (a6, (a7, (a8, (a9, (a10, (a11, (a12, (a13, (a14, (a15, (a16, (a17, (a18, (a19, (a20, (a21, (a22, (a23, (a24, (a25, ()))))))))))))))))))))))))))) v1 v2 v3 v4 v5 v6 v7 v8 v9 v10 v11 v12 v13 v14 v15 v16 v17 v18 v19 v20 v21 v22 v23 v24 v25 v26
def pq_inserts_r1 (N : Nat) (R : Type) (k0 : Q0 → Int → Err → Int → (List UInt8) → (List UInt8) → Int → Int → Int → (List UInt8) → (List UInt8) → (List UInt8) → Int → Int → Int → Int → Int → Int → (List UInt8) → (List UInt8) → (List UInt8) → Int → Int → Int → Int → (List (List Ex)) → Int → Option R) (v142 : Q0) (v143 : Int) (v144 : Err) (v145 : Int) (v146 : (List UInt8)) (v147 : (List UInt8)) (v148 : Int) (v149 : Int) (v150 : Int) (v151 : (List UInt8)) (v152 : (List UInt8)) (v153 : (List UInt8)) (v154 : Int) (v155 : Int) (v156 : Int) (v157 : Int) (v158 : Int) (v159 : Int) (v160 : (List UInt8)) (v161 : (List UInt8)) (v162 : (List UInt8)) (v163 : Int) (v164 : Int) (v165 : Int) (v166 : Int) (v167 : (List (List Ex))) (v168 : Int) : Option R :=
 (Option.bind (pq_list N v142 v143 v144) fun v169 =>
 (bif (room 24 (v167.length + ([v169.1] : (List (List Ex))).length)) then
 (k0 v169.2.1 v169.2.2.1 v169.2.2.2.1 v145 v146 v147 v148 v149 v150 v151 v152 v153 v154 v155 v156 v157 v158 v159 v160 v161 v162 v163 v164 v165 v166 (v167 ++ ([v169.1] : (List (List Ex)))) v168)
 else
 none))
def pq_inserts_l0B (N : Nat) (R : Type) (rec : Bool → Q0 → Int → Err → Int → (List UInt8) → (List UInt8) → Int → Int → Int → (List UInt8) → (List UInt8) → (List UInt8) → Int → Int → Int → Int → Int → Int → (List UInt8) → (List UInt8) → (List UInt8) → Int → Int → Int → Int → (List (List Ex)) → Int → Option R) (k0 : Q0 → Int → Err → Int → (List UInt8) → (List UInt8) → Int → Int → Int → (List UInt8) → (List UInt8) → (List UInt8) → Int → Int → Int → Int → Int → Int → (List UInt8) → (List UInt8) → (List UInt8) → Int → Int → Int → Int → (List (List Ex)) → Int → Option R) (k1 : Q0 → Int → Err → Int → (List UInt8) → (List UInt8) → Int → Int → Int → (List UInt8) → (List UInt8) → (List UInt8) → Int → Int → Int → Int → Int → Int → (List UInt8) → (List UInt8) → (List UInt8) → Int → Int → Int → Int → (List (List Ex)) → Int → Option R) (v84 : Bool) (v85 : Q0) (v86 : Int) (v87 : Err) (v88 : Int) (v89 : (List UInt8)) (v90 : (List UInt8)) (v91 : Int) (v92 : Int) (v93 : Int) (v94 : (List UInt8)) (v95 : (List UInt8)) (v96 : (List UInt8)) (v97 : Int) (v98 : Int) (v99 : Int) (v100 : Int) (v101 : Int) (v102 : Int) (v103 : (List UInt8)) (v104 : (List UInt8)) (v105 : (List UInt8)) (v106 : Int) (v107 : Int) (v108 : Int) (v109 : Int) (v110 : (List (List Ex))) (v111 : Int) : Option R :=
 (bif v84 then
 (Option.bind (pq_want N ([[40]] : (List (List UInt8))) v85 v86 v87) fun v112 =>
 (bif (!(Err.isNil v112.2.2.1)) then
 (k1 v112.1 v112.2.1 v112.2.2.1 v88 v89 v90 v91 v92 v93 v94 v95 v96 v97 v98 v99 v100 v101 v102 v103 v104 v105 v106 v107 v108 v109 v110 v111)
 else
 (pq_inserts_r1 N _ (fun v113 v114 v115 v116 v117 v118 v119 v120 v121 v122 v123 v124 v125 v126 v127 v128 v129 v130 v131 v132 v133 v134 v135 v136 v137 v138 v139 =>
 (Option.bind (pq_want N ([[41]] : (List (List UInt8))) v113 v114 v115) fun v140 =>
 (Option.bind (pq_take N [44] v140.1 v140.2.1 v140.2.2.1) fun v141 =>
 (rec v141.1 v141.2.1 v141.2.2.1 v141.2.2.2.1 v116 v117 v118 v119 v120 v121 v122 v123 v124 v125 v126 v127 v128 v129 v130 v131 v132 v133 v134 v135 v136 v137 v138 v139)))) v112.1 v112.2.1 v112.2.2.1 v88 v89 v90 v91 v92 v93 v94 v95 v96 v97 v98 v99 v100 v101 v102 v103 v104 v105 v106 v107 v108 v109 v110 v111)))
 else
 (k0 v85 v86 v87 v88 v89 v90 v91 v92 v93 v94 v95 v96 v97 v98 v99 v100 v101 v102 v103 v104 v105 v106 v107 v108 v109 v110 v111))
def pq_inserts_l0 (N : Nat) (R : Type) (k0 : Q0 → Int → Err → Int → (List UInt8) → (List UInt8) → Int → Int → Int → (List UInt8) → (List UInt8) → (List UInt8) → Int → Int → Int → Int → Int → Int → (List UInt8) → (List UInt8) → (List UInt8) → Int → Int → Int → Int → (List (List Ex)) → Int → Option R) (k1 : Q0 → Int → Err → Int → (List UInt8) → (List UInt8) → Int → Int → Int → (List UInt8) → (List UInt8) → (List UInt8) → Int → Int → Int → Int → Int → Int → (List UInt8) → (List UInt8) → (List UInt8) → Int → Int → Int → Int → (List (List Ex)) → Int → Option R) : Nat → Bool → Q0 → Int → Err → Int → (List UInt8) → (List UInt8) → Int → Int → Int → (List UInt8) → (List UInt8) → (List UInt8) → Int → Int → Int → Int → Int → Int → (List UInt8) → (List UInt8) → (List UInt8) → Int → Int → Int → Int → (List (List Ex)) → Int → Option R
 | 0 => fun _ _ _ _ _ _ _ _ _ _ _ _ _ _ _ _ _ _ _ _ _ _ _ _ _ _ _ _ => none
 | n + 1 => pq_inserts_l0B N R (pq_inserts_l0 N R k0 k1 n) k0 k1
def pq_inserts_cps (N : Nat) (R : Type) (K : Q0 → Int → Err → Int → (List UInt8) → (List UInt8) → Int → Int → Int → (List UInt8) → (List UInt8) → (List UInt8) → Int → Int → Int → Int → Int → Int → (List UInt8) → (List UInt8) → (List UInt8) → Int → Int → Int → Int → (List (List Ex)) → Int → Option R) (v1 : Q0) (v2 : Int) (v3 : Err) (v4 : Int) (v5 : (List UInt8)) (v6 : (List UInt8)) (v7 : Int) (v8 : Int) (v9 : Int) (v10 : (List UInt8)) (v11 : (List UInt8)) (v12 : (List UInt8)) (v13 : Int) (v14 : Int) (v15 : Int) (v16 : Int) (v17 : Int) (v18 : Int) (v19 : (List UInt8)) (v20 : (List UInt8)) (v21 : (List UInt8)) (v22 : Int) (v23 : Int) (v24 : Int) (v25 : Int) (v26 : Int) : Option R :=
 (Option.bind (pq_want N ([[105, 110, 116, 111]] : (List (List UInt8))) v1 v2 v3) fun v27 =>
 (Option.bind (pq_table_1 N v27.1 v27.2.1 v27.2.2.1 v4 v5 v6 v7 v8 v9 v10 v11 v12 v13 v14 v15 v16 v17 v18 v19 v20 v21 v22 v23 v24 v25 v26) fun v28 =>
 (Option.bind (pq_want N ([[118, 97, 108, 117, 101, 115]] : (List (List UInt8))) v28.1 v28.2.1 v28.2.2.1) fun v29 =>
 (pq_inserts_l0 N _ K K N true v29.1 v29.2.1 v29.2.2.1 v28.2.2.2.1 v28.2.2.2.2.1 v28.2.2.2.2.2.1 v28.2.2.2.2.2.2.1 v28.2.2.2.2.2.2.2.1 v28.2.2.2.2.2.2.2.2.1 v28.2.2.2.2.2.2.2.2.2.1 v28.2.2.2.2.2.2.2.2.2.2.1 v28.2.2.2.2.2.2.2.2.2.2.2.1 v28.2.2.2.2.2.2.2.2.2.2.2.2.1 v28.2.2.2.2.2.2.2.2.2.2.2.2.2.1 v28.2.2.2.2.2.2.2.2.2.2.2.2.2.2.1 v28.2.2.2.2.2.2.2.2.2.2.2.2.2.2.2.1 v28.2.2.2.2.2.2.2.2.2.2.2.2.2.2.2.2.1 v28.2.2.2.2.2.2.2.2.2.2.2.2.2.2.2.2.2.1 v28.2.2.2.2.2.2.2.2.2.2.2.2.2.2.2.2.2.2.1 v28.2.2.2.2.2.2.2.2.2.2.2.2.2.2.2.2.2.2.2.1 v28.2.2.2.2.2.2.2.2.2.2.2.2.2.2.2.2.2.2.2.2.1 v28.2.2.2.2.2.2.2.2.2.2.2.2.2.2.2.2.2.2.2.2.2.1 v28.2.2.2.2.2.2.2.2.2.2.2.2.2.2.2.2.2.2.2.2.2.2.1 v28.2.2.2.2.2.2.2.2.2.2.2.2.2.2.2.2.2.2.2.2.2.2.2.1 v28.2.2.2.2.2.2.2.2.2.2.2.2.2.2.2.2.2.2.2.2.2.2.2.2.1 [] v28.2.2.2.2.2.2.2.2.2.2.2.2.2.2.2.2.2.2.2.2.2.2.2.2.2.1))))
def pq_inserts (N : Nat) (v1 : Q0) (v2 : Int) (v3 : Err) (v4 : Int) (v5 : (List UInt8)) (v6 : (List UInt8)) (v7 : Int) (v8 : Int) (v9 : Int) (v10 : (List UInt8)) (v11 : (List UInt8)) (v12 : (List UInt8)) (v13 : Int) (v14 : Int) (v15 : Int) (v16 : Int) (v17 : Int) (v18 : Int) (v19 : (List UInt8)) (v20 : (List UInt8)) (v21 : (List UInt8)) (v22 : Int) (v23 : Int) (v24 : Int) (v25 : Int) (v26 : Int) : Option (Q0 × Int × Err × Int × (List UInt8) × (List UInt8) × Int × Int × Int × (List UInt8) × (List UInt8) × (List UInt8) × Int × Int × Int × Int × Int × Int × (List UInt8) × (List UInt8) × (List UInt8) × Int × Int × Int × Int × (List (List Ex)) × Int × Unit) := pq_inserts_cps N _ (fun a0 a1 a2 a3 a4 a5 a6 a7 a8 a9 a10 a11 a12 a13 a14 a15 a16 a17 a18 a19 a20 a21 a22 a23 a24 a25 a26 => some (a0, (a1, (a2, (a3, (a4, (a5, (a6, (a7, (a8, (a9, (a10, (a11, (a12, (a13, (a14, (a15, (a16, (a17, (a18, (a19, (a20, (a21, (a22, (a23, (a24, (a25, (a26, ())))))))))))))))))))))))))))) v1 v2 v3 v4 v5 v6 v7 v8 v9 v10 v11 v12 v13 v14 v15 v16 v17 v18 v19 v20 v21 v22 v23 v24 v25 v26
def pq_updates_r1 (N : Nat) (R : Type) (k0 : Q0 → Int → Err → Int → (List UInt8) → (List UInt8) → Int → Int → Int → (List UInt8) → (List UInt8) → (List UInt8) → Int → Int → Int → Int → Int → Int → (List UInt8) → (List UInt8) → (List UInt8) → Int → Int → Int → Int → Q2 → Int → (List UInt8) → Int → Int → Int → (List UInt8) → (List UInt8) → (List UInt8) → Int → (List Ex) → Int → Int → Int → Option R) (v129 : Q0) (v130 : Int) (v131 : Err) (v132 : Int) (v133 : (List UInt8)) (v134 : (List UInt8)) (v135 : Int) (v136 : Int) (v137 : Int) (v138 : (List UInt8)) (v139 : (List UInt8)) (v140 : (List UInt8)) (v141 : Int) (v142 : Int) (v143 : Int) (v144 : Int) (v145 : Int) (v146 : Int) (v147 : (List UInt8)) (v148 : (List UInt8)) (v149 : (List UInt8)) (v150 : Int) (v151 : Int) (v152 : Int) (v153 : Int) (v154 : Q2) (v155 : Int) (v156 : (List UInt8)) (v157 : Int) (v158 : Int) (v159 : Int) (v160 : (List UInt8)) (v161 : (List UInt8)) (v162 : (List UInt8)) (v163 : Int) (v164 : (List Ex)) (v165 : Int) (v166 : Int) (v167 : Int) : Option R :=
 (bif (room 144 (v154.length + ([(v156, ((Ex.mk v157 v158 v159 v160 v161 v162 v163 v164 v165 v166), (v167, ())))] : Q2).length)) then
 (k0 v129 v130 v131 v132 v133 v134 v135 v136 v137 v138 v139 v140 v141 v142 v143 v144 v145 v146 v147 v148 v149 v150 v151 v152 v153 (v154 ++ ([(v156, ((Ex.mk v157 v158 v159 v160 v161 v162 v163 v164 v165 v166), (v167, ())))] : Q2)) v155 v156 v157 v158 v159 v160 v161 v162 v163 v164 v165 v166 v167)
 else
 none)
def pq_updates_l0B (N : Nat) (R : Type) (rec : Bool → Q0 → Int → Err → Int → (List UInt8) → (List UInt8) → Int → Int → Int → (List UInt8) → (List UInt8) → (List UInt8) → Int → Int → Int → Int → Int → Int → (List UInt8) → (List UInt8) → (List UInt8) → Int → Int → Int → Int → Q2 → Int → Option R) (k0 : Q0 → Int → Err → Int → (List UInt8) → (List UInt8) → Int → Int → Int → (List UInt8) → (List UInt8) → (List UInt8) → Int → Int → Int → Int → Int → Int → (List UInt8) → (List UInt8) → (List UInt8) → Int → Int → Int → Int → Q2 → Int → Option R) (v57 : Bool) (v58 : Q0) (v59 : Int) (v60 : Err) (v61 : Int) (v62 : (List UInt8)) (v63 : (List UInt8)) (v64 : Int) (v65 : Int) (v66 : Int) (v67 : (List UInt8)) (v68 : (List UInt8)) (v69 : (List UInt8)) (v70 : Int) (v71 : Int) (v72 : Int) (v73 : Int) (v74 : Int) (v75 : Int) (v76 : (List UInt8)) (v77 : (List UInt8)) (v78 : (List UInt8)) (v79 : Int) (v80 : Int) (v81 : Int) (v82 : Int) (v83 : Q2) (v84 : Int) : Option R :=
 (bif v57 then
 (Option.bind (pq_at N v58 v59 v60) fun v85 =>
 (Option.bind (pq_name N v58 v59 v60) fun v86 =>
 (Option.bind (pq_want N ([[61]] : (List (List UInt8))) v86.2.1 v86.2.2.1 v86.2.2.2.1) fun v87 =>
 (Option.bind (pq_whole N v87.1 v87.2.1 v87.2.2.1) fun v88 =>
 (pq_updates_r1 N _ (fun v89 v90 v91 v92 v93 v94 v95 v96 v97 v98 v99 v100 v101 v102 v103 v104 v105 v106 v107 v108 v109 v110 v111 v112 v113 v114 v115 v116 v117 v118 v119 v120 v121 v122 v123 v124 v125 v126 v127 =>
 (Option.bind (pq_take N [44] v89 v90 v91) fun v128 =>
 (rec v128.1 v128.2.1 v128.2.2.1 v128.2.2.2.1 v92 v93 v94 v95 v96 v97 v98 v99 v100 v101 v102 v103 v104 v105 v106 v107 v108 v109 v110 v111 v112 v113 v114 v115))) v88.2.2.2.2.2.2.2.2.2.2.1 v88.2.2.2.2.2.2.2.2.2.2.2.1 v88.2.2.2.2.2.2.2.2.2.2.2.2.1 v61 v62 v63 v64 v65 v66 v67 v68 v69 v70 v71 v72 v73 v74 v75 v76 v77 v78 v79 v80 v81 v82 v83 v84 v86.1 v88.1 v88.2.1 v88.2.2.1 v88.2.2.2.1 v88.2.2.2.2.1 v88.2.2.2.2.2.1 v88.2.2.2.2.2.2.1 v88.2.2.2.2.2.2.2.1 v88.2.2.2.2.2.2.2.2.1 v88.2.2.2.2.2.2.2.2.2.1 v85.1)))))
 else
 (k0 v58 v59 v60 v61 v62 v63 v64 v65 v66 v67 v68 v69 v70 v71 v72 v73 v74 v75 v76 v77 v78 v79 v80 v81 v82 v83 v84))
def pq_updates_l0 (N : Nat) (R : Type) (k0 : Q0 → Int → Err → Int → (List UInt8) → (List UInt8) → Int → Int → Int → (List UInt8) → (List UInt8) → (List UInt8) → Int → Int → Int → Int → Int → Int → (List UInt8) → (List UInt8) → (List UInt8) → Int → Int → Int → Int → Q2 → Int → Option R) : Nat → Bool → Q0 → Int → Err → Int → (List UInt8) → (List UInt8) → Int → Int → Int → (List UInt8) → (List UInt8) → (List UInt8) → Int → Int → Int → Int → Int → Int → (List UInt8) → (List UInt8) → (List UInt8) → Int → Int → Int → Int → Q2 → Int → Option R
 | 0 => fun _ _ _ _ _ _ _ _ _ _ _ _ _ _ _ _ _ _ _ _ _ _ _ _ _ _ _ _ => none
 | n + 1 => pq_updates_l0B N R (pq_updates_l0 N R k0 n) k0
def pq_updates_cps (N : Nat) (R : Type) (K : Q0 → Int → Err → Int → (List UInt8) → (List UInt8) → Int → Int → Int → (List UInt8) → (List UInt8) → (List UInt8) → Int → Int → Int → Int → Int → Int → (List UInt8) → (List UInt8) → (List UInt8) → Int → (List Ex) → Int → Int → Int → Q2 → Int → Option R) (v1 : Q0) (v2 : Int) (v3 : Err) (v4 : Int) (v5 : (List UInt8)) (v6 : (List UInt8)) (v7 : Int) (v8 : Int) (v9 : Int) (v10 : (List UInt8)) (v11 : (List UInt8)) (v12 : (List UInt8)) (v13 : Int) (v14 : Int) (v15 : Int) (v16 : Int) (v17 : Int) (v18 : Int) (v19 : (List UInt8)) (v20 : (List UInt8)) (v21 : (List UInt8)) (v22 : Int) (v23 : Int) (v24 : Int) (v25 : Int) (v26 : Int) : Option R :=
 (Option.bind (pq_table_1 N v1 v2 v3 v4 v5 v6 v7 v8 v9 v10 v11 v12 v13 v14 v15 v16 v17 v18 v19 v20 v21 v22 v23 v24 v25 v26) fun v27 =>
 (Option.bind (pq_want N ([[115, 101, 116]] : (List (List UInt8))) v27.1 v27.2.1 v27.2.2.1) fun v28 =>
 (pq_updates_l0 N _ (fun v29 v30 v31 v32 v33 v34 v35 v36 v37 v38 v39 v40 v41 v42 v43 v44 v45 v46 v47 v48 v49 v50 v51 v52 v53 v54 v55 =>
 (Option.bind (pq_where N [119, 104, 101, 114, 101] v29 v30 v31) fun v56 =>
 (K v56.2.2.2.2.2.2.2.2.2.2.1 v56.2.2.2.2.2.2.2.2.2.2.2.1 v56.2.2.2.2.2.2.2.2.2.2.2.2.1 v32 v33 v34 v35 v36 v37 v38 v39 v40 v41 v42 v43 v56.1 v56.2.1 v56.2.2.1 v56.2.2.2.1 v56.2.2.2.2.1 v56.2.2.2.2.2.1 v56.2.2.2.2.2.2.1 v56.2.2.2.2.2.2.2.1 v56.2.2.2.2.2.2.2.2.1 v56.2.2.2.2.2.2.2.2.2.1 v53 v54 v55))) N true v28.1 v28.2.1 v28.2.2.1 v27.2.2.2.1 v27.2.2.2.2.1 v27.2.2.2.2.2.1 v27.2.2.2.2.2.2.1 v27.2.2.2.2.2.2.2.1 v27.2.2.2.2.2.2.2.2.1 v27.2.2.2.2.2.2.2.2.2.1 v27.2.2.2.2.2.2.2.2.2.2.1 v27.2.2.2.2.2.2.2.2.2.2.2.1 v27.2.2.2.2.2.2.2.2.2.2.2.2.1 v27.2.2.2.2.2.2.2.2.2.2.2.2.2.1 v27.2.2.2.2.2.2.2.2.2.2.2.2.2.2.1 v27.2.2.2.2.2.2.2.2.2.2.2.2.2.2.2.1 v27.2.2.2.2.2.2.2.2.2.2.2.2.2.2.2.2.1 v27.2.2.2.2.2.2.2.2.2.2.2.2.2.2.2.2.2.1 v27.2.2.2.2.2.2.2.2.2.2.2.2.2.2.2.2.2.2.1 v27.2.2.2.2.2.2.2.2.2.2.2.2.2.2.2.2.2.2.2.1 v27.2.2.2.2.2.2.2.2.2.2.2.2.2.2.2.2.2.2.2.2.1 v27.2.2.2.2.2.2.2.2.2.2.2.2.2.2.2.2.2.2.2.2.2.1 v27.2.2.2.2.2.2.2.2.2.2.2.2.2.2.2.2.2.2.2.2.2.2.1 v27.2.2.2.2.2.2.2.2.2.2.2.2.2.2.2.2.2.2.2.2.2.2.2.1 v27.2.2.2.2.2.2.2.2.2.2.2.2.2.2.2.2.2.2.2.2.2.2.2.2.1 [] v27.2.2.2.2.2.2.2.2.2.2.2.2.2.2.2.2.2.2.2.2.2.2.2.2.2.1)))
def pq_updates (N : Nat) (v1 : Q0) (v2 : Int) (v3 : Err) (v4 : Int) (v5 : (List UInt8)) (v6 : (List UInt8)) (v7 : Int) (v8 : Int) (v9 : Int) (v10 : (List UInt8)) (v11 : (List UInt8)) (v12 : (List UInt8)) (v13 : Int) (v14 : Int) (v15 : Int) (v16 : Int) (v17 : Int) (v18 : Int) (v19 : (List UInt8)) (v20 : (List UInt8)) (v21 : (List UInt8)) (v22 : Int) (v23 : Int) (v24 : Int) (v25 : Int) (v26 : Int) : Option (Q0 × Int × Err × Int × (List UInt8) × (List UInt8) × Int × Int × Int × (List UInt8) × (List UInt8) × (List UInt8) × Int × Int × Int × Int × Int × Int × (List UInt8) × (List UInt8) × (List UInt8) × Int × (List Ex) × Int × Int × Int × Q2 × Int × Unit) := pq_updates_cps N _ (fun a0 a1 a2 a3 a4 a5 a6 a7 a8 a9 a10 a11 a12 a13 a14 a15 a16 a17 a18 a19 a20 a21 a22 a23 a24 a25 a26 a27 => some (a0, (a1, (a2, (a3, (a4, (a5, (a6, (a7, (a8, (a9, (a10, (a11, (a12, (a13, (a14, (a15, (a16, (a17, (a18, (a19, (a20, (a21, (a22, (a23, (a24, (a25, (a26, (a27, ()))))))))))))))))))))))))))))) v1 v2 v3 v4 v5 v6 v7 v8 v9 v10 v11 v12 v13 v14 v15 v16 v17 v18 v19 v20 v21 v22 v23 v24 v25 v26
def parse_Parse_cps (N : Nat) (R : Type) (K : Int → (List UInt8) → (List UInt8) → Int → Int → Int → (List UInt8) → (List UInt8) → (List UInt8) → Int → (List Ex) → Int → Int → Int → Int → Int → (List UInt8) → (List UInt8) → (List UInt8) → Int → (List Ex) → Int → Int → (List Ex) → (List Ex) → (List (Ex × (Bool × Unit))) → Int → (List (List Ex)) → Q2 → Int → Err → Option R) (v1 : (List UInt8)) : Option R :=
 (Option.bind (lex_Lex N v1) fun v2 =>
 (bif (!(Err.isNil v2.2.1)) then
 (Option.bind (fault_At N v2.2.1) fun v3 =>
 (Option.bind (fault_Wrap N v2.2.1 171 v3.1) fun v4 =>
 (bif (!(Err.isNil v4.1)) then
 (K 0 [] [] 0 0 0 [] [] [] 0 [] 0 0 0 0 0 [] [] [] 0 [] 0 0 [] [] [] 0 [] [] 0 v4.1)
 else
 none)))
 else
 (bif (!(Err.isNil Err.nil)) then
 (K 0 [] [] 0 0 0 [] [] [] 0 [] 0 0 0 0 0 [] [] [] 0 [] 0 0 [] [] [] 0 [] [] 0 Err.nil)
 else
 (Option.bind (pq_take N [115, 101, 108, 101, 99, 116] v2.1 0 Err.nil) fun v5 =>
 (bif v5.1 then
 (Option.bind (pq_selects N v5.2.1 v5.2.2.1 v5.2.2.2.1 1 [] [] 0 0 0 [] [] [] 0 0 0 0 0 0 [] [] [] 0 0 0 (-1) 0) fun v6 =>
 (Option.bind (pq_take N [59] v6.1 v6.2.1 v6.2.2.1) fun v7 =>
 (Option.bind (pq_ended N v7.2.1 v7.2.2.1 v7.2.2.2.1) fun v8 =>
 (bif (!(Err.isNil v8.1)) then
 (K 0 [] [] 0 0 0 [] [] [] 0 [] 0 0 0 0 0 [] [] [] 0 [] 0 0 [] [] [] 0 [] [] 0 v8.1)
 else
 (K v6.2.2.2.1 v6.2.2.2.2.1 v6.2.2.2.2.2.1 v6.2.2.2.2.2.2.1 v6.2.2.2.2.2.2.2.1 v6.2.2.2.2.2.2.2.2.1 v6.2.2.2.2.2.2.2.2.2.1 v6.2.2.2.2.2.2.2.2.2.2.1 v6.2.2.2.2.2.2.2.2.2.2.2.1 v6.2.2.2.2.2.2.2.2.2.2.2.2.1 v6.2.2.2.2.2.2.2.2.2.2.2.2.2.1 v6.2.2.2.2.2.2.2.2.2.2.2.2.2.2.1 v6.2.2.2.2.2.2.2.2.2.2.2.2.2.2.2.1 v6.2.2.2.2.2.2.2.2.2.2.2.2.2.2.2.2.1 v6.2.2.2.2.2.2.2.2.2.2.2.2.2.2.2.2.2.1 v6.2.2.2.2.2.2.2.2.2.2.2.2.2.2.2.2.2.2.1 v6.2.2.2.2.2.2.2.2.2.2.2.2.2.2.2.2.2.2.2.1 v6.2.2.2.2.2.2.2.2.2.2.2.2.2.2.2.2.2.2.2.2.1 v6.2.2.2.2.2.2.2.2.2.2.2.2.2.2.2.2.2.2.2.2.2.1 v6.2.2.2.2.2.2.2.2.2.2.2.2.2.2.2.2.2.2.2.2.2.2.1 v6.2.2.2.2.2.2.2.2.2.2.2.2.2.2.2.2.2.2.2.2.2.2.2.1 v6.2.2.2.2.2.2.2.2.2.2.2.2.2.2.2.2.2.2.2.2.2.2.2.2.1 v6.2.2.2.2.2.2.2.2.2.2.2.2.2.2.2.2.2.2.2.2.2.2.2.2.2.1 v6.2.2.2.2.2.2.2.2.2.2.2.2.2.2.2.2.2.2.2.2.2.2.2.2.2.2.1 v6.2.2.2.2.2.2.2.2.2.2.2.2.2.2.2.2.2.2.2.2.2.2.2.2.2.2.2.1 v6.2.2.2.2.2.2.2.2.2.2.2.2.2.2.2.2.2.2.2.2.2.2.2.2.2.2.2.2.1 v6.2.2.2.2.2.2.2.2.2.2.2.2.2.2.2.2.2.2.2.2.2.2.2.2.2.2.2.2.2.1 [] [] v6.2.2.2.2.2.2.2.2.2.2.2.2.2.2.2.2.2.2.2.2.2.2.2.2.2.2.2.2.2.2.1 Err.nil)))))
 else
 (Option.bind (pq_take N [105, 110, 115, 101, 114, 116] v5.2.1 v5.2.2.1 v5.2.2.2.1) fun v9 =>
 (bif v9.1 then
 (Option.bind (pq_inserts N v9.2.1 v9.2.2.1 v9.2.2.2.1 2 [] [] 0 0 0 [] [] [] 0 0 0 0 0 0 [] [] [] 0 0 0 (-1) 0) fun v10 =>
 (Option.bind (pq_take N [59] v10.1 v10.2.1 v10.2.2.1) fun v11 =>
 (Option.bind (pq_ended N v11.2.1 v11.2.2.1 v11.2.2.2.1) fun v12 =>
 (bif (!(Err.isNil v12.1)) then
 (K 0 [] [] 0 0 0 [] [] [] 0 [] 0 0 0 0 0 [] [] [] 0 [] 0 0 [] [] [] 0 [] [] 0 v12.1)
 else
 (K v10.2.2.2.1 v10.2.2.2.2.1 v10.2.2.2.2.2.1 v10.2.2.2.2.2.2.1 v10.2.2.2.2.2.2.2.1 v10.2.2.2.2.2.2.2.2.1 v10.2.2.2.2.2.2.2.2.2.1 v10.2.2.2.2.2.2.2.2.2.2.1 v10.2.2.2.2.2.2.2.2.2.2.2.1 v10.2.2.2.2.2.2.2.2.2.2.2.2.1 [] v10.2.2.2.2.2.2.2.2.2.2.2.2.2.1 v10.2.2.2.2.2.2.2.2.2.2.2.2.2.2.1 v10.2.2.2.2.2.2.2.2.2.2.2.2.2.2.2.1 v10.2.2.2.2.2.2.2.2.2.2.2.2.2.2.2.2.1 v10.2.2.2.2.2.2.2.2.2.2.2.2.2.2.2.2.2.1 v10.2.2.2.2.2.2.2.2.2.2.2.2.2.2.2.2.2.2.1 v10.2.2.2.2.2.2.2.2.2.2.2.2.2.2.2.2.2.2.2.1 v10.2.2.2.2.2.2.2.2.2.2.2.2.2.2.2.2.2.2.2.2.1 v10.2.2.2.2.2.2.2.2.2.2.2.2.2.2.2.2.2.2.2.2.2.1 [] v10.2.2.2.2.2.2.2.2.2.2.2.2.2.2.2.2.2.2.2.2.2.2.1 v10.2.2.2.2.2.2.2.2.2.2.2.2.2.2.2.2.2.2.2.2.2.2.2.1 [] [] [] v10.2.2.2.2.2.2.2.2.2.2.2.2.2.2.2.2.2.2.2.2.2.2.2.2.1 v10.2.2.2.2.2.2.2.2.2.2.2.2.2.2.2.2.2.2.2.2.2.2.2.2.2.1 [] v10.2.2.2.2.2.2.2.2.2.2.2.2.2.2.2.2.2.2.2.2.2.2.2.2.2.2.1 Err.nil)))))
 else
 (Option.bind (pq_take N [117, 112, 100, 97, 116, 101] v9.2.1 v9.2.2.1 v9.2.2.2.1) fun v13 =>
 (bif v13.1 then
 (Option.bind (pq_updates N v13.2.1 v13.2.2.1 v13.2.2.2.1 3 [] [] 0 0 0 [] [] [] 0 0 0 0 0 0 [] [] [] 0 0 0 (-1) 0) fun v14 =>
 (Option.bind (pq_take N [59] v14.1 v14.2.1 v14.2.2.1) fun v15 =>
 (Option.bind (pq_ended N v15.2.1 v15.2.2.1 v15.2.2.2.1) fun v16 =>
 (bif (!(Err.isNil v16.1)) then
 (K 0 [] [] 0 0 0 [] [] [] 0 [] 0 0 0 0 0 [] [] [] 0 [] 0 0 [] [] [] 0 [] [] 0 v16.1)
 else
 (K v14.2.2.2.1 v14.2.2.2.2.1 v14.2.2.2.2.2.1 v14.2.2.2.2.2.2.1 v14.2.2.2.2.2.2.2.1 v14.2.2.2.2.2.2.2.2.1 v14.2.2.2.2.2.2.2.2.2.1 v14.2.2.2.2.2.2.2.2.2.2.1 v14.2.2.2.2.2.2.2.2.2.2.2.1 v14.2.2.2.2.2.2.2.2.2.2.2.2.1 [] v14.2.2.2.2.2.2.2.2.2.2.2.2.2.1 v14.2.2.2.2.2.2.2.2.2.2.2.2.2.2.1 v14.2.2.2.2.2.2.2.2.2.2.2.2.2.2.2.1 v14.2.2.2.2.2.2.2.2.2.2.2.2.2.2.2.2.1 v14.2.2.2.2.2.2.2.2.2.2.2.2.2.2.2.2.2.1 v14.2.2.2.2.2.2.2.2.2.2.2.2.2.2.2.2.2.2.1 v14.2.2.2.2.2.2.2.2.2.2.2.2.2.2.2.2.2.2.2.1 v14.2.2.2.2.2.2.2.2.2.2.2.2.2.2.2.2.2.2.2.2.1 v14.2.2.2.2.2.2.2.2.2.2.2.2.2.2.2.2.2.2.2.2.2.1 v14.2.2.2.2.2.2.2.2.2.2.2.2.2.2.2.2.2.2.2.2.2.2.1 v14.2.2.2.2.2.2.2.2.2.2.2.2.2.2.2.2.2.2.2.2.2.2.2.1 v14.2.2.2.2.2.2.2.2.2.2.2.2.2.2.2.2.2.2.2.2.2.2.2.2.1 [] [] [] v14.2.2.2.2.2.2.2.2.2.2.2.2.2.2.2.2.2.2.2.2.2.2.2.2.2.1 [] v14.2.2.2.2.2.2.2.2.2.2.2.2.2.2.2.2.2.2.2.2.2.2.2.2.2.2.1 v14.2.2.2.2.2.2.2.2.2.2.2.2.2.2.2.2.2.2.2.2.2.2.2.2.2.2.2.1 Err.nil)))))
 else
 (Option.bind (pq_take N [100, 101, 108, 101, 116, 101] v13.2.1 v13.2.2.1 v13.2.2.2.1) fun v17 =>
 (bif v17.1 then
 (Option.bind (pq_want N ([[102, 114, 111, 109]] : (List (List UInt8))) v17.2.1 v17.2.2.1 v17.2.2.2.1) fun v18 =>
 (Option.bind (pq_table_1 N v18.1 v18.2.1 v18.2.2.1 4 [] [] 0 0 0 [] [] [] 0 0 0 0 0 0 [] [] [] 0 0 0 (-1) 0) fun v19 =>
 (Option.bind (pq_where N [119, 104, 101, 114, 101] v19.1 v19.2.1 v19.2.2.1) fun v20 =>
 (Option.bind (pq_take N [59] v20.2.2.2.2.2.2.2.2.2.2.1 v20.2.2.2.2.2.2.2.2.2.2.2.1 v20.2.2.2.2.2.2.2.2.2.2.2.2.1) fun v21 =>
 (Option.bind (pq_ended N v21.2.1 v21.2.2.1 v21.2.2.2.1) fun v22 =>
 (bif (!(Err.isNil v22.1)) then
 (K 0 [] [] 0 0 0 [] [] [] 0 [] 0 0 0 0 0 [] [] [] 0 [] 0 0 [] [] [] 0 [] [] 0 v22.1)
 else
 (K v19.2.2.2.1 v19.2.2.2.2.1 v19.2.2.2.2.2.1 v19.2.2.2.2.2.2.1 v19.2.2.2.2.2.2.2.1 v19.2.2.2.2.2.2.2.2.1 v19.2.2.2.2.2.2.2.2.2.1 v19.2.2.2.2.2.2.2.2.2.2.1 v19.2.2.2.2.2.2.2.2.2.2.2.1 v19.2.2.2.2.2.2.2.2.2.2.2.2.1 [] v19.2.2.2.2.2.2.2.2.2.2.2.2.2.1 v19.2.2.2.2.2.2.2.2.2.2.2.2.2.2.1 v20.1 v20.2.1 v20.2.2.1 v20.2.2.2.1 v20.2.2.2.2.1 v20.2.2.2.2.2.1 v20.2.2.2.2.2.2.1 v20.2.2.2.2.2.2.2.1 v20.2.2.2.2.2.2.2.2.1 v20.2.2.2.2.2.2.2.2.2.1 [] [] [] v19.2.2.2.2.2.2.2.2.2.2.2.2.2.2.2.2.2.2.2.2.2.2.2.2.1 [] [] v19.2.2.2.2.2.2.2.2.2.2.2.2.2.2.2.2.2.2.2.2.2.2.2.2.2.1 Err.nil)))))))
 else
 (Option.bind (pq_fail N 171 v17.2.1 v17.2.2.1 v17.2.2.2.1) fun v23 =>
 (Option.bind (pq_take N [59] v23.1 v23.2.1 v23.2.2.1) fun v24 =>
 (Option.bind (pq_ended N v24.2.1 v24.2.2.1 v24.2.2.2.1) fun v25 =>
 (bif (!(Err.isNil v25.1)) then
 (K 0 [] [] 0 0 0 [] [] [] 0 [] 0 0 0 0 0 [] [] [] 0 [] 0 0 [] [] [] 0 [] [] 0 v25.1)
 else
 (K 0 [] [] 0 0 0 [] [] [] 0 [] 0 0 0 0 0 [] [] [] 0 [] 0 0 [] [] [] (-1) [] [] 0 Err.nil))))))))))))))))
def parse_Parse (N : Nat) (v1 : (List UInt8)) : Option (Int × (List UInt8) × (List UInt8) × Int × Int × Int × (List UInt8) × (List UInt8) × (List UInt8) × Int × (List Ex) × Int × Int × Int × Int × Int × (List UInt8) × (List UInt8) × (List UInt8) × Int × (List Ex) × Int × Int × (List Ex) × (List Ex) × (List (Ex × (Bool × Unit))) × Int × (List (List Ex)) × Q2 × Int × Err × Unit) := parse_Parse_cps N _ (fun a0 a1 a2 a3 a4 a5 a6 a7 a8 a9 a10 a11 a12 a13 a14 a15 a16 a17 a18 a19 a20 a21 a22 a23 a24 a25 a26 a27 a28 a29 a30 => some (a0, (a1, (a2, (a3, (a4, (a5, (a6, (a7, (a8, (a9, (a10, (a11, (a12, (a13, (a14, (a15, (a16, (a17, (a18, (a19, (a20, (a21, (a22, (a23, (a24, (a25, (a26, (a27, (a28, (a29, (a30, ())))))))))))))))))))))))))))))))) v1
def fault_Code_cps (N : Nat) (R : Type) (K : Int → Option R) (v1 : Err) : Option R :=
 (bif (errOk v1) then (K (errCode v1)) else none)
def fault_Code (N : Nat) (v1 : Err) : Option (Int × Unit) := fault_Code_cps N _ (fun a0 => some (a0, ())) v1
def w7_alive_cps (N : Nat) (R : Type) (K : Bool → Option R)  : Option R :=
 (Option.bind (parse_Parse N bs0) fun v1 =>
 (Option.bind (parse_Parse N [115, 101, 108, 101, 99, 116, 32, 97, 32, 102, 114, 111, 109]) fun v2 =>
 (bif (Err.isNil v1.2.2.2.2.2.2.2.2.2.2.2.2.2.2.2.2.2.2.2.2.2.2.2.2.2.2.2.2.2.2.1) then
 (bif (decide (v1.2.1 = [116])) then
 (bif (decide (v1.2.2.2.2.2.2.2.2.2.2.2.2.2.2.2.2.2.2.2.2.2.2.2.2.2.2.1 = 3)) then
 (bif (decide ((v1.2.2.2.2.2.2.2.2.2.2.2.2.2.2.2.2.2.2.2.2.2.2.2.1.length : Int) = 1)) then
 (Option.bind (nth v1.2.2.2.2.2.2.2.2.2.2.2.2.2.2.2.2.2.2.2.2.2.2.2.1 0) fun v3 =>
 (bif (decide ((Ex.op v3) = 3)) then
 (bif (decide (v1.2.2.2.2.2.2.2.2.2.2.2.2.2.1 = 16)) then
 (Option.bind (fault_Code N v2.2.2.2.2.2.2.2.2.2.2.2.2.2.2.2.2.2.2.2.2.2.2.2.2.2.2.2.2.2.2.1) fun v4 =>
 (bif (decide (v4.1 = 171)) then
 (Option.bind (fault_At N v2.2.2.2.2.2.2.2.2.2.2.2.2.2.2.2.2.2.2.2.2.2.2.2.2.2.2.2.2.2.2.1) fun v5 =>
 (K (decide (v5.1 = 13))))
 else
 (K false)))
 else
 (K false))
 else
 (K false)))
 else
 (K false))
 else
 (K false))
 else
 (K false))
 else
 (K false))))
def w7_alive (N : Nat)  : Option (Bool × Unit) := w7_alive_cps N _ (fun a0 => some (a0, ())) 
def w7_great_j1 (N : Nat) (R : Type) (k0 : (List UInt8) → (List UInt8) → Bool → Int → Option R) (v16 : (List UInt8)) (v17 : (List UInt8)) (v18 : Bool) (v19 : Int) (v20 : Int) : Option R :=
 (bif (!v18) then
 (bif (decide (97 ≤ v20)) then
 (bif (decide (v20 ≤ 122)) then
 (bif (room 1 (v17.length + ([(UInt8.ofNat (Int.toNat (IntKind.wrap .u8 (v20 - 32))))] : (List UInt8)).length)) then
 (k0 v16 (v17 ++ ([(UInt8.ofNat (Int.toNat (IntKind.wrap .u8 (v20 - 32))))] : (List UInt8))) v18 v19)
 else
 none)
 else
 (bif (room 1 (v17.length + ([(UInt8.ofNat (Int.toNat v20))] : (List UInt8)).length)) then
 (k0 v16 (v17 ++ ([(UInt8.ofNat (Int.toNat v20))] : (List UInt8))) v18 v19)
 else
 none))
 else
 (bif (room 1 (v17.length + ([(UInt8.ofNat (Int.toNat v20))] : (List UInt8)).length)) then
 (k0 v16 (v17 ++ ([(UInt8.ofNat (Int.toNat v20))] : (List UInt8))) v18 v19)
 else
 none))
 else
 (bif (room 1 (v17.length + ([(UInt8.ofNat (Int.toNat v20))] : (List UInt8)).length)) then
 (k0 v16 (v17 ++ ([(UInt8.ofNat (Int.toNat v20))] : (List UInt8))) v18 v19)
 else
 none))
def w7_great_l0B (N : Nat) (R : Type) (rec : (List UInt8) → (List UInt8) → Bool → Int → Option R) (k0 : (List UInt8) → Option R) (v3 : (List UInt8)) (v4 : (List UInt8)) (v5 : Bool) (v6 : Int) : Option R :=
 (bif (decide (v6 < (v3.length : Int))) then
 (Option.bind (nth v3 v6) fun v7 =>
 (bif (decide ((v7.toNat : Int) = 39)) then
 (w7_great_j1 N _ (fun v8 v9 v10 v11 =>
 (rec v8 v9 v10 (IntKind.wrap .i64 (v11 + 1)))) v3 v4 (!v5) v6 (v7.toNat : Int))
 else
 (w7_great_j1 N _ (fun v12 v13 v14 v15 =>
 (rec v12 v13 v14 (IntKind.wrap .i64 (v15 + 1)))) v3 v4 v5 v6 (v7.toNat : Int))))
 else
 (k0 v4))
def w7_great_l0 (N : Nat) (R : Type) (k0 : (List UInt8) → Option R) : Nat → (List UInt8) → (List UInt8) → Bool → Int → Option R
 | 0 => fun _ _ _ _ => none
 | n + 1 => w7_great_l0B N R (w7_great_l0 N R k0 n) k0
def w7_great_cps (N : Nat) (R : Type) (K : (List UInt8) → Option R) (v1 : (List UInt8)) : Option R :=
 (w7_great_l0 N _ K N v1 [] false 0)
def w7_great (N : Nat) (v1 : (List UInt8)) : Option ((List UInt8) × Unit) := w7_great_cps N _ (fun a0 => some (a0, ())) v1
set_option warn.classDefReducibility false
class Z_r7_Same where
 r_r7_Same : Int → Int → Int → (List UInt8) → (List UInt8) → (List UInt8) → Int → (List Ex) → Int → Int → Int → Int → Int → (List UInt8) → (List UInt8) → (List UInt8) → Int → (List Ex) → Int → Int → Bool → Option (Bool × Unit)
section
variable [Z_r7_Same]
/- frankpledge/frankpledgeref17.SameList -/
def r7_SameList_o_l0B (N : Nat) (R : Type) (rec : (List Ex) → (List Ex) → Bool → Int → Option R) (k0 : Option R) (k1 : Bool → Option R) (v5 : (List Ex)) (v6 : (List Ex)) (v7 : Bool) (v8 : Int) : Option R :=
 (bif (decide (v8 < (v5.length : Int))) then
 (Option.bind (nth v5 v8) fun v9 =>
 (Option.bind (nth v6 v8) fun v10 =>
 (Option.bind (Z_r7_Same.r_r7_Same (Ex.op v9) (Ex.vk v9) (Ex.vn v9) (Ex.vs v9) (Ex.tab v9) (Ex.name v9) (Ex.num v9) (Ex.kids v9) (Ex.kind v9) (Ex.at_ v9) (Ex.op v10) (Ex.vk v10) (Ex.vn v10) (Ex.vs v10) (Ex.tab v10) (Ex.name v10) (Ex.num v10) (Ex.kids v10) (Ex.kind v10) (Ex.at_ v10) v7) fun v11 =>
 (bif (!v11.1) then
 (k1 false)
 else
 (rec v5 v6 v7 (IntKind.wrap .i64 (v8 + 1)))))))
 else
 k0)
def r7_SameList_o_l0 (N : Nat) (R : Type) (k0 : Option R) (k1 : Bool → Option R) : Nat → (List Ex) → (List Ex) → Bool → Int → Option R
 | 0 => fun _ _ _ _ => none
 | n + 1 => r7_SameList_o_l0B N R (r7_SameList_o_l0 N R k0 k1 n) k0 k1
def r7_SameList_o_cps (N : Nat) (R : Type) (K : Bool → Option R) (v1 : (List Ex)) (v2 : (List Ex)) (v3 : Bool) : Option R :=
 (bif (!(decide ((v1.length : Int) = (v2.length : Int)))) then
 (K false)
 else
 (r7_SameList_o_l0 N _ ((K true)) K N v1 v2 v3 0))
def r7_SameList_o (N : Nat) (v1 : (List Ex)) (v2 : (List Ex)) (v3 : Bool) : Option (Bool × Unit) := r7_SameList_o_cps N _ (fun a0 => some (a0, ())) v1 v2 v3
/- frankpledge/frankpledgeref17.Same -/
def r7_Same_o_cps (N : Nat) (R : Type) (K : Bool → Option R) (v1 : Int) (v2 : Int) (v3 : Int) (v4 : (List UInt8)) (v5 : (List UInt8)) (v6 : (List UInt8)) (v7 : Int) (v8 : (List Ex)) (v9 : Int) (v10 : Int) (v11 : Int) (v12 : Int) (v13 : Int) (v14 : (List UInt8)) (v15 : (List UInt8)) (v16 : (List UInt8)) (v17 : Int) (v18 : (List Ex)) (v19 : Int) (v20 : Int) (v21 : Bool) : Option R :=
 (bif (!(decide (v1 = v11))) then
 (K false)
 else
 (bif (!((decide (v2 = v12)) && ((decide (v3 = v13)) && (decide (v4 = v14))))) then
 (K false)
 else
 (bif (!(decide (v5 = v15))) then
 (K false)
 else
 (bif (!(decide (v6 = v16))) then
 (K false)
 else
 (bif (!(decide (v7 = v17))) then
 (K false)
 else
 (bif (!(decide (v9 = v19))) then
 (K false)
 else
 (bif v21 then
 (bif (!(decide (v10 = v20))) then
 (K false)
 else
 (bif (!(decide ((v8.length : Int) = (v18.length : Int)))) then
 (K false)
 else
 (Option.bind (r7_SameList_o N v8 v18 v21) fun v22 =>
 (K v22.1))))
 else
 (bif (!(decide ((v8.length : Int) = (v18.length : Int)))) then
 (K false)
 else
 (Option.bind (r7_SameList_o N v8 v18 v21) fun v23 =>
 (K v23.1))))))))))
def r7_Same_o (N : Nat) (v1 : Int) (v2 : Int) (v3 : Int) (v4 : (List UInt8)) (v5 : (List UInt8)) (v6 : (List UInt8)) (v7 : Int) (v8 : (List Ex)) (v9 : Int) (v10 : Int) (v11 : Int) (v12 : Int) (v13 : Int) (v14 : (List UInt8)) (v15 : (List UInt8)) (v16 : (List UInt8)) (v17 : Int) (v18 : (List Ex)) (v19 : Int) (v20 : Int) (v21 : Bool) : Option (Bool × Unit) := r7_Same_o_cps N _ (fun a0 => some (a0, ())) v1 v2 v3 v4 v5 v6 v7 v8 v9 v10 v11 v12 v13 v14 v15 v16 v17 v18 v19 v20 v21
end
def Z_r7_Same_at (N : Nat) : Nat → Z_r7_Same
 | 0 => { r_r7_Same := fun _ _ _ _ _ _ _ _ _ _ _ _ _ _ _ _ _ _ _ _ _ => none }
 | n + 1 => letI : Z_r7_Same := Z_r7_Same_at N n; { r_r7_Same := (fun a0 a1 a2 a3 a4 a5 a6 a7 a8 a9 a10 a11 a12 a13 a14 a15 a16 a17 a18 a19 a20 => r7_Same_o N a0 a1 a2 a3 a4 a5 a6 a7 a8 a9 a10 a11 a12 a13 a14 a15 a16 a17 a18 a19 a20) }
def r7_SameList (N : Nat) (v1 : (List Ex)) (v2 : (List Ex)) (v3 : Bool) : Option (Bool × Unit) := letI : Z_r7_Same := Z_r7_Same_at N N; r7_SameList_o N v1 v2 v3
def r7_Same (N : Nat) (v1 : Int) (v2 : Int) (v3 : Int) (v4 : (List UInt8)) (v5 : (List UInt8)) (v6 : (List UInt8)) (v7 : Int) (v8 : (List Ex)) (v9 : Int) (v10 : Int) (v11 : Int) (v12 : Int) (v13 : Int) (v14 : (List UInt8)) (v15 : (List UInt8)) (v16 : (List UInt8)) (v17 : Int) (v18 : (List Ex)) (v19 : Int) (v20 : Int) (v21 : Bool) : Option (Bool × Unit) := letI : Z_r7_Same := Z_r7_Same_at N N; r7_Same_o N v1 v2 v3 v4 v5 v6 v7 v8 v9 v10 v11 v12 v13 v14 v15 v16 v17 v18 v19 v20 v21
def w7_ParseSpaces_l3B (N : Nat) (R : Type) (rec : Int → Int → (List UInt8) → (List UInt8) → Int → Int → Int → (List UInt8) → (List UInt8) → (List UInt8) → Int → (List Ex) → Int → Int → Int → Int → Int → (List UInt8) → (List UInt8) → (List UInt8) → Int → (List Ex) → Int → Int → (List Ex) → (List Ex) → (List (Ex × (Bool × Unit))) → Int → (List (List Ex)) → Q2 → Int → Int → (List UInt8) → (List UInt8) → Int → Int → Int → (List UInt8) → (List UInt8) → (List UInt8) → Int → (List Ex) → Int → Int → Int → Int → Int → (List UInt8) → (List UInt8) → (List UInt8) → Int → (List Ex) → Int → Int → (List Ex) → (List Ex) → (List (Ex × (Bool × Unit))) → Int → (List (List Ex)) → Q2 → Int → Int → (List UInt8) → (List UInt8) → Int → Int → Int → (List UInt8) → (List UInt8) → (List UInt8) → Int → (List Ex) → Int → Int → Int → Int → Int → (List UInt8) → (List UInt8) → (List UInt8) → Int → (List Ex) → Int → Int → (List Ex) → (List Ex) → (List (Ex × (Bool × Unit))) → Int → (List (List Ex)) → Q2 → Int → Option R) (k0 : Int → (List UInt8) → (List UInt8) → Int → Int → Int → (List UInt8) → (List UInt8) → (List UInt8) → Int → (List Ex) → Int → Int → Int → Int → Int → (List UInt8) → (List UInt8) → (List UInt8) → Int → (List Ex) → Int → Int → (List Ex) → (List Ex) → (List (Ex × (Bool × Unit))) → Int → (List (List Ex)) → Q2 → Int → Int → (List UInt8) → (List UInt8) → Int → Int → Int → (List UInt8) → (List UInt8) → (List UInt8) → Int → (List Ex) → Int → Int → Int → Int → Int → (List UInt8) → (List UInt8) → (List UInt8) → Int → (List Ex) → Int → Int → (List Ex) → (List Ex) → (List (Ex × (Bool × Unit))) → Int → (List (List Ex)) → Q2 → Int → Int → (List UInt8) → (List UInt8) → Int → Int → Int → (List UInt8) → (List UInt8) → (List UInt8) → Int → (List Ex) → Int → Int → Int → Int → Int → (List UInt8) → (List UInt8) → (List UInt8) → Int → (List Ex) → Int → Int → (List Ex) → (List Ex) → (List (Ex × (Bool × Unit))) → Int → (List (List Ex)) → Q2 → Int → Option R) (k1 : Bool → Int → (List UInt8) → (List UInt8) → Int → Int → Int → (List UInt8) → (List UInt8) → (List UInt8) → Int → (List Ex) → Int → Int → Int → Int → Int → (List UInt8) → (List UInt8) → (List UInt8) → Int → (List Ex) → Int → Int → (List Ex) → (List Ex) → (List (Ex × (Bool × Unit))) → Int → (List (List Ex)) → Q2 → Int → Int → (List UInt8) → (List UInt8) → Int → Int → Int → (List UInt8) → (List UInt8) → (List UInt8) → Int → (List Ex) → Int → Int → Int → Int → Int → (List UInt8) → (List UInt8) → (List UInt8) → Int → (List Ex) → Int → Int → (List Ex) → (List Ex) → (List (Ex × (Bool × Unit))) → Int → (List (List Ex)) → Q2 → Int → Int → (List UInt8) → (List UInt8) → Int → Int → Int → (List UInt8) → (List UInt8) → (List UInt8) → Int → (List Ex) → Int → Int → Int → Int → Int → (List UInt8) → (List UInt8) → (List UInt8) → Int → (List Ex) → Int → Int → (List Ex) → (List Ex) → (List (Ex × (Bool × Unit))) → Int → (List (List Ex)) → Q2 → Int → Option R) (v455 : Int) (v456 : Int) (v457 : (List UInt8)) (v458 : (List UInt8)) (v459 : Int) (v460 : Int) (v461 : Int) (v462 : (List UInt8)) (v463 : (List UInt8)) (v464 : (List UInt8)) (v465 : Int) (v466 : (List Ex)) (v467 : Int) (v468 : Int) (v469 : Int) (v470 : Int) (v471 : Int) (v472 : (List UInt8)) (v473 : (List UInt8)) (v474 : (List UInt8)) (v475 : Int) (v476 : (List Ex)) (v477 : Int) (v478 : Int) (v479 : (List Ex)) (v480 : (List Ex)) (v481 : (List (Ex × (Bool × Unit)))) (v482 : Int) (v483 : (List (List Ex))) (v484 : Q2) (v485 : Int) (v486 : Int) (v487 : (List UInt8)) (v488 : (List UInt8)) (v489 : Int) (v490 : Int) (v491 : Int) (v492 : (List UInt8)) (v493 : (List UInt8)) (v494 : (List UInt8)) (v495 : Int) (v496 : (List Ex)) (v497 : Int) (v498 : Int) (v499 : Int) (v500 : Int) (v501 : Int) (v502 : (List UInt8)) (v503 : (List UInt8)) (v504 : (List UInt8)) (v505 : Int) (v506 : (List Ex)) (v507 : Int) (v508 : Int) (v509 : (List Ex)) (v510 : (List Ex)) (v511 : (List (Ex × (Bool × Unit)))) (v512 : Int) (v513 : (List (List Ex))) (v514 : Q2) (v515 : Int) (v516 : Int) (v517 : (List UInt8)) (v518 : (List UInt8)) (v519 : Int) (v520 : Int) (v521 : Int) (v522 : (List UInt8)) (v523 : (List UInt8)) (v524 : (List UInt8)) (v525 : Int) (v526 : (List Ex)) (v527 : Int) (v528 : Int) (v529 : Int) (v530 : Int) (v531 : Int) (v532 : (List UInt8)) (v533 : (List UInt8)) (v534 : (List UInt8)) (v535 : Int) (v536 : (List Ex)) (v537 : Int) (v538 : Int) (v539 : (List Ex)) (v540 : (List Ex)) (v541 : (List (Ex × (Bool × Unit)))) (v542 : Int) (v543 : (List (List Ex))) (v544 : Q2) (v545 : Int) : Option R :=
 (bif (decide (v455 < (v479.length : Int))) then
 (Option.bind (nth v509 v455) fun v546 =>
 (Option.bind (nth v479 v455) fun v547 =>
 (Option.bind (r7_Same N (Ex.op v546) (Ex.vk v546) (Ex.vn v546) (Ex.vs v546) (Ex.tab v546) (Ex.name v546) (Ex.num v546) (Ex.kids v546) (Ex.kind v546) (Ex.at_ v546) (Ex.op v547) (Ex.vk v547) (Ex.vn v547) (Ex.vs v547) (Ex.tab v547) (Ex.name v547) (Ex.num v547) (Ex.kids v547) (Ex.kind v547) (Ex.at_ v547) false) fun v548 =>
 (Option.bind (nth v539 v455) fun v549 =>
 (Option.bind (nth v479 v455) fun v550 =>
 (Option.bind (r7_Same N (Ex.op v549) (Ex.vk v549) (Ex.vn v549) (Ex.vs v549) (Ex.tab v549) (Ex.name v549) (Ex.num v549) (Ex.kids v549) (Ex.kind v549) (Ex.at_ v549) (Ex.op v550) (Ex.vk v550) (Ex.vn v550) (Ex.vs v550) (Ex.tab v550) (Ex.name v550) (Ex.num v550) (Ex.kids v550) (Ex.kind v550) (Ex.at_ v550) false) fun v551 =>
 (bif (!v548.1) then
 (k1 false v456 v457 v458 v459 v460 v461 v462 v463 v464 v465 v466 v467 v468 v469 v470 v471 v472 v473 v474 v475 v476 v477 v478 v479 v480 v481 v482 v483 v484 v485 v486 v487 v488 v489 v490 v491 v492 v493 v494 v495 v496 v497 v498 v499 v500 v501 v502 v503 v504 v505 v506 v507 v508 v509 v510 v511 v512 v513 v514 v515 v516 v517 v518 v519 v520 v521 v522 v523 v524 v525 v526 v527 v528 v529 v530 v531 v532 v533 v534 v535 v536 v537 v538 v539 v540 v541 v542 v543 v544 v545)
 else
 (bif (!v551.1) then
 (k1 false v456 v457 v458 v459 v460 v461 v462 v463 v464 v465 v466 v467 v468 v469 v470 v471 v472 v473 v474 v475 v476 v477 v478 v479 v480 v481 v482 v483 v484 v485 v486 v487 v488 v489 v490 v491 v492 v493 v494 v495 v496 v497 v498 v499 v500 v501 v502 v503 v504 v505 v506 v507 v508 v509 v510 v511 v512 v513 v514 v515 v516 v517 v518 v519 v520 v521 v522 v523 v524 v525 v526 v527 v528 v529 v530 v531 v532 v533 v534 v535 v536 v537 v538 v539 v540 v541 v542 v543 v544 v545)
 else
 (rec (IntKind.wrap .i64 (v455 + 1)) v456 v457 v458 v459 v460 v461 v462 v463 v464 v465 v466 v467 v468 v469 v470 v471 v472 v473 v474 v475 v476 v477 v478 v479 v480 v481 v482 v483 v484 v485 v486 v487 v488 v489 v490 v491 v492 v493 v494 v495 v496 v497 v498 v499 v500 v501 v502 v503 v504 v505 v506 v507 v508 v509 v510 v511 v512 v513 v514 v515 v516 v517 v518 v519 v520 v521 v522 v523 v524 v525 v526 v527 v528 v529 v530 v531 v532 v533 v534 v535 v536 v537 v538 v539 v540 v541 v542 v543 v544 v545)))))))))
 else
 (k0 v456 v457 v458 v459 v460 v461 v462 v463 v464 v465 v466 v467 v468 v469 v470 v471 v472 v473 v474 v475 v476 v477 v478 v479 v480 v481 v482 v483 v484 v485 v486 v487 v488 v489 v490 v491 v492 v493 v494 v495 v496 v497 v498 v499 v500 v501 v502 v503 v504 v505 v506 v507 v508 v509 v510 v511 v512 v513 v514 v515 v516 v517 v518 v519 v520 v521 v522 v523 v524 v525 v526 v527 v528 v529 v530 v531 v532 v533 v534 v535 v536 v537 v538 v539 v540 v541 v542 v543 v544 v545))
def w7_ParseSpaces_l3 (N : Nat) (R : Type) (k0 : Int → (List UInt8) → (List UInt8) → Int → Int → Int → (List UInt8) → (List UInt8) → (List UInt8) → Int → (List Ex) → Int → Int → Int → Int → Int → (List UInt8) → (List UInt8) → (List UInt8) → Int → (List Ex) → Int → Int → (List Ex) → (List Ex) → (List (Ex × (Bool × Unit))) → Int → (List (List Ex)) → Q2 → Int → Int → (List UInt8) → (List UInt8) → Int → Int → Int → (List UInt8) → (List UInt8) → (List UInt8) → Int → (List Ex) → Int → Int → Int → Int → Int → (List UInt8) → (List UInt8) → (List UInt8) → Int → (List Ex) → Int → Int → (List Ex) → (List Ex) → (List (Ex × (Bool × Unit))) → Int → (List (List Ex)) → Q2 → Int → Int → (List UInt8) → (List UInt8) → Int → Int → Int → (List UInt8) → (List UInt8) → (List UInt8) → Int → (List Ex) → Int → Int → Int → Int → Int → (List UInt8) → (List UInt8) → (List UInt8) → Int → (List Ex) → Int → Int → (List Ex) → (List Ex) → (List (Ex × (Bool × Unit))) → Int → (List (List Ex)) → Q2 → Int → Option R) (k1 : Bool → Int → (List UInt8) → (List UInt8) → Int → Int → Int → (List UInt8) → (List UInt8) → (List UInt8) → Int → (List Ex) → Int → Int → Int → Int → Int → (List UInt8) → (List UInt8) → (List UInt8) → Int → (List Ex) → Int → Int → (List Ex) → (List Ex) → (List (Ex × (Bool × Unit))) → Int → (List (List Ex)) → Q2 → Int → Int → (List UInt8) → (List UInt8) → Int → Int → Int → (List UInt8) → (List UInt8) → (List UInt8) → Int → (List Ex) → Int → Int → Int → Int → Int → (List UInt8) → (List UInt8) → (List UInt8) → Int → (List Ex) → Int → Int → (List Ex) → (List Ex) → (List (Ex × (Bool × Unit))) → Int → (List (List Ex)) → Q2 → Int → Int → (List UInt8) → (List UInt8) → Int → Int → Int → (List UInt8) → (List UInt8) → (List UInt8) → Int → (List Ex) → Int → Int → Int → Int → Int → (List UInt8) → (List UInt8) → (List UInt8) → Int → (List Ex) → Int → Int → (List Ex) → (List Ex) → (List (Ex × (Bool × Unit))) → Int → (List (List Ex)) → Q2 → Int → Option R) : Nat → Int → Int → (List UInt8) → (List UInt8) → Int → Int → Int → (List UInt8) → (List UInt8) → (List UInt8) → Int → (List Ex) → Int → Int → Int → Int → Int → (List UInt8) → (List UInt8) → (List UInt8) → Int → (List Ex) → Int → Int → (List Ex) → (List Ex) → (List (Ex × (Bool × Unit))) → Int → (List (List Ex)) → Q2 → Int → Int → (List UInt8) → (List UInt8) → Int → Int → Int → (List UInt8) → (List UInt8) → (List UInt8) → Int → (List Ex) → Int → Int → Int → Int → Int → (List UInt8) → (List UInt8) → (List UInt8) → Int → (List Ex) → Int → Int → (List Ex) → (List Ex) → (List (Ex × (Bool × Unit))) → Int → (List (List Ex)) → Q2 → Int → Int → (List UInt8) → (List UInt8) → Int → Int → Int → (List UInt8) → (List UInt8) → (List UInt8) → Int → (List Ex) → Int → Int → Int → Int → Int → (List UInt8) → (List UInt8) → (List UInt8) → Int → (List Ex) → Int → Int → (List Ex) → (List Ex) → (List (Ex × (Bool × Unit))) → Int → (List (List Ex)) → Q2 → Int → Option R
 | 0 => fun _ _ _ _ _ _ _ _ _ _ _ _ _ _ _ _ _ _ _ _ _ _ _ _ _ _ _ _ _ _ _ _ _ _ _ _ _ _ _ _ _ _ _ _ _ _ _ _ _ _ _ _ _ _ _ _ _ _ _ _ _ _ _ _ _ _ _ _ _ _ _ _ _ _ _ _ _ _ _ _ _ _ _ _ _ _ _ _ _ _ _ => none
 | n + 1 => w7_ParseSpaces_l3B N R (w7_ParseSpaces_l3 N R k0 k1 n) k0 k1
def w7_ParseSpaces_j2 (N : Nat) (R : Type) (k0 : Bool → Int → (List UInt8) → (List UInt8) → Int → Int → Int → (List UInt8) → (List UInt8) → (List UInt8) → Int → (List Ex) → Int → Int → Int → Int → Int → (List UInt8) → (List UInt8) → (List UInt8) → Int → (List Ex) → Int → Int → (List Ex) → (List Ex) → (List (Ex × (Bool × Unit))) → Int → (List (List Ex)) → Q2 → Int → Int → (List UInt8) → (List UInt8) → Int → Int → Int → (List UInt8) → (List UInt8) → (List UInt8) → Int → (List Ex) → Int → Int → Int → Int → Int → (List UInt8) → (List UInt8) → (List UInt8) → Int → (List Ex) → Int → Int → (List Ex) → (List Ex) → (List (Ex × (Bool × Unit))) → Int → (List (List Ex)) → Q2 → Int → Int → (List UInt8) → (List UInt8) → Int → Int → Int → (List UInt8) → (List UInt8) → (List UInt8) → Int → (List Ex) → Int → Int → Int → Int → Int → (List UInt8) → (List UInt8) → (List UInt8) → Int → (List Ex) → Int → Int → (List Ex) → (List Ex) → (List (Ex × (Bool × Unit))) → Int → (List (List Ex)) → Q2 → Int → Option R) (v181 : Int) (v182 : (List UInt8)) (v183 : (List UInt8)) (v184 : Int) (v185 : Int) (v186 : Int) (v187 : (List UInt8)) (v188 : (List UInt8)) (v189 : (List UInt8)) (v190 : Int) (v191 : (List Ex)) (v192 : Int) (v193 : Int) (v194 : Int) (v195 : Int) (v196 : Int) (v197 : (List UInt8)) (v198 : (List UInt8)) (v199 : (List UInt8)) (v200 : Int) (v201 : (List Ex)) (v202 : Int) (v203 : Int) (v204 : (List Ex)) (v205 : (List Ex)) (v206 : (List (Ex × (Bool × Unit)))) (v207 : Int) (v208 : (List (List Ex))) (v209 : Q2) (v210 : Int) (v211 : Int) (v212 : (List UInt8)) (v213 : (List UInt8)) (v214 : Int) (v215 : Int) (v216 : Int) (v217 : (List UInt8)) (v218 : (List UInt8)) (v219 : (List UInt8)) (v220 : Int) (v221 : (List Ex)) (v222 : Int) (v223 : Int) (v224 : Int) (v225 : Int) (v226 : Int) (v227 : (List UInt8)) (v228 : (List UInt8)) (v229 : (List UInt8)) (v230 : Int) (v231 : (List Ex)) (v232 : Int) (v233 : Int) (v234 : (List Ex)) (v235 : (List Ex)) (v236 : (List (Ex × (Bool × Unit)))) (v237 : Int) (v238 : (List (List Ex))) (v239 : Q2) (v240 : Int) (v241 : Int) (v242 : (List UInt8)) (v243 : (List UInt8)) (v244 : Int) (v245 : Int) (v246 : Int) (v247 : (List UInt8)) (v248 : (List UInt8)) (v249 : (List UInt8)) (v250 : Int) (v251 : (List Ex)) (v252 : Int) (v253 : Int) (v254 : Int) (v255 : Int) (v256 : Int) (v257 : (List UInt8)) (v258 : (List UInt8)) (v259 : (List UInt8)) (v260 : Int) (v261 : (List Ex)) (v262 : Int) (v263 : Int) (v264 : (List Ex)) (v265 : (List Ex)) (v266 : (List (Ex × (Bool × Unit)))) (v267 : Int) (v268 : (List (List Ex))) (v269 : Q2) (v270 : Int) : Option R :=
 (w7_ParseSpaces_l3 N _ (fun v271 v272 v273 v274 v275 v276 v277 v278 v279 v280 v281 v282 v283 v284 v285 v286 v287 v288 v289 v290 v291 v292 v293 v294 v295 v296 v297 v298 v299 v300 v301 v302 v303 v304 v305 v306 v307 v308 v309 v310 v311 v312 v313 v314 v315 v316 v317 v318 v319 v320 v321 v322 v323 v324 v325 v326 v327 v328 v329 v330 v331 v332 v333 v334 v335 v336 v337 v338 v339 v340 v341 v342 v343 v344 v345 v346 v347 v348 v349 v350 v351 v352 v353 v354 v355 v356 v357 v358 v359 v360 =>
 (Option.bind (r7_Same N v314 v315 v316 v317 v318 v319 v320 v321 v322 v323 v284 v285 v286 v287 v288 v289 v290 v291 v292 v293 false) fun v361 =>
 (Option.bind (r7_Same N v344 v345 v346 v347 v348 v349 v350 v351 v352 v353 v284 v285 v286 v287 v288 v289 v290 v291 v292 v293 false) fun v362 =>
 (Option.bind (w7_alive N) fun v363 =>
 (bif v363.1 then
 (bif v361.1 then
 (bif v362.1 then
 (bif (decide (v327 = v297)) then
 (k0 (decide (v357 = v297)) v271 v272 v273 v274 v275 v276 v277 v278 v279 v280 v281 v282 v283 v284 v285 v286 v287 v288 v289 v290 v291 v292 v293 v294 v295 v296 v297 v298 v299 v300 v301 v302 v303 v304 v305 v306 v307 v308 v309 v310 v311 v312 v313 v314 v315 v316 v317 v318 v319 v320 v321 v322 v323 v324 v325 v326 v327 v328 v329 v330 v331 v332 v333 v334 v335 v336 v337 v338 v339 v340 v341 v342 v343 v344 v345 v346 v347 v348 v349 v350 v351 v352 v353 v354 v355 v356 v357 v358 v359 v360)
 else
 (k0 false v271 v272 v273 v274 v275 v276 v277 v278 v279 v280 v281 v282 v283 v284 v285 v286 v287 v288 v289 v290 v291 v292 v293 v294 v295 v296 v297 v298 v299 v300 v301 v302 v303 v304 v305 v306 v307 v308 v309 v310 v311 v312 v313 v314 v315 v316 v317 v318 v319 v320 v321 v322 v323 v324 v325 v326 v327 v328 v329 v330 v331 v332 v333 v334 v335 v336 v337 v338 v339 v340 v341 v342 v343 v344 v345 v346 v347 v348 v349 v350 v351 v352 v353 v354 v355 v356 v357 v358 v359 v360))
 else
 (k0 false v271 v272 v273 v274 v275 v276 v277 v278 v279 v280 v281 v282 v283 v284 v285 v286 v287 v288 v289 v290 v291 v292 v293 v294 v295 v296 v297 v298 v299 v300 v301 v302 v303 v304 v305 v306 v307 v308 v309 v310 v311 v312 v313 v314 v315 v316 v317 v318 v319 v320 v321 v322 v323 v324 v325 v326 v327 v328 v329 v330 v331 v332 v333 v334 v335 v336 v337 v338 v339 v340 v341 v342 v343 v344 v345 v346 v347 v348 v349 v350 v351 v352 v353 v354 v355 v356 v357 v358 v359 v360))
 else
 (k0 false v271 v272 v273 v274 v275 v276 v277 v278 v279 v280 v281 v282 v283 v284 v285 v286 v287 v288 v289 v290 v291 v292 v293 v294 v295 v296 v297 v298 v299 v300 v301 v302 v303 v304 v305 v306 v307 v308 v309 v310 v311 v312 v313 v314 v315 v316 v317 v318 v319 v320 v321 v322 v323 v324 v325 v326 v327 v328 v329 v330 v331 v332 v333 v334 v335 v336 v337 v338 v339 v340 v341 v342 v343 v344 v345 v346 v347 v348 v349 v350 v351 v352 v353 v354 v355 v356 v357 v358 v359 v360))
 else
 (k0 false v271 v272 v273 v274 v275 v276 v277 v278 v279 v280 v281 v282 v283 v284 v285 v286 v287 v288 v289 v290 v291 v292 v293 v294 v295 v296 v297 v298 v299 v300 v301 v302 v303 v304 v305 v306 v307 v308 v309 v310 v311 v312 v313 v314 v315 v316 v317 v318 v319 v320 v321 v322 v323 v324 v325 v326 v327 v328 v329 v330 v331 v332 v333 v334 v335 v336 v337 v338 v339 v340 v341 v342 v343 v344 v345 v346 v347 v348 v349 v350 v351 v352 v353 v354 v355 v356 v357 v358 v359 v360)))))) k0 N 0 v181 v182 v183 v184 v185 v186 v187 v188 v189 v190 v191 v192 v193 v194 v195 v196 v197 v198 v199 v200 v201 v202 v203 v204 v205 v206 v207 v208 v209 v210 v211 v212 v213 v214 v215 v216 v217 v218 v219 v220 v221 v222 v223 v224 v225 v226 v227 v228 v229 v230 v231 v232 v233 v234 v235 v236 v237 v238 v239 v240 v241 v242 v243 v244 v245 v246 v247 v248 v249 v250 v251 v252 v253 v254 v255 v256 v257 v258 v259 v260 v261 v262 v263 v264 v265 v266 v267 v268 v269 v270)
def w7_ParseSpaces_l1B (N : Nat) (R : Type) (rec : (List UInt8) → (List UInt8) → Q0 → (List UInt8) → Int → Int → (List UInt8) → (List UInt8) → Int → Int → Int → (List UInt8) → (List UInt8) → (List UInt8) → Int → (List Ex) → Int → Int → Int → Int → Int → (List UInt8) → (List UInt8) → (List UInt8) → Int → (List Ex) → Int → Int → (List Ex) → (List Ex) → (List (Ex × (Bool × Unit))) → Int → (List (List Ex)) → Q2 → Int → Option R) (k0 : (List UInt8) → (List UInt8) → Int → (List UInt8) → (List UInt8) → Int → Int → Int → (List UInt8) → (List UInt8) → (List UInt8) → Int → (List Ex) → Int → Int → Int → Int → Int → (List UInt8) → (List UInt8) → (List UInt8) → Int → (List Ex) → Int → Int → (List Ex) → (List Ex) → (List (Ex × (Bool × Unit))) → Int → (List (List Ex)) → Q2 → Int → Option R) (v138 : (List UInt8)) (v139 : (List UInt8)) (v140 : Q0) (v141 : (List UInt8)) (v142 : Int) (v143 : Int) (v144 : (List UInt8)) (v145 : (List UInt8)) (v146 : Int) (v147 : Int) (v148 : Int) (v149 : (List UInt8)) (v150 : (List UInt8)) (v151 : (List UInt8)) (v152 : Int) (v153 : (List Ex)) (v154 : Int) (v155 : Int) (v156 : Int) (v157 : Int) (v158 : Int) (v159 : (List UInt8)) (v160 : (List UInt8)) (v161 : (List UInt8)) (v162 : Int) (v163 : (List Ex)) (v164 : Int) (v165 : Int) (v166 : (List Ex)) (v167 : (List Ex)) (v168 : (List (Ex × (Bool × Unit)))) (v169 : Int) (v170 : (List (List Ex))) (v171 : Q2) (v172 : Int) : Option R :=
 (bif (decide ((IntKind.wrap .i64 (v142 + 1)) < (v140.length : Int))) then
 (bif (decide (v142 < (v139.length : Int))) then
 (Option.bind (nth v139 v142) fun v173 =>
 (Option.bind (nth ([32, 9, 10, 13] : List UInt8) (Int.tmod (v173.toNat : Int) 4)) fun v174 =>
 (Option.bind (nth v140 v142) fun v175 =>
 (Option.bind (nth v140 v142) fun v176 =>
 (Option.bind (nth v140 v142) fun v177 =>
 (bif (decide (0 ≤ (IntKind.wrap .i64 (v176.2.2.2.1 + (v177.2.1.length : Int))) ∧ (IntKind.wrap .i64 (v176.2.2.2.1 + (v177.2.1.length : Int))) ≤ ((v138.length : Nat) : Int))) then
 (bif (decide (0 ≤ v175.2.2.2.1 ∧ v175.2.2.2.1 ≤ (((Int.toNat (IntKind.wrap .i64 (v176.2.2.2.1 + (v177.2.1.length : Int)))) : Nat) : Int))) then
 (bif (room 1 (v141.length + (List.drop (Int.toNat v175.2.2.2.1) (List.take (Int.toNat (IntKind.wrap .i64 (v176.2.2.2.1 + (v177.2.1.length : Int)))) v138)).length)) then
 (bif (room 1 ((v141 ++ (List.drop (Int.toNat v175.2.2.2.1) (List.take (Int.toNat (IntKind.wrap .i64 (v176.2.2.2.1 + (v177.2.1.length : Int)))) v138))).length + ([(UInt8.ofNat (Int.toNat (v174.toNat : Int)))] : (List UInt8)).length)) then
 (rec v138 v139 v140 ((v141 ++ (List.drop (Int.toNat v175.2.2.2.1) (List.take (Int.toNat (IntKind.wrap .i64 (v176.2.2.2.1 + (v177.2.1.length : Int)))) v138))) ++ ([(UInt8.ofNat (Int.toNat (v174.toNat : Int)))] : (List UInt8))) (IntKind.wrap .i64 (v142 + 1)) v143 v144 v145 v146 v147 v148 v149 v150 v151 v152 v153 v154 v155 v156 v157 v158 v159 v160 v161 v162 v163 v164 v165 v166 v167 v168 v169 v170 v171 v172)
 else
 none)
 else
 none)
 else
 none)
 else
 none))))))
 else
 (Option.bind (nth v140 v142) fun v178 =>
 (Option.bind (nth v140 v142) fun v179 =>
 (Option.bind (nth v140 v142) fun v180 =>
 (bif (decide (0 ≤ (IntKind.wrap .i64 (v179.2.2.2.1 + (v180.2.1.length : Int))) ∧ (IntKind.wrap .i64 (v179.2.2.2.1 + (v180.2.1.length : Int))) ≤ ((v138.length : Nat) : Int))) then
 (bif (decide (0 ≤ v178.2.2.2.1 ∧ v178.2.2.2.1 ≤ (((Int.toNat (IntKind.wrap .i64 (v179.2.2.2.1 + (v180.2.1.length : Int)))) : Nat) : Int))) then
 (bif (room 1 (v141.length + (List.drop (Int.toNat v178.2.2.2.1) (List.take (Int.toNat (IntKind.wrap .i64 (v179.2.2.2.1 + (v180.2.1.length : Int)))) v138)).length)) then
 (bif (room 1 ((v141 ++ (List.drop (Int.toNat v178.2.2.2.1) (List.take (Int.toNat (IntKind.wrap .i64 (v179.2.2.2.1 + (v180.2.1.length : Int)))) v138))).length + ([32] : List UInt8).length)) then
 (rec v138 v139 v140 ((v141 ++ (List.drop (Int.toNat v178.2.2.2.1) (List.take (Int.toNat (IntKind.wrap .i64 (v179.2.2.2.1 + (v180.2.1.length : Int)))) v138))) ++ [32]) (IntKind.wrap .i64 (v142 + 1)) v143 v144 v145 v146 v147 v148 v149 v150 v151 v152 v153 v154 v155 v156 v157 v158 v159 v160 v161 v162 v163 v164 v165 v166 v167 v168 v169 v170 v171 v172)
 else
 none)
 else
 none)
 else
 none)
 else
 none)))))
 else
 (k0 v138 v141 v143 v144 v145 v146 v147 v148 v149 v150 v151 v152 v153 v154 v155 v156 v157 v158 v159 v160 v161 v162 v163 v164 v165 v166 v167 v168 v169 v170 v171 v172))
def w7_ParseSpaces_l1 (N : Nat) (R : Type) (k0 : (List UInt8) → (List UInt8) → Int → (List UInt8) → (List UInt8) → Int → Int → Int → (List UInt8) → (List UInt8) → (List UInt8) → Int → (List Ex) → Int → Int → Int → Int → Int → (List UInt8) → (List UInt8) → (List UInt8) → Int → (List Ex) → Int → Int → (List Ex) → (List Ex) → (List (Ex × (Bool × Unit))) → Int → (List (List Ex)) → Q2 → Int → Option R) : Nat → (List UInt8) → (List UInt8) → Q0 → (List UInt8) → Int → Int → (List UInt8) → (List UInt8) → Int → Int → Int → (List UInt8) → (List UInt8) → (List UInt8) → Int → (List Ex) → Int → Int → Int → Int → Int → (List UInt8) → (List UInt8) → (List UInt8) → Int → (List Ex) → Int → Int → (List Ex) → (List Ex) → (List (Ex × (Bool × Unit))) → Int → (List (List Ex)) → Q2 → Int → Option R
 | 0 => fun _ _ _ _ _ _ _ _ _ _ _ _ _ _ _ _ _ _ _ _ _ _ _ _ _ _ _ _ _ _ _ _ _ _ _ => none
 | n + 1 => w7_ParseSpaces_l1B N R (w7_ParseSpaces_l1 N R k0 n) k0
def w7_ParseSpaces_j0 (N : Nat) (R : Type) (k0 : Bool → Option R) (v7 : (List UInt8)) (v8 : (List UInt8)) (v9 : Q0) : Option R :=
 (Option.bind (parse_Parse N v7) fun v10 =>
 (bif (!(Err.isNil v10.2.2.2.2.2.2.2.2.2.2.2.2.2.2.2.2.2.2.2.2.2.2.2.2.2.2.2.2.2.2.1)) then
 (Option.bind (w7_alive N) fun v11 =>
 (k0 v11.1))
 else
 (w7_ParseSpaces_l1 N _ (fun v12 v13 v14 v15 v16 v17 v18 v19 v20 v21 v22 v23 v24 v25 v26 v27 v28 v29 v30 v31 v32 v33 v34 v35 v36 v37 v38 v39 v40 v41 v42 v43 =>
 (Option.bind (parse_Parse N v13) fun v44 =>
 (Option.bind (w7_great N v12) fun v45 =>
 (Option.bind (parse_Parse N v45.1) fun v46 =>
 (bif (!(Err.isNil v44.2.2.2.2.2.2.2.2.2.2.2.2.2.2.2.2.2.2.2.2.2.2.2.2.2.2.2.2.2.2.1)) then
 (k0 false)
 else
 (bif (!(Err.isNil v46.2.2.2.2.2.2.2.2.2.2.2.2.2.2.2.2.2.2.2.2.2.2.2.2.2.2.2.2.2.2.1)) then
 (k0 false)
 else
 (bif (!(decide (v44.1 = v14))) then
 (k0 false)
 else
 (bif (!(decide (v46.1 = v14))) then
 (k0 false)
 else
 (bif (!(decide (v44.2.1 = v15))) then
 (k0 false)
 else
 (bif (!(decide (v46.2.1 = v15))) then
 (k0 false)
 else
 (bif (!(decide ((v44.2.2.2.2.2.2.2.2.2.2.2.2.2.2.2.2.2.2.2.2.2.2.2.1.length : Int) = (v37.length : Int)))) then
 (k0 false)
 else
 (bif (!(decide ((v46.2.2.2.2.2.2.2.2.2.2.2.2.2.2.2.2.2.2.2.2.2.2.2.1.length : Int) = (v37.length : Int)))) then
 (k0 false)
 else
 (w7_ParseSpaces_j2 N _ (fun v47 v48 v49 v50 v51 v52 v53 v54 v55 v56 v57 v58 v59 v60 v61 v62 v63 v64 v65 v66 v67 v68 v69 v70 v71 v72 v73 v74 v75 v76 v77 v78 v79 v80 v81 v82 v83 v84 v85 v86 v87 v88 v89 v90 v91 v92 v93 v94 v95 v96 v97 v98 v99 v100 v101 v102 v103 v104 v105 v106 v107 v108 v109 v110 v111 v112 v113 v114 v115 v116 v117 v118 v119 v120 v121 v122 v123 v124 v125 v126 v127 v128 v129 v130 v131 v132 v133 v134 v135 v136 v137 =>
 (k0 v47)) v14 v15 v16 v17 v18 v19 v20 v21 v22 v23 v24 v25 v26 v27 v28 v29 v30 v31 v32 v33 v34 v35 v36 v37 v38 v39 v40 v41 v42 v43 v44.1 v44.2.1 v44.2.2.1 v44.2.2.2.1 v44.2.2.2.2.1 v44.2.2.2.2.2.1 v44.2.2.2.2.2.2.1 v44.2.2.2.2.2.2.2.1 v44.2.2.2.2.2.2.2.2.1 v44.2.2.2.2.2.2.2.2.2.1 v44.2.2.2.2.2.2.2.2.2.2.1 v44.2.2.2.2.2.2.2.2.2.2.2.1 v44.2.2.2.2.2.2.2.2.2.2.2.2.1 v44.2.2.2.2.2.2.2.2.2.2.2.2.2.1 v44.2.2.2.2.2.2.2.2.2.2.2.2.2.2.1 v44.2.2.2.2.2.2.2.2.2.2.2.2.2.2.2.1 v44.2.2.2.2.2.2.2.2.2.2.2.2.2.2.2.2.1 v44.2.2.2.2.2.2.2.2.2.2.2.2.2.2.2.2.2.1 v44.2.2.2.2.2.2.2.2.2.2.2.2.2.2.2.2.2.2.1 v44.2.2.2.2.2.2.2.2.2.2.2.2.2.2.2.2.2.2.2.1 v44.2.2.2.2.2.2.2.2.2.2.2.2.2.2.2.2.2.2.2.2.1 v44.2.2.2.2.2.2.2.2.2.2.2.2.2.2.2.2.2.2.2.2.2.1 v44.2.2.2.2.2.2.2.2.2.2.2.2.2.2.2.2.2.2.2.2.2.2.1 v44.2.2.2.2.2.2.2.2.2.2.2.2.2.2.2.2.2.2.2.2.2.2.2.1 v44.2.2.2.2.2.2.2.2.2.2.2.2.2.2.2.2.2.2.2.2.2.2.2.2.1 v44.2.2.2.2.2.2.2.2.2.2.2.2.2.2.2.2.2.2.2.2.2.2.2.2.2.1 v44.2.2.2.2.2.2.2.2.2.2.2.2.2.2.2.2.2.2.2.2.2.2.2.2.2.2.1 v44.2.2.2.2.2.2.2.2.2.2.2.2.2.2.2.2.2.2.2.2.2.2.2.2.2.2.2.1 v44.2.2.2.2.2.2.2.2.2.2.2.2.2.2.2.2.2.2.2.2.2.2.2.2.2.2.2.2.1 v44.2.2.2.2.2.2.2.2.2.2.2.2.2.2.2.2.2.2.2.2.2.2.2.2.2.2.2.2.2.1 v46.1 v46.2.1 v46.2.2.1 v46.2.2.2.1 v46.2.2.2.2.1 v46.2.2.2.2.2.1 v46.2.2.2.2.2.2.1 v46.2.2.2.2.2.2.2.1 v46.2.2.2.2.2.2.2.2.1 v46.2.2.2.2.2.2.2.2.2.1 v46.2.2.2.2.2.2.2.2.2.2.1 v46.2.2.2.2.2.2.2.2.2.2.2.1 v46.2.2.2.2.2.2.2.2.2.2.2.2.1 v46.2.2.2.2.2.2.2.2.2.2.2.2.2.1 v46.2.2.2.2.2.2.2.2.2.2.2.2.2.2.1 v46.2.2.2.2.2.2.2.2.2.2.2.2.2.2.2.1 v46.2.2.2.2.2.2.2.2.2.2.2.2.2.2.2.2.1 v46.2.2.2.2.2.2.2.2.2.2.2.2.2.2.2.2.2.1 v46.2.2.2.2.2.2.2.2.2.2.2.2.2.2.2.2.2.2.1 v46.2.2.2.2.2.2.2.2.2.2.2.2.2.2.2.2.2.2.2.1 v46.2.2.2.2.2.2.2.2.2.2.2.2.2.2.2.2.2.2.2.2.1 v46.2.2.2.2.2.2.2.2.2.2.2.2.2.2.2.2.2.2.2.2.2.1 v46.2.2.2.2.2.2.2.2.2.2.2.2.2.2.2.2.2.2.2.2.2.2.1 v46.2.2.2.2.2.2.2.2.2.2.2.2.2.2.2.2.2.2.2.2.2.2.2.1 v46.2.2.2.2.2.2.2.2.2.2.2.2.2.2.2.2.2.2.2.2.2.2.2.2.1 v46.2.2.2.2.2.2.2.2.2.2.2.2.2.2.2.2.2.2.2.2.2.2.2.2.2.1 v46.2.2.2.2.2.2.2.2.2.2.2.2.2.2.2.2.2.2.2.2.2.2.2.2.2.2.1 v46.2.2.2.2.2.2.2.2.2.2.2.2.2.2.2.2.2.2.2.2.2.2.2.2.2.2.2.1 v46.2.2.2.2.2.2.2.2.2.2.2.2.2.2.2.2.2.2.2.2.2.2.2.2.2.2.2.2.1 v46.2.2.2.2.2.2.2.2.2.2.2.2.2.2.2.2.2.2.2.2.2.2.2.2.2.2.2.2.2.1))))))))))))) N v7 v8 v9 [] 0 v10.1 v10.2.1 v10.2.2.1 v10.2.2.2.1 v10.2.2.2.2.1 v10.2.2.2.2.2.1 v10.2.2.2.2.2.2.1 v10.2.2.2.2.2.2.2.1 v10.2.2.2.2.2.2.2.2.1 v10.2.2.2.2.2.2.2.2.2.1 v10.2.2.2.2.2.2.2.2.2.2.1 v10.2.2.2.2.2.2.2.2.2.2.2.1 v10.2.2.2.2.2.2.2.2.2.2.2.2.1 v10.2.2.2.2.2.2.2.2.2.2.2.2.2.1 v10.2.2.2.2.2.2.2.2.2.2.2.2.2.2.1 v10.2.2.2.2.2.2.2.2.2.2.2.2.2.2.2.1 v10.2.2.2.2.2.2.2.2.2.2.2.2.2.2.2.2.1 v10.2.2.2.2.2.2.2.2.2.2.2.2.2.2.2.2.2.1 v10.2.2.2.2.2.2.2.2.2.2.2.2.2.2.2.2.2.2.1 v10.2.2.2.2.2.2.2.2.2.2.2.2.2.2.2.2.2.2.2.1 v10.2.2.2.2.2.2.2.2.2.2.2.2.2.2.2.2.2.2.2.2.1 v10.2.2.2.2.2.2.2.2.2.2.2.2.2.2.2.2.2.2.2.2.2.1 v10.2.2.2.2.2.2.2.2.2.2.2.2.2.2.2.2.2.2.2.2.2.2.1 v10.2.2.2.2.2.2.2.2.2.2.2.2.2.2.2.2.2.2.2.2.2.2.2.1 v10.2.2.2.2.2.2.2.2.2.2.2.2.2.2.2.2.2.2.2.2.2.2.2.2.1 v10.2.2.2.2.2.2.2.2.2.2.2.2.2.2.2.2.2.2.2.2.2.2.2.2.2.1 v10.2.2.2.2.2.2.2.2.2.2.2.2.2.2.2.2.2.2.2.2.2.2.2.2.2.2.1 v10.2.2.2.2.2.2.2.2.2.2.2.2.2.2.2.2.2.2.2.2.2.2.2.2.2.2.2.1 v10.2.2.2.2.2.2.2.2.2.2.2.2.2.2.2.2.2.2.2.2.2.2.2.2.2.2.2.2.1 v10.2.2.2.2.2.2.2.2.2.2.2.2.2.2.2.2.2.2.2.2.2.2.2.2.2.2.2.2.2.1)))
def w7_ParseSpaces_cps (N : Nat) (R : Type) (K : Bool → Option R) (v1 : (List UInt8)) (v2 : (List UInt8)) : Option R :=
 (Option.bind (r6_Lex N v1) fun v3 =>
 (bif (decide (300 < (v1.length : Int))) then
 (Option.bind (w7_alive N) fun v4 =>
 (K v4.1))
 else
 (bif (!v3.2.2.1) then
 (Option.bind (w7_alive N) fun v5 =>
 (K v5.1))
 else
 (w7_ParseSpaces_j0 N _ K v1 v2 v3.1))))
def w7_ParseSpaces (N : Nat) (v1 : (List UInt8)) (v2 : (List UInt8)) : Option (Bool × Unit) := w7_ParseSpaces_cps N _ (fun a0 => some (a0, ())) v1 v2
def ParseSpaces_Pure : Prop := ∀ x : denA [.str, (.slice .byte)], WfA [.str, (.slice .byte)] x → w7_ParseSpaces big x.1 x.2.1 = some (true, ())
end
end Go.Proofs.YtbikfekdakigiaaGreatDoor.E
