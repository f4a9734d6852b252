/-
  The walk: the code comes to the pure functions (printed by a program).
  Conditions: those that each statement prints, and no other.
-/
import Derived.Test.YtiloinbeojampaaGreatDoorGEVWa
import Derived.Test.YtiloinbeojampaaGreatDoorEvC
import Derived.Test.YtiloinbeojampaaGreatDoorEvL
import Derived.Lib.AppendIntMem
import Derived.Test.YtiloinbeojampaaGreatDoorShelf
import Derived.Test.YtiloinbeojampaaGreatDoorAs
import Derived.KernelRfl
import Derived.Test.YtiloinbeojampaaGreatDoorRows
import Derived.Test.YtiloinbeojampaaGreatDoorGEVF
set_option linter.unusedVariables false
set_option linter.unusedSimpArgs false
namespace Go.Proofs.YtiloinbeojampaaGreatDoor.E
open Go.Ev Go.ChangeShapes
set_option maxRecDepth 100000
noncomputable section
/-! 20 frankpledge/eval.Fit -/
def eval_Fit_j1F : JF S157 := fun R k => S157.app (eval_Fit_j1 big R (S158.ex k .normal) (S159.ex k .ret))
def eval_Fit_j1h : LH := lhJ S157 eval_Fit_j1F (ids [2, 4, 17] []) [] (ids [2, 4, 5] []) 2 none
def eval_Fit_j0F : JF S160 := fun R k => S160.app (eval_Fit_j0 big R (S158.ex k .normal) (S159.ex k .ret))
def eval_Fit_j0h : LH := lhJ S160 eval_Fit_j0F (ids [1, 2, 4, 6] []) [] (ids [2, 4, 5] []) 2 none
def eval_Fit_d : FD := ⟨B0.lean [fault_New_k] [], 1, [(1000002, eval_Fit_j0h), (1000004, eval_Fit_j1h)], [], [], Tryz.f20⟩
theorem eval_Fit_cs : CsOk PP X eval_Fit_d.cx := csL bOk mixed ⟨fault_New_ok, trivial⟩ trivial (by kernel_rfl)
theorem eval_Fit_J3 : JOkD eval_Fit_d 3 := jokD eval_Fit_j0F eval_Fit_j0h (by kernel_rfl) (by kernel_rfl) (fun _ _ _ => by kernel_rfl)
theorem eval_Fit_J7 : JOkD eval_Fit_d 7 := jokD eval_Fit_j1F eval_Fit_j1h (by kernel_rfl) (by kernel_rfl) (fun _ _ _ => by kernel_rfl)
theorem eval_Fit_w : ConOk PP X 20 eval_Fit_d.raw := rawD eval_Fit_cs Tryz.func20 (n := 0) (js := [3, 7]) (by kernel_rfl) trivial ⟨eval_Fit_J3, eval_Fit_J7, trivial⟩
theorem eval_Fit_T : TK eval_Fit_d.raw S63 R17 fun R => eval_Fit_cps big R := fun _ _ _ => by kernel_rfl
def eval_Fit_k : CR := kC 20 [] [] S63 R17 (eval_Fit big)
theorem eval_Fit_ok : eval_Fit_k.Ok PP X := okC eval_Fit_w _ eval_Fit_T (by kernel_rfl)
/-! 6 frankpledge/frankpledgelaw20.EvalFits -/
def law20_EvalFits_j3F : JF S161 := fun R k => S161.app (law20_EvalFits_j3 big R (S162.ex k .ret))
def law20_EvalFits_j3h : LH := lhJ S161 law20_EvalFits_j3F (ids [2, 5, 6, 7] []) [] (ids [4, 5, 6] []) 2 none
def law20_EvalFits_j2F : JF S163 := fun R k => S163.app (law20_EvalFits_j2 big R (S164.ex k .normal) (S162.ex k .ret))
def law20_EvalFits_j2h : LH := lhJ S163 law20_EvalFits_j2F (ids [2, 5, 6, 44] []) [] (ids [4, 5, 6] []) 2 none
def law20_EvalFits_j1F : JF S165 := fun R k => S165.app (law20_EvalFits_j1 big R (S164.ex k .normal) (S162.ex k .ret))
def law20_EvalFits_j1h : LH := lhJ S165 law20_EvalFits_j1F (ids [1, 2, 5, 6, 24] []) [] (ids [4, 5, 6] []) 2 none
def law20_EvalFits_j0F : JF S166 := fun R k => S166.app (law20_EvalFits_j0 big R (S162.ex k .ret))
def law20_EvalFits_j0h : LH := lhJ S166 law20_EvalFits_j0F (ids [1, 2] []) [] (ids [4, 5, 6] []) 1 none
def law20_EvalFits_d : FD := ⟨B0.lean [law20_alive_k, fault_Code_k, value_Right_k, eval_Fit_k] [], 1, [(1000003, law20_EvalFits_j0h), (1000005, law20_EvalFits_j1h), (1000007, law20_EvalFits_j2h), (1000008, law20_EvalFits_j3h)], [], [], Tryz.f6⟩
theorem law20_EvalFits_cs : CsOk PP X law20_EvalFits_d.cx := csL bOk mixed ⟨law20_alive_ok, fault_Code_ok, value_Right_ok, eval_Fit_ok, trivial⟩ trivial (by kernel_rfl)
theorem law20_EvalFits_J2 : JOkD law20_EvalFits_d 2 := jokD law20_EvalFits_j0F law20_EvalFits_j0h (by kernel_rfl) (by kernel_rfl) (fun _ _ _ => by kernel_rfl)
theorem law20_EvalFits_J10 : JOkD law20_EvalFits_d 10 := jokD law20_EvalFits_j1F law20_EvalFits_j1h (by kernel_rfl) (by kernel_rfl) (fun _ _ _ => by kernel_rfl)
theorem law20_EvalFits_J14 : JOkD law20_EvalFits_d 14 := jokD law20_EvalFits_j2F law20_EvalFits_j2h (by kernel_rfl) (by kernel_rfl) (fun _ _ _ => by kernel_rfl)
theorem law20_EvalFits_J16 : JOkD law20_EvalFits_d 16 := jokD law20_EvalFits_j3F law20_EvalFits_j3h (by kernel_rfl) (by kernel_rfl) (fun _ _ _ => by kernel_rfl)
theorem law20_EvalFits_w : ConOk PP X 6 law20_EvalFits_d.raw := rawD law20_EvalFits_cs Tryz.func6 (n := 0) (js := [2, 10, 14, 16]) (by kernel_rfl) trivial ⟨law20_EvalFits_J2, law20_EvalFits_J10, law20_EvalFits_J14, law20_EvalFits_J16, trivial⟩
theorem law20_EvalFits_T : TK law20_EvalFits_d.raw S63 R4 fun R => law20_EvalFits_cps big R := fun _ _ _ => by kernel_rfl
def law20_EvalFits_k : CR := kC 6 [] [] S63 R4 (law20_EvalFits big)
theorem law20_EvalFits_ok : law20_EvalFits_k.Ok PP X := okC law20_EvalFits_w _ law20_EvalFits_T (by kernel_rfl)

end
end Go.Proofs.YtiloinbeojampaaGreatDoor.E
