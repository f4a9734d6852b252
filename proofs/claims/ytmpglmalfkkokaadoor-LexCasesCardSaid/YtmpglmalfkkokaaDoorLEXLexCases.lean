/-
  The row of the law LexCases, out of the pure statement (printed by a program).
  Conditions: those that each statement prints, and no other.
-/
import Derived.Test.YtmpglmalfkkokaaDoorLEXL0
set_option linter.unusedVariables false
set_option linter.unusedSimpArgs false
/-! The rows of the laws, printed by wip/gen. -/
namespace Go.Proofs.YtmpglmalfkkokaaDoor.E
open Go.Ev Go.ChangeShapes
set_option maxRecDepth 100000
noncomputable section
theorem LexCases_glob (W : World) (hL : laidMetH Go.Proofs.Tryd.prog Rows.lexCasesRow.laid W) (hS : W.ShapedOpen Go.Proofs.Tryd.prog) : GlobOk X (fun _ => none) W := by
  have hL1 : laidMet Go.Proofs.Tryd.prog Rows.lexCasesRow.laid W := by rw [MakeChecks.laidMetH_plain _ _ _ (by kernel_rfl)] at hL; exact hL
  exact GlobOk.of_list (l := [(2, errP), (3, errP)]) rfl fun x hx => by
    simp only [List.mem_cons, List.not_mem_nil, or_false] at hx
    rcases hx with rfl | rfl
    · exact glob_err (Lib.laidMet.reads hL1 (.tail _ (.tail _ (.tail _ (.tail _ (.tail _ (.head _))))))) (t := 27) (by kernel_rfl) (by kernel_rfl) Go.Proofs.Tryd.underlying27
    · exact glob_err (Lib.laidMet.reads hL1 (.tail _ (.tail _ (.tail _ (.tail _ (.head _)))))) (t := 27) (by kernel_rfl) (by kernel_rfl) Go.Proofs.Tryd.underlying27
theorem LexCases_witness (os : Os) {H : Type} (enc : TypeId × Value → H) :
    (OpenSpec.ofChange Rows.lexCasesSpec).preRow enc Go.Proofs.Tryd.prog Go.Proofs.Tryd.f11 Rows.lexCasesRow.domain false Rows.lexCasesRow.laid ((laid0_world os).forCall (fun _ _ => 0) ⟨#[], #[.string ByteArray.empty], []⟩).memory #[.string ByteArray.empty] := by
  have hw : (DataW.whole enc Go.Proofs.Tryd.prog ((laid0_world os).forCall (fun _ _ => 0) ⟨#[], #[.string ByteArray.empty], []⟩).memory Go.Proofs.Tryd.f11.params.toList (OpenSpec.ofChange Rows.lexCasesSpec).vars false (#[.string ByteArray.empty] : Array Value).toList 8).map (fun x => (x.1, x.2.1)) =
      some ([.lit (.string [])], []) := by kernel_rfl
  obtain ⟨⟨x1, x2, x3⟩, hx, hx1⟩ := Option.map_eq_some_iff.1 hw
  simp only [Prod.mk.injEq] at hx1
  obtain ⟨rfl, rfl⟩ := hx1
  exact OpenSpec.preRow_of_cond 8 hx (by kernel_rfl) (fun k hk => by cases hk) (by kernel_rfl) (laid0_met os _)
theorem LexCases_lifted (pure : LexCases_Pure) (os : Os) (started : os.Started) (H : Type) (enc : TypeId × Value → H) (F : Stop.Interp) :
    ReturnsInHanded {} Go.Proofs.Tryd.checked os 11 .any ((OpenSpec.ofChange Rows.lexCasesSpec).preRow enc Go.Proofs.Tryd.prog Go.Proofs.Tryd.f11 Rows.lexCasesRow.domain false Rows.lexCasesRow.laid) (((OpenSpec.ofChange Rows.lexCasesSpec).at F).post enc Go.Proofs.Tryd.prog Go.Proofs.Tryd.f11 false true false false) :=
  law_lifted_laid (C := Go.Proofs.Tryd.checked) (X := X) F 8 [.str] ownKnob0 started (by kernel_rfl) Go.Proofs.Tryd.func11 rfl
      (witness_row_atRef (enc := enc) (C := Go.Proofs.Tryd.checked) false (laid0_world os) #[.string ByteArray.empty] (laid0_os os) (laid0_vars os _) (laid0_rest os _) (by kernel_rfl) (LexCases_witness os enc))
      rfl (fun ds h => match ds, h with | [_], _ => rfl) ⟨_, rfl, by kernel_rfl⟩ (by kernel_rfl) laidOut0 (by kernel_rfl) law16_LexCases_raw LexCases_glob
      (fun x hx => (law16_LexCases_T (Bool × Unit) askB (x.1, ())).trans (pure x hx))
theorem LexCases_of (pure : LexCases_Pure) : Rows.LexCasesSaid :=
  OpenClaim.holds_of_cond 11 Go.Proofs.Tryd.f11 rfl rfl rfl rfl rfl rfl rfl ⟨rfl, rfl, rfl, rfl, rfl⟩ rfl rfl rfl rfl rfl (by kernel_rfl) Go.Proofs.Tryd.func11 (by kernel_rfl)
    (of_decide_eq_true (by kernel_rfl)) (by unfold Func.isWrapper; rw [if_neg (of_decide_eq_false (by kernel_rfl))]; exact ⟨rfl, rfl⟩)
    (fun os started H enc _ F0 => by rw [OpenClaim.pre_eq_preRow]; exact LexCases_lifted pure os started H enc F0)
theorem LexCases_card (pure : LexCases_Pure) : Rows.LexCasesCardSaid :=
  Claim7.holds_tied_plain_at .later [] [.data, .data, .data, .data, .sentinel, .sentinel, .pinned, .pinned] true (true, "3284edeca586ef6eef2b0cba483ca10b560abbccdb460e03672b860eba2fcf7f") true
    (LexCases_of pure) (fun _ h => by cases h) (by kernel_rfl) (fun _ h => by cases h) lexCases_row_tie rfl ⟨rfl, rfl⟩ (by kernel_rfl) rfl
    (fun f fn hf hfn => by
      obtain rfl : f = 11 := Option.some.inj ((show Go.Proofs.Tryd.prog.funcNamed Rows.lexCasesRow.func = some 11 by kernel_rfl).symm.trans hf) |>.symm
      obtain rfl : fn = Go.Proofs.Tryd.f11 := (Option.some.inj (Go.Proofs.Tryd.func11.symm.trans hfn)).symm
      refine ⟨by kernel_rfl, fun j t ht => ?_⟩
      have h0 := List.all_eq_true.1 (show Go.Proofs.Tryd.f11.params.toList.all (fun t => !(Go.Proofs.Tryd.prog.wantsStandIn t)) = true by kernel_rfl) t (List.mem_of_getElem? (i := j) (by simpa using ht))
      show Go.Proofs.Tryd.prog.wantsStandIn t = false
      simpa using h0)
    (by kernel_rfl)

end
end Go.Proofs.YtmpglmalfkkokaaDoor.E
