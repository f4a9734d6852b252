/-
  The row of the law LexJoined, out of the pure statement (printed by a program).
  Conditions: those that each statement prints, and no other.
-/
import Derived.Test.YtmpglmalfkkokaaDoorLEXL0
set_option linter.unusedVariables false
set_option linter.unusedSimpArgs false
/-! The rows of the laws, printed by wip/gen. -/
namespace Go.Proofs.YtmpglmalfkkokaaDoor.E
open Go.Ev Go.ChangeShapes
set_option maxRecDepth 100000
noncomputable section
theorem LexJoined_glob (W : World) (hL : laidMetH Go.Proofs.Tryd.prog Rows.lexJoinedRow.laid W) (hS : W.ShapedOpen Go.Proofs.Tryd.prog) : GlobOk X (fun _ => none) W := by
  have hL1 : laidMet Go.Proofs.Tryd.prog Rows.lexJoinedRow.laid W := by rw [MakeChecks.laidMetH_plain _ _ _ (by kernel_rfl)] at hL; exact hL
  exact GlobOk.of_list (l := [(2, errP), (3, errP)]) rfl fun x hx => by
    simp only [List.mem_cons, List.not_mem_nil, or_false] at hx
    rcases hx with rfl | rfl
    · exact glob_err (Lib.laidMet.reads hL1 (.tail _ (.tail _ (.tail _ (.tail _ (.tail _ (.head _))))))) (t := 27) (by kernel_rfl) (by kernel_rfl) Go.Proofs.Tryd.underlying27
    · exact glob_err (Lib.laidMet.reads hL1 (.tail _ (.tail _ (.tail _ (.tail _ (.head _)))))) (t := 27) (by kernel_rfl) (by kernel_rfl) Go.Proofs.Tryd.underlying27
theorem LexJoined_witness (os : Os) {H : Type} (enc : TypeId × Value → H) :
    (OpenSpec.ofChange Rows.lexJoinedSpec).preRow enc Go.Proofs.Tryd.prog Go.Proofs.Tryd.f10 Rows.lexJoinedRow.domain false Rows.lexJoinedRow.laid ((laid0_world os).forCall (fun _ _ => 0) ⟨#[], #[.string ByteArray.empty, .string ByteArray.empty], []⟩).memory #[.string ByteArray.empty, .string ByteArray.empty] := by
  have hw : (DataW.whole enc Go.Proofs.Tryd.prog ((laid0_world os).forCall (fun _ _ => 0) ⟨#[], #[.string ByteArray.empty, .string ByteArray.empty], []⟩).memory Go.Proofs.Tryd.f10.params.toList (OpenSpec.ofChange Rows.lexJoinedSpec).vars false (#[.string ByteArray.empty, .string ByteArray.empty] : Array Value).toList 8).map (fun x => (x.1, x.2.1)) =
      some ([.lit (.string []), .lit (.string [])], []) := by kernel_rfl
  obtain ⟨⟨x1, x2, x3⟩, hx, hx1⟩ := Option.map_eq_some_iff.1 hw
  simp only [Prod.mk.injEq] at hx1
  obtain ⟨rfl, rfl⟩ := hx1
  exact OpenSpec.preRow_of_cond 8 hx (by kernel_rfl) (fun k hk => by cases hk) (by kernel_rfl) (laid0_met os _)
theorem LexJoined_lifted (pure : LexJoined_Pure) (os : Os) (started : os.Started) (H : Type) (enc : TypeId × Value → H) (F : Stop.Interp) :
    ReturnsInHanded {} Go.Proofs.Tryd.checked os 10 .any ((OpenSpec.ofChange Rows.lexJoinedSpec).preRow enc Go.Proofs.Tryd.prog Go.Proofs.Tryd.f10 Rows.lexJoinedRow.domain false Rows.lexJoinedRow.laid) (((OpenSpec.ofChange Rows.lexJoinedSpec).at F).post enc Go.Proofs.Tryd.prog Go.Proofs.Tryd.f10 false true false false) :=
  law_lifted_laid (C := Go.Proofs.Tryd.checked) (X := X) F 8 [.str, .str] ownKnob0 started (by kernel_rfl) Go.Proofs.Tryd.func10 rfl
      (witness_row_atRef (enc := enc) (C := Go.Proofs.Tryd.checked) false (laid0_world os) #[.string ByteArray.empty, .string ByteArray.empty] (laid0_os os) (laid0_vars os _) (laid0_rest os _) (by kernel_rfl) (LexJoined_witness os enc))
      rfl (fun ds h => match ds, h with | [_, _], _ => rfl) ⟨_, rfl, by kernel_rfl⟩ (by kernel_rfl) laidOut0 (by kernel_rfl) law16_LexJoined_raw LexJoined_glob
      (fun x hx => (law16_LexJoined_T (Bool × Unit) askB (x.1, x.2.1, ())).trans (pure x hx))
theorem LexJoined_of (pure : LexJoined_Pure) : Rows.LexJoinedSaid :=
  OpenClaim.holds_of_cond 10 Go.Proofs.Tryd.f10 rfl rfl rfl rfl rfl rfl rfl ⟨rfl, rfl, rfl, rfl, rfl⟩ rfl rfl rfl rfl rfl (by kernel_rfl) Go.Proofs.Tryd.func10 (by kernel_rfl)
    (of_decide_eq_true (by kernel_rfl)) (by unfold Func.isWrapper; rw [if_neg (of_decide_eq_false (by kernel_rfl))]; exact ⟨rfl, rfl⟩)
    (fun os started H enc _ F0 => by rw [OpenClaim.pre_eq_preRow]; exact LexJoined_lifted pure os started H enc F0)
theorem LexJoined_card (pure : LexJoined_Pure) : Rows.LexJoinedCardSaid :=
  Claim7.holds_tied_plain_at .later [] [.data, .data, .data, .data, .sentinel, .sentinel, .pinned, .pinned] true (true, "3284edeca586ef6eef2b0cba483ca10b560abbccdb460e03672b860eba2fcf7f") true
    (LexJoined_of pure) (fun _ h => by cases h) (by kernel_rfl) (fun _ h => by cases h) lexJoined_row_tie rfl ⟨rfl, rfl⟩ (by kernel_rfl) rfl
    (fun f fn hf hfn => by
      obtain rfl : f = 10 := Option.some.inj ((show Go.Proofs.Tryd.prog.funcNamed Rows.lexJoinedRow.func = some 10 by kernel_rfl).symm.trans hf) |>.symm
      obtain rfl : fn = Go.Proofs.Tryd.f10 := (Option.some.inj (Go.Proofs.Tryd.func10.symm.trans hfn)).symm
      refine ⟨by kernel_rfl, fun j t ht => ?_⟩
      have h0 := List.all_eq_true.1 (show Go.Proofs.Tryd.f10.params.toList.all (fun t => !(Go.Proofs.Tryd.prog.wantsStandIn t)) = true by kernel_rfl) t (List.mem_of_getElem? (i := j) (by simpa using ht))
      show Go.Proofs.Tryd.prog.wantsStandIn t = false
      simpa using h0)
    (by kernel_rfl)

end
end Go.Proofs.YtmpglmalfkkokaaDoor.E
