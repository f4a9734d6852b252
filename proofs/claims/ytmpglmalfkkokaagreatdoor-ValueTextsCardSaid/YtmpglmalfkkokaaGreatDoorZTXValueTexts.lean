/-
  The row of the law ValueTexts, out of the pure statement (printed by a program).
  Conditions: those that each statement prints, and no other.
-/
import Derived.Test.YtmpglmalfkkokaaGreatDoorZTXL0
set_option linter.unusedVariables false
set_option linter.unusedSimpArgs false
/-! The rows of the laws, printed by wip/gen. -/
namespace Go.Proofs.YtmpglmalfkkokaaGreatDoor.E
open Go.Ev Go.ChangeShapes
set_option maxRecDepth 100000
noncomputable section
theorem ValueTexts_glob (W : World) (hL : laidMetH Go.Proofs.Tryz.prog Rows.valueTextsRow.laid W) (hS : W.ShapedOpen Go.Proofs.Tryz.prog) : GlobOk X (fun _ => none) W := by
  have hL1 := (laidMetH_iff.1 hL).1
  exact GlobOk.of_list (l := [(1, tabP (Lib.pow10Tab.map fun z => Value.int .u64 z).toArray), (2, numP), (3, errP), (4, errP), (0, handP 136 10 27)]) rfl fun x hx => by
    simp only [List.mem_cons, List.not_mem_nil, or_false] at hx
    rcases hx with rfl | rfl | rfl | rfl | rfl
    · exact glob_tab ((by kernel_rfl : Rows.laid_internal_strconv_uint64pow10 (H := Unit) = Lib.tabData .u64 Lib.pow10Tab) ▸ (Lib.laidMet.reads hL1 (mem_plain (.tail _ (.tail _ (.head _))) (by kernel_rfl)))) (t := 150) (e := 65) (m := 20) (by kernel_rfl) (by kernel_rfl) (by kernel_rfl) (by kernel_rfl) (by kernel_rfl) (by kernel_rfl)
    · exact glob_num (Go.Proofs.cell_of_shapedOpen_int (zero := #[.int .i64 0]) (t := 3) hS (of_decide_eq_true (by kernel_rfl)) (by kernel_rfl) rfl (by kernel_rfl) (by kernel_rfl) Go.Proofs.Tryz.underlying3)
    · exact glob_err (Lib.laidMet.reads hL1 (mem_plain (.tail _ (.tail _ (.tail _ (.tail _ (.tail _ (.tail _ (.head _))))))) (by kernel_rfl))) (t := 27) (by kernel_rfl) (by kernel_rfl) Go.Proofs.Tryz.underlying27
    · exact glob_err (Lib.laidMet.reads hL1 (mem_plain (.tail _ (.tail _ (.tail _ (.tail _ (.tail _ (.head _)))))) (by kernel_rfl))) (t := 27) (by kernel_rfl) (by kernel_rfl) Go.Proofs.Tryz.underlying27
    · exact glob_hand hL (.tail _ (.tail _ (.tail _ (.tail _ (.head _))))) (s := [101, 114, 114, 111, 114]) (by kernel_rfl) (by kernel_rfl) (by kernel_rfl) (by kernel_rfl) (by kernel_rfl) (by kernel_rfl)
theorem ValueTexts_witness (os : Os) {H : Type} (enc : TypeId × Value → H) :
    (OpenSpec.ofChange Rows.valueTextsSpec).preRow enc Go.Proofs.Tryz.prog Go.Proofs.Tryz.f3 Rows.valueTextsRow.domain false Rows.valueTextsRow.laid ((laid0_world os).forCall (fun _ _ => 0) ⟨#[], #[.agg #[.int .i64 0, .int .i64 0, .string ByteArray.empty], .string ByteArray.empty], []⟩).memory #[.agg #[.int .i64 0, .int .i64 0, .string ByteArray.empty], .string ByteArray.empty] := by
  have hw : (DataW.whole enc Go.Proofs.Tryz.prog ((laid0_world os).forCall (fun _ _ => 0) ⟨#[], #[.agg #[.int .i64 0, .int .i64 0, .string ByteArray.empty], .string ByteArray.empty], []⟩).memory Go.Proofs.Tryz.f3.params.toList (OpenSpec.ofChange Rows.valueTextsSpec).vars false (#[.agg #[.int .i64 0, .int .i64 0, .string ByteArray.empty], .string ByteArray.empty] : Array Value).toList 8).map (fun x => (x.1, x.2.1)) =
      some ([.agg [.lit (.int .i64 0), .lit (.int .i64 0), .lit (.string [])], .lit (.string [])], []) := by kernel_rfl
  obtain ⟨⟨x1, x2, x3⟩, hx, hx1⟩ := Option.map_eq_some_iff.1 hw
  simp only [Prod.mk.injEq] at hx1
  obtain ⟨rfl, rfl⟩ := hx1
  exact OpenSpec.preRow_of_cond 8 hx (by kernel_rfl) (fun k hk => by cases hk) (by kernel_rfl) (laid0_met os _)
theorem ValueTexts_lifted (pure : ValueTexts_Pure) (os : Os) (started : os.Started) (H : Type) (enc : TypeId × Value → H) (F : Stop.Interp) :
    ReturnsInHanded {} Go.Proofs.Tryz.checked os 3 .any ((OpenSpec.ofChange Rows.valueTextsSpec).preRow enc Go.Proofs.Tryz.prog Go.Proofs.Tryz.f3 Rows.valueTextsRow.domain false Rows.valueTextsRow.laid) (((OpenSpec.ofChange Rows.valueTextsSpec).at F).post enc Go.Proofs.Tryz.prog Go.Proofs.Tryz.f3 false true false false) :=
  law_lifted_laid (C := Go.Proofs.Tryz.checked) (X := X) F 8 [(.pair (.int .i64) (.pair (.int .i64) (.pair .str .unit))), .str] ownKnob0 started (by kernel_rfl) Go.Proofs.Tryz.func3 rfl
      (witness_row_atRef (enc := enc) (C := Go.Proofs.Tryz.checked) false (laid0_world os) #[.agg #[.int .i64 0, .int .i64 0, .string ByteArray.empty], .string ByteArray.empty] (laid0_os os) (laid0_vars os _) (laid0_rest os _) (by kernel_rfl) (ValueTexts_witness os enc))
      rfl (fun ds h => match ds, h with | [_, _], _ => rfl) ⟨_, rfl, by kernel_rfl⟩ (by kernel_rfl) laidOut0 (by kernel_rfl) law02_ValueTexts_raw ValueTexts_glob
      (fun x hx => (law02_ValueTexts_T (Bool × Unit) askB (x.1.1, x.1.2.1, x.1.2.2.1, x.2.1, ())).trans (pure x hx))
theorem ValueTexts_of (pure : ValueTexts_Pure) : Rows.ValueTextsSaid :=
  OpenClaim.holds_of_cond 3 Go.Proofs.Tryz.f3 rfl rfl rfl rfl rfl rfl rfl ⟨rfl, rfl, rfl, rfl, rfl⟩ rfl rfl rfl rfl rfl (by kernel_rfl) Go.Proofs.Tryz.func3 (by kernel_rfl)
    (of_decide_eq_true (by kernel_rfl)) (by unfold Func.isWrapper; rw [if_neg (of_decide_eq_false (by kernel_rfl))]; exact ⟨rfl, rfl⟩)
    (fun os started H enc _ F0 => by rw [OpenClaim.pre_eq_preRow]; exact ValueTexts_lifted pure os started H enc F0)
theorem ValueTexts_card (pure : ValueTexts_Pure) : Rows.ValueTextsCardSaid :=
  Claim7.holds_tied_plain_at .later [] [.data, .data, .data, .data, .handle, .sentinel, .sentinel, .pinned] true (true, "6894fd141e53c242ce759137295f6b0256cbcc55d973f951a92c22b3b7ac6ac8") true
    (ValueTexts_of pure) (fun _ h => by cases h) (by kernel_rfl) (fun _ h => by cases h) valueTexts_row_tie rfl ⟨rfl, rfl⟩ (by kernel_rfl) rfl
    (fun f fn hf hfn => by
      obtain rfl : f = 3 := Option.some.inj ((show Go.Proofs.Tryz.prog.funcNamed Rows.valueTextsRow.func = some 3 by kernel_rfl).symm.trans hf) |>.symm
      obtain rfl : fn = Go.Proofs.Tryz.f3 := (Option.some.inj (Go.Proofs.Tryz.func3.symm.trans hfn)).symm
      refine ⟨by kernel_rfl, fun j t ht => ?_⟩
      have h0 := List.all_eq_true.1 (show Go.Proofs.Tryz.f3.params.toList.all (fun t => !(Go.Proofs.Tryz.prog.wantsStandIn t)) = true by kernel_rfl) t (List.mem_of_getElem? (i := j) (by simpa using ht))
      show Go.Proofs.Tryz.prog.wantsStandIn t = false
      simpa using h0)
    (by kernel_rfl)

end
end Go.Proofs.YtmpglmalfkkokaaGreatDoor.E
