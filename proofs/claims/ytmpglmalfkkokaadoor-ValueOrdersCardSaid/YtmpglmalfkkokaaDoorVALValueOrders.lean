/-
  The row of the law ValueOrders, out of the pure statement (printed by a program).
  Conditions: those that each statement prints, and no other.
-/
import Derived.Test.YtmpglmalfkkokaaDoorVALL0
set_option linter.unusedVariables false
set_option linter.unusedSimpArgs false
/-! The rows of the laws, printed by wip/gen. -/
namespace Go.Proofs.YtmpglmalfkkokaaDoor.E
open Go.Ev Go.ChangeShapes
set_option maxRecDepth 100000
noncomputable section
theorem ValueOrders_glob (W : World) (hL : laidMetH Go.Proofs.Tryd.prog Rows.valueOrdersRow.laid W) (hS : W.ShapedOpen Go.Proofs.Tryd.prog) : GlobOk X (fun _ => none) W := by
  have hL1 : laidMet Go.Proofs.Tryd.prog Rows.valueOrdersRow.laid W := by rw [MakeChecks.laidMetH_plain _ _ _ (by kernel_rfl)] at hL; exact hL
  exact GlobOk.of_list (l := [(0, tabP (Lib.pow10Tab.map fun z => Value.int .u64 z).toArray), (1, numP), (2, errP), (3, errP)]) rfl fun x hx => by
    simp only [List.mem_cons, List.not_mem_nil, or_false] at hx
    rcases hx with rfl | rfl | rfl | rfl
    · exact glob_tab ((by kernel_rfl : Rows.laid_internal_strconv_uint64pow10 (H := Unit) = Lib.tabData .u64 Lib.pow10Tab) ▸ (Lib.laidMet.reads hL1 (.tail _ (.tail _ (.head _))))) (t := 127) (e := 100) (m := 20) (by kernel_rfl) (by kernel_rfl) (by kernel_rfl) (by kernel_rfl) (by kernel_rfl) (by kernel_rfl)
    · exact glob_num (Go.Proofs.cell_of_shapedOpen_int (zero := #[.int .i64 0]) (t := 3) hS (of_decide_eq_true (by kernel_rfl)) (by kernel_rfl) rfl (by kernel_rfl) (by kernel_rfl) Go.Proofs.Tryd.underlying3)
    · exact glob_err (Lib.laidMet.reads hL1 (.tail _ (.tail _ (.tail _ (.tail _ (.tail _ (.head _))))))) (t := 27) (by kernel_rfl) (by kernel_rfl) Go.Proofs.Tryd.underlying27
    · exact glob_err (Lib.laidMet.reads hL1 (.tail _ (.tail _ (.tail _ (.tail _ (.head _)))))) (t := 27) (by kernel_rfl) (by kernel_rfl) Go.Proofs.Tryd.underlying27
theorem ValueOrders_witness (os : Os) {H : Type} (enc : TypeId × Value → H) :
    (OpenSpec.ofChange Rows.valueOrdersSpec).preRow enc Go.Proofs.Tryd.prog Go.Proofs.Tryd.f6 Rows.valueOrdersRow.domain false Rows.valueOrdersRow.laid ((laid0_world os).forCall (fun _ _ => 0) ⟨#[], #[.agg #[.int .i64 0, .int .i64 0, .string ByteArray.empty], .agg #[.int .i64 0, .int .i64 0, .string ByteArray.empty], .agg #[.slice none 0 0, .slice none 0 0]], []⟩).memory #[.agg #[.int .i64 0, .int .i64 0, .string ByteArray.empty], .agg #[.int .i64 0, .int .i64 0, .string ByteArray.empty], .agg #[.slice none 0 0, .slice none 0 0]] := by
  have hw : (DataW.whole enc Go.Proofs.Tryd.prog ((laid0_world os).forCall (fun _ _ => 0) ⟨#[], #[.agg #[.int .i64 0, .int .i64 0, .string ByteArray.empty], .agg #[.int .i64 0, .int .i64 0, .string ByteArray.empty], .agg #[.slice none 0 0, .slice none 0 0]], []⟩).memory Go.Proofs.Tryd.f6.params.toList (OpenSpec.ofChange Rows.valueOrdersSpec).vars false (#[.agg #[.int .i64 0, .int .i64 0, .string ByteArray.empty], .agg #[.int .i64 0, .int .i64 0, .string ByteArray.empty], .agg #[.slice none 0 0, .slice none 0 0]] : Array Value).toList 8).map (fun x => (x.1, x.2.1)) =
      some ([.agg [.lit (.int .i64 0), .lit (.int .i64 0), .lit (.string [])], .agg [.lit (.int .i64 0), .lit (.int .i64 0), .lit (.string [])], .agg [.nil, .nil]], []) := by kernel_rfl
  obtain ⟨⟨x1, x2, x3⟩, hx, hx1⟩ := Option.map_eq_some_iff.1 hw
  simp only [Prod.mk.injEq] at hx1
  obtain ⟨rfl, rfl⟩ := hx1
  exact OpenSpec.preRow_of_cond 8 hx (by kernel_rfl) (fun k hk => by cases hk) (by kernel_rfl) (laid0_met os _)
theorem ValueOrders_lifted (pure : ValueOrders_Pure) (os : Os) (started : os.Started) (H : Type) (enc : TypeId × Value → H) (F : Stop.Interp) :
    ReturnsInHanded {} Go.Proofs.Tryd.checked os 6 .any ((OpenSpec.ofChange Rows.valueOrdersSpec).preRow enc Go.Proofs.Tryd.prog Go.Proofs.Tryd.f6 Rows.valueOrdersRow.domain false Rows.valueOrdersRow.laid) (((OpenSpec.ofChange Rows.valueOrdersSpec).at F).post enc Go.Proofs.Tryd.prog Go.Proofs.Tryd.f6 false true false false) :=
  law_lifted_laid (C := Go.Proofs.Tryd.checked) (X := X) F 8 [(.pair (.int .i64) (.pair (.int .i64) (.pair .str .unit))), (.pair (.int .i64) (.pair (.int .i64) (.pair .str .unit))), (.pair (.slice (.pair (.int .i64) (.pair (.int .i64) (.pair .str .unit)))) (.pair (.slice (.pair (.int .i64) (.pair (.int .i64) (.pair .str .unit)))) .unit))] ownKnob0 started (by kernel_rfl) Go.Proofs.Tryd.func6 rfl
      (witness_row_atRef (enc := enc) (C := Go.Proofs.Tryd.checked) false (laid0_world os) #[.agg #[.int .i64 0, .int .i64 0, .string ByteArray.empty], .agg #[.int .i64 0, .int .i64 0, .string ByteArray.empty], .agg #[.slice none 0 0, .slice none 0 0]] rfl (laid0_vars os _) (laid0_rest os _) (by kernel_rfl) (ValueOrders_witness os enc))
      rfl (fun ds h => match ds, h with | [_, _, _], _ => rfl) ⟨_, rfl, by kernel_rfl⟩ (by kernel_rfl) laidOut0 (by kernel_rfl) law02_ValueOrders_raw ValueOrders_glob
      (fun x hx => (law02_ValueOrders_T (Bool × Unit) askB (x.1.1, x.1.2.1, x.1.2.2.1, x.2.1.1, x.2.1.2.1, x.2.1.2.2.1, x.2.2.1.1, x.2.2.1.2.1, ())).trans (pure x hx))
theorem ValueOrders_of (pure : ValueOrders_Pure) : Rows.ValueOrdersSaid :=
  OpenClaim.holds_of_cond 6 Go.Proofs.Tryd.f6 rfl rfl rfl rfl rfl rfl rfl ⟨rfl, rfl, rfl, rfl, rfl⟩ rfl rfl rfl rfl rfl (by kernel_rfl) Go.Proofs.Tryd.func6 (by kernel_rfl)
    (of_decide_eq_true (by kernel_rfl)) (by unfold Func.isWrapper; rw [if_neg (of_decide_eq_false (by kernel_rfl))]; exact ⟨rfl, rfl⟩)
    (fun os started H enc _ F0 => by rw [OpenClaim.pre_eq_preRow]; exact ValueOrders_lifted pure os started H enc F0)
theorem ValueOrders_card (pure : ValueOrders_Pure) : Rows.ValueOrdersCardSaid :=
  Claim7.holds_tied_plain_at .later [] [.data, .data, .data, .data, .sentinel, .sentinel, .pinned] true (true, "3284edeca586ef6eef2b0cba483ca10b560abbccdb460e03672b860eba2fcf7f") true
    (ValueOrders_of pure) (fun _ h => by cases h) (by kernel_rfl) (fun _ h => by cases h) valueOrders_row_tie rfl ⟨rfl, rfl⟩ (by kernel_rfl) rfl
    (fun f fn hf hfn => by
      obtain rfl : f = 6 := Option.some.inj ((show Go.Proofs.Tryd.prog.funcNamed Rows.valueOrdersRow.func = some 6 by kernel_rfl).symm.trans hf) |>.symm
      obtain rfl : fn = Go.Proofs.Tryd.f6 := (Option.some.inj (Go.Proofs.Tryd.func6.symm.trans hfn)).symm
      refine ⟨by kernel_rfl, fun j t ht => ?_⟩
      have h0 := List.all_eq_true.1 (show Go.Proofs.Tryd.f6.params.toList.all (fun t => !(Go.Proofs.Tryd.prog.wantsStandIn t)) = true by kernel_rfl) t (List.mem_of_getElem? (i := j) (by simpa using ht))
      show Go.Proofs.Tryd.prog.wantsStandIn t = false
      simpa using h0)
    (by kernel_rfl)

end
end Go.Proofs.YtmpglmalfkkokaaDoor.E
