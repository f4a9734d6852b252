/-
  The row of the law ParseBack, out of the pure statement (printed by a program).
  Conditions: those that each statement prints, and no other.
-/
import Derived.Test.YtbikfekdakigiaaGreatDoorGPKL0
set_option linter.unusedVariables false
set_option linter.unusedSimpArgs false
/-! The rows of the laws, printed by wip/gen. -/
namespace Go.Proofs.YtbikfekdakigiaaGreatDoor.E
open Go.Ev Go.ChangeShapes
set_option maxRecDepth 100000
noncomputable section
theorem ParseBack_glob (W : World) (hL : laidMetH Go.Proofs.Tryz.prog Rows.parseBackRow.laid W) (hS : W.ShapedOpen Go.Proofs.Tryz.prog) : GlobOk X (fun _ => none) W := by
  have hL1 := (laidMetH_iff.1 hL).1
  exact GlobOk.of_list (l := [(1, tabP (Lib.pow10Tab.map fun z => Value.int .u64 z).toArray), (2, numP), (8, errP), (9, errP), (0, handP 172 10 41)]) rfl fun x hx => by
    simp only [List.mem_cons, List.not_mem_nil, or_false] at hx
    rcases hx with rfl | rfl | rfl | rfl | rfl
    · exact glob_tab ((by kernel_rfl : Rows.laid_internal_strconv_uint64pow10 (H := Unit) = Lib.tabData .u64 Lib.pow10Tab) ▸ (Lib.laidMet.reads hL1 (mem_plain (.tail _ (.tail _ (.head _))) (by kernel_rfl)))) (t := 197) (e := 151) (m := 20) (by kernel_rfl) (by kernel_rfl) (by kernel_rfl) (by kernel_rfl) (by kernel_rfl) (by kernel_rfl)
    · exact glob_num (Go.Proofs.cell_of_shapedOpen_int (zero := #[.int .i64 0]) (t := 3) hS (of_decide_eq_true (by kernel_rfl)) (by kernel_rfl) rfl (by kernel_rfl) (by kernel_rfl) Go.Proofs.Tryz.underlying3)
    · exact glob_err (Lib.laidMet.reads hL1 (mem_plain (.tail _ (.tail _ (.tail _ (.tail _ (.tail _ (.tail _ (.head _))))))) (by kernel_rfl))) (t := 41) (by kernel_rfl) (by kernel_rfl) Go.Proofs.Tryz.underlying41
    · exact glob_err (Lib.laidMet.reads hL1 (mem_plain (.tail _ (.tail _ (.tail _ (.tail _ (.tail _ (.head _)))))) (by kernel_rfl))) (t := 41) (by kernel_rfl) (by kernel_rfl) Go.Proofs.Tryz.underlying41
    · exact glob_hand hL (.tail _ (.tail _ (.tail _ (.tail _ (.head _))))) (s := [101, 114, 114, 111, 114]) (by kernel_rfl) (by kernel_rfl) (by kernel_rfl) (by kernel_rfl) (by kernel_rfl) (by kernel_rfl)
theorem ParseBack_witness (os : Os) {H : Type} (enc : TypeId × Value → H) :
    (OpenSpec.ofChange Rows.parseBackSpec).preRow enc Go.Proofs.Tryz.prog Go.Proofs.Tryz.f5 Rows.parseBackRow.domain false Rows.parseBackRow.laid ((laid0_world os).forCall (fun _ _ => 0) ⟨#[], #[.slice none 0 0], []⟩).memory #[.slice none 0 0] := by
  have hw : (DataW.whole enc Go.Proofs.Tryz.prog ((laid0_world os).forCall (fun _ _ => 0) ⟨#[], #[.slice none 0 0], []⟩).memory Go.Proofs.Tryz.f5.params.toList (OpenSpec.ofChange Rows.parseBackSpec).vars false (#[.slice none 0 0] : Array Value).toList 8).map (fun x => (x.1, x.2.1)) =
      some ([.nil], []) := by kernel_rfl
  obtain ⟨⟨x1, x2, x3⟩, hx, hx1⟩ := Option.map_eq_some_iff.1 hw
  simp only [Prod.mk.injEq] at hx1
  obtain ⟨rfl, rfl⟩ := hx1
  exact OpenSpec.preRow_of_cond 8 hx (by kernel_rfl) (fun k hk => by cases hk) (by kernel_rfl) (laid0_met os _)
theorem ParseBack_lifted (pure : ParseBack_Pure) (os : Os) (started : os.Started) (H : Type) (enc : TypeId × Value → H) (F : Stop.Interp) :
    ReturnsInHanded {} Go.Proofs.Tryz.checked os 5 .any ((OpenSpec.ofChange Rows.parseBackSpec).preRow enc Go.Proofs.Tryz.prog Go.Proofs.Tryz.f5 Rows.parseBackRow.domain false Rows.parseBackRow.laid) (((OpenSpec.ofChange Rows.parseBackSpec).at F).post enc Go.Proofs.Tryz.prog Go.Proofs.Tryz.f5 false true false false) :=
  law_lifted_laid (C := Go.Proofs.Tryz.checked) (X := X) F 8 [(.slice (.pair (.int .i64) (.pair (.int .i64) (.pair .str (.pair .bool .unit)))))] ownKnob0 started (by kernel_rfl) Go.Proofs.Tryz.func5 rfl
      (witness_row_atRef (enc := enc) (C := Go.Proofs.Tryz.checked) false (laid0_world os) #[.slice none 0 0] (laid0_os os) (laid0_vars os _) (laid0_rest os _) (by kernel_rfl) (ParseBack_witness os enc))
      rfl (fun ds h => match ds, h with | [_], _ => rfl) ⟨_, rfl, by kernel_rfl⟩ (by kernel_rfl) laidOut0 (by kernel_rfl) law17_ParseBack_w ParseBack_glob
      (fun x hx => (law17_ParseBack_T (Bool × Unit) askB (x.1, ())).trans ((show _ = law17_ParseBack big x.1 from by kernel_rfl).trans (pure x hx)))
theorem ParseBack_of (pure : ParseBack_Pure) : Rows.ParseBackSaid :=
  OpenClaim.holds_of_cond 5 Go.Proofs.Tryz.f5 rfl rfl rfl rfl rfl rfl rfl ⟨rfl, rfl, rfl, rfl, rfl⟩ rfl rfl rfl rfl rfl (by kernel_rfl) Go.Proofs.Tryz.func5 (by kernel_rfl)
    (of_decide_eq_true (by kernel_rfl)) (by unfold Func.isWrapper; rw [if_neg (of_decide_eq_false (by kernel_rfl))]; exact ⟨rfl, rfl⟩)
    (fun os started H enc _ F0 => by rw [OpenClaim.pre_eq_preRow]; exact ParseBack_lifted pure os started H enc F0)
theorem ParseBack_card (pure : ParseBack_Pure) : Rows.ParseBackCardSaid :=
  Claim7.holds_tied_plain_at .later [] [.data, .data, .data, .data, .handle, .sentinel, .sentinel, .pinned, .pinned] true (true, "3482c077d231bc0d6d9f5128224946034d3a39975e8509704e5c3fa6ddd9b6c3") true
    (ParseBack_of pure) (fun _ h => by cases h) (by kernel_rfl) (fun _ h => by cases h) parseBack_row_tie rfl ⟨rfl, rfl⟩ (by kernel_rfl) rfl
    (fun f fn hf hfn => by
      obtain rfl : f = 5 := Option.some.inj ((show Go.Proofs.Tryz.prog.funcNamed Rows.parseBackRow.func = some 5 by kernel_rfl).symm.trans hf) |>.symm
      obtain rfl : fn = Go.Proofs.Tryz.f5 := (Option.some.inj (Go.Proofs.Tryz.func5.symm.trans hfn)).symm
      refine ⟨by kernel_rfl, fun j t ht => ?_⟩
      have h0 := List.all_eq_true.1 (show Go.Proofs.Tryz.f5.params.toList.all (fun t => !(Go.Proofs.Tryz.prog.wantsStandIn t)) = true by kernel_rfl) t (List.mem_of_getElem? (i := j) (by simpa using ht))
      show Go.Proofs.Tryz.prog.wantsStandIn t = false
      simpa using h0)
    (by kernel_rfl)

end
end Go.Proofs.YtbikfekdakigiaaGreatDoor.E
