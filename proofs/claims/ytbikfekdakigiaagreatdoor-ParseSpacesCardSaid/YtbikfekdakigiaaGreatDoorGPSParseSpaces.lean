/-
  The row of the law ParseSpaces, out of the pure statement (printed by a program).
  Conditions: those that each statement prints, and no other.
-/
import Derived.Test.YtbikfekdakigiaaGreatDoorGPSL0
set_option linter.unusedVariables false
set_option linter.unusedSimpArgs false
namespace Go.Proofs.YtbikfekdakigiaaGreatDoor.E
open Go.Ev Go.ChangeShapes
set_option maxRecDepth 100000
noncomputable section
theorem ParseSpaces_glob (W : World) (hL : laidMetH Go.Proofs.Tryz.prog Rows.parseSpacesRow.laid W) (hS : W.ShapedOpen Go.Proofs.Tryz.prog) : GlobOk X (fun _ => none) W := by
 have hL1 := (laidMetH_iff.1 hL).1
 exact GlobOk.of_list (l := [(8, errP), (9, errP), (0, handP 172 10 41)]) rfl fun x hx => by
  simp only [List.mem_cons, List.not_mem_nil, or_false] at hx
  rcases hx with rfl | rfl | rfl
  · exact glob_err (Lib.laidMet.reads hL1 (mem_plain (.tail _ (.tail _ (.tail _ (.tail _ (.tail _ (.tail _ (.head _))))))) (by kernel_rfl))) (t := 41) (by kernel_rfl) (by kernel_rfl) Go.Proofs.Tryz.underlying41
  · exact glob_err (Lib.laidMet.reads hL1 (mem_plain (.tail _ (.tail _ (.tail _ (.tail _ (.tail _ (.head _)))))) (by kernel_rfl))) (t := 41) (by kernel_rfl) (by kernel_rfl) Go.Proofs.Tryz.underlying41
  · exact glob_hand hL (.tail _ (.tail _ (.tail _ (.tail _ (.head _))))) (s := [101, 114, 114, 111, 114]) (by kernel_rfl) (by kernel_rfl) (by kernel_rfl) (by kernel_rfl) (by kernel_rfl) (by kernel_rfl)
theorem ParseSpaces_witness (os : Os) {H : Type} (enc : TypeId × Value → H) :
 (OpenSpec.ofChange Rows.parseSpacesSpec).preRow enc Go.Proofs.Tryz.prog Go.Proofs.Tryz.f3 Rows.parseSpacesRow.domain false Rows.parseSpacesRow.laid ((laid0_world os).forCall (fun _ _ => 0) ⟨#[], #[.string ByteArray.empty, .slice none 0 0], []⟩).memory #[.string ByteArray.empty, .slice none 0 0] := by
 have hw : (DataW.whole enc Go.Proofs.Tryz.prog ((laid0_world os).forCall (fun _ _ => 0) ⟨#[], #[.string ByteArray.empty, .slice none 0 0], []⟩).memory Go.Proofs.Tryz.f3.params.toList (OpenSpec.ofChange Rows.parseSpacesSpec).vars false (#[.string ByteArray.empty, .slice none 0 0] : Array Value).toList 8).map (fun x => (x.1, x.2.1)) =
  some ([.lit (.string []), .nil], []) := by kernel_rfl
 obtain ⟨⟨x1, x2, x3⟩, hx, hx1⟩ := Option.map_eq_some_iff.1 hw
 simp only [Prod.mk.injEq] at hx1
 obtain ⟨rfl, rfl⟩ := hx1
 exact OpenSpec.preRow_of_cond 8 hx (by kernel_rfl) (fun k hk => by cases hk) (by kernel_rfl) (laid0_met os _)
theorem ParseSpaces_lifted (pure : ParseSpaces_Pure) (os : Os) (started : os.Started) (H : Type) (enc : TypeId × Value → H) (F : Stop.Interp) :
 ReturnsInHanded {} Go.Proofs.Tryz.checked os 3 .any ((OpenSpec.ofChange Rows.parseSpacesSpec).preRow enc Go.Proofs.Tryz.prog Go.Proofs.Tryz.f3 Rows.parseSpacesRow.domain false Rows.parseSpacesRow.laid) (((OpenSpec.ofChange Rows.parseSpacesSpec).at F).post enc Go.Proofs.Tryz.prog Go.Proofs.Tryz.f3 false true false false) :=
 law_lifted_laid (C := Go.Proofs.Tryz.checked) (X := X) F 8 [.str, (.slice .byte)] ownKnob0 started (by kernel_rfl) Go.Proofs.Tryz.func3 rfl
  (witness_row_atRef (enc := enc) (C := Go.Proofs.Tryz.checked) false (laid0_world os) #[.string ByteArray.empty, .slice none 0 0] (laid0_os os) (laid0_vars os _) (laid0_rest os _) (by kernel_rfl) (ParseSpaces_witness os enc))
  rfl (fun ds h => match ds, h with | [_, _], _ => rfl) ⟨_, rfl, by kernel_rfl⟩ (by kernel_rfl) laidOut0 (by kernel_rfl) w7_ParseSpaces_w ParseSpaces_glob
  (fun x hx => (w7_ParseSpaces_T (Bool × Unit) askB (x.1, x.2.1, ())).trans ((show _ = w7_ParseSpaces big x.1 x.2.1 from by kernel_rfl).trans (pure x hx)))
theorem ParseSpaces_of (pure : ParseSpaces_Pure) : Rows.ParseSpacesSaid :=
 OpenClaim.holds_of_cond 3 Go.Proofs.Tryz.f3 rfl rfl rfl rfl rfl rfl rfl ⟨rfl, rfl, rfl, rfl, rfl⟩ rfl rfl rfl rfl rfl (by kernel_rfl) Go.Proofs.Tryz.func3 (by kernel_rfl)
  (of_decide_eq_true (by kernel_rfl)) (by unfold Func.isWrapper; rw [if_neg (of_decide_eq_false (by kernel_rfl))]; exact ⟨rfl, rfl⟩)
  (fun os started H enc _ F0 => by rw [OpenClaim.pre_eq_preRow]; exact ParseSpaces_lifted pure os started H enc F0)
theorem ParseSpaces_card (pure : ParseSpaces_Pure) : Rows.ParseSpacesCardSaid :=
 Claim7.holds_tied_plain_at .later [] [.data, .data, .data, .data, .handle, .sentinel, .sentinel, .pinned, .pinned] true (true, "3482c077d231bc0d6d9f5128224946034d3a39975e8509704e5c3fa6ddd9b6c3") true
  (ParseSpaces_of pure) (fun _ h => by cases h) (by kernel_rfl) (fun _ h => by cases h) parseSpaces_row_tie rfl ⟨rfl, rfl⟩ (by kernel_rfl) rfl
  (fun f fn hf hfn => by
   obtain rfl : f = 3 := Option.some.inj ((show Go.Proofs.Tryz.prog.funcNamed Rows.parseSpacesRow.func = some 3 by kernel_rfl).symm.trans hf) |>.symm
   obtain rfl : fn = Go.Proofs.Tryz.f3 := (Option.some.inj (Go.Proofs.Tryz.func3.symm.trans hfn)).symm
   refine ⟨by kernel_rfl, fun j t ht => ?_⟩
   have h0 := List.all_eq_true.1 (show Go.Proofs.Tryz.f3.params.toList.all (fun t => !(Go.Proofs.Tryz.prog.wantsStandIn t)) = true by kernel_rfl) t (List.mem_of_getElem? (i := j) (by simpa using ht))
   show Go.Proofs.Tryz.prog.wantsStandIn t = false
   simpa using h0)
  (by kernel_rfl)
end
end Go.Proofs.YtbikfekdakigiaaGreatDoor.E
