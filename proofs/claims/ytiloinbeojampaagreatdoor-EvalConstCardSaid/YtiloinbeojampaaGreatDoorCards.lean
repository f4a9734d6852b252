/-
  DERIVED. GIVEN WITH THE SEED: THE CARDS: each row of YtiloinbeojampaaGreatDoorRows.lean that lists a variable, with what it lists TIED to the program's text (the seventh form; the later family's looks); each row that meets fmt, with fmt's text TOLD by the authors' own Lean function (tested against real Go, not proved from fmt's source: count such statements apart). THE CARD IS WHAT COUNTS. Prove the row's statement (the work); the ties are given (YtiloinbeojampaaGreatDoorTie.lean); close each card by the builder's one call (the guide's Derived/Test/ToyasCard.lean, 'card_holds'). Laid BY PROGRAM, IN A SANDBOX (cutbox-door.mjs). By AI agents, Wed Nov 11 2026. No macro, syntax, notation, axiom, sorry.
-/
import Derived.Test.YtiloinbeojampaaGreatDoorRows
import GoSem.ClaimSeven
namespace Go.Proofs.YtiloinbeojampaaGreatDoor
namespace Rows

/-- THE TIED CARD OF 'frankpledgelaw20.EvalOrder'. -/
def evalOrderCard : Claim7 := { stood := { row := evalOrderRow, standIns := [], harness := (true, "d3b8c98f32f4aaa93bf2b45afd836e0b958668e943648c38b5172dd5a1dfcec6"), looks := true }, kinds := [], alts := [], laidByText := true, laidKinds := [.data, .data, .data, .data, .handle, .sentinel, .sentinel, .pinned, .pinned], laidTests := true, laidLooks := .later }
def EvalOrderCardSaid : Prop := Claim7.holds Tryz.pinned (.plain (OpenSpec.ofChange evalOrderSpec)) evalOrderCard

/-- THE TIED CARD OF 'frankpledgelaw20.EvalTruths'. -/
def evalTruthsCard : Claim7 := { stood := { row := evalTruthsRow, standIns := [], harness := (true, "d3b8c98f32f4aaa93bf2b45afd836e0b958668e943648c38b5172dd5a1dfcec6"), looks := true }, kinds := [], alts := [], laidByText := true, laidKinds := [.data, .data, .data, .data, .handle, .sentinel, .sentinel, .pinned, .pinned], laidTests := true, laidLooks := .later }
def EvalTruthsCardSaid : Prop := Claim7.holds Tryz.pinned (.plain (OpenSpec.ofChange evalTruthsSpec)) evalTruthsCard

/-- THE TIED CARD OF 'frankpledgelaw20.EvalConst'. -/
def evalConstCard : Claim7 := { stood := { row := evalConstRow, standIns := [], harness := (true, "d3b8c98f32f4aaa93bf2b45afd836e0b958668e943648c38b5172dd5a1dfcec6"), looks := true }, kinds := [], alts := [], laidByText := true, laidKinds := [.data, .data, .data, .data, .handle, .sentinel, .sentinel, .pinned, .pinned], laidTests := true, laidLooks := .later }
def EvalConstCardSaid : Prop := Claim7.holds Tryz.pinned (.plain (OpenSpec.ofChange evalConstSpec)) evalConstCard

/-- THE TIED CARD OF 'frankpledgelaw20.EvalFits'. -/
def evalFitsCard : Claim7 := { stood := { row := evalFitsRow, standIns := [], harness := (true, "d3b8c98f32f4aaa93bf2b45afd836e0b958668e943648c38b5172dd5a1dfcec6"), looks := true }, kinds := [], alts := [], laidByText := true, laidKinds := [.data, .data, .data, .data, .handle, .sentinel, .sentinel, .pinned, .pinned], laidTests := true, laidLooks := .later }
def EvalFitsCardSaid : Prop := Claim7.holds Tryz.pinned (.plain (OpenSpec.ofChange evalFitsSpec)) evalFitsCard

/-- THE TIED CARD OF 'frankpledgelaw20.EvalFolds'. -/
def evalFoldsCard : Claim7 := { stood := { row := evalFoldsRow, standIns := [], harness := (true, "d3b8c98f32f4aaa93bf2b45afd836e0b958668e943648c38b5172dd5a1dfcec6"), looks := true }, kinds := [], alts := [], laidByText := true, laidKinds := [.data, .data, .data, .data, .handle, .sentinel, .sentinel, .pinned, .pinned], laidTests := true, laidLooks := .later }
def EvalFoldsCardSaid : Prop := Claim7.holds Tryz.pinned (.plain (OpenSpec.ofChange evalFoldsSpec)) evalFoldsCard

/-- THE TIED CARD OF 'frankpledgelaw20.EvalTexts'. -/
def evalTextsCard : Claim7 := { stood := { row := evalTextsRow, standIns := [], harness := (true, "d3b8c98f32f4aaa93bf2b45afd836e0b958668e943648c38b5172dd5a1dfcec6"), looks := true }, kinds := [], alts := [], laidByText := true, laidKinds := [.data, .data, .data, .data, .handle, .sentinel, .sentinel, .pinned, .pinned], laidTests := true, laidLooks := .later }
def EvalTextsCardSaid : Prop := Claim7.holds Tryz.pinned (.plain (OpenSpec.ofChange evalTextsSpec)) evalTextsCard

/-- THE TIED CARD OF 'frankpledgelaw20.EvalAny'. -/
def evalAnyCard : Claim7 := { stood := { row := evalAnyRow, standIns := [], harness := (true, "d3b8c98f32f4aaa93bf2b45afd836e0b958668e943648c38b5172dd5a1dfcec6"), looks := true }, kinds := [], alts := [], laidByText := true, laidKinds := [.data, .data, .data, .data, .handle, .sentinel, .sentinel, .pinned, .pinned], laidTests := true, laidLooks := .later }
def EvalAnyCardSaid : Prop := Claim7.holds Tryz.pinned (.plain (OpenSpec.ofChange evalAnySpec)) evalAnyCard

/-- THE SECOND FORM's CARD OF 'frankpledgelaw20.EvalOrder'. -/
def evalOrderUptoCard : Claim7 := { stood := { row := evalOrderUptoRow, standIns := [], harness := (true, "d3b8c98f32f4aaa93bf2b45afd836e0b958668e943648c38b5172dd5a1dfcec6"), looks := true }, kinds := [], alts := [], laidByText := true, laidKinds := [.data, .data, .data, .data, .handle, .sentinel, .sentinel, .pinned, .pinned], laidTests := true, laidLooks := .later }
def EvalOrderUptoCardSaid : Prop := Claim7.holds Tryz.pinned (.plain (OpenSpec.upto evalOrderSpec)) evalOrderUptoCard

/-- THE SECOND FORM's CARD OF 'frankpledgelaw20.EvalTruths'. -/
def evalTruthsUptoCard : Claim7 := { stood := { row := evalTruthsUptoRow, standIns := [], harness := (true, "d3b8c98f32f4aaa93bf2b45afd836e0b958668e943648c38b5172dd5a1dfcec6"), looks := true }, kinds := [], alts := [], laidByText := true, laidKinds := [.data, .data, .data, .data, .handle, .sentinel, .sentinel, .pinned, .pinned], laidTests := true, laidLooks := .later }
def EvalTruthsUptoCardSaid : Prop := Claim7.holds Tryz.pinned (.plain (OpenSpec.upto evalTruthsSpec)) evalTruthsUptoCard

/-- THE SECOND FORM's CARD OF 'frankpledgelaw20.EvalConst'. -/
def evalConstUptoCard : Claim7 := { stood := { row := evalConstUptoRow, standIns := [], harness := (true, "d3b8c98f32f4aaa93bf2b45afd836e0b958668e943648c38b5172dd5a1dfcec6"), looks := true }, kinds := [], alts := [], laidByText := true, laidKinds := [.data, .data, .data, .data, .handle, .sentinel, .sentinel, .pinned, .pinned], laidTests := true, laidLooks := .later }
def EvalConstUptoCardSaid : Prop := Claim7.holds Tryz.pinned (.plain (OpenSpec.upto evalConstSpec)) evalConstUptoCard

/-- THE SECOND FORM's CARD OF 'frankpledgelaw20.EvalFits'. -/
def evalFitsUptoCard : Claim7 := { stood := { row := evalFitsUptoRow, standIns := [], harness := (true, "d3b8c98f32f4aaa93bf2b45afd836e0b958668e943648c38b5172dd5a1dfcec6"), looks := true }, kinds := [], alts := [], laidByText := true, laidKinds := [.data, .data, .data, .data, .handle, .sentinel, .sentinel, .pinned, .pinned], laidTests := true, laidLooks := .later }
def EvalFitsUptoCardSaid : Prop := Claim7.holds Tryz.pinned (.plain (OpenSpec.upto evalFitsSpec)) evalFitsUptoCard

/-- THE SECOND FORM's CARD OF 'frankpledgelaw20.EvalFolds'. -/
def evalFoldsUptoCard : Claim7 := { stood := { row := evalFoldsUptoRow, standIns := [], harness := (true, "d3b8c98f32f4aaa93bf2b45afd836e0b958668e943648c38b5172dd5a1dfcec6"), looks := true }, kinds := [], alts := [], laidByText := true, laidKinds := [.data, .data, .data, .data, .handle, .sentinel, .sentinel, .pinned, .pinned], laidTests := true, laidLooks := .later }
def EvalFoldsUptoCardSaid : Prop := Claim7.holds Tryz.pinned (.plain (OpenSpec.upto evalFoldsSpec)) evalFoldsUptoCard

/-- THE SECOND FORM's CARD OF 'frankpledgelaw20.EvalTexts'. -/
def evalTextsUptoCard : Claim7 := { stood := { row := evalTextsUptoRow, standIns := [], harness := (true, "d3b8c98f32f4aaa93bf2b45afd836e0b958668e943648c38b5172dd5a1dfcec6"), looks := true }, kinds := [], alts := [], laidByText := true, laidKinds := [.data, .data, .data, .data, .handle, .sentinel, .sentinel, .pinned, .pinned], laidTests := true, laidLooks := .later }
def EvalTextsUptoCardSaid : Prop := Claim7.holds Tryz.pinned (.plain (OpenSpec.upto evalTextsSpec)) evalTextsUptoCard

/-- THE SECOND FORM's CARD OF 'frankpledgelaw20.EvalAny'. -/
def evalAnyUptoCard : Claim7 := { stood := { row := evalAnyUptoRow, standIns := [], harness := (true, "d3b8c98f32f4aaa93bf2b45afd836e0b958668e943648c38b5172dd5a1dfcec6"), looks := true }, kinds := [], alts := [], laidByText := true, laidKinds := [.data, .data, .data, .data, .handle, .sentinel, .sentinel, .pinned, .pinned], laidTests := true, laidLooks := .later }
def EvalAnyUptoCardSaid : Prop := Claim7.holds Tryz.pinned (.plain (OpenSpec.upto evalAnySpec)) evalAnyUptoCard
end Rows
end Go.Proofs.YtiloinbeojampaaGreatDoor
