/-
  No cell of these rows narrows 'for every input' (looked for: loops, veiled, ifaces, maps, wideKeys, modest, calm, conditions, laid).
  DERIVED. THE GIVEN ROWS OF THIS SEAT. 12 by the template 'for every input the law returns true; each argument reads behind the call as it read before'; 0 by the template 'total and deterministic' (their statements: YtkeejnlicagjiaaTotals.lean).
  GIVEN WITH THE SEED: the statements are not yours to turn. If you find one false, say at which input.
  Laid BY PROGRAM, IN A SANDBOX (cutbox-rows.mjs): the forced cells as the released guide's own fill.sh prints them over the translation 025e48b56941c2f3… (all of the seat's roots in one cut). By AI agents, Wed Nov 11 2026. No macro, syntax, notation, axiom, sorry.
-/
import Derived.Test.YtkeejnlicagjiaaChecked
import GoSem.Claim
import GoSem.ClaimJoined
import GoSem.ClaimMapViews
import Derived.JoinedTies
import Derived.KernelRfl
namespace Go.Proofs.Ytkeejnlicagjiaa
/- THE CELL 'sum', in the pinned program and in every row, IS THE sha256 OF THE DUMP (.gsa) THAT YtkeejnlicagjiaaProg.lean LOADS. Nothing in Lean hashes anything: it is a label: what it is worth is what the hold of that sum in a sandbox is worth. -/
noncomputable def Try.pinned : Pinned := { name := "ytkeejnlicagjiaa", sum := "025e48b56941c2f3ff9e45fdf120b03a2495137b73a1c84cdedc57266cf1dc64", checked := Try.checked }
namespace Rows
def none {H : Type} : Left H := { results := [], args := [] }

/-- 'frankpledgelaw05.RowSizes': WHATEVER THE INPUT: true; the input reads as it did. -/
def rowSizesSpec : ChangeSpec := { name := "rowSizes", fn := fun _ => fun
  | [d] => { results := [.lit (.bool true)], args := [d] }
  | _ => none }
def rowSizesRow : OpenClaim := { program := "ytkeejnlicagjiaa", sum := "025e48b56941c2f3ff9e45fdf120b03a2495137b73a1c84cdedc57266cf1dc64", func := "frankpledge/frankpledgelaw05.RowSizes", spec := "rowSizes", apart := false }
def RowSizesSaid : Prop := rowSizesRow.holds Try.pinned (OpenSpec.ofChange rowSizesSpec)

/-- ITS FALSE NEIGHBOUR: 'it returns false'. Refute it at one input. -/
def rowSizesWrong : ChangeSpec := { name := "rowSizes", fn := fun _ => fun
  | [d] => { results := [.lit (.bool false)], args := [d] }
  | _ => none }
def RowSizesWrongFalsely : Prop := rowSizesRow.holds Try.pinned (OpenSpec.ofChange rowSizesWrong)

/-- 'frankpledgelaw06.DiskSafe': WHATEVER THE INPUT: true; the input reads as it did. -/
def diskSafeSpec : ChangeSpec := { name := "diskSafe", fn := fun _ => fun
  | [d1, d2, d3] => { results := [.lit (.bool true)], args := [d1, d2, d3] }
  | _ => none }
def diskSafeRow : OpenClaim := { program := "ytkeejnlicagjiaa", sum := "025e48b56941c2f3ff9e45fdf120b03a2495137b73a1c84cdedc57266cf1dc64", func := "frankpledge/frankpledgelaw06.DiskSafe", spec := "diskSafe", apart := false }
def DiskSafeSaid : Prop := diskSafeRow.holds Try.pinned (OpenSpec.ofChange diskSafeSpec)

/-- ITS FALSE NEIGHBOUR: 'it returns false'. Refute it at one input. -/
def diskSafeWrong : ChangeSpec := { name := "diskSafe", fn := fun _ => fun
  | [d1, d2, d3] => { results := [.lit (.bool false)], args := [d1, d2, d3] }
  | _ => none }
def DiskSafeWrongFalsely : Prop := diskSafeRow.holds Try.pinned (OpenSpec.ofChange diskSafeWrong)

/-- 'frankpledgelaw06.DiskOffsets': WHATEVER THE INPUT: true; the input reads as it did. -/
def diskOffsetsSpec : ChangeSpec := { name := "diskOffsets", fn := fun _ => fun
  | [d] => { results := [.lit (.bool true)], args := [d] }
  | _ => none }
def diskOffsetsRow : OpenClaim := { program := "ytkeejnlicagjiaa", sum := "025e48b56941c2f3ff9e45fdf120b03a2495137b73a1c84cdedc57266cf1dc64", func := "frankpledge/frankpledgelaw06.DiskOffsets", spec := "diskOffsets", apart := false }
def DiskOffsetsSaid : Prop := diskOffsetsRow.holds Try.pinned (OpenSpec.ofChange diskOffsetsSpec)

/-- ITS FALSE NEIGHBOUR: 'it returns false'. Refute it at one input. -/
def diskOffsetsWrong : ChangeSpec := { name := "diskOffsets", fn := fun _ => fun
  | [d] => { results := [.lit (.bool false)], args := [d] }
  | _ => none }
def DiskOffsetsWrongFalsely : Prop := diskOffsetsRow.holds Try.pinned (OpenSpec.ofChange diskOffsetsWrong)

/-- 'frankpledgelaw06.DiskCuts': WHATEVER THE INPUT: true; the input reads as it did. -/
def diskCutsSpec : ChangeSpec := { name := "diskCuts", fn := fun _ => fun
  | [d1, d2, d3] => { results := [.lit (.bool true)], args := [d1, d2, d3] }
  | _ => none }
def diskCutsRow : OpenClaim := { program := "ytkeejnlicagjiaa", sum := "025e48b56941c2f3ff9e45fdf120b03a2495137b73a1c84cdedc57266cf1dc64", func := "frankpledge/frankpledgelaw06.DiskCuts", spec := "diskCuts", apart := false }
def DiskCutsSaid : Prop := diskCutsRow.holds Try.pinned (OpenSpec.ofChange diskCutsSpec)

/-- ITS FALSE NEIGHBOUR: 'it returns false'. Refute it at one input. -/
def diskCutsWrong : ChangeSpec := { name := "diskCuts", fn := fun _ => fun
  | [d1, d2, d3] => { results := [.lit (.bool false)], args := [d1, d2, d3] }
  | _ => none }
def DiskCutsWrongFalsely : Prop := diskCutsRow.holds Try.pinned (OpenSpec.ofChange diskCutsWrong)

/-- 'frankpledgelaw06.DiskPlays': WHATEVER THE INPUT: true; the input reads as it did. -/
def diskPlaysSpec : ChangeSpec := { name := "diskPlays", fn := fun _ => fun
  | [d] => { results := [.lit (.bool true)], args := [d] }
  | _ => none }
def diskPlaysRow : OpenClaim := { program := "ytkeejnlicagjiaa", sum := "025e48b56941c2f3ff9e45fdf120b03a2495137b73a1c84cdedc57266cf1dc64", func := "frankpledge/frankpledgelaw06.DiskPlays", spec := "diskPlays", apart := false }
def DiskPlaysSaid : Prop := diskPlaysRow.holds Try.pinned (OpenSpec.ofChange diskPlaysSpec)

/-- ITS FALSE NEIGHBOUR: 'it returns false'. Refute it at one input. -/
def diskPlaysWrong : ChangeSpec := { name := "diskPlays", fn := fun _ => fun
  | [d] => { results := [.lit (.bool false)], args := [d] }
  | _ => none }
def DiskPlaysWrongFalsely : Prop := diskPlaysRow.holds Try.pinned (OpenSpec.ofChange diskPlaysWrong)

/-- 'frankpledgelaw06.DiskNil': WHATEVER THE INPUT: true; the input reads as it did. -/
def diskNilSpec : ChangeSpec := { name := "diskNil", fn := fun _ => fun
  | [d] => { results := [.lit (.bool true)], args := [d] }
  | _ => none }
def diskNilRow : OpenClaim := { program := "ytkeejnlicagjiaa", sum := "025e48b56941c2f3ff9e45fdf120b03a2495137b73a1c84cdedc57266cf1dc64", func := "frankpledge/frankpledgelaw06.DiskNil", spec := "diskNil", apart := false }
def DiskNilSaid : Prop := diskNilRow.holds Try.pinned (OpenSpec.ofChange diskNilSpec)

/-- ITS FALSE NEIGHBOUR: 'it returns false'. Refute it at one input. -/
def diskNilWrong : ChangeSpec := { name := "diskNil", fn := fun _ => fun
  | [d] => { results := [.lit (.bool false)], args := [d] }
  | _ => none }
def DiskNilWrongFalsely : Prop := diskNilRow.holds Try.pinned (OpenSpec.ofChange diskNilWrong)

/-- 'frankpledgelaw05.RowShorts': WHATEVER THE INPUT: true; the input reads as it did. -/
def rowShortsSpec : ChangeSpec := { name := "rowShorts", fn := fun _ => fun
  | [d1, d2] => { results := [.lit (.bool true)], args := [d1, d2] }
  | _ => none }
def rowShortsRow : OpenClaim := { program := "ytkeejnlicagjiaa", sum := "025e48b56941c2f3ff9e45fdf120b03a2495137b73a1c84cdedc57266cf1dc64", func := "frankpledge/frankpledgelaw05.RowShorts", spec := "rowShorts", apart := false }
def RowShortsSaid : Prop := rowShortsRow.holds Try.pinned (OpenSpec.ofChange rowShortsSpec)

/-- ITS FALSE NEIGHBOUR: 'it returns false'. Refute it at one input. -/
def rowShortsWrong : ChangeSpec := { name := "rowShorts", fn := fun _ => fun
  | [d1, d2] => { results := [.lit (.bool false)], args := [d1, d2] }
  | _ => none }
def RowShortsWrongFalsely : Prop := rowShortsRow.holds Try.pinned (OpenSpec.ofChange rowShortsWrong)

/-- 'frankpledgelaw05.RowNumbers': WHATEVER THE INPUT: true; the input reads as it did. -/
def rowNumbersSpec : ChangeSpec := { name := "rowNumbers", fn := fun _ => fun
  | [d1, d2, d3] => { results := [.lit (.bool true)], args := [d1, d2, d3] }
  | _ => none }
def rowNumbersRow : OpenClaim := { program := "ytkeejnlicagjiaa", sum := "025e48b56941c2f3ff9e45fdf120b03a2495137b73a1c84cdedc57266cf1dc64", func := "frankpledge/frankpledgelaw05.RowNumbers", spec := "rowNumbers", apart := false }
def RowNumbersSaid : Prop := rowNumbersRow.holds Try.pinned (OpenSpec.ofChange rowNumbersSpec)

/-- ITS FALSE NEIGHBOUR: 'it returns false'. Refute it at one input. -/
def rowNumbersWrong : ChangeSpec := { name := "rowNumbers", fn := fun _ => fun
  | [d1, d2, d3] => { results := [.lit (.bool false)], args := [d1, d2, d3] }
  | _ => none }
def RowNumbersWrongFalsely : Prop := rowNumbersRow.holds Try.pinned (OpenSpec.ofChange rowNumbersWrong)

/-- 'frankpledgelaw11.LetterSame': WHATEVER THE INPUT: true; the input reads as it did. -/
def letterSameSpec : ChangeSpec := { name := "letterSame", fn := fun _ => fun
  | [d1, d2] => { results := [.lit (.bool true)], args := [d1, d2] }
  | _ => none }
def letterSameRow : OpenClaim := { program := "ytkeejnlicagjiaa", sum := "025e48b56941c2f3ff9e45fdf120b03a2495137b73a1c84cdedc57266cf1dc64", func := "frankpledge/frankpledgelaw11.LetterSame", spec := "letterSame", unfollowed := true, recurses := true, apart := false }
def LetterSameSaid : Prop := letterSameRow.holds Try.pinned (OpenSpec.ofChange letterSameSpec)

/-- ITS FALSE NEIGHBOUR: 'it returns false'. Refute it at one input. -/
def letterSameWrong : ChangeSpec := { name := "letterSame", fn := fun _ => fun
  | [d1, d2] => { results := [.lit (.bool false)], args := [d1, d2] }
  | _ => none }
def LetterSameWrongFalsely : Prop := letterSameRow.holds Try.pinned (OpenSpec.ofChange letterSameWrong)

/-- 'frankpledgelaw05.RowEncodes': WHATEVER THE INPUT: true; the input reads as it did. -/
def rowEncodesSpec : ChangeSpec := { name := "rowEncodes", fn := fun _ => fun
  | [d1, d2] => { results := [.lit (.bool true)], args := [d1, d2] }
  | _ => none }
def rowEncodesRow : OpenClaim := { program := "ytkeejnlicagjiaa", sum := "025e48b56941c2f3ff9e45fdf120b03a2495137b73a1c84cdedc57266cf1dc64", func := "frankpledge/frankpledgelaw05.RowEncodes", spec := "rowEncodes", unfollowed := true, recurses := true, apart := false }
def RowEncodesSaid : Prop := rowEncodesRow.holds Try.pinned (OpenSpec.ofChange rowEncodesSpec)

/-- ITS FALSE NEIGHBOUR: 'it returns false'. Refute it at one input. -/
def rowEncodesWrong : ChangeSpec := { name := "rowEncodes", fn := fun _ => fun
  | [d1, d2] => { results := [.lit (.bool false)], args := [d1, d2] }
  | _ => none }
def RowEncodesWrongFalsely : Prop := rowEncodesRow.holds Try.pinned (OpenSpec.ofChange rowEncodesWrong)

/-- 'frankpledgelaw05.RowBack': WHATEVER THE INPUT: true; the input reads as it did. -/
def rowBackSpec : ChangeSpec := { name := "rowBack", fn := fun _ => fun
  | [d1, d2, d3] => { results := [.lit (.bool true)], args := [d1, d2, d3] }
  | _ => none }
def rowBackRow : OpenClaim := { program := "ytkeejnlicagjiaa", sum := "025e48b56941c2f3ff9e45fdf120b03a2495137b73a1c84cdedc57266cf1dc64", func := "frankpledge/frankpledgelaw05.RowBack", spec := "rowBack", unfollowed := true, recurses := true, apart := false }
def RowBackSaid : Prop := rowBackRow.holds Try.pinned (OpenSpec.ofChange rowBackSpec)

/-- ITS FALSE NEIGHBOUR: 'it returns false'. Refute it at one input. -/
def rowBackWrong : ChangeSpec := { name := "rowBack", fn := fun _ => fun
  | [d1, d2, d3] => { results := [.lit (.bool false)], args := [d1, d2, d3] }
  | _ => none }
def RowBackWrongFalsely : Prop := rowBackRow.holds Try.pinned (OpenSpec.ofChange rowBackWrong)

/-- 'frankpledgelaw09.LockClashes': WHATEVER THE INPUT: true; the input reads as it did. -/
def lockClashesSpec : ChangeSpec := { name := "lockClashes", fn := fun _ => fun
  | [d1, d2] => { results := [.lit (.bool true)], args := [d1, d2] }
  | _ => none }
def lockClashesRow : OpenClaim := { program := "ytkeejnlicagjiaa", sum := "025e48b56941c2f3ff9e45fdf120b03a2495137b73a1c84cdedc57266cf1dc64", func := "frankpledge/frankpledgelaw09.LockClashes", spec := "lockClashes", inPlace := ["internal/bytealg.Compare"], unfollowed := true, recurses := true, apart := false }
def LockClashesSaid : Prop := lockClashesRow.holds Try.pinned (OpenSpec.ofChange lockClashesSpec)

/-- ITS FALSE NEIGHBOUR: 'it returns false'. Refute it at one input. -/
def lockClashesWrong : ChangeSpec := { name := "lockClashes", fn := fun _ => fun
  | [d1, d2] => { results := [.lit (.bool false)], args := [d1, d2] }
  | _ => none }
def LockClashesWrongFalsely : Prop := lockClashesRow.holds Try.pinned (OpenSpec.ofChange lockClashesWrong)

/- THE SECOND FORM. 'bulk': how many values and letters a reading holds, each counted each time it is reached (what is shared counts as often as it is met; a slice's spare places count too). A statement '..UptoSaid' is the law's where the arguments, and the package variables that the reading takes, are together of bulk at most 1048576: NARROWER than '..Said'. Prove '..Said' where nothing that the law and all that it calls make is longer than what came in: it says more and counts as full. Else prove '..UptoSaid'. A law counts once. -/
mutual
def uptoBulk {H : Type} : DataW H → Nat
  | .lit (.string bytes) => bytes.length + 1
  | .lit _ => 1
  | .nil => 1
  | .ptr d => uptoBulk d + 1
  | .slice elems spare => uptoBulkAll elems + uptoBulkAll spare + 1
  | .agg parts => uptoBulkAll parts + 1
  | .iface _ d => uptoBulk d + 1
  | .map entries => uptoBulkEntries entries + 1
  | .held _ => 1
def uptoBulkAll {H : Type} : List (DataW H) → Nat
  | [] => 0
  | d :: r => uptoBulk d + uptoBulkAll r
def uptoBulkEntries {H : Type} : List (Lit × DataW H) → Nat
  | [] => 0
  | x :: r => uptoBulkEntry x + uptoBulkEntries r
def uptoBulkEntry {H : Type} : Lit × DataW H → Nat
  | (.string bytes, d) => bytes.length + uptoBulk d + 1
  | (_, d) => uptoBulk d + 1
 end
def uptoSmall : (H : Type) → List (DataW H) → Bool := fun _ ds => decide (uptoBulkAll ds ≤ 1048576)
def OpenSpec.upto (s : _root_.Go.ChangeSpec) : _root_.Go.OpenSpec := { _root_.Go.OpenSpec.ofChange s with cond := some uptoSmall }

/-- 'frankpledgelaw05.RowSizes', WHERE WHAT IT READS IS OF BULK AT MOST 1048576: true; the input reads as it did. -/
def rowSizesUptoRow : OpenClaim := { program := "ytkeejnlicagjiaa", sum := "025e48b56941c2f3ff9e45fdf120b03a2495137b73a1c84cdedc57266cf1dc64", func := "frankpledge/frankpledgelaw05.RowSizes", spec := "rowSizes", apart := false, narrowed := true }
def RowSizesUptoSaid : Prop := rowSizesUptoRow.holds Try.pinned (OpenSpec.upto rowSizesSpec)

/-- 'frankpledgelaw06.DiskSafe', WHERE WHAT IT READS IS OF BULK AT MOST 1048576: true; the input reads as it did. -/
def diskSafeUptoRow : OpenClaim := { program := "ytkeejnlicagjiaa", sum := "025e48b56941c2f3ff9e45fdf120b03a2495137b73a1c84cdedc57266cf1dc64", func := "frankpledge/frankpledgelaw06.DiskSafe", spec := "diskSafe", apart := false, narrowed := true }
def DiskSafeUptoSaid : Prop := diskSafeUptoRow.holds Try.pinned (OpenSpec.upto diskSafeSpec)

/-- 'frankpledgelaw06.DiskOffsets', WHERE WHAT IT READS IS OF BULK AT MOST 1048576: true; the input reads as it did. -/
def diskOffsetsUptoRow : OpenClaim := { program := "ytkeejnlicagjiaa", sum := "025e48b56941c2f3ff9e45fdf120b03a2495137b73a1c84cdedc57266cf1dc64", func := "frankpledge/frankpledgelaw06.DiskOffsets", spec := "diskOffsets", apart := false, narrowed := true }
def DiskOffsetsUptoSaid : Prop := diskOffsetsUptoRow.holds Try.pinned (OpenSpec.upto diskOffsetsSpec)

/-- 'frankpledgelaw06.DiskCuts', WHERE WHAT IT READS IS OF BULK AT MOST 1048576: true; the input reads as it did. -/
def diskCutsUptoRow : OpenClaim := { program := "ytkeejnlicagjiaa", sum := "025e48b56941c2f3ff9e45fdf120b03a2495137b73a1c84cdedc57266cf1dc64", func := "frankpledge/frankpledgelaw06.DiskCuts", spec := "diskCuts", apart := false, narrowed := true }
def DiskCutsUptoSaid : Prop := diskCutsUptoRow.holds Try.pinned (OpenSpec.upto diskCutsSpec)

/-- 'frankpledgelaw06.DiskPlays', WHERE WHAT IT READS IS OF BULK AT MOST 1048576: true; the input reads as it did. -/
def diskPlaysUptoRow : OpenClaim := { program := "ytkeejnlicagjiaa", sum := "025e48b56941c2f3ff9e45fdf120b03a2495137b73a1c84cdedc57266cf1dc64", func := "frankpledge/frankpledgelaw06.DiskPlays", spec := "diskPlays", apart := false, narrowed := true }
def DiskPlaysUptoSaid : Prop := diskPlaysUptoRow.holds Try.pinned (OpenSpec.upto diskPlaysSpec)

/-- 'frankpledgelaw06.DiskNil', WHERE WHAT IT READS IS OF BULK AT MOST 1048576: true; the input reads as it did. -/
def diskNilUptoRow : OpenClaim := { program := "ytkeejnlicagjiaa", sum := "025e48b56941c2f3ff9e45fdf120b03a2495137b73a1c84cdedc57266cf1dc64", func := "frankpledge/frankpledgelaw06.DiskNil", spec := "diskNil", apart := false, narrowed := true }
def DiskNilUptoSaid : Prop := diskNilUptoRow.holds Try.pinned (OpenSpec.upto diskNilSpec)

/-- 'frankpledgelaw05.RowShorts', WHERE WHAT IT READS IS OF BULK AT MOST 1048576: true; the input reads as it did. -/
def rowShortsUptoRow : OpenClaim := { program := "ytkeejnlicagjiaa", sum := "025e48b56941c2f3ff9e45fdf120b03a2495137b73a1c84cdedc57266cf1dc64", func := "frankpledge/frankpledgelaw05.RowShorts", spec := "rowShorts", apart := false, narrowed := true }
def RowShortsUptoSaid : Prop := rowShortsUptoRow.holds Try.pinned (OpenSpec.upto rowShortsSpec)

/-- 'frankpledgelaw05.RowNumbers', WHERE WHAT IT READS IS OF BULK AT MOST 1048576: true; the input reads as it did. -/
def rowNumbersUptoRow : OpenClaim := { program := "ytkeejnlicagjiaa", sum := "025e48b56941c2f3ff9e45fdf120b03a2495137b73a1c84cdedc57266cf1dc64", func := "frankpledge/frankpledgelaw05.RowNumbers", spec := "rowNumbers", apart := false, narrowed := true }
def RowNumbersUptoSaid : Prop := rowNumbersUptoRow.holds Try.pinned (OpenSpec.upto rowNumbersSpec)

/-- 'frankpledgelaw11.LetterSame', WHERE WHAT IT READS IS OF BULK AT MOST 1048576: true; the input reads as it did. -/
def letterSameUptoRow : OpenClaim := { program := "ytkeejnlicagjiaa", sum := "025e48b56941c2f3ff9e45fdf120b03a2495137b73a1c84cdedc57266cf1dc64", func := "frankpledge/frankpledgelaw11.LetterSame", spec := "letterSame", unfollowed := true, recurses := true, apart := false, narrowed := true }
def LetterSameUptoSaid : Prop := letterSameUptoRow.holds Try.pinned (OpenSpec.upto letterSameSpec)

/-- 'frankpledgelaw05.RowEncodes', WHERE WHAT IT READS IS OF BULK AT MOST 1048576: true; the input reads as it did. -/
def rowEncodesUptoRow : OpenClaim := { program := "ytkeejnlicagjiaa", sum := "025e48b56941c2f3ff9e45fdf120b03a2495137b73a1c84cdedc57266cf1dc64", func := "frankpledge/frankpledgelaw05.RowEncodes", spec := "rowEncodes", unfollowed := true, recurses := true, apart := false, narrowed := true }
def RowEncodesUptoSaid : Prop := rowEncodesUptoRow.holds Try.pinned (OpenSpec.upto rowEncodesSpec)

/-- 'frankpledgelaw05.RowBack', WHERE WHAT IT READS IS OF BULK AT MOST 1048576: true; the input reads as it did. -/
def rowBackUptoRow : OpenClaim := { program := "ytkeejnlicagjiaa", sum := "025e48b56941c2f3ff9e45fdf120b03a2495137b73a1c84cdedc57266cf1dc64", func := "frankpledge/frankpledgelaw05.RowBack", spec := "rowBack", unfollowed := true, recurses := true, apart := false, narrowed := true }
def RowBackUptoSaid : Prop := rowBackUptoRow.holds Try.pinned (OpenSpec.upto rowBackSpec)

/-- 'frankpledgelaw09.LockClashes', WHERE WHAT IT READS IS OF BULK AT MOST 1048576: true; the input reads as it did. -/
def lockClashesUptoRow : OpenClaim := { program := "ytkeejnlicagjiaa", sum := "025e48b56941c2f3ff9e45fdf120b03a2495137b73a1c84cdedc57266cf1dc64", func := "frankpledge/frankpledgelaw09.LockClashes", spec := "lockClashes", inPlace := ["internal/bytealg.Compare"], unfollowed := true, recurses := true, apart := false, narrowed := true }
def LockClashesUptoSaid : Prop := lockClashesUptoRow.holds Try.pinned (OpenSpec.upto lockClashesSpec)

end Rows
end Go.Proofs.Ytkeejnlicagjiaa
