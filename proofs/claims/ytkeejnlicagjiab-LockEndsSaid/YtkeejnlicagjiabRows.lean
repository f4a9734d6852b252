/-
  No cell of these rows narrows 'for every input' (looked for: loops, veiled, ifaces, maps, wideKeys, modest, calm, conditions, laid).
  DERIVED. THE GIVEN ROWS OF THIS SEAT. 6 by the template 'for every input the law returns true; each argument reads behind the call as it read before'; 0 by the template 'total and deterministic' (their statements: YtkeejnlicagjiabTotals.lean).
  GIVEN WITH THE SEED: the statements are not yours to turn. If you find one false, say at which input.
  Laid BY PROGRAM, IN A SANDBOX (cutbox-rows.mjs): the forced cells as the released guide's own fill.sh prints them over the translation a1d588ef3a59c7eb… (all of the seat's roots in one cut). By AI agents, Wed Nov 11 2026. No macro, syntax, notation, axiom, sorry.
-/
import Derived.Test.YtkeejnlicagjiabChecked
import GoSem.Claim
import GoSem.ClaimJoined
import GoSem.ClaimMapViews
import Derived.JoinedTies
import Derived.KernelRfl
namespace Go.Proofs.Ytkeejnlicagjiab
/- THE CELL 'sum', in the pinned program and in every row, IS THE sha256 OF THE DUMP (.gsa) THAT YtkeejnlicagjiabProg.lean LOADS. Nothing in Lean hashes anything: it is a label: what it is worth is what the hold of that sum in a sandbox is worth. -/
noncomputable def Try.pinned : Pinned := { name := "ytkeejnlicagjiab", sum := "a1d588ef3a59c7eb3b628297a9ce2ecffc441f9cc4fa855a431065f2bdcec42c", checked := Try.checked }
namespace Rows
def none {H : Type} : Left H := { results := [], args := [] }

/-- 'frankpledgelaw09.LockSpaces': WHATEVER THE INPUT: true; the input reads as it did. -/
def lockSpacesSpec : ChangeSpec := { name := "lockSpaces", fn := fun _ => fun
  | [d1, d2] => { results := [.lit (.bool true)], args := [d1, d2] }
  | _ => none }
def lockSpacesRow : OpenClaim := { program := "ytkeejnlicagjiab", sum := "a1d588ef3a59c7eb3b628297a9ce2ecffc441f9cc4fa855a431065f2bdcec42c", func := "frankpledge/frankpledgelaw09.LockSpaces", spec := "lockSpaces", inPlace := ["internal/bytealg.Compare"], unfollowed := true, recurses := true, apart := false }
def LockSpacesSaid : Prop := lockSpacesRow.holds Try.pinned (OpenSpec.ofChange lockSpacesSpec)

/-- ITS FALSE NEIGHBOUR: 'it returns false'. Refute it at one input. -/
def lockSpacesWrong : ChangeSpec := { name := "lockSpaces", fn := fun _ => fun
  | [d1, d2] => { results := [.lit (.bool false)], args := [d1, d2] }
  | _ => none }
def LockSpacesWrongFalsely : Prop := lockSpacesRow.holds Try.pinned (OpenSpec.ofChange lockSpacesWrong)

/-- 'frankpledgelaw09.LockPlays': WHATEVER THE INPUT: true; the input reads as it did. -/
def lockPlaysSpec : ChangeSpec := { name := "lockPlays", fn := fun _ => fun
  | [d] => { results := [.lit (.bool true)], args := [d] }
  | _ => none }
def lockPlaysRow : OpenClaim := { program := "ytkeejnlicagjiab", sum := "a1d588ef3a59c7eb3b628297a9ce2ecffc441f9cc4fa855a431065f2bdcec42c", func := "frankpledge/frankpledgelaw09.LockPlays", spec := "lockPlays", inPlace := ["internal/bytealg.Compare"], unfollowed := true, recurses := true, apart := false }
def LockPlaysSaid : Prop := lockPlaysRow.holds Try.pinned (OpenSpec.ofChange lockPlaysSpec)

/-- ITS FALSE NEIGHBOUR: 'it returns false'. Refute it at one input. -/
def lockPlaysWrong : ChangeSpec := { name := "lockPlays", fn := fun _ => fun
  | [d] => { results := [.lit (.bool false)], args := [d] }
  | _ => none }
def LockPlaysWrongFalsely : Prop := lockPlaysRow.holds Try.pinned (OpenSpec.ofChange lockPlaysWrong)

/-- 'frankpledgelaw09.LockOdds': WHATEVER THE INPUT: true; the input reads as it did. -/
def lockOddsSpec : ChangeSpec := { name := "lockOdds", fn := fun _ => fun
  | [d] => { results := [.lit (.bool true)], args := [d] }
  | _ => none }
def lockOddsRow : OpenClaim := { program := "ytkeejnlicagjiab", sum := "a1d588ef3a59c7eb3b628297a9ce2ecffc441f9cc4fa855a431065f2bdcec42c", func := "frankpledge/frankpledgelaw09.LockOdds", spec := "lockOdds", inPlace := ["internal/bytealg.Compare"], unfollowed := true, recurses := true, apart := false }
def LockOddsSaid : Prop := lockOddsRow.holds Try.pinned (OpenSpec.ofChange lockOddsSpec)

/-- ITS FALSE NEIGHBOUR: 'it returns false'. Refute it at one input. -/
def lockOddsWrong : ChangeSpec := { name := "lockOdds", fn := fun _ => fun
  | [d] => { results := [.lit (.bool false)], args := [d] }
  | _ => none }
def LockOddsWrongFalsely : Prop := lockOddsRow.holds Try.pinned (OpenSpec.ofChange lockOddsWrong)

/-- 'frankpledgelaw09.LockEnds': WHATEVER THE INPUT: true; the input reads as it did. -/
def lockEndsSpec : ChangeSpec := { name := "lockEnds", fn := fun _ => fun
  | [d] => { results := [.lit (.bool true)], args := [d] }
  | _ => none }
def lockEndsRow : OpenClaim := { program := "ytkeejnlicagjiab", sum := "a1d588ef3a59c7eb3b628297a9ce2ecffc441f9cc4fa855a431065f2bdcec42c", func := "frankpledge/frankpledgelaw09.LockEnds", spec := "lockEnds", inPlace := ["internal/bytealg.Compare"], unfollowed := true, recurses := true, apart := false }
def LockEndsSaid : Prop := lockEndsRow.holds Try.pinned (OpenSpec.ofChange lockEndsSpec)

/-- ITS FALSE NEIGHBOUR: 'it returns false'. Refute it at one input. -/
def lockEndsWrong : ChangeSpec := { name := "lockEnds", fn := fun _ => fun
  | [d] => { results := [.lit (.bool false)], args := [d] }
  | _ => none }
def LockEndsWrongFalsely : Prop := lockEndsRow.holds Try.pinned (OpenSpec.ofChange lockEndsWrong)

/-- 'frankpledgelaw09.LockNil': WHATEVER THE INPUT: true; the input reads as it did. -/
def lockNilSpec : ChangeSpec := { name := "lockNil", fn := fun _ => fun
  | [d] => { results := [.lit (.bool true)], args := [d] }
  | _ => none }
def lockNilRow : OpenClaim := { program := "ytkeejnlicagjiab", sum := "a1d588ef3a59c7eb3b628297a9ce2ecffc441f9cc4fa855a431065f2bdcec42c", func := "frankpledge/frankpledgelaw09.LockNil", spec := "lockNil", inPlace := ["internal/bytealg.Compare"], unfollowed := true, recurses := true, apart := false }
def LockNilSaid : Prop := lockNilRow.holds Try.pinned (OpenSpec.ofChange lockNilSpec)

/-- ITS FALSE NEIGHBOUR: 'it returns false'. Refute it at one input. -/
def lockNilWrong : ChangeSpec := { name := "lockNil", fn := fun _ => fun
  | [d] => { results := [.lit (.bool false)], args := [d] }
  | _ => none }
def LockNilWrongFalsely : Prop := lockNilRow.holds Try.pinned (OpenSpec.ofChange lockNilWrong)

/-- 'frankpledgelaw09.LockCovers': WHATEVER THE INPUT: true; the input reads as it did. -/
def lockCoversSpec : ChangeSpec := { name := "lockCovers", fn := fun _ => fun
  | [d1, d2, d3] => { results := [.lit (.bool true)], args := [d1, d2, d3] }
  | _ => none }
def lockCoversRow : OpenClaim := { program := "ytkeejnlicagjiab", sum := "a1d588ef3a59c7eb3b628297a9ce2ecffc441f9cc4fa855a431065f2bdcec42c", func := "frankpledge/frankpledgelaw09.LockCovers", spec := "lockCovers", inPlace := ["internal/bytealg.Compare"], unfollowed := true, recurses := true, apart := false }
def LockCoversSaid : Prop := lockCoversRow.holds Try.pinned (OpenSpec.ofChange lockCoversSpec)

/-- ITS FALSE NEIGHBOUR: 'it returns false'. Refute it at one input. -/
def lockCoversWrong : ChangeSpec := { name := "lockCovers", fn := fun _ => fun
  | [d1, d2, d3] => { results := [.lit (.bool false)], args := [d1, d2, d3] }
  | _ => none }
def LockCoversWrongFalsely : Prop := lockCoversRow.holds Try.pinned (OpenSpec.ofChange lockCoversWrong)

/- THE SECOND FORM. 'bulk': how many values and letters a reading holds, each counted each time it is reached (what is shared counts as often as it is met; a slice's spare places count too). A statement '..UptoSaid' is the law's where the arguments, and the package variables that the reading takes, are together of bulk at most 1048576: NARROWER than '..Said'. Prove '..Said' where nothing that the law and all that it calls make is longer than what came in: it says more and counts as full. Else prove '..UptoSaid'. A law counts once. -/
mutual
def uptoBulk {H : Type} : DataW H → Nat
  | .lit (.string bytes) => bytes.length + 1
  | .lit _ => 1
  | .nil => 1
  | .ptr d => uptoBulk d + 1
  | .slice elems spare => uptoBulkAll elems + uptoBulkAll spare + 1
  | .agg parts => uptoBulkAll parts + 1
  | .iface _ d => uptoBulk d + 1
  | .map entries => uptoBulkEntries entries + 1
  | .held _ => 1
def uptoBulkAll {H : Type} : List (DataW H) → Nat
  | [] => 0
  | d :: r => uptoBulk d + uptoBulkAll r
def uptoBulkEntries {H : Type} : List (Lit × DataW H) → Nat
  | [] => 0
  | x :: r => uptoBulkEntry x + uptoBulkEntries r
def uptoBulkEntry {H : Type} : Lit × DataW H → Nat
  | (.string bytes, d) => bytes.length + uptoBulk d + 1
  | (_, d) => uptoBulk d + 1
 end
def uptoSmall : (H : Type) → List (DataW H) → Bool := fun _ ds => decide (uptoBulkAll ds ≤ 1048576)
def OpenSpec.upto (s : _root_.Go.ChangeSpec) : _root_.Go.OpenSpec := { _root_.Go.OpenSpec.ofChange s with cond := some uptoSmall }

/-- 'frankpledgelaw09.LockSpaces', WHERE WHAT IT READS IS OF BULK AT MOST 1048576: true; the input reads as it did. -/
def lockSpacesUptoRow : OpenClaim := { program := "ytkeejnlicagjiab", sum := "a1d588ef3a59c7eb3b628297a9ce2ecffc441f9cc4fa855a431065f2bdcec42c", func := "frankpledge/frankpledgelaw09.LockSpaces", spec := "lockSpaces", inPlace := ["internal/bytealg.Compare"], unfollowed := true, recurses := true, apart := false, narrowed := true }
def LockSpacesUptoSaid : Prop := lockSpacesUptoRow.holds Try.pinned (OpenSpec.upto lockSpacesSpec)

/-- 'frankpledgelaw09.LockPlays', WHERE WHAT IT READS IS OF BULK AT MOST 1048576: true; the input reads as it did. -/
def lockPlaysUptoRow : OpenClaim := { program := "ytkeejnlicagjiab", sum := "a1d588ef3a59c7eb3b628297a9ce2ecffc441f9cc4fa855a431065f2bdcec42c", func := "frankpledge/frankpledgelaw09.LockPlays", spec := "lockPlays", inPlace := ["internal/bytealg.Compare"], unfollowed := true, recurses := true, apart := false, narrowed := true }
def LockPlaysUptoSaid : Prop := lockPlaysUptoRow.holds Try.pinned (OpenSpec.upto lockPlaysSpec)

/-- 'frankpledgelaw09.LockOdds', WHERE WHAT IT READS IS OF BULK AT MOST 1048576: true; the input reads as it did. -/
def lockOddsUptoRow : OpenClaim := { program := "ytkeejnlicagjiab", sum := "a1d588ef3a59c7eb3b628297a9ce2ecffc441f9cc4fa855a431065f2bdcec42c", func := "frankpledge/frankpledgelaw09.LockOdds", spec := "lockOdds", inPlace := ["internal/bytealg.Compare"], unfollowed := true, recurses := true, apart := false, narrowed := true }
def LockOddsUptoSaid : Prop := lockOddsUptoRow.holds Try.pinned (OpenSpec.upto lockOddsSpec)

/-- 'frankpledgelaw09.LockEnds', WHERE WHAT IT READS IS OF BULK AT MOST 1048576: true; the input reads as it did. -/
def lockEndsUptoRow : OpenClaim := { program := "ytkeejnlicagjiab", sum := "a1d588ef3a59c7eb3b628297a9ce2ecffc441f9cc4fa855a431065f2bdcec42c", func := "frankpledge/frankpledgelaw09.LockEnds", spec := "lockEnds", inPlace := ["internal/bytealg.Compare"], unfollowed := true, recurses := true, apart := false, narrowed := true }
def LockEndsUptoSaid : Prop := lockEndsUptoRow.holds Try.pinned (OpenSpec.upto lockEndsSpec)

/-- 'frankpledgelaw09.LockNil', WHERE WHAT IT READS IS OF BULK AT MOST 1048576: true; the input reads as it did. -/
def lockNilUptoRow : OpenClaim := { program := "ytkeejnlicagjiab", sum := "a1d588ef3a59c7eb3b628297a9ce2ecffc441f9cc4fa855a431065f2bdcec42c", func := "frankpledge/frankpledgelaw09.LockNil", spec := "lockNil", inPlace := ["internal/bytealg.Compare"], unfollowed := true, recurses := true, apart := false, narrowed := true }
def LockNilUptoSaid : Prop := lockNilUptoRow.holds Try.pinned (OpenSpec.upto lockNilSpec)

/-- 'frankpledgelaw09.LockCovers', WHERE WHAT IT READS IS OF BULK AT MOST 1048576: true; the input reads as it did. -/
def lockCoversUptoRow : OpenClaim := { program := "ytkeejnlicagjiab", sum := "a1d588ef3a59c7eb3b628297a9ce2ecffc441f9cc4fa855a431065f2bdcec42c", func := "frankpledge/frankpledgelaw09.LockCovers", spec := "lockCovers", inPlace := ["internal/bytealg.Compare"], unfollowed := true, recurses := true, apart := false, narrowed := true }
def LockCoversUptoSaid : Prop := lockCoversUptoRow.holds Try.pinned (OpenSpec.upto lockCoversSpec)

end Rows
end Go.Proofs.Ytkeejnlicagjiab
