/-
  No cell of these rows narrows 'for every input' (looked for: loops, veiled, ifaces, maps, wideKeys, modest, calm, conditions, laid).
  DERIVED. THE GIVEN ROWS OF THIS SEAT. 3 by the template 'for every input the law returns true; each argument reads behind the call as it read before'; 0 by the template 'total and deterministic' (their statements: YtfeidmgfninmmaaTotals.lean).
  GIVEN WITH THE SEED: the statements are not yours to turn. If you find one false, say at which input.
  Laid BY PROGRAM, IN A SANDBOX (cutbox-rows.mjs): the forced cells as the released guide's own fill.sh prints them over the translation d8c1036a96f29458… (all of the seat's roots in one cut). By AI agents, Wed Nov 11 2026. No macro, syntax, notation, axiom, sorry.
-/
import Derived.Test.YtfeidmgfninmmaaChecked
import GoSem.Claim
import GoSem.ClaimJoined
import GoSem.ClaimMapViews
import Derived.JoinedTies
import Derived.KernelRfl
namespace Go.Proofs.Ytfeidmgfninmmaa
/- THE CELL 'sum', in the pinned program and in every row, IS THE sha256 OF THE DUMP (.gsa) THAT YtfeidmgfninmmaaProg.lean LOADS. Nothing in Lean hashes anything: it is a label: what it is worth is what the hold of that sum in a sandbox is worth. -/
noncomputable def Try.pinned : Pinned := { name := "ytfeidmgfninmmaa", sum := "d8c1036a96f294585997792e611209b4c19ee22814236589db7da0557d14f513", checked := Try.checked }
namespace Rows
def none {H : Type} : Left H := { results := [], args := [] }

/-- 'frankpledgelaw11.LetterEncodes': WHATEVER THE INPUT: true; the input reads as it did. -/
def letterEncodesSpec : ChangeSpec := { name := "letterEncodes", fn := fun _ => fun
  | [d1, d2] => { results := [.lit (.bool true)], args := [d1, d2] }
  | _ => none }
def letterEncodesRow : OpenClaim := { program := "ytfeidmgfninmmaa", sum := "d8c1036a96f294585997792e611209b4c19ee22814236589db7da0557d14f513", func := "frankpledge/frankpledgelaw11.LetterEncodes", spec := "letterEncodes", unfollowed := true, recurses := true, apart := false }
def LetterEncodesSaid : Prop := letterEncodesRow.holds Try.pinned (OpenSpec.ofChange letterEncodesSpec)

/-- ITS FALSE NEIGHBOUR: 'it returns false'. Refute it at one input. -/
def letterEncodesWrong : ChangeSpec := { name := "letterEncodes", fn := fun _ => fun
  | [d1, d2] => { results := [.lit (.bool false)], args := [d1, d2] }
  | _ => none }
def LetterEncodesWrongFalsely : Prop := letterEncodesRow.holds Try.pinned (OpenSpec.ofChange letterEncodesWrong)

/-- 'frankpledgelaw11.LetterBack': WHATEVER THE INPUT: true; the input reads as it did. -/
def letterBackSpec : ChangeSpec := { name := "letterBack", fn := fun _ => fun
  | [d1, d2, d3] => { results := [.lit (.bool true)], args := [d1, d2, d3] }
  | _ => none }
def letterBackRow : OpenClaim := { program := "ytfeidmgfninmmaa", sum := "d8c1036a96f294585997792e611209b4c19ee22814236589db7da0557d14f513", func := "frankpledge/frankpledgelaw11.LetterBack", spec := "letterBack", unfollowed := true, recurses := true, apart := false }
def LetterBackSaid : Prop := letterBackRow.holds Try.pinned (OpenSpec.ofChange letterBackSpec)

/-- ITS FALSE NEIGHBOUR: 'it returns false'. Refute it at one input. -/
def letterBackWrong : ChangeSpec := { name := "letterBack", fn := fun _ => fun
  | [d1, d2, d3] => { results := [.lit (.bool false)], args := [d1, d2, d3] }
  | _ => none }
def LetterBackWrongFalsely : Prop := letterBackRow.holds Try.pinned (OpenSpec.ofChange letterBackWrong)

/-- 'frankpledgelaw11.LetterBits': WHATEVER THE INPUT: true; the input reads as it did. -/
def letterBitsSpec : ChangeSpec := { name := "letterBits", fn := fun _ => fun
  | [d1, d2, d3] => { results := [.lit (.bool true)], args := [d1, d2, d3] }
  | _ => none }
def letterBitsRow : OpenClaim := { program := "ytfeidmgfninmmaa", sum := "d8c1036a96f294585997792e611209b4c19ee22814236589db7da0557d14f513", func := "frankpledge/frankpledgelaw11.LetterBits", spec := "letterBits", unfollowed := true, recurses := true, apart := false }
def LetterBitsSaid : Prop := letterBitsRow.holds Try.pinned (OpenSpec.ofChange letterBitsSpec)

/-- ITS FALSE NEIGHBOUR: 'it returns false'. Refute it at one input. -/
def letterBitsWrong : ChangeSpec := { name := "letterBits", fn := fun _ => fun
  | [d1, d2, d3] => { results := [.lit (.bool false)], args := [d1, d2, d3] }
  | _ => none }
def LetterBitsWrongFalsely : Prop := letterBitsRow.holds Try.pinned (OpenSpec.ofChange letterBitsWrong)

/- THE SECOND FORM. 'bulk': how many values and letters a reading holds, each counted each time it is reached (what is shared counts as often as it is met; a slice's spare places count too). A statement '..UptoSaid' is the law's where the arguments, and the package variables that the reading takes, are together of bulk at most 1048576: NARROWER than '..Said'. Prove '..Said' where nothing that the law and all that it calls make is longer than what came in: it says more and counts as full. Else prove '..UptoSaid'. A law counts once. -/
mutual
def uptoBulk {H : Type} : DataW H → Nat
  | .lit (.string bytes) => bytes.length + 1
  | .lit _ => 1
  | .nil => 1
  | .ptr d => uptoBulk d + 1
  | .slice elems spare => uptoBulkAll elems + uptoBulkAll spare + 1
  | .agg parts => uptoBulkAll parts + 1
  | .iface _ d => uptoBulk d + 1
  | .map entries => uptoBulkEntries entries + 1
  | .held _ => 1
def uptoBulkAll {H : Type} : List (DataW H) → Nat
  | [] => 0
  | d :: r => uptoBulk d + uptoBulkAll r
def uptoBulkEntries {H : Type} : List (Lit × DataW H) → Nat
  | [] => 0
  | x :: r => uptoBulkEntry x + uptoBulkEntries r
def uptoBulkEntry {H : Type} : Lit × DataW H → Nat
  | (.string bytes, d) => bytes.length + uptoBulk d + 1
  | (_, d) => uptoBulk d + 1
 end
def uptoSmall : (H : Type) → List (DataW H) → Bool := fun _ ds => decide (uptoBulkAll ds ≤ 1048576)
def OpenSpec.upto (s : _root_.Go.ChangeSpec) : _root_.Go.OpenSpec := { _root_.Go.OpenSpec.ofChange s with cond := some uptoSmall }

/-- 'frankpledgelaw11.LetterEncodes', WHERE WHAT IT READS IS OF BULK AT MOST 1048576: true; the input reads as it did. -/
def letterEncodesUptoRow : OpenClaim := { program := "ytfeidmgfninmmaa", sum := "d8c1036a96f294585997792e611209b4c19ee22814236589db7da0557d14f513", func := "frankpledge/frankpledgelaw11.LetterEncodes", spec := "letterEncodes", unfollowed := true, recurses := true, apart := false, narrowed := true }
def LetterEncodesUptoSaid : Prop := letterEncodesUptoRow.holds Try.pinned (OpenSpec.upto letterEncodesSpec)

/-- 'frankpledgelaw11.LetterBack', WHERE WHAT IT READS IS OF BULK AT MOST 1048576: true; the input reads as it did. -/
def letterBackUptoRow : OpenClaim := { program := "ytfeidmgfninmmaa", sum := "d8c1036a96f294585997792e611209b4c19ee22814236589db7da0557d14f513", func := "frankpledge/frankpledgelaw11.LetterBack", spec := "letterBack", unfollowed := true, recurses := true, apart := false, narrowed := true }
def LetterBackUptoSaid : Prop := letterBackUptoRow.holds Try.pinned (OpenSpec.upto letterBackSpec)

/-- 'frankpledgelaw11.LetterBits', WHERE WHAT IT READS IS OF BULK AT MOST 1048576: true; the input reads as it did. -/
def letterBitsUptoRow : OpenClaim := { program := "ytfeidmgfninmmaa", sum := "d8c1036a96f294585997792e611209b4c19ee22814236589db7da0557d14f513", func := "frankpledge/frankpledgelaw11.LetterBits", spec := "letterBits", unfollowed := true, recurses := true, apart := false, narrowed := true }
def LetterBitsUptoSaid : Prop := letterBitsUptoRow.holds Try.pinned (OpenSpec.upto letterBitsSpec)

end Rows
end Go.Proofs.Ytfeidmgfninmmaa
