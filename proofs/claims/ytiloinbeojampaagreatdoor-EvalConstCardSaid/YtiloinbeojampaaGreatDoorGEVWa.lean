/-
  The walk: the code comes to the pure functions (printed by a program).
  Conditions: those that each statement prints, and no other.
-/
import Derived.Test.YtiloinbeojampaaGreatDoorEvC
import Derived.Test.YtiloinbeojampaaGreatDoorEvL
import Derived.Lib.AppendIntMem
import Derived.Test.YtiloinbeojampaaGreatDoorShelf
import Derived.Test.YtiloinbeojampaaGreatDoorAs
import Derived.KernelRfl
import Derived.Test.YtiloinbeojampaaGreatDoorRows
import Derived.Test.YtiloinbeojampaaGreatDoorGEVF
set_option linter.unusedVariables false
set_option linter.unusedSimpArgs false
/-! The walk, printed by wip/gen out of the translation. -/
namespace Go.Proofs.YtiloinbeojampaaGreatDoor.E
open Go.Ev Go.ChangeShapes
set_option maxRecDepth 100000
noncomputable section
noncomputable def tab : List (Nat × TE) := [(2, { d := .int .i64, size := 1, bytes := 8, agg := false, ty := some (.int .i64), zero := [.int .i64 0] }),
  (3, { d := .int .i64, size := 1, bytes := 8, agg := false, ty := some (.int .i64), zero := [.int .i64 0] }),
  (4, { d := .bool, size := 1, bytes := 1, agg := false, ty := some .bool, zero := [.bool false] }),
  (5, { d := .int .u8, size := 1, bytes := 1, agg := false, ty := some .byte, zero := [.int .u8 0] }),
  (9, { d := .str, size := 1, bytes := 16, agg := false, ty := some .str, zero := [.str []] }),
  (22, { d := .slice 2, size := 1, bytes := 24, agg := false, ty := some (.slice (.int .i64)), zero := [.nils] }),
  (24, { d := .int .i64, size := 1, bytes := 8, agg := false, ty := some (.int .i64), zero := [.int .i64 0] }),
  (25, { d := .slice 27, size := 1, bytes := 24, agg := false, ty := some (.slice Q3), zero := [.nils] }),
  (27, { d := .struct [⟨0, 1, false⟩, ⟨1, 1, false⟩, ⟨2, 1, false⟩], size := 3, bytes := 32, agg := true, ty := some Q3, zero := [.int .i64 0, .int .i64 0, .str []] }),
  (28, { d := .int .i64, size := 1, bytes := 8, agg := false, ty := some (.int .i64), zero := [.int .i64 0] }),
  (30, { d := .iface, size := 1, bytes := 16, agg := false, ty := some .err, zero := [.err Err.nil] }),
  (33, { d := .int .i64, size := 1, bytes := 8, agg := false, ty := some (.int .i64), zero := [.int .i64 0] }),
  (36, { d := .array 2 3, size := 2, bytes := 16, agg := true, ty := none, zero := [.int .i64 0, .int .i64 0] }),
  (37, { d := .slice 9, size := 1, bytes := 24, agg := false, ty := some (.slice .str), zero := [.nils] }),
  (38, { d := .slice 40, size := 1, bytes := 24, agg := false, ty := some (.slice .ex), zero := [.nils] }),
  (40, { d := .struct [⟨0, 1, false⟩, ⟨1, 3, true⟩, ⟨4, 1, false⟩, ⟨5, 1, false⟩, ⟨6, 1, false⟩, ⟨7, 1, false⟩, ⟨8, 1, false⟩, ⟨9, 1, false⟩], size := 10, bytes := 120, agg := true, ty := some .ex, zero := [.int .i64 0, .int .i64 0, .int .i64 0, .str [], .str [], .str [], .int .i64 0, .nils, .int .i64 0, .int .i64 0] }),
  (54, { d := .slice 3, size := 1, bytes := 24, agg := false, ty := some (.slice (.int .i64)), zero := [.nils] }),
  (73, { d := .ptr 76, size := 1, bytes := 8, agg := false, ty := none, zero := [.nilp] }),
  (76, { d := .struct [⟨0, 1, false⟩, ⟨1, 1, false⟩, ⟨2, 1, false⟩], size := 3, bytes := 32, agg := true, ty := some (.pair (.int .i64) (.pair (.int .i64) (.pair .err .unit))), zero := [.int .i64 0, .int .i64 0, .err Err.nil] }),
  (83, { d := .array 2 27, size := 6, bytes := 64, agg := true, ty := none, zero := [.int .i64 0, .int .i64 0, .str [], .int .i64 0, .int .i64 0, .str []] }),
  (90, { d := .int .u64, size := 1, bytes := 8, agg := false, ty := some (.int .u64), zero := [.int .u64 0] }),
  (112, { d := .struct [⟨0, 1, false⟩, ⟨1, 1, false⟩], size := 2, bytes := 16, agg := true, ty := some (.pair (.int .i64) (.pair (.int .u64) .unit)), zero := [.int .i64 0, .int .u64 0] }),
  (119, { d := .slice 127, size := 1, bytes := 24, agg := false, ty := some (.slice (.pair (.int .i64) (.pair .str (.pair Q3 (.pair (.int .i64) .unit))))), zero := [.nils] }),
  (123, { d := .struct [⟨0, 1, false⟩, ⟨1, 1, false⟩, ⟨2, 1, false⟩], size := 3, bytes := 48, agg := true, ty := some (.pair (.slice (.pair (.int .i64) (.pair .str (.pair Q3 (.pair (.int .i64) .unit))))) (.pair (.int .i64) (.pair .err .unit))), zero := [.nils, .int .i64 0, .err Err.nil] }),
  (125, { d := .int .i64, size := 1, bytes := 8, agg := false, ty := some (.int .i64), zero := [.int .i64 0] }),
  (127, { d := .struct [⟨0, 1, false⟩, ⟨1, 1, false⟩, ⟨2, 3, true⟩, ⟨5, 1, false⟩], size := 6, bytes := 64, agg := true, ty := some (.pair (.int .i64) (.pair .str (.pair Q3 (.pair (.int .i64) .unit)))), zero := [.int .i64 0, .str [], .int .i64 0, .int .i64 0, .str [], .int .i64 0] }),
  (135, { d := .int .u64, size := 1, bytes := 8, agg := false, ty := some (.int .u64), zero := [.int .u64 0] }),
  (200, { d := .slice 5, size := 1, bytes := 24, agg := false, ty := some (.slice .byte), zero := [.nils] })]
def want : List (Nat × List Nat) := []
def eqs : List (Nat × List EK) := [(27, [.int .i64, .int .i64, .str])]
def b0 : List Nat := [32, 103, 104]
def cmps : List Nat := []
theorem tabOk : tabB Go.Proofs.Tryz.prog tab = true := by kernel_rfl
def X : Cfg := ⟨73, 0, [(7, errP), (8, errP), (0, handP 181 12 30)], b0⟩
theorem mixed : Go.Proofs.Tryz.prog.follows .mixedOrders = true := by kernel_rfl
theorem eqsOk : ∀ t ks, Go.Ev.look eqs t = some ks → eqTB Go.Proofs.Tryz.prog t ks = true := allEq_get (by kernel_rfl)
theorem cmpsOk : cmpsB Go.Proofs.Tryz.prog cmps = true := by kernel_rfl
def tf0 : Option Nat := some 73
theorem tfOk : ∀ t, (match tf0 with | some f => Nat.beq f t | none => false) = true → X.tf = t ∧ tfB Go.Proofs.Tryz.prog t = true := fun t h => Nat.eq_of_beq_eq_true h ▸ ⟨rfl, (by kernel_rfl : tfB Go.Proofs.Tryz.prog 73 = true)⟩
theorem shelf_Add64_91 : ConOk Go.Proofs.Tryz.prog X 91 (conG add64G) := conG_ok (add64_ok (fn := Go.Proofs.Tryz.f91) Go.Proofs.Tryz.func91 (by kernel_rfl) (by kernel_rfl) (by kernel_rfl) (by kernel_rfl)) add64G_of
theorem shelf_At_18 : ConOk Go.Proofs.Tryz.prog X 18 (conG atG) := conG_ok (at_ok Go.Proofs.Tryz.func18 (by kernel_rfl) (.tail _ (.tail _ (.head _))) As.At_nil As.At_hit) atG_of
theorem shelf_Code_12 : ConOk Go.Proofs.Tryz.prog X 12 (conG codeG) := conG_ok (code_ok Go.Proofs.Tryz.func12 (by kernel_rfl) (.tail _ (.tail _ (.head _))) As.Code_nil As.Code_hit) codeG_of
theorem shelf_ParseInt_141 : ConOk Go.Proofs.Tryz.prog X 141 (conG parseG) :=
  conG_ok (parse_ok Go.Proofs.Tryz.func141 (by kernel_rfl) (.head _) (.tail _ (.head _)) (fun s h v hv w => Go.Proofs.Tryz.strconv_ParseInt_10_at64_ok s h v hv w)
    (fun s h hp ev w h1 h2 => (Go.Proofs.Tryz.strconv_ParseInt_10_at64_syntax s h hp ev w h1 h2).mono fun e w' ⟨N, he, _, _, hb⟩ => ⟨N, he, hb⟩)
    (fun s h hp ev w h1 h2 => (Go.Proofs.Tryz.strconv_ParseInt_10_at64_range s h hp ev w h1 h2).mono fun e w' ⟨N, he, _, _, hb⟩ => ⟨N, he, hb⟩)) parseG_of
theorem shelf_Repeat_140 : ConOk Go.Proofs.Tryz.prog X 140 (conG repeatG) := conG_ok (repeat_ok Go.Proofs.Tryz.func140 (by kernel_rfl) (fun s c w h1 h2 => Go.Proofs.Tryz.strings_Repeat s c w h1 h2)) repeatG_of
theorem shelf_ToLower_119 : ConOk Go.Proofs.Tryz.prog X 119 (conG lowerG) := conG_ok (lower_ok Go.Proofs.Tryz.func119 (by kernel_rfl) (fun s w h1 h2 => Go.Proofs.Tryz.strings_ToLower_ascii s w h1 h2)) lowerG_of
noncomputable abbrev PP : Program := Go.Proofs.Tryz.prog
noncomputable def B0 : Cx := { tab := tab, con := [], funs := [], loops := [], want := want, ret := [], calm := [], bnd := [], eqs := eqs, cmps := cmps, tf := tf0, b0 := b0 }
theorem bOk : CxOk PP X B0 := ⟨fun _ _ h => tab_ok tabOk h, eqsOk, cmps_ok cmpsOk, tfOk, rfl⟩
noncomputable def BX (xs : List Nat) (xd : List (Nat × List (Nat × Ty))) (xa : Bool) : Cx := { B0 with xl := true, xs := xs, xd := xd, xa := xa }
theorem bxOk {xs : List Nat} {xd : List (Nat × List (Nat × Ty))} {xa : Bool} : CxOk PP X (BX xs xd xa) := ⟨fun _ _ h => tab_ok tabOk h, eqsOk, cmps_ok cmpsOk, tfOk, rfl⟩
noncomputable def S0 : SCode := ⟨[.leaf (.int .i64), .leaf (.int .i64)], []⟩
noncomputable def R0 : RC := ⟨.leaf (.err), []⟩
noncomputable def S1 : SCode := ⟨[.leaf (.int .u8)], []⟩
noncomputable def R1 : RC := ⟨.leaf (.int .i64), []⟩
noncomputable def S2 : SCode := ⟨.leaf (.str) :: A 3 (.leaf (.sl .own .byte) :: .leaf (.int .i64) :: A 34 []), []⟩
noncomputable def S3 : SCode := ⟨A 40 [], []⟩
noncomputable def S4 : SCode := ⟨A 2 (.leaf (.str) :: .leaf (.int .i64) :: A 36 []), []⟩
noncomputable def S5 : SCode := ⟨[.leaf (.str)], []⟩
noncomputable def R2 : RC := ⟨.tup [.l (.str), .l (.int .i64)], []⟩
noncomputable def S6 : SCode := ⟨[.leaf (.str), .leaf (.int .u8)], []⟩
noncomputable def W0 : List LC := [.int .i64, .str, .int .i64, .int .i64, .str, .int .i64]
noncomputable def S7 : SCode := ⟨.leaf (.str) :: A 1 (.leaf (.lit (.ptr 0 0)) :: .leaf (.str) :: .leaf (.int .i64) :: .leaf (.sl .own .byte) :: A 55 []), [W0]⟩
noncomputable def S8 : SCode := ⟨.leaf (.str) :: A 1 (.leaf (.lit (.ptr 0 0)) :: A 1 (.leaf (.int .i64) :: .leaf (.sl .own .byte) :: A 55 [])), [W0]⟩
noncomputable def S9 : SCode := ⟨.leaf (.str) :: A 1 (.leaf (.lit (.ptr 0 0)) :: .leaf (.str) :: .leaf (.int .i64) :: A 56 []), [W0]⟩
noncomputable def S10 : SCode := ⟨A 2 (.leaf (.lit (.ptr 0 0)) :: A 58 []), [W0]⟩
noncomputable def R3 : RC := ⟨.agg [.int .i64, .str, .int .i64, .int .i64, .str, .int .i64], []⟩
noncomputable def S11 : SCode := ⟨[.leaf (.int .i64)], []⟩
noncomputable def R4 : RC := ⟨.leaf (.bool), []⟩
noncomputable def S12 : SCode := ⟨.leaf (.str) :: .leaf (.lit (.fn 121 [])) :: A 3 (.leaf (.int .i64) :: A 15 []), []⟩
noncomputable def S13 : SCode := ⟨A 5 (.leaf (.int .i64) :: A 15 []), []⟩
noncomputable def S14 : SCode := ⟨[.leaf (.str), .leaf (.lit (.fn 121 []))], []⟩
noncomputable def R5 : RC := ⟨.leaf (.str), []⟩
noncomputable def S15 : SCode := ⟨.leaf (.str) :: .leaf (.lit (.fn 138 [])) :: A 3 (.leaf (.int .i64) :: A 15 []), []⟩
noncomputable def S16 : SCode := ⟨[.leaf (.str), .leaf (.lit (.fn 138 []))], []⟩
noncomputable def S17 : SCode := ⟨[.leaf (.str), .leaf (.str)], []⟩
noncomputable def S18 : SCode := ⟨[.leaf (.str), .leaf (.int .i64)], []⟩
noncomputable def S19 : SCode := ⟨[.leaf (.str), .leaf (.int .i64), .leaf (.int .i64)], []⟩
noncomputable def R6 : RC := ⟨.tup [.l (.int .i64), .l (.err)], []⟩
noncomputable def S20 : SCode := ⟨.leaf (.str) :: A 1 (.leaf (.lit (.ptr 0 0)) :: .leaf (.int .i64) :: .leaf (.str) :: A 1 (.leaf (.int .i64) :: A 64 [])), [W0]⟩
noncomputable def S21 : SCode := ⟨A 2 (.leaf (.lit (.ptr 0 0)) :: A 68 []), [W0]⟩
noncomputable def S22 : SCode := ⟨.leaf (.str) :: A 1 (.leaf (.lit (.ptr 0 0)) :: .leaf (.int .i64) :: .leaf (.str) :: .leaf (.str) :: .leaf (.int .i64) :: A 64 []), [W0]⟩
noncomputable def S23 : SCode := ⟨.leaf (.str) :: A 1 (.leaf (.lit (.ptr 0 0)) :: .leaf (.int .i64) :: .leaf (.str) :: .leaf (.str) :: A 1 (.leaf (.int .i64) :: A 63 [])), [W0]⟩
noncomputable def S24 : SCode := ⟨.leaf (.str) :: A 1 (.leaf (.lit (.ptr 0 0)) :: A 2 (.leaf (.sl .own .str) :: .leaf (.int .i64) :: .leaf (.int .i64) :: A 17 [])), [W0]⟩
noncomputable def S25 : SCode := ⟨.leaf (.str) :: A 1 (.leaf (.lit (.ptr 0 0)) :: A 22 []), [W0]⟩
noncomputable def S26 : SCode := ⟨.leaf (.str) :: A 3 (.leaf (.sl .own (.pair (.int .i64) (.pair .str (.pair Q3 (.pair (.int .i64) .unit))))) :: .leaf (.int .i64) :: A 42 []), []⟩
noncomputable def S27 : SCode := ⟨.leaf (.str) :: A 3 (.leaf (.sl .own (.pair (.int .i64) (.pair .str (.pair Q3 (.pair (.int .i64) .unit))))) :: A 43 []), []⟩
noncomputable def S28 : SCode := ⟨.leaf (.str) :: A 1 (.leaf (.lit (.nils)) :: .leaf (.err) :: .leaf (.sl .own (.pair (.int .i64) (.pair .str (.pair Q3 (.pair (.int .i64) .unit))))) :: A 43 []), []⟩
noncomputable def R7 : RC := ⟨.tup [.l (.sl .ro (.pair (.int .i64) (.pair .str (.pair Q3 (.pair (.int .i64) .unit))))), .l (.err)], []⟩
noncomputable def S29 : SCode := ⟨[.leaf (.err)], []⟩
noncomputable def S30 : SCode := ⟨[.leaf (.err), .leaf (.int .i64), .leaf (.int .i64)], []⟩
noncomputable def W1 : List LC := [.sl .ro (.pair (.int .i64) (.pair .str (.pair Q3 (.pair (.int .i64) .unit)))), .int .i64, .err]
noncomputable def S31 : SCode := ⟨[.leaf (.lit (.ptr 0 0)), .leaf (.str)], [W1]⟩
noncomputable def S32 : SCode := ⟨[.leaf (.lit (.ptr 0 0))], [W1]⟩
noncomputable def R8 : RC := ⟨.agg [.int .i64, .str, .int .i64, .int .i64, .str, .int .i64], [W1]⟩
noncomputable def S33 : SCode := ⟨[.leaf (.lit (.ptr 0 0)), .leaf (.int .i64)], [W1]⟩
noncomputable def R9 : RC := ⟨.leaf (.lit (.tup [])), [W1]⟩
noncomputable def R10 : RC := ⟨.leaf (.bool), [W1]⟩
noncomputable def S34 : SCode := ⟨.leaf (.lit (.ptr 0 0)) :: A 5 (.leaf (.sl .ro .str) :: .leaf (.int .i64) :: .leaf (.int .i64) :: A 10 []), [W1]⟩
noncomputable def S35 : SCode := ⟨A 19 [], [W1]⟩
noncomputable def S36 : SCode := ⟨[.leaf (.lit (.ptr 0 0)), .leaf (.sl .ro .str)], [W1]⟩
noncomputable def R11 : RC := ⟨.agg [.int .i64, .int .i64, .int .i64, .str, .str, .str, .int .i64, .lit (.nils), .int .i64, .int .i64], [W1]⟩
noncomputable def S37 : SCode := ⟨.leaf (.sl .ro .str) :: .leaf (.str) :: A 5 (.leaf (.int .i64) :: .leaf (.int .i64) :: A 10 []), []⟩
noncomputable def S38 : SCode := ⟨A 19 [], []⟩
noncomputable def S39 : SCode := ⟨A 4 (.leaf (.int .i64) :: A 14 []), []⟩
noncomputable def S40 : SCode := ⟨[.leaf (.sl .ro .str), .leaf (.str)], []⟩
noncomputable def R12 : RC := ⟨.leaf (.str), [W1]⟩
noncomputable def W2 : List LC := [.int .i64, .int .i64, .int .i64, .str, .str, .str, .int .i64, .sl .ro .ex, .int .i64, .int .i64]
noncomputable def W3 : List LC := [.int .i64, .int .i64, .int .i64, .str, .str, .str, .int .i64, .lit (.nils), .int .i64, .int .i64]
noncomputable def S41 : SCode := ⟨.leaf (.lit (.ptr 0 0)) :: A 5 (.leaf (.lit (.ptr 3 0)) :: .leaf (.lit (.ptr 4 0)) :: A 101 []), [W1, W0, W2, W3, W3]⟩
noncomputable def S42 : SCode := ⟨A 6 (.leaf (.lit (.ptr 3 0)) :: .leaf (.lit (.ptr 4 0)) :: A 101 []), [W1, W0, W2, W3, W3]⟩
noncomputable def S43 : SCode := ⟨.leaf (.lit (.ptr 0 0)) :: A 5 (.leaf (.lit (.ptr 3 0)) :: .leaf (.lit (.ptr 4 0)) :: A 63 (.leaf (.bool) :: A 37 [])), [W1, W0, W2, W3, W3]⟩
noncomputable def S44 : SCode := ⟨[.leaf (.lit (.ptr 0 0)), .agg [.int .i64, .str, .int .i64, .int .i64, .str, .int .i64], .agg [.int .i64, .int .i64, .int .i64, .str, .str, .str, .int .i64, .sl .ro .ex, .int .i64, .int .i64]], [W1]⟩
noncomputable def R13 : RC := ⟨.agg [.int .i64, .int .i64, .int .i64, .str, .str, .str, .int .i64, .sl .ro .ex, .int .i64, .int .i64], [W1]⟩
noncomputable def S45 : SCode := ⟨.leaf (.lit (.ptr 0 0)) :: A 1 (.leaf (.lit (.ptr 1 0)) :: .leaf (.lit (.ptr 2 0)) :: .leaf (.lit (.ptr 3 0)) :: A 1 (.leaf (.int .i64) :: A 54 [])), [W1, W3, W2, W0]⟩
noncomputable def W4 : List LC := [.int .i64, .int .i64, .int .i64, .str, .str, .str, .int .i64, .sl .own .ex, .int .i64, .int .i64]
noncomputable def S46 : SCode := ⟨A 2 (.leaf (.lit (.ptr 1 0)) :: A 58 []), [W1, W4, W2, W0]⟩
noncomputable def S47 : SCode := ⟨[.leaf (.lit (.ptr 0 0)), .fn 103 [.lit (.ptr 0 0)]], [W1]⟩
noncomputable def S48 : SCode := ⟨[.leaf (.lit (.ptr 0 0)), .fn 32 [.lit (.ptr 0 0)]], [W1]⟩
noncomputable def S49 : SCode := ⟨[.leaf (.lit (.ptr 0 0)), .fn 104 [.lit (.ptr 0 0)]], [W1]⟩
noncomputable def S50 : SCode := ⟨A 1 (.leaf (.int .i64) :: .leaf (.lit (.ptr 0 0)) :: A 37 []), [W0]⟩
noncomputable def S51 : SCode := ⟨A 4 (.leaf (.int .i64) :: A 35 []), [W0]⟩
noncomputable def S52 : SCode := ⟨[.agg [.int .i64, .str, .int .i64, .int .i64, .str, .int .i64], .leaf (.int .i64)], []⟩
noncomputable def S53 : SCode := ⟨.leaf (.lit (.ptr 0 0)) :: .leaf (.int .i64) :: A 2 (.leaf (.lit (.ptr 1 0)) :: .leaf (.lit (.ptr 2 0)) :: .leaf (.int .i64) :: .leaf (.int .i64) :: A 41 []), [W1, W3, W2]⟩
noncomputable def S54 : SCode := ⟨.leaf (.lit (.ptr 0 0)) :: .leaf (.int .i64) :: A 2 (.leaf (.lit (.ptr 1 0)) :: .leaf (.lit (.ptr 2 0)) :: A 43 []), [W1, W3, W4]⟩
noncomputable def S55 : SCode := ⟨.leaf (.lit (.ptr 0 0)) :: .leaf (.int .i64) :: A 2 (.leaf (.lit (.ptr 1 0)) :: .leaf (.lit (.ptr 2 0)) :: A 43 []), [W1, W3, W2]⟩
noncomputable def S56 : SCode := ⟨A 4 (.leaf (.lit (.ptr 1 0)) :: .leaf (.lit (.ptr 2 0)) :: A 43 []), [W1, W3, W2]⟩
noncomputable def R14 : RC := ⟨.leaf (.err), [W1]⟩
noncomputable def R15 : RC := ⟨.tup [.agg [.int .i64, .int .i64, .int .i64, .str, .str, .str, .int .i64, .sl .ro .ex, .int .i64, .int .i64], .l (.err)], []⟩
noncomputable def S57 : SCode := ⟨[.leaf (.bool)], []⟩
noncomputable def R16 : RC := ⟨.agg [.int .i64, .int .i64, .str], []⟩
noncomputable def S58 : SCode := ⟨[.agg [.int .i64, .int .i64, .str]], []⟩
noncomputable def S59 : SCode := ⟨[.agg [.int .i64, .int .i64, .str], .agg [.int .i64, .int .i64, .str]], []⟩
noncomputable def S60 : SCode := ⟨[.agg [.int .i64, .int .i64, .str], .agg [.int .i64, .int .i64, .str], .agg [.int .i64, .int .i64, .str]], []⟩
noncomputable def R17 : RC := ⟨.tup [.agg [.int .i64, .int .i64, .str], .l (.err)], []⟩
noncomputable def R18 : RC := ⟨.tup [.l (.int .u64), .l (.bool)], []⟩
noncomputable def S61 : SCode := ⟨[.leaf (.int .u64), .leaf (.int .u64)], []⟩
noncomputable def R19 : RC := ⟨.tup [.l (.int .u64), .l (.int .u64)], []⟩
noncomputable def S62 : SCode := ⟨[.leaf (.int .u64), .leaf (.bool)], []⟩
noncomputable def R20 : RC := ⟨.tup [.l (.int .i64), .l (.bool)], []⟩
noncomputable def S63 : SCode := ⟨[.agg [.int .i64, .int .i64, .str], .leaf (.int .i64)], []⟩
noncomputable def S64 : SCode := ⟨.leaf (.int .u64) :: A 1 (.leaf (.int .i64) :: A 22 []), []⟩
noncomputable def S65 : SCode := ⟨A 2 (.leaf (.int .i64) :: A 22 []), []⟩
noncomputable def S66 : SCode := ⟨[.leaf (.int .u64)], []⟩
noncomputable def S67 : SCode := ⟨A 2 (.leaf (.int .u64) :: A 5 (.leaf (.int .u64) :: .leaf (.int .u64) :: .leaf (.int .u64) :: A 3 (.leaf (.int .u64) :: .leaf (.int .u64) :: .leaf (.int .u64) :: .leaf (.int .u64) :: .leaf (.int .u64) :: A 116 []))), []⟩
noncomputable def S68 : SCode := ⟨A 2 (.leaf (.int .u64) :: A 5 (.leaf (.int .u64) :: A 5 (.leaf (.int .u64) :: .leaf (.int .u64) :: A 1 (.leaf (.int .u64) :: .leaf (.int .u64) :: A 116 [])))), []⟩
noncomputable def S69 : SCode := ⟨A 2 (.leaf (.int .u64) :: A 5 (.leaf (.int .u64) :: .leaf (.int .u64) :: .leaf (.int .u64) :: .leaf (.int .u64) :: A 1 (.leaf (.int .u64) :: .leaf (.int .u64) :: .leaf (.int .u64) :: .leaf (.int .u64) :: A 118 []))), []⟩
noncomputable def S70 : SCode := ⟨A 2 (.leaf (.int .u64) :: A 5 (.leaf (.int .u64) :: .leaf (.int .u64) :: .leaf (.int .u64) :: .leaf (.int .u64) :: A 1 (.leaf (.int .u64) :: .leaf (.int .u64) :: .leaf (.int .u64) :: A 119 []))), []⟩
noncomputable def S71 : SCode := ⟨.leaf (.int .u64) :: .leaf (.int .u64) :: .leaf (.int .u64) :: A 132 [], []⟩
noncomputable def S72 : SCode := ⟨A 6 (.leaf (.int .u64) :: .leaf (.int .u64) :: A 127 []), []⟩
noncomputable def S73 : SCode := ⟨[.leaf (.int .u64), .leaf (.int .u64), .leaf (.int .u64)], []⟩
noncomputable def S74 : SCode := ⟨[.leaf (.int .i64), .leaf (.int .i64), .leaf (.int .i64)], []⟩
noncomputable def S75 : SCode := ⟨.leaf (.int .i64) :: A 5 (.leaf (.lit (.ptr 2 0)) :: A 1 (.leaf (.int .i64) :: .leaf (.int .i64) :: .leaf (.int .i64) :: .leaf (.int .i64) :: A 113 [])), [[.int .i64, .int .i64, .str], [.int .i64, .int .i64, .str], [.int .i64, .int .i64, .str]]⟩
noncomputable def S76 : SCode := ⟨A 6 (.leaf (.lit (.ptr 2 0)) :: .leaf (.err) :: A 117 []), [[.int .i64, .int .i64, .str], [.int .i64, .int .i64, .str], [.int .i64, .int .i64, .str]]⟩
noncomputable def S77 : SCode := ⟨.leaf (.int .i64) :: A 3 (.leaf (.lit (.ptr 0 0)) :: .leaf (.lit (.ptr 1 0)) :: .leaf (.lit (.ptr 2 0)) :: A 1 (.leaf (.int .i64) :: .leaf (.int .i64) :: .leaf (.int .i64) :: .leaf (.int .i64) :: A 45 (.leaf (.bool) :: A 67 []))), [[.int .i64, .int .i64, .str], [.int .i64, .int .i64, .str], [.int .i64, .int .i64, .str]]⟩
noncomputable def S78 : SCode := ⟨.leaf (.int .i64) :: A 5 (.leaf (.lit (.ptr 2 0)) :: .leaf (.err) :: .leaf (.int .i64) :: .leaf (.int .i64) :: .leaf (.int .i64) :: .leaf (.int .i64) :: A 113 []), [[.int .i64, .int .i64, .str], [.int .i64, .int .i64, .str], [.int .i64, .int .i64, .str]]⟩
noncomputable def S79 : SCode := ⟨.leaf (.int .i64) :: A 3 (.leaf (.lit (.ptr 0 0)) :: .leaf (.lit (.ptr 1 0)) :: .leaf (.lit (.ptr 2 0)) :: A 118 []), [[.int .i64, .int .i64, .str], [.int .i64, .int .i64, .str], [.int .i64, .int .i64, .str]]⟩
noncomputable def S80 : SCode := ⟨.leaf (.int .i64) :: A 3 (.leaf (.lit (.ptr 0 0)) :: .leaf (.lit (.ptr 1 0)) :: .leaf (.lit (.ptr 2 0)) :: A 8 (.leaf (.bool) :: A 109 [])), [[.int .i64, .int .i64, .str], [.int .i64, .int .i64, .str], [.int .i64, .int .i64, .str]]⟩
noncomputable def S81 : SCode := ⟨.leaf (.int .i64) :: A 3 (.leaf (.lit (.ptr 0 0)) :: .leaf (.lit (.ptr 1 0)) :: .leaf (.lit (.ptr 2 0)) :: .leaf (.err) :: A 117 []), [[.int .i64, .int .i64, .str], [.int .i64, .int .i64, .str], [.int .i64, .int .i64, .str]]⟩
noncomputable def S82 : SCode := ⟨[.leaf (.int .i64), .agg [.int .i64, .int .i64, .str], .agg [.int .i64, .int .i64, .str]], []⟩
noncomputable def S83 : SCode := ⟨A 3 (.leaf (.int .i64) :: A 2 (.leaf (.sl .ro (.int .i64)) :: .leaf (.int .i64) :: .leaf (.int .i64) :: A 9 [])), []⟩
noncomputable def S84 : SCode := ⟨A 3 (.leaf (.int .i64) :: A 14 []), []⟩
noncomputable def S85 : SCode := ⟨A 2 (.leaf (.int .i64) :: .leaf (.int .i64) :: A 14 []), []⟩
noncomputable def S86 : SCode := ⟨[.leaf (.sl .ro (.int .i64))], []⟩
noncomputable def S87 : SCode := ⟨A 2 (.leaf (.lit (.ptr 0 0)) :: .leaf (.lit (.ptr 1 0)) :: A 2 (.leaf (.bool) :: A 44 [])), [[.int .i64, .int .i64, .str], [.int .i64, .int .i64, .str]]⟩
noncomputable def S88 : SCode := ⟨A 2 (.leaf (.lit (.ptr 0 0)) :: .leaf (.lit (.ptr 1 0)) :: A 47 []), [[.int .i64, .int .i64, .str], [.int .i64, .int .i64, .str]]⟩
noncomputable def S89 : SCode := ⟨A 2 (.leaf (.lit (.ptr 0 0)) :: .leaf (.lit (.ptr 1 0)) :: .leaf (.int .i64) :: .leaf (.err) :: A 45 []), [[.int .i64, .int .i64, .str], [.int .i64, .int .i64, .str]]⟩
noncomputable def S90 : SCode := ⟨.leaf (.int .i64) :: A 3 (.leaf (.lit (.ptr 0 0)) :: .leaf (.lit (.ptr 1 0)) :: .leaf (.lit (.ptr 2 0)) :: A 79 []), [[.int .i64, .int .i64, .str], [.int .i64, .int .i64, .str], [.int .i64, .int .i64, .str]]⟩
noncomputable def S91 : SCode := ⟨A 6 (.leaf (.lit (.ptr 2 0)) :: .leaf (.err) :: A 78 []), [[.int .i64, .int .i64, .str], [.int .i64, .int .i64, .str], [.int .i64, .int .i64, .str]]⟩
noncomputable def S92 : SCode := ⟨.leaf (.int .i64) :: A 3 (.leaf (.lit (.ptr 0 0)) :: .leaf (.lit (.ptr 1 0)) :: .leaf (.lit (.ptr 2 0)) :: A 5 (.leaf (.bool) :: A 73 [])), [[.int .i64, .int .i64, .str], [.int .i64, .int .i64, .str], [.int .i64, .int .i64, .str]]⟩
noncomputable def S93 : SCode := ⟨.leaf (.int .i64) :: A 3 (.leaf (.lit (.ptr 0 0)) :: .leaf (.lit (.ptr 1 0)) :: .leaf (.lit (.ptr 2 0)) :: .leaf (.err) :: A 78 []), [[.int .i64, .int .i64, .str], [.int .i64, .int .i64, .str], [.int .i64, .int .i64, .str]]⟩
noncomputable def W5 : List LC := [.int .i64, .int .i64, .str, .int .i64, .int .i64, .str]
noncomputable def S94 : SCode := ⟨A 2 (.leaf (.lit (.ptr 0 0)) :: A 1 (.leaf (.lit (.ptr 1 0)) :: A 1 (.leaf (.lit (.ptr 2 0)) :: A 4 (.leaf (.lit (.ptr 3 0)) :: A 117 (.leaf (.bool) :: A 21 []))))), [W2, [.int .i64, .int .i64, .str], W5, [.int .i64, .int .i64, .str]]⟩
noncomputable def S95 : SCode := ⟨A 2 (.leaf (.lit (.ptr 0 0)) :: A 1 (.leaf (.lit (.ptr 1 0)) :: A 6 (.leaf (.lit (.ptr 3 0)) :: .leaf (.err) :: A 138 []))), [W2, [.int .i64, .int .i64, .str], W5, [.int .i64, .int .i64, .str]]⟩
noncomputable def S96 : SCode := ⟨A 4 (.leaf (.lit (.ptr 1 0)) :: .leaf (.err) :: A 145 []), [W2, [.int .i64, .int .i64, .str], W5, [.int .i64, .int .i64, .str]]⟩
noncomputable def S97 : SCode := ⟨A 1 (.leaf (.sl .ro Q3) :: .leaf (.lit (.ptr 0 0)) :: A 1 (.leaf (.lit (.ptr 1 0)) :: A 1 (.leaf (.lit (.ptr 2 0)) :: A 35 (.leaf (.sl .ro .ex) :: .leaf (.int .i64) :: .leaf (.int .i64) :: A 106 [])))), [W2, [.int .i64, .int .i64, .str], W5]⟩
noncomputable def S98 : SCode := ⟨A 1 (.leaf (.sl .ro Q3) :: .leaf (.lit (.ptr 0 0)) :: A 1 (.leaf (.lit (.ptr 1 0)) :: A 1 (.leaf (.lit (.ptr 2 0)) :: A 144 []))), [W2, [.int .i64, .int .i64, .str], W5]⟩
noncomputable def S99 : SCode := ⟨A 1 (.leaf (.sl .ro Q3) :: .leaf (.lit (.ptr 0 0)) :: A 1 (.leaf (.lit (.ptr 1 0)) :: .leaf (.err) :: .leaf (.lit (.ptr 2 0)) :: A 144 [])), [W2, [.int .i64, .int .i64, .str], W5]⟩
noncomputable def S100 : SCode := ⟨A 1 (.leaf (.sl .ro Q3) :: .leaf (.lit (.ptr 0 0)) :: A 1 (.leaf (.lit (.ptr 1 0)) :: A 146 [])), [W2, [.int .i64, .int .i64, .str]]⟩
noncomputable def S101 : SCode := ⟨A 4 (.leaf (.lit (.ptr 1 0)) :: .leaf (.err) :: A 145 []), [W2, [.int .i64, .int .i64, .str]]⟩
noncomputable def S102 : SCode := ⟨[.agg [.int .i64, .int .i64, .int .i64, .str, .str, .str, .int .i64, .sl .ro .ex, .int .i64, .int .i64], .leaf (.sl .ro Q3)], []⟩
noncomputable def R21 : RC := ⟨.agg [.int .i64, .int .u64], []⟩
noncomputable def S103 : SCode := ⟨[.agg [.int .i64, .int .u64], .agg [.int .i64, .int .u64]], []⟩
noncomputable def S104 : SCode := ⟨[.agg [.int .i64, .int .u64], .leaf (.int .u64)], []⟩
noncomputable def S105 : SCode := ⟨[.agg [.int .i64, .int .u64]], []⟩
noncomputable def S106 : SCode := ⟨A 2 (.leaf (.lit (.ptr 0 0)) :: A 1 (.leaf (.lit (.ptr 1 0)) :: A 1 (.leaf (.lit (.ptr 3 0)) :: A 70 []))), [[.int .i64, .int .i64, .str], [.int .i64, .int .u64], [.int .i64, .int .u64], [.int .i64, .int .i64, .str]]⟩
noncomputable def S107 : SCode := ⟨A 2 (.leaf (.lit (.ptr 0 0)) :: .leaf (.err) :: A 73 []), [[.int .i64, .int .i64, .str], [.int .i64, .int .u64], [.int .i64, .int .u64], [.int .i64, .int .i64, .str]]⟩
noncomputable def S108 : SCode := ⟨A 2 (.leaf (.lit (.ptr 0 0)) :: A 1 (.leaf (.lit (.ptr 1 0)) :: .leaf (.lit (.ptr 2 0)) :: .leaf (.lit (.ptr 3 0)) :: A 10 (.leaf (.sl .ro Q3) :: .leaf (.int .i64) :: .leaf (.int .i64) :: A 57 []))), [[.int .i64, .int .i64, .str], [.int .i64, .int .u64], [.int .i64, .int .u64], [.int .i64, .int .i64, .str]]⟩
noncomputable def S109 : SCode := ⟨A 2 (.leaf (.lit (.ptr 0 0)) :: A 1 (.leaf (.lit (.ptr 1 0)) :: .leaf (.lit (.ptr 2 0)) :: .leaf (.lit (.ptr 3 0)) :: A 70 [])), [[.int .i64, .int .i64, .str], [.int .i64, .int .u64], [.int .i64, .int .u64], [.int .i64, .int .i64, .str]]⟩
noncomputable def S110 : SCode := ⟨A 2 (.leaf (.lit (.ptr 0 0)) :: .leaf (.err) :: .leaf (.lit (.ptr 1 0)) :: .leaf (.lit (.ptr 2 0)) :: .leaf (.lit (.ptr 3 0)) :: A 70 []), [[.int .i64, .int .i64, .str], [.int .i64, .int .u64], [.int .i64, .int .u64], [.int .i64, .int .i64, .str]]⟩
noncomputable def S111 : SCode := ⟨[.leaf (.sl .ro Q3)], []⟩
noncomputable def S112 : SCode := ⟨.leaf (.int .i64) :: A 3 (.leaf (.lit (.ptr 0 0)) :: A 1 (.leaf (.int .i64) :: .leaf (.lit (.ptr 1 0)) :: .leaf (.int .i64) :: .leaf (.int .i64) :: .leaf (.lit (.ptr 2 0)) :: A 16 (.leaf (.sl .ro Q3) :: .leaf (.int .i64) :: .leaf (.int .i64) :: A 43 []))), [[.int .i64, .int .i64, .str], [.int .i64, .int .i64, .str], [.int .i64, .int .i64, .str]]⟩
noncomputable def S113 : SCode := ⟨.leaf (.int .i64) :: A 3 (.leaf (.lit (.ptr 0 0)) :: A 1 (.leaf (.int .i64) :: .leaf (.lit (.ptr 1 0)) :: .leaf (.int .i64) :: A 18 (.leaf (.sl .ro Q3) :: .leaf (.int .i64) :: .leaf (.int .i64) :: A 43 []))), [[.int .i64, .int .i64, .str], [.int .i64, .int .i64, .str], [.int .i64, .int .i64, .str]]⟩
noncomputable def S114 : SCode := ⟨.leaf (.int .i64) :: A 3 (.leaf (.lit (.ptr 0 0)) :: .leaf (.err) :: .leaf (.int .i64) :: .leaf (.lit (.ptr 1 0)) :: .leaf (.int .i64) :: A 18 (.leaf (.sl .ro Q3) :: .leaf (.int .i64) :: .leaf (.int .i64) :: A 43 [])), [[.int .i64, .int .i64, .str], [.int .i64, .int .i64, .str], [.int .i64, .int .i64, .str]]⟩
noncomputable def S115 : SCode := ⟨.leaf (.int .i64) :: A 3 (.leaf (.lit (.ptr 0 0)) :: A 1 (.leaf (.int .i64) :: .leaf (.lit (.ptr 1 0)) :: .leaf (.int .i64) :: A 18 (.leaf (.sl .ro Q3) :: .leaf (.int .i64) :: .leaf (.int .i64) :: A 43 []))), [[.int .i64, .int .i64, .str], [.int .i64, .int .i64, .str]]⟩
noncomputable def S116 : SCode := ⟨.leaf (.int .i64) :: A 3 (.leaf (.lit (.ptr 0 0)) :: A 2 (.leaf (.lit (.ptr 1 0)) :: .leaf (.int .i64) :: A 64 [])), [[.int .i64, .int .i64, .str], [.int .i64, .int .i64, .str]]⟩
noncomputable def S117 : SCode := ⟨.leaf (.int .i64) :: A 3 (.leaf (.lit (.ptr 0 0)) :: .leaf (.err) :: A 1 (.leaf (.lit (.ptr 1 0)) :: .leaf (.int .i64) :: A 64 [])), [[.int .i64, .int .i64, .str], [.int .i64, .int .i64, .str]]⟩
noncomputable def S118 : SCode := ⟨.leaf (.int .i64) :: .leaf (.sl .ro Q3) :: A 2 (.leaf (.lit (.ptr 0 0)) :: A 1 (.leaf (.int .i64) :: A 66 [])), [[.int .i64, .int .i64, .str]]⟩
noncomputable def S119 : SCode := ⟨A 4 (.leaf (.lit (.ptr 0 0)) :: .leaf (.err) :: A 67 []), [[.int .i64, .int .i64, .str]]⟩
noncomputable def S120 : SCode := ⟨[.leaf (.int .i64), .leaf (.sl .ro Q3)], []⟩
noncomputable def S121 : SCode := ⟨[], []⟩
noncomputable def S122 : SCode := ⟨.leaf (.sl .ro (.int .i64)) :: A 1 (.leaf (.int .i64) :: A 5 (.leaf (.sl .own Q3) :: .leaf (.sl .own Q3) :: A 1 (.leaf (.int .i64) :: .leaf (.lit (.ptr 0 0)) :: .leaf (.err) :: A 2 (.leaf (.lit (.ptr 2 0)) :: A 1 (.leaf (.lit (.ptr 3 0)) :: A 154 (.leaf (.bool) :: A 19 [])))))), [[.int .i64, .int .i64, .str], [.int .i64, .int .i64, .str], [.int .i64, .int .i64, .str], [.int .i64, .int .i64, .str]]⟩
noncomputable def S123 : SCode := ⟨.leaf (.sl .ro (.int .i64)) :: A 1 (.leaf (.int .i64) :: A 5 (.leaf (.sl .own Q3) :: .leaf (.sl .own Q3) :: A 1 (.leaf (.int .i64) :: A 181 []))), [[.int .i64, .int .i64, .str], [.int .i64, .int .i64, .str], [.int .i64, .int .i64, .str], [.int .i64, .int .i64, .str]]⟩
noncomputable def S124 : SCode := ⟨.leaf (.sl .ro (.int .i64)) :: A 1 (.leaf (.int .i64) :: A 3 (.leaf (.bool) :: A 1 (.leaf (.sl .own Q3) :: .leaf (.sl .own Q3) :: A 1 (.leaf (.int .i64) :: A 181 [])))), [[.int .i64, .int .i64, .str], [.int .i64, .int .i64, .str], [.int .i64, .int .i64, .str], [.int .i64, .int .i64, .str]]⟩
noncomputable def S125 : SCode := ⟨.leaf (.sl .ro (.int .i64)) :: A 1 (.leaf (.int .i64) :: A 5 (.leaf (.sl .own Q3) :: .leaf (.sl .own Q3) :: A 1 (.leaf (.int .i64) :: .leaf (.lit (.ptr 0 0)) :: .leaf (.err) :: A 2 (.leaf (.lit (.ptr 2 0)) :: .leaf (.err) :: .leaf (.lit (.ptr 3 0)) :: .leaf (.err) :: A 173 [])))), [[.int .i64, .int .i64, .str], [.int .i64, .int .i64, .str], [.int .i64, .int .i64, .str], [.int .i64, .int .i64, .str]]⟩
noncomputable def S126 : SCode := ⟨.leaf (.sl .ro (.int .i64)) :: A 1 (.leaf (.int .i64) :: A 5 (.leaf (.sl .own Q3) :: .leaf (.sl .own Q3) :: A 1 (.leaf (.int .i64) :: A 181 []))), []⟩
noncomputable def S127 : SCode := ⟨A 193 [], []⟩
noncomputable def S128 : SCode := ⟨A 6 (.leaf (.bool) :: A 186 []), []⟩
noncomputable def S129 : SCode := ⟨.leaf (.sl .ro (.int .i64)) :: A 1 (.leaf (.int .i64) :: A 5 (.leaf (.sl .own Q3) :: .leaf (.sl .own Q3) :: A 183 [])), []⟩
noncomputable def S130 : SCode := ⟨.leaf (.sl .ro (.int .i64)) :: A 1 (.leaf (.int .i64) :: A 4 (.leaf (.int .i64) :: .leaf (.sl .own Q3) :: .leaf (.sl .own Q3) :: .leaf (.int .i64) :: A 182 [])), []⟩
noncomputable def S131 : SCode := ⟨.leaf (.sl .ro (.int .i64)) :: A 1 (.leaf (.int .i64) :: A 4 (.leaf (.int .i64) :: A 185 [])), []⟩
noncomputable def S132 : SCode := ⟨[.leaf (.sl .ro (.int .i64)), .leaf (.bool), .leaf (.int .i64)], []⟩
noncomputable def S133 : SCode := ⟨A 1 (.leaf (.int .i64) :: .leaf (.lit (.ptr 0 0)) :: A 1 (.leaf (.lit (.ptr 1 0)) :: .leaf (.sl .own .ex) :: .leaf (.int .i64) :: A 45 [])), [W2, W3]⟩
noncomputable def S134 : SCode := ⟨A 2 (.leaf (.lit (.ptr 0 0)) :: A 1 (.leaf (.lit (.ptr 1 0)) :: .leaf (.sl .own .ex) :: A 46 [])), [W2, W3]⟩
noncomputable def S135 : SCode := ⟨A 1 (.leaf (.int .i64) :: .leaf (.lit (.ptr 0 0)) :: A 1 (.leaf (.lit (.ptr 1 0)) :: A 47 [])), [W2, W3]⟩
noncomputable def S136 : SCode := ⟨A 4 (.leaf (.lit (.ptr 1 0)) :: A 47 []), [W4, W2]⟩
noncomputable def S137 : SCode := ⟨[.agg [.int .i64, .int .i64, .int .i64, .str, .str, .str, .int .i64, .sl .ro .ex, .int .i64, .int .i64], .leaf (.int .i64)], []⟩
noncomputable def R22 : RC := ⟨.agg [.int .i64, .int .i64, .int .i64, .str, .str, .str, .int .i64, .sl .ro .ex, .int .i64, .int .i64], []⟩
noncomputable def S138 : SCode := ⟨A 1 (.leaf (.lit (.ptr 0 0)) :: A 1 (.leaf (.sl .own Q3) :: A 2 (.leaf (.sl .own .str) :: .leaf (.sl .own Q3) :: .leaf (.int .i64) :: A 104 []))), [[.int .i64, .int .i64]]⟩
noncomputable def S139 : SCode := ⟨A 1 (.leaf (.lit (.ptr 0 0)) :: A 5 (.leaf (.sl .own Q3) :: A 105 [])), [[.int .i64, .int .i64]]⟩
noncomputable def S140 : SCode := ⟨A 1 (.leaf (.lit (.ptr 0 0)) :: .leaf (.bool) :: A 4 (.leaf (.sl .own Q3) :: A 105 [])), [[.int .i64, .int .i64]]⟩
noncomputable def S141 : SCode := ⟨A 1 (.leaf (.lit (.ptr 0 0)) :: A 1 (.leaf (.sl .own Q3) :: .leaf (.int .i64) :: A 108 [])), [[.int .i64, .int .i64]]⟩
noncomputable def S142 : SCode := ⟨A 1 (.leaf (.lit (.ptr 0 0)) :: A 1 (.leaf (.sl .own Q3) :: A 109 [])), [[.int .i64, .int .i64]]⟩
noncomputable def S143 : SCode := ⟨[.agg [.int .i64, .int .i64]], []⟩
noncomputable def S144 : SCode := ⟨.leaf (.sl .ro Q3) :: A 2 (.leaf (.int .i64) :: A 17 []), []⟩
noncomputable def S145 : SCode := ⟨A 21 [], []⟩
noncomputable def S146 : SCode := ⟨A 2 (.leaf (.bool) :: A 18 []), []⟩
noncomputable def S147 : SCode := ⟨A 1 (.leaf (.lit (.ptr 0 0)) :: A 1 (.leaf (.int .i64) :: .leaf (.int .i64) :: A 23 [])), [W2]⟩
noncomputable def S148 : SCode := ⟨A 3 (.leaf (.int .i64) :: A 24 []), [W2]⟩
noncomputable def S149 : SCode := ⟨A 1 (.leaf (.lit (.ptr 0 0)) :: A 1 (.leaf (.int .i64) :: A 24 [])), [W2]⟩
noncomputable def S150 : SCode := ⟨A 2 (.leaf (.int .i64) :: A 25 []), [W2]⟩
noncomputable def S151 : SCode := ⟨[.agg [.int .i64, .int .i64, .int .i64, .str, .str, .str, .int .i64, .sl .ro .ex, .int .i64, .int .i64]], []⟩
noncomputable def S152 : SCode := ⟨A 1 (.leaf (.sl .ro Q3) :: .leaf (.sl .ro Q3) :: A 4 (.leaf (.lit (.ptr 0 0)) :: A 3 (.leaf (.int .i64) :: .leaf (.lit (.ptr 1 0)) :: .leaf (.err) :: A 75 []))), [W2, [.int .i64, .int .i64, .str]]⟩
noncomputable def S153 : SCode := ⟨A 12 (.leaf (.lit (.ptr 1 0)) :: .leaf (.err) :: .leaf (.lit (.ptr 2 0)) :: .leaf (.err) :: A 73 []), [W2, [.int .i64, .int .i64, .str], [.int .i64, .int .i64, .str]]⟩
noncomputable def S154 : SCode := ⟨A 1 (.leaf (.sl .ro Q3) :: .leaf (.sl .ro Q3) :: A 4 (.leaf (.lit (.ptr 0 0)) :: A 81 [])), [W2]⟩
noncomputable def S155 : SCode := ⟨A 6 (.leaf (.bool) :: A 82 []), [W2]⟩
noncomputable def S156 : SCode := ⟨[.leaf (.str), .leaf (.sl .ro Q3), .leaf (.sl .ro Q3)], []⟩
noncomputable def S157 : SCode := ⟨A 2 (.leaf (.lit (.ptr 0 0)) :: A 1 (.leaf (.lit (.ptr 1 0)) :: A 12 (.leaf (.bool) :: A 24 []))), [[.int .i64, .int .i64, .str], [.int .i64, .int .i64, .str]]⟩
noncomputable def S158 : SCode := ⟨A 2 (.leaf (.lit (.ptr 0 0)) :: A 1 (.leaf (.lit (.ptr 1 0)) :: A 37 [])), [[.int .i64, .int .i64, .str], [.int .i64, .int .i64, .str]]⟩
noncomputable def S159 : SCode := ⟨A 2 (.leaf (.lit (.ptr 0 0)) :: A 1 (.leaf (.lit (.ptr 1 0)) :: .leaf (.err) :: A 36 [])), [[.int .i64, .int .i64, .str], [.int .i64, .int .i64, .str]]⟩
noncomputable def S160 : SCode := ⟨A 1 (.leaf (.int .i64) :: .leaf (.lit (.ptr 0 0)) :: A 1 (.leaf (.lit (.ptr 1 0)) :: A 1 (.leaf (.bool) :: A 35 []))), [[.int .i64, .int .i64, .str], [.int .i64, .int .i64, .str]]⟩
noncomputable def S161 : SCode := ⟨A 2 (.leaf (.lit (.ptr 0 0)) :: A 2 (.leaf (.lit (.ptr 1 0)) :: .leaf (.err) :: .leaf (.bool) :: A 94 [])), [[.int .i64, .int .i64, .str], [.int .i64, .int .i64, .str]]⟩
noncomputable def S162 : SCode := ⟨A 4 (.leaf (.bool) :: .leaf (.lit (.ptr 1 0)) :: .leaf (.err) :: A 95 []), [[.int .i64, .int .i64, .str], [.int .i64, .int .i64, .str]]⟩
noncomputable def S163 : SCode := ⟨A 2 (.leaf (.lit (.ptr 0 0)) :: A 2 (.leaf (.lit (.ptr 1 0)) :: .leaf (.err) :: A 37 (.leaf (.bool) :: A 57 []))), [[.int .i64, .int .i64, .str], [.int .i64, .int .i64, .str]]⟩
noncomputable def S164 : SCode := ⟨A 5 (.leaf (.lit (.ptr 1 0)) :: .leaf (.err) :: A 95 []), [[.int .i64, .int .i64, .str], [.int .i64, .int .i64, .str]]⟩
noncomputable def S165 : SCode := ⟨A 1 (.leaf (.int .i64) :: .leaf (.lit (.ptr 0 0)) :: A 2 (.leaf (.lit (.ptr 1 0)) :: .leaf (.err) :: A 17 (.leaf (.bool) :: A 77 []))), [[.int .i64, .int .i64, .str], [.int .i64, .int .i64, .str]]⟩
noncomputable def S166 : SCode := ⟨A 1 (.leaf (.int .i64) :: .leaf (.lit (.ptr 0 0)) :: A 99 []), [[.int .i64, .int .i64, .str]]⟩
/-! 28 frankpledge/fault.New -/
def fault_New_d : FD := ⟨(BX [] [] false).lean [] [], 1, [], [], [], Tryz.f28⟩
theorem fault_New_cs : CsOk PP X fault_New_d.cx := csL bxOk mixed trivial trivial (by kernel_rfl)
theorem fault_New_w : ConOk PP X 28 fault_New_d.raw := rawD fault_New_cs Tryz.func28 (n := 0) (js := []) (by kernel_rfl) trivial trivial
theorem fault_New_T : TK fault_New_d.raw S0 R0 fun R => fault_New_cps big R := fun _ _ _ => by kernel_rfl
def fault_New_k : CR := kC 28 [] [] S0 R0 (fault_New big)
theorem fault_New_ok : fault_New_k.Ok PP X := okC fault_New_w _ fault_New_T (by kernel_rfl)
/-! 101 frankpledge/lex.of -/
def lex_of_d : FD := ⟨B0.lean [] [], 1, [], [], [], Tryz.f101⟩
theorem lex_of_cs : CsOk PP X lex_of_d.cx := csL bOk mixed trivial trivial (by kernel_rfl)
theorem lex_of_w : ConOk PP X 101 lex_of_d.raw := rawD lex_of_cs Tryz.func101 (n := 0) (js := []) (by kernel_rfl) trivial trivial
theorem lex_of_T : TK lex_of_d.raw S1 R1 fun R => lex_of_cps big R := fun _ _ _ => by kernel_rfl
def lex_of_k : CR := kC 101 [] [] S1 R1 (lex_of big)
theorem lex_of_ok : lex_of_k.Ok PP X := okC lex_of_w _ lex_of_T (by kernel_rfl)
/-! 130 frankpledge/lex.quoted -/
def lex_quoted_l0F : LF S2 := fun R n k => S2.app (lex_quoted_l0 big R (S3.ex k (.exit 0)) (S4.ex k .ret) n)
def lex_quoted_l0G : BF S2 := fun R r k => S2.app (lex_quoted_l0B big R (S2.cur r) (S3.ex k (.exit 0)) (S4.ex k .ret))
def lex_quoted_l0h : LH := lhL S2 lex_quoted_l0F (ids [0, 5] [(4, .own .byte)]) [] (ids [2, 3] []) none
def lex_quoted_d : FD := ⟨B0.lean [] [], 1, [(3, lex_quoted_l0h)], [], [], Tryz.f130⟩
theorem lex_quoted_cs : CsOk PP X lex_quoted_d.cx := csL bOk mixed trivial trivial (by kernel_rfl)
theorem lex_quoted_L0 : LOkD lex_quoted_d 0 := lokD lex_quoted_l0F lex_quoted_l0G lex_quoted_l0h (by kernel_rfl) (by kernel_rfl) (fun _ _ _ _ => by kernel_rfl) (fun _ _ _ => by kernel_rfl) (fun _ _ _ _ => by kernel_rfl)
theorem lex_quoted_w : ConOk PP X 130 lex_quoted_d.raw := rawD lex_quoted_cs Tryz.func130 (n := 1) (js := []) (by kernel_rfl) ⟨lex_quoted_L0, trivial⟩ trivial
theorem lex_quoted_T : TK lex_quoted_d.raw S5 R2 fun R => lex_quoted_cps big R := fun _ _ _ => by kernel_rfl
def lex_quoted_k : CR := kC 130 [] [] S5 R2 (lex_quoted big)
theorem lex_quoted_ok : lex_quoted_k.Ok PP X := okC lex_quoted_w _ lex_quoted_T (by kernel_rfl)
def bytealg_IndexByteString_k : CR := kC 174 [] [] S6 R1 (bytealg_IndexByteString big)
theorem bytealg_IndexByteString_ok : bytealg_IndexByteString_k.Ok PP X := okC (index_ok (fn := Tryz.f174) Tryz.func174 rfl (by kernel_rfl) (by kernel_rfl) (by kernel_rfl)) (fun R => bytealg_IndexByteString_cps big R) (fun _ _ _ => by kernel_rfl) (by kernel_rfl)
/-! 161 internal/stringslite.IndexByte -/
def stringslite_IndexByte_d : FD := ⟨B0.lean [bytealg_IndexByteString_k] [], 1, [], [], [], Tryz.f161⟩
theorem stringslite_IndexByte_cs : CsOk PP X stringslite_IndexByte_d.cx := csL bOk mixed ⟨bytealg_IndexByteString_ok, trivial⟩ trivial (by kernel_rfl)
theorem stringslite_IndexByte_w : ConOk PP X 161 stringslite_IndexByte_d.raw := rawD stringslite_IndexByte_cs Tryz.func161 (n := 0) (js := []) (by kernel_rfl) trivial trivial
theorem stringslite_IndexByte_T : TK stringslite_IndexByte_d.raw S6 R1 fun R => stringslite_IndexByte_cps big R := fun _ _ _ => by kernel_rfl
def stringslite_IndexByte_k : CR := kC 161 [] [] S6 R1 (stringslite_IndexByte big)
theorem stringslite_IndexByte_ok : stringslite_IndexByte_k.Ok PP X := okC stringslite_IndexByte_w _ stringslite_IndexByte_T (by kernel_rfl)
/-! 142 strings.IndexByte -/
def strings_IndexByte_d : FD := ⟨B0.lean [stringslite_IndexByte_k] [], 1, [], [], [], Tryz.f142⟩
theorem strings_IndexByte_cs : CsOk PP X strings_IndexByte_d.cx := csL bOk mixed ⟨stringslite_IndexByte_ok, trivial⟩ trivial (by kernel_rfl)
theorem strings_IndexByte_w : ConOk PP X 142 strings_IndexByte_d.raw := rawD strings_IndexByte_cs Tryz.func142 (n := 0) (js := []) (by kernel_rfl) trivial trivial
theorem strings_IndexByte_T : TK strings_IndexByte_d.raw S6 R1 fun R => strings_IndexByte_cps big R := fun _ _ _ => by kernel_rfl
def strings_IndexByte_k : CR := kC 142 [] [] S6 R1 (strings_IndexByte big)
theorem strings_IndexByte_ok : strings_IndexByte_k.Ok PP X := okC strings_IndexByte_w _ strings_IndexByte_T (by kernel_rfl)
/-! 131 frankpledge/lex.hex -/
def lex_hex_d : FD := ⟨B0.lean [strings_IndexByte_k] [], 1, [], [], [], Tryz.f131⟩
theorem lex_hex_cs : CsOk PP X lex_hex_d.cx := csL bOk mixed ⟨strings_IndexByte_ok, trivial⟩ trivial (by kernel_rfl)
theorem lex_hex_w : ConOk PP X 131 lex_hex_d.raw := rawD lex_hex_cs Tryz.func131 (n := 0) (js := []) (by kernel_rfl) trivial trivial
theorem lex_hex_T : TK lex_hex_d.raw S1 R1 fun R => lex_hex_cps big R := fun _ _ _ => by kernel_rfl
def lex_hex_k : CR := kC 131 [] [] S1 R1 (lex_hex big)
theorem lex_hex_ok : lex_hex_k.Ok PP X := okC lex_hex_w _ lex_hex_T (by kernel_rfl)
/-! 118 frankpledge/lex.raw -/
def lex_raw_l1F : LF S7 := fun R n k => S7.app (lex_raw_l1 big R (S8.ex k (.exit 0)) (S8.ex k .ret) n)
def lex_raw_l1G : BF S7 := fun R r k => S7.app (lex_raw_l1B big R (S7.cur r) (S8.ex k (.exit 0)) (S8.ex k .ret))
def lex_raw_l1h : LH := lhL S7 lex_raw_l1F (ids [0, 2, 3, 4] [(5, .own .byte)]) [] (ids [0, 2, 4, 5] []) none
def lex_raw_j0F : JF S9 := fun R k => S9.app (lex_raw_j0 big R (S10.ex k .ret))
def lex_raw_j0h : LH := lhJ S9 lex_raw_j0F (ids [0, 2, 3, 4] []) [] (ids [2] []) 1 none
def lex_raw_d : FD := ⟨B0.lean [lex_quoted_k, lex_hex_k] [], 1, [(5, lex_raw_l1h), (1000004, lex_raw_j0h)], [], [], Tryz.f118⟩
theorem lex_raw_cs : CsOk PP X lex_raw_d.cx := csL bOk mixed ⟨lex_quoted_ok, lex_hex_ok, trivial⟩ trivial (by kernel_rfl)
theorem lex_raw_L0 : LOkD lex_raw_d 0 := lokD lex_raw_l1F lex_raw_l1G lex_raw_l1h (by kernel_rfl) (by kernel_rfl) (fun _ _ _ _ => by kernel_rfl) (fun _ _ _ => by kernel_rfl) (fun _ _ _ _ => by kernel_rfl)
theorem lex_raw_J4 : JOkD lex_raw_d 4 := jokD lex_raw_j0F lex_raw_j0h (by kernel_rfl) (by kernel_rfl) (fun _ _ _ => by kernel_rfl)
theorem lex_raw_w : ConOk PP X 118 lex_raw_d.raw := rawD lex_raw_cs Tryz.func118 (n := 1) (js := [4]) (by kernel_rfl) ⟨lex_raw_L0, trivial⟩ ⟨lex_raw_J4, trivial⟩
theorem lex_raw_T : TK lex_raw_d.raw S5 R3 fun R => lex_raw_cps big R := fun _ _ _ => by kernel_rfl
def lex_raw_k : CR := kC 118 [] [] S5 R3 (lex_raw big)
theorem lex_raw_ok : lex_raw_k.Ok PP X := okC lex_raw_w _ lex_raw_T (by kernel_rfl)
/-! 121 frankpledge/lex.isPart -/
def lex_isPart_d : FD := ⟨B0.lean [] [], 1, [], [], [], Tryz.f121⟩
theorem lex_isPart_cs : CsOk PP X lex_isPart_d.cx := csL bOk mixed trivial trivial (by kernel_rfl)
theorem lex_isPart_w : ConOk PP X 121 lex_isPart_d.raw := rawD lex_isPart_cs Tryz.func121 (n := 0) (js := []) (by kernel_rfl) trivial trivial
theorem lex_isPart_T : TK lex_isPart_d.raw S11 R4 fun R => lex_isPart_cps big R := fun _ _ _ => by kernel_rfl
def lex_isPart_k : CR := kC 121 [] [] S11 R4 (lex_isPart big)
theorem lex_isPart_ok : lex_isPart_k.Ok PP X := okC lex_isPart_w _ lex_isPart_T (by kernel_rfl)
/-! 120 frankpledge/lex.span -/
def lex_span_l0F : LF S12 := fun R n k => S12.app (lex_span_l0 big R (S13.ex k (.exit 0)) n)
def lex_span_l0G : BF S12 := fun R r k => S12.app (lex_span_l0B big R (S12.cur r) (S13.ex k (.exit 0)))
def lex_span_l0h : LH := lhL S12 lex_span_l0F (ids [0, 1, 5] []) [] (ids [5] []) none
def lex_span_d : FD := ⟨B0.lean [lex_of_k, lex_isPart_k] [], 1, [(2, lex_span_l0h)], [], [], Tryz.f120⟩
theorem lex_span_cs : CsOk PP X lex_span_d.cx := csL bOk mixed ⟨lex_of_ok, lex_isPart_ok, trivial⟩ trivial (by kernel_rfl)
theorem lex_span_L0 : LOkD lex_span_d 0 := lokD lex_span_l0F lex_span_l0G lex_span_l0h (by kernel_rfl) (by kernel_rfl) (fun _ _ _ _ => by kernel_rfl) (fun _ _ _ => by kernel_rfl) (fun _ _ _ _ => by kernel_rfl)
theorem lex_span_w : ConOk PP X 120 lex_span_d.raw := rawD lex_span_cs Tryz.func120 (n := 1) (js := []) (by kernel_rfl) ⟨lex_span_L0, trivial⟩ trivial
theorem lex_span_T : TK lex_span_d.raw S14 R1 fun R => lex_span_cps big R := fun _ _ _ => by kernel_rfl
def lex_span_k : CR := kC 120 [] [] S14 R1 (lex_span big)
theorem lex_span_ok : lex_span_k.Ok PP X := okC lex_span_w _ lex_span_T (by kernel_rfl)
def strings_ToLower_k : CR := kC 119 [] [] S5 R5 (strings_ToLower big)
theorem strings_ToLower_ok : strings_ToLower_k.Ok PP X := okC shelf_ToLower_119 (fun R => strings_ToLower_cps big R) (fun _ _ _ => by kernel_rfl) (by kernel_rfl)
/-! 138 frankpledge/lex.isFigure -/
def lex_isFigure_d : FD := ⟨B0.lean [] [], 1, [], [], [], Tryz.f138⟩
theorem lex_isFigure_cs : CsOk PP X lex_isFigure_d.cx := csL bOk mixed trivial trivial (by kernel_rfl)
theorem lex_isFigure_w : ConOk PP X 138 lex_isFigure_d.raw := rawD lex_isFigure_cs Tryz.func138 (n := 0) (js := []) (by kernel_rfl) trivial trivial
theorem lex_isFigure_T : TK lex_isFigure_d.raw S11 R4 fun R => lex_isFigure_cps big R := fun _ _ _ => by kernel_rfl
def lex_isFigure_k : CR := kC 138 [] [] S11 R4 (lex_isFigure big)
theorem lex_isFigure_ok : lex_isFigure_k.Ok PP X := okC lex_isFigure_w _ lex_isFigure_T (by kernel_rfl)
/-! 120 frankpledge/lex.span -/
def lex_span_1_l0F : LF S15 := fun R n k => S15.app (lex_span_1_l0 big R (S13.ex k (.exit 0)) n)
def lex_span_1_l0G : BF S15 := fun R r k => S15.app (lex_span_1_l0B big R (S15.cur r) (S13.ex k (.exit 0)))
def lex_span_1_l0h : LH := lhL S15 lex_span_1_l0F (ids [0, 1, 5] []) [] (ids [5] []) none
def lex_span_1_d : FD := ⟨B0.lean [lex_of_k, lex_isFigure_k] [], 1, [(2, lex_span_1_l0h)], [], [], Tryz.f120⟩
theorem lex_span_1_cs : CsOk PP X lex_span_1_d.cx := csL bOk mixed ⟨lex_of_ok, lex_isFigure_ok, trivial⟩ trivial (by kernel_rfl)
theorem lex_span_1_L0 : LOkD lex_span_1_d 0 := lokD lex_span_1_l0F lex_span_1_l0G lex_span_1_l0h (by kernel_rfl) (by kernel_rfl) (fun _ _ _ _ => by kernel_rfl) (fun _ _ _ => by kernel_rfl) (fun _ _ _ _ => by kernel_rfl)
theorem lex_span_1_w : ConOk PP X 120 lex_span_1_d.raw := rawD lex_span_1_cs Tryz.func120 (n := 1) (js := []) (by kernel_rfl) ⟨lex_span_1_L0, trivial⟩ trivial
theorem lex_span_1_T : TK lex_span_1_d.raw S16 R1 fun R => lex_span_1_cps big R := fun _ _ _ => by kernel_rfl
def lex_span_1_k : CR := kC 120 [] [] S16 R1 (lex_span_1 big)
theorem lex_span_1_ok : lex_span_1_k.Ok PP X := okC lex_span_1_w _ lex_span_1_T (by kernel_rfl)
/-! 156 internal/stringslite.HasPrefix -/
def stringslite_HasPrefix_d : FD := ⟨B0.lean [] [], 1, [], [], [], Tryz.f156⟩
theorem stringslite_HasPrefix_cs : CsOk PP X stringslite_HasPrefix_d.cx := csL bOk mixed trivial trivial (by kernel_rfl)
theorem stringslite_HasPrefix_w : ConOk PP X 156 stringslite_HasPrefix_d.raw := rawD stringslite_HasPrefix_cs Tryz.func156 (n := 0) (js := []) (by kernel_rfl) trivial trivial
theorem stringslite_HasPrefix_T : TK stringslite_HasPrefix_d.raw S17 R4 fun R => stringslite_HasPrefix_cps big R := fun _ _ _ => by kernel_rfl
def stringslite_HasPrefix_k : CR := kC 156 [] [] S17 R4 (stringslite_HasPrefix big)
theorem stringslite_HasPrefix_ok : stringslite_HasPrefix_k.Ok PP X := okC stringslite_HasPrefix_w _ stringslite_HasPrefix_T (by kernel_rfl)
/-! 139 strings.HasPrefix -/
def strings_HasPrefix_d : FD := ⟨B0.lean [stringslite_HasPrefix_k] [], 1, [], [], [], Tryz.f139⟩
theorem strings_HasPrefix_cs : CsOk PP X strings_HasPrefix_d.cx := csL bOk mixed ⟨stringslite_HasPrefix_ok, trivial⟩ trivial (by kernel_rfl)
theorem strings_HasPrefix_w : ConOk PP X 139 strings_HasPrefix_d.raw := rawD strings_HasPrefix_cs Tryz.func139 (n := 0) (js := []) (by kernel_rfl) trivial trivial
theorem strings_HasPrefix_T : TK strings_HasPrefix_d.raw S17 R4 fun R => strings_HasPrefix_cps big R := fun _ _ _ => by kernel_rfl
def strings_HasPrefix_k : CR := kC 139 [] [] S17 R4 (strings_HasPrefix big)
theorem strings_HasPrefix_ok : strings_HasPrefix_k.Ok PP X := okC strings_HasPrefix_w _ strings_HasPrefix_T (by kernel_rfl)
def strings_Repeat_k : CR := kC 140 [] [] S18 R5 (strings_Repeat big)
theorem strings_Repeat_ok : strings_Repeat_k.Ok PP X := okC shelf_Repeat_140 (fun R => strings_Repeat_cps big R) (fun _ _ _ => by kernel_rfl) (by kernel_rfl)
def strconv_ParseInt_k : CR := kC 141 [] [] S19 R6 (strconv_ParseInt big)
theorem strconv_ParseInt_ok : strconv_ParseInt_k.Ok PP X := okC shelf_ParseInt_141 (fun R => strconv_ParseInt_cps big R) (fun _ _ _ => by kernel_rfl) (by kernel_rfl)
/-! 122 frankpledge/lex.number -/
def lex_number_j2F : JF S20 := fun R k => S20.app (lex_number_j2 big R (S21.ex k .ret))
def lex_number_j2h : LH := lhJ S20 lex_number_j2F (ids [0, 2, 3, 4, 6] []) [] (ids [2] []) 1 none
def lex_number_j1F : JF S22 := fun R k => S22.app (lex_number_j1 big R (S21.ex k .ret))
def lex_number_j1h : LH := lhJ S22 lex_number_j1F (ids [0, 2, 3, 4, 5, 6] []) [] (ids [2] []) 1 none
def lex_number_j0F : JF S23 := fun R k => S23.app (lex_number_j0 big R (S22.ex k .normal))
def lex_number_j0h : LH := lhJ S23 lex_number_j0F (ids [0, 2, 3, 4, 5, 7] []) [] (ids [0, 2, 3, 4, 5, 6] []) 1 none
def lex_number_d : FD := ⟨B0.lean [(lex_span_1_k.or lex_span_k), strings_HasPrefix_k, strings_Repeat_k, strconv_ParseInt_k] [], 1, [(1000008, lex_number_j0h), (1000010, lex_number_j1h), (1000012, lex_number_j2h)], [], [], Tryz.f122⟩
theorem lex_number_cs : CsOk PP X lex_number_d.cx := csL bOk mixed ⟨(.or_ok rfl lex_span_1_ok lex_span_ok), strings_HasPrefix_ok, strings_Repeat_ok, strconv_ParseInt_ok, trivial⟩ trivial (by kernel_rfl)
theorem lex_number_J8 : JOkD lex_number_d 8 := jokD lex_number_j1F lex_number_j1h (by kernel_rfl) (by kernel_rfl) (fun _ _ _ => by kernel_rfl)
theorem lex_number_J13 : JOkD lex_number_d 13 := jokD lex_number_j0F lex_number_j0h (by kernel_rfl) (by kernel_rfl) (fun _ _ _ => by kernel_rfl)
theorem lex_number_J21 : JOkD lex_number_d 21 := jokD lex_number_j2F lex_number_j2h (by kernel_rfl) (by kernel_rfl) (fun _ _ _ => by kernel_rfl)
theorem lex_number_w : ConOk PP X 122 lex_number_d.raw := rawD lex_number_cs Tryz.func122 (n := 0) (js := [8, 13, 21]) (by kernel_rfl) trivial ⟨lex_number_J8, lex_number_J13, lex_number_J21, trivial⟩
theorem lex_number_T : TK lex_number_d.raw S5 R3 fun R => lex_number_cps big R := fun _ _ _ => by kernel_rfl
def lex_number_k : CR := kC 122 [] [] S5 R3 (lex_number big)
theorem lex_number_ok : lex_number_k.Ok PP X := okC lex_number_w _ lex_number_T (by kernel_rfl)
/-! 123 frankpledge/lex.text -/
def lex_text_d : FD := ⟨B0.lean [lex_quoted_k] [], 1, [], [], [], Tryz.f123⟩
theorem lex_text_cs : CsOk PP X lex_text_d.cx := csL bOk mixed ⟨lex_quoted_ok, trivial⟩ trivial (by kernel_rfl)
theorem lex_text_w : ConOk PP X 123 lex_text_d.raw := rawD lex_text_cs Tryz.func123 (n := 0) (js := []) (by kernel_rfl) trivial trivial
theorem lex_text_T : TK lex_text_d.raw S5 R3 fun R => lex_text_cps big R := fun _ _ _ => by kernel_rfl
def lex_text_k : CR := kC 123 [] [] S5 R3 (lex_text big)
theorem lex_text_ok : lex_text_k.Ok PP X := okC lex_text_w _ lex_text_T (by kernel_rfl)
/-! 124 frankpledge/lex.sign -/
def lex_sign_l0F : LF S24 := fun R n k => S24.app (lex_sign_l0 big R (S25.ex k (.exit 0)) (S25.ex k .ret) n)
def lex_sign_l0G : BF S24 := fun R r k => S24.app (lex_sign_l0B big R (S24.cur r) (S25.ex k (.exit 0)) (S25.ex k .ret))
def lex_sign_l0h : LH := lhL S24 lex_sign_l0F (ids [0, 2, 5, 6, 7] []) [] (ids [0, 2] []) none
def lex_sign_d : FD := ⟨B0.lean [strings_HasPrefix_k, strings_IndexByte_k] [], 1, [(2, lex_sign_l0h)], [], [], Tryz.f124⟩
theorem lex_sign_cs : CsOk PP X lex_sign_d.cx := csL bOk mixed ⟨strings_HasPrefix_ok, strings_IndexByte_ok, trivial⟩ trivial (by kernel_rfl)
theorem lex_sign_L0 : LOkD lex_sign_d 0 := lokD lex_sign_l0F lex_sign_l0G lex_sign_l0h (by kernel_rfl) (by kernel_rfl) (fun _ _ _ _ => by kernel_rfl) (fun _ _ _ => by kernel_rfl) (fun _ _ _ _ => by kernel_rfl)
theorem lex_sign_w : ConOk PP X 124 lex_sign_d.raw := rawD lex_sign_cs Tryz.func124 (n := 1) (js := []) (by kernel_rfl) ⟨lex_sign_L0, trivial⟩ trivial
theorem lex_sign_T : TK lex_sign_d.raw S5 R3 fun R => lex_sign_cps big R := fun _ _ _ => by kernel_rfl
def lex_sign_k : CR := kC 124 [] [] S5 R3 (lex_sign big)
theorem lex_sign_ok : lex_sign_k.Ok PP X := okC lex_sign_w _ lex_sign_T (by kernel_rfl)
/-! 102 frankpledge/lex.next -/
def lex_next_d : FD := ⟨B0.lean [lex_of_k, lex_raw_k, strings_ToLower_k, lex_span_k, lex_number_k, lex_text_k, lex_sign_k] [], 1, [], [], [], Tryz.f102⟩
theorem lex_next_cs : CsOk PP X lex_next_d.cx := csL bOk mixed ⟨lex_of_ok, lex_raw_ok, strings_ToLower_ok, lex_span_ok, lex_number_ok, lex_text_ok, lex_sign_ok, trivial⟩ trivial (by kernel_rfl)
theorem lex_next_w : ConOk PP X 102 lex_next_d.raw := rawD lex_next_cs Tryz.func102 (n := 0) (js := []) (by kernel_rfl) trivial trivial
theorem lex_next_T : TK lex_next_d.raw S5 R3 fun R => lex_next_cps big R := fun _ _ _ => by kernel_rfl
def lex_next_k : CR := kC 102 [] [] S5 R3 (lex_next big)
theorem lex_next_ok : lex_next_k.Ok PP X := okC lex_next_w _ lex_next_T (by kernel_rfl)
/-! 69 frankpledge/lex.Lex -/
def lex_Lex_l0F : LF S26 := fun R n k => S26.app (lex_Lex_l0 big R (S27.ex k (.exit 0)) (S28.ex k .ret) n)
def lex_Lex_l0G : BF S26 := fun R r k => S26.app (lex_Lex_l0B big R (S26.cur r) (S27.ex k (.exit 0)) (S28.ex k .ret))
def lex_Lex_l0h : LH := lhL S26 lex_Lex_l0F (ids [0, 5] [(4, .own (.pair (.int .i64) (.pair .str (.pair Q3 (.pair (.int .i64) .unit)))))]) [] (ids [0, 2, 3, 4] []) none
def lex_Lex_d : FD := ⟨B0.lean [fault_New_k, lex_of_k, lex_next_k] [], 1, [(5, lex_Lex_l0h)], [.ro (.pair (.int .i64) (.pair .str (.pair Q3 (.pair (.int .i64) .unit)))), .id], [], Tryz.f69⟩
theorem lex_Lex_cs : CsOk PP X lex_Lex_d.cx := csL bOk mixed ⟨fault_New_ok, lex_of_ok, lex_next_ok, trivial⟩ trivial (by kernel_rfl)
theorem lex_Lex_L0 : LOkD lex_Lex_d 0 := lokD lex_Lex_l0F lex_Lex_l0G lex_Lex_l0h (by kernel_rfl) (by kernel_rfl) (fun _ _ _ _ => by kernel_rfl) (fun _ _ _ => by kernel_rfl) (fun _ _ _ _ => by kernel_rfl)
theorem lex_Lex_w : ConOk PP X 69 lex_Lex_d.raw := rawD lex_Lex_cs Tryz.func69 (n := 1) (js := []) (by kernel_rfl) ⟨lex_Lex_L0, trivial⟩ trivial
theorem lex_Lex_T : TK lex_Lex_d.raw S5 R7 fun R => lex_Lex_cps big R := fun _ _ _ => by kernel_rfl
def lex_Lex_k : CR := kC 69 [] [] S5 R7 (lex_Lex big)
theorem lex_Lex_ok : lex_Lex_k.Ok PP X := okC lex_Lex_w _ lex_Lex_T (by kernel_rfl)
def fault_At_k : CR := kC 18 [] [] S29 R1 (fault_At big)
theorem fault_At_ok : fault_At_k.Ok PP X := okC shelf_At_18 (fun R => fault_At_cps big R) (fun _ _ _ => by kernel_rfl) (by kernel_rfl)
/-! 42 frankpledge/fault.Wrap -/
def fault_Wrap_d : FD := ⟨(BX [] [] false).lean [] [], 1, [], [], [], Tryz.f42⟩
theorem fault_Wrap_cs : CsOk PP X fault_Wrap_d.cx := csL bxOk mixed trivial trivial (by kernel_rfl)
theorem fault_Wrap_w : ConOk PP X 42 fault_Wrap_d.raw := rawD fault_Wrap_cs Tryz.func42 (n := 0) (js := []) (by kernel_rfl) trivial trivial
theorem fault_Wrap_T : TK fault_Wrap_d.raw S30 R0 fun R => fault_Wrap_cps big R := fun _ _ _ => by kernel_rfl
def fault_Wrap_k : CR := kC 42 [] [] S30 R0 (fault_Wrap big)
theorem fault_Wrap_ok : fault_Wrap_k.Ok PP X := okC fault_Wrap_w _ fault_Wrap_T (by kernel_rfl)
/-! 125 (*frankpledge/parse.parser).is -/
def parse_parser_is_d : FD := ⟨B0.lean [] [], 1, [], [], [], Tryz.f125⟩
theorem parse_parser_is_cs : CsOk PP X parse_parser_is_d.cx := csL bOk mixed trivial trivial (by kernel_rfl)
theorem parse_parser_is_w : ConOk PP X 125 parse_parser_is_d.raw := rawD parse_parser_is_cs Tryz.func125 (n := 0) (js := []) (by kernel_rfl) trivial trivial
theorem parse_parser_is_T : TK parse_parser_is_d.raw S31 R4 fun R => parse_parser_is_cps big R := fun _ _ _ => by kernel_rfl
def parse_parser_is_k : CR := kC 125 [.arg 0] [] S31 R4 (parse_parser_is big)
theorem parse_parser_is_ok : parse_parser_is_k.Ok PP X := okC parse_parser_is_w _ parse_parser_is_T (by kernel_rfl)
/-! 106 (*frankpledge/parse.parser).next -/
def parse_parser_next_d : FD := ⟨B0.lean [] [], 1, [], [], [], Tryz.f106⟩
theorem parse_parser_next_cs : CsOk PP X parse_parser_next_d.cx := csL bOk mixed trivial trivial (by kernel_rfl)
theorem parse_parser_next_w : ConOk PP X 106 parse_parser_next_d.raw := rawD parse_parser_next_cs Tryz.func106 (n := 0) (js := []) (by kernel_rfl) trivial trivial
theorem parse_parser_next_T : TF parse_parser_next_d.raw S32 R8 fun R => parse_parser_next_cps big R := fun _ _ _ => by kernel_rfl
def parse_parser_next_k : CR := kF 106 [.arg 0] [] S32 R8 (parse_parser_next big)
theorem parse_parser_next_ok : parse_parser_next_k.Ok PP X := okF parse_parser_next_w _ parse_parser_next_T (by kernel_rfl)
/-! 143 (*frankpledge/parse.parser).take -/
def parse_parser_take_d : FD := ⟨B0.lean [parse_parser_next_k, parse_parser_is_k] [], 1, [], [], [], Tryz.f143⟩
theorem parse_parser_take_cs : CsOk PP X parse_parser_take_d.cx := csL bOk mixed ⟨parse_parser_next_ok, parse_parser_is_ok, trivial⟩ trivial (by kernel_rfl)
theorem parse_parser_take_w : ConOk PP X 143 parse_parser_take_d.raw := rawD parse_parser_take_cs Tryz.func143 (n := 0) (js := []) (by kernel_rfl) trivial trivial
theorem parse_parser_take_T : TF parse_parser_take_d.raw S31 R10 fun R => parse_parser_take_cps big R := fun _ _ _ => by kernel_rfl
def parse_parser_take_k : CR := kF 143 [.arg 0] [] S31 R10 (parse_parser_take big)
theorem parse_parser_take_ok : parse_parser_take_k.Ok PP X := okF parse_parser_take_w _ parse_parser_take_T (by kernel_rfl)
/-! 107 (*frankpledge/parse.parser).at -/
def parse_parser_at_d : FD := ⟨B0.lean [] [], 1, [], [], [], Tryz.f107⟩
theorem parse_parser_at_cs : CsOk PP X parse_parser_at_d.cx := csL bOk mixed trivial trivial (by kernel_rfl)
theorem parse_parser_at_w : ConOk PP X 107 parse_parser_at_d.raw := rawD parse_parser_at_cs Tryz.func107 (n := 0) (js := []) (by kernel_rfl) trivial trivial
theorem parse_parser_at_T : TK parse_parser_at_d.raw S32 R1 fun R => parse_parser_at_cps big R := fun _ _ _ => by kernel_rfl
def parse_parser_at_k : CR := kC 107 [.arg 0] [] S32 R1 (parse_parser_at big)
theorem parse_parser_at_ok : parse_parser_at_k.Ok PP X := okC parse_parser_at_w _ parse_parser_at_T (by kernel_rfl)
/-! 71 (*frankpledge/parse.parser).fail -/
def parse_parser_fail_d : FD := ⟨B0.lean [fault_New_k, parse_parser_at_k] [], 1, [], [], [], Tryz.f71⟩
theorem parse_parser_fail_cs : CsOk PP X parse_parser_fail_d.cx := csL bOk mixed ⟨fault_New_ok, parse_parser_at_ok, trivial⟩ trivial (by kernel_rfl)
theorem parse_parser_fail_w : ConOk PP X 71 parse_parser_fail_d.raw := rawD parse_parser_fail_cs Tryz.func71 (n := 0) (js := []) (by kernel_rfl) trivial trivial
theorem parse_parser_fail_T : TF parse_parser_fail_d.raw S33 R9 fun R => parse_parser_fail_cps big R := fun _ _ _ => by kernel_rfl
def parse_parser_fail_k : CR := kF 71 [.arg 0] [] S33 R9 (parse_parser_fail big)
theorem parse_parser_fail_ok : parse_parser_fail_k.Ok PP X := okF parse_parser_fail_w _ parse_parser_fail_T (by kernel_rfl)
/-! 144 (*frankpledge/parse.parser).want -/
def parse_parser_want_l0F : LF S34 := fun R n k => S34.app (parse_parser_want_l0 big R (S35.ex k (.exit 0)) n)
def parse_parser_want_l0G : BF S34 := fun R r k => S34.app (parse_parser_want_l0B big R (S34.cur r) (S35.ex k (.exit 0)))
def parse_parser_want_l0h : LH := lhL S34 parse_parser_want_l0F (ids [0, 6, 7, 8] []) [] [] none
def parse_parser_want_d : FD := ⟨B0.lean [parse_parser_fail_k, parse_parser_take_k] [], 1, [(1, parse_parser_want_l0h)], [], [], Tryz.f144⟩
theorem parse_parser_want_cs : CsOk PP X parse_parser_want_d.cx := csL bOk mixed ⟨parse_parser_fail_ok, parse_parser_take_ok, trivial⟩ trivial (by kernel_rfl)
theorem parse_parser_want_L0 : LOkD parse_parser_want_d 0 := lokD parse_parser_want_l0F parse_parser_want_l0G parse_parser_want_l0h (by kernel_rfl) (by kernel_rfl) (fun _ _ _ _ => by kernel_rfl) (fun _ _ _ => by kernel_rfl) (fun _ _ _ _ => by kernel_rfl)
theorem parse_parser_want_w : ConOk PP X 144 parse_parser_want_d.raw := rawD parse_parser_want_cs Tryz.func144 (n := 1) (js := []) (by kernel_rfl) ⟨parse_parser_want_L0, trivial⟩ trivial
theorem parse_parser_want_T : TF parse_parser_want_d.raw S36 R9 fun R => parse_parser_want_cps big R := fun _ _ _ => by kernel_rfl
def parse_parser_want_k : CR := kF 144 [.arg 0] [] S36 R9 (parse_parser_want big)
theorem parse_parser_want_ok : parse_parser_want_k.Ok PP X := okF parse_parser_want_w _ parse_parser_want_T (by kernel_rfl)
/-! 145 frankpledge/parse.comparison -/
def parse_comparison_d : FD := ⟨B0.lean [] [], 1, [], [], [], Tryz.f145⟩
theorem parse_comparison_cs : CsOk PP X parse_comparison_d.cx := csL bOk mixed trivial trivial (by kernel_rfl)
theorem parse_comparison_w : ConOk PP X 145 parse_comparison_d.raw := rawD parse_comparison_cs Tryz.func145 (n := 0) (js := []) (by kernel_rfl) trivial trivial
theorem parse_comparison_T : TK parse_comparison_d.raw S5 R1 fun R => parse_comparison_cps big R := fun _ _ _ => by kernel_rfl
def parse_comparison_k : CR := kC 145 [] [] S5 R1 (parse_comparison big)
theorem parse_comparison_ok : parse_comparison_k.Ok PP X := okC parse_comparison_w _ parse_comparison_T (by kernel_rfl)
/-! 186 slices.Index[[]string,string] -/
def slices_Index_string_string_l0F : LF S37 := fun R n k => S37.app (slices_Index_string_string_l0 big R (S38.ex k (.exit 0)) (S39.ex k .ret) n)
def slices_Index_string_string_l0G : BF S37 := fun R r k => S37.app (slices_Index_string_string_l0B big R (S37.cur r) (S38.ex k (.exit 0)) (S39.ex k .ret))
def slices_Index_string_string_l0h : LH := lhL S37 slices_Index_string_string_l0F (ids [0, 1, 7, 8] []) [] (ids [4] []) none
def slices_Index_string_string_d : FD := ⟨B0.lean [] [], 1, [(2, slices_Index_string_string_l0h)], [], [], Tryz.f186⟩
theorem slices_Index_string_string_cs : CsOk PP X slices_Index_string_string_d.cx := csL bOk mixed trivial trivial (by kernel_rfl)
theorem slices_Index_string_string_L0 : LOkD slices_Index_string_string_d 0 := lokD slices_Index_string_string_l0F slices_Index_string_string_l0G slices_Index_string_string_l0h (by kernel_rfl) (by kernel_rfl) (fun _ _ _ _ => by kernel_rfl) (fun _ _ _ => by kernel_rfl) (fun _ _ _ _ => by kernel_rfl)
theorem slices_Index_string_string_w : ConOk PP X 186 slices_Index_string_string_d.raw := rawD slices_Index_string_string_cs Tryz.func186 (n := 1) (js := []) (by kernel_rfl) ⟨slices_Index_string_string_L0, trivial⟩ trivial
theorem slices_Index_string_string_T : TK slices_Index_string_string_d.raw S40 R1 fun R => slices_Index_string_string_cps big R := fun _ _ _ => by kernel_rfl
def slices_Index_string_string_k : CR := kC 186 [] [] S40 R1 (slices_Index_string_string big)
theorem slices_Index_string_string_ok : slices_Index_string_string_k.Ok PP X := okC slices_Index_string_string_w _ slices_Index_string_string_T (by kernel_rfl)
/-! 184 slices.Contains[[]string,string] -/
def slices_Contains_string_string_d : FD := ⟨B0.lean [slices_Index_string_string_k] [], 1, [], [], [], Tryz.f184⟩
theorem slices_Contains_string_string_cs : CsOk PP X slices_Contains_string_string_d.cx := csL bOk mixed ⟨slices_Index_string_string_ok, trivial⟩ trivial (by kernel_rfl)
theorem slices_Contains_string_string_w : ConOk PP X 184 slices_Contains_string_string_d.raw := rawD slices_Contains_string_string_cs Tryz.func184 (n := 0) (js := []) (by kernel_rfl) trivial trivial
theorem slices_Contains_string_string_T : TK slices_Contains_string_string_d.raw S40 R4 fun R => slices_Contains_string_string_cps big R := fun _ _ _ => by kernel_rfl
def slices_Contains_string_string_k : CR := kC 184 [] [] S40 R4 (slices_Contains_string_string big)
theorem slices_Contains_string_string_ok : slices_Contains_string_string_k.Ok PP X := okC slices_Contains_string_string_w _ slices_Contains_string_string_T (by kernel_rfl)
/-! 175 frankpledge/parse.reserved -/
def parse_reserved_d : FD := ⟨B0.lean [slices_Contains_string_string_k] [], 1, [], [], [], Tryz.f175⟩
theorem parse_reserved_cs : CsOk PP X parse_reserved_d.cx := csL bOk mixed ⟨slices_Contains_string_string_ok, trivial⟩ trivial (by kernel_rfl)
theorem parse_reserved_w : ConOk PP X 175 parse_reserved_d.raw := rawD parse_reserved_cs Tryz.func175 (n := 0) (js := []) (by kernel_rfl) trivial trivial
theorem parse_reserved_T : TK parse_reserved_d.raw S5 R4 fun R => parse_reserved_cps big R := fun _ _ _ => by kernel_rfl
def parse_reserved_k : CR := kC 175 [] [] S5 R4 (parse_reserved big)
theorem parse_reserved_ok : parse_reserved_k.Ok PP X := okC parse_reserved_w _ parse_reserved_T (by kernel_rfl)
/-! 162 (*frankpledge/parse.parser).name -/
def parse_parser_name_d : FD := ⟨B0.lean [parse_parser_fail_k, parse_parser_next_k, parse_reserved_k] [], 1, [], [], [], Tryz.f162⟩
theorem parse_parser_name_cs : CsOk PP X parse_parser_name_d.cx := csL bOk mixed ⟨parse_parser_fail_ok, parse_parser_next_ok, parse_reserved_ok, trivial⟩ trivial (by kernel_rfl)
theorem parse_parser_name_w : ConOk PP X 162 parse_parser_name_d.raw := rawD parse_parser_name_cs Tryz.func162 (n := 0) (js := []) (by kernel_rfl) trivial trivial
theorem parse_parser_name_T : TF parse_parser_name_d.raw S32 R12 fun R => parse_parser_name_cps big R := fun _ _ _ => by kernel_rfl
def parse_parser_name_k : CR := kF 162 [.arg 0] [] S32 R12 (parse_parser_name big)
theorem parse_parser_name_ok : parse_parser_name_k.Ok PP X := okF parse_parser_name_w _ parse_parser_name_T (by kernel_rfl)
/-! 105 frankpledge/parse.op -/
def parse_op_j0F : JF S50 := fun R k => S50.app (parse_op_j0 big R (S51.ex k .ret))
def parse_op_j0h : LH := lhJ S50 parse_op_j0F (ids [1, 2] []) [] (ids [4] []) 1 none
def parse_op_d : FD := ⟨B0.lean [] [], 1, [(1000003, parse_op_j0h)], [], [], Tryz.f105⟩
theorem parse_op_cs : CsOk PP X parse_op_d.cx := csL bOk mixed trivial trivial (by kernel_rfl)
theorem parse_op_J2 : JOkD parse_op_d 2 := jokD parse_op_j0F parse_op_j0h (by kernel_rfl) (by kernel_rfl) (fun _ _ _ => by kernel_rfl)
theorem parse_op_w : ConOk PP X 105 parse_op_d.raw := rawD parse_op_cs Tryz.func105 (n := 0) (js := [2]) (by kernel_rfl) trivial ⟨parse_op_J2, trivial⟩
theorem parse_op_T : TK parse_op_d.raw S52 R1 fun R => parse_op_cps big R := fun _ _ _ => by kernel_rfl
def parse_op_k : CR := kC 105 [] [] S52 R1 (parse_op big)
theorem parse_op_ok : parse_op_k.Ok PP X := okC parse_op_w _ parse_op_T (by kernel_rfl)
/-! The functions about parse_parser_whole: they call one another. -/
set_option warn.classDefReducibility false
set_option linter.unusedSectionVars false
section
variable [Fuel]
def Z_parse_parser_whole_inst : Z_parse_parser_whole := Z_parse_parser_whole_at big Fuel.n
attribute [local instance] Z_parse_parser_whole_inst
def rec_parse_parser_not_k : CR := kF 103 [.arg 0] [] S32 R13 Z_parse_parser_whole.r_parse_parser_not
def rec_parse_parser_sign_k : CR := kF 104 [.arg 0] [] S32 R13 Z_parse_parser_whole.r_parse_parser_sign
def rec_parse_parser_expr_k : CR := kF 70 [.arg 0] [] S33 R13 Z_parse_parser_whole.r_parse_parser_expr
def rec_parse_parser_whole_k : CR := kF 32 [.arg 0] [] S32 R13 Z_parse_parser_whole.r_parse_parser_whole
class H_parse_parser_whole : Prop where
  h_parse_parser_not : rec_parse_parser_not_k.Ok PP X
  h_parse_parser_sign : rec_parse_parser_sign_k.Ok PP X
  h_parse_parser_expr : rec_parse_parser_expr_k.Ok PP X
  h_parse_parser_whole : rec_parse_parser_whole_k.Ok PP X
variable [H_parse_parser_whole]
theorem rec_parse_parser_not_ok : rec_parse_parser_not_k.Ok PP X := H_parse_parser_whole.h_parse_parser_not
theorem rec_parse_parser_sign_ok : rec_parse_parser_sign_k.Ok PP X := H_parse_parser_whole.h_parse_parser_sign
theorem rec_parse_parser_expr_ok : rec_parse_parser_expr_k.Ok PP X := H_parse_parser_whole.h_parse_parser_expr
theorem rec_parse_parser_whole_ok : rec_parse_parser_whole_k.Ok PP X := H_parse_parser_whole.h_parse_parser_whole
/- 126 (*frankpledge/parse.parser).test -/
def parse_parser_test_o_r0F : JF S45 := fun R k => S45.app (parse_parser_test_o_r0 big R (S46.ex k .normal))
def parse_parser_test_o_r0h : LH := lhJ S45 parse_parser_test_o_r0F (ids [0, 2, 3, 4, 6] []) [] (ids [2] []) 4 none
def parse_parser_test_o_d : FD := ⟨B0.lean [rec_parse_parser_expr_k, parse_parser_next_k, parse_parser_take_k, parse_parser_want_k, parse_comparison_k] [], 1, [(2000015, parse_parser_test_o_r0h)], [], [], Tryz.f126⟩
theorem parse_parser_test_o_cs : CsOk PP X parse_parser_test_o_d.cx := csL bOk mixed ⟨rec_parse_parser_expr_ok, parse_parser_next_ok, parse_parser_take_ok, parse_parser_want_ok, parse_comparison_ok, trivial⟩ trivial (by kernel_rfl)
theorem parse_parser_test_o_J34 : JOkD parse_parser_test_o_d 34 := rokD parse_parser_test_o_cs parse_parser_test_o_r0F parse_parser_test_o_r0h (by kernel_rfl) rfl rfl (by kernel_rfl) (by kernel_rfl) [[0, 1, 4, 2, 3, 5, 6, 7, 8], [0, 1, 4, 2, 5, 3, 6, 7, 8], [0, 1, 4, 3, 2, 5, 6, 7, 8], [0, 1, 4, 3, 5, 2, 6, 7, 8], [0, 1, 4, 5, 2, 3, 6, 7, 8]] (by kernel_rfl) ⟨(fun _ _ _ => by kernel_rfl), (fun _ _ _ => by kernel_rfl), (fun _ _ _ => by kernel_rfl), (fun _ _ _ => by kernel_rfl), (fun _ _ _ => by kernel_rfl), trivial⟩
theorem parse_parser_test_o_w : ConOk PP X 126 parse_parser_test_o_d.raw := rawD parse_parser_test_o_cs Tryz.func126 (n := 0) (js := [34]) (by kernel_rfl) trivial ⟨parse_parser_test_o_J34, trivial⟩
theorem parse_parser_test_o_T : TF parse_parser_test_o_d.raw S32 R13 fun R => parse_parser_test_o_cps big R := fun _ _ _ => by kernel_rfl
def parse_parser_test_o_k : CR := kF 126 [.arg 0] [] S32 R13 (parse_parser_test_o big)
theorem parse_parser_test_o_ok : parse_parser_test_o_k.Ok PP X := okF parse_parser_test_o_w _ parse_parser_test_o_T (by kernel_rfl)
/- 127 (*frankpledge/parse.parser).within -/
def parse_parser_within_o_d : FD := ⟨B0.lean [parse_parser_fail_k, rec_parse_parser_not_k] [], 1, [], [(.inn [none, none, none, none, none, none, none, some .ex, none, none])], [], Tryz.f127⟩
theorem parse_parser_within_o_cs : CsOk PP X parse_parser_within_o_d.cx := csL bOk mixed ⟨parse_parser_fail_ok, rec_parse_parser_not_ok, trivial⟩ trivial (by kernel_rfl)
theorem parse_parser_within_o_w : ConOk PP X 127 parse_parser_within_o_d.raw := rawD parse_parser_within_o_cs Tryz.func127 (n := 0) (js := []) (by kernel_rfl) trivial trivial
theorem parse_parser_within_o_T : TF parse_parser_within_o_d.raw S47 R13 fun R => parse_parser_within_o_cps big R := fun _ _ _ => by kernel_rfl
def parse_parser_within_o_k : CR := kF 127 [.arg 0] [] S47 R13 (parse_parser_within_o big)
theorem parse_parser_within_o_ok : parse_parser_within_o_k.Ok PP X := okF parse_parser_within_o_w _ parse_parser_within_o_T (by kernel_rfl)
/- 103 (*frankpledge/parse.parser).not -/
def parse_parser_not_o_d : FD := ⟨B0.lean [parse_parser_next_k, parse_parser_is_k, parse_parser_test_o_k, parse_parser_within_o_k] [], 1, [], [], [], Tryz.f103⟩
theorem parse_parser_not_o_cs : CsOk PP X parse_parser_not_o_d.cx := csL bOk mixed ⟨parse_parser_next_ok, parse_parser_is_ok, parse_parser_test_o_ok, parse_parser_within_o_ok, trivial⟩ trivial (by kernel_rfl)
theorem parse_parser_not_o_w : ConOk PP X 103 parse_parser_not_o_d.raw := rawD parse_parser_not_o_cs Tryz.func103 (n := 0) (js := []) (by kernel_rfl) trivial trivial
theorem parse_parser_not_o_T : TF parse_parser_not_o_d.raw S32 R13 fun R => parse_parser_not_o_cps big R := fun _ _ _ => by kernel_rfl
def parse_parser_not_o_k : CR := kF 103 [.arg 0] [] S32 R13 (parse_parser_not_o big)
theorem parse_parser_not_o_ok : parse_parser_not_o_k.Ok PP X := okF parse_parser_not_o_w _ parse_parser_not_o_T (by kernel_rfl)
/- 127 (*frankpledge/parse.parser).within -/
def parse_parser_within_1_o_d : FD := ⟨B0.lean [rec_parse_parser_whole_k, parse_parser_fail_k] [], 1, [], [(.inn [none, none, none, none, none, none, none, some .ex, none, none])], [], Tryz.f127⟩
theorem parse_parser_within_1_o_cs : CsOk PP X parse_parser_within_1_o_d.cx := csL bOk mixed ⟨rec_parse_parser_whole_ok, parse_parser_fail_ok, trivial⟩ trivial (by kernel_rfl)
theorem parse_parser_within_1_o_w : ConOk PP X 127 parse_parser_within_1_o_d.raw := rawD parse_parser_within_1_o_cs Tryz.func127 (n := 0) (js := []) (by kernel_rfl) trivial trivial
theorem parse_parser_within_1_o_T : TF parse_parser_within_1_o_d.raw S48 R13 fun R => parse_parser_within_1_o_cps big R := fun _ _ _ => by kernel_rfl
def parse_parser_within_1_o_k : CR := kF 127 [.arg 0] [] S48 R13 (parse_parser_within_1_o big)
theorem parse_parser_within_1_o_ok : parse_parser_within_1_o_k.Ok PP X := okF parse_parser_within_1_o_w _ parse_parser_within_1_o_T (by kernel_rfl)
/- 146 (*frankpledge/parse.parser).inner -/
def parse_parser_inner_o_d : FD := ⟨B0.lean [parse_parser_within_1_o_k, parse_parser_want_k] [], 1, [], [], [], Tryz.f146⟩
theorem parse_parser_inner_o_cs : CsOk PP X parse_parser_inner_o_d.cx := csL bOk mixed ⟨parse_parser_within_1_o_ok, parse_parser_want_ok, trivial⟩ trivial (by kernel_rfl)
theorem parse_parser_inner_o_w : ConOk PP X 146 parse_parser_inner_o_d.raw := rawD parse_parser_inner_o_cs Tryz.func146 (n := 0) (js := []) (by kernel_rfl) trivial trivial
theorem parse_parser_inner_o_T : TF parse_parser_inner_o_d.raw S32 R13 fun R => parse_parser_inner_o_cps big R := fun _ _ _ => by kernel_rfl
def parse_parser_inner_o_k : CR := kF 146 [.arg 0] [] S32 R13 (parse_parser_inner_o big)
theorem parse_parser_inner_o_ok : parse_parser_inner_o_k.Ok PP X := okF parse_parser_inner_o_w _ parse_parser_inner_o_T (by kernel_rfl)
/- 147 (*frankpledge/parse.parser).word -/
def parse_parser_word_o_r1F : JF S41 := fun R k => S41.app (parse_parser_word_o_r1 big R (S42.ex k .normal))
def parse_parser_word_o_r1h : LH := lhJ S41 parse_parser_word_o_r1F (ids [0, 6, 7] []) [] (ids [6, 7] []) 5 none
def parse_parser_word_o_j0F : JF S43 := fun R k => S43.app (parse_parser_word_o_j0 big R (S41.ex k .normal) (S41.ex k .ret))
def parse_parser_word_o_j0h : LH := lhJ S43 parse_parser_word_o_j0F (ids [0, 6, 7, 71] []) [] (ids [0, 6, 7] []) 5 none
def parse_parser_word_o_d : FD := ⟨B0.lean [parse_parser_next_k, parse_parser_take_k, parse_parser_want_k, parse_parser_inner_o_k, parse_parser_name_k] [], 1, [(1000015, parse_parser_word_o_j0h), (2000025, parse_parser_word_o_r1h)], [(.inn [none, none, none, none, none, none, none, some .ex, none, none])], [], Tryz.f147⟩
theorem parse_parser_word_o_cs : CsOk PP X parse_parser_word_o_d.cx := csL bOk mixed ⟨parse_parser_next_ok, parse_parser_take_ok, parse_parser_want_ok, parse_parser_inner_o_ok, parse_parser_name_ok, trivial⟩ trivial (by kernel_rfl)
theorem parse_parser_word_o_J45 : JOkD parse_parser_word_o_d 45 := jokD parse_parser_word_o_j0F parse_parser_word_o_j0h (by kernel_rfl) (by kernel_rfl) (fun _ _ _ => by kernel_rfl)
theorem parse_parser_word_o_J68 : JOkD parse_parser_word_o_d 68 := rokD parse_parser_word_o_cs parse_parser_word_o_r1F parse_parser_word_o_r1h (by kernel_rfl) rfl rfl (by kernel_rfl) (by kernel_rfl) [[0, 2, 1, 3, 4, 5, 6, 7], [0, 2, 3, 1, 4, 5, 6, 7]] (by kernel_rfl) ⟨(fun _ _ _ => by kernel_rfl), (fun _ _ _ => by kernel_rfl), trivial⟩
theorem parse_parser_word_o_w : ConOk PP X 147 parse_parser_word_o_d.raw := rawD parse_parser_word_o_cs Tryz.func147 (n := 0) (js := [45, 68]) (by kernel_rfl) trivial ⟨parse_parser_word_o_J45, parse_parser_word_o_J68, trivial⟩
theorem parse_parser_word_o_T : TF parse_parser_word_o_d.raw S44 R13 fun R => parse_parser_word_o_cps big R := fun _ _ _ => by kernel_rfl
def parse_parser_word_o_k : CR := kF 147 [.arg 0] [.id, .id, (.inn [none, none, none, none, none, none, none, some .ex, none, none])] S44 R13 (parse_parser_word_o big)
theorem parse_parser_word_o_ok : parse_parser_word_o_k.Ok PP X := okF parse_parser_word_o_w _ parse_parser_word_o_T (by kernel_rfl)
/- 128 (*frankpledge/parse.parser).one -/
def parse_parser_one_o_d : FD := ⟨B0.lean [parse_parser_fail_k, parse_parser_next_k, parse_parser_inner_o_k, parse_parser_word_o_k] [], 1, [], [(.inn [none, none, none, none, none, none, none, some .ex, none, none])], [], Tryz.f128⟩
theorem parse_parser_one_o_cs : CsOk PP X parse_parser_one_o_d.cx := csL bOk mixed ⟨parse_parser_fail_ok, parse_parser_next_ok, parse_parser_inner_o_ok, parse_parser_word_o_ok, trivial⟩ trivial (by kernel_rfl)
theorem parse_parser_one_o_w : ConOk PP X 128 parse_parser_one_o_d.raw := rawD parse_parser_one_o_cs Tryz.func128 (n := 0) (js := []) (by kernel_rfl) trivial trivial
theorem parse_parser_one_o_T : TF parse_parser_one_o_d.raw S32 R13 fun R => parse_parser_one_o_cps big R := fun _ _ _ => by kernel_rfl
def parse_parser_one_o_k : CR := kF 128 [.arg 0] [] S32 R13 (parse_parser_one_o big)
theorem parse_parser_one_o_ok : parse_parser_one_o_k.Ok PP X := okF parse_parser_one_o_w _ parse_parser_one_o_T (by kernel_rfl)
/- 127 (*frankpledge/parse.parser).within -/
def parse_parser_within_2_o_d : FD := ⟨B0.lean [parse_parser_fail_k, rec_parse_parser_sign_k] [], 1, [], [(.inn [none, none, none, none, none, none, none, some .ex, none, none])], [], Tryz.f127⟩
theorem parse_parser_within_2_o_cs : CsOk PP X parse_parser_within_2_o_d.cx := csL bOk mixed ⟨parse_parser_fail_ok, rec_parse_parser_sign_ok, trivial⟩ trivial (by kernel_rfl)
theorem parse_parser_within_2_o_w : ConOk PP X 127 parse_parser_within_2_o_d.raw := rawD parse_parser_within_2_o_cs Tryz.func127 (n := 0) (js := []) (by kernel_rfl) trivial trivial
theorem parse_parser_within_2_o_T : TF parse_parser_within_2_o_d.raw S49 R13 fun R => parse_parser_within_2_o_cps big R := fun _ _ _ => by kernel_rfl
def parse_parser_within_2_o_k : CR := kF 127 [.arg 0] [] S49 R13 (parse_parser_within_2_o big)
theorem parse_parser_within_2_o_ok : parse_parser_within_2_o_k.Ok PP X := okF parse_parser_within_2_o_w _ parse_parser_within_2_o_T (by kernel_rfl)
/- 104 (*frankpledge/parse.parser).sign -/
def parse_parser_sign_o_d : FD := ⟨B0.lean [parse_parser_next_k, parse_parser_is_k, parse_parser_within_2_o_k, parse_parser_one_o_k] [], 1, [], [], [], Tryz.f104⟩
theorem parse_parser_sign_o_cs : CsOk PP X parse_parser_sign_o_d.cx := csL bOk mixed ⟨parse_parser_next_ok, parse_parser_is_ok, parse_parser_within_2_o_ok, parse_parser_one_o_ok, trivial⟩ trivial (by kernel_rfl)
theorem parse_parser_sign_o_w : ConOk PP X 104 parse_parser_sign_o_d.raw := rawD parse_parser_sign_o_cs Tryz.func104 (n := 0) (js := []) (by kernel_rfl) trivial trivial
theorem parse_parser_sign_o_T : TF parse_parser_sign_o_d.raw S32 R13 fun R => parse_parser_sign_o_cps big R := fun _ _ _ => by kernel_rfl
def parse_parser_sign_o_k : CR := kF 104 [.arg 0] [] S32 R13 (parse_parser_sign_o big)
theorem parse_parser_sign_o_ok : parse_parser_sign_o_k.Ok PP X := okF parse_parser_sign_o_w _ parse_parser_sign_o_T (by kernel_rfl)
/- 70 (*frankpledge/parse.parser).expr -/
def parse_parser_expr_o_r1F : JF S53 := fun R k => S53.app (parse_parser_expr_o_r1 big R (S54.ex k .normal))
def parse_parser_expr_o_r1h : LH := lhJ S53 parse_parser_expr_o_r1F (ids [0, 1, 4, 5, 6, 7] []) [] (ids [0, 1, 4, 5] []) 3 none
def parse_parser_expr_o_l0F : LF S55 := fun R n k => S55.app (parse_parser_expr_o_l0 big R (S56.ex k (.exit 1)) n)
def parse_parser_expr_o_l0G : BF S55 := fun R r k => S55.app (parse_parser_expr_o_l0B big R (S55.cur r) (S56.ex k (.exit 1)))
def parse_parser_expr_o_l0h : LH := lhL S55 parse_parser_expr_o_l0F (ids [0, 1, 4, 5] []) [(2, [(7, .ro .ex)])] (ids [4, 5] []) none
def parse_parser_expr_o_d : FD := ⟨B0.lean [rec_parse_parser_expr_k, parse_parser_not_o_k, parse_parser_sign_o_k, parse_op_k, parse_parser_next_k] [], 1, [(7, parse_parser_expr_o_l0h), (2000011, parse_parser_expr_o_r1h)], [], [], Tryz.f70⟩
theorem parse_parser_expr_o_cs : CsOk PP X parse_parser_expr_o_d.cx := csL bOk mixed ⟨rec_parse_parser_expr_ok, parse_parser_not_o_ok, parse_parser_sign_o_ok, parse_op_ok, parse_parser_next_ok, trivial⟩ trivial (by kernel_rfl)
theorem parse_parser_expr_o_L0 : LOkD parse_parser_expr_o_d 0 := lokD parse_parser_expr_o_l0F parse_parser_expr_o_l0G parse_parser_expr_o_l0h (by kernel_rfl) (by kernel_rfl) (fun _ _ _ _ => by kernel_rfl) (fun _ _ _ => by kernel_rfl) (fun _ _ _ _ => by kernel_rfl)
theorem parse_parser_expr_o_J24 : JOkD parse_parser_expr_o_d 24 := rokD parse_parser_expr_o_cs parse_parser_expr_o_r1F parse_parser_expr_o_r1h (by kernel_rfl) rfl rfl (by kernel_rfl) (by kernel_rfl) [[0, 1, 3, 4, 5, 2, 6, 7, 8, 9], [0, 1, 3, 4, 5, 6, 2, 7, 8, 9]] (by kernel_rfl) ⟨(fun _ _ _ => by kernel_rfl), (fun _ _ _ => by kernel_rfl), trivial⟩
theorem parse_parser_expr_o_J26 : JOkD parse_parser_expr_o_d 26 := rokD parse_parser_expr_o_cs parse_parser_expr_o_r1F parse_parser_expr_o_r1h (by kernel_rfl) rfl rfl (by kernel_rfl) (by kernel_rfl) [[0, 1, 3, 4, 5, 2, 6, 7, 8, 9], [0, 1, 3, 4, 5, 6, 2, 7, 8, 9]] (by kernel_rfl) ⟨(fun _ _ _ => by kernel_rfl), (fun _ _ _ => by kernel_rfl), trivial⟩
theorem parse_parser_expr_o_w : ConOk PP X 70 parse_parser_expr_o_d.raw := rawD parse_parser_expr_o_cs Tryz.func70 (n := 1) (js := [24, 26]) (by kernel_rfl) ⟨parse_parser_expr_o_L0, trivial⟩ ⟨parse_parser_expr_o_J24, parse_parser_expr_o_J26, trivial⟩
theorem parse_parser_expr_o_T : TF parse_parser_expr_o_d.raw S33 R13 fun R => parse_parser_expr_o_cps big R := fun _ _ _ => by kernel_rfl
def parse_parser_expr_o_k : CR := kF 70 [.arg 0] [] S33 R13 (parse_parser_expr_o big)
theorem parse_parser_expr_o_ok : parse_parser_expr_o_k.Ok PP X := okF parse_parser_expr_o_w _ parse_parser_expr_o_T (by kernel_rfl)
/- 32 (*frankpledge/parse.parser).whole -/
def parse_parser_whole_o_d : FD := ⟨B0.lean [parse_parser_expr_o_k] [], 1, [], [], [], Tryz.f32⟩
theorem parse_parser_whole_o_cs : CsOk PP X parse_parser_whole_o_d.cx := csL bOk mixed ⟨parse_parser_expr_o_ok, trivial⟩ trivial (by kernel_rfl)
theorem parse_parser_whole_o_w : ConOk PP X 32 parse_parser_whole_o_d.raw := rawD parse_parser_whole_o_cs Tryz.func32 (n := 0) (js := []) (by kernel_rfl) trivial trivial
theorem parse_parser_whole_o_T : TF parse_parser_whole_o_d.raw S32 R13 fun R => parse_parser_whole_o_cps big R := fun _ _ _ => by kernel_rfl
def parse_parser_whole_o_k : CR := kF 32 [.arg 0] [] S32 R13 (parse_parser_whole_o big)
theorem parse_parser_whole_o_ok : parse_parser_whole_o_k.Ok PP X := okF parse_parser_whole_o_w _ parse_parser_whole_o_T (by kernel_rfl)
end
theorem H_parse_parser_whole_all (n : Nat) : @H_parse_parser_whole ⟨n⟩ := by
  induction n with
  | zero => exact @H_parse_parser_whole.mk ⟨0⟩ (okF0 fun _ => by kernel_rfl) (okF0 fun _ => by kernel_rfl) (okF0 fun _ => by kernel_rfl) (okF0 fun _ => by kernel_rfl)
  | succ n ih => exact @H_parse_parser_whole.mk ⟨n + 1⟩ (letI : Fuel := ⟨n⟩; letI : H_parse_parser_whole := ih; parse_parser_not_o_ok) (letI : Fuel := ⟨n⟩; letI : H_parse_parser_whole := ih; parse_parser_sign_o_ok) (letI : Fuel := ⟨n⟩; letI : H_parse_parser_whole := ih; parse_parser_expr_o_ok) (letI : Fuel := ⟨n⟩; letI : H_parse_parser_whole := ih; parse_parser_whole_o_ok)
def parse_parser_test_k : CR := letI : Fuel := ⟨big⟩; parse_parser_test_o_k
theorem parse_parser_test_ok : parse_parser_test_k.Ok PP X := letI : Fuel := ⟨big⟩; letI : H_parse_parser_whole := H_parse_parser_whole_all big; parse_parser_test_o_ok
def parse_parser_within_k : CR := letI : Fuel := ⟨big⟩; parse_parser_within_o_k
theorem parse_parser_within_ok : parse_parser_within_k.Ok PP X := letI : Fuel := ⟨big⟩; letI : H_parse_parser_whole := H_parse_parser_whole_all big; parse_parser_within_o_ok
def parse_parser_not_k : CR := letI : Fuel := ⟨big⟩; parse_parser_not_o_k
theorem parse_parser_not_ok : parse_parser_not_k.Ok PP X := letI : Fuel := ⟨big⟩; letI : H_parse_parser_whole := H_parse_parser_whole_all big; parse_parser_not_o_ok
def parse_parser_within_1_k : CR := letI : Fuel := ⟨big⟩; parse_parser_within_1_o_k
theorem parse_parser_within_1_ok : parse_parser_within_1_k.Ok PP X := letI : Fuel := ⟨big⟩; letI : H_parse_parser_whole := H_parse_parser_whole_all big; parse_parser_within_1_o_ok
def parse_parser_inner_k : CR := letI : Fuel := ⟨big⟩; parse_parser_inner_o_k
theorem parse_parser_inner_ok : parse_parser_inner_k.Ok PP X := letI : Fuel := ⟨big⟩; letI : H_parse_parser_whole := H_parse_parser_whole_all big; parse_parser_inner_o_ok
def parse_parser_word_k : CR := letI : Fuel := ⟨big⟩; parse_parser_word_o_k
theorem parse_parser_word_ok : parse_parser_word_k.Ok PP X := letI : Fuel := ⟨big⟩; letI : H_parse_parser_whole := H_parse_parser_whole_all big; parse_parser_word_o_ok
def parse_parser_one_k : CR := letI : Fuel := ⟨big⟩; parse_parser_one_o_k
theorem parse_parser_one_ok : parse_parser_one_k.Ok PP X := letI : Fuel := ⟨big⟩; letI : H_parse_parser_whole := H_parse_parser_whole_all big; parse_parser_one_o_ok
def parse_parser_within_2_k : CR := letI : Fuel := ⟨big⟩; parse_parser_within_2_o_k
theorem parse_parser_within_2_ok : parse_parser_within_2_k.Ok PP X := letI : Fuel := ⟨big⟩; letI : H_parse_parser_whole := H_parse_parser_whole_all big; parse_parser_within_2_o_ok
def parse_parser_sign_k : CR := letI : Fuel := ⟨big⟩; parse_parser_sign_o_k
theorem parse_parser_sign_ok : parse_parser_sign_k.Ok PP X := letI : Fuel := ⟨big⟩; letI : H_parse_parser_whole := H_parse_parser_whole_all big; parse_parser_sign_o_ok
def parse_parser_expr_k : CR := letI : Fuel := ⟨big⟩; parse_parser_expr_o_k
theorem parse_parser_expr_ok : parse_parser_expr_k.Ok PP X := letI : Fuel := ⟨big⟩; letI : H_parse_parser_whole := H_parse_parser_whole_all big; parse_parser_expr_o_ok
def parse_parser_whole_k : CR := letI : Fuel := ⟨big⟩; parse_parser_whole_o_k
theorem parse_parser_whole_ok : parse_parser_whole_k.Ok PP X := letI : Fuel := ⟨big⟩; letI : H_parse_parser_whole := H_parse_parser_whole_all big; parse_parser_whole_o_ok
/-! 33 (*frankpledge/parse.parser).ended -/
def parse_parser_ended_d : FD := ⟨B0.lean [parse_parser_fail_k] [], 1, [], [], [], Tryz.f33⟩
theorem parse_parser_ended_cs : CsOk PP X parse_parser_ended_d.cx := csL bOk mixed ⟨parse_parser_fail_ok, trivial⟩ trivial (by kernel_rfl)
theorem parse_parser_ended_w : ConOk PP X 33 parse_parser_ended_d.raw := rawD parse_parser_ended_cs Tryz.func33 (n := 0) (js := []) (by kernel_rfl) trivial trivial
theorem parse_parser_ended_T : TF parse_parser_ended_d.raw S32 R14 fun R => parse_parser_ended_cps big R := fun _ _ _ => by kernel_rfl
def parse_parser_ended_k : CR := kF 33 [.arg 0] [] S32 R14 (parse_parser_ended big)
theorem parse_parser_ended_ok : parse_parser_ended_k.Ok PP X := okF parse_parser_ended_w _ parse_parser_ended_T (by kernel_rfl)
/-! 13 frankpledge/parse.Expression -/
def parse_Expression_d : FD := ⟨B0.lean [fault_At_k, parse_parser_whole_k, parse_parser_ended_k, fault_Wrap_k, lex_Lex_k] [(31, Tryz.f31)], 2, [], [(.inn [none, none, none, none, none, none, none, some .ex, none, none]), .id], [], Tryz.f13⟩
theorem parse_Expression_cs : CsOk PP X parse_Expression_d.cx := csL bOk mixed ⟨fault_At_ok, parse_parser_whole_ok, parse_parser_ended_ok, fault_Wrap_ok, lex_Lex_ok, trivial⟩ ⟨⟨Tryz.func31, by kernel_rfl⟩, trivial⟩ (by kernel_rfl)
theorem parse_Expression_w : ConOk PP X 13 parse_Expression_d.raw := rawD parse_Expression_cs Tryz.func13 (n := 0) (js := []) (by kernel_rfl) trivial trivial
theorem parse_Expression_T : TK parse_Expression_d.raw S5 R15 fun R => parse_Expression_cps big R := fun _ _ _ => by kernel_rfl
def parse_Expression_k : CR := kC 13 [] [] S5 R15 (parse_Expression big)
theorem parse_Expression_ok : parse_Expression_k.Ok PP X := okC parse_Expression_w _ parse_Expression_T (by kernel_rfl)
/-! 34 frankpledge/eval.kids -/
def eval_kids_d : FD := ⟨B0.lean [] [], 1, [], [], [], Tryz.f34⟩
theorem eval_kids_cs : CsOk PP X eval_kids_d.cx := csL bOk mixed trivial trivial (by kernel_rfl)
theorem eval_kids_w : ConOk PP X 34 eval_kids_d.raw := rawD eval_kids_cs Tryz.func34 (n := 0) (js := []) (by kernel_rfl) trivial trivial
theorem eval_kids_T : TK eval_kids_d.raw S11 R1 fun R => eval_kids_cps big R := fun _ _ _ => by kernel_rfl
def eval_kids_k : CR := kC 34 [] [] S11 R1 (eval_kids big)
theorem eval_kids_ok : eval_kids_k.Ok PP X := okC eval_kids_w _ eval_kids_T (by kernel_rfl)
/-! 35 frankpledge/eval.truth -/
def eval_truth_d : FD := ⟨B0.lean [] [], 1, [], [], [], Tryz.f35⟩
theorem eval_truth_cs : CsOk PP X eval_truth_d.cx := csL bOk mixed trivial trivial (by kernel_rfl)
theorem eval_truth_w : ConOk PP X 35 eval_truth_d.raw := rawD eval_truth_cs Tryz.func35 (n := 0) (js := []) (by kernel_rfl) trivial trivial
theorem eval_truth_T : TK eval_truth_d.raw S57 R16 fun R => eval_truth_cps big R := fun _ _ _ => by kernel_rfl
def eval_truth_k : CR := kC 35 [] [] S57 R16 (eval_truth big)
theorem eval_truth_ok : eval_truth_k.Ok PP X := okC eval_truth_w _ eval_truth_T (by kernel_rfl)
/-! 19 frankpledge/value.Right -/
def value_Right_d : FD := ⟨B0.lean [] [], 1, [], [], [], Tryz.f19⟩
theorem value_Right_cs : CsOk PP X value_Right_d.cx := csL bOk mixed trivial trivial (by kernel_rfl)
theorem value_Right_w : ConOk PP X 19 value_Right_d.raw := rawD value_Right_cs Tryz.func19 (n := 0) (js := []) (by kernel_rfl) trivial trivial
theorem value_Right_T : TK value_Right_d.raw S58 R4 fun R => value_Right_cps big R := fun _ _ _ => by kernel_rfl
def value_Right_k : CR := kC 19 [] [] S58 R4 (value_Right big)
theorem value_Right_ok : value_Right_k.Ok PP X := okC value_Right_w _ value_Right_T (by kernel_rfl)
/-! 108 frankpledge/value.truth -/
def value_truth_d : FD := ⟨B0.lean [value_Right_k] [], 1, [], [], [], Tryz.f108⟩
theorem value_truth_cs : CsOk PP X value_truth_d.cx := csL bOk mixed ⟨value_Right_ok, trivial⟩ trivial (by kernel_rfl)
theorem value_truth_w : ConOk PP X 108 value_truth_d.raw := rawD value_truth_cs Tryz.func108 (n := 0) (js := []) (by kernel_rfl) trivial trivial
theorem value_truth_T : TK value_truth_d.raw S58 R4 fun R => value_truth_cps big R := fun _ _ _ => by kernel_rfl
def value_truth_k : CR := kC 108 [] [] S58 R4 (value_truth big)
theorem value_truth_ok : value_truth_k.Ok PP X := okC value_truth_w _ value_truth_T (by kernel_rfl)
/-! 72 frankpledge/value.both -/
def value_both_d : FD := ⟨B0.lean [fault_New_k, value_truth_k] [], 1, [], [], [], Tryz.f72⟩
theorem value_both_cs : CsOk PP X value_both_d.cx := csL bOk mixed ⟨fault_New_ok, value_truth_ok, trivial⟩ trivial (by kernel_rfl)
theorem value_both_w : ConOk PP X 72 value_both_d.raw := rawD value_both_cs Tryz.func72 (n := 0) (js := []) (by kernel_rfl) trivial trivial
theorem value_both_T : TK value_both_d.raw S59 R0 fun R => value_both_cps big R := fun _ _ _ => by kernel_rfl
def value_both_k : CR := kC 72 [] [] S59 R0 (value_both big)
theorem value_both_ok : value_both_k.Ok PP X := okC value_both_w _ value_both_T (by kernel_rfl)
/-! 73 frankpledge/value.decided -/
def value_decided_d : FD := ⟨B0.lean [] [], 1, [], [], [], Tryz.f73⟩
theorem value_decided_cs : CsOk PP X value_decided_d.cx := csL bOk mixed trivial trivial (by kernel_rfl)
theorem value_decided_w : ConOk PP X 73 value_decided_d.raw := rawD value_decided_cs Tryz.func73 (n := 0) (js := []) (by kernel_rfl) trivial trivial
theorem value_decided_T : TK value_decided_d.raw S60 R16 fun R => value_decided_cps big R := fun _ _ _ => by kernel_rfl
def value_decided_k : CR := kC 73 [] [] S60 R16 (value_decided big)
theorem value_decided_ok : value_decided_k.Ok PP X := okC value_decided_w _ value_decided_T (by kernel_rfl)
/-! 36 frankpledge/value.And -/
def value_And_d : FD := ⟨B0.lean [value_both_k, value_decided_k] [], 1, [], [], [], Tryz.f36⟩
theorem value_And_cs : CsOk PP X value_And_d.cx := csL bOk mixed ⟨value_both_ok, value_decided_ok, trivial⟩ trivial (by kernel_rfl)
theorem value_And_w : ConOk PP X 36 value_And_d.raw := rawD value_And_cs Tryz.func36 (n := 0) (js := []) (by kernel_rfl) trivial trivial
theorem value_And_T : TK value_And_d.raw S59 R17 fun R => value_And_cps big R := fun _ _ _ => by kernel_rfl
def value_And_k : CR := kC 36 [] [] S59 R17 (value_And big)
theorem value_And_ok : value_And_k.Ok PP X := okC value_And_w _ value_And_T (by kernel_rfl)
def fault_Code_k : CR := kC 12 [] [] S29 R1 (fault_Code big)
theorem fault_Code_ok : fault_Code_k.Ok PP X := okC shelf_Code_12 (fun R => fault_Code_cps big R) (fun _ _ _ => by kernel_rfl) (by kernel_rfl)
/-! 37 frankpledge/value.Or -/
def value_Or_d : FD := ⟨B0.lean [value_both_k, value_decided_k] [], 1, [], [], [], Tryz.f37⟩
theorem value_Or_cs : CsOk PP X value_Or_d.cx := csL bOk mixed ⟨value_both_ok, value_decided_ok, trivial⟩ trivial (by kernel_rfl)
theorem value_Or_w : ConOk PP X 37 value_Or_d.raw := rawD value_Or_cs Tryz.func37 (n := 0) (js := []) (by kernel_rfl) trivial trivial
theorem value_Or_T : TK value_Or_d.raw S59 R17 fun R => value_Or_cps big R := fun _ _ _ => by kernel_rfl
def value_Or_k : CR := kC 37 [] [] S59 R17 (value_Or big)
theorem value_Or_ok : value_Or_k.Ok PP X := okC value_Or_w _ value_Or_T (by kernel_rfl)
/-! 38 frankpledge/value.Not -/
def value_Not_d : FD := ⟨B0.lean [value_both_k] [], 1, [], [], [], Tryz.f38⟩
theorem value_Not_cs : CsOk PP X value_Not_d.cx := csL bOk mixed ⟨value_both_ok, trivial⟩ trivial (by kernel_rfl)
theorem value_Not_w : ConOk PP X 38 value_Not_d.raw := rawD value_Not_cs Tryz.func38 (n := 0) (js := []) (by kernel_rfl) trivial trivial
theorem value_Not_T : TK value_Not_d.raw S58 R17 fun R => value_Not_cps big R := fun _ _ _ => by kernel_rfl
def value_Not_k : CR := kC 38 [] [] S58 R17 (value_Not big)
theorem value_Not_ok : value_Not_k.Ok PP X := okC value_Not_w _ value_Not_T (by kernel_rfl)
/-! 65 frankpledge/number.numeric -/
def number_numeric_d : FD := ⟨B0.lean [] [], 1, [], [], [], Tryz.f65⟩
theorem number_numeric_cs : CsOk PP X number_numeric_d.cx := csL bOk mixed trivial trivial (by kernel_rfl)
theorem number_numeric_w : ConOk PP X 65 number_numeric_d.raw := rawD number_numeric_cs Tryz.func65 (n := 0) (js := []) (by kernel_rfl) trivial trivial
theorem number_numeric_T : TK number_numeric_d.raw S58 R4 fun R => number_numeric_cps big R := fun _ _ _ => by kernel_rfl
def number_numeric_k : CR := kC 65 [] [] S58 R4 (number_numeric big)
theorem number_numeric_ok : number_numeric_k.Ok PP X := okC number_numeric_w _ number_numeric_T (by kernel_rfl)
/-! 74 frankpledge/number.reckons -/
def number_reckons_d : FD := ⟨B0.lean [value_Right_k, number_numeric_k] [], 1, [], [], [], Tryz.f74⟩
theorem number_reckons_cs : CsOk PP X number_reckons_d.cx := csL bOk mixed ⟨value_Right_ok, number_numeric_ok, trivial⟩ trivial (by kernel_rfl)
theorem number_reckons_w : ConOk PP X 74 number_reckons_d.raw := rawD number_reckons_cs Tryz.func74 (n := 0) (js := []) (by kernel_rfl) trivial trivial
theorem number_reckons_T : TK number_reckons_d.raw S58 R4 fun R => number_reckons_cps big R := fun _ _ _ => by kernel_rfl
def number_reckons_k : CR := kC 74 [] [] S58 R4 (number_reckons big)
theorem number_reckons_ok : number_reckons_k.Ok PP X := okC number_reckons_w _ number_reckons_T (by kernel_rfl)
/-! 39 frankpledge/number.Neg -/
def number_Neg_d : FD := ⟨B0.lean [fault_New_k, number_reckons_k] [], 1, [], [], [], Tryz.f39⟩
theorem number_Neg_cs : CsOk PP X number_Neg_d.cx := csL bOk mixed ⟨fault_New_ok, number_reckons_ok, trivial⟩ trivial (by kernel_rfl)
theorem number_Neg_w : ConOk PP X 39 number_Neg_d.raw := rawD number_Neg_cs Tryz.func39 (n := 0) (js := []) (by kernel_rfl) trivial trivial
theorem number_Neg_T : TK number_Neg_d.raw S58 R17 fun R => number_Neg_cps big R := fun _ _ _ => by kernel_rfl
def number_Neg_k : CR := kC 39 [] [] S58 R17 (number_Neg big)
theorem number_Neg_ok : number_Neg_k.Ok PP X := okC number_Neg_w _ number_Neg_T (by kernel_rfl)
/-! 109 frankpledge/number.size -/
def number_size_d : FD := ⟨B0.lean [] [], 1, [], [], [], Tryz.f109⟩
theorem number_size_cs : CsOk PP X number_size_d.cx := csL bOk mixed trivial trivial (by kernel_rfl)
theorem number_size_w : ConOk PP X 109 number_size_d.raw := rawD number_size_cs Tryz.func109 (n := 0) (js := []) (by kernel_rfl) trivial trivial
theorem number_size_T : TK number_size_d.raw S11 R18 fun R => number_size_cps big R := fun _ _ _ => by kernel_rfl
def number_size_k : CR := kC 109 [] [] S11 R18 (number_size big)
theorem number_size_ok : number_size_k.Ok PP X := okC number_size_w _ number_size_T (by kernel_rfl)
/-! 92 math/bits.Mul64 -/
def bits_Mul64_d : FD := ⟨B0.lean [] [], 1, [], [], [], Tryz.f92⟩
theorem bits_Mul64_cs : CsOk PP X bits_Mul64_d.cx := csL bOk mixed trivial trivial (by kernel_rfl)
theorem bits_Mul64_w : ConOk PP X 92 bits_Mul64_d.raw := rawD bits_Mul64_cs Tryz.func92 (n := 0) (js := []) (by kernel_rfl) trivial trivial
theorem bits_Mul64_T : TK bits_Mul64_d.raw S61 R19 fun R => bits_Mul64_cps big R := fun _ _ _ => by kernel_rfl
def bits_Mul64_k : CR := kC 92 [] [] S61 R19 (bits_Mul64 big)
theorem bits_Mul64_ok : bits_Mul64_k.Ok PP X := okC bits_Mul64_w _ bits_Mul64_T (by kernel_rfl)
/-! 110 frankpledge/number.fit -/
def number_fit_d : FD := ⟨B0.lean [] [], 1, [], [], [], Tryz.f110⟩
theorem number_fit_cs : CsOk PP X number_fit_d.cx := csL bOk mixed trivial trivial (by kernel_rfl)
theorem number_fit_w : ConOk PP X 110 number_fit_d.raw := rawD number_fit_cs Tryz.func110 (n := 0) (js := []) (by kernel_rfl) trivial trivial
theorem number_fit_T : TK number_fit_d.raw S62 R20 fun R => number_fit_cps big R := fun _ _ _ => by kernel_rfl
def number_fit_k : CR := kC 110 [] [] S62 R20 (number_fit big)
theorem number_fit_ok : number_fit_k.Ok PP X := okC number_fit_w _ number_fit_T (by kernel_rfl)
/-! 75 frankpledge/number.promoted -/
def number_promoted_d : FD := ⟨B0.lean [fault_New_k, bits_Mul64_k, number_size_k, number_fit_k] [], 1, [], [], [], Tryz.f75⟩
theorem number_promoted_cs : CsOk PP X number_promoted_d.cx := csL bOk mixed ⟨fault_New_ok, bits_Mul64_ok, number_size_ok, number_fit_ok, trivial⟩ trivial (by kernel_rfl)
theorem number_promoted_w : ConOk PP X 75 number_promoted_d.raw := rawD number_promoted_cs Tryz.func75 (n := 0) (js := []) (by kernel_rfl) trivial trivial
theorem number_promoted_T : TK number_promoted_d.raw S63 R6 fun R => number_promoted_cps big R := fun _ _ _ => by kernel_rfl
def number_promoted_k : CR := kC 75 [] [] S63 R6 (number_promoted big)
theorem number_promoted_ok : number_promoted_k.Ok PP X := okC number_promoted_w _ number_promoted_T (by kernel_rfl)
/-! 76 frankpledge/number.sum -/
def number_sum_d : FD := ⟨B0.lean [] [], 1, [], [], [], Tryz.f76⟩
theorem number_sum_cs : CsOk PP X number_sum_d.cx := csL bOk mixed trivial trivial (by kernel_rfl)
theorem number_sum_w : ConOk PP X 76 number_sum_d.raw := rawD number_sum_cs Tryz.func76 (n := 0) (js := []) (by kernel_rfl) trivial trivial
theorem number_sum_T : TK number_sum_d.raw S0 R20 fun R => number_sum_cps big R := fun _ _ _ => by kernel_rfl
def number_sum_k : CR := kC 76 [] [] S0 R20 (number_sum big)
theorem number_sum_ok : number_sum_k.Ok PP X := okC number_sum_w _ number_sum_T (by kernel_rfl)
/-! 148 math/bits.Len64 -/
def bits_Len64_j1F : JF S64 := fun R k => S64.app (bits_Len64_j1 big R (S65.ex k .ret))
def bits_Len64_j1h : LH := lhJ S64 bits_Len64_j1F (ids [0, 2] []) [] (ids [2] []) 0 none
def bits_Len64_j0F : JF S64 := fun R k => S64.app (bits_Len64_j0 big R (S65.ex k .ret))
def bits_Len64_j0h : LH := lhJ S64 bits_Len64_j0F (ids [0, 2] []) [] (ids [2] []) 0 none
def bits_Len64_d : FD := ⟨B0.lean [] [], 1, [(1000004, bits_Len64_j0h), (1000007, bits_Len64_j1h)], [], [], Tryz.f148⟩
theorem bits_Len64_cs : CsOk PP X bits_Len64_d.cx := csL bOk mixed trivial trivial (by kernel_rfl)
theorem bits_Len64_J2 : JOkD bits_Len64_d 2 := jokD bits_Len64_j0F bits_Len64_j0h (by kernel_rfl) (by kernel_rfl) (fun _ _ _ => by kernel_rfl)
theorem bits_Len64_J8 : JOkD bits_Len64_d 8 := jokD bits_Len64_j1F bits_Len64_j1h (by kernel_rfl) (by kernel_rfl) (fun _ _ _ => by kernel_rfl)
theorem bits_Len64_w : ConOk PP X 148 bits_Len64_d.raw := rawD bits_Len64_cs Tryz.func148 (n := 0) (js := [2, 8]) (by kernel_rfl) trivial ⟨bits_Len64_J2, bits_Len64_J8, trivial⟩
theorem bits_Len64_T : TK bits_Len64_d.raw S66 R1 fun R => bits_Len64_cps big R := fun _ _ _ => by kernel_rfl
def bits_Len64_k : CR := kC 148 [] [] S66 R1 (bits_Len64 big)
theorem bits_Len64_ok : bits_Len64_k.Ok PP X := okC bits_Len64_w _ bits_Len64_T (by kernel_rfl)
/-! 129 math/bits.LeadingZeros64 -/
def bits_LeadingZeros64_d : FD := ⟨B0.lean [bits_Len64_k] [], 1, [], [], [], Tryz.f129⟩
theorem bits_LeadingZeros64_cs : CsOk PP X bits_LeadingZeros64_d.cx := csL bOk mixed ⟨bits_Len64_ok, trivial⟩ trivial (by kernel_rfl)
theorem bits_LeadingZeros64_w : ConOk PP X 129 bits_LeadingZeros64_d.raw := rawD bits_LeadingZeros64_cs Tryz.func129 (n := 0) (js := []) (by kernel_rfl) trivial trivial
theorem bits_LeadingZeros64_T : TK bits_LeadingZeros64_d.raw S66 R1 fun R => bits_LeadingZeros64_cps big R := fun _ _ _ => by kernel_rfl
def bits_LeadingZeros64_k : CR := kC 129 [] [] S66 R1 (bits_LeadingZeros64 big)
theorem bits_LeadingZeros64_ok : bits_LeadingZeros64_k.Ok PP X := okC bits_LeadingZeros64_w _ bits_LeadingZeros64_T (by kernel_rfl)
/-! 111 math/bits.Div64 -/
def bits_Div64_l3F : LF S67 := fun R n k => S67.app (bits_Div64_l3 big R (S68.ex k (.exit 2)) n)
def bits_Div64_l3G : BF S67 := fun R r k => S67.app (bits_Div64_l3B big R (S67.cur r) (S68.ex k (.exit 2)))
def bits_Div64_l3h : LH := lhL S67 bits_Div64_l3F (ids [2, 8, 9, 10, 14, 15, 16, 17, 18] []) [] (ids [2, 8, 14, 15, 17, 18] []) none
def bits_Div64_l2F : LF S69 := fun R n k => S69.app (bits_Div64_l2 big R (S70.ex k (.exit 0)) n)
def bits_Div64_l2G : BF S69 := fun R r k => S69.app (bits_Div64_l2B big R (S69.cur r) (S70.ex k (.exit 0)))
def bits_Div64_l2h : LH := lhL S69 bits_Div64_l2F (ids [2, 8, 9, 10, 11, 13, 14, 15, 16] []) [] (ids [2, 8, 9, 10, 11, 13, 14, 15] []) none
def bits_Div64_j1F : JF S71 := fun R k => S71.app (bits_Div64_j1 big R (S72.ex k .ret))
def bits_Div64_j1h : LH := lhJ S71 bits_Div64_j1F (ids [0, 1, 2] []) [] (ids [6, 7] []) 0 none
def bits_Div64_j0F : JF S71 := fun R k => S71.app (bits_Div64_j0 big R (S72.ex k .ret))
def bits_Div64_j0h : LH := lhJ S71 bits_Div64_j0F (ids [0, 1, 2] []) [] (ids [6, 7] []) 0 none
def bits_Div64_d : FD := ⟨B0.lean [bits_LeadingZeros64_k] [], 1, [(17, bits_Div64_l2h), (24, bits_Div64_l3h), (1000003, bits_Div64_j0h), (1000005, bits_Div64_j1h)], [], [], Tryz.f111⟩
theorem bits_Div64_cs : CsOk PP X bits_Div64_d.cx := csL bOk mixed ⟨bits_LeadingZeros64_ok, trivial⟩ trivial (by kernel_rfl)
theorem bits_Div64_L0 : LOkD bits_Div64_d 0 := lokD bits_Div64_l2F bits_Div64_l2G bits_Div64_l2h (by kernel_rfl) (by kernel_rfl) (fun _ _ _ _ => by kernel_rfl) (fun _ _ _ => by kernel_rfl) (fun _ _ _ _ => by kernel_rfl)
theorem bits_Div64_L1 : LOkD bits_Div64_d 1 := lokD bits_Div64_l3F bits_Div64_l3G bits_Div64_l3h (by kernel_rfl) (by kernel_rfl) (fun _ _ _ _ => by kernel_rfl) (fun _ _ _ => by kernel_rfl) (fun _ _ _ _ => by kernel_rfl)
theorem bits_Div64_J2 : JOkD bits_Div64_d 2 := jokD bits_Div64_j0F bits_Div64_j0h (by kernel_rfl) (by kernel_rfl) (fun _ _ _ => by kernel_rfl)
theorem bits_Div64_J6 : JOkD bits_Div64_d 6 := jokD bits_Div64_j1F bits_Div64_j1h (by kernel_rfl) (by kernel_rfl) (fun _ _ _ => by kernel_rfl)
theorem bits_Div64_w : ConOk PP X 111 bits_Div64_d.raw := rawD bits_Div64_cs Tryz.func111 (n := 2) (js := [2, 6]) (by kernel_rfl) ⟨bits_Div64_L0, bits_Div64_L1, trivial⟩ ⟨bits_Div64_J2, bits_Div64_J6, trivial⟩
theorem bits_Div64_T : TK bits_Div64_d.raw S73 R19 fun R => bits_Div64_cps big R := fun _ _ _ => by kernel_rfl
def bits_Div64_k : CR := kC 111 [] [] S73 R19 (bits_Div64 big)
theorem bits_Div64_ok : bits_Div64_k.Ok PP X := okC bits_Div64_w _ bits_Div64_T (by kernel_rfl)
/-! 77 frankpledge/number.over -/
def number_over_d : FD := ⟨B0.lean [bits_Mul64_k, number_size_k, number_fit_k, bits_Div64_k] [], 1, [], [], [], Tryz.f77⟩
theorem number_over_cs : CsOk PP X number_over_d.cx := csL bOk mixed ⟨bits_Mul64_ok, number_size_ok, number_fit_ok, bits_Div64_ok, trivial⟩ trivial (by kernel_rfl)
theorem number_over_w : ConOk PP X 77 number_over_d.raw := rawD number_over_cs Tryz.func77 (n := 0) (js := []) (by kernel_rfl) trivial trivial
theorem number_over_T : TK number_over_d.raw S74 R20 fun R => number_over_cps big R := fun _ _ _ => by kernel_rfl
def number_over_k : CR := kC 77 [] [] S74 R20 (number_over big)
theorem number_over_ok : number_over_k.Ok PP X := okC number_over_w _ number_over_T (by kernel_rfl)
/-! 40 frankpledge/number.Reckon -/
def number_Reckon_j3F : JF S75 := fun R k => S75.app (number_Reckon_j3 big R (S76.ex k .ret))
def number_Reckon_j3h : LH := lhJ S75 number_Reckon_j3F (ids [0, 6, 8, 9, 10, 11] []) [] (ids [6, 7] []) 3 none
def number_Reckon_j2F : JF S77 := fun R k => S77.app (number_Reckon_j2 big R (S75.ex k .normal) (S78.ex k .ret))
def number_Reckon_j2h : LH := lhJ S77 number_Reckon_j2F (ids [0, 4, 5, 6, 8, 9, 10, 11, 57] []) [] (ids [0, 6, 7, 8, 9, 10, 11] []) 3 none
def number_Reckon_j1F : JF S79 := fun R k => S79.app (number_Reckon_j1 big R (S76.ex k .ret))
def number_Reckon_j1h : LH := lhJ S79 number_Reckon_j1F (ids [0, 4, 5, 6] []) [] (ids [6, 7] []) 3 none
def number_Reckon_j0F : JF S80 := fun R k => S80.app (number_Reckon_j0 big R (S79.ex k .normal) (S81.ex k .ret))
def number_Reckon_j0h : LH := lhJ S80 number_Reckon_j0F (ids [0, 4, 5, 6, 15] []) [] (ids [0, 4, 5, 6, 7] []) 3 none
def number_Reckon_d : FD := ⟨B0.lean [fault_New_k, number_reckons_k, number_promoted_k, number_sum_k, number_over_k] [], 1, [(1000002, number_Reckon_j0h), (1000009, number_Reckon_j1h), (1000012, number_Reckon_j2h), (1000020, number_Reckon_j3h)], [], [], Tryz.f40⟩
theorem number_Reckon_cs : CsOk PP X number_Reckon_d.cx := csL bOk mixed ⟨fault_New_ok, number_reckons_ok, number_promoted_ok, number_sum_ok, number_over_ok, trivial⟩ trivial (by kernel_rfl)
theorem number_Reckon_J2 : JOkD number_Reckon_d 2 := jokD number_Reckon_j1F number_Reckon_j1h (by kernel_rfl) (by kernel_rfl) (fun _ _ _ => by kernel_rfl)
theorem number_Reckon_J3 : JOkD number_Reckon_d 3 := jokD number_Reckon_j0F number_Reckon_j0h (by kernel_rfl) (by kernel_rfl) (fun _ _ _ => by kernel_rfl)
theorem number_Reckon_J23 : JOkD number_Reckon_d 23 := jokD number_Reckon_j3F number_Reckon_j3h (by kernel_rfl) (by kernel_rfl) (fun _ _ _ => by kernel_rfl)
theorem number_Reckon_J24 : JOkD number_Reckon_d 24 := jokD number_Reckon_j2F number_Reckon_j2h (by kernel_rfl) (by kernel_rfl) (fun _ _ _ => by kernel_rfl)
theorem number_Reckon_w : ConOk PP X 40 number_Reckon_d.raw := rawD number_Reckon_cs Tryz.func40 (n := 0) (js := [2, 3, 23, 24]) (by kernel_rfl) trivial ⟨number_Reckon_J2, number_Reckon_J3, number_Reckon_J23, number_Reckon_J24, trivial⟩
theorem number_Reckon_T : TK number_Reckon_d.raw S82 R17 fun R => number_Reckon_cps big R := fun _ _ _ => by kernel_rfl
def number_Reckon_k : CR := kC 40 [] [] S82 R17 (number_Reckon big)
theorem number_Reckon_ok : number_Reckon_k.Ok PP X := okC number_Reckon_w _ number_Reckon_T (by kernel_rfl)
/-! 112 cmp.isNaN[int64] -/
def cmp_isNaN_int64_d : FD := ⟨B0.lean [] [], 1, [], [], [], Tryz.f112⟩
theorem cmp_isNaN_int64_cs : CsOk PP X cmp_isNaN_int64_d.cx := csL bOk mixed trivial trivial (by kernel_rfl)
theorem cmp_isNaN_int64_w : ConOk PP X 112 cmp_isNaN_int64_d.raw := rawD cmp_isNaN_int64_cs Tryz.func112 (n := 0) (js := []) (by kernel_rfl) trivial trivial
theorem cmp_isNaN_int64_T : TK cmp_isNaN_int64_d.raw S11 R4 fun R => cmp_isNaN_int64_cps big R := fun _ _ _ => by kernel_rfl
def cmp_isNaN_int64_k : CR := kC 112 [] [] S11 R4 (cmp_isNaN_int64 big)
theorem cmp_isNaN_int64_ok : cmp_isNaN_int64_k.Ok PP X := okC cmp_isNaN_int64_w _ cmp_isNaN_int64_T (by kernel_rfl)
/-! 93 cmp.Compare[int64] -/
def cmp_Compare_int64_d : FD := ⟨B0.lean [cmp_isNaN_int64_k] [], 1, [], [], [], Tryz.f93⟩
theorem cmp_Compare_int64_cs : CsOk PP X cmp_Compare_int64_d.cx := csL bOk mixed ⟨cmp_isNaN_int64_ok, trivial⟩ trivial (by kernel_rfl)
theorem cmp_Compare_int64_w : ConOk PP X 93 cmp_Compare_int64_d.raw := rawD cmp_Compare_int64_cs Tryz.func93 (n := 0) (js := []) (by kernel_rfl) trivial trivial
theorem cmp_Compare_int64_T : TK cmp_Compare_int64_d.raw S0 R1 fun R => cmp_Compare_int64_cps big R := fun _ _ _ => by kernel_rfl
def cmp_Compare_int64_k : CR := kC 93 [] [] S0 R1 (cmp_Compare_int64 big)
theorem cmp_Compare_int64_ok : cmp_Compare_int64_k.Ok PP X := okC cmp_Compare_int64_w _ cmp_Compare_int64_T (by kernel_rfl)
/-! The functions about number_order: they call one another. -/
set_option warn.classDefReducibility false
set_option linter.unusedSectionVars false
section
variable [Fuel]
def Z_number_order_inst : Z_number_order := Z_number_order_at big Fuel.n
attribute [local instance] Z_number_order_inst
def rec_number_order_k : CR := kC 66 [] [] S59 R1 Z_number_order.r_number_order
class H_number_order : Prop where
  h_number_order : rec_number_order_k.Ok PP X
variable [H_number_order]
theorem rec_number_order_ok : rec_number_order_k.Ok PP X := H_number_order.h_number_order
/- 66 frankpledge/number.order -/
def number_order_o_d : FD := ⟨B0.lean [rec_number_order_k, number_promoted_k, cmp_Compare_int64_k] [], 1, [], [], [], Tryz.f66⟩
theorem number_order_o_cs : CsOk PP X number_order_o_d.cx := csL bOk mixed ⟨rec_number_order_ok, number_promoted_ok, cmp_Compare_int64_ok, trivial⟩ trivial (by kernel_rfl)
theorem number_order_o_w : ConOk PP X 66 number_order_o_d.raw := rawD number_order_o_cs Tryz.func66 (n := 0) (js := []) (by kernel_rfl) trivial trivial
theorem number_order_o_T : TK number_order_o_d.raw S59 R1 fun R => number_order_o_cps big R := fun _ _ _ => by kernel_rfl
def number_order_o_k : CR := kC 66 [] [] S59 R1 (number_order_o big)
theorem number_order_o_ok : number_order_o_k.Ok PP X := okC number_order_o_w _ number_order_o_T (by kernel_rfl)
end
theorem H_number_order_all (n : Nat) : @H_number_order ⟨n⟩ := by
  induction n with
  | zero => exact @H_number_order.mk ⟨0⟩ (okC0 fun _ => by kernel_rfl)
  | succ n ih => exact @H_number_order.mk ⟨n + 1⟩ (letI : Fuel := ⟨n⟩; letI : H_number_order := ih; number_order_o_ok)
def number_order_k : CR := letI : Fuel := ⟨big⟩; number_order_o_k
theorem number_order_ok : number_order_k.Ok PP X := letI : Fuel := ⟨big⟩; letI : H_number_order := H_number_order_all big; number_order_o_ok
/-! 113 cmp.isNaN[frankpledge/api.Kind] -/
def cmp_isNaN_api_Kind_d : FD := ⟨B0.lean [] [], 1, [], [], [], Tryz.f113⟩
theorem cmp_isNaN_api_Kind_cs : CsOk PP X cmp_isNaN_api_Kind_d.cx := csL bOk mixed trivial trivial (by kernel_rfl)
theorem cmp_isNaN_api_Kind_w : ConOk PP X 113 cmp_isNaN_api_Kind_d.raw := rawD cmp_isNaN_api_Kind_cs Tryz.func113 (n := 0) (js := []) (by kernel_rfl) trivial trivial
theorem cmp_isNaN_api_Kind_T : TK cmp_isNaN_api_Kind_d.raw S11 R4 fun R => cmp_isNaN_api_Kind_cps big R := fun _ _ _ => by kernel_rfl
def cmp_isNaN_api_Kind_k : CR := kC 113 [] [] S11 R4 (cmp_isNaN_api_Kind big)
theorem cmp_isNaN_api_Kind_ok : cmp_isNaN_api_Kind_k.Ok PP X := okC cmp_isNaN_api_Kind_w _ cmp_isNaN_api_Kind_T (by kernel_rfl)
/-! 95 cmp.Compare[frankpledge/api.Kind] -/
def cmp_Compare_api_Kind_d : FD := ⟨B0.lean [cmp_isNaN_api_Kind_k] [], 1, [], [], [], Tryz.f95⟩
theorem cmp_Compare_api_Kind_cs : CsOk PP X cmp_Compare_api_Kind_d.cx := csL bOk mixed ⟨cmp_isNaN_api_Kind_ok, trivial⟩ trivial (by kernel_rfl)
theorem cmp_Compare_api_Kind_w : ConOk PP X 95 cmp_Compare_api_Kind_d.raw := rawD cmp_Compare_api_Kind_cs Tryz.func95 (n := 0) (js := []) (by kernel_rfl) trivial trivial
theorem cmp_Compare_api_Kind_T : TK cmp_Compare_api_Kind_d.raw S0 R1 fun R => cmp_Compare_api_Kind_cps big R := fun _ _ _ => by kernel_rfl
def cmp_Compare_api_Kind_k : CR := kC 95 [] [] S0 R1 (cmp_Compare_api_Kind big)
theorem cmp_Compare_api_Kind_ok : cmp_Compare_api_Kind_k.Ok PP X := okC cmp_Compare_api_Kind_w _ cmp_Compare_api_Kind_T (by kernel_rfl)
/-! 114 cmp.isNaN[string] -/
def cmp_isNaN_string_d : FD := ⟨B0.lean [] [], 1, [], [], [], Tryz.f114⟩
theorem cmp_isNaN_string_cs : CsOk PP X cmp_isNaN_string_d.cx := csL bOk mixed trivial trivial (by kernel_rfl)
theorem cmp_isNaN_string_w : ConOk PP X 114 cmp_isNaN_string_d.raw := rawD cmp_isNaN_string_cs Tryz.func114 (n := 0) (js := []) (by kernel_rfl) trivial trivial
theorem cmp_isNaN_string_T : TK cmp_isNaN_string_d.raw S5 R4 fun R => cmp_isNaN_string_cps big R := fun _ _ _ => by kernel_rfl
def cmp_isNaN_string_k : CR := kC 114 [] [] S5 R4 (cmp_isNaN_string big)
theorem cmp_isNaN_string_ok : cmp_isNaN_string_k.Ok PP X := okC cmp_isNaN_string_w _ cmp_isNaN_string_T (by kernel_rfl)
/-! 96 cmp.Compare[string] -/
def cmp_Compare_string_d : FD := ⟨B0.lean [cmp_isNaN_string_k] [], 1, [], [], [], Tryz.f96⟩
theorem cmp_Compare_string_cs : CsOk PP X cmp_Compare_string_d.cx := csL bOk mixed ⟨cmp_isNaN_string_ok, trivial⟩ trivial (by kernel_rfl)
theorem cmp_Compare_string_w : ConOk PP X 96 cmp_Compare_string_d.raw := rawD cmp_Compare_string_cs Tryz.func96 (n := 0) (js := []) (by kernel_rfl) trivial trivial
theorem cmp_Compare_string_T : TK cmp_Compare_string_d.raw S17 R1 fun R => cmp_Compare_string_cps big R := fun _ _ _ => by kernel_rfl
def cmp_Compare_string_k : CR := kC 96 [] [] S17 R1 (cmp_Compare_string big)
theorem cmp_Compare_string_ok : cmp_Compare_string_k.Ok PP X := okC cmp_Compare_string_w _ cmp_Compare_string_T (by kernel_rfl)
/-! 94 cmp.Or[int] -/
def cmp_Or_int_l0F : LF S83 := fun R n k => S83.app (cmp_Or_int_l0 big R (S84.ex k (.exit 0)) (S85.ex k .ret) n)
def cmp_Or_int_l0G : BF S83 := fun R r k => S83.app (cmp_Or_int_l0B big R (S83.cur r) (S84.ex k (.exit 0)) (S85.ex k .ret))
def cmp_Or_int_l0h : LH := lhL S83 cmp_Or_int_l0F (ids [3, 6, 7, 8] []) [] (ids [2, 3] []) none
def cmp_Or_int_d : FD := ⟨B0.lean [] [], 1, [(3, cmp_Or_int_l0h)], [], [], Tryz.f94⟩
theorem cmp_Or_int_cs : CsOk PP X cmp_Or_int_d.cx := csL bOk mixed trivial trivial (by kernel_rfl)
theorem cmp_Or_int_L0 : LOkD cmp_Or_int_d 0 := lokD cmp_Or_int_l0F cmp_Or_int_l0G cmp_Or_int_l0h (by kernel_rfl) (by kernel_rfl) (fun _ _ _ _ => by kernel_rfl) (fun _ _ _ => by kernel_rfl) (fun _ _ _ _ => by kernel_rfl)
theorem cmp_Or_int_w : ConOk PP X 94 cmp_Or_int_d.raw := rawD cmp_Or_int_cs Tryz.func94 (n := 1) (js := []) (by kernel_rfl) ⟨cmp_Or_int_L0, trivial⟩ trivial
theorem cmp_Or_int_T : TK cmp_Or_int_d.raw S86 R1 fun R => cmp_Or_int_cps big R := fun _ _ _ => by kernel_rfl
def cmp_Or_int_k : CR := kC 94 [] [] S86 R1 (cmp_Or_int big)
theorem cmp_Or_int_ok : cmp_Or_int_k.Ok PP X := okC cmp_Or_int_w _ cmp_Or_int_T (by kernel_rfl)
/-! 67 frankpledge/value.Order -/
def value_Order_d : FD := ⟨B0.lean [cmp_Compare_int64_k, cmp_Or_int_k, cmp_Compare_api_Kind_k, cmp_Compare_string_k] [], 1, [], [], [], Tryz.f67⟩
theorem value_Order_cs : CsOk PP X value_Order_d.cx := csL bOk mixed ⟨cmp_Compare_int64_ok, cmp_Or_int_ok, cmp_Compare_api_Kind_ok, cmp_Compare_string_ok, trivial⟩ trivial (by kernel_rfl)
theorem value_Order_w : ConOk PP X 67 value_Order_d.raw := rawD value_Order_cs Tryz.func67 (n := 0) (js := []) (by kernel_rfl) trivial trivial
theorem value_Order_T : TK value_Order_d.raw S59 R1 fun R => value_Order_cps big R := fun _ _ _ => by kernel_rfl
def value_Order_k : CR := kC 67 [] [] S59 R1 (value_Order big)
theorem value_Order_ok : value_Order_k.Ok PP X := okC value_Order_w _ value_Order_T (by kernel_rfl)
/-! 29 frankpledge/number.Sign -/
def number_Sign_j0F : JF S87 := fun R k => S87.app (number_Sign_j0 big R (S88.ex k .normal) (S89.ex k .ret))
def number_Sign_j0h : LH := lhJ S87 number_Sign_j0F (ids [2, 3, 6] []) [] (ids [2, 3, 4, 5] []) 2 none
def number_Sign_d : FD := ⟨B0.lean [value_Right_k, fault_New_k, number_numeric_k, number_order_k, value_Order_k] [], 1, [(1000002, number_Sign_j0h)], [], [], Tryz.f29⟩
theorem number_Sign_cs : CsOk PP X number_Sign_d.cx := csL bOk mixed ⟨value_Right_ok, fault_New_ok, number_numeric_ok, number_order_ok, value_Order_ok, trivial⟩ trivial (by kernel_rfl)
theorem number_Sign_J3 : JOkD number_Sign_d 3 := jokD number_Sign_j0F number_Sign_j0h (by kernel_rfl) (by kernel_rfl) (fun _ _ _ => by kernel_rfl)
theorem number_Sign_w : ConOk PP X 29 number_Sign_d.raw := rawD number_Sign_cs Tryz.func29 (n := 0) (js := [3]) (by kernel_rfl) trivial ⟨number_Sign_J3, trivial⟩
theorem number_Sign_T : TK number_Sign_d.raw S59 R6 fun R => number_Sign_cps big R := fun _ _ _ => by kernel_rfl
def number_Sign_k : CR := kC 29 [] [] S59 R6 (number_Sign big)
theorem number_Sign_ok : number_Sign_k.Ok PP X := okC number_Sign_w _ number_Sign_T (by kernel_rfl)
/-! 41 frankpledge/number.Compare -/
def number_Compare_j1F : JF S90 := fun R k => S90.app (number_Compare_j1 big R (S91.ex k .ret))
def number_Compare_j1h : LH := lhJ S90 number_Compare_j1F (ids [0, 4, 5, 6] []) [] (ids [6, 7] []) 3 none
def number_Compare_j0F : JF S92 := fun R k => S92.app (number_Compare_j0 big R (S90.ex k .normal) (S93.ex k .ret))
def number_Compare_j0h : LH := lhJ S92 number_Compare_j0F (ids [0, 4, 5, 6, 12] []) [] (ids [0, 4, 5, 6, 7] []) 3 none
def number_Compare_d : FD := ⟨B0.lean [value_Right_k, fault_New_k, number_Sign_k] [], 1, [(1000002, number_Compare_j0h), (1000009, number_Compare_j1h)], [], [], Tryz.f41⟩
theorem number_Compare_cs : CsOk PP X number_Compare_d.cx := csL bOk mixed ⟨value_Right_ok, fault_New_ok, number_Sign_ok, trivial⟩ trivial (by kernel_rfl)
theorem number_Compare_J2 : JOkD number_Compare_d 2 := jokD number_Compare_j1F number_Compare_j1h (by kernel_rfl) (by kernel_rfl) (fun _ _ _ => by kernel_rfl)
theorem number_Compare_J3 : JOkD number_Compare_d 3 := jokD number_Compare_j0F number_Compare_j0h (by kernel_rfl) (by kernel_rfl) (fun _ _ _ => by kernel_rfl)
theorem number_Compare_w : ConOk PP X 41 number_Compare_d.raw := rawD number_Compare_cs Tryz.func41 (n := 0) (js := [2, 3]) (by kernel_rfl) trivial ⟨number_Compare_J2, number_Compare_J3, trivial⟩
theorem number_Compare_T : TK number_Compare_d.raw S82 R17 fun R => number_Compare_cps big R := fun _ _ _ => by kernel_rfl
def number_Compare_k : CR := kC 41 [] [] S82 R17 (number_Compare big)
theorem number_Compare_ok : number_Compare_k.Ok PP X := okC number_Compare_w _ number_Compare_T (by kernel_rfl)
/-! The functions about eval_Eval_1: they call one another. -/
set_option warn.classDefReducibility false
set_option linter.unusedSectionVars false
section
variable [Fuel]
def Z_eval_Eval_1_inst : Z_eval_Eval_1 := Z_eval_Eval_1_at big Fuel.n
attribute [local instance] Z_eval_Eval_1_inst
def rec_eval_Eval_1_k : CR := kC 14 [] [] S102 R17 Z_eval_Eval_1.r_eval_Eval_1
class H_eval_Eval_1 : Prop where
  h_eval_Eval_1 : rec_eval_Eval_1_k.Ok PP X
variable [H_eval_Eval_1]
theorem rec_eval_Eval_1_ok : rec_eval_Eval_1_k.Ok PP X := H_eval_Eval_1.h_eval_Eval_1
/- 14 frankpledge/eval.Eval -/
def eval_Eval_1_o_j3F : JF S94 := fun R k => S94.app (eval_Eval_1_o_j3 big R (S95.ex k .normal))
def eval_Eval_1_o_j3h : LH := lhJ S94 eval_Eval_1_o_j3F (ids [2, 4, 6, 11, 129] []) [] (ids [2, 4, 11, 12] []) 4 none
def eval_Eval_1_o_r2F : JF S95 := fun R k => S95.app (eval_Eval_1_o_r2 big R (S96.ex k .normal))
def eval_Eval_1_o_r2h : LH := lhJ S95 eval_Eval_1_o_r2F (ids [2, 4, 11, 12] []) [] (ids [4, 5] []) 4 none
def eval_Eval_1_o_l1F : LF S97 := fun R n k => S97.app (eval_Eval_1_o_l1 big R (S98.ex k (.exit 0)) (S99.ex k .ret) n)
def eval_Eval_1_o_l1G : BF S97 := fun R r k => S97.app (eval_Eval_1_o_l1B big R (S97.cur r) (S98.ex k (.exit 0)) (S99.ex k .ret))
def eval_Eval_1_o_l1h : LH := lhL S97 eval_Eval_1_o_l1F (ids [1, 2, 4, 6, 42, 43, 44] []) [] (ids [1, 2, 4, 5, 6] []) none
def eval_Eval_1_o_j0F : JF S100 := fun R k => S100.app (eval_Eval_1_o_j0 big R (S101.ex k .ret))
def eval_Eval_1_o_j0h : LH := lhJ S100 eval_Eval_1_o_j0F (ids [1, 2, 4] []) [] (ids [4, 5] []) 2 none
def eval_Eval_1_o_d : FD := ⟨B0.lean [fault_Code_k, rec_eval_Eval_1_k, fault_New_k, eval_kids_k, eval_truth_k, value_And_k, value_Or_k, value_Not_k, number_Neg_k, number_Reckon_k, number_Compare_k, fault_Wrap_k] [], 1, [(5, eval_Eval_1_o_l1h), (1000003, eval_Eval_1_o_j0h), (1000034, eval_Eval_1_o_j3h), (2000035, eval_Eval_1_o_r2h)], [], [], Tryz.f14⟩
theorem eval_Eval_1_o_cs : CsOk PP X eval_Eval_1_o_d.cx := csL bOk mixed ⟨fault_Code_ok, rec_eval_Eval_1_ok, fault_New_ok, eval_kids_ok, eval_truth_ok, value_And_ok, value_Or_ok, value_Not_ok, number_Neg_ok, number_Reckon_ok, number_Compare_ok, fault_Wrap_ok, trivial⟩ trivial (by kernel_rfl)
theorem eval_Eval_1_o_L0 : LOkD eval_Eval_1_o_d 0 := lokD eval_Eval_1_o_l1F eval_Eval_1_o_l1G eval_Eval_1_o_l1h (by kernel_rfl) (by kernel_rfl) (fun _ _ _ _ => by kernel_rfl) (fun _ _ _ => by kernel_rfl) (fun _ _ _ _ => by kernel_rfl)
theorem eval_Eval_1_o_J2 : JOkD eval_Eval_1_o_d 2 := jokD eval_Eval_1_o_j0F eval_Eval_1_o_j0h (by kernel_rfl) (by kernel_rfl) (fun _ _ _ => by kernel_rfl)
theorem eval_Eval_1_o_J58 : JOkD eval_Eval_1_o_d 58 := jokD eval_Eval_1_o_j3F eval_Eval_1_o_j3h (by kernel_rfl) (by kernel_rfl) (fun _ _ _ => by kernel_rfl)
theorem eval_Eval_1_o_J69 : JOkD eval_Eval_1_o_d 69 := rokD eval_Eval_1_o_cs eval_Eval_1_o_r2F eval_Eval_1_o_r2h (by kernel_rfl) rfl rfl (by kernel_rfl) (by kernel_rfl) [[1, 2, 4, 0, 3, 5, 6, 7, 8], [1, 2, 4, 3, 0, 5, 6, 7, 8], [1, 2, 4, 3, 5, 0, 6, 7, 8], [1, 2, 4, 3, 5, 6, 0, 7, 8], [1, 2, 4, 5, 0, 3, 6, 7, 8], [1, 2, 4, 5, 3, 0, 6, 7, 8], [1, 2, 4, 5, 3, 6, 0, 7, 8]] (by kernel_rfl) ⟨(fun _ _ _ => by kernel_rfl), (fun _ _ _ => by kernel_rfl), (fun _ _ _ => by kernel_rfl), (fun _ _ _ => by kernel_rfl), (fun _ _ _ => by kernel_rfl), (fun _ _ _ => by kernel_rfl), (fun _ _ _ => by kernel_rfl), trivial⟩
theorem eval_Eval_1_o_w : ConOk PP X 14 eval_Eval_1_o_d.raw := rawD eval_Eval_1_o_cs Tryz.func14 (n := 1) (js := [2, 58, 69]) (by kernel_rfl) ⟨eval_Eval_1_o_L0, trivial⟩ ⟨eval_Eval_1_o_J2, eval_Eval_1_o_J58, eval_Eval_1_o_J69, trivial⟩
theorem eval_Eval_1_o_T : TK eval_Eval_1_o_d.raw S102 R17 fun R => eval_Eval_1_o_cps big R := fun _ _ _ => by kernel_rfl
def eval_Eval_1_o_k : CR := kC 14 [] [] S102 R17 (eval_Eval_1_o big)
theorem eval_Eval_1_o_ok : eval_Eval_1_o_k.Ok PP X := okC eval_Eval_1_o_w _ eval_Eval_1_o_T (by kernel_rfl)
end
theorem H_eval_Eval_1_all (n : Nat) : @H_eval_Eval_1 ⟨n⟩ := by
  induction n with
  | zero => exact @H_eval_Eval_1.mk ⟨0⟩ (okC0 fun _ => by kernel_rfl)
  | succ n ih => exact @H_eval_Eval_1.mk ⟨n + 1⟩ (letI : Fuel := ⟨n⟩; letI : H_eval_Eval_1 := ih; eval_Eval_1_o_ok)
def eval_Eval_1_k : CR := letI : Fuel := ⟨big⟩; eval_Eval_1_o_k
theorem eval_Eval_1_ok : eval_Eval_1_k.Ok PP X := letI : Fuel := ⟨big⟩; letI : H_eval_Eval_1 := H_eval_Eval_1_all big; eval_Eval_1_o_ok
/-! 14 frankpledge/eval.Eval -/
def eval_Eval_j3F : JF S94 := fun R k => S94.app (eval_Eval_j3 big R (S95.ex k .normal))
def eval_Eval_j3h : LH := lhJ S94 eval_Eval_j3F (ids [2, 4, 6, 11, 129] []) [] (ids [2, 4, 11, 12] []) 4 none
def eval_Eval_r2F : JF S95 := fun R k => S95.app (eval_Eval_r2 big R (S96.ex k .normal))
def eval_Eval_r2h : LH := lhJ S95 eval_Eval_r2F (ids [2, 4, 11, 12] []) [] (ids [4, 5] []) 4 none
def eval_Eval_l1F : LF S97 := fun R n k => S97.app (eval_Eval_l1 big R (S98.ex k (.exit 0)) (S99.ex k .ret) n)
def eval_Eval_l1G : BF S97 := fun R r k => S97.app (eval_Eval_l1B big R (S97.cur r) (S98.ex k (.exit 0)) (S99.ex k .ret))
def eval_Eval_l1h : LH := lhL S97 eval_Eval_l1F (ids [1, 2, 4, 6, 42, 43, 44] []) [] (ids [1, 2, 4, 5, 6] []) none
def eval_Eval_j0F : JF S100 := fun R k => S100.app (eval_Eval_j0 big R (S101.ex k .ret))
def eval_Eval_j0h : LH := lhJ S100 eval_Eval_j0F (ids [1, 2, 4] []) [] (ids [4, 5] []) 2 none
def eval_Eval_d : FD := ⟨B0.lean [fault_Code_k, eval_Eval_1_k, fault_New_k, eval_kids_k, eval_truth_k, value_And_k, value_Or_k, value_Not_k, number_Neg_k, number_Reckon_k, number_Compare_k, fault_Wrap_k] [], 1, [(5, eval_Eval_l1h), (1000003, eval_Eval_j0h), (1000034, eval_Eval_j3h), (2000035, eval_Eval_r2h)], [], [], Tryz.f14⟩
theorem eval_Eval_cs : CsOk PP X eval_Eval_d.cx := csL bOk mixed ⟨fault_Code_ok, eval_Eval_1_ok, fault_New_ok, eval_kids_ok, eval_truth_ok, value_And_ok, value_Or_ok, value_Not_ok, number_Neg_ok, number_Reckon_ok, number_Compare_ok, fault_Wrap_ok, trivial⟩ trivial (by kernel_rfl)
theorem eval_Eval_L0 : LOkD eval_Eval_d 0 := lokD eval_Eval_l1F eval_Eval_l1G eval_Eval_l1h (by kernel_rfl) (by kernel_rfl) (fun _ _ _ _ => by kernel_rfl) (fun _ _ _ => by kernel_rfl) (fun _ _ _ _ => by kernel_rfl)
theorem eval_Eval_J2 : JOkD eval_Eval_d 2 := jokD eval_Eval_j0F eval_Eval_j0h (by kernel_rfl) (by kernel_rfl) (fun _ _ _ => by kernel_rfl)
theorem eval_Eval_J58 : JOkD eval_Eval_d 58 := jokD eval_Eval_j3F eval_Eval_j3h (by kernel_rfl) (by kernel_rfl) (fun _ _ _ => by kernel_rfl)
theorem eval_Eval_J69 : JOkD eval_Eval_d 69 := rokD eval_Eval_cs eval_Eval_r2F eval_Eval_r2h (by kernel_rfl) rfl rfl (by kernel_rfl) (by kernel_rfl) [[1, 2, 4, 0, 3, 5, 6, 7, 8], [1, 2, 4, 3, 0, 5, 6, 7, 8], [1, 2, 4, 3, 5, 0, 6, 7, 8], [1, 2, 4, 3, 5, 6, 0, 7, 8], [1, 2, 4, 5, 0, 3, 6, 7, 8], [1, 2, 4, 5, 3, 0, 6, 7, 8], [1, 2, 4, 5, 3, 6, 0, 7, 8]] (by kernel_rfl) ⟨(fun _ _ _ => by kernel_rfl), (fun _ _ _ => by kernel_rfl), (fun _ _ _ => by kernel_rfl), (fun _ _ _ => by kernel_rfl), (fun _ _ _ => by kernel_rfl), (fun _ _ _ => by kernel_rfl), (fun _ _ _ => by kernel_rfl), trivial⟩
theorem eval_Eval_w : ConOk PP X 14 eval_Eval_d.raw := rawD eval_Eval_cs Tryz.func14 (n := 1) (js := [2, 58, 69]) (by kernel_rfl) ⟨eval_Eval_L0, trivial⟩ ⟨eval_Eval_J2, eval_Eval_J58, eval_Eval_J69, trivial⟩
theorem eval_Eval_T : TK eval_Eval_d.raw S102 R17 fun R => eval_Eval_cps big R := fun _ _ _ => by kernel_rfl
def eval_Eval_k : CR := kC 14 [] [.id, .ro Q3] S102 R17 (eval_Eval big)
theorem eval_Eval_ok : eval_Eval_k.Ok PP X := okC eval_Eval_w _ eval_Eval_T (by kernel_rfl)
/-! 62 frankpledge/eval.of -/
def eval_of_d : FD := ⟨B0.lean [] [], 1, [], [], [], Tryz.f62⟩
theorem eval_of_cs : CsOk PP X eval_of_d.cx := csL bOk mixed trivial trivial (by kernel_rfl)
theorem eval_of_w : ConOk PP X 62 eval_of_d.raw := rawD eval_of_cs Tryz.func62 (n := 0) (js := []) (by kernel_rfl) trivial trivial
theorem eval_of_T : TK eval_of_d.raw S11 R21 fun R => eval_of_cps big R := fun _ _ _ => by kernel_rfl
def eval_of_k : CR := kC 62 [] [] S11 R21 (eval_of big)
theorem eval_of_ok : eval_of_k.Ok PP X := okC eval_of_w _ eval_of_T (by kernel_rfl)
def bits_Add64_k : CR := kC 91 [] [] S73 R19 (bits_Add64 big)
theorem bits_Add64_ok : bits_Add64_k.Ok PP X := okC shelf_Add64_91 (fun R => bits_Add64_cps big R) (fun _ _ _ => by kernel_rfl) (by kernel_rfl)
/-! 61 (frankpledge/eval.wide).plus -/
def eval_wide_plus_d : FD := ⟨B0.lean [bits_Add64_k] [], 1, [], [], [], Tryz.f61⟩
theorem eval_wide_plus_cs : CsOk PP X eval_wide_plus_d.cx := csL bOk mixed ⟨bits_Add64_ok, trivial⟩ trivial (by kernel_rfl)
theorem eval_wide_plus_w : ConOk PP X 61 eval_wide_plus_d.raw := rawD eval_wide_plus_cs Tryz.func61 (n := 0) (js := []) (by kernel_rfl) trivial trivial
theorem eval_wide_plus_T : TK eval_wide_plus_d.raw S103 R21 fun R => eval_wide_plus_cps big R := fun _ _ _ => by kernel_rfl
def eval_wide_plus_k : CR := kC 61 [] [] S103 R21 (eval_wide_plus big)
theorem eval_wide_plus_ok : eval_wide_plus_k.Ok PP X := okC eval_wide_plus_w _ eval_wide_plus_T (by kernel_rfl)
/-! 63 (frankpledge/eval.wide).times -/
def eval_wide_times_d : FD := ⟨B0.lean [bits_Mul64_k] [], 1, [], [], [], Tryz.f63⟩
theorem eval_wide_times_cs : CsOk PP X eval_wide_times_d.cx := csL bOk mixed ⟨bits_Mul64_ok, trivial⟩ trivial (by kernel_rfl)
theorem eval_wide_times_w : ConOk PP X 63 eval_wide_times_d.raw := rawD eval_wide_times_cs Tryz.func63 (n := 0) (js := []) (by kernel_rfl) trivial trivial
theorem eval_wide_times_T : TK eval_wide_times_d.raw S104 R21 fun R => eval_wide_times_cps big R := fun _ _ _ => by kernel_rfl
def eval_wide_times_k : CR := kC 63 [] [] S104 R21 (eval_wide_times big)
theorem eval_wide_times_ok : eval_wide_times_k.Ok PP X := okC eval_wide_times_w _ eval_wide_times_T (by kernel_rfl)
/-! 64 (frankpledge/eval.wide).fits -/
def eval_wide_fits_d : FD := ⟨B0.lean [] [], 1, [], [], [], Tryz.f64⟩
theorem eval_wide_fits_cs : CsOk PP X eval_wide_fits_d.cx := csL bOk mixed trivial trivial (by kernel_rfl)
theorem eval_wide_fits_w : ConOk PP X 64 eval_wide_fits_d.raw := rawD eval_wide_fits_cs Tryz.func64 (n := 0) (js := []) (by kernel_rfl) trivial trivial
theorem eval_wide_fits_T : TK eval_wide_fits_d.raw S105 R20 fun R => eval_wide_fits_cps big R := fun _ _ _ => by kernel_rfl
def eval_wide_fits_k : CR := kC 64 [] [] S105 R20 (eval_wide_fits big)
theorem eval_wide_fits_ok : eval_wide_fits_k.Ok PP X := okC eval_wide_fits_w _ eval_wide_fits_T (by kernel_rfl)
/-! 27 frankpledge/eval.sum -/
def eval_sum_j1F : JF S106 := fun R k => S106.app (eval_sum_j1 big R (S107.ex k .ret))
def eval_sum_j1h : LH := lhJ S106 eval_sum_j1F (ids [2, 4, 6] []) [] (ids [2, 3] []) 4 none
def eval_sum_l0F : LF S108 := fun R n k => S108.app (eval_sum_l0 big R (S109.ex k (.exit 0)) (S110.ex k .ret) n)
def eval_sum_l0G : BF S108 := fun R r k => S108.app (eval_sum_l0B big R (S108.cur r) (S109.ex k (.exit 0)) (S110.ex k .ret))
def eval_sum_l0h : LH := lhL S108 eval_sum_l0F (ids [2, 4, 5, 6, 17, 18, 19] []) [] (ids [2, 3, 4, 5, 6] []) none
def eval_sum_d : FD := ⟨B0.lean [value_Right_k, fault_New_k, eval_wide_plus_k, eval_of_k, eval_wide_times_k, eval_wide_fits_k] [], 1, [(6, eval_sum_l0h), (1000021, eval_sum_j1h)], [], [], Tryz.f27⟩
theorem eval_sum_cs : CsOk PP X eval_sum_d.cx := csL bOk mixed ⟨value_Right_ok, fault_New_ok, eval_wide_plus_ok, eval_of_ok, eval_wide_times_ok, eval_wide_fits_ok, trivial⟩ trivial (by kernel_rfl)
theorem eval_sum_L0 : LOkD eval_sum_d 0 := lokD eval_sum_l0F eval_sum_l0G eval_sum_l0h (by kernel_rfl) (by kernel_rfl) (fun _ _ _ _ => by kernel_rfl) (fun _ _ _ => by kernel_rfl) (fun _ _ _ _ => by kernel_rfl)
theorem eval_sum_J40 : JOkD eval_sum_d 40 := jokD eval_sum_j1F eval_sum_j1h (by kernel_rfl) (by kernel_rfl) (fun _ _ _ => by kernel_rfl)
theorem eval_sum_w : ConOk PP X 27 eval_sum_d.raw := rawD eval_sum_cs Tryz.func27 (n := 1) (js := [40]) (by kernel_rfl) ⟨eval_sum_L0, trivial⟩ ⟨eval_sum_J40, trivial⟩
theorem eval_sum_T : TK eval_sum_d.raw S111 R17 fun R => eval_sum_cps big R := fun _ _ _ => by kernel_rfl
def eval_sum_k : CR := kC 27 [] [] S111 R17 (eval_sum big)
theorem eval_sum_ok : eval_sum_k.Ok PP X := okC eval_sum_w _ eval_sum_T (by kernel_rfl)
/-! 11 frankpledge/eval.Fold -/
def eval_Fold_j2F : JF S112 := fun R k => S112.app (eval_Fold_j2 big R (S113.ex k .normal) (S114.ex k .ret))
def eval_Fold_j2h : LH := lhJ S112 eval_Fold_j2F (ids [0, 4, 6, 7, 8, 9, 10, 27, 28, 29] []) [] (ids [0, 4, 5, 6, 7, 8, 27, 28, 29] []) 3 none
def eval_Fold_l1F : LF S115 := fun R n k => S115.app (eval_Fold_l1 big R (S116.ex k (.exit 5)) (S117.ex k .ret) n)
def eval_Fold_l1G : BF S115 := fun R r k => S115.app (eval_Fold_l1B big R (S115.cur r) (S116.ex k (.exit 5)) (S117.ex k .ret))
def eval_Fold_l1h : LH := lhL S115 eval_Fold_l1F (ids [0, 4, 6, 7, 8, 27, 28, 29] []) [] (ids [0, 4, 5, 7, 8] []) none
def eval_Fold_j0F : JF S118 := fun R k => S118.app (eval_Fold_j0 big R (S119.ex k .ret))
def eval_Fold_j0h : LH := lhJ S118 eval_Fold_j0F (ids [0, 1, 4, 6] []) [] (ids [4, 5] []) 1 none
def eval_Fold_d : FD := ⟨B0.lean [value_Right_k, eval_sum_k, fault_New_k, number_Sign_k] [], 1, [(13, eval_Fold_l1h), (1000010, eval_Fold_j0h), (1000021, eval_Fold_j2h)], [], [], Tryz.f11⟩
theorem eval_Fold_cs : CsOk PP X eval_Fold_d.cx := csL bOk mixed ⟨value_Right_ok, eval_sum_ok, fault_New_ok, number_Sign_ok, trivial⟩ trivial (by kernel_rfl)
theorem eval_Fold_L0 : LOkD eval_Fold_d 0 := lokD eval_Fold_l1F eval_Fold_l1G eval_Fold_l1h (by kernel_rfl) (by kernel_rfl) (fun _ _ _ _ => by kernel_rfl) (fun _ _ _ => by kernel_rfl) (fun _ _ _ _ => by kernel_rfl)
theorem eval_Fold_J4 : JOkD eval_Fold_d 4 := jokD eval_Fold_j0F eval_Fold_j0h (by kernel_rfl) (by kernel_rfl) (fun _ _ _ => by kernel_rfl)
theorem eval_Fold_J52 : JOkD eval_Fold_d 52 := jokD eval_Fold_j2F eval_Fold_j2h (by kernel_rfl) (by kernel_rfl) (fun _ _ _ => by kernel_rfl)
theorem eval_Fold_w : ConOk PP X 11 eval_Fold_d.raw := rawD eval_Fold_cs Tryz.func11 (n := 1) (js := [4, 52]) (by kernel_rfl) ⟨eval_Fold_L0, trivial⟩ ⟨eval_Fold_J4, eval_Fold_J52, trivial⟩
theorem eval_Fold_T : TK eval_Fold_d.raw S120 R17 fun R => eval_Fold_cps big R := fun _ _ _ => by kernel_rfl
def eval_Fold_k : CR := kC 11 [] [] S120 R17 (eval_Fold big)
theorem eval_Fold_ok : eval_Fold_k.Ok PP X := okC eval_Fold_w _ eval_Fold_T (by kernel_rfl)
/-! 10 frankpledge/frankpledgelaw20.alive -/
def law20_alive_d : FD := ⟨B0.lean [eval_Fold_k, parse_Expression_k, eval_Eval_k] [], 1, [], [], [], Tryz.f10⟩
theorem law20_alive_cs : CsOk PP X law20_alive_d.cx := csL bOk mixed ⟨eval_Fold_ok, parse_Expression_ok, eval_Eval_ok, trivial⟩ trivial (by kernel_rfl)
theorem law20_alive_w : ConOk PP X 10 law20_alive_d.raw := rawD law20_alive_cs Tryz.func10 (n := 0) (js := []) (by kernel_rfl) trivial trivial
theorem law20_alive_T : TK law20_alive_d.raw S121 R4 fun R => law20_alive_cps big R := fun _ _ _ => by kernel_rfl
def law20_alive_k : CR := kC 10 [] [] S121 R4 (law20_alive big)
theorem law20_alive_ok : law20_alive_k.Ok PP X := okC law20_alive_w _ law20_alive_T (by kernel_rfl)
/-! 3 frankpledge/frankpledgelaw20.EvalOrder -/
def law20_EvalOrder_j6F : JF S122 := fun R k => S122.app (law20_EvalOrder_j6 big R (S123.ex k .normal) (S124.ex k .ret))
def law20_EvalOrder_j6h : LH := lhJ S122 law20_EvalOrder_j6F (ids [0, 2, 8, 9, 11, 12, 13, 16, 18, 173] []) [] (ids [0, 2, 6, 8, 9, 11] []) 4 none
def law20_EvalOrder_j5F : JF S125 := fun R k => S125.app (law20_EvalOrder_j5 big R (S123.ex k .normal) (S124.ex k .ret))
def law20_EvalOrder_j5h : LH := lhJ S125 law20_EvalOrder_j5F (ids [0, 2, 8, 9, 11, 12, 13, 16, 17, 18, 19] []) [] (ids [0, 2, 6, 8, 9, 11] []) 4 none
def law20_EvalOrder_j4F : JF S125 := fun R k => S125.app (law20_EvalOrder_j4 big R (S123.ex k .normal) (S124.ex k .ret))
def law20_EvalOrder_j4h : LH := lhJ S125 law20_EvalOrder_j4F (ids [0, 2, 8, 9, 11, 12, 13, 16, 17, 18, 19] []) [] (ids [0, 2, 6, 8, 9, 11] []) 4 none
def law20_EvalOrder_l3F : LF S126 := fun R n k => S126.app (law20_EvalOrder_l3 big R (S127.ex k (.exit 2)) (S128.ex k .ret) n)
def law20_EvalOrder_l3G : BF S126 := fun R r k => S126.app (law20_EvalOrder_l3B big R (S126.cur r) (S127.ex k (.exit 2)) (S128.ex k .ret))
def law20_EvalOrder_l3h : LH := lhL S126 law20_EvalOrder_l3F (ids [0, 2, 8, 9, 11] []) [] (ids [6] []) none
def law20_EvalOrder_j2F : JF S129 := fun R k => S129.app (law20_EvalOrder_j2 big R (S128.ex k .ret))
def law20_EvalOrder_j2h : LH := lhJ S129 law20_EvalOrder_j2F (ids [0, 2, 8, 9] []) [] (ids [6] []) 0 none
def law20_EvalOrder_l1F : LF S130 := fun R n k => S130.app (law20_EvalOrder_l1 big R (S129.ex k (.exit 0)) n)
def law20_EvalOrder_l1G : BF S130 := fun R r k => S130.app (law20_EvalOrder_l1B big R (S130.cur r) (S129.ex k (.exit 0)))
def law20_EvalOrder_l1h : LH := lhL S130 law20_EvalOrder_l1F (ids [0, 2, 7, 10] [(8, .own Q3), (9, .own Q3)]) [] (ids [0, 2, 8, 9] []) none
def law20_EvalOrder_j0F : JF S131 := fun R k => S131.app (law20_EvalOrder_j0 big R (S128.ex k .ret))
def law20_EvalOrder_j0h : LH := lhJ S131 law20_EvalOrder_j0F (ids [0, 2, 7] []) [] (ids [6] []) 0 none
def law20_EvalOrder_d : FD := ⟨B0.lean [law20_alive_k, eval_Fold_k, fault_Code_k] [], 1, [(8, law20_EvalOrder_l1h), (16, law20_EvalOrder_l3h), (1000006, law20_EvalOrder_j0h), (1000014, law20_EvalOrder_j2h), (1000024, law20_EvalOrder_j4h), (1000026, law20_EvalOrder_j5h), (1000027, law20_EvalOrder_j6h)], [], [], Tryz.f3⟩
theorem law20_EvalOrder_cs : CsOk PP X law20_EvalOrder_d.cx := csL bOk mixed ⟨law20_alive_ok, eval_Fold_ok, fault_Code_ok, trivial⟩ trivial (by kernel_rfl)
theorem law20_EvalOrder_L0 : LOkD law20_EvalOrder_d 0 := lokD law20_EvalOrder_l1F law20_EvalOrder_l1G law20_EvalOrder_l1h (by kernel_rfl) (by kernel_rfl) (fun _ _ _ _ => by kernel_rfl) (fun _ _ _ => by kernel_rfl) (fun _ _ _ _ => by kernel_rfl)
theorem law20_EvalOrder_L1 : LOkD law20_EvalOrder_d 1 := lokD law20_EvalOrder_l3F law20_EvalOrder_l3G law20_EvalOrder_l3h (by kernel_rfl) (by kernel_rfl) (fun _ _ _ _ => by kernel_rfl) (fun _ _ _ => by kernel_rfl) (fun _ _ _ _ => by kernel_rfl)
theorem law20_EvalOrder_J9 : JOkD law20_EvalOrder_d 9 := jokD law20_EvalOrder_j0F law20_EvalOrder_j0h (by kernel_rfl) (by kernel_rfl) (fun _ _ _ => by kernel_rfl)
theorem law20_EvalOrder_J26 : JOkD law20_EvalOrder_d 26 := jokD law20_EvalOrder_j2F law20_EvalOrder_j2h (by kernel_rfl) (by kernel_rfl) (fun _ _ _ => by kernel_rfl)
theorem law20_EvalOrder_J47 : JOkD law20_EvalOrder_d 47 := jokD law20_EvalOrder_j4F law20_EvalOrder_j4h (by kernel_rfl) (by kernel_rfl) (fun _ _ _ => by kernel_rfl)
theorem law20_EvalOrder_J52 : JOkD law20_EvalOrder_d 52 := jokD law20_EvalOrder_j5F law20_EvalOrder_j5h (by kernel_rfl) (by kernel_rfl) (fun _ _ _ => by kernel_rfl)
theorem law20_EvalOrder_J57 : JOkD law20_EvalOrder_d 57 := jokD law20_EvalOrder_j6F law20_EvalOrder_j6h (by kernel_rfl) (by kernel_rfl) (fun _ _ _ => by kernel_rfl)
theorem law20_EvalOrder_w : ConOk PP X 3 law20_EvalOrder_d.raw := rawD law20_EvalOrder_cs Tryz.func3 (n := 2) (js := [9, 26, 47, 52, 57]) (by kernel_rfl) ⟨law20_EvalOrder_L0, law20_EvalOrder_L1, trivial⟩ ⟨law20_EvalOrder_J9, law20_EvalOrder_J26, law20_EvalOrder_J47, law20_EvalOrder_J52, law20_EvalOrder_J57, trivial⟩
theorem law20_EvalOrder_T : TK law20_EvalOrder_d.raw S132 R4 fun R => law20_EvalOrder_cps big R := fun _ _ _ => by kernel_rfl
def law20_EvalOrder_k : CR := kC 3 [] [] S132 R4 (law20_EvalOrder big)
theorem law20_EvalOrder_ok : law20_EvalOrder_k.Ok PP X := okC law20_EvalOrder_w _ law20_EvalOrder_T (by kernel_rfl)
/-! The functions about law20_numbered: they call one another. -/
set_option warn.classDefReducibility false
set_option linter.unusedSectionVars false
section
variable [Fuel]
def Z_law20_numbered_inst : Z_law20_numbered := Z_law20_numbered_at big Fuel.n
attribute [local instance] Z_law20_numbered_inst
def rec_law20_numbered_k : CR := kC 15 [] [] S137 R22 Z_law20_numbered.r_law20_numbered
class H_law20_numbered : Prop where
  h_law20_numbered : rec_law20_numbered_k.Ok PP X
variable [H_law20_numbered]
theorem rec_law20_numbered_ok : rec_law20_numbered_k.Ok PP X := H_law20_numbered.h_law20_numbered
/- 15 frankpledge/frankpledgelaw20.numbered -/
def law20_numbered_o_l1F : LF S133 := fun R n k => S133.app (law20_numbered_o_l1 big R (S134.ex k (.exit 0)) n)
def law20_numbered_o_l1G : BF S133 := fun R r k => S133.app (law20_numbered_o_l1B big R (S133.cur r) (S134.ex k (.exit 0)))
def law20_numbered_o_l1h : LH := lhL S133 law20_numbered_o_l1F (ids [1, 2, 4, 6] [(5, .own .ex)]) [] (ids [2, 4, 5] []) none
def law20_numbered_o_j0F : JF S135 := fun R k => S135.app (law20_numbered_o_j0 big R (S136.ex k .ret))
def law20_numbered_o_j0h : LH := lhJ S135 law20_numbered_o_j0F (ids [1, 2, 4] []) [] (ids [4] []) 2 none
def law20_numbered_o_d : FD := ⟨B0.lean [rec_law20_numbered_k] [], 1, [(5, law20_numbered_o_l1h), (1000003, law20_numbered_o_j0h)], [], [], Tryz.f15⟩
theorem law20_numbered_o_cs : CsOk PP X law20_numbered_o_d.cx := csL bOk mixed ⟨rec_law20_numbered_ok, trivial⟩ trivial (by kernel_rfl)
theorem law20_numbered_o_L0 : LOkD law20_numbered_o_d 0 := lokD law20_numbered_o_l1F law20_numbered_o_l1G law20_numbered_o_l1h (by kernel_rfl) (by kernel_rfl) (fun _ _ _ _ => by kernel_rfl) (fun _ _ _ => by kernel_rfl) (fun _ _ _ _ => by kernel_rfl)
theorem law20_numbered_o_J2 : JOkD law20_numbered_o_d 2 := jokD law20_numbered_o_j0F law20_numbered_o_j0h (by kernel_rfl) (by kernel_rfl) (fun _ _ _ => by kernel_rfl)
theorem law20_numbered_o_w : ConOk PP X 15 law20_numbered_o_d.raw := rawD law20_numbered_o_cs Tryz.func15 (n := 1) (js := [2]) (by kernel_rfl) ⟨law20_numbered_o_L0, trivial⟩ ⟨law20_numbered_o_J2, trivial⟩
theorem law20_numbered_o_T : TK law20_numbered_o_d.raw S137 R22 fun R => law20_numbered_o_cps big R := fun _ _ _ => by kernel_rfl
def law20_numbered_o_k : CR := kC 15 [] [] S137 R22 (law20_numbered_o big)
theorem law20_numbered_o_ok : law20_numbered_o_k.Ok PP X := okC law20_numbered_o_w _ law20_numbered_o_T (by kernel_rfl)
end
theorem H_law20_numbered_all (n : Nat) : @H_law20_numbered ⟨n⟩ := by
  induction n with
  | zero => exact @H_law20_numbered.mk ⟨0⟩ (okC0 fun _ => by kernel_rfl)
  | succ n ih => exact @H_law20_numbered.mk ⟨n + 1⟩ (letI : Fuel := ⟨n⟩; letI : H_law20_numbered := ih; law20_numbered_o_ok)
def law20_numbered_k : CR := letI : Fuel := ⟨big⟩; law20_numbered_o_k
theorem law20_numbered_ok : law20_numbered_k.Ok PP X := letI : Fuel := ⟨big⟩; letI : H_law20_numbered := H_law20_numbered_all big; law20_numbered_o_ok
/-! 4 frankpledge/frankpledgelaw20.EvalTruths -/
def law20_EvalTruths_l1F : LF S138 := fun R n k => S138.app (law20_EvalTruths_l1 big R (S139.ex k (.exit 2)) (S140.ex k .ret) n)
def law20_EvalTruths_l1G : BF S138 := fun R r k => S138.app (law20_EvalTruths_l1B big R (S138.cur r) (S139.ex k (.exit 2)) (S140.ex k .ret))
def law20_EvalTruths_l1h : LH := lhL S138 law20_EvalTruths_l1F (ids [1, 3, 6, 8] [(7, .own Q3)]) [] (ids [1, 2, 7] []) none
def law20_EvalTruths_l0F : LF S141 := fun R n k => S141.app (law20_EvalTruths_l0 big R (S142.ex k (.exit 0)) n)
def law20_EvalTruths_l0G : BF S141 := fun R r k => S141.app (law20_EvalTruths_l0B big R (S141.cur r) (S142.ex k (.exit 0)))
def law20_EvalTruths_l0h : LH := lhL S141 law20_EvalTruths_l0F (ids [1, 4] [(3, .own Q3)]) [] (ids [1, 3] []) none
def law20_EvalTruths_d : FD := ⟨B0.lean [law20_alive_k, parse_Expression_k, eval_Eval_1_k, law20_numbered_k] [], 1, [(3, law20_EvalTruths_l0h), (12, law20_EvalTruths_l1h)], [], [], Tryz.f4⟩
theorem law20_EvalTruths_cs : CsOk PP X law20_EvalTruths_d.cx := csL bOk mixed ⟨law20_alive_ok, parse_Expression_ok, eval_Eval_1_ok, law20_numbered_ok, trivial⟩ trivial (by kernel_rfl)
theorem law20_EvalTruths_L0 : LOkD law20_EvalTruths_d 0 := lokD law20_EvalTruths_l0F law20_EvalTruths_l0G law20_EvalTruths_l0h (by kernel_rfl) (by kernel_rfl) (fun _ _ _ _ => by kernel_rfl) (fun _ _ _ => by kernel_rfl) (fun _ _ _ _ => by kernel_rfl)
theorem law20_EvalTruths_L1 : LOkD law20_EvalTruths_d 1 := lokD law20_EvalTruths_l1F law20_EvalTruths_l1G law20_EvalTruths_l1h (by kernel_rfl) (by kernel_rfl) (fun _ _ _ _ => by kernel_rfl) (fun _ _ _ => by kernel_rfl) (fun _ _ _ _ => by kernel_rfl)
theorem law20_EvalTruths_w : ConOk PP X 4 law20_EvalTruths_d.raw := rawD law20_EvalTruths_cs Tryz.func4 (n := 2) (js := []) (by kernel_rfl) ⟨law20_EvalTruths_L0, law20_EvalTruths_L1, trivial⟩ trivial
theorem law20_EvalTruths_T : TK law20_EvalTruths_d.raw S143 R4 fun R => law20_EvalTruths_cps big R := fun _ _ _ => by kernel_rfl
def law20_EvalTruths_k : CR := kC 4 [] [] S143 R4 (law20_EvalTruths big)
theorem law20_EvalTruths_ok : law20_EvalTruths_k.Ok PP X := okC law20_EvalTruths_w _ law20_EvalTruths_T (by kernel_rfl)
/-! 16 frankpledge/frankpledgelaw20.few -/
def law20_few_l0F : LF S144 := fun R n k => S144.app (law20_few_l0 big R (S145.ex k (.exit 0)) (S146.ex k .ret) n)
def law20_few_l0G : BF S144 := fun R r k => S144.app (law20_few_l0B big R (S144.cur r) (S145.ex k (.exit 0)) (S146.ex k .ret))
def law20_few_l0h : LH := lhL S144 law20_few_l0F (ids [0, 3] []) [] (ids [2] []) none
def law20_few_d : FD := ⟨B0.lean [] [], 1, [(2, law20_few_l0h)], [], [], Tryz.f16⟩
theorem law20_few_cs : CsOk PP X law20_few_d.cx := csL bOk mixed trivial trivial (by kernel_rfl)
theorem law20_few_L0 : LOkD law20_few_d 0 := lokD law20_few_l0F law20_few_l0G law20_few_l0h (by kernel_rfl) (by kernel_rfl) (fun _ _ _ _ => by kernel_rfl) (fun _ _ _ => by kernel_rfl) (fun _ _ _ _ => by kernel_rfl)
theorem law20_few_w : ConOk PP X 16 law20_few_d.raw := rawD law20_few_cs Tryz.func16 (n := 1) (js := []) (by kernel_rfl) ⟨law20_few_L0, trivial⟩ trivial
theorem law20_few_T : TK law20_few_d.raw S111 R4 fun R => law20_few_cps big R := fun _ _ _ => by kernel_rfl
def law20_few_k : CR := kC 16 [] [] S111 R4 (law20_few big)
theorem law20_few_ok : law20_few_k.Ok PP X := okC law20_few_w _ law20_few_T (by kernel_rfl)
/-! The functions about law20_greatest: they call one another. -/
set_option warn.classDefReducibility false
set_option linter.unusedSectionVars false
section
variable [Fuel]
def Z_law20_greatest_inst : Z_law20_greatest := Z_law20_greatest_at big Fuel.n
attribute [local instance] Z_law20_greatest_inst
def rec_law20_greatest_k : CR := kC 17 [] [] S151 R1 Z_law20_greatest.r_law20_greatest
class H_law20_greatest : Prop where
  h_law20_greatest : rec_law20_greatest_k.Ok PP X
variable [H_law20_greatest]
theorem rec_law20_greatest_ok : rec_law20_greatest_k.Ok PP X := H_law20_greatest.h_law20_greatest
/- 17 frankpledge/frankpledgelaw20.greatest -/
def law20_greatest_o_l1F : LF S147 := fun R n k => S147.app (law20_greatest_o_l1 big R (S148.ex k (.exit 0)) n)
def law20_greatest_o_l1G : BF S147 := fun R r k => S147.app (law20_greatest_o_l1B big R (S147.cur r) (S148.ex k (.exit 0)))
def law20_greatest_o_l1h : LH := lhL S147 law20_greatest_o_l1F (ids [1, 3, 4] []) [] (ids [3] []) none
def law20_greatest_o_j0F : JF S149 := fun R k => S149.app (law20_greatest_o_j0 big R (S150.ex k .ret))
def law20_greatest_o_j0h : LH := lhJ S149 law20_greatest_o_j0F (ids [1, 3] []) [] (ids [2] []) 1 none
def law20_greatest_o_d : FD := ⟨B0.lean [rec_law20_greatest_k] [], 1, [(5, law20_greatest_o_l1h), (1000004, law20_greatest_o_j0h)], [], [], Tryz.f17⟩
theorem law20_greatest_o_cs : CsOk PP X law20_greatest_o_d.cx := csL bOk mixed ⟨rec_law20_greatest_ok, trivial⟩ trivial (by kernel_rfl)
theorem law20_greatest_o_L0 : LOkD law20_greatest_o_d 0 := lokD law20_greatest_o_l1F law20_greatest_o_l1G law20_greatest_o_l1h (by kernel_rfl) (by kernel_rfl) (fun _ _ _ _ => by kernel_rfl) (fun _ _ _ => by kernel_rfl) (fun _ _ _ _ => by kernel_rfl)
theorem law20_greatest_o_J4 : JOkD law20_greatest_o_d 4 := jokD law20_greatest_o_j0F law20_greatest_o_j0h (by kernel_rfl) (by kernel_rfl) (fun _ _ _ => by kernel_rfl)
theorem law20_greatest_o_w : ConOk PP X 17 law20_greatest_o_d.raw := rawD law20_greatest_o_cs Tryz.func17 (n := 1) (js := [4]) (by kernel_rfl) ⟨law20_greatest_o_L0, trivial⟩ ⟨law20_greatest_o_J4, trivial⟩
theorem law20_greatest_o_T : TK law20_greatest_o_d.raw S151 R1 fun R => law20_greatest_o_cps big R := fun _ _ _ => by kernel_rfl
def law20_greatest_o_k : CR := kC 17 [] [] S151 R1 (law20_greatest_o big)
theorem law20_greatest_o_ok : law20_greatest_o_k.Ok PP X := okC law20_greatest_o_w _ law20_greatest_o_T (by kernel_rfl)
end
theorem H_law20_greatest_all (n : Nat) : @H_law20_greatest ⟨n⟩ := by
  induction n with
  | zero => exact @H_law20_greatest.mk ⟨0⟩ (okC0 fun _ => by kernel_rfl)
  | succ n ih => exact @H_law20_greatest.mk ⟨n + 1⟩ (letI : Fuel := ⟨n⟩; letI : H_law20_greatest := ih; law20_greatest_o_ok)
def law20_greatest_k : CR := letI : Fuel := ⟨big⟩; law20_greatest_o_k
theorem law20_greatest_ok : law20_greatest_k.Ok PP X := letI : Fuel := ⟨big⟩; letI : H_law20_greatest := H_law20_greatest_all big; law20_greatest_o_ok
/-! 5 frankpledge/frankpledgelaw20.EvalConst -/
def law20_EvalConst_r1F : JF S152 := fun R k => S152.app (law20_EvalConst_r1 big R (S153.ex k .normal))
def law20_EvalConst_r1h : LH := lhJ S152 law20_EvalConst_r1F (ids [1, 2, 7, 11, 12, 13] []) [] (ids [12, 13, 14, 15] []) 2 none
def law20_EvalConst_j0F : JF S154 := fun R k => S154.app (law20_EvalConst_j0 big R (S155.ex k .ret))
def law20_EvalConst_j0h : LH := lhJ S154 law20_EvalConst_j0F (ids [1, 2, 7] []) [] (ids [6] []) 1 none
def law20_EvalConst_d : FD := ⟨B0.lean [law20_alive_k, fault_Code_k, parse_Expression_k, eval_Eval_1_k, law20_numbered_k, law20_few_k, law20_greatest_k, fault_At_k] [], 1, [(1000006, law20_EvalConst_j0h), (2000011, law20_EvalConst_r1h)], [], [], Tryz.f5⟩
theorem law20_EvalConst_cs : CsOk PP X law20_EvalConst_d.cx := csL bOk mixed ⟨law20_alive_ok, fault_Code_ok, parse_Expression_ok, eval_Eval_1_ok, law20_numbered_ok, law20_few_ok, law20_greatest_ok, fault_At_ok, trivial⟩ trivial (by kernel_rfl)
theorem law20_EvalConst_J8 : JOkD law20_EvalConst_d 8 := jokD law20_EvalConst_j0F law20_EvalConst_j0h (by kernel_rfl) (by kernel_rfl) (fun _ _ _ => by kernel_rfl)
theorem law20_EvalConst_J25 : JOkD law20_EvalConst_d 25 := rokD law20_EvalConst_cs law20_EvalConst_r1F law20_EvalConst_r1h (by kernel_rfl) rfl rfl (by kernel_rfl) (by kernel_rfl) [[0, 1, 2, 3, 4, 5, 6, 7, 8, 9, 10, 13, 11, 12, 14, 15], [0, 1, 2, 3, 4, 5, 6, 7, 8, 9, 10, 13, 12, 11, 14, 15], [0, 1, 2, 3, 4, 5, 6, 7, 8, 13, 9, 10, 11, 12, 14, 15], [0, 1, 2, 3, 4, 5, 6, 7, 8, 13, 9, 10, 12, 11, 14, 15]] (by kernel_rfl) ⟨(fun _ _ _ => by kernel_rfl), (fun _ _ _ => by kernel_rfl), (fun _ _ _ => by kernel_rfl), (fun _ _ _ => by kernel_rfl), trivial⟩
theorem law20_EvalConst_w : ConOk PP X 5 law20_EvalConst_d.raw := rawD law20_EvalConst_cs Tryz.func5 (n := 0) (js := [8, 25]) (by kernel_rfl) trivial ⟨law20_EvalConst_J8, law20_EvalConst_J25, trivial⟩
theorem law20_EvalConst_T : TK law20_EvalConst_d.raw S156 R4 fun R => law20_EvalConst_cps big R := fun _ _ _ => by kernel_rfl
def law20_EvalConst_k : CR := kC 5 [] [] S156 R4 (law20_EvalConst big)
theorem law20_EvalConst_ok : law20_EvalConst_k.Ok PP X := okC law20_EvalConst_w _ law20_EvalConst_T (by kernel_rfl)

end
end Go.Proofs.YtiloinbeojampaaGreatDoor.E
