/-
  The walk: the code comes to the pure functions (printed by a program).
  Conditions: those that each statement prints, and no other.
-/
import Derived.Test.YtbikfekdakigiaaGreatDoorEvC
import Derived.Test.YtbikfekdakigiaaGreatDoorEvL
import Derived.Lib.AppendIntMem
import Derived.Test.YtbikfekdakigiaaGreatDoorShelf
import Derived.Test.YtbikfekdakigiaaGreatDoorAs
import Derived.KernelRfl
import Derived.Test.YtbikfekdakigiaaGreatDoorRows
import Derived.Test.YtbikfekdakigiaaGreatDoorGPKF
set_option linter.unusedVariables false
set_option linter.unusedSimpArgs false
/-! The walk, printed by wip/gen out of the translation. -/
namespace Go.Proofs.YtbikfekdakigiaaGreatDoor.E
open Go.Ev Go.ChangeShapes
set_option maxRecDepth 100000
noncomputable section
noncomputable def tab : List (Nat × TE) := [(2, { d := .int .i64, size := 1, bytes := 8, agg := false, ty := some (.int .i64), zero := [.int .i64 0] }),
  (3, { d := .int .i64, size := 1, bytes := 8, agg := false, ty := some (.int .i64), zero := [.int .i64 0] }),
  (4, { d := .bool, size := 1, bytes := 1, agg := false, ty := some .bool, zero := [.bool false] }),
  (5, { d := .int .u8, size := 1, bytes := 1, agg := false, ty := some .byte, zero := [.int .u8 0] }),
  (9, { d := .str, size := 1, bytes := 16, agg := false, ty := some .str, zero := [.str []] }),
  (22, { d := .slice 5, size := 1, bytes := 24, agg := false, ty := some (.slice .byte), zero := [.nils] }),
  (27, { d := .int .i64, size := 1, bytes := 8, agg := false, ty := some (.int .i64), zero := [.int .i64 0] }),
  (28, { d := .int .i64, size := 1, bytes := 8, agg := false, ty := some (.int .i64), zero := [.int .i64 0] }),
  (29, { d := .int .i64, size := 1, bytes := 8, agg := false, ty := some (.int .i64), zero := [.int .i64 0] }),
  (31, { d := .struct [⟨0, 1, false⟩, ⟨1, 1, false⟩, ⟨2, 1, false⟩], size := 3, bytes := 32, agg := true, ty := some (.pair (.int .i64) (.pair (.int .i64) (.pair .str .unit))), zero := [.int .i64 0, .int .i64 0, .str []] }),
  (32, { d := .slice 34, size := 1, bytes := 24, agg := false, ty := some (.slice .ex), zero := [.nils] }),
  (34, { d := .struct [⟨0, 1, false⟩, ⟨1, 3, true⟩, ⟨4, 1, false⟩, ⟨5, 1, false⟩, ⟨6, 1, false⟩, ⟨7, 1, false⟩, ⟨8, 1, false⟩, ⟨9, 1, false⟩], size := 10, bytes := 120, agg := true, ty := some .ex, zero := [.int .i64 0, .int .i64 0, .int .i64 0, .str [], .str [], .str [], .int .i64 0, .nils, .int .i64 0, .int .i64 0] }),
  (35, { d := .slice 100, size := 1, bytes := 24, agg := false, ty := some (.slice (.pair .ex (.pair .bool .unit))), zero := [.nils] }),
  (36, { d := .slice 32, size := 1, bytes := 24, agg := false, ty := some (.slice (.slice .ex)), zero := [.nils] }),
  (37, { d := .slice 103, size := 1, bytes := 24, agg := false, ty := some (.slice (.pair .str (.pair .ex (.pair (.int .i64) .unit)))), zero := [.nils] }),
  (39, { d := .struct [⟨0, 1, false⟩, ⟨1, 1, false⟩, ⟨2, 1, false⟩, ⟨3, 10, true⟩, ⟨13, 10, true⟩, ⟨23, 1, false⟩, ⟨24, 1, false⟩, ⟨25, 1, false⟩, ⟨26, 1, false⟩, ⟨27, 1, false⟩, ⟨28, 1, false⟩, ⟨29, 1, false⟩], size := 30, bytes := 416, agg := true, ty := some (.pair (.int .i64) (.pair .str (.pair .str (.pair .ex (.pair .ex (.pair (.slice .ex) (.pair (.slice .ex) (.pair (.slice (.pair .ex (.pair .bool .unit))) (.pair (.int .i64) (.pair (.slice (.slice .ex)) (.pair (.slice (.pair .str (.pair .ex (.pair (.int .i64) .unit)))) (.pair (.int .i64) .unit)))))))))))), zero := [.int .i64 0, .str [], .str [], .int .i64 0, .int .i64 0, .int .i64 0, .str [], .str [], .str [], .int .i64 0, .nils, .int .i64 0, .int .i64 0, .int .i64 0, .int .i64 0, .int .i64 0, .str [], .str [], .str [], .int .i64 0, .nils, .int .i64 0, .int .i64 0, .nils, .nils, .nils, .int .i64 0, .nils, .nils, .int .i64 0] }),
  (41, { d := .iface, size := 1, bytes := 16, agg := false, ty := some .err, zero := [.err Err.nil] }),
  (50, { d := .slice 9, size := 1, bytes := 24, agg := false, ty := some (.slice .str), zero := [.nils] }),
  (57, { d := .slice 59, size := 1, bytes := 24, agg := false, ty := some (.slice (.pair (.int .i64) (.pair (.int .i64) (.pair .str (.pair .bool .unit))))), zero := [.nils] }),
  (59, { d := .struct [⟨0, 1, false⟩, ⟨1, 1, false⟩, ⟨2, 1, false⟩, ⟨3, 1, false⟩], size := 4, bytes := 40, agg := true, ty := some (.pair (.int .i64) (.pair (.int .i64) (.pair .str (.pair .bool .unit)))), zero := [.int .i64 0, .int .i64 0, .str [], .bool false] }),
  (66, { d := .int .i64, size := 1, bytes := 8, agg := false, ty := some (.int .i64), zero := [.int .i64 0] }),
  (81, { d := .slice 31, size := 1, bytes := 24, agg := false, ty := some (.slice (.pair (.int .i64) (.pair (.int .i64) (.pair .str .unit)))), zero := [.nils] }),
  (83, { d := .ptr 86, size := 1, bytes := 8, agg := false, ty := none, zero := [.nilp] }),
  (86, { d := .struct [⟨0, 1, false⟩, ⟨1, 1, false⟩, ⟨2, 1, false⟩], size := 3, bytes := 32, agg := true, ty := some (.pair (.int .i64) (.pair (.int .i64) (.pair .err .unit))), zero := [.int .i64 0, .int .i64 0, .err Err.nil] }),
  (87, { d := .slice 95, size := 1, bytes := 24, agg := false, ty := some (.slice (.pair (.int .i64) (.pair .str (.pair (.pair (.int .i64) (.pair (.int .i64) (.pair .str .unit))) (.pair (.int .i64) .unit))))), zero := [.nils] }),
  (92, { d := .struct [⟨0, 1, false⟩, ⟨1, 1, false⟩, ⟨2, 1, false⟩], size := 3, bytes := 48, agg := true, ty := some (.pair (.slice (.pair (.int .i64) (.pair .str (.pair (.pair (.int .i64) (.pair (.int .i64) (.pair .str .unit))) (.pair (.int .i64) .unit))))) (.pair (.int .i64) (.pair .err .unit))), zero := [.nils, .int .i64 0, .err Err.nil] }),
  (93, { d := .int .i64, size := 1, bytes := 8, agg := false, ty := some (.int .i64), zero := [.int .i64 0] }),
  (95, { d := .struct [⟨0, 1, false⟩, ⟨1, 1, false⟩, ⟨2, 3, true⟩, ⟨5, 1, false⟩], size := 6, bytes := 64, agg := true, ty := some (.pair (.int .i64) (.pair .str (.pair (.pair (.int .i64) (.pair (.int .i64) (.pair .str .unit))) (.pair (.int .i64) .unit)))), zero := [.int .i64 0, .str [], .int .i64 0, .int .i64 0, .str [], .int .i64 0] }),
  (100, { d := .struct [⟨0, 10, true⟩, ⟨10, 1, false⟩], size := 11, bytes := 128, agg := true, ty := some (.pair .ex (.pair .bool .unit)), zero := [.int .i64 0, .int .i64 0, .int .i64 0, .str [], .str [], .str [], .int .i64 0, .nils, .int .i64 0, .int .i64 0, .bool false] }),
  (103, { d := .struct [⟨0, 1, false⟩, ⟨1, 10, true⟩, ⟨11, 1, false⟩], size := 12, bytes := 144, agg := true, ty := some (.pair .str (.pair .ex (.pair (.int .i64) .unit))), zero := [.str [], .int .i64 0, .int .i64 0, .int .i64 0, .str [], .str [], .str [], .int .i64 0, .nils, .int .i64 0, .int .i64 0, .int .i64 0] })]
def want : List (Nat × List Nat) := []
def eqs : List (Nat × List EK) := [(31, [.int .i64, .int .i64, .str])]
def b0 : List Nat := [31, 63, 64]
def cmps : List Nat := []
theorem tabOk : tabB Go.Proofs.Tryz.prog tab = true := by kernel_rfl
def X : Cfg := ⟨83, 0, [(1, tabP (Lib.pow10Tab.map fun z => Value.int .u64 z).toArray), (2, numP), (8, errP), (9, errP), (0, handP 172 10 41)], b0⟩
theorem mixed : Go.Proofs.Tryz.prog.follows .mixedOrders = true := by kernel_rfl
theorem eqsOk : ∀ t ks, Go.Ev.look eqs t = some ks → eqTB Go.Proofs.Tryz.prog t ks = true := allEq_get (by kernel_rfl)
theorem cmpsOk : cmpsB Go.Proofs.Tryz.prog cmps = true := by kernel_rfl
def tf0 : Option Nat := some 83
theorem tfOk : ∀ t, (match tf0 with | some f => Nat.beq f t | none => false) = true → X.tf = t ∧ tfB Go.Proofs.Tryz.prog t = true := fun t h => Nat.eq_of_beq_eq_true h ▸ ⟨rfl, (by kernel_rfl : tfB Go.Proofs.Tryz.prog 83 = true)⟩
theorem shelf_At_19 : ConOk Go.Proofs.Tryz.prog X 19 (conG atG) := conG_ok (at_ok Go.Proofs.Tryz.func19 (by kernel_rfl) (.tail _ (.tail _ (.tail _ (.tail _ (.head _))))) As.At_nil As.At_hit) atG_of
theorem shelf_Code_18 : ConOk Go.Proofs.Tryz.prog X 18 (conG codeG) := conG_ok (code_ok Go.Proofs.Tryz.func18 (by kernel_rfl) (.tail _ (.tail _ (.tail _ (.tail _ (.head _))))) As.Code_nil As.Code_hit) codeG_of
theorem shelf_FormatInt_53 : ConOk Go.Proofs.Tryz.prog X 53 (conG formatG) :=
  conG_ok (format_ok Go.Proofs.Tryz.func53 (by kernel_rfl) (b := 1) (.head _) (by kernel_rfl) (fun n h0 h1 w ht => (Go.Proofs.Tryz.strconv_FormatInt_10 n h0 h1 w ht).mono fun e w' ⟨he, k, os, hw⟩ => ⟨he, hw ▸ Lib.below_grow _ _ (Nat.le_refl _) k os⟩)) formatG_of
theorem shelf_ParseInt_120 : ConOk Go.Proofs.Tryz.prog X 120 (conG parseG) :=
  conG_ok (parse_ok Go.Proofs.Tryz.func120 (by kernel_rfl) (.tail _ (.tail _ (.head _))) (.tail _ (.tail _ (.tail _ (.head _)))) (fun s h v hv w => Go.Proofs.Tryz.strconv_ParseInt_10_at64_ok s h v hv w)
    (fun s h hp ev w h1 h2 => (Go.Proofs.Tryz.strconv_ParseInt_10_at64_syntax s h hp ev w h1 h2).mono fun e w' ⟨N, he, _, _, hb⟩ => ⟨N, he, hb⟩)
    (fun s h hp ev w h1 h2 => (Go.Proofs.Tryz.strconv_ParseInt_10_at64_range s h hp ev w h1 h2).mono fun e w' ⟨N, he, _, _, hb⟩ => ⟨N, he, hb⟩)) parseG_of
theorem shelf_Repeat_55 : ConOk Go.Proofs.Tryz.prog X 55 (conG repeatG) := conG_ok (repeat_ok Go.Proofs.Tryz.func55 (by kernel_rfl) (fun s c w h1 h2 => Go.Proofs.Tryz.strings_Repeat s c w h1 h2)) repeatG_of
theorem shelf_ReplaceAll_56 : ConOk Go.Proofs.Tryz.prog X 56 (conG replaceG) := conG_ok (replace_ok Go.Proofs.Tryz.func56 (by kernel_rfl) (b := 2) (.tail _ (.head _)) (fun s o n m w h1 h2 h3 h4 => Go.Proofs.Tryz.strings_ReplaceAll s o n m w h1 h2 h3 h4)) replaceG_of
theorem shelf_ToLower_84 : ConOk Go.Proofs.Tryz.prog X 84 (conG lowerG) := conG_ok (lower_ok Go.Proofs.Tryz.func84 (by kernel_rfl) (fun s w h1 h2 => Go.Proofs.Tryz.strings_ToLower_ascii s w h1 h2)) lowerG_of
noncomputable abbrev PP : Program := Go.Proofs.Tryz.prog
noncomputable def B0 : Cx := { tab := tab, con := [], funs := [], loops := [], want := want, ret := [], calm := [], bnd := [], eqs := eqs, cmps := cmps, tf := tf0, b0 := b0 }
theorem bOk : CxOk PP X B0 := ⟨fun _ _ h => tab_ok tabOk h, eqsOk, cmps_ok cmpsOk, tfOk, rfl⟩
noncomputable def BX (xs : List Nat) (xd : List (Nat × List (Nat × Ty))) (xa : Bool) : Cx := { B0 with xl := true, xs := xs, xd := xd, xa := xa }
theorem bxOk {xs : List Nat} {xd : List (Nat × List (Nat × Ty))} {xa : Bool} : CxOk PP X (BX xs xd xa) := ⟨fun _ _ h => tab_ok tabOk h, eqsOk, cmps_ok cmpsOk, tfOk, rfl⟩
noncomputable def S0 : SCode := ⟨[.leaf (.int .i64), .leaf (.int .i64)], []⟩
noncomputable def R0 : RC := ⟨.leaf (.err), []⟩
noncomputable def S1 : SCode := ⟨[.leaf (.int .u8)], []⟩
noncomputable def R1 : RC := ⟨.leaf (.int .i64), []⟩
noncomputable def S2 : SCode := ⟨.leaf (.str) :: A 3 (.leaf (.sl .own .byte) :: .leaf (.int .i64) :: A 34 []), []⟩
noncomputable def S3 : SCode := ⟨A 40 [], []⟩
noncomputable def S4 : SCode := ⟨A 2 (.leaf (.str) :: .leaf (.int .i64) :: A 36 []), []⟩
noncomputable def S5 : SCode := ⟨[.leaf (.str)], []⟩
noncomputable def R2 : RC := ⟨.tup [.l (.str), .l (.int .i64)], []⟩
noncomputable def S6 : SCode := ⟨[.leaf (.str), .leaf (.int .u8)], []⟩
noncomputable def W0 : List LC := [.int .i64, .str, .int .i64, .int .i64, .str, .int .i64]
noncomputable def S7 : SCode := ⟨.leaf (.str) :: A 1 (.leaf (.lit (.ptr 0 0)) :: .leaf (.str) :: .leaf (.int .i64) :: .leaf (.sl .own .byte) :: A 55 []), [W0]⟩
noncomputable def S8 : SCode := ⟨.leaf (.str) :: A 1 (.leaf (.lit (.ptr 0 0)) :: A 1 (.leaf (.int .i64) :: .leaf (.sl .own .byte) :: A 55 [])), [W0]⟩
noncomputable def S9 : SCode := ⟨.leaf (.str) :: A 1 (.leaf (.lit (.ptr 0 0)) :: .leaf (.str) :: .leaf (.int .i64) :: A 56 []), [W0]⟩
noncomputable def S10 : SCode := ⟨A 2 (.leaf (.lit (.ptr 0 0)) :: A 58 []), [W0]⟩
noncomputable def R3 : RC := ⟨.agg [.int .i64, .str, .int .i64, .int .i64, .str, .int .i64], []⟩
noncomputable def S11 : SCode := ⟨[.leaf (.int .i64)], []⟩
noncomputable def R4 : RC := ⟨.leaf (.bool), []⟩
noncomputable def S12 : SCode := ⟨.leaf (.str) :: .leaf (.lit (.fn 86 [])) :: A 3 (.leaf (.int .i64) :: A 15 []), []⟩
noncomputable def S13 : SCode := ⟨A 5 (.leaf (.int .i64) :: A 15 []), []⟩
noncomputable def S14 : SCode := ⟨[.leaf (.str), .leaf (.lit (.fn 86 []))], []⟩
noncomputable def R5 : RC := ⟨.leaf (.str), []⟩
noncomputable def S15 : SCode := ⟨.leaf (.str) :: .leaf (.lit (.fn 119 [])) :: A 3 (.leaf (.int .i64) :: A 15 []), []⟩
noncomputable def S16 : SCode := ⟨[.leaf (.str), .leaf (.lit (.fn 119 []))], []⟩
noncomputable def S17 : SCode := ⟨[.leaf (.str), .leaf (.str)], []⟩
noncomputable def S18 : SCode := ⟨[.leaf (.str), .leaf (.int .i64)], []⟩
noncomputable def S19 : SCode := ⟨[.leaf (.str), .leaf (.int .i64), .leaf (.int .i64)], []⟩
noncomputable def R6 : RC := ⟨.tup [.l (.int .i64), .l (.err)], []⟩
noncomputable def S20 : SCode := ⟨.leaf (.str) :: A 1 (.leaf (.lit (.ptr 0 0)) :: .leaf (.int .i64) :: .leaf (.str) :: A 1 (.leaf (.int .i64) :: A 64 [])), [W0]⟩
noncomputable def S21 : SCode := ⟨A 2 (.leaf (.lit (.ptr 0 0)) :: A 68 []), [W0]⟩
noncomputable def S22 : SCode := ⟨.leaf (.str) :: A 1 (.leaf (.lit (.ptr 0 0)) :: .leaf (.int .i64) :: .leaf (.str) :: .leaf (.str) :: .leaf (.int .i64) :: A 64 []), [W0]⟩
noncomputable def S23 : SCode := ⟨.leaf (.str) :: A 1 (.leaf (.lit (.ptr 0 0)) :: .leaf (.int .i64) :: .leaf (.str) :: .leaf (.str) :: A 1 (.leaf (.int .i64) :: A 63 [])), [W0]⟩
noncomputable def S24 : SCode := ⟨.leaf (.str) :: A 1 (.leaf (.lit (.ptr 0 0)) :: A 2 (.leaf (.sl .own .str) :: .leaf (.int .i64) :: .leaf (.int .i64) :: A 17 [])), [W0]⟩
noncomputable def S25 : SCode := ⟨.leaf (.str) :: A 1 (.leaf (.lit (.ptr 0 0)) :: A 22 []), [W0]⟩
noncomputable def S26 : SCode := ⟨.leaf (.str) :: A 3 (.leaf (.sl .own (.pair (.int .i64) (.pair .str (.pair (.pair (.int .i64) (.pair (.int .i64) (.pair .str .unit))) (.pair (.int .i64) .unit))))) :: .leaf (.int .i64) :: A 42 []), []⟩
noncomputable def S27 : SCode := ⟨.leaf (.str) :: A 3 (.leaf (.sl .own (.pair (.int .i64) (.pair .str (.pair (.pair (.int .i64) (.pair (.int .i64) (.pair .str .unit))) (.pair (.int .i64) .unit))))) :: A 43 []), []⟩
noncomputable def S28 : SCode := ⟨.leaf (.str) :: A 1 (.leaf (.lit (.nils)) :: .leaf (.err) :: .leaf (.sl .own (.pair (.int .i64) (.pair .str (.pair (.pair (.int .i64) (.pair (.int .i64) (.pair .str .unit))) (.pair (.int .i64) .unit))))) :: A 43 []), []⟩
noncomputable def R7 : RC := ⟨.tup [.l (.sl .ro (.pair (.int .i64) (.pair .str (.pair (.pair (.int .i64) (.pair (.int .i64) (.pair .str .unit))) (.pair (.int .i64) .unit))))), .l (.err)], []⟩
noncomputable def S29 : SCode := ⟨[.leaf (.err)], []⟩
noncomputable def S30 : SCode := ⟨[.leaf (.err), .leaf (.int .i64), .leaf (.int .i64)], []⟩
noncomputable def W1 : List LC := [.sl .ro (.pair (.int .i64) (.pair .str (.pair (.pair (.int .i64) (.pair (.int .i64) (.pair .str .unit))) (.pair (.int .i64) .unit)))), .int .i64, .err]
noncomputable def S31 : SCode := ⟨[.leaf (.lit (.ptr 0 0)), .leaf (.str)], [W1]⟩
noncomputable def S32 : SCode := ⟨[.leaf (.lit (.ptr 0 0))], [W1]⟩
noncomputable def R8 : RC := ⟨.agg [.int .i64, .str, .int .i64, .int .i64, .str, .int .i64], [W1]⟩
noncomputable def R9 : RC := ⟨.leaf (.bool), [W1]⟩
noncomputable def S33 : SCode := ⟨[.leaf (.lit (.ptr 0 0)), .leaf (.int .i64)], [W1]⟩
noncomputable def R10 : RC := ⟨.leaf (.lit (.tup [])), [W1]⟩
noncomputable def S34 : SCode := ⟨.leaf (.lit (.ptr 0 0)) :: A 5 (.leaf (.sl .ro .str) :: .leaf (.int .i64) :: .leaf (.int .i64) :: A 10 []), [W1]⟩
noncomputable def S35 : SCode := ⟨A 19 [], [W1]⟩
noncomputable def S36 : SCode := ⟨[.leaf (.lit (.ptr 0 0)), .leaf (.sl .ro .str)], [W1]⟩
noncomputable def R11 : RC := ⟨.agg [.int .i64, .int .i64, .int .i64, .str, .str, .str, .int .i64, .lit (.nils), .int .i64, .int .i64], [W1]⟩
noncomputable def S37 : SCode := ⟨.leaf (.sl .ro .str) :: .leaf (.str) :: A 5 (.leaf (.int .i64) :: .leaf (.int .i64) :: A 10 []), []⟩
noncomputable def S38 : SCode := ⟨A 19 [], []⟩
noncomputable def S39 : SCode := ⟨A 4 (.leaf (.int .i64) :: A 14 []), []⟩
noncomputable def S40 : SCode := ⟨[.leaf (.sl .ro .str), .leaf (.str)], []⟩
noncomputable def R12 : RC := ⟨.leaf (.str), [W1]⟩
noncomputable def W2 : List LC := [.int .i64, .int .i64, .int .i64, .str, .str, .str, .int .i64, .sl .ro .ex, .int .i64, .int .i64]
noncomputable def W3 : List LC := [.int .i64, .int .i64, .int .i64, .str, .str, .str, .int .i64, .lit (.nils), .int .i64, .int .i64]
noncomputable def S41 : SCode := ⟨.leaf (.lit (.ptr 0 0)) :: A 5 (.leaf (.lit (.ptr 3 0)) :: .leaf (.lit (.ptr 4 0)) :: A 101 []), [W1, W0, W2, W3, W3]⟩
noncomputable def S42 : SCode := ⟨A 6 (.leaf (.lit (.ptr 3 0)) :: .leaf (.lit (.ptr 4 0)) :: A 101 []), [W1, W0, W2, W3, W3]⟩
noncomputable def S43 : SCode := ⟨.leaf (.lit (.ptr 0 0)) :: A 5 (.leaf (.lit (.ptr 3 0)) :: .leaf (.lit (.ptr 4 0)) :: A 63 (.leaf (.bool) :: A 37 [])), [W1, W0, W2, W3, W3]⟩
noncomputable def S44 : SCode := ⟨[.leaf (.lit (.ptr 0 0)), .agg [.int .i64, .str, .int .i64, .int .i64, .str, .int .i64], .agg [.int .i64, .int .i64, .int .i64, .str, .str, .str, .int .i64, .sl .ro .ex, .int .i64, .int .i64]], [W1]⟩
noncomputable def R13 : RC := ⟨.agg [.int .i64, .int .i64, .int .i64, .str, .str, .str, .int .i64, .sl .ro .ex, .int .i64, .int .i64], [W1]⟩
noncomputable def S45 : SCode := ⟨.leaf (.lit (.ptr 0 0)) :: A 1 (.leaf (.lit (.ptr 1 0)) :: .leaf (.lit (.ptr 2 0)) :: .leaf (.lit (.ptr 3 0)) :: A 1 (.leaf (.int .i64) :: A 54 [])), [W1, W3, W2, W0]⟩
noncomputable def W4 : List LC := [.int .i64, .int .i64, .int .i64, .str, .str, .str, .int .i64, .sl .own .ex, .int .i64, .int .i64]
noncomputable def S46 : SCode := ⟨A 2 (.leaf (.lit (.ptr 1 0)) :: A 58 []), [W1, W4, W2, W0]⟩
noncomputable def S47 : SCode := ⟨[.leaf (.lit (.ptr 0 0)), .fn 63 [.lit (.ptr 0 0)]], [W1]⟩
noncomputable def S48 : SCode := ⟨[.leaf (.lit (.ptr 0 0)), .fn 31 [.lit (.ptr 0 0)]], [W1]⟩
noncomputable def S49 : SCode := ⟨[.leaf (.lit (.ptr 0 0)), .fn 64 [.lit (.ptr 0 0)]], [W1]⟩
noncomputable def S50 : SCode := ⟨A 1 (.leaf (.int .i64) :: .leaf (.lit (.ptr 0 0)) :: A 37 []), [W0]⟩
noncomputable def S51 : SCode := ⟨A 4 (.leaf (.int .i64) :: A 35 []), [W0]⟩
noncomputable def S52 : SCode := ⟨[.agg [.int .i64, .str, .int .i64, .int .i64, .str, .int .i64], .leaf (.int .i64)], []⟩
noncomputable def S53 : SCode := ⟨.leaf (.lit (.ptr 0 0)) :: .leaf (.int .i64) :: A 2 (.leaf (.lit (.ptr 1 0)) :: .leaf (.lit (.ptr 2 0)) :: .leaf (.int .i64) :: .leaf (.int .i64) :: A 41 []), [W1, W3, W2]⟩
noncomputable def S54 : SCode := ⟨.leaf (.lit (.ptr 0 0)) :: .leaf (.int .i64) :: A 2 (.leaf (.lit (.ptr 1 0)) :: .leaf (.lit (.ptr 2 0)) :: A 43 []), [W1, W3, W4]⟩
noncomputable def S55 : SCode := ⟨.leaf (.lit (.ptr 0 0)) :: .leaf (.int .i64) :: A 2 (.leaf (.lit (.ptr 1 0)) :: .leaf (.lit (.ptr 2 0)) :: A 43 []), [W1, W3, W2]⟩
noncomputable def S56 : SCode := ⟨A 4 (.leaf (.lit (.ptr 1 0)) :: .leaf (.lit (.ptr 2 0)) :: A 43 []), [W1, W3, W2]⟩
noncomputable def S57 : SCode := ⟨.leaf (.lit (.ptr 0 0)) :: A 2 (.leaf (.sl .own .ex) :: A 11 []), [W1]⟩
noncomputable def S58 : SCode := ⟨A 3 (.leaf (.sl .own .ex) :: A 11 []), [W1]⟩
noncomputable def R14 : RC := ⟨.leaf (.sl .own .ex), [W1]⟩
noncomputable def W5 : List LC := [.int .i64, .str, .str, .int .i64, .int .i64, .int .i64, .str, .str, .str, .int .i64, .lit (.nils), .int .i64, .int .i64, .int .i64, .int .i64, .int .i64, .str, .str, .str, .int .i64, .lit (.nils), .int .i64, .int .i64, .sl .own .ex, .lit (.nils), .lit (.nils), .int .i64, .lit (.nils), .lit (.nils), .int .i64]
noncomputable def S59 : SCode := ⟨[.leaf (.lit (.ptr 0 0)), .leaf (.lit (.ptr 1 0))], [W1, W5]⟩
noncomputable def R15 : RC := ⟨.leaf (.lit (.tup [])), [W1, W5]⟩
noncomputable def W6 : List LC := [.int .i64, .str, .str, .int .i64, .int .i64, .int .i64, .str, .str, .str, .int .i64, .sl .ro .ex, .int .i64, .int .i64, .int .i64, .int .i64, .int .i64, .str, .str, .str, .int .i64, .sl .ro .ex, .int .i64, .int .i64, .sl .own .ex, .sl .own .ex, .sl .own (.pair .ex (.pair .bool .unit)), .int .i64, .lit (.nils), .lit (.nils), .int .i64]
noncomputable def S60 : SCode := ⟨.leaf (.lit (.ptr 0 0)) :: .leaf (.lit (.ptr 1 0)) :: A 109 [], [W1, W6]⟩
noncomputable def S61 : SCode := ⟨A 111 [], [W1, W6]⟩
noncomputable def W7 : List LC := [.int .i64, .int .i64, .int .i64, .str, .str, .str, .int .i64, .sl .ro .ex, .int .i64, .int .i64, .bool]
noncomputable def S62 : SCode := ⟨.leaf (.lit (.ptr 0 0)) :: .leaf (.lit (.ptr 1 0)) :: A 3 (.leaf (.lit (.ptr 2 0)) :: A 105 []), [W1, W6, W7]⟩
noncomputable def S63 : SCode := ⟨.leaf (.lit (.ptr 0 0)) :: .leaf (.lit (.ptr 1 0)) :: A 109 [], [W1, W6, W7]⟩
noncomputable def S64 : SCode := ⟨.leaf (.lit (.ptr 0 0)) :: .leaf (.lit (.ptr 1 0)) :: A 2 (.leaf (.bool) :: A 106 []), [W1, W6]⟩
noncomputable def W8 : List LC := [.int .i64, .str, .str, .int .i64, .int .i64, .int .i64, .str, .str, .str, .int .i64, .sl .ro .ex, .int .i64, .int .i64, .int .i64, .int .i64, .int .i64, .str, .str, .str, .int .i64, .sl .ro .ex, .int .i64, .int .i64, .sl .own .ex, .sl .own .ex, .lit (.nils), .int .i64, .lit (.nils), .lit (.nils), .int .i64]
noncomputable def S65 : SCode := ⟨.leaf (.lit (.ptr 0 0)) :: .leaf (.lit (.ptr 1 0)) :: A 109 [], [W1, W8]⟩
noncomputable def W9 : List LC := [.int .i64, .str, .str, .int .i64, .int .i64, .int .i64, .str, .str, .str, .int .i64, .sl .ro .ex, .int .i64, .int .i64, .int .i64, .int .i64, .int .i64, .str, .str, .str, .int .i64, .lit (.nils), .int .i64, .int .i64, .sl .own .ex, .lit (.nils), .lit (.nils), .int .i64, .lit (.nils), .lit (.nils), .int .i64]
noncomputable def S66 : SCode := ⟨.leaf (.lit (.ptr 0 0)) :: .leaf (.lit (.ptr 1 0)) :: A 109 [], [W1, W9]⟩
noncomputable def S67 : SCode := ⟨.leaf (.lit (.ptr 0 0)) :: .leaf (.lit (.ptr 1 0)) :: A 109 [], [W1, W5]⟩
noncomputable def W10 : List LC := [.int .i64, .str, .str, .int .i64, .int .i64, .int .i64, .str, .str, .str, .int .i64, .lit (.nils), .int .i64, .int .i64, .int .i64, .int .i64, .int .i64, .str, .str, .str, .int .i64, .lit (.nils), .int .i64, .int .i64, .lit (.nils), .lit (.nils), .lit (.nils), .int .i64, .lit (.nils), .lit (.nils), .int .i64]
noncomputable def S68 : SCode := ⟨[.leaf (.lit (.ptr 0 0)), .leaf (.lit (.ptr 1 0))], [W1, W10]⟩
noncomputable def R16 : RC := ⟨.leaf (.lit (.tup [])), [W1, W6]⟩
noncomputable def R17 : RC := ⟨.leaf (.err), [W1]⟩
noncomputable def R18 : RC := ⟨.leaf (.lit (.tup [])), [W1, W10]⟩
noncomputable def W11 : List LC := [.int .i64, .str, .str, .int .i64, .int .i64, .int .i64, .str, .str, .str, .int .i64, .lit (.nils), .int .i64, .int .i64, .int .i64, .int .i64, .int .i64, .str, .str, .str, .int .i64, .lit (.nils), .int .i64, .int .i64, .lit (.nils), .lit (.nils), .lit (.nils), .int .i64, .sl .own (.slice .ex), .lit (.nils), .int .i64]
noncomputable def S69 : SCode := ⟨.leaf (.lit (.ptr 0 0)) :: .leaf (.lit (.ptr 1 0)) :: A 37 [], [W1, W11]⟩
noncomputable def S70 : SCode := ⟨.leaf (.lit (.ptr 0 0)) :: .leaf (.lit (.ptr 1 0)) :: A 2 (.leaf (.bool) :: A 34 []), [W1, W11]⟩
noncomputable def S71 : SCode := ⟨A 39 [], [W1, W11]⟩
noncomputable def R19 : RC := ⟨.leaf (.lit (.tup [])), [W1, W11]⟩
noncomputable def W12 : List LC := [.int .i64, .str, .str, .int .i64, .int .i64, .int .i64, .str, .str, .str, .int .i64, .lit (.nils), .int .i64, .int .i64, .int .i64, .int .i64, .int .i64, .str, .str, .str, .int .i64, .lit (.nils), .int .i64, .int .i64, .lit (.nils), .lit (.nils), .lit (.nils), .int .i64, .lit (.nils), .sl .own (.pair .str (.pair .ex (.pair (.int .i64) .unit))), .int .i64]
noncomputable def W13 : List LC := [.str, .int .i64, .int .i64, .int .i64, .str, .str, .str, .int .i64, .sl .ro .ex, .int .i64, .int .i64, .int .i64]
noncomputable def S72 : SCode := ⟨.leaf (.lit (.ptr 0 0)) :: .leaf (.lit (.ptr 1 0)) :: A 3 (.leaf (.lit (.ptr 2 0)) :: A 35 []), [W1, W12, W13]⟩
noncomputable def S73 : SCode := ⟨.leaf (.lit (.ptr 0 0)) :: .leaf (.lit (.ptr 1 0)) :: A 39 [], [W1, W12, W13]⟩
noncomputable def S74 : SCode := ⟨.leaf (.lit (.ptr 0 0)) :: .leaf (.lit (.ptr 1 0)) :: A 2 (.leaf (.bool) :: A 36 []), [W1, W12]⟩
noncomputable def S75 : SCode := ⟨.leaf (.lit (.ptr 0 0)) :: .leaf (.lit (.ptr 1 0)) :: A 39 [], [W1, W12]⟩
noncomputable def W14 : List LC := [.int .i64, .str, .str, .int .i64, .int .i64, .int .i64, .str, .str, .str, .int .i64, .lit (.nils), .int .i64, .int .i64, .int .i64, .int .i64, .int .i64, .str, .str, .str, .int .i64, .sl .ro .ex, .int .i64, .int .i64, .lit (.nils), .lit (.nils), .lit (.nils), .int .i64, .lit (.nils), .sl .own (.pair .str (.pair .ex (.pair (.int .i64) .unit))), .int .i64]
noncomputable def R20 : RC := ⟨.leaf (.lit (.tup [])), [W1, W14]⟩
noncomputable def R21 : RC := ⟨.tup [.agg [.int .i64, .str, .str, .int .i64, .int .i64, .int .i64, .str, .str, .str, .int .i64, .sl .ro .ex, .int .i64, .int .i64, .int .i64, .int .i64, .int .i64, .str, .str, .str, .int .i64, .sl .ro .ex, .int .i64, .int .i64, .sl .ro .ex, .sl .ro .ex, .sl .ro (.pair .ex (.pair .bool .unit)), .int .i64, .sl .ro (.slice .ex), .sl .ro (.pair .str (.pair .ex (.pair (.int .i64) .unit))), .int .i64], .l (.err)], []⟩
noncomputable def S76 : SCode := ⟨[], []⟩
noncomputable def W15 : List LC := [.int .i64, .int .i64, .str, .bool]
noncomputable def S77 : SCode := ⟨.leaf (.sl .ro (.pair (.int .i64) (.pair (.int .i64) (.pair .str (.pair .bool .unit))))) :: .leaf (.int .i64) :: A 2 (.leaf (.lit (.ptr 0 0)) :: A 5 (.leaf (.lit (.ptr 2 0)) :: .leaf (.int .i64) :: .leaf (.int .i64) :: A 94 [])), [W3, W15, W4]⟩
noncomputable def S78 : SCode := ⟨.leaf (.sl .ro (.pair (.int .i64) (.pair (.int .i64) (.pair .str (.pair .bool .unit))))) :: A 3 (.leaf (.lit (.ptr 0 0)) :: A 5 (.leaf (.lit (.ptr 2 0)) :: A 96 [])), [W3, W15, W4]⟩
noncomputable def S79 : SCode := ⟨.leaf (.sl .ro (.pair (.int .i64) (.pair (.int .i64) (.pair .str (.pair .bool .unit))))) :: .leaf (.int .i64) :: A 2 (.leaf (.lit (.ptr 0 0)) :: A 5 (.leaf (.lit (.ptr 2 0)) :: .leaf (.int .i64) :: A 95 [])), [W3, W15, W3]⟩
noncomputable def S80 : SCode := ⟨A 4 (.leaf (.lit (.ptr 0 0)) :: .leaf (.sl .ro (.pair (.int .i64) (.pair (.int .i64) (.pair .str (.pair .bool .unit))))) :: A 101 []), [W2, W15, W4]⟩
noncomputable def S81 : SCode := ⟨.leaf (.sl .ro (.pair (.int .i64) (.pair (.int .i64) (.pair .str (.pair .bool .unit))))) :: .leaf (.int .i64) :: A 2 (.leaf (.lit (.ptr 0 0)) :: A 1 (.leaf (.lit (.ptr 1 0)) :: .leaf (.int .i64) :: A 1 (.leaf (.int .i64) :: A 97 []))), [W3, W15]⟩
noncomputable def S82 : SCode := ⟨A 4 (.leaf (.lit (.ptr 0 0)) :: .leaf (.sl .ro (.pair (.int .i64) (.pair (.int .i64) (.pair .str (.pair .bool .unit))))) :: A 101 []), [W2, W15]⟩
noncomputable def S83 : SCode := ⟨.leaf (.sl .ro (.pair (.int .i64) (.pair (.int .i64) (.pair .str (.pair .bool .unit))))) :: .leaf (.int .i64) :: A 2 (.leaf (.lit (.ptr 0 0)) :: A 1 (.leaf (.lit (.ptr 1 0)) :: .leaf (.int .i64) :: .leaf (.int .i64) :: A 98 [])), [W3, W15]⟩
noncomputable def S84 : SCode := ⟨.leaf (.sl .ro (.pair (.int .i64) (.pair (.int .i64) (.pair .str (.pair .bool .unit))))) :: .leaf (.int .i64) :: A 2 (.leaf (.lit (.ptr 0 0)) :: A 1 (.leaf (.lit (.ptr 1 0)) :: .leaf (.int .i64) :: A 99 [])), [W3, W15]⟩
noncomputable def S85 : SCode := ⟨[.leaf (.sl .ro (.pair (.int .i64) (.pair (.int .i64) (.pair .str (.pair .bool .unit))))), .leaf (.int .i64)], []⟩
noncomputable def R22 : RC := ⟨.tup [.agg [.int .i64, .int .i64, .int .i64, .str, .str, .str, .int .i64, .sl .ro .ex, .int .i64, .int .i64], .l (.sl .ro (.pair (.int .i64) (.pair (.int .i64) (.pair .str (.pair .bool .unit)))))], []⟩
noncomputable def S86 : SCode := ⟨[.agg [.int .i64, .int .i64, .str]], []⟩
noncomputable def S87 : SCode := ⟨[.leaf (.bool)], []⟩
noncomputable def R23 : RC := ⟨.tup [.l (.str), .l (.bool)], []⟩
noncomputable def S88 : SCode := ⟨[.leaf (.str), .leaf (.str), .leaf (.str)], []⟩
noncomputable def S89 : SCode := ⟨A 5 (.leaf (.sl .own .byte) :: A 58 (.leaf (.sl .own .byte) :: .leaf (.int .i64) :: .leaf (.int .i64) :: A 22 [])), [[.int .i64, .int .i64, .str]]⟩
noncomputable def S90 : SCode := ⟨A 5 (.leaf (.sl .own .byte) :: A 83 []), [[.int .i64, .int .i64, .str]]⟩
noncomputable def S91 : SCode := ⟨A 3 (.leaf (.str) :: .leaf (.bool) :: A 84 []), [[.int .i64, .int .i64, .str]]⟩
noncomputable def S92 : SCode := ⟨A 2 (.leaf (.str) :: A 86 []), [[.int .i64, .int .i64, .str]]⟩
noncomputable def S93 : SCode := ⟨A 1 (.leaf (.lit (.ptr 0 0)) :: A 1 (.leaf (.sl .own .str) :: A 98 [])), [W2]⟩
noncomputable def S94 : SCode := ⟨A 2 (.leaf (.str) :: A 99 []), [W2]⟩
noncomputable def S95 : SCode := ⟨A 1 (.leaf (.lit (.ptr 0 0)) :: A 1 (.leaf (.sl .own .str) :: .leaf (.int .i64) :: A 97 [])), [W2]⟩
noncomputable def S96 : SCode := ⟨[.agg [.int .i64, .int .i64, .int .i64, .str, .str, .str, .int .i64, .sl .ro .ex, .int .i64, .int .i64]], []⟩
noncomputable def R24 : RC := ⟨.tup [.agg [.int .i64, .int .i64, .int .i64, .str, .str, .str, .int .i64, .sl .ro .ex, .int .i64, .int .i64], .l (.err)], []⟩
noncomputable def S97 : SCode := ⟨[.agg [.int .i64, .int .i64, .int .i64, .str, .str, .str, .int .i64, .sl .ro .ex, .int .i64, .int .i64], .agg [.int .i64, .int .i64, .int .i64, .str, .str, .str, .int .i64, .sl .ro .ex, .int .i64, .int .i64], .leaf (.bool)], []⟩
noncomputable def S98 : SCode := ⟨.leaf (.sl .ro .ex) :: .leaf (.sl .ro .ex) :: .leaf (.bool) :: A 4 (.leaf (.int .i64) :: A 24 []), []⟩
noncomputable def S99 : SCode := ⟨A 32 [], []⟩
noncomputable def S100 : SCode := ⟨A 6 (.leaf (.bool) :: A 25 []), []⟩
noncomputable def S101 : SCode := ⟨[.leaf (.sl .ro .ex), .leaf (.sl .ro .ex), .leaf (.bool)], []⟩
noncomputable def S102 : SCode := ⟨A 1 (.leaf (.lit (.ptr 0 0)) :: A 1 (.leaf (.int .i64) :: A 3 (.leaf (.sl .ro .ex) :: .leaf (.int .i64) :: .leaf (.int .i64) :: A 19 []))), [W2]⟩
noncomputable def S103 : SCode := ⟨A 1 (.leaf (.lit (.ptr 0 0)) :: A 1 (.leaf (.int .i64) :: A 25 [])), [W2]⟩
noncomputable def W16 : List LC := [.int .i64, .str, .str, .int .i64, .int .i64, .int .i64, .str, .str, .str, .int .i64, .sl .ro .ex, .int .i64, .int .i64, .int .i64, .int .i64, .int .i64, .str, .str, .str, .int .i64, .sl .ro .ex, .int .i64, .int .i64, .sl .ro .ex, .sl .ro .ex, .sl .ro (.pair .ex (.pair .bool .unit)), .int .i64, .sl .ro (.slice .ex), .sl .ro (.pair .str (.pair .ex (.pair (.int .i64) .unit))), .int .i64]
noncomputable def S104 : SCode := ⟨A 4 (.leaf (.lit (.ptr 0 0)) :: A 2 (.leaf (.lit (.ptr 1 0)) :: A 1 (.leaf (.lit (.ptr 2 0)) :: A 86 []))), [W2, W2, W16]⟩
noncomputable def S105 : SCode := ⟨A 2 (.leaf (.bool) :: A 93 []), [W2, W2, W16]⟩
noncomputable def S106 : SCode := ⟨.leaf (.sl .ro (.pair (.int .i64) (.pair (.int .i64) (.pair .str (.pair .bool .unit))))) :: A 2 (.leaf (.int .i64) :: A 92 []), []⟩
noncomputable def S107 : SCode := ⟨.leaf (.sl .ro (.pair (.int .i64) (.pair (.int .i64) (.pair .str (.pair .bool .unit))))) :: A 95 [], []⟩
noncomputable def S108 : SCode := ⟨.leaf (.sl .ro (.pair (.int .i64) (.pair (.int .i64) (.pair .str (.pair .bool .unit))))) :: A 1 (.leaf (.bool) :: A 93 []), []⟩
noncomputable def S109 : SCode := ⟨[.leaf (.sl .ro (.pair (.int .i64) (.pair (.int .i64) (.pair .str (.pair .bool .unit)))))], []⟩
/-! 49 frankpledge/fault.New -/
def fault_New_d : FD := ⟨(BX [] [] false).lean [] [], 1, [], [], [], Tryz.f49⟩
theorem fault_New_cs : CsOk PP X fault_New_d.cx := csL bxOk mixed trivial trivial (by kernel_rfl)
theorem fault_New_w : ConOk PP X 49 fault_New_d.raw := rawD fault_New_cs Tryz.func49 (n := 0) (js := []) (by kernel_rfl) trivial trivial
theorem fault_New_T : TK fault_New_d.raw S0 R0 fun R => fault_New_cps big R := fun _ _ _ => by kernel_rfl
def fault_New_k : CR := kC 49 [] [] S0 R0 (fault_New big)
theorem fault_New_ok : fault_New_k.Ok PP X := okC fault_New_w _ fault_New_T (by kernel_rfl)
/-! 60 frankpledge/lex.of -/
def lex_of_d : FD := ⟨B0.lean [] [], 1, [], [], [], Tryz.f60⟩
theorem lex_of_cs : CsOk PP X lex_of_d.cx := csL bOk mixed trivial trivial (by kernel_rfl)
theorem lex_of_w : ConOk PP X 60 lex_of_d.raw := rawD lex_of_cs Tryz.func60 (n := 0) (js := []) (by kernel_rfl) trivial trivial
theorem lex_of_T : TK lex_of_d.raw S1 R1 fun R => lex_of_cps big R := fun _ _ _ => by kernel_rfl
def lex_of_k : CR := kC 60 [] [] S1 R1 (lex_of big)
theorem lex_of_ok : lex_of_k.Ok PP X := okC lex_of_w _ lex_of_T (by kernel_rfl)
/-! 114 frankpledge/lex.quoted -/
def lex_quoted_l0F : LF S2 := fun R n k => S2.app (lex_quoted_l0 big R (S3.ex k (.exit 0)) (S4.ex k .ret) n)
def lex_quoted_l0G : BF S2 := fun R r k => S2.app (lex_quoted_l0B big R (S2.cur r) (S3.ex k (.exit 0)) (S4.ex k .ret))
def lex_quoted_l0h : LH := lhL S2 lex_quoted_l0F (ids [0, 5] [(4, .own .byte)]) [] (ids [2, 3] []) none
def lex_quoted_d : FD := ⟨B0.lean [] [], 1, [(3, lex_quoted_l0h)], [], [], Tryz.f114⟩
theorem lex_quoted_cs : CsOk PP X lex_quoted_d.cx := csL bOk mixed trivial trivial (by kernel_rfl)
theorem lex_quoted_L0 : LOkD lex_quoted_d 0 := lokD lex_quoted_l0F lex_quoted_l0G lex_quoted_l0h (by kernel_rfl) (by kernel_rfl) (fun _ _ _ _ => by kernel_rfl) (fun _ _ _ => by kernel_rfl) (fun _ _ _ _ => by kernel_rfl)
theorem lex_quoted_w : ConOk PP X 114 lex_quoted_d.raw := rawD lex_quoted_cs Tryz.func114 (n := 1) (js := []) (by kernel_rfl) ⟨lex_quoted_L0, trivial⟩ trivial
theorem lex_quoted_T : TK lex_quoted_d.raw S5 R2 fun R => lex_quoted_cps big R := fun _ _ _ => by kernel_rfl
def lex_quoted_k : CR := kC 114 [] [] S5 R2 (lex_quoted big)
theorem lex_quoted_ok : lex_quoted_k.Ok PP X := okC lex_quoted_w _ lex_quoted_T (by kernel_rfl)
def bytealg_IndexByteString_k : CR := kC 156 [] [] S6 R1 (bytealg_IndexByteString big)
theorem bytealg_IndexByteString_ok : bytealg_IndexByteString_k.Ok PP X := okC (index_ok (fn := Tryz.f156) Tryz.func156 rfl (by kernel_rfl) (by kernel_rfl) (by kernel_rfl)) (fun R => bytealg_IndexByteString_cps big R) (fun _ _ _ => by kernel_rfl) (by kernel_rfl)
/-! 143 internal/stringslite.IndexByte -/
def stringslite_IndexByte_d : FD := ⟨B0.lean [bytealg_IndexByteString_k] [], 1, [], [], [], Tryz.f143⟩
theorem stringslite_IndexByte_cs : CsOk PP X stringslite_IndexByte_d.cx := csL bOk mixed ⟨bytealg_IndexByteString_ok, trivial⟩ trivial (by kernel_rfl)
theorem stringslite_IndexByte_w : ConOk PP X 143 stringslite_IndexByte_d.raw := rawD stringslite_IndexByte_cs Tryz.func143 (n := 0) (js := []) (by kernel_rfl) trivial trivial
theorem stringslite_IndexByte_T : TK stringslite_IndexByte_d.raw S6 R1 fun R => stringslite_IndexByte_cps big R := fun _ _ _ => by kernel_rfl
def stringslite_IndexByte_k : CR := kC 143 [] [] S6 R1 (stringslite_IndexByte big)
theorem stringslite_IndexByte_ok : stringslite_IndexByte_k.Ok PP X := okC stringslite_IndexByte_w _ stringslite_IndexByte_T (by kernel_rfl)
/-! 121 strings.IndexByte -/
def strings_IndexByte_d : FD := ⟨B0.lean [stringslite_IndexByte_k] [], 1, [], [], [], Tryz.f121⟩
theorem strings_IndexByte_cs : CsOk PP X strings_IndexByte_d.cx := csL bOk mixed ⟨stringslite_IndexByte_ok, trivial⟩ trivial (by kernel_rfl)
theorem strings_IndexByte_w : ConOk PP X 121 strings_IndexByte_d.raw := rawD strings_IndexByte_cs Tryz.func121 (n := 0) (js := []) (by kernel_rfl) trivial trivial
theorem strings_IndexByte_T : TK strings_IndexByte_d.raw S6 R1 fun R => strings_IndexByte_cps big R := fun _ _ _ => by kernel_rfl
def strings_IndexByte_k : CR := kC 121 [] [] S6 R1 (strings_IndexByte big)
theorem strings_IndexByte_ok : strings_IndexByte_k.Ok PP X := okC strings_IndexByte_w _ strings_IndexByte_T (by kernel_rfl)
/-! 115 frankpledge/lex.hex -/
def lex_hex_d : FD := ⟨B0.lean [strings_IndexByte_k] [], 1, [], [], [], Tryz.f115⟩
theorem lex_hex_cs : CsOk PP X lex_hex_d.cx := csL bOk mixed ⟨strings_IndexByte_ok, trivial⟩ trivial (by kernel_rfl)
theorem lex_hex_w : ConOk PP X 115 lex_hex_d.raw := rawD lex_hex_cs Tryz.func115 (n := 0) (js := []) (by kernel_rfl) trivial trivial
theorem lex_hex_T : TK lex_hex_d.raw S1 R1 fun R => lex_hex_cps big R := fun _ _ _ => by kernel_rfl
def lex_hex_k : CR := kC 115 [] [] S1 R1 (lex_hex big)
theorem lex_hex_ok : lex_hex_k.Ok PP X := okC lex_hex_w _ lex_hex_T (by kernel_rfl)
/-! 83 frankpledge/lex.raw -/
def lex_raw_l1F : LF S7 := fun R n k => S7.app (lex_raw_l1 big R (S8.ex k (.exit 0)) (S8.ex k .ret) n)
def lex_raw_l1G : BF S7 := fun R r k => S7.app (lex_raw_l1B big R (S7.cur r) (S8.ex k (.exit 0)) (S8.ex k .ret))
def lex_raw_l1h : LH := lhL S7 lex_raw_l1F (ids [0, 2, 3, 4] [(5, .own .byte)]) [] (ids [0, 2, 4, 5] []) none
def lex_raw_j0F : JF S9 := fun R k => S9.app (lex_raw_j0 big R (S10.ex k .ret))
def lex_raw_j0h : LH := lhJ S9 lex_raw_j0F (ids [0, 2, 3, 4] []) [] (ids [2] []) 1 none
def lex_raw_d : FD := ⟨B0.lean [lex_quoted_k, lex_hex_k] [], 1, [(5, lex_raw_l1h), (1000004, lex_raw_j0h)], [], [], Tryz.f83⟩
theorem lex_raw_cs : CsOk PP X lex_raw_d.cx := csL bOk mixed ⟨lex_quoted_ok, lex_hex_ok, trivial⟩ trivial (by kernel_rfl)
theorem lex_raw_L0 : LOkD lex_raw_d 0 := lokD lex_raw_l1F lex_raw_l1G lex_raw_l1h (by kernel_rfl) (by kernel_rfl) (fun _ _ _ _ => by kernel_rfl) (fun _ _ _ => by kernel_rfl) (fun _ _ _ _ => by kernel_rfl)
theorem lex_raw_J4 : JOkD lex_raw_d 4 := jokD lex_raw_j0F lex_raw_j0h (by kernel_rfl) (by kernel_rfl) (fun _ _ _ => by kernel_rfl)
theorem lex_raw_w : ConOk PP X 83 lex_raw_d.raw := rawD lex_raw_cs Tryz.func83 (n := 1) (js := [4]) (by kernel_rfl) ⟨lex_raw_L0, trivial⟩ ⟨lex_raw_J4, trivial⟩
theorem lex_raw_T : TK lex_raw_d.raw S5 R3 fun R => lex_raw_cps big R := fun _ _ _ => by kernel_rfl
def lex_raw_k : CR := kC 83 [] [] S5 R3 (lex_raw big)
theorem lex_raw_ok : lex_raw_k.Ok PP X := okC lex_raw_w _ lex_raw_T (by kernel_rfl)
/-! 86 frankpledge/lex.isPart -/
def lex_isPart_d : FD := ⟨B0.lean [] [], 1, [], [], [], Tryz.f86⟩
theorem lex_isPart_cs : CsOk PP X lex_isPart_d.cx := csL bOk mixed trivial trivial (by kernel_rfl)
theorem lex_isPart_w : ConOk PP X 86 lex_isPart_d.raw := rawD lex_isPart_cs Tryz.func86 (n := 0) (js := []) (by kernel_rfl) trivial trivial
theorem lex_isPart_T : TK lex_isPart_d.raw S11 R4 fun R => lex_isPart_cps big R := fun _ _ _ => by kernel_rfl
def lex_isPart_k : CR := kC 86 [] [] S11 R4 (lex_isPart big)
theorem lex_isPart_ok : lex_isPart_k.Ok PP X := okC lex_isPart_w _ lex_isPart_T (by kernel_rfl)
/-! 85 frankpledge/lex.span -/
def lex_span_l0F : LF S12 := fun R n k => S12.app (lex_span_l0 big R (S13.ex k (.exit 0)) n)
def lex_span_l0G : BF S12 := fun R r k => S12.app (lex_span_l0B big R (S12.cur r) (S13.ex k (.exit 0)))
def lex_span_l0h : LH := lhL S12 lex_span_l0F (ids [0, 1, 5] []) [] (ids [5] []) none
def lex_span_d : FD := ⟨B0.lean [lex_of_k, lex_isPart_k] [], 1, [(2, lex_span_l0h)], [], [], Tryz.f85⟩
theorem lex_span_cs : CsOk PP X lex_span_d.cx := csL bOk mixed ⟨lex_of_ok, lex_isPart_ok, trivial⟩ trivial (by kernel_rfl)
theorem lex_span_L0 : LOkD lex_span_d 0 := lokD lex_span_l0F lex_span_l0G lex_span_l0h (by kernel_rfl) (by kernel_rfl) (fun _ _ _ _ => by kernel_rfl) (fun _ _ _ => by kernel_rfl) (fun _ _ _ _ => by kernel_rfl)
theorem lex_span_w : ConOk PP X 85 lex_span_d.raw := rawD lex_span_cs Tryz.func85 (n := 1) (js := []) (by kernel_rfl) ⟨lex_span_L0, trivial⟩ trivial
theorem lex_span_T : TK lex_span_d.raw S14 R1 fun R => lex_span_cps big R := fun _ _ _ => by kernel_rfl
def lex_span_k : CR := kC 85 [] [] S14 R1 (lex_span big)
theorem lex_span_ok : lex_span_k.Ok PP X := okC lex_span_w _ lex_span_T (by kernel_rfl)
def strings_ToLower_k : CR := kC 84 [] [] S5 R5 (strings_ToLower big)
theorem strings_ToLower_ok : strings_ToLower_k.Ok PP X := okC shelf_ToLower_84 (fun R => strings_ToLower_cps big R) (fun _ _ _ => by kernel_rfl) (by kernel_rfl)
/-! 119 frankpledge/lex.isFigure -/
def lex_isFigure_d : FD := ⟨B0.lean [] [], 1, [], [], [], Tryz.f119⟩
theorem lex_isFigure_cs : CsOk PP X lex_isFigure_d.cx := csL bOk mixed trivial trivial (by kernel_rfl)
theorem lex_isFigure_w : ConOk PP X 119 lex_isFigure_d.raw := rawD lex_isFigure_cs Tryz.func119 (n := 0) (js := []) (by kernel_rfl) trivial trivial
theorem lex_isFigure_T : TK lex_isFigure_d.raw S11 R4 fun R => lex_isFigure_cps big R := fun _ _ _ => by kernel_rfl
def lex_isFigure_k : CR := kC 119 [] [] S11 R4 (lex_isFigure big)
theorem lex_isFigure_ok : lex_isFigure_k.Ok PP X := okC lex_isFigure_w _ lex_isFigure_T (by kernel_rfl)
/-! 85 frankpledge/lex.span -/
def lex_span_1_l0F : LF S15 := fun R n k => S15.app (lex_span_1_l0 big R (S13.ex k (.exit 0)) n)
def lex_span_1_l0G : BF S15 := fun R r k => S15.app (lex_span_1_l0B big R (S15.cur r) (S13.ex k (.exit 0)))
def lex_span_1_l0h : LH := lhL S15 lex_span_1_l0F (ids [0, 1, 5] []) [] (ids [5] []) none
def lex_span_1_d : FD := ⟨B0.lean [lex_of_k, lex_isFigure_k] [], 1, [(2, lex_span_1_l0h)], [], [], Tryz.f85⟩
theorem lex_span_1_cs : CsOk PP X lex_span_1_d.cx := csL bOk mixed ⟨lex_of_ok, lex_isFigure_ok, trivial⟩ trivial (by kernel_rfl)
theorem lex_span_1_L0 : LOkD lex_span_1_d 0 := lokD lex_span_1_l0F lex_span_1_l0G lex_span_1_l0h (by kernel_rfl) (by kernel_rfl) (fun _ _ _ _ => by kernel_rfl) (fun _ _ _ => by kernel_rfl) (fun _ _ _ _ => by kernel_rfl)
theorem lex_span_1_w : ConOk PP X 85 lex_span_1_d.raw := rawD lex_span_1_cs Tryz.func85 (n := 1) (js := []) (by kernel_rfl) ⟨lex_span_1_L0, trivial⟩ trivial
theorem lex_span_1_T : TK lex_span_1_d.raw S16 R1 fun R => lex_span_1_cps big R := fun _ _ _ => by kernel_rfl
def lex_span_1_k : CR := kC 85 [] [] S16 R1 (lex_span_1 big)
theorem lex_span_1_ok : lex_span_1_k.Ok PP X := okC lex_span_1_w _ lex_span_1_T (by kernel_rfl)
/-! 98 internal/stringslite.HasPrefix -/
def stringslite_HasPrefix_d : FD := ⟨B0.lean [] [], 1, [], [], [], Tryz.f98⟩
theorem stringslite_HasPrefix_cs : CsOk PP X stringslite_HasPrefix_d.cx := csL bOk mixed trivial trivial (by kernel_rfl)
theorem stringslite_HasPrefix_w : ConOk PP X 98 stringslite_HasPrefix_d.raw := rawD stringslite_HasPrefix_cs Tryz.func98 (n := 0) (js := []) (by kernel_rfl) trivial trivial
theorem stringslite_HasPrefix_T : TK stringslite_HasPrefix_d.raw S17 R4 fun R => stringslite_HasPrefix_cps big R := fun _ _ _ => by kernel_rfl
def stringslite_HasPrefix_k : CR := kC 98 [] [] S17 R4 (stringslite_HasPrefix big)
theorem stringslite_HasPrefix_ok : stringslite_HasPrefix_k.Ok PP X := okC stringslite_HasPrefix_w _ stringslite_HasPrefix_T (by kernel_rfl)
/-! 70 strings.HasPrefix -/
def strings_HasPrefix_d : FD := ⟨B0.lean [stringslite_HasPrefix_k] [], 1, [], [], [], Tryz.f70⟩
theorem strings_HasPrefix_cs : CsOk PP X strings_HasPrefix_d.cx := csL bOk mixed ⟨stringslite_HasPrefix_ok, trivial⟩ trivial (by kernel_rfl)
theorem strings_HasPrefix_w : ConOk PP X 70 strings_HasPrefix_d.raw := rawD strings_HasPrefix_cs Tryz.func70 (n := 0) (js := []) (by kernel_rfl) trivial trivial
theorem strings_HasPrefix_T : TK strings_HasPrefix_d.raw S17 R4 fun R => strings_HasPrefix_cps big R := fun _ _ _ => by kernel_rfl
def strings_HasPrefix_k : CR := kC 70 [] [] S17 R4 (strings_HasPrefix big)
theorem strings_HasPrefix_ok : strings_HasPrefix_k.Ok PP X := okC strings_HasPrefix_w _ strings_HasPrefix_T (by kernel_rfl)
def strings_Repeat_k : CR := kC 55 [] [] S18 R5 (strings_Repeat big)
theorem strings_Repeat_ok : strings_Repeat_k.Ok PP X := okC shelf_Repeat_55 (fun R => strings_Repeat_cps big R) (fun _ _ _ => by kernel_rfl) (by kernel_rfl)
def strconv_ParseInt_k : CR := kC 120 [] [] S19 R6 (strconv_ParseInt big)
theorem strconv_ParseInt_ok : strconv_ParseInt_k.Ok PP X := okC shelf_ParseInt_120 (fun R => strconv_ParseInt_cps big R) (fun _ _ _ => by kernel_rfl) (by kernel_rfl)
/-! 87 frankpledge/lex.number -/
def lex_number_j2F : JF S20 := fun R k => S20.app (lex_number_j2 big R (S21.ex k .ret))
def lex_number_j2h : LH := lhJ S20 lex_number_j2F (ids [0, 2, 3, 4, 6] []) [] (ids [2] []) 1 none
def lex_number_j1F : JF S22 := fun R k => S22.app (lex_number_j1 big R (S21.ex k .ret))
def lex_number_j1h : LH := lhJ S22 lex_number_j1F (ids [0, 2, 3, 4, 5, 6] []) [] (ids [2] []) 1 none
def lex_number_j0F : JF S23 := fun R k => S23.app (lex_number_j0 big R (S22.ex k .normal))
def lex_number_j0h : LH := lhJ S23 lex_number_j0F (ids [0, 2, 3, 4, 5, 7] []) [] (ids [0, 2, 3, 4, 5, 6] []) 1 none
def lex_number_d : FD := ⟨B0.lean [strings_Repeat_k, strings_HasPrefix_k, (lex_span_1_k.or lex_span_k), strconv_ParseInt_k] [], 1, [(1000008, lex_number_j0h), (1000010, lex_number_j1h), (1000012, lex_number_j2h)], [], [], Tryz.f87⟩
theorem lex_number_cs : CsOk PP X lex_number_d.cx := csL bOk mixed ⟨strings_Repeat_ok, strings_HasPrefix_ok, (.or_ok rfl lex_span_1_ok lex_span_ok), strconv_ParseInt_ok, trivial⟩ trivial (by kernel_rfl)
theorem lex_number_J8 : JOkD lex_number_d 8 := jokD lex_number_j1F lex_number_j1h (by kernel_rfl) (by kernel_rfl) (fun _ _ _ => by kernel_rfl)
theorem lex_number_J13 : JOkD lex_number_d 13 := jokD lex_number_j0F lex_number_j0h (by kernel_rfl) (by kernel_rfl) (fun _ _ _ => by kernel_rfl)
theorem lex_number_J21 : JOkD lex_number_d 21 := jokD lex_number_j2F lex_number_j2h (by kernel_rfl) (by kernel_rfl) (fun _ _ _ => by kernel_rfl)
theorem lex_number_w : ConOk PP X 87 lex_number_d.raw := rawD lex_number_cs Tryz.func87 (n := 0) (js := [8, 13, 21]) (by kernel_rfl) trivial ⟨lex_number_J8, lex_number_J13, lex_number_J21, trivial⟩
theorem lex_number_T : TK lex_number_d.raw S5 R3 fun R => lex_number_cps big R := fun _ _ _ => by kernel_rfl
def lex_number_k : CR := kC 87 [] [] S5 R3 (lex_number big)
theorem lex_number_ok : lex_number_k.Ok PP X := okC lex_number_w _ lex_number_T (by kernel_rfl)
/-! 88 frankpledge/lex.text -/
def lex_text_d : FD := ⟨B0.lean [lex_quoted_k] [], 1, [], [], [], Tryz.f88⟩
theorem lex_text_cs : CsOk PP X lex_text_d.cx := csL bOk mixed ⟨lex_quoted_ok, trivial⟩ trivial (by kernel_rfl)
theorem lex_text_w : ConOk PP X 88 lex_text_d.raw := rawD lex_text_cs Tryz.func88 (n := 0) (js := []) (by kernel_rfl) trivial trivial
theorem lex_text_T : TK lex_text_d.raw S5 R3 fun R => lex_text_cps big R := fun _ _ _ => by kernel_rfl
def lex_text_k : CR := kC 88 [] [] S5 R3 (lex_text big)
theorem lex_text_ok : lex_text_k.Ok PP X := okC lex_text_w _ lex_text_T (by kernel_rfl)
/-! 89 frankpledge/lex.sign -/
def lex_sign_l0F : LF S24 := fun R n k => S24.app (lex_sign_l0 big R (S25.ex k (.exit 0)) (S25.ex k .ret) n)
def lex_sign_l0G : BF S24 := fun R r k => S24.app (lex_sign_l0B big R (S24.cur r) (S25.ex k (.exit 0)) (S25.ex k .ret))
def lex_sign_l0h : LH := lhL S24 lex_sign_l0F (ids [0, 2, 5, 6, 7] []) [] (ids [0, 2] []) none
def lex_sign_d : FD := ⟨B0.lean [strings_HasPrefix_k, strings_IndexByte_k] [], 1, [(2, lex_sign_l0h)], [], [], Tryz.f89⟩
theorem lex_sign_cs : CsOk PP X lex_sign_d.cx := csL bOk mixed ⟨strings_HasPrefix_ok, strings_IndexByte_ok, trivial⟩ trivial (by kernel_rfl)
theorem lex_sign_L0 : LOkD lex_sign_d 0 := lokD lex_sign_l0F lex_sign_l0G lex_sign_l0h (by kernel_rfl) (by kernel_rfl) (fun _ _ _ _ => by kernel_rfl) (fun _ _ _ => by kernel_rfl) (fun _ _ _ _ => by kernel_rfl)
theorem lex_sign_w : ConOk PP X 89 lex_sign_d.raw := rawD lex_sign_cs Tryz.func89 (n := 1) (js := []) (by kernel_rfl) ⟨lex_sign_L0, trivial⟩ trivial
theorem lex_sign_T : TK lex_sign_d.raw S5 R3 fun R => lex_sign_cps big R := fun _ _ _ => by kernel_rfl
def lex_sign_k : CR := kC 89 [] [] S5 R3 (lex_sign big)
theorem lex_sign_ok : lex_sign_k.Ok PP X := okC lex_sign_w _ lex_sign_T (by kernel_rfl)
/-! 61 frankpledge/lex.next -/
def lex_next_d : FD := ⟨B0.lean [lex_of_k, lex_raw_k, strings_ToLower_k, lex_span_k, lex_number_k, lex_text_k, lex_sign_k] [], 1, [], [], [], Tryz.f61⟩
theorem lex_next_cs : CsOk PP X lex_next_d.cx := csL bOk mixed ⟨lex_of_ok, lex_raw_ok, strings_ToLower_ok, lex_span_ok, lex_number_ok, lex_text_ok, lex_sign_ok, trivial⟩ trivial (by kernel_rfl)
theorem lex_next_w : ConOk PP X 61 lex_next_d.raw := rawD lex_next_cs Tryz.func61 (n := 0) (js := []) (by kernel_rfl) trivial trivial
theorem lex_next_T : TK lex_next_d.raw S5 R3 fun R => lex_next_cps big R := fun _ _ _ => by kernel_rfl
def lex_next_k : CR := kC 61 [] [] S5 R3 (lex_next big)
theorem lex_next_ok : lex_next_k.Ok PP X := okC lex_next_w _ lex_next_T (by kernel_rfl)
/-! 42 frankpledge/lex.Lex -/
def lex_Lex_l0F : LF S26 := fun R n k => S26.app (lex_Lex_l0 big R (S27.ex k (.exit 0)) (S28.ex k .ret) n)
def lex_Lex_l0G : BF S26 := fun R r k => S26.app (lex_Lex_l0B big R (S26.cur r) (S27.ex k (.exit 0)) (S28.ex k .ret))
def lex_Lex_l0h : LH := lhL S26 lex_Lex_l0F (ids [0, 5] [(4, .own (.pair (.int .i64) (.pair .str (.pair (.pair (.int .i64) (.pair (.int .i64) (.pair .str .unit))) (.pair (.int .i64) .unit)))))]) [] (ids [0, 2, 3, 4] []) none
def lex_Lex_d : FD := ⟨B0.lean [fault_New_k, lex_of_k, lex_next_k] [], 1, [(5, lex_Lex_l0h)], [.ro (.pair (.int .i64) (.pair .str (.pair (.pair (.int .i64) (.pair (.int .i64) (.pair .str .unit))) (.pair (.int .i64) .unit)))), .id], [], Tryz.f42⟩
theorem lex_Lex_cs : CsOk PP X lex_Lex_d.cx := csL bOk mixed ⟨fault_New_ok, lex_of_ok, lex_next_ok, trivial⟩ trivial (by kernel_rfl)
theorem lex_Lex_L0 : LOkD lex_Lex_d 0 := lokD lex_Lex_l0F lex_Lex_l0G lex_Lex_l0h (by kernel_rfl) (by kernel_rfl) (fun _ _ _ _ => by kernel_rfl) (fun _ _ _ => by kernel_rfl) (fun _ _ _ _ => by kernel_rfl)
theorem lex_Lex_w : ConOk PP X 42 lex_Lex_d.raw := rawD lex_Lex_cs Tryz.func42 (n := 1) (js := []) (by kernel_rfl) ⟨lex_Lex_L0, trivial⟩ trivial
theorem lex_Lex_T : TK lex_Lex_d.raw S5 R7 fun R => lex_Lex_cps big R := fun _ _ _ => by kernel_rfl
def lex_Lex_k : CR := kC 42 [] [] S5 R7 (lex_Lex big)
theorem lex_Lex_ok : lex_Lex_k.Ok PP X := okC lex_Lex_w _ lex_Lex_T (by kernel_rfl)
def fault_At_k : CR := kC 19 [] [] S29 R1 (fault_At big)
theorem fault_At_ok : fault_At_k.Ok PP X := okC shelf_At_19 (fun R => fault_At_cps big R) (fun _ _ _ => by kernel_rfl) (by kernel_rfl)
/-! 43 frankpledge/fault.Wrap -/
def fault_Wrap_d : FD := ⟨(BX [] [] false).lean [] [], 1, [], [], [], Tryz.f43⟩
theorem fault_Wrap_cs : CsOk PP X fault_Wrap_d.cx := csL bxOk mixed trivial trivial (by kernel_rfl)
theorem fault_Wrap_w : ConOk PP X 43 fault_Wrap_d.raw := rawD fault_Wrap_cs Tryz.func43 (n := 0) (js := []) (by kernel_rfl) trivial trivial
theorem fault_Wrap_T : TK fault_Wrap_d.raw S30 R0 fun R => fault_Wrap_cps big R := fun _ _ _ => by kernel_rfl
def fault_Wrap_k : CR := kC 43 [] [] S30 R0 (fault_Wrap big)
theorem fault_Wrap_ok : fault_Wrap_k.Ok PP X := okC fault_Wrap_w _ fault_Wrap_T (by kernel_rfl)
/-! 44 (*frankpledge/parse.parser).is -/
def parse_parser_is_d : FD := ⟨B0.lean [] [], 1, [], [], [], Tryz.f44⟩
theorem parse_parser_is_cs : CsOk PP X parse_parser_is_d.cx := csL bOk mixed trivial trivial (by kernel_rfl)
theorem parse_parser_is_w : ConOk PP X 44 parse_parser_is_d.raw := rawD parse_parser_is_cs Tryz.func44 (n := 0) (js := []) (by kernel_rfl) trivial trivial
theorem parse_parser_is_T : TK parse_parser_is_d.raw S31 R4 fun R => parse_parser_is_cps big R := fun _ _ _ => by kernel_rfl
def parse_parser_is_k : CR := kC 44 [.arg 0] [] S31 R4 (parse_parser_is big)
theorem parse_parser_is_ok : parse_parser_is_k.Ok PP X := okC parse_parser_is_w _ parse_parser_is_T (by kernel_rfl)
/-! 45 (*frankpledge/parse.parser).next -/
def parse_parser_next_d : FD := ⟨B0.lean [] [], 1, [], [], [], Tryz.f45⟩
theorem parse_parser_next_cs : CsOk PP X parse_parser_next_d.cx := csL bOk mixed trivial trivial (by kernel_rfl)
theorem parse_parser_next_w : ConOk PP X 45 parse_parser_next_d.raw := rawD parse_parser_next_cs Tryz.func45 (n := 0) (js := []) (by kernel_rfl) trivial trivial
theorem parse_parser_next_T : TF parse_parser_next_d.raw S32 R8 fun R => parse_parser_next_cps big R := fun _ _ _ => by kernel_rfl
def parse_parser_next_k : CR := kF 45 [.arg 0] [] S32 R8 (parse_parser_next big)
theorem parse_parser_next_ok : parse_parser_next_k.Ok PP X := okF parse_parser_next_w _ parse_parser_next_T (by kernel_rfl)
/-! 21 (*frankpledge/parse.parser).take -/
def parse_parser_take_d : FD := ⟨B0.lean [parse_parser_is_k, parse_parser_next_k] [], 1, [], [], [], Tryz.f21⟩
theorem parse_parser_take_cs : CsOk PP X parse_parser_take_d.cx := csL bOk mixed ⟨parse_parser_is_ok, parse_parser_next_ok, trivial⟩ trivial (by kernel_rfl)
theorem parse_parser_take_w : ConOk PP X 21 parse_parser_take_d.raw := rawD parse_parser_take_cs Tryz.func21 (n := 0) (js := []) (by kernel_rfl) trivial trivial
theorem parse_parser_take_T : TF parse_parser_take_d.raw S31 R9 fun R => parse_parser_take_cps big R := fun _ _ _ => by kernel_rfl
def parse_parser_take_k : CR := kF 21 [.arg 0] [] S31 R9 (parse_parser_take big)
theorem parse_parser_take_ok : parse_parser_take_k.Ok PP X := okF parse_parser_take_w _ parse_parser_take_T (by kernel_rfl)
/-! 48 (*frankpledge/parse.parser).at -/
def parse_parser_at_d : FD := ⟨B0.lean [] [], 1, [], [], [], Tryz.f48⟩
theorem parse_parser_at_cs : CsOk PP X parse_parser_at_d.cx := csL bOk mixed trivial trivial (by kernel_rfl)
theorem parse_parser_at_w : ConOk PP X 48 parse_parser_at_d.raw := rawD parse_parser_at_cs Tryz.func48 (n := 0) (js := []) (by kernel_rfl) trivial trivial
theorem parse_parser_at_T : TK parse_parser_at_d.raw S32 R1 fun R => parse_parser_at_cps big R := fun _ _ _ => by kernel_rfl
def parse_parser_at_k : CR := kC 48 [.arg 0] [] S32 R1 (parse_parser_at big)
theorem parse_parser_at_ok : parse_parser_at_k.Ok PP X := okC parse_parser_at_w _ parse_parser_at_T (by kernel_rfl)
/-! 28 (*frankpledge/parse.parser).fail -/
def parse_parser_fail_d : FD := ⟨B0.lean [parse_parser_at_k, fault_New_k] [], 1, [], [], [], Tryz.f28⟩
theorem parse_parser_fail_cs : CsOk PP X parse_parser_fail_d.cx := csL bOk mixed ⟨parse_parser_at_ok, fault_New_ok, trivial⟩ trivial (by kernel_rfl)
theorem parse_parser_fail_w : ConOk PP X 28 parse_parser_fail_d.raw := rawD parse_parser_fail_cs Tryz.func28 (n := 0) (js := []) (by kernel_rfl) trivial trivial
theorem parse_parser_fail_T : TF parse_parser_fail_d.raw S33 R10 fun R => parse_parser_fail_cps big R := fun _ _ _ => by kernel_rfl
def parse_parser_fail_k : CR := kF 28 [.arg 0] [] S33 R10 (parse_parser_fail big)
theorem parse_parser_fail_ok : parse_parser_fail_k.Ok PP X := okF parse_parser_fail_w _ parse_parser_fail_T (by kernel_rfl)
/-! 25 (*frankpledge/parse.parser).want -/
def parse_parser_want_l0F : LF S34 := fun R n k => S34.app (parse_parser_want_l0 big R (S35.ex k (.exit 0)) n)
def parse_parser_want_l0G : BF S34 := fun R r k => S34.app (parse_parser_want_l0B big R (S34.cur r) (S35.ex k (.exit 0)))
def parse_parser_want_l0h : LH := lhL S34 parse_parser_want_l0F (ids [0, 6, 7, 8] []) [] [] none
def parse_parser_want_d : FD := ⟨B0.lean [parse_parser_take_k, parse_parser_fail_k] [], 1, [(1, parse_parser_want_l0h)], [], [], Tryz.f25⟩
theorem parse_parser_want_cs : CsOk PP X parse_parser_want_d.cx := csL bOk mixed ⟨parse_parser_take_ok, parse_parser_fail_ok, trivial⟩ trivial (by kernel_rfl)
theorem parse_parser_want_L0 : LOkD parse_parser_want_d 0 := lokD parse_parser_want_l0F parse_parser_want_l0G parse_parser_want_l0h (by kernel_rfl) (by kernel_rfl) (fun _ _ _ _ => by kernel_rfl) (fun _ _ _ => by kernel_rfl) (fun _ _ _ _ => by kernel_rfl)
theorem parse_parser_want_w : ConOk PP X 25 parse_parser_want_d.raw := rawD parse_parser_want_cs Tryz.func25 (n := 1) (js := []) (by kernel_rfl) ⟨parse_parser_want_L0, trivial⟩ trivial
theorem parse_parser_want_T : TF parse_parser_want_d.raw S36 R10 fun R => parse_parser_want_cps big R := fun _ _ _ => by kernel_rfl
def parse_parser_want_k : CR := kF 25 [.arg 0] [] S36 R10 (parse_parser_want big)
theorem parse_parser_want_ok : parse_parser_want_k.Ok PP X := okF parse_parser_want_w _ parse_parser_want_T (by kernel_rfl)
/-! 123 frankpledge/parse.comparison -/
def parse_comparison_d : FD := ⟨B0.lean [] [], 1, [], [], [], Tryz.f123⟩
theorem parse_comparison_cs : CsOk PP X parse_comparison_d.cx := csL bOk mixed trivial trivial (by kernel_rfl)
theorem parse_comparison_w : ConOk PP X 123 parse_comparison_d.raw := rawD parse_comparison_cs Tryz.func123 (n := 0) (js := []) (by kernel_rfl) trivial trivial
theorem parse_comparison_T : TK parse_comparison_d.raw S5 R1 fun R => parse_comparison_cps big R := fun _ _ _ => by kernel_rfl
def parse_comparison_k : CR := kC 123 [] [] S5 R1 (parse_comparison big)
theorem parse_comparison_ok : parse_comparison_k.Ok PP X := okC parse_comparison_w _ parse_comparison_T (by kernel_rfl)
/-! 122 slices.Index[[]string,string] -/
def slices_Index_string_string_l0F : LF S37 := fun R n k => S37.app (slices_Index_string_string_l0 big R (S38.ex k (.exit 0)) (S39.ex k .ret) n)
def slices_Index_string_string_l0G : BF S37 := fun R r k => S37.app (slices_Index_string_string_l0B big R (S37.cur r) (S38.ex k (.exit 0)) (S39.ex k .ret))
def slices_Index_string_string_l0h : LH := lhL S37 slices_Index_string_string_l0F (ids [0, 1, 7, 8] []) [] (ids [4] []) none
def slices_Index_string_string_d : FD := ⟨B0.lean [] [], 1, [(2, slices_Index_string_string_l0h)], [], [], Tryz.f122⟩
theorem slices_Index_string_string_cs : CsOk PP X slices_Index_string_string_d.cx := csL bOk mixed trivial trivial (by kernel_rfl)
theorem slices_Index_string_string_L0 : LOkD slices_Index_string_string_d 0 := lokD slices_Index_string_string_l0F slices_Index_string_string_l0G slices_Index_string_string_l0h (by kernel_rfl) (by kernel_rfl) (fun _ _ _ _ => by kernel_rfl) (fun _ _ _ => by kernel_rfl) (fun _ _ _ _ => by kernel_rfl)
theorem slices_Index_string_string_w : ConOk PP X 122 slices_Index_string_string_d.raw := rawD slices_Index_string_string_cs Tryz.func122 (n := 1) (js := []) (by kernel_rfl) ⟨slices_Index_string_string_L0, trivial⟩ trivial
theorem slices_Index_string_string_T : TK slices_Index_string_string_d.raw S40 R1 fun R => slices_Index_string_string_cps big R := fun _ _ _ => by kernel_rfl
def slices_Index_string_string_k : CR := kC 122 [] [] S40 R1 (slices_Index_string_string big)
theorem slices_Index_string_string_ok : slices_Index_string_string_k.Ok PP X := okC slices_Index_string_string_w _ slices_Index_string_string_T (by kernel_rfl)
/-! 90 slices.Contains[[]string,string] -/
def slices_Contains_string_string_d : FD := ⟨B0.lean [slices_Index_string_string_k] [], 1, [], [], [], Tryz.f90⟩
theorem slices_Contains_string_string_cs : CsOk PP X slices_Contains_string_string_d.cx := csL bOk mixed ⟨slices_Index_string_string_ok, trivial⟩ trivial (by kernel_rfl)
theorem slices_Contains_string_string_w : ConOk PP X 90 slices_Contains_string_string_d.raw := rawD slices_Contains_string_string_cs Tryz.func90 (n := 0) (js := []) (by kernel_rfl) trivial trivial
theorem slices_Contains_string_string_T : TK slices_Contains_string_string_d.raw S40 R4 fun R => slices_Contains_string_string_cps big R := fun _ _ _ => by kernel_rfl
def slices_Contains_string_string_k : CR := kC 90 [] [] S40 R4 (slices_Contains_string_string big)
theorem slices_Contains_string_string_ok : slices_Contains_string_string_k.Ok PP X := okC slices_Contains_string_string_w _ slices_Contains_string_string_T (by kernel_rfl)
/-! 62 frankpledge/parse.reserved -/
def parse_reserved_d : FD := ⟨B0.lean [slices_Contains_string_string_k] [], 1, [], [], [], Tryz.f62⟩
theorem parse_reserved_cs : CsOk PP X parse_reserved_d.cx := csL bOk mixed ⟨slices_Contains_string_string_ok, trivial⟩ trivial (by kernel_rfl)
theorem parse_reserved_w : ConOk PP X 62 parse_reserved_d.raw := rawD parse_reserved_cs Tryz.func62 (n := 0) (js := []) (by kernel_rfl) trivial trivial
theorem parse_reserved_T : TK parse_reserved_d.raw S5 R4 fun R => parse_reserved_cps big R := fun _ _ _ => by kernel_rfl
def parse_reserved_k : CR := kC 62 [] [] S5 R4 (parse_reserved big)
theorem parse_reserved_ok : parse_reserved_k.Ok PP X := okC parse_reserved_w _ parse_reserved_T (by kernel_rfl)
/-! 47 (*frankpledge/parse.parser).name -/
def parse_parser_name_d : FD := ⟨B0.lean [parse_parser_fail_k, parse_parser_next_k, parse_reserved_k] [], 1, [], [], [], Tryz.f47⟩
theorem parse_parser_name_cs : CsOk PP X parse_parser_name_d.cx := csL bOk mixed ⟨parse_parser_fail_ok, parse_parser_next_ok, parse_reserved_ok, trivial⟩ trivial (by kernel_rfl)
theorem parse_parser_name_w : ConOk PP X 47 parse_parser_name_d.raw := rawD parse_parser_name_cs Tryz.func47 (n := 0) (js := []) (by kernel_rfl) trivial trivial
theorem parse_parser_name_T : TF parse_parser_name_d.raw S32 R12 fun R => parse_parser_name_cps big R := fun _ _ _ => by kernel_rfl
def parse_parser_name_k : CR := kF 47 [.arg 0] [] S32 R12 (parse_parser_name big)
theorem parse_parser_name_ok : parse_parser_name_k.Ok PP X := okF parse_parser_name_w _ parse_parser_name_T (by kernel_rfl)
/-! 65 frankpledge/parse.op -/
def parse_op_j0F : JF S50 := fun R k => S50.app (parse_op_j0 big R (S51.ex k .ret))
def parse_op_j0h : LH := lhJ S50 parse_op_j0F (ids [1, 2] []) [] (ids [4] []) 1 none
def parse_op_d : FD := ⟨B0.lean [] [], 1, [(1000003, parse_op_j0h)], [], [], Tryz.f65⟩
theorem parse_op_cs : CsOk PP X parse_op_d.cx := csL bOk mixed trivial trivial (by kernel_rfl)
theorem parse_op_J2 : JOkD parse_op_d 2 := jokD parse_op_j0F parse_op_j0h (by kernel_rfl) (by kernel_rfl) (fun _ _ _ => by kernel_rfl)
theorem parse_op_w : ConOk PP X 65 parse_op_d.raw := rawD parse_op_cs Tryz.func65 (n := 0) (js := [2]) (by kernel_rfl) trivial ⟨parse_op_J2, trivial⟩
theorem parse_op_T : TK parse_op_d.raw S52 R1 fun R => parse_op_cps big R := fun _ _ _ => by kernel_rfl
def parse_op_k : CR := kC 65 [] [] S52 R1 (parse_op big)
theorem parse_op_ok : parse_op_k.Ok PP X := okC parse_op_w _ parse_op_T (by kernel_rfl)
/-! The functions about parse_parser_whole: they call one another. -/
set_option warn.classDefReducibility false
set_option linter.unusedSectionVars false
section
variable [Fuel]
def Z_parse_parser_whole_inst : Z_parse_parser_whole := Z_parse_parser_whole_at big Fuel.n
attribute [local instance] Z_parse_parser_whole_inst
def rec_parse_parser_not_k : CR := kF 63 [.arg 0] [] S32 R13 Z_parse_parser_whole.r_parse_parser_not
def rec_parse_parser_sign_k : CR := kF 64 [.arg 0] [] S32 R13 Z_parse_parser_whole.r_parse_parser_sign
def rec_parse_parser_expr_k : CR := kF 50 [.arg 0] [] S33 R13 Z_parse_parser_whole.r_parse_parser_expr
def rec_parse_parser_whole_k : CR := kF 31 [.arg 0] [] S32 R13 Z_parse_parser_whole.r_parse_parser_whole
class H_parse_parser_whole : Prop where
  h_parse_parser_not : rec_parse_parser_not_k.Ok PP X
  h_parse_parser_sign : rec_parse_parser_sign_k.Ok PP X
  h_parse_parser_expr : rec_parse_parser_expr_k.Ok PP X
  h_parse_parser_whole : rec_parse_parser_whole_k.Ok PP X
variable [H_parse_parser_whole]
theorem rec_parse_parser_not_ok : rec_parse_parser_not_k.Ok PP X := H_parse_parser_whole.h_parse_parser_not
theorem rec_parse_parser_sign_ok : rec_parse_parser_sign_k.Ok PP X := H_parse_parser_whole.h_parse_parser_sign
theorem rec_parse_parser_expr_ok : rec_parse_parser_expr_k.Ok PP X := H_parse_parser_whole.h_parse_parser_expr
theorem rec_parse_parser_whole_ok : rec_parse_parser_whole_k.Ok PP X := H_parse_parser_whole.h_parse_parser_whole
/- 91 (*frankpledge/parse.parser).test -/
def parse_parser_test_o_r0F : JF S45 := fun R k => S45.app (parse_parser_test_o_r0 big R (S46.ex k .normal))
def parse_parser_test_o_r0h : LH := lhJ S45 parse_parser_test_o_r0F (ids [0, 2, 3, 4, 6] []) [] (ids [2] []) 4 none
def parse_parser_test_o_d : FD := ⟨B0.lean [parse_parser_take_k, parse_parser_want_k, parse_parser_next_k, rec_parse_parser_expr_k, parse_comparison_k] [], 1, [(2000015, parse_parser_test_o_r0h)], [], [], Tryz.f91⟩
theorem parse_parser_test_o_cs : CsOk PP X parse_parser_test_o_d.cx := csL bOk mixed ⟨parse_parser_take_ok, parse_parser_want_ok, parse_parser_next_ok, rec_parse_parser_expr_ok, parse_comparison_ok, trivial⟩ trivial (by kernel_rfl)
theorem parse_parser_test_o_J34 : JOkD parse_parser_test_o_d 34 := rokD parse_parser_test_o_cs parse_parser_test_o_r0F parse_parser_test_o_r0h (by kernel_rfl) rfl rfl (by kernel_rfl) (by kernel_rfl) [[0, 1, 4, 2, 3, 5, 6, 7, 8], [0, 1, 4, 2, 5, 3, 6, 7, 8], [0, 1, 4, 3, 2, 5, 6, 7, 8], [0, 1, 4, 3, 5, 2, 6, 7, 8], [0, 1, 4, 5, 2, 3, 6, 7, 8]] (by kernel_rfl) ⟨(fun _ _ _ => by kernel_rfl), (fun _ _ _ => by kernel_rfl), (fun _ _ _ => by kernel_rfl), (fun _ _ _ => by kernel_rfl), (fun _ _ _ => by kernel_rfl), trivial⟩
theorem parse_parser_test_o_w : ConOk PP X 91 parse_parser_test_o_d.raw := rawD parse_parser_test_o_cs Tryz.func91 (n := 0) (js := [34]) (by kernel_rfl) trivial ⟨parse_parser_test_o_J34, trivial⟩
theorem parse_parser_test_o_T : TF parse_parser_test_o_d.raw S32 R13 fun R => parse_parser_test_o_cps big R := fun _ _ _ => by kernel_rfl
def parse_parser_test_o_k : CR := kF 91 [.arg 0] [] S32 R13 (parse_parser_test_o big)
theorem parse_parser_test_o_ok : parse_parser_test_o_k.Ok PP X := okF parse_parser_test_o_w _ parse_parser_test_o_T (by kernel_rfl)
/- 92 (*frankpledge/parse.parser).within -/
def parse_parser_within_o_d : FD := ⟨B0.lean [parse_parser_fail_k, rec_parse_parser_not_k] [], 1, [], [(.inn [none, none, none, none, none, none, none, some .ex, none, none])], [], Tryz.f92⟩
theorem parse_parser_within_o_cs : CsOk PP X parse_parser_within_o_d.cx := csL bOk mixed ⟨parse_parser_fail_ok, rec_parse_parser_not_ok, trivial⟩ trivial (by kernel_rfl)
theorem parse_parser_within_o_w : ConOk PP X 92 parse_parser_within_o_d.raw := rawD parse_parser_within_o_cs Tryz.func92 (n := 0) (js := []) (by kernel_rfl) trivial trivial
theorem parse_parser_within_o_T : TF parse_parser_within_o_d.raw S47 R13 fun R => parse_parser_within_o_cps big R := fun _ _ _ => by kernel_rfl
def parse_parser_within_o_k : CR := kF 92 [.arg 0] [] S47 R13 (parse_parser_within_o big)
theorem parse_parser_within_o_ok : parse_parser_within_o_k.Ok PP X := okF parse_parser_within_o_w _ parse_parser_within_o_T (by kernel_rfl)
/- 63 (*frankpledge/parse.parser).not -/
def parse_parser_not_o_d : FD := ⟨B0.lean [parse_parser_is_k, parse_parser_next_k, parse_parser_test_o_k, parse_parser_within_o_k] [], 1, [], [], [], Tryz.f63⟩
theorem parse_parser_not_o_cs : CsOk PP X parse_parser_not_o_d.cx := csL bOk mixed ⟨parse_parser_is_ok, parse_parser_next_ok, parse_parser_test_o_ok, parse_parser_within_o_ok, trivial⟩ trivial (by kernel_rfl)
theorem parse_parser_not_o_w : ConOk PP X 63 parse_parser_not_o_d.raw := rawD parse_parser_not_o_cs Tryz.func63 (n := 0) (js := []) (by kernel_rfl) trivial trivial
theorem parse_parser_not_o_T : TF parse_parser_not_o_d.raw S32 R13 fun R => parse_parser_not_o_cps big R := fun _ _ _ => by kernel_rfl
def parse_parser_not_o_k : CR := kF 63 [.arg 0] [] S32 R13 (parse_parser_not_o big)
theorem parse_parser_not_o_ok : parse_parser_not_o_k.Ok PP X := okF parse_parser_not_o_w _ parse_parser_not_o_T (by kernel_rfl)
/- 92 (*frankpledge/parse.parser).within -/
def parse_parser_within_1_o_d : FD := ⟨B0.lean [parse_parser_fail_k, rec_parse_parser_whole_k] [], 1, [], [(.inn [none, none, none, none, none, none, none, some .ex, none, none])], [], Tryz.f92⟩
theorem parse_parser_within_1_o_cs : CsOk PP X parse_parser_within_1_o_d.cx := csL bOk mixed ⟨parse_parser_fail_ok, rec_parse_parser_whole_ok, trivial⟩ trivial (by kernel_rfl)
theorem parse_parser_within_1_o_w : ConOk PP X 92 parse_parser_within_1_o_d.raw := rawD parse_parser_within_1_o_cs Tryz.func92 (n := 0) (js := []) (by kernel_rfl) trivial trivial
theorem parse_parser_within_1_o_T : TF parse_parser_within_1_o_d.raw S48 R13 fun R => parse_parser_within_1_o_cps big R := fun _ _ _ => by kernel_rfl
def parse_parser_within_1_o_k : CR := kF 92 [.arg 0] [] S48 R13 (parse_parser_within_1_o big)
theorem parse_parser_within_1_o_ok : parse_parser_within_1_o_k.Ok PP X := okF parse_parser_within_1_o_w _ parse_parser_within_1_o_T (by kernel_rfl)
/- 124 (*frankpledge/parse.parser).inner -/
def parse_parser_inner_o_d : FD := ⟨B0.lean [parse_parser_want_k, parse_parser_within_1_o_k] [], 1, [], [], [], Tryz.f124⟩
theorem parse_parser_inner_o_cs : CsOk PP X parse_parser_inner_o_d.cx := csL bOk mixed ⟨parse_parser_want_ok, parse_parser_within_1_o_ok, trivial⟩ trivial (by kernel_rfl)
theorem parse_parser_inner_o_w : ConOk PP X 124 parse_parser_inner_o_d.raw := rawD parse_parser_inner_o_cs Tryz.func124 (n := 0) (js := []) (by kernel_rfl) trivial trivial
theorem parse_parser_inner_o_T : TF parse_parser_inner_o_d.raw S32 R13 fun R => parse_parser_inner_o_cps big R := fun _ _ _ => by kernel_rfl
def parse_parser_inner_o_k : CR := kF 124 [.arg 0] [] S32 R13 (parse_parser_inner_o big)
theorem parse_parser_inner_o_ok : parse_parser_inner_o_k.Ok PP X := okF parse_parser_inner_o_w _ parse_parser_inner_o_T (by kernel_rfl)
/- 125 (*frankpledge/parse.parser).word -/
def parse_parser_word_o_r1F : JF S41 := fun R k => S41.app (parse_parser_word_o_r1 big R (S42.ex k .normal))
def parse_parser_word_o_r1h : LH := lhJ S41 parse_parser_word_o_r1F (ids [0, 6, 7] []) [] (ids [6, 7] []) 5 none
def parse_parser_word_o_j0F : JF S43 := fun R k => S43.app (parse_parser_word_o_j0 big R (S41.ex k .normal) (S41.ex k .ret))
def parse_parser_word_o_j0h : LH := lhJ S43 parse_parser_word_o_j0F (ids [0, 6, 7, 71] []) [] (ids [0, 6, 7] []) 5 none
def parse_parser_word_o_d : FD := ⟨B0.lean [parse_parser_take_k, parse_parser_want_k, parse_parser_next_k, parse_parser_name_k, parse_parser_inner_o_k] [], 1, [(1000015, parse_parser_word_o_j0h), (2000025, parse_parser_word_o_r1h)], [(.inn [none, none, none, none, none, none, none, some .ex, none, none])], [], Tryz.f125⟩
theorem parse_parser_word_o_cs : CsOk PP X parse_parser_word_o_d.cx := csL bOk mixed ⟨parse_parser_take_ok, parse_parser_want_ok, parse_parser_next_ok, parse_parser_name_ok, parse_parser_inner_o_ok, trivial⟩ trivial (by kernel_rfl)
theorem parse_parser_word_o_J45 : JOkD parse_parser_word_o_d 45 := jokD parse_parser_word_o_j0F parse_parser_word_o_j0h (by kernel_rfl) (by kernel_rfl) (fun _ _ _ => by kernel_rfl)
theorem parse_parser_word_o_J68 : JOkD parse_parser_word_o_d 68 := rokD parse_parser_word_o_cs parse_parser_word_o_r1F parse_parser_word_o_r1h (by kernel_rfl) rfl rfl (by kernel_rfl) (by kernel_rfl) [[0, 2, 1, 3, 4, 5, 6, 7], [0, 2, 3, 1, 4, 5, 6, 7]] (by kernel_rfl) ⟨(fun _ _ _ => by kernel_rfl), (fun _ _ _ => by kernel_rfl), trivial⟩
theorem parse_parser_word_o_w : ConOk PP X 125 parse_parser_word_o_d.raw := rawD parse_parser_word_o_cs Tryz.func125 (n := 0) (js := [45, 68]) (by kernel_rfl) trivial ⟨parse_parser_word_o_J45, parse_parser_word_o_J68, trivial⟩
theorem parse_parser_word_o_T : TF parse_parser_word_o_d.raw S44 R13 fun R => parse_parser_word_o_cps big R := fun _ _ _ => by kernel_rfl
def parse_parser_word_o_k : CR := kF 125 [.arg 0] [.id, .id, (.inn [none, none, none, none, none, none, none, some .ex, none, none])] S44 R13 (parse_parser_word_o big)
theorem parse_parser_word_o_ok : parse_parser_word_o_k.Ok PP X := okF parse_parser_word_o_w _ parse_parser_word_o_T (by kernel_rfl)
/- 93 (*frankpledge/parse.parser).one -/
def parse_parser_one_o_d : FD := ⟨B0.lean [parse_parser_fail_k, parse_parser_next_k, parse_parser_inner_o_k, parse_parser_word_o_k] [], 1, [], [(.inn [none, none, none, none, none, none, none, some .ex, none, none])], [], Tryz.f93⟩
theorem parse_parser_one_o_cs : CsOk PP X parse_parser_one_o_d.cx := csL bOk mixed ⟨parse_parser_fail_ok, parse_parser_next_ok, parse_parser_inner_o_ok, parse_parser_word_o_ok, trivial⟩ trivial (by kernel_rfl)
theorem parse_parser_one_o_w : ConOk PP X 93 parse_parser_one_o_d.raw := rawD parse_parser_one_o_cs Tryz.func93 (n := 0) (js := []) (by kernel_rfl) trivial trivial
theorem parse_parser_one_o_T : TF parse_parser_one_o_d.raw S32 R13 fun R => parse_parser_one_o_cps big R := fun _ _ _ => by kernel_rfl
def parse_parser_one_o_k : CR := kF 93 [.arg 0] [] S32 R13 (parse_parser_one_o big)
theorem parse_parser_one_o_ok : parse_parser_one_o_k.Ok PP X := okF parse_parser_one_o_w _ parse_parser_one_o_T (by kernel_rfl)
/- 92 (*frankpledge/parse.parser).within -/
def parse_parser_within_2_o_d : FD := ⟨B0.lean [parse_parser_fail_k, rec_parse_parser_sign_k] [], 1, [], [(.inn [none, none, none, none, none, none, none, some .ex, none, none])], [], Tryz.f92⟩
theorem parse_parser_within_2_o_cs : CsOk PP X parse_parser_within_2_o_d.cx := csL bOk mixed ⟨parse_parser_fail_ok, rec_parse_parser_sign_ok, trivial⟩ trivial (by kernel_rfl)
theorem parse_parser_within_2_o_w : ConOk PP X 92 parse_parser_within_2_o_d.raw := rawD parse_parser_within_2_o_cs Tryz.func92 (n := 0) (js := []) (by kernel_rfl) trivial trivial
theorem parse_parser_within_2_o_T : TF parse_parser_within_2_o_d.raw S49 R13 fun R => parse_parser_within_2_o_cps big R := fun _ _ _ => by kernel_rfl
def parse_parser_within_2_o_k : CR := kF 92 [.arg 0] [] S49 R13 (parse_parser_within_2_o big)
theorem parse_parser_within_2_o_ok : parse_parser_within_2_o_k.Ok PP X := okF parse_parser_within_2_o_w _ parse_parser_within_2_o_T (by kernel_rfl)
/- 64 (*frankpledge/parse.parser).sign -/
def parse_parser_sign_o_d : FD := ⟨B0.lean [parse_parser_is_k, parse_parser_next_k, parse_parser_within_2_o_k, parse_parser_one_o_k] [], 1, [], [], [], Tryz.f64⟩
theorem parse_parser_sign_o_cs : CsOk PP X parse_parser_sign_o_d.cx := csL bOk mixed ⟨parse_parser_is_ok, parse_parser_next_ok, parse_parser_within_2_o_ok, parse_parser_one_o_ok, trivial⟩ trivial (by kernel_rfl)
theorem parse_parser_sign_o_w : ConOk PP X 64 parse_parser_sign_o_d.raw := rawD parse_parser_sign_o_cs Tryz.func64 (n := 0) (js := []) (by kernel_rfl) trivial trivial
theorem parse_parser_sign_o_T : TF parse_parser_sign_o_d.raw S32 R13 fun R => parse_parser_sign_o_cps big R := fun _ _ _ => by kernel_rfl
def parse_parser_sign_o_k : CR := kF 64 [.arg 0] [] S32 R13 (parse_parser_sign_o big)
theorem parse_parser_sign_o_ok : parse_parser_sign_o_k.Ok PP X := okF parse_parser_sign_o_w _ parse_parser_sign_o_T (by kernel_rfl)
/- 50 (*frankpledge/parse.parser).expr -/
def parse_parser_expr_o_r1F : JF S53 := fun R k => S53.app (parse_parser_expr_o_r1 big R (S54.ex k .normal))
def parse_parser_expr_o_r1h : LH := lhJ S53 parse_parser_expr_o_r1F (ids [0, 1, 4, 5, 6, 7] []) [] (ids [0, 1, 4, 5] []) 3 none
def parse_parser_expr_o_l0F : LF S55 := fun R n k => S55.app (parse_parser_expr_o_l0 big R (S56.ex k (.exit 1)) n)
def parse_parser_expr_o_l0G : BF S55 := fun R r k => S55.app (parse_parser_expr_o_l0B big R (S55.cur r) (S56.ex k (.exit 1)))
def parse_parser_expr_o_l0h : LH := lhL S55 parse_parser_expr_o_l0F (ids [0, 1, 4, 5] []) [(2, [(7, .ro .ex)])] (ids [4, 5] []) none
def parse_parser_expr_o_d : FD := ⟨B0.lean [parse_parser_next_k, rec_parse_parser_expr_k, parse_parser_not_o_k, parse_parser_sign_o_k, parse_op_k] [], 1, [(7, parse_parser_expr_o_l0h), (2000011, parse_parser_expr_o_r1h)], [], [], Tryz.f50⟩
theorem parse_parser_expr_o_cs : CsOk PP X parse_parser_expr_o_d.cx := csL bOk mixed ⟨parse_parser_next_ok, rec_parse_parser_expr_ok, parse_parser_not_o_ok, parse_parser_sign_o_ok, parse_op_ok, trivial⟩ trivial (by kernel_rfl)
theorem parse_parser_expr_o_L0 : LOkD parse_parser_expr_o_d 0 := lokD parse_parser_expr_o_l0F parse_parser_expr_o_l0G parse_parser_expr_o_l0h (by kernel_rfl) (by kernel_rfl) (fun _ _ _ _ => by kernel_rfl) (fun _ _ _ => by kernel_rfl) (fun _ _ _ _ => by kernel_rfl)
theorem parse_parser_expr_o_J24 : JOkD parse_parser_expr_o_d 24 := rokD parse_parser_expr_o_cs parse_parser_expr_o_r1F parse_parser_expr_o_r1h (by kernel_rfl) rfl rfl (by kernel_rfl) (by kernel_rfl) [[0, 1, 3, 4, 5, 2, 6, 7, 8, 9], [0, 1, 3, 4, 5, 6, 2, 7, 8, 9]] (by kernel_rfl) ⟨(fun _ _ _ => by kernel_rfl), (fun _ _ _ => by kernel_rfl), trivial⟩
theorem parse_parser_expr_o_J26 : JOkD parse_parser_expr_o_d 26 := rokD parse_parser_expr_o_cs parse_parser_expr_o_r1F parse_parser_expr_o_r1h (by kernel_rfl) rfl rfl (by kernel_rfl) (by kernel_rfl) [[0, 1, 3, 4, 5, 2, 6, 7, 8, 9], [0, 1, 3, 4, 5, 6, 2, 7, 8, 9]] (by kernel_rfl) ⟨(fun _ _ _ => by kernel_rfl), (fun _ _ _ => by kernel_rfl), trivial⟩
theorem parse_parser_expr_o_w : ConOk PP X 50 parse_parser_expr_o_d.raw := rawD parse_parser_expr_o_cs Tryz.func50 (n := 1) (js := [24, 26]) (by kernel_rfl) ⟨parse_parser_expr_o_L0, trivial⟩ ⟨parse_parser_expr_o_J24, parse_parser_expr_o_J26, trivial⟩
theorem parse_parser_expr_o_T : TF parse_parser_expr_o_d.raw S33 R13 fun R => parse_parser_expr_o_cps big R := fun _ _ _ => by kernel_rfl
def parse_parser_expr_o_k : CR := kF 50 [.arg 0] [] S33 R13 (parse_parser_expr_o big)
theorem parse_parser_expr_o_ok : parse_parser_expr_o_k.Ok PP X := okF parse_parser_expr_o_w _ parse_parser_expr_o_T (by kernel_rfl)
/- 31 (*frankpledge/parse.parser).whole -/
def parse_parser_whole_o_d : FD := ⟨B0.lean [parse_parser_expr_o_k] [], 1, [], [], [], Tryz.f31⟩
theorem parse_parser_whole_o_cs : CsOk PP X parse_parser_whole_o_d.cx := csL bOk mixed ⟨parse_parser_expr_o_ok, trivial⟩ trivial (by kernel_rfl)
theorem parse_parser_whole_o_w : ConOk PP X 31 parse_parser_whole_o_d.raw := rawD parse_parser_whole_o_cs Tryz.func31 (n := 0) (js := []) (by kernel_rfl) trivial trivial
theorem parse_parser_whole_o_T : TF parse_parser_whole_o_d.raw S32 R13 fun R => parse_parser_whole_o_cps big R := fun _ _ _ => by kernel_rfl
def parse_parser_whole_o_k : CR := kF 31 [.arg 0] [] S32 R13 (parse_parser_whole_o big)
theorem parse_parser_whole_o_ok : parse_parser_whole_o_k.Ok PP X := okF parse_parser_whole_o_w _ parse_parser_whole_o_T (by kernel_rfl)
end
theorem H_parse_parser_whole_all (n : Nat) : @H_parse_parser_whole ⟨n⟩ := by
  induction n with
  | zero => exact @H_parse_parser_whole.mk ⟨0⟩ (okF0 fun _ => by kernel_rfl) (okF0 fun _ => by kernel_rfl) (okF0 fun _ => by kernel_rfl) (okF0 fun _ => by kernel_rfl)
  | succ n ih => exact @H_parse_parser_whole.mk ⟨n + 1⟩ (letI : Fuel := ⟨n⟩; letI : H_parse_parser_whole := ih; parse_parser_not_o_ok) (letI : Fuel := ⟨n⟩; letI : H_parse_parser_whole := ih; parse_parser_sign_o_ok) (letI : Fuel := ⟨n⟩; letI : H_parse_parser_whole := ih; parse_parser_expr_o_ok) (letI : Fuel := ⟨n⟩; letI : H_parse_parser_whole := ih; parse_parser_whole_o_ok)
def parse_parser_test_k : CR := letI : Fuel := ⟨big⟩; parse_parser_test_o_k
theorem parse_parser_test_ok : parse_parser_test_k.Ok PP X := letI : Fuel := ⟨big⟩; letI : H_parse_parser_whole := H_parse_parser_whole_all big; parse_parser_test_o_ok
def parse_parser_within_k : CR := letI : Fuel := ⟨big⟩; parse_parser_within_o_k
theorem parse_parser_within_ok : parse_parser_within_k.Ok PP X := letI : Fuel := ⟨big⟩; letI : H_parse_parser_whole := H_parse_parser_whole_all big; parse_parser_within_o_ok
def parse_parser_not_k : CR := letI : Fuel := ⟨big⟩; parse_parser_not_o_k
theorem parse_parser_not_ok : parse_parser_not_k.Ok PP X := letI : Fuel := ⟨big⟩; letI : H_parse_parser_whole := H_parse_parser_whole_all big; parse_parser_not_o_ok
def parse_parser_within_1_k : CR := letI : Fuel := ⟨big⟩; parse_parser_within_1_o_k
theorem parse_parser_within_1_ok : parse_parser_within_1_k.Ok PP X := letI : Fuel := ⟨big⟩; letI : H_parse_parser_whole := H_parse_parser_whole_all big; parse_parser_within_1_o_ok
def parse_parser_inner_k : CR := letI : Fuel := ⟨big⟩; parse_parser_inner_o_k
theorem parse_parser_inner_ok : parse_parser_inner_k.Ok PP X := letI : Fuel := ⟨big⟩; letI : H_parse_parser_whole := H_parse_parser_whole_all big; parse_parser_inner_o_ok
def parse_parser_word_k : CR := letI : Fuel := ⟨big⟩; parse_parser_word_o_k
theorem parse_parser_word_ok : parse_parser_word_k.Ok PP X := letI : Fuel := ⟨big⟩; letI : H_parse_parser_whole := H_parse_parser_whole_all big; parse_parser_word_o_ok
def parse_parser_one_k : CR := letI : Fuel := ⟨big⟩; parse_parser_one_o_k
theorem parse_parser_one_ok : parse_parser_one_k.Ok PP X := letI : Fuel := ⟨big⟩; letI : H_parse_parser_whole := H_parse_parser_whole_all big; parse_parser_one_o_ok
def parse_parser_within_2_k : CR := letI : Fuel := ⟨big⟩; parse_parser_within_2_o_k
theorem parse_parser_within_2_ok : parse_parser_within_2_k.Ok PP X := letI : Fuel := ⟨big⟩; letI : H_parse_parser_whole := H_parse_parser_whole_all big; parse_parser_within_2_o_ok
def parse_parser_sign_k : CR := letI : Fuel := ⟨big⟩; parse_parser_sign_o_k
theorem parse_parser_sign_ok : parse_parser_sign_k.Ok PP X := letI : Fuel := ⟨big⟩; letI : H_parse_parser_whole := H_parse_parser_whole_all big; parse_parser_sign_o_ok
def parse_parser_expr_k : CR := letI : Fuel := ⟨big⟩; parse_parser_expr_o_k
theorem parse_parser_expr_ok : parse_parser_expr_k.Ok PP X := letI : Fuel := ⟨big⟩; letI : H_parse_parser_whole := H_parse_parser_whole_all big; parse_parser_expr_o_ok
def parse_parser_whole_k : CR := letI : Fuel := ⟨big⟩; parse_parser_whole_o_k
theorem parse_parser_whole_ok : parse_parser_whole_k.Ok PP X := letI : Fuel := ⟨big⟩; letI : H_parse_parser_whole := H_parse_parser_whole_all big; parse_parser_whole_o_ok
/-! 46 (*frankpledge/parse.parser).list -/
def parse_parser_list_l0F : LF S57 := fun R n k => S57.app (parse_parser_list_l0 big R (S58.ex k (.exit 0)) n)
def parse_parser_list_l0G : BF S57 := fun R r k => S57.app (parse_parser_list_l0B big R (S57.cur r) (S58.ex k (.exit 0)))
def parse_parser_list_l0h : LH := lhL S57 parse_parser_list_l0F (ids [0, 3] []) [] (ids [3] []) none
def parse_parser_list_d : FD := ⟨B0.lean [parse_parser_take_k, parse_parser_whole_k] [], 1, [(2, parse_parser_list_l0h)], [], [], Tryz.f46⟩
theorem parse_parser_list_cs : CsOk PP X parse_parser_list_d.cx := csL bOk mixed ⟨parse_parser_take_ok, parse_parser_whole_ok, trivial⟩ trivial (by kernel_rfl)
theorem parse_parser_list_L0 : LOkD parse_parser_list_d 0 := lokD parse_parser_list_l0F parse_parser_list_l0G parse_parser_list_l0h (by kernel_rfl) (by kernel_rfl) (fun _ _ _ _ => by kernel_rfl) (fun _ _ _ => by kernel_rfl) (fun _ _ _ _ => by kernel_rfl)
theorem parse_parser_list_w : ConOk PP X 46 parse_parser_list_d.raw := rawD parse_parser_list_cs Tryz.func46 (n := 1) (js := []) (by kernel_rfl) ⟨parse_parser_list_L0, trivial⟩ trivial
theorem parse_parser_list_T : TF parse_parser_list_d.raw S32 R14 fun R => parse_parser_list_cps big R := fun _ _ _ => by kernel_rfl
def parse_parser_list_k : CR := kF 46 [.arg 0] [] S32 R14 (parse_parser_list big)
theorem parse_parser_list_ok : parse_parser_list_k.Ok PP X := okF parse_parser_list_w _ parse_parser_list_T (by kernel_rfl)
/-! 26 (*frankpledge/parse.parser).table -/
def parse_parser_table_d : FD := ⟨B0.lean [parse_parser_name_k, parse_parser_at_k] [], 1, [], [], [], Tryz.f26⟩
theorem parse_parser_table_cs : CsOk PP X parse_parser_table_d.cx := csL bOk mixed ⟨parse_parser_name_ok, parse_parser_at_ok, trivial⟩ trivial (by kernel_rfl)
theorem parse_parser_table_w : ConOk PP X 26 parse_parser_table_d.raw := rawD parse_parser_table_cs Tryz.func26 (n := 0) (js := []) (by kernel_rfl) trivial trivial
theorem parse_parser_table_T : TF parse_parser_table_d.raw S59 R15 fun R => parse_parser_table_cps big R := fun _ _ _ => by kernel_rfl
def parse_parser_table_k : CR := kF 26 [.arg 0, .arg 1] [] S59 R15 (parse_parser_table big)
theorem parse_parser_table_ok : parse_parser_table_k.Ok PP X := okF parse_parser_table_w _ parse_parser_table_T (by kernel_rfl)
/-! 27 (*frankpledge/parse.parser).where -/
def parse_parser_where_d : FD := ⟨B0.lean [parse_parser_take_k, parse_parser_whole_k] [], 1, [], [(.inn [none, none, none, none, none, none, none, some .ex, none, none])], [], Tryz.f27⟩
theorem parse_parser_where_cs : CsOk PP X parse_parser_where_d.cx := csL bOk mixed ⟨parse_parser_take_ok, parse_parser_whole_ok, trivial⟩ trivial (by kernel_rfl)
theorem parse_parser_where_w : ConOk PP X 27 parse_parser_where_d.raw := rawD parse_parser_where_cs Tryz.func27 (n := 0) (js := []) (by kernel_rfl) trivial trivial
theorem parse_parser_where_T : TF parse_parser_where_d.raw S31 R13 fun R => parse_parser_where_cps big R := fun _ _ _ => by kernel_rfl
def parse_parser_where_k : CR := kF 27 [.arg 0] [] S31 R13 (parse_parser_where big)
theorem parse_parser_where_ok : parse_parser_where_k.Ok PP X := okF parse_parser_where_w _ parse_parser_where_T (by kernel_rfl)
/-! 22 (*frankpledge/parse.parser).selects -/
def parse_parser_selects_j5F : JF S60 := fun R k => S60.app (parse_parser_selects_j5 big R (S61.ex k .normal) (S61.ex k .ret))
def parse_parser_selects_j5h : LH := lhJ S60 parse_parser_selects_j5F (ids [0, 1] []) [(1, [(25, .own (.pair .ex (.pair .bool .unit)))])] [] 2 none
def parse_parser_selects_r4F : JF S62 := fun R k => S62.app (parse_parser_selects_r4 big R (S63.ex k .normal))
def parse_parser_selects_r4h : LH := lhJ S62 parse_parser_selects_r4F (ids [0, 1, 5] []) [(1, [(25, .own (.pair .ex (.pair .bool .unit)))])] (ids [0, 1] []) 3 none
def parse_parser_selects_l3F : LF S64 := fun R n k => S64.app (parse_parser_selects_l3 big R (S60.ex k (.exit 0)) n)
def parse_parser_selects_l3G : BF S64 := fun R r k => S64.app (parse_parser_selects_l3B big R (S64.cur r) (S60.ex k (.exit 0)))
def parse_parser_selects_l3h : LH := lhL S64 parse_parser_selects_l3F (ids [0, 1, 4] []) [(1, [(25, .own (.pair .ex (.pair .bool .unit)))])] (ids [0, 1] []) none
def parse_parser_selects_j2F : JF S65 := fun R k => S65.app (parse_parser_selects_j2 big R (S61.ex k .normal) (S61.ex k .ret))
def parse_parser_selects_j2h : LH := lhJ S65 parse_parser_selects_j2F (ids [0, 1] []) [(1, [(24, .own .ex)])] [] 2 none
def parse_parser_selects_j1F : JF S66 := fun R k => S66.app (parse_parser_selects_j1 big R (S61.ex k .normal) (S61.ex k .ret))
def parse_parser_selects_j1h : LH := lhJ S66 parse_parser_selects_j1F (ids [0, 1] []) [(1, [(10, .ro .ex)])] [] 2 none
def parse_parser_selects_j0F : JF S67 := fun R k => S67.app (parse_parser_selects_j0 big R (S61.ex k .normal) (S61.ex k .ret))
def parse_parser_selects_j0h : LH := lhJ S67 parse_parser_selects_j0F (ids [0, 1] []) [(1, [(23, .own .ex)])] [] 2 none
def parse_parser_selects_d : FD := ⟨B0.lean [parse_parser_take_k, parse_parser_want_k, parse_parser_table_k, parse_parser_where_k, parse_parser_fail_k, parse_parser_whole_k, parse_parser_next_k, parse_parser_list_k, parse_parser_name_k] [], 1, [(15, parse_parser_selects_l3h), (1000002, parse_parser_selects_j0h), (1000008, parse_parser_selects_j1h), (1000012, parse_parser_selects_j2h), (1000021, parse_parser_selects_j5h), (2000020, parse_parser_selects_r4h)], [], [], Tryz.f22⟩
theorem parse_parser_selects_cs : CsOk PP X parse_parser_selects_d.cx := csL bOk mixed ⟨parse_parser_take_ok, parse_parser_want_ok, parse_parser_table_ok, parse_parser_where_ok, parse_parser_fail_ok, parse_parser_whole_ok, parse_parser_next_ok, parse_parser_list_ok, parse_parser_name_ok, trivial⟩ trivial (by kernel_rfl)
theorem parse_parser_selects_L0 : LOkD parse_parser_selects_d 0 := lokD parse_parser_selects_l3F parse_parser_selects_l3G parse_parser_selects_l3h (by kernel_rfl) (by kernel_rfl) (fun _ _ _ _ => by kernel_rfl) (fun _ _ _ => by kernel_rfl) (fun _ _ _ _ => by kernel_rfl)
theorem parse_parser_selects_J0 : JOkD parse_parser_selects_d 0 := jokD parse_parser_selects_j0F parse_parser_selects_j0h (by kernel_rfl) (by kernel_rfl) (fun _ _ _ => by kernel_rfl)
theorem parse_parser_selects_J8 : JOkD parse_parser_selects_d 8 := jokD parse_parser_selects_j1F parse_parser_selects_j1h (by kernel_rfl) (by kernel_rfl) (fun _ _ _ => by kernel_rfl)
theorem parse_parser_selects_J18 : JOkD parse_parser_selects_d 18 := jokD parse_parser_selects_j2F parse_parser_selects_j2h (by kernel_rfl) (by kernel_rfl) (fun _ _ _ => by kernel_rfl)
theorem parse_parser_selects_J24 : JOkD parse_parser_selects_d 24 := jokD parse_parser_selects_j5F parse_parser_selects_j5h (by kernel_rfl) (by kernel_rfl) (fun _ _ _ => by kernel_rfl)
theorem parse_parser_selects_J37 : JOkD parse_parser_selects_d 37 := rokD parse_parser_selects_cs parse_parser_selects_r4F parse_parser_selects_r4h (by kernel_rfl) rfl rfl (by kernel_rfl) (by kernel_rfl) [[0, 1, 2, 3, 4, 5, 6, 7, 8, 9, 10], [0, 1, 2, 3, 5, 4, 6, 7, 8, 9, 10]] (by kernel_rfl) ⟨(fun _ _ _ => by kernel_rfl), (fun _ _ _ => by kernel_rfl), trivial⟩
theorem parse_parser_selects_J41 : JOkD parse_parser_selects_d 41 := rokD parse_parser_selects_cs parse_parser_selects_r4F parse_parser_selects_r4h (by kernel_rfl) rfl rfl (by kernel_rfl) (by kernel_rfl) [[0, 1, 2, 3, 4, 5, 6, 7, 8, 9, 10], [0, 1, 2, 3, 5, 4, 6, 7, 8, 9, 10]] (by kernel_rfl) ⟨(fun _ _ _ => by kernel_rfl), (fun _ _ _ => by kernel_rfl), trivial⟩
theorem parse_parser_selects_w : ConOk PP X 22 parse_parser_selects_d.raw := rawD parse_parser_selects_cs Tryz.func22 (n := 1) (js := [0, 8, 18, 24, 37, 41]) (by kernel_rfl) ⟨parse_parser_selects_L0, trivial⟩ ⟨parse_parser_selects_J0, parse_parser_selects_J8, parse_parser_selects_J18, parse_parser_selects_J24, parse_parser_selects_J37, parse_parser_selects_J41, trivial⟩
theorem parse_parser_selects_T : TF parse_parser_selects_d.raw S68 R16 fun R => parse_parser_selects_cps big R := fun _ _ _ => by kernel_rfl
def parse_parser_selects_k : CR := kF 22 [.arg 0, .arg 1] [] S68 R16 (parse_parser_selects big)
theorem parse_parser_selects_ok : parse_parser_selects_k.Ok PP X := okF parse_parser_selects_w _ parse_parser_selects_T (by kernel_rfl)
/-! 29 (*frankpledge/parse.parser).ended -/
def parse_parser_ended_d : FD := ⟨B0.lean [parse_parser_fail_k] [], 1, [], [], [], Tryz.f29⟩
theorem parse_parser_ended_cs : CsOk PP X parse_parser_ended_d.cx := csL bOk mixed ⟨parse_parser_fail_ok, trivial⟩ trivial (by kernel_rfl)
theorem parse_parser_ended_w : ConOk PP X 29 parse_parser_ended_d.raw := rawD parse_parser_ended_cs Tryz.func29 (n := 0) (js := []) (by kernel_rfl) trivial trivial
theorem parse_parser_ended_T : TF parse_parser_ended_d.raw S32 R17 fun R => parse_parser_ended_cps big R := fun _ _ _ => by kernel_rfl
def parse_parser_ended_k : CR := kF 29 [.arg 0] [] S32 R17 (parse_parser_ended big)
theorem parse_parser_ended_ok : parse_parser_ended_k.Ok PP X := okF parse_parser_ended_w _ parse_parser_ended_T (by kernel_rfl)
/-! 26 (*frankpledge/parse.parser).table -/
def parse_parser_table_1_d : FD := ⟨B0.lean [parse_parser_name_k, parse_parser_at_k] [], 1, [], [], [], Tryz.f26⟩
theorem parse_parser_table_1_cs : CsOk PP X parse_parser_table_1_d.cx := csL bOk mixed ⟨parse_parser_name_ok, parse_parser_at_ok, trivial⟩ trivial (by kernel_rfl)
theorem parse_parser_table_1_w : ConOk PP X 26 parse_parser_table_1_d.raw := rawD parse_parser_table_1_cs Tryz.func26 (n := 0) (js := []) (by kernel_rfl) trivial trivial
theorem parse_parser_table_1_T : TF parse_parser_table_1_d.raw S68 R18 fun R => parse_parser_table_1_cps big R := fun _ _ _ => by kernel_rfl
def parse_parser_table_1_k : CR := kF 26 [.arg 0, .arg 1] [] S68 R18 (parse_parser_table_1 big)
theorem parse_parser_table_1_ok : parse_parser_table_1_k.Ok PP X := okF parse_parser_table_1_w _ parse_parser_table_1_T (by kernel_rfl)
/-! 23 (*frankpledge/parse.parser).inserts -/
def parse_parser_inserts_r1F : JF S69 := fun R k => S69.app (parse_parser_inserts_r1 big R (S69.ex k .normal))
def parse_parser_inserts_r1h : LH := lhJ S69 parse_parser_inserts_r1F (ids [0, 1] []) [(1, [(27, .own (.slice .ex))])] (ids [0, 1] []) 2 none
def parse_parser_inserts_l0F : LF S70 := fun R n k => S70.app (parse_parser_inserts_l0 big R (S71.ex k (.exit 0)) (S71.ex k .ret) n)
def parse_parser_inserts_l0G : BF S70 := fun R r k => S70.app (parse_parser_inserts_l0B big R (S70.cur r) (S71.ex k (.exit 0)) (S71.ex k .ret))
def parse_parser_inserts_l0h : LH := lhL S70 parse_parser_inserts_l0F (ids [0, 1, 4] []) [(1, [(27, .own (.slice .ex))])] [] none
def parse_parser_inserts_d : FD := ⟨B0.lean [parse_parser_take_k, parse_parser_want_k, parse_parser_table_1_k, parse_parser_list_k] [], 1, [(4, parse_parser_inserts_l0h), (2000008, parse_parser_inserts_r1h)], [], [], Tryz.f23⟩
theorem parse_parser_inserts_cs : CsOk PP X parse_parser_inserts_d.cx := csL bOk mixed ⟨parse_parser_take_ok, parse_parser_want_ok, parse_parser_table_1_ok, parse_parser_list_ok, trivial⟩ trivial (by kernel_rfl)
theorem parse_parser_inserts_L0 : LOkD parse_parser_inserts_d 0 := lokD parse_parser_inserts_l0F parse_parser_inserts_l0G parse_parser_inserts_l0h (by kernel_rfl) (by kernel_rfl) (fun _ _ _ _ => by kernel_rfl) (fun _ _ _ => by kernel_rfl) (fun _ _ _ _ => by kernel_rfl)
theorem parse_parser_inserts_J18 : JOkD parse_parser_inserts_d 18 := rokD parse_parser_inserts_cs parse_parser_inserts_r1F parse_parser_inserts_r1h (by kernel_rfl) rfl rfl (by kernel_rfl) (by kernel_rfl) [[0, 1, 2, 3, 5, 4, 6, 7, 8, 9, 10, 11], [0, 1, 2, 3, 5, 6, 4, 7, 8, 9, 10, 11]] (by kernel_rfl) ⟨(fun _ _ _ => by kernel_rfl), (fun _ _ _ => by kernel_rfl), trivial⟩
theorem parse_parser_inserts_w : ConOk PP X 23 parse_parser_inserts_d.raw := rawD parse_parser_inserts_cs Tryz.func23 (n := 1) (js := [18]) (by kernel_rfl) ⟨parse_parser_inserts_L0, trivial⟩ ⟨parse_parser_inserts_J18, trivial⟩
theorem parse_parser_inserts_T : TF parse_parser_inserts_d.raw S68 R19 fun R => parse_parser_inserts_cps big R := fun _ _ _ => by kernel_rfl
def parse_parser_inserts_k : CR := kF 23 [.arg 0, .arg 1] [] S68 R19 (parse_parser_inserts big)
theorem parse_parser_inserts_ok : parse_parser_inserts_k.Ok PP X := okF parse_parser_inserts_w _ parse_parser_inserts_T (by kernel_rfl)
/-! 24 (*frankpledge/parse.parser).updates -/
def parse_parser_updates_r1F : JF S72 := fun R k => S72.app (parse_parser_updates_r1 big R (S73.ex k .normal))
def parse_parser_updates_r1h : LH := lhJ S72 parse_parser_updates_r1F (ids [0, 1, 5] []) [(1, [(28, .own (.pair .str (.pair .ex (.pair (.int .i64) .unit))))])] (ids [0, 1] []) 3 none
def parse_parser_updates_l0F : LF S74 := fun R n k => S74.app (parse_parser_updates_l0 big R (S75.ex k (.exit 0)) n)
def parse_parser_updates_l0G : BF S74 := fun R r k => S74.app (parse_parser_updates_l0B big R (S74.cur r) (S75.ex k (.exit 0)))
def parse_parser_updates_l0h : LH := lhL S74 parse_parser_updates_l0F (ids [0, 1, 4] []) [(1, [(28, .own (.pair .str (.pair .ex (.pair (.int .i64) .unit))))])] (ids [0, 1] []) none
def parse_parser_updates_d : FD := ⟨B0.lean [parse_parser_take_k, parse_parser_want_k, parse_parser_table_1_k, parse_parser_where_k, parse_parser_whole_k, parse_parser_name_k, parse_parser_at_k] [], 1, [(3, parse_parser_updates_l0h), (2000008, parse_parser_updates_r1h)], [], [], Tryz.f24⟩
theorem parse_parser_updates_cs : CsOk PP X parse_parser_updates_d.cx := csL bOk mixed ⟨parse_parser_take_ok, parse_parser_want_ok, parse_parser_table_1_ok, parse_parser_where_ok, parse_parser_whole_ok, parse_parser_name_ok, parse_parser_at_ok, trivial⟩ trivial (by kernel_rfl)
theorem parse_parser_updates_L0 : LOkD parse_parser_updates_d 0 := lokD parse_parser_updates_l0F parse_parser_updates_l0G parse_parser_updates_l0h (by kernel_rfl) (by kernel_rfl) (fun _ _ _ _ => by kernel_rfl) (fun _ _ _ => by kernel_rfl) (fun _ _ _ _ => by kernel_rfl)
theorem parse_parser_updates_J15 : JOkD parse_parser_updates_d 15 := rokD parse_parser_updates_cs parse_parser_updates_r1F parse_parser_updates_r1h (by kernel_rfl) rfl rfl (by kernel_rfl) (by kernel_rfl) [[0, 1, 2, 3, 4, 5, 6, 7, 8, 9, 10], [0, 1, 2, 3, 5, 4, 6, 7, 8, 9, 10]] (by kernel_rfl) ⟨(fun _ _ _ => by kernel_rfl), (fun _ _ _ => by kernel_rfl), trivial⟩
theorem parse_parser_updates_J17 : JOkD parse_parser_updates_d 17 := rokD parse_parser_updates_cs parse_parser_updates_r1F parse_parser_updates_r1h (by kernel_rfl) rfl rfl (by kernel_rfl) (by kernel_rfl) [[0, 1, 2, 3, 4, 5, 6, 7, 8, 9, 10], [0, 1, 2, 3, 5, 4, 6, 7, 8, 9, 10]] (by kernel_rfl) ⟨(fun _ _ _ => by kernel_rfl), (fun _ _ _ => by kernel_rfl), trivial⟩
theorem parse_parser_updates_w : ConOk PP X 24 parse_parser_updates_d.raw := rawD parse_parser_updates_cs Tryz.func24 (n := 1) (js := [15, 17]) (by kernel_rfl) ⟨parse_parser_updates_L0, trivial⟩ ⟨parse_parser_updates_J15, parse_parser_updates_J17, trivial⟩
theorem parse_parser_updates_T : TF parse_parser_updates_d.raw S68 R20 fun R => parse_parser_updates_cps big R := fun _ _ _ => by kernel_rfl
def parse_parser_updates_k : CR := kF 24 [.arg 0, .arg 1] [] S68 R20 (parse_parser_updates big)
theorem parse_parser_updates_ok : parse_parser_updates_k.Ok PP X := okF parse_parser_updates_w _ parse_parser_updates_T (by kernel_rfl)
/-! 8 frankpledge/parse.Parse -/
def parse_Parse_d : FD := ⟨B0.lean [fault_At_k, parse_parser_take_k, parse_parser_selects_k, parse_parser_inserts_k, parse_parser_updates_k, parse_parser_want_k, parse_parser_table_1_k, parse_parser_where_k, parse_parser_fail_k, parse_parser_ended_k, lex_Lex_k, fault_Wrap_k] [(20, Tryz.f20)], 2, [], [(.inn [none, none, none, none, none, none, none, none, none, none, some .ex, none, none, none, none, none, none, none, none, none, some .ex, none, none, some .ex, some .ex, some (.pair .ex (.pair .bool .unit)), none, some (.slice .ex), some (.pair .str (.pair .ex (.pair (.int .i64) .unit))), none]), .id], [], Tryz.f8⟩
theorem parse_Parse_cs : CsOk PP X parse_Parse_d.cx := csL bOk mixed ⟨fault_At_ok, parse_parser_take_ok, parse_parser_selects_ok, parse_parser_inserts_ok, parse_parser_updates_ok, parse_parser_want_ok, parse_parser_table_1_ok, parse_parser_where_ok, parse_parser_fail_ok, parse_parser_ended_ok, lex_Lex_ok, fault_Wrap_ok, trivial⟩ ⟨⟨Tryz.func20, by kernel_rfl⟩, trivial⟩ (by kernel_rfl)
theorem parse_Parse_w : ConOk PP X 8 parse_Parse_d.raw := rawD parse_Parse_cs Tryz.func8 (n := 0) (js := []) (by kernel_rfl) trivial trivial
theorem parse_Parse_T : TK parse_Parse_d.raw S5 R21 fun R => parse_Parse_cps big R := fun _ _ _ => by kernel_rfl
def parse_Parse_k : CR := kC 8 [] [] S5 R21 (parse_Parse big)
theorem parse_Parse_ok : parse_Parse_k.Ok PP X := okC parse_Parse_w _ parse_Parse_T (by kernel_rfl)
def fault_Code_k : CR := kC 18 [] [] S29 R1 (fault_Code big)
theorem fault_Code_ok : fault_Code_k.Ok PP X := okC shelf_Code_18 (fun R => fault_Code_cps big R) (fun _ _ _ => by kernel_rfl) (by kernel_rfl)
/-! 7 frankpledge/frankpledgelaw17.alive -/
def law17_alive_d : FD := ⟨B0.lean [parse_Parse_k, fault_Code_k, fault_At_k] [], 1, [], [], [], Tryz.f7⟩
theorem law17_alive_cs : CsOk PP X law17_alive_d.cx := csL bOk mixed ⟨parse_Parse_ok, fault_Code_ok, fault_At_ok, trivial⟩ trivial (by kernel_rfl)
theorem law17_alive_w : ConOk PP X 7 law17_alive_d.raw := rawD law17_alive_cs Tryz.func7 (n := 0) (js := []) (by kernel_rfl) trivial trivial
theorem law17_alive_T : TK law17_alive_d.raw S76 R4 fun R => law17_alive_cps big R := fun _ _ _ => by kernel_rfl
def law17_alive_k : CR := kC 7 [] [] S76 R4 (law17_alive big)
theorem law17_alive_ok : law17_alive_k.Ok PP X := okC law17_alive_w _ law17_alive_T (by kernel_rfl)
/-! The functions about law17_built: they call one another. -/
set_option warn.classDefReducibility false
set_option linter.unusedSectionVars false
section
variable [Fuel]
def Z_law17_built_inst : Z_law17_built := Z_law17_built_at big Fuel.n
attribute [local instance] Z_law17_built_inst
def rec_law17_built_k : CR := kC 13 [] [] S85 R22 Z_law17_built.r_law17_built
class H_law17_built : Prop where
  h_law17_built : rec_law17_built_k.Ok PP X
variable [H_law17_built]
theorem rec_law17_built_ok : rec_law17_built_k.Ok PP X := H_law17_built.h_law17_built
/- 13 frankpledge/frankpledgelaw17.built -/
def law17_built_o_l4F : LF S77 := fun R n k => S77.app (law17_built_o_l4 big R (S78.ex k (.exit 1)) n)
def law17_built_o_l4G : BF S77 := fun R r k => S77.app (law17_built_o_l4B big R (S77.cur r) (S78.ex k (.exit 1)))
def law17_built_o_l4h : LH := lhL S77 law17_built_o_l4F (ids [0, 1, 4, 10, 11, 12] []) [(2, [(7, .own .ex)])] (ids [0, 4, 10] []) none
def law17_built_o_j3F : JF S79 := fun R k => S79.app (law17_built_o_j3 big R (S80.ex k .ret))
def law17_built_o_j3h : LH := lhJ S79 law17_built_o_j3F (ids [0, 1, 4, 10, 11] []) [] (ids [4, 5] []) 3 none
def law17_built_o_j2F : JF S81 := fun R k => S81.app (law17_built_o_j2 big R (S82.ex k .ret))
def law17_built_o_j2h : LH := lhJ S81 law17_built_o_j2F (ids [0, 1, 4, 6, 7, 9] []) [] (ids [4, 5] []) 2 none
def law17_built_o_j1F : JF S83 := fun R k => S83.app (law17_built_o_j1 big R (S82.ex k .ret))
def law17_built_o_j1h : LH := lhJ S83 law17_built_o_j1F (ids [0, 1, 4, 6, 7, 8] []) [] (ids [4, 5] []) 2 none
def law17_built_o_j0F : JF S84 := fun R k => S84.app (law17_built_o_j0 big R (S82.ex k .ret))
def law17_built_o_j0h : LH := lhJ S84 law17_built_o_j0F (ids [0, 1, 4, 6, 7] []) [] (ids [4, 5] []) 2 none
def law17_built_o_d : FD := ⟨B0.lean [rec_law17_built_k] [], 1, [(35, law17_built_o_l4h), (1000008, law17_built_o_j0h), (1000011, law17_built_o_j1h), (1000014, law17_built_o_j2h), (1000034, law17_built_o_j3h)], [(.inn [none, none, none, none, none, none, none, some .ex, none, none]), .ro (.pair (.int .i64) (.pair (.int .i64) (.pair .str (.pair .bool .unit))))], [], Tryz.f13⟩
theorem law17_built_o_cs : CsOk PP X law17_built_o_d.cx := csL bOk mixed ⟨rec_law17_built_ok, trivial⟩ trivial (by kernel_rfl)
theorem law17_built_o_L0 : LOkD law17_built_o_d 0 := lokD law17_built_o_l4F law17_built_o_l4G law17_built_o_l4h (by kernel_rfl) (by kernel_rfl) (fun _ _ _ _ => by kernel_rfl) (fun _ _ _ => by kernel_rfl) (fun _ _ _ _ => by kernel_rfl)
theorem law17_built_o_J13 : JOkD law17_built_o_d 13 := jokD law17_built_o_j0F law17_built_o_j0h (by kernel_rfl) (by kernel_rfl) (fun _ _ _ => by kernel_rfl)
theorem law17_built_o_J19 : JOkD law17_built_o_d 19 := jokD law17_built_o_j1F law17_built_o_j1h (by kernel_rfl) (by kernel_rfl) (fun _ _ _ => by kernel_rfl)
theorem law17_built_o_J25 : JOkD law17_built_o_d 25 := jokD law17_built_o_j2F law17_built_o_j2h (by kernel_rfl) (by kernel_rfl) (fun _ _ _ => by kernel_rfl)
theorem law17_built_o_J33 : JOkD law17_built_o_d 33 := jokD law17_built_o_j3F law17_built_o_j3h (by kernel_rfl) (by kernel_rfl) (fun _ _ _ => by kernel_rfl)
theorem law17_built_o_w : ConOk PP X 13 law17_built_o_d.raw := rawD law17_built_o_cs Tryz.func13 (n := 1) (js := [13, 19, 25, 33]) (by kernel_rfl) ⟨law17_built_o_L0, trivial⟩ ⟨law17_built_o_J13, law17_built_o_J19, law17_built_o_J25, law17_built_o_J33, trivial⟩
theorem law17_built_o_T : TK law17_built_o_d.raw S85 R22 fun R => law17_built_o_cps big R := fun _ _ _ => by kernel_rfl
def law17_built_o_k : CR := kC 13 [] [] S85 R22 (law17_built_o big)
theorem law17_built_o_ok : law17_built_o_k.Ok PP X := okC law17_built_o_w _ law17_built_o_T (by kernel_rfl)
end
theorem H_law17_built_all (n : Nat) : @H_law17_built ⟨n⟩ := by
  induction n with
  | zero => exact @H_law17_built.mk ⟨0⟩ (okC0 fun _ => by kernel_rfl)
  | succ n ih => exact @H_law17_built.mk ⟨n + 1⟩ (letI : Fuel := ⟨n⟩; letI : H_law17_built := ih; law17_built_o_ok)
def law17_built_k : CR := letI : Fuel := ⟨big⟩; law17_built_o_k
theorem law17_built_ok : law17_built_k.Ok PP X := letI : Fuel := ⟨big⟩; letI : H_law17_built := H_law17_built_all big; law17_built_o_ok
/-! 51 frankpledge/value.Right -/
def value_Right_d : FD := ⟨B0.lean [] [], 1, [], [], [], Tryz.f51⟩
theorem value_Right_cs : CsOk PP X value_Right_d.cx := csL bOk mixed trivial trivial (by kernel_rfl)
theorem value_Right_w : ConOk PP X 51 value_Right_d.raw := rawD value_Right_cs Tryz.func51 (n := 0) (js := []) (by kernel_rfl) trivial trivial
theorem value_Right_T : TK value_Right_d.raw S86 R4 fun R => value_Right_cps big R := fun _ _ _ => by kernel_rfl
def value_Right_k : CR := kC 51 [] [] S86 R4 (value_Right big)
theorem value_Right_ok : value_Right_k.Ok PP X := okC value_Right_w _ value_Right_T (by kernel_rfl)
/-! 66 internal/strconv.FormatBool -/
def strconv_FormatBool__d : FD := ⟨B0.lean [] [], 1, [], [], [], Tryz.f66⟩
theorem strconv_FormatBool__cs : CsOk PP X strconv_FormatBool__d.cx := csL bOk mixed trivial trivial (by kernel_rfl)
theorem strconv_FormatBool__w : ConOk PP X 66 strconv_FormatBool__d.raw := rawD strconv_FormatBool__cs Tryz.func66 (n := 0) (js := []) (by kernel_rfl) trivial trivial
theorem strconv_FormatBool__T : TK strconv_FormatBool__d.raw S87 R5 fun R => strconv_FormatBool__cps big R := fun _ _ _ => by kernel_rfl
def strconv_FormatBool__k : CR := kC 66 [] [] S87 R5 (strconv_FormatBool_ big)
theorem strconv_FormatBool__ok : strconv_FormatBool__k.Ok PP X := okC strconv_FormatBool__w _ strconv_FormatBool__T (by kernel_rfl)
/-! 52 strconv.FormatBool -/
def strconv_FormatBool_d : FD := ⟨B0.lean [strconv_FormatBool__k] [], 1, [], [], [], Tryz.f52⟩
theorem strconv_FormatBool_cs : CsOk PP X strconv_FormatBool_d.cx := csL bOk mixed ⟨strconv_FormatBool__ok, trivial⟩ trivial (by kernel_rfl)
theorem strconv_FormatBool_w : ConOk PP X 52 strconv_FormatBool_d.raw := rawD strconv_FormatBool_cs Tryz.func52 (n := 0) (js := []) (by kernel_rfl) trivial trivial
theorem strconv_FormatBool_T : TK strconv_FormatBool_d.raw S87 R5 fun R => strconv_FormatBool_cps big R := fun _ _ _ => by kernel_rfl
def strconv_FormatBool_k : CR := kC 52 [] [] S87 R5 (strconv_FormatBool big)
theorem strconv_FormatBool_ok : strconv_FormatBool_k.Ok PP X := okC strconv_FormatBool_w _ strconv_FormatBool_T (by kernel_rfl)
def strconv_FormatInt_k : CR := kC 53 [] [] S0 R5 (strconv_FormatInt big)
theorem strconv_FormatInt_ok : strconv_FormatInt_k.Ok PP X := okC shelf_FormatInt_53 (fun R => strconv_FormatInt_cps big R) (fun _ _ _ => by kernel_rfl) (by kernel_rfl)
/-! 68 internal/stringslite.CutPrefix -/
def stringslite_CutPrefix_d : FD := ⟨B0.lean [stringslite_HasPrefix_k] [], 1, [], [], [], Tryz.f68⟩
theorem stringslite_CutPrefix_cs : CsOk PP X stringslite_CutPrefix_d.cx := csL bOk mixed ⟨stringslite_HasPrefix_ok, trivial⟩ trivial (by kernel_rfl)
theorem stringslite_CutPrefix_w : ConOk PP X 68 stringslite_CutPrefix_d.raw := rawD stringslite_CutPrefix_cs Tryz.func68 (n := 0) (js := []) (by kernel_rfl) trivial trivial
theorem stringslite_CutPrefix_T : TK stringslite_CutPrefix_d.raw S17 R23 fun R => stringslite_CutPrefix_cps big R := fun _ _ _ => by kernel_rfl
def stringslite_CutPrefix_k : CR := kC 68 [] [] S17 R23 (stringslite_CutPrefix big)
theorem stringslite_CutPrefix_ok : stringslite_CutPrefix_k.Ok PP X := okC stringslite_CutPrefix_w _ stringslite_CutPrefix_T (by kernel_rfl)
/-! 54 strings.CutPrefix -/
def strings_CutPrefix_d : FD := ⟨B0.lean [stringslite_CutPrefix_k] [], 1, [], [], [], Tryz.f54⟩
theorem strings_CutPrefix_cs : CsOk PP X strings_CutPrefix_d.cx := csL bOk mixed ⟨stringslite_CutPrefix_ok, trivial⟩ trivial (by kernel_rfl)
theorem strings_CutPrefix_w : ConOk PP X 54 strings_CutPrefix_d.raw := rawD strings_CutPrefix_cs Tryz.func54 (n := 0) (js := []) (by kernel_rfl) trivial trivial
theorem strings_CutPrefix_T : TK strings_CutPrefix_d.raw S17 R23 fun R => strings_CutPrefix_cps big R := fun _ _ _ => by kernel_rfl
def strings_CutPrefix_k : CR := kC 54 [] [] S17 R23 (strings_CutPrefix big)
theorem strings_CutPrefix_ok : strings_CutPrefix_k.Ok PP X := okC strings_CutPrefix_w _ strings_CutPrefix_T (by kernel_rfl)
def strings_ReplaceAll_k : CR := kC 56 [] [] S88 R5 (strings_ReplaceAll big)
theorem strings_ReplaceAll_ok : strings_ReplaceAll_k.Ok PP X := okC shelf_ReplaceAll_56 (fun R => strings_ReplaceAll_cps big R) (fun _ _ _ => by kernel_rfl) (by kernel_rfl)
/-! 32 frankpledge/value.Text -/
def value_Text_l1F : LF S89 := fun R n k => S89.app (value_Text_l1 big R (S90.ex k (.exit 1)) n)
def value_Text_l1G : BF S89 := fun R r k => S89.app (value_Text_l1B big R (S89.cur r) (S90.ex k (.exit 1)))
def value_Text_l1h : LH := lhL S89 value_Text_l1F (ids [64, 65, 66] [(5, .own .byte)]) [] (ids [5] []) none
def value_Text_j0F : JF S91 := fun R k => S91.app (value_Text_j0 big R (S92.ex k .ret))
def value_Text_j0h : LH := lhJ S91 value_Text_j0F (ids [3, 4] []) [] (ids [2] []) 1 none
def value_Text_d : FD := ⟨B0.lean [value_Right_k, strconv_FormatBool_k, strconv_FormatInt_k, strings_CutPrefix_k, strings_Repeat_k, strings_ReplaceAll_k] [], 1, [(21, value_Text_l1h), (1000014, value_Text_j0h)], [], [], Tryz.f32⟩
theorem value_Text_cs : CsOk PP X value_Text_d.cx := csL bOk mixed ⟨value_Right_ok, strconv_FormatBool_ok, strconv_FormatInt_ok, strings_CutPrefix_ok, strings_Repeat_ok, strings_ReplaceAll_ok, trivial⟩ trivial (by kernel_rfl)
theorem value_Text_L0 : LOkD value_Text_d 0 := lokD value_Text_l1F value_Text_l1G value_Text_l1h (by kernel_rfl) (by kernel_rfl) (fun _ _ _ _ => by kernel_rfl) (fun _ _ _ => by kernel_rfl) (fun _ _ _ _ => by kernel_rfl)
theorem value_Text_J26 : JOkD value_Text_d 26 := jokD value_Text_j0F value_Text_j0h (by kernel_rfl) (by kernel_rfl) (fun _ _ _ => by kernel_rfl)
theorem value_Text_w : ConOk PP X 32 value_Text_d.raw := rawD value_Text_cs Tryz.func32 (n := 1) (js := [26]) (by kernel_rfl) ⟨value_Text_L0, trivial⟩ ⟨value_Text_J26, trivial⟩
theorem value_Text_T : TK value_Text_d.raw S86 R5 fun R => value_Text_cps big R := fun _ _ _ => by kernel_rfl
def value_Text_k : CR := kC 32 [] [] S86 R5 (value_Text big)
theorem value_Text_ok : value_Text_k.Ok PP X := okC value_Text_w _ value_Text_T (by kernel_rfl)
/-! The functions about law17_written: they call one another. -/
set_option warn.classDefReducibility false
set_option linter.unusedSectionVars false
section
variable [Fuel]
def Z_law17_written_inst : Z_law17_written := Z_law17_written_at big Fuel.n
attribute [local instance] Z_law17_written_inst
def rec_law17_written_k : CR := kC 14 [] [] S96 R5 Z_law17_written.r_law17_written
class H_law17_written : Prop where
  h_law17_written : rec_law17_written_k.Ok PP X
variable [H_law17_written]
theorem rec_law17_written_ok : rec_law17_written_k.Ok PP X := H_law17_written.h_law17_written
/- 14 frankpledge/frankpledgelaw17.written -/
def law17_written_o_j1F : JF S93 := fun R k => S93.app (law17_written_o_j1 big R (S94.ex k .ret))
def law17_written_o_j1h : LH := lhJ S93 law17_written_o_j1F (ids [1, 3] []) [] (ids [2] []) 1 none
def law17_written_o_l0F : LF S95 := fun R n k => S95.app (law17_written_o_l0 big R (S93.ex k (.exit 0)) n)
def law17_written_o_l0G : BF S95 := fun R r k => S95.app (law17_written_o_l0B big R (S95.cur r) (S93.ex k (.exit 0)))
def law17_written_o_l0h : LH := lhL S95 law17_written_o_l0F (ids [1, 4] [(3, .own .str)]) [] (ids [1, 3] []) none
def law17_written_o_d : FD := ⟨B0.lean [rec_law17_written_k, value_Text_k] [], 1, [(3, law17_written_o_l0h), (1000027, law17_written_o_j1h)], [], [], Tryz.f14⟩
theorem law17_written_o_cs : CsOk PP X law17_written_o_d.cx := csL bOk mixed ⟨rec_law17_written_ok, value_Text_ok, trivial⟩ trivial (by kernel_rfl)
theorem law17_written_o_L0 : LOkD law17_written_o_d 0 := lokD law17_written_o_l0F law17_written_o_l0G law17_written_o_l0h (by kernel_rfl) (by kernel_rfl) (fun _ _ _ _ => by kernel_rfl) (fun _ _ _ => by kernel_rfl) (fun _ _ _ _ => by kernel_rfl)
theorem law17_written_o_J13 : JOkD law17_written_o_d 13 := jokD law17_written_o_j1F law17_written_o_j1h (by kernel_rfl) (by kernel_rfl) (fun _ _ _ => by kernel_rfl)
theorem law17_written_o_w : ConOk PP X 14 law17_written_o_d.raw := rawD law17_written_o_cs Tryz.func14 (n := 1) (js := [13]) (by kernel_rfl) ⟨law17_written_o_L0, trivial⟩ ⟨law17_written_o_J13, trivial⟩
theorem law17_written_o_T : TK law17_written_o_d.raw S96 R5 fun R => law17_written_o_cps big R := fun _ _ _ => by kernel_rfl
def law17_written_o_k : CR := kC 14 [] [] S96 R5 (law17_written_o big)
theorem law17_written_o_ok : law17_written_o_k.Ok PP X := okC law17_written_o_w _ law17_written_o_T (by kernel_rfl)
end
theorem H_law17_written_all (n : Nat) : @H_law17_written ⟨n⟩ := by
  induction n with
  | zero => exact @H_law17_written.mk ⟨0⟩ (okC0 fun _ => by kernel_rfl)
  | succ n ih => exact @H_law17_written.mk ⟨n + 1⟩ (letI : Fuel := ⟨n⟩; letI : H_law17_written := ih; law17_written_o_ok)
def law17_written_k : CR := letI : Fuel := ⟨big⟩; law17_written_o_k
theorem law17_written_ok : law17_written_k.Ok PP X := letI : Fuel := ⟨big⟩; letI : H_law17_written := H_law17_written_all big; law17_written_o_ok
/-! 11 frankpledge/parse.Expression -/
def parse_Expression_d : FD := ⟨B0.lean [fault_At_k, parse_parser_ended_k, parse_parser_whole_k, lex_Lex_k, fault_Wrap_k] [(20, Tryz.f20)], 2, [], [(.inn [none, none, none, none, none, none, none, some .ex, none, none]), .id], [], Tryz.f11⟩
theorem parse_Expression_cs : CsOk PP X parse_Expression_d.cx := csL bOk mixed ⟨fault_At_ok, parse_parser_ended_ok, parse_parser_whole_ok, lex_Lex_ok, fault_Wrap_ok, trivial⟩ ⟨⟨Tryz.func20, by kernel_rfl⟩, trivial⟩ (by kernel_rfl)
theorem parse_Expression_w : ConOk PP X 11 parse_Expression_d.raw := rawD parse_Expression_cs Tryz.func11 (n := 0) (js := []) (by kernel_rfl) trivial trivial
theorem parse_Expression_T : TK parse_Expression_d.raw S5 R24 fun R => parse_Expression_cps big R := fun _ _ _ => by kernel_rfl
def parse_Expression_k : CR := kC 11 [] [] S5 R24 (parse_Expression big)
theorem parse_Expression_ok : parse_Expression_k.Ok PP X := okC parse_Expression_w _ parse_Expression_T (by kernel_rfl)
/-! The functions about ref17_Same: they call one another. -/
set_option warn.classDefReducibility false
set_option linter.unusedSectionVars false
section
variable [Fuel]
def Z_ref17_Same_inst : Z_ref17_Same := Z_ref17_Same_at big Fuel.n
attribute [local instance] Z_ref17_Same_inst
def rec_ref17_Same_k : CR := kC 10 [] [] S97 R4 Z_ref17_Same.r_ref17_Same
class H_ref17_Same : Prop where
  h_ref17_Same : rec_ref17_Same_k.Ok PP X
variable [H_ref17_Same]
theorem rec_ref17_Same_ok : rec_ref17_Same_k.Ok PP X := H_ref17_Same.h_ref17_Same
/- 30 frankpledge/frankpledgeref17.SameList -/
def ref17_SameList_o_l0F : LF S98 := fun R n k => S98.app (ref17_SameList_o_l0 big R (S99.ex k (.exit 0)) (S100.ex k .ret) n)
def ref17_SameList_o_l0G : BF S98 := fun R r k => S98.app (ref17_SameList_o_l0B big R (S98.cur r) (S99.ex k (.exit 0)) (S100.ex k .ret))
def ref17_SameList_o_l0h : LH := lhL S98 ref17_SameList_o_l0F (ids [0, 1, 2, 7] []) [] (ids [6] []) none
def ref17_SameList_o_d : FD := ⟨B0.lean [rec_ref17_Same_k] [], 1, [(4, ref17_SameList_o_l0h)], [], [], Tryz.f30⟩
theorem ref17_SameList_o_cs : CsOk PP X ref17_SameList_o_d.cx := csL bOk mixed ⟨rec_ref17_Same_ok, trivial⟩ trivial (by kernel_rfl)
theorem ref17_SameList_o_L0 : LOkD ref17_SameList_o_d 0 := lokD ref17_SameList_o_l0F ref17_SameList_o_l0G ref17_SameList_o_l0h (by kernel_rfl) (by kernel_rfl) (fun _ _ _ _ => by kernel_rfl) (fun _ _ _ => by kernel_rfl) (fun _ _ _ _ => by kernel_rfl)
theorem ref17_SameList_o_w : ConOk PP X 30 ref17_SameList_o_d.raw := rawD ref17_SameList_o_cs Tryz.func30 (n := 1) (js := []) (by kernel_rfl) ⟨ref17_SameList_o_L0, trivial⟩ trivial
theorem ref17_SameList_o_T : TK ref17_SameList_o_d.raw S101 R4 fun R => ref17_SameList_o_cps big R := fun _ _ _ => by kernel_rfl
def ref17_SameList_o_k : CR := kC 30 [] [] S101 R4 (ref17_SameList_o big)
theorem ref17_SameList_o_ok : ref17_SameList_o_k.Ok PP X := okC ref17_SameList_o_w _ ref17_SameList_o_T (by kernel_rfl)
/- 10 frankpledge/frankpledgeref17.Same -/
def ref17_Same_o_d : FD := ⟨B0.lean [ref17_SameList_o_k] [], 1, [], [], [], Tryz.f10⟩
theorem ref17_Same_o_cs : CsOk PP X ref17_Same_o_d.cx := csL bOk mixed ⟨ref17_SameList_o_ok, trivial⟩ trivial (by kernel_rfl)
theorem ref17_Same_o_w : ConOk PP X 10 ref17_Same_o_d.raw := rawD ref17_Same_o_cs Tryz.func10 (n := 0) (js := []) (by kernel_rfl) trivial trivial
theorem ref17_Same_o_T : TK ref17_Same_o_d.raw S97 R4 fun R => ref17_Same_o_cps big R := fun _ _ _ => by kernel_rfl
def ref17_Same_o_k : CR := kC 10 [] [] S97 R4 (ref17_Same_o big)
theorem ref17_Same_o_ok : ref17_Same_o_k.Ok PP X := okC ref17_Same_o_w _ ref17_Same_o_T (by kernel_rfl)
end
theorem H_ref17_Same_all (n : Nat) : @H_ref17_Same ⟨n⟩ := by
  induction n with
  | zero => exact @H_ref17_Same.mk ⟨0⟩ (okC0 fun _ => by kernel_rfl)
  | succ n ih => exact @H_ref17_Same.mk ⟨n + 1⟩ (letI : Fuel := ⟨n⟩; letI : H_ref17_Same := ih; ref17_Same_o_ok)
def ref17_SameList_k : CR := letI : Fuel := ⟨big⟩; ref17_SameList_o_k
theorem ref17_SameList_ok : ref17_SameList_k.Ok PP X := letI : Fuel := ⟨big⟩; letI : H_ref17_Same := H_ref17_Same_all big; ref17_SameList_o_ok
def ref17_Same_k : CR := letI : Fuel := ⟨big⟩; ref17_Same_o_k
theorem ref17_Same_ok : ref17_Same_k.Ok PP X := letI : Fuel := ⟨big⟩; letI : H_ref17_Same := H_ref17_Same_all big; ref17_Same_o_ok
/-! The functions about parse_Deep: they call one another. -/
set_option warn.classDefReducibility false
set_option linter.unusedSectionVars false
section
variable [Fuel]
def Z_parse_Deep_inst : Z_parse_Deep := Z_parse_Deep_at big Fuel.n
attribute [local instance] Z_parse_Deep_inst
def rec_parse_Deep_k : CR := kC 15 [] [] S96 R1 Z_parse_Deep.r_parse_Deep
class H_parse_Deep : Prop where
  h_parse_Deep : rec_parse_Deep_k.Ok PP X
variable [H_parse_Deep]
theorem rec_parse_Deep_ok : rec_parse_Deep_k.Ok PP X := H_parse_Deep.h_parse_Deep
/- 15 frankpledge/parse.Deep -/
def parse_Deep_o_l0F : LF S102 := fun R n k => S102.app (parse_Deep_o_l0 big R (S103.ex k (.exit 0)) n)
def parse_Deep_o_l0G : BF S102 := fun R r k => S102.app (parse_Deep_o_l0B big R (S102.cur r) (S103.ex k (.exit 0)))
def parse_Deep_o_l0h : LH := lhL S102 parse_Deep_o_l0F (ids [1, 3, 7, 8, 9] []) [] (ids [1, 3] []) none
def parse_Deep_o_d : FD := ⟨B0.lean [rec_parse_Deep_k] [], 1, [(3, parse_Deep_o_l0h)], [], [], Tryz.f15⟩
theorem parse_Deep_o_cs : CsOk PP X parse_Deep_o_d.cx := csL bOk mixed ⟨rec_parse_Deep_ok, trivial⟩ trivial (by kernel_rfl)
theorem parse_Deep_o_L0 : LOkD parse_Deep_o_d 0 := lokD parse_Deep_o_l0F parse_Deep_o_l0G parse_Deep_o_l0h (by kernel_rfl) (by kernel_rfl) (fun _ _ _ _ => by kernel_rfl) (fun _ _ _ => by kernel_rfl) (fun _ _ _ _ => by kernel_rfl)
theorem parse_Deep_o_w : ConOk PP X 15 parse_Deep_o_d.raw := rawD parse_Deep_o_cs Tryz.func15 (n := 1) (js := []) (by kernel_rfl) ⟨parse_Deep_o_L0, trivial⟩ trivial
theorem parse_Deep_o_T : TK parse_Deep_o_d.raw S96 R1 fun R => parse_Deep_o_cps big R := fun _ _ _ => by kernel_rfl
def parse_Deep_o_k : CR := kC 15 [] [] S96 R1 (parse_Deep_o big)
theorem parse_Deep_o_ok : parse_Deep_o_k.Ok PP X := okC parse_Deep_o_w _ parse_Deep_o_T (by kernel_rfl)
end
theorem H_parse_Deep_all (n : Nat) : @H_parse_Deep ⟨n⟩ := by
  induction n with
  | zero => exact @H_parse_Deep.mk ⟨0⟩ (okC0 fun _ => by kernel_rfl)
  | succ n ih => exact @H_parse_Deep.mk ⟨n + 1⟩ (letI : Fuel := ⟨n⟩; letI : H_parse_Deep := ih; parse_Deep_o_ok)
def parse_Deep_k : CR := letI : Fuel := ⟨big⟩; parse_Deep_o_k
theorem parse_Deep_ok : parse_Deep_k.Ok PP X := letI : Fuel := ⟨big⟩; letI : H_parse_Deep := H_parse_Deep_all big; parse_Deep_o_ok
/-! 5 frankpledge/frankpledgelaw17.ParseBack -/
def law17_ParseBack_j1F : JF S104 := fun R k => S104.app (law17_ParseBack_j1 big R (S105.ex k .ret))
def law17_ParseBack_j1h : LH := lhJ S104 law17_ParseBack_j1F (ids [4, 7, 9] []) [] (ids [2] []) 3 none
def law17_ParseBack_l0F : LF S106 := fun R n k => S106.app (law17_ParseBack_l0 big R (S107.ex k (.exit 0)) (S108.ex k .ret) n)
def law17_ParseBack_l0G : BF S106 := fun R r k => S106.app (law17_ParseBack_l0B big R (S106.cur r) (S107.ex k (.exit 0)) (S108.ex k .ret))
def law17_ParseBack_l0h : LH := lhL S106 law17_ParseBack_l0F (ids [0, 3] []) [] (ids [0, 2] []) none
def law17_ParseBack_d : FD := ⟨B0.lean [law17_alive_k, parse_Parse_k, ref17_Same_k, parse_Expression_k, law17_built_k, law17_written_k, parse_Deep_k] [], 1, [(2, law17_ParseBack_l0h), (1000015, law17_ParseBack_j1h)], [], [], Tryz.f5⟩
theorem law17_ParseBack_cs : CsOk PP X law17_ParseBack_d.cx := csL bOk mixed ⟨law17_alive_ok, parse_Parse_ok, ref17_Same_ok, parse_Expression_ok, law17_built_ok, law17_written_ok, parse_Deep_ok, trivial⟩ trivial (by kernel_rfl)
theorem law17_ParseBack_L0 : LOkD law17_ParseBack_d 0 := lokD law17_ParseBack_l0F law17_ParseBack_l0G law17_ParseBack_l0h (by kernel_rfl) (by kernel_rfl) (fun _ _ _ _ => by kernel_rfl) (fun _ _ _ => by kernel_rfl) (fun _ _ _ _ => by kernel_rfl)
theorem law17_ParseBack_J29 : JOkD law17_ParseBack_d 29 := jokD law17_ParseBack_j1F law17_ParseBack_j1h (by kernel_rfl) (by kernel_rfl) (fun _ _ _ => by kernel_rfl)
theorem law17_ParseBack_w : ConOk PP X 5 law17_ParseBack_d.raw := rawD law17_ParseBack_cs Tryz.func5 (n := 1) (js := [29]) (by kernel_rfl) ⟨law17_ParseBack_L0, trivial⟩ ⟨law17_ParseBack_J29, trivial⟩
theorem law17_ParseBack_T : TK law17_ParseBack_d.raw S109 R4 fun R => law17_ParseBack_cps big R := fun _ _ _ => by kernel_rfl
def law17_ParseBack_k : CR := kC 5 [] [] S109 R4 (law17_ParseBack big)
theorem law17_ParseBack_ok : law17_ParseBack_k.Ok PP X := okC law17_ParseBack_w _ law17_ParseBack_T (by kernel_rfl)

end
end Go.Proofs.YtbikfekdakigiaaGreatDoor.E
