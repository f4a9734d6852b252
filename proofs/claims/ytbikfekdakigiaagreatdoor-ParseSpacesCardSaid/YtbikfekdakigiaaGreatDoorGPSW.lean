/-
  The walk: the code comes to the pure functions (printed by a program).
  Conditions: those that each statement prints, and no other.
-/
import Derived.Test.YtbikfekdakigiaaGreatDoorEvC
import Derived.Test.YtbikfekdakigiaaGreatDoorEvL
import Derived.Lib.AppendIntMem
import Derived.Test.YtbikfekdakigiaaGreatDoorShelf
import Derived.Test.YtbikfekdakigiaaGreatDoorAs
import Derived.KernelRfl
import Derived.Test.YtbikfekdakigiaaGreatDoorRows
import Derived.Test.YtbikfekdakigiaaGreatDoorGPSF
set_option linter.unusedVariables false
set_option linter.unusedSimpArgs false
namespace Go.Proofs.YtbikfekdakigiaaGreatDoor.E
open Go.Ev Go.ChangeShapes
set_option maxRecDepth 100000
noncomputable section
noncomputable def tab : List (Nat × TE) := [(2, { d := .int .i64, size := 1, bytes := 8, agg := false, ty := some (.int .i64), zero := [.int .i64 0] }),
 (3, { d := .int .i64, size := 1, bytes := 8, agg := false, ty := some (.int .i64), zero := [.int .i64 0] }),
 (4, { d := .bool, size := 1, bytes := 1, agg := false, ty := some .bool, zero := [.bool false] }),
 (5, { d := .int .u8, size := 1, bytes := 1, agg := false, ty := some .byte, zero := [.int .u8 0] }),
 (9, { d := .str, size := 1, bytes := 16, agg := false, ty := some .str, zero := [.str []] }),
 (22, { d := .slice 5, size := 1, bytes := 24, agg := false, ty := some (.slice .byte), zero := [.nils] }),
 (23, { d := .slice 45, size := 1, bytes := 24, agg := false, ty := some (.slice Q3), zero := [.nils] }),
 (27, { d := .int .i64, size := 1, bytes := 8, agg := false, ty := some (.int .i64), zero := [.int .i64 0] }),
 (28, { d := .int .i64, size := 1, bytes := 8, agg := false, ty := some (.int .i64), zero := [.int .i64 0] }),
 (29, { d := .int .i64, size := 1, bytes := 8, agg := false, ty := some (.int .i64), zero := [.int .i64 0] }),
 (31, { d := .struct [⟨0, 1, false⟩, ⟨1, 1, false⟩, ⟨2, 1, false⟩], size := 3, bytes := 32, agg := true, ty := some (.pair (.int .i64) (.pair (.int .i64) (.pair .str .unit))), zero := [.int .i64 0, .int .i64 0, .str []] }),
 (32, { d := .slice 34, size := 1, bytes := 24, agg := false, ty := some (.slice .ex), zero := [.nils] }),
 (34, { d := .struct [⟨0, 1, false⟩, ⟨1, 3, true⟩, ⟨4, 1, false⟩, ⟨5, 1, false⟩, ⟨6, 1, false⟩, ⟨7, 1, false⟩, ⟨8, 1, false⟩, ⟨9, 1, false⟩], size := 10, bytes := 120, agg := true, ty := some .ex, zero := [.int .i64 0, .int .i64 0, .int .i64 0, .str [], .str [], .str [], .int .i64 0, .nils, .int .i64 0, .int .i64 0] }),
 (35, { d := .slice 100, size := 1, bytes := 24, agg := false, ty := some (.slice (.pair .ex (.pair .bool .unit))), zero := [.nils] }),
 (36, { d := .slice 32, size := 1, bytes := 24, agg := false, ty := some (.slice (.slice .ex)), zero := [.nils] }),
 (37, { d := .slice 103, size := 1, bytes := 24, agg := false, ty := some (.slice (.pair .str (.pair .ex (.pair (.int .i64) .unit)))), zero := [.nils] }),
 (39, { d := .struct [⟨0, 1, false⟩, ⟨1, 1, false⟩, ⟨2, 1, false⟩, ⟨3, 10, true⟩, ⟨13, 10, true⟩, ⟨23, 1, false⟩, ⟨24, 1, false⟩, ⟨25, 1, false⟩, ⟨26, 1, false⟩, ⟨27, 1, false⟩, ⟨28, 1, false⟩, ⟨29, 1, false⟩], size := 30, bytes := 416, agg := true, ty := some (.pair (.int .i64) (.pair .str (.pair .str (.pair .ex (.pair .ex (.pair (.slice .ex) (.pair (.slice .ex) (.pair (.slice (.pair .ex (.pair .bool .unit))) (.pair (.int .i64) (.pair (.slice (.slice .ex)) (.pair (.slice (.pair .str (.pair .ex (.pair (.int .i64) .unit)))) (.pair (.int .i64) .unit)))))))))))), zero := [.int .i64 0, .str [], .str [], .int .i64 0, .int .i64 0, .int .i64 0, .str [], .str [], .str [], .int .i64 0, .nils, .int .i64 0, .int .i64 0, .int .i64 0, .int .i64 0, .int .i64 0, .str [], .str [], .str [], .int .i64 0, .nils, .int .i64 0, .int .i64 0, .nils, .nils, .nils, .int .i64 0, .nils, .nils, .int .i64 0] }),
 (41, { d := .iface, size := 1, bytes := 16, agg := false, ty := some .err, zero := [.err Err.nil] }),
 (45, { d := .struct [⟨0, 1, false⟩, ⟨1, 1, false⟩, ⟨2, 3, true⟩, ⟨5, 1, false⟩], size := 6, bytes := 64, agg := true, ty := some Q3, zero := [.int .i64 0, .str [], .int .i64 0, .int .i64 0, .str [], .int .i64 0] }),
 (50, { d := .slice 9, size := 1, bytes := 24, agg := false, ty := some (.slice .str), zero := [.nils] }),
 (66, { d := .int .i64, size := 1, bytes := 8, agg := false, ty := some (.int .i64), zero := [.int .i64 0] }),
 (83, { d := .ptr 86, size := 1, bytes := 8, agg := false, ty := none, zero := [.nilp] }),
 (86, { d := .struct [⟨0, 1, false⟩, ⟨1, 1, false⟩, ⟨2, 1, false⟩], size := 3, bytes := 32, agg := true, ty := some (.pair (.int .i64) (.pair (.int .i64) (.pair .err .unit))), zero := [.int .i64 0, .int .i64 0, .err Err.nil] }),
 (87, { d := .slice 95, size := 1, bytes := 24, agg := false, ty := some (.slice Q3), zero := [.nils] }),
 (92, { d := .struct [⟨0, 1, false⟩, ⟨1, 1, false⟩, ⟨2, 1, false⟩], size := 3, bytes := 48, agg := true, ty := some (.pair (.slice Q3) (.pair (.int .i64) (.pair .err .unit))), zero := [.nils, .int .i64 0, .err Err.nil] }),
 (93, { d := .int .i64, size := 1, bytes := 8, agg := false, ty := some (.int .i64), zero := [.int .i64 0] }),
 (95, { d := .struct [⟨0, 1, false⟩, ⟨1, 1, false⟩, ⟨2, 3, true⟩, ⟨5, 1, false⟩], size := 6, bytes := 64, agg := true, ty := some Q3, zero := [.int .i64 0, .str [], .int .i64 0, .int .i64 0, .str [], .int .i64 0] }),
 (100, { d := .struct [⟨0, 10, true⟩, ⟨10, 1, false⟩], size := 11, bytes := 128, agg := true, ty := some (.pair .ex (.pair .bool .unit)), zero := [.int .i64 0, .int .i64 0, .int .i64 0, .str [], .str [], .str [], .int .i64 0, .nils, .int .i64 0, .int .i64 0, .bool false] }),
 (103, { d := .struct [⟨0, 1, false⟩, ⟨1, 10, true⟩, ⟨11, 1, false⟩], size := 12, bytes := 144, agg := true, ty := some (.pair .str (.pair .ex (.pair (.int .i64) .unit))), zero := [.str [], .int .i64 0, .int .i64 0, .int .i64 0, .str [], .str [], .str [], .int .i64 0, .nils, .int .i64 0, .int .i64 0, .int .i64 0] }),
 (151, { d := .int .u64, size := 1, bytes := 8, agg := false, ty := some (.int .u64), zero := [.int .u64 0] })]
def want : List (Nat × List Nat) := []
def eqs : List (Nat × List EK) := [(31, [.int .i64, .int .i64, .str])]
def b0 : List Nat := [31, 63, 64]
def cmps : List Nat := []
theorem tabOk : tabB Go.Proofs.Tryz.prog tab = true := by kernel_rfl
def X : Cfg := ⟨83, 0, [(8, errP), (9, errP), (0, handP 172 10 41)], b0⟩
theorem mixed : Go.Proofs.Tryz.prog.follows .mixedOrders = true := by kernel_rfl
theorem eqsOk : ∀ t ks, Go.Ev.look eqs t = some ks → eqTB Go.Proofs.Tryz.prog t ks = true := allEq_get (by kernel_rfl)
theorem cmpsOk : cmpsB Go.Proofs.Tryz.prog cmps = true := by kernel_rfl
def tf0 : Option Nat := some 83
theorem tfOk : ∀ t, (match tf0 with | some f => Nat.beq f t | none => false) = true → X.tf = t ∧ tfB Go.Proofs.Tryz.prog t = true := fun t h => Nat.eq_of_beq_eq_true h ▸ ⟨rfl, (by kernel_rfl : tfB Go.Proofs.Tryz.prog 83 = true)⟩
theorem shelf_At_19 : ConOk Go.Proofs.Tryz.prog X 19 (conG atG) := conG_ok (at_ok Go.Proofs.Tryz.func19 (by kernel_rfl) (.tail _ (.tail _ (.head _))) As.At_nil As.At_hit) atG_of
theorem shelf_Code_18 : ConOk Go.Proofs.Tryz.prog X 18 (conG codeG) := conG_ok (code_ok Go.Proofs.Tryz.func18 (by kernel_rfl) (.tail _ (.tail _ (.head _))) As.Code_nil As.Code_hit) codeG_of
theorem shelf_ParseInt_120 : ConOk Go.Proofs.Tryz.prog X 120 (conG parseG) :=
 conG_ok (parse_ok Go.Proofs.Tryz.func120 (by kernel_rfl) (.head _) (.tail _ (.head _)) (fun s h v hv w => Go.Proofs.Tryz.strconv_ParseInt_10_at64_ok s h v hv w)
  (fun s h hp ev w h1 h2 => (Go.Proofs.Tryz.strconv_ParseInt_10_at64_syntax s h hp ev w h1 h2).mono fun e w' ⟨N, he, _, _, hb⟩ => ⟨N, he, hb⟩)
  (fun s h hp ev w h1 h2 => (Go.Proofs.Tryz.strconv_ParseInt_10_at64_range s h hp ev w h1 h2).mono fun e w' ⟨N, he, _, _, hb⟩ => ⟨N, he, hb⟩)) parseG_of
theorem shelf_Repeat_55 : ConOk Go.Proofs.Tryz.prog X 55 (conG repeatG) := conG_ok (repeat_ok Go.Proofs.Tryz.func55 (by kernel_rfl) (fun s c w h1 h2 => Go.Proofs.Tryz.strings_Repeat s c w h1 h2)) repeatG_of
theorem shelf_ToLower_84 : ConOk Go.Proofs.Tryz.prog X 84 (conG lowerG) := conG_ok (lower_ok Go.Proofs.Tryz.func84 (by kernel_rfl) (fun s w h1 h2 => Go.Proofs.Tryz.strings_ToLower_ascii s w h1 h2)) lowerG_of
noncomputable abbrev PP : Program := Go.Proofs.Tryz.prog
noncomputable def B0 : Cx := { tab := tab, con := [], funs := [], loops := [], want := want, ret := [], calm := [], bnd := [], eqs := eqs, cmps := cmps, tf := tf0, b0 := b0 }
theorem bOk : CxOk PP X B0 := ⟨fun _ _ h => tab_ok tabOk h, eqsOk, cmps_ok cmpsOk, tfOk, rfl⟩
noncomputable def BX (xs : List Nat) (xd : List (Nat × List (Nat × Ty))) (xa : Bool) : Cx := { B0 with xl := true, xs := xs, xd := xd, xa := xa }
theorem bxOk {xs : List Nat} {xd : List (Nat × List (Nat × Ty))} {xa : Bool} : CxOk PP X (BX xs xd xa) := ⟨fun _ _ h => tab_ok tabOk h, eqsOk, cmps_ok cmpsOk, tfOk, rfl⟩
noncomputable def S0 : SCode := ⟨[.leaf (.int .u8)], []⟩
noncomputable def R0 : RC := ⟨.leaf (.bool), []⟩
noncomputable def S1 : SCode := ⟨.leaf (.str) :: A 2 (.leaf (.int .i64) :: A 26 []), []⟩
noncomputable def S2 : SCode := ⟨A 30 [], []⟩
noncomputable def S3 : SCode := ⟨A 2 (.leaf (.int .i64) :: A 27 []), []⟩
noncomputable def S4 : SCode := ⟨[.leaf (.str)], []⟩
noncomputable def R1 : RC := ⟨.leaf (.int .i64), []⟩
noncomputable def S5 : SCode := ⟨.leaf (.str) :: A 2 (.leaf (.sl .own .byte) :: .leaf (.int .i64) :: A 24 []), []⟩
noncomputable def S6 : SCode := ⟨A 3 (.leaf (.sl .own .byte) :: A 25 []), []⟩
noncomputable def R2 : RC := ⟨.leaf (.str), []⟩
noncomputable def S7 : SCode := ⟨[.leaf (.int .i64)], []⟩
noncomputable def R3 : RC := ⟨.agg [.int .i64, .int .i64, .str], []⟩
noncomputable def S8 : SCode := ⟨.leaf (.int .u8) :: A 2 (.leaf (.int .i64) :: A 9 []), []⟩
noncomputable def S9 : SCode := ⟨A 13 [], []⟩
noncomputable def S10 : SCode := ⟨A 2 (.leaf (.int .i64) :: A 10 []), []⟩
noncomputable def S11 : SCode := ⟨.leaf (.str) :: .leaf (.bool) :: A 4 (.leaf (.int .u64) :: .leaf (.int .u64) :: .leaf (.int .i64) :: A 51 []), []⟩
noncomputable def S12 : SCode := ⟨.leaf (.str) :: .leaf (.bool) :: A 2 (.leaf (.int .i64) :: .leaf (.bool) :: .leaf (.int .u64) :: .leaf (.int .u64) :: .leaf (.int .i64) :: A 51 []), []⟩
noncomputable def S13 : SCode := ⟨.leaf (.str) :: .leaf (.bool) :: A 4 (.leaf (.int .u64) :: A 53 []), []⟩
noncomputable def S14 : SCode := ⟨.leaf (.str) :: .leaf (.bool) :: A 2 (.leaf (.int .i64) :: .leaf (.bool) :: .leaf (.int .u64) :: A 53 []), []⟩
noncomputable def S15 : SCode := ⟨.leaf (.str) :: .leaf (.bool) :: A 4 (.leaf (.int .u64) :: .leaf (.int .u64) :: A 52 []), []⟩
noncomputable def S16 : SCode := ⟨A 4 (.leaf (.int .i64) :: .leaf (.bool) :: A 54 []), []⟩
noncomputable def S17 : SCode := ⟨[.leaf (.str), .leaf (.bool)], []⟩
noncomputable def R4 : RC := ⟨.tup [.l (.int .i64), .l (.bool)], []⟩
noncomputable def S18 : SCode := ⟨A 2 (.leaf (.lit (.ptr 0 0)) :: A 6 (.leaf (.bool) :: .leaf (.str) :: .leaf (.int .i64) :: A 140 [])), [[.int .i64, .int .i64, .str]]⟩
noncomputable def S19 : SCode := ⟨A 2 (.leaf (.lit (.ptr 0 0)) :: A 9 (.leaf (.int .i64) :: .leaf (.bool) :: A 138 [])), [[.int .i64, .int .i64, .str]]⟩
noncomputable def S20 : SCode := ⟨A 2 (.leaf (.lit (.ptr 0 0)) :: A 6 (.leaf (.bool) :: .leaf (.str) :: .leaf (.int .i64) :: A 112 (.leaf (.bool) :: A 27 []))), [[.int .i64, .int .i64, .str]]⟩
noncomputable def S21 : SCode := ⟨A 2 (.leaf (.lit (.ptr 0 0)) :: A 6 (.leaf (.bool) :: .leaf (.str) :: A 141 [])), [[.int .i64, .int .i64, .str]]⟩
noncomputable def S22 : SCode := ⟨A 2 (.leaf (.lit (.ptr 0 0)) :: A 149 []), [[.int .i64, .int .i64, .str]]⟩
noncomputable def S23 : SCode := ⟨.leaf (.str) :: A 1 (.leaf (.lit (.ptr 0 0)) :: A 6 (.leaf (.bool) :: A 142 [])), [[.int .i64, .int .i64, .str]]⟩
noncomputable def S24 : SCode := ⟨.leaf (.str) :: A 1 (.leaf (.lit (.ptr 0 0)) :: A 149 []), [[.int .i64, .int .i64, .str]]⟩
noncomputable def S25 : SCode := ⟨.leaf (.str) :: A 1 (.leaf (.lit (.ptr 0 0)) :: A 4 (.leaf (.str) :: .leaf (.int .i64) :: A 143 [])), [[.int .i64, .int .i64, .str]]⟩
noncomputable def S26 : SCode := ⟨A 2 (.leaf (.lit (.ptr 0 0)) :: A 4 (.leaf (.str) :: A 144 [])), [[.int .i64, .int .i64, .str]]⟩
noncomputable def S27 : SCode := ⟨.leaf (.str) :: A 1 (.leaf (.lit (.ptr 0 0)) :: A 68 (.leaf (.bool) :: A 80 [])), [[.int .i64, .int .i64, .str]]⟩
noncomputable def S28 : SCode := ⟨.leaf (.str) :: A 1 (.leaf (.lit (.ptr 0 0)) :: .leaf (.str) :: .leaf (.int .i64) :: A 147 []), [[.int .i64, .int .i64, .str]]⟩
noncomputable def S29 : SCode := ⟨A 2 (.leaf (.lit (.ptr 0 0)) :: .leaf (.str) :: A 148 []), [[.int .i64, .int .i64, .str]]⟩
noncomputable def S30 : SCode := ⟨.leaf (.str) :: A 1 (.leaf (.lit (.ptr 0 0)) :: A 25 (.leaf (.bool) :: A 123 [])), [[.int .i64, .int .i64, .str]]⟩
noncomputable def S31 : SCode := ⟨A 1 (.leaf (.lit (.ptr 0 0)) :: A 2 (.leaf (.int .i64) :: A 25 (.leaf (.bool) :: A 17 []))), [[.int .i64, .int .i64, .str]]⟩
noncomputable def S32 : SCode := ⟨A 48 [], [[.int .i64, .int .i64, .str]]⟩
noncomputable def S33 : SCode := ⟨A 2 (.leaf (.bool) :: A 45 []), [[.int .i64, .int .i64, .str]]⟩
noncomputable def S34 : SCode := ⟨[.agg [.int .i64, .int .i64, .str]], []⟩
noncomputable def R5 : RC := ⟨.tup [.l (.int .u64), .l (.str)], []⟩
noncomputable def S35 : SCode := ⟨.leaf (.int .u64) :: .leaf (.int .i64) :: A 3 (.leaf (.str) :: A 19 []), []⟩
noncomputable def S36 : SCode := ⟨A 5 (.leaf (.str) :: A 19 []), []⟩
noncomputable def S37 : SCode := ⟨[.leaf (.int .u64), .leaf (.int .i64)], []⟩
noncomputable def S38 : SCode := ⟨A 1 (.leaf (.lit (.ptr 0 0)) :: A 4 (.leaf (.str) :: A 1 (.leaf (.int .i64) :: A 115 []))), [[.int .i64, .int .i64, .str]]⟩
noncomputable def S39 : SCode := ⟨A 6 (.leaf (.str) :: A 117 []), [[.int .i64, .int .i64, .str]]⟩
noncomputable def S40 : SCode := ⟨A 1 (.leaf (.lit (.ptr 0 0)) :: A 4 (.leaf (.str) :: .leaf (.int .i64) :: A 116 [])), [[.int .i64, .int .i64, .str]]⟩
noncomputable def S41 : SCode := ⟨A 1 (.leaf (.lit (.ptr 0 0)) :: A 122 []), [[.int .i64, .int .i64, .str]]⟩
noncomputable def S42 : SCode := ⟨A 2 (.leaf (.str) :: A 121 []), [[.int .i64, .int .i64, .str]]⟩
noncomputable def S43 : SCode := ⟨A 1 (.leaf (.lit (.ptr 0 0)) :: A 2 (.leaf (.int .u64) :: .leaf (.str) :: A 18 (.leaf (.bool) :: A 99 []))), [[.int .i64, .int .i64, .str]]⟩
noncomputable def S44 : SCode := ⟨A 1 (.leaf (.lit (.ptr 0 0)) :: .leaf (.str) :: A 121 []), [[.int .i64, .int .i64, .str]]⟩
noncomputable def R6 : RC := ⟨.tup [.agg [.int .i64, .int .i64, .str], .l (.bool)], []⟩
noncomputable def R7 : RC := ⟨.agg [.int .i64, .str, .int .i64, .int .i64, .str, .int .i64], []⟩
noncomputable def W0 : List LC := [.int .i64, .str, .int .i64, .int .i64, .str, .int .i64]
noncomputable def S45 : SCode := ⟨.leaf (.str) :: A 1 (.leaf (.lit (.ptr 0 0)) :: .leaf (.int .i64) :: A 2 (.leaf (.str) :: A 123 [])), [W0]⟩
noncomputable def S46 : SCode := ⟨A 2 (.leaf (.lit (.ptr 0 0)) :: A 127 []), [W0]⟩
noncomputable def S47 : SCode := ⟨.leaf (.str) :: A 1 (.leaf (.lit (.ptr 0 0)) :: .leaf (.int .i64) :: A 2 (.leaf (.str) :: .leaf (.int .i64) :: A 122 [])), [W0]⟩
noncomputable def S48 : SCode := ⟨.leaf (.str) :: A 1 (.leaf (.lit (.ptr 0 0)) :: .leaf (.int .i64) :: .leaf (.int .i64) :: A 1 (.leaf (.str) :: A 123 [])), [W0]⟩
noncomputable def S49 : SCode := ⟨.leaf (.str) :: A 1 (.leaf (.lit (.ptr 0 0)) :: .leaf (.int .i64) :: .leaf (.int .i64) :: A 125 []), [W0]⟩
noncomputable def S50 : SCode := ⟨.leaf (.str) :: A 1 (.leaf (.lit (.ptr 0 0)) :: .leaf (.int .i64) :: .leaf (.int .i64) :: A 33 (.leaf (.bool) :: A 91 [])), [W0]⟩
noncomputable def S51 : SCode := ⟨.leaf (.str) :: A 1 (.leaf (.lit (.ptr 0 0)) :: .leaf (.int .i64) :: A 126 []), [W0]⟩
noncomputable def S52 : SCode := ⟨.leaf (.str) :: A 1 (.leaf (.lit (.ptr 0 0)) :: .leaf (.sl .own .str) :: .leaf (.int .i64) :: A 35 []), [W0]⟩
noncomputable def S53 : SCode := ⟨A 2 (.leaf (.lit (.ptr 0 0)) :: A 37 []), [W0]⟩
noncomputable def S54 : SCode := ⟨.leaf (.str) :: A 1 (.leaf (.lit (.ptr 0 0)) :: A 2 (.leaf (.int .i64) :: .leaf (.bool) :: A 59 [])), [W0]⟩
noncomputable def S55 : SCode := ⟨.leaf (.str) :: A 1 (.leaf (.lit (.ptr 0 0)) :: A 2 (.leaf (.int .i64) :: A 60 [])), [W0]⟩
noncomputable def S56 : SCode := ⟨.leaf (.str) :: A 1 (.leaf (.lit (.ptr 0 0)) :: .leaf (.bool) :: .leaf (.bool) :: A 8 (.leaf (.bool) :: A 52 [])), [W0]⟩
noncomputable def S57 : SCode := ⟨.leaf (.str) :: A 1 (.leaf (.lit (.ptr 0 0)) :: A 63 []), [W0]⟩
noncomputable def S58 : SCode := ⟨.leaf (.str) :: A 4 (.leaf (.sl .own Q3) :: .leaf (.int .i64) :: A 41 []), []⟩
noncomputable def S59 : SCode := ⟨.leaf (.str) :: A 4 (.leaf (.sl .own Q3) :: A 42 []), []⟩
noncomputable def S60 : SCode := ⟨.leaf (.str) :: A 1 (.leaf (.lit (.nils)) :: .leaf (.int .i64) :: .leaf (.bool) :: .leaf (.sl .own Q3) :: A 42 []), []⟩
noncomputable def R8 : RC := ⟨.tup [.l (.sl .own Q3), .l (.int .i64), .l (.bool)], []⟩
noncomputable def S61 : SCode := ⟨[.leaf (.int .i64), .leaf (.int .i64)], []⟩
noncomputable def R9 : RC := ⟨.leaf (.err), []⟩
noncomputable def S62 : SCode := ⟨.leaf (.str) :: A 3 (.leaf (.sl .own .byte) :: .leaf (.int .i64) :: A 34 []), []⟩
noncomputable def S63 : SCode := ⟨A 40 [], []⟩
noncomputable def S64 : SCode := ⟨A 2 (.leaf (.str) :: .leaf (.int .i64) :: A 36 []), []⟩
noncomputable def R10 : RC := ⟨.tup [.l (.str), .l (.int .i64)], []⟩
noncomputable def S65 : SCode := ⟨[.leaf (.str), .leaf (.int .u8)], []⟩
noncomputable def S66 : SCode := ⟨.leaf (.str) :: A 1 (.leaf (.lit (.ptr 0 0)) :: .leaf (.str) :: .leaf (.int .i64) :: .leaf (.sl .own .byte) :: A 55 []), [W0]⟩
noncomputable def S67 : SCode := ⟨.leaf (.str) :: A 1 (.leaf (.lit (.ptr 0 0)) :: A 1 (.leaf (.int .i64) :: .leaf (.sl .own .byte) :: A 55 [])), [W0]⟩
noncomputable def S68 : SCode := ⟨.leaf (.str) :: A 1 (.leaf (.lit (.ptr 0 0)) :: .leaf (.str) :: .leaf (.int .i64) :: A 56 []), [W0]⟩
noncomputable def S69 : SCode := ⟨A 2 (.leaf (.lit (.ptr 0 0)) :: A 58 []), [W0]⟩
noncomputable def S70 : SCode := ⟨.leaf (.str) :: .leaf (.lit (.fn 86 [])) :: A 3 (.leaf (.int .i64) :: A 15 []), []⟩
noncomputable def S71 : SCode := ⟨A 5 (.leaf (.int .i64) :: A 15 []), []⟩
noncomputable def S72 : SCode := ⟨[.leaf (.str), .leaf (.lit (.fn 86 []))], []⟩
noncomputable def S73 : SCode := ⟨.leaf (.str) :: .leaf (.lit (.fn 119 [])) :: A 3 (.leaf (.int .i64) :: A 15 []), []⟩
noncomputable def S74 : SCode := ⟨[.leaf (.str), .leaf (.lit (.fn 119 []))], []⟩
noncomputable def S75 : SCode := ⟨[.leaf (.str), .leaf (.str)], []⟩
noncomputable def S76 : SCode := ⟨[.leaf (.str), .leaf (.int .i64)], []⟩
noncomputable def S77 : SCode := ⟨[.leaf (.str), .leaf (.int .i64), .leaf (.int .i64)], []⟩
noncomputable def R11 : RC := ⟨.tup [.l (.int .i64), .l (.err)], []⟩
noncomputable def S78 : SCode := ⟨.leaf (.str) :: A 1 (.leaf (.lit (.ptr 0 0)) :: .leaf (.int .i64) :: .leaf (.str) :: A 1 (.leaf (.int .i64) :: A 64 [])), [W0]⟩
noncomputable def S79 : SCode := ⟨A 2 (.leaf (.lit (.ptr 0 0)) :: A 68 []), [W0]⟩
noncomputable def S80 : SCode := ⟨.leaf (.str) :: A 1 (.leaf (.lit (.ptr 0 0)) :: .leaf (.int .i64) :: .leaf (.str) :: .leaf (.str) :: .leaf (.int .i64) :: A 64 []), [W0]⟩
noncomputable def S81 : SCode := ⟨.leaf (.str) :: A 1 (.leaf (.lit (.ptr 0 0)) :: .leaf (.int .i64) :: .leaf (.str) :: .leaf (.str) :: A 1 (.leaf (.int .i64) :: A 63 [])), [W0]⟩
noncomputable def S82 : SCode := ⟨.leaf (.str) :: A 1 (.leaf (.lit (.ptr 0 0)) :: A 2 (.leaf (.sl .own .str) :: .leaf (.int .i64) :: .leaf (.int .i64) :: A 17 [])), [W0]⟩
noncomputable def S83 : SCode := ⟨.leaf (.str) :: A 1 (.leaf (.lit (.ptr 0 0)) :: A 22 []), [W0]⟩
noncomputable def S84 : SCode := ⟨.leaf (.str) :: A 3 (.leaf (.sl .own Q3) :: .leaf (.int .i64) :: A 42 []), []⟩
noncomputable def S85 : SCode := ⟨.leaf (.str) :: A 3 (.leaf (.sl .own Q3) :: A 43 []), []⟩
noncomputable def S86 : SCode := ⟨.leaf (.str) :: A 1 (.leaf (.lit (.nils)) :: .leaf (.err) :: .leaf (.sl .own Q3) :: A 43 []), []⟩
noncomputable def R12 : RC := ⟨.tup [.l (.sl .ro Q3), .l (.err)], []⟩
noncomputable def S87 : SCode := ⟨[.leaf (.err)], []⟩
noncomputable def S88 : SCode := ⟨[.leaf (.err), .leaf (.int .i64), .leaf (.int .i64)], []⟩
noncomputable def W1 : List LC := [.sl .ro Q3, .int .i64, .err]
noncomputable def S89 : SCode := ⟨[.leaf (.lit (.ptr 0 0)), .leaf (.str)], [W1]⟩
noncomputable def S90 : SCode := ⟨[.leaf (.lit (.ptr 0 0))], [W1]⟩
noncomputable def R13 : RC := ⟨.agg [.int .i64, .str, .int .i64, .int .i64, .str, .int .i64], [W1]⟩
noncomputable def R14 : RC := ⟨.leaf (.bool), [W1]⟩
noncomputable def S91 : SCode := ⟨[.leaf (.lit (.ptr 0 0)), .leaf (.int .i64)], [W1]⟩
noncomputable def R15 : RC := ⟨.leaf (.lit (.tup [])), [W1]⟩
noncomputable def S92 : SCode := ⟨.leaf (.lit (.ptr 0 0)) :: A 5 (.leaf (.sl .ro .str) :: .leaf (.int .i64) :: .leaf (.int .i64) :: A 10 []), [W1]⟩
noncomputable def S93 : SCode := ⟨A 19 [], [W1]⟩
noncomputable def S94 : SCode := ⟨[.leaf (.lit (.ptr 0 0)), .leaf (.sl .ro .str)], [W1]⟩
noncomputable def R16 : RC := ⟨.agg [.int .i64, .int .i64, .int .i64, .str, .str, .str, .int .i64, .lit (.nils), .int .i64, .int .i64], [W1]⟩
noncomputable def S95 : SCode := ⟨.leaf (.sl .ro .str) :: .leaf (.str) :: A 5 (.leaf (.int .i64) :: .leaf (.int .i64) :: A 10 []), []⟩
noncomputable def S96 : SCode := ⟨A 19 [], []⟩
noncomputable def S97 : SCode := ⟨A 4 (.leaf (.int .i64) :: A 14 []), []⟩
noncomputable def S98 : SCode := ⟨[.leaf (.sl .ro .str), .leaf (.str)], []⟩
noncomputable def R17 : RC := ⟨.leaf (.str), [W1]⟩
noncomputable def W2 : List LC := [.int .i64, .int .i64, .int .i64, .str, .str, .str, .int .i64, .sl .ro .ex, .int .i64, .int .i64]
noncomputable def W3 : List LC := [.int .i64, .int .i64, .int .i64, .str, .str, .str, .int .i64, .lit (.nils), .int .i64, .int .i64]
noncomputable def S99 : SCode := ⟨.leaf (.lit (.ptr 0 0)) :: A 5 (.leaf (.lit (.ptr 3 0)) :: .leaf (.lit (.ptr 4 0)) :: A 101 []), [W1, W0, W2, W3, W3]⟩
noncomputable def S100 : SCode := ⟨A 6 (.leaf (.lit (.ptr 3 0)) :: .leaf (.lit (.ptr 4 0)) :: A 101 []), [W1, W0, W2, W3, W3]⟩
noncomputable def S101 : SCode := ⟨.leaf (.lit (.ptr 0 0)) :: A 5 (.leaf (.lit (.ptr 3 0)) :: .leaf (.lit (.ptr 4 0)) :: A 63 (.leaf (.bool) :: A 37 [])), [W1, W0, W2, W3, W3]⟩
noncomputable def S102 : SCode := ⟨[.leaf (.lit (.ptr 0 0)), .agg [.int .i64, .str, .int .i64, .int .i64, .str, .int .i64], .agg [.int .i64, .int .i64, .int .i64, .str, .str, .str, .int .i64, .sl .ro .ex, .int .i64, .int .i64]], [W1]⟩
noncomputable def R18 : RC := ⟨.agg [.int .i64, .int .i64, .int .i64, .str, .str, .str, .int .i64, .sl .ro .ex, .int .i64, .int .i64], [W1]⟩
noncomputable def S103 : SCode := ⟨.leaf (.lit (.ptr 0 0)) :: A 1 (.leaf (.lit (.ptr 1 0)) :: .leaf (.lit (.ptr 2 0)) :: .leaf (.lit (.ptr 3 0)) :: A 1 (.leaf (.int .i64) :: A 54 [])), [W1, W3, W2, W0]⟩
noncomputable def W4 : List LC := [.int .i64, .int .i64, .int .i64, .str, .str, .str, .int .i64, .sl .own .ex, .int .i64, .int .i64]
noncomputable def S104 : SCode := ⟨A 2 (.leaf (.lit (.ptr 1 0)) :: A 58 []), [W1, W4, W2, W0]⟩
noncomputable def S105 : SCode := ⟨[.leaf (.lit (.ptr 0 0)), .fn 63 [.lit (.ptr 0 0)]], [W1]⟩
noncomputable def S106 : SCode := ⟨[.leaf (.lit (.ptr 0 0)), .fn 31 [.lit (.ptr 0 0)]], [W1]⟩
noncomputable def S107 : SCode := ⟨[.leaf (.lit (.ptr 0 0)), .fn 64 [.lit (.ptr 0 0)]], [W1]⟩
noncomputable def S108 : SCode := ⟨A 1 (.leaf (.int .i64) :: .leaf (.lit (.ptr 0 0)) :: A 37 []), [W0]⟩
noncomputable def S109 : SCode := ⟨A 4 (.leaf (.int .i64) :: A 35 []), [W0]⟩
noncomputable def S110 : SCode := ⟨[.agg [.int .i64, .str, .int .i64, .int .i64, .str, .int .i64], .leaf (.int .i64)], []⟩
noncomputable def S111 : SCode := ⟨.leaf (.lit (.ptr 0 0)) :: .leaf (.int .i64) :: A 2 (.leaf (.lit (.ptr 1 0)) :: .leaf (.lit (.ptr 2 0)) :: .leaf (.int .i64) :: .leaf (.int .i64) :: A 41 []), [W1, W3, W2]⟩
noncomputable def S112 : SCode := ⟨.leaf (.lit (.ptr 0 0)) :: .leaf (.int .i64) :: A 2 (.leaf (.lit (.ptr 1 0)) :: .leaf (.lit (.ptr 2 0)) :: A 43 []), [W1, W3, W4]⟩
noncomputable def S113 : SCode := ⟨.leaf (.lit (.ptr 0 0)) :: .leaf (.int .i64) :: A 2 (.leaf (.lit (.ptr 1 0)) :: .leaf (.lit (.ptr 2 0)) :: A 43 []), [W1, W3, W2]⟩
noncomputable def S114 : SCode := ⟨A 4 (.leaf (.lit (.ptr 1 0)) :: .leaf (.lit (.ptr 2 0)) :: A 43 []), [W1, W3, W2]⟩
noncomputable def S115 : SCode := ⟨.leaf (.lit (.ptr 0 0)) :: A 2 (.leaf (.sl .own .ex) :: A 11 []), [W1]⟩
noncomputable def S116 : SCode := ⟨A 3 (.leaf (.sl .own .ex) :: A 11 []), [W1]⟩
noncomputable def R19 : RC := ⟨.leaf (.sl .own .ex), [W1]⟩
noncomputable def W5 : List LC := [.int .i64, .str, .str, .int .i64, .int .i64, .int .i64, .str, .str, .str, .int .i64, .lit (.nils), .int .i64, .int .i64, .int .i64, .int .i64, .int .i64, .str, .str, .str, .int .i64, .lit (.nils), .int .i64, .int .i64, .sl .own .ex, .lit (.nils), .lit (.nils), .int .i64, .lit (.nils), .lit (.nils), .int .i64]
noncomputable def S117 : SCode := ⟨[.leaf (.lit (.ptr 0 0)), .leaf (.lit (.ptr 1 0))], [W1, W5]⟩
noncomputable def R20 : RC := ⟨.leaf (.lit (.tup [])), [W1, W5]⟩
noncomputable def W6 : List LC := [.int .i64, .str, .str, .int .i64, .int .i64, .int .i64, .str, .str, .str, .int .i64, .sl .ro .ex, .int .i64, .int .i64, .int .i64, .int .i64, .int .i64, .str, .str, .str, .int .i64, .sl .ro .ex, .int .i64, .int .i64, .sl .own .ex, .sl .own .ex, .sl .own (.pair .ex (.pair .bool .unit)), .int .i64, .lit (.nils), .lit (.nils), .int .i64]
noncomputable def S118 : SCode := ⟨.leaf (.lit (.ptr 0 0)) :: .leaf (.lit (.ptr 1 0)) :: A 109 [], [W1, W6]⟩
noncomputable def S119 : SCode := ⟨A 111 [], [W1, W6]⟩
noncomputable def W7 : List LC := [.int .i64, .int .i64, .int .i64, .str, .str, .str, .int .i64, .sl .ro .ex, .int .i64, .int .i64, .bool]
noncomputable def S120 : SCode := ⟨.leaf (.lit (.ptr 0 0)) :: .leaf (.lit (.ptr 1 0)) :: A 3 (.leaf (.lit (.ptr 2 0)) :: A 105 []), [W1, W6, W7]⟩
noncomputable def S121 : SCode := ⟨.leaf (.lit (.ptr 0 0)) :: .leaf (.lit (.ptr 1 0)) :: A 109 [], [W1, W6, W7]⟩
noncomputable def S122 : SCode := ⟨.leaf (.lit (.ptr 0 0)) :: .leaf (.lit (.ptr 1 0)) :: A 2 (.leaf (.bool) :: A 106 []), [W1, W6]⟩
noncomputable def W8 : List LC := [.int .i64, .str, .str, .int .i64, .int .i64, .int .i64, .str, .str, .str, .int .i64, .sl .ro .ex, .int .i64, .int .i64, .int .i64, .int .i64, .int .i64, .str, .str, .str, .int .i64, .sl .ro .ex, .int .i64, .int .i64, .sl .own .ex, .sl .own .ex, .lit (.nils), .int .i64, .lit (.nils), .lit (.nils), .int .i64]
noncomputable def S123 : SCode := ⟨.leaf (.lit (.ptr 0 0)) :: .leaf (.lit (.ptr 1 0)) :: A 109 [], [W1, W8]⟩
noncomputable def W9 : List LC := [.int .i64, .str, .str, .int .i64, .int .i64, .int .i64, .str, .str, .str, .int .i64, .sl .ro .ex, .int .i64, .int .i64, .int .i64, .int .i64, .int .i64, .str, .str, .str, .int .i64, .lit (.nils), .int .i64, .int .i64, .sl .own .ex, .lit (.nils), .lit (.nils), .int .i64, .lit (.nils), .lit (.nils), .int .i64]
noncomputable def S124 : SCode := ⟨.leaf (.lit (.ptr 0 0)) :: .leaf (.lit (.ptr 1 0)) :: A 109 [], [W1, W9]⟩
noncomputable def S125 : SCode := ⟨.leaf (.lit (.ptr 0 0)) :: .leaf (.lit (.ptr 1 0)) :: A 109 [], [W1, W5]⟩
noncomputable def W10 : List LC := [.int .i64, .str, .str, .int .i64, .int .i64, .int .i64, .str, .str, .str, .int .i64, .lit (.nils), .int .i64, .int .i64, .int .i64, .int .i64, .int .i64, .str, .str, .str, .int .i64, .lit (.nils), .int .i64, .int .i64, .lit (.nils), .lit (.nils), .lit (.nils), .int .i64, .lit (.nils), .lit (.nils), .int .i64]
noncomputable def S126 : SCode := ⟨[.leaf (.lit (.ptr 0 0)), .leaf (.lit (.ptr 1 0))], [W1, W10]⟩
noncomputable def R21 : RC := ⟨.leaf (.lit (.tup [])), [W1, W6]⟩
noncomputable def R22 : RC := ⟨.leaf (.err), [W1]⟩
noncomputable def R23 : RC := ⟨.leaf (.lit (.tup [])), [W1, W10]⟩
noncomputable def W11 : List LC := [.int .i64, .str, .str, .int .i64, .int .i64, .int .i64, .str, .str, .str, .int .i64, .lit (.nils), .int .i64, .int .i64, .int .i64, .int .i64, .int .i64, .str, .str, .str, .int .i64, .lit (.nils), .int .i64, .int .i64, .lit (.nils), .lit (.nils), .lit (.nils), .int .i64, .sl .own (.slice .ex), .lit (.nils), .int .i64]
noncomputable def S127 : SCode := ⟨.leaf (.lit (.ptr 0 0)) :: .leaf (.lit (.ptr 1 0)) :: A 37 [], [W1, W11]⟩
noncomputable def S128 : SCode := ⟨.leaf (.lit (.ptr 0 0)) :: .leaf (.lit (.ptr 1 0)) :: A 2 (.leaf (.bool) :: A 34 []), [W1, W11]⟩
noncomputable def S129 : SCode := ⟨A 39 [], [W1, W11]⟩
noncomputable def R24 : RC := ⟨.leaf (.lit (.tup [])), [W1, W11]⟩
noncomputable def W12 : List LC := [.int .i64, .str, .str, .int .i64, .int .i64, .int .i64, .str, .str, .str, .int .i64, .lit (.nils), .int .i64, .int .i64, .int .i64, .int .i64, .int .i64, .str, .str, .str, .int .i64, .lit (.nils), .int .i64, .int .i64, .lit (.nils), .lit (.nils), .lit (.nils), .int .i64, .lit (.nils), .sl .own (.pair .str (.pair .ex (.pair (.int .i64) .unit))), .int .i64]
noncomputable def W13 : List LC := [.str, .int .i64, .int .i64, .int .i64, .str, .str, .str, .int .i64, .sl .ro .ex, .int .i64, .int .i64, .int .i64]
noncomputable def S130 : SCode := ⟨.leaf (.lit (.ptr 0 0)) :: .leaf (.lit (.ptr 1 0)) :: A 3 (.leaf (.lit (.ptr 2 0)) :: A 35 []), [W1, W12, W13]⟩
noncomputable def S131 : SCode := ⟨.leaf (.lit (.ptr 0 0)) :: .leaf (.lit (.ptr 1 0)) :: A 39 [], [W1, W12, W13]⟩
noncomputable def S132 : SCode := ⟨.leaf (.lit (.ptr 0 0)) :: .leaf (.lit (.ptr 1 0)) :: A 2 (.leaf (.bool) :: A 36 []), [W1, W12]⟩
noncomputable def S133 : SCode := ⟨.leaf (.lit (.ptr 0 0)) :: .leaf (.lit (.ptr 1 0)) :: A 39 [], [W1, W12]⟩
noncomputable def W14 : List LC := [.int .i64, .str, .str, .int .i64, .int .i64, .int .i64, .str, .str, .str, .int .i64, .lit (.nils), .int .i64, .int .i64, .int .i64, .int .i64, .int .i64, .str, .str, .str, .int .i64, .sl .ro .ex, .int .i64, .int .i64, .lit (.nils), .lit (.nils), .lit (.nils), .int .i64, .lit (.nils), .sl .own (.pair .str (.pair .ex (.pair (.int .i64) .unit))), .int .i64]
noncomputable def R25 : RC := ⟨.leaf (.lit (.tup [])), [W1, W14]⟩
noncomputable def R26 : RC := ⟨.tup [.agg [.int .i64, .str, .str, .int .i64, .int .i64, .int .i64, .str, .str, .str, .int .i64, .sl .ro .ex, .int .i64, .int .i64, .int .i64, .int .i64, .int .i64, .str, .str, .str, .int .i64, .sl .ro .ex, .int .i64, .int .i64, .sl .ro .ex, .sl .ro .ex, .sl .ro (.pair .ex (.pair .bool .unit)), .int .i64, .sl .ro (.slice .ex), .sl .ro (.pair .str (.pair .ex (.pair (.int .i64) .unit))), .int .i64], .l (.err)], []⟩
noncomputable def S134 : SCode := ⟨[], []⟩
noncomputable def S135 : SCode := ⟨.leaf (.str) :: A 2 (.leaf (.sl .own .byte) :: .leaf (.bool) :: .leaf (.int .i64) :: .leaf (.int .u8) :: A 31 []), []⟩
noncomputable def S136 : SCode := ⟨.leaf (.str) :: A 2 (.leaf (.sl .own .byte) :: .leaf (.bool) :: .leaf (.int .i64) :: A 32 []), []⟩
noncomputable def S137 : SCode := ⟨A 3 (.leaf (.sl .own .byte) :: A 34 []), []⟩
noncomputable def S138 : SCode := ⟨[.agg [.int .i64, .int .i64, .int .i64, .str, .str, .str, .int .i64, .sl .ro .ex, .int .i64, .int .i64], .agg [.int .i64, .int .i64, .int .i64, .str, .str, .str, .int .i64, .sl .ro .ex, .int .i64, .int .i64], .leaf (.bool)], []⟩
noncomputable def S139 : SCode := ⟨.leaf (.sl .ro .ex) :: .leaf (.sl .ro .ex) :: .leaf (.bool) :: A 4 (.leaf (.int .i64) :: A 24 []), []⟩
noncomputable def S140 : SCode := ⟨A 32 [], []⟩
noncomputable def S141 : SCode := ⟨A 6 (.leaf (.bool) :: A 25 []), []⟩
noncomputable def S142 : SCode := ⟨[.leaf (.sl .ro .ex), .leaf (.sl .ro .ex), .leaf (.bool)], []⟩
noncomputable def W15 : List LC := [.int .i64, .str, .str, .int .i64, .int .i64, .int .i64, .str, .str, .str, .int .i64, .sl .ro .ex, .int .i64, .int .i64, .int .i64, .int .i64, .int .i64, .str, .str, .str, .int .i64, .sl .ro .ex, .int .i64, .int .i64, .sl .ro .ex, .sl .ro .ex, .sl .ro (.pair .ex (.pair .bool .unit)), .int .i64, .sl .ro (.slice .ex), .sl .ro (.pair .str (.pair .ex (.pair (.int .i64) .unit))), .int .i64]
noncomputable def S143 : SCode := ⟨A 8 (.leaf (.lit (.ptr 0 0)) :: A 4 (.leaf (.lit (.ptr 1 0)) :: A 1 (.leaf (.lit (.ptr 2 0)) :: A 1 (.leaf (.int .i64) :: A 199 [])))), [W15, W15, W15]⟩
noncomputable def S144 : SCode := ⟨A 8 (.leaf (.lit (.ptr 0 0)) :: A 4 (.leaf (.lit (.ptr 1 0)) :: A 1 (.leaf (.lit (.ptr 2 0)) :: A 201 []))), [W15, W15, W15]⟩
noncomputable def S145 : SCode := ⟨A 4 (.leaf (.bool) :: A 3 (.leaf (.lit (.ptr 0 0)) :: A 4 (.leaf (.lit (.ptr 1 0)) :: A 1 (.leaf (.lit (.ptr 2 0)) :: A 201 [])))), [W15, W15, W15]⟩
noncomputable def S146 : SCode := ⟨A 4 (.leaf (.bool) :: A 212 []), [W15, W15, W15]⟩
noncomputable def S147 : SCode := ⟨.leaf (.str) :: .leaf (.sl .ro .byte) :: A 3 (.leaf (.sl .own Q3) :: A 2 (.leaf (.lit (.ptr 0 0)) :: A 1 (.leaf (.str) :: .leaf (.int .i64) :: A 205 []))), [W15]⟩
noncomputable def S148 : SCode := ⟨.leaf (.str) :: A 7 (.leaf (.lit (.ptr 0 0)) :: A 1 (.leaf (.str) :: A 206 [])), [W15]⟩
noncomputable def S149 : SCode := ⟨.leaf (.str) :: .leaf (.sl .ro .byte) :: A 3 (.leaf (.sl .own Q3) :: A 211 []), []⟩
noncomputable def S150 : SCode := ⟨A 4 (.leaf (.bool) :: A 212 []), []⟩
noncomputable def S151 : SCode := ⟨[.leaf (.str), .leaf (.sl .ro .byte)], []⟩
def r6_blank_d : FD := ⟨B0.lean [] [], 1, [], [], [], Tryz.f16⟩
theorem r6_blank_cs : CsOk PP X r6_blank_d.cx := csL bOk mixed trivial trivial (by kernel_rfl)
theorem r6_blank_w : ConOk PP X 16 r6_blank_d.raw := rawD r6_blank_cs Tryz.func16 (n := 0) (js := []) (by kernel_rfl) trivial trivial
theorem r6_blank_T : TK r6_blank_d.raw S0 R0 fun R => r6_blank_cps big R := fun _ _ _ => by kernel_rfl
def r6_blank_k : CR := kC 16 [] [] S0 R0 (r6_blank big)
theorem r6_blank_ok : r6_blank_k.Ok PP X := okC r6_blank_w _ r6_blank_T (by kernel_rfl)
def r6_letter_d : FD := ⟨B0.lean [] [], 1, [], [], [], Tryz.f33⟩
theorem r6_letter_cs : CsOk PP X r6_letter_d.cx := csL bOk mixed trivial trivial (by kernel_rfl)
theorem r6_letter_w : ConOk PP X 33 r6_letter_d.raw := rawD r6_letter_cs Tryz.func33 (n := 0) (js := []) (by kernel_rfl) trivial trivial
theorem r6_letter_T : TK r6_letter_d.raw S0 R0 fun R => r6_letter_cps big R := fun _ _ _ => by kernel_rfl
def r6_letter_k : CR := kC 33 [] [] S0 R0 (r6_letter big)
theorem r6_letter_ok : r6_letter_k.Ok PP X := okC r6_letter_w _ r6_letter_T (by kernel_rfl)
def r6_figure_d : FD := ⟨B0.lean [] [], 1, [], [], [], Tryz.f34⟩
theorem r6_figure_cs : CsOk PP X r6_figure_d.cx := csL bOk mixed trivial trivial (by kernel_rfl)
theorem r6_figure_w : ConOk PP X 34 r6_figure_d.raw := rawD r6_figure_cs Tryz.func34 (n := 0) (js := []) (by kernel_rfl) trivial trivial
theorem r6_figure_T : TK r6_figure_d.raw S0 R0 fun R => r6_figure_cps big R := fun _ _ _ => by kernel_rfl
def r6_figure_k : CR := kC 34 [] [] S0 R0 (r6_figure big)
theorem r6_figure_ok : r6_figure_k.Ok PP X := okC r6_figure_w _ r6_figure_T (by kernel_rfl)
def r6_quoted_l0F : LF S1 := fun R n k => S1.app (r6_quoted_l0 big R (S2.ex k (.exit 0)) (S3.ex k .ret) n)
def r6_quoted_l0G : BF S1 := fun R r k => S1.app (r6_quoted_l0B big R (S1.cur r) (S2.ex k (.exit 0)) (S3.ex k .ret))
def r6_quoted_l0h : LH := lhL S1 r6_quoted_l0F (ids [0, 3] []) [] (ids [2] []) none
def r6_quoted_d : FD := ⟨B0.lean [] [], 1, [(2, r6_quoted_l0h)], [], [], Tryz.f57⟩
theorem r6_quoted_cs : CsOk PP X r6_quoted_d.cx := csL bOk mixed trivial trivial (by kernel_rfl)
theorem r6_quoted_L0 : LOkD r6_quoted_d 0 := lokD r6_quoted_l0F r6_quoted_l0G r6_quoted_l0h (by kernel_rfl) (by kernel_rfl) (fun _ _ _ _ => by kernel_rfl) (fun _ _ _ => by kernel_rfl) (fun _ _ _ _ => by kernel_rfl)
theorem r6_quoted_w : ConOk PP X 57 r6_quoted_d.raw := rawD r6_quoted_cs Tryz.func57 (n := 1) (js := []) (by kernel_rfl) ⟨r6_quoted_L0, trivial⟩ trivial
theorem r6_quoted_T : TK r6_quoted_d.raw S4 R1 fun R => r6_quoted_cps big R := fun _ _ _ => by kernel_rfl
def r6_quoted_k : CR := kC 57 [] [] S4 R1 (r6_quoted big)
theorem r6_quoted_ok : r6_quoted_k.Ok PP X := okC r6_quoted_w _ r6_quoted_T (by kernel_rfl)
def r6_small_l0F : LF S5 := fun R n k => S5.app (r6_small_l0 big R (S6.ex k (.exit 0)) n)
def r6_small_l0G : BF S5 := fun R r k => S5.app (r6_small_l0B big R (S5.cur r) (S6.ex k (.exit 0)))
def r6_small_l0h : LH := lhL S5 r6_small_l0F (ids [0, 4] [(3, .own .byte)]) [] (ids [3] []) none
def r6_small_d : FD := ⟨B0.lean [] [], 1, [(3, r6_small_l0h)], [], [], Tryz.f37⟩
theorem r6_small_cs : CsOk PP X r6_small_d.cx := csL bOk mixed trivial trivial (by kernel_rfl)
theorem r6_small_L0 : LOkD r6_small_d 0 := lokD r6_small_l0F r6_small_l0G r6_small_l0h (by kernel_rfl) (by kernel_rfl) (fun _ _ _ _ => by kernel_rfl) (fun _ _ _ => by kernel_rfl) (fun _ _ _ _ => by kernel_rfl)
theorem r6_small_w : ConOk PP X 37 r6_small_d.raw := rawD r6_small_cs Tryz.func37 (n := 1) (js := []) (by kernel_rfl) ⟨r6_small_L0, trivial⟩ trivial
theorem r6_small_T : TK r6_small_d.raw S4 R2 fun R => r6_small_cps big R := fun _ _ _ => by kernel_rfl
def r6_small_k : CR := kC 37 [] [] S4 R2 (r6_small big)
theorem r6_small_ok : r6_small_k.Ok PP X := okC r6_small_w _ r6_small_T (by kernel_rfl)
def r2_Of_d : FD := ⟨B0.lean [] [], 1, [], [], [], Tryz.f106⟩
theorem r2_Of_cs : CsOk PP X r2_Of_d.cx := csL bOk mixed trivial trivial (by kernel_rfl)
theorem r2_Of_w : ConOk PP X 106 r2_Of_d.raw := rawD r2_Of_cs Tryz.func106 (n := 0) (js := []) (by kernel_rfl) trivial trivial
theorem r2_Of_T : TK r2_Of_d.raw S7 R3 fun R => r2_Of_cps big R := fun _ _ _ => by kernel_rfl
def r2_Of_k : CR := kC 106 [] [] S7 R3 (r2_Of big)
theorem r2_Of_ok : r2_Of_k.Ok PP X := okC r2_Of_w _ r2_Of_T (by kernel_rfl)
def r2_hex_l0F : LF S8 := fun R n k => S8.app (r2_hex_l0 big R (S9.ex k (.exit 0)) (S10.ex k .ret) n)
def r2_hex_l0G : BF S8 := fun R r k => S8.app (r2_hex_l0B big R (S8.cur r) (S9.ex k (.exit 0)) (S10.ex k .ret))
def r2_hex_l0h : LH := lhL S8 r2_hex_l0F (ids [0, 3] []) [] (ids [2] []) none
def r2_hex_d : FD := ⟨B0.lean [] [], 1, [(2, r2_hex_l0h)], [], [], Tryz.f107⟩
theorem r2_hex_cs : CsOk PP X r2_hex_d.cx := csL bOk mixed trivial trivial (by kernel_rfl)
theorem r2_hex_L0 : LOkD r2_hex_d 0 := lokD r2_hex_l0F r2_hex_l0G r2_hex_l0h (by kernel_rfl) (by kernel_rfl) (fun _ _ _ _ => by kernel_rfl) (fun _ _ _ => by kernel_rfl) (fun _ _ _ _ => by kernel_rfl)
theorem r2_hex_w : ConOk PP X 107 r2_hex_d.raw := rawD r2_hex_cs Tryz.func107 (n := 1) (js := []) (by kernel_rfl) ⟨r2_hex_L0, trivial⟩ trivial
theorem r2_hex_T : TK r2_hex_d.raw S0 R1 fun R => r2_hex_cps big R := fun _ _ _ => by kernel_rfl
def r2_hex_k : CR := kC 107 [] [] S0 R1 (r2_hex big)
theorem r2_hex_ok : r2_hex_k.Ok PP X := okC r2_hex_w _ r2_hex_T (by kernel_rfl)
def r2_figures_j2F : JF S11 := fun R k => S11.app (r2_figures_j2 big R (S11.ex k .normal) (S12.ex k .ret))
def r2_figures_j2h : LH := lhJ S11 r2_figures_j2F (ids [0, 1, 6, 7, 8] []) [] (ids [0, 1, 4, 5, 6, 7, 8] []) 0 none
def r2_figures_l1F : LF S11 := fun R n k => S11.app (r2_figures_l1 big R (S13.ex k (.exit 0)) (S14.ex k .ret) n)
def r2_figures_l1G : BF S11 := fun R r k => S11.app (r2_figures_l1B big R (S11.cur r) (S13.ex k (.exit 0)) (S14.ex k .ret))
def r2_figures_l1h : LH := lhL S11 r2_figures_l1F (ids [0, 1, 6, 7, 8] []) [] (ids [0, 1, 4, 5, 6] []) none
def r2_figures_j0F : JF S15 := fun R k => S15.app (r2_figures_j0 big R (S16.ex k .ret))
def r2_figures_j0h : LH := lhJ S15 r2_figures_j0F (ids [0, 1, 6, 7] []) [] (ids [4, 5] []) 0 none
def r2_figures_d : FD := ⟨B0.lean [] [], 1, [(6, r2_figures_l1h), (1000005, r2_figures_j0h), (1000010, r2_figures_j2h)], [], [], Tryz.f108⟩
theorem r2_figures_cs : CsOk PP X r2_figures_d.cx := csL bOk mixed trivial trivial (by kernel_rfl)
theorem r2_figures_L0 : LOkD r2_figures_d 0 := lokD r2_figures_l1F r2_figures_l1G r2_figures_l1h (by kernel_rfl) (by kernel_rfl) (fun _ _ _ _ => by kernel_rfl) (fun _ _ _ => by kernel_rfl) (fun _ _ _ _ => by kernel_rfl)
theorem r2_figures_J6 : JOkD r2_figures_d 6 := jokD r2_figures_j0F r2_figures_j0h (by kernel_rfl) (by kernel_rfl) (fun _ _ _ => by kernel_rfl)
theorem r2_figures_J17 : JOkD r2_figures_d 17 := jokD r2_figures_j2F r2_figures_j2h (by kernel_rfl) (by kernel_rfl) (fun _ _ _ => by kernel_rfl)
theorem r2_figures_w : ConOk PP X 108 r2_figures_d.raw := rawD r2_figures_cs Tryz.func108 (n := 1) (js := [6, 17]) (by kernel_rfl) ⟨r2_figures_L0, trivial⟩ ⟨r2_figures_J6, r2_figures_J17, trivial⟩
theorem r2_figures_T : TK r2_figures_d.raw S17 R4 fun R => r2_figures_cps big R := fun _ _ _ => by kernel_rfl
def r2_figures_k : CR := kC 108 [] [] S17 R4 (r2_figures big)
theorem r2_figures_ok : r2_figures_k.Ok PP X := okC r2_figures_w _ r2_figures_T (by kernel_rfl)
def r2_guess_r8F : JF S18 := fun R k => S18.app (r2_guess_r8 big R (S19.ex k .normal))
def r2_guess_r8h : LH := lhJ S18 r2_guess_r8F (ids [2, 9, 10, 11] []) [] (ids [2, 12, 13] []) 1 none
def r2_guess_j7F : JF S20 := fun R k => S20.app (r2_guess_j7 big R (S21.ex k .normal) (S22.ex k .ret))
def r2_guess_j7h : LH := lhJ S20 r2_guess_j7F (ids [2, 9, 10, 11, 124] []) [] (ids [2, 9, 10] []) 1 none
def r2_guess_j6F : JF S21 := fun R k => S21.app (r2_guess_j6 big R (S22.ex k .ret))
def r2_guess_j6h : LH := lhJ S21 r2_guess_j6F (ids [2, 9, 10] []) [] (ids [2] []) 1 none
def r2_guess_j5F : JF S23 := fun R k => S23.app (r2_guess_j5 big R (S22.ex k .ret))
def r2_guess_j5h : LH := lhJ S23 r2_guess_j5F (ids [0, 2, 9] []) [] (ids [2] []) 1 none
def r2_guess_j4F : JF S24 := fun R k => S24.app (r2_guess_j4 big R (S22.ex k .ret))
def r2_guess_j4h : LH := lhJ S24 r2_guess_j4F (ids [0, 2] []) [] (ids [2] []) 1 none
def r2_guess_l3F : LF S25 := fun R n k => S25.app (r2_guess_l3 big R (S26.ex k (.exit 3)) n)
def r2_guess_l3G : BF S25 := fun R r k => S25.app (r2_guess_l3B big R (S25.cur r) (S26.ex k (.exit 3)))
def r2_guess_l3h : LH := lhL S25 r2_guess_l3F (ids [0, 2, 7, 8] []) [] (ids [2, 7] []) none
def r2_guess_j2F : JF S27 := fun R k => S27.app (r2_guess_j2 big R (S24.ex k .normal) (S22.ex k .ret))
def r2_guess_j2h : LH := lhJ S27 r2_guess_j2F (ids [0, 2, 71] []) [] (ids [0, 2] []) 1 none
def r2_guess_l1F : LF S28 := fun R n k => S28.app (r2_guess_l1 big R (S29.ex k (.exit 1)) (S29.ex k .ret) n)
def r2_guess_l1G : BF S28 := fun R r k => S28.app (r2_guess_l1B big R (S28.cur r) (S29.ex k (.exit 1)) (S29.ex k .ret))
def r2_guess_l1h : LH := lhL S28 r2_guess_l1F (ids [0, 2, 3, 4] []) [] (ids [2, 3] []) none
def r2_guess_j0F : JF S30 := fun R k => S30.app (r2_guess_j0 big R (S24.ex k .normal) (S22.ex k .ret))
def r2_guess_j0h : LH := lhJ S30 r2_guess_j0F (ids [0, 2, 28] []) [] (ids [0, 2] []) 1 none
def r2_guess_d : FD := ⟨B0.lean [r2_Of_k, r2_hex_k, r2_figures_k] [], 1, [(10, r2_guess_l1h), (21, r2_guess_l3h), (1000008, r2_guess_j0h), (1000019, r2_guess_j2h), (1000027, r2_guess_j4h), (1000028, r2_guess_j5h), (1000031, r2_guess_j6h), (1000033, r2_guess_j7h), (2000033, r2_guess_r8h)], [], [], Tryz.f76⟩
theorem r2_guess_cs : CsOk PP X r2_guess_d.cx := csL bOk mixed ⟨r2_Of_ok, r2_hex_ok, r2_figures_ok, trivial⟩ trivial (by kernel_rfl)
theorem r2_guess_L0 : LOkD r2_guess_d 0 := lokD r2_guess_l1F r2_guess_l1G r2_guess_l1h (by kernel_rfl) (by kernel_rfl) (fun _ _ _ _ => by kernel_rfl) (fun _ _ _ => by kernel_rfl) (fun _ _ _ _ => by kernel_rfl)
theorem r2_guess_L1 : LOkD r2_guess_d 1 := lokD r2_guess_l3F r2_guess_l3G r2_guess_l3h (by kernel_rfl) (by kernel_rfl) (fun _ _ _ _ => by kernel_rfl) (fun _ _ _ => by kernel_rfl) (fun _ _ _ _ => by kernel_rfl)
theorem r2_guess_J2 : JOkD r2_guess_d 2 := jokD r2_guess_j4F r2_guess_j4h (by kernel_rfl) (by kernel_rfl) (fun _ _ _ => by kernel_rfl)
theorem r2_guess_J15 : JOkD r2_guess_d 15 := jokD r2_guess_j0F r2_guess_j0h (by kernel_rfl) (by kernel_rfl) (fun _ _ _ => by kernel_rfl)
theorem r2_guess_J39 : JOkD r2_guess_d 39 := jokD r2_guess_j2F r2_guess_j2h (by kernel_rfl) (by kernel_rfl) (fun _ _ _ => by kernel_rfl)
theorem r2_guess_J58 : JOkD r2_guess_d 58 := jokD r2_guess_j5F r2_guess_j5h (by kernel_rfl) (by kernel_rfl) (fun _ _ _ => by kernel_rfl)
theorem r2_guess_J62 : JOkD r2_guess_d 62 := jokD r2_guess_j6F r2_guess_j6h (by kernel_rfl) (by kernel_rfl) (fun _ _ _ => by kernel_rfl)
theorem r2_guess_J69 : JOkD r2_guess_d 69 := jokD r2_guess_j7F r2_guess_j7h (by kernel_rfl) (by kernel_rfl) (fun _ _ _ => by kernel_rfl)
theorem r2_guess_J72 : JOkD r2_guess_d 72 := rokD r2_guess_cs r2_guess_r8F r2_guess_r8h (by kernel_rfl) rfl rfl (by kernel_rfl) (by kernel_rfl) [[0, 1, 2, 3, 4, 5, 6, 7, 8, 9, 10, 11, 12, 13, 14], [0, 1, 2, 3, 4, 5, 6, 7, 8, 9, 10, 12, 11, 13, 14]] (by kernel_rfl) ⟨(fun _ _ _ => by kernel_rfl), (fun _ _ _ => by kernel_rfl), trivial⟩
theorem r2_guess_w : ConOk PP X 76 r2_guess_d.raw := rawD r2_guess_cs Tryz.func76 (n := 2) (js := [2, 15, 39, 58, 62, 69, 72]) (by kernel_rfl) ⟨r2_guess_L0, r2_guess_L1, trivial⟩ ⟨r2_guess_J2, r2_guess_J15, r2_guess_J39, r2_guess_J58, r2_guess_J62, r2_guess_J69, r2_guess_J72, trivial⟩
theorem r2_guess_T : TK r2_guess_d.raw S4 R3 fun R => r2_guess_cps big R := fun _ _ _ => by kernel_rfl
def r2_guess_k : CR := kC 76 [] [] S4 R3 (r2_guess big)
theorem r2_guess_ok : r2_guess_k.Ok PP X := okC r2_guess_w _ r2_guess_T (by kernel_rfl)
def r2_Right_j0F : JF S31 := fun R k => S31.app (r2_Right_j0 big R (S32.ex k .normal) (S33.ex k .ret))
def r2_Right_j0h : LH := lhJ S31 r2_Right_j0F (ids [1, 4, 30] []) [] (ids [2] []) 1 none
def r2_Right_d : FD := ⟨B0.lean [] [], 1, [(1000008, r2_Right_j0h)], [], [], Tryz.f77⟩
theorem r2_Right_cs : CsOk PP X r2_Right_d.cx := csL bOk mixed trivial trivial (by kernel_rfl)
theorem r2_Right_J13 : JOkD r2_Right_d 13 := jokD r2_Right_j0F r2_Right_j0h (by kernel_rfl) (by kernel_rfl) (fun _ _ _ => by kernel_rfl)
theorem r2_Right_w : ConOk PP X 77 r2_Right_d.raw := rawD r2_Right_cs Tryz.func77 (n := 0) (js := [13]) (by kernel_rfl) trivial ⟨r2_Right_J13, trivial⟩
theorem r2_Right_T : TK r2_Right_d.raw S34 R0 fun R => r2_Right_cps big R := fun _ _ _ => by kernel_rfl
def r2_Right_k : CR := kC 77 [] [] S34 R0 (r2_Right big)
theorem r2_Right_ok : r2_Right_k.Ok PP X := okC r2_Right_w _ r2_Right_T (by kernel_rfl)
def r2_size_d : FD := ⟨B0.lean [] [], 1, [], [], [], Tryz.f109⟩
theorem r2_size_cs : CsOk PP X r2_size_d.cx := csL bOk mixed trivial trivial (by kernel_rfl)
theorem r2_size_w : ConOk PP X 109 r2_size_d.raw := rawD r2_size_cs Tryz.func109 (n := 0) (js := []) (by kernel_rfl) trivial trivial
theorem r2_size_T : TK r2_size_d.raw S7 R5 fun R => r2_size_cps big R := fun _ _ _ => by kernel_rfl
def r2_size_k : CR := kC 109 [] [] S7 R5 (r2_size big)
theorem r2_size_ok : r2_size_k.Ok PP X := okC r2_size_w _ r2_size_T (by kernel_rfl)
def r2_digits_l0F : LF S35 := fun R n k => S35.app (r2_digits_l0 big R (S36.ex k (.exit 0)) n)
def r2_digits_l0G : BF S35 := fun R r k => S35.app (r2_digits_l0B big R (S35.cur r) (S36.ex k (.exit 0)))
def r2_digits_l0h : LH := lhL S35 r2_digits_l0F (ids [0, 1, 5] []) [] (ids [5] []) none
def r2_digits_d : FD := ⟨B0.lean [] [], 1, [(2, r2_digits_l0h)], [], [], Tryz.f110⟩
theorem r2_digits_cs : CsOk PP X r2_digits_d.cx := csL bOk mixed trivial trivial (by kernel_rfl)
theorem r2_digits_L0 : LOkD r2_digits_d 0 := lokD r2_digits_l0F r2_digits_l0G r2_digits_l0h (by kernel_rfl) (by kernel_rfl) (fun _ _ _ _ => by kernel_rfl) (fun _ _ _ => by kernel_rfl) (fun _ _ _ _ => by kernel_rfl)
theorem r2_digits_w : ConOk PP X 110 r2_digits_d.raw := rawD r2_digits_cs Tryz.func110 (n := 1) (js := []) (by kernel_rfl) ⟨r2_digits_L0, trivial⟩ trivial
theorem r2_digits_T : TK r2_digits_d.raw S37 R2 fun R => r2_digits_cps big R := fun _ _ _ => by kernel_rfl
def r2_digits_k : CR := kC 110 [] [] S37 R2 (r2_digits big)
theorem r2_digits_ok : r2_digits_k.Ok PP X := okC r2_digits_w _ r2_digits_T (by kernel_rfl)
def r2_Text_l3F : LF S38 := fun R n k => S38.app (r2_Text_l3 big R (S39.ex k (.exit 3)) n)
def r2_Text_l3G : BF S38 := fun R r k => S38.app (r2_Text_l3B big R (S38.cur r) (S39.ex k (.exit 3)))
def r2_Text_l3h : LH := lhL S38 r2_Text_l3F (ids [1, 6, 8] []) [] (ids [6] []) none
def r2_Text_l2F : LF S40 := fun R n k => S40.app (r2_Text_l2 big R (S39.ex k (.exit 1)) n)
def r2_Text_l2G : BF S40 := fun R r k => S40.app (r2_Text_l2B big R (S40.cur r) (S39.ex k (.exit 1)))
def r2_Text_l2h : LH := lhL S40 r2_Text_l2F (ids [1, 6, 7] []) [] (ids [6] []) none
def r2_Text_j1F : JF S41 := fun R k => S41.app (r2_Text_j1 big R (S42.ex k .ret))
def r2_Text_j1h : LH := lhJ S41 r2_Text_j1F (ids [1] []) [] (ids [2] []) 1 none
def r2_Text_j0F : JF S43 := fun R k => S43.app (r2_Text_j0 big R (S41.ex k .normal) (S44.ex k .ret))
def r2_Text_j0h : LH := lhJ S43 r2_Text_j0F (ids [1, 4, 5, 24] []) [] (ids [1, 2] []) 1 none
def r2_Text_d : FD := ⟨B0.lean [r2_Right_k, r2_size_k, r2_digits_k] [], 1, [(18, r2_Text_l2h), (23, r2_Text_l3h), (1000008, r2_Text_j0h), (1000015, r2_Text_j1h)], [], [], Tryz.f78⟩
theorem r2_Text_cs : CsOk PP X r2_Text_d.cx := csL bOk mixed ⟨r2_Right_ok, r2_size_ok, r2_digits_ok, trivial⟩ trivial (by kernel_rfl)
theorem r2_Text_L0 : LOkD r2_Text_d 0 := lokD r2_Text_l2F r2_Text_l2G r2_Text_l2h (by kernel_rfl) (by kernel_rfl) (fun _ _ _ _ => by kernel_rfl) (fun _ _ _ => by kernel_rfl) (fun _ _ _ _ => by kernel_rfl)
theorem r2_Text_L1 : LOkD r2_Text_d 1 := lokD r2_Text_l3F r2_Text_l3G r2_Text_l3h (by kernel_rfl) (by kernel_rfl) (fun _ _ _ _ => by kernel_rfl) (fun _ _ _ => by kernel_rfl) (fun _ _ _ _ => by kernel_rfl)
theorem r2_Text_J6 : JOkD r2_Text_d 6 := jokD r2_Text_j1F r2_Text_j1h (by kernel_rfl) (by kernel_rfl) (fun _ _ _ => by kernel_rfl)
theorem r2_Text_J15 : JOkD r2_Text_d 15 := jokD r2_Text_j0F r2_Text_j0h (by kernel_rfl) (by kernel_rfl) (fun _ _ _ => by kernel_rfl)
theorem r2_Text_w : ConOk PP X 78 r2_Text_d.raw := rawD r2_Text_cs Tryz.func78 (n := 2) (js := [6, 15]) (by kernel_rfl) ⟨r2_Text_L0, r2_Text_L1, trivial⟩ ⟨r2_Text_J6, r2_Text_J15, trivial⟩
theorem r2_Text_T : TK r2_Text_d.raw S34 R2 fun R => r2_Text_cps big R := fun _ _ _ => by kernel_rfl
def r2_Text_k : CR := kC 78 [] [] S34 R2 (r2_Text big)
theorem r2_Text_ok : r2_Text_k.Ok PP X := okC r2_Text_w _ r2_Text_T (by kernel_rfl)
def r2_Read_d : FD := ⟨B0.lean [r2_guess_k, r2_Right_k, r2_Text_k] [], 1, [], [], [], Tryz.f58⟩
theorem r2_Read_cs : CsOk PP X r2_Read_d.cx := csL bOk mixed ⟨r2_guess_ok, r2_Right_ok, r2_Text_ok, trivial⟩ trivial (by kernel_rfl)
theorem r2_Read_w : ConOk PP X 58 r2_Read_d.raw := rawD r2_Read_cs Tryz.func58 (n := 0) (js := []) (by kernel_rfl) trivial trivial
theorem r2_Read_T : TK r2_Read_d.raw S4 R6 fun R => r2_Read_cps big R := fun _ _ _ => by kernel_rfl
def r2_Read_k : CR := kC 58 [] [] S4 R6 (r2_Read big)
theorem r2_Read_ok : r2_Read_k.Ok PP X := okC r2_Read_w _ r2_Read_T (by kernel_rfl)
def r6_bytes_d : FD := ⟨B0.lean [r6_small_k, r6_quoted_k, r2_Read_k] [], 1, [], [], [], Tryz.f35⟩
theorem r6_bytes_cs : CsOk PP X r6_bytes_d.cx := csL bOk mixed ⟨r6_small_ok, r6_quoted_ok, r2_Read_ok, trivial⟩ trivial (by kernel_rfl)
theorem r6_bytes_w : ConOk PP X 35 r6_bytes_d.raw := rawD r6_bytes_cs Tryz.func35 (n := 0) (js := []) (by kernel_rfl) trivial trivial
theorem r6_bytes_T : TK r6_bytes_d.raw S4 R7 fun R => r6_bytes_cps big R := fun _ _ _ => by kernel_rfl
def r6_bytes_k : CR := kC 35 [] [] S4 R7 (r6_bytes big)
theorem r6_bytes_ok : r6_bytes_k.Ok PP X := okC r6_bytes_w _ r6_bytes_T (by kernel_rfl)
def r6_part_d : FD := ⟨B0.lean [r6_letter_k, r6_figure_k] [], 1, [], [], [], Tryz.f36⟩
theorem r6_part_cs : CsOk PP X r6_part_d.cx := csL bOk mixed ⟨r6_letter_ok, r6_figure_ok, trivial⟩ trivial (by kernel_rfl)
theorem r6_part_w : ConOk PP X 36 r6_part_d.raw := rawD r6_part_cs Tryz.func36 (n := 0) (js := []) (by kernel_rfl) trivial trivial
theorem r6_part_T : TK r6_part_d.raw S0 R0 fun R => r6_part_cps big R := fun _ _ _ => by kernel_rfl
def r6_part_k : CR := kC 36 [] [] S0 R0 (r6_part big)
theorem r6_part_ok : r6_part_k.Ok PP X := okC r6_part_w _ r6_part_T (by kernel_rfl)
def r6_number_j7F : JF S45 := fun R k => S45.app (r6_number_j7 big R (S46.ex k .ret))
def r6_number_j7h : LH := lhJ S45 r6_number_j7F (ids [0, 2, 3, 6] []) [] (ids [2] []) 1 none
def r6_number_l6F : LF S47 := fun R n k => S47.app (r6_number_l6 big R (S45.ex k (.exit 6)) n)
def r6_number_l6G : BF S47 := fun R r k => S47.app (r6_number_l6B big R (S47.cur r) (S45.ex k (.exit 6)))
def r6_number_l6h : LH := lhL S47 r6_number_l6F (ids [0, 2, 3, 6, 7] []) [] (ids [0, 2, 3, 6] []) none
def r6_number_l5F : LF S48 := fun R n k => S48.app (r6_number_l5 big R (S48.ex k (.exit 4)) n)
def r6_number_l5G : BF S48 := fun R r k => S48.app (r6_number_l5B big R (S48.cur r) (S48.ex k (.exit 4)))
def r6_number_l5h : LH := lhL S48 r6_number_l5F (ids [0, 2, 3, 4, 6] []) [] (ids [0, 2, 3, 4, 6] []) none
def r6_number_j4F : JF S49 := fun R k => S49.app (r6_number_j4 big R (S46.ex k .ret))
def r6_number_j4h : LH := lhJ S49 r6_number_j4F (ids [0, 2, 3, 4] []) [] (ids [2] []) 1 none
def r6_number_j3F : JF S49 := fun R k => S49.app (r6_number_j3 big R (S46.ex k .ret))
def r6_number_j3h : LH := lhJ S49 r6_number_j3F (ids [0, 2, 3, 4] []) [] (ids [2] []) 1 none
def r6_number_l2F : LF S49 := fun R n k => S49.app (r6_number_l2 big R (S49.ex k (.exit 2)) n)
def r6_number_l2G : BF S49 := fun R r k => S49.app (r6_number_l2B big R (S49.cur r) (S49.ex k (.exit 2)))
def r6_number_l2h : LH := lhL S49 r6_number_l2F (ids [0, 2, 3, 4] []) [] (ids [0, 2, 3, 4] []) none
def r6_number_j1F : JF S50 := fun R k => S50.app (r6_number_j1 big R (S49.ex k .normal) (S49.ex k .ret))
def r6_number_j1h : LH := lhJ S50 r6_number_j1F (ids [0, 2, 3, 4, 38] []) [] (ids [0, 2, 3, 4] []) 1 none
def r6_number_l0F : LF S51 := fun R n k => S51.app (r6_number_l0 big R (S51.ex k (.exit 0)) n)
def r6_number_l0G : BF S51 := fun R r k => S51.app (r6_number_l0B big R (S51.cur r) (S51.ex k (.exit 0)))
def r6_number_l0h : LH := lhL S51 r6_number_l0F (ids [0, 2, 3] []) [] (ids [0, 2, 3] []) none
def r6_number_d : FD := ⟨B0.lean [r6_part_k, r2_Read_k] [], 1, [(2, r6_number_l0h), (7, r6_number_l2h), (16, r6_number_l5h), (21, r6_number_l6h), (1000006, r6_number_j1h), (1000011, r6_number_j3h), (1000015, r6_number_j4h), (1000024, r6_number_j7h)], [], [], Tryz.f38⟩
theorem r6_number_cs : CsOk PP X r6_number_d.cx := csL bOk mixed ⟨r6_part_ok, r2_Read_ok, trivial⟩ trivial (by kernel_rfl)
theorem r6_number_L0 : LOkD r6_number_d 0 := lokD r6_number_l0F r6_number_l0G r6_number_l0h (by kernel_rfl) (by kernel_rfl) (fun _ _ _ _ => by kernel_rfl) (fun _ _ _ => by kernel_rfl) (fun _ _ _ _ => by kernel_rfl)
theorem r6_number_L1 : LOkD r6_number_d 1 := lokD r6_number_l2F r6_number_l2G r6_number_l2h (by kernel_rfl) (by kernel_rfl) (fun _ _ _ _ => by kernel_rfl) (fun _ _ _ => by kernel_rfl) (fun _ _ _ _ => by kernel_rfl)
theorem r6_number_L2 : LOkD r6_number_d 2 := lokD r6_number_l5F r6_number_l5G r6_number_l5h (by kernel_rfl) (by kernel_rfl) (fun _ _ _ _ => by kernel_rfl) (fun _ _ _ => by kernel_rfl) (fun _ _ _ _ => by kernel_rfl)
theorem r6_number_L3 : LOkD r6_number_d 3 := lokD r6_number_l6F r6_number_l6G r6_number_l6h (by kernel_rfl) (by kernel_rfl) (fun _ _ _ _ => by kernel_rfl) (fun _ _ _ => by kernel_rfl) (fun _ _ _ _ => by kernel_rfl)
theorem r6_number_J11 : JOkD r6_number_d 11 := jokD r6_number_j3F r6_number_j3h (by kernel_rfl) (by kernel_rfl) (fun _ _ _ => by kernel_rfl)
theorem r6_number_J12 : JOkD r6_number_d 12 := jokD r6_number_j1F r6_number_j1h (by kernel_rfl) (by kernel_rfl) (fun _ _ _ => by kernel_rfl)
theorem r6_number_J25 : JOkD r6_number_d 25 := jokD r6_number_j4F r6_number_j4h (by kernel_rfl) (by kernel_rfl) (fun _ _ _ => by kernel_rfl)
theorem r6_number_J41 : JOkD r6_number_d 41 := jokD r6_number_j7F r6_number_j7h (by kernel_rfl) (by kernel_rfl) (fun _ _ _ => by kernel_rfl)
theorem r6_number_w : ConOk PP X 38 r6_number_d.raw := rawD r6_number_cs Tryz.func38 (n := 4) (js := [11, 12, 25, 41]) (by kernel_rfl) ⟨r6_number_L0, r6_number_L1, r6_number_L2, r6_number_L3, trivial⟩ ⟨r6_number_J11, r6_number_J12, r6_number_J25, r6_number_J41, trivial⟩
theorem r6_number_T : TK r6_number_d.raw S4 R7 fun R => r6_number_cps big R := fun _ _ _ => by kernel_rfl
def r6_number_k : CR := kC 38 [] [] S4 R7 (r6_number big)
theorem r6_number_ok : r6_number_k.Ok PP X := okC r6_number_w _ r6_number_T (by kernel_rfl)
def r6_text_d : FD := ⟨B0.lean [r6_quoted_k, r2_Read_k] [], 1, [], [], [], Tryz.f39⟩
theorem r6_text_cs : CsOk PP X r6_text_d.cx := csL bOk mixed ⟨r6_quoted_ok, r2_Read_ok, trivial⟩ trivial (by kernel_rfl)
theorem r6_text_w : ConOk PP X 39 r6_text_d.raw := rawD r6_text_cs Tryz.func39 (n := 0) (js := []) (by kernel_rfl) trivial trivial
theorem r6_text_T : TK r6_text_d.raw S4 R7 fun R => r6_text_cps big R := fun _ _ _ => by kernel_rfl
def r6_text_k : CR := kC 39 [] [] S4 R7 (r6_text big)
theorem r6_text_ok : r6_text_k.Ok PP X := okC r6_text_w _ r6_text_T (by kernel_rfl)
def r6_sign_l0F : LF S52 := fun R n k => S52.app (r6_sign_l0 big R (S53.ex k (.exit 0)) (S53.ex k .ret) n)
def r6_sign_l0G : BF S52 := fun R r k => S52.app (r6_sign_l0B big R (S52.cur r) (S53.ex k (.exit 0)) (S53.ex k .ret))
def r6_sign_l0h : LH := lhL S52 r6_sign_l0F (ids [0, 2, 3, 4] []) [] (ids [2] []) none
def r6_sign_d : FD := ⟨B0.lean [] [], 1, [(3, r6_sign_l0h)], [], [], Tryz.f40⟩
theorem r6_sign_cs : CsOk PP X r6_sign_d.cx := csL bOk mixed trivial trivial (by kernel_rfl)
theorem r6_sign_L0 : LOkD r6_sign_d 0 := lokD r6_sign_l0F r6_sign_l0G r6_sign_l0h (by kernel_rfl) (by kernel_rfl) (fun _ _ _ _ => by kernel_rfl) (fun _ _ _ => by kernel_rfl) (fun _ _ _ _ => by kernel_rfl)
theorem r6_sign_w : ConOk PP X 40 r6_sign_d.raw := rawD r6_sign_cs Tryz.func40 (n := 1) (js := []) (by kernel_rfl) ⟨r6_sign_L0, trivial⟩ trivial
theorem r6_sign_T : TK r6_sign_d.raw S4 R7 fun R => r6_sign_cps big R := fun _ _ _ => by kernel_rfl
def r6_sign_k : CR := kC 40 [] [] S4 R7 (r6_sign big)
theorem r6_sign_ok : r6_sign_k.Ok PP X := okC r6_sign_w _ r6_sign_T (by kernel_rfl)
def r6_next_l1F : LF S54 := fun R n k => S54.app (r6_next_l1 big R (S55.ex k (.exit 1)) n)
def r6_next_l1G : BF S54 := fun R r k => S54.app (r6_next_l1B big R (S54.cur r) (S55.ex k (.exit 1)))
def r6_next_l1h : LH := lhL S54 r6_next_l1F (ids [0, 2, 5, 6] []) [] (ids [0, 2, 5] []) none
def r6_next_j0F : JF S56 := fun R k => S56.app (r6_next_j0 big R (S57.ex k .normal) (S57.ex k .ret))
def r6_next_j0h : LH := lhJ S56 r6_next_j0F (ids [0, 2, 3, 4, 13] []) [] (ids [0, 2] []) 1 none
def r6_next_d : FD := ⟨B0.lean [r6_letter_k, r6_figure_k, r6_bytes_k, r6_part_k, r6_small_k, r6_number_k, r6_text_k, r6_sign_k] [], 1, [(8, r6_next_l1h), (1000004, r6_next_j0h)], [], [], Tryz.f17⟩
theorem r6_next_cs : CsOk PP X r6_next_d.cx := csL bOk mixed ⟨r6_letter_ok, r6_figure_ok, r6_bytes_ok, r6_part_ok, r6_small_ok, r6_number_ok, r6_text_ok, r6_sign_ok, trivial⟩ trivial (by kernel_rfl)
theorem r6_next_L0 : LOkD r6_next_d 0 := lokD r6_next_l1F r6_next_l1G r6_next_l1h (by kernel_rfl) (by kernel_rfl) (fun _ _ _ _ => by kernel_rfl) (fun _ _ _ => by kernel_rfl) (fun _ _ _ _ => by kernel_rfl)
theorem r6_next_J7 : JOkD r6_next_d 7 := jokD r6_next_j0F r6_next_j0h (by kernel_rfl) (by kernel_rfl) (fun _ _ _ => by kernel_rfl)
theorem r6_next_w : ConOk PP X 17 r6_next_d.raw := rawD r6_next_cs Tryz.func17 (n := 1) (js := [7]) (by kernel_rfl) ⟨r6_next_L0, trivial⟩ ⟨r6_next_J7, trivial⟩
theorem r6_next_T : TK r6_next_d.raw S4 R7 fun R => r6_next_cps big R := fun _ _ _ => by kernel_rfl
def r6_next_k : CR := kC 17 [] [] S4 R7 (r6_next big)
theorem r6_next_ok : r6_next_k.Ok PP X := okC r6_next_w _ r6_next_T (by kernel_rfl)
def r6_Lex_l0F : LF S58 := fun R n k => S58.app (r6_Lex_l0 big R (S59.ex k (.exit 0)) (S60.ex k .ret) n)
def r6_Lex_l0G : BF S58 := fun R r k => S58.app (r6_Lex_l0B big R (S58.cur r) (S59.ex k (.exit 0)) (S60.ex k .ret))
def r6_Lex_l0h : LH := lhL S58 r6_Lex_l0F (ids [0, 6] [(5, .own Q3)]) [] (ids [0, 2, 3, 4, 5] []) none
def r6_Lex_d : FD := ⟨B0.lean [r6_blank_k, r6_next_k] [], 1, [(5, r6_Lex_l0h)], [.own Q3, .id, .id], [], Tryz.f6⟩
theorem r6_Lex_cs : CsOk PP X r6_Lex_d.cx := csL bOk mixed ⟨r6_blank_ok, r6_next_ok, trivial⟩ trivial (by kernel_rfl)
theorem r6_Lex_L0 : LOkD r6_Lex_d 0 := lokD r6_Lex_l0F r6_Lex_l0G r6_Lex_l0h (by kernel_rfl) (by kernel_rfl) (fun _ _ _ _ => by kernel_rfl) (fun _ _ _ => by kernel_rfl) (fun _ _ _ _ => by kernel_rfl)
theorem r6_Lex_w : ConOk PP X 6 r6_Lex_d.raw := rawD r6_Lex_cs Tryz.func6 (n := 1) (js := []) (by kernel_rfl) ⟨r6_Lex_L0, trivial⟩ trivial
theorem r6_Lex_T : TK r6_Lex_d.raw S4 R8 fun R => r6_Lex_cps big R := fun _ _ _ => by kernel_rfl
def r6_Lex_k : CR := kC 6 [] [] S4 R8 (r6_Lex big)
theorem r6_Lex_ok : r6_Lex_k.Ok PP X := okC r6_Lex_w _ r6_Lex_T (by kernel_rfl)
def fault_New_d : FD := ⟨(BX [] [] false).lean [] [], 1, [], [], [], Tryz.f49⟩
theorem fault_New_cs : CsOk PP X fault_New_d.cx := csL bxOk mixed trivial trivial (by kernel_rfl)
theorem fault_New_w : ConOk PP X 49 fault_New_d.raw := rawD fault_New_cs Tryz.func49 (n := 0) (js := []) (by kernel_rfl) trivial trivial
theorem fault_New_T : TK fault_New_d.raw S61 R9 fun R => fault_New_cps big R := fun _ _ _ => by kernel_rfl
def fault_New_k : CR := kC 49 [] [] S61 R9 (fault_New big)
theorem fault_New_ok : fault_New_k.Ok PP X := okC fault_New_w _ fault_New_T (by kernel_rfl)
def lex_of_d : FD := ⟨B0.lean [] [], 1, [], [], [], Tryz.f60⟩
theorem lex_of_cs : CsOk PP X lex_of_d.cx := csL bOk mixed trivial trivial (by kernel_rfl)
theorem lex_of_w : ConOk PP X 60 lex_of_d.raw := rawD lex_of_cs Tryz.func60 (n := 0) (js := []) (by kernel_rfl) trivial trivial
theorem lex_of_T : TK lex_of_d.raw S0 R1 fun R => lex_of_cps big R := fun _ _ _ => by kernel_rfl
def lex_of_k : CR := kC 60 [] [] S0 R1 (lex_of big)
theorem lex_of_ok : lex_of_k.Ok PP X := okC lex_of_w _ lex_of_T (by kernel_rfl)
def lex_quoted_l0F : LF S62 := fun R n k => S62.app (lex_quoted_l0 big R (S63.ex k (.exit 0)) (S64.ex k .ret) n)
def lex_quoted_l0G : BF S62 := fun R r k => S62.app (lex_quoted_l0B big R (S62.cur r) (S63.ex k (.exit 0)) (S64.ex k .ret))
def lex_quoted_l0h : LH := lhL S62 lex_quoted_l0F (ids [0, 5] [(4, .own .byte)]) [] (ids [2, 3] []) none
def lex_quoted_d : FD := ⟨B0.lean [] [], 1, [(3, lex_quoted_l0h)], [], [], Tryz.f114⟩
theorem lex_quoted_cs : CsOk PP X lex_quoted_d.cx := csL bOk mixed trivial trivial (by kernel_rfl)
theorem lex_quoted_L0 : LOkD lex_quoted_d 0 := lokD lex_quoted_l0F lex_quoted_l0G lex_quoted_l0h (by kernel_rfl) (by kernel_rfl) (fun _ _ _ _ => by kernel_rfl) (fun _ _ _ => by kernel_rfl) (fun _ _ _ _ => by kernel_rfl)
theorem lex_quoted_w : ConOk PP X 114 lex_quoted_d.raw := rawD lex_quoted_cs Tryz.func114 (n := 1) (js := []) (by kernel_rfl) ⟨lex_quoted_L0, trivial⟩ trivial
theorem lex_quoted_T : TK lex_quoted_d.raw S4 R10 fun R => lex_quoted_cps big R := fun _ _ _ => by kernel_rfl
def lex_quoted_k : CR := kC 114 [] [] S4 R10 (lex_quoted big)
theorem lex_quoted_ok : lex_quoted_k.Ok PP X := okC lex_quoted_w _ lex_quoted_T (by kernel_rfl)
def by_IndexByteString_k : CR := kC 156 [] [] S65 R1 (by_IndexByteString big)
theorem by_IndexByteString_ok : by_IndexByteString_k.Ok PP X := okC (index_ok (fn := Tryz.f156) Tryz.func156 rfl (by kernel_rfl) (by kernel_rfl) (by kernel_rfl)) (fun R => by_IndexByteString_cps big R) (fun _ _ _ => by kernel_rfl) (by kernel_rfl)
def stringslite_IndexByte_d : FD := ⟨B0.lean [by_IndexByteString_k] [], 1, [], [], [], Tryz.f143⟩
theorem stringslite_IndexByte_cs : CsOk PP X stringslite_IndexByte_d.cx := csL bOk mixed ⟨by_IndexByteString_ok, trivial⟩ trivial (by kernel_rfl)
theorem stringslite_IndexByte_w : ConOk PP X 143 stringslite_IndexByte_d.raw := rawD stringslite_IndexByte_cs Tryz.func143 (n := 0) (js := []) (by kernel_rfl) trivial trivial
theorem stringslite_IndexByte_T : TK stringslite_IndexByte_d.raw S65 R1 fun R => stringslite_IndexByte_cps big R := fun _ _ _ => by kernel_rfl
def stringslite_IndexByte_k : CR := kC 143 [] [] S65 R1 (stringslite_IndexByte big)
theorem stringslite_IndexByte_ok : stringslite_IndexByte_k.Ok PP X := okC stringslite_IndexByte_w _ stringslite_IndexByte_T (by kernel_rfl)
def strings_IndexByte_d : FD := ⟨B0.lean [stringslite_IndexByte_k] [], 1, [], [], [], Tryz.f121⟩
theorem strings_IndexByte_cs : CsOk PP X strings_IndexByte_d.cx := csL bOk mixed ⟨stringslite_IndexByte_ok, trivial⟩ trivial (by kernel_rfl)
theorem strings_IndexByte_w : ConOk PP X 121 strings_IndexByte_d.raw := rawD strings_IndexByte_cs Tryz.func121 (n := 0) (js := []) (by kernel_rfl) trivial trivial
theorem strings_IndexByte_T : TK strings_IndexByte_d.raw S65 R1 fun R => strings_IndexByte_cps big R := fun _ _ _ => by kernel_rfl
def strings_IndexByte_k : CR := kC 121 [] [] S65 R1 (strings_IndexByte big)
theorem strings_IndexByte_ok : strings_IndexByte_k.Ok PP X := okC strings_IndexByte_w _ strings_IndexByte_T (by kernel_rfl)
def lex_hex_d : FD := ⟨B0.lean [strings_IndexByte_k] [], 1, [], [], [], Tryz.f115⟩
theorem lex_hex_cs : CsOk PP X lex_hex_d.cx := csL bOk mixed ⟨strings_IndexByte_ok, trivial⟩ trivial (by kernel_rfl)
theorem lex_hex_w : ConOk PP X 115 lex_hex_d.raw := rawD lex_hex_cs Tryz.func115 (n := 0) (js := []) (by kernel_rfl) trivial trivial
theorem lex_hex_T : TK lex_hex_d.raw S0 R1 fun R => lex_hex_cps big R := fun _ _ _ => by kernel_rfl
def lex_hex_k : CR := kC 115 [] [] S0 R1 (lex_hex big)
theorem lex_hex_ok : lex_hex_k.Ok PP X := okC lex_hex_w _ lex_hex_T (by kernel_rfl)
def lex_raw_l1F : LF S66 := fun R n k => S66.app (lex_raw_l1 big R (S67.ex k (.exit 0)) (S67.ex k .ret) n)
def lex_raw_l1G : BF S66 := fun R r k => S66.app (lex_raw_l1B big R (S66.cur r) (S67.ex k (.exit 0)) (S67.ex k .ret))
def lex_raw_l1h : LH := lhL S66 lex_raw_l1F (ids [0, 2, 3, 4] [(5, .own .byte)]) [] (ids [0, 2, 4, 5] []) none
def lex_raw_j0F : JF S68 := fun R k => S68.app (lex_raw_j0 big R (S69.ex k .ret))
def lex_raw_j0h : LH := lhJ S68 lex_raw_j0F (ids [0, 2, 3, 4] []) [] (ids [2] []) 1 none
def lex_raw_d : FD := ⟨B0.lean [lex_quoted_k, lex_hex_k] [], 1, [(5, lex_raw_l1h), (1000004, lex_raw_j0h)], [], [], Tryz.f83⟩
theorem lex_raw_cs : CsOk PP X lex_raw_d.cx := csL bOk mixed ⟨lex_quoted_ok, lex_hex_ok, trivial⟩ trivial (by kernel_rfl)
theorem lex_raw_L0 : LOkD lex_raw_d 0 := lokD lex_raw_l1F lex_raw_l1G lex_raw_l1h (by kernel_rfl) (by kernel_rfl) (fun _ _ _ _ => by kernel_rfl) (fun _ _ _ => by kernel_rfl) (fun _ _ _ _ => by kernel_rfl)
theorem lex_raw_J4 : JOkD lex_raw_d 4 := jokD lex_raw_j0F lex_raw_j0h (by kernel_rfl) (by kernel_rfl) (fun _ _ _ => by kernel_rfl)
theorem lex_raw_w : ConOk PP X 83 lex_raw_d.raw := rawD lex_raw_cs Tryz.func83 (n := 1) (js := [4]) (by kernel_rfl) ⟨lex_raw_L0, trivial⟩ ⟨lex_raw_J4, trivial⟩
theorem lex_raw_T : TK lex_raw_d.raw S4 R7 fun R => lex_raw_cps big R := fun _ _ _ => by kernel_rfl
def lex_raw_k : CR := kC 83 [] [] S4 R7 (lex_raw big)
theorem lex_raw_ok : lex_raw_k.Ok PP X := okC lex_raw_w _ lex_raw_T (by kernel_rfl)
def lex_isPart_d : FD := ⟨B0.lean [] [], 1, [], [], [], Tryz.f86⟩
theorem lex_isPart_cs : CsOk PP X lex_isPart_d.cx := csL bOk mixed trivial trivial (by kernel_rfl)
theorem lex_isPart_w : ConOk PP X 86 lex_isPart_d.raw := rawD lex_isPart_cs Tryz.func86 (n := 0) (js := []) (by kernel_rfl) trivial trivial
theorem lex_isPart_T : TK lex_isPart_d.raw S7 R0 fun R => lex_isPart_cps big R := fun _ _ _ => by kernel_rfl
def lex_isPart_k : CR := kC 86 [] [] S7 R0 (lex_isPart big)
theorem lex_isPart_ok : lex_isPart_k.Ok PP X := okC lex_isPart_w _ lex_isPart_T (by kernel_rfl)
def lex_span_l0F : LF S70 := fun R n k => S70.app (lex_span_l0 big R (S71.ex k (.exit 0)) n)
def lex_span_l0G : BF S70 := fun R r k => S70.app (lex_span_l0B big R (S70.cur r) (S71.ex k (.exit 0)))
def lex_span_l0h : LH := lhL S70 lex_span_l0F (ids [0, 1, 5] []) [] (ids [5] []) none
def lex_span_d : FD := ⟨B0.lean [lex_of_k, lex_isPart_k] [], 1, [(2, lex_span_l0h)], [], [], Tryz.f85⟩
theorem lex_span_cs : CsOk PP X lex_span_d.cx := csL bOk mixed ⟨lex_of_ok, lex_isPart_ok, trivial⟩ trivial (by kernel_rfl)
theorem lex_span_L0 : LOkD lex_span_d 0 := lokD lex_span_l0F lex_span_l0G lex_span_l0h (by kernel_rfl) (by kernel_rfl) (fun _ _ _ _ => by kernel_rfl) (fun _ _ _ => by kernel_rfl) (fun _ _ _ _ => by kernel_rfl)
theorem lex_span_w : ConOk PP X 85 lex_span_d.raw := rawD lex_span_cs Tryz.func85 (n := 1) (js := []) (by kernel_rfl) ⟨lex_span_L0, trivial⟩ trivial
theorem lex_span_T : TK lex_span_d.raw S72 R1 fun R => lex_span_cps big R := fun _ _ _ => by kernel_rfl
def lex_span_k : CR := kC 85 [] [] S72 R1 (lex_span big)
theorem lex_span_ok : lex_span_k.Ok PP X := okC lex_span_w _ lex_span_T (by kernel_rfl)
def strings_ToLower_k : CR := kC 84 [] [] S4 R2 (strings_ToLower big)
theorem strings_ToLower_ok : strings_ToLower_k.Ok PP X := okC shelf_ToLower_84 (fun R => strings_ToLower_cps big R) (fun _ _ _ => by kernel_rfl) (by kernel_rfl)
def lex_isFigure_d : FD := ⟨B0.lean [] [], 1, [], [], [], Tryz.f119⟩
theorem lex_isFigure_cs : CsOk PP X lex_isFigure_d.cx := csL bOk mixed trivial trivial (by kernel_rfl)
theorem lex_isFigure_w : ConOk PP X 119 lex_isFigure_d.raw := rawD lex_isFigure_cs Tryz.func119 (n := 0) (js := []) (by kernel_rfl) trivial trivial
theorem lex_isFigure_T : TK lex_isFigure_d.raw S7 R0 fun R => lex_isFigure_cps big R := fun _ _ _ => by kernel_rfl
def lex_isFigure_k : CR := kC 119 [] [] S7 R0 (lex_isFigure big)
theorem lex_isFigure_ok : lex_isFigure_k.Ok PP X := okC lex_isFigure_w _ lex_isFigure_T (by kernel_rfl)
def lex_span_1_l0F : LF S73 := fun R n k => S73.app (lex_span_1_l0 big R (S71.ex k (.exit 0)) n)
def lex_span_1_l0G : BF S73 := fun R r k => S73.app (lex_span_1_l0B big R (S73.cur r) (S71.ex k (.exit 0)))
def lex_span_1_l0h : LH := lhL S73 lex_span_1_l0F (ids [0, 1, 5] []) [] (ids [5] []) none
def lex_span_1_d : FD := ⟨B0.lean [lex_of_k, lex_isFigure_k] [], 1, [(2, lex_span_1_l0h)], [], [], Tryz.f85⟩
theorem lex_span_1_cs : CsOk PP X lex_span_1_d.cx := csL bOk mixed ⟨lex_of_ok, lex_isFigure_ok, trivial⟩ trivial (by kernel_rfl)
theorem lex_span_1_L0 : LOkD lex_span_1_d 0 := lokD lex_span_1_l0F lex_span_1_l0G lex_span_1_l0h (by kernel_rfl) (by kernel_rfl) (fun _ _ _ _ => by kernel_rfl) (fun _ _ _ => by kernel_rfl) (fun _ _ _ _ => by kernel_rfl)
theorem lex_span_1_w : ConOk PP X 85 lex_span_1_d.raw := rawD lex_span_1_cs Tryz.func85 (n := 1) (js := []) (by kernel_rfl) ⟨lex_span_1_L0, trivial⟩ trivial
theorem lex_span_1_T : TK lex_span_1_d.raw S74 R1 fun R => lex_span_1_cps big R := fun _ _ _ => by kernel_rfl
def lex_span_1_k : CR := kC 85 [] [] S74 R1 (lex_span_1 big)
theorem lex_span_1_ok : lex_span_1_k.Ok PP X := okC lex_span_1_w _ lex_span_1_T (by kernel_rfl)
def stringslite_HasPrefix_d : FD := ⟨B0.lean [] [], 1, [], [], [], Tryz.f98⟩
theorem stringslite_HasPrefix_cs : CsOk PP X stringslite_HasPrefix_d.cx := csL bOk mixed trivial trivial (by kernel_rfl)
theorem stringslite_HasPrefix_w : ConOk PP X 98 stringslite_HasPrefix_d.raw := rawD stringslite_HasPrefix_cs Tryz.func98 (n := 0) (js := []) (by kernel_rfl) trivial trivial
theorem stringslite_HasPrefix_T : TK stringslite_HasPrefix_d.raw S75 R0 fun R => stringslite_HasPrefix_cps big R := fun _ _ _ => by kernel_rfl
def stringslite_HasPrefix_k : CR := kC 98 [] [] S75 R0 (stringslite_HasPrefix big)
theorem stringslite_HasPrefix_ok : stringslite_HasPrefix_k.Ok PP X := okC stringslite_HasPrefix_w _ stringslite_HasPrefix_T (by kernel_rfl)
def strings_HasPrefix_d : FD := ⟨B0.lean [stringslite_HasPrefix_k] [], 1, [], [], [], Tryz.f70⟩
theorem strings_HasPrefix_cs : CsOk PP X strings_HasPrefix_d.cx := csL bOk mixed ⟨stringslite_HasPrefix_ok, trivial⟩ trivial (by kernel_rfl)
theorem strings_HasPrefix_w : ConOk PP X 70 strings_HasPrefix_d.raw := rawD strings_HasPrefix_cs Tryz.func70 (n := 0) (js := []) (by kernel_rfl) trivial trivial
theorem strings_HasPrefix_T : TK strings_HasPrefix_d.raw S75 R0 fun R => strings_HasPrefix_cps big R := fun _ _ _ => by kernel_rfl
def strings_HasPrefix_k : CR := kC 70 [] [] S75 R0 (strings_HasPrefix big)
theorem strings_HasPrefix_ok : strings_HasPrefix_k.Ok PP X := okC strings_HasPrefix_w _ strings_HasPrefix_T (by kernel_rfl)
def strings_Repeat_k : CR := kC 55 [] [] S76 R2 (strings_Repeat big)
theorem strings_Repeat_ok : strings_Repeat_k.Ok PP X := okC shelf_Repeat_55 (fun R => strings_Repeat_cps big R) (fun _ _ _ => by kernel_rfl) (by kernel_rfl)
def strconv_ParseInt_k : CR := kC 120 [] [] S77 R11 (strconv_ParseInt big)
theorem strconv_ParseInt_ok : strconv_ParseInt_k.Ok PP X := okC shelf_ParseInt_120 (fun R => strconv_ParseInt_cps big R) (fun _ _ _ => by kernel_rfl) (by kernel_rfl)
def lex_number_j2F : JF S78 := fun R k => S78.app (lex_number_j2 big R (S79.ex k .ret))
def lex_number_j2h : LH := lhJ S78 lex_number_j2F (ids [0, 2, 3, 4, 6] []) [] (ids [2] []) 1 none
def lex_number_j1F : JF S80 := fun R k => S80.app (lex_number_j1 big R (S79.ex k .ret))
def lex_number_j1h : LH := lhJ S80 lex_number_j1F (ids [0, 2, 3, 4, 5, 6] []) [] (ids [2] []) 1 none
def lex_number_j0F : JF S81 := fun R k => S81.app (lex_number_j0 big R (S80.ex k .normal))
def lex_number_j0h : LH := lhJ S81 lex_number_j0F (ids [0, 2, 3, 4, 5, 7] []) [] (ids [0, 2, 3, 4, 5, 6] []) 1 none
def lex_number_d : FD := ⟨B0.lean [strings_Repeat_k, strings_HasPrefix_k, (lex_span_1_k.or lex_span_k), strconv_ParseInt_k] [], 1, [(1000008, lex_number_j0h), (1000010, lex_number_j1h), (1000012, lex_number_j2h)], [], [], Tryz.f87⟩
theorem lex_number_cs : CsOk PP X lex_number_d.cx := csL bOk mixed ⟨strings_Repeat_ok, strings_HasPrefix_ok, (.or_ok rfl lex_span_1_ok lex_span_ok), strconv_ParseInt_ok, trivial⟩ trivial (by kernel_rfl)
theorem lex_number_J8 : JOkD lex_number_d 8 := jokD lex_number_j1F lex_number_j1h (by kernel_rfl) (by kernel_rfl) (fun _ _ _ => by kernel_rfl)
theorem lex_number_J13 : JOkD lex_number_d 13 := jokD lex_number_j0F lex_number_j0h (by kernel_rfl) (by kernel_rfl) (fun _ _ _ => by kernel_rfl)
theorem lex_number_J21 : JOkD lex_number_d 21 := jokD lex_number_j2F lex_number_j2h (by kernel_rfl) (by kernel_rfl) (fun _ _ _ => by kernel_rfl)
theorem lex_number_w : ConOk PP X 87 lex_number_d.raw := rawD lex_number_cs Tryz.func87 (n := 0) (js := [8, 13, 21]) (by kernel_rfl) trivial ⟨lex_number_J8, lex_number_J13, lex_number_J21, trivial⟩
theorem lex_number_T : TK lex_number_d.raw S4 R7 fun R => lex_number_cps big R := fun _ _ _ => by kernel_rfl
def lex_number_k : CR := kC 87 [] [] S4 R7 (lex_number big)
theorem lex_number_ok : lex_number_k.Ok PP X := okC lex_number_w _ lex_number_T (by kernel_rfl)
def lex_text_d : FD := ⟨B0.lean [lex_quoted_k] [], 1, [], [], [], Tryz.f88⟩
theorem lex_text_cs : CsOk PP X lex_text_d.cx := csL bOk mixed ⟨lex_quoted_ok, trivial⟩ trivial (by kernel_rfl)
theorem lex_text_w : ConOk PP X 88 lex_text_d.raw := rawD lex_text_cs Tryz.func88 (n := 0) (js := []) (by kernel_rfl) trivial trivial
theorem lex_text_T : TK lex_text_d.raw S4 R7 fun R => lex_text_cps big R := fun _ _ _ => by kernel_rfl
def lex_text_k : CR := kC 88 [] [] S4 R7 (lex_text big)
theorem lex_text_ok : lex_text_k.Ok PP X := okC lex_text_w _ lex_text_T (by kernel_rfl)
def lex_sign_l0F : LF S82 := fun R n k => S82.app (lex_sign_l0 big R (S83.ex k (.exit 0)) (S83.ex k .ret) n)
def lex_sign_l0G : BF S82 := fun R r k => S82.app (lex_sign_l0B big R (S82.cur r) (S83.ex k (.exit 0)) (S83.ex k .ret))
def lex_sign_l0h : LH := lhL S82 lex_sign_l0F (ids [0, 2, 5, 6, 7] []) [] (ids [0, 2] []) none
def lex_sign_d : FD := ⟨B0.lean [strings_HasPrefix_k, strings_IndexByte_k] [], 1, [(2, lex_sign_l0h)], [], [], Tryz.f89⟩
theorem lex_sign_cs : CsOk PP X lex_sign_d.cx := csL bOk mixed ⟨strings_HasPrefix_ok, strings_IndexByte_ok, trivial⟩ trivial (by kernel_rfl)
theorem lex_sign_L0 : LOkD lex_sign_d 0 := lokD lex_sign_l0F lex_sign_l0G lex_sign_l0h (by kernel_rfl) (by kernel_rfl) (fun _ _ _ _ => by kernel_rfl) (fun _ _ _ => by kernel_rfl) (fun _ _ _ _ => by kernel_rfl)
theorem lex_sign_w : ConOk PP X 89 lex_sign_d.raw := rawD lex_sign_cs Tryz.func89 (n := 1) (js := []) (by kernel_rfl) ⟨lex_sign_L0, trivial⟩ trivial
theorem lex_sign_T : TK lex_sign_d.raw S4 R7 fun R => lex_sign_cps big R := fun _ _ _ => by kernel_rfl
def lex_sign_k : CR := kC 89 [] [] S4 R7 (lex_sign big)
theorem lex_sign_ok : lex_sign_k.Ok PP X := okC lex_sign_w _ lex_sign_T (by kernel_rfl)
def lex_next_d : FD := ⟨B0.lean [lex_of_k, lex_raw_k, strings_ToLower_k, lex_span_k, lex_number_k, lex_text_k, lex_sign_k] [], 1, [], [], [], Tryz.f61⟩
theorem lex_next_cs : CsOk PP X lex_next_d.cx := csL bOk mixed ⟨lex_of_ok, lex_raw_ok, strings_ToLower_ok, lex_span_ok, lex_number_ok, lex_text_ok, lex_sign_ok, trivial⟩ trivial (by kernel_rfl)
theorem lex_next_w : ConOk PP X 61 lex_next_d.raw := rawD lex_next_cs Tryz.func61 (n := 0) (js := []) (by kernel_rfl) trivial trivial
theorem lex_next_T : TK lex_next_d.raw S4 R7 fun R => lex_next_cps big R := fun _ _ _ => by kernel_rfl
def lex_next_k : CR := kC 61 [] [] S4 R7 (lex_next big)
theorem lex_next_ok : lex_next_k.Ok PP X := okC lex_next_w _ lex_next_T (by kernel_rfl)
def lex_Lex_l0F : LF S84 := fun R n k => S84.app (lex_Lex_l0 big R (S85.ex k (.exit 0)) (S86.ex k .ret) n)
def lex_Lex_l0G : BF S84 := fun R r k => S84.app (lex_Lex_l0B big R (S84.cur r) (S85.ex k (.exit 0)) (S86.ex k .ret))
def lex_Lex_l0h : LH := lhL S84 lex_Lex_l0F (ids [0, 5] [(4, .own Q3)]) [] (ids [0, 2, 3, 4] []) none
def lex_Lex_d : FD := ⟨B0.lean [fault_New_k, lex_of_k, lex_next_k] [], 1, [(5, lex_Lex_l0h)], [.ro Q3, .id], [], Tryz.f42⟩
theorem lex_Lex_cs : CsOk PP X lex_Lex_d.cx := csL bOk mixed ⟨fault_New_ok, lex_of_ok, lex_next_ok, trivial⟩ trivial (by kernel_rfl)
theorem lex_Lex_L0 : LOkD lex_Lex_d 0 := lokD lex_Lex_l0F lex_Lex_l0G lex_Lex_l0h (by kernel_rfl) (by kernel_rfl) (fun _ _ _ _ => by kernel_rfl) (fun _ _ _ => by kernel_rfl) (fun _ _ _ _ => by kernel_rfl)
theorem lex_Lex_w : ConOk PP X 42 lex_Lex_d.raw := rawD lex_Lex_cs Tryz.func42 (n := 1) (js := []) (by kernel_rfl) ⟨lex_Lex_L0, trivial⟩ trivial
theorem lex_Lex_T : TK lex_Lex_d.raw S4 R12 fun R => lex_Lex_cps big R := fun _ _ _ => by kernel_rfl
def lex_Lex_k : CR := kC 42 [] [] S4 R12 (lex_Lex big)
theorem lex_Lex_ok : lex_Lex_k.Ok PP X := okC lex_Lex_w _ lex_Lex_T (by kernel_rfl)
def fault_At_k : CR := kC 19 [] [] S87 R1 (fault_At big)
theorem fault_At_ok : fault_At_k.Ok PP X := okC shelf_At_19 (fun R => fault_At_cps big R) (fun _ _ _ => by kernel_rfl) (by kernel_rfl)
def fault_Wrap_d : FD := ⟨(BX [] [] false).lean [] [], 1, [], [], [], Tryz.f43⟩
theorem fault_Wrap_cs : CsOk PP X fault_Wrap_d.cx := csL bxOk mixed trivial trivial (by kernel_rfl)
theorem fault_Wrap_w : ConOk PP X 43 fault_Wrap_d.raw := rawD fault_Wrap_cs Tryz.func43 (n := 0) (js := []) (by kernel_rfl) trivial trivial
theorem fault_Wrap_T : TK fault_Wrap_d.raw S88 R9 fun R => fault_Wrap_cps big R := fun _ _ _ => by kernel_rfl
def fault_Wrap_k : CR := kC 43 [] [] S88 R9 (fault_Wrap big)
theorem fault_Wrap_ok : fault_Wrap_k.Ok PP X := okC fault_Wrap_w _ fault_Wrap_T (by kernel_rfl)
def pq_is_d : FD := ⟨B0.lean [] [], 1, [], [], [], Tryz.f44⟩
theorem pq_is_cs : CsOk PP X pq_is_d.cx := csL bOk mixed trivial trivial (by kernel_rfl)
theorem pq_is_w : ConOk PP X 44 pq_is_d.raw := rawD pq_is_cs Tryz.func44 (n := 0) (js := []) (by kernel_rfl) trivial trivial
theorem pq_is_T : TK pq_is_d.raw S89 R0 fun R => pq_is_cps big R := fun _ _ _ => by kernel_rfl
def pq_is_k : CR := kC 44 [.arg 0] [] S89 R0 (pq_is big)
theorem pq_is_ok : pq_is_k.Ok PP X := okC pq_is_w _ pq_is_T (by kernel_rfl)
def pq_next_d : FD := ⟨B0.lean [] [], 1, [], [], [], Tryz.f45⟩
theorem pq_next_cs : CsOk PP X pq_next_d.cx := csL bOk mixed trivial trivial (by kernel_rfl)
theorem pq_next_w : ConOk PP X 45 pq_next_d.raw := rawD pq_next_cs Tryz.func45 (n := 0) (js := []) (by kernel_rfl) trivial trivial
theorem pq_next_T : TF pq_next_d.raw S90 R13 fun R => pq_next_cps big R := fun _ _ _ => by kernel_rfl
def pq_next_k : CR := kF 45 [.arg 0] [] S90 R13 (pq_next big)
theorem pq_next_ok : pq_next_k.Ok PP X := okF pq_next_w _ pq_next_T (by kernel_rfl)
def pq_take_d : FD := ⟨B0.lean [pq_is_k, pq_next_k] [], 1, [], [], [], Tryz.f21⟩
theorem pq_take_cs : CsOk PP X pq_take_d.cx := csL bOk mixed ⟨pq_is_ok, pq_next_ok, trivial⟩ trivial (by kernel_rfl)
theorem pq_take_w : ConOk PP X 21 pq_take_d.raw := rawD pq_take_cs Tryz.func21 (n := 0) (js := []) (by kernel_rfl) trivial trivial
theorem pq_take_T : TF pq_take_d.raw S89 R14 fun R => pq_take_cps big R := fun _ _ _ => by kernel_rfl
def pq_take_k : CR := kF 21 [.arg 0] [] S89 R14 (pq_take big)
theorem pq_take_ok : pq_take_k.Ok PP X := okF pq_take_w _ pq_take_T (by kernel_rfl)
def pq_at_d : FD := ⟨B0.lean [] [], 1, [], [], [], Tryz.f48⟩
theorem pq_at_cs : CsOk PP X pq_at_d.cx := csL bOk mixed trivial trivial (by kernel_rfl)
theorem pq_at_w : ConOk PP X 48 pq_at_d.raw := rawD pq_at_cs Tryz.func48 (n := 0) (js := []) (by kernel_rfl) trivial trivial
theorem pq_at_T : TK pq_at_d.raw S90 R1 fun R => pq_at_cps big R := fun _ _ _ => by kernel_rfl
def pq_at_k : CR := kC 48 [.arg 0] [] S90 R1 (pq_at big)
theorem pq_at_ok : pq_at_k.Ok PP X := okC pq_at_w _ pq_at_T (by kernel_rfl)
def pq_fail_d : FD := ⟨B0.lean [pq_at_k, fault_New_k] [], 1, [], [], [], Tryz.f28⟩
theorem pq_fail_cs : CsOk PP X pq_fail_d.cx := csL bOk mixed ⟨pq_at_ok, fault_New_ok, trivial⟩ trivial (by kernel_rfl)
theorem pq_fail_w : ConOk PP X 28 pq_fail_d.raw := rawD pq_fail_cs Tryz.func28 (n := 0) (js := []) (by kernel_rfl) trivial trivial
theorem pq_fail_T : TF pq_fail_d.raw S91 R15 fun R => pq_fail_cps big R := fun _ _ _ => by kernel_rfl
def pq_fail_k : CR := kF 28 [.arg 0] [] S91 R15 (pq_fail big)
theorem pq_fail_ok : pq_fail_k.Ok PP X := okF pq_fail_w _ pq_fail_T (by kernel_rfl)
def pq_want_l0F : LF S92 := fun R n k => S92.app (pq_want_l0 big R (S93.ex k (.exit 0)) n)
def pq_want_l0G : BF S92 := fun R r k => S92.app (pq_want_l0B big R (S92.cur r) (S93.ex k (.exit 0)))
def pq_want_l0h : LH := lhL S92 pq_want_l0F (ids [0, 6, 7, 8] []) [] [] none
def pq_want_d : FD := ⟨B0.lean [pq_take_k, pq_fail_k] [], 1, [(1, pq_want_l0h)], [], [], Tryz.f25⟩
theorem pq_want_cs : CsOk PP X pq_want_d.cx := csL bOk mixed ⟨pq_take_ok, pq_fail_ok, trivial⟩ trivial (by kernel_rfl)
theorem pq_want_L0 : LOkD pq_want_d 0 := lokD pq_want_l0F pq_want_l0G pq_want_l0h (by kernel_rfl) (by kernel_rfl) (fun _ _ _ _ => by kernel_rfl) (fun _ _ _ => by kernel_rfl) (fun _ _ _ _ => by kernel_rfl)
theorem pq_want_w : ConOk PP X 25 pq_want_d.raw := rawD pq_want_cs Tryz.func25 (n := 1) (js := []) (by kernel_rfl) ⟨pq_want_L0, trivial⟩ trivial
theorem pq_want_T : TF pq_want_d.raw S94 R15 fun R => pq_want_cps big R := fun _ _ _ => by kernel_rfl
def pq_want_k : CR := kF 25 [.arg 0] [] S94 R15 (pq_want big)
theorem pq_want_ok : pq_want_k.Ok PP X := okF pq_want_w _ pq_want_T (by kernel_rfl)
def parse_comparison_d : FD := ⟨B0.lean [] [], 1, [], [], [], Tryz.f123⟩
theorem parse_comparison_cs : CsOk PP X parse_comparison_d.cx := csL bOk mixed trivial trivial (by kernel_rfl)
theorem parse_comparison_w : ConOk PP X 123 parse_comparison_d.raw := rawD parse_comparison_cs Tryz.func123 (n := 0) (js := []) (by kernel_rfl) trivial trivial
theorem parse_comparison_T : TK parse_comparison_d.raw S4 R1 fun R => parse_comparison_cps big R := fun _ _ _ => by kernel_rfl
def parse_comparison_k : CR := kC 123 [] [] S4 R1 (parse_comparison big)
theorem parse_comparison_ok : parse_comparison_k.Ok PP X := okC parse_comparison_w _ parse_comparison_T (by kernel_rfl)
def sx__l0F : LF S95 := fun R n k => S95.app (sx__l0 big R (S96.ex k (.exit 0)) (S97.ex k .ret) n)
def sx__l0G : BF S95 := fun R r k => S95.app (sx__l0B big R (S95.cur r) (S96.ex k (.exit 0)) (S97.ex k .ret))
def sx__l0h : LH := lhL S95 sx__l0F (ids [0, 1, 7, 8] []) [] (ids [4] []) none
def sx__d : FD := ⟨B0.lean [] [], 1, [(2, sx__l0h)], [], [], Tryz.f122⟩
theorem sx__cs : CsOk PP X sx__d.cx := csL bOk mixed trivial trivial (by kernel_rfl)
theorem sx__L0 : LOkD sx__d 0 := lokD sx__l0F sx__l0G sx__l0h (by kernel_rfl) (by kernel_rfl) (fun _ _ _ _ => by kernel_rfl) (fun _ _ _ => by kernel_rfl) (fun _ _ _ _ => by kernel_rfl)
theorem sx__w : ConOk PP X 122 sx__d.raw := rawD sx__cs Tryz.func122 (n := 1) (js := []) (by kernel_rfl) ⟨sx__L0, trivial⟩ trivial
theorem sx__T : TK sx__d.raw S98 R1 fun R => sx__cps big R := fun _ _ _ => by kernel_rfl
def sx__k : CR := kC 122 [] [] S98 R1 (sx_ big)
theorem sx__ok : sx__k.Ok PP X := okC sx__w _ sx__T (by kernel_rfl)
def slices_Contains_string_string_d : FD := ⟨B0.lean [sx__k] [], 1, [], [], [], Tryz.f90⟩
theorem slices_Contains_string_string_cs : CsOk PP X slices_Contains_string_string_d.cx := csL bOk mixed ⟨sx__ok, trivial⟩ trivial (by kernel_rfl)
theorem slices_Contains_string_string_w : ConOk PP X 90 slices_Contains_string_string_d.raw := rawD slices_Contains_string_string_cs Tryz.func90 (n := 0) (js := []) (by kernel_rfl) trivial trivial
theorem slices_Contains_string_string_T : TK slices_Contains_string_string_d.raw S98 R0 fun R => slices_Contains_string_string_cps big R := fun _ _ _ => by kernel_rfl
def slices_Contains_string_string_k : CR := kC 90 [] [] S98 R0 (slices_Contains_string_string big)
theorem slices_Contains_string_string_ok : slices_Contains_string_string_k.Ok PP X := okC slices_Contains_string_string_w _ slices_Contains_string_string_T (by kernel_rfl)
def parse_reserved_d : FD := ⟨B0.lean [slices_Contains_string_string_k] [], 1, [], [], [], Tryz.f62⟩
theorem parse_reserved_cs : CsOk PP X parse_reserved_d.cx := csL bOk mixed ⟨slices_Contains_string_string_ok, trivial⟩ trivial (by kernel_rfl)
theorem parse_reserved_w : ConOk PP X 62 parse_reserved_d.raw := rawD parse_reserved_cs Tryz.func62 (n := 0) (js := []) (by kernel_rfl) trivial trivial
theorem parse_reserved_T : TK parse_reserved_d.raw S4 R0 fun R => parse_reserved_cps big R := fun _ _ _ => by kernel_rfl
def parse_reserved_k : CR := kC 62 [] [] S4 R0 (parse_reserved big)
theorem parse_reserved_ok : parse_reserved_k.Ok PP X := okC parse_reserved_w _ parse_reserved_T (by kernel_rfl)
def pq_name_d : FD := ⟨B0.lean [pq_fail_k, pq_next_k, parse_reserved_k] [], 1, [], [], [], Tryz.f47⟩
theorem pq_name_cs : CsOk PP X pq_name_d.cx := csL bOk mixed ⟨pq_fail_ok, pq_next_ok, parse_reserved_ok, trivial⟩ trivial (by kernel_rfl)
theorem pq_name_w : ConOk PP X 47 pq_name_d.raw := rawD pq_name_cs Tryz.func47 (n := 0) (js := []) (by kernel_rfl) trivial trivial
theorem pq_name_T : TF pq_name_d.raw S90 R17 fun R => pq_name_cps big R := fun _ _ _ => by kernel_rfl
def pq_name_k : CR := kF 47 [.arg 0] [] S90 R17 (pq_name big)
theorem pq_name_ok : pq_name_k.Ok PP X := okF pq_name_w _ pq_name_T (by kernel_rfl)
def parse_op_j0F : JF S108 := fun R k => S108.app (parse_op_j0 big R (S109.ex k .ret))
def parse_op_j0h : LH := lhJ S108 parse_op_j0F (ids [1, 2] []) [] (ids [4] []) 1 none
def parse_op_d : FD := ⟨B0.lean [] [], 1, [(1000003, parse_op_j0h)], [], [], Tryz.f65⟩
theorem parse_op_cs : CsOk PP X parse_op_d.cx := csL bOk mixed trivial trivial (by kernel_rfl)
theorem parse_op_J2 : JOkD parse_op_d 2 := jokD parse_op_j0F parse_op_j0h (by kernel_rfl) (by kernel_rfl) (fun _ _ _ => by kernel_rfl)
theorem parse_op_w : ConOk PP X 65 parse_op_d.raw := rawD parse_op_cs Tryz.func65 (n := 0) (js := [2]) (by kernel_rfl) trivial ⟨parse_op_J2, trivial⟩
theorem parse_op_T : TK parse_op_d.raw S110 R1 fun R => parse_op_cps big R := fun _ _ _ => by kernel_rfl
def parse_op_k : CR := kC 65 [] [] S110 R1 (parse_op big)
theorem parse_op_ok : parse_op_k.Ok PP X := okC parse_op_w _ parse_op_T (by kernel_rfl)
set_option warn.classDefReducibility false
set_option linter.unusedSectionVars false
section
variable [Fuel]
def Z_pq_whole_inst : Z_pq_whole := Z_pq_whole_at big Fuel.n
attribute [local instance] Z_pq_whole_inst
def rec_pq_not_k : CR := kF 63 [.arg 0] [] S90 R18 Z_pq_whole.r_pq_not
def rec_pq_sign_k : CR := kF 64 [.arg 0] [] S90 R18 Z_pq_whole.r_pq_sign
def rec_pq_expr_k : CR := kF 50 [.arg 0] [] S91 R18 Z_pq_whole.r_pq_expr
def rec_pq_whole_k : CR := kF 31 [.arg 0] [] S90 R18 Z_pq_whole.r_pq_whole
class H_pq_whole : Prop where
 h_pq_not : rec_pq_not_k.Ok PP X
 h_pq_sign : rec_pq_sign_k.Ok PP X
 h_pq_expr : rec_pq_expr_k.Ok PP X
 h_pq_whole : rec_pq_whole_k.Ok PP X
variable [H_pq_whole]
theorem rec_pq_not_ok : rec_pq_not_k.Ok PP X := H_pq_whole.h_pq_not
theorem rec_pq_sign_ok : rec_pq_sign_k.Ok PP X := H_pq_whole.h_pq_sign
theorem rec_pq_expr_ok : rec_pq_expr_k.Ok PP X := H_pq_whole.h_pq_expr
theorem rec_pq_whole_ok : rec_pq_whole_k.Ok PP X := H_pq_whole.h_pq_whole
/- 91 (*frankpledge/parse.parser).test -/
def pq_test_o_r0F : JF S103 := fun R k => S103.app (pq_test_o_r0 big R (S104.ex k .normal))
def pq_test_o_r0h : LH := lhJ S103 pq_test_o_r0F (ids [0, 2, 3, 4, 6] []) [] (ids [2] []) 4 none
def pq_test_o_d : FD := ⟨B0.lean [pq_take_k, pq_want_k, pq_next_k, rec_pq_expr_k, parse_comparison_k] [], 1, [(2000015, pq_test_o_r0h)], [], [], Tryz.f91⟩
theorem pq_test_o_cs : CsOk PP X pq_test_o_d.cx := csL bOk mixed ⟨pq_take_ok, pq_want_ok, pq_next_ok, rec_pq_expr_ok, parse_comparison_ok, trivial⟩ trivial (by kernel_rfl)
theorem pq_test_o_J34 : JOkD pq_test_o_d 34 := rokD pq_test_o_cs pq_test_o_r0F pq_test_o_r0h (by kernel_rfl) rfl rfl (by kernel_rfl) (by kernel_rfl) [[0, 1, 4, 2, 3, 5, 6, 7, 8], [0, 1, 4, 2, 5, 3, 6, 7, 8], [0, 1, 4, 3, 2, 5, 6, 7, 8], [0, 1, 4, 3, 5, 2, 6, 7, 8], [0, 1, 4, 5, 2, 3, 6, 7, 8]] (by kernel_rfl) ⟨(fun _ _ _ => by kernel_rfl), (fun _ _ _ => by kernel_rfl), (fun _ _ _ => by kernel_rfl), (fun _ _ _ => by kernel_rfl), (fun _ _ _ => by kernel_rfl), trivial⟩
theorem pq_test_o_w : ConOk PP X 91 pq_test_o_d.raw := rawD pq_test_o_cs Tryz.func91 (n := 0) (js := [34]) (by kernel_rfl) trivial ⟨pq_test_o_J34, trivial⟩
theorem pq_test_o_T : TF pq_test_o_d.raw S90 R18 fun R => pq_test_o_cps big R := fun _ _ _ => by kernel_rfl
def pq_test_o_k : CR := kF 91 [.arg 0] [] S90 R18 (pq_test_o big)
theorem pq_test_o_ok : pq_test_o_k.Ok PP X := okF pq_test_o_w _ pq_test_o_T (by kernel_rfl)
/- 92 (*frankpledge/parse.parser).within -/
def pq_within_o_d : FD := ⟨B0.lean [pq_fail_k, rec_pq_not_k] [], 1, [], [(.inn [none, none, none, none, none, none, none, some .ex, none, none])], [], Tryz.f92⟩
theorem pq_within_o_cs : CsOk PP X pq_within_o_d.cx := csL bOk mixed ⟨pq_fail_ok, rec_pq_not_ok, trivial⟩ trivial (by kernel_rfl)
theorem pq_within_o_w : ConOk PP X 92 pq_within_o_d.raw := rawD pq_within_o_cs Tryz.func92 (n := 0) (js := []) (by kernel_rfl) trivial trivial
theorem pq_within_o_T : TF pq_within_o_d.raw S105 R18 fun R => pq_within_o_cps big R := fun _ _ _ => by kernel_rfl
def pq_within_o_k : CR := kF 92 [.arg 0] [] S105 R18 (pq_within_o big)
theorem pq_within_o_ok : pq_within_o_k.Ok PP X := okF pq_within_o_w _ pq_within_o_T (by kernel_rfl)
/- 63 (*frankpledge/parse.parser).not -/
def pq_not_o_d : FD := ⟨B0.lean [pq_is_k, pq_next_k, pq_test_o_k, pq_within_o_k] [], 1, [], [], [], Tryz.f63⟩
theorem pq_not_o_cs : CsOk PP X pq_not_o_d.cx := csL bOk mixed ⟨pq_is_ok, pq_next_ok, pq_test_o_ok, pq_within_o_ok, trivial⟩ trivial (by kernel_rfl)
theorem pq_not_o_w : ConOk PP X 63 pq_not_o_d.raw := rawD pq_not_o_cs Tryz.func63 (n := 0) (js := []) (by kernel_rfl) trivial trivial
theorem pq_not_o_T : TF pq_not_o_d.raw S90 R18 fun R => pq_not_o_cps big R := fun _ _ _ => by kernel_rfl
def pq_not_o_k : CR := kF 63 [.arg 0] [] S90 R18 (pq_not_o big)
theorem pq_not_o_ok : pq_not_o_k.Ok PP X := okF pq_not_o_w _ pq_not_o_T (by kernel_rfl)
/- 92 (*frankpledge/parse.parser).within -/
def pq_within_1_o_d : FD := ⟨B0.lean [pq_fail_k, rec_pq_whole_k] [], 1, [], [(.inn [none, none, none, none, none, none, none, some .ex, none, none])], [], Tryz.f92⟩
theorem pq_within_1_o_cs : CsOk PP X pq_within_1_o_d.cx := csL bOk mixed ⟨pq_fail_ok, rec_pq_whole_ok, trivial⟩ trivial (by kernel_rfl)
theorem pq_within_1_o_w : ConOk PP X 92 pq_within_1_o_d.raw := rawD pq_within_1_o_cs Tryz.func92 (n := 0) (js := []) (by kernel_rfl) trivial trivial
theorem pq_within_1_o_T : TF pq_within_1_o_d.raw S106 R18 fun R => pq_within_1_o_cps big R := fun _ _ _ => by kernel_rfl
def pq_within_1_o_k : CR := kF 92 [.arg 0] [] S106 R18 (pq_within_1_o big)
theorem pq_within_1_o_ok : pq_within_1_o_k.Ok PP X := okF pq_within_1_o_w _ pq_within_1_o_T (by kernel_rfl)
/- 124 (*frankpledge/parse.parser).inner -/
def pq_inner_o_d : FD := ⟨B0.lean [pq_want_k, pq_within_1_o_k] [], 1, [], [], [], Tryz.f124⟩
theorem pq_inner_o_cs : CsOk PP X pq_inner_o_d.cx := csL bOk mixed ⟨pq_want_ok, pq_within_1_o_ok, trivial⟩ trivial (by kernel_rfl)
theorem pq_inner_o_w : ConOk PP X 124 pq_inner_o_d.raw := rawD pq_inner_o_cs Tryz.func124 (n := 0) (js := []) (by kernel_rfl) trivial trivial
theorem pq_inner_o_T : TF pq_inner_o_d.raw S90 R18 fun R => pq_inner_o_cps big R := fun _ _ _ => by kernel_rfl
def pq_inner_o_k : CR := kF 124 [.arg 0] [] S90 R18 (pq_inner_o big)
theorem pq_inner_o_ok : pq_inner_o_k.Ok PP X := okF pq_inner_o_w _ pq_inner_o_T (by kernel_rfl)
/- 125 (*frankpledge/parse.parser).word -/
def pq_word_o_r1F : JF S99 := fun R k => S99.app (pq_word_o_r1 big R (S100.ex k .normal))
def pq_word_o_r1h : LH := lhJ S99 pq_word_o_r1F (ids [0, 6, 7] []) [] (ids [6, 7] []) 5 none
def pq_word_o_j0F : JF S101 := fun R k => S101.app (pq_word_o_j0 big R (S99.ex k .normal) (S99.ex k .ret))
def pq_word_o_j0h : LH := lhJ S101 pq_word_o_j0F (ids [0, 6, 7, 71] []) [] (ids [0, 6, 7] []) 5 none
def pq_word_o_d : FD := ⟨B0.lean [pq_take_k, pq_want_k, pq_next_k, pq_name_k, pq_inner_o_k] [], 1, [(1000015, pq_word_o_j0h), (2000025, pq_word_o_r1h)], [(.inn [none, none, none, none, none, none, none, some .ex, none, none])], [], Tryz.f125⟩
theorem pq_word_o_cs : CsOk PP X pq_word_o_d.cx := csL bOk mixed ⟨pq_take_ok, pq_want_ok, pq_next_ok, pq_name_ok, pq_inner_o_ok, trivial⟩ trivial (by kernel_rfl)
theorem pq_word_o_J45 : JOkD pq_word_o_d 45 := jokD pq_word_o_j0F pq_word_o_j0h (by kernel_rfl) (by kernel_rfl) (fun _ _ _ => by kernel_rfl)
theorem pq_word_o_J68 : JOkD pq_word_o_d 68 := rokD pq_word_o_cs pq_word_o_r1F pq_word_o_r1h (by kernel_rfl) rfl rfl (by kernel_rfl) (by kernel_rfl) [[0, 2, 1, 3, 4, 5, 6, 7], [0, 2, 3, 1, 4, 5, 6, 7]] (by kernel_rfl) ⟨(fun _ _ _ => by kernel_rfl), (fun _ _ _ => by kernel_rfl), trivial⟩
theorem pq_word_o_w : ConOk PP X 125 pq_word_o_d.raw := rawD pq_word_o_cs Tryz.func125 (n := 0) (js := [45, 68]) (by kernel_rfl) trivial ⟨pq_word_o_J45, pq_word_o_J68, trivial⟩
theorem pq_word_o_T : TF pq_word_o_d.raw S102 R18 fun R => pq_word_o_cps big R := fun _ _ _ => by kernel_rfl
def pq_word_o_k : CR := kF 125 [.arg 0] [.id, .id, (.inn [none, none, none, none, none, none, none, some .ex, none, none])] S102 R18 (pq_word_o big)
theorem pq_word_o_ok : pq_word_o_k.Ok PP X := okF pq_word_o_w _ pq_word_o_T (by kernel_rfl)
/- 93 (*frankpledge/parse.parser).one -/
def pq_one_o_d : FD := ⟨B0.lean [pq_fail_k, pq_next_k, pq_inner_o_k, pq_word_o_k] [], 1, [], [(.inn [none, none, none, none, none, none, none, some .ex, none, none])], [], Tryz.f93⟩
theorem pq_one_o_cs : CsOk PP X pq_one_o_d.cx := csL bOk mixed ⟨pq_fail_ok, pq_next_ok, pq_inner_o_ok, pq_word_o_ok, trivial⟩ trivial (by kernel_rfl)
theorem pq_one_o_w : ConOk PP X 93 pq_one_o_d.raw := rawD pq_one_o_cs Tryz.func93 (n := 0) (js := []) (by kernel_rfl) trivial trivial
theorem pq_one_o_T : TF pq_one_o_d.raw S90 R18 fun R => pq_one_o_cps big R := fun _ _ _ => by kernel_rfl
def pq_one_o_k : CR := kF 93 [.arg 0] [] S90 R18 (pq_one_o big)
theorem pq_one_o_ok : pq_one_o_k.Ok PP X := okF pq_one_o_w _ pq_one_o_T (by kernel_rfl)
/- 92 (*frankpledge/parse.parser).within -/
def pq_within_2_o_d : FD := ⟨B0.lean [pq_fail_k, rec_pq_sign_k] [], 1, [], [(.inn [none, none, none, none, none, none, none, some .ex, none, none])], [], Tryz.f92⟩
theorem pq_within_2_o_cs : CsOk PP X pq_within_2_o_d.cx := csL bOk mixed ⟨pq_fail_ok, rec_pq_sign_ok, trivial⟩ trivial (by kernel_rfl)
theorem pq_within_2_o_w : ConOk PP X 92 pq_within_2_o_d.raw := rawD pq_within_2_o_cs Tryz.func92 (n := 0) (js := []) (by kernel_rfl) trivial trivial
theorem pq_within_2_o_T : TF pq_within_2_o_d.raw S107 R18 fun R => pq_within_2_o_cps big R := fun _ _ _ => by kernel_rfl
def pq_within_2_o_k : CR := kF 92 [.arg 0] [] S107 R18 (pq_within_2_o big)
theorem pq_within_2_o_ok : pq_within_2_o_k.Ok PP X := okF pq_within_2_o_w _ pq_within_2_o_T (by kernel_rfl)
/- 64 (*frankpledge/parse.parser).sign -/
def pq_sign_o_d : FD := ⟨B0.lean [pq_is_k, pq_next_k, pq_within_2_o_k, pq_one_o_k] [], 1, [], [], [], Tryz.f64⟩
theorem pq_sign_o_cs : CsOk PP X pq_sign_o_d.cx := csL bOk mixed ⟨pq_is_ok, pq_next_ok, pq_within_2_o_ok, pq_one_o_ok, trivial⟩ trivial (by kernel_rfl)
theorem pq_sign_o_w : ConOk PP X 64 pq_sign_o_d.raw := rawD pq_sign_o_cs Tryz.func64 (n := 0) (js := []) (by kernel_rfl) trivial trivial
theorem pq_sign_o_T : TF pq_sign_o_d.raw S90 R18 fun R => pq_sign_o_cps big R := fun _ _ _ => by kernel_rfl
def pq_sign_o_k : CR := kF 64 [.arg 0] [] S90 R18 (pq_sign_o big)
theorem pq_sign_o_ok : pq_sign_o_k.Ok PP X := okF pq_sign_o_w _ pq_sign_o_T (by kernel_rfl)
/- 50 (*frankpledge/parse.parser).expr -/
def pq_expr_o_r1F : JF S111 := fun R k => S111.app (pq_expr_o_r1 big R (S112.ex k .normal))
def pq_expr_o_r1h : LH := lhJ S111 pq_expr_o_r1F (ids [0, 1, 4, 5, 6, 7] []) [] (ids [0, 1, 4, 5] []) 3 none
def pq_expr_o_l0F : LF S113 := fun R n k => S113.app (pq_expr_o_l0 big R (S114.ex k (.exit 1)) n)
def pq_expr_o_l0G : BF S113 := fun R r k => S113.app (pq_expr_o_l0B big R (S113.cur r) (S114.ex k (.exit 1)))
def pq_expr_o_l0h : LH := lhL S113 pq_expr_o_l0F (ids [0, 1, 4, 5] []) [(2, [(7, .ro .ex)])] (ids [4, 5] []) none
def pq_expr_o_d : FD := ⟨B0.lean [pq_next_k, rec_pq_expr_k, pq_not_o_k, pq_sign_o_k, parse_op_k] [], 1, [(7, pq_expr_o_l0h), (2000011, pq_expr_o_r1h)], [], [], Tryz.f50⟩
theorem pq_expr_o_cs : CsOk PP X pq_expr_o_d.cx := csL bOk mixed ⟨pq_next_ok, rec_pq_expr_ok, pq_not_o_ok, pq_sign_o_ok, parse_op_ok, trivial⟩ trivial (by kernel_rfl)
theorem pq_expr_o_L0 : LOkD pq_expr_o_d 0 := lokD pq_expr_o_l0F pq_expr_o_l0G pq_expr_o_l0h (by kernel_rfl) (by kernel_rfl) (fun _ _ _ _ => by kernel_rfl) (fun _ _ _ => by kernel_rfl) (fun _ _ _ _ => by kernel_rfl)
theorem pq_expr_o_J24 : JOkD pq_expr_o_d 24 := rokD pq_expr_o_cs pq_expr_o_r1F pq_expr_o_r1h (by kernel_rfl) rfl rfl (by kernel_rfl) (by kernel_rfl) [[0, 1, 3, 4, 5, 2, 6, 7, 8, 9], [0, 1, 3, 4, 5, 6, 2, 7, 8, 9]] (by kernel_rfl) ⟨(fun _ _ _ => by kernel_rfl), (fun _ _ _ => by kernel_rfl), trivial⟩
theorem pq_expr_o_J26 : JOkD pq_expr_o_d 26 := rokD pq_expr_o_cs pq_expr_o_r1F pq_expr_o_r1h (by kernel_rfl) rfl rfl (by kernel_rfl) (by kernel_rfl) [[0, 1, 3, 4, 5, 2, 6, 7, 8, 9], [0, 1, 3, 4, 5, 6, 2, 7, 8, 9]] (by kernel_rfl) ⟨(fun _ _ _ => by kernel_rfl), (fun _ _ _ => by kernel_rfl), trivial⟩
theorem pq_expr_o_w : ConOk PP X 50 pq_expr_o_d.raw := rawD pq_expr_o_cs Tryz.func50 (n := 1) (js := [24, 26]) (by kernel_rfl) ⟨pq_expr_o_L0, trivial⟩ ⟨pq_expr_o_J24, pq_expr_o_J26, trivial⟩
theorem pq_expr_o_T : TF pq_expr_o_d.raw S91 R18 fun R => pq_expr_o_cps big R := fun _ _ _ => by kernel_rfl
def pq_expr_o_k : CR := kF 50 [.arg 0] [] S91 R18 (pq_expr_o big)
theorem pq_expr_o_ok : pq_expr_o_k.Ok PP X := okF pq_expr_o_w _ pq_expr_o_T (by kernel_rfl)
/- 31 (*frankpledge/parse.parser).whole -/
def pq_whole_o_d : FD := ⟨B0.lean [pq_expr_o_k] [], 1, [], [], [], Tryz.f31⟩
theorem pq_whole_o_cs : CsOk PP X pq_whole_o_d.cx := csL bOk mixed ⟨pq_expr_o_ok, trivial⟩ trivial (by kernel_rfl)
theorem pq_whole_o_w : ConOk PP X 31 pq_whole_o_d.raw := rawD pq_whole_o_cs Tryz.func31 (n := 0) (js := []) (by kernel_rfl) trivial trivial
theorem pq_whole_o_T : TF pq_whole_o_d.raw S90 R18 fun R => pq_whole_o_cps big R := fun _ _ _ => by kernel_rfl
def pq_whole_o_k : CR := kF 31 [.arg 0] [] S90 R18 (pq_whole_o big)
theorem pq_whole_o_ok : pq_whole_o_k.Ok PP X := okF pq_whole_o_w _ pq_whole_o_T (by kernel_rfl)
end
theorem H_pq_whole_all (n : Nat) : @H_pq_whole ⟨n⟩ := by
 induction n with
 | zero => exact @H_pq_whole.mk ⟨0⟩ (okF0 fun _ => by kernel_rfl) (okF0 fun _ => by kernel_rfl) (okF0 fun _ => by kernel_rfl) (okF0 fun _ => by kernel_rfl)
 | succ n ih => exact @H_pq_whole.mk ⟨n + 1⟩ (letI : Fuel := ⟨n⟩; letI : H_pq_whole := ih; pq_not_o_ok) (letI : Fuel := ⟨n⟩; letI : H_pq_whole := ih; pq_sign_o_ok) (letI : Fuel := ⟨n⟩; letI : H_pq_whole := ih; pq_expr_o_ok) (letI : Fuel := ⟨n⟩; letI : H_pq_whole := ih; pq_whole_o_ok)
def pq_test_k : CR := letI : Fuel := ⟨big⟩; pq_test_o_k
theorem pq_test_ok : pq_test_k.Ok PP X := letI : Fuel := ⟨big⟩; letI : H_pq_whole := H_pq_whole_all big; pq_test_o_ok
def pq_within_k : CR := letI : Fuel := ⟨big⟩; pq_within_o_k
theorem pq_within_ok : pq_within_k.Ok PP X := letI : Fuel := ⟨big⟩; letI : H_pq_whole := H_pq_whole_all big; pq_within_o_ok
def pq_not_k : CR := letI : Fuel := ⟨big⟩; pq_not_o_k
theorem pq_not_ok : pq_not_k.Ok PP X := letI : Fuel := ⟨big⟩; letI : H_pq_whole := H_pq_whole_all big; pq_not_o_ok
def pq_within_1_k : CR := letI : Fuel := ⟨big⟩; pq_within_1_o_k
theorem pq_within_1_ok : pq_within_1_k.Ok PP X := letI : Fuel := ⟨big⟩; letI : H_pq_whole := H_pq_whole_all big; pq_within_1_o_ok
def pq_inner_k : CR := letI : Fuel := ⟨big⟩; pq_inner_o_k
theorem pq_inner_ok : pq_inner_k.Ok PP X := letI : Fuel := ⟨big⟩; letI : H_pq_whole := H_pq_whole_all big; pq_inner_o_ok
def pq_word_k : CR := letI : Fuel := ⟨big⟩; pq_word_o_k
theorem pq_word_ok : pq_word_k.Ok PP X := letI : Fuel := ⟨big⟩; letI : H_pq_whole := H_pq_whole_all big; pq_word_o_ok
def pq_one_k : CR := letI : Fuel := ⟨big⟩; pq_one_o_k
theorem pq_one_ok : pq_one_k.Ok PP X := letI : Fuel := ⟨big⟩; letI : H_pq_whole := H_pq_whole_all big; pq_one_o_ok
def pq_within_2_k : CR := letI : Fuel := ⟨big⟩; pq_within_2_o_k
theorem pq_within_2_ok : pq_within_2_k.Ok PP X := letI : Fuel := ⟨big⟩; letI : H_pq_whole := H_pq_whole_all big; pq_within_2_o_ok
def pq_sign_k : CR := letI : Fuel := ⟨big⟩; pq_sign_o_k
theorem pq_sign_ok : pq_sign_k.Ok PP X := letI : Fuel := ⟨big⟩; letI : H_pq_whole := H_pq_whole_all big; pq_sign_o_ok
def pq_expr_k : CR := letI : Fuel := ⟨big⟩; pq_expr_o_k
theorem pq_expr_ok : pq_expr_k.Ok PP X := letI : Fuel := ⟨big⟩; letI : H_pq_whole := H_pq_whole_all big; pq_expr_o_ok
def pq_whole_k : CR := letI : Fuel := ⟨big⟩; pq_whole_o_k
theorem pq_whole_ok : pq_whole_k.Ok PP X := letI : Fuel := ⟨big⟩; letI : H_pq_whole := H_pq_whole_all big; pq_whole_o_ok
def pq_list_l0F : LF S115 := fun R n k => S115.app (pq_list_l0 big R (S116.ex k (.exit 0)) n)
def pq_list_l0G : BF S115 := fun R r k => S115.app (pq_list_l0B big R (S115.cur r) (S116.ex k (.exit 0)))
def pq_list_l0h : LH := lhL S115 pq_list_l0F (ids [0, 3] []) [] (ids [3] []) none
def pq_list_d : FD := ⟨B0.lean [pq_take_k, pq_whole_k] [], 1, [(2, pq_list_l0h)], [], [], Tryz.f46⟩
theorem pq_list_cs : CsOk PP X pq_list_d.cx := csL bOk mixed ⟨pq_take_ok, pq_whole_ok, trivial⟩ trivial (by kernel_rfl)
theorem pq_list_L0 : LOkD pq_list_d 0 := lokD pq_list_l0F pq_list_l0G pq_list_l0h (by kernel_rfl) (by kernel_rfl) (fun _ _ _ _ => by kernel_rfl) (fun _ _ _ => by kernel_rfl) (fun _ _ _ _ => by kernel_rfl)
theorem pq_list_w : ConOk PP X 46 pq_list_d.raw := rawD pq_list_cs Tryz.func46 (n := 1) (js := []) (by kernel_rfl) ⟨pq_list_L0, trivial⟩ trivial
theorem pq_list_T : TF pq_list_d.raw S90 R19 fun R => pq_list_cps big R := fun _ _ _ => by kernel_rfl
def pq_list_k : CR := kF 46 [.arg 0] [] S90 R19 (pq_list big)
theorem pq_list_ok : pq_list_k.Ok PP X := okF pq_list_w _ pq_list_T (by kernel_rfl)
def pq_table_d : FD := ⟨B0.lean [pq_name_k, pq_at_k] [], 1, [], [], [], Tryz.f26⟩
theorem pq_table_cs : CsOk PP X pq_table_d.cx := csL bOk mixed ⟨pq_name_ok, pq_at_ok, trivial⟩ trivial (by kernel_rfl)
theorem pq_table_w : ConOk PP X 26 pq_table_d.raw := rawD pq_table_cs Tryz.func26 (n := 0) (js := []) (by kernel_rfl) trivial trivial
theorem pq_table_T : TF pq_table_d.raw S117 R20 fun R => pq_table_cps big R := fun _ _ _ => by kernel_rfl
def pq_table_k : CR := kF 26 [.arg 0, .arg 1] [] S117 R20 (pq_table big)
theorem pq_table_ok : pq_table_k.Ok PP X := okF pq_table_w _ pq_table_T (by kernel_rfl)
def pq_where_d : FD := ⟨B0.lean [pq_take_k, pq_whole_k] [], 1, [], [(.inn [none, none, none, none, none, none, none, some .ex, none, none])], [], Tryz.f27⟩
theorem pq_where_cs : CsOk PP X pq_where_d.cx := csL bOk mixed ⟨pq_take_ok, pq_whole_ok, trivial⟩ trivial (by kernel_rfl)
theorem pq_where_w : ConOk PP X 27 pq_where_d.raw := rawD pq_where_cs Tryz.func27 (n := 0) (js := []) (by kernel_rfl) trivial trivial
theorem pq_where_T : TF pq_where_d.raw S89 R18 fun R => pq_where_cps big R := fun _ _ _ => by kernel_rfl
def pq_where_k : CR := kF 27 [.arg 0] [] S89 R18 (pq_where big)
theorem pq_where_ok : pq_where_k.Ok PP X := okF pq_where_w _ pq_where_T (by kernel_rfl)
def pq_selects_j5F : JF S118 := fun R k => S118.app (pq_selects_j5 big R (S119.ex k .normal) (S119.ex k .ret))
def pq_selects_j5h : LH := lhJ S118 pq_selects_j5F (ids [0, 1] []) [(1, [(25, .own (.pair .ex (.pair .bool .unit)))])] [] 2 none
def pq_selects_r4F : JF S120 := fun R k => S120.app (pq_selects_r4 big R (S121.ex k .normal))
def pq_selects_r4h : LH := lhJ S120 pq_selects_r4F (ids [0, 1, 5] []) [(1, [(25, .own (.pair .ex (.pair .bool .unit)))])] (ids [0, 1] []) 3 none
def pq_selects_l3F : LF S122 := fun R n k => S122.app (pq_selects_l3 big R (S118.ex k (.exit 0)) n)
def pq_selects_l3G : BF S122 := fun R r k => S122.app (pq_selects_l3B big R (S122.cur r) (S118.ex k (.exit 0)))
def pq_selects_l3h : LH := lhL S122 pq_selects_l3F (ids [0, 1, 4] []) [(1, [(25, .own (.pair .ex (.pair .bool .unit)))])] (ids [0, 1] []) none
def pq_selects_j2F : JF S123 := fun R k => S123.app (pq_selects_j2 big R (S119.ex k .normal) (S119.ex k .ret))
def pq_selects_j2h : LH := lhJ S123 pq_selects_j2F (ids [0, 1] []) [(1, [(24, .own .ex)])] [] 2 none
def pq_selects_j1F : JF S124 := fun R k => S124.app (pq_selects_j1 big R (S119.ex k .normal) (S119.ex k .ret))
def pq_selects_j1h : LH := lhJ S124 pq_selects_j1F (ids [0, 1] []) [(1, [(10, .ro .ex)])] [] 2 none
def pq_selects_j0F : JF S125 := fun R k => S125.app (pq_selects_j0 big R (S119.ex k .normal) (S119.ex k .ret))
def pq_selects_j0h : LH := lhJ S125 pq_selects_j0F (ids [0, 1] []) [(1, [(23, .own .ex)])] [] 2 none
def pq_selects_d : FD := ⟨B0.lean [pq_take_k, pq_want_k, pq_table_k, pq_where_k, pq_fail_k, pq_whole_k, pq_next_k, pq_list_k, pq_name_k] [], 1, [(15, pq_selects_l3h), (1000002, pq_selects_j0h), (1000008, pq_selects_j1h), (1000012, pq_selects_j2h), (1000021, pq_selects_j5h), (2000020, pq_selects_r4h)], [], [], Tryz.f22⟩
theorem pq_selects_cs : CsOk PP X pq_selects_d.cx := csL bOk mixed ⟨pq_take_ok, pq_want_ok, pq_table_ok, pq_where_ok, pq_fail_ok, pq_whole_ok, pq_next_ok, pq_list_ok, pq_name_ok, trivial⟩ trivial (by kernel_rfl)
theorem pq_selects_L0 : LOkD pq_selects_d 0 := lokD pq_selects_l3F pq_selects_l3G pq_selects_l3h (by kernel_rfl) (by kernel_rfl) (fun _ _ _ _ => by kernel_rfl) (fun _ _ _ => by kernel_rfl) (fun _ _ _ _ => by kernel_rfl)
theorem pq_selects_J0 : JOkD pq_selects_d 0 := jokD pq_selects_j0F pq_selects_j0h (by kernel_rfl) (by kernel_rfl) (fun _ _ _ => by kernel_rfl)
theorem pq_selects_J8 : JOkD pq_selects_d 8 := jokD pq_selects_j1F pq_selects_j1h (by kernel_rfl) (by kernel_rfl) (fun _ _ _ => by kernel_rfl)
theorem pq_selects_J18 : JOkD pq_selects_d 18 := jokD pq_selects_j2F pq_selects_j2h (by kernel_rfl) (by kernel_rfl) (fun _ _ _ => by kernel_rfl)
theorem pq_selects_J24 : JOkD pq_selects_d 24 := jokD pq_selects_j5F pq_selects_j5h (by kernel_rfl) (by kernel_rfl) (fun _ _ _ => by kernel_rfl)
theorem pq_selects_J37 : JOkD pq_selects_d 37 := rokD pq_selects_cs pq_selects_r4F pq_selects_r4h (by kernel_rfl) rfl rfl (by kernel_rfl) (by kernel_rfl) [[0, 1, 2, 3, 4, 5, 6, 7, 8, 9, 10], [0, 1, 2, 3, 5, 4, 6, 7, 8, 9, 10]] (by kernel_rfl) ⟨(fun _ _ _ => by kernel_rfl), (fun _ _ _ => by kernel_rfl), trivial⟩
theorem pq_selects_J41 : JOkD pq_selects_d 41 := rokD pq_selects_cs pq_selects_r4F pq_selects_r4h (by kernel_rfl) rfl rfl (by kernel_rfl) (by kernel_rfl) [[0, 1, 2, 3, 4, 5, 6, 7, 8, 9, 10], [0, 1, 2, 3, 5, 4, 6, 7, 8, 9, 10]] (by kernel_rfl) ⟨(fun _ _ _ => by kernel_rfl), (fun _ _ _ => by kernel_rfl), trivial⟩
theorem pq_selects_w : ConOk PP X 22 pq_selects_d.raw := rawD pq_selects_cs Tryz.func22 (n := 1) (js := [0, 8, 18, 24, 37, 41]) (by kernel_rfl) ⟨pq_selects_L0, trivial⟩ ⟨pq_selects_J0, pq_selects_J8, pq_selects_J18, pq_selects_J24, pq_selects_J37, pq_selects_J41, trivial⟩
theorem pq_selects_T : TF pq_selects_d.raw S126 R21 fun R => pq_selects_cps big R := fun _ _ _ => by kernel_rfl
def pq_selects_k : CR := kF 22 [.arg 0, .arg 1] [] S126 R21 (pq_selects big)
theorem pq_selects_ok : pq_selects_k.Ok PP X := okF pq_selects_w _ pq_selects_T (by kernel_rfl)
def pq_ended_d : FD := ⟨B0.lean [pq_fail_k] [], 1, [], [], [], Tryz.f29⟩
theorem pq_ended_cs : CsOk PP X pq_ended_d.cx := csL bOk mixed ⟨pq_fail_ok, trivial⟩ trivial (by kernel_rfl)
theorem pq_ended_w : ConOk PP X 29 pq_ended_d.raw := rawD pq_ended_cs Tryz.func29 (n := 0) (js := []) (by kernel_rfl) trivial trivial
theorem pq_ended_T : TF pq_ended_d.raw S90 R22 fun R => pq_ended_cps big R := fun _ _ _ => by kernel_rfl
def pq_ended_k : CR := kF 29 [.arg 0] [] S90 R22 (pq_ended big)
theorem pq_ended_ok : pq_ended_k.Ok PP X := okF pq_ended_w _ pq_ended_T (by kernel_rfl)
def pq_table_1_d : FD := ⟨B0.lean [pq_name_k, pq_at_k] [], 1, [], [], [], Tryz.f26⟩
theorem pq_table_1_cs : CsOk PP X pq_table_1_d.cx := csL bOk mixed ⟨pq_name_ok, pq_at_ok, trivial⟩ trivial (by kernel_rfl)
theorem pq_table_1_w : ConOk PP X 26 pq_table_1_d.raw := rawD pq_table_1_cs Tryz.func26 (n := 0) (js := []) (by kernel_rfl) trivial trivial
theorem pq_table_1_T : TF pq_table_1_d.raw S126 R23 fun R => pq_table_1_cps big R := fun _ _ _ => by kernel_rfl
def pq_table_1_k : CR := kF 26 [.arg 0, .arg 1] [] S126 R23 (pq_table_1 big)
theorem pq_table_1_ok : pq_table_1_k.Ok PP X := okF pq_table_1_w _ pq_table_1_T (by kernel_rfl)
def pq_inserts_r1F : JF S127 := fun R k => S127.app (pq_inserts_r1 big R (S127.ex k .normal))
def pq_inserts_r1h : LH := lhJ S127 pq_inserts_r1F (ids [0, 1] []) [(1, [(27, .own (.slice .ex))])] (ids [0, 1] []) 2 none
def pq_inserts_l0F : LF S128 := fun R n k => S128.app (pq_inserts_l0 big R (S129.ex k (.exit 0)) (S129.ex k .ret) n)
def pq_inserts_l0G : BF S128 := fun R r k => S128.app (pq_inserts_l0B big R (S128.cur r) (S129.ex k (.exit 0)) (S129.ex k .ret))
def pq_inserts_l0h : LH := lhL S128 pq_inserts_l0F (ids [0, 1, 4] []) [(1, [(27, .own (.slice .ex))])] [] none
def pq_inserts_d : FD := ⟨B0.lean [pq_take_k, pq_want_k, pq_table_1_k, pq_list_k] [], 1, [(4, pq_inserts_l0h), (2000008, pq_inserts_r1h)], [], [], Tryz.f23⟩
theorem pq_inserts_cs : CsOk PP X pq_inserts_d.cx := csL bOk mixed ⟨pq_take_ok, pq_want_ok, pq_table_1_ok, pq_list_ok, trivial⟩ trivial (by kernel_rfl)
theorem pq_inserts_L0 : LOkD pq_inserts_d 0 := lokD pq_inserts_l0F pq_inserts_l0G pq_inserts_l0h (by kernel_rfl) (by kernel_rfl) (fun _ _ _ _ => by kernel_rfl) (fun _ _ _ => by kernel_rfl) (fun _ _ _ _ => by kernel_rfl)
theorem pq_inserts_J18 : JOkD pq_inserts_d 18 := rokD pq_inserts_cs pq_inserts_r1F pq_inserts_r1h (by kernel_rfl) rfl rfl (by kernel_rfl) (by kernel_rfl) [[0, 1, 2, 3, 5, 4, 6, 7, 8, 9, 10, 11], [0, 1, 2, 3, 5, 6, 4, 7, 8, 9, 10, 11]] (by kernel_rfl) ⟨(fun _ _ _ => by kernel_rfl), (fun _ _ _ => by kernel_rfl), trivial⟩
theorem pq_inserts_w : ConOk PP X 23 pq_inserts_d.raw := rawD pq_inserts_cs Tryz.func23 (n := 1) (js := [18]) (by kernel_rfl) ⟨pq_inserts_L0, trivial⟩ ⟨pq_inserts_J18, trivial⟩
theorem pq_inserts_T : TF pq_inserts_d.raw S126 R24 fun R => pq_inserts_cps big R := fun _ _ _ => by kernel_rfl
def pq_inserts_k : CR := kF 23 [.arg 0, .arg 1] [] S126 R24 (pq_inserts big)
theorem pq_inserts_ok : pq_inserts_k.Ok PP X := okF pq_inserts_w _ pq_inserts_T (by kernel_rfl)
def pq_updates_r1F : JF S130 := fun R k => S130.app (pq_updates_r1 big R (S131.ex k .normal))
def pq_updates_r1h : LH := lhJ S130 pq_updates_r1F (ids [0, 1, 5] []) [(1, [(28, .own (.pair .str (.pair .ex (.pair (.int .i64) .unit))))])] (ids [0, 1] []) 3 none
def pq_updates_l0F : LF S132 := fun R n k => S132.app (pq_updates_l0 big R (S133.ex k (.exit 0)) n)
def pq_updates_l0G : BF S132 := fun R r k => S132.app (pq_updates_l0B big R (S132.cur r) (S133.ex k (.exit 0)))
def pq_updates_l0h : LH := lhL S132 pq_updates_l0F (ids [0, 1, 4] []) [(1, [(28, .own (.pair .str (.pair .ex (.pair (.int .i64) .unit))))])] (ids [0, 1] []) none
def pq_updates_d : FD := ⟨B0.lean [pq_take_k, pq_want_k, pq_table_1_k, pq_where_k, pq_whole_k, pq_name_k, pq_at_k] [], 1, [(3, pq_updates_l0h), (2000008, pq_updates_r1h)], [], [], Tryz.f24⟩
theorem pq_updates_cs : CsOk PP X pq_updates_d.cx := csL bOk mixed ⟨pq_take_ok, pq_want_ok, pq_table_1_ok, pq_where_ok, pq_whole_ok, pq_name_ok, pq_at_ok, trivial⟩ trivial (by kernel_rfl)
theorem pq_updates_L0 : LOkD pq_updates_d 0 := lokD pq_updates_l0F pq_updates_l0G pq_updates_l0h (by kernel_rfl) (by kernel_rfl) (fun _ _ _ _ => by kernel_rfl) (fun _ _ _ => by kernel_rfl) (fun _ _ _ _ => by kernel_rfl)
theorem pq_updates_J15 : JOkD pq_updates_d 15 := rokD pq_updates_cs pq_updates_r1F pq_updates_r1h (by kernel_rfl) rfl rfl (by kernel_rfl) (by kernel_rfl) [[0, 1, 2, 3, 4, 5, 6, 7, 8, 9, 10], [0, 1, 2, 3, 5, 4, 6, 7, 8, 9, 10]] (by kernel_rfl) ⟨(fun _ _ _ => by kernel_rfl), (fun _ _ _ => by kernel_rfl), trivial⟩
theorem pq_updates_J17 : JOkD pq_updates_d 17 := rokD pq_updates_cs pq_updates_r1F pq_updates_r1h (by kernel_rfl) rfl rfl (by kernel_rfl) (by kernel_rfl) [[0, 1, 2, 3, 4, 5, 6, 7, 8, 9, 10], [0, 1, 2, 3, 5, 4, 6, 7, 8, 9, 10]] (by kernel_rfl) ⟨(fun _ _ _ => by kernel_rfl), (fun _ _ _ => by kernel_rfl), trivial⟩
theorem pq_updates_w : ConOk PP X 24 pq_updates_d.raw := rawD pq_updates_cs Tryz.func24 (n := 1) (js := [15, 17]) (by kernel_rfl) ⟨pq_updates_L0, trivial⟩ ⟨pq_updates_J15, pq_updates_J17, trivial⟩
theorem pq_updates_T : TF pq_updates_d.raw S126 R25 fun R => pq_updates_cps big R := fun _ _ _ => by kernel_rfl
def pq_updates_k : CR := kF 24 [.arg 0, .arg 1] [] S126 R25 (pq_updates big)
theorem pq_updates_ok : pq_updates_k.Ok PP X := okF pq_updates_w _ pq_updates_T (by kernel_rfl)
def parse_Parse_d : FD := ⟨B0.lean [fault_At_k, pq_take_k, pq_selects_k, pq_inserts_k, pq_updates_k, pq_want_k, pq_table_1_k, pq_where_k, pq_fail_k, pq_ended_k, lex_Lex_k, fault_Wrap_k] [(20, Tryz.f20)], 2, [], [(.inn [none, none, none, none, none, none, none, none, none, none, some .ex, none, none, none, none, none, none, none, none, none, some .ex, none, none, some .ex, some .ex, some (.pair .ex (.pair .bool .unit)), none, some (.slice .ex), some (.pair .str (.pair .ex (.pair (.int .i64) .unit))), none]), .id], [], Tryz.f8⟩
theorem parse_Parse_cs : CsOk PP X parse_Parse_d.cx := csL bOk mixed ⟨fault_At_ok, pq_take_ok, pq_selects_ok, pq_inserts_ok, pq_updates_ok, pq_want_ok, pq_table_1_ok, pq_where_ok, pq_fail_ok, pq_ended_ok, lex_Lex_ok, fault_Wrap_ok, trivial⟩ ⟨⟨Tryz.func20, by kernel_rfl⟩, trivial⟩ (by kernel_rfl)
theorem parse_Parse_w : ConOk PP X 8 parse_Parse_d.raw := rawD parse_Parse_cs Tryz.func8 (n := 0) (js := []) (by kernel_rfl) trivial trivial
theorem parse_Parse_T : TK parse_Parse_d.raw S4 R26 fun R => parse_Parse_cps big R := fun _ _ _ => by kernel_rfl
def parse_Parse_k : CR := kC 8 [] [] S4 R26 (parse_Parse big)
theorem parse_Parse_ok : parse_Parse_k.Ok PP X := okC parse_Parse_w _ parse_Parse_T (by kernel_rfl)
def fault_Code_k : CR := kC 18 [] [] S87 R1 (fault_Code big)
theorem fault_Code_ok : fault_Code_k.Ok PP X := okC shelf_Code_18 (fun R => fault_Code_cps big R) (fun _ _ _ => by kernel_rfl) (by kernel_rfl)
def w7_alive_d : FD := ⟨B0.lean [parse_Parse_k, fault_Code_k, fault_At_k] [], 1, [], [], [], Tryz.f7⟩
theorem w7_alive_cs : CsOk PP X w7_alive_d.cx := csL bOk mixed ⟨parse_Parse_ok, fault_Code_ok, fault_At_ok, trivial⟩ trivial (by kernel_rfl)
theorem w7_alive_w : ConOk PP X 7 w7_alive_d.raw := rawD w7_alive_cs Tryz.func7 (n := 0) (js := []) (by kernel_rfl) trivial trivial
theorem w7_alive_T : TK w7_alive_d.raw S134 R0 fun R => w7_alive_cps big R := fun _ _ _ => by kernel_rfl
def w7_alive_k : CR := kC 7 [] [] S134 R0 (w7_alive big)
theorem w7_alive_ok : w7_alive_k.Ok PP X := okC w7_alive_w _ w7_alive_T (by kernel_rfl)
def w7_great_j1F : JF S135 := fun R k => S135.app (w7_great_j1 big R (S136.ex k .normal))
def w7_great_j1h : LH := lhJ S135 w7_great_j1F (ids [0, 4, 5, 6] [(3, .own .byte)]) [] (ids [0, 3, 4, 5] []) 0 none
def w7_great_l0F : LF S136 := fun R n k => S136.app (w7_great_l0 big R (S137.ex k (.exit 0)) n)
def w7_great_l0G : BF S136 := fun R r k => S136.app (w7_great_l0B big R (S136.cur r) (S137.ex k (.exit 0)))
def w7_great_l0h : LH := lhL S136 w7_great_l0F (ids [0, 4, 5] [(3, .own .byte)]) [] (ids [3] []) none
def w7_great_d : FD := ⟨B0.lean [] [], 1, [(4, w7_great_l0h), (1000009, w7_great_j1h)], [], [], Tryz.f9⟩
theorem w7_great_cs : CsOk PP X w7_great_d.cx := csL bOk mixed trivial trivial (by kernel_rfl)
theorem w7_great_L0 : LOkD w7_great_d 0 := lokD w7_great_l0F w7_great_l0G w7_great_l0h (by kernel_rfl) (by kernel_rfl) (fun _ _ _ _ => by kernel_rfl) (fun _ _ _ => by kernel_rfl) (fun _ _ _ _ => by kernel_rfl)
theorem w7_great_J15 : JOkD w7_great_d 15 := jokD w7_great_j1F w7_great_j1h (by kernel_rfl) (by kernel_rfl) (fun _ _ _ => by kernel_rfl)
theorem w7_great_w : ConOk PP X 9 w7_great_d.raw := rawD w7_great_cs Tryz.func9 (n := 1) (js := [15]) (by kernel_rfl) ⟨w7_great_L0, trivial⟩ ⟨w7_great_J15, trivial⟩
theorem w7_great_T : TK w7_great_d.raw S4 R2 fun R => w7_great_cps big R := fun _ _ _ => by kernel_rfl
def w7_great_k : CR := kC 9 [] [] S4 R2 (w7_great big)
theorem w7_great_ok : w7_great_k.Ok PP X := okC w7_great_w _ w7_great_T (by kernel_rfl)
set_option warn.classDefReducibility false
set_option linter.unusedSectionVars false
section
variable [Fuel]
def Z_r7_Same_inst : Z_r7_Same := Z_r7_Same_at big Fuel.n
attribute [local instance] Z_r7_Same_inst
def rec_r7_Same_k : CR := kC 10 [] [] S138 R0 Z_r7_Same.r_r7_Same
class H_r7_Same : Prop where
 h_r7_Same : rec_r7_Same_k.Ok PP X
variable [H_r7_Same]
theorem rec_r7_Same_ok : rec_r7_Same_k.Ok PP X := H_r7_Same.h_r7_Same
/- 30 frankpledge/frankpledgeref17.SameList -/
def r7_SameList_o_l0F : LF S139 := fun R n k => S139.app (r7_SameList_o_l0 big R (S140.ex k (.exit 0)) (S141.ex k .ret) n)
def r7_SameList_o_l0G : BF S139 := fun R r k => S139.app (r7_SameList_o_l0B big R (S139.cur r) (S140.ex k (.exit 0)) (S141.ex k .ret))
def r7_SameList_o_l0h : LH := lhL S139 r7_SameList_o_l0F (ids [0, 1, 2, 7] []) [] (ids [6] []) none
def r7_SameList_o_d : FD := ⟨B0.lean [rec_r7_Same_k] [], 1, [(4, r7_SameList_o_l0h)], [], [], Tryz.f30⟩
theorem r7_SameList_o_cs : CsOk PP X r7_SameList_o_d.cx := csL bOk mixed ⟨rec_r7_Same_ok, trivial⟩ trivial (by kernel_rfl)
theorem r7_SameList_o_L0 : LOkD r7_SameList_o_d 0 := lokD r7_SameList_o_l0F r7_SameList_o_l0G r7_SameList_o_l0h (by kernel_rfl) (by kernel_rfl) (fun _ _ _ _ => by kernel_rfl) (fun _ _ _ => by kernel_rfl) (fun _ _ _ _ => by kernel_rfl)
theorem r7_SameList_o_w : ConOk PP X 30 r7_SameList_o_d.raw := rawD r7_SameList_o_cs Tryz.func30 (n := 1) (js := []) (by kernel_rfl) ⟨r7_SameList_o_L0, trivial⟩ trivial
theorem r7_SameList_o_T : TK r7_SameList_o_d.raw S142 R0 fun R => r7_SameList_o_cps big R := fun _ _ _ => by kernel_rfl
def r7_SameList_o_k : CR := kC 30 [] [] S142 R0 (r7_SameList_o big)
theorem r7_SameList_o_ok : r7_SameList_o_k.Ok PP X := okC r7_SameList_o_w _ r7_SameList_o_T (by kernel_rfl)
/- 10 frankpledge/frankpledgeref17.Same -/
def r7_Same_o_d : FD := ⟨B0.lean [r7_SameList_o_k] [], 1, [], [], [], Tryz.f10⟩
theorem r7_Same_o_cs : CsOk PP X r7_Same_o_d.cx := csL bOk mixed ⟨r7_SameList_o_ok, trivial⟩ trivial (by kernel_rfl)
theorem r7_Same_o_w : ConOk PP X 10 r7_Same_o_d.raw := rawD r7_Same_o_cs Tryz.func10 (n := 0) (js := []) (by kernel_rfl) trivial trivial
theorem r7_Same_o_T : TK r7_Same_o_d.raw S138 R0 fun R => r7_Same_o_cps big R := fun _ _ _ => by kernel_rfl
def r7_Same_o_k : CR := kC 10 [] [] S138 R0 (r7_Same_o big)
theorem r7_Same_o_ok : r7_Same_o_k.Ok PP X := okC r7_Same_o_w _ r7_Same_o_T (by kernel_rfl)
end
theorem H_r7_Same_all (n : Nat) : @H_r7_Same ⟨n⟩ := by
 induction n with
 | zero => exact @H_r7_Same.mk ⟨0⟩ (okC0 fun _ => by kernel_rfl)
 | succ n ih => exact @H_r7_Same.mk ⟨n + 1⟩ (letI : Fuel := ⟨n⟩; letI : H_r7_Same := ih; r7_Same_o_ok)
def r7_SameList_k : CR := letI : Fuel := ⟨big⟩; r7_SameList_o_k
theorem r7_SameList_ok : r7_SameList_k.Ok PP X := letI : Fuel := ⟨big⟩; letI : H_r7_Same := H_r7_Same_all big; r7_SameList_o_ok
def r7_Same_k : CR := letI : Fuel := ⟨big⟩; r7_Same_o_k
theorem r7_Same_ok : r7_Same_k.Ok PP X := letI : Fuel := ⟨big⟩; letI : H_r7_Same := H_r7_Same_all big; r7_Same_o_ok
def w7_ParseSpaces_l3F : LF S143 := fun R n k => S143.app (w7_ParseSpaces_l3 big R (S144.ex k (.exit 2)) (S145.ex k .ret) n)
def w7_ParseSpaces_l3G : BF S143 := fun R r k => S143.app (w7_ParseSpaces_l3B big R (S143.cur r) (S144.ex k (.exit 2)) (S145.ex k .ret))
def w7_ParseSpaces_l3h : LH := lhL S143 w7_ParseSpaces_l3F (ids [8, 13, 15, 17] []) [] (ids [4, 8, 13, 15] []) none
def w7_ParseSpaces_j2F : JF S144 := fun R k => S144.app (w7_ParseSpaces_j2 big R (S146.ex k .ret))
def w7_ParseSpaces_j2h : LH := lhJ S144 w7_ParseSpaces_j2F (ids [8, 13, 15] []) [] (ids [4] []) 3 none
def w7_ParseSpaces_l1F : LF S147 := fun R n k => S147.app (w7_ParseSpaces_l1 big R (S148.ex k (.exit 0)) n)
def w7_ParseSpaces_l1G : BF S147 := fun R r k => S147.app (w7_ParseSpaces_l1B big R (S147.cur r) (S148.ex k (.exit 0)))
def w7_ParseSpaces_l1h : LH := lhL S147 w7_ParseSpaces_l1F (ids [0, 1, 5, 8, 10, 11] []) [] (ids [0, 8, 10] []) none
def w7_ParseSpaces_j0F : JF S149 := fun R k => S149.app (w7_ParseSpaces_j0 big R (S150.ex k .ret))
def w7_ParseSpaces_j0h : LH := lhJ S149 w7_ParseSpaces_j0F (ids [0, 1, 5] []) [] (ids [4] []) 0 none
def w7_ParseSpaces_d : FD := ⟨B0.lean [r6_Lex_k, w7_alive_k, parse_Parse_k, w7_great_k, r7_Same_k] [], 1, [(9, w7_ParseSpaces_l1h), (20, w7_ParseSpaces_l3h), (1000004, w7_ParseSpaces_j0h), (1000019, w7_ParseSpaces_j2h)], [], [], Tryz.f3⟩
theorem w7_ParseSpaces_cs : CsOk PP X w7_ParseSpaces_d.cx := csL bOk mixed ⟨r6_Lex_ok, w7_alive_ok, parse_Parse_ok, w7_great_ok, r7_Same_ok, trivial⟩ trivial (by kernel_rfl)
theorem w7_ParseSpaces_L0 : LOkD w7_ParseSpaces_d 0 := lokD w7_ParseSpaces_l1F w7_ParseSpaces_l1G w7_ParseSpaces_l1h (by kernel_rfl) (by kernel_rfl) (fun _ _ _ _ => by kernel_rfl) (fun _ _ _ => by kernel_rfl) (fun _ _ _ _ => by kernel_rfl)
theorem w7_ParseSpaces_L1 : LOkD w7_ParseSpaces_d 1 := lokD w7_ParseSpaces_l3F w7_ParseSpaces_l3G w7_ParseSpaces_l3h (by kernel_rfl) (by kernel_rfl) (fun _ _ _ _ => by kernel_rfl) (fun _ _ _ => by kernel_rfl) (fun _ _ _ _ => by kernel_rfl)
theorem w7_ParseSpaces_J4 : JOkD w7_ParseSpaces_d 4 := jokD w7_ParseSpaces_j0F w7_ParseSpaces_j0h (by kernel_rfl) (by kernel_rfl) (fun _ _ _ => by kernel_rfl)
theorem w7_ParseSpaces_J37 : JOkD w7_ParseSpaces_d 37 := jokD w7_ParseSpaces_j2F w7_ParseSpaces_j2h (by kernel_rfl) (by kernel_rfl) (fun _ _ _ => by kernel_rfl)
theorem w7_ParseSpaces_w : ConOk PP X 3 w7_ParseSpaces_d.raw := rawD w7_ParseSpaces_cs Tryz.func3 (n := 2) (js := [4, 37]) (by kernel_rfl) ⟨w7_ParseSpaces_L0, w7_ParseSpaces_L1, trivial⟩ ⟨w7_ParseSpaces_J4, w7_ParseSpaces_J37, trivial⟩
theorem w7_ParseSpaces_T : TK w7_ParseSpaces_d.raw S151 R0 fun R => w7_ParseSpaces_cps big R := fun _ _ _ => by kernel_rfl
def w7_ParseSpaces_k : CR := kC 3 [] [] S151 R0 (w7_ParseSpaces big)
theorem w7_ParseSpaces_ok : w7_ParseSpaces_k.Ok PP X := okC w7_ParseSpaces_w _ w7_ParseSpaces_T (by kernel_rfl)
end
end Go.Proofs.YtbikfekdakigiaaGreatDoor.E
