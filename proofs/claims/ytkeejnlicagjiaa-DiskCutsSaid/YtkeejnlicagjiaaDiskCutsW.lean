/-
  The statement DiskCuts of the program is proved: for every input that the row speaks of, the law answers true.
  Conditions: those that the statement's row prints, and no other. This text: the walk: the code comes to the pure functions.
-/
import Derived.Test.YtkeejnlicagjiaaEvD
import Derived.KernelRfl
import Derived.Test.YtkeejnlicagjiaaRows
import Derived.Test.YtkeejnlicagjiaaDiskCutsF
set_option linter.unusedVariables false
set_option linter.unusedSimpArgs false
/-! The walk, printed by wip/gen out of the translation. -/
namespace Go.Proofs.Ytkeejnlicagjiaa.E
open Go.Ev Go.ChangeShapes
set_option maxRecDepth 100000
noncomputable section
noncomputable def tab : List (Nat × TE) := [(3, { d := .int .i64, size := 1, bytes := 8, agg := false, ty := some (.int .i64), zero := [.int .i64 0] }),
  (5, { d := .int .u8, size := 1, bytes := 1, agg := false, ty := some .byte, zero := [.int .u8 0] }),
  (9, { d := .str, size := 1, bytes := 16, agg := false, ty := some .str, zero := [.str []] }),
  (24, { d := .slice 5, size := 1, bytes := 24, agg := false, ty := some (.slice .byte), zero := [.nils] }),
  (34, { d := .ptr 83, size := 1, bytes := 8, agg := false, ty := none, zero := [.nilp] }),
  (83, { d := .struct [⟨0, 1, false⟩, ⟨1, 1, false⟩, ⟨2, 1, false⟩], size := 3, bytes := 40, agg := true, ty := some (.pair (.slice .byte) (.pair (.int .i64) (.pair (.int .i64) .unit))), zero := [.nils, .int .i64 0, .int .i64 0] })]
def want : List (Nat × List Nat) := []
def eqs : List (Nat × List EK) := []
theorem tabOk : tabB Go.Proofs.Try.prog tab = true := by kernel_rfl
def X : Cfg := ⟨0, 0⟩
theorem mixed : Go.Proofs.Try.prog.follows .mixedOrders = true := by kernel_rfl
theorem eqsOk : ∀ t ks, Go.Ev.look eqs t = some ks → eqTB Go.Proofs.Try.prog t ks = true := allEq_get (by kernel_rfl)
/-! 19 frankpledge/disk.New -/
def disk_New_ac : SCode := ⟨[], []⟩
def disk_New_con : Con := conFn [] [] disk_New_ac (.leaf (.lit (.ptr 0 0))) [[.lit (.nils), .int .i64, .int .i64]] fun x => disk_New big 
theorem disk_New_bnd {calm : List Nat} {f : Nat} (hf : calm.any (Nat.beq f) = false) : BndC calm f disk_New_con := bndFn hf
def disk_New_cx : Cx := { tab := tab, con := [], funs := [], loops := [], want := want, ret := [], calm := [], bnd := [], eqs := eqs }
theorem disk_New_cs : CsOk Go.Proofs.Try.prog X disk_New_cx :=
  csOk ⟨fun _ _ h => tab_ok tabOk h, eqsOk⟩ mixed trivial trivial trivial rfl

def disk_New_keep : List (Nat × LH) := []
theorem disk_New_raw : ConOk Go.Proofs.Try.prog X 19 (fun _ args sto K => evBody disk_New_cx (hcN disk_New_cx 1) disk_New_keep [] [] Go.Proofs.Try.f19 (bodyC Go.Proofs.Try.f19) args sto K) :=
  raw_ok disk_New_cs 1 Go.Proofs.Try.func19 (by kernel_rfl) rfl fun R => loops_all 0 (by kernel_rfl) (fun i hi => absurd hi (Nat.not_lt_zero i))

theorem disk_New_T (R : Type) (K : D → Sto → Option R) (x : disk_New_ac.den) : evBody disk_New_cx (hcN disk_New_cx 1) disk_New_keep [] [] Go.Proofs.Try.f19 (bodyC Go.Proofs.Try.f19) (mkSt disk_New_ac x).env (mkSt disk_New_ac x).sto K = disk_New_cps big R (fun a0 a1 => K ((mkSt ⟨[.leaf (.lit (.ptr 0 0))], [[.lit (.nils), .int .i64, .int .i64]]⟩ (a0, (a1, ()))).env.headD .any) (mkSt ⟨[.leaf (.lit (.ptr 0 0))], [[.lit (.nils), .int .i64, .int .i64]]⟩ (a0, (a1, ()))).sto)  := by kernel_rfl
theorem disk_New_ok : ConOk Go.Proofs.Try.prog X 19 disk_New_con :=
  conFn_ok (src := []) (sh := []) (rs := .leaf (.lit (.ptr 0 0))) (rows := [[.lit (.nils), .int .i64, .int .i64]]) disk_New_raw (fun R K (x : disk_New_ac.den) => disk_New_cps big R (fun a0 a1 => K (a0, (a1, ()))) ) disk_New_T

/-! 26 (*frankpledge/disk.Disk).End -/
def disk_Disk_End_ac : SCode := ⟨[.leaf (.lit (.ptr 0 0))], [[.lit (.nils), .int .i64, .int .i64]]⟩
def disk_Disk_End_con : Con := conCalm [.arg 0] [] disk_Disk_End_ac (.leaf (.int .i64)) fun x => disk_Disk_End big x.1 x.2.1
theorem disk_Disk_End_bnd {calm : List Nat} {f : Nat} : BndC calm f disk_Disk_End_con := bndCalm
def disk_Disk_End_cx : Cx := { tab := tab, con := [], funs := [], loops := [], want := want, ret := [], calm := [], bnd := [], eqs := eqs }
theorem disk_Disk_End_cs : CsOk Go.Proofs.Try.prog X disk_Disk_End_cx :=
  csOk ⟨fun _ _ h => tab_ok tabOk h, eqsOk⟩ mixed trivial trivial trivial rfl

def disk_Disk_End_keep : List (Nat × LH) := []
theorem disk_Disk_End_raw : ConOk Go.Proofs.Try.prog X 26 (fun _ args sto K => evBody disk_Disk_End_cx (hcN disk_Disk_End_cx 1) disk_Disk_End_keep [] [] Go.Proofs.Try.f26 (bodyC Go.Proofs.Try.f26) args sto K) :=
  raw_ok disk_Disk_End_cs 1 Go.Proofs.Try.func26 (by kernel_rfl) rfl fun R => loops_all 0 (by kernel_rfl) (fun i hi => absurd hi (Nat.not_lt_zero i))

theorem disk_Disk_End_T (R : Type) (K : D → Sto → Option R) (x : disk_Disk_End_ac.den) : evBody disk_Disk_End_cx (hcN disk_Disk_End_cx 1) disk_Disk_End_keep [] [] Go.Proofs.Try.f26 (bodyC Go.Proofs.Try.f26) (mkSt disk_Disk_End_ac x).env (mkSt disk_Disk_End_ac x).sto K = disk_Disk_End_cps big R (fun a0 => K ((mkE [.leaf (.int .i64)] (T := Unit) (a0, ())).1.headD .any) (mkSt disk_Disk_End_ac x).sto) x.1 x.2.1 := by kernel_rfl
theorem disk_Disk_End_ok : ConOk Go.Proofs.Try.prog X 26 disk_Disk_End_con :=
  conCalm_ok (src := [.arg 0]) (sh := []) (rs := .leaf (.int .i64)) disk_Disk_End_raw (fun R K (x : disk_Disk_End_ac.den) => disk_Disk_End_cps big R (fun a0 => K (a0, ())) x.1 x.2.1) disk_Disk_End_T

/-! 21 (*frankpledge/disk.Disk).Append -/
def disk_Disk_Append_ac : SCode := ⟨[.leaf (.lit (.ptr 0 0)), .leaf (.sl .ro .byte)], [[.lit (.nils), .int .i64, .int .i64]]⟩
def disk_Disk_Append_con : Con := conFn [.arg 0] [] disk_Disk_Append_ac (.tup [.l (.int .i64), .l (.int .i64)]) [[.sl .own .byte, .int .i64, .int .i64]] fun x => disk_Disk_Append big x.1 x.2.1 x.2.2.1
theorem disk_Disk_Append_bnd {calm : List Nat} {f : Nat} (hf : calm.any (Nat.beq f) = false) : BndC calm f disk_Disk_Append_con := bndFn hf
def disk_Disk_Append_cx : Cx := { tab := tab, con := [(26, disk_Disk_End_con)], funs := [], loops := [], want := want, ret := [], calm := [26], bnd := [26], eqs := eqs }
theorem disk_Disk_Append_cs : CsOk Go.Proofs.Try.prog X disk_Disk_Append_cx :=
  csOk ⟨fun _ _ h => tab_ok tabOk h, eqsOk⟩ mixed ⟨disk_Disk_End_ok, trivial⟩ trivial ⟨disk_Disk_End_bnd, trivial⟩ rfl

def disk_Disk_Append_keep : List (Nat × LH) := []
theorem disk_Disk_Append_raw : ConOk Go.Proofs.Try.prog X 21 (fun _ args sto K => evBody disk_Disk_Append_cx (hcN disk_Disk_Append_cx 1) disk_Disk_Append_keep [] [(0, [(0, .own .byte)])] Go.Proofs.Try.f21 (bodyC Go.Proofs.Try.f21) args sto K) :=
  raw_ok disk_Disk_Append_cs 1 Go.Proofs.Try.func21 (by kernel_rfl) rfl fun R => loops_all 0 (by kernel_rfl) (fun i hi => absurd hi (Nat.not_lt_zero i))

theorem disk_Disk_Append_T (R : Type) (K : D → Sto → Option R) (x : disk_Disk_Append_ac.den) : evBody disk_Disk_Append_cx (hcN disk_Disk_Append_cx 1) disk_Disk_Append_keep [] [(0, [(0, .own .byte)])] Go.Proofs.Try.f21 (bodyC Go.Proofs.Try.f21) (mkSt disk_Disk_Append_ac x).env (mkSt disk_Disk_Append_ac x).sto K = disk_Disk_Append_cps big R (fun a0 a1 a2 a3 a4 => K ((mkSt ⟨[.tup [.l (.int .i64), .l (.int .i64)]], [[.sl .own .byte, .int .i64, .int .i64]]⟩ (a0, (a1, (a2, (a3, (a4, ())))))).env.headD .any) (mkSt ⟨[.tup [.l (.int .i64), .l (.int .i64)]], [[.sl .own .byte, .int .i64, .int .i64]]⟩ (a0, (a1, (a2, (a3, (a4, ())))))).sto) x.1 x.2.1 x.2.2.1 := by kernel_rfl
theorem disk_Disk_Append_ok : ConOk Go.Proofs.Try.prog X 21 disk_Disk_Append_con :=
  conFn_ok (src := [.arg 0]) (sh := []) (rs := .tup [.l (.int .i64), .l (.int .i64)]) (rows := [[.sl .own .byte, .int .i64, .int .i64]]) disk_Disk_Append_raw (fun R K (x : disk_Disk_Append_ac.den) => disk_Disk_Append_cps big R (fun a0 a1 a2 a3 a4 => K (a0, (a1, (a2, (a3, (a4, ())))))) x.1 x.2.1 x.2.2.1) disk_Disk_Append_T

/-! 26 (*frankpledge/disk.Disk).End -/
def disk_Disk_End_1_ac : SCode := ⟨[.leaf (.lit (.ptr 0 0))], [[.sl .own .byte, .int .i64, .int .i64]]⟩
def disk_Disk_End_1_con : Con := conCalm [.arg 0] [] disk_Disk_End_1_ac (.leaf (.int .i64)) fun x => disk_Disk_End_1 big x.1 x.2.1 x.2.2.1
theorem disk_Disk_End_1_bnd {calm : List Nat} {f : Nat} : BndC calm f disk_Disk_End_1_con := bndCalm
def disk_Disk_End_1_cx : Cx := { tab := tab, con := [], funs := [], loops := [], want := want, ret := [], calm := [], bnd := [], eqs := eqs }
theorem disk_Disk_End_1_cs : CsOk Go.Proofs.Try.prog X disk_Disk_End_1_cx :=
  csOk ⟨fun _ _ h => tab_ok tabOk h, eqsOk⟩ mixed trivial trivial trivial rfl

def disk_Disk_End_1_keep : List (Nat × LH) := []
theorem disk_Disk_End_1_raw : ConOk Go.Proofs.Try.prog X 26 (fun _ args sto K => evBody disk_Disk_End_1_cx (hcN disk_Disk_End_1_cx 1) disk_Disk_End_1_keep [] [] Go.Proofs.Try.f26 (bodyC Go.Proofs.Try.f26) args sto K) :=
  raw_ok disk_Disk_End_1_cs 1 Go.Proofs.Try.func26 (by kernel_rfl) rfl fun R => loops_all 0 (by kernel_rfl) (fun i hi => absurd hi (Nat.not_lt_zero i))

theorem disk_Disk_End_1_T (R : Type) (K : D → Sto → Option R) (x : disk_Disk_End_1_ac.den) : evBody disk_Disk_End_1_cx (hcN disk_Disk_End_1_cx 1) disk_Disk_End_1_keep [] [] Go.Proofs.Try.f26 (bodyC Go.Proofs.Try.f26) (mkSt disk_Disk_End_1_ac x).env (mkSt disk_Disk_End_1_ac x).sto K = disk_Disk_End_1_cps big R (fun a0 => K ((mkE [.leaf (.int .i64)] (T := Unit) (a0, ())).1.headD .any) (mkSt disk_Disk_End_1_ac x).sto) x.1 x.2.1 x.2.2.1 := by kernel_rfl
theorem disk_Disk_End_1_ok : ConOk Go.Proofs.Try.prog X 26 disk_Disk_End_1_con :=
  conCalm_ok (src := [.arg 0]) (sh := []) (rs := .leaf (.int .i64)) disk_Disk_End_1_raw (fun R K (x : disk_Disk_End_1_ac.den) => disk_Disk_End_1_cps big R (fun a0 => K (a0, ())) x.1 x.2.1 x.2.2.1) disk_Disk_End_1_T

/-! 21 (*frankpledge/disk.Disk).Append -/
def disk_Disk_Append_1_ac : SCode := ⟨[.leaf (.lit (.ptr 0 0)), .leaf (.sl .ro .byte)], [[.sl .own .byte, .int .i64, .int .i64]]⟩
def disk_Disk_Append_1_con : Con := conFn [.arg 0] [] disk_Disk_Append_1_ac (.tup [.l (.int .i64), .l (.int .i64)]) [[.sl .own .byte, .int .i64, .int .i64]] fun x => disk_Disk_Append_1 big x.1 x.2.1 x.2.2.1 x.2.2.2.1
theorem disk_Disk_Append_1_bnd {calm : List Nat} {f : Nat} (hf : calm.any (Nat.beq f) = false) : BndC calm f disk_Disk_Append_1_con := bndFn hf
def disk_Disk_Append_1_cx : Cx := { tab := tab, con := [(26, disk_Disk_End_1_con)], funs := [], loops := [], want := want, ret := [], calm := [26], bnd := [26], eqs := eqs }
theorem disk_Disk_Append_1_cs : CsOk Go.Proofs.Try.prog X disk_Disk_Append_1_cx :=
  csOk ⟨fun _ _ h => tab_ok tabOk h, eqsOk⟩ mixed ⟨disk_Disk_End_1_ok, trivial⟩ trivial ⟨disk_Disk_End_1_bnd, trivial⟩ rfl

def disk_Disk_Append_1_keep : List (Nat × LH) := []
theorem disk_Disk_Append_1_raw : ConOk Go.Proofs.Try.prog X 21 (fun _ args sto K => evBody disk_Disk_Append_1_cx (hcN disk_Disk_Append_1_cx 1) disk_Disk_Append_1_keep [] [] Go.Proofs.Try.f21 (bodyC Go.Proofs.Try.f21) args sto K) :=
  raw_ok disk_Disk_Append_1_cs 1 Go.Proofs.Try.func21 (by kernel_rfl) rfl fun R => loops_all 0 (by kernel_rfl) (fun i hi => absurd hi (Nat.not_lt_zero i))

theorem disk_Disk_Append_1_T (R : Type) (K : D → Sto → Option R) (x : disk_Disk_Append_1_ac.den) : evBody disk_Disk_Append_1_cx (hcN disk_Disk_Append_1_cx 1) disk_Disk_Append_1_keep [] [] Go.Proofs.Try.f21 (bodyC Go.Proofs.Try.f21) (mkSt disk_Disk_Append_1_ac x).env (mkSt disk_Disk_Append_1_ac x).sto K = disk_Disk_Append_1_cps big R (fun a0 a1 a2 a3 a4 => K ((mkSt ⟨[.tup [.l (.int .i64), .l (.int .i64)]], [[.sl .own .byte, .int .i64, .int .i64]]⟩ (a0, (a1, (a2, (a3, (a4, ())))))).env.headD .any) (mkSt ⟨[.tup [.l (.int .i64), .l (.int .i64)]], [[.sl .own .byte, .int .i64, .int .i64]]⟩ (a0, (a1, (a2, (a3, (a4, ())))))).sto) x.1 x.2.1 x.2.2.1 x.2.2.2.1 := by kernel_rfl
theorem disk_Disk_Append_1_ok : ConOk Go.Proofs.Try.prog X 21 disk_Disk_Append_1_con :=
  conFn_ok (src := [.arg 0]) (sh := []) (rs := .tup [.l (.int .i64), .l (.int .i64)]) (rows := [[.sl .own .byte, .int .i64, .int .i64]]) disk_Disk_Append_1_raw (fun R K (x : disk_Disk_Append_1_ac.den) => disk_Disk_Append_1_cps big R (fun a0 a1 a2 a3 a4 => K (a0, (a1, (a2, (a3, (a4, ())))))) x.1 x.2.1 x.2.2.1 x.2.2.2.1) disk_Disk_Append_1_T

/-! 55 bytes.Clone -/
def bytes_Clone_ac : SCode := ⟨[.leaf (.sl .nn .byte)], []⟩
def bytes_Clone_con : Con := conCalm [] [] bytes_Clone_ac (.leaf (.sl .own .byte)) fun x => bytes_Clone big x.1
theorem bytes_Clone_bnd {calm : List Nat} {f : Nat} : BndC calm f bytes_Clone_con := bndCalm
def bytes_Clone_cx : Cx := { tab := tab, con := [], funs := [], loops := [], want := want, ret := [], calm := [], bnd := [], eqs := eqs }
theorem bytes_Clone_cs : CsOk Go.Proofs.Try.prog X bytes_Clone_cx :=
  csOk ⟨fun _ _ h => tab_ok tabOk h, eqsOk⟩ mixed trivial trivial trivial rfl

def bytes_Clone_keep : List (Nat × LH) := []
theorem bytes_Clone_raw : ConOk Go.Proofs.Try.prog X 55 (fun _ args sto K => evBody bytes_Clone_cx (hcN bytes_Clone_cx 1) bytes_Clone_keep [] [] Go.Proofs.Try.f55 (bodyC Go.Proofs.Try.f55) args sto K) :=
  raw_ok bytes_Clone_cs 1 Go.Proofs.Try.func55 (by kernel_rfl) rfl fun R => loops_all 0 (by kernel_rfl) (fun i hi => absurd hi (Nat.not_lt_zero i))

theorem bytes_Clone_T (R : Type) (K : D → Sto → Option R) (x : bytes_Clone_ac.den) : evBody bytes_Clone_cx (hcN bytes_Clone_cx 1) bytes_Clone_keep [] [] Go.Proofs.Try.f55 (bodyC Go.Proofs.Try.f55) (mkSt bytes_Clone_ac x).env (mkSt bytes_Clone_ac x).sto K = bytes_Clone_cps big R (fun a0 => K ((mkE [.leaf (.sl .own .byte)] (T := Unit) (a0, ())).1.headD .any) (mkSt bytes_Clone_ac x).sto) x.1 := by kernel_rfl
theorem bytes_Clone_ok : ConOk Go.Proofs.Try.prog X 55 bytes_Clone_con :=
  conCalm_ok (src := []) (sh := []) (rs := .leaf (.sl .own .byte)) bytes_Clone_raw (fun R K (x : bytes_Clone_ac.den) => bytes_Clone_cps big R (fun a0 => K (a0, ())) x.1) bytes_Clone_T

/-! 55 bytes.Clone -/
def bytes_Clone_1_ac : SCode := ⟨[.leaf (.lit (.nils))], []⟩
def bytes_Clone_1_con : Con := conCalm [] [] bytes_Clone_1_ac (.leaf (.lit (.nils))) fun x => bytes_Clone_1 big 
theorem bytes_Clone_1_bnd {calm : List Nat} {f : Nat} : BndC calm f bytes_Clone_1_con := bndCalm
def bytes_Clone_1_cx : Cx := { tab := tab, con := [], funs := [], loops := [], want := want, ret := [], calm := [], bnd := [], eqs := eqs }
theorem bytes_Clone_1_cs : CsOk Go.Proofs.Try.prog X bytes_Clone_1_cx :=
  csOk ⟨fun _ _ h => tab_ok tabOk h, eqsOk⟩ mixed trivial trivial trivial rfl

def bytes_Clone_1_keep : List (Nat × LH) := []
theorem bytes_Clone_1_raw : ConOk Go.Proofs.Try.prog X 55 (fun _ args sto K => evBody bytes_Clone_1_cx (hcN bytes_Clone_1_cx 1) bytes_Clone_1_keep [] [] Go.Proofs.Try.f55 (bodyC Go.Proofs.Try.f55) args sto K) :=
  raw_ok bytes_Clone_1_cs 1 Go.Proofs.Try.func55 (by kernel_rfl) rfl fun R => loops_all 0 (by kernel_rfl) (fun i hi => absurd hi (Nat.not_lt_zero i))

theorem bytes_Clone_1_T (R : Type) (K : D → Sto → Option R) (x : bytes_Clone_1_ac.den) : evBody bytes_Clone_1_cx (hcN bytes_Clone_1_cx 1) bytes_Clone_1_keep [] [] Go.Proofs.Try.f55 (bodyC Go.Proofs.Try.f55) (mkSt bytes_Clone_1_ac x).env (mkSt bytes_Clone_1_ac x).sto K = bytes_Clone_1_cps big R (K ((mkE [.leaf (.lit (.nils))] (T := Unit) ()).1.headD .any) (mkSt bytes_Clone_1_ac x).sto)  := by kernel_rfl
theorem bytes_Clone_1_ok : ConOk Go.Proofs.Try.prog X 55 bytes_Clone_1_con :=
  conCalm_ok (src := []) (sh := []) (rs := .leaf (.lit (.nils))) bytes_Clone_1_raw (fun R K (x : bytes_Clone_1_ac.den) => bytes_Clone_1_cps big R (K ()) ) bytes_Clone_1_T

def bytes_Clone_nl_ac : SCode := ⟨[.leaf (.sl .ro .byte)], []⟩
def bytes_Clone_nl_con : Con := conNil .byte bytes_Clone_con bytes_Clone_1_con
theorem bytes_Clone_nl_bnd {calm : List Nat} {f : Nat} : BndC calm f bytes_Clone_nl_con := bndNil bytes_Clone_bnd bytes_Clone_1_bnd
theorem bytes_Clone_nl_ok : ConOk Go.Proofs.Try.prog X 55 bytes_Clone_nl_con :=
  conNil_ok bytes_Clone_ok bytes_Clone_1_ok (fun R sto K r h => h)
/-! 25 (*frankpledge/disk.Disk).Read -/
def disk_Disk_Read_ac : SCode := ⟨[.leaf (.lit (.ptr 0 0)), .leaf (.int .i64), .leaf (.int .i64)], [[.sl .own .byte, .int .i64, .int .i64]]⟩
def disk_Disk_Read_con : Con := conCalm [.arg 0] [] disk_Disk_Read_ac (.tup [.l (.sl .own .byte), .l (.int .i64)]) fun x => disk_Disk_Read big x.1 x.2.1 x.2.2.1 x.2.2.2.1 x.2.2.2.2.1
theorem disk_Disk_Read_bnd {calm : List Nat} {f : Nat} : BndC calm f disk_Disk_Read_con := bndCalm
def disk_Disk_Read_cx : Cx := { tab := tab, con := [(26, disk_Disk_End_1_con), (55, bytes_Clone_nl_con)], funs := [], loops := [], want := want, ret := [], calm := [26, 55], bnd := [26, 55], eqs := eqs }
theorem disk_Disk_Read_cs : CsOk Go.Proofs.Try.prog X disk_Disk_Read_cx :=
  csOk ⟨fun _ _ h => tab_ok tabOk h, eqsOk⟩ mixed ⟨disk_Disk_End_1_ok, bytes_Clone_nl_ok, trivial⟩ trivial ⟨disk_Disk_End_1_bnd, bytes_Clone_nl_bnd, trivial⟩ rfl

def disk_Disk_Read_keep : List (Nat × LH) := []
theorem disk_Disk_Read_raw : ConOk Go.Proofs.Try.prog X 25 (fun _ args sto K => evBody disk_Disk_Read_cx (hcN disk_Disk_Read_cx 1) disk_Disk_Read_keep [.own .byte, .id] [] Go.Proofs.Try.f25 (bodyC Go.Proofs.Try.f25) args sto K) :=
  raw_ok disk_Disk_Read_cs 1 Go.Proofs.Try.func25 (by kernel_rfl) rfl fun R => loops_all 0 (by kernel_rfl) (fun i hi => absurd hi (Nat.not_lt_zero i))

theorem disk_Disk_Read_T (R : Type) (K : D → Sto → Option R) (x : disk_Disk_Read_ac.den) : evBody disk_Disk_Read_cx (hcN disk_Disk_Read_cx 1) disk_Disk_Read_keep [.own .byte, .id] [] Go.Proofs.Try.f25 (bodyC Go.Proofs.Try.f25) (mkSt disk_Disk_Read_ac x).env (mkSt disk_Disk_Read_ac x).sto K = disk_Disk_Read_cps big R (fun a0 a1 => K ((mkE [.tup [.l (.sl .own .byte), .l (.int .i64)]] (T := Unit) (a0, (a1, ()))).1.headD .any) (mkSt disk_Disk_Read_ac x).sto) x.1 x.2.1 x.2.2.1 x.2.2.2.1 x.2.2.2.2.1 := by kernel_rfl
theorem disk_Disk_Read_ok : ConOk Go.Proofs.Try.prog X 25 disk_Disk_Read_con :=
  conCalm_ok (src := [.arg 0]) (sh := []) (rs := .tup [.l (.sl .own .byte), .l (.int .i64)]) disk_Disk_Read_raw (fun R K (x : disk_Disk_Read_ac.den) => disk_Disk_Read_cps big R (fun a0 a1 => K (a0, (a1, ()))) x.1 x.2.1 x.2.2.1 x.2.2.2.1 x.2.2.2.2.1) disk_Disk_Read_T

/-! 27 (*frankpledge/disk.Disk).Safe -/
def disk_Disk_Safe_ac : SCode := ⟨[.leaf (.lit (.ptr 0 0))], [[.sl .own .byte, .int .i64, .int .i64]]⟩
def disk_Disk_Safe_con : Con := conCalm [.arg 0] [] disk_Disk_Safe_ac (.leaf (.int .i64)) fun x => disk_Disk_Safe big x.1 x.2.1 x.2.2.1
theorem disk_Disk_Safe_bnd {calm : List Nat} {f : Nat} : BndC calm f disk_Disk_Safe_con := bndCalm
def disk_Disk_Safe_cx : Cx := { tab := tab, con := [], funs := [], loops := [], want := want, ret := [], calm := [], bnd := [], eqs := eqs }
theorem disk_Disk_Safe_cs : CsOk Go.Proofs.Try.prog X disk_Disk_Safe_cx :=
  csOk ⟨fun _ _ h => tab_ok tabOk h, eqsOk⟩ mixed trivial trivial trivial rfl

def disk_Disk_Safe_keep : List (Nat × LH) := []
theorem disk_Disk_Safe_raw : ConOk Go.Proofs.Try.prog X 27 (fun _ args sto K => evBody disk_Disk_Safe_cx (hcN disk_Disk_Safe_cx 1) disk_Disk_Safe_keep [] [] Go.Proofs.Try.f27 (bodyC Go.Proofs.Try.f27) args sto K) :=
  raw_ok disk_Disk_Safe_cs 1 Go.Proofs.Try.func27 (by kernel_rfl) rfl fun R => loops_all 0 (by kernel_rfl) (fun i hi => absurd hi (Nat.not_lt_zero i))

theorem disk_Disk_Safe_T (R : Type) (K : D → Sto → Option R) (x : disk_Disk_Safe_ac.den) : evBody disk_Disk_Safe_cx (hcN disk_Disk_Safe_cx 1) disk_Disk_Safe_keep [] [] Go.Proofs.Try.f27 (bodyC Go.Proofs.Try.f27) (mkSt disk_Disk_Safe_ac x).env (mkSt disk_Disk_Safe_ac x).sto K = disk_Disk_Safe_cps big R (fun a0 => K ((mkE [.leaf (.int .i64)] (T := Unit) (a0, ())).1.headD .any) (mkSt disk_Disk_Safe_ac x).sto) x.1 x.2.1 x.2.2.1 := by kernel_rfl
theorem disk_Disk_Safe_ok : ConOk Go.Proofs.Try.prog X 27 disk_Disk_Safe_con :=
  conCalm_ok (src := [.arg 0]) (sh := []) (rs := .leaf (.int .i64)) disk_Disk_Safe_raw (fun R K (x : disk_Disk_Safe_ac.den) => disk_Disk_Safe_cps big R (fun a0 => K (a0, ())) x.1 x.2.1 x.2.2.1) disk_Disk_Safe_T

/-! 20 frankpledge/frankpledgelaw06.alive -/
def law06_alive_ac : SCode := ⟨[], []⟩
def law06_alive_con : Con := conCalm [] [] law06_alive_ac (.leaf (.bool)) fun x => law06_alive big 
theorem law06_alive_bnd {calm : List Nat} {f : Nat} : BndC calm f law06_alive_con := bndCalm
def law06_alive_cx : Cx := { tab := tab, con := [(19, disk_New_con), (21, (conOr (fun a s => (prep [.arg 0] [] disk_Disk_Append_ac a s).isSome) disk_Disk_Append_con disk_Disk_Append_1_con)), (25, disk_Disk_Read_con), (26, disk_Disk_End_1_con), (27, disk_Disk_Safe_con)], funs := [], loops := [], want := want, ret := [], calm := [25, 26, 27], bnd := [19, 21, 25, 26, 27], eqs := eqs }
theorem law06_alive_cs : CsOk Go.Proofs.Try.prog X law06_alive_cx :=
  csOk ⟨fun _ _ h => tab_ok tabOk h, eqsOk⟩ mixed ⟨disk_New_ok, (conOr_ok disk_Disk_Append_ok disk_Disk_Append_1_ok), disk_Disk_Read_ok, disk_Disk_End_1_ok, disk_Disk_Safe_ok, trivial⟩ trivial ⟨disk_New_bnd rfl, (bndOr (disk_Disk_Append_bnd rfl) (disk_Disk_Append_1_bnd rfl)), disk_Disk_Read_bnd, disk_Disk_End_1_bnd, disk_Disk_Safe_bnd, trivial⟩ rfl

def law06_alive_keep : List (Nat × LH) := []
theorem law06_alive_raw : ConOk Go.Proofs.Try.prog X 20 (fun _ args sto K => evBody law06_alive_cx (hcN law06_alive_cx 1) law06_alive_keep [] [] Go.Proofs.Try.f20 (bodyC Go.Proofs.Try.f20) args sto K) :=
  raw_ok law06_alive_cs 1 Go.Proofs.Try.func20 (by kernel_rfl) rfl fun R => loops_all 0 (by kernel_rfl) (fun i hi => absurd hi (Nat.not_lt_zero i))

theorem law06_alive_T (R : Type) (K : D → Sto → Option R) (x : law06_alive_ac.den) : evBody law06_alive_cx (hcN law06_alive_cx 1) law06_alive_keep [] [] Go.Proofs.Try.f20 (bodyC Go.Proofs.Try.f20) (mkSt law06_alive_ac x).env (mkSt law06_alive_ac x).sto K = law06_alive_cps big R (fun a0 => K ((mkE [.leaf (.bool)] (T := Unit) (a0, ())).1.headD .any) (mkSt law06_alive_ac x).sto)  := by kernel_rfl
theorem law06_alive_ok : ConOk Go.Proofs.Try.prog X 20 law06_alive_con :=
  conCalm_ok (src := []) (sh := []) (rs := .leaf (.bool)) law06_alive_raw (fun R K (x : law06_alive_ac.den) => law06_alive_cps big R (fun a0 => K (a0, ())) ) law06_alive_T

/-! 24 frankpledge/frankpledgeref06.Pick -/
def ref06_Pick_ac : SCode := ⟨[.leaf (.int .i64), .leaf (.int .i64)], []⟩
def ref06_Pick_con : Con := conCalm [] [] ref06_Pick_ac (.leaf (.int .i64)) fun x => ref06_Pick big x.1 x.2.1
theorem ref06_Pick_bnd {calm : List Nat} {f : Nat} : BndC calm f ref06_Pick_con := bndCalm
def ref06_Pick_cx : Cx := { tab := tab, con := [], funs := [], loops := [], want := want, ret := [], calm := [], bnd := [], eqs := eqs }
theorem ref06_Pick_cs : CsOk Go.Proofs.Try.prog X ref06_Pick_cx :=
  csOk ⟨fun _ _ h => tab_ok tabOk h, eqsOk⟩ mixed trivial trivial trivial rfl

def ref06_Pick_keep : List (Nat × LH) := []
theorem ref06_Pick_raw : ConOk Go.Proofs.Try.prog X 24 (fun _ args sto K => evBody ref06_Pick_cx (hcN ref06_Pick_cx 1) ref06_Pick_keep [] [] Go.Proofs.Try.f24 (bodyC Go.Proofs.Try.f24) args sto K) :=
  raw_ok ref06_Pick_cs 1 Go.Proofs.Try.func24 (by kernel_rfl) rfl fun R => loops_all 0 (by kernel_rfl) (fun i hi => absurd hi (Nat.not_lt_zero i))

theorem ref06_Pick_T (R : Type) (K : D → Sto → Option R) (x : ref06_Pick_ac.den) : evBody ref06_Pick_cx (hcN ref06_Pick_cx 1) ref06_Pick_keep [] [] Go.Proofs.Try.f24 (bodyC Go.Proofs.Try.f24) (mkSt ref06_Pick_ac x).env (mkSt ref06_Pick_ac x).sto K = ref06_Pick_cps big R (fun a0 => K ((mkE [.leaf (.int .i64)] (T := Unit) (a0, ())).1.headD .any) (mkSt ref06_Pick_ac x).sto) x.1 x.2.1 := by kernel_rfl
theorem ref06_Pick_ok : ConOk Go.Proofs.Try.prog X 24 ref06_Pick_con :=
  conCalm_ok (src := []) (sh := []) (rs := .leaf (.int .i64)) ref06_Pick_raw (fun R K (x : ref06_Pick_ac.den) => ref06_Pick_cps big R (fun a0 => K (a0, ())) x.1 x.2.1) ref06_Pick_T

/-! 30 (*frankpledge/disk.Disk).Cut -/
def disk_Disk_Cut_ac : SCode := ⟨[.leaf (.lit (.ptr 0 0)), .leaf (.int .i64)], [[.sl .own .byte, .int .i64, .int .i64]]⟩
def disk_Disk_Cut_con : Con := conFn [.arg 0] [] disk_Disk_Cut_ac (.leaf (.int .i64)) [[.sl .oc .byte, .int .i64, .int .i64]] fun x => disk_Disk_Cut big x.1 x.2.1 x.2.2.1 x.2.2.2.1
theorem disk_Disk_Cut_bnd {calm : List Nat} {f : Nat} (hf : calm.any (Nat.beq f) = false) : BndC calm f disk_Disk_Cut_con := bndFn hf
def disk_Disk_Cut_cx : Cx := { tab := tab, con := [(26, disk_Disk_End_1_con)], funs := [], loops := [], want := want, ret := [], calm := [26], bnd := [26], eqs := eqs }
theorem disk_Disk_Cut_cs : CsOk Go.Proofs.Try.prog X disk_Disk_Cut_cx :=
  csOk ⟨fun _ _ h => tab_ok tabOk h, eqsOk⟩ mixed ⟨disk_Disk_End_1_ok, trivial⟩ trivial ⟨disk_Disk_End_1_bnd, trivial⟩ rfl

def disk_Disk_Cut_keep : List (Nat × LH) := []
theorem disk_Disk_Cut_raw : ConOk Go.Proofs.Try.prog X 30 (fun _ args sto K => evBody disk_Disk_Cut_cx (hcN disk_Disk_Cut_cx 1) disk_Disk_Cut_keep [] [(0, [(0, .oc .byte)])] Go.Proofs.Try.f30 (bodyC Go.Proofs.Try.f30) args sto K) :=
  raw_ok disk_Disk_Cut_cs 1 Go.Proofs.Try.func30 (by kernel_rfl) rfl fun R => loops_all 0 (by kernel_rfl) (fun i hi => absurd hi (Nat.not_lt_zero i))

theorem disk_Disk_Cut_T (R : Type) (K : D → Sto → Option R) (x : disk_Disk_Cut_ac.den) : evBody disk_Disk_Cut_cx (hcN disk_Disk_Cut_cx 1) disk_Disk_Cut_keep [] [(0, [(0, .oc .byte)])] Go.Proofs.Try.f30 (bodyC Go.Proofs.Try.f30) (mkSt disk_Disk_Cut_ac x).env (mkSt disk_Disk_Cut_ac x).sto K = disk_Disk_Cut_cps big R (fun a0 a1 a2 a3 => K ((mkSt ⟨[.leaf (.int .i64)], [[.sl .oc .byte, .int .i64, .int .i64]]⟩ (a0, (a1, (a2, (a3, ()))))).env.headD .any) (mkSt ⟨[.leaf (.int .i64)], [[.sl .oc .byte, .int .i64, .int .i64]]⟩ (a0, (a1, (a2, (a3, ()))))).sto) x.1 x.2.1 x.2.2.1 x.2.2.2.1 := by kernel_rfl
theorem disk_Disk_Cut_ok : ConOk Go.Proofs.Try.prog X 30 disk_Disk_Cut_con :=
  conFn_ok (src := [.arg 0]) (sh := []) (rs := .leaf (.int .i64)) (rows := [[.sl .oc .byte, .int .i64, .int .i64]]) disk_Disk_Cut_raw (fun R K (x : disk_Disk_Cut_ac.den) => disk_Disk_Cut_cps big R (fun a0 a1 a2 a3 => K (a0, (a1, (a2, (a3, ()))))) x.1 x.2.1 x.2.2.1 x.2.2.2.1) disk_Disk_Cut_T

/-! 26 (*frankpledge/disk.Disk).End -/
def disk_Disk_End_2_ac : SCode := ⟨[.leaf (.lit (.ptr 0 0))], [[.sl .oc .byte, .int .i64, .int .i64]]⟩
def disk_Disk_End_2_con : Con := conCalm [.arg 0] [] disk_Disk_End_2_ac (.leaf (.int .i64)) fun x => disk_Disk_End_2 big x.1 x.2.1 x.2.2.1
theorem disk_Disk_End_2_bnd {calm : List Nat} {f : Nat} : BndC calm f disk_Disk_End_2_con := bndCalm
def disk_Disk_End_2_cx : Cx := { tab := tab, con := [], funs := [], loops := [], want := want, ret := [], calm := [], bnd := [], eqs := eqs }
theorem disk_Disk_End_2_cs : CsOk Go.Proofs.Try.prog X disk_Disk_End_2_cx :=
  csOk ⟨fun _ _ h => tab_ok tabOk h, eqsOk⟩ mixed trivial trivial trivial rfl

def disk_Disk_End_2_keep : List (Nat × LH) := []
theorem disk_Disk_End_2_raw : ConOk Go.Proofs.Try.prog X 26 (fun _ args sto K => evBody disk_Disk_End_2_cx (hcN disk_Disk_End_2_cx 1) disk_Disk_End_2_keep [] [] Go.Proofs.Try.f26 (bodyC Go.Proofs.Try.f26) args sto K) :=
  raw_ok disk_Disk_End_2_cs 1 Go.Proofs.Try.func26 (by kernel_rfl) rfl fun R => loops_all 0 (by kernel_rfl) (fun i hi => absurd hi (Nat.not_lt_zero i))

theorem disk_Disk_End_2_T (R : Type) (K : D → Sto → Option R) (x : disk_Disk_End_2_ac.den) : evBody disk_Disk_End_2_cx (hcN disk_Disk_End_2_cx 1) disk_Disk_End_2_keep [] [] Go.Proofs.Try.f26 (bodyC Go.Proofs.Try.f26) (mkSt disk_Disk_End_2_ac x).env (mkSt disk_Disk_End_2_ac x).sto K = disk_Disk_End_2_cps big R (fun a0 => K ((mkE [.leaf (.int .i64)] (T := Unit) (a0, ())).1.headD .any) (mkSt disk_Disk_End_2_ac x).sto) x.1 x.2.1 x.2.2.1 := by kernel_rfl
theorem disk_Disk_End_2_ok : ConOk Go.Proofs.Try.prog X 26 disk_Disk_End_2_con :=
  conCalm_ok (src := [.arg 0]) (sh := []) (rs := .leaf (.int .i64)) disk_Disk_End_2_raw (fun R K (x : disk_Disk_End_2_ac.den) => disk_Disk_End_2_cps big R (fun a0 => K (a0, ())) x.1 x.2.1 x.2.2.1) disk_Disk_End_2_T

/-! 21 (*frankpledge/disk.Disk).Append -/
def disk_Disk_Append_2_ac : SCode := ⟨[.leaf (.lit (.ptr 0 0)), .leaf (.sl .ro .byte)], [[.sl .oc .byte, .int .i64, .int .i64]]⟩
def disk_Disk_Append_2_con : Con := conFn [.arg 0] [] disk_Disk_Append_2_ac (.tup [.l (.int .i64), .l (.int .i64)]) [[.sl .oc .byte, .int .i64, .int .i64]] fun x => disk_Disk_Append_2 big x.1 x.2.1 x.2.2.1 x.2.2.2.1
theorem disk_Disk_Append_2_bnd {calm : List Nat} {f : Nat} (hf : calm.any (Nat.beq f) = false) : BndC calm f disk_Disk_Append_2_con := bndFn hf
def disk_Disk_Append_2_cx : Cx := { tab := tab, con := [(26, disk_Disk_End_2_con)], funs := [], loops := [], want := want, ret := [], calm := [26], bnd := [26], eqs := eqs }
theorem disk_Disk_Append_2_cs : CsOk Go.Proofs.Try.prog X disk_Disk_Append_2_cx :=
  csOk ⟨fun _ _ h => tab_ok tabOk h, eqsOk⟩ mixed ⟨disk_Disk_End_2_ok, trivial⟩ trivial ⟨disk_Disk_End_2_bnd, trivial⟩ rfl

def disk_Disk_Append_2_keep : List (Nat × LH) := []
theorem disk_Disk_Append_2_raw : ConOk Go.Proofs.Try.prog X 21 (fun _ args sto K => evBody disk_Disk_Append_2_cx (hcN disk_Disk_Append_2_cx 1) disk_Disk_Append_2_keep [] [] Go.Proofs.Try.f21 (bodyC Go.Proofs.Try.f21) args sto K) :=
  raw_ok disk_Disk_Append_2_cs 1 Go.Proofs.Try.func21 (by kernel_rfl) rfl fun R => loops_all 0 (by kernel_rfl) (fun i hi => absurd hi (Nat.not_lt_zero i))

theorem disk_Disk_Append_2_T (R : Type) (K : D → Sto → Option R) (x : disk_Disk_Append_2_ac.den) : evBody disk_Disk_Append_2_cx (hcN disk_Disk_Append_2_cx 1) disk_Disk_Append_2_keep [] [] Go.Proofs.Try.f21 (bodyC Go.Proofs.Try.f21) (mkSt disk_Disk_Append_2_ac x).env (mkSt disk_Disk_Append_2_ac x).sto K = disk_Disk_Append_2_cps big R (fun a0 a1 a2 a3 a4 => K ((mkSt ⟨[.tup [.l (.int .i64), .l (.int .i64)]], [[.sl .oc .byte, .int .i64, .int .i64]]⟩ (a0, (a1, (a2, (a3, (a4, ())))))).env.headD .any) (mkSt ⟨[.tup [.l (.int .i64), .l (.int .i64)]], [[.sl .oc .byte, .int .i64, .int .i64]]⟩ (a0, (a1, (a2, (a3, (a4, ())))))).sto) x.1 x.2.1 x.2.2.1 x.2.2.2.1 := by kernel_rfl
theorem disk_Disk_Append_2_ok : ConOk Go.Proofs.Try.prog X 21 disk_Disk_Append_2_con :=
  conFn_ok (src := [.arg 0]) (sh := []) (rs := .tup [.l (.int .i64), .l (.int .i64)]) (rows := [[.sl .oc .byte, .int .i64, .int .i64]]) disk_Disk_Append_2_raw (fun R K (x : disk_Disk_Append_2_ac.den) => disk_Disk_Append_2_cps big R (fun a0 a1 a2 a3 a4 => K (a0, (a1, (a2, (a3, (a4, ())))))) x.1 x.2.1 x.2.2.1 x.2.2.2.1) disk_Disk_Append_2_T

/-! 25 (*frankpledge/disk.Disk).Read -/
def disk_Disk_Read_1_ac : SCode := ⟨[.leaf (.lit (.ptr 0 0)), .leaf (.int .i64), .leaf (.int .i64)], [[.sl .oc .byte, .int .i64, .int .i64]]⟩
def disk_Disk_Read_1_con : Con := conCalm [.arg 0] [] disk_Disk_Read_1_ac (.tup [.l (.sl .own .byte), .l (.int .i64)]) fun x => disk_Disk_Read_1 big x.1 x.2.1 x.2.2.1 x.2.2.2.1 x.2.2.2.2.1
theorem disk_Disk_Read_1_bnd {calm : List Nat} {f : Nat} : BndC calm f disk_Disk_Read_1_con := bndCalm
def disk_Disk_Read_1_cx : Cx := { tab := tab, con := [(26, disk_Disk_End_2_con), (55, bytes_Clone_nl_con)], funs := [], loops := [], want := want, ret := [], calm := [26, 55], bnd := [26, 55], eqs := eqs }
theorem disk_Disk_Read_1_cs : CsOk Go.Proofs.Try.prog X disk_Disk_Read_1_cx :=
  csOk ⟨fun _ _ h => tab_ok tabOk h, eqsOk⟩ mixed ⟨disk_Disk_End_2_ok, bytes_Clone_nl_ok, trivial⟩ trivial ⟨disk_Disk_End_2_bnd, bytes_Clone_nl_bnd, trivial⟩ rfl

def disk_Disk_Read_1_keep : List (Nat × LH) := []
theorem disk_Disk_Read_1_raw : ConOk Go.Proofs.Try.prog X 25 (fun _ args sto K => evBody disk_Disk_Read_1_cx (hcN disk_Disk_Read_1_cx 1) disk_Disk_Read_1_keep [.own .byte, .id] [] Go.Proofs.Try.f25 (bodyC Go.Proofs.Try.f25) args sto K) :=
  raw_ok disk_Disk_Read_1_cs 1 Go.Proofs.Try.func25 (by kernel_rfl) rfl fun R => loops_all 0 (by kernel_rfl) (fun i hi => absurd hi (Nat.not_lt_zero i))

theorem disk_Disk_Read_1_T (R : Type) (K : D → Sto → Option R) (x : disk_Disk_Read_1_ac.den) : evBody disk_Disk_Read_1_cx (hcN disk_Disk_Read_1_cx 1) disk_Disk_Read_1_keep [.own .byte, .id] [] Go.Proofs.Try.f25 (bodyC Go.Proofs.Try.f25) (mkSt disk_Disk_Read_1_ac x).env (mkSt disk_Disk_Read_1_ac x).sto K = disk_Disk_Read_1_cps big R (fun a0 a1 => K ((mkE [.tup [.l (.sl .own .byte), .l (.int .i64)]] (T := Unit) (a0, (a1, ()))).1.headD .any) (mkSt disk_Disk_Read_1_ac x).sto) x.1 x.2.1 x.2.2.1 x.2.2.2.1 x.2.2.2.2.1 := by kernel_rfl
theorem disk_Disk_Read_1_ok : ConOk Go.Proofs.Try.prog X 25 disk_Disk_Read_1_con :=
  conCalm_ok (src := [.arg 0]) (sh := []) (rs := .tup [.l (.sl .own .byte), .l (.int .i64)]) disk_Disk_Read_1_raw (fun R K (x : disk_Disk_Read_1_ac.den) => disk_Disk_Read_1_cps big R (fun a0 a1 => K (a0, (a1, ()))) x.1 x.2.1 x.2.2.1 x.2.2.2.1 x.2.2.2.2.1) disk_Disk_Read_1_T

/-! 54 frankpledge/disk.round -/
def disk_round_ac : SCode := ⟨[.leaf (.int .i64), .leaf (.int .i64)], []⟩
def disk_round_con : Con := conCalm [] [] disk_round_ac (.leaf (.int .i64)) fun x => disk_round big x.1 x.2.1
theorem disk_round_bnd {calm : List Nat} {f : Nat} : BndC calm f disk_round_con := bndCalm
def disk_round_cx : Cx := { tab := tab, con := [], funs := [], loops := [], want := want, ret := [], calm := [], bnd := [], eqs := eqs }
theorem disk_round_cs : CsOk Go.Proofs.Try.prog X disk_round_cx :=
  csOk ⟨fun _ _ h => tab_ok tabOk h, eqsOk⟩ mixed trivial trivial trivial rfl

def disk_round_keep : List (Nat × LH) := []
theorem disk_round_raw : ConOk Go.Proofs.Try.prog X 54 (fun _ args sto K => evBody disk_round_cx (hcN disk_round_cx 1) disk_round_keep [] [] Go.Proofs.Try.f54 (bodyC Go.Proofs.Try.f54) args sto K) :=
  raw_ok disk_round_cs 1 Go.Proofs.Try.func54 (by kernel_rfl) rfl fun R => loops_all 0 (by kernel_rfl) (fun i hi => absurd hi (Nat.not_lt_zero i))

theorem disk_round_T (R : Type) (K : D → Sto → Option R) (x : disk_round_ac.den) : evBody disk_round_cx (hcN disk_round_cx 1) disk_round_keep [] [] Go.Proofs.Try.f54 (bodyC Go.Proofs.Try.f54) (mkSt disk_round_ac x).env (mkSt disk_round_ac x).sto K = disk_round_cps big R (fun a0 => K ((mkE [.leaf (.int .i64)] (T := Unit) (a0, ())).1.headD .any) (mkSt disk_round_ac x).sto) x.1 x.2.1 := by kernel_rfl
theorem disk_round_ok : ConOk Go.Proofs.Try.prog X 54 disk_round_con :=
  conCalm_ok (src := []) (sh := []) (rs := .leaf (.int .i64)) disk_round_raw (fun R K (x : disk_round_ac.den) => disk_round_cps big R (fun a0 => K (a0, ())) x.1 x.2.1) disk_round_T

/-! 23 (*frankpledge/disk.Disk).Power -/
def disk_Disk_Power_ac : SCode := ⟨[.leaf (.lit (.ptr 0 0)), .leaf (.int .i64)], [[.sl .oc .byte, .int .i64, .int .i64]]⟩
def disk_Disk_Power_con : Con := conFn [.arg 0] [] disk_Disk_Power_ac (.leaf (.lit (.ptr 1 0))) [[.sl .oc .byte, .int .i64, .int .i64], [.sl .own .byte, .int .i64, .int .i64]] fun x => disk_Disk_Power big x.1 x.2.1 x.2.2.1 x.2.2.2.1
theorem disk_Disk_Power_bnd {calm : List Nat} {f : Nat} (hf : calm.any (Nat.beq f) = false) : BndC calm f disk_Disk_Power_con := bndFn hf
def disk_Disk_Power_cx : Cx := { tab := tab, con := [(54, disk_round_con), (55, bytes_Clone_nl_con)], funs := [], loops := [], want := want, ret := [], calm := [54, 55], bnd := [54, 55], eqs := eqs }
theorem disk_Disk_Power_cs : CsOk Go.Proofs.Try.prog X disk_Disk_Power_cx :=
  csOk ⟨fun _ _ h => tab_ok tabOk h, eqsOk⟩ mixed ⟨disk_round_ok, bytes_Clone_nl_ok, trivial⟩ trivial ⟨disk_round_bnd, bytes_Clone_nl_bnd, trivial⟩ rfl

def disk_Disk_Power_keep : List (Nat × LH) := []
theorem disk_Disk_Power_raw : ConOk Go.Proofs.Try.prog X 23 (fun _ args sto K => evBody disk_Disk_Power_cx (hcN disk_Disk_Power_cx 1) disk_Disk_Power_keep [] [] Go.Proofs.Try.f23 (bodyC Go.Proofs.Try.f23) args sto K) :=
  raw_ok disk_Disk_Power_cs 1 Go.Proofs.Try.func23 (by kernel_rfl) rfl fun R => loops_all 0 (by kernel_rfl) (fun i hi => absurd hi (Nat.not_lt_zero i))

theorem disk_Disk_Power_T (R : Type) (K : D → Sto → Option R) (x : disk_Disk_Power_ac.den) : evBody disk_Disk_Power_cx (hcN disk_Disk_Power_cx 1) disk_Disk_Power_keep [] [] Go.Proofs.Try.f23 (bodyC Go.Proofs.Try.f23) (mkSt disk_Disk_Power_ac x).env (mkSt disk_Disk_Power_ac x).sto K = disk_Disk_Power_cps big R (fun a0 a1 a2 a3 a4 a5 => K ((mkSt ⟨[.leaf (.lit (.ptr 1 0))], [[.sl .oc .byte, .int .i64, .int .i64], [.sl .own .byte, .int .i64, .int .i64]]⟩ (a0, (a1, (a2, (a3, (a4, (a5, ()))))))).env.headD .any) (mkSt ⟨[.leaf (.lit (.ptr 1 0))], [[.sl .oc .byte, .int .i64, .int .i64], [.sl .own .byte, .int .i64, .int .i64]]⟩ (a0, (a1, (a2, (a3, (a4, (a5, ()))))))).sto) x.1 x.2.1 x.2.2.1 x.2.2.2.1 := by kernel_rfl
theorem disk_Disk_Power_ok : ConOk Go.Proofs.Try.prog X 23 disk_Disk_Power_con :=
  conFn_ok (src := [.arg 0]) (sh := []) (rs := .leaf (.lit (.ptr 1 0))) (rows := [[.sl .oc .byte, .int .i64, .int .i64], [.sl .own .byte, .int .i64, .int .i64]]) disk_Disk_Power_raw (fun R K (x : disk_Disk_Power_ac.den) => disk_Disk_Power_cps big R (fun a0 a1 a2 a3 a4 a5 => K (a0, (a1, (a2, (a3, (a4, (a5, ()))))))) x.1 x.2.1 x.2.2.1 x.2.2.2.1) disk_Disk_Power_T

/-! 27 (*frankpledge/disk.Disk).Safe -/
def disk_Disk_Safe_1_ac : SCode := ⟨[.leaf (.lit (.ptr 0 0))], [[.sl .oc .byte, .int .i64, .int .i64]]⟩
def disk_Disk_Safe_1_con : Con := conCalm [.arg 0] [] disk_Disk_Safe_1_ac (.leaf (.int .i64)) fun x => disk_Disk_Safe_1 big x.1 x.2.1 x.2.2.1
theorem disk_Disk_Safe_1_bnd {calm : List Nat} {f : Nat} : BndC calm f disk_Disk_Safe_1_con := bndCalm
def disk_Disk_Safe_1_cx : Cx := { tab := tab, con := [], funs := [], loops := [], want := want, ret := [], calm := [], bnd := [], eqs := eqs }
theorem disk_Disk_Safe_1_cs : CsOk Go.Proofs.Try.prog X disk_Disk_Safe_1_cx :=
  csOk ⟨fun _ _ h => tab_ok tabOk h, eqsOk⟩ mixed trivial trivial trivial rfl

def disk_Disk_Safe_1_keep : List (Nat × LH) := []
theorem disk_Disk_Safe_1_raw : ConOk Go.Proofs.Try.prog X 27 (fun _ args sto K => evBody disk_Disk_Safe_1_cx (hcN disk_Disk_Safe_1_cx 1) disk_Disk_Safe_1_keep [] [] Go.Proofs.Try.f27 (bodyC Go.Proofs.Try.f27) args sto K) :=
  raw_ok disk_Disk_Safe_1_cs 1 Go.Proofs.Try.func27 (by kernel_rfl) rfl fun R => loops_all 0 (by kernel_rfl) (fun i hi => absurd hi (Nat.not_lt_zero i))

theorem disk_Disk_Safe_1_T (R : Type) (K : D → Sto → Option R) (x : disk_Disk_Safe_1_ac.den) : evBody disk_Disk_Safe_1_cx (hcN disk_Disk_Safe_1_cx 1) disk_Disk_Safe_1_keep [] [] Go.Proofs.Try.f27 (bodyC Go.Proofs.Try.f27) (mkSt disk_Disk_Safe_1_ac x).env (mkSt disk_Disk_Safe_1_ac x).sto K = disk_Disk_Safe_1_cps big R (fun a0 => K ((mkE [.leaf (.int .i64)] (T := Unit) (a0, ())).1.headD .any) (mkSt disk_Disk_Safe_1_ac x).sto) x.1 x.2.1 x.2.2.1 := by kernel_rfl
theorem disk_Disk_Safe_1_ok : ConOk Go.Proofs.Try.prog X 27 disk_Disk_Safe_1_con :=
  conCalm_ok (src := [.arg 0]) (sh := []) (rs := .leaf (.int .i64)) disk_Disk_Safe_1_raw (fun R K (x : disk_Disk_Safe_1_ac.den) => disk_Disk_Safe_1_cps big R (fun a0 => K (a0, ())) x.1 x.2.1 x.2.2.1) disk_Disk_Safe_1_T

/-! 30 (*frankpledge/disk.Disk).Cut -/
def disk_Disk_Cut_1_ac : SCode := ⟨[.leaf (.lit (.ptr 0 0)), .leaf (.int .i64)], [[.sl .oc .byte, .int .i64, .int .i64]]⟩
def disk_Disk_Cut_1_con : Con := conFn [.arg 0] [] disk_Disk_Cut_1_ac (.leaf (.int .i64)) [[.sl .oc .byte, .int .i64, .int .i64]] fun x => disk_Disk_Cut_1 big x.1 x.2.1 x.2.2.1 x.2.2.2.1
theorem disk_Disk_Cut_1_bnd {calm : List Nat} {f : Nat} (hf : calm.any (Nat.beq f) = false) : BndC calm f disk_Disk_Cut_1_con := bndFn hf
def disk_Disk_Cut_1_cx : Cx := { tab := tab, con := [(26, disk_Disk_End_2_con)], funs := [], loops := [], want := want, ret := [], calm := [26], bnd := [26], eqs := eqs }
theorem disk_Disk_Cut_1_cs : CsOk Go.Proofs.Try.prog X disk_Disk_Cut_1_cx :=
  csOk ⟨fun _ _ h => tab_ok tabOk h, eqsOk⟩ mixed ⟨disk_Disk_End_2_ok, trivial⟩ trivial ⟨disk_Disk_End_2_bnd, trivial⟩ rfl

def disk_Disk_Cut_1_keep : List (Nat × LH) := []
theorem disk_Disk_Cut_1_raw : ConOk Go.Proofs.Try.prog X 30 (fun _ args sto K => evBody disk_Disk_Cut_1_cx (hcN disk_Disk_Cut_1_cx 1) disk_Disk_Cut_1_keep [] [(0, [(0, .oc .byte)])] Go.Proofs.Try.f30 (bodyC Go.Proofs.Try.f30) args sto K) :=
  raw_ok disk_Disk_Cut_1_cs 1 Go.Proofs.Try.func30 (by kernel_rfl) rfl fun R => loops_all 0 (by kernel_rfl) (fun i hi => absurd hi (Nat.not_lt_zero i))

theorem disk_Disk_Cut_1_T (R : Type) (K : D → Sto → Option R) (x : disk_Disk_Cut_1_ac.den) : evBody disk_Disk_Cut_1_cx (hcN disk_Disk_Cut_1_cx 1) disk_Disk_Cut_1_keep [] [(0, [(0, .oc .byte)])] Go.Proofs.Try.f30 (bodyC Go.Proofs.Try.f30) (mkSt disk_Disk_Cut_1_ac x).env (mkSt disk_Disk_Cut_1_ac x).sto K = disk_Disk_Cut_1_cps big R (fun a0 a1 a2 a3 => K ((mkSt ⟨[.leaf (.int .i64)], [[.sl .oc .byte, .int .i64, .int .i64]]⟩ (a0, (a1, (a2, (a3, ()))))).env.headD .any) (mkSt ⟨[.leaf (.int .i64)], [[.sl .oc .byte, .int .i64, .int .i64]]⟩ (a0, (a1, (a2, (a3, ()))))).sto) x.1 x.2.1 x.2.2.1 x.2.2.2.1 := by kernel_rfl
theorem disk_Disk_Cut_1_ok : ConOk Go.Proofs.Try.prog X 30 disk_Disk_Cut_1_con :=
  conFn_ok (src := [.arg 0]) (sh := []) (rs := .leaf (.int .i64)) (rows := [[.sl .oc .byte, .int .i64, .int .i64]]) disk_Disk_Cut_1_raw (fun R K (x : disk_Disk_Cut_1_ac.den) => disk_Disk_Cut_1_cps big R (fun a0 a1 a2 a3 => K (a0, (a1, (a2, (a3, ()))))) x.1 x.2.1 x.2.2.1 x.2.2.2.1) disk_Disk_Cut_1_T

/-! 6 frankpledge/frankpledgelaw06.DiskCuts -/
def law06_DiskCuts_j0c : SCode := ⟨[.leaf (.sl .ro .byte), .leaf (.sl .ro .byte), .leaf (.int .i64), .leaf (.lit (.any)), .leaf (.lit (.any)), .leaf (.lit (.any)), .leaf (.lit (.any)), .leaf (.lit (.ptr 0 0)), .leaf (.lit (.any)), .leaf (.lit (.any)), .leaf (.lit (.any)), .leaf (.lit (.any)), .leaf (.lit (.any)), .leaf (.lit (.any)), .leaf (.lit (.any)), .leaf (.lit (.any)), .leaf (.lit (.any)), .leaf (.lit (.any)), .leaf (.lit (.any)), .leaf (.lit (.any)), .leaf (.lit (.any)), .leaf (.lit (.any)), .leaf (.lit (.any)), .leaf (.lit (.any)), .leaf (.lit (.any)), .leaf (.lit (.any)), .leaf (.lit (.any)), .leaf (.lit (.any)), .leaf (.lit (.any)), .leaf (.lit (.any)), .leaf (.lit (.any)), .leaf (.lit (.any)), .leaf (.lit (.any)), .leaf (.lit (.any)), .leaf (.lit (.any)), .leaf (.lit (.any)), .leaf (.lit (.any)), .leaf (.lit (.any)), .leaf (.lit (.any)), .leaf (.lit (.any)), .leaf (.lit (.any)), .leaf (.lit (.any)), .leaf (.lit (.any)), .leaf (.lit (.any)), .leaf (.lit (.any)), .leaf (.lit (.any)), .leaf (.lit (.any)), .leaf (.lit (.any)), .leaf (.lit (.any)), .leaf (.lit (.any)), .leaf (.lit (.any)), .leaf (.lit (.any)), .leaf (.lit (.any)), .leaf (.lit (.any)), .leaf (.lit (.any)), .leaf (.lit (.any)), .leaf (.lit (.any)), .leaf (.lit (.any)), .leaf (.lit (.any)), .leaf (.lit (.any)), .leaf (.lit (.any)), .leaf (.lit (.any)), .leaf (.lit (.any)), .leaf (.lit (.any)), .leaf (.lit (.any)), .leaf (.lit (.any)), .leaf (.lit (.any)), .leaf (.lit (.any)), .leaf (.lit (.any)), .leaf (.lit (.any)), .leaf (.lit (.any)), .leaf (.lit (.any)), .leaf (.lit (.any)), .leaf (.lit (.any)), .leaf (.lit (.any)), .leaf (.lit (.any)), .leaf (.lit (.any)), .leaf (.lit (.any)), .leaf (.lit (.any)), .leaf (.lit (.any)), .leaf (.lit (.any)), .leaf (.lit (.any)), .leaf (.lit (.any)), .leaf (.lit (.any)), .leaf (.lit (.any)), .leaf (.lit (.any)), .leaf (.lit (.any)), .leaf (.lit (.any)), .leaf (.lit (.any)), .leaf (.lit (.any)), .leaf (.lit (.any)), .leaf (.lit (.any)), .leaf (.lit (.any)), .leaf (.lit (.any)), .leaf (.lit (.any)), .leaf (.lit (.any)), .leaf (.lit (.any)), .leaf (.lit (.any)), .leaf (.lit (.any)), .leaf (.lit (.any)), .leaf (.lit (.any)), .leaf (.lit (.any)), .leaf (.lit (.any)), .leaf (.lit (.any)), .leaf (.lit (.any)), .leaf (.lit (.any)), .leaf (.lit (.any)), .leaf (.lit (.any)), .leaf (.lit (.any)), .leaf (.lit (.any)), .leaf (.lit (.any)), .leaf (.lit (.any)), .leaf (.lit (.any)), .leaf (.lit (.any)), .leaf (.lit (.any)), .leaf (.lit (.any)), .leaf (.lit (.any)), .leaf (.lit (.any)), .leaf (.lit (.any)), .leaf (.lit (.any)), .leaf (.lit (.any)), .leaf (.lit (.any)), .leaf (.lit (.any)), .leaf (.lit (.any)), .leaf (.lit (.any)), .leaf (.lit (.any)), .leaf (.lit (.any)), .leaf (.lit (.any))], [[.lit (.nils), .int .i64, .int .i64]]⟩
def law06_DiskCuts_j0e0 : SCode := ⟨[.leaf (.lit (.any)), .leaf (.lit (.any)), .leaf (.lit (.any)), .leaf (.lit (.any)), .leaf (.lit (.any)), .leaf (.lit (.any)), .leaf (.bool), .leaf (.lit (.any)), .leaf (.lit (.any)), .leaf (.lit (.any)), .leaf (.lit (.any)), .leaf (.lit (.any)), .leaf (.lit (.any)), .leaf (.lit (.any)), .leaf (.lit (.any)), .leaf (.lit (.any)), .leaf (.lit (.any)), .leaf (.lit (.any)), .leaf (.lit (.any)), .leaf (.lit (.any)), .leaf (.lit (.any)), .leaf (.lit (.any)), .leaf (.lit (.any)), .leaf (.lit (.any)), .leaf (.lit (.any)), .leaf (.lit (.any)), .leaf (.lit (.any)), .leaf (.lit (.any)), .leaf (.lit (.any)), .leaf (.lit (.any)), .leaf (.lit (.any)), .leaf (.lit (.any)), .leaf (.lit (.any)), .leaf (.lit (.any)), .leaf (.lit (.any)), .leaf (.lit (.any)), .leaf (.lit (.any)), .leaf (.lit (.any)), .leaf (.lit (.any)), .leaf (.lit (.any)), .leaf (.lit (.any)), .leaf (.lit (.any)), .leaf (.lit (.any)), .leaf (.lit (.any)), .leaf (.lit (.any)), .leaf (.lit (.any)), .leaf (.lit (.any)), .leaf (.lit (.any)), .leaf (.lit (.any)), .leaf (.lit (.any)), .leaf (.lit (.any)), .leaf (.lit (.any)), .leaf (.lit (.any)), .leaf (.lit (.any)), .leaf (.lit (.any)), .leaf (.lit (.any)), .leaf (.lit (.any)), .leaf (.lit (.any)), .leaf (.lit (.any)), .leaf (.lit (.any)), .leaf (.lit (.any)), .leaf (.lit (.any)), .leaf (.lit (.any)), .leaf (.lit (.any)), .leaf (.lit (.any)), .leaf (.lit (.any)), .leaf (.lit (.any)), .leaf (.lit (.any)), .leaf (.lit (.any)), .leaf (.lit (.any)), .leaf (.lit (.any)), .leaf (.lit (.any)), .leaf (.lit (.any)), .leaf (.lit (.any)), .leaf (.lit (.any)), .leaf (.lit (.any)), .leaf (.lit (.any)), .leaf (.lit (.any)), .leaf (.lit (.any)), .leaf (.lit (.any)), .leaf (.lit (.any)), .leaf (.lit (.any)), .leaf (.lit (.any)), .leaf (.lit (.any)), .leaf (.lit (.any)), .leaf (.lit (.any)), .leaf (.lit (.any)), .leaf (.lit (.any)), .leaf (.lit (.any)), .leaf (.lit (.any)), .leaf (.lit (.any)), .leaf (.lit (.any)), .leaf (.lit (.any)), .leaf (.lit (.any)), .leaf (.lit (.any)), .leaf (.lit (.any)), .leaf (.lit (.any)), .leaf (.lit (.any)), .leaf (.lit (.any)), .leaf (.lit (.any)), .leaf (.lit (.any)), .leaf (.lit (.any)), .leaf (.lit (.any)), .leaf (.lit (.any)), .leaf (.lit (.any)), .leaf (.lit (.any)), .leaf (.lit (.any)), .leaf (.lit (.any)), .leaf (.lit (.any)), .leaf (.lit (.any)), .leaf (.lit (.any)), .leaf (.lit (.any)), .leaf (.lit (.any)), .leaf (.lit (.any)), .leaf (.lit (.any)), .leaf (.lit (.any)), .leaf (.lit (.any)), .leaf (.lit (.any)), .leaf (.lit (.any)), .leaf (.lit (.any)), .leaf (.lit (.any)), .leaf (.lit (.any)), .leaf (.lit (.any)), .leaf (.lit (.any)), .leaf (.lit (.any)), .leaf (.lit (.any)), .leaf (.lit (.any)), .leaf (.lit (.any))], [[.sl .oc .byte, .int .i64, .int .i64]]⟩
def law06_DiskCuts_j0h : LH := { env := [(0, .id), (1, .id), (2, .id), (7, .id)], sto := [], out := [(6, .id)], con := some (lconOf law06_DiskCuts_j0c fun R k x => law06_DiskCuts_j0 big R (fun a0 a1 a2 a3 => k .ret (mkSt law06_DiskCuts_j0e0 (a0, (a1, (a2, (a3, ())))))) x.1 x.2.1 x.2.2.1 x.2.2.2.1 x.2.2.2.2.1), cut := 1 }

def law06_DiskCuts_ac : SCode := ⟨[.leaf (.sl .ro .byte), .leaf (.sl .ro .byte), .leaf (.int .i64)], []⟩
def law06_DiskCuts_con : Con := conCalm [] [] law06_DiskCuts_ac (.leaf (.bool)) fun x => law06_DiskCuts big x.1 x.2.1 x.2.2.1
theorem law06_DiskCuts_bnd {calm : List Nat} {f : Nat} : BndC calm f law06_DiskCuts_con := bndCalm
def law06_DiskCuts_cx : Cx := { tab := tab, con := [(19, disk_New_con), (20, law06_alive_con), (21, (conOr (fun a s => (prep [.arg 0] [] disk_Disk_Append_ac a s).isSome) disk_Disk_Append_con disk_Disk_Append_2_con)), (23, disk_Disk_Power_con), (24, ref06_Pick_con), (25, disk_Disk_Read_1_con), (26, (conOr (fun a s => (prep [.arg 0] [] disk_Disk_End_2_ac a s).isSome) disk_Disk_End_2_con disk_Disk_End_1_con)), (27, disk_Disk_Safe_1_con), (30, (conOr (fun a s => (prep [.arg 0] [] disk_Disk_Cut_ac a s).isSome) disk_Disk_Cut_con disk_Disk_Cut_1_con))], funs := [], loops := [], want := want, ret := [], calm := [20, 24, 25, 26, 27], bnd := [19, 20, 21, 23, 24, 25, 26, 27, 30], eqs := eqs }
theorem law06_DiskCuts_cs : CsOk Go.Proofs.Try.prog X law06_DiskCuts_cx :=
  csOk ⟨fun _ _ h => tab_ok tabOk h, eqsOk⟩ mixed ⟨disk_New_ok, law06_alive_ok, (conOr_ok disk_Disk_Append_ok disk_Disk_Append_2_ok), disk_Disk_Power_ok, ref06_Pick_ok, disk_Disk_Read_1_ok, (conOr_ok disk_Disk_End_2_ok disk_Disk_End_1_ok), disk_Disk_Safe_1_ok, (conOr_ok disk_Disk_Cut_ok disk_Disk_Cut_1_ok), trivial⟩ trivial ⟨disk_New_bnd rfl, law06_alive_bnd, (bndOr (disk_Disk_Append_bnd rfl) (disk_Disk_Append_2_bnd rfl)), disk_Disk_Power_bnd rfl, ref06_Pick_bnd, disk_Disk_Read_1_bnd, (bndOr (disk_Disk_End_2_bnd) (disk_Disk_End_1_bnd)), disk_Disk_Safe_1_bnd, (bndOr (disk_Disk_Cut_bnd rfl) (disk_Disk_Cut_1_bnd rfl)), trivial⟩ rfl

def law06_DiskCuts_keep : List (Nat × LH) := [(1000004, law06_DiskCuts_j0h)]
theorem law06_DiskCuts_J4s (R : Type) (k : Exit → St → Option R) (x : law06_DiskCuts_j0c.den) : evCode law06_DiskCuts_cx (hcN law06_DiskCuts_cx 1) law06_DiskCuts_keep (joinC Go.Proofs.Try.f6 4) (mkSt law06_DiskCuts_j0c x) (fun e st' => k e (normO law06_DiskCuts_j0h law06_DiskCuts_j0h.cut st')) = law06_DiskCuts_j0 big R (fun a0 a1 a2 a3 => k .ret (mkSt law06_DiskCuts_j0e0 (a0, (a1, (a2, (a3, ())))))) x.1 x.2.1 x.2.2.1 x.2.2.2.1 x.2.2.2.2.1 := by kernel_rfl
theorem law06_DiskCuts_J4 (R : Type) : JOkR (R := R) law06_DiskCuts_cx (hcN law06_DiskCuts_cx 1) law06_DiskCuts_keep (joinC Go.Proofs.Try.f6 4) :=
  jok_of (lh := law06_DiskCuts_j0h) law06_DiskCuts_j0c (fun R k x => law06_DiskCuts_j0 big R (fun a0 a1 a2 a3 => k .ret (mkSt law06_DiskCuts_j0e0 (a0, (a1, (a2, (a3, ())))))) x.1 x.2.1 x.2.2.1 x.2.2.2.1 x.2.2.2.2.1) (by kernel_rfl) rfl (law06_DiskCuts_J4s R)

theorem law06_DiskCuts_raw : ConOk Go.Proofs.Try.prog X 6 (fun _ args sto K => evBody law06_DiskCuts_cx (hcN law06_DiskCuts_cx 1) law06_DiskCuts_keep [] [] Go.Proofs.Try.f6 (bodyC Go.Proofs.Try.f6) args sto K) :=
  raw_ok2 law06_DiskCuts_cs 1 Go.Proofs.Try.func6 (by kernel_rfl) (fun R => loops_all 0 (by kernel_rfl) (fun i hi => absurd hi (Nat.not_lt_zero i))) (fun R => joins_all [4] (by kernel_rfl) (AllJ.get ⟨law06_DiskCuts_J4 R, trivial⟩))

theorem law06_DiskCuts_T (R : Type) (K : D → Sto → Option R) (x : law06_DiskCuts_ac.den) : evBody law06_DiskCuts_cx (hcN law06_DiskCuts_cx 1) law06_DiskCuts_keep [] [] Go.Proofs.Try.f6 (bodyC Go.Proofs.Try.f6) (mkSt law06_DiskCuts_ac x).env (mkSt law06_DiskCuts_ac x).sto K = law06_DiskCuts_cps big R (fun a0 => K ((mkE [.leaf (.bool)] (T := Unit) (a0, ())).1.headD .any) (mkSt law06_DiskCuts_ac x).sto) x.1 x.2.1 x.2.2.1 := by kernel_rfl
theorem law06_DiskCuts_ok : ConOk Go.Proofs.Try.prog X 6 law06_DiskCuts_con :=
  conCalm_ok (src := []) (sh := []) (rs := .leaf (.bool)) law06_DiskCuts_raw (fun R K (x : law06_DiskCuts_ac.den) => law06_DiskCuts_cps big R (fun a0 => K (a0, ())) x.1 x.2.1 x.2.2.1) law06_DiskCuts_T

end
end Go.Proofs.Ytkeejnlicagjiaa.E
