/-
  The statement LockClashes of the program is proved: for every input that the row speaks of, the law answers true.
  Conditions: those that the statement's row prints, and no other. This text: the walk: the code comes to the pure functions.
-/
import Derived.Test.YtkeejnlicagjiaaEvD
import Derived.KernelRfl
import Derived.Test.YtkeejnlicagjiaaRows
import Derived.Test.YtkeejnlicagjiaaLockClashesF
set_option linter.unusedVariables false
set_option linter.unusedSimpArgs false
/-! The walk, printed by wip/gen out of the translation. -/
namespace Go.Proofs.Ytkeejnlicagjiaa.E
open Go.Ev Go.ChangeShapes
set_option maxRecDepth 100000
noncomputable section
noncomputable def tab : List (Nat × TE) := [(3, { d := .int .i64, size := 1, bytes := 8, agg := false, ty := some (.int .i64), zero := [.int .i64 0] }),
  (4, { d := .bool, size := 1, bytes := 1, agg := false, ty := some .bool, zero := [.bool false] }),
  (5, { d := .int .u8, size := 1, bytes := 1, agg := false, ty := some .byte, zero := [.int .u8 0] }),
  (9, { d := .str, size := 1, bytes := 16, agg := false, ty := some .str, zero := [.str []] }),
  (24, { d := .slice 5, size := 1, bytes := 24, agg := false, ty := some (.slice .byte), zero := [.nils] }),
  (60, { d := .slice 3, size := 1, bytes := 24, agg := false, ty := some (.slice (.int .i64)), zero := [.nils] }),
  (71, { d := .int .i64, size := 1, bytes := 8, agg := false, ty := some (.int .i64), zero := [.int .i64 0] }),
  (73, { d := .struct [⟨0, 1, false⟩, ⟨1, 1, false⟩, ⟨2, 1, false⟩, ⟨3, 1, false⟩, ⟨4, 1, false⟩], size := 5, bytes := 80, agg := true, ty := some (.pair (.int .i64) (.pair .str (.pair (.slice .byte) (.pair (.slice .byte) (.pair (.int .i64) .unit))))), zero := [.int .i64 0, .str [], .nils, .nils, .int .i64 0] }),
  (78, { d := .struct [⟨0, 1, false⟩, ⟨1, 1, false⟩, ⟨2, 1, false⟩, ⟨3, 1, false⟩, ⟨4, 1, false⟩], size := 5, bytes := 64, agg := true, ty := some (.pair (.int .i64) (.pair .str (.pair .str (.pair .str (.pair (.int .i64) .unit))))), zero := [.int .i64 0, .str [], .str [], .str [], .int .i64 0] }),
  (91, { d := .ptr 103, size := 1, bytes := 8, agg := false, ty := none, zero := [.nilp] }),
  (96, { d := .slice 73, size := 1, bytes := 24, agg := false, ty := some (.slice (.pair (.int .i64) (.pair .str (.pair (.slice .byte) (.pair (.slice .byte) (.pair (.int .i64) .unit)))))), zero := [.nils] }),
  (103, { d := .struct [⟨0, 1, false⟩, ⟨1, 1, false⟩], size := 2, bytes := 48, agg := true, ty := some (.pair (.slice (.pair (.int .i64) (.pair .str (.pair (.slice .byte) (.pair (.slice .byte) (.pair (.int .i64) .unit)))))) (.pair (.slice (.pair (.int .i64) (.pair .str (.pair (.slice .byte) (.pair (.slice .byte) (.pair (.int .i64) .unit)))))) .unit)), zero := [.nils, .nils] })]
def want : List (Nat × List Nat) := []
def eqs : List (Nat × List EK) := []
theorem tabOk : tabB Go.Proofs.Try.prog tab = true := by kernel_rfl
def X : Cfg := ⟨0, 0⟩
theorem mixed : Go.Proofs.Try.prog.follows .mixedOrders = true := by kernel_rfl
theorem eqsOk : ∀ t ks, Go.Ev.look eqs t = some ks → eqTB Go.Proofs.Try.prog t ks = true := allEq_get (by kernel_rfl)
/-! 49 frankpledge/frankpledgelaw09.short -/
def law09_short_ac : SCode := ⟨[.agg [.int .i64, .str, .sl .ro .byte, .sl .ro .byte, .int .i64]], []⟩
def law09_short_con : Con := conCalm [] [] law09_short_ac (.leaf (.bool)) fun x => law09_short big x.1 x.2.1 x.2.2.1 x.2.2.2.1 x.2.2.2.2.1
theorem law09_short_bnd {calm : List Nat} {f : Nat} : BndC calm f law09_short_con := bndCalm
def law09_short_cx : Cx := { tab := tab, con := [], funs := [], loops := [], want := want, ret := [], calm := [], bnd := [], eqs := eqs }
theorem law09_short_cs : CsOk Go.Proofs.Try.prog X law09_short_cx :=
  csOk ⟨fun _ _ h => tab_ok tabOk h, eqsOk⟩ mixed trivial trivial trivial rfl

def law09_short_keep : List (Nat × LH) := []
theorem law09_short_raw : ConOk Go.Proofs.Try.prog X 49 (fun _ args sto K => evBody law09_short_cx (hcN law09_short_cx 1) law09_short_keep [] [] Go.Proofs.Try.f49 (bodyC Go.Proofs.Try.f49) args sto K) :=
  raw_ok law09_short_cs 1 Go.Proofs.Try.func49 (by kernel_rfl) rfl fun R => loops_all 0 (by kernel_rfl) (fun i hi => absurd hi (Nat.not_lt_zero i))

theorem law09_short_T (R : Type) (K : D → Sto → Option R) (x : law09_short_ac.den) : evBody law09_short_cx (hcN law09_short_cx 1) law09_short_keep [] [] Go.Proofs.Try.f49 (bodyC Go.Proofs.Try.f49) (mkSt law09_short_ac x).env (mkSt law09_short_ac x).sto K = law09_short_cps big R (fun a0 => K ((mkE [.leaf (.bool)] (T := Unit) (a0, ())).1.headD .any) (mkSt law09_short_ac x).sto) x.1 x.2.1 x.2.2.1 x.2.2.2.1 x.2.2.2.2.1 := by kernel_rfl
theorem law09_short_ok : ConOk Go.Proofs.Try.prog X 49 law09_short_con :=
  conCalm_ok (src := []) (sh := []) (rs := .leaf (.bool)) law09_short_raw (fun R K (x : law09_short_ac.den) => law09_short_cps big R (fun a0 => K (a0, ())) x.1 x.2.1 x.2.2.1 x.2.2.2.1 x.2.2.2.2.1) law09_short_T

/-! 63 frankpledge/lock.New -/
def lock_New_ac : SCode := ⟨[], []⟩
def lock_New_con : Con := conFn [] [] lock_New_ac (.leaf (.lit (.ptr 0 0))) [[.lit (.hw 1), .lit (.hw 2)], [.arr (.pair (.int .i64) (.pair .str (.pair (.slice .byte) (.pair (.slice .byte) (.pair (.int .i64) .unit)))))], [.arr (.pair (.int .i64) (.pair .str (.pair (.slice .byte) (.pair (.slice .byte) (.pair (.int .i64) .unit)))))]] fun x => lock_New big 
theorem lock_New_bnd {calm : List Nat} {f : Nat} (hf : calm.any (Nat.beq f) = false) : BndC calm f lock_New_con := bndFn hf
def lock_New_cx : Cx := { tab := tab, con := [], funs := [], loops := [], want := want, ret := [], calm := [], bnd := [], eqs := eqs, xl := true, xs := [96], xd := [(2, [(0, (.pair (.int .i64) (.pair .str (.pair (.slice .byte) (.pair (.slice .byte) (.pair (.int .i64) .unit)))))), (1, (.pair (.int .i64) (.pair .str (.pair (.slice .byte) (.pair (.slice .byte) (.pair (.int .i64) .unit))))))])] }
theorem lock_New_cs : CsOk Go.Proofs.Try.prog X lock_New_cx :=
  csOk ⟨fun _ _ h => tab_ok tabOk h, eqsOk⟩ mixed trivial trivial trivial rfl

def lock_New_keep : List (Nat × LH) := []
theorem lock_New_raw : ConOk Go.Proofs.Try.prog X 63 (fun _ args sto K => evBody lock_New_cx (hcN lock_New_cx 1) lock_New_keep [] [] Go.Proofs.Try.f63 (bodyC Go.Proofs.Try.f63) args sto K) :=
  raw_ok lock_New_cs 1 Go.Proofs.Try.func63 (by kernel_rfl) rfl fun R => loops_all 0 (by kernel_rfl) (fun i hi => absurd hi (Nat.not_lt_zero i))

theorem lock_New_T (R : Type) (K : D → Sto → Option R) (x : lock_New_ac.den) : evBody lock_New_cx (hcN lock_New_cx 1) lock_New_keep [] [] Go.Proofs.Try.f63 (bodyC Go.Proofs.Try.f63) (mkSt lock_New_ac x).env (mkSt lock_New_ac x).sto K = lock_New_cps big R (fun a0 a1 => K ((mkSt ⟨[.leaf (.lit (.ptr 0 0))], [[.lit (.hw 1), .lit (.hw 2)], [.arr (.pair (.int .i64) (.pair .str (.pair (.slice .byte) (.pair (.slice .byte) (.pair (.int .i64) .unit)))))], [.arr (.pair (.int .i64) (.pair .str (.pair (.slice .byte) (.pair (.slice .byte) (.pair (.int .i64) .unit)))))]]⟩ (a0, (a1, ()))).env.headD .any) (mkSt ⟨[.leaf (.lit (.ptr 0 0))], [[.lit (.hw 1), .lit (.hw 2)], [.arr (.pair (.int .i64) (.pair .str (.pair (.slice .byte) (.pair (.slice .byte) (.pair (.int .i64) .unit)))))], [.arr (.pair (.int .i64) (.pair .str (.pair (.slice .byte) (.pair (.slice .byte) (.pair (.int .i64) .unit)))))]]⟩ (a0, (a1, ()))).sto)  := by kernel_rfl
theorem lock_New_ok : ConOk Go.Proofs.Try.prog X 63 lock_New_con :=
  conFn_ok (src := []) (sh := []) (rs := .leaf (.lit (.ptr 0 0))) (rows := [[.lit (.hw 1), .lit (.hw 2)], [.arr (.pair (.int .i64) (.pair .str (.pair (.slice .byte) (.pair (.slice .byte) (.pair (.int .i64) .unit)))))], [.arr (.pair (.int .i64) (.pair .str (.pair (.slice .byte) (.pair (.slice .byte) (.pair (.int .i64) .unit)))))]]) lock_New_raw (fun R K (x : lock_New_ac.den) => lock_New_cps big R (fun a0 a1 => K (a0, (a1, ()))) ) lock_New_T

def bytealg_Compare_ac : SCode := ⟨[.leaf (.sl .ro .byte), .leaf (.sl .ro .byte)], []⟩
def bytealg_Compare_con : Con := conCalm [] [] bytealg_Compare_ac (.leaf (.int .i64)) fun x => bytealg_Compare big x.1 x.2.1
theorem bytealg_Compare_bnd {calm : List Nat} {f : Nat} : BndC calm f bytealg_Compare_con := bndCalm
theorem bytealg_Compare_raw : ConOk Go.Proofs.Try.prog X 82 (conExt compareF) := compare_ok (fn := Go.Proofs.Try.f82) Go.Proofs.Try.func82 rfl (by kernel_rfl) (by kernel_rfl) (by kernel_rfl)
theorem bytealg_Compare_T (R : Type) (K : D → Sto → Option R) (x : bytealg_Compare_ac.den) : conExt compareF R (mkSt bytealg_Compare_ac x).env (mkSt bytealg_Compare_ac x).sto K = bytealg_Compare_cps big R (fun a0 => K ((mkE [.leaf (.int .i64)] (T := Unit) (a0, ())).1.headD .any) (mkSt bytealg_Compare_ac x).sto) x.1 x.2.1 := by kernel_rfl
theorem bytealg_Compare_ok : ConOk Go.Proofs.Try.prog X 82 bytealg_Compare_con :=
  conCalm_ok (src := []) (sh := []) (rs := .leaf (.int .i64)) bytealg_Compare_raw (fun R K (x : bytealg_Compare_ac.den) => bytealg_Compare_cps big R (fun a0 => K (a0, ())) x.1 x.2.1) bytealg_Compare_T
/-! 67 bytes.Compare -/
def bytes_Compare_ac : SCode := ⟨[.leaf (.sl .ro .byte), .leaf (.sl .ro .byte)], []⟩
def bytes_Compare_con : Con := conCalm [] [] bytes_Compare_ac (.leaf (.int .i64)) fun x => bytes_Compare big x.1 x.2.1
theorem bytes_Compare_bnd {calm : List Nat} {f : Nat} : BndC calm f bytes_Compare_con := bndCalm
def bytes_Compare_cx : Cx := { tab := tab, con := [(82, bytealg_Compare_con)], funs := [], loops := [], want := want, ret := [], calm := [82], bnd := [82], eqs := eqs }
theorem bytes_Compare_cs : CsOk Go.Proofs.Try.prog X bytes_Compare_cx :=
  csOk ⟨fun _ _ h => tab_ok tabOk h, eqsOk⟩ mixed ⟨bytealg_Compare_ok, trivial⟩ trivial ⟨bytealg_Compare_bnd, trivial⟩ rfl

def bytes_Compare_keep : List (Nat × LH) := []
theorem bytes_Compare_raw : ConOk Go.Proofs.Try.prog X 67 (fun _ args sto K => evBody bytes_Compare_cx (hcN bytes_Compare_cx 1) bytes_Compare_keep [] [] Go.Proofs.Try.f67 (bodyC Go.Proofs.Try.f67) args sto K) :=
  raw_ok bytes_Compare_cs 1 Go.Proofs.Try.func67 (by kernel_rfl) rfl fun R => loops_all 0 (by kernel_rfl) (fun i hi => absurd hi (Nat.not_lt_zero i))

theorem bytes_Compare_T (R : Type) (K : D → Sto → Option R) (x : bytes_Compare_ac.den) : evBody bytes_Compare_cx (hcN bytes_Compare_cx 1) bytes_Compare_keep [] [] Go.Proofs.Try.f67 (bodyC Go.Proofs.Try.f67) (mkSt bytes_Compare_ac x).env (mkSt bytes_Compare_ac x).sto K = bytes_Compare_cps big R (fun a0 => K ((mkE [.leaf (.int .i64)] (T := Unit) (a0, ())).1.headD .any) (mkSt bytes_Compare_ac x).sto) x.1 x.2.1 := by kernel_rfl
theorem bytes_Compare_ok : ConOk Go.Proofs.Try.prog X 67 bytes_Compare_con :=
  conCalm_ok (src := []) (sh := []) (rs := .leaf (.int .i64)) bytes_Compare_raw (fun R K (x : bytes_Compare_ac.den) => bytes_Compare_cps big R (fun a0 => K (a0, ())) x.1 x.2.1) bytes_Compare_T

/-! 68 frankpledge/lock.ahead -/
def lock_ahead_ac : SCode := ⟨[.leaf (.sl .ro .byte), .leaf (.sl .ro .byte)], []⟩
def lock_ahead_con : Con := conCalm [] [] lock_ahead_ac (.leaf (.bool)) fun x => lock_ahead big x.1 x.2.1
theorem lock_ahead_bnd {calm : List Nat} {f : Nat} : BndC calm f lock_ahead_con := bndCalm
def lock_ahead_cx : Cx := { tab := tab, con := [(67, bytes_Compare_con)], funs := [], loops := [], want := want, ret := [], calm := [67], bnd := [67], eqs := eqs }
theorem lock_ahead_cs : CsOk Go.Proofs.Try.prog X lock_ahead_cx :=
  csOk ⟨fun _ _ h => tab_ok tabOk h, eqsOk⟩ mixed ⟨bytes_Compare_ok, trivial⟩ trivial ⟨bytes_Compare_bnd, trivial⟩ rfl

def lock_ahead_keep : List (Nat × LH) := []
theorem lock_ahead_raw : ConOk Go.Proofs.Try.prog X 68 (fun _ args sto K => evBody lock_ahead_cx (hcN lock_ahead_cx 1) lock_ahead_keep [] [] Go.Proofs.Try.f68 (bodyC Go.Proofs.Try.f68) args sto K) :=
  raw_ok lock_ahead_cs 1 Go.Proofs.Try.func68 (by kernel_rfl) rfl fun R => loops_all 0 (by kernel_rfl) (fun i hi => absurd hi (Nat.not_lt_zero i))

theorem lock_ahead_T (R : Type) (K : D → Sto → Option R) (x : lock_ahead_ac.den) : evBody lock_ahead_cx (hcN lock_ahead_cx 1) lock_ahead_keep [] [] Go.Proofs.Try.f68 (bodyC Go.Proofs.Try.f68) (mkSt lock_ahead_ac x).env (mkSt lock_ahead_ac x).sto K = lock_ahead_cps big R (fun a0 => K ((mkE [.leaf (.bool)] (T := Unit) (a0, ())).1.headD .any) (mkSt lock_ahead_ac x).sto) x.1 x.2.1 := by kernel_rfl
theorem lock_ahead_ok : ConOk Go.Proofs.Try.prog X 68 lock_ahead_con :=
  conCalm_ok (src := []) (sh := []) (rs := .leaf (.bool)) lock_ahead_raw (fun R K (x : lock_ahead_ac.den) => lock_ahead_cps big R (fun a0 => K (a0, ())) x.1 x.2.1) lock_ahead_T

/-! 73 (frankpledge/lock.Lock).right -/
def lock_Lock_right_ac : SCode := ⟨[.agg [.int .i64, .str, .sl .ro .byte, .sl .ro .byte, .int .i64]], []⟩
def lock_Lock_right_con : Con := conCalm [] [] lock_Lock_right_ac (.leaf (.bool)) fun x => lock_Lock_right big x.1 x.2.1 x.2.2.1 x.2.2.2.1 x.2.2.2.2.1
theorem lock_Lock_right_bnd {calm : List Nat} {f : Nat} : BndC calm f lock_Lock_right_con := bndCalm
def lock_Lock_right_cx : Cx := { tab := tab, con := [(68, lock_ahead_con)], funs := [], loops := [], want := want, ret := [], calm := [68], bnd := [68], eqs := eqs }
theorem lock_Lock_right_cs : CsOk Go.Proofs.Try.prog X lock_Lock_right_cx :=
  csOk ⟨fun _ _ h => tab_ok tabOk h, eqsOk⟩ mixed ⟨lock_ahead_ok, trivial⟩ trivial ⟨lock_ahead_bnd, trivial⟩ rfl

def lock_Lock_right_keep : List (Nat × LH) := []
theorem lock_Lock_right_raw : ConOk Go.Proofs.Try.prog X 73 (fun _ args sto K => evBody lock_Lock_right_cx (hcN lock_Lock_right_cx 1) lock_Lock_right_keep [] [] Go.Proofs.Try.f73 (bodyC Go.Proofs.Try.f73) args sto K) :=
  raw_ok lock_Lock_right_cs 1 Go.Proofs.Try.func73 (by kernel_rfl) rfl fun R => loops_all 0 (by kernel_rfl) (fun i hi => absurd hi (Nat.not_lt_zero i))

theorem lock_Lock_right_T (R : Type) (K : D → Sto → Option R) (x : lock_Lock_right_ac.den) : evBody lock_Lock_right_cx (hcN lock_Lock_right_cx 1) lock_Lock_right_keep [] [] Go.Proofs.Try.f73 (bodyC Go.Proofs.Try.f73) (mkSt lock_Lock_right_ac x).env (mkSt lock_Lock_right_ac x).sto K = lock_Lock_right_cps big R (fun a0 => K ((mkE [.leaf (.bool)] (T := Unit) (a0, ())).1.headD .any) (mkSt lock_Lock_right_ac x).sto) x.1 x.2.1 x.2.2.1 x.2.2.2.1 x.2.2.2.2.1 := by kernel_rfl
theorem lock_Lock_right_ok : ConOk Go.Proofs.Try.prog X 73 lock_Lock_right_con :=
  conCalm_ok (src := []) (sh := []) (rs := .leaf (.bool)) lock_Lock_right_raw (fun R K (x : lock_Lock_right_ac.den) => lock_Lock_right_cps big R (fun a0 => K (a0, ())) x.1 x.2.1 x.2.2.1 x.2.2.2.1 x.2.2.2.2.1) lock_Lock_right_T

/-! 75 (*frankpledge/lock.Locks).Ask$1 -/
def lock_Locks_Ask_c1_ac : SCode := ⟨[.agg [.int .i64, .str, .sl .ro .byte, .sl .ro .byte, .int .i64], .leaf (.lit (.ptr 0 0))], [[.int .i64, .str, .sl .ro .byte, .sl .ro .byte, .int .i64]]⟩
def lock_Locks_Ask_c1_con : Con := conCalm [.arg 1] [] lock_Locks_Ask_c1_ac (.leaf (.bool)) fun x => lock_Locks_Ask_c1 big x.1 x.2.1 x.2.2.1 x.2.2.2.1 x.2.2.2.2.1 x.2.2.2.2.2.1 x.2.2.2.2.2.2.1 x.2.2.2.2.2.2.2.1 x.2.2.2.2.2.2.2.2.1 x.2.2.2.2.2.2.2.2.2.1
theorem lock_Locks_Ask_c1_bnd {calm : List Nat} {f : Nat} : BndC calm f lock_Locks_Ask_c1_con := bndCalm
def lock_Locks_Ask_c1_cx : Cx := { tab := tab, con := [], funs := [], loops := [], want := want, ret := [], calm := [], bnd := [], eqs := eqs }
theorem lock_Locks_Ask_c1_cs : CsOk Go.Proofs.Try.prog X lock_Locks_Ask_c1_cx :=
  csOk ⟨fun _ _ h => tab_ok tabOk h, eqsOk⟩ mixed trivial trivial trivial rfl

def lock_Locks_Ask_c1_keep : List (Nat × LH) := []
theorem lock_Locks_Ask_c1_raw : ConOk Go.Proofs.Try.prog X 75 (fun _ args sto K => evBody lock_Locks_Ask_c1_cx (hcN lock_Locks_Ask_c1_cx 1) lock_Locks_Ask_c1_keep [] [] Go.Proofs.Try.f75 (bodyC Go.Proofs.Try.f75) args sto K) :=
  raw_ok lock_Locks_Ask_c1_cs 1 Go.Proofs.Try.func75 (by kernel_rfl) rfl fun R => loops_all 0 (by kernel_rfl) (fun i hi => absurd hi (Nat.not_lt_zero i))

theorem lock_Locks_Ask_c1_T (R : Type) (K : D → Sto → Option R) (x : lock_Locks_Ask_c1_ac.den) : evBody lock_Locks_Ask_c1_cx (hcN lock_Locks_Ask_c1_cx 1) lock_Locks_Ask_c1_keep [] [] Go.Proofs.Try.f75 (bodyC Go.Proofs.Try.f75) (mkSt lock_Locks_Ask_c1_ac x).env (mkSt lock_Locks_Ask_c1_ac x).sto K = lock_Locks_Ask_c1_cps big R (fun a0 => K ((mkE [.leaf (.bool)] (T := Unit) (a0, ())).1.headD .any) (mkSt lock_Locks_Ask_c1_ac x).sto) x.1 x.2.1 x.2.2.1 x.2.2.2.1 x.2.2.2.2.1 x.2.2.2.2.2.1 x.2.2.2.2.2.2.1 x.2.2.2.2.2.2.2.1 x.2.2.2.2.2.2.2.2.1 x.2.2.2.2.2.2.2.2.2.1 := by kernel_rfl
theorem lock_Locks_Ask_c1_ok : ConOk Go.Proofs.Try.prog X 75 lock_Locks_Ask_c1_con :=
  conCalm_ok (src := [.arg 1]) (sh := []) (rs := .leaf (.bool)) lock_Locks_Ask_c1_raw (fun R K (x : lock_Locks_Ask_c1_ac.den) => lock_Locks_Ask_c1_cps big R (fun a0 => K (a0, ())) x.1 x.2.1 x.2.2.1 x.2.2.2.1 x.2.2.2.2.1 x.2.2.2.2.2.1 x.2.2.2.2.2.2.1 x.2.2.2.2.2.2.2.1 x.2.2.2.2.2.2.2.2.1 x.2.2.2.2.2.2.2.2.2.1) lock_Locks_Ask_c1_T

/-! 85 slices.IndexFunc[[]frankpledge/lock.Lock,frankpledge/lock.Lock] -/
def slices_IndexFunc_lock_Lock_lock_Lock_l0c : SCode := ⟨[.leaf (.lit (.hw 0)), .fn 75 [.lit (.ptr 1 0)], .leaf (.lit (.any)), .leaf (.lit (.any)), .leaf (.lit (.any)), .leaf (.lit (.any)), .leaf (.lit (.any)), .leaf (.int .i64), .leaf (.int .i64), .leaf (.lit (.any)), .leaf (.lit (.any)), .leaf (.lit (.any)), .leaf (.lit (.any)), .leaf (.lit (.any)), .leaf (.lit (.any)), .leaf (.lit (.any)), .leaf (.lit (.any)), .leaf (.lit (.any)), .leaf (.lit (.any))], [[.arr (.pair (.int .i64) (.pair .str (.pair (.slice .byte) (.pair (.slice .byte) (.pair (.int .i64) .unit)))))], [.int .i64, .str, .sl .ro .byte, .sl .ro .byte, .int .i64]]⟩
def slices_IndexFunc_lock_Lock_lock_Lock_l0e0 : SCode := ⟨[.leaf (.lit (.any)), .leaf (.lit (.any)), .leaf (.lit (.any)), .leaf (.lit (.any)), .leaf (.lit (.any)), .leaf (.lit (.any)), .leaf (.lit (.any)), .leaf (.lit (.any)), .leaf (.lit (.any)), .leaf (.lit (.any)), .leaf (.lit (.any)), .leaf (.lit (.any)), .leaf (.lit (.any)), .leaf (.lit (.any)), .leaf (.lit (.any)), .leaf (.lit (.any)), .leaf (.lit (.any)), .leaf (.lit (.any)), .leaf (.lit (.any))], [[.arr (.pair (.int .i64) (.pair .str (.pair (.slice .byte) (.pair (.slice .byte) (.pair (.int .i64) .unit)))))], [.int .i64, .str, .sl .ro .byte, .sl .ro .byte, .int .i64]]⟩
def slices_IndexFunc_lock_Lock_lock_Lock_l0e1 : SCode := ⟨[.leaf (.lit (.any)), .leaf (.lit (.any)), .leaf (.lit (.any)), .leaf (.lit (.any)), .leaf (.int .i64), .leaf (.lit (.any)), .leaf (.lit (.any)), .leaf (.lit (.any)), .leaf (.lit (.any)), .leaf (.lit (.any)), .leaf (.lit (.any)), .leaf (.lit (.any)), .leaf (.lit (.any)), .leaf (.lit (.any)), .leaf (.lit (.any)), .leaf (.lit (.any)), .leaf (.lit (.any)), .leaf (.lit (.any)), .leaf (.lit (.any))], [[.arr (.pair (.int .i64) (.pair .str (.pair (.slice .byte) (.pair (.slice .byte) (.pair (.int .i64) .unit)))))], [.int .i64, .str, .sl .ro .byte, .sl .ro .byte, .int .i64]]⟩
def slices_IndexFunc_lock_Lock_lock_Lock_l0h : LH := { env := [(0, .id), (1, .id), (7, .id), (8, .id)], sto := [], out := [(4, .id)], con := some (lconOf slices_IndexFunc_lock_Lock_lock_Lock_l0c fun R k x => slices_IndexFunc_lock_Lock_lock_Lock_l0 big R x.2.2.1 x.2.2.2.1 x.2.2.2.2.1 x.2.2.2.2.2.1 x.2.2.2.2.2.2.1 x.2.2.2.2.2.2.2.1 (k (.exit 0) (mkSt slices_IndexFunc_lock_Lock_lock_Lock_l0e0 (x.2.2.1, (x.2.2.2.1, (x.2.2.2.2.1, (x.2.2.2.2.2.1, (x.2.2.2.2.2.2.1, (x.2.2.2.2.2.2.2.1, ())))))))) (fun a0 => k .ret (mkSt slices_IndexFunc_lock_Lock_lock_Lock_l0e1 (a0, (x.2.2.1, (x.2.2.2.1, (x.2.2.2.2.1, (x.2.2.2.2.2.1, (x.2.2.2.2.2.2.1, (x.2.2.2.2.2.2.2.1, ()))))))))) big x.1 x.2.1), gc := some 2 }

def slices_IndexFunc_lock_Lock_lock_Lock_ac : SCode := ⟨[.leaf (.lit (.hw 0)), .fn 75 [.lit (.ptr 1 0)]], [[.arr (.pair (.int .i64) (.pair .str (.pair (.slice .byte) (.pair (.slice .byte) (.pair (.int .i64) .unit)))))], [.int .i64, .str, .sl .ro .byte, .sl .ro .byte, .int .i64]]⟩
def slices_IndexFunc_lock_Lock_lock_Lock_con : Con := conCalm [.arg 0, .cap 1 0] [] slices_IndexFunc_lock_Lock_lock_Lock_ac (.leaf (.int .i64)) fun x => slices_IndexFunc_lock_Lock_lock_Lock big x.1 x.2.1 x.2.2.1 x.2.2.2.1 x.2.2.2.2.1 x.2.2.2.2.2.1
theorem slices_IndexFunc_lock_Lock_lock_Lock_bnd {calm : List Nat} {f : Nat} : BndC calm f slices_IndexFunc_lock_Lock_lock_Lock_con := bndCalm
def slices_IndexFunc_lock_Lock_lock_Lock_cx : Cx := { tab := tab, con := [(75, lock_Locks_Ask_c1_con)], funs := [], loops := [], want := want, ret := [], calm := [75], bnd := [75], eqs := eqs, xl := true, xs := [96], xd := [] }
theorem slices_IndexFunc_lock_Lock_lock_Lock_cs : CsOk Go.Proofs.Try.prog X slices_IndexFunc_lock_Lock_lock_Lock_cx :=
  csOk ⟨fun _ _ h => tab_ok tabOk h, eqsOk⟩ mixed ⟨lock_Locks_Ask_c1_ok, trivial⟩ trivial ⟨lock_Locks_Ask_c1_bnd, trivial⟩ rfl

def slices_IndexFunc_lock_Lock_lock_Lock_keep : List (Nat × LH) := [(2, slices_IndexFunc_lock_Lock_lock_Lock_l0h)]
theorem slices_IndexFunc_lock_Lock_lock_Lock_L0s (R : Type) (recS : St → Option R) (k : Exit → St → Option R) (x : slices_IndexFunc_lock_Lock_lock_Lock_l0c.den) : evCode slices_IndexFunc_lock_Lock_lock_Lock_cx (hcN slices_IndexFunc_lock_Lock_lock_Lock_cx 1) slices_IndexFunc_lock_Lock_lock_Lock_keep (loopC Go.Proofs.Try.f85 0) (mkSt slices_IndexFunc_lock_Lock_lock_Lock_l0c x) (fun e st' => match e with | .normal => recS (norm slices_IndexFunc_lock_Lock_lock_Lock_l0h 2 st') | e => k e (normO slices_IndexFunc_lock_Lock_lock_Lock_l0h 2 st')) = (fun rec k x => slices_IndexFunc_lock_Lock_lock_Lock_l0B big R x.2.2.1 x.2.2.2.1 x.2.2.2.2.1 x.2.2.2.2.2.1 x.2.2.2.2.2.2.1 x.2.2.2.2.2.2.2.1 (fun a0 a1 => rec (a0, (a1, (x.2.2.1, (x.2.2.2.1, (x.2.2.2.2.1, (x.2.2.2.2.2.1, (x.2.2.2.2.2.2.1, (x.2.2.2.2.2.2.2.1, ()))))))))) (k (.exit 0) (mkSt slices_IndexFunc_lock_Lock_lock_Lock_l0e0 (x.2.2.1, (x.2.2.2.1, (x.2.2.2.2.1, (x.2.2.2.2.2.1, (x.2.2.2.2.2.2.1, (x.2.2.2.2.2.2.2.1, ())))))))) (fun a0 => k .ret (mkSt slices_IndexFunc_lock_Lock_lock_Lock_l0e1 (a0, (x.2.2.1, (x.2.2.2.1, (x.2.2.2.2.1, (x.2.2.2.2.2.1, (x.2.2.2.2.2.2.1, (x.2.2.2.2.2.2.2.1, ()))))))))) x.1 x.2.1) (fun y => recS (mkSt slices_IndexFunc_lock_Lock_lock_Lock_l0c y)) k x := by kernel_rfl
theorem slices_IndexFunc_lock_Lock_lock_Lock_L0 (R : Type) : LOkR (R := R) slices_IndexFunc_lock_Lock_lock_Lock_cx (hcN slices_IndexFunc_lock_Lock_lock_Lock_cx 1) slices_IndexFunc_lock_Lock_lock_Lock_keep (loopC Go.Proofs.Try.f85 0) :=
  lok_iter (lh := slices_IndexFunc_lock_Lock_lock_Lock_l0h) slices_IndexFunc_lock_Lock_lock_Lock_l0c (fun R n k x => slices_IndexFunc_lock_Lock_lock_Lock_l0 big R x.2.2.1 x.2.2.2.1 x.2.2.2.2.1 x.2.2.2.2.2.1 x.2.2.2.2.2.2.1 x.2.2.2.2.2.2.2.1 (k (.exit 0) (mkSt slices_IndexFunc_lock_Lock_lock_Lock_l0e0 (x.2.2.1, (x.2.2.2.1, (x.2.2.2.2.1, (x.2.2.2.2.2.1, (x.2.2.2.2.2.2.1, (x.2.2.2.2.2.2.2.1, ())))))))) (fun a0 => k .ret (mkSt slices_IndexFunc_lock_Lock_lock_Lock_l0e1 (a0, (x.2.2.1, (x.2.2.2.1, (x.2.2.2.2.1, (x.2.2.2.2.2.1, (x.2.2.2.2.2.2.1, (x.2.2.2.2.2.2.2.1, ()))))))))) n x.1 x.2.1) (fun _ => big) (fun rec k x => slices_IndexFunc_lock_Lock_lock_Lock_l0B big R x.2.2.1 x.2.2.2.1 x.2.2.2.2.1 x.2.2.2.2.2.1 x.2.2.2.2.2.2.1 x.2.2.2.2.2.2.2.1 (fun a0 a1 => rec (a0, (a1, (x.2.2.1, (x.2.2.2.1, (x.2.2.2.2.1, (x.2.2.2.2.2.1, (x.2.2.2.2.2.2.1, (x.2.2.2.2.2.2.2.1, ()))))))))) (k (.exit 0) (mkSt slices_IndexFunc_lock_Lock_lock_Lock_l0e0 (x.2.2.1, (x.2.2.2.1, (x.2.2.2.2.1, (x.2.2.2.2.2.1, (x.2.2.2.2.2.2.1, (x.2.2.2.2.2.2.2.1, ())))))))) (fun a0 => k .ret (mkSt slices_IndexFunc_lock_Lock_lock_Lock_l0e1 (a0, (x.2.2.1, (x.2.2.2.1, (x.2.2.2.2.1, (x.2.2.2.2.2.1, (x.2.2.2.2.2.2.1, (x.2.2.2.2.2.2.2.1, ()))))))))) x.1 x.2.1) rfl rfl (slices_IndexFunc_lock_Lock_lock_Lock_L0s R) (fun _ _ => rfl) (fun _ _ _ => rfl)

theorem slices_IndexFunc_lock_Lock_lock_Lock_raw : ConOk Go.Proofs.Try.prog X 85 (fun _ args sto K => evBody slices_IndexFunc_lock_Lock_lock_Lock_cx (hcN slices_IndexFunc_lock_Lock_lock_Lock_cx 1) slices_IndexFunc_lock_Lock_lock_Lock_keep [] [] Go.Proofs.Try.f85 (bodyC Go.Proofs.Try.f85) args sto K) :=
  raw_ok slices_IndexFunc_lock_Lock_lock_Lock_cs 1 Go.Proofs.Try.func85 (by kernel_rfl) rfl fun R => loops_all 1 (by kernel_rfl) (fun i hi => match i, hi with | 0, _ => slices_IndexFunc_lock_Lock_lock_Lock_L0 R | n + 1, h => absurd h (by omega))

theorem slices_IndexFunc_lock_Lock_lock_Lock_T (R : Type) (K : D → Sto → Option R) (x : slices_IndexFunc_lock_Lock_lock_Lock_ac.den) : evBody slices_IndexFunc_lock_Lock_lock_Lock_cx (hcN slices_IndexFunc_lock_Lock_lock_Lock_cx 1) slices_IndexFunc_lock_Lock_lock_Lock_keep [] [] Go.Proofs.Try.f85 (bodyC Go.Proofs.Try.f85) (mkSt slices_IndexFunc_lock_Lock_lock_Lock_ac x).env (mkSt slices_IndexFunc_lock_Lock_lock_Lock_ac x).sto K = slices_IndexFunc_lock_Lock_lock_Lock_cps big R (fun a0 => K ((mkE [.leaf (.int .i64)] (T := Unit) (a0, ())).1.headD .any) (mkSt slices_IndexFunc_lock_Lock_lock_Lock_ac x).sto) x.1 x.2.1 x.2.2.1 x.2.2.2.1 x.2.2.2.2.1 x.2.2.2.2.2.1 := by kernel_rfl
theorem slices_IndexFunc_lock_Lock_lock_Lock_ok : ConOk Go.Proofs.Try.prog X 85 slices_IndexFunc_lock_Lock_lock_Lock_con :=
  conCalm_ok (src := [.arg 0, .cap 1 0]) (sh := []) (rs := .leaf (.int .i64)) slices_IndexFunc_lock_Lock_lock_Lock_raw (fun R K (x : slices_IndexFunc_lock_Lock_lock_Lock_ac.den) => slices_IndexFunc_lock_Lock_lock_Lock_cps big R (fun a0 => K (a0, ())) x.1 x.2.1 x.2.2.1 x.2.2.2.1 x.2.2.2.2.1 x.2.2.2.2.2.1) slices_IndexFunc_lock_Lock_lock_Lock_T

/-! 74 slices.ContainsFunc[[]frankpledge/lock.Lock,frankpledge/lock.Lock] -/
def slices_ContainsFunc_lock_Lock_lock_Lock_ac : SCode := ⟨[.leaf (.lit (.hw 0)), .fn 75 [.lit (.ptr 1 0)]], [[.arr (.pair (.int .i64) (.pair .str (.pair (.slice .byte) (.pair (.slice .byte) (.pair (.int .i64) .unit)))))], [.int .i64, .str, .sl .ro .byte, .sl .ro .byte, .int .i64]]⟩
def slices_ContainsFunc_lock_Lock_lock_Lock_con : Con := conCalm [.arg 0, .cap 1 0] [] slices_ContainsFunc_lock_Lock_lock_Lock_ac (.leaf (.bool)) fun x => slices_ContainsFunc_lock_Lock_lock_Lock big x.1 x.2.1 x.2.2.1 x.2.2.2.1 x.2.2.2.2.1 x.2.2.2.2.2.1
theorem slices_ContainsFunc_lock_Lock_lock_Lock_bnd {calm : List Nat} {f : Nat} : BndC calm f slices_ContainsFunc_lock_Lock_lock_Lock_con := bndCalm
def slices_ContainsFunc_lock_Lock_lock_Lock_cx : Cx := { tab := tab, con := [(85, slices_IndexFunc_lock_Lock_lock_Lock_con)], funs := [], loops := [], want := want, ret := [], calm := [85], bnd := [85], eqs := eqs }
theorem slices_ContainsFunc_lock_Lock_lock_Lock_cs : CsOk Go.Proofs.Try.prog X slices_ContainsFunc_lock_Lock_lock_Lock_cx :=
  csOk ⟨fun _ _ h => tab_ok tabOk h, eqsOk⟩ mixed ⟨slices_IndexFunc_lock_Lock_lock_Lock_ok, trivial⟩ trivial ⟨slices_IndexFunc_lock_Lock_lock_Lock_bnd, trivial⟩ rfl

def slices_ContainsFunc_lock_Lock_lock_Lock_keep : List (Nat × LH) := []
theorem slices_ContainsFunc_lock_Lock_lock_Lock_raw : ConOk Go.Proofs.Try.prog X 74 (fun _ args sto K => evBody slices_ContainsFunc_lock_Lock_lock_Lock_cx (hcN slices_ContainsFunc_lock_Lock_lock_Lock_cx 1) slices_ContainsFunc_lock_Lock_lock_Lock_keep [] [] Go.Proofs.Try.f74 (bodyC Go.Proofs.Try.f74) args sto K) :=
  raw_ok slices_ContainsFunc_lock_Lock_lock_Lock_cs 1 Go.Proofs.Try.func74 (by kernel_rfl) rfl fun R => loops_all 0 (by kernel_rfl) (fun i hi => absurd hi (Nat.not_lt_zero i))

theorem slices_ContainsFunc_lock_Lock_lock_Lock_T (R : Type) (K : D → Sto → Option R) (x : slices_ContainsFunc_lock_Lock_lock_Lock_ac.den) : evBody slices_ContainsFunc_lock_Lock_lock_Lock_cx (hcN slices_ContainsFunc_lock_Lock_lock_Lock_cx 1) slices_ContainsFunc_lock_Lock_lock_Lock_keep [] [] Go.Proofs.Try.f74 (bodyC Go.Proofs.Try.f74) (mkSt slices_ContainsFunc_lock_Lock_lock_Lock_ac x).env (mkSt slices_ContainsFunc_lock_Lock_lock_Lock_ac x).sto K = slices_ContainsFunc_lock_Lock_lock_Lock_cps big R (fun a0 => K ((mkE [.leaf (.bool)] (T := Unit) (a0, ())).1.headD .any) (mkSt slices_ContainsFunc_lock_Lock_lock_Lock_ac x).sto) x.1 x.2.1 x.2.2.1 x.2.2.2.1 x.2.2.2.2.1 x.2.2.2.2.2.1 := by kernel_rfl
theorem slices_ContainsFunc_lock_Lock_lock_Lock_ok : ConOk Go.Proofs.Try.prog X 74 slices_ContainsFunc_lock_Lock_lock_Lock_con :=
  conCalm_ok (src := [.arg 0, .cap 1 0]) (sh := []) (rs := .leaf (.bool)) slices_ContainsFunc_lock_Lock_lock_Lock_raw (fun R K (x : slices_ContainsFunc_lock_Lock_lock_Lock_ac.den) => slices_ContainsFunc_lock_Lock_lock_Lock_cps big R (fun a0 => K (a0, ())) x.1 x.2.1 x.2.2.1 x.2.2.2.1 x.2.2.2.2.1 x.2.2.2.2.2.1) slices_ContainsFunc_lock_Lock_lock_Lock_T

/-! 77 (frankpledge/lock.Lock).covers -/
def lock_Lock_covers_ac : SCode := ⟨[.agg [.int .i64, .str, .sl .ro .byte, .sl .ro .byte, .int .i64], .agg [.int .i64, .str, .sl .ro .byte, .sl .ro .byte, .int .i64]], []⟩
def lock_Lock_covers_con : Con := conCalm [] [] lock_Lock_covers_ac (.leaf (.bool)) fun x => lock_Lock_covers big x.1 x.2.1 x.2.2.1 x.2.2.2.1 x.2.2.2.2.1 x.2.2.2.2.2.1 x.2.2.2.2.2.2.1 x.2.2.2.2.2.2.2.1 x.2.2.2.2.2.2.2.2.1 x.2.2.2.2.2.2.2.2.2.1
theorem lock_Lock_covers_bnd {calm : List Nat} {f : Nat} : BndC calm f lock_Lock_covers_con := bndCalm
def lock_Lock_covers_cx : Cx := { tab := tab, con := [(67, bytes_Compare_con)], funs := [], loops := [], want := want, ret := [], calm := [67], bnd := [67], eqs := eqs }
theorem lock_Lock_covers_cs : CsOk Go.Proofs.Try.prog X lock_Lock_covers_cx :=
  csOk ⟨fun _ _ h => tab_ok tabOk h, eqsOk⟩ mixed ⟨bytes_Compare_ok, trivial⟩ trivial ⟨bytes_Compare_bnd, trivial⟩ rfl

def lock_Lock_covers_keep : List (Nat × LH) := []
theorem lock_Lock_covers_raw : ConOk Go.Proofs.Try.prog X 77 (fun _ args sto K => evBody lock_Lock_covers_cx (hcN lock_Lock_covers_cx 1) lock_Lock_covers_keep [] [] Go.Proofs.Try.f77 (bodyC Go.Proofs.Try.f77) args sto K) :=
  raw_ok lock_Lock_covers_cs 1 Go.Proofs.Try.func77 (by kernel_rfl) rfl fun R => loops_all 0 (by kernel_rfl) (fun i hi => absurd hi (Nat.not_lt_zero i))

theorem lock_Lock_covers_T (R : Type) (K : D → Sto → Option R) (x : lock_Lock_covers_ac.den) : evBody lock_Lock_covers_cx (hcN lock_Lock_covers_cx 1) lock_Lock_covers_keep [] [] Go.Proofs.Try.f77 (bodyC Go.Proofs.Try.f77) (mkSt lock_Lock_covers_ac x).env (mkSt lock_Lock_covers_ac x).sto K = lock_Lock_covers_cps big R (fun a0 => K ((mkE [.leaf (.bool)] (T := Unit) (a0, ())).1.headD .any) (mkSt lock_Lock_covers_ac x).sto) x.1 x.2.1 x.2.2.1 x.2.2.2.1 x.2.2.2.2.1 x.2.2.2.2.2.1 x.2.2.2.2.2.2.1 x.2.2.2.2.2.2.2.1 x.2.2.2.2.2.2.2.2.1 x.2.2.2.2.2.2.2.2.2.1 := by kernel_rfl
theorem lock_Lock_covers_ok : ConOk Go.Proofs.Try.prog X 77 lock_Lock_covers_con :=
  conCalm_ok (src := []) (sh := []) (rs := .leaf (.bool)) lock_Lock_covers_raw (fun R K (x : lock_Lock_covers_ac.den) => lock_Lock_covers_cps big R (fun a0 => K (a0, ())) x.1 x.2.1 x.2.2.1 x.2.2.2.1 x.2.2.2.2.1 x.2.2.2.2.2.1 x.2.2.2.2.2.2.1 x.2.2.2.2.2.2.2.1 x.2.2.2.2.2.2.2.2.1 x.2.2.2.2.2.2.2.2.2.1) lock_Lock_covers_T

/-! 76 (*frankpledge/lock.Locks).Ask$2 -/
def lock_Locks_Ask_c2_ac : SCode := ⟨[.agg [.int .i64, .str, .sl .ro .byte, .sl .ro .byte, .int .i64], .leaf (.lit (.ptr 0 0))], [[.int .i64, .str, .sl .ro .byte, .sl .ro .byte, .int .i64]]⟩
def lock_Locks_Ask_c2_con : Con := conCalm [.arg 1] [] lock_Locks_Ask_c2_ac (.leaf (.bool)) fun x => lock_Locks_Ask_c2 big x.1 x.2.1 x.2.2.1 x.2.2.2.1 x.2.2.2.2.1 x.2.2.2.2.2.1 x.2.2.2.2.2.2.1 x.2.2.2.2.2.2.2.1 x.2.2.2.2.2.2.2.2.1 x.2.2.2.2.2.2.2.2.2.1
theorem lock_Locks_Ask_c2_bnd {calm : List Nat} {f : Nat} : BndC calm f lock_Locks_Ask_c2_con := bndCalm
def lock_Locks_Ask_c2_cx : Cx := { tab := tab, con := [(77, lock_Lock_covers_con)], funs := [], loops := [], want := want, ret := [], calm := [77], bnd := [77], eqs := eqs }
theorem lock_Locks_Ask_c2_cs : CsOk Go.Proofs.Try.prog X lock_Locks_Ask_c2_cx :=
  csOk ⟨fun _ _ h => tab_ok tabOk h, eqsOk⟩ mixed ⟨lock_Lock_covers_ok, trivial⟩ trivial ⟨lock_Lock_covers_bnd, trivial⟩ rfl

def lock_Locks_Ask_c2_keep : List (Nat × LH) := []
theorem lock_Locks_Ask_c2_raw : ConOk Go.Proofs.Try.prog X 76 (fun _ args sto K => evBody lock_Locks_Ask_c2_cx (hcN lock_Locks_Ask_c2_cx 1) lock_Locks_Ask_c2_keep [] [] Go.Proofs.Try.f76 (bodyC Go.Proofs.Try.f76) args sto K) :=
  raw_ok lock_Locks_Ask_c2_cs 1 Go.Proofs.Try.func76 (by kernel_rfl) rfl fun R => loops_all 0 (by kernel_rfl) (fun i hi => absurd hi (Nat.not_lt_zero i))

theorem lock_Locks_Ask_c2_T (R : Type) (K : D → Sto → Option R) (x : lock_Locks_Ask_c2_ac.den) : evBody lock_Locks_Ask_c2_cx (hcN lock_Locks_Ask_c2_cx 1) lock_Locks_Ask_c2_keep [] [] Go.Proofs.Try.f76 (bodyC Go.Proofs.Try.f76) (mkSt lock_Locks_Ask_c2_ac x).env (mkSt lock_Locks_Ask_c2_ac x).sto K = lock_Locks_Ask_c2_cps big R (fun a0 => K ((mkE [.leaf (.bool)] (T := Unit) (a0, ())).1.headD .any) (mkSt lock_Locks_Ask_c2_ac x).sto) x.1 x.2.1 x.2.2.1 x.2.2.2.1 x.2.2.2.2.1 x.2.2.2.2.2.1 x.2.2.2.2.2.2.1 x.2.2.2.2.2.2.2.1 x.2.2.2.2.2.2.2.2.1 x.2.2.2.2.2.2.2.2.2.1 := by kernel_rfl
theorem lock_Locks_Ask_c2_ok : ConOk Go.Proofs.Try.prog X 76 lock_Locks_Ask_c2_con :=
  conCalm_ok (src := [.arg 1]) (sh := []) (rs := .leaf (.bool)) lock_Locks_Ask_c2_raw (fun R K (x : lock_Locks_Ask_c2_ac.den) => lock_Locks_Ask_c2_cps big R (fun a0 => K (a0, ())) x.1 x.2.1 x.2.2.1 x.2.2.2.1 x.2.2.2.2.1 x.2.2.2.2.2.1 x.2.2.2.2.2.2.1 x.2.2.2.2.2.2.2.1 x.2.2.2.2.2.2.2.2.1 x.2.2.2.2.2.2.2.2.2.1) lock_Locks_Ask_c2_T

/-! 85 slices.IndexFunc[[]frankpledge/lock.Lock,frankpledge/lock.Lock] -/
def slices_IndexFunc_lock_Lock_lock_Lock_1_l0c : SCode := ⟨[.leaf (.lit (.hw 0)), .fn 76 [.lit (.ptr 1 0)], .leaf (.lit (.any)), .leaf (.lit (.any)), .leaf (.lit (.any)), .leaf (.lit (.any)), .leaf (.lit (.any)), .leaf (.int .i64), .leaf (.int .i64), .leaf (.lit (.any)), .leaf (.lit (.any)), .leaf (.lit (.any)), .leaf (.lit (.any)), .leaf (.lit (.any)), .leaf (.lit (.any)), .leaf (.lit (.any)), .leaf (.lit (.any)), .leaf (.lit (.any)), .leaf (.lit (.any))], [[.arr (.pair (.int .i64) (.pair .str (.pair (.slice .byte) (.pair (.slice .byte) (.pair (.int .i64) .unit)))))], [.int .i64, .str, .sl .ro .byte, .sl .ro .byte, .int .i64]]⟩
def slices_IndexFunc_lock_Lock_lock_Lock_1_l0e0 : SCode := ⟨[.leaf (.lit (.any)), .leaf (.lit (.any)), .leaf (.lit (.any)), .leaf (.lit (.any)), .leaf (.lit (.any)), .leaf (.lit (.any)), .leaf (.lit (.any)), .leaf (.lit (.any)), .leaf (.lit (.any)), .leaf (.lit (.any)), .leaf (.lit (.any)), .leaf (.lit (.any)), .leaf (.lit (.any)), .leaf (.lit (.any)), .leaf (.lit (.any)), .leaf (.lit (.any)), .leaf (.lit (.any)), .leaf (.lit (.any)), .leaf (.lit (.any))], [[.arr (.pair (.int .i64) (.pair .str (.pair (.slice .byte) (.pair (.slice .byte) (.pair (.int .i64) .unit)))))], [.int .i64, .str, .sl .ro .byte, .sl .ro .byte, .int .i64]]⟩
def slices_IndexFunc_lock_Lock_lock_Lock_1_l0e1 : SCode := ⟨[.leaf (.lit (.any)), .leaf (.lit (.any)), .leaf (.lit (.any)), .leaf (.lit (.any)), .leaf (.int .i64), .leaf (.lit (.any)), .leaf (.lit (.any)), .leaf (.lit (.any)), .leaf (.lit (.any)), .leaf (.lit (.any)), .leaf (.lit (.any)), .leaf (.lit (.any)), .leaf (.lit (.any)), .leaf (.lit (.any)), .leaf (.lit (.any)), .leaf (.lit (.any)), .leaf (.lit (.any)), .leaf (.lit (.any)), .leaf (.lit (.any))], [[.arr (.pair (.int .i64) (.pair .str (.pair (.slice .byte) (.pair (.slice .byte) (.pair (.int .i64) .unit)))))], [.int .i64, .str, .sl .ro .byte, .sl .ro .byte, .int .i64]]⟩
def slices_IndexFunc_lock_Lock_lock_Lock_1_l0h : LH := { env := [(0, .id), (1, .id), (7, .id), (8, .id)], sto := [], out := [(4, .id)], con := some (lconOf slices_IndexFunc_lock_Lock_lock_Lock_1_l0c fun R k x => slices_IndexFunc_lock_Lock_lock_Lock_1_l0 big R x.2.2.1 x.2.2.2.1 x.2.2.2.2.1 x.2.2.2.2.2.1 x.2.2.2.2.2.2.1 x.2.2.2.2.2.2.2.1 (k (.exit 0) (mkSt slices_IndexFunc_lock_Lock_lock_Lock_1_l0e0 (x.2.2.1, (x.2.2.2.1, (x.2.2.2.2.1, (x.2.2.2.2.2.1, (x.2.2.2.2.2.2.1, (x.2.2.2.2.2.2.2.1, ())))))))) (fun a0 => k .ret (mkSt slices_IndexFunc_lock_Lock_lock_Lock_1_l0e1 (a0, (x.2.2.1, (x.2.2.2.1, (x.2.2.2.2.1, (x.2.2.2.2.2.1, (x.2.2.2.2.2.2.1, (x.2.2.2.2.2.2.2.1, ()))))))))) big x.1 x.2.1), gc := some 2 }

def slices_IndexFunc_lock_Lock_lock_Lock_1_ac : SCode := ⟨[.leaf (.lit (.hw 0)), .fn 76 [.lit (.ptr 1 0)]], [[.arr (.pair (.int .i64) (.pair .str (.pair (.slice .byte) (.pair (.slice .byte) (.pair (.int .i64) .unit)))))], [.int .i64, .str, .sl .ro .byte, .sl .ro .byte, .int .i64]]⟩
def slices_IndexFunc_lock_Lock_lock_Lock_1_con : Con := conCalm [.arg 0, .cap 1 0] [] slices_IndexFunc_lock_Lock_lock_Lock_1_ac (.leaf (.int .i64)) fun x => slices_IndexFunc_lock_Lock_lock_Lock_1 big x.1 x.2.1 x.2.2.1 x.2.2.2.1 x.2.2.2.2.1 x.2.2.2.2.2.1
theorem slices_IndexFunc_lock_Lock_lock_Lock_1_bnd {calm : List Nat} {f : Nat} : BndC calm f slices_IndexFunc_lock_Lock_lock_Lock_1_con := bndCalm
def slices_IndexFunc_lock_Lock_lock_Lock_1_cx : Cx := { tab := tab, con := [(76, lock_Locks_Ask_c2_con)], funs := [], loops := [], want := want, ret := [], calm := [76], bnd := [76], eqs := eqs, xl := true, xs := [96], xd := [] }
theorem slices_IndexFunc_lock_Lock_lock_Lock_1_cs : CsOk Go.Proofs.Try.prog X slices_IndexFunc_lock_Lock_lock_Lock_1_cx :=
  csOk ⟨fun _ _ h => tab_ok tabOk h, eqsOk⟩ mixed ⟨lock_Locks_Ask_c2_ok, trivial⟩ trivial ⟨lock_Locks_Ask_c2_bnd, trivial⟩ rfl

def slices_IndexFunc_lock_Lock_lock_Lock_1_keep : List (Nat × LH) := [(2, slices_IndexFunc_lock_Lock_lock_Lock_1_l0h)]
theorem slices_IndexFunc_lock_Lock_lock_Lock_1_L0s (R : Type) (recS : St → Option R) (k : Exit → St → Option R) (x : slices_IndexFunc_lock_Lock_lock_Lock_1_l0c.den) : evCode slices_IndexFunc_lock_Lock_lock_Lock_1_cx (hcN slices_IndexFunc_lock_Lock_lock_Lock_1_cx 1) slices_IndexFunc_lock_Lock_lock_Lock_1_keep (loopC Go.Proofs.Try.f85 0) (mkSt slices_IndexFunc_lock_Lock_lock_Lock_1_l0c x) (fun e st' => match e with | .normal => recS (norm slices_IndexFunc_lock_Lock_lock_Lock_1_l0h 2 st') | e => k e (normO slices_IndexFunc_lock_Lock_lock_Lock_1_l0h 2 st')) = (fun rec k x => slices_IndexFunc_lock_Lock_lock_Lock_1_l0B big R x.2.2.1 x.2.2.2.1 x.2.2.2.2.1 x.2.2.2.2.2.1 x.2.2.2.2.2.2.1 x.2.2.2.2.2.2.2.1 (fun a0 a1 => rec (a0, (a1, (x.2.2.1, (x.2.2.2.1, (x.2.2.2.2.1, (x.2.2.2.2.2.1, (x.2.2.2.2.2.2.1, (x.2.2.2.2.2.2.2.1, ()))))))))) (k (.exit 0) (mkSt slices_IndexFunc_lock_Lock_lock_Lock_1_l0e0 (x.2.2.1, (x.2.2.2.1, (x.2.2.2.2.1, (x.2.2.2.2.2.1, (x.2.2.2.2.2.2.1, (x.2.2.2.2.2.2.2.1, ())))))))) (fun a0 => k .ret (mkSt slices_IndexFunc_lock_Lock_lock_Lock_1_l0e1 (a0, (x.2.2.1, (x.2.2.2.1, (x.2.2.2.2.1, (x.2.2.2.2.2.1, (x.2.2.2.2.2.2.1, (x.2.2.2.2.2.2.2.1, ()))))))))) x.1 x.2.1) (fun y => recS (mkSt slices_IndexFunc_lock_Lock_lock_Lock_1_l0c y)) k x := by kernel_rfl
theorem slices_IndexFunc_lock_Lock_lock_Lock_1_L0 (R : Type) : LOkR (R := R) slices_IndexFunc_lock_Lock_lock_Lock_1_cx (hcN slices_IndexFunc_lock_Lock_lock_Lock_1_cx 1) slices_IndexFunc_lock_Lock_lock_Lock_1_keep (loopC Go.Proofs.Try.f85 0) :=
  lok_iter (lh := slices_IndexFunc_lock_Lock_lock_Lock_1_l0h) slices_IndexFunc_lock_Lock_lock_Lock_1_l0c (fun R n k x => slices_IndexFunc_lock_Lock_lock_Lock_1_l0 big R x.2.2.1 x.2.2.2.1 x.2.2.2.2.1 x.2.2.2.2.2.1 x.2.2.2.2.2.2.1 x.2.2.2.2.2.2.2.1 (k (.exit 0) (mkSt slices_IndexFunc_lock_Lock_lock_Lock_1_l0e0 (x.2.2.1, (x.2.2.2.1, (x.2.2.2.2.1, (x.2.2.2.2.2.1, (x.2.2.2.2.2.2.1, (x.2.2.2.2.2.2.2.1, ())))))))) (fun a0 => k .ret (mkSt slices_IndexFunc_lock_Lock_lock_Lock_1_l0e1 (a0, (x.2.2.1, (x.2.2.2.1, (x.2.2.2.2.1, (x.2.2.2.2.2.1, (x.2.2.2.2.2.2.1, (x.2.2.2.2.2.2.2.1, ()))))))))) n x.1 x.2.1) (fun _ => big) (fun rec k x => slices_IndexFunc_lock_Lock_lock_Lock_1_l0B big R x.2.2.1 x.2.2.2.1 x.2.2.2.2.1 x.2.2.2.2.2.1 x.2.2.2.2.2.2.1 x.2.2.2.2.2.2.2.1 (fun a0 a1 => rec (a0, (a1, (x.2.2.1, (x.2.2.2.1, (x.2.2.2.2.1, (x.2.2.2.2.2.1, (x.2.2.2.2.2.2.1, (x.2.2.2.2.2.2.2.1, ()))))))))) (k (.exit 0) (mkSt slices_IndexFunc_lock_Lock_lock_Lock_1_l0e0 (x.2.2.1, (x.2.2.2.1, (x.2.2.2.2.1, (x.2.2.2.2.2.1, (x.2.2.2.2.2.2.1, (x.2.2.2.2.2.2.2.1, ())))))))) (fun a0 => k .ret (mkSt slices_IndexFunc_lock_Lock_lock_Lock_1_l0e1 (a0, (x.2.2.1, (x.2.2.2.1, (x.2.2.2.2.1, (x.2.2.2.2.2.1, (x.2.2.2.2.2.2.1, (x.2.2.2.2.2.2.2.1, ()))))))))) x.1 x.2.1) rfl rfl (slices_IndexFunc_lock_Lock_lock_Lock_1_L0s R) (fun _ _ => rfl) (fun _ _ _ => rfl)

theorem slices_IndexFunc_lock_Lock_lock_Lock_1_raw : ConOk Go.Proofs.Try.prog X 85 (fun _ args sto K => evBody slices_IndexFunc_lock_Lock_lock_Lock_1_cx (hcN slices_IndexFunc_lock_Lock_lock_Lock_1_cx 1) slices_IndexFunc_lock_Lock_lock_Lock_1_keep [] [] Go.Proofs.Try.f85 (bodyC Go.Proofs.Try.f85) args sto K) :=
  raw_ok slices_IndexFunc_lock_Lock_lock_Lock_1_cs 1 Go.Proofs.Try.func85 (by kernel_rfl) rfl fun R => loops_all 1 (by kernel_rfl) (fun i hi => match i, hi with | 0, _ => slices_IndexFunc_lock_Lock_lock_Lock_1_L0 R | n + 1, h => absurd h (by omega))

theorem slices_IndexFunc_lock_Lock_lock_Lock_1_T (R : Type) (K : D → Sto → Option R) (x : slices_IndexFunc_lock_Lock_lock_Lock_1_ac.den) : evBody slices_IndexFunc_lock_Lock_lock_Lock_1_cx (hcN slices_IndexFunc_lock_Lock_lock_Lock_1_cx 1) slices_IndexFunc_lock_Lock_lock_Lock_1_keep [] [] Go.Proofs.Try.f85 (bodyC Go.Proofs.Try.f85) (mkSt slices_IndexFunc_lock_Lock_lock_Lock_1_ac x).env (mkSt slices_IndexFunc_lock_Lock_lock_Lock_1_ac x).sto K = slices_IndexFunc_lock_Lock_lock_Lock_1_cps big R (fun a0 => K ((mkE [.leaf (.int .i64)] (T := Unit) (a0, ())).1.headD .any) (mkSt slices_IndexFunc_lock_Lock_lock_Lock_1_ac x).sto) x.1 x.2.1 x.2.2.1 x.2.2.2.1 x.2.2.2.2.1 x.2.2.2.2.2.1 := by kernel_rfl
theorem slices_IndexFunc_lock_Lock_lock_Lock_1_ok : ConOk Go.Proofs.Try.prog X 85 slices_IndexFunc_lock_Lock_lock_Lock_1_con :=
  conCalm_ok (src := [.arg 0, .cap 1 0]) (sh := []) (rs := .leaf (.int .i64)) slices_IndexFunc_lock_Lock_lock_Lock_1_raw (fun R K (x : slices_IndexFunc_lock_Lock_lock_Lock_1_ac.den) => slices_IndexFunc_lock_Lock_lock_Lock_1_cps big R (fun a0 => K (a0, ())) x.1 x.2.1 x.2.2.1 x.2.2.2.1 x.2.2.2.2.1 x.2.2.2.2.2.1) slices_IndexFunc_lock_Lock_lock_Lock_1_T

/-! 74 slices.ContainsFunc[[]frankpledge/lock.Lock,frankpledge/lock.Lock] -/
def slices_ContainsFunc_lock_Lock_lock_Lock_1_ac : SCode := ⟨[.leaf (.lit (.hw 0)), .fn 76 [.lit (.ptr 1 0)]], [[.arr (.pair (.int .i64) (.pair .str (.pair (.slice .byte) (.pair (.slice .byte) (.pair (.int .i64) .unit)))))], [.int .i64, .str, .sl .ro .byte, .sl .ro .byte, .int .i64]]⟩
def slices_ContainsFunc_lock_Lock_lock_Lock_1_con : Con := conCalm [.arg 0, .cap 1 0] [] slices_ContainsFunc_lock_Lock_lock_Lock_1_ac (.leaf (.bool)) fun x => slices_ContainsFunc_lock_Lock_lock_Lock_1 big x.1 x.2.1 x.2.2.1 x.2.2.2.1 x.2.2.2.2.1 x.2.2.2.2.2.1
theorem slices_ContainsFunc_lock_Lock_lock_Lock_1_bnd {calm : List Nat} {f : Nat} : BndC calm f slices_ContainsFunc_lock_Lock_lock_Lock_1_con := bndCalm
def slices_ContainsFunc_lock_Lock_lock_Lock_1_cx : Cx := { tab := tab, con := [(85, slices_IndexFunc_lock_Lock_lock_Lock_1_con)], funs := [], loops := [], want := want, ret := [], calm := [85], bnd := [85], eqs := eqs }
theorem slices_ContainsFunc_lock_Lock_lock_Lock_1_cs : CsOk Go.Proofs.Try.prog X slices_ContainsFunc_lock_Lock_lock_Lock_1_cx :=
  csOk ⟨fun _ _ h => tab_ok tabOk h, eqsOk⟩ mixed ⟨slices_IndexFunc_lock_Lock_lock_Lock_1_ok, trivial⟩ trivial ⟨slices_IndexFunc_lock_Lock_lock_Lock_1_bnd, trivial⟩ rfl

def slices_ContainsFunc_lock_Lock_lock_Lock_1_keep : List (Nat × LH) := []
theorem slices_ContainsFunc_lock_Lock_lock_Lock_1_raw : ConOk Go.Proofs.Try.prog X 74 (fun _ args sto K => evBody slices_ContainsFunc_lock_Lock_lock_Lock_1_cx (hcN slices_ContainsFunc_lock_Lock_lock_Lock_1_cx 1) slices_ContainsFunc_lock_Lock_lock_Lock_1_keep [] [] Go.Proofs.Try.f74 (bodyC Go.Proofs.Try.f74) args sto K) :=
  raw_ok slices_ContainsFunc_lock_Lock_lock_Lock_1_cs 1 Go.Proofs.Try.func74 (by kernel_rfl) rfl fun R => loops_all 0 (by kernel_rfl) (fun i hi => absurd hi (Nat.not_lt_zero i))

theorem slices_ContainsFunc_lock_Lock_lock_Lock_1_T (R : Type) (K : D → Sto → Option R) (x : slices_ContainsFunc_lock_Lock_lock_Lock_1_ac.den) : evBody slices_ContainsFunc_lock_Lock_lock_Lock_1_cx (hcN slices_ContainsFunc_lock_Lock_lock_Lock_1_cx 1) slices_ContainsFunc_lock_Lock_lock_Lock_1_keep [] [] Go.Proofs.Try.f74 (bodyC Go.Proofs.Try.f74) (mkSt slices_ContainsFunc_lock_Lock_lock_Lock_1_ac x).env (mkSt slices_ContainsFunc_lock_Lock_lock_Lock_1_ac x).sto K = slices_ContainsFunc_lock_Lock_lock_Lock_1_cps big R (fun a0 => K ((mkE [.leaf (.bool)] (T := Unit) (a0, ())).1.headD .any) (mkSt slices_ContainsFunc_lock_Lock_lock_Lock_1_ac x).sto) x.1 x.2.1 x.2.2.1 x.2.2.2.1 x.2.2.2.2.1 x.2.2.2.2.2.1 := by kernel_rfl
theorem slices_ContainsFunc_lock_Lock_lock_Lock_1_ok : ConOk Go.Proofs.Try.prog X 74 slices_ContainsFunc_lock_Lock_lock_Lock_1_con :=
  conCalm_ok (src := [.arg 0, .cap 1 0]) (sh := []) (rs := .leaf (.bool)) slices_ContainsFunc_lock_Lock_lock_Lock_1_raw (fun R K (x : slices_ContainsFunc_lock_Lock_lock_Lock_1_ac.den) => slices_ContainsFunc_lock_Lock_lock_Lock_1_cps big R (fun a0 => K (a0, ())) x.1 x.2.1 x.2.2.1 x.2.2.2.1 x.2.2.2.2.1 x.2.2.2.2.2.1) slices_ContainsFunc_lock_Lock_lock_Lock_1_T

/-! 55 bytes.Clone -/
def bytes_Clone_ac : SCode := ⟨[.leaf (.sl .nn .byte)], []⟩
def bytes_Clone_con : Con := conCalm [] [] bytes_Clone_ac (.leaf (.sl .own .byte)) fun x => bytes_Clone big x.1
theorem bytes_Clone_bnd {calm : List Nat} {f : Nat} : BndC calm f bytes_Clone_con := bndCalm
def bytes_Clone_cx : Cx := { tab := tab, con := [], funs := [], loops := [], want := want, ret := [], calm := [], bnd := [], eqs := eqs }
theorem bytes_Clone_cs : CsOk Go.Proofs.Try.prog X bytes_Clone_cx :=
  csOk ⟨fun _ _ h => tab_ok tabOk h, eqsOk⟩ mixed trivial trivial trivial rfl

def bytes_Clone_keep : List (Nat × LH) := []
theorem bytes_Clone_raw : ConOk Go.Proofs.Try.prog X 55 (fun _ args sto K => evBody bytes_Clone_cx (hcN bytes_Clone_cx 1) bytes_Clone_keep [] [] Go.Proofs.Try.f55 (bodyC Go.Proofs.Try.f55) args sto K) :=
  raw_ok bytes_Clone_cs 1 Go.Proofs.Try.func55 (by kernel_rfl) rfl fun R => loops_all 0 (by kernel_rfl) (fun i hi => absurd hi (Nat.not_lt_zero i))

theorem bytes_Clone_T (R : Type) (K : D → Sto → Option R) (x : bytes_Clone_ac.den) : evBody bytes_Clone_cx (hcN bytes_Clone_cx 1) bytes_Clone_keep [] [] Go.Proofs.Try.f55 (bodyC Go.Proofs.Try.f55) (mkSt bytes_Clone_ac x).env (mkSt bytes_Clone_ac x).sto K = bytes_Clone_cps big R (fun a0 => K ((mkE [.leaf (.sl .own .byte)] (T := Unit) (a0, ())).1.headD .any) (mkSt bytes_Clone_ac x).sto) x.1 := by kernel_rfl
theorem bytes_Clone_ok : ConOk Go.Proofs.Try.prog X 55 bytes_Clone_con :=
  conCalm_ok (src := []) (sh := []) (rs := .leaf (.sl .own .byte)) bytes_Clone_raw (fun R K (x : bytes_Clone_ac.den) => bytes_Clone_cps big R (fun a0 => K (a0, ())) x.1) bytes_Clone_T

/-! 55 bytes.Clone -/
def bytes_Clone_1_ac : SCode := ⟨[.leaf (.lit (.nils))], []⟩
def bytes_Clone_1_con : Con := conCalm [] [] bytes_Clone_1_ac (.leaf (.lit (.nils))) fun x => bytes_Clone_1 big 
theorem bytes_Clone_1_bnd {calm : List Nat} {f : Nat} : BndC calm f bytes_Clone_1_con := bndCalm
def bytes_Clone_1_cx : Cx := { tab := tab, con := [], funs := [], loops := [], want := want, ret := [], calm := [], bnd := [], eqs := eqs }
theorem bytes_Clone_1_cs : CsOk Go.Proofs.Try.prog X bytes_Clone_1_cx :=
  csOk ⟨fun _ _ h => tab_ok tabOk h, eqsOk⟩ mixed trivial trivial trivial rfl

def bytes_Clone_1_keep : List (Nat × LH) := []
theorem bytes_Clone_1_raw : ConOk Go.Proofs.Try.prog X 55 (fun _ args sto K => evBody bytes_Clone_1_cx (hcN bytes_Clone_1_cx 1) bytes_Clone_1_keep [] [] Go.Proofs.Try.f55 (bodyC Go.Proofs.Try.f55) args sto K) :=
  raw_ok bytes_Clone_1_cs 1 Go.Proofs.Try.func55 (by kernel_rfl) rfl fun R => loops_all 0 (by kernel_rfl) (fun i hi => absurd hi (Nat.not_lt_zero i))

theorem bytes_Clone_1_T (R : Type) (K : D → Sto → Option R) (x : bytes_Clone_1_ac.den) : evBody bytes_Clone_1_cx (hcN bytes_Clone_1_cx 1) bytes_Clone_1_keep [] [] Go.Proofs.Try.f55 (bodyC Go.Proofs.Try.f55) (mkSt bytes_Clone_1_ac x).env (mkSt bytes_Clone_1_ac x).sto K = bytes_Clone_1_cps big R (K ((mkE [.leaf (.lit (.nils))] (T := Unit) ()).1.headD .any) (mkSt bytes_Clone_1_ac x).sto)  := by kernel_rfl
theorem bytes_Clone_1_ok : ConOk Go.Proofs.Try.prog X 55 bytes_Clone_1_con :=
  conCalm_ok (src := []) (sh := []) (rs := .leaf (.lit (.nils))) bytes_Clone_1_raw (fun R K (x : bytes_Clone_1_ac.den) => bytes_Clone_1_cps big R (K ()) ) bytes_Clone_1_T

def bytes_Clone_nl_ac : SCode := ⟨[.leaf (.sl .ro .byte)], []⟩
def bytes_Clone_nl_con : Con := conNil .byte bytes_Clone_con bytes_Clone_1_con
theorem bytes_Clone_nl_bnd {calm : List Nat} {f : Nat} : BndC calm f bytes_Clone_nl_con := bndNil bytes_Clone_bnd bytes_Clone_1_bnd
theorem bytes_Clone_nl_ok : ConOk Go.Proofs.Try.prog X 55 bytes_Clone_nl_con :=
  conNil_ok bytes_Clone_ok bytes_Clone_1_ok (fun R sto K r h => h)
/-! 78 (frankpledge/lock.Lock).copied -/
def lock_Lock_copied_ac : SCode := ⟨[.agg [.int .i64, .str, .sl .ro .byte, .sl .ro .byte, .int .i64]], []⟩
def lock_Lock_copied_con : Con := conCalm [] [] lock_Lock_copied_ac (.agg [.int .i64, .str, .sl .ro .byte, .sl .ro .byte, .int .i64]) fun x => lock_Lock_copied big x.1 x.2.1 x.2.2.1 x.2.2.2.1 x.2.2.2.2.1
theorem lock_Lock_copied_bnd {calm : List Nat} {f : Nat} : BndC calm f lock_Lock_copied_con := bndCalm
def lock_Lock_copied_cx : Cx := { tab := tab, con := [(55, bytes_Clone_nl_con)], funs := [], loops := [], want := want, ret := [], calm := [55], bnd := [55], eqs := eqs }
theorem lock_Lock_copied_cs : CsOk Go.Proofs.Try.prog X lock_Lock_copied_cx :=
  csOk ⟨fun _ _ h => tab_ok tabOk h, eqsOk⟩ mixed ⟨bytes_Clone_nl_ok, trivial⟩ trivial ⟨bytes_Clone_nl_bnd, trivial⟩ rfl

def lock_Lock_copied_keep : List (Nat × LH) := []
theorem lock_Lock_copied_raw : ConOk Go.Proofs.Try.prog X 78 (fun _ args sto K => evBody lock_Lock_copied_cx (hcN lock_Lock_copied_cx 1) lock_Lock_copied_keep [] [] Go.Proofs.Try.f78 (bodyC Go.Proofs.Try.f78) args sto K) :=
  raw_ok lock_Lock_copied_cs 1 Go.Proofs.Try.func78 (by kernel_rfl) rfl fun R => loops_all 0 (by kernel_rfl) (fun i hi => absurd hi (Nat.not_lt_zero i))

theorem lock_Lock_copied_T (R : Type) (K : D → Sto → Option R) (x : lock_Lock_copied_ac.den) : evBody lock_Lock_copied_cx (hcN lock_Lock_copied_cx 1) lock_Lock_copied_keep [] [] Go.Proofs.Try.f78 (bodyC Go.Proofs.Try.f78) (mkSt lock_Lock_copied_ac x).env (mkSt lock_Lock_copied_ac x).sto K = lock_Lock_copied_cps big R (fun a0 a1 a2 a3 a4 => K ((mkE [.agg [.int .i64, .str, .sl .ro .byte, .sl .ro .byte, .int .i64]] (T := Unit) (a0, (a1, (a2, (a3, (a4, ())))))).1.headD .any) (mkSt lock_Lock_copied_ac x).sto) x.1 x.2.1 x.2.2.1 x.2.2.2.1 x.2.2.2.2.1 := by kernel_rfl
theorem lock_Lock_copied_ok : ConOk Go.Proofs.Try.prog X 78 lock_Lock_copied_con :=
  conCalm_ok (src := []) (sh := []) (rs := .agg [.int .i64, .str, .sl .ro .byte, .sl .ro .byte, .int .i64]) lock_Lock_copied_raw (fun R K (x : lock_Lock_copied_ac.den) => lock_Lock_copied_cps big R (fun a0 a1 a2 a3 a4 => K (a0, (a1, (a2, (a3, (a4, ())))))) x.1 x.2.1 x.2.2.1 x.2.2.2.1 x.2.2.2.2.1) lock_Lock_copied_T

/-! 51 frankpledge/lock.Clash -/
def lock_Clash_ac : SCode := ⟨[.agg [.int .i64, .str, .sl .ro .byte, .sl .ro .byte, .int .i64], .agg [.int .i64, .str, .sl .ro .byte, .sl .ro .byte, .int .i64]], []⟩
def lock_Clash_con : Con := conCalm [] [] lock_Clash_ac (.leaf (.bool)) fun x => lock_Clash big x.1 x.2.1 x.2.2.1 x.2.2.2.1 x.2.2.2.2.1 x.2.2.2.2.2.1 x.2.2.2.2.2.2.1 x.2.2.2.2.2.2.2.1 x.2.2.2.2.2.2.2.2.1 x.2.2.2.2.2.2.2.2.2.1
theorem lock_Clash_bnd {calm : List Nat} {f : Nat} : BndC calm f lock_Clash_con := bndCalm
def lock_Clash_cx : Cx := { tab := tab, con := [(67, bytes_Compare_con), (68, lock_ahead_con)], funs := [], loops := [], want := want, ret := [], calm := [67, 68], bnd := [67, 68], eqs := eqs }
theorem lock_Clash_cs : CsOk Go.Proofs.Try.prog X lock_Clash_cx :=
  csOk ⟨fun _ _ h => tab_ok tabOk h, eqsOk⟩ mixed ⟨bytes_Compare_ok, lock_ahead_ok, trivial⟩ trivial ⟨bytes_Compare_bnd, lock_ahead_bnd, trivial⟩ rfl

def lock_Clash_keep : List (Nat × LH) := []
theorem lock_Clash_raw : ConOk Go.Proofs.Try.prog X 51 (fun _ args sto K => evBody lock_Clash_cx (hcN lock_Clash_cx 1) lock_Clash_keep [] [] Go.Proofs.Try.f51 (bodyC Go.Proofs.Try.f51) args sto K) :=
  raw_ok lock_Clash_cs 1 Go.Proofs.Try.func51 (by kernel_rfl) rfl fun R => loops_all 0 (by kernel_rfl) (fun i hi => absurd hi (Nat.not_lt_zero i))

theorem lock_Clash_T (R : Type) (K : D → Sto → Option R) (x : lock_Clash_ac.den) : evBody lock_Clash_cx (hcN lock_Clash_cx 1) lock_Clash_keep [] [] Go.Proofs.Try.f51 (bodyC Go.Proofs.Try.f51) (mkSt lock_Clash_ac x).env (mkSt lock_Clash_ac x).sto K = lock_Clash_cps big R (fun a0 => K ((mkE [.leaf (.bool)] (T := Unit) (a0, ())).1.headD .any) (mkSt lock_Clash_ac x).sto) x.1 x.2.1 x.2.2.1 x.2.2.2.1 x.2.2.2.2.1 x.2.2.2.2.2.1 x.2.2.2.2.2.2.1 x.2.2.2.2.2.2.2.1 x.2.2.2.2.2.2.2.2.1 x.2.2.2.2.2.2.2.2.2.1 := by kernel_rfl
theorem lock_Clash_ok : ConOk Go.Proofs.Try.prog X 51 lock_Clash_con :=
  conCalm_ok (src := []) (sh := []) (rs := .leaf (.bool)) lock_Clash_raw (fun R K (x : lock_Clash_ac.den) => lock_Clash_cps big R (fun a0 => K (a0, ())) x.1 x.2.1 x.2.2.1 x.2.2.2.1 x.2.2.2.2.1 x.2.2.2.2.2.1 x.2.2.2.2.2.2.1 x.2.2.2.2.2.2.2.1 x.2.2.2.2.2.2.2.2.1 x.2.2.2.2.2.2.2.2.2.1) lock_Clash_T

/-! 86 frankpledge/lock.clashes$1 -/
def lock_clashes_c1_ac : SCode := ⟨[.agg [.int .i64, .str, .sl .ro .byte, .sl .ro .byte, .int .i64], .leaf (.lit (.ptr 0 0))], [[.int .i64, .str, .sl .ro .byte, .sl .ro .byte, .int .i64]]⟩
def lock_clashes_c1_con : Con := conCalm [.arg 1] [] lock_clashes_c1_ac (.leaf (.bool)) fun x => lock_clashes_c1 big x.1 x.2.1 x.2.2.1 x.2.2.2.1 x.2.2.2.2.1 x.2.2.2.2.2.1 x.2.2.2.2.2.2.1 x.2.2.2.2.2.2.2.1 x.2.2.2.2.2.2.2.2.1 x.2.2.2.2.2.2.2.2.2.1
theorem lock_clashes_c1_bnd {calm : List Nat} {f : Nat} : BndC calm f lock_clashes_c1_con := bndCalm
def lock_clashes_c1_cx : Cx := { tab := tab, con := [(51, lock_Clash_con)], funs := [], loops := [], want := want, ret := [], calm := [51], bnd := [51], eqs := eqs }
theorem lock_clashes_c1_cs : CsOk Go.Proofs.Try.prog X lock_clashes_c1_cx :=
  csOk ⟨fun _ _ h => tab_ok tabOk h, eqsOk⟩ mixed ⟨lock_Clash_ok, trivial⟩ trivial ⟨lock_Clash_bnd, trivial⟩ rfl

def lock_clashes_c1_keep : List (Nat × LH) := []
theorem lock_clashes_c1_raw : ConOk Go.Proofs.Try.prog X 86 (fun _ args sto K => evBody lock_clashes_c1_cx (hcN lock_clashes_c1_cx 1) lock_clashes_c1_keep [] [] Go.Proofs.Try.f86 (bodyC Go.Proofs.Try.f86) args sto K) :=
  raw_ok lock_clashes_c1_cs 1 Go.Proofs.Try.func86 (by kernel_rfl) rfl fun R => loops_all 0 (by kernel_rfl) (fun i hi => absurd hi (Nat.not_lt_zero i))

theorem lock_clashes_c1_T (R : Type) (K : D → Sto → Option R) (x : lock_clashes_c1_ac.den) : evBody lock_clashes_c1_cx (hcN lock_clashes_c1_cx 1) lock_clashes_c1_keep [] [] Go.Proofs.Try.f86 (bodyC Go.Proofs.Try.f86) (mkSt lock_clashes_c1_ac x).env (mkSt lock_clashes_c1_ac x).sto K = lock_clashes_c1_cps big R (fun a0 => K ((mkE [.leaf (.bool)] (T := Unit) (a0, ())).1.headD .any) (mkSt lock_clashes_c1_ac x).sto) x.1 x.2.1 x.2.2.1 x.2.2.2.1 x.2.2.2.2.1 x.2.2.2.2.2.1 x.2.2.2.2.2.2.1 x.2.2.2.2.2.2.2.1 x.2.2.2.2.2.2.2.2.1 x.2.2.2.2.2.2.2.2.2.1 := by kernel_rfl
theorem lock_clashes_c1_ok : ConOk Go.Proofs.Try.prog X 86 lock_clashes_c1_con :=
  conCalm_ok (src := [.arg 1]) (sh := []) (rs := .leaf (.bool)) lock_clashes_c1_raw (fun R K (x : lock_clashes_c1_ac.den) => lock_clashes_c1_cps big R (fun a0 => K (a0, ())) x.1 x.2.1 x.2.2.1 x.2.2.2.1 x.2.2.2.2.1 x.2.2.2.2.2.1 x.2.2.2.2.2.2.1 x.2.2.2.2.2.2.2.1 x.2.2.2.2.2.2.2.2.1 x.2.2.2.2.2.2.2.2.2.1) lock_clashes_c1_T

/-! 85 slices.IndexFunc[[]frankpledge/lock.Lock,frankpledge/lock.Lock] -/
def slices_IndexFunc_lock_Lock_lock_Lock_2_l0c : SCode := ⟨[.leaf (.lit (.hw 0)), .fn 86 [.lit (.ptr 1 0)], .leaf (.lit (.any)), .leaf (.lit (.any)), .leaf (.lit (.any)), .leaf (.lit (.any)), .leaf (.lit (.any)), .leaf (.int .i64), .leaf (.int .i64), .leaf (.lit (.any)), .leaf (.lit (.any)), .leaf (.lit (.any)), .leaf (.lit (.any)), .leaf (.lit (.any)), .leaf (.lit (.any)), .leaf (.lit (.any)), .leaf (.lit (.any)), .leaf (.lit (.any)), .leaf (.lit (.any))], [[.arr (.pair (.int .i64) (.pair .str (.pair (.slice .byte) (.pair (.slice .byte) (.pair (.int .i64) .unit)))))], [.int .i64, .str, .sl .ro .byte, .sl .ro .byte, .int .i64]]⟩
def slices_IndexFunc_lock_Lock_lock_Lock_2_l0e0 : SCode := ⟨[.leaf (.lit (.any)), .leaf (.lit (.any)), .leaf (.lit (.any)), .leaf (.lit (.any)), .leaf (.lit (.any)), .leaf (.lit (.any)), .leaf (.lit (.any)), .leaf (.lit (.any)), .leaf (.lit (.any)), .leaf (.lit (.any)), .leaf (.lit (.any)), .leaf (.lit (.any)), .leaf (.lit (.any)), .leaf (.lit (.any)), .leaf (.lit (.any)), .leaf (.lit (.any)), .leaf (.lit (.any)), .leaf (.lit (.any)), .leaf (.lit (.any))], [[.arr (.pair (.int .i64) (.pair .str (.pair (.slice .byte) (.pair (.slice .byte) (.pair (.int .i64) .unit)))))], [.int .i64, .str, .sl .ro .byte, .sl .ro .byte, .int .i64]]⟩
def slices_IndexFunc_lock_Lock_lock_Lock_2_l0e1 : SCode := ⟨[.leaf (.lit (.any)), .leaf (.lit (.any)), .leaf (.lit (.any)), .leaf (.lit (.any)), .leaf (.int .i64), .leaf (.lit (.any)), .leaf (.lit (.any)), .leaf (.lit (.any)), .leaf (.lit (.any)), .leaf (.lit (.any)), .leaf (.lit (.any)), .leaf (.lit (.any)), .leaf (.lit (.any)), .leaf (.lit (.any)), .leaf (.lit (.any)), .leaf (.lit (.any)), .leaf (.lit (.any)), .leaf (.lit (.any)), .leaf (.lit (.any))], [[.arr (.pair (.int .i64) (.pair .str (.pair (.slice .byte) (.pair (.slice .byte) (.pair (.int .i64) .unit)))))], [.int .i64, .str, .sl .ro .byte, .sl .ro .byte, .int .i64]]⟩
def slices_IndexFunc_lock_Lock_lock_Lock_2_l0h : LH := { env := [(0, .id), (1, .id), (7, .id), (8, .id)], sto := [], out := [(4, .id)], con := some (lconOf slices_IndexFunc_lock_Lock_lock_Lock_2_l0c fun R k x => slices_IndexFunc_lock_Lock_lock_Lock_2_l0 big R x.2.2.1 x.2.2.2.1 x.2.2.2.2.1 x.2.2.2.2.2.1 x.2.2.2.2.2.2.1 x.2.2.2.2.2.2.2.1 (k (.exit 0) (mkSt slices_IndexFunc_lock_Lock_lock_Lock_2_l0e0 (x.2.2.1, (x.2.2.2.1, (x.2.2.2.2.1, (x.2.2.2.2.2.1, (x.2.2.2.2.2.2.1, (x.2.2.2.2.2.2.2.1, ())))))))) (fun a0 => k .ret (mkSt slices_IndexFunc_lock_Lock_lock_Lock_2_l0e1 (a0, (x.2.2.1, (x.2.2.2.1, (x.2.2.2.2.1, (x.2.2.2.2.2.1, (x.2.2.2.2.2.2.1, (x.2.2.2.2.2.2.2.1, ()))))))))) big x.1 x.2.1), gc := some 2 }

def slices_IndexFunc_lock_Lock_lock_Lock_2_ac : SCode := ⟨[.leaf (.lit (.hw 0)), .fn 86 [.lit (.ptr 1 0)]], [[.arr (.pair (.int .i64) (.pair .str (.pair (.slice .byte) (.pair (.slice .byte) (.pair (.int .i64) .unit)))))], [.int .i64, .str, .sl .ro .byte, .sl .ro .byte, .int .i64]]⟩
def slices_IndexFunc_lock_Lock_lock_Lock_2_con : Con := conCalm [.arg 0, .cap 1 0] [] slices_IndexFunc_lock_Lock_lock_Lock_2_ac (.leaf (.int .i64)) fun x => slices_IndexFunc_lock_Lock_lock_Lock_2 big x.1 x.2.1 x.2.2.1 x.2.2.2.1 x.2.2.2.2.1 x.2.2.2.2.2.1
theorem slices_IndexFunc_lock_Lock_lock_Lock_2_bnd {calm : List Nat} {f : Nat} : BndC calm f slices_IndexFunc_lock_Lock_lock_Lock_2_con := bndCalm
def slices_IndexFunc_lock_Lock_lock_Lock_2_cx : Cx := { tab := tab, con := [(86, lock_clashes_c1_con)], funs := [], loops := [], want := want, ret := [], calm := [86], bnd := [86], eqs := eqs, xl := true, xs := [96], xd := [] }
theorem slices_IndexFunc_lock_Lock_lock_Lock_2_cs : CsOk Go.Proofs.Try.prog X slices_IndexFunc_lock_Lock_lock_Lock_2_cx :=
  csOk ⟨fun _ _ h => tab_ok tabOk h, eqsOk⟩ mixed ⟨lock_clashes_c1_ok, trivial⟩ trivial ⟨lock_clashes_c1_bnd, trivial⟩ rfl

def slices_IndexFunc_lock_Lock_lock_Lock_2_keep : List (Nat × LH) := [(2, slices_IndexFunc_lock_Lock_lock_Lock_2_l0h)]
theorem slices_IndexFunc_lock_Lock_lock_Lock_2_L0s (R : Type) (recS : St → Option R) (k : Exit → St → Option R) (x : slices_IndexFunc_lock_Lock_lock_Lock_2_l0c.den) : evCode slices_IndexFunc_lock_Lock_lock_Lock_2_cx (hcN slices_IndexFunc_lock_Lock_lock_Lock_2_cx 1) slices_IndexFunc_lock_Lock_lock_Lock_2_keep (loopC Go.Proofs.Try.f85 0) (mkSt slices_IndexFunc_lock_Lock_lock_Lock_2_l0c x) (fun e st' => match e with | .normal => recS (norm slices_IndexFunc_lock_Lock_lock_Lock_2_l0h 2 st') | e => k e (normO slices_IndexFunc_lock_Lock_lock_Lock_2_l0h 2 st')) = (fun rec k x => slices_IndexFunc_lock_Lock_lock_Lock_2_l0B big R x.2.2.1 x.2.2.2.1 x.2.2.2.2.1 x.2.2.2.2.2.1 x.2.2.2.2.2.2.1 x.2.2.2.2.2.2.2.1 (fun a0 a1 => rec (a0, (a1, (x.2.2.1, (x.2.2.2.1, (x.2.2.2.2.1, (x.2.2.2.2.2.1, (x.2.2.2.2.2.2.1, (x.2.2.2.2.2.2.2.1, ()))))))))) (k (.exit 0) (mkSt slices_IndexFunc_lock_Lock_lock_Lock_2_l0e0 (x.2.2.1, (x.2.2.2.1, (x.2.2.2.2.1, (x.2.2.2.2.2.1, (x.2.2.2.2.2.2.1, (x.2.2.2.2.2.2.2.1, ())))))))) (fun a0 => k .ret (mkSt slices_IndexFunc_lock_Lock_lock_Lock_2_l0e1 (a0, (x.2.2.1, (x.2.2.2.1, (x.2.2.2.2.1, (x.2.2.2.2.2.1, (x.2.2.2.2.2.2.1, (x.2.2.2.2.2.2.2.1, ()))))))))) x.1 x.2.1) (fun y => recS (mkSt slices_IndexFunc_lock_Lock_lock_Lock_2_l0c y)) k x := by kernel_rfl
theorem slices_IndexFunc_lock_Lock_lock_Lock_2_L0 (R : Type) : LOkR (R := R) slices_IndexFunc_lock_Lock_lock_Lock_2_cx (hcN slices_IndexFunc_lock_Lock_lock_Lock_2_cx 1) slices_IndexFunc_lock_Lock_lock_Lock_2_keep (loopC Go.Proofs.Try.f85 0) :=
  lok_iter (lh := slices_IndexFunc_lock_Lock_lock_Lock_2_l0h) slices_IndexFunc_lock_Lock_lock_Lock_2_l0c (fun R n k x => slices_IndexFunc_lock_Lock_lock_Lock_2_l0 big R x.2.2.1 x.2.2.2.1 x.2.2.2.2.1 x.2.2.2.2.2.1 x.2.2.2.2.2.2.1 x.2.2.2.2.2.2.2.1 (k (.exit 0) (mkSt slices_IndexFunc_lock_Lock_lock_Lock_2_l0e0 (x.2.2.1, (x.2.2.2.1, (x.2.2.2.2.1, (x.2.2.2.2.2.1, (x.2.2.2.2.2.2.1, (x.2.2.2.2.2.2.2.1, ())))))))) (fun a0 => k .ret (mkSt slices_IndexFunc_lock_Lock_lock_Lock_2_l0e1 (a0, (x.2.2.1, (x.2.2.2.1, (x.2.2.2.2.1, (x.2.2.2.2.2.1, (x.2.2.2.2.2.2.1, (x.2.2.2.2.2.2.2.1, ()))))))))) n x.1 x.2.1) (fun _ => big) (fun rec k x => slices_IndexFunc_lock_Lock_lock_Lock_2_l0B big R x.2.2.1 x.2.2.2.1 x.2.2.2.2.1 x.2.2.2.2.2.1 x.2.2.2.2.2.2.1 x.2.2.2.2.2.2.2.1 (fun a0 a1 => rec (a0, (a1, (x.2.2.1, (x.2.2.2.1, (x.2.2.2.2.1, (x.2.2.2.2.2.1, (x.2.2.2.2.2.2.1, (x.2.2.2.2.2.2.2.1, ()))))))))) (k (.exit 0) (mkSt slices_IndexFunc_lock_Lock_lock_Lock_2_l0e0 (x.2.2.1, (x.2.2.2.1, (x.2.2.2.2.1, (x.2.2.2.2.2.1, (x.2.2.2.2.2.2.1, (x.2.2.2.2.2.2.2.1, ())))))))) (fun a0 => k .ret (mkSt slices_IndexFunc_lock_Lock_lock_Lock_2_l0e1 (a0, (x.2.2.1, (x.2.2.2.1, (x.2.2.2.2.1, (x.2.2.2.2.2.1, (x.2.2.2.2.2.2.1, (x.2.2.2.2.2.2.2.1, ()))))))))) x.1 x.2.1) rfl rfl (slices_IndexFunc_lock_Lock_lock_Lock_2_L0s R) (fun _ _ => rfl) (fun _ _ _ => rfl)

theorem slices_IndexFunc_lock_Lock_lock_Lock_2_raw : ConOk Go.Proofs.Try.prog X 85 (fun _ args sto K => evBody slices_IndexFunc_lock_Lock_lock_Lock_2_cx (hcN slices_IndexFunc_lock_Lock_lock_Lock_2_cx 1) slices_IndexFunc_lock_Lock_lock_Lock_2_keep [] [] Go.Proofs.Try.f85 (bodyC Go.Proofs.Try.f85) args sto K) :=
  raw_ok slices_IndexFunc_lock_Lock_lock_Lock_2_cs 1 Go.Proofs.Try.func85 (by kernel_rfl) rfl fun R => loops_all 1 (by kernel_rfl) (fun i hi => match i, hi with | 0, _ => slices_IndexFunc_lock_Lock_lock_Lock_2_L0 R | n + 1, h => absurd h (by omega))

theorem slices_IndexFunc_lock_Lock_lock_Lock_2_T (R : Type) (K : D → Sto → Option R) (x : slices_IndexFunc_lock_Lock_lock_Lock_2_ac.den) : evBody slices_IndexFunc_lock_Lock_lock_Lock_2_cx (hcN slices_IndexFunc_lock_Lock_lock_Lock_2_cx 1) slices_IndexFunc_lock_Lock_lock_Lock_2_keep [] [] Go.Proofs.Try.f85 (bodyC Go.Proofs.Try.f85) (mkSt slices_IndexFunc_lock_Lock_lock_Lock_2_ac x).env (mkSt slices_IndexFunc_lock_Lock_lock_Lock_2_ac x).sto K = slices_IndexFunc_lock_Lock_lock_Lock_2_cps big R (fun a0 => K ((mkE [.leaf (.int .i64)] (T := Unit) (a0, ())).1.headD .any) (mkSt slices_IndexFunc_lock_Lock_lock_Lock_2_ac x).sto) x.1 x.2.1 x.2.2.1 x.2.2.2.1 x.2.2.2.2.1 x.2.2.2.2.2.1 := by kernel_rfl
theorem slices_IndexFunc_lock_Lock_lock_Lock_2_ok : ConOk Go.Proofs.Try.prog X 85 slices_IndexFunc_lock_Lock_lock_Lock_2_con :=
  conCalm_ok (src := [.arg 0, .cap 1 0]) (sh := []) (rs := .leaf (.int .i64)) slices_IndexFunc_lock_Lock_lock_Lock_2_raw (fun R K (x : slices_IndexFunc_lock_Lock_lock_Lock_2_ac.den) => slices_IndexFunc_lock_Lock_lock_Lock_2_cps big R (fun a0 => K (a0, ())) x.1 x.2.1 x.2.2.1 x.2.2.2.1 x.2.2.2.2.1 x.2.2.2.2.2.1) slices_IndexFunc_lock_Lock_lock_Lock_2_T

/-! 74 slices.ContainsFunc[[]frankpledge/lock.Lock,frankpledge/lock.Lock] -/
def slices_ContainsFunc_lock_Lock_lock_Lock_2_ac : SCode := ⟨[.leaf (.lit (.hw 0)), .fn 86 [.lit (.ptr 1 0)]], [[.arr (.pair (.int .i64) (.pair .str (.pair (.slice .byte) (.pair (.slice .byte) (.pair (.int .i64) .unit)))))], [.int .i64, .str, .sl .ro .byte, .sl .ro .byte, .int .i64]]⟩
def slices_ContainsFunc_lock_Lock_lock_Lock_2_con : Con := conCalm [.arg 0, .cap 1 0] [] slices_ContainsFunc_lock_Lock_lock_Lock_2_ac (.leaf (.bool)) fun x => slices_ContainsFunc_lock_Lock_lock_Lock_2 big x.1 x.2.1 x.2.2.1 x.2.2.2.1 x.2.2.2.2.1 x.2.2.2.2.2.1
theorem slices_ContainsFunc_lock_Lock_lock_Lock_2_bnd {calm : List Nat} {f : Nat} : BndC calm f slices_ContainsFunc_lock_Lock_lock_Lock_2_con := bndCalm
def slices_ContainsFunc_lock_Lock_lock_Lock_2_cx : Cx := { tab := tab, con := [(85, slices_IndexFunc_lock_Lock_lock_Lock_2_con)], funs := [], loops := [], want := want, ret := [], calm := [85], bnd := [85], eqs := eqs }
theorem slices_ContainsFunc_lock_Lock_lock_Lock_2_cs : CsOk Go.Proofs.Try.prog X slices_ContainsFunc_lock_Lock_lock_Lock_2_cx :=
  csOk ⟨fun _ _ h => tab_ok tabOk h, eqsOk⟩ mixed ⟨slices_IndexFunc_lock_Lock_lock_Lock_2_ok, trivial⟩ trivial ⟨slices_IndexFunc_lock_Lock_lock_Lock_2_bnd, trivial⟩ rfl

def slices_ContainsFunc_lock_Lock_lock_Lock_2_keep : List (Nat × LH) := []
theorem slices_ContainsFunc_lock_Lock_lock_Lock_2_raw : ConOk Go.Proofs.Try.prog X 74 (fun _ args sto K => evBody slices_ContainsFunc_lock_Lock_lock_Lock_2_cx (hcN slices_ContainsFunc_lock_Lock_lock_Lock_2_cx 1) slices_ContainsFunc_lock_Lock_lock_Lock_2_keep [] [] Go.Proofs.Try.f74 (bodyC Go.Proofs.Try.f74) args sto K) :=
  raw_ok slices_ContainsFunc_lock_Lock_lock_Lock_2_cs 1 Go.Proofs.Try.func74 (by kernel_rfl) rfl fun R => loops_all 0 (by kernel_rfl) (fun i hi => absurd hi (Nat.not_lt_zero i))

theorem slices_ContainsFunc_lock_Lock_lock_Lock_2_T (R : Type) (K : D → Sto → Option R) (x : slices_ContainsFunc_lock_Lock_lock_Lock_2_ac.den) : evBody slices_ContainsFunc_lock_Lock_lock_Lock_2_cx (hcN slices_ContainsFunc_lock_Lock_lock_Lock_2_cx 1) slices_ContainsFunc_lock_Lock_lock_Lock_2_keep [] [] Go.Proofs.Try.f74 (bodyC Go.Proofs.Try.f74) (mkSt slices_ContainsFunc_lock_Lock_lock_Lock_2_ac x).env (mkSt slices_ContainsFunc_lock_Lock_lock_Lock_2_ac x).sto K = slices_ContainsFunc_lock_Lock_lock_Lock_2_cps big R (fun a0 => K ((mkE [.leaf (.bool)] (T := Unit) (a0, ())).1.headD .any) (mkSt slices_ContainsFunc_lock_Lock_lock_Lock_2_ac x).sto) x.1 x.2.1 x.2.2.1 x.2.2.2.1 x.2.2.2.2.1 x.2.2.2.2.2.1 := by kernel_rfl
theorem slices_ContainsFunc_lock_Lock_lock_Lock_2_ok : ConOk Go.Proofs.Try.prog X 74 slices_ContainsFunc_lock_Lock_lock_Lock_2_con :=
  conCalm_ok (src := [.arg 0, .cap 1 0]) (sh := []) (rs := .leaf (.bool)) slices_ContainsFunc_lock_Lock_lock_Lock_2_raw (fun R K (x : slices_ContainsFunc_lock_Lock_lock_Lock_2_ac.den) => slices_ContainsFunc_lock_Lock_lock_Lock_2_cps big R (fun a0 => K (a0, ())) x.1 x.2.1 x.2.2.1 x.2.2.2.1 x.2.2.2.2.1 x.2.2.2.2.2.1) slices_ContainsFunc_lock_Lock_lock_Lock_2_T

/-! 79 frankpledge/lock.clashes -/
def lock_clashes_ac : SCode := ⟨[.leaf (.lit (.hw 0)), .agg [.int .i64, .str, .sl .ro .byte, .sl .ro .byte, .int .i64]], [[.arr (.pair (.int .i64) (.pair .str (.pair (.slice .byte) (.pair (.slice .byte) (.pair (.int .i64) .unit)))))]]⟩
def lock_clashes_con : Con := conCalm [.arg 0] [] lock_clashes_ac (.leaf (.bool)) fun x => lock_clashes big x.1 x.2.1 x.2.2.1 x.2.2.2.1 x.2.2.2.2.1 x.2.2.2.2.2.1
theorem lock_clashes_bnd {calm : List Nat} {f : Nat} : BndC calm f lock_clashes_con := bndCalm
def lock_clashes_cx : Cx := { tab := tab, con := [(74, slices_ContainsFunc_lock_Lock_lock_Lock_2_con)], funs := [], loops := [], want := want, ret := [], calm := [74], bnd := [74], eqs := eqs }
theorem lock_clashes_cs : CsOk Go.Proofs.Try.prog X lock_clashes_cx :=
  csOk ⟨fun _ _ h => tab_ok tabOk h, eqsOk⟩ mixed ⟨slices_ContainsFunc_lock_Lock_lock_Lock_2_ok, trivial⟩ trivial ⟨slices_ContainsFunc_lock_Lock_lock_Lock_2_bnd, trivial⟩ rfl

def lock_clashes_keep : List (Nat × LH) := []
theorem lock_clashes_raw : ConOk Go.Proofs.Try.prog X 79 (fun _ args sto K => evBody lock_clashes_cx (hcN lock_clashes_cx 1) lock_clashes_keep [] [] Go.Proofs.Try.f79 (bodyC Go.Proofs.Try.f79) args sto K) :=
  raw_ok lock_clashes_cs 1 Go.Proofs.Try.func79 (by kernel_rfl) rfl fun R => loops_all 0 (by kernel_rfl) (fun i hi => absurd hi (Nat.not_lt_zero i))

theorem lock_clashes_T (R : Type) (K : D → Sto → Option R) (x : lock_clashes_ac.den) : evBody lock_clashes_cx (hcN lock_clashes_cx 1) lock_clashes_keep [] [] Go.Proofs.Try.f79 (bodyC Go.Proofs.Try.f79) (mkSt lock_clashes_ac x).env (mkSt lock_clashes_ac x).sto K = lock_clashes_cps big R (fun a0 => K ((mkE [.leaf (.bool)] (T := Unit) (a0, ())).1.headD .any) (mkSt lock_clashes_ac x).sto) x.1 x.2.1 x.2.2.1 x.2.2.2.1 x.2.2.2.2.1 x.2.2.2.2.2.1 := by kernel_rfl
theorem lock_clashes_ok : ConOk Go.Proofs.Try.prog X 79 lock_clashes_con :=
  conCalm_ok (src := [.arg 0]) (sh := []) (rs := .leaf (.bool)) lock_clashes_raw (fun R K (x : lock_clashes_ac.den) => lock_clashes_cps big R (fun a0 => K (a0, ())) x.1 x.2.1 x.2.2.1 x.2.2.2.1 x.2.2.2.2.1 x.2.2.2.2.2.1) lock_clashes_T

/-! 64 (*frankpledge/lock.Locks).Ask -/
def lock_Locks_Ask_ac : SCode := ⟨[.leaf (.lit (.ptr 0 0)), .agg [.int .i64, .str, .sl .ro .byte, .sl .ro .byte, .int .i64]], [[.lit (.hw 1), .lit (.hw 2)], [.arr (.pair (.int .i64) (.pair .str (.pair (.slice .byte) (.pair (.slice .byte) (.pair (.int .i64) .unit)))))], [.arr (.pair (.int .i64) (.pair .str (.pair (.slice .byte) (.pair (.slice .byte) (.pair (.int .i64) .unit)))))]]⟩
def lock_Locks_Ask_con : Con := conFn [.arg 0, .cell 0 0, .cell 0 1] [] lock_Locks_Ask_ac (.tup [.l (.bool), .l (.int .i64)]) [[.lit (.hw 3), .lit (.hw 4)], [], [], [.arr (.pair (.int .i64) (.pair .str (.pair (.slice .byte) (.pair (.slice .byte) (.pair (.int .i64) .unit)))))], [.arr (.pair (.int .i64) (.pair .str (.pair (.slice .byte) (.pair (.slice .byte) (.pair (.int .i64) .unit)))))]] fun x => lock_Locks_Ask big x.1 x.2.1 x.2.2.1 x.2.2.2.1 x.2.2.2.2.1 x.2.2.2.2.2.1 x.2.2.2.2.2.2.1
theorem lock_Locks_Ask_bnd {calm : List Nat} {f : Nat} (hf : calm.any (Nat.beq f) = false) : BndC calm f lock_Locks_Ask_con := bndFn hf
def lock_Locks_Ask_cx : Cx := { tab := tab, con := [(73, lock_Lock_right_con), (74, (conOr (fun a s => (prep [.arg 0, .cap 1 0] [] slices_ContainsFunc_lock_Lock_lock_Lock_ac a s).isSome) slices_ContainsFunc_lock_Lock_lock_Lock_con slices_ContainsFunc_lock_Lock_lock_Lock_1_con)), (78, lock_Lock_copied_con), (79, lock_clashes_con)], funs := [], loops := [], want := want, ret := [], calm := [73, 74, 78, 79], bnd := [73, 74, 78, 79], eqs := eqs, xl := true, xs := [96], xd := [] }
theorem lock_Locks_Ask_cs : CsOk Go.Proofs.Try.prog X lock_Locks_Ask_cx :=
  csOk ⟨fun _ _ h => tab_ok tabOk h, eqsOk⟩ mixed ⟨lock_Lock_right_ok, (conOr_ok slices_ContainsFunc_lock_Lock_lock_Lock_ok slices_ContainsFunc_lock_Lock_lock_Lock_1_ok), lock_Lock_copied_ok, lock_clashes_ok, trivial⟩ trivial ⟨lock_Lock_right_bnd, (bndOr (slices_ContainsFunc_lock_Lock_lock_Lock_bnd) (slices_ContainsFunc_lock_Lock_lock_Lock_1_bnd)), lock_Lock_copied_bnd, lock_clashes_bnd, trivial⟩ rfl

def lock_Locks_Ask_keep : List (Nat × LH) := [(3000000, { env := [], sto := [], out := [], con := none })]
theorem lock_Locks_Ask_raw : ConOk Go.Proofs.Try.prog X 64 (fun _ args sto K => evBody lock_Locks_Ask_cx (hcN lock_Locks_Ask_cx 1) lock_Locks_Ask_keep [] [] Go.Proofs.Try.f64 (bodyC Go.Proofs.Try.f64) args sto K) :=
  raw_ok2 lock_Locks_Ask_cs 1 Go.Proofs.Try.func64 (by kernel_rfl) (fun R => loops_all 0 (by kernel_rfl) (fun i hi => absurd hi (Nat.not_lt_zero i))) (fun R => joins_all [] (by kernel_rfl) (AllJ.get trivial))

theorem lock_Locks_Ask_T (R : Type) (K : D → Sto → Option R) (x : lock_Locks_Ask_ac.den) : evBody lock_Locks_Ask_cx (hcN lock_Locks_Ask_cx 1) lock_Locks_Ask_keep [] [] Go.Proofs.Try.f64 (bodyC Go.Proofs.Try.f64) (mkSt lock_Locks_Ask_ac x).env (mkSt lock_Locks_Ask_ac x).sto K = lock_Locks_Ask_cps big R (fun a0 a1 a2 a3 => K ((mkSt ⟨[.tup [.l (.bool), .l (.int .i64)]], [[.lit (.hw 3), .lit (.hw 4)], [], [], [.arr (.pair (.int .i64) (.pair .str (.pair (.slice .byte) (.pair (.slice .byte) (.pair (.int .i64) .unit)))))], [.arr (.pair (.int .i64) (.pair .str (.pair (.slice .byte) (.pair (.slice .byte) (.pair (.int .i64) .unit)))))]]⟩ (a0, (a1, (a2, (a3, ()))))).env.headD .any) (mkSt ⟨[.tup [.l (.bool), .l (.int .i64)]], [[.lit (.hw 3), .lit (.hw 4)], [], [], [.arr (.pair (.int .i64) (.pair .str (.pair (.slice .byte) (.pair (.slice .byte) (.pair (.int .i64) .unit)))))], [.arr (.pair (.int .i64) (.pair .str (.pair (.slice .byte) (.pair (.slice .byte) (.pair (.int .i64) .unit)))))]]⟩ (a0, (a1, (a2, (a3, ()))))).sto) x.1 x.2.1 x.2.2.1 x.2.2.2.1 x.2.2.2.2.1 x.2.2.2.2.2.1 x.2.2.2.2.2.2.1 := by kernel_rfl
theorem lock_Locks_Ask_ok : ConOk Go.Proofs.Try.prog X 64 lock_Locks_Ask_con :=
  conFn_ok (src := [.arg 0, .cell 0 0, .cell 0 1]) (sh := []) (rs := .tup [.l (.bool), .l (.int .i64)]) (rows := [[.lit (.hw 3), .lit (.hw 4)], [], [], [.arr (.pair (.int .i64) (.pair .str (.pair (.slice .byte) (.pair (.slice .byte) (.pair (.int .i64) .unit)))))], [.arr (.pair (.int .i64) (.pair .str (.pair (.slice .byte) (.pair (.slice .byte) (.pair (.int .i64) .unit)))))]]) lock_Locks_Ask_raw (fun R K (x : lock_Locks_Ask_ac.den) => lock_Locks_Ask_cps big R (fun a0 a1 a2 a3 => K (a0, (a1, (a2, (a3, ()))))) x.1 x.2.1 x.2.2.1 x.2.2.2.1 x.2.2.2.2.1 x.2.2.2.2.2.1 x.2.2.2.2.2.2.1) lock_Locks_Ask_T

/-! 64 (*frankpledge/lock.Locks).Ask -/
def lock_Locks_Ask_1_ac : SCode := ⟨[.leaf (.lit (.ptr 0 0)), .agg [.int .i64, .str, .sl .ro .byte, .sl .ro .byte, .int .i64]], [[.lit (.hw 1), .lit (.hw 2)], [.arr (.pair (.int .i64) (.pair .str (.pair (.slice .byte) (.pair (.slice .byte) (.pair (.int .i64) .unit)))))], [.arr (.pair (.int .i64) (.pair .str (.pair (.slice .byte) (.pair (.slice .byte) (.pair (.int .i64) .unit)))))]]⟩
def lock_Locks_Ask_1_con : Con := conFn [.arg 0, .cell 0 0, .cell 0 1] [.id, .inn [none, none, none, some .byte, none]] lock_Locks_Ask_1_ac (.tup [.l (.bool), .l (.int .i64)]) [[.lit (.hw 3), .lit (.hw 4)], [], [], [.arr (.pair (.int .i64) (.pair .str (.pair (.slice .byte) (.pair (.slice .byte) (.pair (.int .i64) .unit)))))], [.arr (.pair (.int .i64) (.pair .str (.pair (.slice .byte) (.pair (.slice .byte) (.pair (.int .i64) .unit)))))]] fun x => lock_Locks_Ask_1 big x.1 x.2.1 x.2.2.1 x.2.2.2.1 x.2.2.2.2.1 x.2.2.2.2.2.1 x.2.2.2.2.2.2.1
theorem lock_Locks_Ask_1_bnd {calm : List Nat} {f : Nat} (hf : calm.any (Nat.beq f) = false) : BndC calm f lock_Locks_Ask_1_con := bndFn hf
def lock_Locks_Ask_1_cx : Cx := { tab := tab, con := [(73, lock_Lock_right_con), (74, (conOr (fun a s => (prep [.arg 0, .cap 1 0] [] slices_ContainsFunc_lock_Lock_lock_Lock_ac a s).isSome) slices_ContainsFunc_lock_Lock_lock_Lock_con slices_ContainsFunc_lock_Lock_lock_Lock_1_con)), (78, lock_Lock_copied_con), (79, lock_clashes_con)], funs := [], loops := [], want := want, ret := [], calm := [73, 74, 78, 79], bnd := [73, 74, 78, 79], eqs := eqs, xl := true, xs := [96], xd := [] }
theorem lock_Locks_Ask_1_cs : CsOk Go.Proofs.Try.prog X lock_Locks_Ask_1_cx :=
  csOk ⟨fun _ _ h => tab_ok tabOk h, eqsOk⟩ mixed ⟨lock_Lock_right_ok, (conOr_ok slices_ContainsFunc_lock_Lock_lock_Lock_ok slices_ContainsFunc_lock_Lock_lock_Lock_1_ok), lock_Lock_copied_ok, lock_clashes_ok, trivial⟩ trivial ⟨lock_Lock_right_bnd, (bndOr (slices_ContainsFunc_lock_Lock_lock_Lock_bnd) (slices_ContainsFunc_lock_Lock_lock_Lock_1_bnd)), lock_Lock_copied_bnd, lock_clashes_bnd, trivial⟩ rfl

def lock_Locks_Ask_1_keep : List (Nat × LH) := [(3000000, { env := [], sto := [], out := [], con := none })]
theorem lock_Locks_Ask_1_raw : ConOk Go.Proofs.Try.prog X 64 (fun _ args sto K => evBody lock_Locks_Ask_1_cx (hcN lock_Locks_Ask_1_cx 1) lock_Locks_Ask_1_keep [] [] Go.Proofs.Try.f64 (bodyC Go.Proofs.Try.f64) args sto K) :=
  raw_ok2 lock_Locks_Ask_1_cs 1 Go.Proofs.Try.func64 (by kernel_rfl) (fun R => loops_all 0 (by kernel_rfl) (fun i hi => absurd hi (Nat.not_lt_zero i))) (fun R => joins_all [] (by kernel_rfl) (AllJ.get trivial))

theorem lock_Locks_Ask_1_T (R : Type) (K : D → Sto → Option R) (x : lock_Locks_Ask_1_ac.den) : evBody lock_Locks_Ask_1_cx (hcN lock_Locks_Ask_1_cx 1) lock_Locks_Ask_1_keep [] [] Go.Proofs.Try.f64 (bodyC Go.Proofs.Try.f64) (mkSt lock_Locks_Ask_1_ac x).env (mkSt lock_Locks_Ask_1_ac x).sto K = lock_Locks_Ask_1_cps big R (fun a0 a1 a2 a3 => K ((mkSt ⟨[.tup [.l (.bool), .l (.int .i64)]], [[.lit (.hw 3), .lit (.hw 4)], [], [], [.arr (.pair (.int .i64) (.pair .str (.pair (.slice .byte) (.pair (.slice .byte) (.pair (.int .i64) .unit)))))], [.arr (.pair (.int .i64) (.pair .str (.pair (.slice .byte) (.pair (.slice .byte) (.pair (.int .i64) .unit)))))]]⟩ (a0, (a1, (a2, (a3, ()))))).env.headD .any) (mkSt ⟨[.tup [.l (.bool), .l (.int .i64)]], [[.lit (.hw 3), .lit (.hw 4)], [], [], [.arr (.pair (.int .i64) (.pair .str (.pair (.slice .byte) (.pair (.slice .byte) (.pair (.int .i64) .unit)))))], [.arr (.pair (.int .i64) (.pair .str (.pair (.slice .byte) (.pair (.slice .byte) (.pair (.int .i64) .unit)))))]]⟩ (a0, (a1, (a2, (a3, ()))))).sto) x.1 x.2.1 x.2.2.1 x.2.2.2.1 x.2.2.2.2.1 x.2.2.2.2.2.1 x.2.2.2.2.2.2.1 := by kernel_rfl
theorem lock_Locks_Ask_1_ok : ConOk Go.Proofs.Try.prog X 64 lock_Locks_Ask_1_con :=
  conFn_ok (src := [.arg 0, .cell 0 0, .cell 0 1]) (sh := [.id, .inn [none, none, none, some .byte, none]]) (rs := .tup [.l (.bool), .l (.int .i64)]) (rows := [[.lit (.hw 3), .lit (.hw 4)], [], [], [.arr (.pair (.int .i64) (.pair .str (.pair (.slice .byte) (.pair (.slice .byte) (.pair (.int .i64) .unit)))))], [.arr (.pair (.int .i64) (.pair .str (.pair (.slice .byte) (.pair (.slice .byte) (.pair (.int .i64) .unit)))))]]) lock_Locks_Ask_1_raw (fun R K (x : lock_Locks_Ask_1_ac.den) => lock_Locks_Ask_1_cps big R (fun a0 a1 a2 a3 => K (a0, (a1, (a2, (a3, ()))))) x.1 x.2.1 x.2.2.1 x.2.2.2.1 x.2.2.2.2.1 x.2.2.2.2.2.1 x.2.2.2.2.2.2.1) lock_Locks_Ask_1_T

/-! 88 frankpledge/lock.without$1 -/
def lock_without_c1_ac : SCode := ⟨[.agg [.int .i64, .str, .sl .ro .byte, .sl .ro .byte, .int .i64], .leaf (.lit (.ptr 0 0))], [[.int .i64]]⟩
def lock_without_c1_con : Con := conCalm [.arg 1] [] lock_without_c1_ac (.leaf (.bool)) fun x => lock_without_c1 big x.1 x.2.1 x.2.2.1 x.2.2.2.1 x.2.2.2.2.1 x.2.2.2.2.2.1
theorem lock_without_c1_bnd {calm : List Nat} {f : Nat} : BndC calm f lock_without_c1_con := bndCalm
def lock_without_c1_cx : Cx := { tab := tab, con := [], funs := [], loops := [], want := want, ret := [], calm := [], bnd := [], eqs := eqs }
theorem lock_without_c1_cs : CsOk Go.Proofs.Try.prog X lock_without_c1_cx :=
  csOk ⟨fun _ _ h => tab_ok tabOk h, eqsOk⟩ mixed trivial trivial trivial rfl

def lock_without_c1_keep : List (Nat × LH) := []
theorem lock_without_c1_raw : ConOk Go.Proofs.Try.prog X 88 (fun _ args sto K => evBody lock_without_c1_cx (hcN lock_without_c1_cx 1) lock_without_c1_keep [] [] Go.Proofs.Try.f88 (bodyC Go.Proofs.Try.f88) args sto K) :=
  raw_ok lock_without_c1_cs 1 Go.Proofs.Try.func88 (by kernel_rfl) rfl fun R => loops_all 0 (by kernel_rfl) (fun i hi => absurd hi (Nat.not_lt_zero i))

theorem lock_without_c1_T (R : Type) (K : D → Sto → Option R) (x : lock_without_c1_ac.den) : evBody lock_without_c1_cx (hcN lock_without_c1_cx 1) lock_without_c1_keep [] [] Go.Proofs.Try.f88 (bodyC Go.Proofs.Try.f88) (mkSt lock_without_c1_ac x).env (mkSt lock_without_c1_ac x).sto K = lock_without_c1_cps big R (fun a0 => K ((mkE [.leaf (.bool)] (T := Unit) (a0, ())).1.headD .any) (mkSt lock_without_c1_ac x).sto) x.1 x.2.1 x.2.2.1 x.2.2.2.1 x.2.2.2.2.1 x.2.2.2.2.2.1 := by kernel_rfl
theorem lock_without_c1_ok : ConOk Go.Proofs.Try.prog X 88 lock_without_c1_con :=
  conCalm_ok (src := [.arg 1]) (sh := []) (rs := .leaf (.bool)) lock_without_c1_raw (fun R K (x : lock_without_c1_ac.den) => lock_without_c1_cps big R (fun a0 => K (a0, ())) x.1 x.2.1 x.2.2.1 x.2.2.2.1 x.2.2.2.2.1 x.2.2.2.2.2.1) lock_without_c1_T

/-! 85 slices.IndexFunc[[]frankpledge/lock.Lock,frankpledge/lock.Lock] -/
def slices_IndexFunc_lock_Lock_lock_Lock_3_l0c : SCode := ⟨[.leaf (.lit (.hw 0)), .fn 88 [.lit (.ptr 1 0)], .leaf (.lit (.any)), .leaf (.lit (.any)), .leaf (.lit (.any)), .leaf (.lit (.any)), .leaf (.lit (.any)), .leaf (.int .i64), .leaf (.int .i64), .leaf (.lit (.any)), .leaf (.lit (.any)), .leaf (.lit (.any)), .leaf (.lit (.any)), .leaf (.lit (.any)), .leaf (.lit (.any)), .leaf (.lit (.any)), .leaf (.lit (.any)), .leaf (.lit (.any)), .leaf (.lit (.any))], [[.arr (.pair (.int .i64) (.pair .str (.pair (.slice .byte) (.pair (.slice .byte) (.pair (.int .i64) .unit)))))], [.int .i64]]⟩
def slices_IndexFunc_lock_Lock_lock_Lock_3_l0e0 : SCode := ⟨[.leaf (.lit (.any)), .leaf (.lit (.any)), .leaf (.lit (.any)), .leaf (.lit (.any)), .leaf (.lit (.any)), .leaf (.lit (.any)), .leaf (.lit (.any)), .leaf (.lit (.any)), .leaf (.lit (.any)), .leaf (.lit (.any)), .leaf (.lit (.any)), .leaf (.lit (.any)), .leaf (.lit (.any)), .leaf (.lit (.any)), .leaf (.lit (.any)), .leaf (.lit (.any)), .leaf (.lit (.any)), .leaf (.lit (.any)), .leaf (.lit (.any))], [[.arr (.pair (.int .i64) (.pair .str (.pair (.slice .byte) (.pair (.slice .byte) (.pair (.int .i64) .unit)))))], [.int .i64]]⟩
def slices_IndexFunc_lock_Lock_lock_Lock_3_l0e1 : SCode := ⟨[.leaf (.lit (.any)), .leaf (.lit (.any)), .leaf (.lit (.any)), .leaf (.lit (.any)), .leaf (.int .i64), .leaf (.lit (.any)), .leaf (.lit (.any)), .leaf (.lit (.any)), .leaf (.lit (.any)), .leaf (.lit (.any)), .leaf (.lit (.any)), .leaf (.lit (.any)), .leaf (.lit (.any)), .leaf (.lit (.any)), .leaf (.lit (.any)), .leaf (.lit (.any)), .leaf (.lit (.any)), .leaf (.lit (.any)), .leaf (.lit (.any))], [[.arr (.pair (.int .i64) (.pair .str (.pair (.slice .byte) (.pair (.slice .byte) (.pair (.int .i64) .unit)))))], [.int .i64]]⟩
def slices_IndexFunc_lock_Lock_lock_Lock_3_l0h : LH := { env := [(0, .id), (1, .id), (7, .id), (8, .id)], sto := [], out := [(4, .id)], con := some (lconOf slices_IndexFunc_lock_Lock_lock_Lock_3_l0c fun R k x => slices_IndexFunc_lock_Lock_lock_Lock_3_l0 big R x.2.2.1 x.2.2.2.1 (k (.exit 0) (mkSt slices_IndexFunc_lock_Lock_lock_Lock_3_l0e0 (x.2.2.1, (x.2.2.2.1, ())))) (fun a0 => k .ret (mkSt slices_IndexFunc_lock_Lock_lock_Lock_3_l0e1 (a0, (x.2.2.1, (x.2.2.2.1, ()))))) big x.1 x.2.1), gc := some 2 }

def slices_IndexFunc_lock_Lock_lock_Lock_3_ac : SCode := ⟨[.leaf (.lit (.hw 0)), .fn 88 [.lit (.ptr 1 0)]], [[.arr (.pair (.int .i64) (.pair .str (.pair (.slice .byte) (.pair (.slice .byte) (.pair (.int .i64) .unit)))))], [.int .i64]]⟩
def slices_IndexFunc_lock_Lock_lock_Lock_3_con : Con := conCalm [.arg 0, .cap 1 0] [] slices_IndexFunc_lock_Lock_lock_Lock_3_ac (.leaf (.int .i64)) fun x => slices_IndexFunc_lock_Lock_lock_Lock_3 big x.1 x.2.1
theorem slices_IndexFunc_lock_Lock_lock_Lock_3_bnd {calm : List Nat} {f : Nat} : BndC calm f slices_IndexFunc_lock_Lock_lock_Lock_3_con := bndCalm
def slices_IndexFunc_lock_Lock_lock_Lock_3_cx : Cx := { tab := tab, con := [(88, lock_without_c1_con)], funs := [], loops := [], want := want, ret := [], calm := [88], bnd := [88], eqs := eqs, xl := true, xs := [96], xd := [] }
theorem slices_IndexFunc_lock_Lock_lock_Lock_3_cs : CsOk Go.Proofs.Try.prog X slices_IndexFunc_lock_Lock_lock_Lock_3_cx :=
  csOk ⟨fun _ _ h => tab_ok tabOk h, eqsOk⟩ mixed ⟨lock_without_c1_ok, trivial⟩ trivial ⟨lock_without_c1_bnd, trivial⟩ rfl

def slices_IndexFunc_lock_Lock_lock_Lock_3_keep : List (Nat × LH) := [(2, slices_IndexFunc_lock_Lock_lock_Lock_3_l0h)]
theorem slices_IndexFunc_lock_Lock_lock_Lock_3_L0s (R : Type) (recS : St → Option R) (k : Exit → St → Option R) (x : slices_IndexFunc_lock_Lock_lock_Lock_3_l0c.den) : evCode slices_IndexFunc_lock_Lock_lock_Lock_3_cx (hcN slices_IndexFunc_lock_Lock_lock_Lock_3_cx 1) slices_IndexFunc_lock_Lock_lock_Lock_3_keep (loopC Go.Proofs.Try.f85 0) (mkSt slices_IndexFunc_lock_Lock_lock_Lock_3_l0c x) (fun e st' => match e with | .normal => recS (norm slices_IndexFunc_lock_Lock_lock_Lock_3_l0h 2 st') | e => k e (normO slices_IndexFunc_lock_Lock_lock_Lock_3_l0h 2 st')) = (fun rec k x => slices_IndexFunc_lock_Lock_lock_Lock_3_l0B big R x.2.2.1 x.2.2.2.1 (fun a0 a1 => rec (a0, (a1, (x.2.2.1, (x.2.2.2.1, ()))))) (k (.exit 0) (mkSt slices_IndexFunc_lock_Lock_lock_Lock_3_l0e0 (x.2.2.1, (x.2.2.2.1, ())))) (fun a0 => k .ret (mkSt slices_IndexFunc_lock_Lock_lock_Lock_3_l0e1 (a0, (x.2.2.1, (x.2.2.2.1, ()))))) x.1 x.2.1) (fun y => recS (mkSt slices_IndexFunc_lock_Lock_lock_Lock_3_l0c y)) k x := by kernel_rfl
theorem slices_IndexFunc_lock_Lock_lock_Lock_3_L0 (R : Type) : LOkR (R := R) slices_IndexFunc_lock_Lock_lock_Lock_3_cx (hcN slices_IndexFunc_lock_Lock_lock_Lock_3_cx 1) slices_IndexFunc_lock_Lock_lock_Lock_3_keep (loopC Go.Proofs.Try.f85 0) :=
  lok_iter (lh := slices_IndexFunc_lock_Lock_lock_Lock_3_l0h) slices_IndexFunc_lock_Lock_lock_Lock_3_l0c (fun R n k x => slices_IndexFunc_lock_Lock_lock_Lock_3_l0 big R x.2.2.1 x.2.2.2.1 (k (.exit 0) (mkSt slices_IndexFunc_lock_Lock_lock_Lock_3_l0e0 (x.2.2.1, (x.2.2.2.1, ())))) (fun a0 => k .ret (mkSt slices_IndexFunc_lock_Lock_lock_Lock_3_l0e1 (a0, (x.2.2.1, (x.2.2.2.1, ()))))) n x.1 x.2.1) (fun _ => big) (fun rec k x => slices_IndexFunc_lock_Lock_lock_Lock_3_l0B big R x.2.2.1 x.2.2.2.1 (fun a0 a1 => rec (a0, (a1, (x.2.2.1, (x.2.2.2.1, ()))))) (k (.exit 0) (mkSt slices_IndexFunc_lock_Lock_lock_Lock_3_l0e0 (x.2.2.1, (x.2.2.2.1, ())))) (fun a0 => k .ret (mkSt slices_IndexFunc_lock_Lock_lock_Lock_3_l0e1 (a0, (x.2.2.1, (x.2.2.2.1, ()))))) x.1 x.2.1) rfl rfl (slices_IndexFunc_lock_Lock_lock_Lock_3_L0s R) (fun _ _ => rfl) (fun _ _ _ => rfl)

theorem slices_IndexFunc_lock_Lock_lock_Lock_3_raw : ConOk Go.Proofs.Try.prog X 85 (fun _ args sto K => evBody slices_IndexFunc_lock_Lock_lock_Lock_3_cx (hcN slices_IndexFunc_lock_Lock_lock_Lock_3_cx 1) slices_IndexFunc_lock_Lock_lock_Lock_3_keep [] [] Go.Proofs.Try.f85 (bodyC Go.Proofs.Try.f85) args sto K) :=
  raw_ok slices_IndexFunc_lock_Lock_lock_Lock_3_cs 1 Go.Proofs.Try.func85 (by kernel_rfl) rfl fun R => loops_all 1 (by kernel_rfl) (fun i hi => match i, hi with | 0, _ => slices_IndexFunc_lock_Lock_lock_Lock_3_L0 R | n + 1, h => absurd h (by omega))

theorem slices_IndexFunc_lock_Lock_lock_Lock_3_T (R : Type) (K : D → Sto → Option R) (x : slices_IndexFunc_lock_Lock_lock_Lock_3_ac.den) : evBody slices_IndexFunc_lock_Lock_lock_Lock_3_cx (hcN slices_IndexFunc_lock_Lock_lock_Lock_3_cx 1) slices_IndexFunc_lock_Lock_lock_Lock_3_keep [] [] Go.Proofs.Try.f85 (bodyC Go.Proofs.Try.f85) (mkSt slices_IndexFunc_lock_Lock_lock_Lock_3_ac x).env (mkSt slices_IndexFunc_lock_Lock_lock_Lock_3_ac x).sto K = slices_IndexFunc_lock_Lock_lock_Lock_3_cps big R (fun a0 => K ((mkE [.leaf (.int .i64)] (T := Unit) (a0, ())).1.headD .any) (mkSt slices_IndexFunc_lock_Lock_lock_Lock_3_ac x).sto) x.1 x.2.1 := by kernel_rfl
theorem slices_IndexFunc_lock_Lock_lock_Lock_3_ok : ConOk Go.Proofs.Try.prog X 85 slices_IndexFunc_lock_Lock_lock_Lock_3_con :=
  conCalm_ok (src := [.arg 0, .cap 1 0]) (sh := []) (rs := .leaf (.int .i64)) slices_IndexFunc_lock_Lock_lock_Lock_3_raw (fun R K (x : slices_IndexFunc_lock_Lock_lock_Lock_3_ac.den) => slices_IndexFunc_lock_Lock_lock_Lock_3_cps big R (fun a0 => K (a0, ())) x.1 x.2.1) slices_IndexFunc_lock_Lock_lock_Lock_3_T

/-! 87 slices.DeleteFunc[[]frankpledge/lock.Lock,frankpledge/lock.Lock] -/
def slices_DeleteFunc_lock_Lock_lock_Lock_l0c : SCode := ⟨[.leaf (.lit (.hw 2)), .fn 88 [.lit (.ptr 1 0)], .leaf (.lit (.any)), .leaf (.lit (.any)), .leaf (.lit (.any)), .leaf (.int .i64), .leaf (.int .i64), .leaf (.lit (.any)), .leaf (.lit (.any)), .leaf (.lit (.any)), .leaf (.lit (.any)), .leaf (.lit (.any)), .leaf (.lit (.any)), .leaf (.lit (.any)), .leaf (.lit (.any)), .leaf (.lit (.any)), .leaf (.lit (.any)), .leaf (.lit (.any)), .leaf (.lit (.any)), .leaf (.lit (.any)), .leaf (.lit (.any)), .leaf (.lit (.any)), .leaf (.lit (.any)), .leaf (.lit (.any)), .leaf (.lit (.any)), .leaf (.lit (.any)), .leaf (.lit (.any)), .leaf (.lit (.any)), .leaf (.lit (.any)), .leaf (.lit (.any)), .leaf (.lit (.any)), .leaf (.lit (.any)), .leaf (.lit (.any)), .leaf (.lit (.any)), .leaf (.lit (.any)), .leaf (.lit (.any)), .leaf (.lit (.any)), .leaf (.lit (.any)), .leaf (.lit (.any)), .leaf (.lit (.any)), .leaf (.lit (.any)), .leaf (.lit (.any))], [[], [.int .i64], [.arr (.pair (.int .i64) (.pair .str (.pair (.slice .byte) (.pair (.slice .byte) (.pair (.int .i64) .unit)))))]]⟩
def slices_DeleteFunc_lock_Lock_lock_Lock_l0e0 : SCode := ⟨[.leaf (.lit (.hw 2)), .leaf (.lit (.any)), .leaf (.lit (.any)), .leaf (.lit (.any)), .leaf (.lit (.any)), .leaf (.int .i64), .leaf (.lit (.any)), .leaf (.lit (.any)), .leaf (.lit (.any)), .leaf (.lit (.any)), .leaf (.lit (.any)), .leaf (.lit (.any)), .leaf (.lit (.any)), .leaf (.lit (.any)), .leaf (.lit (.any)), .leaf (.lit (.any)), .leaf (.lit (.any)), .leaf (.lit (.any)), .leaf (.lit (.any)), .leaf (.lit (.any)), .leaf (.lit (.any)), .leaf (.lit (.any)), .leaf (.lit (.any)), .leaf (.lit (.any)), .leaf (.lit (.any)), .leaf (.lit (.any)), .leaf (.lit (.any)), .leaf (.lit (.any)), .leaf (.lit (.any)), .leaf (.lit (.any)), .leaf (.lit (.any)), .leaf (.lit (.any)), .leaf (.lit (.any)), .leaf (.lit (.any)), .leaf (.lit (.any)), .leaf (.lit (.any)), .leaf (.lit (.any)), .leaf (.lit (.any)), .leaf (.lit (.any)), .leaf (.lit (.any)), .leaf (.lit (.any)), .leaf (.lit (.any))], [[], [.int .i64], [.arr (.pair (.int .i64) (.pair .str (.pair (.slice .byte) (.pair (.slice .byte) (.pair (.int .i64) .unit)))))]]⟩
def slices_DeleteFunc_lock_Lock_lock_Lock_l0h : LH := { env := [(0, .id), (1, .id), (5, .id), (6, .id)], sto := [], out := [(0, .id), (5, .id)], con := some (lconOf slices_DeleteFunc_lock_Lock_lock_Lock_l0c fun R k x => slices_DeleteFunc_lock_Lock_lock_Lock_l0 big R x.2.2.1 (fun a0 a1 => k (.exit 0) (mkSt slices_DeleteFunc_lock_Lock_lock_Lock_l0e0 (a0, (x.2.2.1, (a1, ()))))) big x.1 x.2.1 x.2.2.2.1), gc := some 2 }

def slices_DeleteFunc_lock_Lock_lock_Lock_ac : SCode := ⟨[.leaf (.lit (.hw 0)), .fn 88 [.lit (.ptr 1 0)]], [[.arr (.pair (.int .i64) (.pair .str (.pair (.slice .byte) (.pair (.slice .byte) (.pair (.int .i64) .unit)))))], [.int .i64]]⟩
def slices_DeleteFunc_lock_Lock_lock_Lock_con : Con := conFn [.arg 0, .cap 1 0] [] slices_DeleteFunc_lock_Lock_lock_Lock_ac (.leaf (.lit (.hw 2))) [[], [.int .i64], [.arr (.pair (.int .i64) (.pair .str (.pair (.slice .byte) (.pair (.slice .byte) (.pair (.int .i64) .unit)))))]] fun x => slices_DeleteFunc_lock_Lock_lock_Lock big x.1 x.2.1
theorem slices_DeleteFunc_lock_Lock_lock_Lock_bnd {calm : List Nat} {f : Nat} (hf : calm.any (Nat.beq f) = false) : BndC calm f slices_DeleteFunc_lock_Lock_lock_Lock_con := bndFn hf
def slices_DeleteFunc_lock_Lock_lock_Lock_cx : Cx := { tab := tab, con := [(85, slices_IndexFunc_lock_Lock_lock_Lock_3_con), (88, lock_without_c1_con)], funs := [], loops := [], want := want, ret := [], calm := [85, 88], bnd := [85, 88], eqs := eqs, xl := true, xs := [96], xd := [(41, [(0, (.pair (.int .i64) (.pair .str (.pair (.slice .byte) (.pair (.slice .byte) (.pair (.int .i64) .unit))))))])] }
theorem slices_DeleteFunc_lock_Lock_lock_Lock_cs : CsOk Go.Proofs.Try.prog X slices_DeleteFunc_lock_Lock_lock_Lock_cx :=
  csOk ⟨fun _ _ h => tab_ok tabOk h, eqsOk⟩ mixed ⟨slices_IndexFunc_lock_Lock_lock_Lock_3_ok, lock_without_c1_ok, trivial⟩ trivial ⟨slices_IndexFunc_lock_Lock_lock_Lock_3_bnd, lock_without_c1_bnd, trivial⟩ rfl

def slices_DeleteFunc_lock_Lock_lock_Lock_keep : List (Nat × LH) := [(5, slices_DeleteFunc_lock_Lock_lock_Lock_l0h), (3000000, { env := [], sto := [], out := [], con := none })]
theorem slices_DeleteFunc_lock_Lock_lock_Lock_L0s (R : Type) (recS : St → Option R) (k : Exit → St → Option R) (x : slices_DeleteFunc_lock_Lock_lock_Lock_l0c.den) : evCode slices_DeleteFunc_lock_Lock_lock_Lock_cx (hcN slices_DeleteFunc_lock_Lock_lock_Lock_cx 1) slices_DeleteFunc_lock_Lock_lock_Lock_keep (loopC Go.Proofs.Try.f87 0) (mkSt slices_DeleteFunc_lock_Lock_lock_Lock_l0c x) (fun e st' => match e with | .normal => recS (norm slices_DeleteFunc_lock_Lock_lock_Lock_l0h 3 st') | e => k e (normO slices_DeleteFunc_lock_Lock_lock_Lock_l0h 3 st')) = (fun rec k x => slices_DeleteFunc_lock_Lock_lock_Lock_l0B big R x.2.2.1 (fun a0 a1 a2 => rec (a0, (a1, (x.2.2.1, (a2, ()))))) (fun a0 a1 => k (.exit 0) (mkSt slices_DeleteFunc_lock_Lock_lock_Lock_l0e0 (a0, (x.2.2.1, (a1, ()))))) x.1 x.2.1 x.2.2.2.1) (fun y => recS (mkSt slices_DeleteFunc_lock_Lock_lock_Lock_l0c y)) k x := by kernel_rfl
theorem slices_DeleteFunc_lock_Lock_lock_Lock_L0 (R : Type) : LOkR (R := R) slices_DeleteFunc_lock_Lock_lock_Lock_cx (hcN slices_DeleteFunc_lock_Lock_lock_Lock_cx 1) slices_DeleteFunc_lock_Lock_lock_Lock_keep (loopC Go.Proofs.Try.f87 0) :=
  lok_iter (lh := slices_DeleteFunc_lock_Lock_lock_Lock_l0h) slices_DeleteFunc_lock_Lock_lock_Lock_l0c (fun R n k x => slices_DeleteFunc_lock_Lock_lock_Lock_l0 big R x.2.2.1 (fun a0 a1 => k (.exit 0) (mkSt slices_DeleteFunc_lock_Lock_lock_Lock_l0e0 (a0, (x.2.2.1, (a1, ()))))) n x.1 x.2.1 x.2.2.2.1) (fun _ => big) (fun rec k x => slices_DeleteFunc_lock_Lock_lock_Lock_l0B big R x.2.2.1 (fun a0 a1 a2 => rec (a0, (a1, (x.2.2.1, (a2, ()))))) (fun a0 a1 => k (.exit 0) (mkSt slices_DeleteFunc_lock_Lock_lock_Lock_l0e0 (a0, (x.2.2.1, (a1, ()))))) x.1 x.2.1 x.2.2.2.1) rfl rfl (slices_DeleteFunc_lock_Lock_lock_Lock_L0s R) (fun _ _ => rfl) (fun _ _ _ => rfl)

theorem slices_DeleteFunc_lock_Lock_lock_Lock_raw : ConOk Go.Proofs.Try.prog X 87 (fun _ args sto K => evBody slices_DeleteFunc_lock_Lock_lock_Lock_cx (hcN slices_DeleteFunc_lock_Lock_lock_Lock_cx 1) slices_DeleteFunc_lock_Lock_lock_Lock_keep [] [] Go.Proofs.Try.f87 (bodyC Go.Proofs.Try.f87) args sto K) :=
  raw_ok2 slices_DeleteFunc_lock_Lock_lock_Lock_cs 1 Go.Proofs.Try.func87 (by kernel_rfl) (fun R => loops_all 1 (by kernel_rfl) (fun i hi => match i, hi with | 0, _ => slices_DeleteFunc_lock_Lock_lock_Lock_L0 R | n + 1, h => absurd h (by omega))) (fun R => joins_all [] (by kernel_rfl) (AllJ.get trivial))

theorem slices_DeleteFunc_lock_Lock_lock_Lock_T (R : Type) (K : D → Sto → Option R) (x : slices_DeleteFunc_lock_Lock_lock_Lock_ac.den) : evBody slices_DeleteFunc_lock_Lock_lock_Lock_cx (hcN slices_DeleteFunc_lock_Lock_lock_Lock_cx 1) slices_DeleteFunc_lock_Lock_lock_Lock_keep [] [] Go.Proofs.Try.f87 (bodyC Go.Proofs.Try.f87) (mkSt slices_DeleteFunc_lock_Lock_lock_Lock_ac x).env (mkSt slices_DeleteFunc_lock_Lock_lock_Lock_ac x).sto K = slices_DeleteFunc_lock_Lock_lock_Lock_cps big R (fun a0 a1 => K ((mkSt ⟨[.leaf (.lit (.hw 2))], [[], [.int .i64], [.arr (.pair (.int .i64) (.pair .str (.pair (.slice .byte) (.pair (.slice .byte) (.pair (.int .i64) .unit)))))]]⟩ (a0, (a1, ()))).env.headD .any) (mkSt ⟨[.leaf (.lit (.hw 2))], [[], [.int .i64], [.arr (.pair (.int .i64) (.pair .str (.pair (.slice .byte) (.pair (.slice .byte) (.pair (.int .i64) .unit)))))]]⟩ (a0, (a1, ()))).sto) x.1 x.2.1 := by kernel_rfl
theorem slices_DeleteFunc_lock_Lock_lock_Lock_ok : ConOk Go.Proofs.Try.prog X 87 slices_DeleteFunc_lock_Lock_lock_Lock_con :=
  conFn_ok (src := [.arg 0, .cap 1 0]) (sh := []) (rs := .leaf (.lit (.hw 2))) (rows := [[], [.int .i64], [.arr (.pair (.int .i64) (.pair .str (.pair (.slice .byte) (.pair (.slice .byte) (.pair (.int .i64) .unit)))))]]) slices_DeleteFunc_lock_Lock_lock_Lock_raw (fun R K (x : slices_DeleteFunc_lock_Lock_lock_Lock_ac.den) => slices_DeleteFunc_lock_Lock_lock_Lock_cps big R (fun a0 a1 => K (a0, (a1, ()))) x.1 x.2.1) slices_DeleteFunc_lock_Lock_lock_Lock_T

/-! 80 frankpledge/lock.without -/
def lock_without_ac : SCode := ⟨[.leaf (.lit (.hw 0)), .leaf (.int .i64)], [[.arr (.pair (.int .i64) (.pair .str (.pair (.slice .byte) (.pair (.slice .byte) (.pair (.int .i64) .unit)))))]]⟩
def lock_without_con : Con := conFn [.arg 0] [] lock_without_ac (.leaf (.lit (.hw 1))) [[], [.arr (.pair (.int .i64) (.pair .str (.pair (.slice .byte) (.pair (.slice .byte) (.pair (.int .i64) .unit)))))]] fun x => lock_without big x.1 x.2.1
theorem lock_without_bnd {calm : List Nat} {f : Nat} (hf : calm.any (Nat.beq f) = false) : BndC calm f lock_without_con := bndFn hf
def lock_without_cx : Cx := { tab := tab, con := [(87, slices_DeleteFunc_lock_Lock_lock_Lock_con)], funs := [], loops := [], want := want, ret := [], calm := [], bnd := [87], eqs := eqs, xl := true, xs := [96], xd := [] }
theorem lock_without_cs : CsOk Go.Proofs.Try.prog X lock_without_cx :=
  csOk ⟨fun _ _ h => tab_ok tabOk h, eqsOk⟩ mixed ⟨slices_DeleteFunc_lock_Lock_lock_Lock_ok, trivial⟩ trivial ⟨slices_DeleteFunc_lock_Lock_lock_Lock_bnd rfl, trivial⟩ rfl

def lock_without_keep : List (Nat × LH) := [(3000000, { env := [], sto := [], out := [], con := none })]
theorem lock_without_raw : ConOk Go.Proofs.Try.prog X 80 (fun _ args sto K => evBody lock_without_cx (hcN lock_without_cx 1) lock_without_keep [] [] Go.Proofs.Try.f80 (bodyC Go.Proofs.Try.f80) args sto K) :=
  raw_ok2 lock_without_cs 1 Go.Proofs.Try.func80 (by kernel_rfl) (fun R => loops_all 0 (by kernel_rfl) (fun i hi => absurd hi (Nat.not_lt_zero i))) (fun R => joins_all [] (by kernel_rfl) (AllJ.get trivial))

theorem lock_without_T (R : Type) (K : D → Sto → Option R) (x : lock_without_ac.den) : evBody lock_without_cx (hcN lock_without_cx 1) lock_without_keep [] [] Go.Proofs.Try.f80 (bodyC Go.Proofs.Try.f80) (mkSt lock_without_ac x).env (mkSt lock_without_ac x).sto K = lock_without_cps big R (fun a0 => K ((mkSt ⟨[.leaf (.lit (.hw 1))], [[], [.arr (.pair (.int .i64) (.pair .str (.pair (.slice .byte) (.pair (.slice .byte) (.pair (.int .i64) .unit)))))]]⟩ (a0, ())).env.headD .any) (mkSt ⟨[.leaf (.lit (.hw 1))], [[], [.arr (.pair (.int .i64) (.pair .str (.pair (.slice .byte) (.pair (.slice .byte) (.pair (.int .i64) .unit)))))]]⟩ (a0, ())).sto) x.1 x.2.1 := by kernel_rfl
theorem lock_without_ok : ConOk Go.Proofs.Try.prog X 80 lock_without_con :=
  conFn_ok (src := [.arg 0]) (sh := []) (rs := .leaf (.lit (.hw 1))) (rows := [[], [.arr (.pair (.int .i64) (.pair .str (.pair (.slice .byte) (.pair (.slice .byte) (.pair (.int .i64) .unit)))))]]) lock_without_raw (fun R K (x : lock_without_ac.den) => lock_without_cps big R (fun a0 => K (a0, ())) x.1 x.2.1) lock_without_T

/-! 89 (*frankpledge/lock.Locks).look -/
def lock_Locks_look_l0c : SCode := ⟨[.leaf (.lit (.ptr 0 0)), .leaf (.lit (.any)), .leaf (.lit (.any)), .leaf (.sl .own (.int .i64)), .leaf (.lit (.hw 3)), .leaf (.lit (.any)), .leaf (.lit (.any)), .leaf (.lit (.any)), .leaf (.lit (.any)), .leaf (.lit (.any)), .leaf (.lit (.hw 4)), .leaf (.int .i64), .leaf (.int .i64), .leaf (.lit (.any)), .leaf (.lit (.any)), .leaf (.lit (.any)), .leaf (.lit (.any)), .leaf (.lit (.any)), .leaf (.lit (.any)), .leaf (.lit (.any)), .leaf (.lit (.any)), .leaf (.lit (.any)), .leaf (.lit (.any)), .leaf (.lit (.any)), .leaf (.lit (.any)), .leaf (.lit (.any)), .leaf (.lit (.any)), .leaf (.lit (.any)), .leaf (.lit (.any)), .leaf (.lit (.any)), .leaf (.lit (.any)), .leaf (.lit (.any)), .leaf (.lit (.any)), .leaf (.lit (.any)), .leaf (.lit (.any)), .leaf (.lit (.any)), .leaf (.lit (.any)), .leaf (.lit (.any)), .leaf (.lit (.any)), .leaf (.lit (.any)), .leaf (.lit (.any)), .leaf (.lit (.any)), .leaf (.lit (.any)), .leaf (.lit (.any)), .leaf (.lit (.any)), .leaf (.lit (.any)), .leaf (.lit (.any)), .leaf (.lit (.any)), .leaf (.lit (.any)), .leaf (.lit (.any)), .leaf (.lit (.any)), .leaf (.lit (.any))], [[.lit (.hw 5), .lit (.hw 4)], [], [], [.arr (.pair (.int .i64) (.pair .str (.pair (.slice .byte) (.pair (.slice .byte) (.pair (.int .i64) .unit)))))], [.arr (.pair (.int .i64) (.pair .str (.pair (.slice .byte) (.pair (.slice .byte) (.pair (.int .i64) .unit)))))], [.arr (.pair (.int .i64) (.pair .str (.pair (.slice .byte) (.pair (.slice .byte) (.pair (.int .i64) .unit)))))]]⟩
def lock_Locks_look_l0e0 : SCode := ⟨[.leaf (.lit (.ptr 0 0)), .leaf (.lit (.any)), .leaf (.lit (.any)), .leaf (.sl .own (.int .i64)), .leaf (.lit (.hw 3)), .leaf (.lit (.any)), .leaf (.lit (.any)), .leaf (.lit (.any)), .leaf (.lit (.any)), .leaf (.lit (.any)), .leaf (.lit (.any)), .leaf (.lit (.any)), .leaf (.lit (.any)), .leaf (.lit (.any)), .leaf (.lit (.any)), .leaf (.lit (.any)), .leaf (.lit (.any)), .leaf (.lit (.any)), .leaf (.lit (.any)), .leaf (.lit (.any)), .leaf (.lit (.any)), .leaf (.lit (.any)), .leaf (.lit (.any)), .leaf (.lit (.any)), .leaf (.lit (.any)), .leaf (.lit (.any)), .leaf (.lit (.any)), .leaf (.lit (.any)), .leaf (.lit (.any)), .leaf (.lit (.any)), .leaf (.lit (.any)), .leaf (.lit (.any)), .leaf (.lit (.any)), .leaf (.lit (.any)), .leaf (.lit (.any)), .leaf (.lit (.any)), .leaf (.lit (.any)), .leaf (.lit (.any)), .leaf (.lit (.any)), .leaf (.lit (.any)), .leaf (.lit (.any)), .leaf (.lit (.any)), .leaf (.lit (.any)), .leaf (.lit (.any)), .leaf (.lit (.any)), .leaf (.lit (.any)), .leaf (.lit (.any)), .leaf (.lit (.any)), .leaf (.lit (.any)), .leaf (.lit (.any)), .leaf (.lit (.any)), .leaf (.lit (.any))], [[.lit (.hw 4), .lit (.hw 5)], [], [], [.arr (.pair (.int .i64) (.pair .str (.pair (.slice .byte) (.pair (.slice .byte) (.pair (.int .i64) .unit)))))], [.arr (.pair (.int .i64) (.pair .str (.pair (.slice .byte) (.pair (.slice .byte) (.pair (.int .i64) .unit)))))], [.arr (.pair (.int .i64) (.pair .str (.pair (.slice .byte) (.pair (.slice .byte) (.pair (.int .i64) .unit)))))]]⟩
def lock_Locks_look_l0h : LH := { env := [(0, .id), (3, .own (.int .i64)), (4, .id), (10, .id), (11, .id), (12, .id)], sto := [], out := [(0, .id), (3, .id), (4, .id)], con := some (lconOf lock_Locks_look_l0c fun R k x => lock_Locks_look_l0 big R x.2.2.2.2.1 (fun a0 a1 a2 => k (.exit 0) (mkSt lock_Locks_look_l0e0 (a0, (a1, (a2, (x.2.2.2.2.1, ())))))) big x.1 x.2.1 x.2.2.1 x.2.2.2.1 x.2.2.2.2.2.1), gc := some 3 }

def lock_Locks_look_ac : SCode := ⟨[.leaf (.lit (.ptr 0 0))], [[.lit (.hw 1), .lit (.hw 2)], [.arr (.pair (.int .i64) (.pair .str (.pair (.slice .byte) (.pair (.slice .byte) (.pair (.int .i64) .unit)))))], [.arr (.pair (.int .i64) (.pair .str (.pair (.slice .byte) (.pair (.slice .byte) (.pair (.int .i64) .unit)))))]]⟩
def lock_Locks_look_con : Con := conFn [.arg 0, .cell 0 0, .cell 0 1] [] lock_Locks_look_ac (.leaf (.sl .own (.int .i64))) [[.lit (.hw 3), .lit (.hw 4)], [], [], [.arr (.pair (.int .i64) (.pair .str (.pair (.slice .byte) (.pair (.slice .byte) (.pair (.int .i64) .unit)))))], [.arr (.pair (.int .i64) (.pair .str (.pair (.slice .byte) (.pair (.slice .byte) (.pair (.int .i64) .unit)))))]] fun x => lock_Locks_look big x.1 x.2.1
theorem lock_Locks_look_bnd {calm : List Nat} {f : Nat} (hf : calm.any (Nat.beq f) = false) : BndC calm f lock_Locks_look_con := bndFn hf
def lock_Locks_look_cx : Cx := { tab := tab, con := [(79, lock_clashes_con)], funs := [], loops := [], want := want, ret := [], calm := [79], bnd := [79], eqs := eqs, xl := true, xs := [96], xd := [(4, [(0, (.pair (.int .i64) (.pair .str (.pair (.slice .byte) (.pair (.slice .byte) (.pair (.int .i64) .unit))))))])] }
theorem lock_Locks_look_cs : CsOk Go.Proofs.Try.prog X lock_Locks_look_cx :=
  csOk ⟨fun _ _ h => tab_ok tabOk h, eqsOk⟩ mixed ⟨lock_clashes_ok, trivial⟩ trivial ⟨lock_clashes_bnd, trivial⟩ rfl

def lock_Locks_look_keep : List (Nat × LH) := [(4, lock_Locks_look_l0h), (3000000, { env := [], sto := [], out := [], con := none })]
theorem lock_Locks_look_L0s (R : Type) (recS : St → Option R) (k : Exit → St → Option R) (x : lock_Locks_look_l0c.den) : evCode lock_Locks_look_cx (hcN lock_Locks_look_cx 1) lock_Locks_look_keep (loopC Go.Proofs.Try.f89 0) (mkSt lock_Locks_look_l0c x) (fun e st' => match e with | .normal => recS (norm lock_Locks_look_l0h 6 st') | e => k e (normO lock_Locks_look_l0h 6 st')) = (fun rec k x => lock_Locks_look_l0B big R x.2.2.2.2.1 (fun a0 a1 a2 a3 a4 => rec (a0, (a1, (a2, (a3, (x.2.2.2.2.1, (a4, ()))))))) (fun a0 a1 a2 => k (.exit 0) (mkSt lock_Locks_look_l0e0 (a0, (a1, (a2, (x.2.2.2.2.1, ())))))) x.1 x.2.1 x.2.2.1 x.2.2.2.1 x.2.2.2.2.2.1) (fun y => recS (mkSt lock_Locks_look_l0c y)) k x := by kernel_rfl
theorem lock_Locks_look_L0 (R : Type) : LOkR (R := R) lock_Locks_look_cx (hcN lock_Locks_look_cx 1) lock_Locks_look_keep (loopC Go.Proofs.Try.f89 0) :=
  lok_iter (lh := lock_Locks_look_l0h) lock_Locks_look_l0c (fun R n k x => lock_Locks_look_l0 big R x.2.2.2.2.1 (fun a0 a1 a2 => k (.exit 0) (mkSt lock_Locks_look_l0e0 (a0, (a1, (a2, (x.2.2.2.2.1, ())))))) n x.1 x.2.1 x.2.2.1 x.2.2.2.1 x.2.2.2.2.2.1) (fun _ => big) (fun rec k x => lock_Locks_look_l0B big R x.2.2.2.2.1 (fun a0 a1 a2 a3 a4 => rec (a0, (a1, (a2, (a3, (x.2.2.2.2.1, (a4, ()))))))) (fun a0 a1 a2 => k (.exit 0) (mkSt lock_Locks_look_l0e0 (a0, (a1, (a2, (x.2.2.2.2.1, ())))))) x.1 x.2.1 x.2.2.1 x.2.2.2.1 x.2.2.2.2.2.1) rfl rfl (lock_Locks_look_L0s R) (fun _ _ => rfl) (fun _ _ _ => rfl)

theorem lock_Locks_look_raw : ConOk Go.Proofs.Try.prog X 89 (fun _ args sto K => evBody lock_Locks_look_cx (hcN lock_Locks_look_cx 1) lock_Locks_look_keep [] [] Go.Proofs.Try.f89 (bodyC Go.Proofs.Try.f89) args sto K) :=
  raw_ok2 lock_Locks_look_cs 1 Go.Proofs.Try.func89 (by kernel_rfl) (fun R => loops_all 1 (by kernel_rfl) (fun i hi => match i, hi with | 0, _ => lock_Locks_look_L0 R | n + 1, h => absurd h (by omega))) (fun R => joins_all [] (by kernel_rfl) (AllJ.get trivial))

theorem lock_Locks_look_T (R : Type) (K : D → Sto → Option R) (x : lock_Locks_look_ac.den) : evBody lock_Locks_look_cx (hcN lock_Locks_look_cx 1) lock_Locks_look_keep [] [] Go.Proofs.Try.f89 (bodyC Go.Proofs.Try.f89) (mkSt lock_Locks_look_ac x).env (mkSt lock_Locks_look_ac x).sto K = lock_Locks_look_cps big R (fun a0 a1 a2 => K ((mkSt ⟨[.leaf (.sl .own (.int .i64))], [[.lit (.hw 3), .lit (.hw 4)], [], [], [.arr (.pair (.int .i64) (.pair .str (.pair (.slice .byte) (.pair (.slice .byte) (.pair (.int .i64) .unit)))))], [.arr (.pair (.int .i64) (.pair .str (.pair (.slice .byte) (.pair (.slice .byte) (.pair (.int .i64) .unit)))))]]⟩ (a0, (a1, (a2, ())))).env.headD .any) (mkSt ⟨[.leaf (.sl .own (.int .i64))], [[.lit (.hw 3), .lit (.hw 4)], [], [], [.arr (.pair (.int .i64) (.pair .str (.pair (.slice .byte) (.pair (.slice .byte) (.pair (.int .i64) .unit)))))], [.arr (.pair (.int .i64) (.pair .str (.pair (.slice .byte) (.pair (.slice .byte) (.pair (.int .i64) .unit)))))]]⟩ (a0, (a1, (a2, ())))).sto) x.1 x.2.1 := by kernel_rfl
theorem lock_Locks_look_ok : ConOk Go.Proofs.Try.prog X 89 lock_Locks_look_con :=
  conFn_ok (src := [.arg 0, .cell 0 0, .cell 0 1]) (sh := []) (rs := .leaf (.sl .own (.int .i64))) (rows := [[.lit (.hw 3), .lit (.hw 4)], [], [], [.arr (.pair (.int .i64) (.pair .str (.pair (.slice .byte) (.pair (.slice .byte) (.pair (.int .i64) .unit)))))], [.arr (.pair (.int .i64) (.pair .str (.pair (.slice .byte) (.pair (.slice .byte) (.pair (.int .i64) .unit)))))]]) lock_Locks_look_raw (fun R K (x : lock_Locks_look_ac.den) => lock_Locks_look_cps big R (fun a0 a1 a2 => K (a0, (a1, (a2, ())))) x.1 x.2.1) lock_Locks_look_T

/-! 81 (*frankpledge/lock.Locks).Cancel -/
def lock_Locks_Cancel_ac : SCode := ⟨[.leaf (.lit (.ptr 0 0)), .leaf (.int .i64)], [[.lit (.hw 1), .lit (.hw 2)], [.arr (.pair (.int .i64) (.pair .str (.pair (.slice .byte) (.pair (.slice .byte) (.pair (.int .i64) .unit)))))], [.arr (.pair (.int .i64) (.pair .str (.pair (.slice .byte) (.pair (.slice .byte) (.pair (.int .i64) .unit)))))]]⟩
def lock_Locks_Cancel_con : Con := conFn [.arg 0, .cell 0 0, .cell 0 1] [] lock_Locks_Cancel_ac (.leaf (.sl .own (.int .i64))) [[.lit (.hw 3), .lit (.hw 4)], [], [], [.arr (.pair (.int .i64) (.pair .str (.pair (.slice .byte) (.pair (.slice .byte) (.pair (.int .i64) .unit)))))], [.arr (.pair (.int .i64) (.pair .str (.pair (.slice .byte) (.pair (.slice .byte) (.pair (.int .i64) .unit)))))]] fun x => lock_Locks_Cancel big x.1 x.2.1 x.2.2.1
theorem lock_Locks_Cancel_bnd {calm : List Nat} {f : Nat} (hf : calm.any (Nat.beq f) = false) : BndC calm f lock_Locks_Cancel_con := bndFn hf
def lock_Locks_Cancel_cx : Cx := { tab := tab, con := [(80, lock_without_con), (89, lock_Locks_look_con)], funs := [], loops := [], want := want, ret := [], calm := [], bnd := [80, 89], eqs := eqs, xl := true, xs := [96], xd := [] }
theorem lock_Locks_Cancel_cs : CsOk Go.Proofs.Try.prog X lock_Locks_Cancel_cx :=
  csOk ⟨fun _ _ h => tab_ok tabOk h, eqsOk⟩ mixed ⟨lock_without_ok, lock_Locks_look_ok, trivial⟩ trivial ⟨lock_without_bnd rfl, lock_Locks_look_bnd rfl, trivial⟩ rfl

def lock_Locks_Cancel_keep : List (Nat × LH) := [(3000000, { env := [], sto := [], out := [], con := none })]
theorem lock_Locks_Cancel_raw : ConOk Go.Proofs.Try.prog X 81 (fun _ args sto K => evBody lock_Locks_Cancel_cx (hcN lock_Locks_Cancel_cx 1) lock_Locks_Cancel_keep [] [] Go.Proofs.Try.f81 (bodyC Go.Proofs.Try.f81) args sto K) :=
  raw_ok2 lock_Locks_Cancel_cs 1 Go.Proofs.Try.func81 (by kernel_rfl) (fun R => loops_all 0 (by kernel_rfl) (fun i hi => absurd hi (Nat.not_lt_zero i))) (fun R => joins_all [] (by kernel_rfl) (AllJ.get trivial))

theorem lock_Locks_Cancel_T (R : Type) (K : D → Sto → Option R) (x : lock_Locks_Cancel_ac.den) : evBody lock_Locks_Cancel_cx (hcN lock_Locks_Cancel_cx 1) lock_Locks_Cancel_keep [] [] Go.Proofs.Try.f81 (bodyC Go.Proofs.Try.f81) (mkSt lock_Locks_Cancel_ac x).env (mkSt lock_Locks_Cancel_ac x).sto K = lock_Locks_Cancel_cps big R (fun a0 a1 a2 => K ((mkSt ⟨[.leaf (.sl .own (.int .i64))], [[.lit (.hw 3), .lit (.hw 4)], [], [], [.arr (.pair (.int .i64) (.pair .str (.pair (.slice .byte) (.pair (.slice .byte) (.pair (.int .i64) .unit)))))], [.arr (.pair (.int .i64) (.pair .str (.pair (.slice .byte) (.pair (.slice .byte) (.pair (.int .i64) .unit)))))]]⟩ (a0, (a1, (a2, ())))).env.headD .any) (mkSt ⟨[.leaf (.sl .own (.int .i64))], [[.lit (.hw 3), .lit (.hw 4)], [], [], [.arr (.pair (.int .i64) (.pair .str (.pair (.slice .byte) (.pair (.slice .byte) (.pair (.int .i64) .unit)))))], [.arr (.pair (.int .i64) (.pair .str (.pair (.slice .byte) (.pair (.slice .byte) (.pair (.int .i64) .unit)))))]]⟩ (a0, (a1, (a2, ())))).sto) x.1 x.2.1 x.2.2.1 := by kernel_rfl
theorem lock_Locks_Cancel_ok : ConOk Go.Proofs.Try.prog X 81 lock_Locks_Cancel_con :=
  conFn_ok (src := [.arg 0, .cell 0 0, .cell 0 1]) (sh := []) (rs := .leaf (.sl .own (.int .i64))) (rows := [[.lit (.hw 3), .lit (.hw 4)], [], [], [.arr (.pair (.int .i64) (.pair .str (.pair (.slice .byte) (.pair (.slice .byte) (.pair (.int .i64) .unit)))))], [.arr (.pair (.int .i64) (.pair .str (.pair (.slice .byte) (.pair (.slice .byte) (.pair (.int .i64) .unit)))))]]) lock_Locks_Cancel_raw (fun R K (x : lock_Locks_Cancel_ac.den) => lock_Locks_Cancel_cps big R (fun a0 a1 a2 => K (a0, (a1, (a2, ())))) x.1 x.2.1 x.2.2.1) lock_Locks_Cancel_T

/-! 65 (*frankpledge/lock.Locks).Drop -/
def lock_Locks_Drop_ac : SCode := ⟨[.leaf (.lit (.ptr 0 0)), .leaf (.int .i64)], [[.lit (.hw 1), .lit (.hw 2)], [.arr (.pair (.int .i64) (.pair .str (.pair (.slice .byte) (.pair (.slice .byte) (.pair (.int .i64) .unit)))))], [.arr (.pair (.int .i64) (.pair .str (.pair (.slice .byte) (.pair (.slice .byte) (.pair (.int .i64) .unit)))))]]⟩
def lock_Locks_Drop_con : Con := conFn [.arg 0, .cell 0 0, .cell 0 1] [] lock_Locks_Drop_ac (.leaf (.sl .own (.int .i64))) [[.lit (.hw 3), .lit (.hw 4)], [], [], [.arr (.pair (.int .i64) (.pair .str (.pair (.slice .byte) (.pair (.slice .byte) (.pair (.int .i64) .unit)))))], [.arr (.pair (.int .i64) (.pair .str (.pair (.slice .byte) (.pair (.slice .byte) (.pair (.int .i64) .unit)))))]] fun x => lock_Locks_Drop big x.1 x.2.1 x.2.2.1
theorem lock_Locks_Drop_bnd {calm : List Nat} {f : Nat} (hf : calm.any (Nat.beq f) = false) : BndC calm f lock_Locks_Drop_con := bndFn hf
def lock_Locks_Drop_cx : Cx := { tab := tab, con := [(80, lock_without_con), (81, lock_Locks_Cancel_con)], funs := [], loops := [], want := want, ret := [], calm := [], bnd := [80, 81], eqs := eqs, xl := true, xs := [96], xd := [] }
theorem lock_Locks_Drop_cs : CsOk Go.Proofs.Try.prog X lock_Locks_Drop_cx :=
  csOk ⟨fun _ _ h => tab_ok tabOk h, eqsOk⟩ mixed ⟨lock_without_ok, lock_Locks_Cancel_ok, trivial⟩ trivial ⟨lock_without_bnd rfl, lock_Locks_Cancel_bnd rfl, trivial⟩ rfl

def lock_Locks_Drop_keep : List (Nat × LH) := [(3000000, { env := [], sto := [], out := [], con := none })]
theorem lock_Locks_Drop_raw : ConOk Go.Proofs.Try.prog X 65 (fun _ args sto K => evBody lock_Locks_Drop_cx (hcN lock_Locks_Drop_cx 1) lock_Locks_Drop_keep [] [] Go.Proofs.Try.f65 (bodyC Go.Proofs.Try.f65) args sto K) :=
  raw_ok2 lock_Locks_Drop_cs 1 Go.Proofs.Try.func65 (by kernel_rfl) (fun R => loops_all 0 (by kernel_rfl) (fun i hi => absurd hi (Nat.not_lt_zero i))) (fun R => joins_all [] (by kernel_rfl) (AllJ.get trivial))

theorem lock_Locks_Drop_T (R : Type) (K : D → Sto → Option R) (x : lock_Locks_Drop_ac.den) : evBody lock_Locks_Drop_cx (hcN lock_Locks_Drop_cx 1) lock_Locks_Drop_keep [] [] Go.Proofs.Try.f65 (bodyC Go.Proofs.Try.f65) (mkSt lock_Locks_Drop_ac x).env (mkSt lock_Locks_Drop_ac x).sto K = lock_Locks_Drop_cps big R (fun a0 a1 a2 => K ((mkSt ⟨[.leaf (.sl .own (.int .i64))], [[.lit (.hw 3), .lit (.hw 4)], [], [], [.arr (.pair (.int .i64) (.pair .str (.pair (.slice .byte) (.pair (.slice .byte) (.pair (.int .i64) .unit)))))], [.arr (.pair (.int .i64) (.pair .str (.pair (.slice .byte) (.pair (.slice .byte) (.pair (.int .i64) .unit)))))]]⟩ (a0, (a1, (a2, ())))).env.headD .any) (mkSt ⟨[.leaf (.sl .own (.int .i64))], [[.lit (.hw 3), .lit (.hw 4)], [], [], [.arr (.pair (.int .i64) (.pair .str (.pair (.slice .byte) (.pair (.slice .byte) (.pair (.int .i64) .unit)))))], [.arr (.pair (.int .i64) (.pair .str (.pair (.slice .byte) (.pair (.slice .byte) (.pair (.int .i64) .unit)))))]]⟩ (a0, (a1, (a2, ())))).sto) x.1 x.2.1 x.2.2.1 := by kernel_rfl
theorem lock_Locks_Drop_ok : ConOk Go.Proofs.Try.prog X 65 lock_Locks_Drop_con :=
  conFn_ok (src := [.arg 0, .cell 0 0, .cell 0 1]) (sh := []) (rs := .leaf (.sl .own (.int .i64))) (rows := [[.lit (.hw 3), .lit (.hw 4)], [], [], [.arr (.pair (.int .i64) (.pair .str (.pair (.slice .byte) (.pair (.slice .byte) (.pair (.int .i64) .unit)))))], [.arr (.pair (.int .i64) (.pair .str (.pair (.slice .byte) (.pair (.slice .byte) (.pair (.int .i64) .unit)))))]]) lock_Locks_Drop_raw (fun R K (x : lock_Locks_Drop_ac.den) => lock_Locks_Drop_cps big R (fun a0 a1 a2 => K (a0, (a1, (a2, ())))) x.1 x.2.1 x.2.2.1) lock_Locks_Drop_T

/-! 66 (*frankpledge/lock.Locks).Waiting -/
def lock_Locks_Waiting_l0c : SCode := ⟨[.leaf (.lit (.any)), .leaf (.lit (.any)), .leaf (.lit (.any)), .leaf (.sl .own (.pair (.int .i64) (.pair .str (.pair (.slice .byte) (.pair (.slice .byte) (.pair (.int .i64) .unit)))))), .leaf (.lit (.any)), .leaf (.lit (.any)), .leaf (.lit (.any)), .leaf (.lit (.any)), .leaf (.lit (.any)), .leaf (.lit (.any)), .leaf (.lit (.any)), .leaf (.lit (.hw 2)), .leaf (.int .i64), .leaf (.int .i64), .leaf (.lit (.any)), .leaf (.lit (.any)), .leaf (.lit (.any)), .leaf (.lit (.any)), .leaf (.lit (.any)), .leaf (.lit (.any)), .leaf (.lit (.any)), .leaf (.lit (.any)), .leaf (.lit (.any)), .leaf (.lit (.any))], [[.lit (.hw 1), .lit (.hw 2)], [.arr (.pair (.int .i64) (.pair .str (.pair (.slice .byte) (.pair (.slice .byte) (.pair (.int .i64) .unit)))))], [.arr (.pair (.int .i64) (.pair .str (.pair (.slice .byte) (.pair (.slice .byte) (.pair (.int .i64) .unit)))))]]⟩
def lock_Locks_Waiting_l0e0 : SCode := ⟨[.leaf (.lit (.any)), .leaf (.lit (.any)), .leaf (.lit (.any)), .leaf (.sl .own (.pair (.int .i64) (.pair .str (.pair (.slice .byte) (.pair (.slice .byte) (.pair (.int .i64) .unit)))))), .leaf (.lit (.any)), .leaf (.lit (.any)), .leaf (.lit (.any)), .leaf (.lit (.any)), .leaf (.lit (.any)), .leaf (.lit (.any)), .leaf (.lit (.any)), .leaf (.lit (.any)), .leaf (.lit (.any)), .leaf (.lit (.any)), .leaf (.lit (.any)), .leaf (.lit (.any)), .leaf (.lit (.any)), .leaf (.lit (.any)), .leaf (.lit (.any)), .leaf (.lit (.any)), .leaf (.lit (.any)), .leaf (.lit (.any)), .leaf (.lit (.any)), .leaf (.lit (.any))], [[.lit (.hw 1), .lit (.hw 2)], [.arr (.pair (.int .i64) (.pair .str (.pair (.slice .byte) (.pair (.slice .byte) (.pair (.int .i64) .unit)))))], [.arr (.pair (.int .i64) (.pair .str (.pair (.slice .byte) (.pair (.slice .byte) (.pair (.int .i64) .unit)))))]]⟩
def lock_Locks_Waiting_l0h : LH := { env := [(3, .own (.pair (.int .i64) (.pair .str (.pair (.slice .byte) (.pair (.slice .byte) (.pair (.int .i64) .unit)))))), (11, .id), (12, .id), (13, .id)], sto := [], out := [(3, .id)], con := some (lconOf lock_Locks_Waiting_l0c fun R k x => lock_Locks_Waiting_l0 big R x.2.2.2.1 x.2.2.2.2.1 (fun a0 => k (.exit 0) (mkSt lock_Locks_Waiting_l0e0 (a0, (x.2.2.2.1, (x.2.2.2.2.1, ()))))) big x.1 x.2.1 x.2.2.1), gc := some 3 }

def lock_Locks_Waiting_ac : SCode := ⟨[.leaf (.lit (.ptr 0 0))], [[.lit (.hw 1), .lit (.hw 2)], [.arr (.pair (.int .i64) (.pair .str (.pair (.slice .byte) (.pair (.slice .byte) (.pair (.int .i64) .unit)))))], [.arr (.pair (.int .i64) (.pair .str (.pair (.slice .byte) (.pair (.slice .byte) (.pair (.int .i64) .unit)))))]]⟩
def lock_Locks_Waiting_con : Con := conCalm [.arg 0, .cell 0 0, .cell 0 1] [] lock_Locks_Waiting_ac (.leaf (.sl .own (.pair (.int .i64) (.pair .str (.pair (.slice .byte) (.pair (.slice .byte) (.pair (.int .i64) .unit))))))) fun x => lock_Locks_Waiting big x.1 x.2.1
theorem lock_Locks_Waiting_bnd {calm : List Nat} {f : Nat} : BndC calm f lock_Locks_Waiting_con := bndCalm
def lock_Locks_Waiting_cx : Cx := { tab := tab, con := [(78, lock_Lock_copied_con)], funs := [], loops := [], want := want, ret := [], calm := [78], bnd := [78], eqs := eqs, xl := true, xs := [96], xd := [] }
theorem lock_Locks_Waiting_cs : CsOk Go.Proofs.Try.prog X lock_Locks_Waiting_cx :=
  csOk ⟨fun _ _ h => tab_ok tabOk h, eqsOk⟩ mixed ⟨lock_Lock_copied_ok, trivial⟩ trivial ⟨lock_Lock_copied_bnd, trivial⟩ rfl

def lock_Locks_Waiting_keep : List (Nat × LH) := [(4, lock_Locks_Waiting_l0h)]
theorem lock_Locks_Waiting_L0s (R : Type) (recS : St → Option R) (k : Exit → St → Option R) (x : lock_Locks_Waiting_l0c.den) : evCode lock_Locks_Waiting_cx (hcN lock_Locks_Waiting_cx 1) lock_Locks_Waiting_keep (loopC Go.Proofs.Try.f66 0) (mkSt lock_Locks_Waiting_l0c x) (fun e st' => match e with | .normal => recS (norm lock_Locks_Waiting_l0h 3 st') | e => k e (normO lock_Locks_Waiting_l0h 3 st')) = (fun rec k x => lock_Locks_Waiting_l0B big R x.2.2.2.1 x.2.2.2.2.1 (fun a0 a1 a2 => rec (a0, (a1, (a2, (x.2.2.2.1, (x.2.2.2.2.1, ())))))) (fun a0 => k (.exit 0) (mkSt lock_Locks_Waiting_l0e0 (a0, (x.2.2.2.1, (x.2.2.2.2.1, ()))))) x.1 x.2.1 x.2.2.1) (fun y => recS (mkSt lock_Locks_Waiting_l0c y)) k x := by kernel_rfl
theorem lock_Locks_Waiting_L0 (R : Type) : LOkR (R := R) lock_Locks_Waiting_cx (hcN lock_Locks_Waiting_cx 1) lock_Locks_Waiting_keep (loopC Go.Proofs.Try.f66 0) :=
  lok_iter (lh := lock_Locks_Waiting_l0h) lock_Locks_Waiting_l0c (fun R n k x => lock_Locks_Waiting_l0 big R x.2.2.2.1 x.2.2.2.2.1 (fun a0 => k (.exit 0) (mkSt lock_Locks_Waiting_l0e0 (a0, (x.2.2.2.1, (x.2.2.2.2.1, ()))))) n x.1 x.2.1 x.2.2.1) (fun _ => big) (fun rec k x => lock_Locks_Waiting_l0B big R x.2.2.2.1 x.2.2.2.2.1 (fun a0 a1 a2 => rec (a0, (a1, (a2, (x.2.2.2.1, (x.2.2.2.2.1, ())))))) (fun a0 => k (.exit 0) (mkSt lock_Locks_Waiting_l0e0 (a0, (x.2.2.2.1, (x.2.2.2.2.1, ()))))) x.1 x.2.1 x.2.2.1) rfl rfl (lock_Locks_Waiting_L0s R) (fun _ _ => rfl) (fun _ _ _ => rfl)

theorem lock_Locks_Waiting_raw : ConOk Go.Proofs.Try.prog X 66 (fun _ args sto K => evBody lock_Locks_Waiting_cx (hcN lock_Locks_Waiting_cx 1) lock_Locks_Waiting_keep [] [] Go.Proofs.Try.f66 (bodyC Go.Proofs.Try.f66) args sto K) :=
  raw_ok lock_Locks_Waiting_cs 1 Go.Proofs.Try.func66 (by kernel_rfl) rfl fun R => loops_all 1 (by kernel_rfl) (fun i hi => match i, hi with | 0, _ => lock_Locks_Waiting_L0 R | n + 1, h => absurd h (by omega))

theorem lock_Locks_Waiting_T (R : Type) (K : D → Sto → Option R) (x : lock_Locks_Waiting_ac.den) : evBody lock_Locks_Waiting_cx (hcN lock_Locks_Waiting_cx 1) lock_Locks_Waiting_keep [] [] Go.Proofs.Try.f66 (bodyC Go.Proofs.Try.f66) (mkSt lock_Locks_Waiting_ac x).env (mkSt lock_Locks_Waiting_ac x).sto K = lock_Locks_Waiting_cps big R (fun a0 => K ((mkE [.leaf (.sl .own (.pair (.int .i64) (.pair .str (.pair (.slice .byte) (.pair (.slice .byte) (.pair (.int .i64) .unit))))))] (T := Unit) (a0, ())).1.headD .any) (mkSt lock_Locks_Waiting_ac x).sto) x.1 x.2.1 := by kernel_rfl
theorem lock_Locks_Waiting_ok : ConOk Go.Proofs.Try.prog X 66 lock_Locks_Waiting_con :=
  conCalm_ok (src := [.arg 0, .cell 0 0, .cell 0 1]) (sh := []) (rs := .leaf (.sl .own (.pair (.int .i64) (.pair .str (.pair (.slice .byte) (.pair (.slice .byte) (.pair (.int .i64) .unit))))))) lock_Locks_Waiting_raw (fun R K (x : lock_Locks_Waiting_ac.den) => lock_Locks_Waiting_cps big R (fun a0 => K (a0, ())) x.1 x.2.1) lock_Locks_Waiting_T

/-! 50 frankpledge/frankpledgelaw09.alive -/
def law09_alive_ac : SCode := ⟨[], []⟩
def law09_alive_con : Con := conCalm [] [] law09_alive_ac (.leaf (.bool)) fun x => law09_alive big 
theorem law09_alive_bnd {calm : List Nat} {f : Nat} : BndC calm f law09_alive_con := bndCalm
def law09_alive_cx : Cx := { tab := tab, con := [(63, lock_New_con), (64, (conOr (fun a s => (prep [.arg 0, .cell 0 0, .cell 0 1] [] lock_Locks_Ask_ac a s).isSome) lock_Locks_Ask_con lock_Locks_Ask_1_con)), (65, lock_Locks_Drop_con), (66, lock_Locks_Waiting_con)], funs := [], loops := [], want := want, ret := [], calm := [66], bnd := [63, 64, 65, 66], eqs := eqs }
theorem law09_alive_cs : CsOk Go.Proofs.Try.prog X law09_alive_cx :=
  csOk ⟨fun _ _ h => tab_ok tabOk h, eqsOk⟩ mixed ⟨lock_New_ok, (conOr_ok lock_Locks_Ask_ok lock_Locks_Ask_1_ok), lock_Locks_Drop_ok, lock_Locks_Waiting_ok, trivial⟩ trivial ⟨lock_New_bnd rfl, (bndOr (lock_Locks_Ask_bnd rfl) (lock_Locks_Ask_1_bnd rfl)), lock_Locks_Drop_bnd rfl, lock_Locks_Waiting_bnd, trivial⟩ rfl

def law09_alive_keep : List (Nat × LH) := []
theorem law09_alive_raw : ConOk Go.Proofs.Try.prog X 50 (fun _ args sto K => evBody law09_alive_cx (hcN law09_alive_cx 1) law09_alive_keep [] [] Go.Proofs.Try.f50 (bodyC Go.Proofs.Try.f50) args sto K) :=
  raw_ok law09_alive_cs 1 Go.Proofs.Try.func50 (by kernel_rfl) rfl fun R => loops_all 0 (by kernel_rfl) (fun i hi => absurd hi (Nat.not_lt_zero i))

theorem law09_alive_T (R : Type) (K : D → Sto → Option R) (x : law09_alive_ac.den) : evBody law09_alive_cx (hcN law09_alive_cx 1) law09_alive_keep [] [] Go.Proofs.Try.f50 (bodyC Go.Proofs.Try.f50) (mkSt law09_alive_ac x).env (mkSt law09_alive_ac x).sto K = law09_alive_cps big R (fun a0 => K ((mkE [.leaf (.bool)] (T := Unit) (a0, ())).1.headD .any) (mkSt law09_alive_ac x).sto)  := by kernel_rfl
theorem law09_alive_ok : ConOk Go.Proofs.Try.prog X 50 law09_alive_con :=
  conCalm_ok (src := []) (sh := []) (rs := .leaf (.bool)) law09_alive_raw (fun R K (x : law09_alive_ac.den) => law09_alive_cps big R (fun a0 => K (a0, ())) ) law09_alive_T

/-! 53 frankpledge/frankpledgelaw09.told -/
def law09_told_ac : SCode := ⟨[.agg [.int .i64, .str, .sl .ro .byte, .sl .ro .byte, .int .i64]], []⟩
def law09_told_con : Con := conCalm [] [] law09_told_ac (.agg [.int .i64, .str, .str, .str, .int .i64]) fun x => law09_told big x.1 x.2.1 x.2.2.1 x.2.2.2.1 x.2.2.2.2.1
theorem law09_told_bnd {calm : List Nat} {f : Nat} : BndC calm f law09_told_con := bndCalm
def law09_told_cx : Cx := { tab := tab, con := [], funs := [], loops := [], want := want, ret := [], calm := [], bnd := [], eqs := eqs }
theorem law09_told_cs : CsOk Go.Proofs.Try.prog X law09_told_cx :=
  csOk ⟨fun _ _ h => tab_ok tabOk h, eqsOk⟩ mixed trivial trivial trivial rfl

def law09_told_keep : List (Nat × LH) := []
theorem law09_told_raw : ConOk Go.Proofs.Try.prog X 53 (fun _ args sto K => evBody law09_told_cx (hcN law09_told_cx 1) law09_told_keep [] [] Go.Proofs.Try.f53 (bodyC Go.Proofs.Try.f53) args sto K) :=
  raw_ok law09_told_cs 1 Go.Proofs.Try.func53 (by kernel_rfl) rfl fun R => loops_all 0 (by kernel_rfl) (fun i hi => absurd hi (Nat.not_lt_zero i))

theorem law09_told_T (R : Type) (K : D → Sto → Option R) (x : law09_told_ac.den) : evBody law09_told_cx (hcN law09_told_cx 1) law09_told_keep [] [] Go.Proofs.Try.f53 (bodyC Go.Proofs.Try.f53) (mkSt law09_told_ac x).env (mkSt law09_told_ac x).sto K = law09_told_cps big R (fun a0 a1 a2 a3 a4 => K ((mkE [.agg [.int .i64, .str, .str, .str, .int .i64]] (T := Unit) (a0, (a1, (a2, (a3, (a4, ())))))).1.headD .any) (mkSt law09_told_ac x).sto) x.1 x.2.1 x.2.2.1 x.2.2.2.1 x.2.2.2.2.1 := by kernel_rfl
theorem law09_told_ok : ConOk Go.Proofs.Try.prog X 53 law09_told_con :=
  conCalm_ok (src := []) (sh := []) (rs := .agg [.int .i64, .str, .str, .str, .int .i64]) law09_told_raw (fun R K (x : law09_told_ac.den) => law09_told_cps big R (fun a0 a1 a2 a3 a4 => K (a0, (a1, (a2, (a3, (a4, ())))))) x.1 x.2.1 x.2.2.1 x.2.2.2.1 x.2.2.2.2.1) law09_told_T

/-! 83 frankpledge/frankpledgeref08.In -/
def ref08_In_ac : SCode := ⟨[.leaf (.str), .leaf (.str), .leaf (.str)], []⟩
def ref08_In_con : Con := conCalm [] [] ref08_In_ac (.leaf (.bool)) fun x => ref08_In big x.1 x.2.1 x.2.2.1
theorem ref08_In_bnd {calm : List Nat} {f : Nat} : BndC calm f ref08_In_con := bndCalm
def ref08_In_cx : Cx := { tab := tab, con := [], funs := [], loops := [], want := want, ret := [], calm := [], bnd := [], eqs := eqs }
theorem ref08_In_cs : CsOk Go.Proofs.Try.prog X ref08_In_cx :=
  csOk ⟨fun _ _ h => tab_ok tabOk h, eqsOk⟩ mixed trivial trivial trivial rfl

def ref08_In_keep : List (Nat × LH) := []
theorem ref08_In_raw : ConOk Go.Proofs.Try.prog X 83 (fun _ args sto K => evBody ref08_In_cx (hcN ref08_In_cx 1) ref08_In_keep [] [] Go.Proofs.Try.f83 (bodyC Go.Proofs.Try.f83) args sto K) :=
  raw_ok ref08_In_cs 1 Go.Proofs.Try.func83 (by kernel_rfl) rfl fun R => loops_all 0 (by kernel_rfl) (fun i hi => absurd hi (Nat.not_lt_zero i))

theorem ref08_In_T (R : Type) (K : D → Sto → Option R) (x : ref08_In_ac.den) : evBody ref08_In_cx (hcN ref08_In_cx 1) ref08_In_keep [] [] Go.Proofs.Try.f83 (bodyC Go.Proofs.Try.f83) (mkSt ref08_In_ac x).env (mkSt ref08_In_ac x).sto K = ref08_In_cps big R (fun a0 => K ((mkE [.leaf (.bool)] (T := Unit) (a0, ())).1.headD .any) (mkSt ref08_In_ac x).sto) x.1 x.2.1 x.2.2.1 := by kernel_rfl
theorem ref08_In_ok : ConOk Go.Proofs.Try.prog X 83 ref08_In_con :=
  conCalm_ok (src := []) (sh := []) (rs := .leaf (.bool)) ref08_In_raw (fun R K (x : ref08_In_ac.den) => ref08_In_cps big R (fun a0 => K (a0, ())) x.1 x.2.1 x.2.2.1) ref08_In_T

/-! 69 frankpledge/frankpledgeref09.meet -/
def ref09_meet_ac : SCode := ⟨[.agg [.int .i64, .str, .str, .str, .int .i64], .agg [.int .i64, .str, .str, .str, .int .i64]], []⟩
def ref09_meet_con : Con := conCalm [] [] ref09_meet_ac (.leaf (.bool)) fun x => ref09_meet big x.1 x.2.1 x.2.2.1 x.2.2.2.1 x.2.2.2.2.1 x.2.2.2.2.2.1 x.2.2.2.2.2.2.1 x.2.2.2.2.2.2.2.1 x.2.2.2.2.2.2.2.2.1 x.2.2.2.2.2.2.2.2.2.1
theorem ref09_meet_bnd {calm : List Nat} {f : Nat} : BndC calm f ref09_meet_con := bndCalm
def ref09_meet_cx : Cx := { tab := tab, con := [(83, ref08_In_con)], funs := [], loops := [], want := want, ret := [], calm := [83], bnd := [83], eqs := eqs }
theorem ref09_meet_cs : CsOk Go.Proofs.Try.prog X ref09_meet_cx :=
  csOk ⟨fun _ _ h => tab_ok tabOk h, eqsOk⟩ mixed ⟨ref08_In_ok, trivial⟩ trivial ⟨ref08_In_bnd, trivial⟩ rfl

def ref09_meet_keep : List (Nat × LH) := []
theorem ref09_meet_raw : ConOk Go.Proofs.Try.prog X 69 (fun _ args sto K => evBody ref09_meet_cx (hcN ref09_meet_cx 1) ref09_meet_keep [] [] Go.Proofs.Try.f69 (bodyC Go.Proofs.Try.f69) args sto K) :=
  raw_ok ref09_meet_cs 1 Go.Proofs.Try.func69 (by kernel_rfl) rfl fun R => loops_all 0 (by kernel_rfl) (fun i hi => absurd hi (Nat.not_lt_zero i))

theorem ref09_meet_T (R : Type) (K : D → Sto → Option R) (x : ref09_meet_ac.den) : evBody ref09_meet_cx (hcN ref09_meet_cx 1) ref09_meet_keep [] [] Go.Proofs.Try.f69 (bodyC Go.Proofs.Try.f69) (mkSt ref09_meet_ac x).env (mkSt ref09_meet_ac x).sto K = ref09_meet_cps big R (fun a0 => K ((mkE [.leaf (.bool)] (T := Unit) (a0, ())).1.headD .any) (mkSt ref09_meet_ac x).sto) x.1 x.2.1 x.2.2.1 x.2.2.2.1 x.2.2.2.2.1 x.2.2.2.2.2.1 x.2.2.2.2.2.2.1 x.2.2.2.2.2.2.2.1 x.2.2.2.2.2.2.2.2.1 x.2.2.2.2.2.2.2.2.2.1 := by kernel_rfl
theorem ref09_meet_ok : ConOk Go.Proofs.Try.prog X 69 ref09_meet_con :=
  conCalm_ok (src := []) (sh := []) (rs := .leaf (.bool)) ref09_meet_raw (fun R K (x : ref09_meet_ac.den) => ref09_meet_cps big R (fun a0 => K (a0, ())) x.1 x.2.1 x.2.2.1 x.2.2.2.1 x.2.2.2.2.1 x.2.2.2.2.2.1 x.2.2.2.2.2.2.1 x.2.2.2.2.2.2.2.1 x.2.2.2.2.2.2.2.2.1 x.2.2.2.2.2.2.2.2.2.1) ref09_meet_T

/-! 52 frankpledge/frankpledgeref09.Clash -/
def ref09_Clash_ac : SCode := ⟨[.agg [.int .i64, .str, .str, .str, .int .i64], .agg [.int .i64, .str, .str, .str, .int .i64]], []⟩
def ref09_Clash_con : Con := conCalm [] [] ref09_Clash_ac (.leaf (.bool)) fun x => ref09_Clash big x.1 x.2.1 x.2.2.1 x.2.2.2.1 x.2.2.2.2.1 x.2.2.2.2.2.1 x.2.2.2.2.2.2.1 x.2.2.2.2.2.2.2.1 x.2.2.2.2.2.2.2.2.1 x.2.2.2.2.2.2.2.2.2.1
theorem ref09_Clash_bnd {calm : List Nat} {f : Nat} : BndC calm f ref09_Clash_con := bndCalm
def ref09_Clash_cx : Cx := { tab := tab, con := [(69, ref09_meet_con)], funs := [], loops := [], want := want, ret := [], calm := [69], bnd := [69], eqs := eqs }
theorem ref09_Clash_cs : CsOk Go.Proofs.Try.prog X ref09_Clash_cx :=
  csOk ⟨fun _ _ h => tab_ok tabOk h, eqsOk⟩ mixed ⟨ref09_meet_ok, trivial⟩ trivial ⟨ref09_meet_bnd, trivial⟩ rfl

def ref09_Clash_keep : List (Nat × LH) := []
theorem ref09_Clash_raw : ConOk Go.Proofs.Try.prog X 52 (fun _ args sto K => evBody ref09_Clash_cx (hcN ref09_Clash_cx 1) ref09_Clash_keep [] [] Go.Proofs.Try.f52 (bodyC Go.Proofs.Try.f52) args sto K) :=
  raw_ok ref09_Clash_cs 1 Go.Proofs.Try.func52 (by kernel_rfl) rfl fun R => loops_all 0 (by kernel_rfl) (fun i hi => absurd hi (Nat.not_lt_zero i))

theorem ref09_Clash_T (R : Type) (K : D → Sto → Option R) (x : ref09_Clash_ac.den) : evBody ref09_Clash_cx (hcN ref09_Clash_cx 1) ref09_Clash_keep [] [] Go.Proofs.Try.f52 (bodyC Go.Proofs.Try.f52) (mkSt ref09_Clash_ac x).env (mkSt ref09_Clash_ac x).sto K = ref09_Clash_cps big R (fun a0 => K ((mkE [.leaf (.bool)] (T := Unit) (a0, ())).1.headD .any) (mkSt ref09_Clash_ac x).sto) x.1 x.2.1 x.2.2.1 x.2.2.2.1 x.2.2.2.2.1 x.2.2.2.2.2.1 x.2.2.2.2.2.2.1 x.2.2.2.2.2.2.2.1 x.2.2.2.2.2.2.2.2.1 x.2.2.2.2.2.2.2.2.2.1 := by kernel_rfl
theorem ref09_Clash_ok : ConOk Go.Proofs.Try.prog X 52 ref09_Clash_con :=
  conCalm_ok (src := []) (sh := []) (rs := .leaf (.bool)) ref09_Clash_raw (fun R K (x : ref09_Clash_ac.den) => ref09_Clash_cps big R (fun a0 => K (a0, ())) x.1 x.2.1 x.2.2.1 x.2.2.2.1 x.2.2.2.2.1 x.2.2.2.2.2.1 x.2.2.2.2.2.2.1 x.2.2.2.2.2.2.2.1 x.2.2.2.2.2.2.2.2.1 x.2.2.2.2.2.2.2.2.2.1) ref09_Clash_T

/-! 14 frankpledge/frankpledgelaw09.LockClashes -/
def law09_LockClashes_ac : SCode := ⟨[.agg [.int .i64, .str, .sl .ro .byte, .sl .ro .byte, .int .i64], .agg [.int .i64, .str, .sl .ro .byte, .sl .ro .byte, .int .i64]], []⟩
def law09_LockClashes_con : Con := conCalm [] [] law09_LockClashes_ac (.leaf (.bool)) fun x => law09_LockClashes big x.1 x.2.1 x.2.2.1 x.2.2.2.1 x.2.2.2.2.1 x.2.2.2.2.2.1 x.2.2.2.2.2.2.1 x.2.2.2.2.2.2.2.1 x.2.2.2.2.2.2.2.2.1 x.2.2.2.2.2.2.2.2.2.1
theorem law09_LockClashes_bnd {calm : List Nat} {f : Nat} : BndC calm f law09_LockClashes_con := bndCalm
def law09_LockClashes_cx : Cx := { tab := tab, con := [(49, law09_short_con), (50, law09_alive_con), (51, lock_Clash_con), (52, ref09_Clash_con), (53, law09_told_con)], funs := [], loops := [], want := want, ret := [], calm := [49, 50, 51, 52, 53], bnd := [49, 50, 51, 52, 53], eqs := eqs }
theorem law09_LockClashes_cs : CsOk Go.Proofs.Try.prog X law09_LockClashes_cx :=
  csOk ⟨fun _ _ h => tab_ok tabOk h, eqsOk⟩ mixed ⟨law09_short_ok, law09_alive_ok, lock_Clash_ok, ref09_Clash_ok, law09_told_ok, trivial⟩ trivial ⟨law09_short_bnd, law09_alive_bnd, lock_Clash_bnd, ref09_Clash_bnd, law09_told_bnd, trivial⟩ rfl

def law09_LockClashes_keep : List (Nat × LH) := []
theorem law09_LockClashes_raw : ConOk Go.Proofs.Try.prog X 14 (fun _ args sto K => evBody law09_LockClashes_cx (hcN law09_LockClashes_cx 1) law09_LockClashes_keep [] [] Go.Proofs.Try.f14 (bodyC Go.Proofs.Try.f14) args sto K) :=
  raw_ok law09_LockClashes_cs 1 Go.Proofs.Try.func14 (by kernel_rfl) rfl fun R => loops_all 0 (by kernel_rfl) (fun i hi => absurd hi (Nat.not_lt_zero i))

theorem law09_LockClashes_T (R : Type) (K : D → Sto → Option R) (x : law09_LockClashes_ac.den) : evBody law09_LockClashes_cx (hcN law09_LockClashes_cx 1) law09_LockClashes_keep [] [] Go.Proofs.Try.f14 (bodyC Go.Proofs.Try.f14) (mkSt law09_LockClashes_ac x).env (mkSt law09_LockClashes_ac x).sto K = law09_LockClashes_cps big R (fun a0 => K ((mkE [.leaf (.bool)] (T := Unit) (a0, ())).1.headD .any) (mkSt law09_LockClashes_ac x).sto) x.1 x.2.1 x.2.2.1 x.2.2.2.1 x.2.2.2.2.1 x.2.2.2.2.2.1 x.2.2.2.2.2.2.1 x.2.2.2.2.2.2.2.1 x.2.2.2.2.2.2.2.2.1 x.2.2.2.2.2.2.2.2.2.1 := by kernel_rfl
theorem law09_LockClashes_ok : ConOk Go.Proofs.Try.prog X 14 law09_LockClashes_con :=
  conCalm_ok (src := []) (sh := []) (rs := .leaf (.bool)) law09_LockClashes_raw (fun R K (x : law09_LockClashes_ac.den) => law09_LockClashes_cps big R (fun a0 => K (a0, ())) x.1 x.2.1 x.2.2.1 x.2.2.2.1 x.2.2.2.2.1 x.2.2.2.2.2.1 x.2.2.2.2.2.2.1 x.2.2.2.2.2.2.2.1 x.2.2.2.2.2.2.2.2.1 x.2.2.2.2.2.2.2.2.2.1) law09_LockClashes_T


end
end Go.Proofs.Ytkeejnlicagjiaa.E
