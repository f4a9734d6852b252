/-
  The statement LockNil of the program is proved: for every input that the row speaks of, the law answers true.
  Conditions: those that the statement's row prints, and no other. This text: the walk: the code comes to the pure functions.
-/
import Derived.Test.YtkeejnlicagjiabEvD
import Derived.KernelRfl
import Derived.Test.YtkeejnlicagjiabRows
import Derived.Test.YtkeejnlicagjiabLockNilF
set_option linter.unusedVariables false
set_option linter.unusedSimpArgs false
/-! The walk, printed by wip/gen out of the translation. -/
namespace Go.Proofs.Ytkeejnlicagjiab.E
open Go.Ev Go.ChangeShapes
set_option maxRecDepth 100000
noncomputable section
noncomputable def tab : List (Nat × TE) := [(3, { d := .int .i64, size := 1, bytes := 8, agg := false, ty := some (.int .i64), zero := [.int .i64 0] }),
  (4, { d := .bool, size := 1, bytes := 1, agg := false, ty := some .bool, zero := [.bool false] }),
  (5, { d := .int .u8, size := 1, bytes := 1, agg := false, ty := some .byte, zero := [.int .u8 0] }),
  (9, { d := .str, size := 1, bytes := 16, agg := false, ty := some .str, zero := [.str []] }),
  (22, { d := .slice 5, size := 1, bytes := 24, agg := false, ty := some (.slice .byte), zero := [.nils] }),
  (23, { d := .int .i64, size := 1, bytes := 8, agg := false, ty := some (.int .i64), zero := [.int .i64 0] }),
  (25, { d := .struct [⟨0, 1, false⟩, ⟨1, 1, false⟩, ⟨2, 1, false⟩, ⟨3, 1, false⟩, ⟨4, 1, false⟩], size := 5, bytes := 80, agg := true, ty := some (.pair (.int .i64) (.pair .str (.pair (.slice .byte) (.pair (.slice .byte) (.pair (.int .i64) .unit))))), zero := [.int .i64 0, .str [], .nils, .nils, .int .i64 0] }),
  (29, { d := .slice 37, size := 1, bytes := 24, agg := false, ty := some (.slice (.pair (.int .i64) (.pair (.pair (.int .i64) (.pair .str (.pair (.slice .byte) (.pair (.slice .byte) (.pair (.int .i64) .unit))))) .unit))), zero := [.nils] }),
  (30, { d := .ptr 59, size := 1, bytes := 8, agg := false, ty := none, zero := [.nilp] }),
  (33, { d := .slice 44, size := 1, bytes := 24, agg := false, ty := some (.slice (.pair (.int .i64) (.pair .str (.pair .str (.pair .str (.pair (.int .i64) .unit)))))), zero := [.nils] }),
  (35, { d := .struct [⟨0, 1, false⟩, ⟨1, 1, false⟩], size := 2, bytes := 48, agg := true, ty := some (.pair (.slice (.pair (.int .i64) (.pair .str (.pair .str (.pair .str (.pair (.int .i64) .unit)))))) (.pair (.slice (.pair (.int .i64) (.pair .str (.pair .str (.pair .str (.pair (.int .i64) .unit)))))) .unit)), zero := [.nils, .nils] }),
  (37, { d := .struct [⟨0, 1, false⟩, ⟨1, 5, true⟩], size := 6, bytes := 88, agg := true, ty := some (.pair (.int .i64) (.pair (.pair (.int .i64) (.pair .str (.pair (.slice .byte) (.pair (.slice .byte) (.pair (.int .i64) .unit))))) .unit)), zero := [.int .i64 0, .int .i64 0, .str [], .nils, .nils, .int .i64 0] }),
  (38, { d := .slice 3, size := 1, bytes := 24, agg := false, ty := some (.slice (.int .i64)), zero := [.nils] }),
  (44, { d := .struct [⟨0, 1, false⟩, ⟨1, 1, false⟩, ⟨2, 1, false⟩, ⟨3, 1, false⟩, ⟨4, 1, false⟩], size := 5, bytes := 64, agg := true, ty := some (.pair (.int .i64) (.pair .str (.pair .str (.pair .str (.pair (.int .i64) .unit))))), zero := [.int .i64 0, .str [], .str [], .str [], .int .i64 0] }),
  (49, { d := .slice 25, size := 1, bytes := 24, agg := false, ty := some (.slice (.pair (.int .i64) (.pair .str (.pair (.slice .byte) (.pair (.slice .byte) (.pair (.int .i64) .unit)))))), zero := [.nils] }),
  (59, { d := .struct [⟨0, 1, false⟩, ⟨1, 1, false⟩], size := 2, bytes := 48, agg := true, ty := some (.pair (.slice (.pair (.int .i64) (.pair .str (.pair (.slice .byte) (.pair (.slice .byte) (.pair (.int .i64) .unit)))))) (.pair (.slice (.pair (.int .i64) (.pair .str (.pair (.slice .byte) (.pair (.slice .byte) (.pair (.int .i64) .unit)))))) .unit)), zero := [.nils, .nils] })]
def want : List (Nat × List Nat) := []
def eqs : List (Nat × List EK) := [(44, [.int .i64, .str, .str, .str, .int .i64])]
theorem tabOk : tabB Go.Proofs.Try.prog tab = true := by kernel_rfl
def X : Cfg := ⟨0, 0⟩
theorem mixed : Go.Proofs.Try.prog.follows .mixedOrders = true := by kernel_rfl
theorem eqsOk : ∀ t ks, Go.Ev.look eqs t = some ks → eqTB Go.Proofs.Try.prog t ks = true := allEq_get (by kernel_rfl)
/-! 12 frankpledge/lock.New -/
def lock_New_ac : SCode := ⟨[], []⟩
def lock_New_con : Con := conFn [] [] lock_New_ac (.leaf (.lit (.ptr 0 0))) [[.lit (.hw 1), .lit (.hw 2)], [.arr (.pair (.int .i64) (.pair .str (.pair (.slice .byte) (.pair (.slice .byte) (.pair (.int .i64) .unit)))))], [.arr (.pair (.int .i64) (.pair .str (.pair (.slice .byte) (.pair (.slice .byte) (.pair (.int .i64) .unit)))))]] fun x => lock_New big 
theorem lock_New_bnd {calm : List Nat} {f : Nat} (hf : calm.any (Nat.beq f) = false) : BndC calm f lock_New_con := bndFn hf
def lock_New_cx : Cx := { tab := tab, con := [], funs := [], loops := [], want := want, ret := [], calm := [], bnd := [], eqs := eqs, xl := true, xs := [49], xd := [(2, [(0, (.pair (.int .i64) (.pair .str (.pair (.slice .byte) (.pair (.slice .byte) (.pair (.int .i64) .unit)))))), (1, (.pair (.int .i64) (.pair .str (.pair (.slice .byte) (.pair (.slice .byte) (.pair (.int .i64) .unit))))))])] }
theorem lock_New_cs : CsOk Go.Proofs.Try.prog X lock_New_cx :=
  csOk ⟨fun _ _ h => tab_ok tabOk h, eqsOk⟩ mixed trivial trivial trivial rfl

def lock_New_keep : List (Nat × LH) := []
theorem lock_New_raw : ConOk Go.Proofs.Try.prog X 12 (fun _ args sto K => evBody lock_New_cx (hcN lock_New_cx 1) lock_New_keep [] [] Go.Proofs.Try.f12 (bodyC Go.Proofs.Try.f12) args sto K) :=
  raw_ok lock_New_cs 1 Go.Proofs.Try.func12 (by kernel_rfl) rfl fun R => loops_all 0 (by kernel_rfl) (fun i hi => absurd hi (Nat.not_lt_zero i))

theorem lock_New_T (R : Type) (K : D → Sto → Option R) (x : lock_New_ac.den) : evBody lock_New_cx (hcN lock_New_cx 1) lock_New_keep [] [] Go.Proofs.Try.f12 (bodyC Go.Proofs.Try.f12) (mkSt lock_New_ac x).env (mkSt lock_New_ac x).sto K = lock_New_cps big R (fun a0 a1 => K ((mkSt ⟨[.leaf (.lit (.ptr 0 0))], [[.lit (.hw 1), .lit (.hw 2)], [.arr (.pair (.int .i64) (.pair .str (.pair (.slice .byte) (.pair (.slice .byte) (.pair (.int .i64) .unit)))))], [.arr (.pair (.int .i64) (.pair .str (.pair (.slice .byte) (.pair (.slice .byte) (.pair (.int .i64) .unit)))))]]⟩ (a0, (a1, ()))).env.headD .any) (mkSt ⟨[.leaf (.lit (.ptr 0 0))], [[.lit (.hw 1), .lit (.hw 2)], [.arr (.pair (.int .i64) (.pair .str (.pair (.slice .byte) (.pair (.slice .byte) (.pair (.int .i64) .unit)))))], [.arr (.pair (.int .i64) (.pair .str (.pair (.slice .byte) (.pair (.slice .byte) (.pair (.int .i64) .unit)))))]]⟩ (a0, (a1, ()))).sto)  := by kernel_rfl
theorem lock_New_ok : ConOk Go.Proofs.Try.prog X 12 lock_New_con :=
  conFn_ok (src := []) (sh := []) (rs := .leaf (.lit (.ptr 0 0))) (rows := [[.lit (.hw 1), .lit (.hw 2)], [.arr (.pair (.int .i64) (.pair .str (.pair (.slice .byte) (.pair (.slice .byte) (.pair (.int .i64) .unit)))))], [.arr (.pair (.int .i64) (.pair .str (.pair (.slice .byte) (.pair (.slice .byte) (.pair (.int .i64) .unit)))))]]) lock_New_raw (fun R K (x : lock_New_ac.den) => lock_New_cps big R (fun a0 a1 => K (a0, (a1, ()))) ) lock_New_T

def bytealg_Compare_ac : SCode := ⟨[.leaf (.sl .ro .byte), .leaf (.sl .ro .byte)], []⟩
def bytealg_Compare_con : Con := conCalm [] [] bytealg_Compare_ac (.leaf (.int .i64)) fun x => bytealg_Compare big x.1 x.2.1
theorem bytealg_Compare_bnd {calm : List Nat} {f : Nat} : BndC calm f bytealg_Compare_con := bndCalm
theorem bytealg_Compare_raw : ConOk Go.Proofs.Try.prog X 42 (conExt compareF) := compare_ok (fn := Go.Proofs.Try.f42) Go.Proofs.Try.func42 rfl (by kernel_rfl) (by kernel_rfl) (by kernel_rfl)
theorem bytealg_Compare_T (R : Type) (K : D → Sto → Option R) (x : bytealg_Compare_ac.den) : conExt compareF R (mkSt bytealg_Compare_ac x).env (mkSt bytealg_Compare_ac x).sto K = bytealg_Compare_cps big R (fun a0 => K ((mkE [.leaf (.int .i64)] (T := Unit) (a0, ())).1.headD .any) (mkSt bytealg_Compare_ac x).sto) x.1 x.2.1 := by kernel_rfl
theorem bytealg_Compare_ok : ConOk Go.Proofs.Try.prog X 42 bytealg_Compare_con :=
  conCalm_ok (src := []) (sh := []) (rs := .leaf (.int .i64)) bytealg_Compare_raw (fun R K (x : bytealg_Compare_ac.den) => bytealg_Compare_cps big R (fun a0 => K (a0, ())) x.1 x.2.1) bytealg_Compare_T
/-! 26 bytes.Compare -/
def bytes_Compare_ac : SCode := ⟨[.leaf (.sl .ro .byte), .leaf (.sl .ro .byte)], []⟩
def bytes_Compare_con : Con := conCalm [] [] bytes_Compare_ac (.leaf (.int .i64)) fun x => bytes_Compare big x.1 x.2.1
theorem bytes_Compare_bnd {calm : List Nat} {f : Nat} : BndC calm f bytes_Compare_con := bndCalm
def bytes_Compare_cx : Cx := { tab := tab, con := [(42, bytealg_Compare_con)], funs := [], loops := [], want := want, ret := [], calm := [42], bnd := [42], eqs := eqs }
theorem bytes_Compare_cs : CsOk Go.Proofs.Try.prog X bytes_Compare_cx :=
  csOk ⟨fun _ _ h => tab_ok tabOk h, eqsOk⟩ mixed ⟨bytealg_Compare_ok, trivial⟩ trivial ⟨bytealg_Compare_bnd, trivial⟩ rfl

def bytes_Compare_keep : List (Nat × LH) := []
theorem bytes_Compare_raw : ConOk Go.Proofs.Try.prog X 26 (fun _ args sto K => evBody bytes_Compare_cx (hcN bytes_Compare_cx 1) bytes_Compare_keep [] [] Go.Proofs.Try.f26 (bodyC Go.Proofs.Try.f26) args sto K) :=
  raw_ok bytes_Compare_cs 1 Go.Proofs.Try.func26 (by kernel_rfl) rfl fun R => loops_all 0 (by kernel_rfl) (fun i hi => absurd hi (Nat.not_lt_zero i))

theorem bytes_Compare_T (R : Type) (K : D → Sto → Option R) (x : bytes_Compare_ac.den) : evBody bytes_Compare_cx (hcN bytes_Compare_cx 1) bytes_Compare_keep [] [] Go.Proofs.Try.f26 (bodyC Go.Proofs.Try.f26) (mkSt bytes_Compare_ac x).env (mkSt bytes_Compare_ac x).sto K = bytes_Compare_cps big R (fun a0 => K ((mkE [.leaf (.int .i64)] (T := Unit) (a0, ())).1.headD .any) (mkSt bytes_Compare_ac x).sto) x.1 x.2.1 := by kernel_rfl
theorem bytes_Compare_ok : ConOk Go.Proofs.Try.prog X 26 bytes_Compare_con :=
  conCalm_ok (src := []) (sh := []) (rs := .leaf (.int .i64)) bytes_Compare_raw (fun R K (x : bytes_Compare_ac.den) => bytes_Compare_cps big R (fun a0 => K (a0, ())) x.1 x.2.1) bytes_Compare_T

/-! 27 frankpledge/lock.ahead -/
def lock_ahead_ac : SCode := ⟨[.leaf (.sl .ro .byte), .leaf (.sl .ro .byte)], []⟩
def lock_ahead_con : Con := conCalm [] [] lock_ahead_ac (.leaf (.bool)) fun x => lock_ahead big x.1 x.2.1
theorem lock_ahead_bnd {calm : List Nat} {f : Nat} : BndC calm f lock_ahead_con := bndCalm
def lock_ahead_cx : Cx := { tab := tab, con := [(26, bytes_Compare_con)], funs := [], loops := [], want := want, ret := [], calm := [26], bnd := [26], eqs := eqs }
theorem lock_ahead_cs : CsOk Go.Proofs.Try.prog X lock_ahead_cx :=
  csOk ⟨fun _ _ h => tab_ok tabOk h, eqsOk⟩ mixed ⟨bytes_Compare_ok, trivial⟩ trivial ⟨bytes_Compare_bnd, trivial⟩ rfl

def lock_ahead_keep : List (Nat × LH) := []
theorem lock_ahead_raw : ConOk Go.Proofs.Try.prog X 27 (fun _ args sto K => evBody lock_ahead_cx (hcN lock_ahead_cx 1) lock_ahead_keep [] [] Go.Proofs.Try.f27 (bodyC Go.Proofs.Try.f27) args sto K) :=
  raw_ok lock_ahead_cs 1 Go.Proofs.Try.func27 (by kernel_rfl) rfl fun R => loops_all 0 (by kernel_rfl) (fun i hi => absurd hi (Nat.not_lt_zero i))

theorem lock_ahead_T (R : Type) (K : D → Sto → Option R) (x : lock_ahead_ac.den) : evBody lock_ahead_cx (hcN lock_ahead_cx 1) lock_ahead_keep [] [] Go.Proofs.Try.f27 (bodyC Go.Proofs.Try.f27) (mkSt lock_ahead_ac x).env (mkSt lock_ahead_ac x).sto K = lock_ahead_cps big R (fun a0 => K ((mkE [.leaf (.bool)] (T := Unit) (a0, ())).1.headD .any) (mkSt lock_ahead_ac x).sto) x.1 x.2.1 := by kernel_rfl
theorem lock_ahead_ok : ConOk Go.Proofs.Try.prog X 27 lock_ahead_con :=
  conCalm_ok (src := []) (sh := []) (rs := .leaf (.bool)) lock_ahead_raw (fun R K (x : lock_ahead_ac.den) => lock_ahead_cps big R (fun a0 => K (a0, ())) x.1 x.2.1) lock_ahead_T

/-! 28 (frankpledge/lock.Lock).right -/
def lock_Lock_right_ac : SCode := ⟨[.agg [.int .i64, .str, .sl .ro .byte, .sl .ro .byte, .int .i64]], []⟩
def lock_Lock_right_con : Con := conCalm [] [] lock_Lock_right_ac (.leaf (.bool)) fun x => lock_Lock_right big x.1 x.2.1 x.2.2.1 x.2.2.2.1 x.2.2.2.2.1
theorem lock_Lock_right_bnd {calm : List Nat} {f : Nat} : BndC calm f lock_Lock_right_con := bndCalm
def lock_Lock_right_cx : Cx := { tab := tab, con := [(27, lock_ahead_con)], funs := [], loops := [], want := want, ret := [], calm := [27], bnd := [27], eqs := eqs }
theorem lock_Lock_right_cs : CsOk Go.Proofs.Try.prog X lock_Lock_right_cx :=
  csOk ⟨fun _ _ h => tab_ok tabOk h, eqsOk⟩ mixed ⟨lock_ahead_ok, trivial⟩ trivial ⟨lock_ahead_bnd, trivial⟩ rfl

def lock_Lock_right_keep : List (Nat × LH) := []
theorem lock_Lock_right_raw : ConOk Go.Proofs.Try.prog X 28 (fun _ args sto K => evBody lock_Lock_right_cx (hcN lock_Lock_right_cx 1) lock_Lock_right_keep [] [] Go.Proofs.Try.f28 (bodyC Go.Proofs.Try.f28) args sto K) :=
  raw_ok lock_Lock_right_cs 1 Go.Proofs.Try.func28 (by kernel_rfl) rfl fun R => loops_all 0 (by kernel_rfl) (fun i hi => absurd hi (Nat.not_lt_zero i))

theorem lock_Lock_right_T (R : Type) (K : D → Sto → Option R) (x : lock_Lock_right_ac.den) : evBody lock_Lock_right_cx (hcN lock_Lock_right_cx 1) lock_Lock_right_keep [] [] Go.Proofs.Try.f28 (bodyC Go.Proofs.Try.f28) (mkSt lock_Lock_right_ac x).env (mkSt lock_Lock_right_ac x).sto K = lock_Lock_right_cps big R (fun a0 => K ((mkE [.leaf (.bool)] (T := Unit) (a0, ())).1.headD .any) (mkSt lock_Lock_right_ac x).sto) x.1 x.2.1 x.2.2.1 x.2.2.2.1 x.2.2.2.2.1 := by kernel_rfl
theorem lock_Lock_right_ok : ConOk Go.Proofs.Try.prog X 28 lock_Lock_right_con :=
  conCalm_ok (src := []) (sh := []) (rs := .leaf (.bool)) lock_Lock_right_raw (fun R K (x : lock_Lock_right_ac.den) => lock_Lock_right_cps big R (fun a0 => K (a0, ())) x.1 x.2.1 x.2.2.1 x.2.2.2.1 x.2.2.2.2.1) lock_Lock_right_T

/-! 30 (*frankpledge/lock.Locks).Ask$1 -/
def lock_Locks_Ask_c1_ac : SCode := ⟨[.agg [.int .i64, .str, .sl .ro .byte, .sl .ro .byte, .int .i64], .leaf (.lit (.ptr 0 0))], [[.int .i64, .str, .sl .ro .byte, .sl .ro .byte, .int .i64]]⟩
def lock_Locks_Ask_c1_con : Con := conCalm [.arg 1] [] lock_Locks_Ask_c1_ac (.leaf (.bool)) fun x => lock_Locks_Ask_c1 big x.1 x.2.1 x.2.2.1 x.2.2.2.1 x.2.2.2.2.1 x.2.2.2.2.2.1 x.2.2.2.2.2.2.1 x.2.2.2.2.2.2.2.1 x.2.2.2.2.2.2.2.2.1 x.2.2.2.2.2.2.2.2.2.1
theorem lock_Locks_Ask_c1_bnd {calm : List Nat} {f : Nat} : BndC calm f lock_Locks_Ask_c1_con := bndCalm
def lock_Locks_Ask_c1_cx : Cx := { tab := tab, con := [], funs := [], loops := [], want := want, ret := [], calm := [], bnd := [], eqs := eqs }
theorem lock_Locks_Ask_c1_cs : CsOk Go.Proofs.Try.prog X lock_Locks_Ask_c1_cx :=
  csOk ⟨fun _ _ h => tab_ok tabOk h, eqsOk⟩ mixed trivial trivial trivial rfl

def lock_Locks_Ask_c1_keep : List (Nat × LH) := []
theorem lock_Locks_Ask_c1_raw : ConOk Go.Proofs.Try.prog X 30 (fun _ args sto K => evBody lock_Locks_Ask_c1_cx (hcN lock_Locks_Ask_c1_cx 1) lock_Locks_Ask_c1_keep [] [] Go.Proofs.Try.f30 (bodyC Go.Proofs.Try.f30) args sto K) :=
  raw_ok lock_Locks_Ask_c1_cs 1 Go.Proofs.Try.func30 (by kernel_rfl) rfl fun R => loops_all 0 (by kernel_rfl) (fun i hi => absurd hi (Nat.not_lt_zero i))

theorem lock_Locks_Ask_c1_T (R : Type) (K : D → Sto → Option R) (x : lock_Locks_Ask_c1_ac.den) : evBody lock_Locks_Ask_c1_cx (hcN lock_Locks_Ask_c1_cx 1) lock_Locks_Ask_c1_keep [] [] Go.Proofs.Try.f30 (bodyC Go.Proofs.Try.f30) (mkSt lock_Locks_Ask_c1_ac x).env (mkSt lock_Locks_Ask_c1_ac x).sto K = lock_Locks_Ask_c1_cps big R (fun a0 => K ((mkE [.leaf (.bool)] (T := Unit) (a0, ())).1.headD .any) (mkSt lock_Locks_Ask_c1_ac x).sto) x.1 x.2.1 x.2.2.1 x.2.2.2.1 x.2.2.2.2.1 x.2.2.2.2.2.1 x.2.2.2.2.2.2.1 x.2.2.2.2.2.2.2.1 x.2.2.2.2.2.2.2.2.1 x.2.2.2.2.2.2.2.2.2.1 := by kernel_rfl
theorem lock_Locks_Ask_c1_ok : ConOk Go.Proofs.Try.prog X 30 lock_Locks_Ask_c1_con :=
  conCalm_ok (src := [.arg 1]) (sh := []) (rs := .leaf (.bool)) lock_Locks_Ask_c1_raw (fun R K (x : lock_Locks_Ask_c1_ac.den) => lock_Locks_Ask_c1_cps big R (fun a0 => K (a0, ())) x.1 x.2.1 x.2.2.1 x.2.2.2.1 x.2.2.2.2.1 x.2.2.2.2.2.1 x.2.2.2.2.2.2.1 x.2.2.2.2.2.2.2.1 x.2.2.2.2.2.2.2.2.1 x.2.2.2.2.2.2.2.2.2.1) lock_Locks_Ask_c1_T

/-! 43 slices.IndexFunc[[]frankpledge/lock.Lock,frankpledge/lock.Lock] -/
def slices_IndexFunc_lock_Lock_lock_Lock_l0c : SCode := ⟨[.leaf (.lit (.hw 0)), .fn 30 [.lit (.ptr 1 0)], .leaf (.lit (.any)), .leaf (.lit (.any)), .leaf (.lit (.any)), .leaf (.lit (.any)), .leaf (.lit (.any)), .leaf (.int .i64), .leaf (.int .i64), .leaf (.lit (.any)), .leaf (.lit (.any)), .leaf (.lit (.any)), .leaf (.lit (.any)), .leaf (.lit (.any)), .leaf (.lit (.any)), .leaf (.lit (.any)), .leaf (.lit (.any)), .leaf (.lit (.any)), .leaf (.lit (.any))], [[.arr (.pair (.int .i64) (.pair .str (.pair (.slice .byte) (.pair (.slice .byte) (.pair (.int .i64) .unit)))))], [.int .i64, .str, .sl .ro .byte, .sl .ro .byte, .int .i64]]⟩
def slices_IndexFunc_lock_Lock_lock_Lock_l0e0 : SCode := ⟨[.leaf (.lit (.any)), .leaf (.lit (.any)), .leaf (.lit (.any)), .leaf (.lit (.any)), .leaf (.lit (.any)), .leaf (.lit (.any)), .leaf (.lit (.any)), .leaf (.lit (.any)), .leaf (.lit (.any)), .leaf (.lit (.any)), .leaf (.lit (.any)), .leaf (.lit (.any)), .leaf (.lit (.any)), .leaf (.lit (.any)), .leaf (.lit (.any)), .leaf (.lit (.any)), .leaf (.lit (.any)), .leaf (.lit (.any)), .leaf (.lit (.any))], [[.arr (.pair (.int .i64) (.pair .str (.pair (.slice .byte) (.pair (.slice .byte) (.pair (.int .i64) .unit)))))], [.int .i64, .str, .sl .ro .byte, .sl .ro .byte, .int .i64]]⟩
def slices_IndexFunc_lock_Lock_lock_Lock_l0e1 : SCode := ⟨[.leaf (.lit (.any)), .leaf (.lit (.any)), .leaf (.lit (.any)), .leaf (.lit (.any)), .leaf (.int .i64), .leaf (.lit (.any)), .leaf (.lit (.any)), .leaf (.lit (.any)), .leaf (.lit (.any)), .leaf (.lit (.any)), .leaf (.lit (.any)), .leaf (.lit (.any)), .leaf (.lit (.any)), .leaf (.lit (.any)), .leaf (.lit (.any)), .leaf (.lit (.any)), .leaf (.lit (.any)), .leaf (.lit (.any)), .leaf (.lit (.any))], [[.arr (.pair (.int .i64) (.pair .str (.pair (.slice .byte) (.pair (.slice .byte) (.pair (.int .i64) .unit)))))], [.int .i64, .str, .sl .ro .byte, .sl .ro .byte, .int .i64]]⟩
def slices_IndexFunc_lock_Lock_lock_Lock_l0h : LH := { env := [(0, .id), (1, .id), (7, .id), (8, .id)], sto := [], out := [(4, .id)], con := some (lconOf slices_IndexFunc_lock_Lock_lock_Lock_l0c fun R k x => slices_IndexFunc_lock_Lock_lock_Lock_l0 big R x.2.2.1 x.2.2.2.1 x.2.2.2.2.1 x.2.2.2.2.2.1 x.2.2.2.2.2.2.1 x.2.2.2.2.2.2.2.1 (k (.exit 0) (mkSt slices_IndexFunc_lock_Lock_lock_Lock_l0e0 (x.2.2.1, (x.2.2.2.1, (x.2.2.2.2.1, (x.2.2.2.2.2.1, (x.2.2.2.2.2.2.1, (x.2.2.2.2.2.2.2.1, ())))))))) (fun a0 => k .ret (mkSt slices_IndexFunc_lock_Lock_lock_Lock_l0e1 (a0, (x.2.2.1, (x.2.2.2.1, (x.2.2.2.2.1, (x.2.2.2.2.2.1, (x.2.2.2.2.2.2.1, (x.2.2.2.2.2.2.2.1, ()))))))))) big x.1 x.2.1), gc := some 2 }

def slices_IndexFunc_lock_Lock_lock_Lock_ac : SCode := ⟨[.leaf (.lit (.hw 0)), .fn 30 [.lit (.ptr 1 0)]], [[.arr (.pair (.int .i64) (.pair .str (.pair (.slice .byte) (.pair (.slice .byte) (.pair (.int .i64) .unit)))))], [.int .i64, .str, .sl .ro .byte, .sl .ro .byte, .int .i64]]⟩
def slices_IndexFunc_lock_Lock_lock_Lock_con : Con := conCalm [.arg 0, .cap 1 0] [] slices_IndexFunc_lock_Lock_lock_Lock_ac (.leaf (.int .i64)) fun x => slices_IndexFunc_lock_Lock_lock_Lock big x.1 x.2.1 x.2.2.1 x.2.2.2.1 x.2.2.2.2.1 x.2.2.2.2.2.1
theorem slices_IndexFunc_lock_Lock_lock_Lock_bnd {calm : List Nat} {f : Nat} : BndC calm f slices_IndexFunc_lock_Lock_lock_Lock_con := bndCalm
def slices_IndexFunc_lock_Lock_lock_Lock_cx : Cx := { tab := tab, con := [(30, lock_Locks_Ask_c1_con)], funs := [], loops := [], want := want, ret := [], calm := [30], bnd := [30], eqs := eqs, xl := true, xs := [49], xd := [] }
theorem slices_IndexFunc_lock_Lock_lock_Lock_cs : CsOk Go.Proofs.Try.prog X slices_IndexFunc_lock_Lock_lock_Lock_cx :=
  csOk ⟨fun _ _ h => tab_ok tabOk h, eqsOk⟩ mixed ⟨lock_Locks_Ask_c1_ok, trivial⟩ trivial ⟨lock_Locks_Ask_c1_bnd, trivial⟩ rfl

def slices_IndexFunc_lock_Lock_lock_Lock_keep : List (Nat × LH) := [(2, slices_IndexFunc_lock_Lock_lock_Lock_l0h)]
theorem slices_IndexFunc_lock_Lock_lock_Lock_L0s (R : Type) (recS : St → Option R) (k : Exit → St → Option R) (x : slices_IndexFunc_lock_Lock_lock_Lock_l0c.den) : evCode slices_IndexFunc_lock_Lock_lock_Lock_cx (hcN slices_IndexFunc_lock_Lock_lock_Lock_cx 1) slices_IndexFunc_lock_Lock_lock_Lock_keep (loopC Go.Proofs.Try.f43 0) (mkSt slices_IndexFunc_lock_Lock_lock_Lock_l0c x) (fun e st' => match e with | .normal => recS (norm slices_IndexFunc_lock_Lock_lock_Lock_l0h 2 st') | e => k e (normO slices_IndexFunc_lock_Lock_lock_Lock_l0h 2 st')) = (fun rec k x => slices_IndexFunc_lock_Lock_lock_Lock_l0B big R x.2.2.1 x.2.2.2.1 x.2.2.2.2.1 x.2.2.2.2.2.1 x.2.2.2.2.2.2.1 x.2.2.2.2.2.2.2.1 (fun a0 a1 => rec (a0, (a1, (x.2.2.1, (x.2.2.2.1, (x.2.2.2.2.1, (x.2.2.2.2.2.1, (x.2.2.2.2.2.2.1, (x.2.2.2.2.2.2.2.1, ()))))))))) (k (.exit 0) (mkSt slices_IndexFunc_lock_Lock_lock_Lock_l0e0 (x.2.2.1, (x.2.2.2.1, (x.2.2.2.2.1, (x.2.2.2.2.2.1, (x.2.2.2.2.2.2.1, (x.2.2.2.2.2.2.2.1, ())))))))) (fun a0 => k .ret (mkSt slices_IndexFunc_lock_Lock_lock_Lock_l0e1 (a0, (x.2.2.1, (x.2.2.2.1, (x.2.2.2.2.1, (x.2.2.2.2.2.1, (x.2.2.2.2.2.2.1, (x.2.2.2.2.2.2.2.1, ()))))))))) x.1 x.2.1) (fun y => recS (mkSt slices_IndexFunc_lock_Lock_lock_Lock_l0c y)) k x := by kernel_rfl
theorem slices_IndexFunc_lock_Lock_lock_Lock_L0 (R : Type) : LOkR (R := R) slices_IndexFunc_lock_Lock_lock_Lock_cx (hcN slices_IndexFunc_lock_Lock_lock_Lock_cx 1) slices_IndexFunc_lock_Lock_lock_Lock_keep (loopC Go.Proofs.Try.f43 0) :=
  lok_iter (lh := slices_IndexFunc_lock_Lock_lock_Lock_l0h) slices_IndexFunc_lock_Lock_lock_Lock_l0c (fun R n k x => slices_IndexFunc_lock_Lock_lock_Lock_l0 big R x.2.2.1 x.2.2.2.1 x.2.2.2.2.1 x.2.2.2.2.2.1 x.2.2.2.2.2.2.1 x.2.2.2.2.2.2.2.1 (k (.exit 0) (mkSt slices_IndexFunc_lock_Lock_lock_Lock_l0e0 (x.2.2.1, (x.2.2.2.1, (x.2.2.2.2.1, (x.2.2.2.2.2.1, (x.2.2.2.2.2.2.1, (x.2.2.2.2.2.2.2.1, ())))))))) (fun a0 => k .ret (mkSt slices_IndexFunc_lock_Lock_lock_Lock_l0e1 (a0, (x.2.2.1, (x.2.2.2.1, (x.2.2.2.2.1, (x.2.2.2.2.2.1, (x.2.2.2.2.2.2.1, (x.2.2.2.2.2.2.2.1, ()))))))))) n x.1 x.2.1) (fun _ => big) (fun rec k x => slices_IndexFunc_lock_Lock_lock_Lock_l0B big R x.2.2.1 x.2.2.2.1 x.2.2.2.2.1 x.2.2.2.2.2.1 x.2.2.2.2.2.2.1 x.2.2.2.2.2.2.2.1 (fun a0 a1 => rec (a0, (a1, (x.2.2.1, (x.2.2.2.1, (x.2.2.2.2.1, (x.2.2.2.2.2.1, (x.2.2.2.2.2.2.1, (x.2.2.2.2.2.2.2.1, ()))))))))) (k (.exit 0) (mkSt slices_IndexFunc_lock_Lock_lock_Lock_l0e0 (x.2.2.1, (x.2.2.2.1, (x.2.2.2.2.1, (x.2.2.2.2.2.1, (x.2.2.2.2.2.2.1, (x.2.2.2.2.2.2.2.1, ())))))))) (fun a0 => k .ret (mkSt slices_IndexFunc_lock_Lock_lock_Lock_l0e1 (a0, (x.2.2.1, (x.2.2.2.1, (x.2.2.2.2.1, (x.2.2.2.2.2.1, (x.2.2.2.2.2.2.1, (x.2.2.2.2.2.2.2.1, ()))))))))) x.1 x.2.1) rfl rfl (slices_IndexFunc_lock_Lock_lock_Lock_L0s R) (fun _ _ => rfl) (fun _ _ _ => rfl)

theorem slices_IndexFunc_lock_Lock_lock_Lock_raw : ConOk Go.Proofs.Try.prog X 43 (fun _ args sto K => evBody slices_IndexFunc_lock_Lock_lock_Lock_cx (hcN slices_IndexFunc_lock_Lock_lock_Lock_cx 1) slices_IndexFunc_lock_Lock_lock_Lock_keep [] [] Go.Proofs.Try.f43 (bodyC Go.Proofs.Try.f43) args sto K) :=
  raw_ok slices_IndexFunc_lock_Lock_lock_Lock_cs 1 Go.Proofs.Try.func43 (by kernel_rfl) rfl fun R => loops_all 1 (by kernel_rfl) (fun i hi => match i, hi with | 0, _ => slices_IndexFunc_lock_Lock_lock_Lock_L0 R | n + 1, h => absurd h (by omega))

theorem slices_IndexFunc_lock_Lock_lock_Lock_T (R : Type) (K : D → Sto → Option R) (x : slices_IndexFunc_lock_Lock_lock_Lock_ac.den) : evBody slices_IndexFunc_lock_Lock_lock_Lock_cx (hcN slices_IndexFunc_lock_Lock_lock_Lock_cx 1) slices_IndexFunc_lock_Lock_lock_Lock_keep [] [] Go.Proofs.Try.f43 (bodyC Go.Proofs.Try.f43) (mkSt slices_IndexFunc_lock_Lock_lock_Lock_ac x).env (mkSt slices_IndexFunc_lock_Lock_lock_Lock_ac x).sto K = slices_IndexFunc_lock_Lock_lock_Lock_cps big R (fun a0 => K ((mkE [.leaf (.int .i64)] (T := Unit) (a0, ())).1.headD .any) (mkSt slices_IndexFunc_lock_Lock_lock_Lock_ac x).sto) x.1 x.2.1 x.2.2.1 x.2.2.2.1 x.2.2.2.2.1 x.2.2.2.2.2.1 := by kernel_rfl
theorem slices_IndexFunc_lock_Lock_lock_Lock_ok : ConOk Go.Proofs.Try.prog X 43 slices_IndexFunc_lock_Lock_lock_Lock_con :=
  conCalm_ok (src := [.arg 0, .cap 1 0]) (sh := []) (rs := .leaf (.int .i64)) slices_IndexFunc_lock_Lock_lock_Lock_raw (fun R K (x : slices_IndexFunc_lock_Lock_lock_Lock_ac.den) => slices_IndexFunc_lock_Lock_lock_Lock_cps big R (fun a0 => K (a0, ())) x.1 x.2.1 x.2.2.1 x.2.2.2.1 x.2.2.2.2.1 x.2.2.2.2.2.1) slices_IndexFunc_lock_Lock_lock_Lock_T

/-! 29 slices.ContainsFunc[[]frankpledge/lock.Lock,frankpledge/lock.Lock] -/
def slices_ContainsFunc_lock_Lock_lock_Lock_ac : SCode := ⟨[.leaf (.lit (.hw 0)), .fn 30 [.lit (.ptr 1 0)]], [[.arr (.pair (.int .i64) (.pair .str (.pair (.slice .byte) (.pair (.slice .byte) (.pair (.int .i64) .unit)))))], [.int .i64, .str, .sl .ro .byte, .sl .ro .byte, .int .i64]]⟩
def slices_ContainsFunc_lock_Lock_lock_Lock_con : Con := conCalm [.arg 0, .cap 1 0] [] slices_ContainsFunc_lock_Lock_lock_Lock_ac (.leaf (.bool)) fun x => slices_ContainsFunc_lock_Lock_lock_Lock big x.1 x.2.1 x.2.2.1 x.2.2.2.1 x.2.2.2.2.1 x.2.2.2.2.2.1
theorem slices_ContainsFunc_lock_Lock_lock_Lock_bnd {calm : List Nat} {f : Nat} : BndC calm f slices_ContainsFunc_lock_Lock_lock_Lock_con := bndCalm
def slices_ContainsFunc_lock_Lock_lock_Lock_cx : Cx := { tab := tab, con := [(43, slices_IndexFunc_lock_Lock_lock_Lock_con)], funs := [], loops := [], want := want, ret := [], calm := [43], bnd := [43], eqs := eqs }
theorem slices_ContainsFunc_lock_Lock_lock_Lock_cs : CsOk Go.Proofs.Try.prog X slices_ContainsFunc_lock_Lock_lock_Lock_cx :=
  csOk ⟨fun _ _ h => tab_ok tabOk h, eqsOk⟩ mixed ⟨slices_IndexFunc_lock_Lock_lock_Lock_ok, trivial⟩ trivial ⟨slices_IndexFunc_lock_Lock_lock_Lock_bnd, trivial⟩ rfl

def slices_ContainsFunc_lock_Lock_lock_Lock_keep : List (Nat × LH) := []
theorem slices_ContainsFunc_lock_Lock_lock_Lock_raw : ConOk Go.Proofs.Try.prog X 29 (fun _ args sto K => evBody slices_ContainsFunc_lock_Lock_lock_Lock_cx (hcN slices_ContainsFunc_lock_Lock_lock_Lock_cx 1) slices_ContainsFunc_lock_Lock_lock_Lock_keep [] [] Go.Proofs.Try.f29 (bodyC Go.Proofs.Try.f29) args sto K) :=
  raw_ok slices_ContainsFunc_lock_Lock_lock_Lock_cs 1 Go.Proofs.Try.func29 (by kernel_rfl) rfl fun R => loops_all 0 (by kernel_rfl) (fun i hi => absurd hi (Nat.not_lt_zero i))

theorem slices_ContainsFunc_lock_Lock_lock_Lock_T (R : Type) (K : D → Sto → Option R) (x : slices_ContainsFunc_lock_Lock_lock_Lock_ac.den) : evBody slices_ContainsFunc_lock_Lock_lock_Lock_cx (hcN slices_ContainsFunc_lock_Lock_lock_Lock_cx 1) slices_ContainsFunc_lock_Lock_lock_Lock_keep [] [] Go.Proofs.Try.f29 (bodyC Go.Proofs.Try.f29) (mkSt slices_ContainsFunc_lock_Lock_lock_Lock_ac x).env (mkSt slices_ContainsFunc_lock_Lock_lock_Lock_ac x).sto K = slices_ContainsFunc_lock_Lock_lock_Lock_cps big R (fun a0 => K ((mkE [.leaf (.bool)] (T := Unit) (a0, ())).1.headD .any) (mkSt slices_ContainsFunc_lock_Lock_lock_Lock_ac x).sto) x.1 x.2.1 x.2.2.1 x.2.2.2.1 x.2.2.2.2.1 x.2.2.2.2.2.1 := by kernel_rfl
theorem slices_ContainsFunc_lock_Lock_lock_Lock_ok : ConOk Go.Proofs.Try.prog X 29 slices_ContainsFunc_lock_Lock_lock_Lock_con :=
  conCalm_ok (src := [.arg 0, .cap 1 0]) (sh := []) (rs := .leaf (.bool)) slices_ContainsFunc_lock_Lock_lock_Lock_raw (fun R K (x : slices_ContainsFunc_lock_Lock_lock_Lock_ac.den) => slices_ContainsFunc_lock_Lock_lock_Lock_cps big R (fun a0 => K (a0, ())) x.1 x.2.1 x.2.2.1 x.2.2.2.1 x.2.2.2.2.1 x.2.2.2.2.2.1) slices_ContainsFunc_lock_Lock_lock_Lock_T

/-! 32 (frankpledge/lock.Lock).covers -/
def lock_Lock_covers_ac : SCode := ⟨[.agg [.int .i64, .str, .sl .ro .byte, .sl .ro .byte, .int .i64], .agg [.int .i64, .str, .sl .ro .byte, .sl .ro .byte, .int .i64]], []⟩
def lock_Lock_covers_con : Con := conCalm [] [] lock_Lock_covers_ac (.leaf (.bool)) fun x => lock_Lock_covers big x.1 x.2.1 x.2.2.1 x.2.2.2.1 x.2.2.2.2.1 x.2.2.2.2.2.1 x.2.2.2.2.2.2.1 x.2.2.2.2.2.2.2.1 x.2.2.2.2.2.2.2.2.1 x.2.2.2.2.2.2.2.2.2.1
theorem lock_Lock_covers_bnd {calm : List Nat} {f : Nat} : BndC calm f lock_Lock_covers_con := bndCalm
def lock_Lock_covers_cx : Cx := { tab := tab, con := [(26, bytes_Compare_con)], funs := [], loops := [], want := want, ret := [], calm := [26], bnd := [26], eqs := eqs }
theorem lock_Lock_covers_cs : CsOk Go.Proofs.Try.prog X lock_Lock_covers_cx :=
  csOk ⟨fun _ _ h => tab_ok tabOk h, eqsOk⟩ mixed ⟨bytes_Compare_ok, trivial⟩ trivial ⟨bytes_Compare_bnd, trivial⟩ rfl

def lock_Lock_covers_keep : List (Nat × LH) := []
theorem lock_Lock_covers_raw : ConOk Go.Proofs.Try.prog X 32 (fun _ args sto K => evBody lock_Lock_covers_cx (hcN lock_Lock_covers_cx 1) lock_Lock_covers_keep [] [] Go.Proofs.Try.f32 (bodyC Go.Proofs.Try.f32) args sto K) :=
  raw_ok lock_Lock_covers_cs 1 Go.Proofs.Try.func32 (by kernel_rfl) rfl fun R => loops_all 0 (by kernel_rfl) (fun i hi => absurd hi (Nat.not_lt_zero i))

theorem lock_Lock_covers_T (R : Type) (K : D → Sto → Option R) (x : lock_Lock_covers_ac.den) : evBody lock_Lock_covers_cx (hcN lock_Lock_covers_cx 1) lock_Lock_covers_keep [] [] Go.Proofs.Try.f32 (bodyC Go.Proofs.Try.f32) (mkSt lock_Lock_covers_ac x).env (mkSt lock_Lock_covers_ac x).sto K = lock_Lock_covers_cps big R (fun a0 => K ((mkE [.leaf (.bool)] (T := Unit) (a0, ())).1.headD .any) (mkSt lock_Lock_covers_ac x).sto) x.1 x.2.1 x.2.2.1 x.2.2.2.1 x.2.2.2.2.1 x.2.2.2.2.2.1 x.2.2.2.2.2.2.1 x.2.2.2.2.2.2.2.1 x.2.2.2.2.2.2.2.2.1 x.2.2.2.2.2.2.2.2.2.1 := by kernel_rfl
theorem lock_Lock_covers_ok : ConOk Go.Proofs.Try.prog X 32 lock_Lock_covers_con :=
  conCalm_ok (src := []) (sh := []) (rs := .leaf (.bool)) lock_Lock_covers_raw (fun R K (x : lock_Lock_covers_ac.den) => lock_Lock_covers_cps big R (fun a0 => K (a0, ())) x.1 x.2.1 x.2.2.1 x.2.2.2.1 x.2.2.2.2.1 x.2.2.2.2.2.1 x.2.2.2.2.2.2.1 x.2.2.2.2.2.2.2.1 x.2.2.2.2.2.2.2.2.1 x.2.2.2.2.2.2.2.2.2.1) lock_Lock_covers_T

/-! 31 (*frankpledge/lock.Locks).Ask$2 -/
def lock_Locks_Ask_c2_ac : SCode := ⟨[.agg [.int .i64, .str, .sl .ro .byte, .sl .ro .byte, .int .i64], .leaf (.lit (.ptr 0 0))], [[.int .i64, .str, .sl .ro .byte, .sl .ro .byte, .int .i64]]⟩
def lock_Locks_Ask_c2_con : Con := conCalm [.arg 1] [] lock_Locks_Ask_c2_ac (.leaf (.bool)) fun x => lock_Locks_Ask_c2 big x.1 x.2.1 x.2.2.1 x.2.2.2.1 x.2.2.2.2.1 x.2.2.2.2.2.1 x.2.2.2.2.2.2.1 x.2.2.2.2.2.2.2.1 x.2.2.2.2.2.2.2.2.1 x.2.2.2.2.2.2.2.2.2.1
theorem lock_Locks_Ask_c2_bnd {calm : List Nat} {f : Nat} : BndC calm f lock_Locks_Ask_c2_con := bndCalm
def lock_Locks_Ask_c2_cx : Cx := { tab := tab, con := [(32, lock_Lock_covers_con)], funs := [], loops := [], want := want, ret := [], calm := [32], bnd := [32], eqs := eqs }
theorem lock_Locks_Ask_c2_cs : CsOk Go.Proofs.Try.prog X lock_Locks_Ask_c2_cx :=
  csOk ⟨fun _ _ h => tab_ok tabOk h, eqsOk⟩ mixed ⟨lock_Lock_covers_ok, trivial⟩ trivial ⟨lock_Lock_covers_bnd, trivial⟩ rfl

def lock_Locks_Ask_c2_keep : List (Nat × LH) := []
theorem lock_Locks_Ask_c2_raw : ConOk Go.Proofs.Try.prog X 31 (fun _ args sto K => evBody lock_Locks_Ask_c2_cx (hcN lock_Locks_Ask_c2_cx 1) lock_Locks_Ask_c2_keep [] [] Go.Proofs.Try.f31 (bodyC Go.Proofs.Try.f31) args sto K) :=
  raw_ok lock_Locks_Ask_c2_cs 1 Go.Proofs.Try.func31 (by kernel_rfl) rfl fun R => loops_all 0 (by kernel_rfl) (fun i hi => absurd hi (Nat.not_lt_zero i))

theorem lock_Locks_Ask_c2_T (R : Type) (K : D → Sto → Option R) (x : lock_Locks_Ask_c2_ac.den) : evBody lock_Locks_Ask_c2_cx (hcN lock_Locks_Ask_c2_cx 1) lock_Locks_Ask_c2_keep [] [] Go.Proofs.Try.f31 (bodyC Go.Proofs.Try.f31) (mkSt lock_Locks_Ask_c2_ac x).env (mkSt lock_Locks_Ask_c2_ac x).sto K = lock_Locks_Ask_c2_cps big R (fun a0 => K ((mkE [.leaf (.bool)] (T := Unit) (a0, ())).1.headD .any) (mkSt lock_Locks_Ask_c2_ac x).sto) x.1 x.2.1 x.2.2.1 x.2.2.2.1 x.2.2.2.2.1 x.2.2.2.2.2.1 x.2.2.2.2.2.2.1 x.2.2.2.2.2.2.2.1 x.2.2.2.2.2.2.2.2.1 x.2.2.2.2.2.2.2.2.2.1 := by kernel_rfl
theorem lock_Locks_Ask_c2_ok : ConOk Go.Proofs.Try.prog X 31 lock_Locks_Ask_c2_con :=
  conCalm_ok (src := [.arg 1]) (sh := []) (rs := .leaf (.bool)) lock_Locks_Ask_c2_raw (fun R K (x : lock_Locks_Ask_c2_ac.den) => lock_Locks_Ask_c2_cps big R (fun a0 => K (a0, ())) x.1 x.2.1 x.2.2.1 x.2.2.2.1 x.2.2.2.2.1 x.2.2.2.2.2.1 x.2.2.2.2.2.2.1 x.2.2.2.2.2.2.2.1 x.2.2.2.2.2.2.2.2.1 x.2.2.2.2.2.2.2.2.2.1) lock_Locks_Ask_c2_T

/-! 43 slices.IndexFunc[[]frankpledge/lock.Lock,frankpledge/lock.Lock] -/
def slices_IndexFunc_lock_Lock_lock_Lock_1_l0c : SCode := ⟨[.leaf (.lit (.hw 0)), .fn 31 [.lit (.ptr 1 0)], .leaf (.lit (.any)), .leaf (.lit (.any)), .leaf (.lit (.any)), .leaf (.lit (.any)), .leaf (.lit (.any)), .leaf (.int .i64), .leaf (.int .i64), .leaf (.lit (.any)), .leaf (.lit (.any)), .leaf (.lit (.any)), .leaf (.lit (.any)), .leaf (.lit (.any)), .leaf (.lit (.any)), .leaf (.lit (.any)), .leaf (.lit (.any)), .leaf (.lit (.any)), .leaf (.lit (.any))], [[.arr (.pair (.int .i64) (.pair .str (.pair (.slice .byte) (.pair (.slice .byte) (.pair (.int .i64) .unit)))))], [.int .i64, .str, .sl .ro .byte, .sl .ro .byte, .int .i64]]⟩
def slices_IndexFunc_lock_Lock_lock_Lock_1_l0e0 : SCode := ⟨[.leaf (.lit (.any)), .leaf (.lit (.any)), .leaf (.lit (.any)), .leaf (.lit (.any)), .leaf (.lit (.any)), .leaf (.lit (.any)), .leaf (.lit (.any)), .leaf (.lit (.any)), .leaf (.lit (.any)), .leaf (.lit (.any)), .leaf (.lit (.any)), .leaf (.lit (.any)), .leaf (.lit (.any)), .leaf (.lit (.any)), .leaf (.lit (.any)), .leaf (.lit (.any)), .leaf (.lit (.any)), .leaf (.lit (.any)), .leaf (.lit (.any))], [[.arr (.pair (.int .i64) (.pair .str (.pair (.slice .byte) (.pair (.slice .byte) (.pair (.int .i64) .unit)))))], [.int .i64, .str, .sl .ro .byte, .sl .ro .byte, .int .i64]]⟩
def slices_IndexFunc_lock_Lock_lock_Lock_1_l0e1 : SCode := ⟨[.leaf (.lit (.any)), .leaf (.lit (.any)), .leaf (.lit (.any)), .leaf (.lit (.any)), .leaf (.int .i64), .leaf (.lit (.any)), .leaf (.lit (.any)), .leaf (.lit (.any)), .leaf (.lit (.any)), .leaf (.lit (.any)), .leaf (.lit (.any)), .leaf (.lit (.any)), .leaf (.lit (.any)), .leaf (.lit (.any)), .leaf (.lit (.any)), .leaf (.lit (.any)), .leaf (.lit (.any)), .leaf (.lit (.any)), .leaf (.lit (.any))], [[.arr (.pair (.int .i64) (.pair .str (.pair (.slice .byte) (.pair (.slice .byte) (.pair (.int .i64) .unit)))))], [.int .i64, .str, .sl .ro .byte, .sl .ro .byte, .int .i64]]⟩
def slices_IndexFunc_lock_Lock_lock_Lock_1_l0h : LH := { env := [(0, .id), (1, .id), (7, .id), (8, .id)], sto := [], out := [(4, .id)], con := some (lconOf slices_IndexFunc_lock_Lock_lock_Lock_1_l0c fun R k x => slices_IndexFunc_lock_Lock_lock_Lock_1_l0 big R x.2.2.1 x.2.2.2.1 x.2.2.2.2.1 x.2.2.2.2.2.1 x.2.2.2.2.2.2.1 x.2.2.2.2.2.2.2.1 (k (.exit 0) (mkSt slices_IndexFunc_lock_Lock_lock_Lock_1_l0e0 (x.2.2.1, (x.2.2.2.1, (x.2.2.2.2.1, (x.2.2.2.2.2.1, (x.2.2.2.2.2.2.1, (x.2.2.2.2.2.2.2.1, ())))))))) (fun a0 => k .ret (mkSt slices_IndexFunc_lock_Lock_lock_Lock_1_l0e1 (a0, (x.2.2.1, (x.2.2.2.1, (x.2.2.2.2.1, (x.2.2.2.2.2.1, (x.2.2.2.2.2.2.1, (x.2.2.2.2.2.2.2.1, ()))))))))) big x.1 x.2.1), gc := some 2 }

def slices_IndexFunc_lock_Lock_lock_Lock_1_ac : SCode := ⟨[.leaf (.lit (.hw 0)), .fn 31 [.lit (.ptr 1 0)]], [[.arr (.pair (.int .i64) (.pair .str (.pair (.slice .byte) (.pair (.slice .byte) (.pair (.int .i64) .unit)))))], [.int .i64, .str, .sl .ro .byte, .sl .ro .byte, .int .i64]]⟩
def slices_IndexFunc_lock_Lock_lock_Lock_1_con : Con := conCalm [.arg 0, .cap 1 0] [] slices_IndexFunc_lock_Lock_lock_Lock_1_ac (.leaf (.int .i64)) fun x => slices_IndexFunc_lock_Lock_lock_Lock_1 big x.1 x.2.1 x.2.2.1 x.2.2.2.1 x.2.2.2.2.1 x.2.2.2.2.2.1
theorem slices_IndexFunc_lock_Lock_lock_Lock_1_bnd {calm : List Nat} {f : Nat} : BndC calm f slices_IndexFunc_lock_Lock_lock_Lock_1_con := bndCalm
def slices_IndexFunc_lock_Lock_lock_Lock_1_cx : Cx := { tab := tab, con := [(31, lock_Locks_Ask_c2_con)], funs := [], loops := [], want := want, ret := [], calm := [31], bnd := [31], eqs := eqs, xl := true, xs := [49], xd := [] }
theorem slices_IndexFunc_lock_Lock_lock_Lock_1_cs : CsOk Go.Proofs.Try.prog X slices_IndexFunc_lock_Lock_lock_Lock_1_cx :=
  csOk ⟨fun _ _ h => tab_ok tabOk h, eqsOk⟩ mixed ⟨lock_Locks_Ask_c2_ok, trivial⟩ trivial ⟨lock_Locks_Ask_c2_bnd, trivial⟩ rfl

def slices_IndexFunc_lock_Lock_lock_Lock_1_keep : List (Nat × LH) := [(2, slices_IndexFunc_lock_Lock_lock_Lock_1_l0h)]
theorem slices_IndexFunc_lock_Lock_lock_Lock_1_L0s (R : Type) (recS : St → Option R) (k : Exit → St → Option R) (x : slices_IndexFunc_lock_Lock_lock_Lock_1_l0c.den) : evCode slices_IndexFunc_lock_Lock_lock_Lock_1_cx (hcN slices_IndexFunc_lock_Lock_lock_Lock_1_cx 1) slices_IndexFunc_lock_Lock_lock_Lock_1_keep (loopC Go.Proofs.Try.f43 0) (mkSt slices_IndexFunc_lock_Lock_lock_Lock_1_l0c x) (fun e st' => match e with | .normal => recS (norm slices_IndexFunc_lock_Lock_lock_Lock_1_l0h 2 st') | e => k e (normO slices_IndexFunc_lock_Lock_lock_Lock_1_l0h 2 st')) = (fun rec k x => slices_IndexFunc_lock_Lock_lock_Lock_1_l0B big R x.2.2.1 x.2.2.2.1 x.2.2.2.2.1 x.2.2.2.2.2.1 x.2.2.2.2.2.2.1 x.2.2.2.2.2.2.2.1 (fun a0 a1 => rec (a0, (a1, (x.2.2.1, (x.2.2.2.1, (x.2.2.2.2.1, (x.2.2.2.2.2.1, (x.2.2.2.2.2.2.1, (x.2.2.2.2.2.2.2.1, ()))))))))) (k (.exit 0) (mkSt slices_IndexFunc_lock_Lock_lock_Lock_1_l0e0 (x.2.2.1, (x.2.2.2.1, (x.2.2.2.2.1, (x.2.2.2.2.2.1, (x.2.2.2.2.2.2.1, (x.2.2.2.2.2.2.2.1, ())))))))) (fun a0 => k .ret (mkSt slices_IndexFunc_lock_Lock_lock_Lock_1_l0e1 (a0, (x.2.2.1, (x.2.2.2.1, (x.2.2.2.2.1, (x.2.2.2.2.2.1, (x.2.2.2.2.2.2.1, (x.2.2.2.2.2.2.2.1, ()))))))))) x.1 x.2.1) (fun y => recS (mkSt slices_IndexFunc_lock_Lock_lock_Lock_1_l0c y)) k x := by kernel_rfl
theorem slices_IndexFunc_lock_Lock_lock_Lock_1_L0 (R : Type) : LOkR (R := R) slices_IndexFunc_lock_Lock_lock_Lock_1_cx (hcN slices_IndexFunc_lock_Lock_lock_Lock_1_cx 1) slices_IndexFunc_lock_Lock_lock_Lock_1_keep (loopC Go.Proofs.Try.f43 0) :=
  lok_iter (lh := slices_IndexFunc_lock_Lock_lock_Lock_1_l0h) slices_IndexFunc_lock_Lock_lock_Lock_1_l0c (fun R n k x => slices_IndexFunc_lock_Lock_lock_Lock_1_l0 big R x.2.2.1 x.2.2.2.1 x.2.2.2.2.1 x.2.2.2.2.2.1 x.2.2.2.2.2.2.1 x.2.2.2.2.2.2.2.1 (k (.exit 0) (mkSt slices_IndexFunc_lock_Lock_lock_Lock_1_l0e0 (x.2.2.1, (x.2.2.2.1, (x.2.2.2.2.1, (x.2.2.2.2.2.1, (x.2.2.2.2.2.2.1, (x.2.2.2.2.2.2.2.1, ())))))))) (fun a0 => k .ret (mkSt slices_IndexFunc_lock_Lock_lock_Lock_1_l0e1 (a0, (x.2.2.1, (x.2.2.2.1, (x.2.2.2.2.1, (x.2.2.2.2.2.1, (x.2.2.2.2.2.2.1, (x.2.2.2.2.2.2.2.1, ()))))))))) n x.1 x.2.1) (fun _ => big) (fun rec k x => slices_IndexFunc_lock_Lock_lock_Lock_1_l0B big R x.2.2.1 x.2.2.2.1 x.2.2.2.2.1 x.2.2.2.2.2.1 x.2.2.2.2.2.2.1 x.2.2.2.2.2.2.2.1 (fun a0 a1 => rec (a0, (a1, (x.2.2.1, (x.2.2.2.1, (x.2.2.2.2.1, (x.2.2.2.2.2.1, (x.2.2.2.2.2.2.1, (x.2.2.2.2.2.2.2.1, ()))))))))) (k (.exit 0) (mkSt slices_IndexFunc_lock_Lock_lock_Lock_1_l0e0 (x.2.2.1, (x.2.2.2.1, (x.2.2.2.2.1, (x.2.2.2.2.2.1, (x.2.2.2.2.2.2.1, (x.2.2.2.2.2.2.2.1, ())))))))) (fun a0 => k .ret (mkSt slices_IndexFunc_lock_Lock_lock_Lock_1_l0e1 (a0, (x.2.2.1, (x.2.2.2.1, (x.2.2.2.2.1, (x.2.2.2.2.2.1, (x.2.2.2.2.2.2.1, (x.2.2.2.2.2.2.2.1, ()))))))))) x.1 x.2.1) rfl rfl (slices_IndexFunc_lock_Lock_lock_Lock_1_L0s R) (fun _ _ => rfl) (fun _ _ _ => rfl)

theorem slices_IndexFunc_lock_Lock_lock_Lock_1_raw : ConOk Go.Proofs.Try.prog X 43 (fun _ args sto K => evBody slices_IndexFunc_lock_Lock_lock_Lock_1_cx (hcN slices_IndexFunc_lock_Lock_lock_Lock_1_cx 1) slices_IndexFunc_lock_Lock_lock_Lock_1_keep [] [] Go.Proofs.Try.f43 (bodyC Go.Proofs.Try.f43) args sto K) :=
  raw_ok slices_IndexFunc_lock_Lock_lock_Lock_1_cs 1 Go.Proofs.Try.func43 (by kernel_rfl) rfl fun R => loops_all 1 (by kernel_rfl) (fun i hi => match i, hi with | 0, _ => slices_IndexFunc_lock_Lock_lock_Lock_1_L0 R | n + 1, h => absurd h (by omega))

theorem slices_IndexFunc_lock_Lock_lock_Lock_1_T (R : Type) (K : D → Sto → Option R) (x : slices_IndexFunc_lock_Lock_lock_Lock_1_ac.den) : evBody slices_IndexFunc_lock_Lock_lock_Lock_1_cx (hcN slices_IndexFunc_lock_Lock_lock_Lock_1_cx 1) slices_IndexFunc_lock_Lock_lock_Lock_1_keep [] [] Go.Proofs.Try.f43 (bodyC Go.Proofs.Try.f43) (mkSt slices_IndexFunc_lock_Lock_lock_Lock_1_ac x).env (mkSt slices_IndexFunc_lock_Lock_lock_Lock_1_ac x).sto K = slices_IndexFunc_lock_Lock_lock_Lock_1_cps big R (fun a0 => K ((mkE [.leaf (.int .i64)] (T := Unit) (a0, ())).1.headD .any) (mkSt slices_IndexFunc_lock_Lock_lock_Lock_1_ac x).sto) x.1 x.2.1 x.2.2.1 x.2.2.2.1 x.2.2.2.2.1 x.2.2.2.2.2.1 := by kernel_rfl
theorem slices_IndexFunc_lock_Lock_lock_Lock_1_ok : ConOk Go.Proofs.Try.prog X 43 slices_IndexFunc_lock_Lock_lock_Lock_1_con :=
  conCalm_ok (src := [.arg 0, .cap 1 0]) (sh := []) (rs := .leaf (.int .i64)) slices_IndexFunc_lock_Lock_lock_Lock_1_raw (fun R K (x : slices_IndexFunc_lock_Lock_lock_Lock_1_ac.den) => slices_IndexFunc_lock_Lock_lock_Lock_1_cps big R (fun a0 => K (a0, ())) x.1 x.2.1 x.2.2.1 x.2.2.2.1 x.2.2.2.2.1 x.2.2.2.2.2.1) slices_IndexFunc_lock_Lock_lock_Lock_1_T

/-! 29 slices.ContainsFunc[[]frankpledge/lock.Lock,frankpledge/lock.Lock] -/
def slices_ContainsFunc_lock_Lock_lock_Lock_1_ac : SCode := ⟨[.leaf (.lit (.hw 0)), .fn 31 [.lit (.ptr 1 0)]], [[.arr (.pair (.int .i64) (.pair .str (.pair (.slice .byte) (.pair (.slice .byte) (.pair (.int .i64) .unit)))))], [.int .i64, .str, .sl .ro .byte, .sl .ro .byte, .int .i64]]⟩
def slices_ContainsFunc_lock_Lock_lock_Lock_1_con : Con := conCalm [.arg 0, .cap 1 0] [] slices_ContainsFunc_lock_Lock_lock_Lock_1_ac (.leaf (.bool)) fun x => slices_ContainsFunc_lock_Lock_lock_Lock_1 big x.1 x.2.1 x.2.2.1 x.2.2.2.1 x.2.2.2.2.1 x.2.2.2.2.2.1
theorem slices_ContainsFunc_lock_Lock_lock_Lock_1_bnd {calm : List Nat} {f : Nat} : BndC calm f slices_ContainsFunc_lock_Lock_lock_Lock_1_con := bndCalm
def slices_ContainsFunc_lock_Lock_lock_Lock_1_cx : Cx := { tab := tab, con := [(43, slices_IndexFunc_lock_Lock_lock_Lock_1_con)], funs := [], loops := [], want := want, ret := [], calm := [43], bnd := [43], eqs := eqs }
theorem slices_ContainsFunc_lock_Lock_lock_Lock_1_cs : CsOk Go.Proofs.Try.prog X slices_ContainsFunc_lock_Lock_lock_Lock_1_cx :=
  csOk ⟨fun _ _ h => tab_ok tabOk h, eqsOk⟩ mixed ⟨slices_IndexFunc_lock_Lock_lock_Lock_1_ok, trivial⟩ trivial ⟨slices_IndexFunc_lock_Lock_lock_Lock_1_bnd, trivial⟩ rfl

def slices_ContainsFunc_lock_Lock_lock_Lock_1_keep : List (Nat × LH) := []
theorem slices_ContainsFunc_lock_Lock_lock_Lock_1_raw : ConOk Go.Proofs.Try.prog X 29 (fun _ args sto K => evBody slices_ContainsFunc_lock_Lock_lock_Lock_1_cx (hcN slices_ContainsFunc_lock_Lock_lock_Lock_1_cx 1) slices_ContainsFunc_lock_Lock_lock_Lock_1_keep [] [] Go.Proofs.Try.f29 (bodyC Go.Proofs.Try.f29) args sto K) :=
  raw_ok slices_ContainsFunc_lock_Lock_lock_Lock_1_cs 1 Go.Proofs.Try.func29 (by kernel_rfl) rfl fun R => loops_all 0 (by kernel_rfl) (fun i hi => absurd hi (Nat.not_lt_zero i))

theorem slices_ContainsFunc_lock_Lock_lock_Lock_1_T (R : Type) (K : D → Sto → Option R) (x : slices_ContainsFunc_lock_Lock_lock_Lock_1_ac.den) : evBody slices_ContainsFunc_lock_Lock_lock_Lock_1_cx (hcN slices_ContainsFunc_lock_Lock_lock_Lock_1_cx 1) slices_ContainsFunc_lock_Lock_lock_Lock_1_keep [] [] Go.Proofs.Try.f29 (bodyC Go.Proofs.Try.f29) (mkSt slices_ContainsFunc_lock_Lock_lock_Lock_1_ac x).env (mkSt slices_ContainsFunc_lock_Lock_lock_Lock_1_ac x).sto K = slices_ContainsFunc_lock_Lock_lock_Lock_1_cps big R (fun a0 => K ((mkE [.leaf (.bool)] (T := Unit) (a0, ())).1.headD .any) (mkSt slices_ContainsFunc_lock_Lock_lock_Lock_1_ac x).sto) x.1 x.2.1 x.2.2.1 x.2.2.2.1 x.2.2.2.2.1 x.2.2.2.2.2.1 := by kernel_rfl
theorem slices_ContainsFunc_lock_Lock_lock_Lock_1_ok : ConOk Go.Proofs.Try.prog X 29 slices_ContainsFunc_lock_Lock_lock_Lock_1_con :=
  conCalm_ok (src := [.arg 0, .cap 1 0]) (sh := []) (rs := .leaf (.bool)) slices_ContainsFunc_lock_Lock_lock_Lock_1_raw (fun R K (x : slices_ContainsFunc_lock_Lock_lock_Lock_1_ac.den) => slices_ContainsFunc_lock_Lock_lock_Lock_1_cps big R (fun a0 => K (a0, ())) x.1 x.2.1 x.2.2.1 x.2.2.2.1 x.2.2.2.2.1 x.2.2.2.2.2.1) slices_ContainsFunc_lock_Lock_lock_Lock_1_T

/-! 44 bytes.Clone -/
def bytes_Clone_ac : SCode := ⟨[.leaf (.sl .nn .byte)], []⟩
def bytes_Clone_con : Con := conCalm [] [] bytes_Clone_ac (.leaf (.sl .own .byte)) fun x => bytes_Clone big x.1
theorem bytes_Clone_bnd {calm : List Nat} {f : Nat} : BndC calm f bytes_Clone_con := bndCalm
def bytes_Clone_cx : Cx := { tab := tab, con := [], funs := [], loops := [], want := want, ret := [], calm := [], bnd := [], eqs := eqs }
theorem bytes_Clone_cs : CsOk Go.Proofs.Try.prog X bytes_Clone_cx :=
  csOk ⟨fun _ _ h => tab_ok tabOk h, eqsOk⟩ mixed trivial trivial trivial rfl

def bytes_Clone_keep : List (Nat × LH) := []
theorem bytes_Clone_raw : ConOk Go.Proofs.Try.prog X 44 (fun _ args sto K => evBody bytes_Clone_cx (hcN bytes_Clone_cx 1) bytes_Clone_keep [] [] Go.Proofs.Try.f44 (bodyC Go.Proofs.Try.f44) args sto K) :=
  raw_ok bytes_Clone_cs 1 Go.Proofs.Try.func44 (by kernel_rfl) rfl fun R => loops_all 0 (by kernel_rfl) (fun i hi => absurd hi (Nat.not_lt_zero i))

theorem bytes_Clone_T (R : Type) (K : D → Sto → Option R) (x : bytes_Clone_ac.den) : evBody bytes_Clone_cx (hcN bytes_Clone_cx 1) bytes_Clone_keep [] [] Go.Proofs.Try.f44 (bodyC Go.Proofs.Try.f44) (mkSt bytes_Clone_ac x).env (mkSt bytes_Clone_ac x).sto K = bytes_Clone_cps big R (fun a0 => K ((mkE [.leaf (.sl .own .byte)] (T := Unit) (a0, ())).1.headD .any) (mkSt bytes_Clone_ac x).sto) x.1 := by kernel_rfl
theorem bytes_Clone_ok : ConOk Go.Proofs.Try.prog X 44 bytes_Clone_con :=
  conCalm_ok (src := []) (sh := []) (rs := .leaf (.sl .own .byte)) bytes_Clone_raw (fun R K (x : bytes_Clone_ac.den) => bytes_Clone_cps big R (fun a0 => K (a0, ())) x.1) bytes_Clone_T

/-! 44 bytes.Clone -/
def bytes_Clone_1_ac : SCode := ⟨[.leaf (.lit (.nils))], []⟩
def bytes_Clone_1_con : Con := conCalm [] [] bytes_Clone_1_ac (.leaf (.lit (.nils))) fun x => bytes_Clone_1 big 
theorem bytes_Clone_1_bnd {calm : List Nat} {f : Nat} : BndC calm f bytes_Clone_1_con := bndCalm
def bytes_Clone_1_cx : Cx := { tab := tab, con := [], funs := [], loops := [], want := want, ret := [], calm := [], bnd := [], eqs := eqs }
theorem bytes_Clone_1_cs : CsOk Go.Proofs.Try.prog X bytes_Clone_1_cx :=
  csOk ⟨fun _ _ h => tab_ok tabOk h, eqsOk⟩ mixed trivial trivial trivial rfl

def bytes_Clone_1_keep : List (Nat × LH) := []
theorem bytes_Clone_1_raw : ConOk Go.Proofs.Try.prog X 44 (fun _ args sto K => evBody bytes_Clone_1_cx (hcN bytes_Clone_1_cx 1) bytes_Clone_1_keep [] [] Go.Proofs.Try.f44 (bodyC Go.Proofs.Try.f44) args sto K) :=
  raw_ok bytes_Clone_1_cs 1 Go.Proofs.Try.func44 (by kernel_rfl) rfl fun R => loops_all 0 (by kernel_rfl) (fun i hi => absurd hi (Nat.not_lt_zero i))

theorem bytes_Clone_1_T (R : Type) (K : D → Sto → Option R) (x : bytes_Clone_1_ac.den) : evBody bytes_Clone_1_cx (hcN bytes_Clone_1_cx 1) bytes_Clone_1_keep [] [] Go.Proofs.Try.f44 (bodyC Go.Proofs.Try.f44) (mkSt bytes_Clone_1_ac x).env (mkSt bytes_Clone_1_ac x).sto K = bytes_Clone_1_cps big R (K ((mkE [.leaf (.lit (.nils))] (T := Unit) ()).1.headD .any) (mkSt bytes_Clone_1_ac x).sto)  := by kernel_rfl
theorem bytes_Clone_1_ok : ConOk Go.Proofs.Try.prog X 44 bytes_Clone_1_con :=
  conCalm_ok (src := []) (sh := []) (rs := .leaf (.lit (.nils))) bytes_Clone_1_raw (fun R K (x : bytes_Clone_1_ac.den) => bytes_Clone_1_cps big R (K ()) ) bytes_Clone_1_T

def bytes_Clone_nl_ac : SCode := ⟨[.leaf (.sl .ro .byte)], []⟩
def bytes_Clone_nl_con : Con := conNil .byte bytes_Clone_con bytes_Clone_1_con
theorem bytes_Clone_nl_bnd {calm : List Nat} {f : Nat} : BndC calm f bytes_Clone_nl_con := bndNil bytes_Clone_bnd bytes_Clone_1_bnd
theorem bytes_Clone_nl_ok : ConOk Go.Proofs.Try.prog X 44 bytes_Clone_nl_con :=
  conNil_ok bytes_Clone_ok bytes_Clone_1_ok (fun R sto K r h => h)
/-! 33 (frankpledge/lock.Lock).copied -/
def lock_Lock_copied_ac : SCode := ⟨[.agg [.int .i64, .str, .sl .ro .byte, .sl .ro .byte, .int .i64]], []⟩
def lock_Lock_copied_con : Con := conCalm [] [] lock_Lock_copied_ac (.agg [.int .i64, .str, .sl .ro .byte, .sl .ro .byte, .int .i64]) fun x => lock_Lock_copied big x.1 x.2.1 x.2.2.1 x.2.2.2.1 x.2.2.2.2.1
theorem lock_Lock_copied_bnd {calm : List Nat} {f : Nat} : BndC calm f lock_Lock_copied_con := bndCalm
def lock_Lock_copied_cx : Cx := { tab := tab, con := [(44, bytes_Clone_nl_con)], funs := [], loops := [], want := want, ret := [], calm := [44], bnd := [44], eqs := eqs }
theorem lock_Lock_copied_cs : CsOk Go.Proofs.Try.prog X lock_Lock_copied_cx :=
  csOk ⟨fun _ _ h => tab_ok tabOk h, eqsOk⟩ mixed ⟨bytes_Clone_nl_ok, trivial⟩ trivial ⟨bytes_Clone_nl_bnd, trivial⟩ rfl

def lock_Lock_copied_keep : List (Nat × LH) := []
theorem lock_Lock_copied_raw : ConOk Go.Proofs.Try.prog X 33 (fun _ args sto K => evBody lock_Lock_copied_cx (hcN lock_Lock_copied_cx 1) lock_Lock_copied_keep [] [] Go.Proofs.Try.f33 (bodyC Go.Proofs.Try.f33) args sto K) :=
  raw_ok lock_Lock_copied_cs 1 Go.Proofs.Try.func33 (by kernel_rfl) rfl fun R => loops_all 0 (by kernel_rfl) (fun i hi => absurd hi (Nat.not_lt_zero i))

theorem lock_Lock_copied_T (R : Type) (K : D → Sto → Option R) (x : lock_Lock_copied_ac.den) : evBody lock_Lock_copied_cx (hcN lock_Lock_copied_cx 1) lock_Lock_copied_keep [] [] Go.Proofs.Try.f33 (bodyC Go.Proofs.Try.f33) (mkSt lock_Lock_copied_ac x).env (mkSt lock_Lock_copied_ac x).sto K = lock_Lock_copied_cps big R (fun a0 a1 a2 a3 a4 => K ((mkE [.agg [.int .i64, .str, .sl .ro .byte, .sl .ro .byte, .int .i64]] (T := Unit) (a0, (a1, (a2, (a3, (a4, ())))))).1.headD .any) (mkSt lock_Lock_copied_ac x).sto) x.1 x.2.1 x.2.2.1 x.2.2.2.1 x.2.2.2.2.1 := by kernel_rfl
theorem lock_Lock_copied_ok : ConOk Go.Proofs.Try.prog X 33 lock_Lock_copied_con :=
  conCalm_ok (src := []) (sh := []) (rs := .agg [.int .i64, .str, .sl .ro .byte, .sl .ro .byte, .int .i64]) lock_Lock_copied_raw (fun R K (x : lock_Lock_copied_ac.den) => lock_Lock_copied_cps big R (fun a0 a1 a2 a3 a4 => K (a0, (a1, (a2, (a3, (a4, ())))))) x.1 x.2.1 x.2.2.1 x.2.2.2.1 x.2.2.2.2.1) lock_Lock_copied_T

/-! 11 frankpledge/lock.Clash -/
def lock_Clash_ac : SCode := ⟨[.agg [.int .i64, .str, .sl .ro .byte, .sl .ro .byte, .int .i64], .agg [.int .i64, .str, .sl .ro .byte, .sl .ro .byte, .int .i64]], []⟩
def lock_Clash_con : Con := conCalm [] [] lock_Clash_ac (.leaf (.bool)) fun x => lock_Clash big x.1 x.2.1 x.2.2.1 x.2.2.2.1 x.2.2.2.2.1 x.2.2.2.2.2.1 x.2.2.2.2.2.2.1 x.2.2.2.2.2.2.2.1 x.2.2.2.2.2.2.2.2.1 x.2.2.2.2.2.2.2.2.2.1
theorem lock_Clash_bnd {calm : List Nat} {f : Nat} : BndC calm f lock_Clash_con := bndCalm
def lock_Clash_cx : Cx := { tab := tab, con := [(26, bytes_Compare_con), (27, lock_ahead_con)], funs := [], loops := [], want := want, ret := [], calm := [26, 27], bnd := [26, 27], eqs := eqs }
theorem lock_Clash_cs : CsOk Go.Proofs.Try.prog X lock_Clash_cx :=
  csOk ⟨fun _ _ h => tab_ok tabOk h, eqsOk⟩ mixed ⟨bytes_Compare_ok, lock_ahead_ok, trivial⟩ trivial ⟨bytes_Compare_bnd, lock_ahead_bnd, trivial⟩ rfl

def lock_Clash_keep : List (Nat × LH) := []
theorem lock_Clash_raw : ConOk Go.Proofs.Try.prog X 11 (fun _ args sto K => evBody lock_Clash_cx (hcN lock_Clash_cx 1) lock_Clash_keep [] [] Go.Proofs.Try.f11 (bodyC Go.Proofs.Try.f11) args sto K) :=
  raw_ok lock_Clash_cs 1 Go.Proofs.Try.func11 (by kernel_rfl) rfl fun R => loops_all 0 (by kernel_rfl) (fun i hi => absurd hi (Nat.not_lt_zero i))

theorem lock_Clash_T (R : Type) (K : D → Sto → Option R) (x : lock_Clash_ac.den) : evBody lock_Clash_cx (hcN lock_Clash_cx 1) lock_Clash_keep [] [] Go.Proofs.Try.f11 (bodyC Go.Proofs.Try.f11) (mkSt lock_Clash_ac x).env (mkSt lock_Clash_ac x).sto K = lock_Clash_cps big R (fun a0 => K ((mkE [.leaf (.bool)] (T := Unit) (a0, ())).1.headD .any) (mkSt lock_Clash_ac x).sto) x.1 x.2.1 x.2.2.1 x.2.2.2.1 x.2.2.2.2.1 x.2.2.2.2.2.1 x.2.2.2.2.2.2.1 x.2.2.2.2.2.2.2.1 x.2.2.2.2.2.2.2.2.1 x.2.2.2.2.2.2.2.2.2.1 := by kernel_rfl
theorem lock_Clash_ok : ConOk Go.Proofs.Try.prog X 11 lock_Clash_con :=
  conCalm_ok (src := []) (sh := []) (rs := .leaf (.bool)) lock_Clash_raw (fun R K (x : lock_Clash_ac.den) => lock_Clash_cps big R (fun a0 => K (a0, ())) x.1 x.2.1 x.2.2.1 x.2.2.2.1 x.2.2.2.2.1 x.2.2.2.2.2.1 x.2.2.2.2.2.2.1 x.2.2.2.2.2.2.2.1 x.2.2.2.2.2.2.2.2.1 x.2.2.2.2.2.2.2.2.2.1) lock_Clash_T

/-! 45 frankpledge/lock.clashes$1 -/
def lock_clashes_c1_ac : SCode := ⟨[.agg [.int .i64, .str, .sl .ro .byte, .sl .ro .byte, .int .i64], .leaf (.lit (.ptr 0 0))], [[.int .i64, .str, .sl .ro .byte, .sl .ro .byte, .int .i64]]⟩
def lock_clashes_c1_con : Con := conCalm [.arg 1] [] lock_clashes_c1_ac (.leaf (.bool)) fun x => lock_clashes_c1 big x.1 x.2.1 x.2.2.1 x.2.2.2.1 x.2.2.2.2.1 x.2.2.2.2.2.1 x.2.2.2.2.2.2.1 x.2.2.2.2.2.2.2.1 x.2.2.2.2.2.2.2.2.1 x.2.2.2.2.2.2.2.2.2.1
theorem lock_clashes_c1_bnd {calm : List Nat} {f : Nat} : BndC calm f lock_clashes_c1_con := bndCalm
def lock_clashes_c1_cx : Cx := { tab := tab, con := [(11, lock_Clash_con)], funs := [], loops := [], want := want, ret := [], calm := [11], bnd := [11], eqs := eqs }
theorem lock_clashes_c1_cs : CsOk Go.Proofs.Try.prog X lock_clashes_c1_cx :=
  csOk ⟨fun _ _ h => tab_ok tabOk h, eqsOk⟩ mixed ⟨lock_Clash_ok, trivial⟩ trivial ⟨lock_Clash_bnd, trivial⟩ rfl

def lock_clashes_c1_keep : List (Nat × LH) := []
theorem lock_clashes_c1_raw : ConOk Go.Proofs.Try.prog X 45 (fun _ args sto K => evBody lock_clashes_c1_cx (hcN lock_clashes_c1_cx 1) lock_clashes_c1_keep [] [] Go.Proofs.Try.f45 (bodyC Go.Proofs.Try.f45) args sto K) :=
  raw_ok lock_clashes_c1_cs 1 Go.Proofs.Try.func45 (by kernel_rfl) rfl fun R => loops_all 0 (by kernel_rfl) (fun i hi => absurd hi (Nat.not_lt_zero i))

theorem lock_clashes_c1_T (R : Type) (K : D → Sto → Option R) (x : lock_clashes_c1_ac.den) : evBody lock_clashes_c1_cx (hcN lock_clashes_c1_cx 1) lock_clashes_c1_keep [] [] Go.Proofs.Try.f45 (bodyC Go.Proofs.Try.f45) (mkSt lock_clashes_c1_ac x).env (mkSt lock_clashes_c1_ac x).sto K = lock_clashes_c1_cps big R (fun a0 => K ((mkE [.leaf (.bool)] (T := Unit) (a0, ())).1.headD .any) (mkSt lock_clashes_c1_ac x).sto) x.1 x.2.1 x.2.2.1 x.2.2.2.1 x.2.2.2.2.1 x.2.2.2.2.2.1 x.2.2.2.2.2.2.1 x.2.2.2.2.2.2.2.1 x.2.2.2.2.2.2.2.2.1 x.2.2.2.2.2.2.2.2.2.1 := by kernel_rfl
theorem lock_clashes_c1_ok : ConOk Go.Proofs.Try.prog X 45 lock_clashes_c1_con :=
  conCalm_ok (src := [.arg 1]) (sh := []) (rs := .leaf (.bool)) lock_clashes_c1_raw (fun R K (x : lock_clashes_c1_ac.den) => lock_clashes_c1_cps big R (fun a0 => K (a0, ())) x.1 x.2.1 x.2.2.1 x.2.2.2.1 x.2.2.2.2.1 x.2.2.2.2.2.1 x.2.2.2.2.2.2.1 x.2.2.2.2.2.2.2.1 x.2.2.2.2.2.2.2.2.1 x.2.2.2.2.2.2.2.2.2.1) lock_clashes_c1_T

/-! 43 slices.IndexFunc[[]frankpledge/lock.Lock,frankpledge/lock.Lock] -/
def slices_IndexFunc_lock_Lock_lock_Lock_2_l0c : SCode := ⟨[.leaf (.lit (.hw 0)), .fn 45 [.lit (.ptr 1 0)], .leaf (.lit (.any)), .leaf (.lit (.any)), .leaf (.lit (.any)), .leaf (.lit (.any)), .leaf (.lit (.any)), .leaf (.int .i64), .leaf (.int .i64), .leaf (.lit (.any)), .leaf (.lit (.any)), .leaf (.lit (.any)), .leaf (.lit (.any)), .leaf (.lit (.any)), .leaf (.lit (.any)), .leaf (.lit (.any)), .leaf (.lit (.any)), .leaf (.lit (.any)), .leaf (.lit (.any))], [[.arr (.pair (.int .i64) (.pair .str (.pair (.slice .byte) (.pair (.slice .byte) (.pair (.int .i64) .unit)))))], [.int .i64, .str, .sl .ro .byte, .sl .ro .byte, .int .i64]]⟩
def slices_IndexFunc_lock_Lock_lock_Lock_2_l0e0 : SCode := ⟨[.leaf (.lit (.any)), .leaf (.lit (.any)), .leaf (.lit (.any)), .leaf (.lit (.any)), .leaf (.lit (.any)), .leaf (.lit (.any)), .leaf (.lit (.any)), .leaf (.lit (.any)), .leaf (.lit (.any)), .leaf (.lit (.any)), .leaf (.lit (.any)), .leaf (.lit (.any)), .leaf (.lit (.any)), .leaf (.lit (.any)), .leaf (.lit (.any)), .leaf (.lit (.any)), .leaf (.lit (.any)), .leaf (.lit (.any)), .leaf (.lit (.any))], [[.arr (.pair (.int .i64) (.pair .str (.pair (.slice .byte) (.pair (.slice .byte) (.pair (.int .i64) .unit)))))], [.int .i64, .str, .sl .ro .byte, .sl .ro .byte, .int .i64]]⟩
def slices_IndexFunc_lock_Lock_lock_Lock_2_l0e1 : SCode := ⟨[.leaf (.lit (.any)), .leaf (.lit (.any)), .leaf (.lit (.any)), .leaf (.lit (.any)), .leaf (.int .i64), .leaf (.lit (.any)), .leaf (.lit (.any)), .leaf (.lit (.any)), .leaf (.lit (.any)), .leaf (.lit (.any)), .leaf (.lit (.any)), .leaf (.lit (.any)), .leaf (.lit (.any)), .leaf (.lit (.any)), .leaf (.lit (.any)), .leaf (.lit (.any)), .leaf (.lit (.any)), .leaf (.lit (.any)), .leaf (.lit (.any))], [[.arr (.pair (.int .i64) (.pair .str (.pair (.slice .byte) (.pair (.slice .byte) (.pair (.int .i64) .unit)))))], [.int .i64, .str, .sl .ro .byte, .sl .ro .byte, .int .i64]]⟩
def slices_IndexFunc_lock_Lock_lock_Lock_2_l0h : LH := { env := [(0, .id), (1, .id), (7, .id), (8, .id)], sto := [], out := [(4, .id)], con := some (lconOf slices_IndexFunc_lock_Lock_lock_Lock_2_l0c fun R k x => slices_IndexFunc_lock_Lock_lock_Lock_2_l0 big R x.2.2.1 x.2.2.2.1 x.2.2.2.2.1 x.2.2.2.2.2.1 x.2.2.2.2.2.2.1 x.2.2.2.2.2.2.2.1 (k (.exit 0) (mkSt slices_IndexFunc_lock_Lock_lock_Lock_2_l0e0 (x.2.2.1, (x.2.2.2.1, (x.2.2.2.2.1, (x.2.2.2.2.2.1, (x.2.2.2.2.2.2.1, (x.2.2.2.2.2.2.2.1, ())))))))) (fun a0 => k .ret (mkSt slices_IndexFunc_lock_Lock_lock_Lock_2_l0e1 (a0, (x.2.2.1, (x.2.2.2.1, (x.2.2.2.2.1, (x.2.2.2.2.2.1, (x.2.2.2.2.2.2.1, (x.2.2.2.2.2.2.2.1, ()))))))))) big x.1 x.2.1), gc := some 2 }

def slices_IndexFunc_lock_Lock_lock_Lock_2_ac : SCode := ⟨[.leaf (.lit (.hw 0)), .fn 45 [.lit (.ptr 1 0)]], [[.arr (.pair (.int .i64) (.pair .str (.pair (.slice .byte) (.pair (.slice .byte) (.pair (.int .i64) .unit)))))], [.int .i64, .str, .sl .ro .byte, .sl .ro .byte, .int .i64]]⟩
def slices_IndexFunc_lock_Lock_lock_Lock_2_con : Con := conCalm [.arg 0, .cap 1 0] [] slices_IndexFunc_lock_Lock_lock_Lock_2_ac (.leaf (.int .i64)) fun x => slices_IndexFunc_lock_Lock_lock_Lock_2 big x.1 x.2.1 x.2.2.1 x.2.2.2.1 x.2.2.2.2.1 x.2.2.2.2.2.1
theorem slices_IndexFunc_lock_Lock_lock_Lock_2_bnd {calm : List Nat} {f : Nat} : BndC calm f slices_IndexFunc_lock_Lock_lock_Lock_2_con := bndCalm
def slices_IndexFunc_lock_Lock_lock_Lock_2_cx : Cx := { tab := tab, con := [(45, lock_clashes_c1_con)], funs := [], loops := [], want := want, ret := [], calm := [45], bnd := [45], eqs := eqs, xl := true, xs := [49], xd := [] }
theorem slices_IndexFunc_lock_Lock_lock_Lock_2_cs : CsOk Go.Proofs.Try.prog X slices_IndexFunc_lock_Lock_lock_Lock_2_cx :=
  csOk ⟨fun _ _ h => tab_ok tabOk h, eqsOk⟩ mixed ⟨lock_clashes_c1_ok, trivial⟩ trivial ⟨lock_clashes_c1_bnd, trivial⟩ rfl

def slices_IndexFunc_lock_Lock_lock_Lock_2_keep : List (Nat × LH) := [(2, slices_IndexFunc_lock_Lock_lock_Lock_2_l0h)]
theorem slices_IndexFunc_lock_Lock_lock_Lock_2_L0s (R : Type) (recS : St → Option R) (k : Exit → St → Option R) (x : slices_IndexFunc_lock_Lock_lock_Lock_2_l0c.den) : evCode slices_IndexFunc_lock_Lock_lock_Lock_2_cx (hcN slices_IndexFunc_lock_Lock_lock_Lock_2_cx 1) slices_IndexFunc_lock_Lock_lock_Lock_2_keep (loopC Go.Proofs.Try.f43 0) (mkSt slices_IndexFunc_lock_Lock_lock_Lock_2_l0c x) (fun e st' => match e with | .normal => recS (norm slices_IndexFunc_lock_Lock_lock_Lock_2_l0h 2 st') | e => k e (normO slices_IndexFunc_lock_Lock_lock_Lock_2_l0h 2 st')) = (fun rec k x => slices_IndexFunc_lock_Lock_lock_Lock_2_l0B big R x.2.2.1 x.2.2.2.1 x.2.2.2.2.1 x.2.2.2.2.2.1 x.2.2.2.2.2.2.1 x.2.2.2.2.2.2.2.1 (fun a0 a1 => rec (a0, (a1, (x.2.2.1, (x.2.2.2.1, (x.2.2.2.2.1, (x.2.2.2.2.2.1, (x.2.2.2.2.2.2.1, (x.2.2.2.2.2.2.2.1, ()))))))))) (k (.exit 0) (mkSt slices_IndexFunc_lock_Lock_lock_Lock_2_l0e0 (x.2.2.1, (x.2.2.2.1, (x.2.2.2.2.1, (x.2.2.2.2.2.1, (x.2.2.2.2.2.2.1, (x.2.2.2.2.2.2.2.1, ())))))))) (fun a0 => k .ret (mkSt slices_IndexFunc_lock_Lock_lock_Lock_2_l0e1 (a0, (x.2.2.1, (x.2.2.2.1, (x.2.2.2.2.1, (x.2.2.2.2.2.1, (x.2.2.2.2.2.2.1, (x.2.2.2.2.2.2.2.1, ()))))))))) x.1 x.2.1) (fun y => recS (mkSt slices_IndexFunc_lock_Lock_lock_Lock_2_l0c y)) k x := by kernel_rfl
theorem slices_IndexFunc_lock_Lock_lock_Lock_2_L0 (R : Type) : LOkR (R := R) slices_IndexFunc_lock_Lock_lock_Lock_2_cx (hcN slices_IndexFunc_lock_Lock_lock_Lock_2_cx 1) slices_IndexFunc_lock_Lock_lock_Lock_2_keep (loopC Go.Proofs.Try.f43 0) :=
  lok_iter (lh := slices_IndexFunc_lock_Lock_lock_Lock_2_l0h) slices_IndexFunc_lock_Lock_lock_Lock_2_l0c (fun R n k x => slices_IndexFunc_lock_Lock_lock_Lock_2_l0 big R x.2.2.1 x.2.2.2.1 x.2.2.2.2.1 x.2.2.2.2.2.1 x.2.2.2.2.2.2.1 x.2.2.2.2.2.2.2.1 (k (.exit 0) (mkSt slices_IndexFunc_lock_Lock_lock_Lock_2_l0e0 (x.2.2.1, (x.2.2.2.1, (x.2.2.2.2.1, (x.2.2.2.2.2.1, (x.2.2.2.2.2.2.1, (x.2.2.2.2.2.2.2.1, ())))))))) (fun a0 => k .ret (mkSt slices_IndexFunc_lock_Lock_lock_Lock_2_l0e1 (a0, (x.2.2.1, (x.2.2.2.1, (x.2.2.2.2.1, (x.2.2.2.2.2.1, (x.2.2.2.2.2.2.1, (x.2.2.2.2.2.2.2.1, ()))))))))) n x.1 x.2.1) (fun _ => big) (fun rec k x => slices_IndexFunc_lock_Lock_lock_Lock_2_l0B big R x.2.2.1 x.2.2.2.1 x.2.2.2.2.1 x.2.2.2.2.2.1 x.2.2.2.2.2.2.1 x.2.2.2.2.2.2.2.1 (fun a0 a1 => rec (a0, (a1, (x.2.2.1, (x.2.2.2.1, (x.2.2.2.2.1, (x.2.2.2.2.2.1, (x.2.2.2.2.2.2.1, (x.2.2.2.2.2.2.2.1, ()))))))))) (k (.exit 0) (mkSt slices_IndexFunc_lock_Lock_lock_Lock_2_l0e0 (x.2.2.1, (x.2.2.2.1, (x.2.2.2.2.1, (x.2.2.2.2.2.1, (x.2.2.2.2.2.2.1, (x.2.2.2.2.2.2.2.1, ())))))))) (fun a0 => k .ret (mkSt slices_IndexFunc_lock_Lock_lock_Lock_2_l0e1 (a0, (x.2.2.1, (x.2.2.2.1, (x.2.2.2.2.1, (x.2.2.2.2.2.1, (x.2.2.2.2.2.2.1, (x.2.2.2.2.2.2.2.1, ()))))))))) x.1 x.2.1) rfl rfl (slices_IndexFunc_lock_Lock_lock_Lock_2_L0s R) (fun _ _ => rfl) (fun _ _ _ => rfl)

theorem slices_IndexFunc_lock_Lock_lock_Lock_2_raw : ConOk Go.Proofs.Try.prog X 43 (fun _ args sto K => evBody slices_IndexFunc_lock_Lock_lock_Lock_2_cx (hcN slices_IndexFunc_lock_Lock_lock_Lock_2_cx 1) slices_IndexFunc_lock_Lock_lock_Lock_2_keep [] [] Go.Proofs.Try.f43 (bodyC Go.Proofs.Try.f43) args sto K) :=
  raw_ok slices_IndexFunc_lock_Lock_lock_Lock_2_cs 1 Go.Proofs.Try.func43 (by kernel_rfl) rfl fun R => loops_all 1 (by kernel_rfl) (fun i hi => match i, hi with | 0, _ => slices_IndexFunc_lock_Lock_lock_Lock_2_L0 R | n + 1, h => absurd h (by omega))

theorem slices_IndexFunc_lock_Lock_lock_Lock_2_T (R : Type) (K : D → Sto → Option R) (x : slices_IndexFunc_lock_Lock_lock_Lock_2_ac.den) : evBody slices_IndexFunc_lock_Lock_lock_Lock_2_cx (hcN slices_IndexFunc_lock_Lock_lock_Lock_2_cx 1) slices_IndexFunc_lock_Lock_lock_Lock_2_keep [] [] Go.Proofs.Try.f43 (bodyC Go.Proofs.Try.f43) (mkSt slices_IndexFunc_lock_Lock_lock_Lock_2_ac x).env (mkSt slices_IndexFunc_lock_Lock_lock_Lock_2_ac x).sto K = slices_IndexFunc_lock_Lock_lock_Lock_2_cps big R (fun a0 => K ((mkE [.leaf (.int .i64)] (T := Unit) (a0, ())).1.headD .any) (mkSt slices_IndexFunc_lock_Lock_lock_Lock_2_ac x).sto) x.1 x.2.1 x.2.2.1 x.2.2.2.1 x.2.2.2.2.1 x.2.2.2.2.2.1 := by kernel_rfl
theorem slices_IndexFunc_lock_Lock_lock_Lock_2_ok : ConOk Go.Proofs.Try.prog X 43 slices_IndexFunc_lock_Lock_lock_Lock_2_con :=
  conCalm_ok (src := [.arg 0, .cap 1 0]) (sh := []) (rs := .leaf (.int .i64)) slices_IndexFunc_lock_Lock_lock_Lock_2_raw (fun R K (x : slices_IndexFunc_lock_Lock_lock_Lock_2_ac.den) => slices_IndexFunc_lock_Lock_lock_Lock_2_cps big R (fun a0 => K (a0, ())) x.1 x.2.1 x.2.2.1 x.2.2.2.1 x.2.2.2.2.1 x.2.2.2.2.2.1) slices_IndexFunc_lock_Lock_lock_Lock_2_T

/-! 29 slices.ContainsFunc[[]frankpledge/lock.Lock,frankpledge/lock.Lock] -/
def slices_ContainsFunc_lock_Lock_lock_Lock_2_ac : SCode := ⟨[.leaf (.lit (.hw 0)), .fn 45 [.lit (.ptr 1 0)]], [[.arr (.pair (.int .i64) (.pair .str (.pair (.slice .byte) (.pair (.slice .byte) (.pair (.int .i64) .unit)))))], [.int .i64, .str, .sl .ro .byte, .sl .ro .byte, .int .i64]]⟩
def slices_ContainsFunc_lock_Lock_lock_Lock_2_con : Con := conCalm [.arg 0, .cap 1 0] [] slices_ContainsFunc_lock_Lock_lock_Lock_2_ac (.leaf (.bool)) fun x => slices_ContainsFunc_lock_Lock_lock_Lock_2 big x.1 x.2.1 x.2.2.1 x.2.2.2.1 x.2.2.2.2.1 x.2.2.2.2.2.1
theorem slices_ContainsFunc_lock_Lock_lock_Lock_2_bnd {calm : List Nat} {f : Nat} : BndC calm f slices_ContainsFunc_lock_Lock_lock_Lock_2_con := bndCalm
def slices_ContainsFunc_lock_Lock_lock_Lock_2_cx : Cx := { tab := tab, con := [(43, slices_IndexFunc_lock_Lock_lock_Lock_2_con)], funs := [], loops := [], want := want, ret := [], calm := [43], bnd := [43], eqs := eqs }
theorem slices_ContainsFunc_lock_Lock_lock_Lock_2_cs : CsOk Go.Proofs.Try.prog X slices_ContainsFunc_lock_Lock_lock_Lock_2_cx :=
  csOk ⟨fun _ _ h => tab_ok tabOk h, eqsOk⟩ mixed ⟨slices_IndexFunc_lock_Lock_lock_Lock_2_ok, trivial⟩ trivial ⟨slices_IndexFunc_lock_Lock_lock_Lock_2_bnd, trivial⟩ rfl

def slices_ContainsFunc_lock_Lock_lock_Lock_2_keep : List (Nat × LH) := []
theorem slices_ContainsFunc_lock_Lock_lock_Lock_2_raw : ConOk Go.Proofs.Try.prog X 29 (fun _ args sto K => evBody slices_ContainsFunc_lock_Lock_lock_Lock_2_cx (hcN slices_ContainsFunc_lock_Lock_lock_Lock_2_cx 1) slices_ContainsFunc_lock_Lock_lock_Lock_2_keep [] [] Go.Proofs.Try.f29 (bodyC Go.Proofs.Try.f29) args sto K) :=
  raw_ok slices_ContainsFunc_lock_Lock_lock_Lock_2_cs 1 Go.Proofs.Try.func29 (by kernel_rfl) rfl fun R => loops_all 0 (by kernel_rfl) (fun i hi => absurd hi (Nat.not_lt_zero i))

theorem slices_ContainsFunc_lock_Lock_lock_Lock_2_T (R : Type) (K : D → Sto → Option R) (x : slices_ContainsFunc_lock_Lock_lock_Lock_2_ac.den) : evBody slices_ContainsFunc_lock_Lock_lock_Lock_2_cx (hcN slices_ContainsFunc_lock_Lock_lock_Lock_2_cx 1) slices_ContainsFunc_lock_Lock_lock_Lock_2_keep [] [] Go.Proofs.Try.f29 (bodyC Go.Proofs.Try.f29) (mkSt slices_ContainsFunc_lock_Lock_lock_Lock_2_ac x).env (mkSt slices_ContainsFunc_lock_Lock_lock_Lock_2_ac x).sto K = slices_ContainsFunc_lock_Lock_lock_Lock_2_cps big R (fun a0 => K ((mkE [.leaf (.bool)] (T := Unit) (a0, ())).1.headD .any) (mkSt slices_ContainsFunc_lock_Lock_lock_Lock_2_ac x).sto) x.1 x.2.1 x.2.2.1 x.2.2.2.1 x.2.2.2.2.1 x.2.2.2.2.2.1 := by kernel_rfl
theorem slices_ContainsFunc_lock_Lock_lock_Lock_2_ok : ConOk Go.Proofs.Try.prog X 29 slices_ContainsFunc_lock_Lock_lock_Lock_2_con :=
  conCalm_ok (src := [.arg 0, .cap 1 0]) (sh := []) (rs := .leaf (.bool)) slices_ContainsFunc_lock_Lock_lock_Lock_2_raw (fun R K (x : slices_ContainsFunc_lock_Lock_lock_Lock_2_ac.den) => slices_ContainsFunc_lock_Lock_lock_Lock_2_cps big R (fun a0 => K (a0, ())) x.1 x.2.1 x.2.2.1 x.2.2.2.1 x.2.2.2.2.1 x.2.2.2.2.2.1) slices_ContainsFunc_lock_Lock_lock_Lock_2_T

/-! 34 frankpledge/lock.clashes -/
def lock_clashes_ac : SCode := ⟨[.leaf (.lit (.hw 0)), .agg [.int .i64, .str, .sl .ro .byte, .sl .ro .byte, .int .i64]], [[.arr (.pair (.int .i64) (.pair .str (.pair (.slice .byte) (.pair (.slice .byte) (.pair (.int .i64) .unit)))))]]⟩
def lock_clashes_con : Con := conCalm [.arg 0] [] lock_clashes_ac (.leaf (.bool)) fun x => lock_clashes big x.1 x.2.1 x.2.2.1 x.2.2.2.1 x.2.2.2.2.1 x.2.2.2.2.2.1
theorem lock_clashes_bnd {calm : List Nat} {f : Nat} : BndC calm f lock_clashes_con := bndCalm
def lock_clashes_cx : Cx := { tab := tab, con := [(29, slices_ContainsFunc_lock_Lock_lock_Lock_2_con)], funs := [], loops := [], want := want, ret := [], calm := [29], bnd := [29], eqs := eqs }
theorem lock_clashes_cs : CsOk Go.Proofs.Try.prog X lock_clashes_cx :=
  csOk ⟨fun _ _ h => tab_ok tabOk h, eqsOk⟩ mixed ⟨slices_ContainsFunc_lock_Lock_lock_Lock_2_ok, trivial⟩ trivial ⟨slices_ContainsFunc_lock_Lock_lock_Lock_2_bnd, trivial⟩ rfl

def lock_clashes_keep : List (Nat × LH) := []
theorem lock_clashes_raw : ConOk Go.Proofs.Try.prog X 34 (fun _ args sto K => evBody lock_clashes_cx (hcN lock_clashes_cx 1) lock_clashes_keep [] [] Go.Proofs.Try.f34 (bodyC Go.Proofs.Try.f34) args sto K) :=
  raw_ok lock_clashes_cs 1 Go.Proofs.Try.func34 (by kernel_rfl) rfl fun R => loops_all 0 (by kernel_rfl) (fun i hi => absurd hi (Nat.not_lt_zero i))

theorem lock_clashes_T (R : Type) (K : D → Sto → Option R) (x : lock_clashes_ac.den) : evBody lock_clashes_cx (hcN lock_clashes_cx 1) lock_clashes_keep [] [] Go.Proofs.Try.f34 (bodyC Go.Proofs.Try.f34) (mkSt lock_clashes_ac x).env (mkSt lock_clashes_ac x).sto K = lock_clashes_cps big R (fun a0 => K ((mkE [.leaf (.bool)] (T := Unit) (a0, ())).1.headD .any) (mkSt lock_clashes_ac x).sto) x.1 x.2.1 x.2.2.1 x.2.2.2.1 x.2.2.2.2.1 x.2.2.2.2.2.1 := by kernel_rfl
theorem lock_clashes_ok : ConOk Go.Proofs.Try.prog X 34 lock_clashes_con :=
  conCalm_ok (src := [.arg 0]) (sh := []) (rs := .leaf (.bool)) lock_clashes_raw (fun R K (x : lock_clashes_ac.den) => lock_clashes_cps big R (fun a0 => K (a0, ())) x.1 x.2.1 x.2.2.1 x.2.2.2.1 x.2.2.2.2.1 x.2.2.2.2.2.1) lock_clashes_T

/-! 13 (*frankpledge/lock.Locks).Ask -/
def lock_Locks_Ask_ac : SCode := ⟨[.leaf (.lit (.ptr 0 0)), .agg [.int .i64, .str, .sl .ro .byte, .sl .ro .byte, .int .i64]], [[.lit (.hw 1), .lit (.hw 2)], [.arr (.pair (.int .i64) (.pair .str (.pair (.slice .byte) (.pair (.slice .byte) (.pair (.int .i64) .unit)))))], [.arr (.pair (.int .i64) (.pair .str (.pair (.slice .byte) (.pair (.slice .byte) (.pair (.int .i64) .unit)))))]]⟩
def lock_Locks_Ask_con : Con := conFn [.arg 0, .cell 0 0, .cell 0 1] [] lock_Locks_Ask_ac (.tup [.l (.bool), .l (.int .i64)]) [[.lit (.hw 3), .lit (.hw 4)], [], [], [.arr (.pair (.int .i64) (.pair .str (.pair (.slice .byte) (.pair (.slice .byte) (.pair (.int .i64) .unit)))))], [.arr (.pair (.int .i64) (.pair .str (.pair (.slice .byte) (.pair (.slice .byte) (.pair (.int .i64) .unit)))))]] fun x => lock_Locks_Ask big x.1 x.2.1 x.2.2.1 x.2.2.2.1 x.2.2.2.2.1 x.2.2.2.2.2.1 x.2.2.2.2.2.2.1
theorem lock_Locks_Ask_bnd {calm : List Nat} {f : Nat} (hf : calm.any (Nat.beq f) = false) : BndC calm f lock_Locks_Ask_con := bndFn hf
def lock_Locks_Ask_cx : Cx := { tab := tab, con := [(28, lock_Lock_right_con), (29, (conOr (fun a s => (prep [.arg 0, .cap 1 0] [] slices_ContainsFunc_lock_Lock_lock_Lock_ac a s).isSome) slices_ContainsFunc_lock_Lock_lock_Lock_con slices_ContainsFunc_lock_Lock_lock_Lock_1_con)), (33, lock_Lock_copied_con), (34, lock_clashes_con)], funs := [], loops := [], want := want, ret := [], calm := [28, 29, 33, 34], bnd := [28, 29, 33, 34], eqs := eqs, xl := true, xs := [49], xd := [] }
theorem lock_Locks_Ask_cs : CsOk Go.Proofs.Try.prog X lock_Locks_Ask_cx :=
  csOk ⟨fun _ _ h => tab_ok tabOk h, eqsOk⟩ mixed ⟨lock_Lock_right_ok, (conOr_ok slices_ContainsFunc_lock_Lock_lock_Lock_ok slices_ContainsFunc_lock_Lock_lock_Lock_1_ok), lock_Lock_copied_ok, lock_clashes_ok, trivial⟩ trivial ⟨lock_Lock_right_bnd, (bndOr (slices_ContainsFunc_lock_Lock_lock_Lock_bnd) (slices_ContainsFunc_lock_Lock_lock_Lock_1_bnd)), lock_Lock_copied_bnd, lock_clashes_bnd, trivial⟩ rfl

def lock_Locks_Ask_keep : List (Nat × LH) := [(3000000, { env := [], sto := [], out := [], con := none })]
theorem lock_Locks_Ask_raw : ConOk Go.Proofs.Try.prog X 13 (fun _ args sto K => evBody lock_Locks_Ask_cx (hcN lock_Locks_Ask_cx 1) lock_Locks_Ask_keep [] [] Go.Proofs.Try.f13 (bodyC Go.Proofs.Try.f13) args sto K) :=
  raw_ok2 lock_Locks_Ask_cs 1 Go.Proofs.Try.func13 (by kernel_rfl) (fun R => loops_all 0 (by kernel_rfl) (fun i hi => absurd hi (Nat.not_lt_zero i))) (fun R => joins_all [] (by kernel_rfl) (AllJ.get trivial))

theorem lock_Locks_Ask_T (R : Type) (K : D → Sto → Option R) (x : lock_Locks_Ask_ac.den) : evBody lock_Locks_Ask_cx (hcN lock_Locks_Ask_cx 1) lock_Locks_Ask_keep [] [] Go.Proofs.Try.f13 (bodyC Go.Proofs.Try.f13) (mkSt lock_Locks_Ask_ac x).env (mkSt lock_Locks_Ask_ac x).sto K = lock_Locks_Ask_cps big R (fun a0 a1 a2 a3 => K ((mkSt ⟨[.tup [.l (.bool), .l (.int .i64)]], [[.lit (.hw 3), .lit (.hw 4)], [], [], [.arr (.pair (.int .i64) (.pair .str (.pair (.slice .byte) (.pair (.slice .byte) (.pair (.int .i64) .unit)))))], [.arr (.pair (.int .i64) (.pair .str (.pair (.slice .byte) (.pair (.slice .byte) (.pair (.int .i64) .unit)))))]]⟩ (a0, (a1, (a2, (a3, ()))))).env.headD .any) (mkSt ⟨[.tup [.l (.bool), .l (.int .i64)]], [[.lit (.hw 3), .lit (.hw 4)], [], [], [.arr (.pair (.int .i64) (.pair .str (.pair (.slice .byte) (.pair (.slice .byte) (.pair (.int .i64) .unit)))))], [.arr (.pair (.int .i64) (.pair .str (.pair (.slice .byte) (.pair (.slice .byte) (.pair (.int .i64) .unit)))))]]⟩ (a0, (a1, (a2, (a3, ()))))).sto) x.1 x.2.1 x.2.2.1 x.2.2.2.1 x.2.2.2.2.1 x.2.2.2.2.2.1 x.2.2.2.2.2.2.1 := by kernel_rfl
theorem lock_Locks_Ask_ok : ConOk Go.Proofs.Try.prog X 13 lock_Locks_Ask_con :=
  conFn_ok (src := [.arg 0, .cell 0 0, .cell 0 1]) (sh := []) (rs := .tup [.l (.bool), .l (.int .i64)]) (rows := [[.lit (.hw 3), .lit (.hw 4)], [], [], [.arr (.pair (.int .i64) (.pair .str (.pair (.slice .byte) (.pair (.slice .byte) (.pair (.int .i64) .unit)))))], [.arr (.pair (.int .i64) (.pair .str (.pair (.slice .byte) (.pair (.slice .byte) (.pair (.int .i64) .unit)))))]]) lock_Locks_Ask_raw (fun R K (x : lock_Locks_Ask_ac.den) => lock_Locks_Ask_cps big R (fun a0 a1 a2 a3 => K (a0, (a1, (a2, (a3, ()))))) x.1 x.2.1 x.2.2.1 x.2.2.2.1 x.2.2.2.2.1 x.2.2.2.2.2.1 x.2.2.2.2.2.2.1) lock_Locks_Ask_T

/-! 13 (*frankpledge/lock.Locks).Ask -/
def lock_Locks_Ask_1_ac : SCode := ⟨[.leaf (.lit (.ptr 0 0)), .agg [.int .i64, .str, .sl .ro .byte, .sl .ro .byte, .int .i64]], [[.lit (.hw 1), .lit (.hw 2)], [.arr (.pair (.int .i64) (.pair .str (.pair (.slice .byte) (.pair (.slice .byte) (.pair (.int .i64) .unit)))))], [.arr (.pair (.int .i64) (.pair .str (.pair (.slice .byte) (.pair (.slice .byte) (.pair (.int .i64) .unit)))))]]⟩
def lock_Locks_Ask_1_con : Con := conFn [.arg 0, .cell 0 0, .cell 0 1] [.id, .inn [none, none, none, some .byte, none]] lock_Locks_Ask_1_ac (.tup [.l (.bool), .l (.int .i64)]) [[.lit (.hw 3), .lit (.hw 4)], [], [], [.arr (.pair (.int .i64) (.pair .str (.pair (.slice .byte) (.pair (.slice .byte) (.pair (.int .i64) .unit)))))], [.arr (.pair (.int .i64) (.pair .str (.pair (.slice .byte) (.pair (.slice .byte) (.pair (.int .i64) .unit)))))]] fun x => lock_Locks_Ask_1 big x.1 x.2.1 x.2.2.1 x.2.2.2.1 x.2.2.2.2.1 x.2.2.2.2.2.1 x.2.2.2.2.2.2.1
theorem lock_Locks_Ask_1_bnd {calm : List Nat} {f : Nat} (hf : calm.any (Nat.beq f) = false) : BndC calm f lock_Locks_Ask_1_con := bndFn hf
def lock_Locks_Ask_1_cx : Cx := { tab := tab, con := [(28, lock_Lock_right_con), (29, (conOr (fun a s => (prep [.arg 0, .cap 1 0] [] slices_ContainsFunc_lock_Lock_lock_Lock_ac a s).isSome) slices_ContainsFunc_lock_Lock_lock_Lock_con slices_ContainsFunc_lock_Lock_lock_Lock_1_con)), (33, lock_Lock_copied_con), (34, lock_clashes_con)], funs := [], loops := [], want := want, ret := [], calm := [28, 29, 33, 34], bnd := [28, 29, 33, 34], eqs := eqs, xl := true, xs := [49], xd := [] }
theorem lock_Locks_Ask_1_cs : CsOk Go.Proofs.Try.prog X lock_Locks_Ask_1_cx :=
  csOk ⟨fun _ _ h => tab_ok tabOk h, eqsOk⟩ mixed ⟨lock_Lock_right_ok, (conOr_ok slices_ContainsFunc_lock_Lock_lock_Lock_ok slices_ContainsFunc_lock_Lock_lock_Lock_1_ok), lock_Lock_copied_ok, lock_clashes_ok, trivial⟩ trivial ⟨lock_Lock_right_bnd, (bndOr (slices_ContainsFunc_lock_Lock_lock_Lock_bnd) (slices_ContainsFunc_lock_Lock_lock_Lock_1_bnd)), lock_Lock_copied_bnd, lock_clashes_bnd, trivial⟩ rfl

def lock_Locks_Ask_1_keep : List (Nat × LH) := [(3000000, { env := [], sto := [], out := [], con := none })]
theorem lock_Locks_Ask_1_raw : ConOk Go.Proofs.Try.prog X 13 (fun _ args sto K => evBody lock_Locks_Ask_1_cx (hcN lock_Locks_Ask_1_cx 1) lock_Locks_Ask_1_keep [] [] Go.Proofs.Try.f13 (bodyC Go.Proofs.Try.f13) args sto K) :=
  raw_ok2 lock_Locks_Ask_1_cs 1 Go.Proofs.Try.func13 (by kernel_rfl) (fun R => loops_all 0 (by kernel_rfl) (fun i hi => absurd hi (Nat.not_lt_zero i))) (fun R => joins_all [] (by kernel_rfl) (AllJ.get trivial))

theorem lock_Locks_Ask_1_T (R : Type) (K : D → Sto → Option R) (x : lock_Locks_Ask_1_ac.den) : evBody lock_Locks_Ask_1_cx (hcN lock_Locks_Ask_1_cx 1) lock_Locks_Ask_1_keep [] [] Go.Proofs.Try.f13 (bodyC Go.Proofs.Try.f13) (mkSt lock_Locks_Ask_1_ac x).env (mkSt lock_Locks_Ask_1_ac x).sto K = lock_Locks_Ask_1_cps big R (fun a0 a1 a2 a3 => K ((mkSt ⟨[.tup [.l (.bool), .l (.int .i64)]], [[.lit (.hw 3), .lit (.hw 4)], [], [], [.arr (.pair (.int .i64) (.pair .str (.pair (.slice .byte) (.pair (.slice .byte) (.pair (.int .i64) .unit)))))], [.arr (.pair (.int .i64) (.pair .str (.pair (.slice .byte) (.pair (.slice .byte) (.pair (.int .i64) .unit)))))]]⟩ (a0, (a1, (a2, (a3, ()))))).env.headD .any) (mkSt ⟨[.tup [.l (.bool), .l (.int .i64)]], [[.lit (.hw 3), .lit (.hw 4)], [], [], [.arr (.pair (.int .i64) (.pair .str (.pair (.slice .byte) (.pair (.slice .byte) (.pair (.int .i64) .unit)))))], [.arr (.pair (.int .i64) (.pair .str (.pair (.slice .byte) (.pair (.slice .byte) (.pair (.int .i64) .unit)))))]]⟩ (a0, (a1, (a2, (a3, ()))))).sto) x.1 x.2.1 x.2.2.1 x.2.2.2.1 x.2.2.2.2.1 x.2.2.2.2.2.1 x.2.2.2.2.2.2.1 := by kernel_rfl
theorem lock_Locks_Ask_1_ok : ConOk Go.Proofs.Try.prog X 13 lock_Locks_Ask_1_con :=
  conFn_ok (src := [.arg 0, .cell 0 0, .cell 0 1]) (sh := [.id, .inn [none, none, none, some .byte, none]]) (rs := .tup [.l (.bool), .l (.int .i64)]) (rows := [[.lit (.hw 3), .lit (.hw 4)], [], [], [.arr (.pair (.int .i64) (.pair .str (.pair (.slice .byte) (.pair (.slice .byte) (.pair (.int .i64) .unit)))))], [.arr (.pair (.int .i64) (.pair .str (.pair (.slice .byte) (.pair (.slice .byte) (.pair (.int .i64) .unit)))))]]) lock_Locks_Ask_1_raw (fun R K (x : lock_Locks_Ask_1_ac.den) => lock_Locks_Ask_1_cps big R (fun a0 a1 a2 a3 => K (a0, (a1, (a2, (a3, ()))))) x.1 x.2.1 x.2.2.1 x.2.2.2.1 x.2.2.2.2.1 x.2.2.2.2.2.1 x.2.2.2.2.2.2.1) lock_Locks_Ask_1_T

/-! 48 frankpledge/lock.without$1 -/
def lock_without_c1_ac : SCode := ⟨[.agg [.int .i64, .str, .sl .ro .byte, .sl .ro .byte, .int .i64], .leaf (.lit (.ptr 0 0))], [[.int .i64]]⟩
def lock_without_c1_con : Con := conCalm [.arg 1] [] lock_without_c1_ac (.leaf (.bool)) fun x => lock_without_c1 big x.1 x.2.1 x.2.2.1 x.2.2.2.1 x.2.2.2.2.1 x.2.2.2.2.2.1
theorem lock_without_c1_bnd {calm : List Nat} {f : Nat} : BndC calm f lock_without_c1_con := bndCalm
def lock_without_c1_cx : Cx := { tab := tab, con := [], funs := [], loops := [], want := want, ret := [], calm := [], bnd := [], eqs := eqs }
theorem lock_without_c1_cs : CsOk Go.Proofs.Try.prog X lock_without_c1_cx :=
  csOk ⟨fun _ _ h => tab_ok tabOk h, eqsOk⟩ mixed trivial trivial trivial rfl

def lock_without_c1_keep : List (Nat × LH) := []
theorem lock_without_c1_raw : ConOk Go.Proofs.Try.prog X 48 (fun _ args sto K => evBody lock_without_c1_cx (hcN lock_without_c1_cx 1) lock_without_c1_keep [] [] Go.Proofs.Try.f48 (bodyC Go.Proofs.Try.f48) args sto K) :=
  raw_ok lock_without_c1_cs 1 Go.Proofs.Try.func48 (by kernel_rfl) rfl fun R => loops_all 0 (by kernel_rfl) (fun i hi => absurd hi (Nat.not_lt_zero i))

theorem lock_without_c1_T (R : Type) (K : D → Sto → Option R) (x : lock_without_c1_ac.den) : evBody lock_without_c1_cx (hcN lock_without_c1_cx 1) lock_without_c1_keep [] [] Go.Proofs.Try.f48 (bodyC Go.Proofs.Try.f48) (mkSt lock_without_c1_ac x).env (mkSt lock_without_c1_ac x).sto K = lock_without_c1_cps big R (fun a0 => K ((mkE [.leaf (.bool)] (T := Unit) (a0, ())).1.headD .any) (mkSt lock_without_c1_ac x).sto) x.1 x.2.1 x.2.2.1 x.2.2.2.1 x.2.2.2.2.1 x.2.2.2.2.2.1 := by kernel_rfl
theorem lock_without_c1_ok : ConOk Go.Proofs.Try.prog X 48 lock_without_c1_con :=
  conCalm_ok (src := [.arg 1]) (sh := []) (rs := .leaf (.bool)) lock_without_c1_raw (fun R K (x : lock_without_c1_ac.den) => lock_without_c1_cps big R (fun a0 => K (a0, ())) x.1 x.2.1 x.2.2.1 x.2.2.2.1 x.2.2.2.2.1 x.2.2.2.2.2.1) lock_without_c1_T

/-! 43 slices.IndexFunc[[]frankpledge/lock.Lock,frankpledge/lock.Lock] -/
def slices_IndexFunc_lock_Lock_lock_Lock_3_l0c : SCode := ⟨[.leaf (.lit (.hw 0)), .fn 48 [.lit (.ptr 1 0)], .leaf (.lit (.any)), .leaf (.lit (.any)), .leaf (.lit (.any)), .leaf (.lit (.any)), .leaf (.lit (.any)), .leaf (.int .i64), .leaf (.int .i64), .leaf (.lit (.any)), .leaf (.lit (.any)), .leaf (.lit (.any)), .leaf (.lit (.any)), .leaf (.lit (.any)), .leaf (.lit (.any)), .leaf (.lit (.any)), .leaf (.lit (.any)), .leaf (.lit (.any)), .leaf (.lit (.any))], [[.arr (.pair (.int .i64) (.pair .str (.pair (.slice .byte) (.pair (.slice .byte) (.pair (.int .i64) .unit)))))], [.int .i64]]⟩
def slices_IndexFunc_lock_Lock_lock_Lock_3_l0e0 : SCode := ⟨[.leaf (.lit (.any)), .leaf (.lit (.any)), .leaf (.lit (.any)), .leaf (.lit (.any)), .leaf (.lit (.any)), .leaf (.lit (.any)), .leaf (.lit (.any)), .leaf (.lit (.any)), .leaf (.lit (.any)), .leaf (.lit (.any)), .leaf (.lit (.any)), .leaf (.lit (.any)), .leaf (.lit (.any)), .leaf (.lit (.any)), .leaf (.lit (.any)), .leaf (.lit (.any)), .leaf (.lit (.any)), .leaf (.lit (.any)), .leaf (.lit (.any))], [[.arr (.pair (.int .i64) (.pair .str (.pair (.slice .byte) (.pair (.slice .byte) (.pair (.int .i64) .unit)))))], [.int .i64]]⟩
def slices_IndexFunc_lock_Lock_lock_Lock_3_l0e1 : SCode := ⟨[.leaf (.lit (.any)), .leaf (.lit (.any)), .leaf (.lit (.any)), .leaf (.lit (.any)), .leaf (.int .i64), .leaf (.lit (.any)), .leaf (.lit (.any)), .leaf (.lit (.any)), .leaf (.lit (.any)), .leaf (.lit (.any)), .leaf (.lit (.any)), .leaf (.lit (.any)), .leaf (.lit (.any)), .leaf (.lit (.any)), .leaf (.lit (.any)), .leaf (.lit (.any)), .leaf (.lit (.any)), .leaf (.lit (.any)), .leaf (.lit (.any))], [[.arr (.pair (.int .i64) (.pair .str (.pair (.slice .byte) (.pair (.slice .byte) (.pair (.int .i64) .unit)))))], [.int .i64]]⟩
def slices_IndexFunc_lock_Lock_lock_Lock_3_l0h : LH := { env := [(0, .id), (1, .id), (7, .id), (8, .id)], sto := [], out := [(4, .id)], con := some (lconOf slices_IndexFunc_lock_Lock_lock_Lock_3_l0c fun R k x => slices_IndexFunc_lock_Lock_lock_Lock_3_l0 big R x.2.2.1 x.2.2.2.1 (k (.exit 0) (mkSt slices_IndexFunc_lock_Lock_lock_Lock_3_l0e0 (x.2.2.1, (x.2.2.2.1, ())))) (fun a0 => k .ret (mkSt slices_IndexFunc_lock_Lock_lock_Lock_3_l0e1 (a0, (x.2.2.1, (x.2.2.2.1, ()))))) big x.1 x.2.1), gc := some 2 }

def slices_IndexFunc_lock_Lock_lock_Lock_3_ac : SCode := ⟨[.leaf (.lit (.hw 0)), .fn 48 [.lit (.ptr 1 0)]], [[.arr (.pair (.int .i64) (.pair .str (.pair (.slice .byte) (.pair (.slice .byte) (.pair (.int .i64) .unit)))))], [.int .i64]]⟩
def slices_IndexFunc_lock_Lock_lock_Lock_3_con : Con := conCalm [.arg 0, .cap 1 0] [] slices_IndexFunc_lock_Lock_lock_Lock_3_ac (.leaf (.int .i64)) fun x => slices_IndexFunc_lock_Lock_lock_Lock_3 big x.1 x.2.1
theorem slices_IndexFunc_lock_Lock_lock_Lock_3_bnd {calm : List Nat} {f : Nat} : BndC calm f slices_IndexFunc_lock_Lock_lock_Lock_3_con := bndCalm
def slices_IndexFunc_lock_Lock_lock_Lock_3_cx : Cx := { tab := tab, con := [(48, lock_without_c1_con)], funs := [], loops := [], want := want, ret := [], calm := [48], bnd := [48], eqs := eqs, xl := true, xs := [49], xd := [] }
theorem slices_IndexFunc_lock_Lock_lock_Lock_3_cs : CsOk Go.Proofs.Try.prog X slices_IndexFunc_lock_Lock_lock_Lock_3_cx :=
  csOk ⟨fun _ _ h => tab_ok tabOk h, eqsOk⟩ mixed ⟨lock_without_c1_ok, trivial⟩ trivial ⟨lock_without_c1_bnd, trivial⟩ rfl

def slices_IndexFunc_lock_Lock_lock_Lock_3_keep : List (Nat × LH) := [(2, slices_IndexFunc_lock_Lock_lock_Lock_3_l0h)]
theorem slices_IndexFunc_lock_Lock_lock_Lock_3_L0s (R : Type) (recS : St → Option R) (k : Exit → St → Option R) (x : slices_IndexFunc_lock_Lock_lock_Lock_3_l0c.den) : evCode slices_IndexFunc_lock_Lock_lock_Lock_3_cx (hcN slices_IndexFunc_lock_Lock_lock_Lock_3_cx 1) slices_IndexFunc_lock_Lock_lock_Lock_3_keep (loopC Go.Proofs.Try.f43 0) (mkSt slices_IndexFunc_lock_Lock_lock_Lock_3_l0c x) (fun e st' => match e with | .normal => recS (norm slices_IndexFunc_lock_Lock_lock_Lock_3_l0h 2 st') | e => k e (normO slices_IndexFunc_lock_Lock_lock_Lock_3_l0h 2 st')) = (fun rec k x => slices_IndexFunc_lock_Lock_lock_Lock_3_l0B big R x.2.2.1 x.2.2.2.1 (fun a0 a1 => rec (a0, (a1, (x.2.2.1, (x.2.2.2.1, ()))))) (k (.exit 0) (mkSt slices_IndexFunc_lock_Lock_lock_Lock_3_l0e0 (x.2.2.1, (x.2.2.2.1, ())))) (fun a0 => k .ret (mkSt slices_IndexFunc_lock_Lock_lock_Lock_3_l0e1 (a0, (x.2.2.1, (x.2.2.2.1, ()))))) x.1 x.2.1) (fun y => recS (mkSt slices_IndexFunc_lock_Lock_lock_Lock_3_l0c y)) k x := by kernel_rfl
theorem slices_IndexFunc_lock_Lock_lock_Lock_3_L0 (R : Type) : LOkR (R := R) slices_IndexFunc_lock_Lock_lock_Lock_3_cx (hcN slices_IndexFunc_lock_Lock_lock_Lock_3_cx 1) slices_IndexFunc_lock_Lock_lock_Lock_3_keep (loopC Go.Proofs.Try.f43 0) :=
  lok_iter (lh := slices_IndexFunc_lock_Lock_lock_Lock_3_l0h) slices_IndexFunc_lock_Lock_lock_Lock_3_l0c (fun R n k x => slices_IndexFunc_lock_Lock_lock_Lock_3_l0 big R x.2.2.1 x.2.2.2.1 (k (.exit 0) (mkSt slices_IndexFunc_lock_Lock_lock_Lock_3_l0e0 (x.2.2.1, (x.2.2.2.1, ())))) (fun a0 => k .ret (mkSt slices_IndexFunc_lock_Lock_lock_Lock_3_l0e1 (a0, (x.2.2.1, (x.2.2.2.1, ()))))) n x.1 x.2.1) (fun _ => big) (fun rec k x => slices_IndexFunc_lock_Lock_lock_Lock_3_l0B big R x.2.2.1 x.2.2.2.1 (fun a0 a1 => rec (a0, (a1, (x.2.2.1, (x.2.2.2.1, ()))))) (k (.exit 0) (mkSt slices_IndexFunc_lock_Lock_lock_Lock_3_l0e0 (x.2.2.1, (x.2.2.2.1, ())))) (fun a0 => k .ret (mkSt slices_IndexFunc_lock_Lock_lock_Lock_3_l0e1 (a0, (x.2.2.1, (x.2.2.2.1, ()))))) x.1 x.2.1) rfl rfl (slices_IndexFunc_lock_Lock_lock_Lock_3_L0s R) (fun _ _ => rfl) (fun _ _ _ => rfl)

theorem slices_IndexFunc_lock_Lock_lock_Lock_3_raw : ConOk Go.Proofs.Try.prog X 43 (fun _ args sto K => evBody slices_IndexFunc_lock_Lock_lock_Lock_3_cx (hcN slices_IndexFunc_lock_Lock_lock_Lock_3_cx 1) slices_IndexFunc_lock_Lock_lock_Lock_3_keep [] [] Go.Proofs.Try.f43 (bodyC Go.Proofs.Try.f43) args sto K) :=
  raw_ok slices_IndexFunc_lock_Lock_lock_Lock_3_cs 1 Go.Proofs.Try.func43 (by kernel_rfl) rfl fun R => loops_all 1 (by kernel_rfl) (fun i hi => match i, hi with | 0, _ => slices_IndexFunc_lock_Lock_lock_Lock_3_L0 R | n + 1, h => absurd h (by omega))

theorem slices_IndexFunc_lock_Lock_lock_Lock_3_T (R : Type) (K : D → Sto → Option R) (x : slices_IndexFunc_lock_Lock_lock_Lock_3_ac.den) : evBody slices_IndexFunc_lock_Lock_lock_Lock_3_cx (hcN slices_IndexFunc_lock_Lock_lock_Lock_3_cx 1) slices_IndexFunc_lock_Lock_lock_Lock_3_keep [] [] Go.Proofs.Try.f43 (bodyC Go.Proofs.Try.f43) (mkSt slices_IndexFunc_lock_Lock_lock_Lock_3_ac x).env (mkSt slices_IndexFunc_lock_Lock_lock_Lock_3_ac x).sto K = slices_IndexFunc_lock_Lock_lock_Lock_3_cps big R (fun a0 => K ((mkE [.leaf (.int .i64)] (T := Unit) (a0, ())).1.headD .any) (mkSt slices_IndexFunc_lock_Lock_lock_Lock_3_ac x).sto) x.1 x.2.1 := by kernel_rfl
theorem slices_IndexFunc_lock_Lock_lock_Lock_3_ok : ConOk Go.Proofs.Try.prog X 43 slices_IndexFunc_lock_Lock_lock_Lock_3_con :=
  conCalm_ok (src := [.arg 0, .cap 1 0]) (sh := []) (rs := .leaf (.int .i64)) slices_IndexFunc_lock_Lock_lock_Lock_3_raw (fun R K (x : slices_IndexFunc_lock_Lock_lock_Lock_3_ac.den) => slices_IndexFunc_lock_Lock_lock_Lock_3_cps big R (fun a0 => K (a0, ())) x.1 x.2.1) slices_IndexFunc_lock_Lock_lock_Lock_3_T

/-! 47 slices.DeleteFunc[[]frankpledge/lock.Lock,frankpledge/lock.Lock] -/
def slices_DeleteFunc_lock_Lock_lock_Lock_l0c : SCode := ⟨[.leaf (.lit (.hw 2)), .fn 48 [.lit (.ptr 1 0)], .leaf (.lit (.any)), .leaf (.lit (.any)), .leaf (.lit (.any)), .leaf (.int .i64), .leaf (.int .i64), .leaf (.lit (.any)), .leaf (.lit (.any)), .leaf (.lit (.any)), .leaf (.lit (.any)), .leaf (.lit (.any)), .leaf (.lit (.any)), .leaf (.lit (.any)), .leaf (.lit (.any)), .leaf (.lit (.any)), .leaf (.lit (.any)), .leaf (.lit (.any)), .leaf (.lit (.any)), .leaf (.lit (.any)), .leaf (.lit (.any)), .leaf (.lit (.any)), .leaf (.lit (.any)), .leaf (.lit (.any)), .leaf (.lit (.any)), .leaf (.lit (.any)), .leaf (.lit (.any)), .leaf (.lit (.any)), .leaf (.lit (.any)), .leaf (.lit (.any)), .leaf (.lit (.any)), .leaf (.lit (.any)), .leaf (.lit (.any)), .leaf (.lit (.any)), .leaf (.lit (.any)), .leaf (.lit (.any)), .leaf (.lit (.any)), .leaf (.lit (.any)), .leaf (.lit (.any)), .leaf (.lit (.any)), .leaf (.lit (.any)), .leaf (.lit (.any))], [[], [.int .i64], [.arr (.pair (.int .i64) (.pair .str (.pair (.slice .byte) (.pair (.slice .byte) (.pair (.int .i64) .unit)))))]]⟩
def slices_DeleteFunc_lock_Lock_lock_Lock_l0e0 : SCode := ⟨[.leaf (.lit (.hw 2)), .leaf (.lit (.any)), .leaf (.lit (.any)), .leaf (.lit (.any)), .leaf (.lit (.any)), .leaf (.int .i64), .leaf (.lit (.any)), .leaf (.lit (.any)), .leaf (.lit (.any)), .leaf (.lit (.any)), .leaf (.lit (.any)), .leaf (.lit (.any)), .leaf (.lit (.any)), .leaf (.lit (.any)), .leaf (.lit (.any)), .leaf (.lit (.any)), .leaf (.lit (.any)), .leaf (.lit (.any)), .leaf (.lit (.any)), .leaf (.lit (.any)), .leaf (.lit (.any)), .leaf (.lit (.any)), .leaf (.lit (.any)), .leaf (.lit (.any)), .leaf (.lit (.any)), .leaf (.lit (.any)), .leaf (.lit (.any)), .leaf (.lit (.any)), .leaf (.lit (.any)), .leaf (.lit (.any)), .leaf (.lit (.any)), .leaf (.lit (.any)), .leaf (.lit (.any)), .leaf (.lit (.any)), .leaf (.lit (.any)), .leaf (.lit (.any)), .leaf (.lit (.any)), .leaf (.lit (.any)), .leaf (.lit (.any)), .leaf (.lit (.any)), .leaf (.lit (.any)), .leaf (.lit (.any))], [[], [.int .i64], [.arr (.pair (.int .i64) (.pair .str (.pair (.slice .byte) (.pair (.slice .byte) (.pair (.int .i64) .unit)))))]]⟩
def slices_DeleteFunc_lock_Lock_lock_Lock_l0h : LH := { env := [(0, .id), (1, .id), (5, .id), (6, .id)], sto := [], out := [(0, .id), (5, .id)], con := some (lconOf slices_DeleteFunc_lock_Lock_lock_Lock_l0c fun R k x => slices_DeleteFunc_lock_Lock_lock_Lock_l0 big R x.2.2.1 (fun a0 a1 => k (.exit 0) (mkSt slices_DeleteFunc_lock_Lock_lock_Lock_l0e0 (a0, (x.2.2.1, (a1, ()))))) big x.1 x.2.1 x.2.2.2.1), gc := some 2 }

def slices_DeleteFunc_lock_Lock_lock_Lock_ac : SCode := ⟨[.leaf (.lit (.hw 0)), .fn 48 [.lit (.ptr 1 0)]], [[.arr (.pair (.int .i64) (.pair .str (.pair (.slice .byte) (.pair (.slice .byte) (.pair (.int .i64) .unit)))))], [.int .i64]]⟩
def slices_DeleteFunc_lock_Lock_lock_Lock_con : Con := conFn [.arg 0, .cap 1 0] [] slices_DeleteFunc_lock_Lock_lock_Lock_ac (.leaf (.lit (.hw 2))) [[], [.int .i64], [.arr (.pair (.int .i64) (.pair .str (.pair (.slice .byte) (.pair (.slice .byte) (.pair (.int .i64) .unit)))))]] fun x => slices_DeleteFunc_lock_Lock_lock_Lock big x.1 x.2.1
theorem slices_DeleteFunc_lock_Lock_lock_Lock_bnd {calm : List Nat} {f : Nat} (hf : calm.any (Nat.beq f) = false) : BndC calm f slices_DeleteFunc_lock_Lock_lock_Lock_con := bndFn hf
def slices_DeleteFunc_lock_Lock_lock_Lock_cx : Cx := { tab := tab, con := [(43, slices_IndexFunc_lock_Lock_lock_Lock_3_con), (48, lock_without_c1_con)], funs := [], loops := [], want := want, ret := [], calm := [43, 48], bnd := [43, 48], eqs := eqs, xl := true, xs := [49], xd := [(41, [(0, (.pair (.int .i64) (.pair .str (.pair (.slice .byte) (.pair (.slice .byte) (.pair (.int .i64) .unit))))))])] }
theorem slices_DeleteFunc_lock_Lock_lock_Lock_cs : CsOk Go.Proofs.Try.prog X slices_DeleteFunc_lock_Lock_lock_Lock_cx :=
  csOk ⟨fun _ _ h => tab_ok tabOk h, eqsOk⟩ mixed ⟨slices_IndexFunc_lock_Lock_lock_Lock_3_ok, lock_without_c1_ok, trivial⟩ trivial ⟨slices_IndexFunc_lock_Lock_lock_Lock_3_bnd, lock_without_c1_bnd, trivial⟩ rfl

def slices_DeleteFunc_lock_Lock_lock_Lock_keep : List (Nat × LH) := [(5, slices_DeleteFunc_lock_Lock_lock_Lock_l0h), (3000000, { env := [], sto := [], out := [], con := none })]
theorem slices_DeleteFunc_lock_Lock_lock_Lock_L0s (R : Type) (recS : St → Option R) (k : Exit → St → Option R) (x : slices_DeleteFunc_lock_Lock_lock_Lock_l0c.den) : evCode slices_DeleteFunc_lock_Lock_lock_Lock_cx (hcN slices_DeleteFunc_lock_Lock_lock_Lock_cx 1) slices_DeleteFunc_lock_Lock_lock_Lock_keep (loopC Go.Proofs.Try.f47 0) (mkSt slices_DeleteFunc_lock_Lock_lock_Lock_l0c x) (fun e st' => match e with | .normal => recS (norm slices_DeleteFunc_lock_Lock_lock_Lock_l0h 3 st') | e => k e (normO slices_DeleteFunc_lock_Lock_lock_Lock_l0h 3 st')) = (fun rec k x => slices_DeleteFunc_lock_Lock_lock_Lock_l0B big R x.2.2.1 (fun a0 a1 a2 => rec (a0, (a1, (x.2.2.1, (a2, ()))))) (fun a0 a1 => k (.exit 0) (mkSt slices_DeleteFunc_lock_Lock_lock_Lock_l0e0 (a0, (x.2.2.1, (a1, ()))))) x.1 x.2.1 x.2.2.2.1) (fun y => recS (mkSt slices_DeleteFunc_lock_Lock_lock_Lock_l0c y)) k x := by kernel_rfl
theorem slices_DeleteFunc_lock_Lock_lock_Lock_L0 (R : Type) : LOkR (R := R) slices_DeleteFunc_lock_Lock_lock_Lock_cx (hcN slices_DeleteFunc_lock_Lock_lock_Lock_cx 1) slices_DeleteFunc_lock_Lock_lock_Lock_keep (loopC Go.Proofs.Try.f47 0) :=
  lok_iter (lh := slices_DeleteFunc_lock_Lock_lock_Lock_l0h) slices_DeleteFunc_lock_Lock_lock_Lock_l0c (fun R n k x => slices_DeleteFunc_lock_Lock_lock_Lock_l0 big R x.2.2.1 (fun a0 a1 => k (.exit 0) (mkSt slices_DeleteFunc_lock_Lock_lock_Lock_l0e0 (a0, (x.2.2.1, (a1, ()))))) n x.1 x.2.1 x.2.2.2.1) (fun _ => big) (fun rec k x => slices_DeleteFunc_lock_Lock_lock_Lock_l0B big R x.2.2.1 (fun a0 a1 a2 => rec (a0, (a1, (x.2.2.1, (a2, ()))))) (fun a0 a1 => k (.exit 0) (mkSt slices_DeleteFunc_lock_Lock_lock_Lock_l0e0 (a0, (x.2.2.1, (a1, ()))))) x.1 x.2.1 x.2.2.2.1) rfl rfl (slices_DeleteFunc_lock_Lock_lock_Lock_L0s R) (fun _ _ => rfl) (fun _ _ _ => rfl)

theorem slices_DeleteFunc_lock_Lock_lock_Lock_raw : ConOk Go.Proofs.Try.prog X 47 (fun _ args sto K => evBody slices_DeleteFunc_lock_Lock_lock_Lock_cx (hcN slices_DeleteFunc_lock_Lock_lock_Lock_cx 1) slices_DeleteFunc_lock_Lock_lock_Lock_keep [] [] Go.Proofs.Try.f47 (bodyC Go.Proofs.Try.f47) args sto K) :=
  raw_ok2 slices_DeleteFunc_lock_Lock_lock_Lock_cs 1 Go.Proofs.Try.func47 (by kernel_rfl) (fun R => loops_all 1 (by kernel_rfl) (fun i hi => match i, hi with | 0, _ => slices_DeleteFunc_lock_Lock_lock_Lock_L0 R | n + 1, h => absurd h (by omega))) (fun R => joins_all [] (by kernel_rfl) (AllJ.get trivial))

theorem slices_DeleteFunc_lock_Lock_lock_Lock_T (R : Type) (K : D → Sto → Option R) (x : slices_DeleteFunc_lock_Lock_lock_Lock_ac.den) : evBody slices_DeleteFunc_lock_Lock_lock_Lock_cx (hcN slices_DeleteFunc_lock_Lock_lock_Lock_cx 1) slices_DeleteFunc_lock_Lock_lock_Lock_keep [] [] Go.Proofs.Try.f47 (bodyC Go.Proofs.Try.f47) (mkSt slices_DeleteFunc_lock_Lock_lock_Lock_ac x).env (mkSt slices_DeleteFunc_lock_Lock_lock_Lock_ac x).sto K = slices_DeleteFunc_lock_Lock_lock_Lock_cps big R (fun a0 a1 => K ((mkSt ⟨[.leaf (.lit (.hw 2))], [[], [.int .i64], [.arr (.pair (.int .i64) (.pair .str (.pair (.slice .byte) (.pair (.slice .byte) (.pair (.int .i64) .unit)))))]]⟩ (a0, (a1, ()))).env.headD .any) (mkSt ⟨[.leaf (.lit (.hw 2))], [[], [.int .i64], [.arr (.pair (.int .i64) (.pair .str (.pair (.slice .byte) (.pair (.slice .byte) (.pair (.int .i64) .unit)))))]]⟩ (a0, (a1, ()))).sto) x.1 x.2.1 := by kernel_rfl
theorem slices_DeleteFunc_lock_Lock_lock_Lock_ok : ConOk Go.Proofs.Try.prog X 47 slices_DeleteFunc_lock_Lock_lock_Lock_con :=
  conFn_ok (src := [.arg 0, .cap 1 0]) (sh := []) (rs := .leaf (.lit (.hw 2))) (rows := [[], [.int .i64], [.arr (.pair (.int .i64) (.pair .str (.pair (.slice .byte) (.pair (.slice .byte) (.pair (.int .i64) .unit)))))]]) slices_DeleteFunc_lock_Lock_lock_Lock_raw (fun R K (x : slices_DeleteFunc_lock_Lock_lock_Lock_ac.den) => slices_DeleteFunc_lock_Lock_lock_Lock_cps big R (fun a0 a1 => K (a0, (a1, ()))) x.1 x.2.1) slices_DeleteFunc_lock_Lock_lock_Lock_T

/-! 38 frankpledge/lock.without -/
def lock_without_ac : SCode := ⟨[.leaf (.lit (.hw 0)), .leaf (.int .i64)], [[.arr (.pair (.int .i64) (.pair .str (.pair (.slice .byte) (.pair (.slice .byte) (.pair (.int .i64) .unit)))))]]⟩
def lock_without_con : Con := conFn [.arg 0] [] lock_without_ac (.leaf (.lit (.hw 1))) [[], [.arr (.pair (.int .i64) (.pair .str (.pair (.slice .byte) (.pair (.slice .byte) (.pair (.int .i64) .unit)))))]] fun x => lock_without big x.1 x.2.1
theorem lock_without_bnd {calm : List Nat} {f : Nat} (hf : calm.any (Nat.beq f) = false) : BndC calm f lock_without_con := bndFn hf
def lock_without_cx : Cx := { tab := tab, con := [(47, slices_DeleteFunc_lock_Lock_lock_Lock_con)], funs := [], loops := [], want := want, ret := [], calm := [], bnd := [47], eqs := eqs, xl := true, xs := [49], xd := [] }
theorem lock_without_cs : CsOk Go.Proofs.Try.prog X lock_without_cx :=
  csOk ⟨fun _ _ h => tab_ok tabOk h, eqsOk⟩ mixed ⟨slices_DeleteFunc_lock_Lock_lock_Lock_ok, trivial⟩ trivial ⟨slices_DeleteFunc_lock_Lock_lock_Lock_bnd rfl, trivial⟩ rfl

def lock_without_keep : List (Nat × LH) := [(3000000, { env := [], sto := [], out := [], con := none })]
theorem lock_without_raw : ConOk Go.Proofs.Try.prog X 38 (fun _ args sto K => evBody lock_without_cx (hcN lock_without_cx 1) lock_without_keep [] [] Go.Proofs.Try.f38 (bodyC Go.Proofs.Try.f38) args sto K) :=
  raw_ok2 lock_without_cs 1 Go.Proofs.Try.func38 (by kernel_rfl) (fun R => loops_all 0 (by kernel_rfl) (fun i hi => absurd hi (Nat.not_lt_zero i))) (fun R => joins_all [] (by kernel_rfl) (AllJ.get trivial))

theorem lock_without_T (R : Type) (K : D → Sto → Option R) (x : lock_without_ac.den) : evBody lock_without_cx (hcN lock_without_cx 1) lock_without_keep [] [] Go.Proofs.Try.f38 (bodyC Go.Proofs.Try.f38) (mkSt lock_without_ac x).env (mkSt lock_without_ac x).sto K = lock_without_cps big R (fun a0 => K ((mkSt ⟨[.leaf (.lit (.hw 1))], [[], [.arr (.pair (.int .i64) (.pair .str (.pair (.slice .byte) (.pair (.slice .byte) (.pair (.int .i64) .unit)))))]]⟩ (a0, ())).env.headD .any) (mkSt ⟨[.leaf (.lit (.hw 1))], [[], [.arr (.pair (.int .i64) (.pair .str (.pair (.slice .byte) (.pair (.slice .byte) (.pair (.int .i64) .unit)))))]]⟩ (a0, ())).sto) x.1 x.2.1 := by kernel_rfl
theorem lock_without_ok : ConOk Go.Proofs.Try.prog X 38 lock_without_con :=
  conFn_ok (src := [.arg 0]) (sh := []) (rs := .leaf (.lit (.hw 1))) (rows := [[], [.arr (.pair (.int .i64) (.pair .str (.pair (.slice .byte) (.pair (.slice .byte) (.pair (.int .i64) .unit)))))]]) lock_without_raw (fun R K (x : lock_without_ac.den) => lock_without_cps big R (fun a0 => K (a0, ())) x.1 x.2.1) lock_without_T

/-! 41 (*frankpledge/lock.Locks).look -/
def lock_Locks_look_l0c : SCode := ⟨[.leaf (.lit (.ptr 0 0)), .leaf (.lit (.any)), .leaf (.lit (.any)), .leaf (.sl .own (.int .i64)), .leaf (.lit (.hw 3)), .leaf (.lit (.any)), .leaf (.lit (.any)), .leaf (.lit (.any)), .leaf (.lit (.any)), .leaf (.lit (.any)), .leaf (.lit (.hw 4)), .leaf (.int .i64), .leaf (.int .i64), .leaf (.lit (.any)), .leaf (.lit (.any)), .leaf (.lit (.any)), .leaf (.lit (.any)), .leaf (.lit (.any)), .leaf (.lit (.any)), .leaf (.lit (.any)), .leaf (.lit (.any)), .leaf (.lit (.any)), .leaf (.lit (.any)), .leaf (.lit (.any)), .leaf (.lit (.any)), .leaf (.lit (.any)), .leaf (.lit (.any)), .leaf (.lit (.any)), .leaf (.lit (.any)), .leaf (.lit (.any)), .leaf (.lit (.any)), .leaf (.lit (.any)), .leaf (.lit (.any)), .leaf (.lit (.any)), .leaf (.lit (.any)), .leaf (.lit (.any)), .leaf (.lit (.any)), .leaf (.lit (.any)), .leaf (.lit (.any)), .leaf (.lit (.any)), .leaf (.lit (.any)), .leaf (.lit (.any)), .leaf (.lit (.any)), .leaf (.lit (.any)), .leaf (.lit (.any)), .leaf (.lit (.any)), .leaf (.lit (.any)), .leaf (.lit (.any)), .leaf (.lit (.any)), .leaf (.lit (.any)), .leaf (.lit (.any)), .leaf (.lit (.any))], [[.lit (.hw 5), .lit (.hw 4)], [], [], [.arr (.pair (.int .i64) (.pair .str (.pair (.slice .byte) (.pair (.slice .byte) (.pair (.int .i64) .unit)))))], [.arr (.pair (.int .i64) (.pair .str (.pair (.slice .byte) (.pair (.slice .byte) (.pair (.int .i64) .unit)))))], [.arr (.pair (.int .i64) (.pair .str (.pair (.slice .byte) (.pair (.slice .byte) (.pair (.int .i64) .unit)))))]]⟩
def lock_Locks_look_l0e0 : SCode := ⟨[.leaf (.lit (.ptr 0 0)), .leaf (.lit (.any)), .leaf (.lit (.any)), .leaf (.sl .own (.int .i64)), .leaf (.lit (.hw 3)), .leaf (.lit (.any)), .leaf (.lit (.any)), .leaf (.lit (.any)), .leaf (.lit (.any)), .leaf (.lit (.any)), .leaf (.lit (.any)), .leaf (.lit (.any)), .leaf (.lit (.any)), .leaf (.lit (.any)), .leaf (.lit (.any)), .leaf (.lit (.any)), .leaf (.lit (.any)), .leaf (.lit (.any)), .leaf (.lit (.any)), .leaf (.lit (.any)), .leaf (.lit (.any)), .leaf (.lit (.any)), .leaf (.lit (.any)), .leaf (.lit (.any)), .leaf (.lit (.any)), .leaf (.lit (.any)), .leaf (.lit (.any)), .leaf (.lit (.any)), .leaf (.lit (.any)), .leaf (.lit (.any)), .leaf (.lit (.any)), .leaf (.lit (.any)), .leaf (.lit (.any)), .leaf (.lit (.any)), .leaf (.lit (.any)), .leaf (.lit (.any)), .leaf (.lit (.any)), .leaf (.lit (.any)), .leaf (.lit (.any)), .leaf (.lit (.any)), .leaf (.lit (.any)), .leaf (.lit (.any)), .leaf (.lit (.any)), .leaf (.lit (.any)), .leaf (.lit (.any)), .leaf (.lit (.any)), .leaf (.lit (.any)), .leaf (.lit (.any)), .leaf (.lit (.any)), .leaf (.lit (.any)), .leaf (.lit (.any)), .leaf (.lit (.any))], [[.lit (.hw 4), .lit (.hw 5)], [], [], [.arr (.pair (.int .i64) (.pair .str (.pair (.slice .byte) (.pair (.slice .byte) (.pair (.int .i64) .unit)))))], [.arr (.pair (.int .i64) (.pair .str (.pair (.slice .byte) (.pair (.slice .byte) (.pair (.int .i64) .unit)))))], [.arr (.pair (.int .i64) (.pair .str (.pair (.slice .byte) (.pair (.slice .byte) (.pair (.int .i64) .unit)))))]]⟩
def lock_Locks_look_l0h : LH := { env := [(0, .id), (3, .own (.int .i64)), (4, .id), (10, .id), (11, .id), (12, .id)], sto := [], out := [(0, .id), (3, .id), (4, .id)], con := some (lconOf lock_Locks_look_l0c fun R k x => lock_Locks_look_l0 big R x.2.2.2.2.1 (fun a0 a1 a2 => k (.exit 0) (mkSt lock_Locks_look_l0e0 (a0, (a1, (a2, (x.2.2.2.2.1, ())))))) big x.1 x.2.1 x.2.2.1 x.2.2.2.1 x.2.2.2.2.2.1), gc := some 3 }

def lock_Locks_look_ac : SCode := ⟨[.leaf (.lit (.ptr 0 0))], [[.lit (.hw 1), .lit (.hw 2)], [.arr (.pair (.int .i64) (.pair .str (.pair (.slice .byte) (.pair (.slice .byte) (.pair (.int .i64) .unit)))))], [.arr (.pair (.int .i64) (.pair .str (.pair (.slice .byte) (.pair (.slice .byte) (.pair (.int .i64) .unit)))))]]⟩
def lock_Locks_look_con : Con := conFn [.arg 0, .cell 0 0, .cell 0 1] [] lock_Locks_look_ac (.leaf (.sl .own (.int .i64))) [[.lit (.hw 3), .lit (.hw 4)], [], [], [.arr (.pair (.int .i64) (.pair .str (.pair (.slice .byte) (.pair (.slice .byte) (.pair (.int .i64) .unit)))))], [.arr (.pair (.int .i64) (.pair .str (.pair (.slice .byte) (.pair (.slice .byte) (.pair (.int .i64) .unit)))))]] fun x => lock_Locks_look big x.1 x.2.1
theorem lock_Locks_look_bnd {calm : List Nat} {f : Nat} (hf : calm.any (Nat.beq f) = false) : BndC calm f lock_Locks_look_con := bndFn hf
def lock_Locks_look_cx : Cx := { tab := tab, con := [(34, lock_clashes_con)], funs := [], loops := [], want := want, ret := [], calm := [34], bnd := [34], eqs := eqs, xl := true, xs := [49], xd := [(4, [(0, (.pair (.int .i64) (.pair .str (.pair (.slice .byte) (.pair (.slice .byte) (.pair (.int .i64) .unit))))))])] }
theorem lock_Locks_look_cs : CsOk Go.Proofs.Try.prog X lock_Locks_look_cx :=
  csOk ⟨fun _ _ h => tab_ok tabOk h, eqsOk⟩ mixed ⟨lock_clashes_ok, trivial⟩ trivial ⟨lock_clashes_bnd, trivial⟩ rfl

def lock_Locks_look_keep : List (Nat × LH) := [(4, lock_Locks_look_l0h), (3000000, { env := [], sto := [], out := [], con := none })]
theorem lock_Locks_look_L0s (R : Type) (recS : St → Option R) (k : Exit → St → Option R) (x : lock_Locks_look_l0c.den) : evCode lock_Locks_look_cx (hcN lock_Locks_look_cx 1) lock_Locks_look_keep (loopC Go.Proofs.Try.f41 0) (mkSt lock_Locks_look_l0c x) (fun e st' => match e with | .normal => recS (norm lock_Locks_look_l0h 6 st') | e => k e (normO lock_Locks_look_l0h 6 st')) = (fun rec k x => lock_Locks_look_l0B big R x.2.2.2.2.1 (fun a0 a1 a2 a3 a4 => rec (a0, (a1, (a2, (a3, (x.2.2.2.2.1, (a4, ()))))))) (fun a0 a1 a2 => k (.exit 0) (mkSt lock_Locks_look_l0e0 (a0, (a1, (a2, (x.2.2.2.2.1, ())))))) x.1 x.2.1 x.2.2.1 x.2.2.2.1 x.2.2.2.2.2.1) (fun y => recS (mkSt lock_Locks_look_l0c y)) k x := by kernel_rfl
theorem lock_Locks_look_L0 (R : Type) : LOkR (R := R) lock_Locks_look_cx (hcN lock_Locks_look_cx 1) lock_Locks_look_keep (loopC Go.Proofs.Try.f41 0) :=
  lok_iter (lh := lock_Locks_look_l0h) lock_Locks_look_l0c (fun R n k x => lock_Locks_look_l0 big R x.2.2.2.2.1 (fun a0 a1 a2 => k (.exit 0) (mkSt lock_Locks_look_l0e0 (a0, (a1, (a2, (x.2.2.2.2.1, ())))))) n x.1 x.2.1 x.2.2.1 x.2.2.2.1 x.2.2.2.2.2.1) (fun _ => big) (fun rec k x => lock_Locks_look_l0B big R x.2.2.2.2.1 (fun a0 a1 a2 a3 a4 => rec (a0, (a1, (a2, (a3, (x.2.2.2.2.1, (a4, ()))))))) (fun a0 a1 a2 => k (.exit 0) (mkSt lock_Locks_look_l0e0 (a0, (a1, (a2, (x.2.2.2.2.1, ())))))) x.1 x.2.1 x.2.2.1 x.2.2.2.1 x.2.2.2.2.2.1) rfl rfl (lock_Locks_look_L0s R) (fun _ _ => rfl) (fun _ _ _ => rfl)

theorem lock_Locks_look_raw : ConOk Go.Proofs.Try.prog X 41 (fun _ args sto K => evBody lock_Locks_look_cx (hcN lock_Locks_look_cx 1) lock_Locks_look_keep [] [] Go.Proofs.Try.f41 (bodyC Go.Proofs.Try.f41) args sto K) :=
  raw_ok2 lock_Locks_look_cs 1 Go.Proofs.Try.func41 (by kernel_rfl) (fun R => loops_all 1 (by kernel_rfl) (fun i hi => match i, hi with | 0, _ => lock_Locks_look_L0 R | n + 1, h => absurd h (by omega))) (fun R => joins_all [] (by kernel_rfl) (AllJ.get trivial))

theorem lock_Locks_look_T (R : Type) (K : D → Sto → Option R) (x : lock_Locks_look_ac.den) : evBody lock_Locks_look_cx (hcN lock_Locks_look_cx 1) lock_Locks_look_keep [] [] Go.Proofs.Try.f41 (bodyC Go.Proofs.Try.f41) (mkSt lock_Locks_look_ac x).env (mkSt lock_Locks_look_ac x).sto K = lock_Locks_look_cps big R (fun a0 a1 a2 => K ((mkSt ⟨[.leaf (.sl .own (.int .i64))], [[.lit (.hw 3), .lit (.hw 4)], [], [], [.arr (.pair (.int .i64) (.pair .str (.pair (.slice .byte) (.pair (.slice .byte) (.pair (.int .i64) .unit)))))], [.arr (.pair (.int .i64) (.pair .str (.pair (.slice .byte) (.pair (.slice .byte) (.pair (.int .i64) .unit)))))]]⟩ (a0, (a1, (a2, ())))).env.headD .any) (mkSt ⟨[.leaf (.sl .own (.int .i64))], [[.lit (.hw 3), .lit (.hw 4)], [], [], [.arr (.pair (.int .i64) (.pair .str (.pair (.slice .byte) (.pair (.slice .byte) (.pair (.int .i64) .unit)))))], [.arr (.pair (.int .i64) (.pair .str (.pair (.slice .byte) (.pair (.slice .byte) (.pair (.int .i64) .unit)))))]]⟩ (a0, (a1, (a2, ())))).sto) x.1 x.2.1 := by kernel_rfl
theorem lock_Locks_look_ok : ConOk Go.Proofs.Try.prog X 41 lock_Locks_look_con :=
  conFn_ok (src := [.arg 0, .cell 0 0, .cell 0 1]) (sh := []) (rs := .leaf (.sl .own (.int .i64))) (rows := [[.lit (.hw 3), .lit (.hw 4)], [], [], [.arr (.pair (.int .i64) (.pair .str (.pair (.slice .byte) (.pair (.slice .byte) (.pair (.int .i64) .unit)))))], [.arr (.pair (.int .i64) (.pair .str (.pair (.slice .byte) (.pair (.slice .byte) (.pair (.int .i64) .unit)))))]]) lock_Locks_look_raw (fun R K (x : lock_Locks_look_ac.den) => lock_Locks_look_cps big R (fun a0 a1 a2 => K (a0, (a1, (a2, ())))) x.1 x.2.1) lock_Locks_look_T

/-! 18 (*frankpledge/lock.Locks).Cancel -/
def lock_Locks_Cancel_ac : SCode := ⟨[.leaf (.lit (.ptr 0 0)), .leaf (.int .i64)], [[.lit (.hw 1), .lit (.hw 2)], [.arr (.pair (.int .i64) (.pair .str (.pair (.slice .byte) (.pair (.slice .byte) (.pair (.int .i64) .unit)))))], [.arr (.pair (.int .i64) (.pair .str (.pair (.slice .byte) (.pair (.slice .byte) (.pair (.int .i64) .unit)))))]]⟩
def lock_Locks_Cancel_con : Con := conFn [.arg 0, .cell 0 0, .cell 0 1] [] lock_Locks_Cancel_ac (.leaf (.sl .own (.int .i64))) [[.lit (.hw 3), .lit (.hw 4)], [], [], [.arr (.pair (.int .i64) (.pair .str (.pair (.slice .byte) (.pair (.slice .byte) (.pair (.int .i64) .unit)))))], [.arr (.pair (.int .i64) (.pair .str (.pair (.slice .byte) (.pair (.slice .byte) (.pair (.int .i64) .unit)))))]] fun x => lock_Locks_Cancel big x.1 x.2.1 x.2.2.1
theorem lock_Locks_Cancel_bnd {calm : List Nat} {f : Nat} (hf : calm.any (Nat.beq f) = false) : BndC calm f lock_Locks_Cancel_con := bndFn hf
def lock_Locks_Cancel_cx : Cx := { tab := tab, con := [(38, lock_without_con), (41, lock_Locks_look_con)], funs := [], loops := [], want := want, ret := [], calm := [], bnd := [38, 41], eqs := eqs, xl := true, xs := [49], xd := [] }
theorem lock_Locks_Cancel_cs : CsOk Go.Proofs.Try.prog X lock_Locks_Cancel_cx :=
  csOk ⟨fun _ _ h => tab_ok tabOk h, eqsOk⟩ mixed ⟨lock_without_ok, lock_Locks_look_ok, trivial⟩ trivial ⟨lock_without_bnd rfl, lock_Locks_look_bnd rfl, trivial⟩ rfl

def lock_Locks_Cancel_keep : List (Nat × LH) := [(3000000, { env := [], sto := [], out := [], con := none })]
theorem lock_Locks_Cancel_raw : ConOk Go.Proofs.Try.prog X 18 (fun _ args sto K => evBody lock_Locks_Cancel_cx (hcN lock_Locks_Cancel_cx 1) lock_Locks_Cancel_keep [] [] Go.Proofs.Try.f18 (bodyC Go.Proofs.Try.f18) args sto K) :=
  raw_ok2 lock_Locks_Cancel_cs 1 Go.Proofs.Try.func18 (by kernel_rfl) (fun R => loops_all 0 (by kernel_rfl) (fun i hi => absurd hi (Nat.not_lt_zero i))) (fun R => joins_all [] (by kernel_rfl) (AllJ.get trivial))

theorem lock_Locks_Cancel_T (R : Type) (K : D → Sto → Option R) (x : lock_Locks_Cancel_ac.den) : evBody lock_Locks_Cancel_cx (hcN lock_Locks_Cancel_cx 1) lock_Locks_Cancel_keep [] [] Go.Proofs.Try.f18 (bodyC Go.Proofs.Try.f18) (mkSt lock_Locks_Cancel_ac x).env (mkSt lock_Locks_Cancel_ac x).sto K = lock_Locks_Cancel_cps big R (fun a0 a1 a2 => K ((mkSt ⟨[.leaf (.sl .own (.int .i64))], [[.lit (.hw 3), .lit (.hw 4)], [], [], [.arr (.pair (.int .i64) (.pair .str (.pair (.slice .byte) (.pair (.slice .byte) (.pair (.int .i64) .unit)))))], [.arr (.pair (.int .i64) (.pair .str (.pair (.slice .byte) (.pair (.slice .byte) (.pair (.int .i64) .unit)))))]]⟩ (a0, (a1, (a2, ())))).env.headD .any) (mkSt ⟨[.leaf (.sl .own (.int .i64))], [[.lit (.hw 3), .lit (.hw 4)], [], [], [.arr (.pair (.int .i64) (.pair .str (.pair (.slice .byte) (.pair (.slice .byte) (.pair (.int .i64) .unit)))))], [.arr (.pair (.int .i64) (.pair .str (.pair (.slice .byte) (.pair (.slice .byte) (.pair (.int .i64) .unit)))))]]⟩ (a0, (a1, (a2, ())))).sto) x.1 x.2.1 x.2.2.1 := by kernel_rfl
theorem lock_Locks_Cancel_ok : ConOk Go.Proofs.Try.prog X 18 lock_Locks_Cancel_con :=
  conFn_ok (src := [.arg 0, .cell 0 0, .cell 0 1]) (sh := []) (rs := .leaf (.sl .own (.int .i64))) (rows := [[.lit (.hw 3), .lit (.hw 4)], [], [], [.arr (.pair (.int .i64) (.pair .str (.pair (.slice .byte) (.pair (.slice .byte) (.pair (.int .i64) .unit)))))], [.arr (.pair (.int .i64) (.pair .str (.pair (.slice .byte) (.pair (.slice .byte) (.pair (.int .i64) .unit)))))]]) lock_Locks_Cancel_raw (fun R K (x : lock_Locks_Cancel_ac.den) => lock_Locks_Cancel_cps big R (fun a0 a1 a2 => K (a0, (a1, (a2, ())))) x.1 x.2.1 x.2.2.1) lock_Locks_Cancel_T

/-! 16 (*frankpledge/lock.Locks).Drop -/
def lock_Locks_Drop_ac : SCode := ⟨[.leaf (.lit (.ptr 0 0)), .leaf (.int .i64)], [[.lit (.hw 1), .lit (.hw 2)], [.arr (.pair (.int .i64) (.pair .str (.pair (.slice .byte) (.pair (.slice .byte) (.pair (.int .i64) .unit)))))], [.arr (.pair (.int .i64) (.pair .str (.pair (.slice .byte) (.pair (.slice .byte) (.pair (.int .i64) .unit)))))]]⟩
def lock_Locks_Drop_con : Con := conFn [.arg 0, .cell 0 0, .cell 0 1] [] lock_Locks_Drop_ac (.leaf (.sl .own (.int .i64))) [[.lit (.hw 3), .lit (.hw 4)], [], [], [.arr (.pair (.int .i64) (.pair .str (.pair (.slice .byte) (.pair (.slice .byte) (.pair (.int .i64) .unit)))))], [.arr (.pair (.int .i64) (.pair .str (.pair (.slice .byte) (.pair (.slice .byte) (.pair (.int .i64) .unit)))))]] fun x => lock_Locks_Drop big x.1 x.2.1 x.2.2.1
theorem lock_Locks_Drop_bnd {calm : List Nat} {f : Nat} (hf : calm.any (Nat.beq f) = false) : BndC calm f lock_Locks_Drop_con := bndFn hf
def lock_Locks_Drop_cx : Cx := { tab := tab, con := [(18, lock_Locks_Cancel_con), (38, lock_without_con)], funs := [], loops := [], want := want, ret := [], calm := [], bnd := [18, 38], eqs := eqs, xl := true, xs := [49], xd := [] }
theorem lock_Locks_Drop_cs : CsOk Go.Proofs.Try.prog X lock_Locks_Drop_cx :=
  csOk ⟨fun _ _ h => tab_ok tabOk h, eqsOk⟩ mixed ⟨lock_Locks_Cancel_ok, lock_without_ok, trivial⟩ trivial ⟨lock_Locks_Cancel_bnd rfl, lock_without_bnd rfl, trivial⟩ rfl

def lock_Locks_Drop_keep : List (Nat × LH) := [(3000000, { env := [], sto := [], out := [], con := none })]
theorem lock_Locks_Drop_raw : ConOk Go.Proofs.Try.prog X 16 (fun _ args sto K => evBody lock_Locks_Drop_cx (hcN lock_Locks_Drop_cx 1) lock_Locks_Drop_keep [] [] Go.Proofs.Try.f16 (bodyC Go.Proofs.Try.f16) args sto K) :=
  raw_ok2 lock_Locks_Drop_cs 1 Go.Proofs.Try.func16 (by kernel_rfl) (fun R => loops_all 0 (by kernel_rfl) (fun i hi => absurd hi (Nat.not_lt_zero i))) (fun R => joins_all [] (by kernel_rfl) (AllJ.get trivial))

theorem lock_Locks_Drop_T (R : Type) (K : D → Sto → Option R) (x : lock_Locks_Drop_ac.den) : evBody lock_Locks_Drop_cx (hcN lock_Locks_Drop_cx 1) lock_Locks_Drop_keep [] [] Go.Proofs.Try.f16 (bodyC Go.Proofs.Try.f16) (mkSt lock_Locks_Drop_ac x).env (mkSt lock_Locks_Drop_ac x).sto K = lock_Locks_Drop_cps big R (fun a0 a1 a2 => K ((mkSt ⟨[.leaf (.sl .own (.int .i64))], [[.lit (.hw 3), .lit (.hw 4)], [], [], [.arr (.pair (.int .i64) (.pair .str (.pair (.slice .byte) (.pair (.slice .byte) (.pair (.int .i64) .unit)))))], [.arr (.pair (.int .i64) (.pair .str (.pair (.slice .byte) (.pair (.slice .byte) (.pair (.int .i64) .unit)))))]]⟩ (a0, (a1, (a2, ())))).env.headD .any) (mkSt ⟨[.leaf (.sl .own (.int .i64))], [[.lit (.hw 3), .lit (.hw 4)], [], [], [.arr (.pair (.int .i64) (.pair .str (.pair (.slice .byte) (.pair (.slice .byte) (.pair (.int .i64) .unit)))))], [.arr (.pair (.int .i64) (.pair .str (.pair (.slice .byte) (.pair (.slice .byte) (.pair (.int .i64) .unit)))))]]⟩ (a0, (a1, (a2, ())))).sto) x.1 x.2.1 x.2.2.1 := by kernel_rfl
theorem lock_Locks_Drop_ok : ConOk Go.Proofs.Try.prog X 16 lock_Locks_Drop_con :=
  conFn_ok (src := [.arg 0, .cell 0 0, .cell 0 1]) (sh := []) (rs := .leaf (.sl .own (.int .i64))) (rows := [[.lit (.hw 3), .lit (.hw 4)], [], [], [.arr (.pair (.int .i64) (.pair .str (.pair (.slice .byte) (.pair (.slice .byte) (.pair (.int .i64) .unit)))))], [.arr (.pair (.int .i64) (.pair .str (.pair (.slice .byte) (.pair (.slice .byte) (.pair (.int .i64) .unit)))))]]) lock_Locks_Drop_raw (fun R K (x : lock_Locks_Drop_ac.den) => lock_Locks_Drop_cps big R (fun a0 a1 a2 => K (a0, (a1, (a2, ())))) x.1 x.2.1 x.2.2.1) lock_Locks_Drop_T

/-! 22 (*frankpledge/lock.Locks).Waiting -/
def lock_Locks_Waiting_l0c : SCode := ⟨[.leaf (.lit (.any)), .leaf (.lit (.any)), .leaf (.lit (.any)), .leaf (.sl .own (.pair (.int .i64) (.pair .str (.pair (.slice .byte) (.pair (.slice .byte) (.pair (.int .i64) .unit)))))), .leaf (.lit (.any)), .leaf (.lit (.any)), .leaf (.lit (.any)), .leaf (.lit (.any)), .leaf (.lit (.any)), .leaf (.lit (.any)), .leaf (.lit (.any)), .leaf (.lit (.hw 2)), .leaf (.int .i64), .leaf (.int .i64), .leaf (.lit (.any)), .leaf (.lit (.any)), .leaf (.lit (.any)), .leaf (.lit (.any)), .leaf (.lit (.any)), .leaf (.lit (.any)), .leaf (.lit (.any)), .leaf (.lit (.any)), .leaf (.lit (.any)), .leaf (.lit (.any))], [[.lit (.hw 1), .lit (.hw 2)], [.arr (.pair (.int .i64) (.pair .str (.pair (.slice .byte) (.pair (.slice .byte) (.pair (.int .i64) .unit)))))], [.arr (.pair (.int .i64) (.pair .str (.pair (.slice .byte) (.pair (.slice .byte) (.pair (.int .i64) .unit)))))]]⟩
def lock_Locks_Waiting_l0e0 : SCode := ⟨[.leaf (.lit (.any)), .leaf (.lit (.any)), .leaf (.lit (.any)), .leaf (.sl .own (.pair (.int .i64) (.pair .str (.pair (.slice .byte) (.pair (.slice .byte) (.pair (.int .i64) .unit)))))), .leaf (.lit (.any)), .leaf (.lit (.any)), .leaf (.lit (.any)), .leaf (.lit (.any)), .leaf (.lit (.any)), .leaf (.lit (.any)), .leaf (.lit (.any)), .leaf (.lit (.any)), .leaf (.lit (.any)), .leaf (.lit (.any)), .leaf (.lit (.any)), .leaf (.lit (.any)), .leaf (.lit (.any)), .leaf (.lit (.any)), .leaf (.lit (.any)), .leaf (.lit (.any)), .leaf (.lit (.any)), .leaf (.lit (.any)), .leaf (.lit (.any)), .leaf (.lit (.any))], [[.lit (.hw 1), .lit (.hw 2)], [.arr (.pair (.int .i64) (.pair .str (.pair (.slice .byte) (.pair (.slice .byte) (.pair (.int .i64) .unit)))))], [.arr (.pair (.int .i64) (.pair .str (.pair (.slice .byte) (.pair (.slice .byte) (.pair (.int .i64) .unit)))))]]⟩
def lock_Locks_Waiting_l0h : LH := { env := [(3, .own (.pair (.int .i64) (.pair .str (.pair (.slice .byte) (.pair (.slice .byte) (.pair (.int .i64) .unit)))))), (11, .id), (12, .id), (13, .id)], sto := [], out := [(3, .id)], con := some (lconOf lock_Locks_Waiting_l0c fun R k x => lock_Locks_Waiting_l0 big R x.2.2.2.1 x.2.2.2.2.1 (fun a0 => k (.exit 0) (mkSt lock_Locks_Waiting_l0e0 (a0, (x.2.2.2.1, (x.2.2.2.2.1, ()))))) big x.1 x.2.1 x.2.2.1), gc := some 3 }

def lock_Locks_Waiting_ac : SCode := ⟨[.leaf (.lit (.ptr 0 0))], [[.lit (.hw 1), .lit (.hw 2)], [.arr (.pair (.int .i64) (.pair .str (.pair (.slice .byte) (.pair (.slice .byte) (.pair (.int .i64) .unit)))))], [.arr (.pair (.int .i64) (.pair .str (.pair (.slice .byte) (.pair (.slice .byte) (.pair (.int .i64) .unit)))))]]⟩
def lock_Locks_Waiting_con : Con := conCalm [.arg 0, .cell 0 0, .cell 0 1] [] lock_Locks_Waiting_ac (.leaf (.sl .own (.pair (.int .i64) (.pair .str (.pair (.slice .byte) (.pair (.slice .byte) (.pair (.int .i64) .unit))))))) fun x => lock_Locks_Waiting big x.1 x.2.1
theorem lock_Locks_Waiting_bnd {calm : List Nat} {f : Nat} : BndC calm f lock_Locks_Waiting_con := bndCalm
def lock_Locks_Waiting_cx : Cx := { tab := tab, con := [(33, lock_Lock_copied_con)], funs := [], loops := [], want := want, ret := [], calm := [33], bnd := [33], eqs := eqs, xl := true, xs := [49], xd := [] }
theorem lock_Locks_Waiting_cs : CsOk Go.Proofs.Try.prog X lock_Locks_Waiting_cx :=
  csOk ⟨fun _ _ h => tab_ok tabOk h, eqsOk⟩ mixed ⟨lock_Lock_copied_ok, trivial⟩ trivial ⟨lock_Lock_copied_bnd, trivial⟩ rfl

def lock_Locks_Waiting_keep : List (Nat × LH) := [(4, lock_Locks_Waiting_l0h)]
theorem lock_Locks_Waiting_L0s (R : Type) (recS : St → Option R) (k : Exit → St → Option R) (x : lock_Locks_Waiting_l0c.den) : evCode lock_Locks_Waiting_cx (hcN lock_Locks_Waiting_cx 1) lock_Locks_Waiting_keep (loopC Go.Proofs.Try.f22 0) (mkSt lock_Locks_Waiting_l0c x) (fun e st' => match e with | .normal => recS (norm lock_Locks_Waiting_l0h 3 st') | e => k e (normO lock_Locks_Waiting_l0h 3 st')) = (fun rec k x => lock_Locks_Waiting_l0B big R x.2.2.2.1 x.2.2.2.2.1 (fun a0 a1 a2 => rec (a0, (a1, (a2, (x.2.2.2.1, (x.2.2.2.2.1, ())))))) (fun a0 => k (.exit 0) (mkSt lock_Locks_Waiting_l0e0 (a0, (x.2.2.2.1, (x.2.2.2.2.1, ()))))) x.1 x.2.1 x.2.2.1) (fun y => recS (mkSt lock_Locks_Waiting_l0c y)) k x := by kernel_rfl
theorem lock_Locks_Waiting_L0 (R : Type) : LOkR (R := R) lock_Locks_Waiting_cx (hcN lock_Locks_Waiting_cx 1) lock_Locks_Waiting_keep (loopC Go.Proofs.Try.f22 0) :=
  lok_iter (lh := lock_Locks_Waiting_l0h) lock_Locks_Waiting_l0c (fun R n k x => lock_Locks_Waiting_l0 big R x.2.2.2.1 x.2.2.2.2.1 (fun a0 => k (.exit 0) (mkSt lock_Locks_Waiting_l0e0 (a0, (x.2.2.2.1, (x.2.2.2.2.1, ()))))) n x.1 x.2.1 x.2.2.1) (fun _ => big) (fun rec k x => lock_Locks_Waiting_l0B big R x.2.2.2.1 x.2.2.2.2.1 (fun a0 a1 a2 => rec (a0, (a1, (a2, (x.2.2.2.1, (x.2.2.2.2.1, ())))))) (fun a0 => k (.exit 0) (mkSt lock_Locks_Waiting_l0e0 (a0, (x.2.2.2.1, (x.2.2.2.2.1, ()))))) x.1 x.2.1 x.2.2.1) rfl rfl (lock_Locks_Waiting_L0s R) (fun _ _ => rfl) (fun _ _ _ => rfl)

theorem lock_Locks_Waiting_raw : ConOk Go.Proofs.Try.prog X 22 (fun _ args sto K => evBody lock_Locks_Waiting_cx (hcN lock_Locks_Waiting_cx 1) lock_Locks_Waiting_keep [] [] Go.Proofs.Try.f22 (bodyC Go.Proofs.Try.f22) args sto K) :=
  raw_ok lock_Locks_Waiting_cs 1 Go.Proofs.Try.func22 (by kernel_rfl) rfl fun R => loops_all 1 (by kernel_rfl) (fun i hi => match i, hi with | 0, _ => lock_Locks_Waiting_L0 R | n + 1, h => absurd h (by omega))

theorem lock_Locks_Waiting_T (R : Type) (K : D → Sto → Option R) (x : lock_Locks_Waiting_ac.den) : evBody lock_Locks_Waiting_cx (hcN lock_Locks_Waiting_cx 1) lock_Locks_Waiting_keep [] [] Go.Proofs.Try.f22 (bodyC Go.Proofs.Try.f22) (mkSt lock_Locks_Waiting_ac x).env (mkSt lock_Locks_Waiting_ac x).sto K = lock_Locks_Waiting_cps big R (fun a0 => K ((mkE [.leaf (.sl .own (.pair (.int .i64) (.pair .str (.pair (.slice .byte) (.pair (.slice .byte) (.pair (.int .i64) .unit))))))] (T := Unit) (a0, ())).1.headD .any) (mkSt lock_Locks_Waiting_ac x).sto) x.1 x.2.1 := by kernel_rfl
theorem lock_Locks_Waiting_ok : ConOk Go.Proofs.Try.prog X 22 lock_Locks_Waiting_con :=
  conCalm_ok (src := [.arg 0, .cell 0 0, .cell 0 1]) (sh := []) (rs := .leaf (.sl .own (.pair (.int .i64) (.pair .str (.pair (.slice .byte) (.pair (.slice .byte) (.pair (.int .i64) .unit))))))) lock_Locks_Waiting_raw (fun R K (x : lock_Locks_Waiting_ac.den) => lock_Locks_Waiting_cps big R (fun a0 => K (a0, ())) x.1 x.2.1) lock_Locks_Waiting_T

/-! 10 frankpledge/frankpledgelaw09.alive -/
def law09_alive_ac : SCode := ⟨[], []⟩
def law09_alive_con : Con := conCalm [] [] law09_alive_ac (.leaf (.bool)) fun x => law09_alive big 
theorem law09_alive_bnd {calm : List Nat} {f : Nat} : BndC calm f law09_alive_con := bndCalm
def law09_alive_cx : Cx := { tab := tab, con := [(12, lock_New_con), (13, (conOr (fun a s => (prep [.arg 0, .cell 0 0, .cell 0 1] [] lock_Locks_Ask_ac a s).isSome) lock_Locks_Ask_con lock_Locks_Ask_1_con)), (16, lock_Locks_Drop_con), (22, lock_Locks_Waiting_con)], funs := [], loops := [], want := want, ret := [], calm := [22], bnd := [12, 13, 16, 22], eqs := eqs }
theorem law09_alive_cs : CsOk Go.Proofs.Try.prog X law09_alive_cx :=
  csOk ⟨fun _ _ h => tab_ok tabOk h, eqsOk⟩ mixed ⟨lock_New_ok, (conOr_ok lock_Locks_Ask_ok lock_Locks_Ask_1_ok), lock_Locks_Drop_ok, lock_Locks_Waiting_ok, trivial⟩ trivial ⟨lock_New_bnd rfl, (bndOr (lock_Locks_Ask_bnd rfl) (lock_Locks_Ask_1_bnd rfl)), lock_Locks_Drop_bnd rfl, lock_Locks_Waiting_bnd, trivial⟩ rfl

def law09_alive_keep : List (Nat × LH) := []
theorem law09_alive_raw : ConOk Go.Proofs.Try.prog X 10 (fun _ args sto K => evBody law09_alive_cx (hcN law09_alive_cx 1) law09_alive_keep [] [] Go.Proofs.Try.f10 (bodyC Go.Proofs.Try.f10) args sto K) :=
  raw_ok law09_alive_cs 1 Go.Proofs.Try.func10 (by kernel_rfl) rfl fun R => loops_all 0 (by kernel_rfl) (fun i hi => absurd hi (Nat.not_lt_zero i))

theorem law09_alive_T (R : Type) (K : D → Sto → Option R) (x : law09_alive_ac.den) : evBody law09_alive_cx (hcN law09_alive_cx 1) law09_alive_keep [] [] Go.Proofs.Try.f10 (bodyC Go.Proofs.Try.f10) (mkSt law09_alive_ac x).env (mkSt law09_alive_ac x).sto K = law09_alive_cps big R (fun a0 => K ((mkE [.leaf (.bool)] (T := Unit) (a0, ())).1.headD .any) (mkSt law09_alive_ac x).sto)  := by kernel_rfl
theorem law09_alive_ok : ConOk Go.Proofs.Try.prog X 10 law09_alive_con :=
  conCalm_ok (src := []) (sh := []) (rs := .leaf (.bool)) law09_alive_raw (fun R K (x : law09_alive_ac.den) => law09_alive_cps big R (fun a0 => K (a0, ())) ) law09_alive_T

/-! 13 (*frankpledge/lock.Locks).Ask -/
def lock_Locks_Ask_2_ac : SCode := ⟨[.leaf (.lit (.nilp)), .agg [.int .i64, .str, .sl .ro .byte, .sl .ro .byte, .int .i64]], []⟩
def lock_Locks_Ask_2_con : Con := conCalm [] [] lock_Locks_Ask_2_ac (.tup [.l (.bool), .l (.int .i64)]) fun x => lock_Locks_Ask_2 big x.1 x.2.1 x.2.2.1 x.2.2.2.1 x.2.2.2.2.1
theorem lock_Locks_Ask_2_bnd {calm : List Nat} {f : Nat} : BndC calm f lock_Locks_Ask_2_con := bndCalm
def lock_Locks_Ask_2_cx : Cx := { tab := tab, con := [], funs := [], loops := [], want := want, ret := [], calm := [], bnd := [], eqs := eqs }
theorem lock_Locks_Ask_2_cs : CsOk Go.Proofs.Try.prog X lock_Locks_Ask_2_cx :=
  csOk ⟨fun _ _ h => tab_ok tabOk h, eqsOk⟩ mixed trivial trivial trivial rfl

def lock_Locks_Ask_2_keep : List (Nat × LH) := []
theorem lock_Locks_Ask_2_raw : ConOk Go.Proofs.Try.prog X 13 (fun _ args sto K => evBody lock_Locks_Ask_2_cx (hcN lock_Locks_Ask_2_cx 1) lock_Locks_Ask_2_keep [] [] Go.Proofs.Try.f13 (bodyC Go.Proofs.Try.f13) args sto K) :=
  raw_ok lock_Locks_Ask_2_cs 1 Go.Proofs.Try.func13 (by kernel_rfl) rfl fun R => loops_all 0 (by kernel_rfl) (fun i hi => absurd hi (Nat.not_lt_zero i))

theorem lock_Locks_Ask_2_T (R : Type) (K : D → Sto → Option R) (x : lock_Locks_Ask_2_ac.den) : evBody lock_Locks_Ask_2_cx (hcN lock_Locks_Ask_2_cx 1) lock_Locks_Ask_2_keep [] [] Go.Proofs.Try.f13 (bodyC Go.Proofs.Try.f13) (mkSt lock_Locks_Ask_2_ac x).env (mkSt lock_Locks_Ask_2_ac x).sto K = lock_Locks_Ask_2_cps big R (fun a0 a1 => K ((mkE [.tup [.l (.bool), .l (.int .i64)]] (T := Unit) (a0, (a1, ()))).1.headD .any) (mkSt lock_Locks_Ask_2_ac x).sto) x.1 x.2.1 x.2.2.1 x.2.2.2.1 x.2.2.2.2.1 := by kernel_rfl
theorem lock_Locks_Ask_2_ok : ConOk Go.Proofs.Try.prog X 13 lock_Locks_Ask_2_con :=
  conCalm_ok (src := []) (sh := []) (rs := .tup [.l (.bool), .l (.int .i64)]) lock_Locks_Ask_2_raw (fun R K (x : lock_Locks_Ask_2_ac.den) => lock_Locks_Ask_2_cps big R (fun a0 a1 => K (a0, (a1, ()))) x.1 x.2.1 x.2.2.1 x.2.2.2.1 x.2.2.2.2.1) lock_Locks_Ask_2_T

/-! 16 (*frankpledge/lock.Locks).Drop -/
def lock_Locks_Drop_1_ac : SCode := ⟨[.leaf (.lit (.nilp)), .leaf (.int .i64)], []⟩
def lock_Locks_Drop_1_con : Con := conCalm [] [] lock_Locks_Drop_1_ac (.leaf (.lit (.nils))) fun x => lock_Locks_Drop_1 big x.1
theorem lock_Locks_Drop_1_bnd {calm : List Nat} {f : Nat} : BndC calm f lock_Locks_Drop_1_con := bndCalm
def lock_Locks_Drop_1_cx : Cx := { tab := tab, con := [], funs := [], loops := [], want := want, ret := [], calm := [], bnd := [], eqs := eqs }
theorem lock_Locks_Drop_1_cs : CsOk Go.Proofs.Try.prog X lock_Locks_Drop_1_cx :=
  csOk ⟨fun _ _ h => tab_ok tabOk h, eqsOk⟩ mixed trivial trivial trivial rfl

def lock_Locks_Drop_1_keep : List (Nat × LH) := []
theorem lock_Locks_Drop_1_raw : ConOk Go.Proofs.Try.prog X 16 (fun _ args sto K => evBody lock_Locks_Drop_1_cx (hcN lock_Locks_Drop_1_cx 1) lock_Locks_Drop_1_keep [] [] Go.Proofs.Try.f16 (bodyC Go.Proofs.Try.f16) args sto K) :=
  raw_ok lock_Locks_Drop_1_cs 1 Go.Proofs.Try.func16 (by kernel_rfl) rfl fun R => loops_all 0 (by kernel_rfl) (fun i hi => absurd hi (Nat.not_lt_zero i))

theorem lock_Locks_Drop_1_T (R : Type) (K : D → Sto → Option R) (x : lock_Locks_Drop_1_ac.den) : evBody lock_Locks_Drop_1_cx (hcN lock_Locks_Drop_1_cx 1) lock_Locks_Drop_1_keep [] [] Go.Proofs.Try.f16 (bodyC Go.Proofs.Try.f16) (mkSt lock_Locks_Drop_1_ac x).env (mkSt lock_Locks_Drop_1_ac x).sto K = lock_Locks_Drop_1_cps big R (K ((mkE [.leaf (.lit (.nils))] (T := Unit) ()).1.headD .any) (mkSt lock_Locks_Drop_1_ac x).sto) x.1 := by kernel_rfl
theorem lock_Locks_Drop_1_ok : ConOk Go.Proofs.Try.prog X 16 lock_Locks_Drop_1_con :=
  conCalm_ok (src := []) (sh := []) (rs := .leaf (.lit (.nils))) lock_Locks_Drop_1_raw (fun R K (x : lock_Locks_Drop_1_ac.den) => lock_Locks_Drop_1_cps big R (K ()) x.1) lock_Locks_Drop_1_T

/-! 18 (*frankpledge/lock.Locks).Cancel -/
def lock_Locks_Cancel_1_ac : SCode := ⟨[.leaf (.lit (.nilp)), .leaf (.int .i64)], []⟩
def lock_Locks_Cancel_1_con : Con := conCalm [] [] lock_Locks_Cancel_1_ac (.leaf (.lit (.nils))) fun x => lock_Locks_Cancel_1 big x.1
theorem lock_Locks_Cancel_1_bnd {calm : List Nat} {f : Nat} : BndC calm f lock_Locks_Cancel_1_con := bndCalm
def lock_Locks_Cancel_1_cx : Cx := { tab := tab, con := [], funs := [], loops := [], want := want, ret := [], calm := [], bnd := [], eqs := eqs }
theorem lock_Locks_Cancel_1_cs : CsOk Go.Proofs.Try.prog X lock_Locks_Cancel_1_cx :=
  csOk ⟨fun _ _ h => tab_ok tabOk h, eqsOk⟩ mixed trivial trivial trivial rfl

def lock_Locks_Cancel_1_keep : List (Nat × LH) := []
theorem lock_Locks_Cancel_1_raw : ConOk Go.Proofs.Try.prog X 18 (fun _ args sto K => evBody lock_Locks_Cancel_1_cx (hcN lock_Locks_Cancel_1_cx 1) lock_Locks_Cancel_1_keep [] [] Go.Proofs.Try.f18 (bodyC Go.Proofs.Try.f18) args sto K) :=
  raw_ok lock_Locks_Cancel_1_cs 1 Go.Proofs.Try.func18 (by kernel_rfl) rfl fun R => loops_all 0 (by kernel_rfl) (fun i hi => absurd hi (Nat.not_lt_zero i))

theorem lock_Locks_Cancel_1_T (R : Type) (K : D → Sto → Option R) (x : lock_Locks_Cancel_1_ac.den) : evBody lock_Locks_Cancel_1_cx (hcN lock_Locks_Cancel_1_cx 1) lock_Locks_Cancel_1_keep [] [] Go.Proofs.Try.f18 (bodyC Go.Proofs.Try.f18) (mkSt lock_Locks_Cancel_1_ac x).env (mkSt lock_Locks_Cancel_1_ac x).sto K = lock_Locks_Cancel_1_cps big R (K ((mkE [.leaf (.lit (.nils))] (T := Unit) ()).1.headD .any) (mkSt lock_Locks_Cancel_1_ac x).sto) x.1 := by kernel_rfl
theorem lock_Locks_Cancel_1_ok : ConOk Go.Proofs.Try.prog X 18 lock_Locks_Cancel_1_con :=
  conCalm_ok (src := []) (sh := []) (rs := .leaf (.lit (.nils))) lock_Locks_Cancel_1_raw (fun R K (x : lock_Locks_Cancel_1_ac.den) => lock_Locks_Cancel_1_cps big R (K ()) x.1) lock_Locks_Cancel_1_T

/-! 23 (*frankpledge/lock.Locks).Granted -/
def lock_Locks_Granted_1_ac : SCode := ⟨[.leaf (.lit (.nilp)), .leaf (.int .i64)], []⟩
def lock_Locks_Granted_1_con : Con := conCalm [] [] lock_Locks_Granted_1_ac (.leaf (.lit (.nils))) fun x => lock_Locks_Granted_1 big x.1
theorem lock_Locks_Granted_1_bnd {calm : List Nat} {f : Nat} : BndC calm f lock_Locks_Granted_1_con := bndCalm
def lock_Locks_Granted_1_cx : Cx := { tab := tab, con := [], funs := [], loops := [], want := want, ret := [], calm := [], bnd := [], eqs := eqs }
theorem lock_Locks_Granted_1_cs : CsOk Go.Proofs.Try.prog X lock_Locks_Granted_1_cx :=
  csOk ⟨fun _ _ h => tab_ok tabOk h, eqsOk⟩ mixed trivial trivial trivial rfl

def lock_Locks_Granted_1_keep : List (Nat × LH) := []
theorem lock_Locks_Granted_1_L0 (R : Type) : LOkR (R := R) lock_Locks_Granted_1_cx (hcN lock_Locks_Granted_1_cx 1) lock_Locks_Granted_1_keep (loopC Go.Proofs.Try.f23 0) := lok_none (by kernel_rfl)

theorem lock_Locks_Granted_1_raw : ConOk Go.Proofs.Try.prog X 23 (fun _ args sto K => evBody lock_Locks_Granted_1_cx (hcN lock_Locks_Granted_1_cx 1) lock_Locks_Granted_1_keep [] [] Go.Proofs.Try.f23 (bodyC Go.Proofs.Try.f23) args sto K) :=
  raw_ok lock_Locks_Granted_1_cs 1 Go.Proofs.Try.func23 (by kernel_rfl) rfl fun R => loops_all 1 (by kernel_rfl) (fun i hi => match i, hi with | 0, _ => lock_Locks_Granted_1_L0 R | n + 1, h => absurd h (by omega))

theorem lock_Locks_Granted_1_T (R : Type) (K : D → Sto → Option R) (x : lock_Locks_Granted_1_ac.den) : evBody lock_Locks_Granted_1_cx (hcN lock_Locks_Granted_1_cx 1) lock_Locks_Granted_1_keep [] [] Go.Proofs.Try.f23 (bodyC Go.Proofs.Try.f23) (mkSt lock_Locks_Granted_1_ac x).env (mkSt lock_Locks_Granted_1_ac x).sto K = lock_Locks_Granted_1_cps big R (K ((mkE [.leaf (.lit (.nils))] (T := Unit) ()).1.headD .any) (mkSt lock_Locks_Granted_1_ac x).sto) x.1 := by kernel_rfl
theorem lock_Locks_Granted_1_ok : ConOk Go.Proofs.Try.prog X 23 lock_Locks_Granted_1_con :=
  conCalm_ok (src := []) (sh := []) (rs := .leaf (.lit (.nils))) lock_Locks_Granted_1_raw (fun R K (x : lock_Locks_Granted_1_ac.den) => lock_Locks_Granted_1_cps big R (K ()) x.1) lock_Locks_Granted_1_T

/-! 22 (*frankpledge/lock.Locks).Waiting -/
def lock_Locks_Waiting_1_ac : SCode := ⟨[.leaf (.lit (.nilp))], []⟩
def lock_Locks_Waiting_1_con : Con := conCalm [] [] lock_Locks_Waiting_1_ac (.leaf (.lit (.nils))) fun x => lock_Locks_Waiting_1 big 
theorem lock_Locks_Waiting_1_bnd {calm : List Nat} {f : Nat} : BndC calm f lock_Locks_Waiting_1_con := bndCalm
def lock_Locks_Waiting_1_cx : Cx := { tab := tab, con := [], funs := [], loops := [], want := want, ret := [], calm := [], bnd := [], eqs := eqs }
theorem lock_Locks_Waiting_1_cs : CsOk Go.Proofs.Try.prog X lock_Locks_Waiting_1_cx :=
  csOk ⟨fun _ _ h => tab_ok tabOk h, eqsOk⟩ mixed trivial trivial trivial rfl

def lock_Locks_Waiting_1_keep : List (Nat × LH) := []
theorem lock_Locks_Waiting_1_L0 (R : Type) : LOkR (R := R) lock_Locks_Waiting_1_cx (hcN lock_Locks_Waiting_1_cx 1) lock_Locks_Waiting_1_keep (loopC Go.Proofs.Try.f22 0) := lok_none (by kernel_rfl)

theorem lock_Locks_Waiting_1_raw : ConOk Go.Proofs.Try.prog X 22 (fun _ args sto K => evBody lock_Locks_Waiting_1_cx (hcN lock_Locks_Waiting_1_cx 1) lock_Locks_Waiting_1_keep [] [] Go.Proofs.Try.f22 (bodyC Go.Proofs.Try.f22) args sto K) :=
  raw_ok lock_Locks_Waiting_1_cs 1 Go.Proofs.Try.func22 (by kernel_rfl) rfl fun R => loops_all 1 (by kernel_rfl) (fun i hi => match i, hi with | 0, _ => lock_Locks_Waiting_1_L0 R | n + 1, h => absurd h (by omega))

theorem lock_Locks_Waiting_1_T (R : Type) (K : D → Sto → Option R) (x : lock_Locks_Waiting_1_ac.den) : evBody lock_Locks_Waiting_1_cx (hcN lock_Locks_Waiting_1_cx 1) lock_Locks_Waiting_1_keep [] [] Go.Proofs.Try.f22 (bodyC Go.Proofs.Try.f22) (mkSt lock_Locks_Waiting_1_ac x).env (mkSt lock_Locks_Waiting_1_ac x).sto K = lock_Locks_Waiting_1_cps big R (K ((mkE [.leaf (.lit (.nils))] (T := Unit) ()).1.headD .any) (mkSt lock_Locks_Waiting_1_ac x).sto)  := by kernel_rfl
theorem lock_Locks_Waiting_1_ok : ConOk Go.Proofs.Try.prog X 22 lock_Locks_Waiting_1_con :=
  conCalm_ok (src := []) (sh := []) (rs := .leaf (.lit (.nils))) lock_Locks_Waiting_1_raw (fun R K (x : lock_Locks_Waiting_1_ac.den) => lock_Locks_Waiting_1_cps big R (K ()) ) lock_Locks_Waiting_1_T

/-! 7 frankpledge/frankpledgelaw09.LockNil -/
def law09_LockNil_ac : SCode := ⟨[.agg [.int .i64, .str, .sl .ro .byte, .sl .ro .byte, .int .i64]], []⟩
def law09_LockNil_con : Con := conCalm [] [] law09_LockNil_ac (.leaf (.bool)) fun x => law09_LockNil big x.1 x.2.1 x.2.2.1 x.2.2.2.1 x.2.2.2.2.1
theorem law09_LockNil_bnd {calm : List Nat} {f : Nat} : BndC calm f law09_LockNil_con := bndCalm
def law09_LockNil_cx : Cx := { tab := tab, con := [(10, law09_alive_con), (13, lock_Locks_Ask_2_con), (16, lock_Locks_Drop_1_con), (18, lock_Locks_Cancel_1_con), (22, lock_Locks_Waiting_1_con), (23, lock_Locks_Granted_1_con)], funs := [], loops := [], want := want, ret := [], calm := [10, 13, 16, 18, 22, 23], bnd := [10, 13, 16, 18, 22, 23], eqs := eqs }
theorem law09_LockNil_cs : CsOk Go.Proofs.Try.prog X law09_LockNil_cx :=
  csOk ⟨fun _ _ h => tab_ok tabOk h, eqsOk⟩ mixed ⟨law09_alive_ok, lock_Locks_Ask_2_ok, lock_Locks_Drop_1_ok, lock_Locks_Cancel_1_ok, lock_Locks_Waiting_1_ok, lock_Locks_Granted_1_ok, trivial⟩ trivial ⟨law09_alive_bnd, lock_Locks_Ask_2_bnd, lock_Locks_Drop_1_bnd, lock_Locks_Cancel_1_bnd, lock_Locks_Waiting_1_bnd, lock_Locks_Granted_1_bnd, trivial⟩ rfl

def law09_LockNil_keep : List (Nat × LH) := []
theorem law09_LockNil_raw : ConOk Go.Proofs.Try.prog X 7 (fun _ args sto K => evBody law09_LockNil_cx (hcN law09_LockNil_cx 1) law09_LockNil_keep [] [] Go.Proofs.Try.f7 (bodyC Go.Proofs.Try.f7) args sto K) :=
  raw_ok law09_LockNil_cs 1 Go.Proofs.Try.func7 (by kernel_rfl) rfl fun R => loops_all 0 (by kernel_rfl) (fun i hi => absurd hi (Nat.not_lt_zero i))

theorem law09_LockNil_T (R : Type) (K : D → Sto → Option R) (x : law09_LockNil_ac.den) : evBody law09_LockNil_cx (hcN law09_LockNil_cx 1) law09_LockNil_keep [] [] Go.Proofs.Try.f7 (bodyC Go.Proofs.Try.f7) (mkSt law09_LockNil_ac x).env (mkSt law09_LockNil_ac x).sto K = law09_LockNil_cps big R (fun a0 => K ((mkE [.leaf (.bool)] (T := Unit) (a0, ())).1.headD .any) (mkSt law09_LockNil_ac x).sto) x.1 x.2.1 x.2.2.1 x.2.2.2.1 x.2.2.2.2.1 := by kernel_rfl
theorem law09_LockNil_ok : ConOk Go.Proofs.Try.prog X 7 law09_LockNil_con :=
  conCalm_ok (src := []) (sh := []) (rs := .leaf (.bool)) law09_LockNil_raw (fun R K (x : law09_LockNil_ac.den) => law09_LockNil_cps big R (fun a0 => K (a0, ())) x.1 x.2.1 x.2.2.1 x.2.2.2.1 x.2.2.2.2.1) law09_LockNil_T


end
end Go.Proofs.Ytkeejnlicagjiab.E
