/-
  The statement LetterSame of the program is proved: for every input that the row speaks of, the law answers true.
  Conditions: those that the statement's row prints, and no other. This text: the walk: the code comes to the pure functions.
-/
import Derived.Test.YtkeejnlicagjiaaEvD
import Derived.KernelRfl
import Derived.Test.YtkeejnlicagjiaaRows
import Derived.Test.YtkeejnlicagjiaaLetterSameF
set_option linter.unusedVariables false
set_option linter.unusedSimpArgs false
/-! The walk, printed by wip/gen out of the translation. -/
namespace Go.Proofs.Ytkeejnlicagjiaa.E
open Go.Ev Go.ChangeShapes
set_option maxRecDepth 100000
noncomputable section
noncomputable def tab : List (Nat × TE) := [(2, { d := .int .i64, size := 1, bytes := 8, agg := false, ty := some (.int .i64), zero := [.int .i64 0] }),
  (3, { d := .int .i64, size := 1, bytes := 8, agg := false, ty := some (.int .i64), zero := [.int .i64 0] }),
  (4, { d := .bool, size := 1, bytes := 1, agg := false, ty := some .bool, zero := [.bool false] }),
  (5, { d := .int .u8, size := 1, bytes := 1, agg := false, ty := some .byte, zero := [.int .u8 0] }),
  (9, { d := .str, size := 1, bytes := 16, agg := false, ty := some .str, zero := [.str []] }),
  (22, { d := .slice 31, size := 1, bytes := 24, agg := false, ty := some (.slice (.pair (.int .i64) (.pair (.int .i64) (.pair .str .unit)))), zero := [.nils] }),
  (24, { d := .slice 5, size := 1, bytes := 24, agg := false, ty := some (.slice .byte), zero := [.nils] }),
  (29, { d := .int .i64, size := 1, bytes := 8, agg := false, ty := some (.int .i64), zero := [.int .i64 0] }),
  (31, { d := .struct [⟨0, 1, false⟩, ⟨1, 1, false⟩, ⟨2, 1, false⟩], size := 3, bytes := 32, agg := true, ty := some (.pair (.int .i64) (.pair (.int .i64) (.pair .str .unit))), zero := [.int .i64 0, .int .i64 0, .str []] }),
  (59, { d := .int .i64, size := 1, bytes := 8, agg := false, ty := some (.int .i64), zero := [.int .i64 0] }),
  (60, { d := .slice 3, size := 1, bytes := 24, agg := false, ty := some (.slice (.int .i64)), zero := [.nils] }),
  (62, { d := .struct [⟨0, 1, false⟩, ⟨1, 1, false⟩, ⟨2, 1, false⟩, ⟨3, 1, false⟩, ⟨4, 1, false⟩], size := 5, bytes := 56, agg := true, ty := some (.pair (.int .i64) (.pair (.int .i64) (.pair (.int .i64) (.pair (.int .i64) (.pair (.slice (.int .i64)) .unit))))), zero := [.int .i64 0, .int .i64 0, .int .i64 0, .int .i64 0, .nils] }),
  (80, { d := .int .u64, size := 1, bytes := 8, agg := false, ty := some (.int .u64), zero := [.int .u64 0] })]
def want : List (Nat × List Nat) := []
def eqs : List (Nat × List EK) := []
theorem tabOk : tabB Go.Proofs.Try.prog tab = true := by kernel_rfl
def X : Cfg := ⟨0, 0⟩
theorem mixed : Go.Proofs.Try.prog.follows .mixedOrders = true := by kernel_rfl
theorem eqsOk : ∀ t ks, Go.Ev.look eqs t = some ks → eqTB Go.Proofs.Try.prog t ks = true := allEq_get (by kernel_rfl)
/-! 70 frankpledge/letter.node -/
def letter_node_ac : SCode := ⟨[.leaf (.int .i64)], []⟩
def letter_node_con : Con := conCalm [] [] letter_node_ac (.leaf (.bool)) fun x => letter_node big x.1
theorem letter_node_bnd {calm : List Nat} {f : Nat} : BndC calm f letter_node_con := bndCalm
def letter_node_cx : Cx := { tab := tab, con := [], funs := [], loops := [], want := want, ret := [], calm := [], bnd := [], eqs := eqs }
theorem letter_node_cs : CsOk Go.Proofs.Try.prog X letter_node_cx :=
  csOk ⟨fun _ _ h => tab_ok tabOk h, eqsOk⟩ mixed trivial trivial trivial rfl

def letter_node_keep : List (Nat × LH) := []
theorem letter_node_raw : ConOk Go.Proofs.Try.prog X 70 (fun _ args sto K => evBody letter_node_cx (hcN letter_node_cx 1) letter_node_keep [] [] Go.Proofs.Try.f70 (bodyC Go.Proofs.Try.f70) args sto K) :=
  raw_ok letter_node_cs 1 Go.Proofs.Try.func70 (by kernel_rfl) rfl fun R => loops_all 0 (by kernel_rfl) (fun i hi => absurd hi (Nat.not_lt_zero i))

theorem letter_node_T (R : Type) (K : D → Sto → Option R) (x : letter_node_ac.den) : evBody letter_node_cx (hcN letter_node_cx 1) letter_node_keep [] [] Go.Proofs.Try.f70 (bodyC Go.Proofs.Try.f70) (mkSt letter_node_ac x).env (mkSt letter_node_ac x).sto K = letter_node_cps big R (fun a0 => K ((mkE [.leaf (.bool)] (T := Unit) (a0, ())).1.headD .any) (mkSt letter_node_ac x).sto) x.1 := by kernel_rfl
theorem letter_node_ok : ConOk Go.Proofs.Try.prog X 70 letter_node_con :=
  conCalm_ok (src := []) (sh := []) (rs := .leaf (.bool)) letter_node_raw (fun R K (x : letter_node_ac.den) => letter_node_cps big R (fun a0 => K (a0, ())) x.1) letter_node_T

/-! 72 frankpledge/letter.Right$1 -/
def letter_Right_1_ac : SCode := ⟨[.leaf (.int .i64), .leaf (.lit (.ptr 0 0))], [[.int .i64]]⟩
def letter_Right_1_con : Con := conFn [.arg 1] [] letter_Right_1_ac (.leaf (.bool)) [[.int .i64]] fun x => letter_Right_1 big x.1 x.2.1
theorem letter_Right_1_bnd {calm : List Nat} {f : Nat} (hf : calm.any (Nat.beq f) = false) : BndC calm f letter_Right_1_con := bndFn hf
def letter_Right_1_cx : Cx := { tab := tab, con := [(70, letter_node_con)], funs := [], loops := [], want := want, ret := [], calm := [70], bnd := [70], eqs := eqs }
theorem letter_Right_1_cs : CsOk Go.Proofs.Try.prog X letter_Right_1_cx :=
  csOk ⟨fun _ _ h => tab_ok tabOk h, eqsOk⟩ mixed ⟨letter_node_ok, trivial⟩ trivial ⟨letter_node_bnd, trivial⟩ rfl

def letter_Right_1_keep : List (Nat × LH) := []
theorem letter_Right_1_raw : ConOk Go.Proofs.Try.prog X 72 (fun _ args sto K => evBody letter_Right_1_cx (hcN letter_Right_1_cx 1) letter_Right_1_keep [] [] Go.Proofs.Try.f72 (bodyC Go.Proofs.Try.f72) args sto K) :=
  raw_ok letter_Right_1_cs 1 Go.Proofs.Try.func72 (by kernel_rfl) rfl fun R => loops_all 0 (by kernel_rfl) (fun i hi => absurd hi (Nat.not_lt_zero i))

theorem letter_Right_1_T (R : Type) (K : D → Sto → Option R) (x : letter_Right_1_ac.den) : evBody letter_Right_1_cx (hcN letter_Right_1_cx 1) letter_Right_1_keep [] [] Go.Proofs.Try.f72 (bodyC Go.Proofs.Try.f72) (mkSt letter_Right_1_ac x).env (mkSt letter_Right_1_ac x).sto K = letter_Right_1_cps big R (fun a0 a1 => K ((mkSt ⟨[.leaf (.bool)], [[.int .i64]]⟩ (a0, (a1, ()))).env.headD .any) (mkSt ⟨[.leaf (.bool)], [[.int .i64]]⟩ (a0, (a1, ()))).sto) x.1 x.2.1 := by kernel_rfl
theorem letter_Right_1_ok : ConOk Go.Proofs.Try.prog X 72 letter_Right_1_con :=
  conFn_ok (src := [.arg 1]) (sh := []) (rs := .leaf (.bool)) (rows := [[.int .i64]]) letter_Right_1_raw (fun R K (x : letter_Right_1_ac.den) => letter_Right_1_cps big R (fun a0 a1 => K (a0, (a1, ()))) x.1 x.2.1) letter_Right_1_T

/-! 84 slices.IndexFunc[[]int,int] -/
def slices_IndexFunc_int_int_l0c : SCode := ⟨[.leaf (.sl .ro (.int .i64)), .fn 72 [.lit (.ptr 0 0)], .leaf (.lit (.any)), .leaf (.lit (.any)), .leaf (.lit (.any)), .leaf (.lit (.any)), .leaf (.lit (.any)), .leaf (.int .i64), .leaf (.int .i64), .leaf (.lit (.any)), .leaf (.lit (.any)), .leaf (.lit (.any)), .leaf (.lit (.any)), .leaf (.lit (.any)), .leaf (.lit (.any)), .leaf (.lit (.any)), .leaf (.lit (.any)), .leaf (.lit (.any)), .leaf (.lit (.any))], [[.int .i64]]⟩
def slices_IndexFunc_int_int_l0e0 : SCode := ⟨[.leaf (.lit (.any)), .leaf (.lit (.any)), .leaf (.lit (.any)), .leaf (.lit (.any)), .leaf (.lit (.any)), .leaf (.lit (.any)), .leaf (.lit (.any)), .leaf (.lit (.any)), .leaf (.lit (.any)), .leaf (.lit (.any)), .leaf (.lit (.any)), .leaf (.lit (.any)), .leaf (.lit (.any)), .leaf (.lit (.any)), .leaf (.lit (.any)), .leaf (.lit (.any)), .leaf (.lit (.any)), .leaf (.lit (.any)), .leaf (.lit (.any))], [[.int .i64]]⟩
def slices_IndexFunc_int_int_l0e1 : SCode := ⟨[.leaf (.lit (.any)), .leaf (.lit (.any)), .leaf (.lit (.any)), .leaf (.lit (.any)), .leaf (.int .i64), .leaf (.lit (.any)), .leaf (.lit (.any)), .leaf (.lit (.any)), .leaf (.lit (.any)), .leaf (.lit (.any)), .leaf (.lit (.any)), .leaf (.lit (.any)), .leaf (.lit (.any)), .leaf (.lit (.any)), .leaf (.lit (.any)), .leaf (.lit (.any)), .leaf (.lit (.any)), .leaf (.lit (.any)), .leaf (.lit (.any))], [[.int .i64]]⟩
def slices_IndexFunc_int_int_l0h : LH := { env := [(0, .id), (1, .id), (7, .id), (8, .id)], sto := [], out := [(4, .id)], con := some (lconOf slices_IndexFunc_int_int_l0c fun R k x => slices_IndexFunc_int_int_l0 big R (fun a0 => k (.exit 0) (mkSt slices_IndexFunc_int_int_l0e0 (a0, ()))) (fun a0 a1 => k .ret (mkSt slices_IndexFunc_int_int_l0e1 (a0, (a1, ())))) big x.1 x.2.1 x.2.2.1 x.2.2.2.1) }

def slices_IndexFunc_int_int_ac : SCode := ⟨[.leaf (.sl .ro (.int .i64)), .fn 72 [.lit (.ptr 0 0)]], [[.int .i64]]⟩
def slices_IndexFunc_int_int_con : Con := conFn [.cap 1 0] [] slices_IndexFunc_int_int_ac (.leaf (.int .i64)) [[.int .i64]] fun x => slices_IndexFunc_int_int big x.1 x.2.1
theorem slices_IndexFunc_int_int_bnd {calm : List Nat} {f : Nat} (hf : calm.any (Nat.beq f) = false) : BndC calm f slices_IndexFunc_int_int_con := bndFn hf
def slices_IndexFunc_int_int_cx : Cx := { tab := tab, con := [(72, letter_Right_1_con)], funs := [], loops := [], want := want, ret := [], calm := [], bnd := [72], eqs := eqs }
theorem slices_IndexFunc_int_int_cs : CsOk Go.Proofs.Try.prog X slices_IndexFunc_int_int_cx :=
  csOk ⟨fun _ _ h => tab_ok tabOk h, eqsOk⟩ mixed ⟨letter_Right_1_ok, trivial⟩ trivial ⟨letter_Right_1_bnd rfl, trivial⟩ rfl

def slices_IndexFunc_int_int_keep : List (Nat × LH) := [(2, slices_IndexFunc_int_int_l0h)]
theorem slices_IndexFunc_int_int_L0s (R : Type) (recS : St → Option R) (k : Exit → St → Option R) (x : slices_IndexFunc_int_int_l0c.den) : evCode slices_IndexFunc_int_int_cx (hcN slices_IndexFunc_int_int_cx 1) slices_IndexFunc_int_int_keep (loopC Go.Proofs.Try.f84 0) (mkSt slices_IndexFunc_int_int_l0c x) (fun e st' => match e with | .normal => recS (norm slices_IndexFunc_int_int_l0h 1 st') | e => k e (normO slices_IndexFunc_int_int_l0h 1 st')) = (fun rec k x => slices_IndexFunc_int_int_l0B big R (fun a0 a1 a2 a3 => rec (a0, (a1, (a2, (a3, ()))))) (fun a0 => k (.exit 0) (mkSt slices_IndexFunc_int_int_l0e0 (a0, ()))) (fun a0 a1 => k .ret (mkSt slices_IndexFunc_int_int_l0e1 (a0, (a1, ())))) x.1 x.2.1 x.2.2.1 x.2.2.2.1) (fun y => recS (mkSt slices_IndexFunc_int_int_l0c y)) k x := by kernel_rfl
theorem slices_IndexFunc_int_int_L0 (R : Type) : LOkR (R := R) slices_IndexFunc_int_int_cx (hcN slices_IndexFunc_int_int_cx 1) slices_IndexFunc_int_int_keep (loopC Go.Proofs.Try.f84 0) :=
  lok_iter (lh := slices_IndexFunc_int_int_l0h) slices_IndexFunc_int_int_l0c (fun R n k x => slices_IndexFunc_int_int_l0 big R (fun a0 => k (.exit 0) (mkSt slices_IndexFunc_int_int_l0e0 (a0, ()))) (fun a0 a1 => k .ret (mkSt slices_IndexFunc_int_int_l0e1 (a0, (a1, ())))) n x.1 x.2.1 x.2.2.1 x.2.2.2.1) (fun _ => big) (fun rec k x => slices_IndexFunc_int_int_l0B big R (fun a0 a1 a2 a3 => rec (a0, (a1, (a2, (a3, ()))))) (fun a0 => k (.exit 0) (mkSt slices_IndexFunc_int_int_l0e0 (a0, ()))) (fun a0 a1 => k .ret (mkSt slices_IndexFunc_int_int_l0e1 (a0, (a1, ())))) x.1 x.2.1 x.2.2.1 x.2.2.2.1) rfl rfl (slices_IndexFunc_int_int_L0s R) (fun _ _ => rfl) (fun _ _ _ => rfl)

theorem slices_IndexFunc_int_int_raw : ConOk Go.Proofs.Try.prog X 84 (fun _ args sto K => evBody slices_IndexFunc_int_int_cx (hcN slices_IndexFunc_int_int_cx 1) slices_IndexFunc_int_int_keep [] [] Go.Proofs.Try.f84 (bodyC Go.Proofs.Try.f84) args sto K) :=
  raw_ok slices_IndexFunc_int_int_cs 1 Go.Proofs.Try.func84 (by kernel_rfl) rfl fun R => loops_all 1 (by kernel_rfl) (fun i hi => match i, hi with | 0, _ => slices_IndexFunc_int_int_L0 R | n + 1, h => absurd h (by omega))

theorem slices_IndexFunc_int_int_T (R : Type) (K : D → Sto → Option R) (x : slices_IndexFunc_int_int_ac.den) : evBody slices_IndexFunc_int_int_cx (hcN slices_IndexFunc_int_int_cx 1) slices_IndexFunc_int_int_keep [] [] Go.Proofs.Try.f84 (bodyC Go.Proofs.Try.f84) (mkSt slices_IndexFunc_int_int_ac x).env (mkSt slices_IndexFunc_int_int_ac x).sto K = slices_IndexFunc_int_int_cps big R (fun a0 a1 => K ((mkSt ⟨[.leaf (.int .i64)], [[.int .i64]]⟩ (a0, (a1, ()))).env.headD .any) (mkSt ⟨[.leaf (.int .i64)], [[.int .i64]]⟩ (a0, (a1, ()))).sto) x.1 x.2.1 := by kernel_rfl
theorem slices_IndexFunc_int_int_ok : ConOk Go.Proofs.Try.prog X 84 slices_IndexFunc_int_int_con :=
  conFn_ok (src := [.cap 1 0]) (sh := []) (rs := .leaf (.int .i64)) (rows := [[.int .i64]]) slices_IndexFunc_int_int_raw (fun R K (x : slices_IndexFunc_int_int_ac.den) => slices_IndexFunc_int_int_cps big R (fun a0 a1 => K (a0, (a1, ()))) x.1 x.2.1) slices_IndexFunc_int_int_T

/-! 71 slices.ContainsFunc[[]int,int] -/
def slices_ContainsFunc_int_int_ac : SCode := ⟨[.leaf (.sl .ro (.int .i64)), .fn 72 [.lit (.ptr 0 0)]], [[.int .i64]]⟩
def slices_ContainsFunc_int_int_con : Con := conFn [.cap 1 0] [] slices_ContainsFunc_int_int_ac (.leaf (.bool)) [[.int .i64]] fun x => slices_ContainsFunc_int_int big x.1 x.2.1
theorem slices_ContainsFunc_int_int_bnd {calm : List Nat} {f : Nat} (hf : calm.any (Nat.beq f) = false) : BndC calm f slices_ContainsFunc_int_int_con := bndFn hf
def slices_ContainsFunc_int_int_cx : Cx := { tab := tab, con := [(84, slices_IndexFunc_int_int_con)], funs := [], loops := [], want := want, ret := [], calm := [], bnd := [84], eqs := eqs }
theorem slices_ContainsFunc_int_int_cs : CsOk Go.Proofs.Try.prog X slices_ContainsFunc_int_int_cx :=
  csOk ⟨fun _ _ h => tab_ok tabOk h, eqsOk⟩ mixed ⟨slices_IndexFunc_int_int_ok, trivial⟩ trivial ⟨slices_IndexFunc_int_int_bnd rfl, trivial⟩ rfl

def slices_ContainsFunc_int_int_keep : List (Nat × LH) := []
theorem slices_ContainsFunc_int_int_raw : ConOk Go.Proofs.Try.prog X 71 (fun _ args sto K => evBody slices_ContainsFunc_int_int_cx (hcN slices_ContainsFunc_int_int_cx 1) slices_ContainsFunc_int_int_keep [] [] Go.Proofs.Try.f71 (bodyC Go.Proofs.Try.f71) args sto K) :=
  raw_ok slices_ContainsFunc_int_int_cs 1 Go.Proofs.Try.func71 (by kernel_rfl) rfl fun R => loops_all 0 (by kernel_rfl) (fun i hi => absurd hi (Nat.not_lt_zero i))

theorem slices_ContainsFunc_int_int_T (R : Type) (K : D → Sto → Option R) (x : slices_ContainsFunc_int_int_ac.den) : evBody slices_ContainsFunc_int_int_cx (hcN slices_ContainsFunc_int_int_cx 1) slices_ContainsFunc_int_int_keep [] [] Go.Proofs.Try.f71 (bodyC Go.Proofs.Try.f71) (mkSt slices_ContainsFunc_int_int_ac x).env (mkSt slices_ContainsFunc_int_int_ac x).sto K = slices_ContainsFunc_int_int_cps big R (fun a0 a1 => K ((mkSt ⟨[.leaf (.bool)], [[.int .i64]]⟩ (a0, (a1, ()))).env.headD .any) (mkSt ⟨[.leaf (.bool)], [[.int .i64]]⟩ (a0, (a1, ()))).sto) x.1 x.2.1 := by kernel_rfl
theorem slices_ContainsFunc_int_int_ok : ConOk Go.Proofs.Try.prog X 71 slices_ContainsFunc_int_int_con :=
  conFn_ok (src := [.cap 1 0]) (sh := []) (rs := .leaf (.bool)) (rows := [[.int .i64]]) slices_ContainsFunc_int_int_raw (fun R K (x : slices_ContainsFunc_int_int_ac.den) => slices_ContainsFunc_int_int_cps big R (fun a0 a1 => K (a0, (a1, ()))) x.1 x.2.1) slices_ContainsFunc_int_int_T

/-! 58 frankpledge/letter.Right -/
def letter_Right_ac : SCode := ⟨[.agg [.int .i64, .int .i64, .int .i64, .int .i64, .sl .ro (.int .i64)]], []⟩
def letter_Right_con : Con := conCalm [] [] letter_Right_ac (.leaf (.bool)) fun x => letter_Right big x.1 x.2.1 x.2.2.1 x.2.2.2.1 x.2.2.2.2.1
theorem letter_Right_bnd {calm : List Nat} {f : Nat} : BndC calm f letter_Right_con := bndCalm
def letter_Right_cx : Cx := { tab := tab, con := [(70, letter_node_con), (71, slices_ContainsFunc_int_int_con)], funs := [], loops := [], want := want, ret := [], calm := [70], bnd := [70, 71], eqs := eqs }
theorem letter_Right_cs : CsOk Go.Proofs.Try.prog X letter_Right_cx :=
  csOk ⟨fun _ _ h => tab_ok tabOk h, eqsOk⟩ mixed ⟨letter_node_ok, slices_ContainsFunc_int_int_ok, trivial⟩ trivial ⟨letter_node_bnd, slices_ContainsFunc_int_int_bnd rfl, trivial⟩ rfl

def letter_Right_keep : List (Nat × LH) := []
theorem letter_Right_raw : ConOk Go.Proofs.Try.prog X 58 (fun _ args sto K => evBody letter_Right_cx (hcN letter_Right_cx 1) letter_Right_keep [] [] Go.Proofs.Try.f58 (bodyC Go.Proofs.Try.f58) args sto K) :=
  raw_ok letter_Right_cs 1 Go.Proofs.Try.func58 (by kernel_rfl) rfl fun R => loops_all 0 (by kernel_rfl) (fun i hi => absurd hi (Nat.not_lt_zero i))

theorem letter_Right_T (R : Type) (K : D → Sto → Option R) (x : letter_Right_ac.den) : evBody letter_Right_cx (hcN letter_Right_cx 1) letter_Right_keep [] [] Go.Proofs.Try.f58 (bodyC Go.Proofs.Try.f58) (mkSt letter_Right_ac x).env (mkSt letter_Right_ac x).sto K = letter_Right_cps big R (fun a0 => K ((mkE [.leaf (.bool)] (T := Unit) (a0, ())).1.headD .any) (mkSt letter_Right_ac x).sto) x.1 x.2.1 x.2.2.1 x.2.2.2.1 x.2.2.2.2.1 := by kernel_rfl
theorem letter_Right_ok : ConOk Go.Proofs.Try.prog X 58 letter_Right_con :=
  conCalm_ok (src := []) (sh := []) (rs := .leaf (.bool)) letter_Right_raw (fun R K (x : letter_Right_ac.den) => letter_Right_cps big R (fun a0 => K (a0, ())) x.1 x.2.1 x.2.2.1 x.2.2.2.1 x.2.2.2.2.1) letter_Right_T

/-! 48 frankpledge/value.Right -/
def value_Right_ac : SCode := ⟨[.agg [.int .i64, .int .i64, .str]], []⟩
def value_Right_con : Con := conCalm [] [] value_Right_ac (.leaf (.bool)) fun x => value_Right big x.1 x.2.1 x.2.2.1
theorem value_Right_bnd {calm : List Nat} {f : Nat} : BndC calm f value_Right_con := bndCalm
def value_Right_cx : Cx := { tab := tab, con := [], funs := [], loops := [], want := want, ret := [], calm := [], bnd := [], eqs := eqs }
theorem value_Right_cs : CsOk Go.Proofs.Try.prog X value_Right_cx :=
  csOk ⟨fun _ _ h => tab_ok tabOk h, eqsOk⟩ mixed trivial trivial trivial rfl

def value_Right_keep : List (Nat × LH) := []
theorem value_Right_raw : ConOk Go.Proofs.Try.prog X 48 (fun _ args sto K => evBody value_Right_cx (hcN value_Right_cx 1) value_Right_keep [] [] Go.Proofs.Try.f48 (bodyC Go.Proofs.Try.f48) args sto K) :=
  raw_ok value_Right_cs 1 Go.Proofs.Try.func48 (by kernel_rfl) rfl fun R => loops_all 0 (by kernel_rfl) (fun i hi => absurd hi (Nat.not_lt_zero i))

theorem value_Right_T (R : Type) (K : D → Sto → Option R) (x : value_Right_ac.den) : evBody value_Right_cx (hcN value_Right_cx 1) value_Right_keep [] [] Go.Proofs.Try.f48 (bodyC Go.Proofs.Try.f48) (mkSt value_Right_ac x).env (mkSt value_Right_ac x).sto K = value_Right_cps big R (fun a0 => K ((mkE [.leaf (.bool)] (T := Unit) (a0, ())).1.headD .any) (mkSt value_Right_ac x).sto) x.1 x.2.1 x.2.2.1 := by kernel_rfl
theorem value_Right_ok : ConOk Go.Proofs.Try.prog X 48 value_Right_con :=
  conCalm_ok (src := []) (sh := []) (rs := .leaf (.bool)) value_Right_raw (fun R K (x : value_Right_ac.den) => value_Right_cps big R (fun a0 => K (a0, ())) x.1 x.2.1 x.2.2.1) value_Right_T

/-! 18 frankpledge/row.Short -/
def row_Short_l0c : SCode := ⟨[.leaf (.lit (.any)), .leaf (.lit (.any)), .leaf (.lit (.any)), .leaf (.int .u64), .leaf (.sl .own .byte), .leaf (.lit (.any)), .leaf (.lit (.any)), .leaf (.lit (.any)), .leaf (.lit (.any)), .leaf (.lit (.any)), .leaf (.lit (.any)), .leaf (.lit (.any)), .leaf (.lit (.any)), .leaf (.lit (.any)), .leaf (.lit (.any)), .leaf (.lit (.any)), .leaf (.lit (.any)), .leaf (.lit (.any)), .leaf (.lit (.any)), .leaf (.lit (.any)), .leaf (.lit (.any)), .leaf (.lit (.any)), .leaf (.lit (.any)), .leaf (.lit (.any)), .leaf (.lit (.any)), .leaf (.lit (.any)), .leaf (.lit (.any))], []⟩
def row_Short_l0e0 : SCode := ⟨[.leaf (.lit (.any)), .leaf (.lit (.any)), .leaf (.lit (.any)), .leaf (.int .u64), .leaf (.sl .own .byte), .leaf (.lit (.any)), .leaf (.lit (.any)), .leaf (.lit (.any)), .leaf (.lit (.any)), .leaf (.lit (.any)), .leaf (.lit (.any)), .leaf (.lit (.any)), .leaf (.lit (.any)), .leaf (.lit (.any)), .leaf (.lit (.any)), .leaf (.lit (.any)), .leaf (.lit (.any)), .leaf (.lit (.any)), .leaf (.lit (.any)), .leaf (.lit (.any)), .leaf (.lit (.any)), .leaf (.lit (.any)), .leaf (.lit (.any)), .leaf (.lit (.any)), .leaf (.lit (.any)), .leaf (.lit (.any)), .leaf (.lit (.any))], []⟩
def row_Short_l0h : LH := { env := [(3, .id), (4, .own .byte)], sto := [], out := [(3, .id), (4, .id)], con := some (lconOf row_Short_l0c fun R k x => row_Short_l0 big R (fun a0 a1 => k (.exit 0) (mkSt row_Short_l0e0 (a0, (a1, ())))) big x.1 x.2.1) }

def row_Short_ac : SCode := ⟨[.leaf (.int .i64)], []⟩
def row_Short_con : Con := conCalm [] [] row_Short_ac (.leaf (.sl .own .byte)) fun x => row_Short big x.1
theorem row_Short_bnd {calm : List Nat} {f : Nat} : BndC calm f row_Short_con := bndCalm
def row_Short_cx : Cx := { tab := tab, con := [], funs := [], loops := [], want := want, ret := [], calm := [], bnd := [], eqs := eqs }
theorem row_Short_cs : CsOk Go.Proofs.Try.prog X row_Short_cx :=
  csOk ⟨fun _ _ h => tab_ok tabOk h, eqsOk⟩ mixed trivial trivial trivial rfl

def row_Short_keep : List (Nat × LH) := [(3, row_Short_l0h)]
theorem row_Short_L0s (R : Type) (recS : St → Option R) (k : Exit → St → Option R) (x : row_Short_l0c.den) : evCode row_Short_cx (hcN row_Short_cx 1) row_Short_keep (loopC Go.Proofs.Try.f18 0) (mkSt row_Short_l0c x) (fun e st' => match e with | .normal => recS (norm row_Short_l0h 0 st') | e => k e (normO row_Short_l0h 0 st')) = (fun rec k x => row_Short_l0B big R (fun a0 a1 => rec (a0, (a1, ()))) (fun a0 a1 => k (.exit 0) (mkSt row_Short_l0e0 (a0, (a1, ())))) x.1 x.2.1) (fun y => recS (mkSt row_Short_l0c y)) k x := by kernel_rfl
theorem row_Short_L0 (R : Type) : LOkR (R := R) row_Short_cx (hcN row_Short_cx 1) row_Short_keep (loopC Go.Proofs.Try.f18 0) :=
  lok_iter (lh := row_Short_l0h) row_Short_l0c (fun R n k x => row_Short_l0 big R (fun a0 a1 => k (.exit 0) (mkSt row_Short_l0e0 (a0, (a1, ())))) n x.1 x.2.1) (fun _ => big) (fun rec k x => row_Short_l0B big R (fun a0 a1 => rec (a0, (a1, ()))) (fun a0 a1 => k (.exit 0) (mkSt row_Short_l0e0 (a0, (a1, ())))) x.1 x.2.1) rfl rfl (row_Short_L0s R) (fun _ _ => rfl) (fun _ _ _ => rfl)

theorem row_Short_raw : ConOk Go.Proofs.Try.prog X 18 (fun _ args sto K => evBody row_Short_cx (hcN row_Short_cx 1) row_Short_keep [] [] Go.Proofs.Try.f18 (bodyC Go.Proofs.Try.f18) args sto K) :=
  raw_ok row_Short_cs 1 Go.Proofs.Try.func18 (by kernel_rfl) rfl fun R => loops_all 1 (by kernel_rfl) (fun i hi => match i, hi with | 0, _ => row_Short_L0 R | n + 1, h => absurd h (by omega))

theorem row_Short_T (R : Type) (K : D → Sto → Option R) (x : row_Short_ac.den) : evBody row_Short_cx (hcN row_Short_cx 1) row_Short_keep [] [] Go.Proofs.Try.f18 (bodyC Go.Proofs.Try.f18) (mkSt row_Short_ac x).env (mkSt row_Short_ac x).sto K = row_Short_cps big R (fun a0 => K ((mkE [.leaf (.sl .own .byte)] (T := Unit) (a0, ())).1.headD .any) (mkSt row_Short_ac x).sto) x.1 := by kernel_rfl
theorem row_Short_ok : ConOk Go.Proofs.Try.prog X 18 row_Short_con :=
  conCalm_ok (src := []) (sh := []) (rs := .leaf (.sl .own .byte)) row_Short_raw (fun R K (x : row_Short_ac.den) => row_Short_cps big R (fun a0 => K (a0, ())) x.1) row_Short_T

/-! 16 frankpledge/row.Encode -/
def row_Encode_l0c : SCode := ⟨[.leaf (.lit (.any)), .leaf (.lit (.any)), .leaf (.lit (.any)), .leaf (.lit (.any)), .leaf (.sl .own .byte), .leaf (.lit (.any)), .leaf (.lit (.any)), .leaf (.lit (.any)), .leaf (.lit (.any)), .leaf (.lit (.any)), .leaf (.lit (.any)), .leaf (.lit (.any)), .leaf (.lit (.any)), .leaf (.lit (.any)), .leaf (.sl .ro (.pair (.int .i64) (.pair (.int .i64) (.pair .str .unit)))), .leaf (.int .i64), .leaf (.int .i64), .leaf (.lit (.any)), .leaf (.lit (.any)), .leaf (.lit (.any)), .leaf (.lit (.any)), .leaf (.lit (.any)), .leaf (.lit (.any)), .leaf (.lit (.any)), .leaf (.lit (.any)), .leaf (.lit (.any)), .leaf (.lit (.any)), .leaf (.lit (.any)), .leaf (.lit (.any)), .leaf (.lit (.any)), .leaf (.lit (.any)), .leaf (.lit (.any)), .leaf (.lit (.any)), .leaf (.lit (.any)), .leaf (.lit (.any)), .leaf (.lit (.any)), .leaf (.lit (.any)), .leaf (.lit (.any)), .leaf (.lit (.any)), .leaf (.lit (.any)), .leaf (.lit (.any)), .leaf (.lit (.any)), .leaf (.lit (.any)), .leaf (.lit (.any)), .leaf (.lit (.any)), .leaf (.lit (.any)), .leaf (.lit (.any)), .leaf (.lit (.any)), .leaf (.lit (.any)), .leaf (.lit (.any)), .leaf (.lit (.any)), .leaf (.lit (.any)), .leaf (.lit (.any)), .leaf (.lit (.any)), .leaf (.lit (.any)), .leaf (.lit (.any)), .leaf (.lit (.any)), .leaf (.lit (.any)), .leaf (.lit (.any)), .leaf (.lit (.any)), .leaf (.lit (.any)), .leaf (.lit (.any)), .leaf (.lit (.any))], []⟩
def row_Encode_l0e0 : SCode := ⟨[.leaf (.lit (.any)), .leaf (.lit (.any)), .leaf (.lit (.any)), .leaf (.lit (.any)), .leaf (.sl .own .byte), .leaf (.lit (.any)), .leaf (.lit (.any)), .leaf (.lit (.any)), .leaf (.lit (.any)), .leaf (.lit (.any)), .leaf (.lit (.any)), .leaf (.lit (.any)), .leaf (.lit (.any)), .leaf (.lit (.any)), .leaf (.lit (.any)), .leaf (.lit (.any)), .leaf (.lit (.any)), .leaf (.lit (.any)), .leaf (.lit (.any)), .leaf (.lit (.any)), .leaf (.lit (.any)), .leaf (.lit (.any)), .leaf (.lit (.any)), .leaf (.lit (.any)), .leaf (.lit (.any)), .leaf (.lit (.any)), .leaf (.lit (.any)), .leaf (.lit (.any)), .leaf (.lit (.any)), .leaf (.lit (.any)), .leaf (.lit (.any)), .leaf (.lit (.any)), .leaf (.lit (.any)), .leaf (.lit (.any)), .leaf (.lit (.any)), .leaf (.lit (.any)), .leaf (.lit (.any)), .leaf (.lit (.any)), .leaf (.lit (.any)), .leaf (.lit (.any)), .leaf (.lit (.any)), .leaf (.lit (.any)), .leaf (.lit (.any)), .leaf (.lit (.any)), .leaf (.lit (.any)), .leaf (.lit (.any)), .leaf (.lit (.any)), .leaf (.lit (.any)), .leaf (.lit (.any)), .leaf (.lit (.any)), .leaf (.lit (.any)), .leaf (.lit (.any)), .leaf (.lit (.any)), .leaf (.lit (.any)), .leaf (.lit (.any)), .leaf (.lit (.any)), .leaf (.lit (.any)), .leaf (.lit (.any)), .leaf (.lit (.any)), .leaf (.lit (.any)), .leaf (.lit (.any)), .leaf (.lit (.any)), .leaf (.lit (.any))], []⟩
def row_Encode_l0e1 : SCode := ⟨[.leaf (.lit (.any)), .leaf (.lit (.any)), .leaf (.lit (.nils)), .leaf (.int .i64), .leaf (.sl .own .byte), .leaf (.lit (.any)), .leaf (.lit (.any)), .leaf (.lit (.any)), .leaf (.lit (.any)), .leaf (.lit (.any)), .leaf (.lit (.any)), .leaf (.lit (.any)), .leaf (.lit (.any)), .leaf (.lit (.any)), .leaf (.lit (.any)), .leaf (.lit (.any)), .leaf (.lit (.any)), .leaf (.lit (.any)), .leaf (.lit (.any)), .leaf (.lit (.any)), .leaf (.lit (.any)), .leaf (.lit (.any)), .leaf (.lit (.any)), .leaf (.lit (.any)), .leaf (.lit (.any)), .leaf (.lit (.any)), .leaf (.lit (.any)), .leaf (.lit (.any)), .leaf (.lit (.any)), .leaf (.lit (.any)), .leaf (.lit (.any)), .leaf (.lit (.any)), .leaf (.lit (.any)), .leaf (.lit (.any)), .leaf (.lit (.any)), .leaf (.lit (.any)), .leaf (.lit (.any)), .leaf (.lit (.any)), .leaf (.lit (.any)), .leaf (.lit (.any)), .leaf (.lit (.any)), .leaf (.lit (.any)), .leaf (.lit (.any)), .leaf (.lit (.any)), .leaf (.lit (.any)), .leaf (.lit (.any)), .leaf (.lit (.any)), .leaf (.lit (.any)), .leaf (.lit (.any)), .leaf (.lit (.any)), .leaf (.lit (.any)), .leaf (.lit (.any)), .leaf (.lit (.any)), .leaf (.lit (.any)), .leaf (.lit (.any)), .leaf (.lit (.any)), .leaf (.lit (.any)), .leaf (.lit (.any)), .leaf (.lit (.any)), .leaf (.lit (.any)), .leaf (.lit (.any)), .leaf (.lit (.any)), .leaf (.lit (.any))], []⟩
def row_Encode_l0h : LH := { env := [(4, .id), (14, .id), (15, .id), (16, .id)], sto := [], out := [(2, .id), (3, .id), (4, .id)], con := some (lconOf row_Encode_l0c fun R k x => row_Encode_l0 big R (fun a0 => k (.exit 0) (mkSt row_Encode_l0e0 (a0, ()))) (fun a0 a1 => k .ret (mkSt row_Encode_l0e1 (a0, (a1, ())))) big x.1 x.2.1 x.2.2.1 x.2.2.2.1) }

def row_Encode_ac : SCode := ⟨[.leaf (.sl .ro (.pair (.int .i64) (.pair (.int .i64) (.pair .str .unit))))], []⟩
def row_Encode_con : Con := conCalm [] [] row_Encode_ac (.tup [.l (.sl .own .byte), .l (.int .i64)]) fun x => row_Encode big x.1
theorem row_Encode_bnd {calm : List Nat} {f : Nat} : BndC calm f row_Encode_con := bndCalm
def row_Encode_cx : Cx := { tab := tab, con := [(18, row_Short_con), (48, value_Right_con)], funs := [], loops := [], want := want, ret := [], calm := [18, 48], bnd := [18, 48], eqs := eqs }
theorem row_Encode_cs : CsOk Go.Proofs.Try.prog X row_Encode_cx :=
  csOk ⟨fun _ _ h => tab_ok tabOk h, eqsOk⟩ mixed ⟨row_Short_ok, value_Right_ok, trivial⟩ trivial ⟨row_Short_bnd, value_Right_bnd, trivial⟩ rfl

def row_Encode_keep : List (Nat × LH) := [(5, row_Encode_l0h)]
theorem row_Encode_L0s (R : Type) (recS : St → Option R) (k : Exit → St → Option R) (x : row_Encode_l0c.den) : evCode row_Encode_cx (hcN row_Encode_cx 1) row_Encode_keep (loopC Go.Proofs.Try.f16 0) (mkSt row_Encode_l0c x) (fun e st' => match e with | .normal => recS (norm row_Encode_l0h 0 st') | e => k e (normO row_Encode_l0h 0 st')) = (fun rec k x => row_Encode_l0B big R (fun a0 a1 a2 a3 => rec (a0, (a1, (a2, (a3, ()))))) (fun a0 => k (.exit 0) (mkSt row_Encode_l0e0 (a0, ()))) (fun a0 a1 => k .ret (mkSt row_Encode_l0e1 (a0, (a1, ())))) x.1 x.2.1 x.2.2.1 x.2.2.2.1) (fun y => recS (mkSt row_Encode_l0c y)) k x := by kernel_rfl
theorem row_Encode_L0 (R : Type) : LOkR (R := R) row_Encode_cx (hcN row_Encode_cx 1) row_Encode_keep (loopC Go.Proofs.Try.f16 0) :=
  lok_iter (lh := row_Encode_l0h) row_Encode_l0c (fun R n k x => row_Encode_l0 big R (fun a0 => k (.exit 0) (mkSt row_Encode_l0e0 (a0, ()))) (fun a0 a1 => k .ret (mkSt row_Encode_l0e1 (a0, (a1, ())))) n x.1 x.2.1 x.2.2.1 x.2.2.2.1) (fun _ => big) (fun rec k x => row_Encode_l0B big R (fun a0 a1 a2 a3 => rec (a0, (a1, (a2, (a3, ()))))) (fun a0 => k (.exit 0) (mkSt row_Encode_l0e0 (a0, ()))) (fun a0 a1 => k .ret (mkSt row_Encode_l0e1 (a0, (a1, ())))) x.1 x.2.1 x.2.2.1 x.2.2.2.1) rfl rfl (row_Encode_L0s R) (fun _ _ => rfl) (fun _ _ _ => rfl)

theorem row_Encode_raw : ConOk Go.Proofs.Try.prog X 16 (fun _ args sto K => evBody row_Encode_cx (hcN row_Encode_cx 1) row_Encode_keep [.own .byte, .id] [] Go.Proofs.Try.f16 (bodyC Go.Proofs.Try.f16) args sto K) :=
  raw_ok row_Encode_cs 1 Go.Proofs.Try.func16 (by kernel_rfl) rfl fun R => loops_all 1 (by kernel_rfl) (fun i hi => match i, hi with | 0, _ => row_Encode_L0 R | n + 1, h => absurd h (by omega))

theorem row_Encode_T (R : Type) (K : D → Sto → Option R) (x : row_Encode_ac.den) : evBody row_Encode_cx (hcN row_Encode_cx 1) row_Encode_keep [.own .byte, .id] [] Go.Proofs.Try.f16 (bodyC Go.Proofs.Try.f16) (mkSt row_Encode_ac x).env (mkSt row_Encode_ac x).sto K = row_Encode_cps big R (fun a0 a1 => K ((mkE [.tup [.l (.sl .own .byte), .l (.int .i64)]] (T := Unit) (a0, (a1, ()))).1.headD .any) (mkSt row_Encode_ac x).sto) x.1 := by kernel_rfl
theorem row_Encode_ok : ConOk Go.Proofs.Try.prog X 16 row_Encode_con :=
  conCalm_ok (src := []) (sh := []) (rs := .tup [.l (.sl .own .byte), .l (.int .i64)]) row_Encode_raw (fun R K (x : row_Encode_ac.den) => row_Encode_cps big R (fun a0 a1 => K (a0, (a1, ()))) x.1) row_Encode_T

/-! 43 frankpledge/letter.Encode -/
def letter_Encode_l1c : SCode := ⟨[.leaf (.lit (.any)), .leaf (.lit (.any)), .leaf (.lit (.any)), .leaf (.lit (.any)), .leaf (.lit (.any)), .leaf (.lit (.any)), .leaf (.lit (.any)), .leaf (.sl .own (.pair (.int .i64) (.pair (.int .i64) (.pair .str .unit)))), .leaf (.lit (.any)), .leaf (.lit (.any)), .leaf (.lit (.any)), .leaf (.lit (.any)), .leaf (.lit (.any)), .leaf (.lit (.any)), .leaf (.lit (.any)), .leaf (.lit (.any)), .leaf (.lit (.any)), .leaf (.lit (.any)), .leaf (.lit (.any)), .leaf (.lit (.any)), .leaf (.lit (.any)), .leaf (.lit (.any)), .leaf (.lit (.any)), .leaf (.lit (.any)), .leaf (.lit (.any)), .leaf (.lit (.any)), .leaf (.lit (.any)), .leaf (.lit (.any)), .leaf (.lit (.any)), .leaf (.lit (.any)), .leaf (.lit (.any)), .leaf (.lit (.any)), .leaf (.lit (.any)), .leaf (.lit (.any)), .leaf (.sl .own (.int .i64)), .leaf (.int .i64), .leaf (.int .i64), .leaf (.lit (.any)), .leaf (.lit (.any)), .leaf (.lit (.any)), .leaf (.lit (.any)), .leaf (.lit (.any)), .leaf (.lit (.any)), .leaf (.lit (.any)), .leaf (.lit (.any)), .leaf (.lit (.any)), .leaf (.lit (.any)), .leaf (.lit (.any)), .leaf (.lit (.any)), .leaf (.lit (.any))], [[.int .i64, .int .i64, .int .i64, .int .i64, .sl .ro (.int .i64)]]⟩
def letter_Encode_l1e0 : SCode := ⟨[.leaf (.lit (.any)), .leaf (.lit (.any)), .leaf (.lit (.any)), .leaf (.lit (.any)), .leaf (.lit (.any)), .leaf (.lit (.any)), .leaf (.lit (.any)), .leaf (.sl .own (.pair (.int .i64) (.pair (.int .i64) (.pair .str .unit)))), .leaf (.lit (.any)), .leaf (.lit (.any)), .leaf (.lit (.any)), .leaf (.lit (.any)), .leaf (.lit (.any)), .leaf (.lit (.any)), .leaf (.lit (.any)), .leaf (.lit (.any)), .leaf (.lit (.any)), .leaf (.lit (.any)), .leaf (.lit (.any)), .leaf (.lit (.any)), .leaf (.lit (.any)), .leaf (.lit (.any)), .leaf (.lit (.any)), .leaf (.lit (.any)), .leaf (.lit (.any)), .leaf (.lit (.any)), .leaf (.lit (.any)), .leaf (.lit (.any)), .leaf (.lit (.any)), .leaf (.lit (.any)), .leaf (.lit (.any)), .leaf (.lit (.any)), .leaf (.lit (.any)), .leaf (.lit (.any)), .leaf (.lit (.any)), .leaf (.lit (.any)), .leaf (.lit (.any)), .leaf (.lit (.any)), .leaf (.lit (.any)), .leaf (.lit (.any)), .leaf (.lit (.any)), .leaf (.lit (.any)), .leaf (.lit (.any)), .leaf (.lit (.any)), .leaf (.lit (.any)), .leaf (.lit (.any)), .leaf (.lit (.any)), .leaf (.lit (.any)), .leaf (.lit (.any)), .leaf (.lit (.any))], [[.int .i64, .int .i64, .int .i64, .int .i64, .sl .ro (.int .i64)]]⟩
def letter_Encode_l1h : LH := { env := [(7, .own (.pair (.int .i64) (.pair (.int .i64) (.pair .str .unit)))), (34, .id), (35, .id), (36, .id)], sto := [], out := [(7, .id)], con := some (lconOf letter_Encode_l1c fun R k x => letter_Encode_l1 big R (fun a0 a1 a2 a3 a4 a5 => k (.exit 2) (mkSt letter_Encode_l1e0 (a0, (a1, (a2, (a3, (a4, (a5, ())))))))) big x.1 x.2.1 x.2.2.1 x.2.2.2.1 x.2.2.2.2.1 x.2.2.2.2.2.1 x.2.2.2.2.2.2.1 x.2.2.2.2.2.2.2.1 x.2.2.2.2.2.2.2.2.1) }

def letter_Encode_l0c : SCode := ⟨[.leaf (.lit (.any)), .leaf (.lit (.ptr 0 0)), .leaf (.lit (.any)), .leaf (.lit (.any)), .leaf (.int .i64), .leaf (.lit (.any)), .leaf (.lit (.any)), .leaf (.lit (.any)), .leaf (.lit (.any)), .leaf (.lit (.any)), .leaf (.lit (.any)), .leaf (.lit (.any)), .leaf (.lit (.any)), .leaf (.lit (.any)), .leaf (.sl .ro (.int .i64)), .leaf (.int .i64), .leaf (.int .i64), .leaf (.lit (.any)), .leaf (.lit (.any)), .leaf (.lit (.any)), .leaf (.lit (.any)), .leaf (.lit (.any)), .leaf (.lit (.any)), .leaf (.lit (.any)), .leaf (.lit (.any)), .leaf (.lit (.any)), .leaf (.lit (.any)), .leaf (.lit (.any)), .leaf (.lit (.any)), .leaf (.lit (.any)), .leaf (.lit (.any)), .leaf (.lit (.any)), .leaf (.lit (.any)), .leaf (.lit (.any)), .leaf (.lit (.any)), .leaf (.lit (.any)), .leaf (.lit (.any)), .leaf (.lit (.any)), .leaf (.lit (.any)), .leaf (.lit (.any)), .leaf (.lit (.any)), .leaf (.lit (.any)), .leaf (.lit (.any)), .leaf (.lit (.any)), .leaf (.lit (.any)), .leaf (.lit (.any)), .leaf (.lit (.any)), .leaf (.lit (.any)), .leaf (.lit (.any)), .leaf (.lit (.any))], [[.int .i64, .int .i64, .int .i64, .int .i64, .sl .ro (.int .i64)]]⟩
def letter_Encode_l0e0 : SCode := ⟨[.leaf (.lit (.any)), .leaf (.lit (.ptr 0 0)), .leaf (.lit (.any)), .leaf (.lit (.any)), .leaf (.int .i64), .leaf (.lit (.any)), .leaf (.lit (.any)), .leaf (.lit (.any)), .leaf (.lit (.any)), .leaf (.lit (.any)), .leaf (.lit (.any)), .leaf (.lit (.any)), .leaf (.lit (.any)), .leaf (.lit (.any)), .leaf (.lit (.any)), .leaf (.lit (.any)), .leaf (.lit (.any)), .leaf (.lit (.any)), .leaf (.lit (.any)), .leaf (.lit (.any)), .leaf (.lit (.any)), .leaf (.lit (.any)), .leaf (.lit (.any)), .leaf (.lit (.any)), .leaf (.lit (.any)), .leaf (.lit (.any)), .leaf (.lit (.any)), .leaf (.lit (.any)), .leaf (.lit (.any)), .leaf (.lit (.any)), .leaf (.lit (.any)), .leaf (.lit (.any)), .leaf (.lit (.any)), .leaf (.lit (.any)), .leaf (.lit (.any)), .leaf (.lit (.any)), .leaf (.lit (.any)), .leaf (.lit (.any)), .leaf (.lit (.any)), .leaf (.lit (.any)), .leaf (.lit (.any)), .leaf (.lit (.any)), .leaf (.lit (.any)), .leaf (.lit (.any)), .leaf (.lit (.any)), .leaf (.lit (.any)), .leaf (.lit (.any)), .leaf (.lit (.any)), .leaf (.lit (.any)), .leaf (.lit (.any))], [[.int .i64, .int .i64, .int .i64, .int .i64, .sl .ro (.int .i64)]]⟩
def letter_Encode_l0h : LH := { env := [(1, .id), (4, .id), (14, .id), (15, .id), (16, .id)], sto := [], out := [(1, .id), (4, .id)], con := some (lconOf letter_Encode_l0c fun R k x => letter_Encode_l0 big R (fun a0 a1 a2 a3 a4 a5 => k (.exit 0) (mkSt letter_Encode_l0e0 (a0, (a1, (a2, (a3, (a4, (a5, ())))))))) big x.1 x.2.1 x.2.2.1 x.2.2.2.1 x.2.2.2.2.1 x.2.2.2.2.2.1 x.2.2.2.2.2.2.1 x.2.2.2.2.2.2.2.1 x.2.2.2.2.2.2.2.2.1) }

def letter_Encode_ac : SCode := ⟨[.agg [.int .i64, .int .i64, .int .i64, .int .i64, .sl .ro (.int .i64)]], []⟩
def letter_Encode_con : Con := conCalm [] [] letter_Encode_ac (.tup [.l (.sl .own .byte), .l (.int .i64)]) fun x => letter_Encode big x.1 x.2.1 x.2.2.1 x.2.2.2.1 x.2.2.2.2.1
theorem letter_Encode_bnd {calm : List Nat} {f : Nat} : BndC calm f letter_Encode_con := bndCalm
def letter_Encode_cx : Cx := { tab := tab, con := [(16, row_Encode_con), (58, letter_Right_con)], funs := [], loops := [], want := want, ret := [], calm := [16, 58], bnd := [16, 58], eqs := eqs }
theorem letter_Encode_cs : CsOk Go.Proofs.Try.prog X letter_Encode_cx :=
  csOk ⟨fun _ _ h => tab_ok tabOk h, eqsOk⟩ mixed ⟨row_Encode_ok, letter_Right_ok, trivial⟩ trivial ⟨row_Encode_bnd, letter_Right_bnd, trivial⟩ rfl

def letter_Encode_keep : List (Nat × LH) := [(5, letter_Encode_l0h), (11, letter_Encode_l1h)]
theorem letter_Encode_L0s (R : Type) (recS : St → Option R) (k : Exit → St → Option R) (x : letter_Encode_l0c.den) : evCode letter_Encode_cx (hcN letter_Encode_cx 1) letter_Encode_keep (loopC Go.Proofs.Try.f43 0) (mkSt letter_Encode_l0c x) (fun e st' => match e with | .normal => recS (norm letter_Encode_l0h 1 st') | e => k e (normO letter_Encode_l0h 1 st')) = (fun rec k x => letter_Encode_l0B big R (fun a0 a1 a2 a3 a4 a5 a6 a7 a8 => rec (a0, (a1, (a2, (a3, (a4, (a5, (a6, (a7, (a8, ())))))))))) (fun a0 a1 a2 a3 a4 a5 => k (.exit 0) (mkSt letter_Encode_l0e0 (a0, (a1, (a2, (a3, (a4, (a5, ())))))))) x.1 x.2.1 x.2.2.1 x.2.2.2.1 x.2.2.2.2.1 x.2.2.2.2.2.1 x.2.2.2.2.2.2.1 x.2.2.2.2.2.2.2.1 x.2.2.2.2.2.2.2.2.1) (fun y => recS (mkSt letter_Encode_l0c y)) k x := by kernel_rfl
theorem letter_Encode_L0 (R : Type) : LOkR (R := R) letter_Encode_cx (hcN letter_Encode_cx 1) letter_Encode_keep (loopC Go.Proofs.Try.f43 0) :=
  lok_iter (lh := letter_Encode_l0h) letter_Encode_l0c (fun R n k x => letter_Encode_l0 big R (fun a0 a1 a2 a3 a4 a5 => k (.exit 0) (mkSt letter_Encode_l0e0 (a0, (a1, (a2, (a3, (a4, (a5, ())))))))) n x.1 x.2.1 x.2.2.1 x.2.2.2.1 x.2.2.2.2.1 x.2.2.2.2.2.1 x.2.2.2.2.2.2.1 x.2.2.2.2.2.2.2.1 x.2.2.2.2.2.2.2.2.1) (fun _ => big) (fun rec k x => letter_Encode_l0B big R (fun a0 a1 a2 a3 a4 a5 a6 a7 a8 => rec (a0, (a1, (a2, (a3, (a4, (a5, (a6, (a7, (a8, ())))))))))) (fun a0 a1 a2 a3 a4 a5 => k (.exit 0) (mkSt letter_Encode_l0e0 (a0, (a1, (a2, (a3, (a4, (a5, ())))))))) x.1 x.2.1 x.2.2.1 x.2.2.2.1 x.2.2.2.2.1 x.2.2.2.2.2.1 x.2.2.2.2.2.2.1 x.2.2.2.2.2.2.2.1 x.2.2.2.2.2.2.2.2.1) rfl rfl (letter_Encode_L0s R) (fun _ _ => rfl) (fun _ _ _ => rfl)

theorem letter_Encode_L1s (R : Type) (recS : St → Option R) (k : Exit → St → Option R) (x : letter_Encode_l1c.den) : evCode letter_Encode_cx (hcN letter_Encode_cx 1) letter_Encode_keep (loopC Go.Proofs.Try.f43 1) (mkSt letter_Encode_l1c x) (fun e st' => match e with | .normal => recS (norm letter_Encode_l1h 1 st') | e => k e (normO letter_Encode_l1h 1 st')) = (fun rec k x => letter_Encode_l1B big R (fun a0 a1 a2 a3 a4 a5 a6 a7 a8 => rec (a0, (a1, (a2, (a3, (a4, (a5, (a6, (a7, (a8, ())))))))))) (fun a0 a1 a2 a3 a4 a5 => k (.exit 2) (mkSt letter_Encode_l1e0 (a0, (a1, (a2, (a3, (a4, (a5, ())))))))) x.1 x.2.1 x.2.2.1 x.2.2.2.1 x.2.2.2.2.1 x.2.2.2.2.2.1 x.2.2.2.2.2.2.1 x.2.2.2.2.2.2.2.1 x.2.2.2.2.2.2.2.2.1) (fun y => recS (mkSt letter_Encode_l1c y)) k x := by kernel_rfl
theorem letter_Encode_L1 (R : Type) : LOkR (R := R) letter_Encode_cx (hcN letter_Encode_cx 1) letter_Encode_keep (loopC Go.Proofs.Try.f43 1) :=
  lok_iter (lh := letter_Encode_l1h) letter_Encode_l1c (fun R n k x => letter_Encode_l1 big R (fun a0 a1 a2 a3 a4 a5 => k (.exit 2) (mkSt letter_Encode_l1e0 (a0, (a1, (a2, (a3, (a4, (a5, ())))))))) n x.1 x.2.1 x.2.2.1 x.2.2.2.1 x.2.2.2.2.1 x.2.2.2.2.2.1 x.2.2.2.2.2.2.1 x.2.2.2.2.2.2.2.1 x.2.2.2.2.2.2.2.2.1) (fun _ => big) (fun rec k x => letter_Encode_l1B big R (fun a0 a1 a2 a3 a4 a5 a6 a7 a8 => rec (a0, (a1, (a2, (a3, (a4, (a5, (a6, (a7, (a8, ())))))))))) (fun a0 a1 a2 a3 a4 a5 => k (.exit 2) (mkSt letter_Encode_l1e0 (a0, (a1, (a2, (a3, (a4, (a5, ())))))))) x.1 x.2.1 x.2.2.1 x.2.2.2.1 x.2.2.2.2.1 x.2.2.2.2.2.1 x.2.2.2.2.2.2.1 x.2.2.2.2.2.2.2.1 x.2.2.2.2.2.2.2.2.1) rfl rfl (letter_Encode_L1s R) (fun _ _ => rfl) (fun _ _ _ => rfl)

theorem letter_Encode_raw : ConOk Go.Proofs.Try.prog X 43 (fun _ args sto K => evBody letter_Encode_cx (hcN letter_Encode_cx 1) letter_Encode_keep [.own .byte, .id] [] Go.Proofs.Try.f43 (bodyC Go.Proofs.Try.f43) args sto K) :=
  raw_ok letter_Encode_cs 1 Go.Proofs.Try.func43 (by kernel_rfl) rfl fun R => loops_all 2 (by kernel_rfl) (fun i hi => match i, hi with | 0, _ => letter_Encode_L0 R | 1, _ => letter_Encode_L1 R | n + 2, h => absurd h (by omega))

theorem letter_Encode_T (R : Type) (K : D → Sto → Option R) (x : letter_Encode_ac.den) : evBody letter_Encode_cx (hcN letter_Encode_cx 1) letter_Encode_keep [.own .byte, .id] [] Go.Proofs.Try.f43 (bodyC Go.Proofs.Try.f43) (mkSt letter_Encode_ac x).env (mkSt letter_Encode_ac x).sto K = letter_Encode_cps big R (fun a0 a1 => K ((mkE [.tup [.l (.sl .own .byte), .l (.int .i64)]] (T := Unit) (a0, (a1, ()))).1.headD .any) (mkSt letter_Encode_ac x).sto) x.1 x.2.1 x.2.2.1 x.2.2.2.1 x.2.2.2.2.1 := by kernel_rfl
theorem letter_Encode_ok : ConOk Go.Proofs.Try.prog X 43 letter_Encode_con :=
  conCalm_ok (src := []) (sh := []) (rs := .tup [.l (.sl .own .byte), .l (.int .i64)]) letter_Encode_raw (fun R K (x : letter_Encode_ac.den) => letter_Encode_cps big R (fun a0 a1 => K (a0, (a1, ()))) x.1 x.2.1 x.2.2.1 x.2.2.2.1 x.2.2.2.2.1) letter_Encode_T

/-! 40 frankpledge/frankpledgelaw11.alive -/
def law11_alive_ac : SCode := ⟨[], []⟩
def law11_alive_con : Con := conCalm [] [] law11_alive_ac (.leaf (.bool)) fun x => law11_alive big 
theorem law11_alive_bnd {calm : List Nat} {f : Nat} : BndC calm f law11_alive_con := bndCalm
def law11_alive_cx : Cx := { tab := tab, con := [(43, letter_Encode_con)], funs := [], loops := [], want := want, ret := [], calm := [43], bnd := [43], eqs := eqs }
theorem law11_alive_cs : CsOk Go.Proofs.Try.prog X law11_alive_cx :=
  csOk ⟨fun _ _ h => tab_ok tabOk h, eqsOk⟩ mixed ⟨letter_Encode_ok, trivial⟩ trivial ⟨letter_Encode_bnd, trivial⟩ rfl

def law11_alive_keep : List (Nat × LH) := []
theorem law11_alive_raw : ConOk Go.Proofs.Try.prog X 40 (fun _ args sto K => evBody law11_alive_cx (hcN law11_alive_cx 1) law11_alive_keep [] [] Go.Proofs.Try.f40 (bodyC Go.Proofs.Try.f40) args sto K) :=
  raw_ok law11_alive_cs 1 Go.Proofs.Try.func40 (by kernel_rfl) rfl fun R => loops_all 0 (by kernel_rfl) (fun i hi => absurd hi (Nat.not_lt_zero i))

theorem law11_alive_T (R : Type) (K : D → Sto → Option R) (x : law11_alive_ac.den) : evBody law11_alive_cx (hcN law11_alive_cx 1) law11_alive_keep [] [] Go.Proofs.Try.f40 (bodyC Go.Proofs.Try.f40) (mkSt law11_alive_ac x).env (mkSt law11_alive_ac x).sto K = law11_alive_cps big R (fun a0 => K ((mkE [.leaf (.bool)] (T := Unit) (a0, ())).1.headD .any) (mkSt law11_alive_ac x).sto)  := by kernel_rfl
theorem law11_alive_ok : ConOk Go.Proofs.Try.prog X 40 law11_alive_con :=
  conCalm_ok (src := []) (sh := []) (rs := .leaf (.bool)) law11_alive_raw (fun R K (x : law11_alive_ac.den) => law11_alive_cps big R (fun a0 => K (a0, ())) ) law11_alive_T

/-! 57 slices.Equal[[]int,int] -/
def slices_Equal_int_int_l0c : SCode := ⟨[.leaf (.sl .ro (.int .i64)), .leaf (.sl .ro (.int .i64)), .leaf (.lit (.any)), .leaf (.lit (.any)), .leaf (.lit (.any)), .leaf (.lit (.any)), .leaf (.lit (.any)), .leaf (.lit (.any)), .leaf (.lit (.any)), .leaf (.lit (.any)), .leaf (.lit (.any)), .leaf (.lit (.any)), .leaf (.int .i64), .leaf (.int .i64), .leaf (.lit (.any)), .leaf (.lit (.any)), .leaf (.lit (.any)), .leaf (.lit (.any)), .leaf (.lit (.any)), .leaf (.lit (.any)), .leaf (.lit (.any)), .leaf (.lit (.any)), .leaf (.lit (.any)), .leaf (.lit (.any)), .leaf (.lit (.any)), .leaf (.lit (.any))], []⟩
def slices_Equal_int_int_l0e0 : SCode := ⟨[.leaf (.lit (.any)), .leaf (.lit (.any)), .leaf (.lit (.any)), .leaf (.lit (.any)), .leaf (.lit (.any)), .leaf (.lit (.any)), .leaf (.lit (.any)), .leaf (.lit (.any)), .leaf (.lit (.any)), .leaf (.lit (.any)), .leaf (.lit (.any)), .leaf (.lit (.any)), .leaf (.lit (.any)), .leaf (.lit (.any)), .leaf (.lit (.any)), .leaf (.lit (.any)), .leaf (.lit (.any)), .leaf (.lit (.any)), .leaf (.lit (.any)), .leaf (.lit (.any)), .leaf (.lit (.any)), .leaf (.lit (.any)), .leaf (.lit (.any)), .leaf (.lit (.any)), .leaf (.lit (.any)), .leaf (.lit (.any))], []⟩
def slices_Equal_int_int_l0e1 : SCode := ⟨[.leaf (.lit (.any)), .leaf (.lit (.any)), .leaf (.lit (.any)), .leaf (.lit (.any)), .leaf (.bool), .leaf (.lit (.any)), .leaf (.lit (.any)), .leaf (.lit (.any)), .leaf (.lit (.any)), .leaf (.lit (.any)), .leaf (.lit (.any)), .leaf (.lit (.any)), .leaf (.lit (.any)), .leaf (.lit (.any)), .leaf (.lit (.any)), .leaf (.lit (.any)), .leaf (.lit (.any)), .leaf (.lit (.any)), .leaf (.lit (.any)), .leaf (.lit (.any)), .leaf (.lit (.any)), .leaf (.lit (.any)), .leaf (.lit (.any)), .leaf (.lit (.any)), .leaf (.lit (.any)), .leaf (.lit (.any))], []⟩
def slices_Equal_int_int_l0h : LH := { env := [(0, .id), (1, .id), (12, .id), (13, .id)], sto := [], out := [(4, .id)], con := some (lconOf slices_Equal_int_int_l0c fun R k x => slices_Equal_int_int_l0 big R (k (.exit 0) (mkSt slices_Equal_int_int_l0e0 ())) (fun a0 => k .ret (mkSt slices_Equal_int_int_l0e1 (a0, ()))) big x.1 x.2.1 x.2.2.1 x.2.2.2.1) }

def slices_Equal_int_int_ac : SCode := ⟨[.leaf (.sl .ro (.int .i64)), .leaf (.sl .ro (.int .i64))], []⟩
def slices_Equal_int_int_con : Con := conCalm [] [] slices_Equal_int_int_ac (.leaf (.bool)) fun x => slices_Equal_int_int big x.1 x.2.1
theorem slices_Equal_int_int_bnd {calm : List Nat} {f : Nat} : BndC calm f slices_Equal_int_int_con := bndCalm
def slices_Equal_int_int_cx : Cx := { tab := tab, con := [], funs := [], loops := [], want := want, ret := [], calm := [], bnd := [], eqs := eqs }
theorem slices_Equal_int_int_cs : CsOk Go.Proofs.Try.prog X slices_Equal_int_int_cx :=
  csOk ⟨fun _ _ h => tab_ok tabOk h, eqsOk⟩ mixed trivial trivial trivial rfl

def slices_Equal_int_int_keep : List (Nat × LH) := [(4, slices_Equal_int_int_l0h)]
theorem slices_Equal_int_int_L0s (R : Type) (recS : St → Option R) (k : Exit → St → Option R) (x : slices_Equal_int_int_l0c.den) : evCode slices_Equal_int_int_cx (hcN slices_Equal_int_int_cx 1) slices_Equal_int_int_keep (loopC Go.Proofs.Try.f57 0) (mkSt slices_Equal_int_int_l0c x) (fun e st' => match e with | .normal => recS (norm slices_Equal_int_int_l0h 0 st') | e => k e (normO slices_Equal_int_int_l0h 0 st')) = (fun rec k x => slices_Equal_int_int_l0B big R (fun a0 a1 a2 a3 => rec (a0, (a1, (a2, (a3, ()))))) (k (.exit 0) (mkSt slices_Equal_int_int_l0e0 ())) (fun a0 => k .ret (mkSt slices_Equal_int_int_l0e1 (a0, ()))) x.1 x.2.1 x.2.2.1 x.2.2.2.1) (fun y => recS (mkSt slices_Equal_int_int_l0c y)) k x := by kernel_rfl
theorem slices_Equal_int_int_L0 (R : Type) : LOkR (R := R) slices_Equal_int_int_cx (hcN slices_Equal_int_int_cx 1) slices_Equal_int_int_keep (loopC Go.Proofs.Try.f57 0) :=
  lok_iter (lh := slices_Equal_int_int_l0h) slices_Equal_int_int_l0c (fun R n k x => slices_Equal_int_int_l0 big R (k (.exit 0) (mkSt slices_Equal_int_int_l0e0 ())) (fun a0 => k .ret (mkSt slices_Equal_int_int_l0e1 (a0, ()))) n x.1 x.2.1 x.2.2.1 x.2.2.2.1) (fun _ => big) (fun rec k x => slices_Equal_int_int_l0B big R (fun a0 a1 a2 a3 => rec (a0, (a1, (a2, (a3, ()))))) (k (.exit 0) (mkSt slices_Equal_int_int_l0e0 ())) (fun a0 => k .ret (mkSt slices_Equal_int_int_l0e1 (a0, ()))) x.1 x.2.1 x.2.2.1 x.2.2.2.1) rfl rfl (slices_Equal_int_int_L0s R) (fun _ _ => rfl) (fun _ _ _ => rfl)

theorem slices_Equal_int_int_raw : ConOk Go.Proofs.Try.prog X 57 (fun _ args sto K => evBody slices_Equal_int_int_cx (hcN slices_Equal_int_int_cx 1) slices_Equal_int_int_keep [] [] Go.Proofs.Try.f57 (bodyC Go.Proofs.Try.f57) args sto K) :=
  raw_ok slices_Equal_int_int_cs 1 Go.Proofs.Try.func57 (by kernel_rfl) rfl fun R => loops_all 1 (by kernel_rfl) (fun i hi => match i, hi with | 0, _ => slices_Equal_int_int_L0 R | n + 1, h => absurd h (by omega))

theorem slices_Equal_int_int_T (R : Type) (K : D → Sto → Option R) (x : slices_Equal_int_int_ac.den) : evBody slices_Equal_int_int_cx (hcN slices_Equal_int_int_cx 1) slices_Equal_int_int_keep [] [] Go.Proofs.Try.f57 (bodyC Go.Proofs.Try.f57) (mkSt slices_Equal_int_int_ac x).env (mkSt slices_Equal_int_int_ac x).sto K = slices_Equal_int_int_cps big R (fun a0 => K ((mkE [.leaf (.bool)] (T := Unit) (a0, ())).1.headD .any) (mkSt slices_Equal_int_int_ac x).sto) x.1 x.2.1 := by kernel_rfl
theorem slices_Equal_int_int_ok : ConOk Go.Proofs.Try.prog X 57 slices_Equal_int_int_con :=
  conCalm_ok (src := []) (sh := []) (rs := .leaf (.bool)) slices_Equal_int_int_raw (fun R K (x : slices_Equal_int_int_ac.den) => slices_Equal_int_int_cps big R (fun a0 => K (a0, ())) x.1 x.2.1) slices_Equal_int_int_T

/-! 41 frankpledge/letter.Same -/
def letter_Same_ac : SCode := ⟨[.agg [.int .i64, .int .i64, .int .i64, .int .i64, .sl .ro (.int .i64)], .agg [.int .i64, .int .i64, .int .i64, .int .i64, .sl .ro (.int .i64)]], []⟩
def letter_Same_con : Con := conCalm [] [] letter_Same_ac (.leaf (.bool)) fun x => letter_Same big x.1 x.2.1 x.2.2.1 x.2.2.2.1 x.2.2.2.2.1 x.2.2.2.2.2.1 x.2.2.2.2.2.2.1 x.2.2.2.2.2.2.2.1 x.2.2.2.2.2.2.2.2.1 x.2.2.2.2.2.2.2.2.2.1
theorem letter_Same_bnd {calm : List Nat} {f : Nat} : BndC calm f letter_Same_con := bndCalm
def letter_Same_cx : Cx := { tab := tab, con := [(57, slices_Equal_int_int_con)], funs := [], loops := [], want := want, ret := [], calm := [57], bnd := [57], eqs := eqs }
theorem letter_Same_cs : CsOk Go.Proofs.Try.prog X letter_Same_cx :=
  csOk ⟨fun _ _ h => tab_ok tabOk h, eqsOk⟩ mixed ⟨slices_Equal_int_int_ok, trivial⟩ trivial ⟨slices_Equal_int_int_bnd, trivial⟩ rfl

def letter_Same_keep : List (Nat × LH) := []
theorem letter_Same_raw : ConOk Go.Proofs.Try.prog X 41 (fun _ args sto K => evBody letter_Same_cx (hcN letter_Same_cx 1) letter_Same_keep [] [] Go.Proofs.Try.f41 (bodyC Go.Proofs.Try.f41) args sto K) :=
  raw_ok letter_Same_cs 1 Go.Proofs.Try.func41 (by kernel_rfl) rfl fun R => loops_all 0 (by kernel_rfl) (fun i hi => absurd hi (Nat.not_lt_zero i))

theorem letter_Same_T (R : Type) (K : D → Sto → Option R) (x : letter_Same_ac.den) : evBody letter_Same_cx (hcN letter_Same_cx 1) letter_Same_keep [] [] Go.Proofs.Try.f41 (bodyC Go.Proofs.Try.f41) (mkSt letter_Same_ac x).env (mkSt letter_Same_ac x).sto K = letter_Same_cps big R (fun a0 => K ((mkE [.leaf (.bool)] (T := Unit) (a0, ())).1.headD .any) (mkSt letter_Same_ac x).sto) x.1 x.2.1 x.2.2.1 x.2.2.2.1 x.2.2.2.2.1 x.2.2.2.2.2.1 x.2.2.2.2.2.2.1 x.2.2.2.2.2.2.2.1 x.2.2.2.2.2.2.2.2.1 x.2.2.2.2.2.2.2.2.2.1 := by kernel_rfl
theorem letter_Same_ok : ConOk Go.Proofs.Try.prog X 41 letter_Same_con :=
  conCalm_ok (src := []) (sh := []) (rs := .leaf (.bool)) letter_Same_raw (fun R K (x : letter_Same_ac.den) => letter_Same_cps big R (fun a0 => K (a0, ())) x.1 x.2.1 x.2.2.1 x.2.2.2.1 x.2.2.2.2.1 x.2.2.2.2.2.1 x.2.2.2.2.2.2.1 x.2.2.2.2.2.2.2.1 x.2.2.2.2.2.2.2.2.1 x.2.2.2.2.2.2.2.2.2.1) letter_Same_T

/-! 42 frankpledge/frankpledgeref11.Same -/
def ref11_Same_l0c : SCode := ⟨[.leaf (.lit (.any)), .leaf (.lit (.any)), .leaf (.lit (.ptr 0 0)), .leaf (.lit (.ptr 1 0)), .leaf (.lit (.any)), .leaf (.int .i64), .leaf (.lit (.any)), .leaf (.lit (.any)), .leaf (.lit (.any)), .leaf (.lit (.any)), .leaf (.lit (.any)), .leaf (.lit (.any)), .leaf (.lit (.any)), .leaf (.lit (.any)), .leaf (.lit (.any)), .leaf (.lit (.any)), .leaf (.lit (.any)), .leaf (.lit (.any)), .leaf (.lit (.any)), .leaf (.lit (.any)), .leaf (.lit (.any)), .leaf (.lit (.any)), .leaf (.lit (.any)), .leaf (.lit (.any)), .leaf (.lit (.any)), .leaf (.lit (.any)), .leaf (.lit (.any)), .leaf (.lit (.any)), .leaf (.lit (.any)), .leaf (.lit (.any)), .leaf (.lit (.any)), .leaf (.lit (.any)), .leaf (.lit (.any)), .leaf (.lit (.any)), .leaf (.lit (.any)), .leaf (.lit (.any)), .leaf (.lit (.any)), .leaf (.lit (.any)), .leaf (.lit (.any)), .leaf (.lit (.any)), .leaf (.lit (.any)), .leaf (.lit (.any)), .leaf (.lit (.any)), .leaf (.lit (.any)), .leaf (.lit (.any)), .leaf (.lit (.any)), .leaf (.lit (.any)), .leaf (.lit (.any)), .leaf (.lit (.any)), .leaf (.lit (.any)), .leaf (.lit (.any)), .leaf (.lit (.any)), .leaf (.lit (.any)), .leaf (.lit (.any)), .leaf (.lit (.any)), .leaf (.lit (.any)), .leaf (.lit (.any)), .leaf (.lit (.any)), .leaf (.lit (.any))], [[.int .i64, .int .i64, .int .i64, .int .i64, .sl .ro (.int .i64)], [.int .i64, .int .i64, .int .i64, .int .i64, .sl .ro (.int .i64)]]⟩
def ref11_Same_l0e0 : SCode := ⟨[.leaf (.lit (.any)), .leaf (.lit (.any)), .leaf (.lit (.any)), .leaf (.lit (.any)), .leaf (.lit (.any)), .leaf (.lit (.any)), .leaf (.lit (.any)), .leaf (.lit (.any)), .leaf (.lit (.any)), .leaf (.lit (.any)), .leaf (.lit (.any)), .leaf (.lit (.any)), .leaf (.lit (.any)), .leaf (.lit (.any)), .leaf (.lit (.any)), .leaf (.lit (.any)), .leaf (.lit (.any)), .leaf (.lit (.any)), .leaf (.lit (.any)), .leaf (.lit (.any)), .leaf (.lit (.any)), .leaf (.lit (.any)), .leaf (.lit (.any)), .leaf (.lit (.any)), .leaf (.lit (.any)), .leaf (.lit (.any)), .leaf (.lit (.any)), .leaf (.lit (.any)), .leaf (.lit (.any)), .leaf (.lit (.any)), .leaf (.lit (.any)), .leaf (.lit (.any)), .leaf (.lit (.any)), .leaf (.lit (.any)), .leaf (.lit (.any)), .leaf (.lit (.any)), .leaf (.lit (.any)), .leaf (.lit (.any)), .leaf (.lit (.any)), .leaf (.lit (.any)), .leaf (.lit (.any)), .leaf (.lit (.any)), .leaf (.lit (.any)), .leaf (.lit (.any)), .leaf (.lit (.any)), .leaf (.lit (.any)), .leaf (.lit (.any)), .leaf (.lit (.any)), .leaf (.lit (.any)), .leaf (.lit (.any)), .leaf (.lit (.any)), .leaf (.lit (.any)), .leaf (.lit (.any)), .leaf (.lit (.any)), .leaf (.lit (.any)), .leaf (.lit (.any)), .leaf (.lit (.any)), .leaf (.lit (.any)), .leaf (.lit (.any))], [[.int .i64, .int .i64, .int .i64, .int .i64, .sl .ro (.int .i64)], [.int .i64, .int .i64, .int .i64, .int .i64, .sl .ro (.int .i64)]]⟩
def ref11_Same_l0e1 : SCode := ⟨[.leaf (.lit (.any)), .leaf (.lit (.any)), .leaf (.lit (.any)), .leaf (.lit (.any)), .leaf (.bool), .leaf (.lit (.any)), .leaf (.lit (.any)), .leaf (.lit (.any)), .leaf (.lit (.any)), .leaf (.lit (.any)), .leaf (.lit (.any)), .leaf (.lit (.any)), .leaf (.lit (.any)), .leaf (.lit (.any)), .leaf (.lit (.any)), .leaf (.lit (.any)), .leaf (.lit (.any)), .leaf (.lit (.any)), .leaf (.lit (.any)), .leaf (.lit (.any)), .leaf (.lit (.any)), .leaf (.lit (.any)), .leaf (.lit (.any)), .leaf (.lit (.any)), .leaf (.lit (.any)), .leaf (.lit (.any)), .leaf (.lit (.any)), .leaf (.lit (.any)), .leaf (.lit (.any)), .leaf (.lit (.any)), .leaf (.lit (.any)), .leaf (.lit (.any)), .leaf (.lit (.any)), .leaf (.lit (.any)), .leaf (.lit (.any)), .leaf (.lit (.any)), .leaf (.lit (.any)), .leaf (.lit (.any)), .leaf (.lit (.any)), .leaf (.lit (.any)), .leaf (.lit (.any)), .leaf (.lit (.any)), .leaf (.lit (.any)), .leaf (.lit (.any)), .leaf (.lit (.any)), .leaf (.lit (.any)), .leaf (.lit (.any)), .leaf (.lit (.any)), .leaf (.lit (.any)), .leaf (.lit (.any)), .leaf (.lit (.any)), .leaf (.lit (.any)), .leaf (.lit (.any)), .leaf (.lit (.any)), .leaf (.lit (.any)), .leaf (.lit (.any)), .leaf (.lit (.any)), .leaf (.lit (.any)), .leaf (.lit (.any))], [[.int .i64, .int .i64, .int .i64, .int .i64, .sl .ro (.int .i64)], [.int .i64, .int .i64, .int .i64, .int .i64, .sl .ro (.int .i64)]]⟩
def ref11_Same_l0h : LH := { env := [(2, .id), (3, .id), (5, .id)], sto := [], out := [(4, .id)], con := some (lconOf ref11_Same_l0c fun R k x => ref11_Same_l0 big R (fun a0 a1 a2 a3 a4 a5 a6 a7 a8 a9 => k (.exit 0) (mkSt ref11_Same_l0e0 (a0, (a1, (a2, (a3, (a4, (a5, (a6, (a7, (a8, (a9, ())))))))))))) (fun a0 a1 a2 a3 a4 a5 a6 a7 a8 a9 a10 => k .ret (mkSt ref11_Same_l0e1 (a0, (a1, (a2, (a3, (a4, (a5, (a6, (a7, (a8, (a9, (a10, ()))))))))))))) big x.1 x.2.1 x.2.2.1 x.2.2.2.1 x.2.2.2.2.1 x.2.2.2.2.2.1 x.2.2.2.2.2.2.1 x.2.2.2.2.2.2.2.1 x.2.2.2.2.2.2.2.2.1 x.2.2.2.2.2.2.2.2.2.1 x.2.2.2.2.2.2.2.2.2.2.1) }

def ref11_Same_ac : SCode := ⟨[.agg [.int .i64, .int .i64, .int .i64, .int .i64, .sl .ro (.int .i64)], .agg [.int .i64, .int .i64, .int .i64, .int .i64, .sl .ro (.int .i64)]], []⟩
def ref11_Same_con : Con := conCalm [] [] ref11_Same_ac (.leaf (.bool)) fun x => ref11_Same big x.1 x.2.1 x.2.2.1 x.2.2.2.1 x.2.2.2.2.1 x.2.2.2.2.2.1 x.2.2.2.2.2.2.1 x.2.2.2.2.2.2.2.1 x.2.2.2.2.2.2.2.2.1 x.2.2.2.2.2.2.2.2.2.1
theorem ref11_Same_bnd {calm : List Nat} {f : Nat} : BndC calm f ref11_Same_con := bndCalm
def ref11_Same_cx : Cx := { tab := tab, con := [], funs := [], loops := [], want := want, ret := [], calm := [], bnd := [], eqs := eqs }
theorem ref11_Same_cs : CsOk Go.Proofs.Try.prog X ref11_Same_cx :=
  csOk ⟨fun _ _ h => tab_ok tabOk h, eqsOk⟩ mixed trivial trivial trivial rfl

def ref11_Same_keep : List (Nat × LH) := [(4, ref11_Same_l0h)]
theorem ref11_Same_L0s (R : Type) (recS : St → Option R) (k : Exit → St → Option R) (x : ref11_Same_l0c.den) : evCode ref11_Same_cx (hcN ref11_Same_cx 1) ref11_Same_keep (loopC Go.Proofs.Try.f42 0) (mkSt ref11_Same_l0c x) (fun e st' => match e with | .normal => recS (norm ref11_Same_l0h 2 st') | e => k e (normO ref11_Same_l0h 2 st')) = (fun rec k x => ref11_Same_l0B big R (fun a0 a1 a2 a3 a4 a5 a6 a7 a8 a9 a10 => rec (a0, (a1, (a2, (a3, (a4, (a5, (a6, (a7, (a8, (a9, (a10, ())))))))))))) (fun a0 a1 a2 a3 a4 a5 a6 a7 a8 a9 => k (.exit 0) (mkSt ref11_Same_l0e0 (a0, (a1, (a2, (a3, (a4, (a5, (a6, (a7, (a8, (a9, ())))))))))))) (fun a0 a1 a2 a3 a4 a5 a6 a7 a8 a9 a10 => k .ret (mkSt ref11_Same_l0e1 (a0, (a1, (a2, (a3, (a4, (a5, (a6, (a7, (a8, (a9, (a10, ()))))))))))))) x.1 x.2.1 x.2.2.1 x.2.2.2.1 x.2.2.2.2.1 x.2.2.2.2.2.1 x.2.2.2.2.2.2.1 x.2.2.2.2.2.2.2.1 x.2.2.2.2.2.2.2.2.1 x.2.2.2.2.2.2.2.2.2.1 x.2.2.2.2.2.2.2.2.2.2.1) (fun y => recS (mkSt ref11_Same_l0c y)) k x := by kernel_rfl
theorem ref11_Same_L0 (R : Type) : LOkR (R := R) ref11_Same_cx (hcN ref11_Same_cx 1) ref11_Same_keep (loopC Go.Proofs.Try.f42 0) :=
  lok_iter (lh := ref11_Same_l0h) ref11_Same_l0c (fun R n k x => ref11_Same_l0 big R (fun a0 a1 a2 a3 a4 a5 a6 a7 a8 a9 => k (.exit 0) (mkSt ref11_Same_l0e0 (a0, (a1, (a2, (a3, (a4, (a5, (a6, (a7, (a8, (a9, ())))))))))))) (fun a0 a1 a2 a3 a4 a5 a6 a7 a8 a9 a10 => k .ret (mkSt ref11_Same_l0e1 (a0, (a1, (a2, (a3, (a4, (a5, (a6, (a7, (a8, (a9, (a10, ()))))))))))))) n x.1 x.2.1 x.2.2.1 x.2.2.2.1 x.2.2.2.2.1 x.2.2.2.2.2.1 x.2.2.2.2.2.2.1 x.2.2.2.2.2.2.2.1 x.2.2.2.2.2.2.2.2.1 x.2.2.2.2.2.2.2.2.2.1 x.2.2.2.2.2.2.2.2.2.2.1) (fun _ => big) (fun rec k x => ref11_Same_l0B big R (fun a0 a1 a2 a3 a4 a5 a6 a7 a8 a9 a10 => rec (a0, (a1, (a2, (a3, (a4, (a5, (a6, (a7, (a8, (a9, (a10, ())))))))))))) (fun a0 a1 a2 a3 a4 a5 a6 a7 a8 a9 => k (.exit 0) (mkSt ref11_Same_l0e0 (a0, (a1, (a2, (a3, (a4, (a5, (a6, (a7, (a8, (a9, ())))))))))))) (fun a0 a1 a2 a3 a4 a5 a6 a7 a8 a9 a10 => k .ret (mkSt ref11_Same_l0e1 (a0, (a1, (a2, (a3, (a4, (a5, (a6, (a7, (a8, (a9, (a10, ()))))))))))))) x.1 x.2.1 x.2.2.1 x.2.2.2.1 x.2.2.2.2.1 x.2.2.2.2.2.1 x.2.2.2.2.2.2.1 x.2.2.2.2.2.2.2.1 x.2.2.2.2.2.2.2.2.1 x.2.2.2.2.2.2.2.2.2.1 x.2.2.2.2.2.2.2.2.2.2.1) rfl rfl (ref11_Same_L0s R) (fun _ _ => rfl) (fun _ _ _ => rfl)

theorem ref11_Same_raw : ConOk Go.Proofs.Try.prog X 42 (fun _ args sto K => evBody ref11_Same_cx (hcN ref11_Same_cx 1) ref11_Same_keep [] [] Go.Proofs.Try.f42 (bodyC Go.Proofs.Try.f42) args sto K) :=
  raw_ok ref11_Same_cs 1 Go.Proofs.Try.func42 (by kernel_rfl) rfl fun R => loops_all 1 (by kernel_rfl) (fun i hi => match i, hi with | 0, _ => ref11_Same_L0 R | n + 1, h => absurd h (by omega))

theorem ref11_Same_T (R : Type) (K : D → Sto → Option R) (x : ref11_Same_ac.den) : evBody ref11_Same_cx (hcN ref11_Same_cx 1) ref11_Same_keep [] [] Go.Proofs.Try.f42 (bodyC Go.Proofs.Try.f42) (mkSt ref11_Same_ac x).env (mkSt ref11_Same_ac x).sto K = ref11_Same_cps big R (fun a0 => K ((mkE [.leaf (.bool)] (T := Unit) (a0, ())).1.headD .any) (mkSt ref11_Same_ac x).sto) x.1 x.2.1 x.2.2.1 x.2.2.2.1 x.2.2.2.2.1 x.2.2.2.2.2.1 x.2.2.2.2.2.2.1 x.2.2.2.2.2.2.2.1 x.2.2.2.2.2.2.2.2.1 x.2.2.2.2.2.2.2.2.2.1 := by kernel_rfl
theorem ref11_Same_ok : ConOk Go.Proofs.Try.prog X 42 ref11_Same_con :=
  conCalm_ok (src := []) (sh := []) (rs := .leaf (.bool)) ref11_Same_raw (fun R K (x : ref11_Same_ac.den) => ref11_Same_cps big R (fun a0 => K (a0, ())) x.1 x.2.1 x.2.2.1 x.2.2.2.1 x.2.2.2.2.1 x.2.2.2.2.2.1 x.2.2.2.2.2.2.1 x.2.2.2.2.2.2.2.1 x.2.2.2.2.2.2.2.2.1 x.2.2.2.2.2.2.2.2.2.1) ref11_Same_T

/-! 11 frankpledge/frankpledgelaw11.LetterSame -/
def law11_LetterSame_ac : SCode := ⟨[.agg [.int .i64, .int .i64, .int .i64, .int .i64, .sl .ro (.int .i64)], .agg [.int .i64, .int .i64, .int .i64, .int .i64, .sl .ro (.int .i64)]], []⟩
def law11_LetterSame_con : Con := conCalm [] [] law11_LetterSame_ac (.leaf (.bool)) fun x => law11_LetterSame big x.1 x.2.1 x.2.2.1 x.2.2.2.1 x.2.2.2.2.1 x.2.2.2.2.2.1 x.2.2.2.2.2.2.1 x.2.2.2.2.2.2.2.1 x.2.2.2.2.2.2.2.2.1 x.2.2.2.2.2.2.2.2.2.1
theorem law11_LetterSame_bnd {calm : List Nat} {f : Nat} : BndC calm f law11_LetterSame_con := bndCalm
def law11_LetterSame_cx : Cx := { tab := tab, con := [(40, law11_alive_con), (41, letter_Same_con), (42, ref11_Same_con), (43, letter_Encode_con)], funs := [], loops := [], want := want, ret := [], calm := [40, 41, 42, 43], bnd := [40, 41, 42, 43], eqs := eqs }
theorem law11_LetterSame_cs : CsOk Go.Proofs.Try.prog X law11_LetterSame_cx :=
  csOk ⟨fun _ _ h => tab_ok tabOk h, eqsOk⟩ mixed ⟨law11_alive_ok, letter_Same_ok, ref11_Same_ok, letter_Encode_ok, trivial⟩ trivial ⟨law11_alive_bnd, letter_Same_bnd, ref11_Same_bnd, letter_Encode_bnd, trivial⟩ rfl

def law11_LetterSame_keep : List (Nat × LH) := []
theorem law11_LetterSame_raw : ConOk Go.Proofs.Try.prog X 11 (fun _ args sto K => evBody law11_LetterSame_cx (hcN law11_LetterSame_cx 1) law11_LetterSame_keep [] [] Go.Proofs.Try.f11 (bodyC Go.Proofs.Try.f11) args sto K) :=
  raw_ok law11_LetterSame_cs 1 Go.Proofs.Try.func11 (by kernel_rfl) rfl fun R => loops_all 0 (by kernel_rfl) (fun i hi => absurd hi (Nat.not_lt_zero i))

theorem law11_LetterSame_T (R : Type) (K : D → Sto → Option R) (x : law11_LetterSame_ac.den) : evBody law11_LetterSame_cx (hcN law11_LetterSame_cx 1) law11_LetterSame_keep [] [] Go.Proofs.Try.f11 (bodyC Go.Proofs.Try.f11) (mkSt law11_LetterSame_ac x).env (mkSt law11_LetterSame_ac x).sto K = law11_LetterSame_cps big R (fun a0 => K ((mkE [.leaf (.bool)] (T := Unit) (a0, ())).1.headD .any) (mkSt law11_LetterSame_ac x).sto) x.1 x.2.1 x.2.2.1 x.2.2.2.1 x.2.2.2.2.1 x.2.2.2.2.2.1 x.2.2.2.2.2.2.1 x.2.2.2.2.2.2.2.1 x.2.2.2.2.2.2.2.2.1 x.2.2.2.2.2.2.2.2.2.1 := by kernel_rfl
theorem law11_LetterSame_ok : ConOk Go.Proofs.Try.prog X 11 law11_LetterSame_con :=
  conCalm_ok (src := []) (sh := []) (rs := .leaf (.bool)) law11_LetterSame_raw (fun R K (x : law11_LetterSame_ac.den) => law11_LetterSame_cps big R (fun a0 => K (a0, ())) x.1 x.2.1 x.2.2.1 x.2.2.2.1 x.2.2.2.2.1 x.2.2.2.2.2.1 x.2.2.2.2.2.2.1 x.2.2.2.2.2.2.2.1 x.2.2.2.2.2.2.2.2.1 x.2.2.2.2.2.2.2.2.2.1) law11_LetterSame_T

end
end Go.Proofs.Ytkeejnlicagjiaa.E
