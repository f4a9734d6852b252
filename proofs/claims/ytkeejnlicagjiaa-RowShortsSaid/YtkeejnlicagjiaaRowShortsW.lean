/-
  The statement RowShorts of the program is proved: for every input that the row speaks of, the law answers true.
  Conditions: those that the statement's row prints, and no other. This text: the walk: the code comes to the pure functions.
-/
import Derived.Test.YtkeejnlicagjiaaEvC
import Derived.KernelRfl
import Derived.Test.YtkeejnlicagjiaaRows
import Derived.Test.YtkeejnlicagjiaaRowShortsF
set_option linter.unusedVariables false
set_option linter.unusedSimpArgs false
/-! The walk, printed by wip/gen out of the translation. -/
namespace Go.Proofs.Ytkeejnlicagjiaa.E
open Go.Ev Go.ChangeShapes
set_option maxRecDepth 100000
noncomputable section
noncomputable def tab : List (Nat × TE) := [(2, { d := .int .i64, size := 1, bytes := 8, agg := false, ty := some (.int .i64), zero := [.int .i64 0] }),
  (3, { d := .int .i64, size := 1, bytes := 8, agg := false, ty := some (.int .i64), zero := [.int .i64 0] }),
  (4, { d := .bool, size := 1, bytes := 1, agg := false, ty := some .bool, zero := [.bool false] }),
  (5, { d := .int .u8, size := 1, bytes := 1, agg := false, ty := some .byte, zero := [.int .u8 0] }),
  (9, { d := .str, size := 1, bytes := 16, agg := false, ty := some .str, zero := [.str []] }),
  (22, { d := .slice 31, size := 1, bytes := 24, agg := false, ty := some (.slice (.pair (.int .i64) (.pair (.int .i64) (.pair .str .unit)))), zero := [.nils] }),
  (24, { d := .slice 5, size := 1, bytes := 24, agg := false, ty := some (.slice .byte), zero := [.nils] }),
  (29, { d := .int .i64, size := 1, bytes := 8, agg := false, ty := some (.int .i64), zero := [.int .i64 0] }),
  (31, { d := .struct [⟨0, 1, false⟩, ⟨1, 1, false⟩, ⟨2, 1, false⟩], size := 3, bytes := 32, agg := true, ty := some (.pair (.int .i64) (.pair (.int .i64) (.pair .str .unit))), zero := [.int .i64 0, .int .i64 0, .str []] }),
  (80, { d := .int .u64, size := 1, bytes := 8, agg := false, ty := some (.int .u64), zero := [.int .u64 0] }),
  (81, { d := .int .u64, size := 1, bytes := 8, agg := false, ty := some (.int .u64), zero := [.int .u64 0] })]
def want : List (Nat × List Nat) := []
def eqs : List Nat := []
theorem tabOk : tabB Go.Proofs.Try.prog tab = true := by kernel_rfl
def X : Cfg := ⟨0, 0⟩
theorem mixed : Go.Proofs.Try.prog.follows .mixedOrders = true := by kernel_rfl
theorem eqsOk : ∀ t, t ∈ eqs → EqOk Go.Proofs.Try.prog X t := by intro t h; simp [eqs] at h
/-! 48 frankpledge/value.Right -/
def value_Right_ac : SCode := ⟨[.agg [.int .i64, .int .i64, .str]], []⟩
def value_Right_con : Con := conCalm [] [] value_Right_ac (.leaf (.bool)) fun x => value_Right big x.1 x.2.1 x.2.2.1
def value_Right_cx : Cx := { tab := tab, con := [], funs := [], loops := [], want := want, ret := [], calm := [], bnd := [], eqs := eqs }
theorem value_Right_cs : CsOk Go.Proofs.Try.prog X value_Right_cx :=
  csOk ⟨fun _ _ h => tab_ok tabOk h, eqsOk⟩ mixed trivial trivial trivial rfl

def value_Right_keep : List (Nat × LH) := []
theorem value_Right_raw : ConOk Go.Proofs.Try.prog X 48 (fun _ args sto K => evBody value_Right_cx (hcN value_Right_cx 1) value_Right_keep [] Go.Proofs.Try.f48 (bodyC Go.Proofs.Try.f48) args sto K) :=
  raw_ok value_Right_cs 1 Go.Proofs.Try.func48 (by kernel_rfl) rfl fun R => loops_all 0 (by kernel_rfl) (fun i hi => absurd hi (Nat.not_lt_zero i))

theorem value_Right_T (R : Type) (K : D → Sto → Option R) (x : value_Right_ac.den) : evBody value_Right_cx (hcN value_Right_cx 1) value_Right_keep [] Go.Proofs.Try.f48 (bodyC Go.Proofs.Try.f48) (mkSt value_Right_ac x).env (mkSt value_Right_ac x).sto K = value_Right_cps big R (fun a0 => K ((mkE [.leaf (.bool)] (T := Unit) (a0, ())).1.headD .any) (mkSt value_Right_ac x).sto) x.1 x.2.1 x.2.2.1 := by kernel_rfl
theorem value_Right_ok : ConOk Go.Proofs.Try.prog X 48 value_Right_con :=
  conCalm_ok (src := []) (sh := []) (rs := .leaf (.bool)) value_Right_raw (fun R K (x : value_Right_ac.den) => value_Right_cps big R (fun a0 => K (a0, ())) x.1 x.2.1 x.2.2.1) value_Right_T

/-! 18 frankpledge/row.Short -/
def row_Short_l0c : SCode := ⟨[.leaf (.lit (.any)), .leaf (.lit (.any)), .leaf (.lit (.any)), .leaf (.int .u64), .leaf (.sl .own .byte), .leaf (.lit (.any)), .leaf (.lit (.any)), .leaf (.lit (.any)), .leaf (.lit (.any)), .leaf (.lit (.any)), .leaf (.lit (.any)), .leaf (.lit (.any)), .leaf (.lit (.any)), .leaf (.lit (.any)), .leaf (.lit (.any)), .leaf (.lit (.any)), .leaf (.lit (.any)), .leaf (.lit (.any)), .leaf (.lit (.any)), .leaf (.lit (.any)), .leaf (.lit (.any)), .leaf (.lit (.any)), .leaf (.lit (.any)), .leaf (.lit (.any)), .leaf (.lit (.any)), .leaf (.lit (.any)), .leaf (.lit (.any))], []⟩
def row_Short_l0e0 : SCode := ⟨[.leaf (.lit (.any)), .leaf (.lit (.any)), .leaf (.lit (.any)), .leaf (.int .u64), .leaf (.sl .own .byte), .leaf (.lit (.any)), .leaf (.lit (.any)), .leaf (.lit (.any)), .leaf (.lit (.any)), .leaf (.lit (.any)), .leaf (.lit (.any)), .leaf (.lit (.any)), .leaf (.lit (.any)), .leaf (.lit (.any)), .leaf (.lit (.any)), .leaf (.lit (.any)), .leaf (.lit (.any)), .leaf (.lit (.any)), .leaf (.lit (.any)), .leaf (.lit (.any)), .leaf (.lit (.any)), .leaf (.lit (.any)), .leaf (.lit (.any)), .leaf (.lit (.any)), .leaf (.lit (.any)), .leaf (.lit (.any)), .leaf (.lit (.any))], []⟩
def row_Short_l0h : LH := { env := [(3, .id), (4, .own .byte)], sto := [], out := [(3, .id), (4, .id)], con := some (lconOf row_Short_l0c fun R k x => row_Short_l0 big R (fun a0 a1 => k (.exit 0) (mkSt row_Short_l0e0 (a0, (a1, ())))) big x.1 x.2.1) }

def row_Short_ac : SCode := ⟨[.leaf (.int .i64)], []⟩
def row_Short_con : Con := conCalm [] [] row_Short_ac (.leaf (.sl .own .byte)) fun x => row_Short big x.1
def row_Short_cx : Cx := { tab := tab, con := [], funs := [], loops := [], want := want, ret := [], calm := [], bnd := [], eqs := eqs }
theorem row_Short_cs : CsOk Go.Proofs.Try.prog X row_Short_cx :=
  csOk ⟨fun _ _ h => tab_ok tabOk h, eqsOk⟩ mixed trivial trivial trivial rfl

def row_Short_keep : List (Nat × LH) := [(3, row_Short_l0h)]
theorem row_Short_L0s (R : Type) (recS : St → Option R) (k : Exit → St → Option R) (x : row_Short_l0c.den) : evCode row_Short_cx (hcN row_Short_cx 1) row_Short_keep (loopC Go.Proofs.Try.f18 0) (mkSt row_Short_l0c x) (fun e st' => match e with | .normal => recS (norm row_Short_l0h 0 st') | e => k e (normO row_Short_l0h 0 st')) = (fun rec k x => row_Short_l0B big R (fun a0 a1 => rec (a0, (a1, ()))) (fun a0 a1 => k (.exit 0) (mkSt row_Short_l0e0 (a0, (a1, ())))) x.1 x.2.1) (fun y => recS (mkSt row_Short_l0c y)) k x := by kernel_rfl
theorem row_Short_L0 (R : Type) : LOkR (R := R) row_Short_cx (hcN row_Short_cx 1) row_Short_keep (loopC Go.Proofs.Try.f18 0) :=
  lok_iter (lh := row_Short_l0h) row_Short_l0c (fun R n k x => row_Short_l0 big R (fun a0 a1 => k (.exit 0) (mkSt row_Short_l0e0 (a0, (a1, ())))) n x.1 x.2.1) (fun _ => big) (fun rec k x => row_Short_l0B big R (fun a0 a1 => rec (a0, (a1, ()))) (fun a0 a1 => k (.exit 0) (mkSt row_Short_l0e0 (a0, (a1, ())))) x.1 x.2.1) rfl rfl (row_Short_L0s R) (fun _ _ => rfl) (fun _ _ _ => rfl)

theorem row_Short_raw : ConOk Go.Proofs.Try.prog X 18 (fun _ args sto K => evBody row_Short_cx (hcN row_Short_cx 1) row_Short_keep [] Go.Proofs.Try.f18 (bodyC Go.Proofs.Try.f18) args sto K) :=
  raw_ok row_Short_cs 1 Go.Proofs.Try.func18 (by kernel_rfl) rfl fun R => loops_all 1 (by kernel_rfl) (fun i hi => match i, hi with | 0, _ => row_Short_L0 R | n + 1, h => absurd h (by omega))

theorem row_Short_T (R : Type) (K : D → Sto → Option R) (x : row_Short_ac.den) : evBody row_Short_cx (hcN row_Short_cx 1) row_Short_keep [] Go.Proofs.Try.f18 (bodyC Go.Proofs.Try.f18) (mkSt row_Short_ac x).env (mkSt row_Short_ac x).sto K = row_Short_cps big R (fun a0 => K ((mkE [.leaf (.sl .own .byte)] (T := Unit) (a0, ())).1.headD .any) (mkSt row_Short_ac x).sto) x.1 := by kernel_rfl
theorem row_Short_ok : ConOk Go.Proofs.Try.prog X 18 row_Short_con :=
  conCalm_ok (src := []) (sh := []) (rs := .leaf (.sl .own .byte)) row_Short_raw (fun R K (x : row_Short_ac.den) => row_Short_cps big R (fun a0 => K (a0, ())) x.1) row_Short_T

/-! 16 frankpledge/row.Encode -/
def row_Encode_l0c : SCode := ⟨[.leaf (.lit (.any)), .leaf (.lit (.any)), .leaf (.lit (.any)), .leaf (.lit (.any)), .leaf (.sl .own .byte), .leaf (.lit (.any)), .leaf (.lit (.any)), .leaf (.lit (.any)), .leaf (.lit (.any)), .leaf (.lit (.any)), .leaf (.lit (.any)), .leaf (.lit (.any)), .leaf (.lit (.any)), .leaf (.lit (.any)), .leaf (.sl .ro (.pair (.int .i64) (.pair (.int .i64) (.pair .str .unit)))), .leaf (.int .i64), .leaf (.int .i64), .leaf (.lit (.any)), .leaf (.lit (.any)), .leaf (.lit (.any)), .leaf (.lit (.any)), .leaf (.lit (.any)), .leaf (.lit (.any)), .leaf (.lit (.any)), .leaf (.lit (.any)), .leaf (.lit (.any)), .leaf (.lit (.any)), .leaf (.lit (.any)), .leaf (.lit (.any)), .leaf (.lit (.any)), .leaf (.lit (.any)), .leaf (.lit (.any)), .leaf (.lit (.any)), .leaf (.lit (.any)), .leaf (.lit (.any)), .leaf (.lit (.any)), .leaf (.lit (.any)), .leaf (.lit (.any)), .leaf (.lit (.any)), .leaf (.lit (.any)), .leaf (.lit (.any)), .leaf (.lit (.any)), .leaf (.lit (.any)), .leaf (.lit (.any)), .leaf (.lit (.any)), .leaf (.lit (.any)), .leaf (.lit (.any)), .leaf (.lit (.any)), .leaf (.lit (.any)), .leaf (.lit (.any)), .leaf (.lit (.any)), .leaf (.lit (.any)), .leaf (.lit (.any)), .leaf (.lit (.any)), .leaf (.lit (.any)), .leaf (.lit (.any)), .leaf (.lit (.any)), .leaf (.lit (.any)), .leaf (.lit (.any)), .leaf (.lit (.any)), .leaf (.lit (.any)), .leaf (.lit (.any)), .leaf (.lit (.any))], []⟩
def row_Encode_l0e0 : SCode := ⟨[.leaf (.lit (.any)), .leaf (.lit (.any)), .leaf (.lit (.any)), .leaf (.lit (.any)), .leaf (.sl .own .byte), .leaf (.lit (.any)), .leaf (.lit (.any)), .leaf (.lit (.any)), .leaf (.lit (.any)), .leaf (.lit (.any)), .leaf (.lit (.any)), .leaf (.lit (.any)), .leaf (.lit (.any)), .leaf (.lit (.any)), .leaf (.lit (.any)), .leaf (.lit (.any)), .leaf (.lit (.any)), .leaf (.lit (.any)), .leaf (.lit (.any)), .leaf (.lit (.any)), .leaf (.lit (.any)), .leaf (.lit (.any)), .leaf (.lit (.any)), .leaf (.lit (.any)), .leaf (.lit (.any)), .leaf (.lit (.any)), .leaf (.lit (.any)), .leaf (.lit (.any)), .leaf (.lit (.any)), .leaf (.lit (.any)), .leaf (.lit (.any)), .leaf (.lit (.any)), .leaf (.lit (.any)), .leaf (.lit (.any)), .leaf (.lit (.any)), .leaf (.lit (.any)), .leaf (.lit (.any)), .leaf (.lit (.any)), .leaf (.lit (.any)), .leaf (.lit (.any)), .leaf (.lit (.any)), .leaf (.lit (.any)), .leaf (.lit (.any)), .leaf (.lit (.any)), .leaf (.lit (.any)), .leaf (.lit (.any)), .leaf (.lit (.any)), .leaf (.lit (.any)), .leaf (.lit (.any)), .leaf (.lit (.any)), .leaf (.lit (.any)), .leaf (.lit (.any)), .leaf (.lit (.any)), .leaf (.lit (.any)), .leaf (.lit (.any)), .leaf (.lit (.any)), .leaf (.lit (.any)), .leaf (.lit (.any)), .leaf (.lit (.any)), .leaf (.lit (.any)), .leaf (.lit (.any)), .leaf (.lit (.any)), .leaf (.lit (.any))], []⟩
def row_Encode_l0e1 : SCode := ⟨[.leaf (.lit (.any)), .leaf (.lit (.any)), .leaf (.lit (.nils)), .leaf (.int .i64), .leaf (.sl .own .byte), .leaf (.lit (.any)), .leaf (.lit (.any)), .leaf (.lit (.any)), .leaf (.lit (.any)), .leaf (.lit (.any)), .leaf (.lit (.any)), .leaf (.lit (.any)), .leaf (.lit (.any)), .leaf (.lit (.any)), .leaf (.lit (.any)), .leaf (.lit (.any)), .leaf (.lit (.any)), .leaf (.lit (.any)), .leaf (.lit (.any)), .leaf (.lit (.any)), .leaf (.lit (.any)), .leaf (.lit (.any)), .leaf (.lit (.any)), .leaf (.lit (.any)), .leaf (.lit (.any)), .leaf (.lit (.any)), .leaf (.lit (.any)), .leaf (.lit (.any)), .leaf (.lit (.any)), .leaf (.lit (.any)), .leaf (.lit (.any)), .leaf (.lit (.any)), .leaf (.lit (.any)), .leaf (.lit (.any)), .leaf (.lit (.any)), .leaf (.lit (.any)), .leaf (.lit (.any)), .leaf (.lit (.any)), .leaf (.lit (.any)), .leaf (.lit (.any)), .leaf (.lit (.any)), .leaf (.lit (.any)), .leaf (.lit (.any)), .leaf (.lit (.any)), .leaf (.lit (.any)), .leaf (.lit (.any)), .leaf (.lit (.any)), .leaf (.lit (.any)), .leaf (.lit (.any)), .leaf (.lit (.any)), .leaf (.lit (.any)), .leaf (.lit (.any)), .leaf (.lit (.any)), .leaf (.lit (.any)), .leaf (.lit (.any)), .leaf (.lit (.any)), .leaf (.lit (.any)), .leaf (.lit (.any)), .leaf (.lit (.any)), .leaf (.lit (.any)), .leaf (.lit (.any)), .leaf (.lit (.any)), .leaf (.lit (.any))], []⟩
def row_Encode_l0h : LH := { env := [(4, .id), (14, .id), (15, .id), (16, .id)], sto := [], out := [(2, .id), (3, .id), (4, .id)], con := some (lconOf row_Encode_l0c fun R k x => row_Encode_l0 big R (fun a0 => k (.exit 0) (mkSt row_Encode_l0e0 (a0, ()))) (fun a0 a1 => k .ret (mkSt row_Encode_l0e1 (a0, (a1, ())))) big x.1 x.2.1 x.2.2.1 x.2.2.2.1) }

def row_Encode_ac : SCode := ⟨[.leaf (.sl .ro (.pair (.int .i64) (.pair (.int .i64) (.pair .str .unit))))], []⟩
def row_Encode_con : Con := conCalm [] [] row_Encode_ac (.tup [.sl .own .byte, .int .i64]) fun x => row_Encode big x.1
def row_Encode_cx : Cx := { tab := tab, con := [(18, row_Short_con), (48, value_Right_con)], funs := [], loops := [], want := want, ret := [], calm := [18, 48], bnd := [18, 48], eqs := eqs }
theorem row_Encode_cs : CsOk Go.Proofs.Try.prog X row_Encode_cx :=
  csOk ⟨fun _ _ h => tab_ok tabOk h, eqsOk⟩ mixed ⟨row_Short_ok, value_Right_ok, trivial⟩ trivial ⟨bndCalm, bndCalm, trivial⟩ rfl

def row_Encode_keep : List (Nat × LH) := [(5, row_Encode_l0h)]
theorem row_Encode_L0s (R : Type) (recS : St → Option R) (k : Exit → St → Option R) (x : row_Encode_l0c.den) : evCode row_Encode_cx (hcN row_Encode_cx 1) row_Encode_keep (loopC Go.Proofs.Try.f16 0) (mkSt row_Encode_l0c x) (fun e st' => match e with | .normal => recS (norm row_Encode_l0h 0 st') | e => k e (normO row_Encode_l0h 0 st')) = (fun rec k x => row_Encode_l0B big R (fun a0 a1 a2 a3 => rec (a0, (a1, (a2, (a3, ()))))) (fun a0 => k (.exit 0) (mkSt row_Encode_l0e0 (a0, ()))) (fun a0 a1 => k .ret (mkSt row_Encode_l0e1 (a0, (a1, ())))) x.1 x.2.1 x.2.2.1 x.2.2.2.1) (fun y => recS (mkSt row_Encode_l0c y)) k x := by kernel_rfl
theorem row_Encode_L0 (R : Type) : LOkR (R := R) row_Encode_cx (hcN row_Encode_cx 1) row_Encode_keep (loopC Go.Proofs.Try.f16 0) :=
  lok_iter (lh := row_Encode_l0h) row_Encode_l0c (fun R n k x => row_Encode_l0 big R (fun a0 => k (.exit 0) (mkSt row_Encode_l0e0 (a0, ()))) (fun a0 a1 => k .ret (mkSt row_Encode_l0e1 (a0, (a1, ())))) n x.1 x.2.1 x.2.2.1 x.2.2.2.1) (fun _ => big) (fun rec k x => row_Encode_l0B big R (fun a0 a1 a2 a3 => rec (a0, (a1, (a2, (a3, ()))))) (fun a0 => k (.exit 0) (mkSt row_Encode_l0e0 (a0, ()))) (fun a0 a1 => k .ret (mkSt row_Encode_l0e1 (a0, (a1, ())))) x.1 x.2.1 x.2.2.1 x.2.2.2.1) rfl rfl (row_Encode_L0s R) (fun _ _ => rfl) (fun _ _ _ => rfl)

theorem row_Encode_raw : ConOk Go.Proofs.Try.prog X 16 (fun _ args sto K => evBody row_Encode_cx (hcN row_Encode_cx 1) row_Encode_keep [.own .byte, .id] Go.Proofs.Try.f16 (bodyC Go.Proofs.Try.f16) args sto K) :=
  raw_ok row_Encode_cs 1 Go.Proofs.Try.func16 (by kernel_rfl) rfl fun R => loops_all 1 (by kernel_rfl) (fun i hi => match i, hi with | 0, _ => row_Encode_L0 R | n + 1, h => absurd h (by omega))

theorem row_Encode_T (R : Type) (K : D → Sto → Option R) (x : row_Encode_ac.den) : evBody row_Encode_cx (hcN row_Encode_cx 1) row_Encode_keep [.own .byte, .id] Go.Proofs.Try.f16 (bodyC Go.Proofs.Try.f16) (mkSt row_Encode_ac x).env (mkSt row_Encode_ac x).sto K = row_Encode_cps big R (fun a0 a1 => K ((mkE [.tup [.sl .own .byte, .int .i64]] (T := Unit) (a0, (a1, ()))).1.headD .any) (mkSt row_Encode_ac x).sto) x.1 := by kernel_rfl
theorem row_Encode_ok : ConOk Go.Proofs.Try.prog X 16 row_Encode_con :=
  conCalm_ok (src := []) (sh := []) (rs := .tup [.sl .own .byte, .int .i64]) row_Encode_raw (fun R K (x : row_Encode_ac.den) => row_Encode_cps big R (fun a0 a1 => K (a0, (a1, ()))) x.1) row_Encode_T

/-! 17 frankpledge/frankpledgelaw05.alive -/
def law05_alive_ac : SCode := ⟨[], []⟩
def law05_alive_con : Con := conCalm [] [] law05_alive_ac (.leaf (.bool)) fun x => law05_alive big 
def law05_alive_cx : Cx := { tab := tab, con := [(16, row_Encode_con)], funs := [], loops := [], want := want, ret := [], calm := [16], bnd := [16], eqs := eqs }
theorem law05_alive_cs : CsOk Go.Proofs.Try.prog X law05_alive_cx :=
  csOk ⟨fun _ _ h => tab_ok tabOk h, eqsOk⟩ mixed ⟨row_Encode_ok, trivial⟩ trivial ⟨bndCalm, trivial⟩ rfl

def law05_alive_keep : List (Nat × LH) := []
theorem law05_alive_raw : ConOk Go.Proofs.Try.prog X 17 (fun _ args sto K => evBody law05_alive_cx (hcN law05_alive_cx 1) law05_alive_keep [] Go.Proofs.Try.f17 (bodyC Go.Proofs.Try.f17) args sto K) :=
  raw_ok law05_alive_cs 1 Go.Proofs.Try.func17 (by kernel_rfl) rfl fun R => loops_all 0 (by kernel_rfl) (fun i hi => absurd hi (Nat.not_lt_zero i))

theorem law05_alive_T (R : Type) (K : D → Sto → Option R) (x : law05_alive_ac.den) : evBody law05_alive_cx (hcN law05_alive_cx 1) law05_alive_keep [] Go.Proofs.Try.f17 (bodyC Go.Proofs.Try.f17) (mkSt law05_alive_ac x).env (mkSt law05_alive_ac x).sto K = law05_alive_cps big R (fun a0 => K ((mkE [.leaf (.bool)] (T := Unit) (a0, ())).1.headD .any) (mkSt law05_alive_ac x).sto)  := by kernel_rfl
theorem law05_alive_ok : ConOk Go.Proofs.Try.prog X 17 law05_alive_con :=
  conCalm_ok (src := []) (sh := []) (rs := .leaf (.bool)) law05_alive_raw (fun R K (x : law05_alive_ac.den) => law05_alive_cps big R (fun a0 => K (a0, ())) ) law05_alive_T

/-! 56 math/bits.Len64 -/
def bits_Len64_ac : SCode := ⟨[.leaf (.int .u64)], []⟩
def bits_Len64_con : Con := conCalm [] [] bits_Len64_ac (.leaf (.int .i64)) fun x => bits_Len64 big x.1
def bits_Len64_cx : Cx := { tab := tab, con := [], funs := [], loops := [], want := want, ret := [], calm := [], bnd := [], eqs := eqs }
theorem bits_Len64_cs : CsOk Go.Proofs.Try.prog X bits_Len64_cx :=
  csOk ⟨fun _ _ h => tab_ok tabOk h, eqsOk⟩ mixed trivial trivial trivial rfl

def bits_Len64_keep : List (Nat × LH) := []
theorem bits_Len64_raw : ConOk Go.Proofs.Try.prog X 56 (fun _ args sto K => evBody bits_Len64_cx (hcN bits_Len64_cx 1) bits_Len64_keep [] Go.Proofs.Try.f56 (bodyC Go.Proofs.Try.f56) args sto K) :=
  raw_ok bits_Len64_cs 1 Go.Proofs.Try.func56 (by kernel_rfl) rfl fun R => loops_all 0 (by kernel_rfl) (fun i hi => absurd hi (Nat.not_lt_zero i))

theorem bits_Len64_T (R : Type) (K : D → Sto → Option R) (x : bits_Len64_ac.den) : evBody bits_Len64_cx (hcN bits_Len64_cx 1) bits_Len64_keep [] Go.Proofs.Try.f56 (bodyC Go.Proofs.Try.f56) (mkSt bits_Len64_ac x).env (mkSt bits_Len64_ac x).sto K = bits_Len64_cps big R (fun a0 => K ((mkE [.leaf (.int .i64)] (T := Unit) (a0, ())).1.headD .any) (mkSt bits_Len64_ac x).sto) x.1 := by kernel_rfl
theorem bits_Len64_ok : ConOk Go.Proofs.Try.prog X 56 bits_Len64_con :=
  conCalm_ok (src := []) (sh := []) (rs := .leaf (.int .i64)) bits_Len64_raw (fun R K (x : bits_Len64_ac.den) => bits_Len64_cps big R (fun a0 => K (a0, ())) x.1) bits_Len64_T

/-! 37 frankpledge/row.Long -/
def row_Long_l0c : SCode := ⟨[.leaf (.lit (.any)), .leaf (.lit (.any)), .leaf (.lit (.any)), .leaf (.lit (.any)), .leaf (.lit (.any)), .leaf (.int .u64), .leaf (.lit (.any)), .leaf (.lit (.any)), .leaf (.lit (.any)), .leaf (.sl .ro .byte), .leaf (.int .i64), .leaf (.int .i64), .leaf (.lit (.any)), .leaf (.lit (.any)), .leaf (.lit (.any)), .leaf (.lit (.any)), .leaf (.lit (.any)), .leaf (.lit (.any)), .leaf (.lit (.any)), .leaf (.lit (.any)), .leaf (.lit (.any)), .leaf (.lit (.any)), .leaf (.lit (.any)), .leaf (.lit (.any)), .leaf (.lit (.any)), .leaf (.lit (.any)), .leaf (.lit (.any)), .leaf (.lit (.any)), .leaf (.lit (.any)), .leaf (.lit (.any)), .leaf (.lit (.any)), .leaf (.lit (.any)), .leaf (.lit (.any)), .leaf (.lit (.any)), .leaf (.lit (.any)), .leaf (.lit (.any)), .leaf (.lit (.any)), .leaf (.lit (.any)), .leaf (.lit (.any)), .leaf (.lit (.any)), .leaf (.lit (.any)), .leaf (.lit (.any)), .leaf (.lit (.any)), .leaf (.lit (.any)), .leaf (.lit (.any)), .leaf (.lit (.any)), .leaf (.lit (.any)), .leaf (.lit (.any)), .leaf (.lit (.any)), .leaf (.lit (.any)), .leaf (.lit (.any)), .leaf (.lit (.any))], []⟩
def row_Long_l0e0 : SCode := ⟨[.leaf (.lit (.any)), .leaf (.lit (.any)), .leaf (.lit (.any)), .leaf (.lit (.any)), .leaf (.lit (.any)), .leaf (.lit (.any)), .leaf (.lit (.any)), .leaf (.lit (.any)), .leaf (.lit (.any)), .leaf (.lit (.any)), .leaf (.lit (.any)), .leaf (.lit (.any)), .leaf (.lit (.any)), .leaf (.lit (.any)), .leaf (.lit (.any)), .leaf (.lit (.any)), .leaf (.lit (.any)), .leaf (.lit (.any)), .leaf (.lit (.any)), .leaf (.lit (.any)), .leaf (.lit (.any)), .leaf (.lit (.any)), .leaf (.lit (.any)), .leaf (.lit (.any)), .leaf (.lit (.any)), .leaf (.lit (.any)), .leaf (.lit (.any)), .leaf (.lit (.any)), .leaf (.lit (.any)), .leaf (.lit (.any)), .leaf (.lit (.any)), .leaf (.lit (.any)), .leaf (.lit (.any)), .leaf (.lit (.any)), .leaf (.lit (.any)), .leaf (.lit (.any)), .leaf (.lit (.any)), .leaf (.lit (.any)), .leaf (.lit (.any)), .leaf (.lit (.any)), .leaf (.lit (.any)), .leaf (.lit (.any)), .leaf (.lit (.any)), .leaf (.lit (.any)), .leaf (.lit (.any)), .leaf (.lit (.any)), .leaf (.lit (.any)), .leaf (.lit (.any)), .leaf (.lit (.any)), .leaf (.lit (.any)), .leaf (.lit (.any)), .leaf (.lit (.any))], []⟩
def row_Long_l0e1 : SCode := ⟨[.leaf (.lit (.any)), .leaf (.lit (.any)), .leaf (.int .i64), .leaf (.int .i64), .leaf (.bool), .leaf (.lit (.any)), .leaf (.lit (.any)), .leaf (.lit (.any)), .leaf (.lit (.any)), .leaf (.lit (.any)), .leaf (.lit (.any)), .leaf (.lit (.any)), .leaf (.lit (.any)), .leaf (.lit (.any)), .leaf (.lit (.any)), .leaf (.lit (.any)), .leaf (.lit (.any)), .leaf (.lit (.any)), .leaf (.lit (.any)), .leaf (.lit (.any)), .leaf (.lit (.any)), .leaf (.lit (.any)), .leaf (.lit (.any)), .leaf (.lit (.any)), .leaf (.lit (.any)), .leaf (.lit (.any)), .leaf (.lit (.any)), .leaf (.lit (.any)), .leaf (.lit (.any)), .leaf (.lit (.any)), .leaf (.lit (.any)), .leaf (.lit (.any)), .leaf (.lit (.any)), .leaf (.lit (.any)), .leaf (.lit (.any)), .leaf (.lit (.any)), .leaf (.lit (.any)), .leaf (.lit (.any)), .leaf (.lit (.any)), .leaf (.lit (.any)), .leaf (.lit (.any)), .leaf (.lit (.any)), .leaf (.lit (.any)), .leaf (.lit (.any)), .leaf (.lit (.any)), .leaf (.lit (.any)), .leaf (.lit (.any)), .leaf (.lit (.any)), .leaf (.lit (.any)), .leaf (.lit (.any)), .leaf (.lit (.any)), .leaf (.lit (.any))], []⟩
def row_Long_l0h : LH := { env := [(5, .id), (9, .id), (10, .id), (11, .id)], sto := [], out := [(2, .id), (3, .id), (4, .id)], con := some (lconOf row_Long_l0c fun R k x => row_Long_l0 big R (k (.exit 0) (mkSt row_Long_l0e0 ())) (fun a0 a1 a2 => k .ret (mkSt row_Long_l0e1 (a0, (a1, (a2, ()))))) big x.1 x.2.1 x.2.2.1 x.2.2.2.1) }

def row_Long_ac : SCode := ⟨[.leaf (.sl .ro .byte)], []⟩
def row_Long_con : Con := conCalm [] [] row_Long_ac (.tup [.int .i64, .int .i64, .bool]) fun x => row_Long big x.1
def row_Long_cx : Cx := { tab := tab, con := [(56, bits_Len64_con)], funs := [], loops := [], want := want, ret := [], calm := [56], bnd := [56], eqs := eqs }
theorem row_Long_cs : CsOk Go.Proofs.Try.prog X row_Long_cx :=
  csOk ⟨fun _ _ h => tab_ok tabOk h, eqsOk⟩ mixed ⟨bits_Len64_ok, trivial⟩ trivial ⟨bndCalm, trivial⟩ rfl

def row_Long_keep : List (Nat × LH) := [(3, row_Long_l0h)]
theorem row_Long_L0s (R : Type) (recS : St → Option R) (k : Exit → St → Option R) (x : row_Long_l0c.den) : evCode row_Long_cx (hcN row_Long_cx 1) row_Long_keep (loopC Go.Proofs.Try.f37 0) (mkSt row_Long_l0c x) (fun e st' => match e with | .normal => recS (norm row_Long_l0h 0 st') | e => k e (normO row_Long_l0h 0 st')) = (fun rec k x => row_Long_l0B big R (fun a0 a1 a2 a3 => rec (a0, (a1, (a2, (a3, ()))))) (k (.exit 0) (mkSt row_Long_l0e0 ())) (fun a0 a1 a2 => k .ret (mkSt row_Long_l0e1 (a0, (a1, (a2, ()))))) x.1 x.2.1 x.2.2.1 x.2.2.2.1) (fun y => recS (mkSt row_Long_l0c y)) k x := by kernel_rfl
theorem row_Long_L0 (R : Type) : LOkR (R := R) row_Long_cx (hcN row_Long_cx 1) row_Long_keep (loopC Go.Proofs.Try.f37 0) :=
  lok_iter (lh := row_Long_l0h) row_Long_l0c (fun R n k x => row_Long_l0 big R (k (.exit 0) (mkSt row_Long_l0e0 ())) (fun a0 a1 a2 => k .ret (mkSt row_Long_l0e1 (a0, (a1, (a2, ()))))) n x.1 x.2.1 x.2.2.1 x.2.2.2.1) (fun _ => big) (fun rec k x => row_Long_l0B big R (fun a0 a1 a2 a3 => rec (a0, (a1, (a2, (a3, ()))))) (k (.exit 0) (mkSt row_Long_l0e0 ())) (fun a0 a1 a2 => k .ret (mkSt row_Long_l0e1 (a0, (a1, (a2, ()))))) x.1 x.2.1 x.2.2.1 x.2.2.2.1) rfl rfl (row_Long_L0s R) (fun _ _ => rfl) (fun _ _ _ => rfl)

theorem row_Long_raw : ConOk Go.Proofs.Try.prog X 37 (fun _ args sto K => evBody row_Long_cx (hcN row_Long_cx 1) row_Long_keep [] Go.Proofs.Try.f37 (bodyC Go.Proofs.Try.f37) args sto K) :=
  raw_ok row_Long_cs 1 Go.Proofs.Try.func37 (by kernel_rfl) rfl fun R => loops_all 1 (by kernel_rfl) (fun i hi => match i, hi with | 0, _ => row_Long_L0 R | n + 1, h => absurd h (by omega))

theorem row_Long_T (R : Type) (K : D → Sto → Option R) (x : row_Long_ac.den) : evBody row_Long_cx (hcN row_Long_cx 1) row_Long_keep [] Go.Proofs.Try.f37 (bodyC Go.Proofs.Try.f37) (mkSt row_Long_ac x).env (mkSt row_Long_ac x).sto K = row_Long_cps big R (fun a0 a1 a2 => K ((mkE [.tup [.int .i64, .int .i64, .bool]] (T := Unit) (a0, (a1, (a2, ())))).1.headD .any) (mkSt row_Long_ac x).sto) x.1 := by kernel_rfl
theorem row_Long_ok : ConOk Go.Proofs.Try.prog X 37 row_Long_con :=
  conCalm_ok (src := []) (sh := []) (rs := .tup [.int .i64, .int .i64, .bool]) row_Long_raw (fun R K (x : row_Long_ac.den) => row_Long_cps big R (fun a0 a1 a2 => K (a0, (a1, (a2, ())))) x.1) row_Long_T

/-! 39 frankpledge/frankpledgeref05.Short -/
def ref05_Short_l0c : SCode := ⟨[.leaf (.lit (.any)), .leaf (.lit (.any)), .leaf (.lit (.any)), .leaf (.int .u64), .leaf (.sl .own .byte), .leaf (.lit (.any)), .leaf (.lit (.any)), .leaf (.lit (.any)), .leaf (.lit (.any)), .leaf (.lit (.any)), .leaf (.lit (.any)), .leaf (.lit (.any)), .leaf (.lit (.any)), .leaf (.lit (.any)), .leaf (.lit (.any)), .leaf (.lit (.any)), .leaf (.lit (.any)), .leaf (.lit (.any)), .leaf (.lit (.any)), .leaf (.lit (.any)), .leaf (.lit (.any)), .leaf (.lit (.any)), .leaf (.lit (.any)), .leaf (.lit (.any)), .leaf (.lit (.any)), .leaf (.lit (.any)), .leaf (.lit (.any)), .leaf (.lit (.any)), .leaf (.lit (.any)), .leaf (.lit (.any)), .leaf (.lit (.any)), .leaf (.lit (.any))], []⟩
def ref05_Short_l0e0 : SCode := ⟨[.leaf (.lit (.any)), .leaf (.lit (.any)), .leaf (.lit (.any)), .leaf (.int .u64), .leaf (.sl .own .byte), .leaf (.lit (.any)), .leaf (.lit (.any)), .leaf (.lit (.any)), .leaf (.lit (.any)), .leaf (.lit (.any)), .leaf (.lit (.any)), .leaf (.lit (.any)), .leaf (.lit (.any)), .leaf (.lit (.any)), .leaf (.lit (.any)), .leaf (.lit (.any)), .leaf (.lit (.any)), .leaf (.lit (.any)), .leaf (.lit (.any)), .leaf (.lit (.any)), .leaf (.lit (.any)), .leaf (.lit (.any)), .leaf (.lit (.any)), .leaf (.lit (.any)), .leaf (.lit (.any)), .leaf (.lit (.any)), .leaf (.lit (.any)), .leaf (.lit (.any)), .leaf (.lit (.any)), .leaf (.lit (.any)), .leaf (.lit (.any)), .leaf (.lit (.any))], []⟩
def ref05_Short_l0h : LH := { env := [(3, .id), (4, .own .byte)], sto := [], out := [(3, .id), (4, .id)], con := some (lconOf ref05_Short_l0c fun R k x => ref05_Short_l0 big R (fun a0 a1 => k (.exit 0) (mkSt ref05_Short_l0e0 (a0, (a1, ())))) big x.1 x.2.1) }

def ref05_Short_ac : SCode := ⟨[.leaf (.int .i64)], []⟩
def ref05_Short_con : Con := conCalm [] [] ref05_Short_ac (.leaf (.sl .own .byte)) fun x => ref05_Short big x.1
def ref05_Short_cx : Cx := { tab := tab, con := [], funs := [], loops := [], want := want, ret := [], calm := [], bnd := [], eqs := eqs }
theorem ref05_Short_cs : CsOk Go.Proofs.Try.prog X ref05_Short_cx :=
  csOk ⟨fun _ _ h => tab_ok tabOk h, eqsOk⟩ mixed trivial trivial trivial rfl

def ref05_Short_keep : List (Nat × LH) := [(5, ref05_Short_l0h)]
theorem ref05_Short_L0s (R : Type) (recS : St → Option R) (k : Exit → St → Option R) (x : ref05_Short_l0c.den) : evCode ref05_Short_cx (hcN ref05_Short_cx 1) ref05_Short_keep (loopC Go.Proofs.Try.f39 0) (mkSt ref05_Short_l0c x) (fun e st' => match e with | .normal => recS (norm ref05_Short_l0h 0 st') | e => k e (normO ref05_Short_l0h 0 st')) = (fun rec k x => ref05_Short_l0B big R (fun a0 a1 => rec (a0, (a1, ()))) (fun a0 a1 => k (.exit 0) (mkSt ref05_Short_l0e0 (a0, (a1, ())))) x.1 x.2.1) (fun y => recS (mkSt ref05_Short_l0c y)) k x := by kernel_rfl
theorem ref05_Short_L0 (R : Type) : LOkR (R := R) ref05_Short_cx (hcN ref05_Short_cx 1) ref05_Short_keep (loopC Go.Proofs.Try.f39 0) :=
  lok_iter (lh := ref05_Short_l0h) ref05_Short_l0c (fun R n k x => ref05_Short_l0 big R (fun a0 a1 => k (.exit 0) (mkSt ref05_Short_l0e0 (a0, (a1, ())))) n x.1 x.2.1) (fun _ => big) (fun rec k x => ref05_Short_l0B big R (fun a0 a1 => rec (a0, (a1, ()))) (fun a0 a1 => k (.exit 0) (mkSt ref05_Short_l0e0 (a0, (a1, ())))) x.1 x.2.1) rfl rfl (ref05_Short_L0s R) (fun _ _ => rfl) (fun _ _ _ => rfl)

theorem ref05_Short_raw : ConOk Go.Proofs.Try.prog X 39 (fun _ args sto K => evBody ref05_Short_cx (hcN ref05_Short_cx 1) ref05_Short_keep [] Go.Proofs.Try.f39 (bodyC Go.Proofs.Try.f39) args sto K) :=
  raw_ok ref05_Short_cs 1 Go.Proofs.Try.func39 (by kernel_rfl) rfl fun R => loops_all 1 (by kernel_rfl) (fun i hi => match i, hi with | 0, _ => ref05_Short_L0 R | n + 1, h => absurd h (by omega))

theorem ref05_Short_T (R : Type) (K : D → Sto → Option R) (x : ref05_Short_ac.den) : evBody ref05_Short_cx (hcN ref05_Short_cx 1) ref05_Short_keep [] Go.Proofs.Try.f39 (bodyC Go.Proofs.Try.f39) (mkSt ref05_Short_ac x).env (mkSt ref05_Short_ac x).sto K = ref05_Short_cps big R (fun a0 => K ((mkE [.leaf (.sl .own .byte)] (T := Unit) (a0, ())).1.headD .any) (mkSt ref05_Short_ac x).sto) x.1 := by kernel_rfl
theorem ref05_Short_ok : ConOk Go.Proofs.Try.prog X 39 ref05_Short_con :=
  conCalm_ok (src := []) (sh := []) (rs := .leaf (.sl .own .byte)) ref05_Short_raw (fun R K (x : ref05_Short_ac.den) => ref05_Short_cps big R (fun a0 => K (a0, ())) x.1) ref05_Short_T

/-! 38 frankpledge/frankpledgeref05.Long -/
def ref05_Long_l0c : SCode := ⟨[.leaf (.sl .ro .byte), .leaf (.lit (.any)), .leaf (.lit (.any)), .leaf (.lit (.any)), .leaf (.lit (.any)), .leaf (.int .u64), .leaf (.int .i64), .leaf (.lit (.any)), .leaf (.lit (.any)), .leaf (.lit (.any)), .leaf (.lit (.any)), .leaf (.lit (.any)), .leaf (.lit (.any)), .leaf (.lit (.any)), .leaf (.lit (.any)), .leaf (.lit (.any)), .leaf (.lit (.any)), .leaf (.lit (.any)), .leaf (.lit (.any)), .leaf (.lit (.any)), .leaf (.lit (.any)), .leaf (.lit (.any)), .leaf (.lit (.any)), .leaf (.lit (.any)), .leaf (.lit (.any)), .leaf (.lit (.any)), .leaf (.lit (.any)), .leaf (.lit (.any)), .leaf (.lit (.any)), .leaf (.lit (.any)), .leaf (.lit (.any)), .leaf (.lit (.any)), .leaf (.lit (.any)), .leaf (.lit (.any)), .leaf (.lit (.any)), .leaf (.lit (.any)), .leaf (.lit (.any)), .leaf (.lit (.any)), .leaf (.lit (.any)), .leaf (.lit (.any)), .leaf (.lit (.any)), .leaf (.lit (.any)), .leaf (.lit (.any)), .leaf (.lit (.any)), .leaf (.lit (.any)), .leaf (.lit (.any)), .leaf (.lit (.any)), .leaf (.lit (.any)), .leaf (.lit (.any)), .leaf (.lit (.any)), .leaf (.lit (.any)), .leaf (.lit (.any)), .leaf (.lit (.any)), .leaf (.lit (.any)), .leaf (.lit (.any)), .leaf (.lit (.any))], []⟩
def ref05_Long_l0e0 : SCode := ⟨[.leaf (.lit (.any)), .leaf (.lit (.any)), .leaf (.lit (.any)), .leaf (.lit (.any)), .leaf (.lit (.any)), .leaf (.lit (.any)), .leaf (.lit (.any)), .leaf (.lit (.any)), .leaf (.lit (.any)), .leaf (.lit (.any)), .leaf (.lit (.any)), .leaf (.lit (.any)), .leaf (.lit (.any)), .leaf (.lit (.any)), .leaf (.lit (.any)), .leaf (.lit (.any)), .leaf (.lit (.any)), .leaf (.lit (.any)), .leaf (.lit (.any)), .leaf (.lit (.any)), .leaf (.lit (.any)), .leaf (.lit (.any)), .leaf (.lit (.any)), .leaf (.lit (.any)), .leaf (.lit (.any)), .leaf (.lit (.any)), .leaf (.lit (.any)), .leaf (.lit (.any)), .leaf (.lit (.any)), .leaf (.lit (.any)), .leaf (.lit (.any)), .leaf (.lit (.any)), .leaf (.lit (.any)), .leaf (.lit (.any)), .leaf (.lit (.any)), .leaf (.lit (.any)), .leaf (.lit (.any)), .leaf (.lit (.any)), .leaf (.lit (.any)), .leaf (.lit (.any)), .leaf (.lit (.any)), .leaf (.lit (.any)), .leaf (.lit (.any)), .leaf (.lit (.any)), .leaf (.lit (.any)), .leaf (.lit (.any)), .leaf (.lit (.any)), .leaf (.lit (.any)), .leaf (.lit (.any)), .leaf (.lit (.any)), .leaf (.lit (.any)), .leaf (.lit (.any)), .leaf (.lit (.any)), .leaf (.lit (.any)), .leaf (.lit (.any)), .leaf (.lit (.any))], []⟩
def ref05_Long_l0e1 : SCode := ⟨[.leaf (.lit (.any)), .leaf (.lit (.any)), .leaf (.int .i64), .leaf (.int .i64), .leaf (.bool), .leaf (.lit (.any)), .leaf (.lit (.any)), .leaf (.lit (.any)), .leaf (.lit (.any)), .leaf (.lit (.any)), .leaf (.lit (.any)), .leaf (.lit (.any)), .leaf (.lit (.any)), .leaf (.lit (.any)), .leaf (.lit (.any)), .leaf (.lit (.any)), .leaf (.lit (.any)), .leaf (.lit (.any)), .leaf (.lit (.any)), .leaf (.lit (.any)), .leaf (.lit (.any)), .leaf (.lit (.any)), .leaf (.lit (.any)), .leaf (.lit (.any)), .leaf (.lit (.any)), .leaf (.lit (.any)), .leaf (.lit (.any)), .leaf (.lit (.any)), .leaf (.lit (.any)), .leaf (.lit (.any)), .leaf (.lit (.any)), .leaf (.lit (.any)), .leaf (.lit (.any)), .leaf (.lit (.any)), .leaf (.lit (.any)), .leaf (.lit (.any)), .leaf (.lit (.any)), .leaf (.lit (.any)), .leaf (.lit (.any)), .leaf (.lit (.any)), .leaf (.lit (.any)), .leaf (.lit (.any)), .leaf (.lit (.any)), .leaf (.lit (.any)), .leaf (.lit (.any)), .leaf (.lit (.any)), .leaf (.lit (.any)), .leaf (.lit (.any)), .leaf (.lit (.any)), .leaf (.lit (.any)), .leaf (.lit (.any)), .leaf (.lit (.any)), .leaf (.lit (.any)), .leaf (.lit (.any)), .leaf (.lit (.any)), .leaf (.lit (.any))], []⟩
def ref05_Long_l0h : LH := { env := [(0, .id), (5, .id), (6, .id)], sto := [], out := [(2, .id), (3, .id), (4, .id)], con := some (lconOf ref05_Long_l0c fun R k x => ref05_Long_l0 big R (k (.exit 0) (mkSt ref05_Long_l0e0 ())) (fun a0 a1 a2 => k .ret (mkSt ref05_Long_l0e1 (a0, (a1, (a2, ()))))) big x.1 x.2.1 x.2.2.1) }

def ref05_Long_ac : SCode := ⟨[.leaf (.sl .ro .byte)], []⟩
def ref05_Long_con : Con := conCalm [] [] ref05_Long_ac (.tup [.int .i64, .int .i64, .bool]) fun x => ref05_Long big x.1
def ref05_Long_cx : Cx := { tab := tab, con := [(39, ref05_Short_con)], funs := [], loops := [], want := want, ret := [], calm := [39], bnd := [39], eqs := eqs }
theorem ref05_Long_cs : CsOk Go.Proofs.Try.prog X ref05_Long_cx :=
  csOk ⟨fun _ _ h => tab_ok tabOk h, eqsOk⟩ mixed ⟨ref05_Short_ok, trivial⟩ trivial ⟨bndCalm, trivial⟩ rfl

def ref05_Long_keep : List (Nat × LH) := [(3, ref05_Long_l0h)]
theorem ref05_Long_L0s (R : Type) (recS : St → Option R) (k : Exit → St → Option R) (x : ref05_Long_l0c.den) : evCode ref05_Long_cx (hcN ref05_Long_cx 1) ref05_Long_keep (loopC Go.Proofs.Try.f38 0) (mkSt ref05_Long_l0c x) (fun e st' => match e with | .normal => recS (norm ref05_Long_l0h 0 st') | e => k e (normO ref05_Long_l0h 0 st')) = (fun rec k x => ref05_Long_l0B big R (fun a0 a1 a2 => rec (a0, (a1, (a2, ())))) (k (.exit 0) (mkSt ref05_Long_l0e0 ())) (fun a0 a1 a2 => k .ret (mkSt ref05_Long_l0e1 (a0, (a1, (a2, ()))))) x.1 x.2.1 x.2.2.1) (fun y => recS (mkSt ref05_Long_l0c y)) k x := by kernel_rfl
theorem ref05_Long_L0 (R : Type) : LOkR (R := R) ref05_Long_cx (hcN ref05_Long_cx 1) ref05_Long_keep (loopC Go.Proofs.Try.f38 0) :=
  lok_iter (lh := ref05_Long_l0h) ref05_Long_l0c (fun R n k x => ref05_Long_l0 big R (k (.exit 0) (mkSt ref05_Long_l0e0 ())) (fun a0 a1 a2 => k .ret (mkSt ref05_Long_l0e1 (a0, (a1, (a2, ()))))) n x.1 x.2.1 x.2.2.1) (fun _ => big) (fun rec k x => ref05_Long_l0B big R (fun a0 a1 a2 => rec (a0, (a1, (a2, ())))) (k (.exit 0) (mkSt ref05_Long_l0e0 ())) (fun a0 a1 a2 => k .ret (mkSt ref05_Long_l0e1 (a0, (a1, (a2, ()))))) x.1 x.2.1 x.2.2.1) rfl rfl (ref05_Long_L0s R) (fun _ _ => rfl) (fun _ _ _ => rfl)

theorem ref05_Long_raw : ConOk Go.Proofs.Try.prog X 38 (fun _ args sto K => evBody ref05_Long_cx (hcN ref05_Long_cx 1) ref05_Long_keep [] Go.Proofs.Try.f38 (bodyC Go.Proofs.Try.f38) args sto K) :=
  raw_ok ref05_Long_cs 1 Go.Proofs.Try.func38 (by kernel_rfl) rfl fun R => loops_all 1 (by kernel_rfl) (fun i hi => match i, hi with | 0, _ => ref05_Long_L0 R | n + 1, h => absurd h (by omega))

theorem ref05_Long_T (R : Type) (K : D → Sto → Option R) (x : ref05_Long_ac.den) : evBody ref05_Long_cx (hcN ref05_Long_cx 1) ref05_Long_keep [] Go.Proofs.Try.f38 (bodyC Go.Proofs.Try.f38) (mkSt ref05_Long_ac x).env (mkSt ref05_Long_ac x).sto K = ref05_Long_cps big R (fun a0 a1 a2 => K ((mkE [.tup [.int .i64, .int .i64, .bool]] (T := Unit) (a0, (a1, (a2, ())))).1.headD .any) (mkSt ref05_Long_ac x).sto) x.1 := by kernel_rfl
theorem ref05_Long_ok : ConOk Go.Proofs.Try.prog X 38 ref05_Long_con :=
  conCalm_ok (src := []) (sh := []) (rs := .tup [.int .i64, .int .i64, .bool]) ref05_Long_raw (fun R K (x : ref05_Long_ac.den) => ref05_Long_cps big R (fun a0 a1 a2 => K (a0, (a1, (a2, ())))) x.1) ref05_Long_T

/-! 9 frankpledge/frankpledgelaw05.RowShorts -/
def law05_RowShorts_ac : SCode := ⟨[.leaf (.int .i64), .leaf (.sl .ro .byte)], []⟩
def law05_RowShorts_con : Con := conCalm [] [] law05_RowShorts_ac (.leaf (.bool)) fun x => law05_RowShorts big x.1 x.2.1
def law05_RowShorts_cx : Cx := { tab := tab, con := [(17, law05_alive_con), (18, row_Short_con), (37, row_Long_con), (38, ref05_Long_con), (39, ref05_Short_con)], funs := [], loops := [], want := want, ret := [], calm := [17, 18, 37, 38, 39], bnd := [17, 18, 37, 38, 39], eqs := eqs }
theorem law05_RowShorts_cs : CsOk Go.Proofs.Try.prog X law05_RowShorts_cx :=
  csOk ⟨fun _ _ h => tab_ok tabOk h, eqsOk⟩ mixed ⟨law05_alive_ok, row_Short_ok, row_Long_ok, ref05_Long_ok, ref05_Short_ok, trivial⟩ trivial ⟨bndCalm, bndCalm, bndCalm, bndCalm, bndCalm, trivial⟩ rfl

def law05_RowShorts_keep : List (Nat × LH) := []
theorem law05_RowShorts_raw : ConOk Go.Proofs.Try.prog X 9 (fun _ args sto K => evBody law05_RowShorts_cx (hcN law05_RowShorts_cx 1) law05_RowShorts_keep [] Go.Proofs.Try.f9 (bodyC Go.Proofs.Try.f9) args sto K) :=
  raw_ok law05_RowShorts_cs 1 Go.Proofs.Try.func9 (by kernel_rfl) rfl fun R => loops_all 0 (by kernel_rfl) (fun i hi => absurd hi (Nat.not_lt_zero i))

theorem law05_RowShorts_T (R : Type) (K : D → Sto → Option R) (x : law05_RowShorts_ac.den) : evBody law05_RowShorts_cx (hcN law05_RowShorts_cx 1) law05_RowShorts_keep [] Go.Proofs.Try.f9 (bodyC Go.Proofs.Try.f9) (mkSt law05_RowShorts_ac x).env (mkSt law05_RowShorts_ac x).sto K = law05_RowShorts_cps big R (fun a0 => K ((mkE [.leaf (.bool)] (T := Unit) (a0, ())).1.headD .any) (mkSt law05_RowShorts_ac x).sto) x.1 x.2.1 := by kernel_rfl
theorem law05_RowShorts_ok : ConOk Go.Proofs.Try.prog X 9 law05_RowShorts_con :=
  conCalm_ok (src := []) (sh := []) (rs := .leaf (.bool)) law05_RowShorts_raw (fun R K (x : law05_RowShorts_ac.den) => law05_RowShorts_cps big R (fun a0 => K (a0, ())) x.1 x.2.1) law05_RowShorts_T

end
end Go.Proofs.Ytkeejnlicagjiaa.E
