/-
  An evaluator of the model's code over plain values, and that it is sound (part 3).
  Conditions: those that each statement prints, and no other.
-/
import Derived.Test.YtbikfekdakigiaaGreatDoorEvB
import Derived.Test.YtbikfekdakigiaaGreatDoorEvA
import Derived.LoopN
import Derived.Lib.Bytealg
import Derived.WalkKit
import Derived.ProofKit
import Derived.OpenShut
import Derived.ShutString
import Derived.ChangeOld
import Derived.Below
import Derived.SizedLaws
set_option linter.unusedVariables false
set_option linter.unusedSimpArgs false
namespace Go.Ev
section
variable {R : Type} {cx : Cx}
variable {hc : FuncId → List D → Sto → (D → Sto → Option R) → Option R} {all : List Oper} {o : Oper} {f : Foot}
theorem foot_load {ty x} (ho : o.op = .load ty x) (h : footOf0 cx all o = some f) : OpFoot cx hc all o f := by
 unfold footOf0 at h
 rw [ho] at h
 simp only at h
 refine foot_gen (fun env sto => match look cx.tab ty with
  | some e => match rd env x with
   | .ptr i off => match rowOf sto i with
    | some cs => match Nat.ble (off + e.size) cs.length with
     | true => match e.agg, stealsLd cx o.type all o.dst, (cs.getD off .any).leaf with
      | false, true, true => some (cs.getD off .any, env, sto.set i (cs.set off (cs.getD off .any).dup1))
      | _, _, _ => some (ofCells e.agg (((cs.drop off).take e.size).map D.dup1), env, sto)
     | false => none
    | none => none
   | .box cs => match Nat.ble e.size cs.length with
    | true => some (ofCells e.agg ((cs.take e.size).map D.dup1), env, sto)
    | false => none
   | _ => none
  | none => none) (fun env sto k => ?_) (fun env sto t d h1 _ => ?_) (fun env sto p hp => ?_) ?_
 · unfold evOp; simp only [ho]
   cases look cx.tab ty with
   | none => rfl
   | some e =>
    generalize rd env x = z
    cases z <;> first
     | rfl
     | skip
    · rename_i i off
      simp only
      cases rowOf sto i with
      | none => rfl
      | some cs =>
       simp only
       cases Nat.ble (off + e.size) cs.length
       · rfl
       · cases e.agg <;> cases stealsLd cx o.type all o.dst <;> cases (cs.getD off .any).leaf <;> rfl
    · rename_i cs
      simp only
      cases Nat.ble e.size cs.length <;> rfl
 · have hx : t ∉ tmpOf x := by
    cases hs : stealsLd cx o.type all o.dst <;> rw [hs] at h <;> cases h <;> exact h1
   simp only [rd_set hx]
   cases look cx.tab ty with
   | none => rfl
   | some e =>
    generalize rd env x = z
    cases z <;> first
     | rfl
     | skip
    · rename_i i off
      simp only
      cases rowOf sto i with
      | none => rfl
      | some cs =>
       simp only
       cases Nat.ble (off + e.size) cs.length
       · rfl
       · cases e.agg <;> cases stealsLd cx o.type all o.dst <;> cases (cs.getD off .any).leaf <;> rfl
    · rename_i cs
      simp only
      cases Nat.ble e.size cs.length <;> rfl
 · split at hp
   · split at hp
     · split at hp
       · split at hp
         · split at hp
           · rename_i hs _
             rw [hs] at h; cases h; cases hp
             exact ⟨.refl _ _, fun h => by cases h⟩
           · cases hp; exact ⟨.refl _ _, fun _ => rfl⟩
         · cases hp
       · cases hp
     · split at hp
       · cases hp; exact ⟨.refl _ _, fun _ => rfl⟩
       · cases hp
     · cases hp
   · cases hp
 · cases hs : stealsLd cx o.type all o.dst <;> rw [hs] at h <;> cases h <;> rfl
theorem foot_alloc {ty} (ho : o.op = .alloc ty) (h : footOf0 cx all o = some f) : OpFoot cx hc all o f := by
 unfold footOf0 at h
 rw [ho] at h
 cases h
 refine foot_gen (fun env sto => match look cx.tab ty with
  | some { zero := [], .. } => none
  | some e => some (.ptr sto.length 0, env, sto ++ [e.zero])
  | none => none) (fun env sto k => ?_) (fun env sto t d h1 _ => ?_) (fun env sto p hp => ?_) rfl
 · unfold evOp; simp only [ho]
   cases look cx.tab ty with
   | none => rfl
   | some e =>
    obtain ⟨_, _, _, _, _, z⟩ := e
    cases z <;> rfl
 · cases look cx.tab ty with
   | none => rfl
   | some e =>
    obtain ⟨_, _, _, _, _, z⟩ := e
    cases z <;> rfl
 · refine ⟨?_, fun h => by cases h⟩
   split at hp
   · cases hp
   · cases hp; exact .refl _ _
   · cases hp
theorem foot_box {ty x} (ho : o.op = .box ty x) (h : footOf0 cx all o = some f) : OpFoot cx hc all o f := by
 unfold footOf0 at h
 rw [ho] at h
 cases h
 refine foot_gen (fun env sto => match look cx.tab ty with
  | some e => match fits (rd env x).cells e.size with
   | true => some (.ptr sto.length 0, left env x, sto ++ [(rd env x).cells])
   | false => none
  | none => none) (fun env sto k => ?_) (fun env sto t d h1 _ => ?_) (fun env sto p hp => ?_) rfl
 · unfold evOp; simp only [ho]
   cases look cx.tab ty with
   | none => rfl
   | some e =>
    simp only
    cases fits (rd env x).cells e.size <;> rfl
 · simp only [rd_set h1, left_set h1]
   cases look cx.tab ty with
   | none => rfl
   | some e =>
    simp only
    cases fits (rd env x).cells e.size <;> rfl
 · refine ⟨?_, fun h => by cases h⟩
   split at hp
   · split at hp
     · cases hp; exact .left (fun _ h => h) _
     · cases hp
   · cases hp
theorem foot_store {ty a x} (ho : o.op = .store ty a x) (h : footOf0 cx all o = some f) : OpFoot cx hc all o f := by
 unfold footOf0 at h
 rw [ho] at h
 cases h
 refine foot_gen (fun env sto => match look cx.tab ty with
  | some e => match rd env a with
   | .ptr i off => match rowOf sto i with
    | some cs => match Nat.ble (off + e.size) cs.length, fits (rd env x).cells e.size with
     | true, true => some (.tup [], left env x, sto.set i (splice cs off (rd env x).cells))
     | _, _ => none
    | none => none
   | _ => none
  | none => none) (fun env sto k => ?_) (fun env sto t d h1 _ => ?_) (fun env sto p hp => ?_) rfl
 · unfold evOp; simp only [ho]
   cases look cx.tab ty with
   | none => rfl
   | some e =>
    generalize rd env a = z
    cases z <;> first
     | rfl
     | skip
    rename_i i off
    simp only
    cases rowOf sto i with
    | none => rfl
    | some cs =>
     simp only
     cases Nat.ble (off + e.size) cs.length <;> cases fits (rd env x).cells e.size <;> rfl
 · obtain ⟨ha, hx⟩ := out_app h1
   simp only [rd_set ha, rd_set hx, left_set hx]
   cases look cx.tab ty with
   | none => rfl
   | some e =>
    generalize rd env a = z
    cases z <;> first
     | rfl
     | skip
    rename_i i off
    simp only
    cases rowOf sto i with
    | none => rfl
    | some cs =>
     simp only
     cases Nat.ble (off + e.size) cs.length <;> cases fits (rd env x).cells e.size <;> rfl
 · refine ⟨?_, fun h => by cases h⟩
   split at hp
   · split at hp
     · split at hp
       · split at hp
         · cases hp; exact .left (fun _ h => h) _
         · cases hp
       · cases hp
     · cases hp
   · cases hp
def BndOk (cx : Cx) (hc : FuncId → List D → Sto → (D → Sto → Option R) → Option R) : Prop :=
 ∀ f, cx.bnd.any (Nat.beq f) = true → ∀ args sto, ∃ s : Option (D × Sto), (∀ K, hc f args sto K = s.bind fun p => K p.1 p.2) ∧ (cx.calm.any (Nat.beq f) = true → ∀ p, s = some p → p.2 = sto)
theorem bound_fn {l : List Nat} {x : Operand} (h : bound l x = true) : ∃ f, x = .func f ∧ l.any (Nat.beq f) = true := by
 cases x <;> first
  | exact ⟨_, rfl, h⟩
  | cases h
theorem foot_call (hb : BndOk cx hc) {fo args ats} (ho : o.op = .call { callee := .value fo, args, argTypes := ats }) (h : footOf0 cx all o = some f) : OpFoot cx hc all o f := by
 unfold footOf0 at h
 rw [ho] at h
 simp only at h
 cases hbd : bound cx.bnd fo with
 | false => rw [hbd] at h; cases h
 | true =>
  rw [hbd] at h
  cases h
  obtain ⟨fn, rfl, hin⟩ := bound_fn hbd
  have hch := fun ds sto => Classical.choose_spec (hb fn hin ds sto)
  let G : List D → Sto → Option (D × Sto) := fun ds sto => Classical.choose (hb fn hin ds sto)
  refine foot_gen (fun env sto => (G ((argsOf env ((look cx.want fn).getD []) 0 args.toList).1 ++ []) sto).map fun p => (p.1, (argsOf env ((look cx.want fn).getD []) 0 args.toList).2, p.2))
   (fun env sto k => ?_) (fun env sto t d h1 _ => ?_) (fun env sto p hp => ?_) rfl
  · unfold evOp; simp only [ho, rd, List.map_nil]
    rw [(hch _ _).1]
    show _ = Option.bind (Option.map _ (G _ _)) _
    cases hG : G ((argsOf env ((look cx.want fn).getD []) 0 args.toList).1 ++ []) sto with
    | none => simp only [G] at hG; rw [hG]; rfl
    | some p => simp only [G] at hG; rw [hG]; rfl
  · have h1' : t ∉ tmpsOf args.toList := (out_app h1).2
    simp only [argsOf_set args.toList 0 env h1']
    cases G ((argsOf env ((look cx.want fn).getD []) 0 args.toList).1 ++ []) sto <;> rfl
  · cases hG : G ((argsOf env ((look cx.want fn).getD []) 0 args.toList).1 ++ []) sto with
    | none => rw [hG] at hp; cases hp
    | some q =>
     rw [hG] at hp; cases hp
     exact ⟨argsOf_chg _ _ _, fun hc => (hch _ sto).2 hc q hG⟩
theorem bnd_fst {e : Err} {A : (D → Option R) → Option R} {B : Int → Int → Err → (D → Option R) → Option R} (ha : Bnd A) (hb : ∀ c p u, Bnd (B c p u)) : Bnd fun k => errFst e (A k) (fun c p u => B c p u k) := by
 cases e <;> first | exact ha | exact hb _ _ _ | exact .none
theorem foot_assert {x xT t b} (ho : o.op = .typeAssert x xT t b) : OpFoot cx hc all o ⟨tmpOf x, [], true, true⟩ := by
 cases b with
 | false =>
  refine foot_plain (fun env k => none) (fun env sto k => ?_) (fun env => .none) (fun env t d h => rfl)
  unfold evOp; simp only [ho]; unfold evOp2; simp only [ho] <;> rfl
 | true =>
  refine foot_plain (fun env k => match isTf cx t, rd env x with
   | true, .err e => errFst e (k (.tup [.nilp, .bool false])) fun c p u => k (.tup [.box [.int .i64 c, .int .i64 p, .err u], .bool true])
   | _, _ => none) (fun env sto k => ?_) (fun env => ?_) (fun env t d h => ?_)
  · unfold evOp; simp only [ho]; unfold evOp2; simp only [ho] <;> rfl
  · generalize rd env x = z
    cases isTf cx t
    · exact .none
    · cases z <;> first
       | exact .none
       | exact bnd_fst (.pure _) (fun _ _ _ => .pure _)
  · simp only [rd_set h]
theorem foot_max {args ats} (ho : o.op = .call { callee := .builtin .max, args := args, argTypes := ats }) : OpFoot cx hc all o ⟨tmpsOf args.toList, [], true, true⟩ := by
 refine foot_plain (fun env k => match args.toList with
  | [x, y] => match rd env x, rd env y with
   | .int kx a, .int ky b => if kx = ky then k (.int kx (maxI a b)) else none
   | _, _ => none
  | _ => none) (fun env sto k => ?_) (fun env => ?_) (fun env t d h => ?_)
 · unfold evOp; simp only [ho]; unfold evOp2; simp only [ho] <;> rfl
 · split
   · rename_i x y hl
     generalize rd env x = z
     generalize rd env y = v
     cases z <;> cases v <;> first
      | exact .none
      | skip
     rename_i kx a ky b
     by_cases e : kx = ky
     · simp only [if_pos e]; exact .pure _
     · simp only [if_neg e]; exact .none
   · exact .none
 · split
   · rename_i x y hl
     rw [hl] at h
     obtain ⟨h1, h2⟩ := out_cons h
     obtain ⟨h2, _⟩ := out_cons h2
     simp only [rd_set h1, rd_set h2]
   · rfl
theorem foot_min {args ats} (ho : o.op = .call { callee := .builtin .min, args := args, argTypes := ats }) : OpFoot cx hc all o ⟨tmpsOf args.toList, [], true, true⟩ := by
 refine foot_plain (fun env k => match args.toList with
  | [x, y] => match rd env x, rd env y with
   | .int kx a, .int ky b => if kx = ky then k (.int kx (minI a b)) else none
   | _, _ => none
  | _ => none) (fun env sto k => ?_) (fun env => ?_) (fun env t d h => ?_)
 · unfold evOp; simp only [ho]; unfold evOp2; simp only [ho] <;> rfl
 · split
   · rename_i x y hl
     generalize rd env x = z
     generalize rd env y = v
     cases z <;> cases v <;> first
      | exact .none
      | skip
     rename_i kx a ky b
     by_cases e : kx = ky
     · simp only [if_pos e]; exact .pure _
     · simp only [if_neg e]; exact .none
   · exact .none
 · split
   · rename_i x y hl
     rw [hl] at h
     obtain ⟨h1, h2⟩ := out_cons h
     obtain ⟨h2, _⟩ := out_cons h2
     simp only [rd_set h1, rd_set h2]
   · rfl
theorem footOf0_ok (hb : BndOk cx hc) (h : footOf0 cx all o = some f) : OpFoot cx hc all o f := by
 have h0 := h
 unfold footOf0 at h
 split at h
 · rename_i ho; exact foot_move ho h0
 · rename_i ho; exact foot_assign ho h0
 · rename_i ho; exact foot_pick ho h0
 · rename_i ho; exact foot_nilCheck ho h0
 · rename_i ho; exact foot_binOp ho h0
 · rename_i ho; exact foot_unOp ho h0
 · rename_i ho; exact foot_convert ho h0
 · rename_i ho; exact foot_slice ho h0
 · rename_i ho; exact foot_fieldAddr ho h0
 · rename_i ho; exact foot_field ho h0
 · rename_i ho; exact foot_indexAddr ho h0
 · rename_i ho; exact foot_index ho h0
 · rename_i ho; exact foot_extract ho h0
 · rename_i ho; exact foot_makeFunc ho h0
 · rename_i ho; exact foot_buildSlice ho h0
 · rename_i ho; exact foot_build ho h0
 · rename_i ho; exact foot_load ho h0
 · rename_i ho; exact foot_alloc ho h0
 · rename_i ho; exact foot_box ho h0
 · rename_i ho; exact foot_store ho h0
 · rename_i ho; exact foot_len ho h0
 · rename_i ho; exact foot_append ho h0
 · rename_i ho; exact foot_call hb ho h0
 · rename_i n1 n2 n3 n4 n5 n6 n7 n8 n9 n10 n11 n12 n13 n14 n15 n16 n17 n18 n19 n20 n21 n22 n23
   unfold footOf1 at h
   split at h
   · rename_i ho; cases h; exact foot_assert ho
   · rename_i ho; cases h; exact foot_max ho
   · rename_i ho; cases h; exact foot_min ho
   · cases h
end
end Go.Ev
namespace Go.Ev
section
variable {R : Type} {cx : Cx}
variable {hc : FuncId → List D → Sto → (D → Sto → Option R) → Option R} {all : List Oper} {o : Oper} {f : Foot}
structure OpFootN (cx : Cx) (hc : FuncId → List D → Sto → (D → Sto → Option R) → Option R) (all : List Oper) (o : Oper) (f : Foot) : Prop where
 nf : ∀ st, NF (dstT o.dst ++ f.wr) f.calm st (evOpN cx hc all o st)
 loc : ∀ (t : Nat) d env sto k, t ∉ f.rd → t ∉ dstT o.dst → t ∉ f.wr → evOpN cx hc all o ⟨env.set t d, sto⟩ k = evOpN cx hc all o ⟨env, sto⟩ (fun st' => k ⟨st'.env.set t d, st'.sto⟩)
 sf : f.apart = true → ∀ env sto sto' k, evOpN cx hc all o ⟨env, sto'⟩ k = evOpN cx hc all o ⟨env, sto⟩ (fun st' => k ⟨st'.env, sto'⟩)
def xRd (o : Oper) : List Nat := match o.op with
 | .move x | .assign x | .box _ x | .load _ x | .fieldAddr _ x _ | .extract x _ | .makeInterface _ x => tmpOf x
 | .store _ a x => tmpOf a ++ tmpOf x
 | .indexAddr _ x ix => tmpOf x ++ tmpOf ix
 | .slice _ x lo hi mx => tmpOf x ++ optOf lo ++ optOf hi ++ optOf mx
 | .call { args, .. } => tmpsOf args.toList
 | _ => []
theorem map_opt {f f' : Operand → D} {x : Option Operand} (h : ∀ y, (∀ t, t ∈ tmpOf y → t ∈ optOf x) → f y = f' y) : x.map f = x.map f' := by
 cases x with
 | none => rfl
 | some y => exact congrArg some (h y (fun t ht => ht))
theorem xV_congr {f f' : Operand → D} {sto : Sto} (h : ∀ x, (∀ t, t ∈ tmpOf x → t ∈ xRd o) → f x = f' x) : xV (R := R) cx o f sto = xV cx o f' sto := by
 unfold xV
 split
 · rename_i x ho; simp only [xRd, ho] at h; rw [h x (fun _ h => h)]
 · rename_i x ho; simp only [xRd, ho] at h; rw [h x (fun _ h => h)]
 · rename_i t x ho; simp only [xRd, ho] at h; rw [h x (fun _ h => h)]
 · rename_i t x ho; simp only [xRd, ho] at h; rw [h x (fun _ h => h)]
 · rename_i t a x ho; simp only [xRd, ho] at h; rw [h a (fun _ h => List.mem_append_left _ h), h x (fun _ h => List.mem_append_right _ h)]
 · rename_i t x g ho; simp only [xRd, ho] at h; rw [h x (fun _ h => h)]
 · rename_i t x ix ho; simp only [xRd, ho] at h; rw [h x (fun _ h => List.mem_append_left _ h), h ix (fun _ h => List.mem_append_right _ h)]
 · rename_i t x lo hi ho
   simp only [xRd, ho] at h
   rw [h x (fun t ht => by simp [ht]), map_opt (x := lo) (fun y hy => h y (fun t ht => by simp [hy t ht])), map_opt (x := hi) (fun y hy => h y (fun t ht => by simp [hy t ht]))]
 · rename_i args ats ho
   simp only [xRd, ho] at h
   split
   · rename_i x t hx _
     rw [hx] at h
     rw [h x (fun t ht => by simp [tmpsOf, ht])]
   · rfl
 · rename_i args ats ho
   simp only [xRd, ho] at h
   split
   · rename_i x y t t2 hx _
     rw [hx] at h
     rw [h x (fun t ht => by simp [tmpsOf, ht]), h y (fun t ht => by simp [tmpsOf, ht])]
   · rfl
 · rename_i args ats ho
   simp only [xRd, ho] at h
   split
   · rename_i x t hx _
     rw [hx] at h
     rw [h x (fun t ht => by simp [tmpsOf, ht])]
   · rfl
 · rfl
 · rename_i x i ho; simp only [xRd, ho] at h; rw [h x (fun _ h => h)]
 · rename_i t x ho; simp only [xRd, ho] at h; rw [h x (fun _ h => h)]
 · rfl
def VB (calm : Bool) (sto : Sto) (V : (D → Sto → Option R) → Option R) : Prop := ∃ s : Option (D × Sto), (∀ k, V k = s.bind fun p => k p.1 p.2) ∧ (calm = true → ∀ p, s = some p → p.2 = sto)
theorem VB.none {c sto} : VB (R := R) c sto fun _ => none := ⟨.none, fun _ => rfl, fun _ _ h => by cases h⟩
theorem VB.pure {c : Bool} {sto : Sto} (d : D) (s : Sto) (h : c = true → s = sto) : VB (R := R) c sto fun k => k d s := ⟨some (d, s), fun _ => rfl, fun hc p hp => by cases hp; exact h hc⟩
theorem VB.bind {α : Type} {c : Bool} {sto : Sto} (m : Option α) {V : α → (D → Sto → Option R) → Option R} (h : ∀ x, VB c sto (V x)) : VB (R := R) c sto fun k => m.bind fun x => V x k := by
 cases m with
 | none => exact .none
 | some x => exact h x
theorem VB.boundK {c : Bool} {sto : Sto} (x : D) (hi : Nat) {V : Nat → (D → Sto → Option R) → Option R} (h : ∀ n, VB c sto (V n)) : VB (R := R) c sto fun k => Ev.boundK x hi fun n => V n k := by
 cases x <;> first
  | exact .none
  | skip
 rename_i kd n
 show VB c sto fun k => match decide (0 ≤ n ∧ n ≤ (hi : Int)) with | true => V n.toNat k | false => Option.none
 cases decide (0 ≤ n ∧ n ≤ (hi : Int))
 · exact .none
 · exact h _
theorem VB.optK {c : Bool} {sto : Sto} (x : Option D) (d hi : Nat) {V : Nat → (D → Sto → Option R) → Option R} (h : ∀ n, VB c sto (V n)) : VB (R := R) c sto fun k => Ev.optK x d hi fun n => V n k := by
 cases x with
 | none => exact h d
 | some x => exact VB.boundK x hi h
theorem appendK_vb {c : Bool} {sto : Sto} (st : TypeId) (x y : D) : VB (R := R) c sto fun k => appendK cx st x y fun d => k d sto := by
 obtain ⟨s, hs⟩ := appendK_bnd (R := R) (cx := cx) st x y
 refine ⟨s.map fun d => (d, sto), fun k => ?_, fun _ p h => ?_⟩
 · dsimp only; rw [hs]; cases s <;> rfl
 · cases s <;> cases h; rfl
theorem xV_vb {fr : Operand → D} {sto : Sto} {V : (D → Sto → Option R) → Option R} (h : xV cx o fr sto = some V) : VB (xCalm o) sto V := by
 unfold xV at h
 split at h
 · rename_i x ho
   split at h
   · split at h
     · cases h; exact .pure _ _ (by simp [xCalm, ho])
     · cases h
   · cases h
 · rename_i x ho
   split at h
   · split at h
     · cases h; exact .pure _ _ (by simp [xCalm, ho])
     · cases h
   · cases h
 · rename_i t x ho
   split at h
   · split at h
     · rename_i e _ _
       cases h
       cases fits (fr x).cells e.size
       · exact .none
       · exact .pure _ _ (by simp [xCalm, ho])
     · cases h
   · cases h
 · split at h
   · split at h
     · split at h
       · cases h; exact .bind _ fun _ => .pure _ _ (fun _ => rfl)
       · cases h
     · cases h
   · cases h
 · rename_i t a x ho
   split at h
   · split at h
     · split at h
       · cases h
         refine .bind _ fun y => ?_
         rename_i p _ _ _ _ _
         split
         · exact .pure _ _ (by simp [xCalm, ho])
         · exact .none
       · cases h
     · cases h
   · cases h
 · split at h
   · split at h
     · split at h
       · cases h; exact .pure _ _ (fun _ => rfl)
       · cases h
     · cases h
   · cases h
 · split at h
   · split at h
     · split at h
       · cases h; exact .bind _ fun _ => .pure _ _ (fun _ => rfl)
       · cases h
     · cases h
   · cases h
 · rename_i t x lo hi ho
   have hcm : xCalm o = false := by simp [xCalm, ho]
   rw [hcm]
   split at h
   · unfold xSlice at h
     split at h
     · split at h
       · split at h
         · cases h
           exact VB.optK _ _ _ fun _ => .pure _ _ (fun h => by cases h)
         · cases h
           rename_i p _ _ _ _ _ _
           exact VB.optK (V := fun h k => optK _ 0 h fun l => k (.hd _ p.1 l (h - l)) sto) _ _ _ fun h => VB.optK _ _ _ fun _ => .pure _ _ (fun h => by cases h)
       · cases h
     · cases h
   · cases h
 · split at h
   · split at h
     · split at h
       · cases h; exact .pure _ _ (fun _ => rfl)
       · cases h
     · cases h
   · cases h
 · rename_i args ats ho
   have hcm : xCalm o = false := by simp [xCalm, ho]
   rw [hcm]
   split at h
   · split at h
     · unfold xAppend at h
       split at h
       · split at h
         · split at h
           · split at h
             · rename_i by_ _ _ _ _ _ _ _ l l' _ _
               cases h
               split
               · exact .pure _ _ (fun h => by cases h)
               · exact .none
             · cases h
           · cases h
         · cases h
       · cases h
     · rename_i x y t t2 _ _ _ _ _ _
       split at h
       · split at h
         · rename_i p ha
           cases h
           exact appendK_vb _ _ _
         · cases h
       · cases h
     · cases h
   · cases h
 · rename_i args ats ho
   have hcm : xCalm o = false := by simp [xCalm, ho]
   rw [hcm]
   split at h
   · split at h
     · split at h
       · split at h
         · unfold xClear at h
           split at h
           · split at h
             · split at h
               · split at h
                 · cases h
                   split
                   · exact .pure _ _ (fun h => by cases h)
                   · exact .none
                 · cases h
               · cases h
             · cases h
           · cases h
         · cases h
       · cases h
     · cases h
   · cases h
 · rename_i t len parts ho
   have hcm : xCalm o = false := by simp [xCalm, ho]
   rw [hcm]
   split at h
   · split at h
     · split at h
       · split at h
         · cases h; exact .pure _ _ (fun h => by cases h)
         · cases h
       · cases h
     · cases h
   · cases h
 · split at h
   · split at h
     · cases h; exact .pure _ _ (fun _ => rfl)
     · cases h
   · cases h
 · rename_i t x ho
   have hcm : xCalm o = false := by simp [xCalm, ho]
   rw [hcm]
   split at h
   · split at h
     · split at h
       · cases h; exact .pure _ _ (fun h => by cases h)
       · cases h
     · cases h
   · split at h
     · cases h; exact .pure _ _ (fun _ => rfl)
     · cases h
     · cases h; exact .pure _ _ (fun _ => rfl)
     · cases h
 · cases h
theorem evOpN_off (h : xOn cx o = false) (st : St) (k : St → Option R) : evOpN cx hc all o st k = evOp cx hc all o st k := by
 unfold evOpN; rw [h]
theorem foot_x (hx : xOn cx o = true) (h0 : ∀ st, NF (dstT o.dst ++ f.wr) f.calm st (evOp (R := R) cx hc all o st))
 (hl0 : ∀ (t : Nat) d env sto k, t ∉ f.rd → t ∉ dstT o.dst → t ∉ f.wr → evOp cx hc all o ⟨env.set t d, sto⟩ k = evOp cx hc all o ⟨env, sto⟩ (fun st' => k ⟨st'.env.set t d, st'.sto⟩))
 (hrd : ∀ t, t ∈ xRd o → t ∈ f.rd) (hL : ∀ env, Chg f.wr env (xL o env)) (hLs : ∀ (t : Nat) d env, t ∉ f.wr → xL o (env.set t d) = (xL o env).set t d) (hcalm : f.calm = true → xCalm o = true) (hap : f.apart = false) : OpFootN cx hc all o f := by
 have hon : ∀ st (k : St → Option R), evOpN cx hc all o st k = match xV cx o (rd st.env) st.sto with
  | some F => F fun d sto => k ⟨put (xL o st.env) o.dst d, sto⟩
  | none => evOp cx hc all o st k   := fun st k => by unfold evOpN; rw [hx]; rfl
 refine ⟨fun st => ?_, fun t d env sto k h1 h2 h3 => ?_, fun h => by rw [hap] at h; cases h⟩
 · cases hV : xV (R := R) cx o (rd st.env) st.sto with
   | none =>
    obtain ⟨s, hs, hc'⟩ := h0 st
    refine ⟨s, fun k => ?_, hc'⟩
    rw [hon, hV]; exact hs k
   | some V =>
    obtain ⟨s, hs, hcm⟩ := xV_vb hV
    refine ⟨s.map fun p => ⟨put (xL o st.env) o.dst p.1, p.2⟩, fun k => ?_, fun st' h => ?_⟩
    · rw [hon, hV]; dsimp only; rw [hs]; cases s <;> rfl
    · cases s with
      | none => cases h
      | some p =>
       cases h
       exact ⟨((hL st.env).mono (fun t h => List.mem_append_right _ h)).trans (.put (fun t h => List.mem_append_left _ h) _ _), fun hc' => hcm (hcalm hc') p rfl⟩
 · rw [hon, hon]
   have e : xV (R := R) cx o (rd (env.set t d)) sto = xV cx o (rd env) sto := xV_congr fun x hx' => rd_set (fun ht => h1 (hrd t (hx' t ht)))
   dsimp only
   rw [e]
   cases xV (R := R) cx o (rd env) sto with
   | none => exact hl0 t d env sto k h1 h2 h3
   | some V => dsimp only; simp only [hLs t d env h3, put_set h2]
theorem foot_xextract {x : Operand} {i : Nat} (ho : o.op = .extract x i) (hx : xOn cx o = true) : OpFootN (R := R) cx hc all o ⟨tmpOf x, [], true, true⟩ := by
 have hon : ∀ env sto (k : St → Option R), evOpN cx hc all o ⟨env, sto⟩ k = match rd env x with
  | .tup cs => match cs[i]? with
   | some c => k ⟨put env o.dst c.dup, sto⟩
   | none => none
  | _ => none := fun env sto k => by
  unfold evOpN xV xL evOp
  rw [hx]
  simp only [ho]
  generalize rd env x = z
  cases z <;> try rfl
  rename_i cs
  dsimp only
  cases cs[i]? <;> rfl
 refine ⟨fun st => ?_, fun t d env sto k h1 h2 h3 => ?_, fun h env sto sto' k => ?_⟩
 · obtain ⟨env, sto⟩ := st
   have hn : NF (R := R) (dstT o.dst ++ []) true ⟨env, sto⟩ fun _ => none := ⟨none, fun _ => rfl, fun _ h => by cases h⟩
   cases hz : rd env x with
   | tup cs =>
    cases hc0 : cs[i]? with
    | none => refine ⟨none, fun k => ?_, fun _ h => by cases h⟩; rw [hon, hz]; dsimp only; rw [hc0]; rfl
    | some c =>
     refine ⟨some ⟨put env o.dst c.dup, sto⟩, fun k => ?_, fun st' h => ?_⟩
     · rw [hon, hz]; dsimp only; rw [hc0]; rfl
     · cases h; exact ⟨.put (fun t h => List.mem_append_left _ h) _ _, fun _ => rfl⟩
   | _ => refine ⟨none, fun k => ?_, fun _ h => by cases h⟩; rw [hon, hz]; rfl
 · rw [hon, hon, rd_set h1]
   cases rd env x <;> try rfl
   rename_i cs
   dsimp only
   cases cs[i]? with
   | none => rfl
   | some c => dsimp only; rw [put_set h2]
 · rw [hon, hon]
theorem foot_xiface {ty : TypeId} {x : Operand} (ho : o.op = .makeInterface ty x) (hx : xOn cx o = true) (htf : isTf cx ty = false) : OpFootN (R := R) cx hc all o ⟨tmpOf x, [], true, true⟩ := by
 let V : List D → Option D := fun env => match concB cx ty, look cx.tab ty, rd env x with
  | true, some { d := .int _, .. }, .int kd n => some (.err (.num ty kd n))
  | true, some { d := .int _, .. }, _ => none
  | true, _, _ => some (.err .other)
  | _, _, _ => none
 have hon : ∀ env sto (k : St → Option R), evOpN cx hc all o ⟨env, sto⟩ k = (V env).bind fun d => k ⟨put env o.dst d, sto⟩ := fun env sto k => by
  show _ = (match concB cx ty, look cx.tab ty, rd env x with
   | true, some { d := .int _, .. }, .int kd n => some (D.err (.num ty kd n))
   | true, some { d := .int _, .. }, _ => none
   | true, _, _ => some (D.err .other)
   | _, _, _ => none).bind fun d => k ⟨put env o.dst d, sto⟩
  unfold evOpN xV xL evOp
  rw [hx]
  simp only [ho, htf]
  unfold evOp2
  simp only [ho]
  generalize rd env x = z
  cases concB cx ty with
  | false => rfl
  | true =>
   cases look cx.tab ty with
   | none => rfl
   | some e =>
    obtain ⟨td, _, _, _, _, _⟩ := e
    cases td <;> cases z <;> rfl
 refine ⟨fun st => ?_, fun t d env sto k h1 h2 h3 => ?_, fun h env sto sto' k => ?_⟩
 · obtain ⟨env, sto⟩ := st
   refine ⟨(V env).map fun d => ⟨put env o.dst d, sto⟩, fun k => ?_, fun st' h => ?_⟩
   · rw [hon]; cases V env <;> rfl
   · cases hV : V env with
     | none => rw [hV] at h; cases h
     | some d => rw [hV] at h; cases h; exact ⟨.put (fun t h => List.mem_append_left _ h) _ _, fun _ => rfl⟩
 · have e : V (env.set t d) = V env := by show (match concB cx ty, look cx.tab ty, rd (env.set t d) x with | _, _, _ => _) = _; rw [rd_set h1]
   rw [hon, hon, e]
   simp only [put_set h2]
 · rw [hon, hon]
theorem footOf_ok (hb : BndOk cx hc) (h : footOf cx all o = some f) : OpFootN cx hc all o f := by
 unfold footOf at h
 cases hx : xOn cx o with
 | false =>
  rw [hx] at h
  have h0 := footOf0_ok hb h
  refine ⟨fun st => ?_, fun t d env sto k h1 h2 h3 => ?_, fun ha env sto sto' k => ?_⟩
  · obtain ⟨s, hs, hc'⟩ := h0.nf st
    exact ⟨s, fun k => by rw [evOpN_off hx]; exact hs k, hc'⟩
  · rw [evOpN_off hx, evOpN_off hx]; exact h0.loc t d env sto k h1 h2 h3
  · rw [evOpN_off hx, evOpN_off hx]; exact h0.sf ha env sto sto' k
 | true =>
  rw [hx] at h
  dsimp only at h
  unfold footX at h
  split at h
  · rename_i args ats ho
    cases h
    have hn : ∀ st (k : St → Option R), evOp cx hc all o st k = none := fun st k => by unfold evOp; simp only [ho]; unfold evOp2; simp only [ho]
    refine foot_x hx (fun st => ⟨none, fun k => by rw [hn]; rfl, fun _ h => by cases h⟩) (fun t d env sto k _ _ _ => by rw [hn, hn]) (fun t ht => by simpa [xRd, ho] using ht) (fun env => by simp only [xL, ho]; exact .refl _ _)
     (fun t d env _ => by simp only [xL, ho]) (fun h => by cases h) rfl
  unfold footX2 at h
  split at h
  · rename_i x i ho
    cases h
    exact foot_xextract ho hx
  · rename_i ty x ho
    cases htf : isTf cx ty with
    | false =>
     rw [htf] at h
     cases h
     exact foot_xiface ho hx htf
    | true =>
     rw [htf] at h
     cases h
     have hn : ∀ st (k : St → Option R), evOp cx hc all o st k = none := fun st k => by unfold evOp; simp only [ho]; unfold evOp2; simp only [ho]
     exact foot_x hx (fun st => ⟨none, fun k => by rw [hn]; rfl, fun _ h => by cases h⟩) (fun t d env sto k _ _ _ => by rw [hn, hn]) (fun t ht => by simpa [xRd, ho] using ht) (fun env => by simp only [xL, ho]; exact .refl _ _)
      (fun t d env _ => by simp only [xL, ho]) (fun h => by cases h) rfl
  · rename_i hne hni
    split at h
    · rename_i f0 hf0
      cases h
      have h0 := footOf0_ok (R := R) hb hf0
      refine foot_x hx (fun st => ?_) (fun t d env sto k h1 h2 h3 => h0.loc t d env sto k h1 h2 h3) (fun t ht => ?_) (fun env => ?_) (fun t d env h => ?_) (fun h => ?_) rfl
      · obtain ⟨s, hs, hc'⟩ := h0.nf st
        exact ⟨s, hs, fun st' h => ⟨(hc' st' h).1, fun hc2 => (hc' st' h).2 (by simp only [Bool.and_eq_true] at hc2; exact hc2.1)⟩⟩
      · unfold xOn at hx
        unfold xRd at ht
        unfold footOf0 at hf0
        show t ∈ f0.rd
        obtain ⟨dst, op, ty, pos, after, guard⟩ := o
        cases op with
        | call c =>
         obtain ⟨callee, args, ats⟩ := c
         dsimp only at ht hf0 hx
         cases callee with
         | builtin b => cases b <;> dsimp only at hf0 <;> first | (cases hf0; exact ht) | cases hf0
         | value fo =>
          exfalso
          cases hxl : cx.xl <;> rw [hxl] at hx <;> cases hx
         | _ => cases hf0
        | _ =>
         dsimp only at ht hf0
         first
         | (cases hf0; done)
         | (cases hf0; exact ht)
         | (split at hf0 <;> (cases hf0; exact ht))
         | (cases ht; done)
      · show Chg f0.wr env _
        unfold footOf0 at hf0
        unfold xL
        split
        · rename_i t x ho; rw [ho] at hf0; cases hf0; exact .left (fun _ h => h) _
        · rename_i t x y ho; rw [ho] at hf0; cases hf0; exact .left (fun _ h => h) _
        · rename_i args ats ho
          rw [ho] at hf0; cases hf0
          split
          · rename_i x r hx
            exact .left (fun t ht => by show t ∈ tmpsOf args.toList; rw [hx]; simp [tmpsOf, ht]) _
          · exact .refl _ _
        · exact .refl _ _
      · unfold footOf0 at hf0
        have h : t ∉ f0.wr := h
        unfold xL
        split
        · rename_i t x ho; rw [ho] at hf0; cases hf0; exact left_set h
        · rename_i t x y ho; rw [ho] at hf0; cases hf0; exact left_set h
        · rename_i args ats ho
          rw [ho] at hf0; cases hf0
          split
          · rename_i x r hx
            exact left_set (fun ht => h (by show _ ∈ tmpsOf args.toList; rw [hx]; simp [tmpsOf, ht]))
          · rfl
        · rfl
      · simp only [Bool.and_eq_true] at h; exact h.2
    · cases h
end
end Go.Ev
namespace Go.Ev
section
variable {R : Type} {cx : Cx}
def setAll (env : List D) : List (Nat × D) → List D
 | [] => env
 | (t, d) :: r => setAll (env.set t d) r
theorem setAll_set {t : Nat} {d : D} : ∀ (l : List (Nat × D)) (env : List D), (∀ p, p ∈ l → p.1 ≠ t) → setAll (env.set t d) l = (setAll env l).set t d
 | [], _, _ => rfl
 | (s, e) :: r, env, h => by
  have hne : s ≠ t := h (s, e) (List.mem_cons_self ..)
  simp only [setAll]
  rw [List.set_comm _ _ (Ne.symm hne)]
  exact setAll_set r _ (fun p hp => h p (List.mem_cons_of_mem _ hp))
theorem setAll_comm {m : List (Nat × D)} : ∀ (l : List (Nat × D)) (env : List D), (∀ p, p ∈ l → ∀ q, q ∈ m → q.1 ≠ p.1) → setAll (setAll env l) m = setAll (setAll env m) l
 | [], _, _ => rfl
 | (t, d) :: r, env, h => by
  simp only [setAll]
  rw [setAll_comm r _ (fun p hp q hq => h p (List.mem_cons_of_mem _ hp) q hq), setAll_set m env (fun q hq => h (t, d) (List.mem_cons_self ..) q hq)]
theorem chg_setAll {env' : List D} : ∀ (S : List Nat) (env : List D), Chg S env env' → env' = setAll env (S.map fun t => (t, env'.getD t .any))
 | [], env, h => by
  show env' = env
  exact List.ext_getElem? (fun i => h.2 i (by simp))
 | t :: r, env, h => by
  simp only [List.map_cons, setAll]
  refine chg_setAll r _ ⟨by simp [h.1], fun s hs => ?_⟩
  by_cases e : t = s
  · subst e
    rw [List.getElem?_set_self']
    rcases Nat.lt_or_ge t env.length with hl | hl
    · have hl' : t < env'.length := h.1 ▸ hl
      simp [hl, hl', List.getD]
    · rw [List.getElem?_eq_none hl, List.getElem?_eq_none (h.1 ▸ hl)]; rfl
  · rw [List.getElem?_set_ne e]
    exact h.2 s (by simp only [List.mem_cons, not_or]; exact ⟨fun e' => e e'.symm, hs⟩)
structure XFoot (rd wr : List Nat) (calm apart : Bool) (Y : St → (St → Option R) → Option R) : Prop where
 nf : ∀ st, NF wr calm st (Y st)
 loc : ∀ (t : Nat) d env sto k, t ∉ rd → t ∉ wr → Y ⟨env.set t d, sto⟩ k = Y ⟨env, sto⟩ (fun st' => k ⟨st'.env.set t d, st'.sto⟩)
 sf : apart = true → ∀ env sto sto' k, Y ⟨env, sto'⟩ k = Y ⟨env, sto⟩ (fun st' => k ⟨st'.env, sto'⟩)
 ac : apart = true → calm = true
theorem XFoot.locAll {rd wr calm apart} {Y : St → (St → Option R) → Option R} (h : XFoot rd wr calm apart Y) : ∀ (l : List (Nat × D)) (env : List D) (sto : Sto) (k : St → Option R), (∀ p, p ∈ l → p.1 ∉ rd ∧ p.1 ∉ wr) →
 Y ⟨setAll env l, sto⟩ k = Y ⟨env, sto⟩ (fun st' => k ⟨setAll st'.env l, st'.sto⟩)
 | [], _, _, _, _ => rfl
 | (t, d) :: r, env, sto, k, hl => by
  simp only [setAll]
  rw [h.locAll r _ sto k (fun p hp => hl p (List.mem_cons_of_mem _ hp)), h.loc t d env sto _ (hl (t, d) (List.mem_cons_self ..)).1 (hl (t, d) (List.mem_cons_self ..)).2]
theorem XFoot.step {rd wr calm apart} {Y : St → (St → Option R) → Option R} (h : XFoot rd wr calm apart Y) {env : List D} {sto : Sto} {k : St → Option R} {r : R} (hk : Y ⟨env, sto⟩ k = some r) :
 ∃ (l : List (Nat × D)) (sto' : Sto), (∀ p, p ∈ l → p.1 ∈ wr) ∧ (∀ k, Y ⟨env, sto⟩ k = k ⟨setAll env l, sto'⟩) ∧ (calm = true → sto' = sto) := by
 obtain ⟨s, hs, hc⟩ := h.nf ⟨env, sto⟩
 cases s with
 | none => rw [hs] at hk; cases hk
 | some st' =>
  obtain ⟨h1, h2⟩ := hc st' rfl
  refine ⟨wr.map fun t => (t, st'.env.getD t .any), st'.sto, fun p hp => ?_, fun k => ?_, h2⟩
  · obtain ⟨t, ht, rfl⟩ := List.mem_map.1 hp; exact ht
  · rw [hs, ← chg_setAll wr env h1]; rfl
theorem XFoot.swap {rp wp cp ap ro wo co ao} {A B : St → (St → Option R) → Option R} (hA : XFoot rp wp cp ap A) (hB : XFoot ro wo co ao B)
 (h1 : ∀ t, t ∈ wp → t ∉ ro ∧ t ∉ wo) (h2 : ∀ t, t ∈ wo → t ∉ rp ∧ t ∉ wp) (h3 : ap = true ∨ ao = true ∨ (cp = true ∧ co = true)) {st : St} {k : St → Option R} {r : R}
 (h : A st (fun st' => B st' k) = some r) : B st (fun st' => A st' k) = some r := by
 obtain ⟨env, sto⟩ := st
 obtain ⟨m, stoA, hm, hAk, hAc⟩ := hA.step h
 rw [hAk] at h
 rw [hB.locAll m env stoA k (fun p hp => h1 _ (hm p hp))] at h
 have hdis : ∀ (l : List (Nat × D)), (∀ p, p ∈ l → p.1 ∈ wo) → ∀ p, p ∈ l → ∀ q, q ∈ m → q.1 ≠ p.1 := fun l hl p hp q hq e => (h1 _ (hm q hq)).2 (e ▸ hl p hp)
 rcases h3 with hap | hao | ⟨hcp, hco⟩
 · have hsA := hAc (hA.ac hap)
   subst hsA
   obtain ⟨l, stoB, hl, hBk, _⟩ := hB.step h
   rw [hBk] at h ⊢
   rw [hA.locAll l env stoB k (fun p hp => h2 _ (hl p hp)), hA.sf hap env stoA stoB, hAk]
   dsimp only at h ⊢
   rw [setAll_comm l env (hdis l hl)] at h
   exact h
 · rw [hB.sf hao env sto stoA] at h
   obtain ⟨l, stoB, hl, hBk, hBc⟩ := hB.step h
   have hsB := hBc (hB.ac hao)
   subst hsB
   rw [hBk] at h ⊢
   rw [hA.locAll l env stoB k (fun p hp => h2 _ (hl p hp)), hAk]
   dsimp only at h ⊢
   rw [setAll_comm l env (hdis l hl)] at h
   exact h
 · have hsA := hAc hcp
   subst hsA
   obtain ⟨l, stoB, hl, hBk, hBc⟩ := hB.step h
   have hsB := hBc hco
   subst hsB
   rw [hBk] at h ⊢
   rw [hA.locAll l env stoB k (fun p hp => h2 _ (hl p hp)), hAk]
   dsimp only at h ⊢
   rw [setAll_comm l env (hdis l hl)] at h
   exact h
end
end Go.Ev
namespace Go.Ev
section
variable {P : Program} {X : Cfg} {R : Type} {cx : Cx}
variable {hc : FuncId → List D → Sto → (D → Sto → Option R) → Option R}
theorem set_same {env : List D} {d : Nat} {v : D} (h : env.getD d .any = v) (hv : v ≠ .any) : env.set d v = env := by
 have hd : d < env.length := by
  rcases Nat.lt_or_ge d env.length with h' | h'
  · exact h'
  · rw [getD_out h'] at h; exact absurd h.symm hv
 have he : env[d]? = some v := by rw [rd_tmp_get hd, h]
 apply List.ext_getElem?; intro i
 by_cases e : d = i
 · subst e; rw [List.getElem?_set_self hd, he]
 · rw [List.getElem?_set_ne e]
def guardW (d : Nat) (want : Bool) (st : St) (run skip : St → Option R) : Option R :=
 match st.env.getD d .any with
 | .bool b => match b == want with
  | true => run st
  | false => skip st
 | .tup [] => skip st
 | _ => none
theorem guardK_eq {o : Oper} {ops : Array Oper} {j : Nat} {want : Bool} {d : Tmp} (hg : o.guard = some (j, want)) (hd : dstOf ops j = some d) (st : St) (run skip : St → Option R) :
 guardK o ops st run skip = guardW d want st run skip := by
 obtain ⟨env, sto⟩ := st
 unfold guardK guardW
 rw [hg]
 dsimp only
 rw [hd]
 dsimp only
 generalize he : env.getD d .any = z
 cases z <;> first
  | rfl
  | (rename_i cs; cases cs <;> rfl)
  | skip
 rename_i b
 have hs : env.set d (.bool b) = env := set_same he (by intro h; cases h)
 cases b <;> cases want <;> simp only [hs] <;> rfl
theorem NF.skip {S : List Nat} {calm : Bool} {st : St} {o : Option Tmp} (h : ∀ t, t ∈ dstT o → t ∈ S) : NF (R := R) S calm st fun k => k { st with env := put st.env o (.tup []) } :=
 ⟨some _, fun _ => rfl, fun st' e => by cases e; exact ⟨.put h _ _, fun _ => rfl⟩⟩
theorem gOp_foot {ops : Array Oper} {o : Oper} {f : Foot} (h : OpFootN cx hc ops.toList o f) (hac : f.apart = true → f.calm = true) : XFoot (guardT ops o ++ f.rd) (dstT o.dst ++ f.wr) f.calm f.apart (gOp cx hc ops o) := by
 have hd : ∀ t, t ∈ dstT o.dst → t ∈ dstT o.dst ++ f.wr := fun t h => List.mem_append_left _ h
 unfold gOp
 cases hg : o.guard with
 | none =>
  have e : ∀ st (run skip : St → Option R), guardK o ops st run skip = run st := fun st run skip => by unfold guardK; rw [hg]
  refine ⟨fun st => ?_, fun t d env sto k h1 h2 => ?_, fun hap env sto sto' k => ?_, hac⟩
  · simp only [e]; exact h.nf st
  · simp only [e]
    exact h.loc t d env sto k (fun h' => h1 (List.mem_append_right _ h')) (fun h' => h2 (List.mem_append_left _ h')) (fun h' => h2 (List.mem_append_right _ h'))
  · simp only [e]; exact h.sf hap env sto sto' k
 | some jw =>
  obtain ⟨j, want⟩ := jw
  cases hj : dstOf ops j with
  | none =>
   have e : ∀ st (run skip : St → Option R), guardK o ops st run skip = none := fun st run skip => by unfold guardK; rw [hg]; simp only [hj]
   refine ⟨fun st => ?_, fun t d env sto k h1 h2 => ?_, fun hap env sto sto' k => ?_, hac⟩
   · simp only [e]; exact ⟨none, fun _ => rfl, fun _ h => by cases h⟩
   · simp only [e]
   · simp only [e]
  | some d0 =>
   have hgt : guardT ops o = [d0] := by simp [guardT, hg, hj]
   refine ⟨fun st => ?_, fun t d env sto k h1 h2 => ?_, fun hap env sto sto' k => ?_, hac⟩
   · simp only [guardK_eq hg hj, guardW]
     cases hz : st.env.getD d0 .any with
     | bool b =>
      cases hb : (b == want)
      · simp only [hb]; exact .skip hd
      · simp only [hb]; exact h.nf st
     | tup cs =>
      cases cs with
      | nil => exact .skip hd
      | cons c r => exact ⟨none, fun _ => rfl, fun _ h => by cases h⟩
     | _ => exact ⟨none, fun _ => rfl, fun _ h => by cases h⟩
   · have ht0 : t ≠ d0 := fun e => h1 (by rw [hgt, e]; simp)
     have hrd : (env.set t d).getD d0 .any = env.getD d0 .any := by simp [List.getD, List.getElem?_set_ne ht0]
     simp only [guardK_eq hg hj, guardW, hrd]
     have hsk : put (env.set t d) o.dst (.tup []) = (put env o.dst (.tup [])).set t d := put_set (fun h' => h2 (List.mem_append_left _ h'))
     cases hz : env.getD d0 .any with
     | bool b =>
      cases hb : (b == want)
      · simp only [hb, hsk]
      · simp only [hb]; exact h.loc t d env sto k (fun h' => h1 (List.mem_append_right _ h')) (fun h' => h2 (List.mem_append_left _ h')) (fun h' => h2 (List.mem_append_right _ h'))
     | tup cs =>
      cases cs with
      | nil => simp only [hsk]
      | cons c r => rfl
     | _ => rfl
   · simp only [guardK_eq hg hj, guardW]
     cases hz : env.getD d0 .any with
     | bool b =>
      cases hb : (b == want)
      · simp only [hb]
      · simp only [hb]; exact h.sf hap env sto sto' k
     | tup cs =>
      cases cs with
      | nil => rfl
      | cons c r => rfl
     | _ => rfl
theorem foot_ac1 {o : Oper} {f : Foot} (h : footOf1 o = some f) : f.apart = true → f.calm = true := by
 unfold footOf1 at h
 split at h <;> first
  | (cases h; intro _; rfl)
  | cases h
theorem foot_ac0 {all : List Oper} {o : Oper} {f : Foot} (h : footOf0 cx all o = some f) : f.apart = true → f.calm = true := by
 unfold footOf0 at h
 split at h <;> first
  | exact foot_ac1 h
  | (cases h; intro _; rfl)
  | (cases h; intro h; cases h)
  | (split at h <;> first
   | (cases h; intro _; rfl)
   | (cases h; intro h; cases h)
   | cases h)
  | cases h
theorem foot_ac {all : List Oper} {o : Oper} {f : Foot} (h : footOf cx all o = some f) : f.apart = true → f.calm = true := by
 unfold footOf at h
 split at h
 · exact foot_ac0 h
 · unfold footX at h
   split at h
   · cases h; intro h; cases h
   unfold footX2 at h
   split at h
   · cases h; exact id
   · split at h
     · cases h; exact id
     · cases h; exact id
   · split at h
     · cases h; intro h; cases h
     · cases h
theorem not_hasT {l : List Nat} {t : Nat} (h : hasT l t = false) : t ∉ l := by
 intro hm
 have : hasT l t = true := List.any_eq_true.2 ⟨t, hm, Nat.beq_refl t⟩
 rw [this] at h; cases h
theorem dis_spec {a b : List Nat} (h : dis a b = true) : ∀ t, t ∈ a → t ∉ b := fun t ht => not_hasT (by
 have := List.all_eq_true.1 h t ht
 simpa using this)
theorem load_grow0 {all : List Oper} {o : Oper} {f : Foot} {ty x} (ho : o.op = .load ty x) (hf : footOf0 cx all o = some f) (hcalm : f.calm = true) {env : List D} {sto : Sto} {c : List D} {k0 : St → Option R} {r : R}
 (h : evOp cx hc all o ⟨env, sto⟩ k0 = some r) (k : St → Option R) : evOp cx hc all o ⟨env, sto ++ [c]⟩ k = evOp cx hc all o ⟨env, sto⟩ (fun st' => k ⟨st'.env, sto ++ [c]⟩) := by
 have hs : stealsLd cx o.type all o.dst = false := by
  unfold footOf0 at hf
  rw [ho] at hf
  simp only at hf
  cases hs : stealsLd cx o.type all o.dst
  · rfl
  · rw [hs] at hf; cases hf; cases hcalm
 unfold evOp at h ⊢
 simp only [ho, hs] at h ⊢
 cases hl : look cx.tab ty with
 | none => rfl
 | some e =>
  simp only [hl] at h ⊢
  generalize rd env x = z at h
  cases z <;> first
   | rfl
   | skip
  · rename_i i off
    simp only at h ⊢
    cases hi : rowOf sto i with
    | none => rw [hi] at h; cases h
    | some cs =>
     have hi2 : rowOf (sto ++ [c]) i = some cs := by
      have h0 := (rowOf_spec hi).1
      have hlt := (List.getElem?_eq_some_iff.1 h0).1
      unfold rowOf at hi ⊢
      rw [List.getElem?_append_left hlt]; exact hi
     rw [hi2]
     simp only
     cases Nat.ble (off + e.size) cs.length
     · rfl
     · cases e.agg <;> cases (cs.getD off .any).leaf <;> rfl
theorem load_grow {all : List Oper} {o : Oper} {f : Foot} {ty x} (ho : o.op = .load ty x) (hf : footOf cx all o = some f) (hcalm : f.calm = true) {env : List D} {sto : Sto} {c : List D} {k0 : St → Option R} {r : R}
 (h : evOpN cx hc all o ⟨env, sto⟩ k0 = some r) (k : St → Option R) : evOpN cx hc all o ⟨env, sto ++ [c]⟩ k = evOpN cx hc all o ⟨env, sto⟩ (fun st' => k ⟨st'.env, sto ++ [c]⟩) := by
 unfold footOf at hf
 cases hx : xOn cx o with
 | false =>
  rw [hx] at hf
  rw [evOpN_off hx] at h
  rw [evOpN_off hx, evOpN_off hx]
  exact load_grow0 ho hf hcalm h k
 | true =>
  rw [hx] at hf
  have hf1 : ∃ f0, footOf0 cx all o = some f0 ∧ f0.calm = true := by
   dsimp only at hf
   unfold footX at hf
   split at hf
   · rename_i ho2; rw [ho] at ho2; cases ho2
   unfold footX2 at hf
   split at hf
   · rename_i ho2; rw [ho] at ho2; cases ho2
   · rename_i ho2; rw [ho] at ho2; cases ho2
   · split at hf
     · rename_i f0 hf0
       cases hf
       simp only [Bool.and_eq_true] at hcalm
       exact ⟨f0, hf0, hcalm.1⟩
     · cases hf
  obtain ⟨f0, hf0, hc0⟩ := hf1
  have hon : ∀ (st : St) (k : St → Option R), evOpN cx hc all o st k = match xV cx o (rd st.env) st.sto with
   | some F => F fun d sto => k ⟨put (xL o st.env) o.dst d, sto⟩
   | none => evOp cx hc all o st k := fun st k => by unfold evOpN; rw [hx]; rfl
  rw [hon] at h
  rw [hon, hon]
  dsimp only at h ⊢
  cases hV : xV (R := R) cx o (rd env) sto with
  | none =>
   rw [hV] at h
   have hV2 : xV (R := R) cx o (rd env) (sto ++ [c]) = none := by
    unfold xV at hV ⊢
    simp only [ho] at hV ⊢
    unfold evOp at h
    simp only [ho] at h
    cases hl : look cx.tab ty with
    | none => rfl
    | some e =>
     rw [hl] at h
     dsimp only at h
     generalize rd env x = z at h
     cases z <;> first
      | rfl
      | cases h
   rw [hV2]
   exact load_grow0 ho hf0 hc0 h k
  | some V =>
   rw [hV] at h
   unfold xV at hV
   simp only [ho] at hV
   split at hV
   · rename_i e i ty' kk off hl hz
     split at hV
     · rename_i p ha
       have ha2 : arrAt (sto ++ [c]) i = some p := by
        have h1 := arrAt_some ha
        have hlt := (List.getElem?_eq_some_iff.1 h1).1
        unfold arrAt at ha ⊢
        simp only [List.getD, List.getElem?_append_left hlt] at ha ⊢
        exact ha
       split at hV
       · rename_i hb1 hb2
         cases hV
         have hV2 : xV (R := R) cx o (rd env) (sto ++ [c]) = some fun k => (p.2[kk]?).bind fun x => k (ofCells e.agg ((((cells p.1 x).drop off).take e.size).map D.dup1)) (sto ++ [c]) := by
          unfold xV
          simp only [ho, hl, hz, ha2, hb1, hb2]
         rw [hV2]
       · cases hV
     · cases hV
   · cases hV
theorem alloc_form {all : List Oper} {o : Oper} {ty} (ho : o.op = .alloc ty) {env : List D} {sto : Sto} {k0 : St → Option R} {r : R}
 (h : evOp cx hc all o ⟨env, sto⟩ k0 = some r) : ∃ c, ∀ (env : List D) (k : St → Option R), evOp cx hc all o ⟨env, sto⟩ k = k ⟨put env o.dst (.ptr sto.length 0), sto ++ [c]⟩ := by
 unfold evOp at h
 simp only [ho] at h
 cases hl : look cx.tab ty with
 | none => rw [hl] at h; cases h
 | some e =>
  rw [hl] at h
  obtain ⟨_, _, _, _, _, z⟩ := e
  cases z with
  | nil => cases h
  | cons c cs => exact ⟨c :: cs, fun env k => by unfold evOp; simp only [ho, hl]⟩
theorem grow_swap {ops : Array Oper} (hb : BndOk cx hc) {p o : Oper} {fp : Foot} (hp : footOf cx ops.toList p = some fp) (hg : growB p o = true) (hcalm : fp.calm = true)
 (h2 : ∀ t, t ∈ dstT o.dst → t ∉ guardT ops p ++ fp.rd ∧ t ∉ dstT p.dst ++ fp.wr)
 {st : St} {k : St → Option R} {r : R} (h : gOp cx hc ops p st (fun st' => gOp cx hc ops o st' k) = some r) : gOp cx hc ops o st (fun st' => gOp cx hc ops p st' k) = some r := by
 have hA := gOp_foot (R := R) (footOf_ok hb hp) (foot_ac hp)
 unfold growB at hg
 split at hg
 case h_2 => cases hg
 rename_i ty x ty' hpo hoo
 simp only [Bool.and_eq_true, Option.isNone_iff_eq_none] at hg
 obtain ⟨env, sto⟩ := st
 obtain ⟨m, stoA, hm, hAk, hAc⟩ := hA.step h
 have := hAc hcalm
 subst this
 rw [hAk] at h
 have eo : ∀ st (k : St → Option R), gOp cx hc ops o st k = evOp cx hc ops.toList o st k := fun st k => by
  have hx : xOn cx o = false := by
   unfold xOn
   cases cx.xl
   · rfl
   · simp only [hoo]
  unfold gOp guardK; rw [hg.2]; exact evOpN_off hx st k
 have ep : ∀ st (k : St → Option R), gOp cx hc ops p st k = evOpN cx hc ops.toList p st k := fun st k => by unfold gOp guardK; rw [hg.1]
 rw [eo] at h
 obtain ⟨c, hc'⟩ := alloc_form hoo h
 rw [hc'] at h
 rw [eo, hc']
 have hgrow : ∀ k : St → Option R, gOp cx hc ops p ⟨env, stoA ++ [c]⟩ k = k ⟨setAll env m, stoA ++ [c]⟩ := fun k => by
  have hs : evOpN cx hc ops.toList p ⟨env, stoA⟩ (fun _ => some r) = some r := by rw [← ep, hAk]
  rw [ep, load_grow hpo hp hcalm hs k, ← ep, hAk]
 cases hd : o.dst with
 | none => rw [hd] at h; exact (hgrow k).trans h
 | some t =>
  rw [hd] at h h2
  obtain ⟨h3, h4⟩ := h2 t (by simp [dstT])
  show gOp cx hc ops p ⟨env.set t (.ptr stoA.length 0), stoA ++ [c]⟩ k = some r
  rw [hA.loc t _ env _ k h3 h4, hgrow]
  have e : put (setAll env m) (some t) (.ptr stoA.length 0) = (setAll env m).set t (.ptr stoA.length 0) := rfl
  rw [e] at h
  exact h
theorem comm_swap {ops : Array Oper} (hb : BndOk cx hc) {p o : Oper} {fp fo : Foot} (hp : footOf cx ops.toList p = some fp) (ho : footOf cx ops.toList o = some fo) (h : commB ops p o fp fo = true)
 {st : St} {k : St → Option R} {r : R} (hk : gOp cx hc ops p st (fun st' => gOp cx hc ops o st' k) = some r) : gOp cx hc ops o st (fun st' => gOp cx hc ops p st' k) = some r := by
 unfold commB at h
 simp only [Bool.and_eq_true, Bool.or_eq_true] at h
 obtain ⟨⟨h1, h2⟩, h3⟩ := h
 have d1 := dis_spec h1
 have d2 := dis_spec h2
 rcases h3 with h3 | ⟨h3, h4⟩
 case inr =>
  exact grow_swap hb hp h4 h3 (fun t ht => by
   have := d2 t (List.mem_append_left _ ht)
   simp only [List.mem_append, not_or] at this ⊢
   exact ⟨⟨this.1.1.1, this.1.1.2⟩, this.1.2, this.2⟩) hk
 refine XFoot.swap (gOp_foot (footOf_ok hb hp) (foot_ac hp)) (gOp_foot (footOf_ok hb ho) (foot_ac ho)) (fun t ht => ?_) (fun t ht => ?_) ?_ hk
 · have := d1 t ht
   simp only [List.mem_append, not_or] at this ⊢
   exact ⟨⟨this.1.1.1, this.1.1.2⟩, this.1.2, this.2⟩
 · have := d2 t ht
   simp only [List.mem_append, not_or] at this ⊢
   exact ⟨⟨this.1.1.1, this.1.1.2⟩, this.1.2, this.2⟩
 · rcases h3 with (h3 | h3) | h3
   · exact .inl h3
   · exact .inr (.inl h3)
   · exact .inr (.inr h3)
theorem edgeMask_spec {acc : List Nat} {p : Nat} : ∀ {es : List Edge}, (edgeMask acc es).testBit p = true → ∃ e ∈ es, Region.binds .any e = true ∧ (e.on = p ∨ (acc.getD e.on 0).testBit p = true)
 | [], h => by simp [edgeMask] at h
 | e :: r, h => by
  unfold edgeMask at h
  split at h
  · rename_i hb
    simp only [Nat.testBit_or, Bool.or_eq_true] at h
    rcases h with (h | h) | h
    · refine ⟨e, List.mem_cons_self .., hb, .inl ?_⟩
      rw [Nat.testBit_two_pow] at h
      simpa using h
    · exact ⟨e, List.mem_cons_self .., hb, .inr h⟩
    · obtain ⟨e', he, hx⟩ := edgeMask_spec h
      exact ⟨e', List.mem_cons_of_mem _ he, hx⟩
  · obtain ⟨e', he, hx⟩ := edgeMask_spec h
    exact ⟨e', List.mem_cons_of_mem _ he, hx⟩
theorem masks_pre : ∀ (l : List Oper) (acc : List Nat), ∃ t, masks acc l = acc ++ t ∧ t.length = l.length
 | [], acc => ⟨[], by simp [masks]⟩
 | o :: r, acc => by
  obtain ⟨t, h1, h2⟩ := masks_pre r (acc ++ [edgeMask acc o.after.toList])
  exact ⟨edgeMask acc o.after.toList :: t, by simp [masks, h1], by simp [h2]⟩
theorem masks_get : ∀ (l : List Oper) (acc : List Nat) (i : Nat) o, l[i]? = some o → (masks acc l)[acc.length + i]? = some (edgeMask ((masks acc l).take (acc.length + i)) o.after.toList)
 | [], acc, i, o, h => by simp at h
 | o0 :: r, acc, 0, o, h => by
  simp at h; subst h
  simp only [masks]
  obtain ⟨t, h1, _⟩ := masks_pre r (acc ++ [edgeMask acc o0.after.toList])
  rw [h1]; simp
 | o0 :: r, acc, i + 1, o, h => by
  simp only [masks]
  have := masks_get r (acc ++ [edgeMask acc o0.after.toList]) i o (by simpa using h)
  simp only [List.length_append, List.length_singleton] at this
  rw [show acc.length + 1 + i = acc.length + (i + 1) by omega] at this
  exact this
structure DrawOk (cx : Cx) (ops : Array Oper) : Prop where
 foot : ∀ (i : Nat) o, ops[i]? = some o → ∃ fo, footOf cx ops.toList o = some fo
 topo : ∀ (i : Nat) o, ops[i]? = some o → ∀ e ∈ o.after, Region.binds .any e = true → e.on < i
 row : ∀ (i p : Nat) o po fo fp, ops[i]? = some o → p < i → ops[p]? = some po → footOf cx ops.toList o = some fo → footOf cx ops.toList po = some fp →
  ((masks [] ops.toList).getD i 0).testBit p = true ∨ commB ops po o fp fo = true
theorem rowB_get {ops : Array Oper} {o : Oper} {fo : Foot} {m : Nat} : ∀ {l : List (Oper × Option Foot)} {p0 : Nat}, rowB ops o fo m p0 l = true → ∀ (j : Nat) po fpo, l[j]? = some (po, fpo) → ∃ fp, fpo = some fp ∧ (m.testBit (p0 + j) = true ∨ commB ops po o fp fo = true)
 | [], p0, _, j, po, fpo, h => by simp at h
 | (po0, some fp0) :: r, p0, h, j, po, fpo, hj => by
  simp only [rowB, Bool.and_eq_true, Bool.or_eq_true] at h
  cases j with
  | zero => simp at hj; obtain ⟨rfl, rfl⟩ := hj; exact ⟨fp0, rfl, h.1⟩
  | succ j =>
   obtain ⟨fp, h1, h2⟩ := rowB_get h.2 j po fpo (by simpa using hj)
   exact ⟨fp, h1, by rwa [show p0 + (j + 1) = p0 + 1 + j by omega]⟩
 | (_, none) :: r, p0, h, j, po, fpo, hj => by simp [rowB] at h
theorem rowsB_get {ops : Array Oper} {fs : List (Oper × Option Foot)} : ∀ {l : List (Oper × Option Foot)} {ms : List Nat} {i0 : Nat}, rowsB ops fs i0 l ms = true → ∀ (j : Nat) o fo', l[j]? = some (o, fo') →
 ∃ fo m, fo' = some fo ∧ ms[j]? = some m ∧ (o.after.toList.all fun e => !(Region.binds .any e) || Nat.blt e.on (i0 + j)) = true ∧ rowB ops o fo m 0 (fs.take (i0 + j)) = true
 | [], ms, i0, _, j, o, fo', h => by simp at h
 | (o0, some fo0) :: r, [], i0, h, j, o, fo', hj => by simp [rowsB] at h
 | (o0, some fo0) :: r, m :: ms, i0, h, j, o, fo', hj => by
  simp only [rowsB, Bool.and_eq_true] at h
  cases j with
  | zero => simp at hj; obtain ⟨rfl, rfl⟩ := hj; exact ⟨fo0, m, rfl, rfl, h.1, h.2.1⟩
  | succ j =>
   obtain ⟨fo, m', h1, h2, h3, h4⟩ := rowsB_get h.2.2 j o fo' (by simpa using hj)
   rw [show i0 + 1 + j = i0 + (j + 1) by omega] at h3 h4
   exact ⟨fo, m', h1, by simpa using h2, h3, h4⟩
 | (_, none) :: r, ms, i0, h, j, o, fo', hj => by cases ms <;> simp [rowsB] at h
theorem okDraw_spec {ops : Array Oper} (h : okDraw cx ops = true) : DrawOk cx ops := by
 unfold okDraw at h
 have get : ∀ (i : Nat) o, ops[i]? = some o → (ops.toList.map fun o => (o, footOf cx ops.toList o))[i]? = some (o, footOf cx ops.toList o) := by
  intro i o hi; simp [hi]
 refine ⟨fun i o hi => ?_, fun i o hi e he hb => ?_, fun i p o po fo fp hi hp hpo hfo hfp => ?_⟩
 · obtain ⟨fo, _, h1, _⟩ := rowsB_get h i o _ (get i o hi)
   exact ⟨fo, h1⟩
 · obtain ⟨fo, _, _, _, h3, _⟩ := rowsB_get h i o _ (get i o hi)
   have := List.all_eq_true.1 h3 e (Array.mem_toList_iff.2 he)
   simp only [hb, Bool.not_true, Bool.false_or, Nat.zero_add] at this
   exact Nat.le_of_ble_eq_true this
 · obtain ⟨fo', m, h1, h2, _, h4⟩ := rowsB_get h i o _ (get i o hi)
   rw [hfo] at h1; cases h1
   have hpt : ((ops.toList.map fun o => (o, footOf cx ops.toList o)).take (0 + i))[p]? = some (po, footOf cx ops.toList po) := by
    rw [List.getElem?_take, if_pos (by omega)]; exact get p po hpo
   obtain ⟨fp', h5, h6⟩ := rowB_get h4 p po _ hpt
   rw [hfp] at h5; cases h5
   rw [Nat.zero_add] at h6
   rcases h6 with h6 | h6
   · left; simp only [List.getD, h2]; exact h6
   · exact .inr h6
def seqI (cx : Cx) (hc : FuncId → List D → Sto → (D → Sto → Option R) → Option R) (ops : Array Oper) : List Nat → St → (St → Option R) → Option R
 | [], st, k => k st
 | i :: r, st, k => match ops[i]? with
  | some o => gOp cx hc ops o st fun st' => seqI cx hc ops r st' k
  | none => seqI cx hc ops r st k
theorem evOps_seqI {ops : Array Oper} {k : St → Option R} : ∀ (l : List Oper) (n : Nat) (st : St), (∀ (j : Nat), ops[n + j]? = l[j]?) → evOps cx hc ops l st k = seqI cx hc ops (List.range' n l.length) st k
 | [], n, st, _ => rfl
 | o :: r, n, st, h => by
  have h0 : ops[n]? = some o := by simpa using h 0
  have ih : ∀ st, evOps cx hc ops r st k = seqI cx hc ops (List.range' (n + 1) r.length) st k := fun st => evOps_seqI r (n + 1) st (fun j => by
   have := h (j + 1)
   rw [show n + (j + 1) = n + 1 + j by omega] at this
   simpa using this)
  simp only [evOps, List.length_cons, List.range'_succ, seqI, h0, ih]
theorem gOp_some {ops : Array Oper} {o : Oper} {f : Foot} (hb : BndOk cx hc) (ho : footOf cx ops.toList o = some f) {st : St} {k : St → Option R} {r : R} (h : gOp cx hc ops o st k = some r) :
 ∃ st', k st' = some r ∧ ∀ k, gOp cx hc ops o st k = k st' := by
 obtain ⟨s, hs, _⟩ := (gOp_foot (footOf_ok hb ho) (foot_ac ho)).nf st
 cases s with
 | none => rw [hs] at h; cases h
 | some st' => rw [hs] at h; exact ⟨st', h, fun k => hs k⟩
theorem pull {ops : Array Oper} (hb : BndOk cx hc) {i : Nat} {o : Oper} {fo : Foot} (hi : ops[i]? = some o) (ho : footOf cx ops.toList o = some fo) {post : List Nat} {k : St → Option R} {r : R} :
 ∀ (pre : List Nat), (∀ p, p ∈ pre → ∀ po, ops[p]? = some po → ∃ fp, footOf cx ops.toList po = some fp ∧ commB ops po o fp fo = true) → ∀ st, seqI cx hc ops (pre ++ i :: post) st k = some r →
  gOp cx hc ops o st (fun st' => seqI cx hc ops (pre ++ post) st' k) = some r
 | [], _, st, h => by simpa [seqI, hi] using h
 | p :: pre, hp, st, h => by
  have hp' := fun q hq => hp q (List.mem_cons_of_mem _ hq)
  simp only [List.cons_append, seqI] at h ⊢
  cases hpo : ops[p]? with
  | none =>
   simp only [hpo] at h ⊢
   exact pull hb hi ho pre hp' st h
  | some po =>
   simp only [hpo] at h ⊢
   obtain ⟨fp, hfp, hcm⟩ := hp p (List.mem_cons_self ..) po hpo
   obtain ⟨st1, h1, h2⟩ := gOp_some hb hfp h
   have h3 := pull hb hi ho pre hp' st1 h1
   refine comm_swap hb hfp ho hcm ?_
   rw [h2]
   exact h3
def rem (n : Nat) (listed : Array Bool) : List Nat := (List.range n).filter fun i => !listed.getD i true
theorem mem_rem {n i : Nat} {listed : Array Bool} : i ∈ rem n listed ↔ i < n ∧ listed.getD i true = false := by
 simp [rem]
theorem rem_split {n i : Nat} {listed : Array Bool} (hi : i < n) (hl : listed.getD i true = false) (hs : listed.size = n) :
 ∃ pre post, rem n listed = pre ++ i :: post ∧ rem n (listed.setIfInBounds i true) = pre ++ post ∧ ∀ p, p ∈ pre → p < i ∧ listed.getD p true = false := by
 obtain ⟨m, rfl⟩ : ∃ m, n = i + (1 + m) := ⟨n - i - 1, by omega⟩
 let fl : Nat → Bool := fun i => !listed.getD i true
 have hr : List.range (i + (1 + m)) = List.range i ++ i :: (List.range m).map (fun x => i + (1 + x)) := by
  rw [List.range_add, List.range_add]
  simp [List.map_map, Function.comp_def]
 refine ⟨(List.range i).filter fl, ((List.range m).map (fun x => i + (1 + x))).filter fl, ?_, ?_, fun p hp => ?_⟩
 · unfold rem
   rw [hr, List.filter_append, List.filter_cons]
   simp only [hl, Bool.not_false, if_true]
   rfl
 · unfold rem
   rw [hr, List.filter_append, List.filter_cons]
   have h1 : (!(listed.setIfInBounds i true).getD i true) = false := by
    have : i < listed.size := by omega
    simp [this]
   rw [h1]
   simp only [Bool.false_eq_true, if_false]
   congr 1
   · refine List.filter_congr (fun x hx => ?_)
     have : i ≠ x := by have := List.mem_range.1 hx; omega
     simp only [fl, getD_set_ne true this]
   · refine List.filter_congr (fun x hx => ?_)
     obtain ⟨y, _, rfl⟩ := List.mem_map.1 hx
     have : i ≠ i + (1 + y) := by omega
     simp only [fl, getD_set_ne true this]
 · simp only [List.mem_filter, List.mem_range, fl, Bool.not_eq_true'] at hp
   exact hp
def Closed (ops : Array Oper) (listed : Array Bool) : Prop :=
 ∀ (i : Nat) o, ops[i]? = some o → listed.getD i false = true → ∀ e ∈ o.after, Region.binds .any e = true → listed.getD e.on false = true
theorem anc_listed {ops : Array Oper} {listed : Array Bool} (hcl : Closed ops listed) : ∀ (i : Nat) o, ops[i]? = some o → (∀ e ∈ o.after, Region.binds .any e = true → listed.getD e.on false = true) →
 ∀ p, ((masks [] ops.toList).getD i 0).testBit p = true → listed.getD p false = true := by
 intro i
 induction i using Nat.strongRecOn with
 | _ i ih =>
  intro o hi hready p hp
  have hm := masks_get ops.toList [] i o (by simpa using hi)
  simp only [List.length_nil, Nat.zero_add] at hm
  rw [List.getD, hm, Option.getD_some] at hp
  obtain ⟨e, he, hb, h⟩ := edgeMask_spec hp
  have hle := hready e (Array.mem_toList_iff.1 he) hb
  rcases h with h | h
  · exact h ▸ hle
  · have hlt : e.on < i := by
     rcases Nat.lt_or_ge e.on i with h' | h'
     · exact h'
     · exfalso
       rw [List.getD, List.getElem?_eq_none (by simp only [List.length_take]; omega)] at h
       simp at h
    rw [List.getD, List.getElem?_take, if_pos hlt] at h
    cases ho : ops[e.on]? with
    | none =>
     exfalso
     have h1 : i < ops.size := (Array.getElem?_eq_some_iff.1 hi).1
     have h2 : ops.size ≤ e.on := by simpa using ho
     omega
    | some oe => exact ih e.on hlt oe ho (hcl e.on oe ho hle) p h
theorem any_sound (hcx : CxOk P X cx) (hok : HcOk P X hc) (hb : BndOk cx hc) {ops : Array Oper} (hd : DrawOk cx ops) {Q : Exit → Act → World → Prop} {k : St → Option R} {r : R} {g0 : Gh} {w0 : World}
 (hq : ∀ a' w' g' env' sto', k ⟨env', sto'⟩ = some r → Sim X g' w' env' a'.tmps.toList sto' → Ext g0 w0 g' w' → a'.defers = [] → Q .normal a' w') :
 ∀ (fuel : Nat) (listed : Array Bool) (env : List D) (sto : Sto) (a : Act) (w : World) (g : Gh), Closed ops listed → listed.size = ops.size → (rem ops.size listed).length ≤ fuel → seqI cx hc ops (rem ops.size listed) ⟨env, sto⟩ k = some r →
  Sim X g w env a.tmps.toList sto → Ext g0 w0 g w → a.defers = [] → wpAny P .any ops Q fuel listed a w := by
 have done : ∀ (listed : Array Bool) (env : List D) (sto : Sto) (a : Act) (w : World) (g : Gh), listed.size = ops.size → Region.ready .any ops listed = [] → seqI cx hc ops (rem ops.size listed) ⟨env, sto⟩ k = some r →
  Sim X g w env a.tmps.toList sto → Ext g0 w0 g w → a.defers = [] → Q .normal a w := by
  intro listed env sto a w g hsz hr h hs e hdf
  cases hrem : rem ops.size listed with
  | nil => rw [hrem] at h; exact hq _ _ _ _ _ h hs e hdf
  | cons i rest =>
   exfalso
   have hi := mem_rem.1 (show i ∈ rem ops.size listed by rw [hrem]; exact List.mem_cons_self ..)
   have hmin : ∀ j, j < i → listed.getD j false = true := by
    intro j hj
    cases hlj : listed.getD j true with
    | true =>
     have : j < listed.size := by omega
     simp only [Array.getD, this, dif_pos] at hlj ⊢
     exact hlj
    | false =>
     exfalso
     obtain ⟨pre, post, h1, _, h3⟩ := rem_split hi.1 hi.2 hsz
     have hjm : j ∈ rem ops.size listed := mem_rem.2 ⟨by omega, hlj⟩
     rw [h1] at hrem
     cases pre with
     | cons p pre =>
      simp only [List.cons_append, List.cons.injEq] at hrem
      have := (h3 p (List.mem_cons_self ..)).1
      omega
     | nil =>
      have hsorted : (rem ops.size listed).Pairwise (· < ·) := List.Pairwise.filter _ List.pairwise_lt_range
      rw [h1] at hjm hsorted
      simp only [List.nil_append, List.mem_cons] at hjm hsorted
      rcases hjm with rfl | hjm
      · omega
      · have := (List.pairwise_cons.1 hsorted).1 j hjm; omega
   have hio : ops[i]? = some ops[i] := by simp [hi.1]
   have : i ∈ Region.ready .any ops listed := mem_ready.2 ⟨hi.2, ops[i], hio, fun e he hbd => hmin e.on (hd.topo i _ hio e he hbd)⟩
   rw [hr] at this; cases this
 intro fuel
 induction fuel with
 | zero =>
  intro listed env sto a w g hcl hsz hf h hs e hdf
  have h0 : rem ops.size listed = [] := List.eq_nil_of_length_eq_zero (by omega)
  have hr : Region.ready .any ops listed = [] := by
   cases hr : Region.ready .any ops listed with
   | nil => rfl
   | cons i rest =>
    have hi : i ∈ Region.ready .any ops listed := by rw [hr]; exact List.mem_cons_self ..
    obtain ⟨h1, o, ho, _⟩ := mem_ready.1 hi
    have : i ∈ rem ops.size listed := mem_rem.2 ⟨(Array.getElem?_eq_some_iff.1 ho).1, h1⟩
    rw [h0] at this; cases this
  exact ⟨hr, done listed env sto a w g hsz hr h hs e hdf⟩
 | succ fuel ih =>
  intro listed env sto a w g hcl hsz hf h hs e hdf
  refine ⟨fun hr => done listed env sto a w g hsz hr h hs e hdf, fun i hi => ?_⟩
  obtain ⟨h1, o, ho, hedges⟩ := mem_ready.1 hi
  have hlt : i < ops.size := (Array.getElem?_eq_some_iff.1 ho).1
  obtain ⟨pre, post, hr1, hr2, hpre⟩ := rem_split hlt h1 hsz
  obtain ⟨fo, hfo⟩ := hd.foot i o ho
  have hanc := anc_listed hcl i o ho hedges
  rw [hr1] at h hf
  have hp := pull hb ho hfo pre (fun p hp po hpo => by
   obtain ⟨fp, hfp⟩ := hd.foot p po hpo
   obtain ⟨hpi, hpl⟩ := hpre p hp
   rcases hd.row i p o po fo fp ho hpi hpo hfo hfp with hx | hx
   · exfalso
     have h5 := hanc p hx
     have : p < listed.size := by omega
     simp only [Array.getD, this, dif_pos] at h5 hpl
     rw [h5] at hpl; cases hpl
   · exact ⟨fp, hfp, hx⟩) _ h
  unfold wpOp
  rw [ho]
  refine gOp_sound hcx hok hp hs hdf (fun a' w' g' env' sto' hk hs' he hd' => ?_)
  refine ih (listed.setIfInBounds i true) env' sto' a' w' g' ?_ (by simp [hsz]) (by rw [hr2]; simp at hf ⊢; omega) (by rw [hr2]; exact hk) hs' (e.trans he) hd'
  intro j oj hoj hlj e' he' hbd
  by_cases hij : i = j
  · subst hij
    rw [ho] at hoj; cases hoj
    exact getD_set_true (hedges e' he' hbd)
  · rw [getD_set_ne false hij] at hlj
    exact getD_set_true (hcl j oj hoj hlj e' he' hbd)
end
end Go.Ev
namespace Go.Ev
section
variable {R : Type} {cx : Cx}
def HcNF (hc : FuncId → List D → Sto → (D → Sto → Option R) → Option R) : Prop :=
 ∀ f args sto, ∃ s : Option (D × Sto), ∀ K, hc f args sto K = s.bind fun p => K p.1 p.2
variable {hc : FuncId → List D → Sto → (D → Sto → Option R) → Option R}
theorem evOp_det0 (hb : BndOk cx hc) (hn : HcNF hc) (all : List Oper) (o : Oper) (st : St) : ∃ s : Option St, ∀ k, evOp cx hc all o st k = s.bind k := by
 cases hf : footOf0 cx all o with
 | some f =>
  obtain ⟨s, hs, _⟩ := (footOf0_ok hb hf).nf st
  exact ⟨s, hs⟩
 | none =>
  obtain ⟨dst, op, ty, pos, after, guard⟩ := o
  cases op with
  | call c =>
   obtain ⟨callee, args, ats⟩ := c
   cases callee with
   | value fo =>
    unfold evOp
    simp only
    cases hr : rd st.env fo with
    | fn f caps =>
     simp only
     cases callOk cx fo f args.toList with
     | false => exact ⟨none, fun _ => rfl⟩
     | true =>
     obtain ⟨s, hs⟩ := hn f ((argsOf st.env ((look cx.want f).getD []) 0 args.toList).1 ++ caps.map D.dup) st.sto
     refine ⟨s.map fun p => { env := put (argsOf st.env ((look cx.want f).getD []) 0 args.toList).2 dst p.1, sto := p.2 }, fun k => ?_⟩
     rw [hs]
     cases s <;> rfl
    | _ => exact ⟨none, fun _ => rfl⟩
   | builtin b =>
    cases b <;> first
     | exact ⟨none, fun _ => rfl⟩
     | (simp [footOf0, footOf1] at hf; done)
   | _ => exact ⟨none, fun _ => rfl⟩
  | move x => unfold footOf0 at hf; simp only at hf; split at hf <;> cases hf
  | load t a => unfold footOf0 at hf; simp only at hf; split at hf <;> cases hf
  | _ => first
   | exact ⟨none, fun _ => rfl⟩
   | (simp [footOf0, footOf1] at hf; done)
theorem evOp_det (hb : BndOk cx hc) (hn : HcNF hc) (all : List Oper) (o : Oper) (st : St) : ∃ s : Option St, ∀ k, evOpN cx hc all o st k = s.bind k := by
 unfold evOpN
 split
 · exact evOp_det0 hb hn all o st
 · split
   · rename_i F hF
     obtain ⟨s, hs, _⟩ := xV_vb hF
     refine ⟨s.map fun p => ⟨put (xL o st.env) o.dst p.1, p.2⟩, fun k => ?_⟩
     rw [hs]; cases s <;> rfl
   · exact evOp_det0 hb hn all o st
theorem gOp_det (hb : BndOk cx hc) (hn : HcNF hc) (ops : Array Oper) (o : Oper) (st : St) : ∃ s : Option St, ∀ k, gOp cx hc ops o st k = s.bind k := by
 unfold gOp guardK
 cases hg : o.guard with
 | none => exact evOp_det hb hn _ _ _
 | some p =>
  obtain ⟨j, want⟩ := p
  simp only
  cases hd : dstOf ops j with
  | none => exact ⟨none, fun _ => rfl⟩
  | some d =>
   simp only
   cases st.env.getD d .any with
   | bool b =>
    cases b <;> cases want <;> first | exact ⟨some _, fun _ => rfl⟩ | exact evOp_det hb hn ops.toList o _
   | tup cs => cases cs with
    | nil => exact ⟨some _, fun _ => rfl⟩
    | cons _ _ => exact ⟨none, fun _ => rfl⟩
   | _ => exact ⟨none, fun _ => rfl⟩
def extsGo (ops : Array Oper) : Nat → Array Bool → List (List Nat)
 | 0, _ => [[]]
 | n + 1, listed => match Region.ready .any ops listed with
  | [] => [[]]
  | i :: rs => (i :: rs).flatMap fun i => (extsGo ops n (listed.setIfInBounds i true)).map (i :: ·)
def exts (ops : Array Oper) : List (List Nat) := extsGo ops ops.size (Array.replicate ops.size false)
variable {P : Program} {X : Cfg}
theorem extsGo_ne (ops : Array Oper) : ∀ (n : Nat) (listed : Array Bool), ∃ l, l ∈ extsGo ops n listed
 | 0, _ => ⟨[], by simp [extsGo]⟩
 | n + 1, listed => by
  unfold extsGo
  cases Region.ready .any ops listed with
  | nil => exact ⟨[], by simp⟩
  | cons i rs =>
   obtain ⟨l, hl⟩ := extsGo_ne ops n (listed.setIfInBounds i true)
   exact ⟨i :: l, by simp [hl]⟩
open Classical in
theorem all_sound (hcx : CxOk P X cx) (hok : HcOk P X hc) (hb : BndOk cx hc) (hn : HcNF hc) {ops : Array Oper} {Q : Exit → Act → World → Prop} {k : St → Option R} {r : R} {g0 : Gh} {w0 : World}
 (hq : ∀ a' w' g' env' sto', k ⟨env', sto'⟩ = some r → Sim X g' w' env' a'.tmps.toList sto' → Ext g0 w0 g' w' → a'.defers = [] → Q .normal a' w') :
 ∀ (fuel : Nat) (listed : Array Bool) (env : List D) (sto : Sto) (a : Act) (w : World) (g : Gh), listed.size = ops.size → (rem ops.size listed).length ≤ fuel → (∀ l, l ∈ extsGo ops fuel listed → seqI cx hc ops l ⟨env, sto⟩ k = some r) →
  Sim X g w env a.tmps.toList sto → Ext g0 w0 g w → a.defers = [] → wpAny P .any ops Q fuel listed a w := by
 intro fuel
 induction fuel with
 | zero =>
  intro listed env sto a w g hsz hf hall hs e hd
  have h0 : rem ops.size listed = [] := List.eq_nil_of_length_eq_zero (by omega)
  have hr : Region.ready .any ops listed = [] := by
   cases hr : Region.ready .any ops listed with
   | nil => rfl
   | cons i rest =>
    have hi : i ∈ Region.ready .any ops listed := by rw [hr]; exact List.mem_cons_self ..
    obtain ⟨h1, o, ho, _⟩ := mem_ready.1 hi
    have : i ∈ rem ops.size listed := mem_rem.2 ⟨(Array.getElem?_eq_some_iff.1 ho).1, h1⟩
    rw [h0] at this; cases this
  exact ⟨hr, hq _ _ _ _ _ (hall [] (by simp [extsGo])) hs e hd⟩
 | succ fuel ih =>
  intro listed env sto a w g hsz hf hall hs e hd
  unfold extsGo at hall
  cases hr : Region.ready .any ops listed with
  | nil =>
   rw [hr] at hall
   refine ⟨fun _ => hq _ _ _ _ _ (hall [] (by simp)) hs e hd, fun i hi => ?_⟩
   rw [hr] at hi; cases hi
  | cons i0 rs =>
   rw [hr] at hall
   refine ⟨fun h => (by rw [hr] at h; cases h), fun i hi => ?_⟩
   obtain ⟨h1, o, ho, _⟩ := mem_ready.1 hi
   have hlt : i < ops.size := (Array.getElem?_eq_some_iff.1 ho).1
   obtain ⟨pre, post, hr1, hr2, _⟩ := rem_split hlt h1 hsz
   rw [hr] at hi
   have hsub : ∀ l, l ∈ extsGo ops fuel (listed.setIfInBounds i true) → seqI cx hc ops (i :: l) ⟨env, sto⟩ k = some r := fun l hl =>
    hall _ (List.mem_flatMap.2 ⟨i, hi, List.mem_map.2 ⟨l, hl, rfl⟩⟩)
   obtain ⟨s, hdet⟩ := gOp_det hb hn ops o ⟨env, sto⟩
   have hseq : ∀ l, l ∈ extsGo ops fuel (listed.setIfInBounds i true) → s.bind (fun st' => seqI cx hc ops l st' k) = some r := fun l hl => by
    have := hsub l hl
    simp only [seqI, ho] at this
    rw [hdet] at this; exact this
   cases hsome : s with
   | none =>
    obtain ⟨l, hl⟩ := extsGo_ne ops fuel (listed.setIfInBounds i true)
    have := hseq l hl
    rw [hsome] at this; cases this
   | some st1 =>
    have hK : gOp cx hc ops o ⟨env, sto⟩ (fun st' => if st' = st1 then some r else none) = some r := by
     rw [hdet, hsome]; simp
    unfold wpOp
    rw [ho]
    refine gOp_sound hcx hok hK hs hd (fun a' w' g' env' sto' hk hs' he hd' => ?_)
    have hst : (⟨env', sto'⟩ : St) = st1 := by
     by_cases hh : (⟨env', sto'⟩ : St) = st1
     · exact hh
     · rw [if_neg hh] at hk; cases hk
    refine ih (listed.setIfInBounds i true) env' sto' a' w' g' (by simp [hsz]) (by rw [hr2]; rw [hr1] at hf; simp at hf ⊢; omega) (fun l hl => ?_) hs' (e.trans he) hd'
    have := hseq l hl
    rw [hsome] at this
    rw [hst]; exact this
end
end Go.Ev
namespace Go.Ev
section
variable {R : Type} {cx : Cx} {hc : FuncId → List D → Sto → (D → Sto → Option R) → Option R}
def freeB (ops : Array Oper) (fs : List (Option Foot)) (ms : List Nat) (listed : Array Bool) (i : Nat) : Bool :=
 (List.range ops.size).all fun p => listed.getD p true || (Nat.beq p i || ((ms.getD p 0).testBit i || match ops[i]?, ops[p]?, fs.getD i none, fs.getD p none with
  | some o, some po, some fo, some fp => commB ops o po fo fp
  | _, _, _, _ => false))
def repsGo (ops : Array Oper) (fs : List (Option Foot)) (ms : List Nat) : Nat → Array Bool → List (List Nat)
 | 0, _ => [[]]
 | n + 1, listed => match Region.ready .any ops listed with
  | [] => [[]]
  | i :: rs => match (i :: rs).find? (freeB ops fs ms listed) with
   | some j => (repsGo ops fs ms n (listed.setIfInBounds j true)).map (j :: ·)
   | none => (i :: rs).flatMap fun i => (repsGo ops fs ms n (listed.setIfInBounds i true)).map (i :: ·)
def reps (cx : Cx) (ops : Array Oper) : List (List Nat) := repsGo ops (ops.toList.map (footOf cx ops.toList)) (masks [] ops.toList) ops.size (Array.replicate ops.size false)
def LinExt (ops : Array Oper) : Array Bool → List Nat → Prop
 | listed, [] => Region.ready .any ops listed = []
 | listed, i :: l => i ∈ Region.ready .any ops listed ∧ LinExt ops (listed.setIfInBounds i true) l
theorem ext_lin {ops : Array Oper} : ∀ (n : Nat) (listed : Array Bool) (l : List Nat), listed.size = ops.size → (rem ops.size listed).length ≤ n → l ∈ extsGo ops n listed → LinExt ops listed l
 | 0, listed, l, hsz, hf, hl => by
  have h0 : rem ops.size listed = [] := List.eq_nil_of_length_eq_zero (by omega)
  have hr : Region.ready .any ops listed = [] := by
   cases hr : Region.ready .any ops listed with
   | nil => rfl
   | cons i rest =>
    have hi : i ∈ Region.ready .any ops listed := by rw [hr]; exact List.mem_cons_self ..
    obtain ⟨h1, o, ho, _⟩ := mem_ready.1 hi
    have : i ∈ rem ops.size listed := mem_rem.2 ⟨(Array.getElem?_eq_some_iff.1 ho).1, h1⟩
    rw [h0] at this; cases this
  simp only [extsGo, List.mem_singleton] at hl
  subst hl
  exact hr
 | n + 1, listed, l, hsz, hf, hl => by
  unfold extsGo at hl
  cases hr : Region.ready .any ops listed with
  | nil =>
   rw [hr] at hl
   simp only [List.mem_singleton] at hl
   subst hl
   exact hr
  | cons i0 rs =>
   rw [hr] at hl
   obtain ⟨i, hi, hl⟩ := List.mem_flatMap.1 hl
   obtain ⟨l1, hl1, rfl⟩ := List.mem_map.1 hl
   rw [← hr] at hi
   obtain ⟨h1, o, ho, _⟩ := mem_ready.1 hi
   obtain ⟨pre, post, hr1, hr2, _⟩ := rem_split (Array.getElem?_eq_some_iff.1 ho).1 h1 hsz
   exact ⟨hi, ext_lin n _ l1 (by simp [hsz]) (by rw [hr2]; rw [hr1] at hf; simp at hf ⊢; omega) hl1⟩
theorem closed_set {ops : Array Oper} {listed : Array Bool} (hcl : Closed ops listed) {i : Nat} {o : Oper} (ho : ops[i]? = some o) (hedges : ∀ e ∈ o.after, Region.binds .any e = true → listed.getD e.on false = true) : Closed ops (listed.setIfInBounds i true) := by
 intro j oj hoj hlj e' he' hbd
 by_cases hij : i = j
 · subst hij
   rw [ho] at hoj; cases hoj
   exact getD_set_true (hedges e' he' hbd)
 · rw [getD_set_ne false hij] at hlj
   exact getD_set_true (hcl j oj hoj hlj e' he' hbd)
theorem ready_set {ops : Array Oper} {listed : Array Bool} {i j : Nat} (hij : i ≠ j) (hj : j ∈ Region.ready .any ops listed) : j ∈ Region.ready .any ops (listed.setIfInBounds i true) := by
 obtain ⟨h1, o, ho, he⟩ := mem_ready.1 hj
 exact mem_ready.2 ⟨by rw [getD_set_ne true hij]; exact h1, o, ho, fun e h hb => getD_set_true (he e h hb)⟩
theorem lin_remove {ops : Array Oper} {i : Nat} : ∀ (l : List Nat) (listed : Array Bool), listed.size = ops.size → Closed ops listed → LinExt ops listed l → i ∈ Region.ready .any ops listed →
 ∃ pre post, l = pre ++ i :: post ∧ LinExt ops (listed.setIfInBounds i true) (pre ++ post) ∧ ∀ p, p ∈ pre → p ≠ i ∧ listed.getD p true = false ∧ p < ops.size ∧ ((masks [] ops.toList).getD p 0).testBit i = false
 | [], listed, _, _, h, hi => by rw [show Region.ready .any ops listed = [] from h] at hi; cases hi
 | j :: l1, listed, hsz, hcl, h, hi => by
  obtain ⟨hj, hl1⟩ := h
  by_cases hij : j = i
  · subst hij
    exact ⟨[], l1, rfl, hl1, fun p hp => by cases hp⟩
  · obtain ⟨h1, o, ho, he⟩ := mem_ready.1 hj
    obtain ⟨hi1, oi, hoi, hie⟩ := mem_ready.1 hi
    have hilt : i < ops.size := (Array.getElem?_eq_some_iff.1 hoi).1
    have hjlt : j < ops.size := (Array.getElem?_eq_some_iff.1 ho).1
    obtain ⟨pre, post, e1, e2, e3⟩ := lin_remove l1 (listed.setIfInBounds j true) (by simp [hsz]) (closed_set hcl ho he) hl1 (ready_set hij hi)
    refine ⟨j :: pre, post, by rw [e1]; rfl, ⟨ready_set (Ne.symm hij) hj, ?_⟩, fun p hp => ?_⟩
    · have : (listed.setIfInBounds i true).setIfInBounds j true = (listed.setIfInBounds j true).setIfInBounds i true := Array.setIfInBounds_comm _ _ (Ne.symm hij)
      rw [this]; exact e2
    · rcases List.mem_cons.1 hp with rfl | hp
      · refine ⟨hij, h1, hjlt, ?_⟩
        cases hb : ((masks [] ops.toList).getD p 0).testBit i with
        | false => rfl
        | true =>
         have h5 := anc_listed hcl p o ho he i hb
         have : i < listed.size := by omega
         simp only [Array.getD, this, dif_pos] at h5 hi1
         rw [h5] at hi1; cases hi1
      · obtain ⟨f1, f2, f3, f4⟩ := e3 p hp
        refine ⟨f1, ?_, f3, f4⟩
        by_cases hpj : j = p
        · subst hpj
          have : j < listed.size := by omega
          simp [Array.getD, this] at f2
        · rwa [getD_set_ne true hpj] at f2
theorem push {ops : Array Oper} (hb : BndOk cx hc) {i : Nat} {o : Oper} {fo : Foot} (hi : ops[i]? = some o) (ho : footOf cx ops.toList o = some fo) {post : List Nat} {k : St → Option R} {r : R} :
 ∀ (pre : List Nat), (∀ p, p ∈ pre → ∃ po fp, ops[p]? = some po ∧ footOf cx ops.toList po = some fp ∧ commB ops o po fo fp = true) → ∀ st, seqI cx hc ops (i :: (pre ++ post)) st k = some r →
  seqI cx hc ops (pre ++ i :: post) st k = some r
 | [], _, st, h => h
 | p :: pre, hp, st, h => by
  have hp' := fun q hq => hp q (List.mem_cons_of_mem _ hq)
  obtain ⟨po, fp, hpo, hfp, hcm⟩ := hp p (List.mem_cons_self ..)
  simp only [List.cons_append, seqI, hi, hpo] at h ⊢
  have h2 := comm_swap hb ho hfp hcm h
  obtain ⟨st1, h3, h4⟩ := gOp_some hb hfp h2
  rw [h4]
  refine push hb hi ho pre hp' st1 ?_
  simp only [seqI, hi]
  exact h3
theorem reps_lin (hb : BndOk cx hc) (hn : HcNF hc) {ops : Array Oper} {k : St → Option R} {r : R} : ∀ (n : Nat) (listed : Array Bool) (l : List Nat) (st : St), listed.size = ops.size → Closed ops listed → LinExt ops listed l → (rem ops.size listed).length ≤ n →
 (∀ l', l' ∈ repsGo ops (ops.toList.map (footOf cx ops.toList)) (masks [] ops.toList) n listed → seqI cx hc ops l' st k = some r) → seqI cx hc ops l st k = some r := by
 have ne : ∀ (n : Nat) (listed : Array Bool), ∃ l, l ∈ repsGo ops (ops.toList.map (footOf cx ops.toList)) (masks [] ops.toList) n listed := by
  intro n
  induction n with
  | zero => exact fun _ => ⟨[], by simp [repsGo]⟩
  | succ n ih =>
   intro listed
   unfold repsGo
   split
   · exact ⟨[], by simp⟩
   · rename_i i rs _
     split
     · rename_i j _
       obtain ⟨l, hl⟩ := ih (listed.setIfInBounds j true)
       exact ⟨j :: l, by simp [hl]⟩
     · obtain ⟨l, hl⟩ := ih (listed.setIfInBounds i true)
       exact ⟨i :: l, by simp [hl]⟩
 intro n
 induction n with
 | zero =>
  intro listed l st hsz hcl hl hf hall
  have h0 : rem ops.size listed = [] := List.eq_nil_of_length_eq_zero (by omega)
  cases l with
  | nil => exact hall [] (by simp [repsGo])
  | cons i l =>
   obtain ⟨h1, o, ho, _⟩ := mem_ready.1 hl.1
   have : i ∈ rem ops.size listed := mem_rem.2 ⟨(Array.getElem?_eq_some_iff.1 ho).1, h1⟩
   rw [h0] at this; cases this
 | succ n ih =>
  intro listed l st hsz hcl hl hf hall
  have one : ∀ (i : Nat) (l1 : List Nat), i ∈ Region.ready .any ops listed → LinExt ops (listed.setIfInBounds i true) l1 →
   (∀ l', l' ∈ repsGo ops (ops.toList.map (footOf cx ops.toList)) (masks [] ops.toList) n (listed.setIfInBounds i true) → seqI cx hc ops (i :: l') st k = some r) → seqI cx hc ops (i :: l1) st k = some r := by
   intro i l1 hi hl1 hsub
   obtain ⟨h1, o, ho, he⟩ := mem_ready.1 hi
   obtain ⟨pre, post, hr1, hr2, _⟩ := rem_split (Array.getElem?_eq_some_iff.1 ho).1 h1 hsz
   obtain ⟨s, hdet⟩ := gOp_det hb hn ops o st
   have hseq : ∀ l2, seqI cx hc ops (i :: l2) st k = s.bind fun st' => seqI cx hc ops l2 st' k := fun l2 => by
    simp only [seqI, ho]
    exact hdet _
   rw [hseq]
   cases hsome : s with
   | none =>
    obtain ⟨l', hl'⟩ := ne n (listed.setIfInBounds i true)
    have := hsub l' hl'
    rw [hseq, hsome] at this; cases this
   | some st1 =>
    refine ih (listed.setIfInBounds i true) l1 st1 (by simp [hsz]) (closed_set hcl ho he) hl1 (by rw [hr2]; rw [hr1] at hf; simp at hf ⊢; omega) fun l' hl' => ?_
    have := hsub l' hl'
    rw [hseq, hsome] at this; exact this
  unfold repsGo at hall
  cases l with
  | nil =>
   rw [show Region.ready .any ops listed = [] from hl] at hall
   exact hall [] (by simp)
  | cons j l1 =>
   cases hr : Region.ready .any ops listed with
   | nil => have := hl.1; rw [hr] at this; cases this
   | cons i0 rs =>
    rw [hr] at hall
    dsimp only at hall
    cases hfd : (i0 :: rs).find? (freeB ops (ops.toList.map (footOf cx ops.toList)) (masks [] ops.toList) listed) with
    | none =>
     rw [hfd] at hall
     refine one j l1 hl.1 hl.2 fun l' hl' => hall _ (List.mem_flatMap.2 ⟨j, by rw [← hr]; exact hl.1, List.mem_map.2 ⟨l', hl', rfl⟩⟩)
    | some i =>
     rw [hfd] at hall
     have hi : i ∈ Region.ready .any ops listed := by rw [hr]; exact List.mem_of_find?_eq_some hfd
     have hfree := List.find?_some hfd
     obtain ⟨pre, post, e1, e2, e3⟩ := lin_remove (j :: l1) listed hsz hcl hl hi
     obtain ⟨_, o, ho, _⟩ := mem_ready.1 hi
     have hilt : i < ops.size := (Array.getElem?_eq_some_iff.1 ho).1
     have h1 := one i (pre ++ post) hi e2 fun l' hl' => hall _ (List.mem_map.2 ⟨l', hl', rfl⟩)
     rw [e1]
     cases hfo : footOf cx ops.toList o with
     | none =>
      cases pre with
      | nil => exact h1
      | cons p pre =>
       exfalso
       obtain ⟨f1, f2, f3, f4⟩ := e3 p (List.mem_cons_self ..)
       have := List.all_eq_true.1 hfree p (List.mem_range.2 f3)
       have hb1 : Nat.beq p i = false := by
        cases hbq : Nat.beq p i with
        | false => rfl
        | true => exact absurd (Nat.eq_of_beq_eq_true hbq) f1
       have hfi : (ops.toList.map (footOf cx ops.toList)).getD i none = none := by
        simp [List.getD, ho, hfo]
       rw [f2, hb1, f4, hfi] at this
       simp only [Bool.false_or] at this
       generalize ops[i]? = A at this
       generalize ops[p]? = B at this
       generalize (ops.toList.map (footOf cx ops.toList)).getD p none = C at this
       cases A <;> cases B <;> cases C <;> cases this
     | some fo =>
      refine push hb ho hfo pre (fun p hp => ?_) st h1
      obtain ⟨f1, f2, f3, f4⟩ := e3 p hp
      have := List.all_eq_true.1 hfree p (List.mem_range.2 f3)
      have hb1 : Nat.beq p i = false := by
       cases hbq : Nat.beq p i with
       | false => rfl
       | true => exact absurd (Nat.eq_of_beq_eq_true hbq) f1
      have hpo : ops[p]? = some ops[p] := by simp [f3]
      have hfi : (ops.toList.map (footOf cx ops.toList)).getD i none = some fo := by simp [List.getD, ho, hfo]
      have hfp : (ops.toList.map (footOf cx ops.toList)).getD p none = footOf cx ops.toList ops[p] := by simp [List.getD, f3]
      rw [f2, hb1, f4, hfi, hfp, ho, hpo] at this
      simp only [Bool.false_or] at this
      cases hfq : footOf cx ops.toList ops[p] with
      | none => rw [hfq] at this; cases this
      | some fp => rw [hfq] at this; exact ⟨_, fp, hpo, hfq, this⟩
theorem reps_exts (hb : BndOk cx hc) (hn : HcNF hc) {ops : Array Oper} {k : St → Option R} {r : R} {st : St} (h : ∀ l, l ∈ reps cx ops → seqI cx hc ops l st k = some r) : ∀ l, l ∈ exts ops → seqI cx hc ops l st k = some r := fun l hl => by
 have hrm : (rem ops.size (Array.replicate ops.size false)).length ≤ ops.size := by unfold rem; exact Nat.le_trans (List.length_filter_le _ _) (by simp)
 refine reps_lin hb hn ops.size (Array.replicate ops.size false) l st (by simp) (fun i o ho hl => ?_) (ext_lin _ _ _ (by simp) hrm hl) hrm h
 have hlt : i < ops.size := (Array.getElem?_eq_some_iff.1 ho).1
 simp [Array.getD, hlt] at hl
end
end Go.Ev
namespace Go.Ev
section
variable {P : Program} {X : Cfg} {R : Type} {cx : Cx}
theorem take_get {φ : List Nat} {n i x : Nat} (h : φ[i]? = some x) (hu : Nat.blt i n = true) : (φ.take n)[i]? = some x := by
 have : i < n := Nat.le_of_ble_eq_true hu
 rw [List.getElem?_take, if_pos this]; exact h
theorem rep_under {φ : List Nat} {G : Nat → Nat} {w : World} {n : Nat} {d : D} {v : Value} (h : RepV X φ G w d v) : d.under n = true → RepV X (φ.take n) G w d v := by
 induction h with
 | any v => exact fun _ => .any v
 | int h => exact fun _ => .int h
 | bool b => exact fun _ => .bool b
 | str s h => exact fun _ => .str s h
 | errNil => exact fun _ => .errNil
 | errOther t v => exact fun _ => .errOther t v
 | errNum => exact fun _ => .errNum
 | errFault hp h0 h1 h2 hc ha hu ih => exact fun _ => .errFault hp h0 h1 h2 hc ha (ih rfl)
 | errJoined hp h0 h1 hx hy ihx ihy => exact fun _ => .errJoined hp h0 h1 (ihx rfl) (ihy rfl)
 | nilp => exact fun _ => .nilp
 | ptr h =>
  rename_i i off b
  intro hu
  have : i < n := Nat.le_of_ble_eq_true hu
  exact .ptr (by rw [List.getElem?_take, if_pos this]; exact h)
 | hwN h => intro hu; exact .hwN (take_get h hu)
 | hw h hn hc => intro hu; exact .hw (take_get h hu) hn hc
 | hdE => intro _; exact .hdE
 | hd h hn hc hC => intro hu; exact .hd (take_get h hu) hn hc hC
 | ep h => intro hu; exact .ep (take_get h hu)
 | box vs hp hc hcl hr ih => exact fun _ => .box vs hp hc hcl (fun j c hj => (hr j c hj).closed (hcl j c hj))
 | nils => exact fun _ => .nils
 | slNil hn => exact fun _ => .slNil hn
 | slE hm hcap hmax => exact fun _ => .slE hm hcap hmax
 | sl vs hlen hcap hmax hp hc hr ih => exact fun _ => .sl vs hlen hcap hmax hp hc (fun i x hx j c hj => (hr i x hx j c hj).closed (cells_closed _ _ _ _ hj))
 | nilf => exact fun _ => .nilf
 | fn hl hb hr ih => exact fun h => .fn hl hb (fun j c hj => ih j c hj (underL_get h j c hj))
 | agg hl hr ih => exact fun h => .agg hl (fun j c hj => ih j c hj (underL_get h j c hj))
 | tup hl hr ih => exact fun h => .tup hl (fun j c hj => ih j c hj (underL_get h j c hj))
theorem Sim.trunc {g : Gh} {w : World} {env : List D} {vals : List Value} {sto : Sto} (h : Sim X g w env vals sto) (n : Nat) (he : underAll n env = true) (hst : underSto n n sto = true) :
 Sim X { g with φ := g.φ.take n } w env vals (sto.take n) := by
 refine ⟨h.len, fun t d v hd hv => rep_under (h.rep t d v hd hv) (underAll_get he t d hd), by simp [h.slen], ?_, ?_, h.kdom, h.gdom, h.glob⟩
 · intro i b cs hb hi
   simp only [List.getElem?_take] at hb hi
   split at hb
   · rename_i hin
     rw [if_pos hin] at hi
     exact (h.obj i b cs hb hi).conv rfl id (fun b k => ⟨k, id, fun _ => ⟨rfl, rfl⟩⟩) (fun d v hd hr => hr.closed hd)
      (fun j c hj => ⟨c, hj, fun v hr => rep_under hr (underAll_get (underSto_get hst i cs hin hi) j c hj)⟩)
   · cases hb
 · intro ℓ md ty l a len cap ho hmd
   refine h.own ℓ md ty l a len cap ?_ hmd
   generalize hx : D.sl md ty l = x at ho ⊢
   generalize hy : Value.slice (some a) len cap = y at ho ⊢
   cases ho with
   | leaf hd hv => exact .leaf hd hv
   | agg hd hv hj he => exact .agg hd hv hj he
   | tup hd hv hj he => exact .tup hd hv hj he
   | cell hi hb hj hv =>
    simp only [List.getElem?_take] at hb hi
    split at hi
    · rename_i hin; rw [if_pos hin] at hb; exact .cell hi hb hj hv
    · cases hi
theorem Ext.trunc {g g' : Gh} {w w' : World} (e : Ext g w g' w') {n : Nat} (hn : g.φ.length ≤ n) : Ext g w { g' with φ := g'.φ.take n } w' :=
 ⟨e.size, e.os, e.tape, e.output, e.blk, e.cell, e.gmono, e.gsame, e.kdom, fun i b h => by
  have : i < n := Nat.lt_of_lt_of_le (List.getElem?_eq_some_iff.1 h).1 hn
  show (g'.φ.take n)[i]? = some b
  rw [List.getElem?_take, if_pos this]; exact e.φ i b h⟩
theorem ExtM.take (g : Gh) (w : World) {m n : Nat} (hn : m ≤ n) : ExtM m g w { g with φ := g.φ.take n } w :=
 ⟨Nat.le_refl _, rfl, rfl, rfl, fun _ _ _ => rfl, fun _ _ _ => rfl, fun _ => Nat.le_refl _, fun _ _ _ => rfl, fun _ _ h => h, fun i b hi h => by
  show (g.φ.take n)[i]? = some b
  rw [List.getElem?_take, if_pos (by omega)]; exact h⟩
def LH.okM (m : Nat) (lh : LH) : Prop := ∀ m0, lh.gc = some m0 → m ≤ m0
theorem keepFrom_length (keep : List (Nat × Sh)) : ∀ (i : Nat) (l : List D), (keepFrom keep i l).length = l.length
 | _, [] => rfl
 | i, d :: r => by simp [keepFrom, keepFrom_length keep (i + 1) r]
theorem keepFrom_wk (keep : List (Nat × Sh)) : ∀ (i : Nat) (l : List D) (t : Nat) d', (keepFrom keep i l)[t]? = some d' → ∃ d, l[t]? = some d ∧ Wk d d'
 | _, [], t, d', h => by simp [keepFrom] at h
 | i, d :: r, 0, d', h => by
  simp only [keepFrom, List.getElem?_cons_zero, Option.some.injEq] at h
  refine ⟨d, rfl, ?_⟩
  split at h
  · exact .inr (.inr ⟨_, h.symm⟩)
  · exact .inr (.inl h.symm)
 | i, d :: r, t + 1, d', h => by
  simp only [keepFrom, List.getElem?_cons_succ] at h
  simpa using keepFrom_wk keep (i + 1) r t d' h
theorem shapeFrom_length (sh : List (Nat × Sh)) : ∀ (i : Nat) (l : List D), (shapeFrom sh i l).length = l.length
 | _, [] => rfl
 | i, d :: r => by simp [shapeFrom, shapeFrom_length sh (i + 1) r]
theorem shapeFrom_wk (sh : List (Nat × Sh)) : ∀ (i : Nat) (l : List D) (t : Nat) d', (shapeFrom sh i l)[t]? = some d' → ∃ d, l[t]? = some d ∧ Wk1 d d'
 | _, [], t, d', h => by simp [shapeFrom] at h
 | i, d :: r, 0, d', h => by
  simp only [shapeFrom, List.getElem?_cons_zero, Option.some.injEq] at h
  refine ⟨d, rfl, ?_⟩
  split at h
  · exact .inr ⟨_, h.symm⟩
  · exact .inl h.symm
 | i, d :: r, t + 1, d', h => by
  simp only [shapeFrom, List.getElem?_cons_succ] at h
  simpa using shapeFrom_wk sh (i + 1) r t d' h
theorem shapeSto_length (sh : List (Nat × List (Nat × Sh))) : ∀ (i : Nat) (l : Sto), (shapeSto sh i l).length = l.length
 | _, [] => rfl
 | i, d :: r => by simp [shapeSto, shapeSto_length sh (i + 1) r]
theorem shapeSto_wk (sh : List (Nat × List (Nat × Sh))) : ∀ (i : Nat) (l : Sto) (t : Nat) cs', (shapeSto sh i l)[t]? = some cs' →
 ∃ cs, l[t]? = some cs ∧ cs'.length = cs.length ∧ ∀ (j : Nat) d', cs'[j]? = some d' → ∃ d, cs[j]? = some d ∧ Wk1 d d'
 | _, [], t, d', h => by simp [shapeSto] at h
 | i, d :: r, 0, d', h => by
  simp only [shapeSto, List.getElem?_cons_zero, Option.some.injEq] at h
  refine ⟨d, rfl, ?_, fun j x hj => ?_⟩
  · split at h
    · rw [← h]; exact shapeFrom_length _ 0 d
    · rw [← h]
  split at h
  · rw [← h] at hj; exact shapeFrom_wk _ 0 d j x hj
  · rw [← h] at hj; exact ⟨x, hj, .inl rfl⟩
 | i, d :: r, t + 1, d', h => by
  simp only [shapeSto, List.getElem?_cons_succ] at h
  simpa using shapeSto_wk sh (i + 1) r t d' h
theorem Sim.norm {g : Gh} {w : World} {env : List D} {vals : List Value} {sto : Sto} (lh : LH) (n : Nat) (h : Sim X g w env vals sto) {m : Nat} (hm : lh.okM m) (hn : m ≤ n) :
 ∃ g', Sim X g' w (norm lh n ⟨env, sto⟩).env vals (norm lh n ⟨env, sto⟩).sto ∧ ExtM m g w g' w := by
 unfold Ev.norm
 dsimp only
 split
 · rename_i m0 hgc
   have h1 := h.weaken (keepFrom_length lh.env 0 env) (keepFrom_wk lh.env 0 env) rfl (fun i cs' hi => ⟨cs', hi, rfl, fun j d' hj => ⟨d', hj, .inl rfl⟩⟩)
   obtain ⟨g', h2, e⟩ := h1.gc m0
   exact ⟨g', h2.weaken rfl (fun t d' hd => ⟨d', hd, .inl rfl⟩) (shapeSto_length lh.sto 0 _) (shapeSto_wk lh.sto 0 _), e m (hm m0 hgc)⟩
 · have h1 := h.weaken (keepFrom_length lh.env 0 env) (keepFrom_wk lh.env 0 env) (shapeSto_length lh.sto 0 sto) (shapeSto_wk lh.sto 0 sto)
   split
   · rename_i he hst
     exact ⟨_, h1.trunc n he hst, .take _ _ hn⟩
   · exact ⟨g, h1, .refl _ _ _⟩
theorem norm_sto (lh : LH) (n : Nat) (st : St) (h : n = st.sto.length) (hgc : lh.gc = none) : (norm lh n st).sto.length = n := by
 unfold norm
 rw [hgc]
 dsimp only
 split
 · simp [shapeSto_length, h]
 · simp [shapeSto_length, h]
theorem norm_gc (lh : LH) {m0 : Nat} (hgc : lh.gc = some m0) (n n' : Nat) (st : St) : norm lh n st = norm lh n' st := by
 unfold norm
 rw [hgc]
def LOkR (cx : Cx) (hc : FuncId → List D → Sto → (D → Sto → Option R) → Option R) (keep : List (Nat × LH)) (c : Code) : Prop :=
 ∀ lh lc, (firstRegion c).bind (look keep) = some lh → lh.con = some lc → ∀ (st : St) (k : Exit → St → Option R) (r : R), lc R (norm lh st.sto.length st) k = some r →
  ∃ n, loopN (fun st k => evCode cx hc keep c st k) (norm lh st.sto.length) (fun e s => k e (normO lh st.sto.length s)) n (norm lh st.sto.length st) = some r
def RegOkR (cx : Cx) (hc : FuncId → List D → Sto → (D → Sto → Option R) → Option R) (keep : List (Nat × LH)) (id : Nat) (ops : Array Oper) : Prop :=
 ∀ lh lc, regAt keep id = some lh → lh.con = some lc → HcNF hc ∧ ∀ (st : St) (k : Exit → St → Option R) (r : R), lc R (norm lh lh.cut st) k = some r →
  ∀ l, l ∈ exts ops → seqI cx hc ops l (norm lh lh.cut st) (fun s => k .normal (normO lh lh.cut s)) = some r
def JOkR (cx : Cx) (hc : FuncId → List D → Sto → (D → Sto → Option R) → Option R) (keep : List (Nat × LH)) (c : Code) : Prop :=
 (∀ lh lc, joinAt keep c = some lh → lh.con = some lc → ∀ (st : St) (k : Exit → St → Option R) (r : R), lc R (norm lh lh.cut st) k = some r → evCode cx hc keep c (norm lh lh.cut st) (fun e s => k e (normO lh lh.cut s)) = some r) ∧
  ∀ id ops draw, c = .region id ops draw → RegOkR cx hc keep id ops
structure WalkOk (P : Program) (X : Cfg) (cx : Cx) (hc : FuncId → List D → Sto → (D → Sto → Option R) → Option R) : Prop where
 base : CxOk P X cx
 mixed : P.follows .mixedOrders = true
 bnd : BndOk cx hc
 calls : HcOk P X hc
def KeepM (m : Nat) (keep : List (Nat × LH)) : Prop := ∀ n lh, look keep n = some lh → lh.okM m
def WOk (P : Program) (X : Cfg) (cx : Cx) (m : Nat) (hc : FuncId → List D → Sto → (D → Sto → Option R) → Option R) (keep : List (Nat × LH)) (c : Code) : Prop :=
 ∀ env sto a w g k r (Q : Exit → Act → World → Prop), evCode cx hc keep c ⟨env, sto⟩ k = some r → Sim X g w env a.tmps.toList sto → m ≤ g.φ.length → a.defers = [] →
  (∀ e a' w' g' env' sto', k e ⟨env', sto'⟩ = some r → Sim X g' w' env' a'.tmps.toList sto' → ExtM m g w g' w' → a'.defers = [] → Q e a' w') → c.wp P Q a w
theorem loopN_sound {m : Nat} {hc : FuncId → List D → Sto → (D → Sto → Option R) → Option R} {keep : List (Nat × LH)} {c : Code} (hw : WOk P X cx m hc keep c) (nm : St → St)
 (hnm : ∀ {g : Gh} {w : World} {env : List D} {vals : List Value} {sto : Sto}, Sim X g w env vals sto → ∃ g', Sim X g' w (nm ⟨env, sto⟩).env vals (nm ⟨env, sto⟩).sto ∧ ExtM m g w g' w)
 {k : Exit → St → Option R} {r : R} {g0 : Gh} {w0 : World} {Q : Exit → Act → World → Prop}
 (hq : ∀ e a' w' g' env' sto', k e ⟨env', sto'⟩ = some r → Sim X g' w' env' a'.tmps.toList sto' → ExtM m g0 w0 g' w' → a'.defers = [] → Q e a' w') :
 ∀ (n : Nat) (st : St) (a : Act) (w : World) (g : Gh), loopN (fun st k => evCode cx hc keep c st k) nm k n st = some r → Sim X g w st.env a.tmps.toList st.sto → m ≤ g.φ.length → ExtM m g0 w0 g w → a.defers = [] → Code.rounds P c Q n a w
 | 0, _, _, _, _, h, _, _, _, _ => by cases h
 | n + 1, st, a, w, g, h, hs, hm, e, hd => by
  unfold loopN at h
  refine hw st.env st.sto a w g _ r _ h hs hm hd (fun ex a' w' g' env' sto' hk hs' e' hd' => ?_)
  cases ex with
  | normal =>
   obtain ⟨g2, hs2, he2⟩ := hnm hs'
   exact loopN_sound hw nm hnm hq n _ a' w' g2 hk hs2 ((e'.trans he2).len hm) ((e.trans e').trans he2) hd'
  | _ => exact hq _ a' w' g' env' sto' hk hs' (e.trans e') hd'
theorem rd_bool {g : Gh} {w : World} {env : List D} {sto : Sto} {a : Act} (hs : Sim X g w env a.tmps.toList sto) {c : Operand} {v : Bool} (h : rd env c = .bool v) : a.eval c = .bool v := by
 have := hs.read c
 rw [h] at this
 exact rep_bool this
theorem evCode_sound {hc : FuncId → List D → Sto → (D → Sto → Option R) → Option R} (hok : WalkOk P X cx hc) {keep : List (Nat × LH)} {m : Nat} (hkm : KeepM m keep) :
 ∀ (c : Code), (∀ c' ∈ loopsIn c, LOkR cx hc keep c') → (∀ c' ∈ joinsIn c, JOkR cx hc keep c') → WOk P X cx m hc keep c
 | .skip, _, _ => fun env sto a w g k r Q h hs hm hd hq => wp_skip (hq _ _ _ _ _ _ h hs (.refl _ _ _) hd)
 | .region id ops draw, _, hj => fun env sto a w g k r Q h hs hm hd hq => by
  unfold evCode at h
  cases draw with
  | true =>
   dsimp only at h
   split at h
   · rename_i hdr
     have al : Alike w { w with drawn := w.drawn + 1 } := ⟨rfl, rfl, rfl, rfl⟩
     refine wp_region_any hok.mixed (any_sound hok.base hok.calls hok.bnd (okDraw_spec hdr) (k := k .normal) (r := r) (g0 := g) (w0 := w) (fun a' w' g' env' sto' hk hs' e hd' => hq _ _ _ _ _ _ hk hs' (e.toM m) hd')
      ops.size (Array.replicate ops.size false) env sto a _ g (fun i o _ hl => ?_) (by simp) (by unfold rem; exact Nat.le_trans (List.length_filter_le _ _) (by simp)) ?_ (hs.alike al) (.alike g al) hd)
     · exfalso; simp only [Array.getD] at hl; split at hl <;> simp at hl
     · have e : rem ops.size (Array.replicate ops.size false) = List.range' 0 ops.toList.length := by
        rw [← List.range_eq_range', Array.length_toList]
        unfold rem
        rw [List.filter_eq_self]
        intro i hi
        have := List.mem_range.1 hi
        simp [this]
       rw [e, ← evOps_seqI ops.toList 0 _ (fun j => by simp)]
       exact h
   · split at h
     · rename_i lh hlh
       split at h
       · rename_i lc hlc hble
         have hble := Nat.le_of_ble_eq_true hble
         obtain ⟨hnf, hall⟩ := (hj (.region id ops true) (by simp [joinsIn])).2 id ops true rfl lh lc hlh hlc
         have hall := hall _ _ _ h
         have al : Alike w { w with drawn := w.drawn + 1 } := ⟨rfl, rfl, rfl, rfl⟩
         have hlen : m ≤ lh.cut := Nat.le_trans hm (Nat.le_trans (Nat.le_of_eq hs.slen) hble)
         have hlm : lh.okM m := hkm _ _ hlh
         obtain ⟨g1, hs1, e1⟩ := (hs.alike al).norm lh lh.cut hlm hlen
         refine wp_region_any hok.mixed (all_sound hok.base hok.calls hok.bnd hnf (k := fun s => k .normal (normO lh lh.cut s)) (r := r) (g0 := g1) (w0 := { w with drawn := w.drawn + 1 }) (fun a' w' g' env' sto' hk hs' e hd' => ?_)
          ops.size (Array.replicate ops.size false) _ _ a _ g1 (by simp) (by unfold rem; exact Nat.le_trans (List.length_filter_le _ _) (by simp)) hall hs1 (.refl _ _) hd)
         obtain ⟨g3, hs3, e3⟩ := hs'.norm { env := lh.out, sto := [], out := [], con := none, gc := lh.gc } lh.cut hlm hlen
         exact hq _ _ _ _ _ _ hk hs3 ((((Ext.alike g al).toM m).trans e1).trans ((e.toM m).trans e3)) hd'
       · cases h
     · cases h
  | false => exact wp_region_list (evOps_sound hok.base hok.calls ops.toList env sto a w g h hs hd (fun a' w' g' env' sto' hk hs' e hd' => hq _ _ _ _ _ _ hk hs' (e.toM m) hd'))
 | .seq x y, hl, hj => fun env sto a w g k r Q h hs hm hd hq => by
  have hy := evCode_sound hok hkm y (fun c' hc' => hl c' (by simp [loopsIn, hc'])) (fun c' hc' => hj c' (by simp [joinsIn, hc']))
  have hlen : m ≤ sto.length := Nat.le_trans hm (Nat.le_of_eq hs.slen)
  unfold evCode at h
  refine wp_seq (evCode_sound hok hkm x (fun c' hc' => hl c' (by simp [loopsIn, hc'])) (fun c' hc' => hj c' (by simp [joinsIn, hc'])) env sto a w g _ r _ h hs hm hd (fun e a' w' g' env' sto' hk hs' e' hd' => ?_))
  cases e with
  | normal =>
   dsimp only at hk
   split at hk
   · exact hy env' sto' a' w' g' _ r _ hk hs' (e'.len hm) hd' (fun e2 a2 w2 g2 env2 sto2 hk2 hs2 e2' hd2 => hq _ _ _ _ _ _ hk2 hs2 (e'.trans e2') hd2)
   · rename_i lh hlh
     split at hk
     · rename_i lc hlc hble
       have hlen : m ≤ lh.cut := Nat.le_trans hlen (Nat.le_of_ble_eq_true hble)
       have hlm : lh.okM m := by obtain ⟨n, hn⟩ := joinAt_some hlh; exact hkm _ _ hn
       obtain ⟨g1, hs1, e1⟩ := hs'.norm lh lh.cut hlm hlen
       have hk2 := (hj y (by simp [joinsIn])).1 lh lc hlh hlc _ _ _ hk
       refine hy _ _ a' w' g1 _ r _ hk2 hs1 ((e'.trans e1).len hm) hd' (fun e2 a2 w2 g2 env2 sto2 hk2 hs2 e2' hd2 => ?_)
       obtain ⟨g3, hs3, e3⟩ := hs2.norm { env := lh.out, sto := [], out := [], con := none, gc := lh.gc } lh.cut hlm hlen
       exact hq _ _ _ _ _ _ hk2 hs3 (((e'.trans e1).trans e2').trans e3) hd2
     · cases hk
  | _ => exact hq _ _ _ _ _ _ hk hs' e' hd'
 | .cond c x y, hl, hj => fun env sto a w g k r Q h hs hm hd hq => by
  have hx := evCode_sound hok hkm x (fun c' hc' => hl c' (by simp [loopsIn, hc'])) (fun c' hc' => hj c' (by simp [joinsIn, hc']))
  have hy := evCode_sound hok hkm y (fun c' hc' => hl c' (by simp [loopsIn, hc'])) (fun c' hc' => hj c' (by simp [joinsIn, hc']))
  have key : ∀ b : Bool, rd env c = .bool b → ∀ env', Sim X g w env' a.tmps.toList sto → (if b then evCode cx hc keep x ⟨env', sto⟩ k else evCode cx hc keep y ⟨env', sto⟩ k) = some r → (Code.cond c x y).wp P Q a w := by
   intro b hb env' hs' h'
   refine wp_cond (rd_bool hs hb) ?_
   cases b with
   | true => exact hx env' sto a w g k r Q h' hs' hm hd hq
   | false => exact hy env' sto a w g k r Q h' hs' hm hd hq
  have hset : ∀ (t : Tmp) (b : Bool), c = .tmp t → rd env c = .bool b → Sim X g w (env.set t (.bool b)) a.tmps.toList sto := by
   intro t b hc hb
   subst hc
   obtain ⟨v, hv, hr⟩ := hs.getB (t := t) hb (by intro h; cases h)
   have := rep_bool hr
   subst this
   exact hs.setSame (by simpa using hv) (.bool b) rfl
  unfold evCode at h
  split at h
  · rename_i t v hc
    split at h
    · exact key true hc _ (hset _ true rfl hc) h
    · exact key false hc _ (hset _ false rfl hc) h
  · rename_i v hnt hc
    split at h
    · exact key true hc _ hs h
    · exact key false hc _ hs h
  · cases h
 | .block id x, hl, hj => fun env sto a w g k r Q h hs hm hd hq => by
  unfold evCode at h
  refine wp_block (evCode_sound hok hkm x (fun c' hc' => hl c' (by simpa [loopsIn] using hc')) (fun c' hc' => hj c' (by simpa [joinsIn] using hc')) env sto a w g _ r _ h hs hm hd (fun e a' w' g' env' sto' hk hs' e' hd' => ?_))
  cases e with
  | exit i =>
   show if i = id then _ else _
   dsimp only at hk
   split at hk
   · rename_i hi
     rw [if_pos (Nat.eq_of_beq_eq_true hi)]; exact hq _ _ _ _ _ _ hk hs' e' hd'
   · rename_i hi
     rw [if_neg (Nat.ne_of_beq_eq_false hi)]; exact hq _ _ _ _ _ _ hk hs' e' hd'
  | _ => exact hq _ _ _ _ _ _ hk hs' e' hd'
 | .loop x, hl, hj => fun env sto a w g k r Q h hs hm hd hq => by
  have hx := evCode_sound hok hkm x (fun c' hc' => hl c' (by simp [loopsIn, hc'])) (fun c' hc' => hj c' (by simpa [joinsIn] using hc'))
  have hlen : m ≤ sto.length := Nat.le_trans hm (Nat.le_of_eq hs.slen)
  unfold evCode at h
  split at h
  · rename_i lh hlh
    have hlm : lh.okM m := by
     cases hf : firstRegion x with
     | none => rw [hf] at hlh; cases hlh
     | some n => rw [hf] at hlh; exact hkm _ _ hlh
    obtain ⟨g1, hs1, e1⟩ := hs.norm lh sto.length hlm hlen
    split at h
    · rename_i lc hlc
      obtain ⟨n, hn⟩ := hl x (by simp [loopsIn]) lh lc hlh hlc ⟨env, sto⟩ _ _ h
      refine wp_loop_rounds n (loopN_sound hx _ (fun h => h.norm lh sto.length hlm hlen) (g0 := g) (w0 := w) (fun e2 a2 w2 g2 env2 sto2 hk2 hs2 e2' hd2 => ?_) n _ a w g1 hn hs1 (e1.len hm) e1 hd)
      obtain ⟨g3, hs3, e3⟩ := hs2.norm { env := lh.out, sto := [], out := [], con := none, gc := lh.gc } sto.length hlm hlen
      exact hq _ _ _ _ _ _ hk2 hs3 (e2'.trans e3) hd2
    · exact wp_loop_rounds 64 (loopN_sound hx _ (fun h => h.norm lh sto.length hlm hlen) hq 64 _ a w g1 h hs1 (e1.len hm) e1 hd)
  · exact wp_loop_rounds 64 (loopN_sound hx (fun st => st) (fun {g w env vals sto} h => ⟨g, h, .refl _ _ _⟩) hq 64 _ a w g h hs hm (.refl _ _ _) hd)
 | .exit id, _, _ => fun env sto a w g k r Q h hs hm hd hq => wp_exit (hq _ _ _ _ _ _ h hs (.refl _ _ _) hd)
 | .ret, _, _ => fun env sto a w g k r Q h hs hm hd hq => wp_ret (hq _ _ _ _ _ _ h hs (.refl _ _ _) hd)
 | .scope _, _, _ => fun env sto a w g k r Q h => by cases h
 | .label _, _, _ => fun env sto a w g k r Q h => by cases h
 | .goto _, _, _ => fun env sto a w g k r Q h => by cases h
 | .rangeFunc _ _ _ _, _, _ => fun env sto a w g k r Q h => by cases h
 | .refuse _, _, _ => fun env sto a w g k r Q h => by cases h
end
end Go.Ev
namespace Go.Ev
section
variable {P : Program} {X : Cfg} {R : Type} {cx : Cx}
theorem wk_occ {w : World} {s : Sh} {d : D} {v : Value} {φ G} (h : RepV X φ G w d v) {md : Md} {ty l a len cap} (hmd : md.keeps l.length cap) (hx : s.on d = .sl md ty l) (hv : v = .slice (some a) len cap) : ∃ md' : Md, md'.keeps l.length cap ∧ d = .sl md' ty l := by
 rcases wk_own (d' := s.on d) (.inr (.inr ⟨s, rfl⟩)) h with e | ⟨h1, _⟩
 · exact ⟨md, hmd, by rw [← e]; exact hx⟩
 · exact ⟨.own, .inl rfl, h1 _ _ _ _ _ _ hx hv hmd⟩
theorem shapeL_length : ∀ (sh : List Sh) (ds : List D), (shapeL sh ds).length = ds.length
 | [], ds => by cases ds <;> rfl
 | _ :: _, [] => rfl
 | s :: r, d :: ds => by simp [shapeL, shapeL_length r ds]
theorem shapeL_get : ∀ (sh : List Sh) (ds : List D) (j : Nat) c', (shapeL sh ds)[j]? = some c' → ∃ c, ds[j]? = some c ∧ (c' = c ∨ ∃ s : Sh, c' = s.on c)
 | [], ds, j, c', h => by cases ds <;> exact ⟨c', h, .inl rfl⟩
 | _ :: _, [], j, c', h => by simp [shapeL] at h
 | s :: r, d :: ds, 0, c', h => by simp [shapeL] at h; exact ⟨d, rfl, .inr ⟨s, h.symm⟩⟩
 | s :: r, d :: ds, j + 1, c', h => by simp [shapeL] at h; simpa using shapeL_get r ds j c' h
theorem rep_tup {φ G} {w : World} {ds : List D} {v : Value} (h : RepV X φ G w (.tup ds) v) : ∃ vs, v = .tuple vs ∧ vs.size = ds.length ∧ ∀ (j : Nat) c, ds[j]? = some c → RepV X φ G w c (vs.getD j undef) := by
 cases h with
 | tup hl hr => exact ⟨_, rfl, hl, hr⟩
theorem Sim.shape {g : Gh} {w : World} {d : D} {v : Value} {sto : Sto} (h : Sim X g w [d] [v] sto) (sh : List Sh) : Sim X g w [shapeD sh d] [v] sto := by
 have hr := h.rep 0 d v rfl rfl
 unfold shapeD
 split
 · rename_i sh ds
   obtain ⟨vs, rfl, hl, hcr⟩ := rep_tup hr
   refine h.re_md rfl ?_ ?_
   · intro t d v hd hv
     cases t with
     | succ t => simp at hd
     | zero =>
      simp at hd hv; subst hd; subst hv
      refine .tup (by rw [shapeL_length]; exact hl) (fun j c' hj => ?_)
      obtain ⟨c, hc, hcc⟩ := shapeL_get _ _ j c' hj
      rcases hcc with rfl | ⟨s, rfl⟩
      · exact hcr j c' hc
      · exact sh_rep s (hcr j c hc)
   · intro ℓ md ty l a len cap ho hmd
     generalize hx : D.sl md ty l = x at ho
     generalize hy : Value.slice (some a) len cap = y at ho
     cases ho with
     | leaf hd hv => rename_i t; cases t <;> simp at hd; subst hd; cases hx
     | agg hd hv hj he => rename_i t _ _ _; cases t <;> simp at hd
     | tup hd hv hj he =>
      rename_i t j cs vs'
      cases t with
      | succ t => simp at hd
      | zero =>
       simp at hd hv; subst hd; subst hv
       obtain ⟨c, hc, hcc⟩ := shapeL_get _ _ j _ hj
       rcases hcc with rfl | ⟨s, hs⟩
       · subst hx; subst hy; exact ⟨md, hmd, .tup rfl rfl hc he⟩
       · rw [← hx] at hs
         obtain ⟨md', hk, this⟩ := wk_occ (hcr j c hc) hmd hs.symm (he.trans hy.symm)
         subst this; subst hx; subst hy
         exact ⟨md', hk, .tup rfl rfl hc he⟩
     | cell hi hb hj hv => subst hx; subst hy; exact ⟨md, hmd, .cell hi hb hj hv⟩
 · rename_i s _
   refine h.weaken rfl ?_ rfl (fun i cs' hi => ⟨cs', hi, rfl, fun j d' hj => ⟨d', hj, .inl rfl⟩⟩)
   intro t d' hd
   cases t with
   | succ t => simp at hd
   | zero => simp at hd; subst hd; exact ⟨d, rfl, .inr (.inr ⟨s, rfl⟩)⟩
 · exact h
theorem Sim.cut {g : Gh} {w : World} {d : D} {v : Value} {sto : Sto} (h : Sim X g w [d] [v] sto) (n : Nat) :
 ∃ g', Sim X g' w [d] [v] (cut n d sto) ∧ ∀ g0 w0, g0.φ.length ≤ n → Ext g0 w0 g w → Ext g0 w0 g' w := by
 unfold Ev.cut
 split
 · rename_i h1 h2
   exact ⟨_, h.trunc n (by simp [underAll, h1]) h2, fun g0 w0 hn e => e.trunc hn⟩
 · exact ⟨g, h, fun _ _ _ e => e⟩
def findT (l : List Tmp) (t : Nat) : Option Nat := l.findIdx? (fun x => Nat.beq x t)
theorem resT_spec : ∀ {rs : List ResultVar} {l : List Tmp}, resT rs = some l → rs = l.map ResultVar.tmp ∧ l.Nodup
 | [], l, h => by cases h; exact ⟨rfl, .nil⟩
 | .cell _ _ :: _, _, h => by cases h
 | .tmp t :: r, l, h => by
  unfold resT at h
  split at h
  · rename_i l' hl
    split at h
    · cases h
    · rename_i hn
      cases h
      obtain ⟨e, hd⟩ := resT_spec hl
      refine ⟨by rw [e]; rfl, List.nodup_cons.2 ⟨fun hm => ?_, hd⟩⟩
      have : l'.any (Nat.beq t) = true := List.any_eq_true.2 ⟨t, hm, Nat.beq_refl t⟩
      rw [this] at hn; cases hn
  · cases h
theorem andThen_ok {α β : Type} (x : α) (w : World) (f : α → World → Result β) : (Result.ok x w).andThen f = f x w := rfl
theorem mapM_tmps {w : World} (tmps : Array Value) (f : ResultVar → Sem Value) (hf : ∀ t, (f (.tmp t)).run P w = .ok (tmps.getD t undef) w) : ∀ (l : List Tmp), ((l.map ResultVar.tmp).mapM f).run P w = .ok (l.map fun t => tmps.getD t undef) w
 | [] => rfl
 | t :: r => by
  have := mapM_tmps tmps f hf r
  simp only [List.map_cons, List.mapM_cons, Sem.run_bind, Sem.run_pure, hf, andThen_ok, this]
def resV (tmps : Array Value) : List Tmp → Value
 | [t] => tmps.getD t undef
 | l => .tuple (l.map fun t => tmps.getD t undef).toArray
theorem results_run {w : World} {fn : Func} {tmps : Array Value} {l : List Tmp} (h : resT fn.results.toList = some l) :
 (results fn tmps).run P w = .ok (resV tmps l) w := by
 obtain ⟨e, _⟩ := resT_spec h
 have e2 : fn.results = (l.map ResultVar.tmp).toArray := by apply Array.ext'; simpa using e
 unfold results
 rw [e2]
 simp only [List.mapM_toArray, Sem.run_bind, Sem.run_map]
 rw [mapM_tmps tmps _ (fun _ => rfl)]
 match l with
 | [] => rfl
 | [t] => rfl
 | t :: s :: r => rfl
theorem Sim.results {g : Gh} {w : World} {env : List D} {tmps : Array Value} {sto : Sto} {fn : Func} (h : Sim X g w env tmps.toList sto) {d : D} (hr : retD fn env = some d) :
 ∃ v g', (Go.results fn tmps).run P w = .ok v w ∧ Sim X g' w [d] [v] sto ∧ ∀ g0 w0, Ext g0 w0 g w → Ext g0 w0 g' w := by
 unfold retD at hr
 split at hr
 · rename_i t hl
   cases hr
   refine ⟨_, { g with κ := fun b => (g.κ b).map fun ℓ => match ℓ with | .env _ j => .env 0 j | ℓ => ℓ }, results_run hl, ?_, fun g0 w0 e => e.trans (Ext.names _)⟩
   have hrep : RepV X g.φ g.G w (env.getD t .any) (tmps.getD t undef) := h.read (a := ⟨tmps, []⟩) (.tmp t)
   refine h.re (fun ℓ => match ℓ with | .env _ j => .env 0 j | ℓ => ℓ) (fun _ => rfl) rfl ?_ ?_
   · intro t' d v hd hv
     cases t' with
     | succ t' => simp at hd
     | zero => cases hd; cases hv; exact hrep
   · intro ℓ md ty l a len cap ho hmd
     cases ℓ with
     | env t' j =>
      have ht' := ho.lt
      simp at ht'; subst ht'
      have ht : t < env.length := by
       rcases Nat.lt_or_ge t env.length with h' | h'
       · exact h'
       · exfalso
         rw [getD_out h'] at ho
         exact ho.not_free (d := .any) hmd rfl rfl
      have hv : t < tmps.size := Nat.lt_of_lt_of_eq ht (h.len.trans Array.length_toList)
      refine ⟨.env t j, rfl, ho.shift (t' := t) ?_ ?_⟩
      · rw [rd_tmp_get ht]; rfl
      · show _ = some (tmps.getD t undef)
        simp [hv, Array.getD]
     | obj i => exact ho.not_obj.elim
     | cell i j => exact ⟨.cell i j, rfl, ho.of_slot (fun _ _ h => by cases h)⟩
 · rename_i l hn hl
   cases hr
   have hnd := (resT_spec hl).2
   have hres : (Go.results fn tmps).run P w = .ok (.tuple (l.map fun t => tmps.getD t undef).toArray) w := by
    rw [results_run hl]
    match l, hn with
    | [], _ => rfl
    | [t], hn => exact absurd rfl (hn t)
    | t :: s :: r, _ => rfl
   let ρ : Loc → Loc := fun ℓ => match ℓ with | .env t _ => .env 0 ((l.findIdx? (fun x => Nat.beq x t)).getD 0 + 1) | ℓ => ℓ
   refine ⟨_, { g with κ := fun b => (g.κ b).map ρ }, hres, ?_, fun g0 w0 e => e.trans (Ext.names _)⟩
   have hrep : ∀ t, RepV X g.φ g.G w (env.getD t .any) (tmps.getD t undef) := fun t => h.read (a := ⟨tmps, []⟩) (.tmp t)
   have htop : ∀ {d : D} {v : Value}, RepV X g.φ g.G w d v → RepV X g.φ g.G w d.top v := by
    intro d v hr; unfold D.top; split
    · exact hr
    · exact hr.dup
   refine h.re ρ (fun _ => rfl) rfl ?_ ?_
   · intro t' d v hd hv
     cases t' with
     | succ t' => simp at hd
     | zero =>
      cases hd; cases hv
      refine .tup (by simp) (fun j c hj => ?_)
      simp only [List.getElem?_map, Option.map_eq_some_iff] at hj
      obtain ⟨t, ht, rfl⟩ := hj
      have : (l.map fun t => tmps.getD t undef).toArray.getD j undef = tmps.getD t undef := by
       simp only [Array.getD_eq_getD_getElem?, List.getElem?_toArray, List.getElem?_map, ht]; rfl
      rw [this]; exact htop (hrep t)
   · intro ℓ md ty l' a len cap ho hmd
     generalize hx : D.sl md ty l' = x at ho
     generalize hy : Value.slice (some a) len cap = y at ho
     cases ho with
     | leaf hd hv => rename_i t; cases t <;> simp at hd; subst hd; cases hx
     | agg hd hv hj he => rename_i t _ _ _; cases t <;> simp at hd
     | tup hd hv hj he =>
      rename_i t' j cs vs
      cases t' with
      | succ t' => simp at hd
      | zero =>
       cases hd; cases hv; subst hx; subst hy
       simp only [List.getElem?_map, Option.map_eq_some_iff] at hj
       obtain ⟨t, ht, hte⟩ := hj
       have hlf : env.getD t .any = .sl md ty l' := by
        unfold D.top at hte; split at hte
        · exact hte
        · rename_i hnl
          exfalso
          generalize env.getD t .any = z at hte hnl
          cases z <;> first | exact hnl rfl | (simp [D.dup] at hte)
          rename_i m _ _; cases m <;> simp [D.leaf] at hnl
       have hv : tmps.getD t undef = .slice (some a) len cap := by
        rw [← he]
        simp only [Array.getD_eq_getD_getElem?, List.getElem?_toArray, List.getElem?_map, ht]; rfl
       have htl : t < env.length := by
        rcases Nat.lt_or_ge t env.length with h' | h'
        · exact h'
        · rw [getD_out h'] at hlf; cases hlf
       have htv : t < tmps.size := Nat.lt_of_lt_of_eq htl (h.len.trans Array.length_toList)
       refine ⟨.env t 0, ?_, .leaf ?_ ?_⟩
       · have hj : j < l.length := (List.getElem?_eq_some_iff.1 ht).1
         have : l.findIdx? (fun x => Nat.beq x t) = some j := by
          rw [List.findIdx?_eq_some_iff_getElem]
          refine ⟨hj, ?_, fun i hi => ?_⟩
          · rw [(List.getElem?_eq_some_iff.1 ht).2]; exact Nat.beq_refl t
          · intro hb
            have e1 := Nat.eq_of_beq_eq_true hb
            have e2 := (List.getElem?_eq_some_iff.1 ht).2
            exact (List.pairwise_iff_getElem.1 hnd i j (Nat.lt_trans hi hj) hj hi) (e1.trans e2.symm)
         simp [ρ, this]
       · rw [rd_tmp_get htl, hlf]
       · rw [← hv]; simp [htv, Array.getD]
     | cell hi hb hj hv => subst hx; subst hy; exact ⟨.cell _ _, rfl, .cell hi hb hj hv⟩
 · cases hr
def resOne (cx : Cx) (env : List D) (sto : Sto) : ResultVar → Option D
 | .tmp t => some (env.getD t .any).dup
 | .cell a t => match look cx.tab t with
  | some e => match env.getD a .any with
   | .ptr i off => match rowOf sto i with
    | some cs => match Nat.ble (off + e.size) cs.length with
     | true => some (ofCells e.agg (((cs.drop off).take e.size).map D.dup1))
     | false => none
    | none => none
   | _ => none
  | none => none
def resAll (cx : Cx) (env : List D) (sto : Sto) : List ResultVar → Option (List D)
 | [] => some []
 | r :: l => match resOne cx env sto r, resAll cx env sto l with
  | some d, some ds => some (d :: ds)
  | _, _ => none
def oneD : List D → D
 | [d] => d
 | l => .tup l
def retC (cx : Cx) (fn : Func) (env : List D) (sto : Sto) : Option D := match retD fn env with
 | some d => some d
 | none => (resAll cx env sto fn.results.toList).map oneD
theorem free_free1 {d : D} (h : d.free = true) : d.free1 = true := by
 cases d <;> try rfl
 case sl m t l => cases m <;> first | rfl | cases h
theorem resOne_ok {g : Gh} {w : World} {env : List D} {tmps : Array Value} {sto : Sto} (hcx : CxOk P X cx) (h : Sim X g w env tmps.toList sto) {r : ResultVar} {d : D} (hr : resOne cx env sto r = some d) :
 ∃ v, ((match r with | .tmp t => pure (tmps.getD t undef) | .cell a t => do loadVar t (← asAddr (tmps.getD a undef))) : Sem Value).run P w = .ok v w ∧ RepV X g.φ g.G w d v ∧ d.free = true := by
 cases r with
 | tmp t =>
  simp only [resOne] at hr
  cases hr
  exact ⟨_, rfl, (h.read (a := ⟨tmps, []⟩) (.tmp t)).dup, dup_free _⟩
 | cell a t =>
  simp only [resOne] at hr
  split at hr
  · rename_i e he
    split at hr
    · rename_i i off hp
      split at hr
      · rename_i cs hcs
        split at hr
        · rename_i hle
          cases hr
          have hle := Nat.le_of_ble_eq_true hle
          have hread := h.read (a := ⟨tmps, []⟩) (.tmp a)
          have hp' : rd env (.tmp a) = .ptr i off := hp
          rw [hp'] at hread
          obtain ⟨b, hb, hv⟩ := rep_ptr hread
          have hv : tmps.getD a undef = .pointer (some ⟨b, off, none⟩) := hv
          obtain ⟨hcs, ha⟩ := rowOf_spec hcs
          have hobj := fun (hn : cs ≠ []) => (h.obj i b cs hb hcs).obj ha hn
          obtain ⟨v, hrun, hr⟩ := run_loadAt (X := X) (φ := g.φ) (G := g.G) (w := w) (hcx.tab t e he) (b := b) (off := off) (cs := (cs.drop off).take e.size) (by simp; omega) (fun j c hj => by
           have hj2 : j < e.size := by have := (List.getElem?_eq_some_iff.1 hj).1; simp at this; omega
           rw [List.getElem?_take] at hj
           simp only [hj2, if_true, List.getElem?_drop] at hj
           obtain ⟨v, h1, _, h2⟩ := (hobj (by intro e; subst e; simp at hj)).cell (off + j) c hj
           exact ⟨v, h1, h2⟩)
          refine ⟨v, ?_, hr, ofCells_free _ _⟩
          show (do loadVar t (← asAddr (tmps.getD a undef)) : Sem Value).run P w = .ok v w
          rw [hv]
          exact hrun
        · cases hr
      · cases hr
    · cases hr
  · cases hr
theorem resAll_ok {g : Gh} {w : World} {env : List D} {tmps : Array Value} {sto : Sto} (hcx : CxOk P X cx) (h : Sim X g w env tmps.toList sto) : ∀ (l : List ResultVar) (ds : List D), resAll cx env sto l = some ds →
 ∃ vs : List Value, (l.mapM fun r => ((match r with | .tmp t => pure (tmps.getD t undef) | .cell a t => do loadVar t (← asAddr (tmps.getD a undef))) : Sem Value)).run P w = .ok vs w ∧ vs.length = ds.length ∧
  ∀ (j : Nat) d v, ds[j]? = some d → vs[j]? = some v → RepV X g.φ g.G w d v ∧ d.free = true
 | [], ds, hr => by cases hr; exact ⟨[], rfl, rfl, fun j d v hd => by simp at hd⟩
 | r :: l, ds, hr => by
  unfold resAll at hr
  split at hr
  · rename_i d ds' h1 h2
    cases hr
    obtain ⟨v, hv1, hv2⟩ := resOne_ok hcx h h1
    obtain ⟨vs, hvs1, hvs2, hvs3⟩ := resAll_ok hcx h l ds' h2
    refine ⟨v :: vs, ?_, by simp [hvs2], fun j d0 v0 hd hv => ?_⟩
    · simp only [List.mapM_cons, Sem.run_bind, Sem.run_pure]
      rw [hv1, andThen_ok, hvs1]; rfl
    · cases j with
      | zero => simp at hd hv; subst hd; subst hv; exact hv2
      | succ j => simp at hd hv; exact hvs3 j d0 v0 hd hv
  · cases hr
theorem Sim.resultsC {g : Gh} {w : World} {env : List D} {tmps : Array Value} {sto : Sto} {fn : Func} (hcx : CxOk P X cx) (h : Sim X g w env tmps.toList sto) {d : D} (hr : retC cx fn env sto = some d) :
 ∃ v g', (Go.results fn tmps).run P w = .ok v w ∧ Sim X g' w [d] [v] sto ∧ ∀ g0 w0, Ext g0 w0 g w → Ext g0 w0 g' w := by
 unfold retC at hr
 split at hr
 · rename_i d' hd
   cases hr
   exact h.results hd
 · rename_i hn
   clear hn
   obtain ⟨ds, hds, rfl⟩ := Option.map_eq_some_iff.1 hr
   obtain ⟨vs, hvs, hl, hv⟩ := resAll_ok hcx h _ _ hds
   have hrun : (Go.results fn tmps).run P w = .ok (if h : vs.toArray.size = 1 then vs.toArray[0] else .tuple vs.toArray) w := by
    unfold Go.results
    have e2 : fn.results = (fn.results.toList).toArray := by simp
    rw [e2]
    simp only [List.mapM_toArray, Sem.run_bind, Sem.run_map]
    refine (congrArg (fun z : Result (List Value) => (z.andThen fun a w' => Result.ok a.toArray w').andThen fun a w' => Sem.run P (pure (if h : a.size = 1 then a[0] else Value.tuple a)) w') hvs).trans ?_
    rfl
   refine ⟨_, g, hrun, ?_, fun _ _ e => e⟩
   have hone : ∀ d v, ds = [d] → vs = [v] → Sim X g w [d] [v] sto := by
    intro d v e1 e2
    subst e1; subst e2
    obtain ⟨h1, h2⟩ := hv 0 d v rfl rfl
    refine h.re_id rfl (fun t d' v' hd hv' => ?_) (fun ℓ md t l a len cap ho hmd => ?_)
    · cases t with
      | succ t => simp at hd
      | zero => cases hd; cases hv'; exact h1
    · generalize hx : D.sl md t l = x at ho
      generalize hy : Value.slice (some a) len cap = y at ho
      cases ho with
      | leaf hd hv' => rename_i t; cases t <;> simp at hd; subst hd; subst hx; rw [(keeps_free1 hmd).2] at h2; cases h2
      | agg hd hv' hj he => rename_i t _ _ _; cases t <;> simp at hd; subst hd; subst hx; have := free1_get h2 hj; rw [(keeps_free1 hmd).1] at this; cases this
      | tup hd hv' hj he => rename_i t _ _ _; cases t <;> simp at hd; subst hd; subst hx; have := free1_get h2 hj; rw [(keeps_free1 hmd).1] at this; cases this
      | cell hi hb hj hv' => subst hx; subst hy; exact .cell hi hb hj hv'
   have hmany : Sim X g w [.tup ds] [.tuple vs.toArray] sto := by
    refine h.re_id rfl (fun t d' v' hd hv' => ?_) (fun ℓ md t l a len cap ho hmd => ?_)
    · cases t with
      | succ t => simp at hd
      | zero =>
       cases hd; cases hv'
       refine .tup (by simp [hl]) (fun j c hj => ?_)
       have hjl := (List.getElem?_eq_some_iff.1 hj).1
       have hget : vs[j]? = some vs[j] := List.getElem?_eq_getElem (by omega)
       have e : vs.toArray.getD j undef = vs[j] := by simp [Array.getD, hl, hjl]
       rw [e]
       exact (hv j c _ hj hget).1
    · generalize hx : D.sl md t l = x at ho
      generalize hy : Value.slice (some a) len cap = y at ho
      cases ho with
      | leaf hd hv' => rename_i t; cases t <;> simp at hd; subst hd; cases hx
      | agg hd hv' hj he => rename_i t _ _ _; cases t <;> simp at hd
      | tup hd hv' hj he =>
       rename_i t j cs vs'
       cases t <;> simp at hd
       subst hd; subst hx
       have hjl := (List.getElem?_eq_some_iff.1 hj).1
       have hget : vs[j]? = some vs[j] := List.getElem?_eq_getElem (by omega)
       have := (hv j _ _ hj hget).2
       first | (rw [(keeps_free1 hmd).2] at this; cases this) | (rw [(keeps_free1 hmd).1] at this; cases this)
      | cell hi hb hj hv' => subst hx; subst hy; exact .cell hi hb hj hv'
   clear hds hvs hrun hr
   match ds, vs, hl, hone, hmany with
   | [], [], _, _, hm => exact hm
   | [d], [v], _, ho, _ => exact ho d v rfl rfl
   | d :: d' :: ds, v :: v' :: vs, _, _, hm =>
    have : ¬ (v :: v' :: vs).toArray.size = 1 := by simp
    rw [dif_neg this]
    exact hm
theorem Sim.reshape {g : Gh} {w : World} {env : List D} {vals : List Value} {sto : Sto} (h : Sim X g w env vals sto) (rsh : List (Nat × List (Nat × Sh))) : Sim X g w env vals (shapeSto rsh 0 sto) :=
 h.weaken rfl (fun t d' hd => ⟨d', hd, .inl rfl⟩) (shapeSto_length rsh 0 sto) (shapeSto_wk rsh 0 sto)
def seated (keep : List (Nat × LH)) (n : Nat) (env : List D) (sto : Sto) : St := match look keep 3000000 with
 | some _ => seatGo 0 n ⟨env, sto⟩
 | none => ⟨env, sto⟩
def leave (keep : List (Nat × LH)) (n : Nat) (d : D) (sto : Sto) : D × Sto := match look keep 3000000 with
 | some _ => let st := gcSt n [d] sto
  (st.env.headD .any, st.sto)
 | none => (d, cut n d sto)
def keepB (m : Nat) : List (Nat × LH) → Bool
 | [] => true
 | p :: r => match p.2.gc with
  | none => keepB m r
  | some m0 => match Nat.ble m m0 with
   | true => keepB m r
   | false => false
theorem keepB_get {m : Nat} : ∀ {l : List (Nat × LH)}, keepB m l = true → KeepM m l
 | [], _, n, lh, h => by cases h
 | (a, x) :: r, h, n, lh, hl => by
  have hr : keepB m r = true ∧ x.okM m := by
   unfold keepB at h
   split at h
   · rename_i hg; exact ⟨h, fun m0 h0 => by rw [hg] at h0; cases h0⟩
   · rename_i m1 hg
     split at h
     · rename_i hb
       exact ⟨h, fun m0 h0 => by rw [hg] at h0; cases h0; exact Nat.le_of_ble_eq_true hb⟩
     · cases h
  unfold look at hl
  split at hl
  · cases hl; exact hr.2
  · exact keepB_get hr.1 n lh hl
def evBody (cx : Cx) (hc : FuncId → List D → Sto → (D → Sto → Option R) → Option R) (keep : List (Nat × LH)) (sh : List Sh) (rsh : List (Nat × List (Nat × Sh))) (fn : Func) (c : Code) (args : List D) (sto : Sto) (K : D → Sto → Option R) : Option R :=
 match keepB sto.length keep with
 | true => evCode cx hc keep c (seated keep sto.length (args ++ List.replicate (fn.ntmps - args.length) (.tup [])) sto) fun e st => match e with
  | .normal | .ret => match retC cx fn st.env st.sto with
   | some d => let p := leave keep sto.length d st.sto
    K (shapeD sh p.1) (shapeSto rsh 0 p.2)
   | none => none
  | _ => none
 | false => none
theorem Sim.seated {g : Gh} {w : World} {env : List D} {vals : List Value} {sto : Sto} (h : Sim X g w env vals sto) (keep : List (Nat × LH)) (n : Nat) :
 ∃ g', Sim X g' w (seated keep n env sto).env vals (seated keep n env sto).sto ∧ Ext g w g' w := by
 unfold Ev.seated
 split
 · exact Sim.seat n 0 (st := ⟨env, sto⟩) h
 · exact ⟨g, h, .refl _ _⟩
theorem Sim.leave {g : Gh} {w : World} {d : D} {v : Value} {sto : Sto} (h : Sim X g w [d] [v] sto) (keep : List (Nat × LH)) (n : Nat) :
 ∃ g', Sim X g' w [(leave keep n d sto).1] [v] (leave keep n d sto).2 ∧ ∀ g0 w0, g0.φ.length ≤ n → Ext g0 w0 g w → Ext g0 w0 g' w := by
 unfold Ev.leave
 split
 · obtain ⟨g', h1, e⟩ := h.gc n
   refine ⟨g', ?_, fun g0 w0 hn e0 => ((e0.toM n).trans (e n (Nat.le_refl _))).toExt hn⟩
   have hl := h1.len
   match hh : (gcSt n [d] sto).env with
   | [d'] => dsimp only; rw [hh] at h1 ⊢; exact h1
   | [] => rw [hh] at hl; simp at hl
   | _ :: _ :: _ => rw [hh] at hl; simp at hl
 · exact h.cut n
theorem evBody_sound {hc : FuncId → List D → Sto → (D → Sto → Option R) → Option R} (hok : WalkOk P X cx hc) {keep : List (Nat × LH)} {sh : List Sh} {rsh : List (Nat × List (Nat × Sh))} {f : FuncId} {fn : Func} {c : Code}
 (hf : P.funcs[f]? = some fn) (hb : fn.body = some c) (hl : ∀ c' ∈ loopsIn c, LOkR cx hc keep c') (hj : ∀ c' ∈ joinsIn c, JOkR cx hc keep c') {args : List D} {sto : Sto} {K : D → Sto → Option R} {r : R} {g : Gh} {w : World} {vals : List Value}
 (h : evBody cx hc keep sh rsh fn c args sto K = some r) (hs : Sim X g w args vals sto) : Calls P f vals.toArray w (CallPost X g w K r) := by
 refine calls_of_wp hf hb ?_
 have h1 := hs.pushAll (ds := List.replicate (fn.ntmps - args.length) (.tup [])) (vs := List.replicate (fn.ntmps - vals.toArray.size) undef) (by simp [hs.len]) (fun j d v hd hv => by
  simp only [List.getElem?_replicate] at hd hv
  split at hd
  · split at hv
    · cases hd; cases hv; exact ⟨.tup rfl (fun j c hj => by simp at hj), rfl⟩
    · cases hv
  · cases hd)
 have e : vals ++ List.replicate (fn.ntmps - vals.toArray.size) undef = (vals.toArray ++ Array.replicate (fn.ntmps - vals.toArray.size) undef).toList := by simp
 rw [e] at h1
 unfold evBody at h
 split at h
 rename_i hkb
 · obtain ⟨g1, h1, e1⟩ := h1.seated keep sto.length
   have hm : sto.length ≤ g1.φ.length := by
    have := ExtM.len (e1.toM sto.length) (Nat.le_of_eq hs.slen.symm); exact this
   refine evCode_sound hok (keepB_get hkb) c hl hj _ _ _ w g1 _ r _ h h1 hm rfl (fun ex a' w' g' env' sto' hk hs' e' hd' => ?_)
   have e2' : Ext g w g' w' := ((e1.toM sto.length).trans e').toExt (Nat.le_of_eq hs.slen)
   have fin : ∀ d, retC cx fn env' sto' = some d → K (shapeD sh (leave keep sto.length d sto').1) (shapeSto rsh 0 (leave keep sto.length d sto').2) = some r → a'.defers = [] ∧ ∃ v, (Go.results fn a'.tmps).run P w' = .ok v w' ∧ CallPost X g w K r (.returned v) w' := by
    intro d hd hK
    obtain ⟨v, g2, hrun, hs2, he2⟩ := hs'.resultsC hok.base hd
    obtain ⟨g3, hs3, he3⟩ := hs2.leave keep sto.length
    exact ⟨hd', v, hrun, v, _, _, g3, rfl, hK, (hs3.shape sh).reshape rsh, he3 g w (Nat.le_of_eq hs.slen) (he2 g w e2')⟩
   cases ex with
   | normal =>
    dsimp only at hk
    split at hk
    · rename_i d hd; exact fin d hd hk
    · cases hk
   | ret =>
    dsimp only at hk
    split at hk
    · rename_i d hd; exact fin d hd hk
    · cases hk
   | _ => cases hk
 · cases h
def ConOk (P : Program) (X : Cfg) (f : FuncId) (c : Con) : Prop :=
 ∀ R args sto K r g w (vals : List Value), c R args sto K = some r → Sim X g w args vals sto → CallsOp P f vals.toArray w (CallPost X g w K r)
def enters (fn : Func) : Bool := fn.body.isSome && !(fn.name == "runtime.NumGoroutine")
theorem run_enter {f : FuncId} {fn : Func} (hf : P.funcs[f]? = some fn) (he : enters fn = true) (args : Array Value) (w : World) : (callFunc f args).run P w = .ok (.enter f args) w := by
 unfold enters at he
 simp only [Bool.and_eq_true, Bool.not_eq_true'] at he
 obtain ⟨h1, h2⟩ := he
 cases hb : fn.body with
 | none => rw [hb] at h1; cases h1
 | some c => simp only [beq_eq_false_iff_ne] at h2; simp [callFunc, hf, h2, hb]
structure CsOk (P : Program) (X : Cfg) (cx : Cx) : Prop where
 base : CxOk P X cx
 mixed : P.follows .mixedOrders = true
 con : ∀ f c, look cx.con f = some c → ConOk P X f c
 funs : ∀ f fn, look cx.funs f = some fn → P.funcs[f]? = some fn ∧ enters fn = true
 bnd : ∀ f, cx.bnd.any (Nat.beq f) = true → ∃ c, look cx.con f = some c ∧ ∀ args sto, ∃ s : Option (D × Sto), (∀ (R : Type) K, c R args sto K = s.bind fun p => K p.1 p.2) ∧ (cx.calm.any (Nat.beq f) = true → ∀ p, s = some p → p.2 = sto)
def hcN (cx : Cx) : Nat → FuncId → List D → Sto → (D → Sto → Option R) → Option R
 | 0, f, args, sto, K => match look cx.con f with
  | some c => c R args sto K
  | none => none
 | n + 1, f, args, sto, K => match look cx.con f with
  | some c => c R args sto K
  | none => match look cx.funs f with
   | some fn => match fn.body with
    | some c => evBody cx (hcN cx n) [] ((look cx.ret f).getD []) [] fn c args sto K
    | none => none
   | none => none
theorem hcN_con {n : Nat} {f : FuncId} {c : Con} (h : look cx.con f = some c) (args : List D) (sto : Sto) (K : D → Sto → Option R) : hcN cx n f args sto K = c R args sto K := by
 cases n <;> simp only [hcN, h]
theorem hcN_bnd (h : CsOk P X cx) (n : Nat) : BndOk (R := R) cx (hcN cx n) := by
 intro f hf args sto
 obtain ⟨c, hc, hs⟩ := h.bnd f hf
 obtain ⟨s, h1, h2⟩ := hs args sto
 exact ⟨s, fun K => (hcN_con hc args sto K).trans (h1 R K), h2⟩
theorem hcN_ok (h : CsOk P X cx) : ∀ n, WalkOk P X cx (hcN (R := R) cx n)
 | 0 => by
  refine ⟨h.base, h.mixed, hcN_bnd h 0, ?_⟩
  intro f args sto K r g w vals hc hs
  unfold hcN at hc
  split at hc
  · rename_i c hcc; exact h.con f c hcc _ _ _ _ _ _ _ _ hc hs
  · cases hc
 | n + 1 => by
  refine ⟨h.base, h.mixed, hcN_bnd h (n + 1), ?_⟩
  intro f args sto K r g w vals hc hs
  unfold hcN at hc
  split at hc
  · rename_i c hcc; exact h.con f c hcc _ _ _ _ _ _ _ _ hc hs
  · split at hc
    · rename_i fn hfn
      split at hc
      · rename_i c hb
        obtain ⟨hf, he⟩ := h.funs f fn hfn
        exact .inl ⟨run_enter hf he _ w, evBody_sound (hcN_ok h n) hf hb (fun c' _ lh lc hlh => by cases hh : firstRegion c' <;> simp [hh, look] at hlh)
         (fun c' _ => ⟨fun lh lc hlh => (by obtain ⟨n, hn⟩ := joinAt_some hlh; simp [look] at hn), fun id ops draw _ lh lc hlh => (by simp [regAt, look] at hlh)⟩) hc hs⟩
      · cases hc
    · cases hc
theorem conOk_of (h : CsOk P X cx) (n : Nat) {f : FuncId} {fn : Func} {c : Code} {keep : List (Nat × LH)} {sh : List Sh} {rsh : List (Nat × List (Nat × Sh))} (hf : P.funcs[f]? = some fn) (he : enters fn = true) (hb : fn.body = some c)
 (hl : ∀ R, ∀ c' ∈ loopsIn c, LOkR (R := R) cx (hcN cx n) keep c') (hj : ∀ R, ∀ c' ∈ joinsIn c, JOkR (R := R) cx (hcN cx n) keep c') {cc : Con}
 (hcc : ∀ R args sto K r, cc R args sto K = some r → evBody cx (hcN cx n) keep sh rsh fn c args sto K = some r) : ConOk P X f cc :=
 fun R args sto K r _ w _ hr hs => .inl ⟨run_enter hf he _ w, evBody_sound (hcN_ok h n) hf hb (hl R) (hj R) (hcc R args sto K r hr) hs⟩
end
end Go.Ev
namespace Go.Ev
def mergeS (π : Nat → Nat) : List Nat → Sto → Sto → Sto
 | [], sto, [] => sto
 | [], sto, cs :: r => sto ++ (cs :: r).map (fun cs => cs.map (ren π))
 | i :: is, sto, cs :: r => mergeS π is (sto.set i (cs.map (ren π))) r
 | _ :: _, sto, [] => sto
section
variable {P : Program} {X : Cfg} {R : Type} {cx : Cx}
def backLoc (π : Nat → Nat) : Loc → Loc
 | .env t j => .env t j
 | .obj i => .obj (π i)
 | .cell i j => .cell (π i) j
def outK (is : List Nat) (π : Nat → Nat) (κ κ1 : Nat → Option Loc) (b : Nat) : Option Loc := match κ b with
 | some ℓ => match rnLoc is ℓ with
  | none => some ℓ
  | some _ => (κ1 b).map (backLoc π)
 | none => (κ1 b).map (backLoc π)
theorem merge_length (π : Nat → Nat) : ∀ (is : List Nat) (sto sto1 : Sto), is.length ≤ sto1.length → (mergeS π is sto sto1).length = sto.length + (sto1.length - is.length)
 | [], sto, [], _ => by simp [mergeS]
 | [], sto, cs :: r, _ => by simp [mergeS]
 | i :: is, sto, [], h => by simp at h
 | i :: is, sto, cs :: r, h => by
  simp only [mergeS]
  rw [merge_length π is _ r (by simpa using h)]
  simp
theorem merge_new (π : Nat → Nat) : ∀ (is : List Nat) (sto sto1 : Sto) (k : Nat), is.length ≤ sto1.length → (mergeS π is sto sto1)[sto.length + k]? = (sto1[is.length + k]?).map (fun cs => cs.map (ren π))
 | [], sto, [], k, _ => by simp [mergeS]
 | [], sto, cs :: r, k, _ => by simp only [mergeS]; rw [List.getElem?_append_right (by omega), List.getElem?_map]; simp
 | i :: is, sto, [], k, h => by simp at h
 | i :: is, sto, cs :: r, k, h => by
  simp only [mergeS]
  have := merge_new π is (sto.set i (cs.map (ren π))) r k (by simpa using h)
  rw [List.length_set] at this
  rw [this]
  simp [Nat.add_right_comm]
theorem merge_out (π : Nat → Nat) : ∀ (is : List Nat) (sto sto1 : Sto) (i : Nat), is.length ≤ sto1.length → i < sto.length → i ∉ is → (mergeS π is sto sto1)[i]? = sto[i]?
 | [], sto, [], i, _, _, _ => rfl
 | [], sto, cs :: r, i, _, hi, _ => by simp only [mergeS]; rw [List.getElem?_append_left hi]
 | a :: is, sto, [], i, h, _, _ => by simp at h
 | a :: is, sto, cs :: r, i, h, hi, hn => by
  simp only [mergeS]
  rw [merge_out π is _ r i (by simpa using h) (by simpa using hi) (fun h => hn (by simp [h]))]
  rw [List.getElem?_set_ne (fun e => hn (by simp [e]))]
theorem merge_in (π : Nat → Nat) : ∀ (is : List Nat) (sto sto1 : Sto) (l i : Nat), is.Nodup → is.length ≤ sto1.length → i < sto.length → is[l]? = some i → (mergeS π is sto sto1)[i]? = (sto1[l]?).map (fun cs => cs.map (ren π))
 | [], _, _, l, i, _, _, _, h => by simp at h
 | a :: is, sto, [], l, i, _, h, _, _ => by simp at h
 | a :: is, sto, cs :: r, 0, i, hnd, h, hi, hl => by
  simp at hl; subst hl
  simp only [mergeS]
  rw [merge_out π is _ r a (by simpa using h) (by simpa using hi) (List.nodup_cons.1 hnd).1]
  simp [hi]
 | a :: is, sto, cs :: r, l + 1, i, hnd, h, hi, hl => by
  simp only [mergeS]
  rw [merge_in π is _ r l i (List.nodup_cons.1 hnd).2 (by simpa using h) (by simpa using hi) (by simpa using hl)]
  simp
theorem Sim.unpart {g : Gh} {w : World} {is : List Nat} {args largs : List D} {vals : List Value} {sto lsto : Sto} (h : Sim X g w args vals sto) (p : Part is args largs sto lsto)
 {g1 : Gh} {w1 : World} {d : D} {v : Value} {sto1 : Sto} (h1 : Sim X g1 w1 [d] [v] sto1) (e : Ext (partG is g) w g1 w1) :
 ∃ g2, Sim X g2 w1 [ren (pi is sto.length) d] [v] (mergeS (pi is sto.length) is sto sto1) ∧ Ext g w g2 w1 := by
 generalize hπ : pi is sto.length = π
 have hm : is.length ≤ sto1.length := by
  rw [← h1.slen]
  rcases Nat.lt_or_ge g1.φ.length is.length with hlt | hge
  · exfalso
    have : (partG is g).φ[g1.φ.length]? = some (g.φ.getD is[g1.φ.length] 0) := by simp [partG, hlt]
    have := e.φ _ _ this
    simp at this
  · exact hge
 have hN : g.φ.length = sto.length := h.slen
 let g2 : Gh := { φ := g.φ ++ g1.φ.drop is.length, G := g1.G, κ := outK is π g.κ g1.κ }
 have hin : ∀ (l i b : Nat), is[l]? = some i → g1.φ[l]? = some b → g.φ[i]? = some b := by
  intro l i b hi hb
  have hlt : i < g.φ.length := hN ▸ p.lt i (List.mem_of_getElem? hi)
  have h0 : (partG is g).φ[l]? = some g.φ[i] := by simp [partG, hi, List.getD, hlt]
  rw [e.φ _ _ h0] at hb; cases hb
  exact List.getElem?_eq_getElem hlt
 have hφ2 : ∀ (i b : Nat), g1.φ[i]? = some b → g2.φ[π i]? = some b := by
  intro i b hb
  cases hi : is[i]? with
  | some j =>
   have hj := hin i j b hi hb
   rw [← hπ, pi_in hi]
   show (g.φ ++ _)[j]? = _
   rw [List.getElem?_append_left (List.getElem?_eq_some_iff.1 hj).1]; exact hj
  | none =>
   have hge : is.length ≤ i := by simpa using hi
   rw [← hπ]
   show (g.φ ++ _)[pi is sto.length i]? = _
   simp only [pi, hi]
   rw [List.getElem?_append_right (by omega), hN, Nat.add_sub_cancel_left, List.getElem?_drop, Nat.add_sub_cancel' hge]; exact hb
 have hκ : ∀ b ℓ, g1.κ b = some ℓ → g2.κ b = some (backLoc π ℓ) := by
  intro b ℓ hb
  show outK is π g.κ g1.κ b = _
  unfold outK
  split
  · rename_i ℓ0 hk
    split
    · rename_i hn
      have := e.kdom b (h.kdom b _ hk) (by simp [partG, inK, hk, hn])
      rw [this] at hb; cases hb
    · simp [hb]
  · simp [hb]
 have hprot : ∀ b ℓ, g.κ b = some ℓ → rnLoc is ℓ = none → g2.κ b = some ℓ ∧ g1.G b = g.G b ∧ w1.heap[b]? = w.heap[b]? := by
  intro b ℓ hk hn
  have hb := h.kdom b _ hk
  have h0 : (partG is g).κ b = none := by simp [partG, inK, hk, hn]
  exact ⟨by simp [g2, outK, hk, hn], e.gsame b hb h0, e.blk b hb h0⟩
 have hrn : ∀ i, i ∉ is → is.findIdx? (Nat.beq i) = none := by
  intro i hi
  cases hf : is.findIdx? (Nat.beq i) with
  | none => rfl
  | some l => exact absurd (List.mem_of_getElem? (find_some hf)) hi
 have hrep : ∀ {d v}, RepV X g1.φ g1.G w1 d v → RepV X g2.φ g2.G w1 (ren π d) v := fun hr => rep_ren hφ2 hr
 have hsto : ∀ (i b : Nat) cs, (mergeS π is sto sto1)[i]? = some cs → g2.φ[i]? = some b →
  (∃ l cs1, sto1[l]? = some cs1 ∧ cs = cs1.map (ren π) ∧ π l = i ∧ g1.φ[l]? = some b) ∨ (i ∉ is ∧ sto[i]? = some cs ∧ g.φ[i]? = some b) := by
  intro i b cs hi hb
  rcases Nat.lt_or_ge i sto.length with hlt | hge
  · have hb' : g.φ[i]? = some b := by
     have : (g.φ ++ g1.φ.drop is.length)[i]? = some b := hb
     rwa [List.getElem?_append_left (by omega)] at this
    by_cases hmem : i ∈ is
    · obtain ⟨l, hl⟩ := List.mem_iff_getElem?.1 hmem
      rw [merge_in π is sto sto1 l i p.nd hm hlt hl] at hi
      cases hs : sto1[l]? with
      | none => rw [hs] at hi; cases hi
      | some cs1 =>
       rw [hs] at hi; cases hi
       refine .inl ⟨l, cs1, hs, rfl, by rw [← hπ]; exact pi_in hl, ?_⟩
       have hll : l < g1.φ.length := by rw [h1.slen]; exact (List.getElem?_eq_some_iff.1 hs).1
       have h0 := List.getElem?_eq_getElem hll
       rw [hin l i _ hl h0] at hb'; cases hb'; exact h0
    · rw [merge_out π is sto sto1 i hm hlt hmem] at hi
      exact .inr ⟨hmem, hi, hb'⟩
  · obtain ⟨k, rfl⟩ := Nat.exists_eq_add_of_le hge
    rw [merge_new π is sto sto1 k hm] at hi
    cases hs : sto1[is.length + k]? with
    | none => rw [hs] at hi; cases hi
    | some cs1 =>
     rw [hs] at hi; cases hi
     refine .inl ⟨is.length + k, cs1, hs, rfl, by rw [← hπ]; simp [pi], ?_⟩
     have : (g.φ ++ g1.φ.drop is.length)[sto.length + k]? = some b := hb
     rw [List.getElem?_append_right (by omega), hN, Nat.add_sub_cancel_left, List.getElem?_drop] at this
     exact this
 refine ⟨g2, ⟨rfl, ?_, ?_, ?_, ?_, ?_, h1.gdom, h1.glob.mono (fun b ob hm hb _ => by have := (h.glob b ob hm).1; simp [g2, outK, hb, this]) (fun _ _ _ _ _ => rfl)⟩, ⟨e.size, e.os, e.tape, e.output, fun b hb hn => e.blk b hb (by simp [partG, inK, hn]), e.cell, e.gmono, fun b hb hn => e.gsame b hb (by simp [partG, inK, hn]), ?_, ?_⟩⟩
 · intro t d' v' hd hv
   cases t with
   | succ t => simp at hd
   | zero => cases hd; cases hv; exact hrep (h1.rep 0 d v rfl rfl)
 · rw [merge_length π is sto sto1 hm, ← h1.slen]
   simp [g2, hN]
 · intro i b cs hb hi
   rcases hsto i b cs hi hb with ⟨l, cs1, hs1, rfl, hl, hb1⟩ | ⟨hni, hs0, hb0⟩
   · refine (h1.obj l b cs1 hb1 hs1).conv (arrOf_ren _ _) (by intro e; subst e; rfl) (fun b k => ⟨by rw [hκ _ _ k, backLoc, hl], id, fun _ => ⟨rfl, rfl⟩⟩) (fun d v hd hr => hr.closed hd) (fun j c hj => ?_)
     simp only [List.getElem?_map, Option.map_eq_some_iff] at hj
     obtain ⟨c0, h0, rfl⟩ := hj
     exact ⟨c0, h0, fun v hr => hrep hr⟩
   · refine (h.obj i b cs hb0 hs0).map (fun b k => ?_) (fun d v hr => ?_)
     · obtain ⟨k2, hG, hblk⟩ := hprot b _ k (by simp [rnLoc, hrn i hni])
       exact ⟨k2, fun g0 => hG.trans g0, fun o => ⟨World.cell?_of_block (w := w) (a := ⟨b, o, none⟩) hblk, World.frozen?_of_block (w := w) (a := ⟨b, o, none⟩) hblk⟩⟩
     exact hr.mono (fun i b h => by
      show (g.φ ++ _)[i]? = _
      rw [List.getElem?_append_left (List.getElem?_eq_some_iff.1 h).1]; exact h) e.gmono e.cell
 · intro ℓ md ty l a len cap ho hmd
   generalize hx : D.sl md ty l = x at ho
   generalize hy : Value.slice (some a) len cap = y at ho
   have fin : ∀ ℓ0, Occ g1.φ w1 [d] [v] sto1 ℓ0 (.sl md ty l) (.slice (some a) len cap) → backLoc π ℓ0 = ℓ → Own1 g2.κ g2.G w1 ℓ ty.size l.length a cap := by
    intro ℓ0 ho0 hb
    obtain ⟨k, gg, sp⟩ := h1.own _ _ _ _ _ _ _ ho0 hmd
    exact ⟨by rw [hκ _ _ k, hb], gg, sp⟩
   cases ho with
   | leaf hd hv =>
    rename_i t
    cases t with
    | succ t => simp at hd
    | zero =>
     simp at hd hv; subst hx; subst hy
     have := ren_own hd
     subst this; subst hv
     exact fin _ (.leaf rfl rfl) rfl
   | agg hd hv hj he =>
    rename_i t _ _ _
    cases t with
    | succ t => simp at hd
    | zero =>
     simp at hd hv; subst hx; subst hy; subst hv
     obtain ⟨cs0, rfl, rfl⟩ := ren_agg hd
     simp only [List.getElem?_map, Option.map_eq_some_iff] at hj
     obtain ⟨c0, h0, hj⟩ := hj
     have := ren_own hj
     subst this
     exact fin _ (.agg rfl rfl h0 he) rfl
   | tup hd hv hj he =>
    rename_i t _ _ _
    cases t with
    | succ t => simp at hd
    | zero =>
     simp at hd hv; subst hx; subst hy; subst hv
     obtain ⟨cs0, rfl, rfl⟩ := ren_tup hd
     simp only [List.getElem?_map, Option.map_eq_some_iff] at hj
     obtain ⟨c0, h0, hj⟩ := hj
     have := ren_own hj
     subst this
     exact fin _ (.tup rfl rfl h0 he) rfl
   | cell hi hb hj hv =>
    rename_i i j b cs
    subst hx; subst hy
    rcases hsto i b cs hi hb with ⟨l1, cs1, hs1, rfl, hl, hb1⟩ | ⟨hni, hs0, hb0⟩
    · simp only [List.getElem?_map, Option.map_eq_some_iff] at hj
      obtain ⟨c0, h0, hj⟩ := hj
      have := ren_own hj
      subst this
      exact fin (.cell l1 j) (.cell hs1 hb1 h0 hv) (by simp [backLoc, hl])
    · have kb := (h.objS hb0 hs0 hj).k
      obtain ⟨_, _, hblk⟩ := hprot b _ kb (by simp [rnLoc, hrn i hni])
      have hv0 : w.cell? ⟨b, j, none⟩ = some (.slice (some a) len cap) := by
       rw [World.cell?_of_block (w := w) (w' := w1) (a := ⟨b, j, none⟩) hblk] at hv; exact hv
      obtain ⟨k, gg, sp⟩ := h.own _ _ _ _ _ _ _ (.cell hs0 hb0 hj hv0) hmd
      obtain ⟨k2, hG, hblk2⟩ := hprot _ _ k (by simp [rnLoc, hrn i hni])
      refine ⟨k2, hG.trans gg, fun jj q1 q2 => ?_⟩
      obtain ⟨⟨u, hu⟩, hf⟩ := sp jj q1 q2
      exact ⟨⟨u, by rw [World.cell?_of_block (w := w) (a := ⟨a.block, a.off + jj, none⟩) hblk2]; exact hu⟩, by rw [World.frozen?_of_block (w := w) (a := ⟨a.block, a.off + jj, none⟩) hblk2]; exact hf⟩
 · intro b ℓ hb
   have hb' : outK is π g.κ g1.κ b = some ℓ := hb
   unfold outK at hb'
   split at hb'
   · rename_i ℓ0 hk
     exact Nat.lt_of_lt_of_le (h.kdom b _ hk) e.size
   · cases hk : g1.κ b with
     | none => rw [hk] at hb'; cases hb'
     | some ℓ' => exact h1.kdom b ℓ' hk
 · intro b hb hn
   have := e.kdom b hb (by simp [partG, inK, hn])
   show outK is π g.κ g1.κ b = none
   simp [outK, hn, this]
 · intro i b hb
   show (g.φ ++ _)[i]? = _
   rw [List.getElem?_append_left (List.getElem?_eq_some_iff.1 hb).1]; exact hb
theorem CallPost.mono_call {f : FuncId} {vals : Array Value} {w : World} {Q Q' : Ending → World → Prop} (h : CallsOp P f vals w Q) (hq : ∀ e w', Q e w' → Q' e w') : CallsOp P f vals w Q' := by
 rcases h with ⟨h1, h2⟩ | ⟨v, w', h1, h2⟩
 · exact .inl ⟨h1, h2.mono hq⟩
 · exact .inr ⟨v, w', h1, hq _ _ h2⟩
theorem lift_sound {f : FuncId} {c : Con} (hc : ConOk P X f c) {is : List Nat} {args largs : List D} {sto lsto : Sto} (p : Part is args largs sto lsto) {K : D → Sto → Option R} {r : R} {g : Gh} {w : World} {vals : List Value}
 (h : c R largs lsto (fun d sto1 => K (ren (pi is sto.length) d) (mergeS (pi is sto.length) is sto sto1)) = some r) (hs : Sim X g w args vals sto) : CallsOp P f vals.toArray w (CallPost X g w K r) := by
 refine CallPost.mono_call (hc R largs lsto _ r _ w vals h (hs.part p)) (fun e w' hp => ?_)
 obtain ⟨v, d, sto', g', he, hk, h1, e1⟩ := hp
 obtain ⟨g2, h2, e2⟩ := hs.unpart p h1 e1
 exact ⟨v, _, _, g2, he, hk, h2, e2⟩
end
end Go.Ev
namespace Go.Ev
inductive LC where
 | lit (d : D) | int (k : IntKind) | bool | str | err | sl (m : Md) (t : Ty) | arr (t : Ty)
inductive TC where
 | l (c : LC) | agg (cs : List LC)
inductive SC where
 | leaf (c : LC) | agg (cs : List LC) | tup (cs : List TC) | box (cs : List LC) | fn (f : FuncId) (cs : List LC)
@[reducible] def denL : List LC → Type → Type
 | [], T => T
 | .lit _ :: r, T => denL r T
 | .int _ :: r, T => Int × denL r T
 | .bool :: r, T => Bool × denL r T
 | .str :: r, T => List UInt8 × denL r T
 | .err :: r, T => Err × denL r T
 | .sl _ t :: r, T => List t.den × denL r T
 | .arr t :: r, T => List t.den × denL r T
@[reducible] def denT : List TC → Type → Type
 | [], T => T
 | .l c :: r, T => denL [c] (denT r T)
 | .agg cs :: r, T => denL cs (denT r T)
@[reducible] def denE : List SC → Type → Type
 | [], T => T
 | .leaf c :: r, T => denL [c] (denE r T)
 | .agg cs :: r, T => denL cs (denE r T)
 | .tup cs :: r, T => denT cs (denE r T)
 | .box cs :: r, T => denL cs (denE r T)
 | .fn _ cs :: r, T => denL cs (denE r T)
@[reducible] def denR : List (List LC) → Type → Type
 | [], T => T
 | cs :: r, T => denL cs (denR r T)
def mkL : (cs : List LC) → {T : Type} → denL cs T → List D × T
 | [], _, x => ([], x)
 | .lit d :: r, _, x => let p := mkL r x; (d :: p.1, p.2)
 | .int k :: r, _, x => let p := mkL r x.2; (.int k x.1 :: p.1, p.2)
 | .bool :: r, _, x => let p := mkL r x.2; (.bool x.1 :: p.1, p.2)
 | .str :: r, _, x => let p := mkL r x.2; (.str x.1 :: p.1, p.2)
 | .err :: r, _, x => let p := mkL r x.2; (.err x.1 :: p.1, p.2)
 | .sl m t :: r, _, x => let p := mkL r x.2; (.sl m t x.1 :: p.1, p.2)
 | .arr t :: r, _, x => let p := mkL r x.2; (.arr t x.1 :: p.1, p.2)
def mkT : (cs : List TC) → {T : Type} → denT cs T → List D × T
 | [], _, x => ([], x)
 | .l c :: r, _, x => let p := mkL [c] x; let q := mkT r p.2; (p.1.headD .any :: q.1, q.2)
 | .agg cs :: r, _, x => let p := mkL cs x; let q := mkT r p.2; (.agg p.1 :: q.1, q.2)
def mkE : (cs : List SC) → {T : Type} → denE cs T → List D × T
 | [], _, x => ([], x)
 | .leaf c :: r, _, x => let p := mkL [c] x; let q := mkE r p.2; (p.1.headD .any :: q.1, q.2)
 | .agg cs :: r, _, x => let p := mkL cs x; let q := mkE r p.2; (.agg p.1 :: q.1, q.2)
 | .tup cs :: r, _, x => let p := mkT cs x; let q := mkE r p.2; (.tup p.1 :: q.1, q.2)
 | .box cs :: r, _, x => let p := mkL cs x; let q := mkE r p.2; (.box p.1 :: q.1, q.2)
 | .fn f cs :: r, _, x => let p := mkL cs x; let q := mkE r p.2; (.fn f p.1 :: q.1, q.2)
def mkR : (cs : List (List LC)) → {T : Type} → denR cs T → List (List D) × T
 | [], _, x => ([], x)
 | cs :: r, _, x => let p := mkL cs x; let q := mkR r p.2; (p.1 :: q.1, q.2)
mutual
def sameD : D → D → Bool
 | .any, .any | .nilp, .nilp | .nils, .nils | .nilf, .nilf => true
 | .int k n, .int k' n' => match decEq k k', decEq n n' with
  | .isTrue _, .isTrue _ => true
  | _, _ => false
 | .bool b, .bool b' => b == b'
 | .ptr i o, .ptr i' o' => Nat.beq i i' && Nat.beq o o'
 | .hw i, .hw i' => Nat.beq i i'
 | .fn f cs, .fn f' cs' => Nat.beq f f' && sameL cs cs'
 | .agg cs, .agg cs' | .tup cs, .tup cs' | .box cs, .box cs' => sameL cs cs'
 | _, _ => false
def sameL : List D → List D → Bool
 | [], [] => true
 | a :: r, b :: s => sameD a b && sameL r s
 | _, _ => false
end
def decL : (cs : List LC) → {T : Type} → List D → Option T → Option (denL cs T)
 | [], _, [], k => k
 | .lit d :: r, _, x :: ds, k => match sameD d x with
  | true => decL r ds k
  | false => none
 | .int k :: r, _, .int k' n :: ds, t => match decEq k k', decL r ds t with
  | .isTrue _, some x => some (n, x)
  | _, _ => none
 | .bool :: r, _, .bool b :: ds, t => match decL r ds t with
  | some x => some (b, x)
  | none => none
 | .str :: r, _, .str b :: ds, t => match decL r ds t with
  | some x => some (b, x)
  | none => none
 | .err :: r, _, .err b :: ds, t => match decL r ds t with
  | some x => some (b, x)
  | none => none
 | .sl m t :: r, _, .sl m' t' l :: ds, k => match decEq m m', castL t' t l, decL r ds k with
  | .isTrue _, some l, some x => some (l, x)
  | _, _, _ => none
 | .arr t :: r, _, .arr t' l :: ds, k => match castL t' t l, decL r ds k with
  | some l, some x => some (l, x)
  | _, _ => none
 | _, _, _, _ => none
def decT : (cs : List TC) → {T : Type} → List D → Option T → Option (denT cs T)
 | [], _, [], k => k
 | .l c :: r, _, d :: ds, k => decL [c] [d] (decT r ds k)
 | .agg cs :: r, _, .agg xs :: ds, k => decL cs xs (decT r ds k)
 | _, _, _, _ => none
def decE : (cs : List SC) → {T : Type} → List D → Option T → Option (denE cs T)
 | [], _, [], k => k
 | .leaf c :: r, _, d :: ds, k => decL [c] [d] (decE r ds k)
 | .agg cs :: r, _, .agg xs :: ds, k => decL cs xs (decE r ds k)
 | .tup cs :: r, _, .tup xs :: ds, k => decT cs xs (decE r ds k)
 | .box cs :: r, _, .box xs :: ds, k => decL cs xs (decE r ds k)
 | .fn f cs :: r, _, .fn f' xs :: ds, k => match Nat.beq f f' with
  | true => decL cs xs (decE r ds k)
  | false => none
 | _, _, _, _ => none
def decR : (cs : List (List LC)) → {T : Type} → List (List D) → Option T → Option (denR cs T)
 | [], _, [], k => k
 | cs :: r, _, xs :: ds, k => decL cs xs (decR r ds k)
 | _, _, _, _ => none
mutual
theorem sameD_eq : ∀ {a b : D}, sameD a b = true → a = b
 | .any, b, h => by cases b <;> simp [sameD] at h ⊢
 | .nilp, b, h => by cases b <;> simp [sameD] at h ⊢
 | .nils, b, h => by cases b <;> simp [sameD] at h ⊢
 | .nilf, b, h => by cases b <;> simp [sameD] at h ⊢
 | .int k n, b, h => by
  cases b <;> simp only [sameD] at h <;> try cases h
  rename_i k' n'
  split at h
  · rename_i h1 h2 _ _; rw [h1, h2]
  · cases h
 | .bool x, b, h => by cases b <;> simp [sameD] at h ⊢; exact h
 | .ptr i o, b, h => by
  cases b <;> simp only [sameD] at h <;> try cases h
  simp only [Bool.and_eq_true] at h
  rw [Nat.eq_of_beq_eq_true h.1, Nat.eq_of_beq_eq_true h.2]
 | .fn f cs, b, h => by
  cases b <;> simp only [sameD] at h <;> try cases h
  simp only [Bool.and_eq_true] at h
  rw [Nat.eq_of_beq_eq_true h.1, sameL_eq h.2]
 | .agg cs, b, h => by
  cases b <;> simp only [sameD] at h <;> try cases h
  rw [sameL_eq h]
 | .tup cs, b, h => by
  cases b <;> simp only [sameD] at h <;> try cases h
  rw [sameL_eq h]
 | .box cs, b, h => by
  cases b <;> simp only [sameD] at h <;> try cases h
  rw [sameL_eq h]
 | .hw i, b, h => by
  cases b <;> simp only [sameD] at h <;> try cases h
  rw [Nat.eq_of_beq_eq_true h]
 | .hd _ _ _ _, b, h => by cases b <;> simp [sameD] at h
 | .ep _ _ _ _, b, h => by cases b <;> simp [sameD] at h
 | .arr _ _, b, h => by cases b <;> simp [sameD] at h
 | .str _, b, h => by cases b <;> simp [sameD] at h
 | .err _, b, h => by cases b <;> simp [sameD] at h
 | .sl _ _ _, b, h => by cases b <;> simp [sameD] at h
theorem sameL_eq : ∀ {a b : List D}, sameL a b = true → a = b
 | [], b, h => by cases b <;> simp [sameL] at h ⊢
 | x :: r, b, h => by
  cases b <;> simp only [sameL] at h <;> try cases h
  simp only [Bool.and_eq_true] at h
  rw [sameD_eq h.1, sameL_eq h.2]
end
theorem decL_mk : ∀ (cs : List LC) {T : Type} (ds : List D) (t : Option T) (x : denL cs T), decL cs ds t = some x → ds = (mkL cs x).1 ∧ t = some (mkL cs x).2
 | [], _, ds, t, x, h => by
  cases ds <;> simp only [decL] at h
  · exact ⟨rfl, h⟩
  · cases h
 | .lit d :: r, _, ds, t, x, h => by
  cases ds <;> simp only [decL] at h
  · cases h
  · split at h
    · rename_i hs
      obtain ⟨h1, h2⟩ := decL_mk r _ _ _ h
      rw [← sameD_eq hs]
      exact ⟨by simp only [mkL]; rw [← h1], h2⟩
    · cases h
 | .int k :: r, _, ds, t, x, h => by
  rcases ds with _ | ⟨d, ds⟩
  · cases h
  · cases d <;> simp only [decL] at h <;> try cases h
    split at h
    · rename_i he _ _ hx
      cases h
      subst he
      obtain ⟨h1, h2⟩ := decL_mk r _ _ _ hx
      exact ⟨by simp only [mkL]; rw [← h1], h2⟩
    · cases h
 | .bool :: r, _, ds, t, x, h => by
  rcases ds with _ | ⟨d, ds⟩
  · cases h
  · cases d <;> simp only [decL] at h <;> try cases h
    split at h
    · rename_i hx
      cases h
      obtain ⟨h1, h2⟩ := decL_mk r _ _ _ hx
      exact ⟨by simp only [mkL]; rw [← h1], h2⟩
    · cases h
 | .str :: r, _, ds, t, x, h => by
  rcases ds with _ | ⟨d, ds⟩
  · cases h
  · cases d <;> simp only [decL] at h <;> try cases h
    split at h
    · rename_i hx
      cases h
      obtain ⟨h1, h2⟩ := decL_mk r _ _ _ hx
      exact ⟨by simp only [mkL]; rw [← h1], h2⟩
    · cases h
 | .err :: r, _, ds, t, x, h => by
  rcases ds with _ | ⟨d, ds⟩
  · cases h
  · cases d <;> simp only [decL] at h <;> try cases h
    split at h
    · rename_i hx
      cases h
      obtain ⟨h1, h2⟩ := decL_mk r _ _ _ hx
      exact ⟨by simp only [mkL]; rw [← h1], h2⟩
    · cases h
 | .sl m ty :: r, _, ds, t, x, h => by
  rcases ds with _ | ⟨d, ds⟩
  · cases h
  · cases d <;> simp only [decL] at h <;> try cases h
    split at h
    · rename_i he l _ _ hl hx
      cases h
      subst he
      obtain ⟨e, hl⟩ := castL_some hl
      subst e
      subst hl
      obtain ⟨h1, h2⟩ := decL_mk r _ _ _ hx
      exact ⟨by simp only [mkL]; rw [← h1], h2⟩
    · cases h
 | .arr ty :: r, _, ds, t, x, h => by
  rcases ds with _ | ⟨d, ds⟩
  · cases h
  · cases d <;> simp only [decL] at h <;> try cases h
    split at h
    · rename_i l _ _ hl hx
      cases h
      obtain ⟨e, hl⟩ := castL_some hl
      subst e
      subst hl
      obtain ⟨h1, h2⟩ := decL_mk r _ _ _ hx
      exact ⟨by simp only [mkL]; rw [← h1], h2⟩
    · cases h
theorem decT_mk : ∀ (cs : List TC) {T : Type} (ds : List D) (t : Option T) (x : denT cs T), decT cs ds t = some x → ds = (mkT cs x).1 ∧ t = some (mkT cs x).2
 | [], _, ds, t, x, h => by
  cases ds <;> simp only [decT] at h
  · exact ⟨rfl, h⟩
  · cases h
 | .l c :: r, _, ds, t, x, h => by
  rcases ds with _ | ⟨d, ds⟩
  · cases h
  · simp only [decT] at h
    obtain ⟨h1, h2⟩ := decL_mk [c] _ _ _ h
    obtain ⟨h3, h4⟩ := decT_mk r _ _ _ h2
    exact ⟨by simp only [mkT]; rw [← h3, ← h1]; rfl, h4⟩
 | .agg cs :: r, _, ds, t, x, h => by
  rcases ds with _ | ⟨d, ds⟩
  · cases h
  · cases d <;> simp only [decT] at h <;> try cases h
    obtain ⟨h1, h2⟩ := decL_mk cs _ _ _ h
    obtain ⟨h3, h4⟩ := decT_mk r _ _ _ h2
    exact ⟨by simp only [mkT]; rw [← h3, ← h1], h4⟩
theorem decE_mk : ∀ (cs : List SC) {T : Type} (ds : List D) (t : Option T) (x : denE cs T), decE cs ds t = some x → ds = (mkE cs x).1 ∧ t = some (mkE cs x).2
 | [], _, ds, t, x, h => by
  cases ds <;> simp only [decE] at h
  · exact ⟨rfl, h⟩
  · cases h
 | .leaf c :: r, _, ds, t, x, h => by
  rcases ds with _ | ⟨d, ds⟩
  · cases h
  · simp only [decE] at h
    obtain ⟨h1, h2⟩ := decL_mk [c] _ _ _ h
    obtain ⟨h3, h4⟩ := decE_mk r _ _ _ h2
    exact ⟨by simp only [mkE]; rw [← h3, ← h1]; rfl, h4⟩
 | .agg cs :: r, _, ds, t, x, h => by
  rcases ds with _ | ⟨d, ds⟩
  · cases h
  · cases d <;> simp only [decE] at h <;> try cases h
    obtain ⟨h1, h2⟩ := decL_mk cs _ _ _ h
    obtain ⟨h3, h4⟩ := decE_mk r _ _ _ h2
    exact ⟨by simp only [mkE]; rw [← h3, ← h1], h4⟩
 | .tup cs :: r, _, ds, t, x, h => by
  rcases ds with _ | ⟨d, ds⟩
  · cases h
  · cases d <;> simp only [decE] at h <;> try cases h
    obtain ⟨h1, h2⟩ := decT_mk cs _ _ _ h
    obtain ⟨h3, h4⟩ := decE_mk r _ _ _ h2
    exact ⟨by simp only [mkE]; rw [← h3, ← h1], h4⟩
 | .box cs :: r, _, ds, t, x, h => by
  rcases ds with _ | ⟨d, ds⟩
  · cases h
  · cases d <;> simp only [decE] at h <;> try cases h
    obtain ⟨h1, h2⟩ := decL_mk cs _ _ _ h
    obtain ⟨h3, h4⟩ := decE_mk r _ _ _ h2
    exact ⟨by simp only [mkE]; rw [← h3, ← h1], h4⟩
 | .fn f cs :: r, _, ds, t, x, h => by
  rcases ds with _ | ⟨d, ds⟩
  · cases h
  · cases d <;> simp only [decE] at h <;> try cases h
    split at h
    · rename_i hf
      have := Nat.eq_of_beq_eq_true hf
      subst this
      obtain ⟨h1, h2⟩ := decL_mk cs _ _ _ h
      obtain ⟨h3, h4⟩ := decE_mk r _ _ _ h2
      exact ⟨by simp only [mkE]; rw [← h3, ← h1], h4⟩
    · cases h
theorem decR_mk : ∀ (cs : List (List LC)) {T : Type} (ds : List (List D)) (t : Option T) (x : denR cs T), decR cs ds t = some x → ds = (mkR cs x).1 ∧ t = some (mkR cs x).2
 | [], _, ds, t, x, h => by
  cases ds <;> simp only [decR] at h
  · exact ⟨rfl, h⟩
  · cases h
 | c :: r, _, ds, t, x, h => by
  rcases ds with _ | ⟨d, ds⟩
  · cases h
  · simp only [decR] at h
    obtain ⟨h1, h2⟩ := decL_mk c _ _ _ h
    obtain ⟨h3, h4⟩ := decR_mk r _ _ _ h2
    exact ⟨by simp only [mkR]; rw [← h3, ← h1], h4⟩
structure SCode where
 env : List SC
 sto : List (List LC)
@[reducible] def SCode.den (c : SCode) : Type := denE c.env (denR c.sto Unit)
def mkSt (c : SCode) (x : c.den) : St := let p := mkE c.env x; { env := p.1, sto := (mkR c.sto p.2).1 }
def decSt (c : SCode) (st : St) : Option c.den := decE c.env st.env (decR c.sto st.sto (some ()))
theorem decSt_mk {c : SCode} {st : St} {x : c.den} (h : decSt c st = some x) : st = mkSt c x := by
 obtain ⟨h1, h2⟩ := decE_mk _ _ _ _ h
 obtain ⟨h3, _⟩ := decR_mk _ _ _ _ h2
 obtain ⟨env, sto⟩ := st
 simp only at h1 h3
 simp only [mkSt, ← h1, ← h3]
theorem mkR_length : ∀ (cs : List (List LC)) {T : Type} (x : denR cs T), (mkR cs x).1.length = cs.length
 | [], _, _ => rfl
 | c :: r, _, x => by simp [mkR, mkR_length r]
def lconOf (c : SCode) (F : (R : Type) → (Exit → St → Option R) → c.den → Option R) : LCon := fun R st k => match decSt c st with
 | some x => F R k x
 | none => none
section
variable {R : Type} {cx : Cx}
theorem lok_iter {hc : FuncId → List D → Sto → (D → Sto → Option R) → Option R} {keep : List (Nat × LH)} {body : Code} {lh : LH} (c : SCode) (L : (R : Type) → Nat → (Exit → St → Option R) → c.den → Option R) (fuel : c.den → Nat)
 (B : (c.den → Option R) → (Exit → St → Option R) → c.den → Option R)
 (hkeep : (firstRegion body).bind (look keep) = some lh) (hcon : lh.con = some (lconOf c fun R k x => L R (fuel x) k x))
 (hstep : ∀ (recS : St → Option R) (k : Exit → St → Option R) (x : c.den), evCode cx hc keep body (mkSt c x) (fun e st' => match e with | .normal => recS (norm lh c.sto.length st') | e => k e (normO lh c.sto.length st')) = B (fun y => recS (mkSt c y)) k x)
 (h0 : ∀ k x, L R 0 k x = none) (hs : ∀ n k x, L R (n + 1) k x = B (L R n k) k x) : LOkR cx hc keep body := by
 intro lh' lc h1 h2 st k r h
 rw [hkeep] at h1; cases h1
 rw [hcon] at h2; cases h2
 unfold lconOf at h
 split at h
 · rename_i x hx
   have hmk := decSt_mk hx
   have hnn : norm lh st.sto.length = norm lh c.sto.length ∧ normO lh st.sto.length = normO lh c.sto.length := by
    cases hgc : lh.gc with
    | some m0 => exact ⟨funext fun s => norm_gc lh hgc _ _ s, funext fun s => norm_gc { env := lh.out, sto := [], out := [], con := none, gc := lh.gc } hgc _ _ s⟩
    | none =>
     have hlen : st.sto.length = c.sto.length := by
      have := norm_sto lh st.sto.length st rfl hgc
      rw [hmk] at this
      rw [← this]
      exact mkR_length _ _
     rw [hlen]; exact ⟨rfl, rfl⟩
   rw [hmk, hnn.1, hnn.2]
   refine ⟨fuel x, ?_⟩
   have key : ∀ n x, loopN (fun st k => evCode cx hc keep body st k) (norm lh c.sto.length) (fun e s => k e (normO lh c.sto.length s)) n (mkSt c x) = L R n k x := by
    intro n
    induction n with
    | zero => intro x; rw [h0]; rfl
    | succ n ih =>
     intro x
     rw [hs]
     unfold loopN
     have := hstep (loopN (fun st k => evCode cx hc keep body st k) (norm lh c.sto.length) (fun e s => k e (normO lh c.sto.length s)) n) k x
     have e : (fun y => loopN (fun st k => evCode cx hc keep body st k) (norm lh c.sto.length) (fun e s => k e (normO lh c.sto.length s)) n (mkSt c y)) = L R n k := funext ih
     rw [e] at this
     rw [← this]
     congr 1
   rw [key]; exact h
 · cases h
theorem jok_of {hc : FuncId → List D → Sto → (D → Sto → Option R) → Option R} {keep : List (Nat × LH)} {b : Code} {lh : LH} (c : SCode) (F : (R : Type) → (Exit → St → Option R) → c.den → Option R)
 (hkeep : joinAt keep b = some lh) (hcon : lh.con = some (lconOf c F))
 (hstep : ∀ (k : Exit → St → Option R) (x : c.den), evCode cx hc keep b (mkSt c x) (fun e st' => k e (normO lh lh.cut st')) = F R k x) : JOkR cx hc keep b := by
 refine ⟨fun lh' lc h1 h2 st k r h => ?_, fun id ops draw hb lh' lc h1 _ => (by rw [hb] at hkeep; cases hkeep)⟩
 rw [hkeep] at h1; cases h1
 rw [hcon] at h2; cases h2
 unfold lconOf at h
 split at h
 · rename_i x hx
   rw [decSt_mk hx, hstep]
   exact h
 · cases h
def isReg : Code → Bool
 | .region _ _ _ => true
 | _ => false
def regId : Code → Nat
 | .region id _ _ => id
 | _ => 0
def regOps : Code → Array Oper
 | .region _ ops _ => ops
 | _ => #[]
def AllSeq (cx : Cx) (hc : FuncId → List D → Sto → (D → Sto → Option R) → Option R) (b : Code) (lh : LH) (c : SCode) (F : (Exit → St → Option R) → c.den → Option R) : List (List Nat) → Prop
 | [] => True
 | l :: r => (∀ (k : Exit → St → Option R) (x : c.den), seqI cx hc (regOps b) l (mkSt c x) (fun st' => k .normal (normO lh lh.cut st')) = F k x) ∧ AllSeq cx hc b lh c F r
theorem AllSeq.get {hc : FuncId → List D → Sto → (D → Sto → Option R) → Option R} {b : Code} {lh : LH} {c : SCode} {F : (Exit → St → Option R) → c.den → Option R} : ∀ {ls : List (List Nat)}, AllSeq cx hc b lh c F ls → ∀ l, l ∈ ls →
 ∀ (k : Exit → St → Option R) (x : c.den), seqI cx hc (regOps b) l (mkSt c x) (fun st' => k .normal (normO lh lh.cut st')) = F k x
 | [], _, l, h => by simp at h
 | a :: r, ha, l, h => by
  rcases List.mem_cons.1 h with rfl | h
  · exact ha.1
  · exact AllSeq.get ha.2 l h
theorem rok_of {hc : FuncId → List D → Sto → (D → Sto → Option R) → Option R} {keep : List (Nat × LH)} {b : Code} {lh : LH} (c : SCode) (F : (R : Type) → (Exit → St → Option R) → c.den → Option R)
 (hb : isReg b = true) (hkeep : regAt keep (regId b) = some lh) (hcon : lh.con = some (lconOf c F)) (hnf : HcNF hc) (hb2 : BndOk cx hc) (ls : List (List Nat)) (hls : reps cx (regOps b) = ls)
 (hstep : AllSeq cx hc b lh c (F R) ls) : JOkR cx hc keep b := by
 cases b with
 | region id ops draw =>
  refine ⟨fun lh' lc h1 => (by cases h1), fun id' ops' draw' hb' lh' lc h1 h2 => ⟨hnf, fun st k r h => reps_exts hb2 hnf fun l hl => ?_⟩⟩
  cases hb'
  have hkeep : regAt keep id = some lh := hkeep
  rw [hkeep] at h1; cases h1
  rw [hcon] at h2; cases h2
  unfold lconOf at h
  split at h
  · rename_i x hx
    have hl' : l ∈ ls := by rw [← hls]; exact hl
    rw [decSt_mk hx]
    exact (hstep.get l hl' k x).trans h
  · cases h
 | _ => cases hb
end
end Go.Ev
namespace Go.Ev
theorem mkL_inj : ∀ (cs : List LC) {T : Type} {x y : denL cs T}, (mkL cs x).1 = (mkL cs y).1 → (mkL cs x).2 = (mkL cs y).2 → x = y
 | [], _, _, _, _, h => h
 | .lit d :: r, _, x, y, h1, h2 => mkL_inj r (List.cons.inj h1).2 h2
 | .int k :: r, _, x, y, h1, h2 => Prod.ext (D.int.inj (List.cons.inj h1).1).2 (mkL_inj r (List.cons.inj h1).2 h2)
 | .bool :: r, _, x, y, h1, h2 => Prod.ext (D.bool.inj (List.cons.inj h1).1) (mkL_inj r (List.cons.inj h1).2 h2)
 | .str :: r, _, x, y, h1, h2 => Prod.ext (D.str.inj (List.cons.inj h1).1) (mkL_inj r (List.cons.inj h1).2 h2)
 | .err :: r, _, x, y, h1, h2 => Prod.ext (D.err.inj (List.cons.inj h1).1) (mkL_inj r (List.cons.inj h1).2 h2)
 | .sl m t :: r, _, x, y, h1, h2 => Prod.ext (eq_of_heq (D.sl.inj (List.cons.inj h1).1).2.2) (mkL_inj r (List.cons.inj h1).2 h2)
 | .arr t :: r, _, x, y, h1, h2 => Prod.ext (eq_of_heq (D.arr.inj (List.cons.inj h1).1).2) (mkL_inj r (List.cons.inj h1).2 h2)
theorem mkL_length : ∀ (cs : List LC) {T : Type} (x : denL cs T), (mkL cs x).1.length = cs.length
 | [], _, _ => rfl
 | .lit _ :: r, _, x => by simp only [mkL, List.length_cons, mkL_length r x]
 | .int _ :: r, _, x | .bool :: r, _, x | .str :: r, _, x | .err :: r, _, x | .sl _ _ :: r, _, x | .arr _ :: r, _, x => by simp only [mkL, List.length_cons, mkL_length r x.2]
theorem mkL_one (c : LC) {T : Type} (x : denL [c] T) : ∃ d, (mkL [c] x).1 = [d] := by
 cases c <;> exact ⟨_, rfl⟩
theorem mkT_inj : ∀ (cs : List TC) {T : Type} {x y : denT cs T}, (mkT cs x).1 = (mkT cs y).1 → (mkT cs x).2 = (mkT cs y).2 → x = y
 | [], _, _, _, _, h => h
 | .l c :: r, _, x, y, h1, h2 => by
  obtain ⟨d, hd⟩ := mkL_one c x
  obtain ⟨d', hd'⟩ := mkL_one c y
  have h3 := (List.cons.inj h1).1
  rw [hd, hd'] at h3
  simp only [List.headD_cons] at h3
  subst h3
  exact mkL_inj [c] (hd.trans hd'.symm) (mkT_inj r (List.cons.inj h1).2 h2)
 | .agg cs :: r, _, x, y, h1, h2 => mkL_inj cs (D.agg.inj (List.cons.inj h1).1) (mkT_inj r (List.cons.inj h1).2 h2)
theorem mkE_inj : ∀ (cs : List SC) {T : Type} {x y : denE cs T}, (mkE cs x).1 = (mkE cs y).1 → (mkE cs x).2 = (mkE cs y).2 → x = y
 | [], _, _, _, _, h => h
 | .leaf c :: r, _, x, y, h1, h2 => by
  refine mkL_inj [c] ?_ (mkE_inj r (List.cons.inj h1).2 h2)
  have h := (List.cons.inj h1).1
  have lx := mkL_length [c] x
  have ly := mkL_length [c] y
  generalize (mkL [c] x).1 = a at h lx
  generalize (mkL [c] y).1 = b at h ly
  match a, b, lx, ly with
  | [p], [q], _, _ => simp only [List.headD_cons] at h; rw [h]
 | .agg cs :: r, _, x, y, h1, h2 => mkL_inj cs (D.agg.inj (List.cons.inj h1).1) (mkE_inj r (List.cons.inj h1).2 h2)
 | .tup cs :: r, _, x, y, h1, h2 => mkT_inj cs (D.tup.inj (List.cons.inj h1).1) (mkE_inj r (List.cons.inj h1).2 h2)
 | .box cs :: r, _, x, y, h1, h2 => mkL_inj cs (D.box.inj (List.cons.inj h1).1) (mkE_inj r (List.cons.inj h1).2 h2)
 | .fn f cs :: r, _, x, y, h1, h2 => mkL_inj cs (D.fn.inj (List.cons.inj h1).1).2 (mkE_inj r (List.cons.inj h1).2 h2)
theorem mkR_inj : ∀ (cs : List (List LC)) {T : Type} {x y : denR cs T}, (mkR cs x).1 = (mkR cs y).1 → (mkR cs x).2 = (mkR cs y).2 → x = y
 | [], _, _, _, _, h => h
 | c :: r, _, x, y, h1, h2 => mkL_inj c (List.cons.inj h1).1 (mkR_inj r (List.cons.inj h1).2 h2)
theorem mkSt_inj {c : SCode} {x y : c.den} (h : mkSt c x = mkSt c y) : x = y := by
 unfold mkSt at h
 simp only [St.mk.injEq] at h
 exact mkE_inj c.env h.1 (mkR_inj c.sto h.2 rfl)
inductive Src where
 | arg (j : Nat) | cell (l j : Nat) | cap (j i : Nat)
def ptrOf : D → Option Nat
 | .ptr i _ => some i
 | .hw i => some i
 | .hd i _ _ _ => some i
 | .ep i _ _ _ => some i
 | _ => none
def capsOf : D → List D
 | .fn _ cs => cs
 | _ => []
def srcOf (args : List D) (sto : Sto) (is : List Nat) : Src → Option Nat
 | .arg j => ptrOf (args.getD j .any)
 | .cell l j => ptrOf ((sto.getD (is.getD l 0) []).getD j .any)
 | .cap j i => ptrOf ((capsOf (args.getD j .any)).getD i .any)
def findIs (args : List D) (sto : Sto) : List Src → List Nat → Option (List Nat)
 | [], is => some is
 | s :: r, is => match srcOf args sto is s with
  | some i => match posOf is i, Nat.blt i sto.length with
   | none, true => findIs args sto r (is ++ [i])
   | _, _ => none
  | none => none
def prep (src : List Src) (sh : List Sh) (c : SCode) (args : List D) (sto : Sto) : Option (List Nat × c.den) :=
 match findIs args sto src [] with
 | some is => match unrenL is (shapeL sh args), rowsOf is sto is with
  | some largs, some lsto => match decSt c ⟨largs, lsto⟩ with
   | some x => some (is, x)
   | none => none
  | _, _ => none
 | none => none
theorem findIs_spec {args : List D} {sto : Sto} : ∀ (src : List Src) (is is' : List Nat), findIs args sto src is = some is' → is.Nodup → (∀ i, i ∈ is → i < sto.length) → is'.Nodup ∧ ∀ i, i ∈ is' → i < sto.length := by
 have step : ∀ {i : Nat} {is : List Nat}, posOf is i = none → Nat.blt i sto.length = true → is.Nodup → (∀ i, i ∈ is → i < sto.length) → (is ++ [i]).Nodup ∧ ∀ j, j ∈ is ++ [i] → j < sto.length := by
  intro i is hp hb hn hl
  refine ⟨?_, fun j hj => ?_⟩
  · rw [List.nodup_append]
    refine ⟨hn, List.nodup_cons.2 ⟨by simp, .nil⟩, fun a ha b hb' e => ?_⟩
    simp only [List.mem_singleton] at hb'
    subst hb'; subst e
    obtain ⟨l, hl⟩ := List.mem_iff_getElem?.1 ha
    have := find_at hn hl
    unfold posOf at hp
    rw [this] at hp; cases hp
  · simp only [List.mem_append, List.mem_singleton] at hj
    rcases hj with hj | rfl
    · exact hl j hj
    · exact Nat.le_of_ble_eq_true hb
 intro src
 induction src with
 | nil => intro is is' h hn hl; cases h; exact ⟨hn, hl⟩
 | cons s r ih =>
  intro is is' h hn hl
  simp only [findIs] at h
  split at h
  · split at h
    · rename_i h1 h2
      obtain ⟨h3, h4⟩ := step h1 h2 hn hl
      exact ih _ _ h h3 h4
    · cases h
  · cases h
theorem prep_part {src : List Src} {sh : List Sh} {c : SCode} {args : List D} {sto : Sto} {is : List Nat} {x : c.den} (h : prep src sh c args sto = some (is, x)) :
 Part is (shapeL sh args) (mkSt c x).env sto (mkSt c x).sto := by
 unfold prep at h
 split at h
 · rename_i is' hf
   split at h
   · rename_i largs lsto h1 h2
     split at h
     · rename_i x' hx
       cases h
       have hmk := decSt_mk hx
       obtain ⟨hn, hl⟩ := findIs_spec _ _ _ hf .nil (fun i h => by simp at h)
       obtain ⟨h3, h4⟩ := unrenL_spec (N := sto.length) h1
       obtain ⟨h5, h6⟩ := rowsOf_spec (N := sto.length) _ _ h2
       rw [← hmk]
       exact ⟨hn, hl, h3, by rw [← underL_all]; exact h4, h5, fun l i hi => h6 l i hi (hl i (List.mem_of_getElem? hi))⟩
     · cases h
   · cases h
 · cases h
end Go.Ev
namespace Go.Ev
section
variable {P : Program} {X : Cfg} {cx : Cx}
def conFn (src : List Src) (sh : List Sh) (ac : SCode) (rs : SC) (rows : List (List LC)) (F : ac.den → Option (SCode.den ⟨[rs], rows⟩)) : Con := fun _ args sto K =>
 match prep src sh ac args sto with
 | some (is, x) => (F x).bind fun y => K (ren (pi is sto.length) ((mkSt ⟨[rs], rows⟩ y).env.headD .any)) (mergeS (pi is sto.length) is sto (mkSt ⟨[rs], rows⟩ y).sto)
 | none => none
def conCalm (src : List Src) (sh : List Sh) (ac : SCode) (rs : SC) (F : ac.den → Option (denE [rs] Unit)) : Con := fun _ args sto K =>
 match prep src sh ac args sto with
 | some (is, x) => (F x).bind fun y => K (ren (pi is sto.length) ((mkE [rs] y).1.headD .any)) sto
 | none => none
theorem conFn_bnd {src sh ac rs rows F} (args : List D) (sto : Sto) : ∃ s : Option (D × Sto), ∀ (R : Type) K, conFn src sh ac rs rows F R args sto K = s.bind fun p => K p.1 p.2 := by
 unfold conFn
 cases prep src sh ac args sto with
 | none => exact ⟨none, fun _ _ => rfl⟩
 | some p =>
  refine ⟨(F p.2).map fun y => (ren (pi p.1 sto.length) ((mkSt ⟨[rs], rows⟩ y).env.headD .any), mergeS (pi p.1 sto.length) p.1 sto (mkSt ⟨[rs], rows⟩ y).sto), fun R K => ?_⟩
  show (F p.2).bind _ = _
  cases F p.2 <;> rfl
theorem conCalm_bnd {src sh ac rs F} (args : List D) (sto : Sto) : ∃ s : Option (D × Sto), (∀ (R : Type) K, conCalm src sh ac rs F R args sto K = s.bind fun p => K p.1 p.2) ∧ ∀ p, s = some p → p.2 = sto := by
 unfold conCalm
 cases prep src sh ac args sto with
 | none => exact ⟨none, fun _ _ => rfl, fun _ h => by cases h⟩
 | some p =>
  refine ⟨(F p.2).map fun y => (ren (pi p.1 sto.length) ((mkE [rs] y).1.headD .any), sto), fun R K => ?_, fun q h => ?_⟩
  · show (F p.2).bind _ = _
    cases F p.2 <;> rfl
  · cases hF : F p.2 with
    | none => rw [hF] at h; cases h
    | some y => rw [hF] at h; cases h; rfl
theorem shapeL_sim {g : Gh} {w : World} {args : List D} {vals : List Value} {sto : Sto} (h : Sim X g w args vals sto) (sh : List Sh) : Sim X g w (shapeL sh args) vals sto := by
 refine h.weaken (shapeL_length sh args) (fun t d' hd => ?_) rfl (fun i cs' hi => ⟨cs', hi, rfl, fun j d' hj => ⟨d', hj, .inl rfl⟩⟩)
 obtain ⟨d, h1, h2⟩ := shapeL_get sh args t d' hd
 rcases h2 with rfl | ⟨s, rfl⟩
 · exact ⟨_, h1, .inl rfl⟩
 · exact ⟨d, h1, .inr (.inr ⟨s, rfl⟩)⟩
theorem mkE_one (rs : SC) {T : Type} (x : denE [rs] T) : ∃ d, (mkE [rs] x).1 = [d] := by
 cases rs <;> exact ⟨_, rfl⟩
theorem mergeS_same (π : Nat → Nat) : ∀ (is : List Nat) (sto ls : Sto), ls.length = is.length → (∀ (l i : Nat), is[l]? = some i → ∃ cs, ls[l]? = some cs ∧ sto[i]? = some (cs.map (ren π))) → mergeS π is sto ls = sto
 | [], sto, [], _, _ => rfl
 | [], sto, _ :: _, h, _ => by cases h
 | _ :: _, sto, [], h, _ => by cases h
 | i :: is, sto, cs :: r, hl, h => by
  simp only [mergeS]
  obtain ⟨cs0, h1, h2⟩ := h 0 i rfl
  simp at h1; subst h1
  have e : sto.set i (cs.map (ren π)) = sto := by
   apply List.ext_getElem?; intro j
   by_cases hij : i = j
   · subst hij; rw [List.getElem?_set_self (List.getElem?_eq_some_iff.1 h2).1, h2]
   · rw [List.getElem?_set_ne hij]
  rw [e]
  exact mergeS_same π is sto r (by simpa using hl) (fun l i hi => by simpa using h (l + 1) i (by simpa using hi))
open Classical in
theorem conFn_ok {f : FuncId} {raw : Con} (hraw : ConOk P X f raw) {src : List Src} {sh : List Sh} {ac : SCode} {rs : SC} {rows : List (List LC)} (F : (R : Type) → (SCode.den ⟨[rs], rows⟩ → Option R) → ac.den → Option R)
 (hT : ∀ (R : Type) (K : D → Sto → Option R) (x : ac.den), raw R (mkSt ac x).env (mkSt ac x).sto K = F R (fun y => K ((mkSt ⟨[rs], rows⟩ y).env.headD .any) (mkSt ⟨[rs], rows⟩ y).sto) x) :
 ConOk P X f (conFn src sh ac rs rows fun x => F _ some x) := by
 intro R args sto K r g w vals h hs
 unfold conFn at h
 split at h
 · rename_i is x hp
   obtain ⟨y, hy, hK⟩ := Option.bind_eq_some_iff.1 h
   have p := prep_part hp
   have hs' := shapeL_sim hs sh
   let K0 : D → Sto → Option (SCode.den ⟨[rs], rows⟩) := fun d s => if h : ∃ y, mkSt ⟨[rs], rows⟩ y = ⟨[d], s⟩ then some (Classical.choose h) else none
   have one : ∀ y : SCode.den ⟨[rs], rows⟩, mkSt ⟨[rs], rows⟩ y = ⟨[(mkSt ⟨[rs], rows⟩ y).env.headD .any], (mkSt ⟨[rs], rows⟩ y).sto⟩ := by
    intro y
    obtain ⟨d, hd⟩ := mkE_one rs y
    simp only [mkSt, hd, List.headD_cons]
   have hK0 : ∀ y : SCode.den ⟨[rs], rows⟩, K0 ((mkSt ⟨[rs], rows⟩ y).env.headD .any) (mkSt ⟨[rs], rows⟩ y).sto = some y := by
    intro y
    have hex : ∃ y', mkSt ⟨[rs], rows⟩ y' = ⟨[(mkSt ⟨[rs], rows⟩ y).env.headD .any], (mkSt ⟨[rs], rows⟩ y).sto⟩ := ⟨y, one y⟩
    refine (dif_pos hex).trans ?_
    congr 1
    exact mkSt_inj ((Classical.choose_spec hex).trans (one y).symm)
   have h0 : raw _ (mkSt ac x).env (mkSt ac x).sto K0 = some y := by
    rw [hT, funext hK0]; exact hy
   refine CallPost.mono_call (hraw _ _ _ K0 y _ w vals h0 (hs'.part p)) (fun e w' hp => ?_)
   obtain ⟨v, d, sto', g', he, hk, h1, e1⟩ := hp
   obtain ⟨g2, h2, e2⟩ := hs'.unpart p h1 e1
   have hd : mkSt ⟨[rs], rows⟩ y = ⟨[d], sto'⟩ := by
    simp only [K0] at hk
    split at hk
    · rename_i hex
      have hspec := Classical.choose_spec hex
      have hch := Option.some.inj hk
      rw [hch] at hspec
      exact hspec
    · cases hk
   refine ⟨v, _, _, g2, he, ?_, h2, e2⟩
   rw [hd] at hK
   exact hK
 · cases h
open Classical in
theorem conCalm_ok {f : FuncId} {raw : Con} (hraw : ConOk P X f raw) {src : List Src} {sh : List Sh} {ac : SCode} {rs : SC} (F : (R : Type) → (denE [rs] Unit → Option R) → ac.den → Option R)
 (hT : ∀ (R : Type) (K : D → Sto → Option R) (x : ac.den), raw R (mkSt ac x).env (mkSt ac x).sto K = F R (fun y => K ((mkE [rs] y).1.headD .any) (mkSt ac x).sto) x) :
 ConOk P X f (conCalm src sh ac rs fun x => F _ some x) := by
 intro R args sto K r g w vals h hs
 unfold conCalm at h
 split at h
 · rename_i is x hp
   obtain ⟨y, hy, hK⟩ := Option.bind_eq_some_iff.1 h
   have p := prep_part hp
   have hs' := shapeL_sim hs sh
   let K0 : D → Sto → Option (denE [rs] Unit) := fun d s => if h : s = (mkSt ac x).sto ∧ ∃ y : denE [rs] Unit, (mkE [rs] y).1 = [d] then some (Classical.choose h.2) else none
   have one : ∀ y : denE [rs] Unit, (mkE [rs] y).1 = [(mkE [rs] y).1.headD .any] := by
    intro y
    obtain ⟨d, hd⟩ := mkE_one rs y
    rw [hd]; rfl
   have inj : ∀ y y' : denE [rs] Unit, (mkE [rs] y).1 = (mkE [rs] y').1 → y = y' := fun y y' h => mkE_inj [rs] h rfl
   have hK0 : ∀ y : denE [rs] Unit, K0 ((mkE [rs] y).1.headD .any) (mkSt ac x).sto = some y := by
    intro y
    have hex : (mkSt ac x).sto = (mkSt ac x).sto ∧ ∃ y' : denE [rs] Unit, (mkE [rs] y').1 = [(mkE [rs] y).1.headD .any] := ⟨rfl, y, one y⟩
    refine (dif_pos hex).trans ?_
    congr 1
    exact inj _ _ ((Classical.choose_spec hex.2).trans (one y).symm)
   have h0 : raw _ (mkSt ac x).env (mkSt ac x).sto K0 = some y := by
    rw [hT, funext hK0]; exact hy
   refine CallPost.mono_call (hraw _ _ _ K0 y _ w vals h0 (hs'.part p)) (fun e w' hp => ?_)
   obtain ⟨v, d, sto', g', he, hk, h1, e1⟩ := hp
   obtain ⟨g2, h2, e2⟩ := hs'.unpart p h1 e1
   obtain ⟨hsto, hd⟩ : sto' = (mkSt ac x).sto ∧ (mkE [rs] y).1 = [d] := by
    simp only [K0] at hk
    split at hk
    · rename_i hex
      have hspec := Classical.choose_spec hex.2
      have hch := Option.some.inj hk
      rw [hch] at hspec
      exact ⟨hex.1, hspec⟩
    · cases hk
   rw [hsto, mergeS_same _ _ _ _ p.len (fun l i hi => by obtain ⟨cs, a, b, _⟩ := p.obj l i hi; exact ⟨cs, a, b⟩)] at h2
   refine ⟨v, _, _, g2, he, ?_, h2, e2⟩
   rw [hd] at hK
   exact hK
 · cases h
end
end Go.Ev
namespace Go.Ev
def bodyC (fn : Func) : Code := match fn.body with
 | some c => c
 | none => .skip
def loopC (fn : Func) (i : Nat) : Code := (loopsIn (bodyC fn)).getD i .skip
section
variable {P : Program} {X : Cfg} {cx : Cx}
def AllCon (P : Program) (X : Cfg) : List (Nat × Con) → Prop
 | [] => True
 | p :: r => ConOk P X p.1 p.2 ∧ AllCon P X r
theorem AllCon.get : ∀ {l : List (Nat × Con)}, AllCon P X l → ∀ f c, look l f = some c → ConOk P X f c
 | [], _, f, c, h => by simp [look] at h
 | (a, x) :: r, h, f, c, hl => by
  unfold look at hl
  split at hl
  · rename_i he
    cases hl
    exact Nat.eq_of_beq_eq_true he ▸ h.1
  · exact AllCon.get h.2 f c hl
def AllFn (P : Program) : List (Nat × Func) → Prop
 | [] => True
 | p :: r => (P.funcs[p.1]? = some p.2 ∧ enters p.2 = true) ∧ AllFn P r
theorem AllFn.get : ∀ {l : List (Nat × Func)}, AllFn P l → ∀ f fn, look l f = some fn → P.funcs[f]? = some fn ∧ enters fn = true
 | [], _, f, c, h => by simp [look] at h
 | (a, x) :: r, h, f, c, hl => by
  unfold look at hl
  split at hl
  · rename_i he
    cases hl
    exact Nat.eq_of_beq_eq_true he ▸ h.1
  · exact AllFn.get h.2 f c hl
def BndC (calm : List Nat) (f : Nat) (c : Con) : Prop := ∀ args sto, ∃ s : Option (D × Sto), (∀ (R : Type) K, c R args sto K = s.bind fun p => K p.1 p.2) ∧ (calm.any (Nat.beq f) = true → ∀ p, s = some p → p.2 = sto)
def AllBnd (calm : List Nat) : List (Nat × Con) → Prop
 | [] => True
 | p :: r => BndC calm p.1 p.2 ∧ AllBnd calm r
theorem AllBnd.get {calm : List Nat} : ∀ {l : List (Nat × Con)}, AllBnd calm l → ∀ f, (l.map (·.1)).any (Nat.beq f) = true → ∃ c, look l f = some c ∧ BndC calm f c
 | [], _, f, h => by simp at h
 | (a, x) :: r, h, f, hl => by
  unfold look
  cases he : Nat.beq a f with
  | true => exact ⟨x, rfl, Nat.eq_of_beq_eq_true he ▸ h.1⟩
  | false =>
   refine AllBnd.get h.2 f ?_
   simp only [List.map_cons, List.any_cons, Bool.or_eq_true] at hl
   rcases hl with hl | hl
   · have := Nat.eq_of_beq_eq_true hl
     subst this
     rw [Nat.beq_refl] at he; cases he
   · exact hl
theorem bndCalm {calm : List Nat} {f : Nat} {src sh ac rs F} : BndC calm f (conCalm src sh ac rs F) := fun args sto =>
 let ⟨s, h1, h2⟩ := conCalm_bnd (src := src) (sh := sh) (ac := ac) (rs := rs) (F := F) args sto
 ⟨s, h1, fun _ => h2⟩
theorem bndFn {calm : List Nat} {f : Nat} (hf : calm.any (Nat.beq f) = false) {src sh ac rs rows F} : BndC calm f (conFn src sh ac rs rows F) := fun args sto =>
 let ⟨s, h1⟩ := conFn_bnd (src := src) (sh := sh) (ac := ac) (rs := rs) (rows := rows) (F := F) args sto
 ⟨s, h1, fun h => by rw [hf] at h; cases h⟩
def conOr (p : List D → Sto → Bool) (a b : Con) : Con := fun R args sto K => match p args sto with
 | true => a R args sto K
 | false => b R args sto K
theorem conOr_ok {p a b} {f : FuncId} (ha : ConOk P X f a) (hb : ConOk P X f b) : ConOk P X f (conOr p a b) := by
 intro R args sto K r g w vals h hs
 unfold conOr at h
 split at h
 · exact ha _ _ _ _ _ _ _ _ h hs
 · exact hb _ _ _ _ _ _ _ _ h hs
theorem bndOr {calm : List Nat} {f : Nat} {p a b} (ha : BndC calm f a) (hb : BndC calm f b) : BndC calm f (conOr p a b) := by
 intro args sto
 cases hp : p args sto with
 | true => obtain ⟨s, h1, h2⟩ := ha args sto; exact ⟨s, fun R K => by simp only [conOr, hp]; exact h1 R K, h2⟩
 | false => obtain ⟨s, h1, h2⟩ := hb args sto; exact ⟨s, fun R K => by simp only [conOr, hp]; exact h1 R K, h2⟩
def cmpsB (P : Program) (l : List Nat) : Bool := l.all fun t => match P.info? t with
 | some i => i.comparable
 | none => false
theorem cmps_ok {P : Program} {l : List Nat} (h : cmpsB P l = true) : ∀ t, l.any (Nat.beq t) = true → ∃ i, P.info? t = some i ∧ i.comparable = true := fun t ht => by
 have := List.all_eq_true.1 h t (any_beq ht)
 split at this
 · rename_i i hi; exact ⟨i, hi, this⟩
 · cases this
theorem csOk (hb : CxOk P X cx) (hm : P.follows .mixedOrders = true) (hc : AllCon P X cx.con) (hf : AllFn P cx.funs) (hbn : AllBnd cx.calm cx.con) (hbe : cx.bnd = cx.con.map (·.1)) : CsOk P X cx :=
 ⟨hb, hm, hc.get, hf.get, fun f h => hbn.get f (hbe ▸ h)⟩
def allEq (P : Program) : List (Nat × List EK) → Bool
 | [] => true
 | p :: r => match eqTB P p.1 p.2 with
  | true => allEq P r
  | false => false
theorem allEq_get : ∀ {l : List (Nat × List EK)}, allEq P l = true → ∀ t ks, look l t = some ks → eqTB P t ks = true
 | [], _, t, ks, h => by simp [look] at h
 | (a, x) :: r, h, t, ks, hl => by
  unfold allEq at h
  split at h
  · rename_i h1
    unfold look at hl
    split at hl
    · rename_i he
      cases hl
      rw [← Nat.eq_of_beq_eq_true he]; exact h1
    · exact allEq_get h t ks hl
  · cases h
def smallKeys : List (Nat × LH) → Bool
 | [] => true
 | p :: r => match Nat.blt p.1 1000000 with
  | true => smallKeys r
  | false => false
theorem look_big : ∀ {l : List (Nat × LH)} {n : Nat}, smallKeys l = true → look l (n + 1000000) = none
 | [], _, _ => rfl
 | (a, x) :: r, n, h => by
  unfold smallKeys at h
  split at h
  · rename_i hb
    have hlt : a < 1000000 := Nat.le_of_ble_eq_true hb
    unfold look
    have : Nat.beq a (n + 1000000) = false := by
     cases he : Nat.beq a (n + 1000000) with
     | false => rfl
     | true => have := Nat.eq_of_beq_eq_true he; omega
    rw [this]
    exact look_big h
  · cases h
theorem look_big2 : ∀ {l : List (Nat × LH)} {n : Nat}, smallKeys l = true → look l (n + 2000000) = none := fun {l n} h => by
 have e : n + 2000000 = (n + 1000000) + 1000000 := by omega
 rw [e]; exact look_big h
theorem joins_none {R : Type} {hc : FuncId → List D → Sto → (D → Sto → Option R) → Option R} {keep : List (Nat × LH)} (h : smallKeys keep = true) (c : Code) : ∀ c' ∈ joinsIn c, JOkR cx hc keep c' := by
 intro c' _
 refine ⟨fun lh lc h1 => ?_, fun id ops draw _ lh lc h1 => ?_⟩
 · obtain ⟨n, hn⟩ := joinAt_some h1
   rw [look_big h] at hn; cases hn
 · unfold regAt at h1
   rw [look_big2 h] at h1; cases h1
def joinC (fn : Func) (i : Nat) : Code := (joinsIn (bodyC fn)).getD i .skip
def jNone (keep : List (Nat × LH)) (c : Code) : Bool := match (joinAt keep c).isNone with
 | true => match c with
  | .region id _ _ => (regAt keep id).isNone
  | _ => true
 | false => false
def jChk (keep : List (Nat × LH)) (js : List Nat) : Nat → List Code → Bool
 | _, [] => true
 | i, c :: r => match js.any (Nat.beq i) with
  | true => jChk keep js (i + 1) r
  | false => match jNone keep c with
   | true => jChk keep js (i + 1) r
   | false => false
theorem jNone_ok {R : Type} {hc : FuncId → List D → Sto → (D → Sto → Option R) → Option R} {keep : List (Nat × LH)} {c : Code} (h : jNone keep c = true) : JOkR cx hc keep c := by
 unfold jNone at h
 split at h
 · rename_i h1
   refine ⟨fun lh lc h2 => (by rw [h2] at h1; cases h1), fun id ops draw hb lh lc h2 => ?_⟩
   subst hb
   simp only at h
   rw [h2] at h; cases h
 · cases h
theorem jChk_get {keep : List (Nat × LH)} {js : List Nat} : ∀ {l : List Code} {i0 : Nat}, jChk keep js i0 l = true → ∀ (j : Nat) c, l[j]? = some c → (i0 + j) ∈ js ∨ jNone keep c = true
 | [], _, _, j, c, h => by simp at h
 | a :: r, i0, h, j, c, hj => by
  unfold jChk at h
  have tail : jChk keep js (i0 + 1) r = true → ∀ j', (a :: r)[j' + 1]? = some c → (i0 + (j' + 1)) ∈ js ∨ jNone keep c = true := fun h' j' hj' => by
   have := jChk_get h' j' c (by simpa using hj')
   rw [show i0 + (j' + 1) = i0 + 1 + j' by omega]; exact this
  split at h
  · rename_i hany
    cases j with
    | zero =>
     obtain ⟨x, hx, he⟩ := List.any_eq_true.1 hany
     rw [Nat.add_zero, Nat.eq_of_beq_eq_true he]; exact .inl hx
    | succ j => exact tail h j hj
  · split at h
    · rename_i hn
      cases j with
      | zero => simp at hj; subst hj; exact .inr hn
      | succ j => exact tail h j hj
    · cases h
theorem joins_all {R : Type} {hc : FuncId → List D → Sto → (D → Sto → Option R) → Option R} {keep : List (Nat × LH)} {fn : Func} (js : List Nat) (hc1 : jChk keep js 0 (joinsIn (bodyC fn)) = true) (h : ∀ i, i ∈ js → JOkR cx hc keep (joinC fn i)) :
 ∀ c' ∈ joinsIn (bodyC fn), JOkR cx hc keep c' := by
 intro c' hc'
 obtain ⟨i, hi⟩ := List.mem_iff_getElem?.1 hc'
 rcases jChk_get hc1 i c' hi with h1 | h1
 · have := h i (by simpa using h1)
   unfold joinC at this
   rw [List.getD, hi] at this
   exact this
 · exact jNone_ok h1
def AllJ {R : Type} (cx : Cx) (hc : FuncId → List D → Sto → (D → Sto → Option R) → Option R) (keep : List (Nat × LH)) (fn : Func) : List Nat → Prop
 | [] => True
 | i :: r => JOkR cx hc keep (joinC fn i) ∧ AllJ cx hc keep fn r
theorem AllJ.get {R : Type} {hc : FuncId → List D → Sto → (D → Sto → Option R) → Option R} {keep : List (Nat × LH)} {fn : Func} : ∀ {js : List Nat}, AllJ cx hc keep fn js → ∀ i, i ∈ js → JOkR cx hc keep (joinC fn i)
 | [], _, i, h => by simp at h
 | a :: r, ha, i, h => by
  rcases List.mem_cons.1 h with rfl | h
  · exact ha.1
  · exact AllJ.get ha.2 i h
theorem hcN_nf {R : Type} (h : CsOk P X cx) (hf : cx.funs = []) (hbe : cx.bnd = cx.con.map (·.1)) (n : Nat) : HcNF (R := R) (hcN cx n) := by
 intro f args sto
 cases hl : look cx.con f with
 | some c =>
  have hm : cx.bnd.any (Nat.beq f) = true := by
   rw [hbe]
   have : ∀ (l : List (Nat × Con)), look l f = some c → (l.map (·.1)).any (Nat.beq f) = true := by
    intro l
    induction l with
    | nil => intro h; simp [look] at h
    | cons p r ih =>
     intro h
     obtain ⟨a, x⟩ := p
     unfold look at h
     simp only [List.map_cons, List.any_cons, Bool.or_eq_true]
     split at h
     · rename_i he; left; rw [Nat.eq_of_beq_eq_true he]; exact Nat.beq_refl f
     · exact .inr (ih h)
   exact this _ hl
  obtain ⟨c', hc', hs⟩ := h.bnd f hm
  rw [hl] at hc'; cases hc'
  obtain ⟨s, h1, _⟩ := hs args sto
  exact ⟨s, fun K => (hcN_con hl args sto K).trans (h1 R K)⟩
 | none =>
  refine ⟨none, fun K => ?_⟩
  cases n <;> simp [hcN, hl, hf, look]
theorem lok_none {R : Type} {hc : FuncId → List D → Sto → (D → Sto → Option R) → Option R} {keep : List (Nat × LH)} {c : Code} (h : ((firstRegion c).bind (look keep)).isNone = true) : LOkR cx hc keep c := by
 intro lh lc h1
 rw [h1] at h; cases h
theorem loops_all {R : Type} {hc : FuncId → List D → Sto → (D → Sto → Option R) → Option R} {keep : List (Nat × LH)} {fn : Func} (n : Nat) (hn : (loopsIn (bodyC fn)).length = n) (h : ∀ i, i < n → LOkR cx hc keep (loopC fn i)) : ∀ c' ∈ loopsIn (bodyC fn), LOkR cx hc keep c' := by
 intro c' hc'
 obtain ⟨i, hi⟩ := List.mem_iff_getElem?.1 hc'
 have hlt : i < n := hn ▸ (List.getElem?_eq_some_iff.1 hi).1
 have := h i hlt
 unfold loopC at this
 rw [List.getD, hi] at this
 exact this
theorem raw_ok (h : CsOk P X cx) (n : Nat) {f : FuncId} {fn : Func} {keep : List (Nat × LH)} {sh : List Sh} {rsh : List (Nat × List (Nat × Sh))} (hf : P.funcs[f]? = some fn) (he : enters fn = true) (hk : smallKeys keep = true)
 (hl : ∀ R, ∀ c' ∈ loopsIn (bodyC fn), LOkR (R := R) cx (hcN cx n) keep c') : ConOk P X f (fun _ args sto K => evBody cx (hcN cx n) keep sh rsh fn (bodyC fn) args sto K) := by
 have hb : fn.body = some (bodyC fn) := by
  unfold enters at he
  unfold bodyC
  cases hb : fn.body with
  | none => rw [hb] at he; simp at he
  | some c => rfl
 exact conOk_of h n hf he hb hl (fun R => joins_none hk _) (fun R args sto K r hr => hr)
theorem raw_ok2 (h : CsOk P X cx) (n : Nat) {f : FuncId} {fn : Func} {keep : List (Nat × LH)} {sh : List Sh} {rsh : List (Nat × List (Nat × Sh))} (hf : P.funcs[f]? = some fn) (he : enters fn = true)
 (hl : ∀ R, ∀ c' ∈ loopsIn (bodyC fn), LOkR (R := R) cx (hcN cx n) keep c') (hj : ∀ R, ∀ c' ∈ joinsIn (bodyC fn), JOkR (R := R) cx (hcN cx n) keep c') : ConOk P X f (fun _ args sto K => evBody cx (hcN cx n) keep sh rsh fn (bodyC fn) args sto K) := by
 have hb : fn.body = some (bodyC fn) := by
  unfold enters at he
  unfold bodyC
  cases hb : fn.body with
  | none => rw [hb] at he; simp at he
  | some c => rfl
 exact conOk_of h n hf he hb hl hj (fun R args sto K r hr => hr)
end
end Go.Ev
namespace Go.Ev
section
variable {P : Program} {X : Cfg}
def conNil (t : Ty) (cnn cnil : Con) : Con := fun R args sto K => match args with
 | [.sl _ t' l] => match castL t' t l with
  | some l => cnn R [.sl .nn t l] sto K
  | none => none
 | [.nils] => cnil R [.nils] sto K
 | _ => none
theorem sim_one {g : Gh} {w : World} {d d' : D} {v : Value} {sto : Sto} (h : Sim X g w [d] [v] sto) (hr : RepV X g.φ g.G w d' v) (hf : d'.free = true) : Sim X g w [d'] [v] sto := by
 refine h.re_id rfl (fun t x u hd hv' => ?_) (fun ℓ md t l a len cap ho hmd => ?_)
 · cases t with
   | succ t => simp at hd
   | zero => cases hd; cases hv'; exact hr
 · generalize hx : D.sl md t l = x at ho
   generalize hy : Value.slice (some a) len cap = y at ho
   cases ho with
   | leaf hd hv' => rename_i t; cases t <;> simp at hd; subst hd; subst hx; rw [(keeps_free1 hmd).2] at hf; cases hf
   | agg hd hv' hj he => rename_i t _ _ _; cases t <;> simp at hd; subst hd; subst hx; have := free1_get hf hj; rw [(keeps_free1 hmd).1] at this; cases this
   | tup hd hv' hj he => rename_i t _ _ _; cases t <;> simp at hd; subst hd; subst hx; have := free1_get hf hj; rw [(keeps_free1 hmd).1] at this; cases this
   | cell hi hb hj hv' => subst hx; subst hy; exact .cell hi hb hj hv'
theorem conNil_ok {f : FuncId} {t : Ty} {cnn cnil : Con} (h1 : ConOk P X f cnn) (h2 : ConOk P X f cnil)
 (hag : ∀ (R : Type) (sto : Sto) (K : D → Sto → Option R) (r : R), cnn R [.sl .nn t []] sto K = some r → cnil R [.nils] sto (fun d s => K ((Sh.own t).on d) s) = some r) : ConOk P X f (conNil t cnn cnil) := by
 intro R args sto K r g w vals h hs
 unfold conNil at h
 split at h
 · rename_i m t' l
   split at h
   · rename_i l' hl'
     obtain ⟨e, hl'⟩ := castL_some hl'
     subst e; subst hl'
     have hlen := hs.len
     match vals, hlen with
     | [v], _ =>
      have hr := hs.rep 0 _ v rfl rfl
      obtain ⟨a, cap, rfl⟩ := rep_slice_form hr
      rcases rep_slice_inv hr with ⟨rfl, rfl, _, rfl, _⟩ | ⟨rfl, ⟨p, rfl⟩, _, _, _, hmax⟩ | ⟨b, off, vs, rfl, _, hlc, _, hmax, hp, hc, hrr⟩
      · have := h2 _ _ _ _ _ g w _ (hag _ _ _ _ h) (sim_one hs .nils rfl)
        refine CallPost.mono_call this (fun e w' hp => ?_)
        obtain ⟨v, d, sto', g', he, hk, hs', e'⟩ := hp
        refine ⟨v, _, sto', g', he, hk, ?_, e'⟩
        refine hs'.weaken rfl (fun t0 d' hd => ?_) rfl (fun i cs' hi => ⟨cs', hi, rfl, fun j d' hj => ⟨d', hj, .inl rfl⟩⟩)
        cases t0 with
        | succ t0 => simp at hd
        | zero => simp at hd; subst hd; exact ⟨d, rfl, .inr (.inr ⟨_, rfl⟩)⟩
      · exact h1 _ _ _ _ _ g w _ h (sim_one hs (.slE (by decide) (by rintro (h | h) <;> cases h) hmax) rfl)
      · exact h1 _ _ _ _ _ g w _ h (sim_one hs (.sl vs hlc (by intro h; cases h) hmax hp hc hrr) rfl)
   · cases h
 · exact h2 _ _ _ _ _ _ _ _ h hs
 · cases h
theorem bndNil {calm : List Nat} {f : Nat} {t cnn cnil} (h1 : BndC calm f cnn) (h2 : BndC calm f cnil) : BndC calm f (conNil t cnn cnil) := by
 intro args sto
 unfold conNil
 split
 · split
   · exact h1 _ _
   · exact ⟨none, fun _ _ => rfl, fun _ _ h => by cases h⟩
 · exact h2 _ _
 · exact ⟨none, fun _ _ => rfl, fun _ _ h => by cases h⟩
end
end Go.Ev
namespace Go.Ev
section
variable {P : Program} {X : Cfg}
theorem run_ext {f : FuncId} {fn : Func} {e : Array Value → Sem Value} (hf : P.funcs[f]? = some fn) (hb : fn.body = none) (hn : (fn.name == "runtime.NumGoroutine") = false)
 (hx : Extern.findNext fn = none) (he : Extern.find fn = some e) {args : Array Value} {w w' : World} {v : Value} (hr : (e args).run P w = .ok v w') : (callFunc f args).run P w = .ok (.value v) w' := by
 have hn' : ¬ fn.name = "runtime.NumGoroutine" := by simpa using hn
 simp [callFunc, hf, hn', hb, hx, he, hr]
def conExt (F : List D → Option D) : Con := fun _ args sto K => (F args).bind fun d => K d sto
theorem conExt_bnd {F : List D → Option D} (args : List D) (sto : Sto) : ∃ s : Option (D × Sto), (∀ (R : Type) K, conExt F R args sto K = s.bind fun p => K p.1 p.2) ∧ ∀ p, s = some p → p.2 = sto := by
 refine ⟨(F args).map fun d => (d, sto), fun R K => ?_, fun p h => ?_⟩
 · unfold conExt; cases F args <;> rfl
 · cases hF : F args with
   | none => rw [hF] at h; cases h
   | some d => rw [hF] at h; cases h; rfl
theorem conExt_ok {f : FuncId} {F : List D → Option D}
 (h : ∀ (g : Gh) (w : World) (sto : Sto) (args : List D) (vals : List Value) (d : D), F args = some d → Sim X g w args vals sto → d.free = true ∧ ∃ v, (callFunc f vals.toArray).run P w = .ok (.value v) w ∧ RepV X g.φ g.G w d v) : ConOk P X f (conExt F) := by
 intro R args sto K r g w vals hK hs
 unfold conExt at hK
 obtain ⟨d, hd, hK⟩ := Option.bind_eq_some_iff.1 hK
 obtain ⟨hfree, v, hrun, hrep⟩ := h g w sto args vals d hd hs
 refine .inr ⟨v, w, hrun, v, d, sto, g, rfl, hK, ?_, .refl _ _⟩
 refine ⟨rfl, fun t d' v' h1 h2 => ?_, hs.slen, hs.obj, fun ℓ md ty l a len cap ho hmd => ?_, hs.kdom, hs.gdom, hs.glob⟩
 · cases t with
   | succ t => simp at h1
   | zero => cases h1; cases h2; exact hrep
 · cases ℓ with
   | env t j =>
    cases t with
    | zero => exact (ho.not_free (d := d) hmd rfl hfree).elim
    | succ t => have := ho.lt; simp at this
   | obj i => exact ho.not_obj.elim
   | cell i j => exact hs.own _ _ _ _ _ _ _ (ho.of_slot (fun _ _ h => by cases h)) hmd
def indexF : List D → Option D
 | [.str s, .int .u8 c] => some (.int .i64 (Lib.indexByte s c.toNat.toUInt8))
 | _ => none
theorem index_le (c : UInt8) : ∀ l : List UInt8, Lib.indexByte l c ≤ (l.length : Int)
 | [] => by simp [Lib.indexByte]
 | b :: l => by
  have := index_le c l
  unfold Lib.indexByte
  split
  · simp; omega
  · split
    · simp; omega
    · simp; omega
theorem index_ok {f : FuncId} {fn : Func} (hf : P.funcs[f]? = some fn) (hb : fn.body = none) (hn : (fn.name == "runtime.NumGoroutine") = false)
 (hx : Extern.findNext fn = none) (he : Extern.find fn = some Extern.BytealgIndexByte.indexByte) : ConOk P X f (conExt indexF) := by
 refine conExt_ok fun g w sto args vals d hd hs => ?_
 unfold indexF at hd
 split at hd
 · rename_i s c
   cases hd
   have hlen := hs.len
   match vals, hlen with
   | [v1, v2], _ =>
    have h1 := hs.rep 0 (.str s) v1 rfl rfl
    have h2 := hs.rep 1 (.int .u8 c) v2 rfl rfl
    generalize hd1 : D.str s = d1 at h1
    cases h1 with
    | str b hb1 =>
     cases hd1
     cases h2 with
     | int hir =>
      refine ⟨rfl, _, run_ext hf hb hn hx he (Lib.run_indexByteString b c w), .int ?_⟩
      have h3 := Lib.indexByte_ge b.data.toList c.toNat.toUInt8
      have h4 := index_le c.toNat.toUInt8 b.data.toList
      have h5 : b.data.toList.length = b.size := Array.length_toList
      have h6 : Ev.lo .i64 = -9223372036854775808 := by decide
      have h7 : Ev.hi .i64 = 9223372036854775807 := by decide
      unfold InR
      rw [h6, h7]
      omega
    | _ => cases hd1
 · cases hd
def countF : List D → Option D
 | [.str s, .int .u8 c] => some (.int .i64 (Lib.countByte s c.toNat.toUInt8 : Nat))
 | _ => none
theorem count_ok {f : FuncId} {fn : Func} (hf : P.funcs[f]? = some fn) (hb : fn.body = none) (hn : (fn.name == "runtime.NumGoroutine") = false)
 (hx : Extern.findNext fn = none) (he : Extern.find fn = some Extern.BytealgCount.count) : ConOk P X f (conExt countF) := by
 refine conExt_ok fun g w sto args vals d hd hs => ?_
 unfold countF at hd
 split at hd
 · rename_i s c
   cases hd
   have hlen := hs.len
   match vals, hlen with
   | [v1, v2], _ =>
    have h1 := hs.rep 0 (.str s) v1 rfl rfl
    have h2 := hs.rep 1 (.int .u8 c) v2 rfl rfl
    generalize hd1 : D.str s = d1 at h1
    cases h1 with
    | str b hb1 =>
     cases hd1
     cases h2 with
     | int hir =>
      refine ⟨rfl, _, run_ext hf hb hn hx he (Lib.run_countString b c w), .int ?_⟩
      have h4 : Lib.countByte b.data.toList c.toNat.toUInt8 ≤ b.data.toList.length := List.count_le_length
      have h5 : b.data.toList.length = b.size := Array.length_toList
      have h6 : Ev.lo .i64 = -9223372036854775808 := by decide
      have h7 : Ev.hi .i64 = 9223372036854775807 := by decide
      unfold InR
      rw [h6, h7]
      omega
    | _ => cases hd1
 · cases hd
theorem run_loadBytes (b : Nat) {w : World} : ∀ (l : List UInt8) (off : Nat) (acc : ByteArray), (∀ (j : Nat) x, l[j]? = some x → w.cell? ⟨b, off + j, none⟩ = some (.int .u8 (x.toNat : Int))) →
 (Extern.Bytes.loadBytes ⟨b, off, none⟩ l.length acc).run P w = .ok ⟨(acc.data.toList ++ l).toArray⟩ w
 | [], off, acc, _ => by
  simp [Extern.Bytes.loadBytes]
 | x :: r, off, acc, h => by
  have h0 := h 0 x rfl
  simp only [Nat.add_zero] at h0
  have ih := run_loadBytes b r (off + 1) (acc.push x) (fun j y hj => by
   have := h (j + 1) y (by simpa using hj)
   rw [show off + 1 + j = off + (j + 1) by omega]; exact this)
  have e : (x.toNat : Int).toNat.toUInt8 = x := by simp
  have ha : (⟨b, off, none⟩ : Addr).add 1 = ⟨b, off + 1, none⟩ := by rw [Addr.add_mid]
  simp only [List.length_cons, Extern.Bytes.loadBytes, Sem.run_bind]
  have hl : (load ⟨b, off, none⟩).run P w = .ok (.int .u8 (x.toNat : Int)) w := by simp [h0]
  rw [hl]
  simp only [Result.andThen_ok, e, ha]
  rw [ih]
  simp
theorem run_bytesOf {X : Cfg} {φ G} {w : World} {m : Md} {l : List UInt8} {v : Value} (h : RepV X φ G w (.sl m .byte l) v) : (Extern.Bytes.bytesOf v).run P w = .ok ⟨l.toArray⟩ w := by
 obtain ⟨ao, cap, rfl⟩ := rep_slice_form h
 rcases rep_slice_inv h with ⟨e0, e1, _, e2, _⟩ | ⟨e0, ⟨p, e1⟩, _, _⟩ | ⟨b, off, vs, e1, _, hlen, _, hmax, hp, hc, hr⟩
 · subst e0; subst e1; rfl
 · subst e0; subst e1; rfl
 · subst e1
   have := run_loadBytes (P := P) (w := w) b l off .empty (fun j x hj => by
    have hjl := (List.getElem?_eq_some_iff.1 hj).1
    have := hr j x hj 0 _ rfl
    simp only [Ty.size, Nat.mul_one, Nat.add_zero] at this
    rw [hc j (by simpa [Ty.size] using hjl), (rep_int this).1])
   simpa [Extern.Bytes.bytesOf] using this
def compareF : List D → Option D
 | [.sl _ .byte a, .sl _ .byte b] => some (.int .i64 (Lib.compareBytes a b))
 | _ => none
theorem compare_rng : ∀ (a b : List UInt8), -1 ≤ Lib.compareBytes a b ∧ Lib.compareBytes a b ≤ 1
 | [], [] => by simp [Lib.compareBytes]
 | [], _ :: _ => by simp [Lib.compareBytes]
 | _ :: _, [] => by simp [Lib.compareBytes]
 | x :: a, y :: b => by
  have := compare_rng a b
  unfold Lib.compareBytes
  split
  · omega
  · split
    · omega
    · exact this
theorem compare_ok {f : FuncId} {fn : Func} (hf : P.funcs[f]? = some fn) (hb : fn.body = none) (hn : (fn.name == "runtime.NumGoroutine") = false)
 (hx : Extern.findNext fn = none) (he : Extern.find fn = some Extern.BytealgCompare.compare) : ConOk P X f (conExt compareF) := by
 refine conExt_ok fun g w sto args vals d hd hs => ?_
 unfold compareF at hd
 split at hd
 · rename_i m a m' b
   cases hd
   have hlen := hs.len
   match vals, hlen with
   | [v1, v2], _ =>
    have h1 := hs.rep 0 (.sl m .byte a) v1 rfl rfl
    have h2 := hs.rep 1 (.sl m' .byte b) v2 rfl rfl
    have hr : (Extern.BytealgCompare.compare #[v1, v2]).run P w = .ok (.int .i64 (Lib.compareBytes a b)) w := by
     change Sem.run P (do pure (goInt (Extern.BytealgCompare.cmp (← Extern.Bytes.bytesOf v1) (← Extern.Bytes.bytesOf v2)))) w = _
     simp only [Sem.run_bind, Sem.run_pure]
     rw [run_bytesOf h1]
     simp only [Result.andThen_ok]
     rw [run_bytesOf h2]
     simp only [Result.andThen_ok]
     rw [Lib.cmp_eq]
     rfl
    have := compare_rng a b
    refine ⟨rfl, _, run_ext hf hb hn hx he hr, .int ?_⟩
    simp only [InR, Ev.lo, Ev.hi]
    omega
 · cases hd
end
end Go.Ev
namespace Go.Ev
def partsB (tb : TypeId → Ty → Bool) (P : Program) : List (Nat × TypeId) → Nat → Ty → Bool
 | [], _, .unit => true
 | p :: r, o, .pair a b => match Nat.beq p.1 o, Nat.beq (P.cellsOf p.2) a.size, tb p.2 a with
  | true, true, true => partsB tb P r (o + a.size) b
  | _, _, _ => false
 | _, _, _ => false
def tyB (P : Program) : Nat → TypeId → Ty → Bool
 | 0, _, _ => false
 | n + 1, t, ty => match P.underlying t with
  | some (.int k) => match ty with
   | .byte => decide (k = .u8)
   | .int k' => decide (k = k')
   | _ => false
  | some .bool => match ty with
   | .bool => true
   | _ => false
  | some .string => match ty with
   | .str => true
   | _ => false
  | some (.slice e) => match ty with
   | .slice ty => match Nat.beq (P.cellsOf e) ty.size, Nat.ble 1 ty.size, Nat.ble ty.bytes (P.bytesOf e) with
    | true, true, true => tyB P n e ty
    | _, _, _ => false
   | _ => false
  | some (.struct fs) => match Nat.beq (P.cellsOf t) ty.size with
   | true => partsB (tyB P n) P (fs.toList.map fun f => (f.offset, f.type)) 0 ty
   | false => false
  | some (.array m e) => match Nat.beq (P.cellsOf t) ty.size with
   | true => partsB (tyB P n) P ((List.range m).map fun i => (i * P.cellsOf e, e)) 0 ty
   | false => false
  | _ => false
def G0 (w : World) (b : Nat) : Nat := match w.heap[b]? with
 | some (.cells c _ _) => c.size
 | _ => 0
theorem G0_lt {w : World} {b o : Nat} {v : Value} (h : w.cell? ⟨b, o, none⟩ = some v) : o < G0 w b := by
 unfold World.cell? at h
 unfold G0
 simp only at h
 split at h
 · rename_i c _ _ hb
   rw [hb]
   simp only [Option.isSome_none, Bool.false_eq_true, if_false] at h
   exact (Array.getElem?_eq_some_iff.1 h).1
 · cases h
theorem cell_spot {w : World} {a : Addr} {v : Value} (h : w.cell? a = some v) : a = ⟨a.block, a.off, none⟩ := by
 obtain ⟨b, o, s⟩ := a
 cases s with
 | none => rfl
 | some s =>
  unfold World.cell? at h
  simp only at h
  split at h
  · simp at h
  · cases h
theorem add_add (a : Addr) (i j : Nat) : (a.add i).add j = a.add (i + j) := by
 obtain ⟨b, o, s⟩ := a
 by_cases hi : i = 0 <;> by_cases hj : j = 0 <;> simp [Addr.add, hi, hj, Nat.add_assoc]
theorem choose_list {α : Type} {p : Nat → α → Prop} : ∀ (n : Nat), (∀ i, i < n → ∃ x, p i x) → ∃ l : List α, l.length = n ∧ ∀ i x, l[i]? = some x → p i x
 | 0, _ => ⟨[], rfl, fun i x h => by simp at h⟩
 | n + 1, h => by
  obtain ⟨l, hl, hp⟩ := choose_list n (fun i hi => h i (by omega))
  obtain ⟨x, hx⟩ := h n (by omega)
  refine ⟨l ++ [x], by simp [hl], fun i y hy => ?_⟩
  by_cases hi : i < l.length
  · rw [List.getElem?_append_left hi] at hy; exact hp i y hy
  · rw [List.getElem?_append_right (by omega)] at hy
    have : i = n := by
     have := (List.getElem?_eq_some_iff.1 hy).1; simp at this; omega
    subst this
    simp [hl] at hy; subst hy; exact hx
theorem wf_inr {k : IntKind} {n : Int} (h : (Lit.int k n).wf = true) : InR k n := by
 cases k <;> simp [Lit.wf, IntKind.min, IntKind.max, IntKind.signed, IntKind.bits] at h <;> simp [InR, lo, hi] <;> omega
section
variable {H : Type} {enc : TypeId × Value → H} {P : Program} {X : Cfg} {w : World} {base : Nat} {spare : Nat → Bool} {held : Bool}
def Ws (P : Program) (t : TypeId) (d : DataW H) : Prop := ∀ n, n ∈ d.weights P t → n ≤ reachBytes
def Stands (X : Cfg) (w : World) (t : Ty) (x : t.den) (cs : List Value) (o : Nat) : Prop :=
 ∀ (j : Nat) c, (cells t x)[j]? = some c → ∃ v, cs[o + j]? = some v ∧ RepV X [] (G0 w) w c v
theorem parts_read {tb : TypeId → Ty → Bool} {cs : List Value} {n : Nat}
 (htb : ∀ (t : TypeId) (ty : Ty), tb t ty = true → ∀ (cs : List Value) (x : DataW H × List MemPlace), DataW.trod enc P w base spare held n t cs = some x → Ws P t x.1 → ∃ y : ty.den, Wf ty y ∧ cs.length = ty.size ∧ Stands X w ty y cs 0) :
 ∀ (fl : List (Nat × TypeId)) (o : Nat) (ty : Ty) (xs : List (DataW H × List MemPlace)), partsB tb P fl o ty = true → xs.length = fl.length →
  (∀ (i : Nat) f, fl[i]? = some f → DataW.trod enc P w base spare held n f.2 ((cs.drop f.1).take (P.cellsOf f.2)) = xs[i]?) →
  (∀ m, m ∈ DataW.weightsEach P (fl.map (·.2)) (xs.map (·.1)) → m ≤ reachBytes) → ∃ y : ty.den, Wf ty y ∧ Stands X w ty y cs o
 | [], o, ty, xs, hb, _, _, _ => by
  cases ty <;> simp [partsB] at hb
  exact ⟨(), trivial, fun j c h => by simp [cells] at h⟩
 | p :: r, o, ty, xs, hb, hl, hr, hw => by
  cases ty with
  | pair a b =>
   unfold partsB at hb
   split at hb
   · rename_i h1 h2 h3
     have e1 := Nat.eq_of_beq_eq_true h1
     have e2 := Nat.eq_of_beq_eq_true h2
     cases xs with
     | nil => simp at hl
     | cons x xs =>
      have h0 := hr 0 p rfl
      simp only [List.getElem?_cons_zero] at h0
      simp only [List.map_cons, DataW.weightsEach, List.mem_append] at hw
      obtain ⟨y, hy1, hy2, hy3⟩ := htb _ _ h3 _ _ h0 (fun m hm => hw m (.inl hm))
      obtain ⟨z, hz1, hz2⟩ := parts_read htb r (o + a.size) b xs hb (by simpa using hl) (fun i f hf => by simpa using hr (i + 1) f (by simpa using hf)) (fun m hm => hw m (.inr hm))
      refine ⟨(y, z), ⟨hy1, hz1⟩, fun j c hj => ?_⟩
      simp only [cells] at hj
      have hca := cells_length a y
      by_cases hja : j < a.size
      · rw [List.getElem?_append_left (by omega)] at hj
        obtain ⟨v, hv, hrv⟩ := hy3 j c hj
        refine ⟨v, ?_, hrv⟩
        rw [Nat.zero_add, List.getElem?_take, List.getElem?_drop, e1] at hv
        split at hv
        · exact hv
        · cases hv
      · rw [List.getElem?_append_right (by omega), hca] at hj
        obtain ⟨v, hv, hrv⟩ := hz2 _ c hj
        exact ⟨v, by rw [← hv]; congr 1; omega, hrv⟩
   · cases hb
  | _ => simp [partsB] at hb
theorem read_ty : ∀ (n : Nat) (t : TypeId) (ty : Ty), tyB P n t ty = true → ∀ (fuel : Nat) (cs : List Value) (x : DataW H × List MemPlace), DataW.trod enc P w base spare held fuel t cs = some x → Ws P t x.1 →
 ∃ y : ty.den, Wf ty y ∧ cs.length = ty.size ∧ Stands X w ty y cs 0
 | 0, t, ty, h => by simp [tyB] at h
 | n + 1, t, ty, h => by
  intro fuel cs x hx hw
  unfold tyB at h
  split at h
  · rename_i k hu
    obtain ⟨m, rfl, rfl, hwf⟩ := DataW.trod_int hu hx
    have hin := wf_inr hwf
    split at h
    · have := of_decide_eq_true h
      subst this
      have h2 : 0 ≤ m ∧ m ≤ 255 := by simpa [InR, lo, hi] using hin
      refine ⟨UInt8.ofNat m.toNat, trivial, rfl, fun j c hj => ?_⟩
      cases j with
      | zero =>
       simp [cells] at hj; subst hj
       have e : ((m.toNat % 256 : Nat) : Int) = m := by omega
       refine ⟨_, rfl, ?_⟩
       have e' : (max m 0 % 256 : Int) = m := by omega
       first | rw [e'] | rw [e]
       exact .int hin
      | succ j => simp [cells] at hj
    · have := of_decide_eq_true h
      subst this
      refine ⟨m, hin, rfl, fun j c hj => ?_⟩
      cases j with
      | zero => simp [cells] at hj; subst hj; exact ⟨_, rfl, .int hin⟩
      | succ j => simp [cells] at hj
    · cases h
  · rename_i hu
    obtain ⟨b, rfl, rfl⟩ := DataW.trod_bool hu hx
    split at h
    · refine ⟨b, trivial, rfl, fun j c hj => ?_⟩
      cases j with
      | zero => simp [cells] at hj; subst hj; exact ⟨_, rfl, .bool b⟩
      | succ j => simp [cells] at hj
    · cases h
  · rename_i hu
    obtain ⟨s, rfl, rfl, hs⟩ := DataW.trod_string hu hx
    split at h
    · have hlen : s.data.toList.length ≤ reachBytes := hw _ (by simp [DataW.weights])
      refine ⟨s.data.toList, by simpa [Wf, reachBytes] using hlen, rfl, fun j c hj => ?_⟩
      cases j with
      | zero => simp [cells] at hj; subst hj; exact ⟨_, rfl, .str s (by unfold maxLen at hs; omega)⟩
      | succ j => simp [cells] at hj
    · cases h
  · rename_i e hu
    split at h
    · rename_i _ ty
      split at h
      · rename_i h1 h2 h3
        have e1 := Nat.eq_of_beq_eq_true h1
        have e2 := Nat.le_of_ble_eq_true h2
        have e3 := Nat.le_of_ble_eq_true h3
        rcases DataW.trod_slice hu hx with ⟨rfl, rfl⟩ | ⟨a, len, cap, elems, rest, m, rfl, rfl, rfl, hb, hlc, hcm, hel, hg, _⟩
        · refine ⟨[], ⟨by simp, fun x hx => by simp at hx⟩, rfl, fun j c hj => ?_⟩
          cases j with
          | zero => simp [cells] at hj; subst hj; exact ⟨_, rfl, .slNil (by decide)⟩
          | succ j => simp [cells] at hj
        · simp only [Ws, DataW.weights, hu, List.mem_cons, List.mem_append] at hw
          have hw0 := hw _ (.inl rfl)
          have hwe : ∀ (i : Nat) (x : DataW H × List MemPlace), elems[i]? = some x → Ws P e x.1 := by
           intro i x hi m hm
           refine hw m (.inr (.inl ?_))
           have aux : ∀ (l : List (DataW H × List MemPlace)) (i : Nat), l[i]? = some x → m ∈ DataW.weightsAll P e (l.map (·.1)) := by
            intro l
            induction l with
            | nil => intro i h; simp at h
            | cons a r ih =>
             intro i h
             simp only [List.map_cons, DataW.weightsAll, List.mem_append]
             cases i with
             | zero => simp at h; subst h; exact .inl hm
             | succ i => exact .inr (ih i (by simpa using h))
           exact aux elems i hi
          have each : ∀ i, i < len → ∃ y : ty.den, Wf ty y ∧ ∀ (j : Nat) c, (cells ty y)[j]? = some c → ∃ v, w.cell? (a.add (i * ty.size + j)) = some v ∧ RepV X [] (G0 w) w c v := by
           intro i hi
           have hgi := hg i hi
           have hie : i < elems.length := by omega
           rw [List.getElem?_eq_getElem hie] at hgi
           obtain ⟨cs', hc', ht'⟩ := Option.bind_eq_some_iff.1 hgi
           obtain ⟨_, hcl, hcc⟩ := World.cells?_some hc'
           obtain ⟨y, hy1, hy2, hy3⟩ := read_ty n e ty h m cs' _ ht' (hwe i _ (List.getElem?_eq_getElem hie))
           refine ⟨y, hy1, fun j c hj => ?_⟩
           obtain ⟨v, hv, hrv⟩ := hy3 j c hj
           rw [Nat.zero_add] at hv
           have hjl := (List.getElem?_eq_some_iff.1 hv).1
           have := hcc j (by omega)
           refine ⟨v, ?_, hrv⟩
           rw [← hv, ← this, e1, add_add]
          obtain ⟨l, hll, hl⟩ := choose_list len each
          have hwl : l.length * ty.bytes ≤ 140737488351232 := by
           have : l.length * ty.bytes ≤ (elems.length + rest.length) * P.bytesOf e := Nat.mul_le_mul (by omega) e3
           simp only [List.length_map] at hw0
           unfold reachBytes at hw0
           omega
          refine ⟨l, ⟨hwl, fun x hx => ?_⟩, rfl, fun j c hj => ?_⟩
          · obtain ⟨i, hi⟩ := List.mem_iff_getElem?.1 hx
            exact (hl i x hi).1
          · cases j with
            | succ j => simp [cells] at hj
            | zero =>
             simp only [cells, List.getElem?_cons_zero, Option.some.injEq] at hj; subst hj
             refine ⟨_, rfl, ?_⟩
             subst hll
             unfold maxLen at hcm
             cases hl0 : l with
             | nil => exact .slE (by decide) (by rintro (h | h) <;> cases h) (by omega)
             | cons x0 r =>
              rw [← hl0]
              have hpos : 0 < l.length := by rw [hl0]; simp
              have cellAt : ∀ q, q < l.length * ty.size → ∃ v, w.cell? (a.add q) = some v := by
               intro q hq
               have hi : q / ty.size < l.length := Nat.div_lt_of_lt_mul (by rw [Nat.mul_comm]; exact hq)
               have hcl := cells_length ty l[q / ty.size]
               have hm : q % ty.size < ty.size := Nat.mod_lt _ (by omega)
               obtain ⟨v, hv, _⟩ := (hl (q / ty.size) _ (List.getElem?_eq_getElem hi)).2 (q % ty.size) _ (List.getElem?_eq_getElem (by omega))
               refine ⟨v, ?_⟩
               rw [Nat.mul_comm, Nat.div_add_mod] at hv
               exact hv
              have hmul : 0 < l.length * ty.size := Nat.mul_pos hpos (by omega)
              obtain ⟨v0, hv0⟩ := cellAt 0 hmul
              have ha : a = ⟨a.block, a.off, none⟩ := by
               have := cell_spot hv0
               cases a; simp [Addr.add] at this; simpa using this
              obtain ⟨b, off, s⟩ := a
              simp only [Addr.mk.injEq] at ha
              obtain ⟨_, _, rfl⟩ := ha
              have cellAt' : ∀ q, q < l.length * ty.size → w.cell? ⟨b, off + q, none⟩ = some ((w.cell? ⟨b, off + q, none⟩).getD undef) := by
               intro q hq
               obtain ⟨v, hv⟩ := cellAt q hq
               rw [Addr.add_mid] at hv
               rw [hv]; rfl
              refine .sl (fun q => (w.cell? ⟨b, off + q, none⟩).getD undef) hlc (by intro h; cases h) (by omega) ?_ cellAt' (fun i x hx j c hj => ?_)
              · have := G0_lt (cellAt' (l.length * ty.size - 1) (by omega))
                omega
              · obtain ⟨v, hv, hrv⟩ := (hl i x hx).2 j c hj
                rw [Addr.add_mid] at hv
                show RepV X [] (G0 w) w c ((w.cell? ⟨b, off + (i * ty.size + j), none⟩).getD undef)
                rw [hv]; exact hrv
      · cases h
    · cases h
  · rename_i fs hu
    split at h
    · rename_i h1
      obtain ⟨xs, m, rfl, rfl, hcl, hxl, hg⟩ := DataW.trod_struct hu hx
      obtain ⟨y, hy1, hy2⟩ := parts_read (cs := cs) (n := m) (fun t' ty' h' cs' x' hx' hw' => read_ty n t' ty' h' m cs' x' hx' hw') _ 0 ty xs h (by simp [hxl])
       (fun i f hf => by
        simp only [List.getElem?_map, Option.map_eq_some_iff] at hf
        obtain ⟨f0, hf0, rfl⟩ := hf
        exact hg i f0 (by simpa using hf0))
       (fun m' hm' => hw m' (by simpa [DataW.weights, hu, Function.comp_def] using hm'))
      exact ⟨y, hy1, hcl.trans (Nat.eq_of_beq_eq_true h1), hy2⟩
    · cases h
  · rename_i ml e hu
    split at h
    · rename_i h1
      obtain ⟨xs, m, rfl, rfl, hcl, hxl, hg⟩ := DataW.trod_array hu hx
      obtain ⟨y, hy1, hy2⟩ := parts_read (cs := cs) (n := m) (fun t' ty' h' cs' x' hx' hw' => read_ty n t' ty' h' m cs' x' hx' hw') _ 0 ty xs h (by simp [hxl])
       (fun i f hf => by
        simp only [List.getElem?_map, Option.map_eq_some_iff] at hf
        obtain ⟨f0, hf0, rfl⟩ := hf
        have hi := (List.getElem?_eq_some_iff.1 hf0)
        obtain ⟨hi1, hi2⟩ := hi
        simp at hi1 hi2
        subst hi2
        exact hg i hi1)
       (fun m' hm' => hw m' (by
        simp only [DataW.weights, hu]
        have aux : ∀ (l : List (DataW H × List MemPlace)) (is : List Nat), is.length = l.length → DataW.weightsEach P ((is.map fun i => (i * P.cellsOf e, e)).map (·.2)) (l.map (·.1)) = DataW.weightsAll P e (l.map (·.1)) := by
         intro l
         induction l with
         | nil => intro is h; cases is <;> simp [DataW.weightsEach, DataW.weightsAll] at h ⊢
         | cons a r ih =>
          intro is h
          cases is with
          | nil => simp at h
          | cons i is =>
           simp only [List.map_cons, DataW.weightsEach, DataW.weightsAll]
           rw [ih is (by simpa using h)]
        rw [aux xs _ (by simp [hxl])] at hm'
        exact hm'))
      exact ⟨y, hy1, hcl.trans (Nat.eq_of_beq_eq_true h1), hy2⟩
    · cases h
  · cases h
end
end Go.Ev
namespace Go.Ev
open Go.RowKit Go.ChangeShapes Go.WideShapes
def envA : (ts : List Ty) → denA ts → List D
 | [], _ => []
 | t :: r, x => enc t x.1 :: envA r x.2
def tysB (P : Program) (n : Nat) : List TypeId → List Ty → Bool
 | [], [] => true
 | t :: ts, ty :: tys => match tyB P n t ty with
  | true => tysB P n ts tys
  | false => false
 | _, _ => false
section
variable {H : Type} {en : TypeId × Value → H} {P : Program} {X : Cfg} {w : World} {spare : Nat → Bool} {held : Bool} {r : Reach} {b0 : Nat}
theorem enc_leaf {ty : Ty} (h : ty.agg = false) (x : ty.den) : enc ty x = (cells ty x).headD .any := by unfold enc; rw [h]
theorem enc_agg {ty : Ty} (h : ty.agg = true) (x : ty.den) : enc ty x = .agg (cells ty x) := by unfold enc; rw [h]
theorem arg_read {n : Nat} {t : TypeId} {ty : Ty} {v : Value} {d : DataW H} {ps : List MemPlace} (hb : tyB P n t ty = true) (hval : Value.okWide P w r b0 t v) (hd : DataW.Trod en P w 0 spare held t v d ps) (hw : Ws P t d) :
 ∃ y : ty.den, Wf ty y ∧ RepV X [] (G0 w) w (enc ty y) v := by
 obtain ⟨fuel, hf⟩ := hd
 obtain ⟨y, hy, hl, hst⟩ := read_ty (X := X) n t ty hb fuel _ _ hf hw
 refine ⟨y, hy, ?_⟩
 have leafCase : v.cells.toList = [v] → ty.agg = false → RepV X [] (G0 w) w (enc ty y) v := by
  intro hc hag
  rw [enc_leaf hag]
  rw [hc] at hl
  have hcl := cells_length ty y
  cases hcs : cells ty y with
  | nil => rw [hcs] at hcl; simp at hcl hl; omega
  | cons c r =>
   obtain ⟨v', hv', hr⟩ := hst 0 c (by rw [hcs]; rfl)
   rw [hc] at hv'; simp at hv'; subst hv'; exact hr
 have aggCase : (∃ cs, v = .agg cs) → ty.agg = true → RepV X [] (G0 w) w (enc ty y) v := by
  rintro ⟨cs, rfl⟩ hag
  rw [enc_agg hag]
  have hcl := cells_length ty y
  refine .agg (by simp [Value.cells] at hl; omega) (fun j c hj => ?_)
  obtain ⟨v', hv', hr⟩ := hst j c hj
  simp only [Value.cells, Nat.zero_add] at hv'
  have : cs.getD j undef = v' := by
   simp only [Array.getElem?_toList] at hv'
   simp [Array.getD_eq_getD_getElem?, hv']
  rw [this]; exact hr
 cases n with
 | zero => simp [tyB] at hb
 | succ n =>
  unfold tyB at hb
  split at hb
  · rename_i k hu
    obtain ⟨m, rfl⟩ := okWide_int hu hval
    refine leafCase rfl ?_
    split at hb <;> first | rfl | cases hb
  · rename_i hu
    obtain ⟨m, rfl⟩ := okWide_bool hu hval
    refine leafCase rfl ?_
    split at hb <;> first | rfl | cases hb
  · rename_i hu
    obtain ⟨m, rfl⟩ := okWide_string hu hval
    refine leafCase rfl ?_
    split at hb <;> first | rfl | cases hb
  · rename_i e hu
    obtain ⟨a, len, cap, rfl⟩ := okWide_slice hu hval
    refine leafCase rfl ?_
    split at hb <;> first | rfl | cases hb
  · rename_i fs hu
    refine aggCase ?_ ?_
    · unfold Value.okWide at hval
      rw [hu] at hval
      obtain ⟨cs, rfl, _⟩ := hval; exact ⟨cs, rfl⟩
    · split at hb
      · cases hfs : fs.toList.map (fun f => (f.offset, f.type)) with
        | nil => rw [hfs] at hb; cases ty <;> first | rfl | cases hb
        | cons p r => rw [hfs] at hb; cases ty <;> first | rfl | cases hb
      · cases hb
  · rename_i m e hu
    refine aggCase ?_ ?_
    · unfold Value.okWide at hval
      rw [hu] at hval
      obtain ⟨cs, rfl, _⟩ := hval; exact ⟨cs, rfl⟩
    · split at hb
      · cases hfs : (List.range m).map (fun i => (i * P.cellsOf e, e)) with
        | nil => rw [hfs] at hb; cases ty <;> first | rfl | cases hb
        | cons p r => rw [hfs] at hb; cases ty <;> first | rfl | cases hb
      · cases hb
  · cases hb
theorem args_read {n : Nat} : ∀ (ts : List TypeId) (tys : List Ty) (vs : List Value) (ds : List (DataW H)) (ps : List MemPlace), tysB P n ts tys = true → DataW.TrodAll en P w 0 spare held ts vs ds ps →
 (∀ (j : Nat) t v, ts[j]? = some t → vs[j]? = some v → Value.okWide P w r b0 t v) → (∀ m, m ∈ DataW.weightsEach P ts ds → m ≤ reachBytes) →
 ds.length = ts.length ∧ ∃ x : denA tys, WfA tys x ∧ (envA tys x).length = vs.length ∧ ∀ (j : Nat) d v, (envA tys x)[j]? = some d → vs[j]? = some v → RepV X [] (G0 w) w d v
 | [], tys, vs, ds, ps, hb, hd, _, _ => by
  cases tys with
  | cons _ _ => cases hb
  | nil =>
   cases vs <;> cases ds <;> simp [DataW.TrodAll] at hd
   exact ⟨rfl, (), trivial, rfl, fun j d v h => by simp [envA] at h⟩
 | t :: ts, tys, vs, ds, ps, hb, hd, hval, hw => by
  cases tys with
  | nil => cases hb
  | cons ty tys =>
   unfold tysB at hb
   split at hb
   · rename_i h1
     cases vs with
     | nil => cases ds <;> simp [DataW.TrodAll] at hd
     | cons v vs =>
      cases ds with
      | nil => simp [DataW.TrodAll] at hd
      | cons d ds =>
       obtain ⟨p, q, hd1, hd2, rfl⟩ := hd
       simp only [DataW.weightsEach, List.mem_append] at hw
       obtain ⟨y, hy1, hy2⟩ := arg_read (X := X) h1 (hval 0 t v rfl rfl) hd1 (fun m hm => hw m (.inl hm))
       obtain ⟨hl, x, hx1, hx2, hx3⟩ := args_read ts tys vs ds q hb hd2 (fun j t' v' h2 h3 => hval (j + 1) t' v' (by simpa using h2) (by simpa using h3)) (fun m hm => hw m (.inr hm))
       refine ⟨by simp [hl], (y, x), ⟨hy1, hx1⟩, by simp [envA, hx2], fun j d' v' h2 h3 => ?_⟩
       cases j with
       | zero => simp [envA] at h2 h3; subst h2; subst h3; exact hy2
       | succ j => simp [envA] at h2 h3; exact hx3 j d' v' h2 h3
   · cases hb
theorem free_cells : ∀ (t : Ty) (x : t.den), (cells t x).all D.free1 = true
 | .int _, _ | .byte, _ | .bool, _ | .str, _ | .err, _ | .slice _, _ | .unit, _ | .ex, _ => rfl
 | .pair a b, x => by simp only [cells, List.all_append, free_cells a x.1, free_cells b x.2, Bool.and_self]
theorem free_enc (t : Ty) (x : t.den) : (enc t x).free = true := by
 cases h : t.agg with
 | true => rw [enc_agg h]; exact free_cells t x
 | false =>
  rw [enc_leaf h]
  cases t <;> first | rfl | cases h
theorem free_env : ∀ (ts : List Ty) (x : denA ts) (d : D), d ∈ envA ts x → d.free = true
 | [], _, d, h => by simp [envA] at h
 | t :: r, x, d, h => by
  simp only [envA, List.mem_cons] at h
  rcases h with rfl | h
  · exact free_enc t x.1
  · exact free_env r x.2 d h
theorem sim0 {env : List D} {vals : List Value} (hl : env.length = vals.length) (hr : ∀ (j : Nat) d v, env[j]? = some d → vals[j]? = some v → RepV X [] (G0 w) w d v) (hf : ∀ d, d ∈ env → d.free = true) (hg : GlobOk X (fun _ => none) w) :
 Sim X ⟨[], G0 w, fun _ => none⟩ w env vals [] := by
 refine ⟨hl, hr, rfl, fun i b cs h => by simp at h, ?_, fun b ℓ h => by simp at h, fun b hb => ?_, hg⟩
 · intro ℓ md t l a len cap ho hmd
   exfalso
   generalize hx : D.sl md t l = x at ho
   cases ho with
   | leaf hd hv => subst hx; have := hf _ (List.mem_of_getElem? hd); rw [(keeps_free1 hmd).2] at this; cases this
   | agg hd hv hj he => subst hx; have := free1_get (hf _ (List.mem_of_getElem? hd)) hj; rw [(keeps_free1 hmd).1] at this; cases this
   | tup hd hv hj he => subst hx; have := free1_get (hf _ (List.mem_of_getElem? hd)) hj; rw [(keeps_free1 hmd).1] at this; cases this
   | cell hi hb hj hv => simp at hi
 · unfold G0
   simp only
   rw [Array.getElem?_eq_none hb]
def askB : D → Sto → Option (Bool × Unit) := fun d _ => match d with
 | .bool b => some (b, ())
 | _ => none
theorem law_calls {f : FuncId} {fn : Func} {raw : Con} (hraw : ConOk P X f raw) (hf : P.funcs[f]? = some fn) (he : enters fn = true) {env : List D} {vals : List Value}
 (hs : Sim X ⟨[], G0 w, fun _ => none⟩ w env vals []) (hT : raw (Bool × Unit) env [] askB = some (true, ())) :
 Calls P f vals.toArray w fun e w' => e = .returned (.bool true) ∧ Below w.heap.size w w' := by
 have fin : ∀ e w', CallPost X ⟨[], G0 w, fun _ => none⟩ w askB (true, ()) e w' → e = .returned (.bool true) ∧ Below w.heap.size w w' := by
  rintro e w' ⟨v, d, sto', g', rfl, hk, h1, e1⟩
  have hd : d = .bool true := by
   unfold askB at hk
   split at hk
   · cases hk; rfl
   · cases hk
  subst hd
  have hrep := h1.rep 0 _ _ rfl rfl
  cases hrep
  exact ⟨rfl, e1.os, e1.tape, e1.output, e1.size, fun k hk => e1.blk k hk rfl⟩
 rcases hraw _ _ _ _ _ _ _ _ hT hs with ⟨_, hc⟩ | ⟨v, w', hc, _⟩
 · exact hc.mono fin
 · have := run_enter hf he vals.toArray w
   rw [this] at hc; cases hc
theorem trodAll_carry (hl : laidOutB P = true) {W W' : World} : ∀ (ts : List TypeId) (vs : List Value) (ds : List (DataW H)) (ps : List MemPlace), ts.all (fun t => P.readableRec t && decide (t < P.types.size)) = true →
 DataW.TrodAll en P W 0 (fun _ => true) true ts vs ds ps → Below W.heap.size W W' → (∀ x, x ∈ ps → x.block < W.heap.size) → DataW.TrodAll en P W' 0 (fun b => decide (b < W.heap.size)) true ts vs ds ps
 | [], vs, ds, ps, _, h, _, _ => by cases vs <;> cases ds <;> simp [DataW.TrodAll] at h ⊢; exact h
 | t :: ts, [], ds, ps, _, h, _, _ => by simp [DataW.TrodAll] at h
 | t :: ts, v :: vs, [], ps, _, h, _, _ => by simp [DataW.TrodAll] at h
 | t :: ts, v :: vs, d :: ds, ps, hr, h, hb, hlt => by
  obtain ⟨p, q, h1, h2, rfl⟩ := h
  simp only [List.all_cons, Bool.and_eq_true, decide_eq_true_eq] at hr
  exact ⟨p, q, Below.trod hl hr.1.1 hr.1.2 h1 hb (fun x hx => hlt x (by simp [hx])), trodAll_carry hl ts vs ds q hr.2 h2 hb (fun x hx => hlt x (by simp [hx])), rfl⟩
theorem law_lifted {C : Checked} (hX : X.glob = []) {os : Os} {f : FuncId} {fn : Func} {s : ChangeSpec} {conds : List PathCond} {raw : Con} (n : Nat) (tys : List Ty)
 (own : ownKnob C.prog.godebug = none) (started : os.Started) (noInit : C.prog.inits.idxOf? f = none) (hfn : C.prog.funcs[f]? = some fn) (he : enters fn = true)
 (witness : ∃ (w : World) (tape : Tape) (i : Input), w.os = os ∧ (w.forCall tape i).Shaped C.prog ∧ i.vars = [] ∧ Input.okWide C.prog (w.forCall tape i) .any w.heap.size f i ∧
  s.pre6 en C.prog fn conds false (w.forCall tape i).memory i.args ∧ ({} : Assume).holds C.prog (lone (Frame.enter C.prog f i.args .normal) [] (w.forCall tape i)))
 (hvars : s.vars = []) (hspec : ∀ ds : List (DataW H), ds.length = fn.params.toList.length → s.fn H ds = { results := [.lit (.bool true)], args := ds })
 (hrt : ∃ t, fn.resultTypes = #[t] ∧ C.prog.underlying t = some .bool) (htys : tysB C.prog n fn.params.toList tys = true) (hlaid : laidOutB C.prog = true)
 (hread : fn.params.toList.all (fun t => C.prog.readableRec t && decide (t < C.prog.types.size)) = true) (hraw : ConOk C.prog X f raw)
 (hpure : ∀ x : denA tys, WfA tys x → raw (Bool × Unit) (envA tys x) [] askB = some (true, ())) :
 ReturnsInHanded {} C os f .any (s.pre6 en C.prog fn conds false) (s.post en C.prog fn false true false false) := by
 refine returnsInHanded_of_change_sized own started noInit hfn witness ?_
 intro W base args ds gs before hval hW _ hsz _
 have hW' := hW
 obtain ⟨p, q, hA, hV, rfl, _, _⟩ := hW
 have hlt : ∀ x, x ∈ p → x.block < W.heap.size := fun x hx => hW'.lt x (by simp [hx])
 have hV0 := hV
 rw [hvars] at hV0
 obtain ⟨rfl, rfl⟩ := trodVars_none hV0
 have hsz' : ∀ m, m ∈ DataW.weightsEach C.prog fn.params.toList ds → m ≤ reachBytes := by
  intro m hm
  have e : s.plain.varTypes C.prog = [] := by simp [DataSpec.varTypes, ChangeSpec.plain, hvars]
  rw [e, List.append_nil, List.append_nil] at hsz
  have := List.all_eq_true.1 hsz m hm
  simpa using this
 obtain ⟨hdl, x, hx, hxl, hxr⟩ := args_read (X := X) (n := n) fn.params.toList tys args.toList ds p htys hA (fun j t v h1 h2 => hval j t v (by simpa using h1) (by simpa using h2)) hsz'
 have hcalls := law_calls (w := W) hraw hfn he (sim0 hxl hxr (free_env tys x) (fun b ob hm => by rw [hX] at hm; cases hm)) (hpure x hx)
 refine hcalls.mono fun e W' ⟨he', bel⟩ => ⟨_, he', ?_⟩
 obtain ⟨rt, hrt1, hrt2⟩ := hrt
 refine ⟨ds, [], p ++ [], [], p, [], hW', ?_, ?_, ?_, bel.frame _, fun h => by cases h⟩
 · rw [hspec _ (by simpa using hdl), hrt1]
   exact trodAll_mk1 (shut_bool hrt2 _)
 · rw [hspec _ (by simpa using hdl)]
   simpa using trodAll_carry hlaid _ _ _ _ hread hA bel hlt
 · rw [hspec _ (by simpa using hdl), hvars]
   rfl
end
end Go.Ev
namespace Go.Ev
noncomputable section
@[reducible] def fnL : List LC → Type → Type
 | [], T => T
 | .lit _ :: r, T => fnL r T
 | .int _ :: r, T => Int → fnL r T
 | .bool :: r, T => Bool → fnL r T
 | .str :: r, T => List UInt8 → fnL r T
 | .err :: r, T => Err → fnL r T
 | .sl _ t :: r, T => List t.den → fnL r T
 | .arr t :: r, T => List t.den → fnL r T
@[reducible] def fnT : List TC → Type → Type
 | [], T => T
 | .l c :: r, T => fnL [c] (fnT r T)
 | .agg cs :: r, T => fnL cs (fnT r T)
@[reducible] def fnE : List SC → Type → Type
 | [], T => T
 | .leaf c :: r, T => fnL [c] (fnE r T)
 | .agg cs :: r, T => fnL cs (fnE r T)
 | .tup cs :: r, T => fnT cs (fnE r T)
 | .box cs :: r, T => fnL cs (fnE r T)
 | .fn _ cs :: r, T => fnL cs (fnE r T)
@[reducible] def fnR : List (List LC) → Type → Type
 | [], T => T
 | cs :: r, T => fnL cs (fnR r T)
@[reducible] def SCode.fn (c : SCode) (T : Type) : Type := fnE c.env (fnR c.sto T)
noncomputable def appL : (cs : List LC) → {S T : Type} → fnL cs S → denL cs T → S × T
 | [], _, _, f, x => (f, x)
 | .lit _ :: r, _, _, f, x => appL r f x
 | .int _ :: r, _, _, f, x => appL r (f x.1) x.2
 | .bool :: r, _, _, f, x => appL r (f x.1) x.2
 | .str :: r, _, _, f, x => appL r (f x.1) x.2
 | .err :: r, _, _, f, x => appL r (f x.1) x.2
 | .sl _ _ :: r, _, _, f, x => appL r (f x.1) x.2
 | .arr _ :: r, _, _, f, x => appL r (f x.1) x.2
noncomputable def appT : (cs : List TC) → {S T : Type} → fnT cs S → denT cs T → S × T
 | [], _, _, f, x => (f, x)
 | .l c :: r, _, _, f, x => let p := appL [c] f x; appT r p.1 p.2
 | .agg cs :: r, _, _, f, x => let p := appL cs f x; appT r p.1 p.2
noncomputable def appE : (cs : List SC) → {S T : Type} → fnE cs S → denE cs T → S × T
 | [], _, _, f, x => (f, x)
 | .leaf c :: r, _, _, f, x => let p := appL [c] f x; appE r p.1 p.2
 | .agg cs :: r, _, _, f, x => let p := appL cs f x; appE r p.1 p.2
 | .tup cs :: r, _, _, f, x => let p := appT cs f x; appE r p.1 p.2
 | .box cs :: r, _, _, f, x => let p := appL cs f x; appE r p.1 p.2
 | .fn _ cs :: r, _, _, f, x => let p := appL cs f x; appE r p.1 p.2
noncomputable def appR : (cs : List (List LC)) → {S T : Type} → fnR cs S → denR cs T → S × T
 | [], _, _, f, x => (f, x)
 | cs :: r, _, _, f, x => let p := appL cs f x; appR r p.1 p.2
noncomputable def SCode.app (c : SCode) {T : Type} (f : c.fn T) (x : c.den) : T := let p := appE c.env f x; (appR c.sto p.1 p.2).1
noncomputable def curL : (cs : List LC) → {S S' T : Type} → ((T → S) → S') → (denL cs T → S) → fnL cs S'
 | [], _, _, _, h, g => h g
 | .lit _ :: r, _, _, _, h, g => curL r h g
 | .int _ :: r, _, _, _, h, g => fun a => curL r h fun x => g (a, x)
 | .bool :: r, _, _, _, h, g => fun a => curL r h fun x => g (a, x)
 | .str :: r, _, _, _, h, g => fun a => curL r h fun x => g (a, x)
 | .err :: r, _, _, _, h, g => fun a => curL r h fun x => g (a, x)
 | .sl _ _ :: r, _, _, _, h, g => fun a => curL r h fun x => g (a, x)
 | .arr _ :: r, _, _, _, h, g => fun a => curL r h fun x => g (a, x)
noncomputable def curT : (cs : List TC) → {S S' T : Type} → ((T → S) → S') → (denT cs T → S) → fnT cs S'
 | [], _, _, _, h, g => h g
 | .l c :: r, _, _, _, h, g => curL [c] (fun g' => curT r h g') g
 | .agg cs :: r, _, _, _, h, g => curL cs (fun g' => curT r h g') g
noncomputable def curE : (cs : List SC) → {S S' T : Type} → ((T → S) → S') → (denE cs T → S) → fnE cs S'
 | [], _, _, _, h, g => h g
 | .leaf c :: r, _, _, _, h, g => curL [c] (fun g' => curE r h g') g
 | .agg cs :: r, _, _, _, h, g => curL cs (fun g' => curE r h g') g
 | .tup cs :: r, _, _, _, h, g => curT cs (fun g' => curE r h g') g
 | .box cs :: r, _, _, _, h, g => curL cs (fun g' => curE r h g') g
 | .fn _ cs :: r, _, _, _, h, g => curL cs (fun g' => curE r h g') g
noncomputable def curR : (cs : List (List LC)) → {S S' T : Type} → ((T → S) → S') → (denR cs T → S) → fnR cs S'
 | [], _, _, _, h, g => h g
 | cs :: r, _, _, _, h, g => curL cs (fun g' => curR r h g') g
noncomputable def SCode.cur (c : SCode) {T : Type} (g : c.den → T) : c.fn T := curE c.env (fun g' => curR c.sto (fun g'' => g'' ()) g') g
noncomputable def SCode.ex (c : SCode) {R : Type} (k : Exit → St → Option R) (e : Exit) : c.fn (Option R) := c.cur fun y => k e (mkSt c y)
def A : Nat → List SC → List SC
 | 0, l => l
 | n + 1, l => .leaf (.lit .any) :: A n l
def ids (l : List Nat) (r : List (Nat × Sh)) : List (Nat × Sh) := l.map (fun t => (t, .id)) ++ r
structure CR where
 f : Nat
 con : Con
 fits : List D → Sto → Bool
 calm : Bool
section
variable {P : Program} {X : Cfg}
structure CR.Ok (P : Program) (X : Cfg) (c : CR) : Prop where
 ok : ConOk P X c.f c.con
 bnd : ∀ calm : List Nat, (c.calm = false → calm.any (Nat.beq c.f) = false) → BndC calm c.f c.con
noncomputable def CR.or (a b : CR) : CR := ⟨a.f, conOr a.fits a.con b.con, fun l s => a.fits l s || b.fits l s, a.calm && b.calm⟩
theorem CR.Ok.or_ok {a b : CR} (e : b.f = a.f) (ha : a.Ok P X) (hb : b.Ok P X) : (a.or b).Ok P X := by
 obtain ⟨fa, ca, ta, ma⟩ := a
 obtain ⟨fb, cb, tb, mb⟩ := b
 simp only at e
 subst e
 refine ⟨conOr_ok ha.ok hb.ok, fun calm h => bndOr (ha.bnd calm fun h' => h ?_) (hb.bnd calm fun h' => h ?_)⟩
 · simp only at h'; simp [CR.or, h']
 · simp only at h'; simp [CR.or, h']
structure RC where
 rs : SC
 rows : List (List LC)
@[reducible] def RC.code (r : RC) : SCode := ⟨[r.rs], r.rows⟩
noncomputable def kF (f : Nat) (src : List Src) (sh : List Sh) (a : SCode) (r : RC) (G : a.fn (Option r.code.den)) : CR := ⟨f, conFn src sh a r.rs r.rows (a.app G), fun l s => (prep src sh a l s).isSome, false⟩
noncomputable def kC (f : Nat) (src : List Src) (sh : List Sh) (a : SCode) (r : RC) (G : a.fn (Option (SCode.den ⟨[r.rs], []⟩))) : CR := ⟨f, conCalm src sh a r.rs (a.app G), fun l s => (prep src sh a l s).isSome, true⟩
noncomputable def kN (f : Nat) (src : List Src) (sh : List Sh) (a : SCode) (t : Ty) (nn nl : CR) : CR := ⟨f, conNil t nn.con nl.con, fun l s => (prep src sh a l s).isSome, true⟩
def TF (raw : Con) (a : SCode) (r : RC) (F : (R : Type) → r.code.fn (Option R) → a.fn (Option R)) : Prop :=
 ∀ (R : Type) (K : D → Sto → Option R) (x : a.den), raw R (mkSt a x).env (mkSt a x).sto K = a.app (F R (r.code.cur fun y => K ((mkSt r.code y).env.headD .any) (mkSt r.code y).sto)) x
def TK (raw : Con) (a : SCode) (r : RC) (F : (R : Type) → (SCode.fn ⟨[r.rs], []⟩) (Option R) → a.fn (Option R)) : Prop :=
 ∀ (R : Type) (K : D → Sto → Option R) (x : a.den), raw R (mkSt a x).env (mkSt a x).sto K = a.app (F R (SCode.cur ⟨[r.rs], []⟩ fun y => K ((mkE [r.rs] y).1.headD .any) (mkSt a x).sto)) x
theorem okF {f : Nat} {raw : Con} (hraw : ConOk P X f raw) {src : List Src} {sh : List Sh} {a : SCode} {r : RC} {G : a.fn (Option r.code.den)} (F : (R : Type) → r.code.fn (Option R) → a.fn (Option R))
 (hT : TF raw a r F) (hG : G = F _ (r.code.cur some)) : (kF f src sh a r G).Ok P X := by
 refine ⟨?_, fun calm h => bndFn (h rfl)⟩
 have := conFn_ok hraw (src := src) (sh := sh) (rs := r.rs) (rows := r.rows) (fun R K x => a.app (F R (r.code.cur K)) x) hT
 subst hG
 exact this
theorem okC {f : Nat} {raw : Con} (hraw : ConOk P X f raw) {src : List Src} {sh : List Sh} {a : SCode} {r : RC} {G : a.fn (Option (SCode.den ⟨[r.rs], []⟩))} (F : (R : Type) → (SCode.fn ⟨[r.rs], []⟩) (Option R) → a.fn (Option R))
 (hT : TK raw a r F) (hG : G = F _ (SCode.cur ⟨[r.rs], []⟩ some)) : (kC f src sh a r G).Ok P X := by
 refine ⟨?_, fun calm h => bndCalm⟩
 have := conCalm_ok hraw (src := src) (sh := sh) (rs := r.rs) (fun R K x => a.app (F R (SCode.cur ⟨[r.rs], []⟩ K)) x) hT
 subst hG
 exact this
theorem okF0 {f : Nat} {src : List Src} {sh : List Sh} {a : SCode} {r : RC} {G : a.fn (Option r.code.den)} (h : ∀ x, a.app G x = none) : (kF f src sh a r G).Ok P X := by
 refine ⟨?_, fun calm h => bndFn (h rfl)⟩
 intro R args sto K r g w vals hK hs
 simp only [kF] at hK
 unfold conFn at hK
 split at hK
 · rw [h] at hK; cases hK
 · cases hK
theorem okC0 {f : Nat} {src : List Src} {sh : List Sh} {a : SCode} {r : RC} {G : a.fn (Option (SCode.den ⟨[r.rs], []⟩))} (h : ∀ x, a.app G x = none) : (kC f src sh a r G).Ok P X := by
 refine ⟨?_, fun calm h => bndCalm⟩
 intro R args sto K r g w vals hK hs
 simp only [kC] at hK
 unfold conCalm at hK
 split at hK
 · rw [h] at hK; cases hK
 · cases hK
theorem okN {f : Nat} {src : List Src} {sh : List Sh} {a : SCode} {t : Ty} {nn nl : CR} (h1 : nn.Ok P X) (h2 : nl.Ok P X) (e1 : nn.f = f) (e2 : nl.f = f) (c1 : nn.calm = true) (c2 : nl.calm = true)
 (hag : ∀ (R : Type) (sto : Sto) (K : D → Sto → Option R) (r : R), nn.con R [.sl .nn t []] sto K = some r → nl.con R [.nils] sto (fun d s => K ((Sh.own t).on d) s) = some r) : (kN f src sh a t nn nl).Ok P X := by
 subst e1
 refine ⟨conNil_ok h1.ok (e2 ▸ h2.ok) hag, fun calm _ => bndNil (h1.bnd calm (by simp [c1])) (e2 ▸ h2.bnd calm (by simp [c2]))⟩
noncomputable def Cx.lean (b : Cx) (cs : List CR) (fs : List (Nat × Func)) : Cx := { b with con := cs.map fun c => (c.f, c.con), funs := fs, loops := [], ret := [], calm := (cs.filter fun c => c.calm).map fun c => c.f, bnd := cs.map fun c => c.f }
def AllCR (P : Program) (X : Cfg) : List CR → Prop
 | [] => True
 | c :: r => c.Ok P X ∧ AllCR P X r
def calmB (calm : List Nat) : List CR → Bool
 | [] => true
 | c :: r => match c.calm with
  | true => calmB calm r
  | false => match calm.any (Nat.beq c.f) with
   | true => false
   | false => calmB calm r
theorem AllCR.con : ∀ {l : List CR}, AllCR P X l → AllCon P X (l.map fun c => (c.f, c.con))
 | [], _ => trivial
 | _ :: _, h => ⟨h.1.ok, AllCR.con h.2⟩
theorem AllCR.bnd {calm : List Nat} : ∀ {l : List CR}, calmB calm l = true → AllCR P X l → AllBnd calm (l.map fun c => (c.f, c.con))
 | [], _, _ => trivial
 | c :: r, hc, h => by
  unfold calmB at hc
  split at hc
  · rename_i h1
    exact ⟨h.1.bnd calm (fun h2 => absurd (h1.symm.trans h2) Bool.noConfusion), AllCR.bnd hc h.2⟩
  · split at hc
    · cases hc
    · rename_i h1 h2
      exact ⟨h.1.bnd calm fun _ => h2, AllCR.bnd hc h.2⟩
theorem csL {b : Cx} (hb : CxOk P X b) (hm : P.follows .mixedOrders = true) {cs : List CR} {fs : List (Nat × Func)} (hc : AllCR P X cs) (hf : AllFn P fs) (hk : calmB (b.lean cs fs).calm cs = true) : CsOk P X (b.lean cs fs) :=
 csOk ⟨hb.1, hb.2, hb.3, hb.4, hb.5⟩ hm hc.con hf (hc.bnd hk) (by show List.map _ _ = List.map _ (List.map _ _); rw [List.map_map]; rfl)
structure FD where
 cx : Cx
 dep : Nat
 keep : List (Nat × LH)
 sh : List Sh
 rsh : List (Nat × List (Nat × Sh))
 fn : Func
noncomputable def FD.raw (d : FD) : Con := fun _ args sto K => evBody d.cx (hcN d.cx d.dep) d.keep d.sh d.rsh d.fn (bodyC d.fn) args sto K
abbrev JF (c : SCode) := (R : Type) → (Exit → St → Option R) → c.den → Option R
abbrev LF (c : SCode) := (R : Type) → Nat → (Exit → St → Option R) → c.den → Option R
abbrev BF (c : SCode) := (R : Type) → (c.den → Option R) → (Exit → St → Option R) → c.den → Option R
noncomputable def lhL (c : SCode) (F : LF c) (env : List (Nat × Sh)) (sto : List (Nat × List (Nat × Sh))) (out : List (Nat × Sh)) (gc : Option Nat) : LH := { env, sto, out, con := some (lconOf c fun R k x => F R big k x), gc }
noncomputable def lhJ (c : SCode) (F : JF c) (env : List (Nat × Sh)) (sto : List (Nat × List (Nat × Sh))) (out : List (Nat × Sh)) (cut : Nat) (gc : Option Nat) : LH := { env, sto, out, con := some (lconOf c F), cut, gc }
def LOkD (d : FD) (i : Nat) : Prop := ∀ R, LOkR (R := R) d.cx (hcN d.cx d.dep) d.keep (loopC d.fn i)
def JOkD (d : FD) (i : Nat) : Prop := ∀ R, JOkR (R := R) d.cx (hcN d.cx d.dep) d.keep (joinC d.fn i)
theorem lokN {d : FD} {i : Nat} (h : ((firstRegion (loopC d.fn i)).bind (look d.keep)).isNone = true) : LOkD d i := fun _ => lok_none h
theorem lokD {d : FD} {i : Nat} {c : SCode} (F : LF c) (G : BF c) (lh : LH) (e : lh.con = some (lconOf c fun R k x => F R big k x))
 (hk : (firstRegion (loopC d.fn i)).bind (look d.keep) = some lh)
 (hs : ∀ (R : Type) (recS : St → Option R) (k : Exit → St → Option R) (x : c.den), evCode d.cx (hcN d.cx d.dep) d.keep (loopC d.fn i) (mkSt c x) (fun e st' => match e with | .normal => recS (norm lh c.sto.length st') | e => k e (normO lh c.sto.length st')) = G R (fun y => recS (mkSt c y)) k x)
 (h0 : ∀ (R : Type) (k : Exit → St → Option R) (x : c.den), F R 0 k x = none) (hn : ∀ (R : Type) (n : Nat) (k : Exit → St → Option R) (x : c.den), F R (n + 1) k x = G R (F R n k) k x) : LOkD d i := fun R =>
 lok_iter (lh := lh) c F (fun _ => big) (G R) hk e (hs R) (h0 R) (hn R)
theorem jokD {d : FD} {i : Nat} {c : SCode} (F : JF c) (lh : LH) (e : lh.con = some (lconOf c F))
 (hk : joinAt d.keep (joinC d.fn i) = some lh)
 (hs : ∀ (R : Type) (k : Exit → St → Option R) (x : c.den), evCode d.cx (hcN d.cx d.dep) d.keep (joinC d.fn i) (mkSt c x) (fun e st' => k e (normO lh lh.cut st')) = F R k x) : JOkD d i := fun R =>
 jok_of (lh := lh) c F hk e (hs R)
def AllSeqD (d : FD) (i : Nat) (lh : LH) (c : SCode) (F : JF c) : List (List Nat) → Prop
 | [] => True
 | l :: r => (∀ (R : Type) (k : Exit → St → Option R) (x : c.den), seqI d.cx (hcN d.cx d.dep) (regOps (joinC d.fn i)) l (mkSt c x) (fun st' => k .normal (normO lh lh.cut st')) = F R k x) ∧ AllSeqD d i lh c F r
theorem AllSeqD.at {d : FD} {i : Nat} {lh : LH} {c : SCode} {F : JF c} (R : Type) : ∀ {l : List (List Nat)}, AllSeqD d i lh c F l → AllSeq d.cx (hcN d.cx d.dep) (joinC d.fn i) lh c (F R) l
 | [], _ => trivial
 | _ :: _, h => ⟨h.1 R, AllSeqD.at R h.2⟩
theorem rokD {d : FD} (hcs : CsOk P X d.cx) {i : Nat} {c : SCode} (F : JF c) (lh : LH) (e : lh.con = some (lconOf c F))
 (hf : d.cx.funs = []) (hbe : d.cx.bnd = d.cx.con.map (·.1))
 (hb : isReg (joinC d.fn i) = true) (hk : regAt d.keep (regId (joinC d.fn i)) = some lh) (ls : List (List Nat)) (hls : reps d.cx (regOps (joinC d.fn i)) = ls) (hs : AllSeqD d i lh c F ls) : JOkD d i := fun R =>
 rok_of (lh := lh) c F hb hk e (hcN_nf hcs hf hbe d.dep) (hcN_bnd hcs d.dep) ls hls (hs.at R)
def AllLk (d : FD) : Nat → Nat → Prop
 | _, 0 => True
 | i, m + 1 => LOkD d i ∧ AllLk d (i + 1) m
theorem AllLk.get {d : FD} : ∀ {m i : Nat}, AllLk d i m → ∀ j, j < m → LOkD d (i + j)
 | 0, _, _, j, h => absurd h (Nat.not_lt_zero j)
 | m + 1, i, h, 0, _ => h.1
 | m + 1, i, h, j + 1, hj => by have := AllLk.get h.2 j (by omega); rw [show i + (j + 1) = i + 1 + j by omega]; exact this
def AllJk (d : FD) : List Nat → Prop
 | [] => True
 | i :: r => JOkD d i ∧ AllJk d r
theorem AllJk.get {d : FD} : ∀ {l : List Nat}, AllJk d l → ∀ i, i ∈ l → JOkD d i
 | [], _, i, h => by simp at h
 | a :: r, ha, i, h => by
  rcases List.mem_cons.1 h with rfl | h
  · exact ha.1
  · exact AllJk.get ha.2 i h
def FD.chk (d : FD) (n : Nat) (js : List Nat) : Bool := match enters d.fn with
 | true => match Nat.beq (loopsIn (bodyC d.fn)).length n with
  | true => jChk d.keep js 0 (joinsIn (bodyC d.fn))
  | false => false
 | false => false
theorem rawD {d : FD} (hcs : CsOk P X d.cx) {f : Nat} (hf : P.funcs[f]? = some d.fn) {n : Nat} {js : List Nat} (hc : d.chk n js = true) (hl : AllLk d 0 n) (hj : AllJk d js) : ConOk P X f d.raw := by
 unfold FD.chk at hc
 split at hc
 · rename_i he
   split at hc
   · rename_i hn
     exact raw_ok2 hcs d.dep hf he (fun R => loops_all n (Nat.eq_of_beq_eq_true hn) fun i hi => by have := hl.get i hi R; rw [Nat.zero_add] at this; exact this) (fun R => joins_all js hc fun i hi => hj.get i hi R)
   · cases hc
 · cases hc
end
end
end Go.Ev
