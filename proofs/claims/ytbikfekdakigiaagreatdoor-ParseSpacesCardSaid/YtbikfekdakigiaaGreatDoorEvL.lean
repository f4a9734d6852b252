/-
  An evaluator of the model's code over plain values, and that it is sound (part 4).
  Conditions: those that each statement prints, and no other.
-/
import Derived.Test.YtbikfekdakigiaaGreatDoorEvC
import Derived.Deep.DeepHandedRow
import Derived.Deep.DeepWitnessRowRef
import Derived.Below
import Derived.Lib.ItoaLen
import Derived.Lib.LaidTab
import Derived.Lib.Replace
import Derived.Lib.CountLaws
import Derived.Lib.ParseIntBTie
import Derived.Lib.ParseIntBMem
import Derived.Lib.Repeat
import Derived.Lib.Case
import Derived.Lib.AtoiErrMem
import Derived.Lib.LaidU8
import Derived.Lib.LaidIn
import Derived.Shelf.Vars
import Derived.LaidHandle
import Derived.LaidSub
import Derived.Lay
import Derived.Laws.Externs
set_option linter.unusedVariables false
set_option linter.unusedSimpArgs false
namespace Go.Ev
open Go.RowKit Go.ChangeShapes Go.WideShapes
section
variable {H : Type} {en : TypeId × Value → H} {X : Cfg}
theorem law_lifted_laid {C : Checked} {os : Os} {f : FuncId} {fn : Func} {s : ChangeSpec} {conds : List PathCond} {raw : Con} {laid : List (String × DataW Unit)} (F : Stop.Interp) (n : Nat) (tys : List Ty)
 (own : ownKnob C.prog.godebug = none) (started : os.Started) (noInit : C.prog.inits.idxOf? f = none) (hfn : C.prog.funcs[f]? = some fn) (he : enters fn = true)
 (witness : ∃ (w : World) (tape : Tape) (i : Input), w.os = os ∧ (w.forCall tape i).Shaped C.prog ∧ i.vars = [] ∧ Input.okWide C.prog (w.forCall tape i) .any w.heap.size f i ∧
  (OpenSpec.ofChange s).preRow en C.prog fn conds false laid (w.forCall tape i).memory i.args ∧ ({} : Assume).holds C.prog (lone (Frame.enter C.prog f i.args .normal) [] (w.forCall tape i)))
 (hvars : s.vars = []) (hspec : ∀ ds : List (DataW H), ds.length = fn.params.toList.length → s.fn H ds = { results := [.lit (.bool true)], args := ds })
 (hrt : ∃ t, fn.resultTypes = #[t] ∧ C.prog.underlying t = some .bool) (htys : tysB C.prog n fn.params.toList tys = true) (hlaid : laidOutB C.prog = true)
 (hread : fn.params.toList.all (fun t => C.prog.readableRec t && decide (t < C.prog.types.size)) = true) (hraw : ConOk C.prog X f raw)
 (hglob : ∀ W : World, laidMetH C.prog laid W → W.ShapedOpen C.prog → GlobOk X (fun _ => none) W)
 (hpure : ∀ x : denA tys, WfA tys x → raw (Bool × Unit) (envA tys x) [] askB = some (true, ())) :
 ReturnsInHanded {} C os f .any ((OpenSpec.ofChange s).preRow en C.prog fn conds false laid) (((OpenSpec.ofChange s).at F).post en C.prog fn false true false false) := by
 refine returnsInHanded_of_row (s := OpenSpec.ofChange s) own started noInit hfn witness ?_
 intro W base args ds gs before hval hW _ _ hsz hL hsh _
 have hW' := hW
 obtain ⟨p, q, hA, hV, rfl, _, _⟩ := hW
 have hlt : ∀ x, x ∈ p → x.block < W.heap.size := fun x hx => hW'.lt x (by simp [hx])
 have hV0 := hV
 rw [show (OpenSpec.ofChange s).vars = [] from hvars] at hV0
 obtain ⟨rfl, rfl⟩ := trodVars_none hV0
 have hsz' : ∀ m, m ∈ DataW.weightsEach C.prog fn.params.toList ds → m ≤ reachBytes := by
  intro m hm
  have e : (OpenSpec.ofChange s).bare.plain.varTypes C.prog = [] := by simp [DataSpec.varTypes, ChangeSpec.plain, OpenSpec.bare, OpenSpec.ofChange, hvars]
  rw [e, List.append_nil, List.append_nil] at hsz
  have := List.all_eq_true.1 hsz m hm
  simpa using this
 obtain ⟨hdl, x, hx, hxl, hxr⟩ := args_read (X := X) (n := n) fn.params.toList tys args.toList ds p htys hA (fun j t v h1 h2 => hval j t v (by simpa using h1) (by simpa using h2)) hsz'
 have hcalls := law_calls (w := W) hraw hfn he (sim0 hxl hxr (free_env tys x) (hglob W hL hsh)) (hpure x hx)
 refine hcalls.mono fun e W' ⟨he', bel⟩ => ⟨_, he', ?_⟩
 obtain ⟨rt, hrt1, hrt2⟩ := hrt
 have hs0 : ((OpenSpec.ofChange s).at F).fn H (ds ++ []) = { results := [.lit (.bool true)], args := ds } := by
  show s.fn H (ds ++ []) = _
  rw [List.append_nil]; exact hspec _ hdl
 refine ⟨ds, [], p ++ [], [], p, [], hW', ?_, ?_, ?_, bel.frame _, fun h => by cases h⟩
 · rw [hs0, hrt1]
   exact trodAll_mk1 (shut_bool hrt2 _)
 · rw [hs0]
   simpa using trodAll_carry hlaid _ _ _ _ hread hA bel hlt
 · rw [hs0, show ((OpenSpec.ofChange s).at F).vars = [] from hvars]
   rfl
end
end Go.Ev
namespace Go.Ev
open Go.RowKit
section
variable {P : Program} {X : Cfg}
theorem Sim.below {g env vals sto} {w w' : World} (h : Sim X g w env vals sto) (b : Below w.heap.size w w') : Sim X g w' env vals sto ∧ Ext g w g w' := by
 have hkeep : ∀ b', b' < w.heap.size → w'.heap[b']? = w.heap[b']? := b.block
 have hcell : ∀ b' o, b' < w.heap.size → w'.cell? ⟨b', o, none⟩ = w.cell? ⟨b', o, none⟩ ∧ w'.frozen? ⟨b', o, none⟩ = w.frozen? ⟨b', o, none⟩ := fun b' o hb => by
  simp only [World.cell?, World.frozen?, hkeep b' hb, and_self]
 have hprom : ∀ b' o, o < g.G b' → w'.cell? ⟨b', o, none⟩ = w.cell? ⟨b', o, none⟩ := fun b' o ho => by
  rcases Nat.lt_or_ge b' w.heap.size with h' | h'
  · exact (hcell b' o h').1
  · rw [h.gdom b' h'] at ho; omega
 refine ⟨h.evolve (G' := g.G) (fun _ => Nat.le_refl _) (fun _ _ _ => rfl) hprom (fun b' ℓ hb o => hcell b' o (h.kdom b' ℓ hb)) b.size (fun b' hb => h.gdom b' (Nat.le_trans b.size hb)) (fun b' _ _ _ hb => hkeep b' hb), ?_⟩
 exact ⟨b.size, b.os, b.tape, b.output, fun b' hb _ => hkeep b' hb, hprom, fun _ => Nat.le_refl _, fun _ _ _ => rfl, fun _ _ h => h, fun _ _ h => h⟩
theorem conExt_calls {f : FuncId} {fn : Func} (hf : P.funcs[f]? = some fn) (hen : enters fn = true) {F : List D → Option D}
 (h : ∀ (g : Gh) (w : World) (sto : Sto) (args : List D) (vals : List Value) (d : D), F args = some d → Sim X g w args vals sto →
  d.free = true ∧ ∃ v, Calls P f vals.toArray w (fun e w' => e = .returned v ∧ Below w.heap.size w w') ∧ ∀ w', RepV X g.φ g.G w' d v) : ConOk P X f (conExt F) := by
 intro R args sto K r g w vals hK hs
 unfold conExt at hK
 obtain ⟨d, hd, hK⟩ := Option.bind_eq_some_iff.1 hK
 obtain ⟨hfree, v, hc, hrep⟩ := h g w sto args vals d hd hs
 refine .inl ⟨run_enter hf hen _ w, hc.mono ?_⟩
 rintro e w' ⟨rfl, hb⟩
 obtain ⟨h1, e1⟩ := hs.below hb
 refine ⟨v, d, sto, g, rfl, hK, ?_, e1⟩
 refine ⟨rfl, fun t d' v' h1 h2 => ?_, h1.slen, h1.obj, fun ℓ md ty l a len cap ho hmd => ?_, h1.kdom, h1.gdom, h1.glob⟩
 · cases t with
   | succ t => simp at h1
   | zero => cases h1; cases h2; exact hrep w'
 · cases ℓ with
   | env t j =>
    cases t with
    | zero => exact (ho.not_free (d := d) hmd rfl hfree).elim
    | succ t => have := ho.lt; simp at this
   | obj i => exact ho.not_obj.elim
   | cell i j => exact h1.own _ _ _ _ _ _ _ (ho.of_slot (fun _ _ h => by cases h)) hmd
def tabP (vals : Array Value) (ob : Obj) : Prop := ∃ t fr, ob = .cells vals t fr
theorem tab_is {κ : Nat → Option Loc} {w : World} (h : GlobOk X κ w) {b : Nat} {k : IntKind} {zs : List Int} {name : String} (hm : (b, tabP (zs.map fun z => Value.int k z).toArray) ∈ X.glob) (hn : P.globalNamed name = some b) :
 Lib.TabIs P w name k zs := by
 obtain ⟨_, ob, h2, t, fr, rfl⟩ := h b _ hm
 unfold Lib.TabIs World.var?
 rw [hn]
 simp only [Option.bind_some, h2]
def formatF : List D → Option D
 | [.int .i64 n, .int .i64 b] => match decide (b = 10) with
  | true => some (.str (Lib.itoa n))
  | false => none
 | _ => none
theorem format_ok {f : FuncId} {fn : Func} {name : String} (hf : P.funcs[f]? = some fn) (hen : enters fn = true) {b : Nat} (hm : (b, tabP (Lib.pow10Tab.map fun z => Value.int .u64 z).toArray) ∈ X.glob) (hn : P.globalNamed name = some b)
 (hc : ∀ (n : Int), -9223372036854775808 ≤ n → n ≤ 9223372036854775807 → ∀ w : World, Lib.TabIs P w name .u64 Lib.pow10Tab →
  Calls P f #[.int .i64 n, .int .i64 10] w fun e w' => e = .returned (.string ⟨(Lib.itoa n).toArray⟩) ∧ Below w.heap.size w w') : ConOk P X f (conExt formatF) := by
 refine conExt_calls hf hen fun g w sto args vals d hd hs => ?_
 unfold formatF at hd
 split at hd
 · rename_i n b0
   split at hd
   case h_2 => cases hd
   rename_i h10
   obtain rfl := of_decide_eq_true h10
   cases hd
   have hlen := hs.len
   match vals, hlen with
   | [v1, v2], _ =>
    have h1 := hs.rep 0 (.int .i64 n) v1 rfl rfl
    have h2 := hs.rep 1 (.int .i64 10) v2 rfl rfl
    cases h1 with
    | int hir =>
     cases h2 with
     | int _ =>
      have h6 : Ev.lo .i64 = -9223372036854775808 := by decide
      have h7 : Ev.hi .i64 = 9223372036854775807 := by decide
      unfold InR at hir
      rw [h6, h7] at hir
      refine ⟨rfl, _, hc n hir.1 hir.2 w (tab_is hs.glob hm hn), fun w' => ?_⟩
      have hl := Lib.itoa_length_le n hir.1 hir.2
      have := RepV.str (X := X) (φ := g.φ) (G := g.G) (w := w') ⟨(Lib.itoa n).toArray⟩ (by show (Lib.itoa n).toArray.size ≤ _; rw [List.size_toArray]; omega)
      simpa using this
 · cases hd
theorem replaceK_length (old new : List UInt8) : ∀ (k : Nat) (s : List UInt8), (Lib.replaceK old new k s).length ≤ s.length + k * new.length
 | 0, s => by simp [Lib.replaceK]
 | k + 1, s => by
  rw [Lib.replaceK]
  split
  · omega
  · have := replaceK_length old new k (s.drop ((Lib.index s old).toNat + old.length))
    simp only [List.length_append, List.length_take, List.length_drop, Nat.succ_mul] at this ⊢
    omega
def numP (ob : Obj) : Prop := ∃ m vs t fr, ob = .cells vs t fr ∧ vs[0]? = some (.int .i64 m)
def replaceF : List D → Option D
 | [.str s, .str old, .str new] => match decide (s.length < 4294967281 ∧ 1 ≤ old.length ∧ s.length + Lib.count s old * new.length ≤ 140737488355328) with
  | true => some (.str (Lib.replaceAll s old new))
  | false => none
 | _ => none
theorem replace_ok {f : FuncId} {fn : Func} (hf : P.funcs[f]? = some fn) (hen : enters fn = true) {b : Nat} (hm : (b, numP) ∈ X.glob)
 (hc : ∀ (s old new : ByteArray) (m : Int) (w : World), s.size < 4294967281 → w.cell? ⟨b, 0, none⟩ = some (.int .i64 m) → 1 ≤ old.size → s.size + Lib.countB s old * new.size ≤ 140737488355328 →
  Calls P f #[.string s, .string old, .string new] w fun e w' => e = .returned (.string ⟨(Lib.replaceAll s.data.toList old.data.toList new.data.toList).toArray⟩) ∧ Below w.heap.size w w') : ConOk P X f (conExt replaceF) := by
 refine conExt_calls hf hen fun g w sto args vals d hd hs => ?_
 unfold replaceF at hd
 split at hd
 · rename_i s old new
   split at hd
   · rename_i hcond
     obtain ⟨c1, c2, c3⟩ := of_decide_eq_true hcond
     cases hd
     have hlen := hs.len
     match vals, hlen with
     | [v1, v2, v3], _ =>
      have h1 := hs.rep 0 (.str s) v1 rfl rfl
      have h2 := hs.rep 1 (.str old) v2 rfl rfl
      have h3 := hs.rep 2 (.str new) v3 rfl rfl
      obtain ⟨rfl, _⟩ := rep_str h1
      obtain ⟨rfl, _⟩ := rep_str h2
      obtain ⟨rfl, _⟩ := rep_str h3
      obtain ⟨_, ob, ho, m, vs, t, fr, rfl, hv0⟩ := hs.glob b _ hm
      refine ⟨rfl, _, hc ⟨s.toArray⟩ ⟨old.toArray⟩ ⟨new.toArray⟩ m w (by show s.toArray.size < _; simpa using c1) (by simp only [World.cell?, ho]; simpa using hv0) (by show 1 ≤ old.toArray.size; simpa using c2) (by show s.toArray.size + _ * new.toArray.size ≤ _; simpa [Lib.countB] using c3), fun w' => ?_⟩
      have hl : (Lib.replaceAll s old new).length ≤ 140737488355328 := by
       unfold Lib.replaceAll Lib.replace
       split
       · omega
       · refine Nat.le_trans (replaceK_length _ _ _ _) ?_
         have : Lib.replaceNum s old (-1) ≤ Lib.count s old := by unfold Lib.replaceNum; split <;> omega
         have := Nat.mul_le_mul_right new.length this
         omega
      have := RepV.str (X := X) (φ := g.φ) (G := g.G) (w := w') ⟨(Lib.replaceAll s old new).toArray⟩ (by show (Lib.replaceAll s old new).toArray.size ≤ _; rw [List.size_toArray]; omega)
      simpa using this
   · cases hd
 · cases hd
end
end Go.Ev
namespace Go.Ev
open Go.RowKit
section
variable {P : Program} {X : Cfg}
theorem conExt_calls2 {f : FuncId} {fn : Func} (hf : P.funcs[f]? = some fn) (hen : enters fn = true) {F : List D → Option D}
 (h : ∀ (g : Gh) (w : World) (sto : Sto) (args : List D) (vals : List Value) (d : D), F args = some d → Sim X g w args vals sto →
  d.free = true ∧ Calls P f vals.toArray w (fun e w' => ∃ v, e = .returned v ∧ Below w.heap.size w w' ∧ RepV X g.φ g.G w' d v)) : ConOk P X f (conExt F) := by
 intro R args sto K r g w vals hK hs
 unfold conExt at hK
 obtain ⟨d, hd, hK⟩ := Option.bind_eq_some_iff.1 hK
 obtain ⟨hfree, hc⟩ := h g w sto args vals d hd hs
 refine .inl ⟨run_enter hf hen _ w, hc.mono ?_⟩
 rintro e w' ⟨v, rfl, hb, hrep⟩
 obtain ⟨h1, e1⟩ := hs.below hb
 refine ⟨v, d, sto, g, rfl, hK, ?_, e1⟩
 refine ⟨rfl, fun t d' v' h1 h2 => ?_, h1.slen, h1.obj, fun ℓ md ty l a len cap ho hmd => ?_, h1.kdom, h1.gdom, h1.glob⟩
 · cases t with
   | succ t => simp at h1
   | zero => cases h1; cases h2; exact hrep
 · cases ℓ with
   | env t j =>
    cases t with
    | zero => exact (ho.not_free (d := d) hmd rfl hfree).elim
    | succ t => have := ho.lt; simp at this
   | obj i => exact ho.not_obj.elim
   | cell i j => exact h1.own _ _ _ _ _ _ _ (ho.of_slot (fun _ _ h => by cases h)) hmd
def parseV (s : List UInt8) : Int := match Lib.parseIntB 64 s with
 | .ok v => v
 | .syntax => 0
 | .range => Lib.intSat 64 s
def parseE (s : List UInt8) : Err := match Lib.parseIntB 64 s with
 | .ok _ => .nil
 | _ => .other
theorem parseV_in (s : List UInt8) : InR .i64 (parseV s) := by
 show (-9223372036854775808 : Int) ≤ parseV s ∧ parseV s ≤ 9223372036854775807
 unfold parseV
 split
 · rename_i v h
   have := Lib.parseIntB_bounds h
   simp at this
   omega
 · omega
 · unfold Lib.intSat
   split <;> simp
def parseF : List D → Option D
 | [.str s, .int .i64 b, .int .i64 z] => match decide (b = 10 ∧ z = 64 ∧ s.length ≤ 281474976710656) with
  | true => some (.tup [.int .i64 (parseV s), .err (parseE s)])
  | false => none
 | _ => none
def errP (ob : Obj) : Prop := ∃ t v T fr, ob = .cells #[.iface t v] T fr
theorem parse_ok {f : FuncId} {fn : Func} (hf : P.funcs[f]? = some fn) (hen : enters fn = true) {b1 b2 : Nat} (hm1 : (b1, errP) ∈ X.glob) (hm2 : (b2, errP) ∈ X.glob)
 {T1 T2 : Nat}
 (hok : ∀ (s : ByteArray), s.size ≤ 9223372036854775806 → ∀ v, Lib.parseIntB 64 s.data.toList = .ok v → ∀ w : World, Calls P f #[.string s, .int .i64 10, .int .i64 64] w fun e w' => e = .returned (.tuple #[.int .i64 v, .nilIface]) ∧ (w' = w ∨ ∃ t, w' = Lib.bytesWorld w T1 t))
 (hsy : ∀ (s : ByteArray), s.size ≤ 281474976710656 → Lib.parseIntB 64 s.data.toList = .syntax → ∀ (ev : Value) (w : World), w.cell? ⟨b1, 0, none⟩ = some ev → (ev = .nilIface ∨ ∃ te pe, ev = .iface te pe) →
  Calls P f #[.string s, .int .i64 10, .int .i64 64] w fun e w' => ∃ N, e = .returned (.tuple #[.int .i64 (0), .iface T2 (.pointer (some ⟨N, 0, none⟩))]) ∧ Below w.heap.size w w')
 (hra : ∀ (s : ByteArray), s.size ≤ 281474976710656 → Lib.parseIntB 64 s.data.toList = .range → ∀ (ev : Value) (w : World), w.cell? ⟨b2, 0, none⟩ = some ev → (ev = .nilIface ∨ ∃ te pe, ev = .iface te pe) →
  Calls P f #[.string s, .int .i64 10, .int .i64 64] w fun e w' => ∃ N, e = .returned (.tuple #[.int .i64 (Lib.intSat 64 s.data.toList), .iface T2 (.pointer (some ⟨N, 0, none⟩))]) ∧ Below w.heap.size w w') : ConOk P X f (conExt parseF) := by
 refine conExt_calls2 hf hen fun g w sto args vals d hd hs => ?_
 unfold parseF at hd
 split at hd
 · rename_i s b z
   split at hd
   case h_2 => cases hd
   rename_i h10
   obtain ⟨rfl, rfl, hlen⟩ := of_decide_eq_true h10
   cases hd
   have hl := hs.len
   match vals, hl with
   | [v1, v2, v3], _ =>
    have h1 := hs.rep 0 (.str s) v1 rfl rfl
    have h2 := hs.rep 1 (.int .i64 10) v2 rfl rfl
    have h3 := hs.rep 2 (.int .i64 64) v3 rfl rfl
    obtain ⟨rfl, _⟩ := rep_str h1
    cases h2 with
    | int _ =>
    cases h3 with
    | int _ =>
    refine ⟨rfl, ?_⟩
    have rep2 : ∀ (w' : World) (v : Value), RepV X g.φ g.G w' (.err (parseE s)) v → RepV X g.φ g.G w' (.tup [.int .i64 (parseV s), .err (parseE s)]) (.tuple #[.int .i64 (parseV s), v]) := fun w' v hv => by
     refine .tup rfl (fun j c hj => ?_)
     match j, hj with
     | 0, hj => cases hj; exact .int (parseV_in s)
     | 1, hj => cases hj; exact hv
     | j + 2, hj => simp at hj
    have hgv : ∀ b, (b, errP) ∈ X.glob → ∃ ev, w.cell? ⟨b, 0, none⟩ = some ev ∧ (ev = .nilIface ∨ ∃ te pe, ev = .iface te pe) := fun b hm => by
     obtain ⟨_, ob, ho, t, v, T, fr, rfl⟩ := hs.glob b _ hm
     exact ⟨.iface t v, by simp only [World.cell?, ho]; rfl, .inr ⟨_, _, rfl⟩⟩
    match hp : Lib.parseIntB 64 s with
    | .ok v =>
     refine (hok ⟨s.toArray⟩ (by show s.toArray.size ≤ _; simp; omega) v (by simpa using hp) w).mono ?_
     rintro e w' ⟨rfl, hw⟩
     have e1 : parseV s = v := by unfold parseV; rw [hp]
     have e2 : parseE s = .nil := by unfold parseE; rw [hp]
     refine ⟨_, rfl, ?_, ?_⟩
     · rcases hw with rfl | ⟨t, rfl⟩
       · exact Below.refl _ _
       · exact Lib.bytesWorld_below _ _ _
     · rw [← e1]; exact rep2 w' _ (by rw [e2]; exact .errNil)
    | .syntax =>
     obtain ⟨ev, hev, hev2⟩ := hgv b1 hm1
     refine (hsy ⟨s.toArray⟩ (by show s.toArray.size ≤ _; simpa using hlen) (by simpa using hp) ev w hev hev2).mono ?_
     rintro e w' ⟨N, rfl, hw⟩
     have e1 : parseV s = 0 := by unfold parseV; rw [hp]
     have e2 : parseE s = .other := by unfold parseE; rw [hp]
     refine ⟨_, rfl, hw, ?_⟩
     rw [← e1]; exact rep2 w' _ (by rw [e2]; exact .errOther _ _)
    | .range =>
     obtain ⟨ev, hev, hev2⟩ := hgv b2 hm2
     refine (hra ⟨s.toArray⟩ (by show s.toArray.size ≤ _; simpa using hlen) (by simpa using hp) ev w hev hev2).mono ?_
     rintro e w' ⟨N, rfl, hw⟩
     have e1 : parseV s = Lib.intSat 64 s := by unfold parseV; rw [hp]
     have e2 : parseE s = .other := by unfold parseE; rw [hp]
     refine ⟨_, rfl, hw, ?_⟩
     have e3 : (ByteArray.mk s.toArray).data.toList = s := by simp
     rw [e3, ← e1]; exact rep2 w' _ (by rw [e2]; exact .errOther _ _)
 · cases hd
def repeatF : List D → Option D
 | [.str s, .int .i64 c] => match decide (0 ≤ c ∧ s.length * c.toNat ≤ 140737488355328) with
  | true => some (.str (Lib.repeatL s c.toNat))
  | false => none
 | _ => none
theorem repeat_ok {f : FuncId} {fn : Func} (hf : P.funcs[f]? = some fn) (hen : enters fn = true)
 (hc : ∀ (s : ByteArray) (c : Nat) (w : World), c ≤ 9223372036854775807 → s.size * c ≤ 140737488355328 →
  Calls P f #[.string s, .int .i64 c] w fun e w' => e = .returned (.string ⟨(Lib.repeatL s.data.toList c).toArray⟩) ∧ Below w.heap.size w w') : ConOk P X f (conExt repeatF) := by
 refine conExt_calls hf hen fun g w sto args vals d hd hs => ?_
 unfold repeatF at hd
 split at hd
 · rename_i s c
   split at hd
   case h_2 => cases hd
   rename_i h0
   obtain ⟨h0, h1⟩ := of_decide_eq_true h0
   cases hd
   have hl := hs.len
   match vals, hl with
   | [v1, v2], _ =>
    have g1 := hs.rep 0 (.str s) v1 rfl rfl
    have g2 := hs.rep 1 (.int .i64 c) v2 rfl rfl
    obtain ⟨rfl, _⟩ := rep_str g1
    cases g2 with
    | int hir =>
     have h6 : Ev.lo .i64 = -9223372036854775808 := by decide
     have h7 : Ev.hi .i64 = 9223372036854775807 := by decide
     unfold InR at hir
     rw [h6, h7] at hir
     have hcc := hc ⟨s.toArray⟩ c.toNat w (by omega) (by show s.toArray.size * _ ≤ _; simpa using h1)
     rw [Int.toNat_of_nonneg h0] at hcc
     refine ⟨rfl, _, hcc, fun w' => ?_⟩
     have hl := Lib.repeatL_length s c.toNat
     have := RepV.str (X := X) (φ := g.φ) (G := g.G) (w := w') ⟨(Lib.repeatL s c.toNat).toArray⟩ (by show (Lib.repeatL s c.toNat).toArray.size ≤ _; rw [List.size_toArray, hl, Nat.mul_comm]; omega)
     simpa using this
 · cases hd
def lowerF : List D → Option D
 | [.str s] => match decide (s.length ≤ 140737488355328) && s.all (fun b => decide (b.toNat < 128)) with
  | true => some (.str (Lib.toLowerA s))
  | false => none
 | _ => none
theorem lower_ok {f : FuncId} {fn : Func} (hf : P.funcs[f]? = some fn) (hen : enters fn = true)
 (hc : ∀ (s : ByteArray) (w : World), s.size ≤ 140737488355328 → (∀ (j : Nat) (b : UInt8), s.data.toList[j]? = some b → b.toNat < 128) →
  Calls P f #[.string s] w fun e w' => e = .returned (.string ⟨(Lib.toLowerA s.data.toList).toArray⟩) ∧ Below w.heap.size w w') : ConOk P X f (conExt lowerF) := by
 refine conExt_calls hf hen fun g w sto args vals d hd hs => ?_
 unfold lowerF at hd
 split at hd
 · rename_i s
   split at hd
   case h_2 => cases hd
   rename_i h0
   simp only [Bool.and_eq_true, decide_eq_true_eq, List.all_eq_true] at h0
   cases hd
   have hl := hs.len
   match vals, hl with
   | [v1], _ =>
    have g1 := hs.rep 0 (.str s) v1 rfl rfl
    obtain ⟨rfl, _⟩ := rep_str g1
    refine ⟨rfl, _, hc ⟨s.toArray⟩ w (by show s.toArray.size ≤ _; simpa using h0.1) (fun j b hj => h0.2 b (by simpa using List.mem_of_getElem? hj)), fun w' => ?_⟩
    have := RepV.str (X := X) (φ := g.φ) (G := g.G) (w := w') ⟨(Lib.toLowerA s).toArray⟩ (by show (Lib.toLowerA s).toArray.size ≤ _; rw [List.size_toArray]; simp [Lib.toLowerA]; omega)
    simpa using this
 · cases hd
def conG (G : List D → Option (Bool × D)) : Con := fun _ args sto K => match G args with
 | some p => match p.1 with
  | true => K p.2 sto
  | false => none
 | none => none
theorem conG_ok {f : FuncId} {F : List D → Option D} {G : List D → Option (Bool × D)} (h : ConOk P X f (conExt F)) (hG : ∀ args p, G args = some p → p.1 = true → F args = some p.2) : ConOk P X f (conG G) := by
 intro R args sto K r g w vals hK hs
 refine h R args sto K r g w vals ?_ hs
 unfold conG at hK
 split at hK
 · rename_i p hp
   split at hK
   · rename_i h1
     unfold conExt; rw [hG args p hp h1]; exact hK
   · cases hK
 · cases hK
def formatG : List D → Option (Bool × D)
 | [.int .i64 n, .int .i64 b] => some (decide (b = 10), .str (Lib.itoa n))
 | _ => none
theorem formatG_of : ∀ args p, formatG args = some p → p.1 = true → formatF args = some p.2 := by
 intro args p h h1
 unfold formatG at h
 split at h
 · cases h; unfold formatF; simp only at h1; dsimp only; rw [h1]
 · cases h
def replaceG : List D → Option (Bool × D)
 | [.str s, .str old, .str new] => some (decide (s.length < 4294967281 ∧ 1 ≤ old.length ∧ s.length + Lib.count s old * new.length ≤ 140737488355328), .str (Lib.replaceAll s old new))
 | _ => none
theorem replaceG_of : ∀ args p, replaceG args = some p → p.1 = true → replaceF args = some p.2 := by
 intro args p h h1
 unfold replaceG at h
 split at h
 · cases h; unfold replaceF; simp only at h1; dsimp only; rw [h1]
 · cases h
def parseG : List D → Option (Bool × D)
 | [.str s, .int .i64 b, .int .i64 z] => some (decide (b = 10 ∧ z = 64 ∧ s.length ≤ 281474976710656), .tup [.int .i64 (parseV s), .err (parseE s)])
 | _ => none
theorem parseG_of : ∀ args p, parseG args = some p → p.1 = true → parseF args = some p.2 := by
 intro args p h h1
 unfold parseG at h
 split at h
 · cases h; unfold parseF; simp only at h1; dsimp only; rw [h1]
 · cases h
def repeatG : List D → Option (Bool × D)
 | [.str s, .int .i64 c] => some (decide (0 ≤ c ∧ s.length * c.toNat ≤ 140737488355328), .str (Lib.repeatL s c.toNat))
 | _ => none
theorem repeatG_of : ∀ args p, repeatG args = some p → p.1 = true → repeatF args = some p.2 := by
 intro args p h h1
 unfold repeatG at h
 split at h
 · cases h; unfold repeatF; simp only at h1; dsimp only; rw [h1]
 · cases h
def lowerG : List D → Option (Bool × D)
 | [.str s] => some (decide (s.length ≤ 140737488355328) && s.all (fun b => decide (b.toNat < 128)), .str (Lib.toLowerA s))
 | _ => none
theorem lowerG_of : ∀ args p, lowerG args = some p → p.1 = true → lowerF args = some p.2 := by
 intro args p h h1
 unfold lowerG at h
 split at h
 · cases h; unfold lowerF; simp only at h1; dsimp only; rw [h1]
 · cases h
end
end Go.Ev
namespace Go.Ev
open Go.RowKit Go.Lib
section
variable {P : Program} {X : Cfg} {W : World}
theorem GlobOk.of_list {l : List (Nat × (Obj → Prop))} (hX : X.glob = l) (h : ∀ x, x ∈ l → ∃ ob, W.heap[x.1]? = some ob ∧ x.2 ob) : GlobOk X (fun _ => none) W := fun b p hm => ⟨rfl, h (b, p) (hX ▸ hm)⟩
theorem heap_of_var {n : String} {g : Nat} (hg : P.globalNamed n = some g) {cs : Array Value} (h : W.var? P n = some cs) : ∃ t fr, W.heap[g]? = some (.cells cs t fr) := by
 unfold World.var? at h
 rw [hg, Option.bind_some] at h
 split at h
 · rename_i c t fr hh; cases h; exact ⟨t, fr, hh⟩
 · cases h
theorem glob_tab {n : String} {k : IntKind} {zs : List Int} {g : Nat} {t e : TypeId} {m : Nat} (h : VarReads P W n (tabData k zs)) (hg : P.globalNamed n = some g) (hty : (P.globals[g]?).map (·.type) = some t)
 (ht : P.underlying t = some (.array m e)) (he : P.underlying e = some (.int k)) (hce : P.cellsOf e = 1) (hct : P.cellsOf t = m) : ∃ ob, W.heap[g]? = some ob ∧ tabP (zs.map fun z => Value.int k z).toArray ob := by
 obtain ⟨g', t', cs, fuel, p, hg', ht', hvar, hd⟩ := h
 obtain rfl := Option.some.inj (hg.symm.trans hg')
 obtain rfl := Option.some.inj (hty.symm.trans ht')
 have hc := cells_of_tab ht he hce hct hd
 obtain ⟨T, fr, hh⟩ := heap_of_var hg hvar
 have : cs = (zs.map fun z => Value.int k z).toArray := by rw [← hc]
 exact ⟨_, hh, T, fr, by rw [this]⟩
theorem glob_err {n nm : String} {d : DataW Unit} {g : Nat} {t : TypeId} {ms : Array (String × TypeId)} (h : VarReads P W n (.iface nm d)) (hg : P.globalNamed n = some g) (hty : (P.globals[g]?).map (·.type) = some t)
 (ht : P.underlying t = some (.interface ms)) : ∃ ob, W.heap[g]? = some ob ∧ errP ob := by
 obtain ⟨g', t', cs, fuel, p, hg', ht', hvar, hd⟩ := h
 obtain rfl := Option.some.inj (hg.symm.trans hg')
 obtain rfl := Option.some.inj (hty.symm.trans ht')
 obtain ⟨_, u, v, hc, _⟩ := iface_of_trod ht hd
 obtain ⟨T, fr, hh⟩ := heap_of_var hg hvar
 have : cs = #[.iface u v] := by
  apply Array.ext'
  exact hc
 exact ⟨_, hh, u, v, T, fr, by rw [this]⟩
theorem glob_num {g : Nat} (h : ∃ m, W.cell? ⟨g, 0, none⟩ = some (.int .i64 m)) : ∃ ob, W.heap[g]? = some ob ∧ numP ob := by
 obtain ⟨m, hm⟩ := h
 unfold World.cell? at hm
 split at hm
 · rename_i c t fr hh
   exact ⟨_, hh, m, c, t, fr, rfl, by simpa using hm⟩
 · cases hm
def flatW : DataW Unit → List Value
 | .lit l => [l.value]
 | .agg ds => flatL ds
 | _ => []
where flatL : List (DataW Unit) → List Value
 | [] => []
 | d :: r => flatW d ++ flatL r
def elemsW : DataW Unit → List (DataW Unit)
 | .slice l _ => l
 | _ => []
def ptrW : DataW Unit → DataW Unit
 | .iface _ (.ptr d) => d
 | d => d
def putG (h : Array Obj) (g : Nat) (cs : List Value) : Array Obj := h.modify g fun
 | .cells _ t frozen => .cells cs.toArray t frozen
 | o => o
end
end Go.Ev
namespace Go.Ev
open Go.RowKit
section
variable {P : Program} {X : Cfg} {W : World}
def errOk : Err → Bool
 | .nil => true
 | .fault _ _ _ => true
 | _ => false
def errCode : Err → Int
 | .fault c _ _ => c
 | _ => 0
def errAt : Err → Int
 | .fault _ p _ => p
 | _ => -1
def codeF : List D → Option D
 | [.err e] => match errOk e with
  | true => some (.int .i64 (errCode e))
  | false => none
 | _ => none
def atF : List D → Option D
 | [.err e] => match errOk e with
  | true => some (.int .i64 (errAt e))
  | false => none
 | _ => none
def codeG : List D → Option (Bool × D)
 | [.err e] => some (errOk e, .int .i64 (errCode e))
 | _ => none
def atG : List D → Option (Bool × D)
 | [.err e] => some (errOk e, .int .i64 (errAt e))
 | _ => none
theorem codeG_of (args : List D) (p : Bool × D) (h : codeG args = some p) (hp : p.1 = true) : codeF args = some p.2 := by
 unfold codeG at h
 split at h
 · rename_i e
   cases h
   have hp : errOk e = true := hp
   simp [codeF, hp]
 · cases h
theorem atG_of (args : List D) (p : Bool × D) (h : atG args = some p) (hp : p.1 = true) : atF args = some p.2 := by
 unfold atG at h
 split at h
 · rename_i e
   cases h
   have hp : errOk e = true := hp
   simp [atF, hp]
 · cases h
def handP (u G t : Nat) (ob : Obj) : Prop := ∃ T fr, ob = .cells #[.iface u (.agg #[.pointer (some ⟨G, t, none⟩)])] T fr
theorem first_ok {f : FuncId} {fn : Func} (hf : P.funcs[f]? = some fn) (hen : enters fn = true) {b u G t : Nat} (hm : (b, handP u G t) ∈ X.glob) {F : List D → Option D} {v : Err → Int} {n0 : Int} {k : Nat}
 (hF : F = fun
  | [.err e] => match errOk e with
   | true => some (.int .i64 (v e))
   | false => none
  | _ => none)
 (h0 : v .nil = n0 ∧ InR .i64 n0) (h1 : ∀ c p uu, (k = 0 ∧ v (.fault c p uu) = c) ∨ (k = 1 ∧ v (.fault c p uu) = p))
 (hnil : ∀ w : World, Calls P f #[.nilIface] w fun e w' => e = .returned (.int .i64 n0) ∧ Below w.heap.size w w')
 (hhit : ∀ (bb off : Nat) (c : Int) (w : World), w.cell? ⟨b, 0, none⟩ = some (.iface u (.agg #[.pointer (some ⟨G, t, none⟩)])) → w.cell? ⟨bb, off + k, none⟩ = some (.int .i64 c) →
  Calls P f #[.iface X.tf (.pointer (some ⟨bb, off, none⟩))] w fun e w' => e = .returned (.int .i64 c) ∧ Below w.heap.size w w') : ConOk P X f (conExt F) := by
 refine conExt_calls2 hf hen fun g w sto args vals d hd hs => ?_
 subst hF
 dsimp only at hd
 split at hd
 · rename_i e
   have hl := hs.len
   match vals, hl with
   | [v1], _ =>
    have hr := hs.rep 0 (.err e) v1 rfl rfl
    have hg : w.cell? ⟨b, 0, none⟩ = some (.iface u (.agg #[.pointer (some ⟨G, t, none⟩)])) := by
     obtain ⟨_, ob, ho, T, fr, rfl⟩ := hs.glob b _ hm
     simp only [World.cell?, ho]; rfl
    split at hd
    · rename_i hok
      cases hd
      refine ⟨rfl, ?_⟩
      cases e with
      | nil =>
       cases hr
       refine (hnil w).mono ?_
       rintro e w' ⟨rfl, hb⟩
       rw [h0.1]
       exact ⟨_, rfl, hb, .int h0.2⟩
      | fault c p uu =>
       cases hr with
       | @errFault bb off _ _ _ _ hp a0 a1 a2 hc ha hu =>
        rcases h1 c p uu with ⟨rfl, e1⟩ | ⟨rfl, e1⟩
        · refine (hhit bb off c w hg a0).mono ?_
          rintro e w' ⟨rfl, hb⟩
          rw [e1]
          exact ⟨_, rfl, hb, .int hc⟩
        · refine (hhit bb off p w hg a1).mono ?_
          rintro e w' ⟨rfl, hb⟩
          rw [e1]
          exact ⟨_, rfl, hb, .int ha⟩
      | _ => cases hok
    · cases hd
 · cases hd
theorem code_ok {f : FuncId} {fn : Func} (hf : P.funcs[f]? = some fn) (hen : enters fn = true) {b u G t : Nat} (hm : (b, handP u G t) ∈ X.glob)
 (hnil : ∀ w : World, Calls P f #[.nilIface] w fun e w' => e = .returned (.int .i64 0) ∧ Below w.heap.size w w')
 (hhit : ∀ (bb off : Nat) (c : Int) (w : World), w.cell? ⟨b, 0, none⟩ = some (.iface u (.agg #[.pointer (some ⟨G, t, none⟩)])) → w.cell? ⟨bb, off, none⟩ = some (.int .i64 c) →
  Calls P f #[.iface X.tf (.pointer (some ⟨bb, off, none⟩))] w fun e w' => e = .returned (.int .i64 c) ∧ Below w.heap.size w w') : ConOk P X f (conExt codeF) :=
 first_ok hf hen hm (v := errCode) (k := 0) (by funext l; unfold codeF; rfl) ⟨rfl, ⟨by decide, by decide⟩⟩ (fun _ _ _ => .inl ⟨rfl, rfl⟩) hnil (fun bb off c w h1 h2 => hhit bb off c w h1 h2)
theorem at_ok {f : FuncId} {fn : Func} (hf : P.funcs[f]? = some fn) (hen : enters fn = true) {b u G t : Nat} (hm : (b, handP u G t) ∈ X.glob)
 (hnil : ∀ w : World, Calls P f #[.nilIface] w fun e w' => e = .returned (.int .i64 (-1)) ∧ Below w.heap.size w w')
 (hhit : ∀ (bb off : Nat) (c : Int) (w : World), w.cell? ⟨b, 0, none⟩ = some (.iface u (.agg #[.pointer (some ⟨G, t, none⟩)])) → w.cell? ⟨bb, off + 1, none⟩ = some (.int .i64 c) →
  Calls P f #[.iface X.tf (.pointer (some ⟨bb, off, none⟩))] w fun e w' => e = .returned (.int .i64 c) ∧ Below w.heap.size w w') : ConOk P X f (conExt atF) :=
 first_ok hf hen hm (v := errAt) (k := 1) (by funext l; unfold atF; rfl) ⟨rfl, ⟨by decide, by decide⟩⟩ (fun _ _ _ => .inr ⟨rfl, rfl⟩) hnil hhit
theorem glob_hand {laid : List (String × DataW Unit)} {n : String} {s : List UInt8} {d : DataW Unit} {g u t G : Nat} (h : laidMetH P laid W) (hm : (n, d) ∈ laid) (hd : d.handleName? = some s) (hfi : d.funcsIn?.isNone = true)
 (hg : P.globalNamed n = some g) (hu : (P.cutTypes.find? (·.1 == "internal/reflectlite.rtype")).map (·.2) = some u)
 (ht : ((List.range P.types.size).all fun i => !P.rowNamed i s || Nat.beq i t) = true) (hG : P.globals.size = G) : ∃ ob, W.heap[g]? = some ob ∧ handP u G t ob := by
 obtain ⟨_, h2⟩ := laidMetH_iff.1 h
 have hx := h2 (n, d) (List.mem_filter.2 ⟨hm, by simp [hd]⟩)
 rw [show (n, d).2.funcsIn? = none from Option.isNone_iff_eq_none.1 hfi] at hx
 obtain ⟨name, u', ty, e1, e2, e3, e4, e5⟩ := hx
 dsimp only at e1 e5
 rw [hd] at e1; cases e1
 rw [hu] at e2; cases e2
 have := List.all_eq_true.1 ht ty (List.mem_range.2 e3)
 rw [e4] at this
 have hty : ty = t := Nat.eq_of_beq_eq_true (by simpa using this)
 subst hty
 obtain ⟨T, fr, hh⟩ := heap_of_var hg e5
 refine ⟨_, hh, T, fr, ?_⟩
 subst hG
 rfl
theorem mem_plain {laid : List (String × DataW Unit)} {x : String × DataW Unit} (h : x ∈ laid) (hx : x.2.handleName?.isNone = true) : x ∈ laid.filter fun x => x.2.handleName?.isNone := List.mem_filter.2 ⟨h, hx⟩
theorem laidMet_lay {w0 w' : World} {laid : List (String × DataW Unit)} (hh : w'.heap = (w0.layVars P laid).heap) (hf : w0.layFits P laid [] = true) (hi : w0.layIfaces P laid (w0.layVars P laid) = true) : laidMet P laid w' := by
 have e1 : (laid.filter fun x => (laid.map (·.1)).contains x.1) = laid := List.filter_eq_self.2 fun x hx => List.contains_iff_mem.2 (List.mem_map.2 ⟨x, hx, rfl⟩)
 have e2 : (laid.filter fun x => !(laid.map (·.1)).contains x.1) = [] := List.filter_eq_nil_iff.2 fun x hx => by rw [List.contains_iff_mem.2 (List.mem_map.2 ⟨x, hx, rfl⟩)]; simp
 have h : laidMet P laid (w0.layVars P laid) := laidMet_layVars (w0 := w0) (laid.map (·.1)) [] (by rw [e1]) (by rw [e1]; exact hf) (by rw [e1]; exact hi) (by rw [e2]; exact LaidIn.none)
 exact h.of_heap hh.symm
end
end Go.Ev
namespace Go.Ev
section
variable {P : Program} {X : Cfg}
def add64F : List D → Option D
 | [.int .u64 x, .int .u64 y, .int .u64 c] => match decide (0 ≤ c ∧ c ≤ 1) with
  | true => some (.tup [.int .u64 ((x + y + c) % 18446744073709551616), .int .u64 ((x + y + c) / 18446744073709551616)])
  | false => none
 | _ => none
theorem add64_ok {f : FuncId} {fn : Func} (hf : P.funcs[f]? = some fn) (hb : fn.body.isNone = true) (hn : (fn.name == "runtime.NumGoroutine") = false)
 (hx : Extern.findNext fn = none) (he : Extern.find fn = some add64Entry) : ConOk P X f (conExt add64F) := by
 refine conExt_ok fun g w sto args vals d hd hs => ?_
 unfold add64F at hd
 split at hd
 · rename_i x y c
   split at hd
   · rename_i hc
     have hc := of_decide_eq_true hc
     cases hd
     have hlen := hs.len
     match vals, hlen with
     | [v1, v2, v3], _ =>
      have h1 := hs.rep 0 (.int .u64 x) v1 rfl rfl
      have h2 := hs.rep 1 (.int .u64 y) v2 rfl rfl
      have h3 := hs.rep 2 (.int .u64 c) v3 rfl rfl
      obtain ⟨rfl, i1⟩ := rep_int h1
      obtain ⟨rfl, i2⟩ := rep_int h2
      obtain ⟨rfl, i3⟩ := rep_int h3
      have h6 : Ev.lo .u64 = 0 := by decide
      have h7 : Ev.hi .u64 = 18446744073709551615 := by decide
      unfold InR at i1 i2
      rw [h6, h7] at i1 i2
      refine ⟨rfl, .tuple #[.int .u64 ((x + y + c) % 18446744073709551616), .int .u64 ((x + y + c) / 18446744073709551616)], ?_, ?_⟩
      · show (callFunc f #[.int .u64 x, .int .u64 y, .int .u64 c]).run P w = _
        rw [run_callFunc_extern hf hn hb hx he, run_add64 x y c i1.1 i2.1 hc.1 hc.2]
        rfl
      · refine .tup rfl fun j d' hj => ?_
        match j with
        | 0 => cases hj; exact .int (by unfold InR; rw [h6, h7]; omega)
        | 1 => cases hj; exact .int (by unfold InR; rw [h6, h7]; omega)
        | j + 2 => simp at hj
   · cases hd
 · cases hd
def add64G : List D → Option (Bool × D)
 | [.int .u64 x, .int .u64 y, .int .u64 c] => some (decide (0 ≤ c ∧ c ≤ 1), .tup [.int .u64 ((x + y + c) % 18446744073709551616), .int .u64 ((x + y + c) / 18446744073709551616)])
 | _ => none
theorem add64G_of : ∀ args p, add64G args = some p → p.1 = true → add64F args = some p.2 := by
 intro args p h1 h2
 unfold add64G at h1
 split at h1
 · cases h1
   unfold add64F
   simp only at h2
   simp only [h2]
 · cases h1
end
end Go.Ev
namespace Go.Ev
section
variable {P : Program} {X : Cfg}
class Fuel where
 n : Nat
theorem conFn_zero {f : FuncId} {src : List Src} {sh : List Sh} {ac : SCode} {rs : SC} {rows : List (List LC)} {F : ac.den → Option (SCode.den ⟨[rs], rows⟩)} (h : ∀ x, F x = none) : ConOk P X f (conFn src sh ac rs rows F) := by
 intro R args sto K r g w vals hK hs
 unfold conFn at hK
 split at hK
 · rw [h] at hK; cases hK
 · cases hK
theorem conCalm_zero {f : FuncId} {src : List Src} {sh : List Sh} {ac : SCode} {rs : SC} {F : ac.den → Option (denE [rs] Unit)} (h : ∀ x, F x = none) : ConOk P X f (conCalm src sh ac rs F) := by
 intro R args sto K r g w vals hK hs
 unfold conCalm at hK
 split at hK
 · rw [h] at hK; cases hK
 · cases hK
end
end Go.Ev
